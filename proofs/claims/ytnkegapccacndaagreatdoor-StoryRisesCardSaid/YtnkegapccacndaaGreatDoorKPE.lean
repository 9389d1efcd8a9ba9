/-
  What is proved, part by part: what story.Versions comes to. what story.At comes to. what rainbooklaw.told comes to. versions, and what was there at one: what the program's functions come to, in plain words; the closed fact on versions. versions of a world that came about from the new one: they only grow; what is there at one, by what its record says. a script played from the new world on: if at each moment the answer is yes, it is. what rainbooklaw.StoryReaders$1 comes to. what rainbooklaw.played comes to. what rainbooklaw.StoryReaders comes to. each reader sees what was there at its version: the law's body is true, in plain words. what slices.Index[[]api.Point,api.Point] comes to. what slices.Contains[[]api.Point,api.Point] comes to. what rainbooklaw.StoryRises$1 comes to. what rainbooklaw.played comes to. what rainbooklaw.StoryRises comes to. at each version the points rise, and nothing comes ahead of what was the last one: the law's body is true, in plain words. what a law is handed is no larger than memory. a world that a law is handed is no larger than memory; its bytes are bytes. what the rows list of package-level variables is what the library's functions ask. Conditions: none.
-/
import Derived.Test.YtnkegapccacndaaGreatDoorKPA
import Derived.Test.YtnkegapccacndaaGreatDoorKPC
import Derived.Test.YtnkegapccacndaaGreatDoorKPB
import Derived.Test.YtnkegapccacndaaGreatDoorKPD
import Derived.Test.YtnkegapccacndaaGreatDoorKED
import Derived.Test.YtnkegapccacndaaGreatDoorProg
import Derived.KernelRfl
import Derived.Test.YtnkegapccacndaaGreatDoorRows
set_option linter.unusedVariables false
set_option linter.unusedSimpArgs false
set_option linter.unnecessarySimpa false
set_option maxRecDepth 4000
namespace Go.Proofs.Y
open Go.Rb Go.Kx
noncomputable def C_story_Versions : Code := bodyOf Tryz.f42
noncomputable def G_story_Versions : FuncId → Option GS := tabG [(24, R_world_Check), (34, R_disk_Recover)]
theorem g_story_Versions : ΓOK Tryz.prog G_story_Versions := ΓOK_cons (R_world_Check_ok) (ΓOK_cons (R_disk_Recover_ok) (ΓOK_nil))
def H_story_Versions : HT := ⟨tabL [], tabH []⟩
abbrev is_story_Versions : List IT := [.v (.cons (.sl 95 (.cons (.sl 126 (.cons (.int .i64) (.cons (.int .i64) (.cons (.int .i64) (.one (.sl 4 (.one .bool))))))) (.one (.sl 73 (.cons (.int .i64) (.one (.int .i64))))))) (.cons (.sl 5 (.one (.int .u8))) (.cons (.sl 5 (.one (.int .u8))) (.cons (.bool) (.one (.sl 3 (.one (.int .i64)))))))) true]
abbrev os_story_Versions : List OT := [⟨.one (.int .i64), false, []⟩, ⟨.one (.int .i64), false, []⟩]
set_option maxRecDepth 100000
noncomputable def F_story_Versions : List (List (Int × Int × Int × List Bool) × List (Int × Int)) × List Int × List Int × Bool × List Int → Option (Int × Int) := fun (a : List (List (Int × Int × Int × List Bool) × List (Int × Int)) × List Int × List Int × Bool × List Int) => bindO (F_world_Check (a.1, a.2.1, a.2.2.1, a.2.2.2.1, a.2.2.2.2)) fun (y : Int) => ifB (neI y 0) (some (0, y)) (bindO (F_disk_Recover (a.2.1, a.2.2.1)) fun (y : (List Int × List Int) × List (Int × Int × Int × List (Int × Int × Int)) × Int) => some (lenI y.2.1, 0))
theorem F_story_Versions_eq (x : PI is_story_Versions) : F_story_Versions x = fnE T G_story_Versions H_story_Versions C_story_Versions (resOf Tryz.f42) is_story_Versions os_story_Versions x := by kernel_rfl
noncomputable abbrev R_story_Versions : GS := mkSpec false is_story_Versions os_story_Versions fun x => F_story_Versions x
theorem R_story_Versions_ok : GSOK Tryz.prog 42 R_story_Versions := spec_ok tok g_story_Versions fmo (Ht := H_story_Versions) (fn := Tryz.f42) (Tryz.func42) (c := C_story_Versions) (by kernel_rfl) (by kernel_rfl) (by kernel_rfl) (by decide +kernel) (by decide) F_story_Versions_eq
end Go.Proofs.Y
namespace Go.Proofs.Y
open Go.Rb Go.Kx
noncomputable def C_story_At : Code := bodyOf Tryz.f43
noncomputable def G_story_At : FuncId → Option GS := tabG [(24, R_world_Check), (34, R_disk_Recover), (28, R_store_Replay), (48, R_shelf_All)]
theorem g_story_At : ΓOK Tryz.prog G_story_At := ΓOK_cons (R_world_Check_ok) (ΓOK_cons (R_disk_Recover_ok) (ΓOK_cons (R_store_Replay_ok) (ΓOK_cons (R_shelf_All_ok) (ΓOK_nil))))
def H_story_At : HT := ⟨tabL [], tabH []⟩
abbrev is_story_At : List IT := [.v (.cons (.sl 95 (.cons (.sl 126 (.cons (.int .i64) (.cons (.int .i64) (.cons (.int .i64) (.one (.sl 4 (.one .bool))))))) (.one (.sl 73 (.cons (.int .i64) (.one (.int .i64))))))) (.cons (.sl 5 (.one (.int .u8))) (.cons (.sl 5 (.one (.int .u8))) (.cons (.bool) (.one (.sl 3 (.one (.int .i64)))))))) true, .v (.one (.int .i64)) false, .v (.one (.int .i64)) false]
abbrev os_story_At : List OT := [⟨.one (.sl 73 (.cons (.int .i64) (.one (.int .i64)))), false, []⟩, ⟨.one (.int .i64), false, []⟩]
set_option maxRecDepth 100000
noncomputable def F_story_At : List (List (Int × Int × Int × List Bool) × List (Int × Int)) × List Int × List Int × Bool × List Int → Int → Int → Option (List (Int × Int) × Int) := fun (a : List (List (Int × Int × Int × List Bool) × List (Int × Int)) × List Int × List Int × Bool × List Int) (b c : Int) => bindO (F_world_Check (a.1, a.2.1, a.2.2.1, a.2.2.2.1, a.2.2.2.2)) fun (y : Int) => ifB (neI y 0) (some ([], y)) (bindO (F_disk_Recover (a.2.1, a.2.2.1)) fun (y : (List Int × List Int) × List (Int × Int × Int × List (Int × Int × Int)) × Int) => ifB (ltI b 0) (some ([], 7)) (ifB (gtI b (lenI y.2.1)) (some ([], 7)) (ifB (in1 y.2.1 b) (bindO (F_store_Replay (takeI y.2.1 b)) fun (y : List (List (Int × Int × Int × List Bool) × List (Int × Int)) × Int) => ifB (neI y.2 0) (some ([], y.2)) (bindO (F_shelf_All y.1 c) fun (y : List (Int × Int) × Int) => some (y.1, y.2))) none)))
theorem F_story_At_eq (x : PI is_story_At) : F_story_At (x.1) (x.2.1) (x.2.2) = fnE T G_story_At H_story_At C_story_At (resOf Tryz.f43) is_story_At os_story_At x := by kernel_rfl
noncomputable abbrev R_story_At : GS := mkSpec false is_story_At os_story_At fun x => F_story_At (x.1) (x.2.1) (x.2.2)
theorem R_story_At_ok : GSOK Tryz.prog 43 R_story_At := spec_ok tok g_story_At fmo (Ht := H_story_At) (fn := Tryz.f43) (Tryz.func43) (c := C_story_At) (by kernel_rfl) (by kernel_rfl) (by kernel_rfl) (by decide +kernel) (by decide) F_story_At_eq
end Go.Proofs.Y
namespace Go.Proofs.Y
open Go.Rb Go.Kx
noncomputable def C_rainbooklaw_told : Code := bodyOf Tryz.f39
noncomputable def G_rainbooklaw_told : FuncId → Option GS := tabG [(26, R_world_New), (17, R_world_Run), (42, R_story_Versions), (43, R_story_At)]
theorem g_rainbooklaw_told : ΓOK Tryz.prog G_rainbooklaw_told := ΓOK_cons (R_world_New_ok) (ΓOK_cons (R_world_Run_ok) (ΓOK_cons (R_story_Versions_ok) (ΓOK_cons (R_story_At_ok) (ΓOK_nil))))
def H_rainbooklaw_told : HT := ⟨tabL [], tabH []⟩
abbrev is_rainbooklaw_told : List IT := []
abbrev os_rainbooklaw_told : List OT := [⟨.one .bool, false, []⟩]
set_option maxRecDepth 100000
noncomputable def F_rainbooklaw_told : Option Bool :=  bindO F_world_New fun (y : List (List (Int × Int × Int × List Bool) × List (Int × Int)) × List Int × List Int × Bool × List Int) => bindO (F_world_Run (y.1, y.2.1, y.2.2.1, y.2.2.2.1, y.2.2.2.2) [(1, 0, 0, [(0, 5, 0), (0, 6, 0)]), (2, 0, 2, []), (4, 0, 9, [])]) fun (y : (List (List (Int × Int × Int × List Bool) × List (Int × Int)) × List Int × List Int × Bool × List Int) × List Int × Int) => bindO (F_story_Versions (y.1.1, y.1.2.1, y.1.2.2.1, y.1.2.2.2.1, y.1.2.2.2.2)) fun (y_1 : Int × Int) => bindO (F_story_At (y.1.1, y.1.2.1, y.1.2.2.1, y.1.2.2.2.1, y.1.2.2.2.2) 2 0) fun (y_2 : List (Int × Int) × Int) => bindO (F_story_At (y.1.1, y.1.2.1, y.1.2.2.1, y.1.2.2.2.1, y.1.2.2.2.2) 3 0) fun (y_3 : List (Int × Int) × Int) => bindO (F_story_At (y.1.1, y.1.2.1, y.1.2.2.1, y.1.2.2.2.1, y.1.2.2.2.2) 4 0) fun (y_4 : List (Int × Int) × Int) => ifB (eqI y.2.2 0) (ifB (eqI y_1.2 0) (ifB (eqI y_2.2 0) (ifB (eqI y_3.2 0) (ifB (eqI y_4.2 7) (ifB (eqI y_1.1 3) (ifB (eqI (lenI y_2.1) 2) (some (eqI (lenI y_3.1) 0)) (some false)) (some false)) (some false)) (some false)) (some false)) (some false)) (some false)
theorem F_rainbooklaw_told_eq (x : PI is_rainbooklaw_told) : F_rainbooklaw_told  = fnE T G_rainbooklaw_told H_rainbooklaw_told C_rainbooklaw_told (resOf Tryz.f39) is_rainbooklaw_told os_rainbooklaw_told x := by kernel_rfl
noncomputable abbrev R_rainbooklaw_told : GS := mkSpec false is_rainbooklaw_told os_rainbooklaw_told fun x => F_rainbooklaw_told 
theorem R_rainbooklaw_told_ok : GSOK Tryz.prog 39 R_rainbooklaw_told := spec_ok tok g_rainbooklaw_told fmo (Ht := H_rainbooklaw_told) (fn := Tryz.f39) (Tryz.func39) (c := C_rainbooklaw_told) (by kernel_rfl) (by kernel_rfl) (by kernel_rfl) (by decide +kernel) (by decide) F_rainbooklaw_told_eq
end Go.Proofs.Y
namespace Go.Proofs.Y
open Go.Rb Go.Kx
theorem versions_eq (w : Wd) (h1 : w.2.1.1.length < 4611686018427387904) (h2 : w.2.1.2.length < 4611686018427387904) (hrd : w.2.2.2.length < 4611686018427387904) : F_story_Versions (wvd w) = some (verP w) := by
  unfold F_story_Versions
  refine (bind_of (worldCheck_eq w.1 w.2.1 w.2.2.1 w.2.2.2 h1 h2 hrd) _).trans ?_
  rw [ifB_neI]
  unfold verP
  by_cases hc : okc w = 0
  · rw [if_pos hc, if_pos hc]
    refine (bind_of (dRecover_eq w.2.1 h1 h2) _).trans ?_
    rw [lenI_eq]
  · rw [if_neg hc, if_neg hc]
theorem sat_eq (w : Wd) (v i : Int) (h1 : w.2.1.1.length < 4611686018427387904) (h2 : w.2.1.2.length < 4611686018427387904) (hrd : w.2.2.2.length < 4611686018427387904) : F_story_At (wvd w) v i = some (atP w v i) := by
  unfold F_story_At
  refine (bind_of (worldCheck_eq w.1 w.2.1 w.2.2.1 w.2.2.2 h1 h2 hrd) _).trans ?_
  rw [ifB_neI]
  unfold atP
  by_cases hc : okc w = 0
  · obtain ⟨_, o4, _⟩ := chkW_zero hc
    have hrec := recs_ok w.2.1
    have hrl := recs_len w.2.1 o4
    rw [if_pos hc, if_pos hc]
    refine (bind_of (dRecover_eq w.2.1 h1 h2) _).trans ?_
    simp only
    rw [ifB_ltI, ifB_gtI, lenI_eq]
    by_cases c1 : v < 0
    · rw [if_pos c1, if_pos (.inl c1)]
    rw [if_neg c1]
    by_cases c2 : ((dRecover w.2.1).2.1.length : Int) < v
    · rw [if_pos c2, if_pos (.inr c2)]
    rw [if_neg c2, if_neg (by rintro (h | h); exact c1 h; exact c2 h), ifB_in1, if_pos ⟨by omega, by omega⟩, takeI_eq, replay_eq _ (by rw [List.length_take]; omega) (fun r hr => small_rec (hrec r (List.mem_of_mem_take hr))), bindO_some, ifB_neI]
    by_cases c3 : (replayR ((dRecover w.2.1).2.1.take v.toNat)).2 = 0
    · rw [if_pos c3, if_pos c3, allS_eq _ _ (replayR_okS _), bindO_some]
    · rw [if_neg c3, if_neg c3]
  · rw [if_neg hc, if_neg hc]
def l3 : List Hp := [(1, 0, 0, [(0, 5, 0), (0, 6, 0)]), (2, 0, 2, []), (4, 0, 9, [])]
def wT : Wd := (runP l3 w0 []).1
theorem chkT : okc wT = 0 := by decide +kernel
theorem said3 : (runP l3 w0 []).2 = [0, 0, 0] := by decide +kernel
theorem run3 : F_world_Run (wvd w0) l3 = some (wvd wT, [0, 0, 0], 0) := by
  rw [run_eq w0 l3 (by decide) (by decide) (by decide) (by decide), if_pos chk0, if_neg (by decide), said3]; rfl
theorem verT : verP wT = (3, 0) := by decide +kernel
theorem atT2 : (atP wT 2 0).2 = 0 ∧ (atP wT 2 0).1.length = 2 := by decide +kernel
theorem atT3 : (atP wT 3 0).2 = 0 ∧ (atP wT 3 0).1.length = 0 := by decide +kernel
theorem atT4 : (atP wT 4 0).2 = 7 := by decide +kernel
theorem told_eq : F_rainbooklaw_told = some true := by
  obtain ⟨a1, a2, _⟩ := okc_len chkT
  have b1 : wT.2.1.1.length < 4611686018427387904 := by omega
  have b2 : wT.2.1.2.length < 4611686018427387904 := by omega
  have b3 : wT.2.2.2.length < 4611686018427387904 := by omega
  unfold F_rainbooklaw_told
  refine (bind_of new_world _).trans ?_
  refine (bind_of run3 _).trans ?_
  refine (bind_of (versions_eq wT b1 b2 b3) _).trans ?_
  refine (bind_of (sat_eq wT 2 0 b1 b2 b3) _).trans ?_
  refine (bind_of (sat_eq wT 3 0 b1 b2 b3) _).trans ?_
  refine (bind_of (sat_eq wT 4 0 b1 b2 b3) _).trans ?_
  simp only [verT, atT2.1, atT2.2, atT3.1, atT3.2, atT4, lenI_eq, ifB_eqI, if_true]
  rfl
end Go.Proofs.Y
namespace Go.Proofs.Y
open Go.Rb Go.Kx
def Inv (w : Wd) : Prop := okc w = 0 ∧ (replayR (recsW w)).2 = 0
theorem inv_new : Inv w0 := ⟨chk0, by decide +kernel⟩
theorem inv_len {w : Wd} (h : Inv w) : (recsW w).length ≤ 60 := (replayR_len h.2).1
theorem replay_take {L : List Rc} (h : (replayR L).2 = 0) (k : Nat) : (replayR (L.take k)).2 = 0 := by
  have h60 := (replayR_len h).1
  have e1 : replayR L = replayS freshS L := by unfold replayR; rw [if_neg (by omega)]
  have e2 : replayR (L.take k) = replayS freshS (L.take k) := by unfold replayR; rw [if_neg (by rw [List.length_take]; omega)]
  rw [e2]
  refine (replayS_app (L.drop k) (L.take k) freshS ?_).1
  rw [List.take_append_drop, ← e1]; exact h
theorem inv_hap {w : Wd} {x : Hp} (h : Inv w) (he : (hapP w x).2 = 0) : Inv (hapP w x).1 ∧ (recsW (hapP w x).1 = recsW w ∨ ∃ r, recsW (hapP w x).1 = recsW w ++ [r]) := by
  have hk := hapP_keeps h.1 he
  obtain ⟨s, d, up, rd⟩ := w
  cases up with
  | true =>
    obtain ⟨L, rfl, hL, h1, h2, h3, h4⟩ := up_of h.1
    obtain ⟨a1, _, a3⟩ := replayR_len h1
    have eL : recsW (s, (textL L, []), true, rd) = L := hL
    rw [eL]
    rcases hap_up h1 h2 h3 he with ⟨r, _, g1, g2, g3, g4⟩ | ⟨v, g1, _⟩ | ⟨_, g1⟩ | ⟨_, r, k, g1, g2, g3, g4⟩
    · have e : recsW (hapP (s, (textL L, []), true, rd) x).1 = L ++ [r] := by
        rw [g1]
        obtain ⟨b1, _, b3⟩ := replayR_len g3
        show (dRecover (textL (L ++ [r]), [])).2.1 = _
        rw [(rec_text b3 b1).2]
      exact ⟨⟨hk, by rw [e]; exact g3⟩, .inr ⟨r, e⟩⟩
    · have e : recsW (hapP (s, (textL L, []), true, rd) x).1 = L := by rw [g1]; exact hL
      exact ⟨⟨hk, by rw [e]; exact h1⟩, .inl e⟩
    · have e : recsW (hapP (s, (textL L, []), true, rd) x).1 = L := by rw [g1]; exact hL
      exact ⟨⟨hk, by rw [e]; exact h1⟩, .inl e⟩
    · have hlp : (lnP 60 (textL L)).1 = L := by rw [lnP_whole a3 (by omega)]
      rcases torn_disk (s := textL L) (r := r) (k := k) g2 g4 with hR | ⟨hn, hR⟩
      · have e : recsW (hapP (s, (textL L, []), true, rd) x).1 = L := by
          rw [g1]
          show (dRecover (textL L, (lineT r).take k)).2.1 = _
          rw [hR, hlp]
        exact ⟨⟨hk, by rw [e]; exact h1⟩, .inl e⟩
      · have e : recsW (hapP (s, (textL L, []), true, rd) x).1 = L ++ [r] := by
          rw [g1]
          show (dRecover (textL L, (lineT r).take k)).2.1 = _
          rw [hR, hlp]
        rw [hlp] at hn
        exact ⟨⟨hk, by rw [e]; exact (replay_one h1 hn (by rw [h2]; exact g3)).1⟩, .inr ⟨r, e⟩⟩
  | false =>
    obtain ⟨rfl, rfl, hd⟩ := down_of h.1
    obtain ⟨_, g1, g2⟩ := hap_down hd he
    have e : recsW (hapP (freshS, d, false, [-1, -1, -1]) x).1 = (dRecover d).2.1 := by
      rw [g2]
      obtain ⟨b1, _, b3⟩ := replayR_len g1
      show (dRecover (textL (dRecover d).2.1, [])).2.1 = _
      rw [(rec_text b3 b1).2]
    exact ⟨⟨hk, by rw [e]; exact g1⟩, .inl e⟩
def ptsV (L : List Rc) (v : Nat) (i : Int) : List Pt := (allS (replayR (L.take v)).1 i).1
theorem at_inv {w : Wd} (h : Inv w) {v i : Int} (v0 : 0 ≤ v) (v1 : v ≤ (recsW w).length) (i0 : 0 ≤ i) (i1 : i < 4) : atP w v i = (ptsV (recsW w) v.toNat i, 0) := by
  have hr := replay_take h.2 v.toNat
  have hc := (replayR_len hr).2.1
  unfold atP
  rw [if_pos h.1, if_neg (by omega), if_pos hr]
  have := allS_of hc i0 i1
  exact Prod.ext rfl this
theorem ver_inv {w : Wd} (h : Inv w) : verP w = (((recsW w).length : Int), 0) := by unfold verP; rw [if_pos h.1]
theorem ptsV_ok {L : List Rc} (h : (replayR L).2 = 0) (v : Nat) {i : Int} (i0 : 0 ≤ i) (i1 : i < 4) : checkL (ptsV L v i) = 0 := by
  have hc := (replayR_len (replay_take h v)).2.1
  have e := allS_is hc i0 i1
  unfold ptsV
  rw [e]
  exact (allR_is (chkS_row hc (by omega))).2.2.1
theorem step_pts {L : List Rc} (h : (replayR L).2 = 0) {n : Nat} (hn : n < L.length) {i : Int} (i0 : 0 ≤ i) (i1 : i < 4) :
    ((L.getD n default).1 = 4 → (L.getD n default).2.2.2 = [] ∧ ∃ k, ptsV L (n + 1) i = (ptsV L n i).drop k ∧ k ≤ (ptsV L n i).length) ∧
    ((L.getD n default).1 ≠ 4 → ptsV L (n + 1) i = ptsV L n i ++ entP i (L.getD n default).2.2.2) := by
  have h60 := (replayR_len h).1
  have e1 : ∀ k, replayR (L.take k) = replayS freshS (L.take k) := fun k => by unfold replayR; rw [if_neg (by rw [List.length_take]; omega)]
  have hs := replay_take h (n + 1)
  have hn0 := replay_take h n
  have htk := take_next hn
  rw [e1, htk] at hs
  obtain ⟨q1, q2⟩ := replayS_app [L.getD n default] (L.take n) freshS hs
  generalize L.getD n default = r at *
  have q3 : (replayS (replayS freshS (L.take n)).1 [r]).2 = 0 := by rw [q2]; exact hs
  obtain ⟨p1, p2⟩ := replayS_cons (l := []) q3
  have e3 : (replayR (L.take (n + 1))).1 = (nextS (replayR (L.take n)).1 r).1 := by
    rw [e1 (n + 1), htk, ← q2, ← p2, e1 n]; rfl
  rw [← e1 n] at p1
  unfold ptsV
  rw [e3]
  generalize (replayR (L.take n)).1 = s at *
  obtain ⟨h1, h2, h3, _⟩ := nextS_ok p1
  obtain ⟨_, _, _, k4⟩ := chkRec_kind h2
  rw [h3] at p1 ⊢
  unfold doRec at p1 ⊢
  by_cases c1 : r.1 = 1
  · rw [if_pos c1] at p1 ⊢
    exact ⟨fun h => by omega, fun _ => (putS_ok p1).2.2.2 i i0 i1⟩
  · rw [if_neg c1] at p1 ⊢
    have e0 : entP i r.2.2.2 = [] := by rw [(k4 c1).1]; rfl
    rw [e0, List.append_nil]
    by_cases c2 : r.1 = 2
    · rw [if_pos c2] at p1 ⊢
      exact ⟨fun h => by omega, fun _ => by rw [(sealS_ok p1).2.2 i]⟩
    · rw [if_neg c2] at p1 ⊢
      by_cases c3 : r.1 = 3
      · rw [if_pos c3] at p1 ⊢
        exact ⟨fun h => by omega, fun _ => by rw [(mergeS_ok p1).2.2 i]⟩
      · rw [if_neg c3] at p1 ⊢
        obtain ⟨k, m1, m2, _⟩ := (dropS_ok p1).2.2.2 i i0 i1
        refine ⟨fun _ => ⟨(k4 c1).1, k, m1, m2⟩, fun h => ?_⟩
        obtain ⟨k1, k2, _⟩ := chkRec_kind h2
        omega
end Go.Proofs.Y
namespace Go.Proofs.Y
open Go.Rb Go.Kx
noncomputable def playF (B : Wv → Option (Sum (Int × Wv) Bool) → Option (Sum (Int × Wv) Bool)) (a : List Hp) : Option Bool :=
  bindO F_world_New fun (w : Wv) => ifB (in1 a (minI (lenI a) 60)) (loopN maxR (fun (x : Int × Wv) => ifB (ltI x.1 (lenI (takeI a (minI (lenI a) 60))))
    (bindO (atI (takeI a (minI (lenI a) 60)) x.1) fun (h : Hp) => bindO (F_world_Do x.2 h) fun (z : Wv × Int) => ifB (eqI z.2 0) (B z.1 (some (Sum.inl (wadd .i64 x.1 1, z.1)))) (some (Sum.inl (wadd .i64 x.1 1, x.2)))) (mapO Sum.inr (some true))) (0, w)) none
theorem part60 (a : List Hp) : ∃ l : List Hp, takeI a (minI (lenI a) 60) = l ∧ l.length ≤ 60 ∧ (∀ x ∈ l, x ∈ a) ∧ 0 ≤ minI (lenI a) 60 ∧ minI (lenI a) 60 ≤ a.length := by
  have hm : minI (lenI a) 60 = min (a.length : Int) 60 := by rw [lenI_eq]; rfl
  refine ⟨_, rfl, ?_, ?_, ?_, ?_⟩
  · rw [takeI_eq, hm, List.length_take]; omega
  · rw [takeI_eq]; exact fun x hx => List.mem_of_mem_take hx
  · rw [hm]; omega
  · rw [hm]; omega
theorem played_eq {B : Wv → Option (Sum (Int × Wv) Bool) → Option (Sum (Int × Wv) Bool)} (hB : ∀ v : Wd, Inv v → ∀ K, B (wvd v) K = K) (a : List Hp) (hx : ∀ x ∈ a, x.2.2.2.length < 4611686018427387904) : playF B a = some true := by
  unfold playF
  obtain ⟨l, e, hl, hm, m0, m1⟩ := part60 a
  rw [e, new_world, bindO_some, ifB_in1, if_pos ⟨m0, m1⟩]
  refine loop_range l (fun j (s : Wd) => ((j : Int), wvd s)) (G := fun _ _ => some true) (P := fun _ s => Inv s) (s0 := w0) ?_ ?_ inv_new (by omega)
  · rintro j v hj hv k hk
    have hat := atI_nat hj
    have hmem : l.getD j default ∈ l := by simp only [List.getD, List.getElem?_eq_getElem hj, Option.getD_some]; exact List.getElem_mem hj
    have hxx := hx _ (hm _ hmem)
    generalize l.getD j default = x at *
    simp only
    rw [stepK_ifB, ifB_ltI, lenI_eq, if_pos (by omega), hat, bindO_some, do_ok hv.1 hxx, bindO_some]
    by_cases he : (hapP v x).2 = 0
    · obtain ⟨hi, _⟩ := inv_hap hv he
      rw [if_pos he]
      simp only
      rw [ifB_eqI, if_pos rfl, hB _ hi, stepK_inl, wadd_nat (by omega)]
      exact hk _ hi
    · rw [if_neg he]
      simp only
      rw [ifB_eqI, if_neg he, stepK_inl, wadd_nat (by omega)]
      exact hk _ hv
  · rintro v hv k
    simp only
    rw [stepK_ifB, stepK_map, ifB_ltI, lenI_eq, if_neg (by omega)]
end Go.Proofs.Y
namespace Go.Proofs.Y
open Go.Rb Go.Kx
end Go.Proofs.Y
namespace Go.Proofs.Y
open Go.Rb Go.Kx
end Go.Proofs.Y
namespace Go.Proofs.Y
open Go.Rb Go.Kx
set_option maxRecDepth 100000
end Go.Proofs.Y
namespace Go.Proofs.Y
open Go.Rb Go.Kx
end Go.Proofs.Y
namespace Go.Proofs.Y
open Go.Rb Go.Kx
noncomputable def C_indexP : Code := bodyOf Tryz.f98
noncomputable def G_indexP : FuncId → Option GS := tabG []
theorem g_indexP : ΓOK Tryz.prog G_indexP := ΓOK_nil
def H_indexP : HT := ⟨tabL [(2, .it [] (dyn [.t 8 (.int .i64)]))], tabH []⟩
abbrev is_indexP : List IT := [.v (.one (.sl 73 (.cons (.int .i64) (.one (.int .i64))))) false, .v (.cons (.int .i64) (.one (.int .i64))) true]
abbrev os_indexP : List OT := [⟨.one (.int .i64), false, []⟩]
set_option maxRecDepth 100000
noncomputable def F_indexP : List (Int × Int) → Int × Int → Option Int := fun (a : List (Int × Int)) (b : Int × Int) => loopN maxR (fun (x : Int) => ifB (ltI x (lenI a)) (bindO (atI a x) fun (y : Int × Int) => ifB (eqL [b.1, b.2] [y.1, y.2]) (mapO Sum.inr (some x)) (some (Sum.inl (wadd .i64 x 1)))) (mapO Sum.inr (some (-1)))) 0
theorem F_indexP_eq (x : PI is_indexP) : F_indexP (x.1) (x.2) = fnE T G_indexP H_indexP C_indexP (resOf Tryz.f98) is_indexP os_indexP x := by kernel_rfl
noncomputable abbrev R_indexP : GS := mkSpec false is_indexP os_indexP fun x => F_indexP (x.1) (x.2)
theorem R_indexP_ok : GSOK Tryz.prog 98 R_indexP := spec_ok tok g_indexP fmo (Ht := H_indexP) (fn := Tryz.f98) (Tryz.func98) (c := C_indexP) (by kernel_rfl) (by kernel_rfl) (by kernel_rfl) (by decide +kernel) (by decide) F_indexP_eq
end Go.Proofs.Y
namespace Go.Proofs.Y
open Go.Rb Go.Kx
noncomputable def C_containsP : Code := bodyOf Tryz.f51
noncomputable def G_containsP : FuncId → Option GS := tabG [(98, R_indexP)]
theorem g_containsP : ΓOK Tryz.prog G_containsP := ΓOK_cons (R_indexP_ok) (ΓOK_nil)
def H_containsP : HT := ⟨tabL [], tabH []⟩
abbrev is_containsP : List IT := [.v (.one (.sl 73 (.cons (.int .i64) (.one (.int .i64))))) false, .v (.cons (.int .i64) (.one (.int .i64))) true]
abbrev os_containsP : List OT := [⟨.one .bool, false, []⟩]
set_option maxRecDepth 100000
noncomputable def F_containsP : List (Int × Int) → Int × Int → Option Bool := fun (a : List (Int × Int)) (b : Int × Int) => bindO (F_indexP a (b.1, b.2)) fun (y : Int) => some (geI y 0)
theorem F_containsP_eq (x : PI is_containsP) : F_containsP (x.1) (x.2) = fnE T G_containsP H_containsP C_containsP (resOf Tryz.f51) is_containsP os_containsP x := by kernel_rfl
noncomputable abbrev R_containsP : GS := mkSpec false is_containsP os_containsP fun x => F_containsP (x.1) (x.2)
theorem R_containsP_ok : GSOK Tryz.prog 51 R_containsP := spec_ok tok g_containsP fmo (Ht := H_containsP) (fn := Tryz.f51) (Tryz.func51) (c := C_containsP) (by kernel_rfl) (by kernel_rfl) (by kernel_rfl) (by decide +kernel) (by decide) F_containsP_eq
end Go.Proofs.Y
namespace Go.Proofs.Y
open Go.Rb Go.Kx
noncomputable def C_sRises : Code := bodyOf Tryz.f49
noncomputable def G_sRises : FuncId → Option GS := tabG [(42, R_story_Versions), (43, R_story_At), (50, R_line_Check), (51, R_containsP)]
theorem g_sRises : ΓOK Tryz.prog G_sRises := ΓOK_cons (R_story_Versions_ok) (ΓOK_cons (R_story_At_ok) (ΓOK_cons (R_line_Check_ok) (ΓOK_cons (R_containsP_ok) (ΓOK_nil))))
def H_sRises : HT := ⟨tabL [(13, .it [] (dyn [.t 48 (.int .i64)]))], tabH []⟩
noncomputable def I_sRises : GS := inl T G_sRises H_sRises C_sRises (resOf Tryz.f49) (Tryz.f49.ntmps)
theorem I_sRises_ok : GSOK Tryz.prog 49 I_sRises := inl_ok tok g_sRises fmo (Ht := H_sRises) (fn := Tryz.f49) (Tryz.func49) (c := C_sRises) (by kernel_rfl) (by kernel_rfl) (by kernel_rfl)
end Go.Proofs.Y
namespace Go.Proofs.Y
open Go.Rb Go.Kx
noncomputable def C_playedRises : Code := bodyOf Tryz.f40
noncomputable def G_playedRises : FuncId → Option GS := tabG [(26, R_world_New), (23, R_world_Do), (49, I_sRises)]
theorem g_playedRises : ΓOK Tryz.prog G_playedRises := ΓOK_cons (R_world_New_ok) (ΓOK_cons (R_world_Do_ok) (ΓOK_cons (I_sRises_ok) (ΓOK_nil)))
def H_playedRises : HT := ⟨tabL [(3, .it [] (dyn [.t 17 (.int .i64), .c 5 0 (.sl 95 (.cons (.sl 126 (.cons (.int .i64) (.cons (.int .i64) (.cons (.int .i64) (.one (.sl 4 (.one .bool))))))) (.one (.sl 73 (.cons (.int .i64) (.one (.int .i64))))))), .c 5 1 (.sl 5 (.one (.int .u8))), .c 5 2 (.sl 5 (.one (.int .u8))), .c 5 3 .bool, .c 5 4 (.sl 3 (.one (.int .i64)))]))], tabH []⟩
noncomputable def I_playedRises : GS := inl T G_playedRises H_playedRises C_playedRises (resOf Tryz.f40) (Tryz.f40.ntmps)
theorem I_playedRises_ok : GSOK Tryz.prog 40 I_playedRises := inl_ok tok g_playedRises fmo (Ht := H_playedRises) (fn := Tryz.f40) (Tryz.func40) (c := C_playedRises) (by kernel_rfl) (by kernel_rfl) (by kernel_rfl)
end Go.Proofs.Y
namespace Go.Proofs.Y
open Go.Rb Go.Kx
noncomputable def C_rainbooklaw_StoryRises : Code := bodyOf Tryz.f11
noncomputable def G_rainbooklaw_StoryRises : FuncId → Option GS := tabG [(30, R_rainbooklaw_at), (39, R_rainbooklaw_told), (49, I_sRises), (40, I_playedRises)]
theorem g_rainbooklaw_StoryRises : ΓOK Tryz.prog G_rainbooklaw_StoryRises := ΓOK_cons (R_rainbooklaw_at_ok) (ΓOK_cons (R_rainbooklaw_told_ok) (ΓOK_cons (I_sRises_ok) (ΓOK_cons (I_playedRises_ok) (ΓOK_nil))))
def H_rainbooklaw_StoryRises : HT := ⟨tabL [], tabH []⟩
abbrev is_rainbooklaw_StoryRises : List IT := [.v (.one (.sl 41 (.cons (.int .i64) (.cons (.int .i64) (.cons (.int .i64) (.one (.sl 77 (.cons (.int .i64) (.cons (.int .i64) (.one (.int .i64))))))))))) false, .v (.one (.int .i64)) false]
abbrev os_rainbooklaw_StoryRises : List OT := [⟨.one .bool, false, []⟩]
set_option maxRecDepth 100000
noncomputable def F_rainbooklaw_StoryRises : List (Int × Int × Int × List (Int × Int × Int)) → Int → Option Bool := fun (a : List (Int × Int × Int × List (Int × Int × Int))) (b : Int) => bindO (F_rainbooklaw_at b 4) fun (y : Int) => bindO F_rainbooklaw_told fun (y_1 : Bool) => ifB y_1 (bindO F_world_New fun (y_2 : List (List (Int × Int × Int × List Bool) × List (Int × Int)) × List Int × List Int × Bool × List Int) => ifB (in1 a (minI (lenI a) 60)) (loopN maxR (fun (x : Int × List (List (Int × Int × Int × List Bool) × List (Int × Int)) × List Int × List Int × Bool × List Int) => ifB (ltI x.1 (lenI (takeI a (minI (lenI a) 60)))) (bindO (atI (takeI a (minI (lenI a) 60)) x.1) fun (y_3 : Int × Int × Int × List (Int × Int × Int)) => bindO (F_world_Do (x.2.1, x.2.2.1, x.2.2.2.1, x.2.2.2.2.1, x.2.2.2.2.2) (y_3.1, y_3.2.1, y_3.2.2.1, y_3.2.2.2)) fun (y_4 : (List (List (Int × Int × Int × List Bool) × List (Int × Int)) × List Int × List Int × Bool × List Int) × Int) => ifB (eqI y_4.2 0) (bindO (F_story_Versions (y_4.1.1, y_4.1.2.1, y_4.1.2.2.1, y_4.1.2.2.2.1, y_4.1.2.2.2.2)) fun (y_5 : Int × Int) => ifB (neI y_5.2 0) (mapO Sum.inr (some false)) (bindO (F_story_At (y_4.1.1, y_4.1.2.1, y_4.1.2.2.1, y_4.1.2.2.2.1, y_4.1.2.2.2.2) y_5.1 y) fun (y_6 : List (Int × Int) × Int) => ifB (neI y_6.2 0) (mapO Sum.inr (some false)) (bindO (F_line_Check y_6.1) fun (y_7 : Int) => ifB (neI y_7 0) (mapO Sum.inr (some false)) (ifB (eqI y_5.1 0) (ifB (notB (eqI (lenI y_6.1) 0)) (mapO Sum.inr (some false)) (some (Sum.inl (wadd .i64 x.1 1, y_4.1.1, y_4.1.2.1, y_4.1.2.2.1, y_4.1.2.2.2.1, y_4.1.2.2.2.2)))) (bindO (F_story_At (y_4.1.1, y_4.1.2.1, y_4.1.2.2.1, y_4.1.2.2.2.1, y_4.1.2.2.2.2) (wsub .i64 y_5.1 1) y) fun (y : List (Int × Int) × Int) => ifB (neI y.2 0) (mapO Sum.inr (some false)) (loopN maxR (fun (x_1 : Int) => ifB (ltI x_1 (lenI y_6.1)) (bindO (atI y_6.1 x_1) fun (y_8 : Int × Int) => ifB (gtI (lenI y.1) 0) (bindO (atI y.1 (wsub .i64 (lenI y.1) 1)) fun (y_9 : Int × Int) => ifB (leI y_8.1 y_9.1) (bindO (F_containsP y.1 (y_8.1, y_8.2)) fun (y : Bool) => ifB (notB y) (mapO Sum.inr (mapO Sum.inr (some false))) (some (Sum.inl (wadd .i64 x_1 1)))) (some (Sum.inl (wadd .i64 x_1 1)))) (some (Sum.inl (wadd .i64 x_1 1)))) (mapO Sum.inr (some (Sum.inl (wadd .i64 x.1 1, y_4.1.1, y_4.1.2.1, y_4.1.2.2.1, y_4.1.2.2.2.1, y_4.1.2.2.2.2))))) 0)))))) (some (Sum.inl (wadd .i64 x.1 1, x.2.1, x.2.2.1, x.2.2.2.1, x.2.2.2.2.1, x.2.2.2.2.2)))) (mapO Sum.inr (some true))) (0, y_2.1, y_2.2.1, y_2.2.2.1, y_2.2.2.2.1, y_2.2.2.2.2)) none) (some false)
theorem F_rainbooklaw_StoryRises_eq (x : PI is_rainbooklaw_StoryRises) : F_rainbooklaw_StoryRises (x.1) (x.2) = fnE T G_rainbooklaw_StoryRises H_rainbooklaw_StoryRises C_rainbooklaw_StoryRises (resOf Tryz.f11) is_rainbooklaw_StoryRises os_rainbooklaw_StoryRises x := by kernel_rfl
noncomputable abbrev R_rainbooklaw_StoryRises : GS := mkSpec false is_rainbooklaw_StoryRises os_rainbooklaw_StoryRises fun x => F_rainbooklaw_StoryRises (x.1) (x.2)
theorem R_rainbooklaw_StoryRises_ok : GSOK Tryz.prog 11 R_rainbooklaw_StoryRises := spec_ok tok g_rainbooklaw_StoryRises fmo (Ht := H_rainbooklaw_StoryRises) (fn := Tryz.f11) (Tryz.func11) (c := C_rainbooklaw_StoryRises) (by kernel_rfl) (by kernel_rfl) (by kernel_rfl) (by decide +kernel) (by decide) F_rainbooklaw_StoryRises_eq
end Go.Proofs.Y
namespace Go.Proofs.Y
open Go.Rb Go.Kx
def fiP (p : Pt) (j : Nat) : List Pt → Int
  | [] => -1
  | q :: r => if p = q then j else fiP p (j + 1) r
theorem fiP_mem {p : Pt} : ∀ {l : List Pt} {j : Nat}, p ∈ l → 0 ≤ fiP p j l
  | [], _, h => by cases h
  | q :: r, j, h => by
    rw [fiP]
    by_cases e : p = q
    · rw [if_pos e]; omega
    · rw [if_neg e]
      exact fiP_mem (by rcases List.mem_cons.1 h with h | h; exact absurd h e; exact h)
theorem indexP_eq (l : List Pt) (p : Pt) (hl : l.length < 4611686018427387904) : F_indexP l p = some (fiP p 0 l) := by
  unfold F_indexP
  have e0 : fiP p 0 l = fiP p (l.length - l.length) l := by rw [Nat.sub_self]
  rw [e0]
  refine loop_range l (fun j (_ : Unit) => (j : Int)) (G := fun rest _ => some (fiP p (l.length - rest.length) rest)) (P := fun _ _ => True) (s0 := ()) ?_ ?_ trivial (by omega)
  · rintro j _ hj _ k hk
    have hat := atI_nat hj
    have hn : l.length - (l.getD j default :: l.drop (j + 1)).length = j := by rw [List.length_cons, List.length_drop]; omega
    rw [hn]
    generalize l.getD j default = q at *
    have hd : l.length - (l.drop (j + 1)).length = j + 1 := by rw [List.length_drop]; omega
    rw [stepK_ifB, ifB_ltI, lenI_eq, if_pos (by omega), hat, bindO_some, stepK_ifB, eqP_dec p q, fiP]
    by_cases e : p = q
    · rw [decide_eq_true e, ifB_t, if_pos e]; rfl
    · rw [decide_eq_false e, ifB_f, if_neg e, stepK_inl, wadd_nat (by omega), hk () trivial, hd]
  · rintro _ _ k
    rw [stepK_ifB, stepK_map, ifB_ltI, lenI_eq, if_neg (by omega)]; rfl
theorem containsP_eq {l : List Pt} {p : Pt} (hl : l.length < 4611686018427387904) (h : p ∈ l) : F_containsP l p = some true := by
  unfold F_containsP
  refine (bind_of (indexP_eq l p hl) _).trans ?_
  have := fiP_mem (j := 0) h
  simp [geI, this]
theorem ptsV_zero (L : List Rc) {i : Int} (i0 : 0 ≤ i) (i1 : i < 4) : ptsV L 0 i = [] := by
  unfold ptsV
  rw [List.take_zero]
  have : i = 0 ∨ i = 1 ∨ i = 2 ∨ i = 3 := by omega
  rcases this with rfl | rfl | rfl | rfl <;> decide +kernel
theorem rises {L : List Rc} (h : (replayR L).2 = 0) {n : Nat} (hn : n < L.length) {i : Int} (i0 : 0 ≤ i) (i1 : i < 4) {p : Pt} (hp : p ∈ ptsV L (n + 1) i) (h0 : 0 < (ptsV L n i).length) (hle : p.1 ≤ ((ptsV L n i).getD ((ptsV L n i).length - 1) default).1) : p ∈ ptsV L n i := by
  obtain ⟨s1, s2⟩ := step_pts h hn i0 i1
  by_cases c : (L.getD n default).1 = 4
  · obtain ⟨_, k, e, _⟩ := s1 c
    rw [e] at hp
    exact List.mem_of_mem_drop hp
  · have e := s2 c
    have hr := checkL_rise (ptsV_ok h (n + 1) i0 i1)
    rw [e] at hp hr
    rcases List.mem_append.1 hp with hp | hp
    · exact hp
    · have := (List.pairwise_append.1 hr).2.2 _ (getD_mem (l := ptsV L n i) (i := (ptsV L n i).length - 1) (by omega)) p hp
      omega
noncomputable def rsB {β : Type} (v : Wv) (i : Int) (K : Option (Sum β Bool)) : Option (Sum β Bool) :=
  bindO (F_story_Versions v) fun (n : Int × Int) => ifB (neI n.2 0) (mapO Sum.inr (some false)) (bindO (F_story_At v n.1 i) fun (q : List Pt × Int) => ifB (neI q.2 0) (mapO Sum.inr (some false)) (bindO (F_line_Check q.1) fun (e : Int) => ifB (neI e 0) (mapO Sum.inr (some false))
    (ifB (eqI n.1 0) (ifB (notB (eqI (lenI q.1) 0)) (mapO Sum.inr (some false)) K) (bindO (F_story_At v (wsub .i64 n.1 1) i) fun (r : List Pt × Int) => ifB (neI r.2 0) (mapO Sum.inr (some false))
      (loopN maxR (fun (x : Int) => ifB (ltI x (lenI q.1)) (bindO (atI q.1 x) fun (p : Pt) => ifB (gtI (lenI r.1) 0) (bindO (atI r.1 (wsub .i64 (lenI r.1) 1)) fun (z : Pt) => ifB (leI p.1 z.1) (bindO (F_containsP r.1 p) fun (t : Bool) => ifB (notB t) (mapO Sum.inr (mapO Sum.inr (some false))) (some (Sum.inl (wadd .i64 x 1)))) (some (Sum.inl (wadd .i64 x 1)))) (some (Sum.inl (wadd .i64 x 1)))) (mapO Sum.inr K)) 0)))))
theorem rises_form (a : List Hp) (b : Int) : F_rainbooklaw_StoryRises a b = bindO (F_rainbooklaw_at b 4) fun (i : Int) => bindO F_rainbooklaw_told fun (t : Bool) => ifB t (playF (fun v K => rsB v i K) a) (some false) := by kernel_rfl
theorem rsB_eq {β : Type} {v : Wd} (h : Inv v) {i : Int} (i0 : 0 ≤ i) (i1 : i < 4) (K : Option (Sum β Bool)) : rsB (wvd v) i K = K := by
  obtain ⟨l1, l3, lS⟩ := okc_len h.1
  have h60 := inv_len h
  have hok : ∀ n, (ptsV (recsW v) n i).length ≤ 40 := fun n => checkL_len (ptsV_ok h.2 n i0 i1)
  unfold rsB
  rw [versions_eq v (by omega) (by omega) (by omega), bindO_some, ver_inv h]
  simp only
  rw [ifB_neI, if_pos rfl, sat_eq v _ i (by omega) (by omega) (by omega), bindO_some, at_inv h (by omega) (by omega) i0 i1, Int.toNat_natCast]
  simp only
  have hn := hok (recsW v).length
  rw [ifB_neI, if_pos rfl, check_eq _ (by omega), bindO_some, ptsV_ok h.2 _ i0 i1, ifB_neI, if_pos rfl, ifB_eqI]
  by_cases c : (recsW v).length = 0
  · rw [if_pos (by omega), c, ptsV_zero _ i0 i1]
    show ifB (notB (eqI 0 0)) _ _ = _
    rfl
  · rw [if_neg (by omega), wsub_in ⟨by omega, by omega⟩, sat_eq v _ i (by omega) (by omega) (by omega), bindO_some, at_inv h (by omega) (by omega) i0 i1]
    obtain ⟨m, hm⟩ : ∃ m, (recsW v).length = m + 1 := ⟨(recsW v).length - 1, by omega⟩
    have e1 : (((recsW v).length : Int) - 1).toNat = m := by omega
    have hm2 := hok m
    rw [e1, hm]
    simp only
    rw [ifB_neI, if_pos rfl]
    have key := fun p hp h0 hle => rises (L := recsW v) h.2 (n := m) (by omega) i0 i1 (p := p) hp h0 hle
    rw [hm] at hn
    generalize ptsV (recsW v) (m + 1) i = now at *
    generalize ptsV (recsW v) m i = was at *
    refine loop_range now (fun j (_ : Unit) => (j : Int)) (G := fun _ _ => K) (P := fun _ _ => True) (s0 := ()) ?_ ?_ trivial (by omega)
    · rintro j _ hj _ k hk
      have hat := atI_nat hj
      have hmem : now.getD j default ∈ now := by simp only [List.getD, List.getElem?_eq_getElem hj, Option.getD_some]; exact List.getElem_mem hj
      have hkey := key _ hmem
      generalize now.getD j default = p at *
      rw [stepK_ifB, ifB_ltI, lenI_eq, if_pos (by omega), hat, bindO_some, stepK_ifB, ifB_gtI, lenI_eq]
      by_cases c0 : 0 < was.length
      · have hat2 := atI_nat (l := was) (j := was.length - 1) (by omega)
        rw [if_pos (by omega), wsub_in ⟨by omega, by omega⟩, show ((was.length : Int) - 1) = ((was.length - 1 : Nat) : Int) by omega, hat2, bindO_some, stepK_ifB, ifB_leI]
        by_cases c1 : p.1 ≤ (was.getD (was.length - 1) default).1
        · rw [if_pos c1, containsP_eq (by omega) (hkey c0 c1), bindO_some, ifB_not, ifB_t, stepK_inl, wadd_nat (by omega)]
          exact hk () trivial
        · rw [if_neg c1, stepK_inl, wadd_nat (by omega)]
          exact hk () trivial
      · rw [if_neg (by omega), stepK_inl, wadd_nat (by omega)]
        exact hk () trivial
    · rintro _ _ k
      rw [stepK_ifB, stepK_map, ifB_ltI, lenI_eq, if_neg (by omega)]
theorem storyRises_eq (a : List Hp) (b : Int) (hx : ∀ x ∈ a, x.2.2.2.length < 4611686018427387904) : F_rainbooklaw_StoryRises a b = some true := by
  rw [rises_form]
  obtain ⟨i, hi, i0, i1⟩ := at_some b 4 (by omega) (by omega)
  rw [hi, bindO_some, told_eq, bindO_some, ifB_t]
  exact played_eq (fun v hv K => rsB_eq hv i0 i1 K) a hx
end Go.Proofs.Y
namespace Go.Proofs.Y
open Go.Rb Go.Kx
theorem by77 : Tryz.prog.bytesOf 77 = 24 := by kernel_rfl
theorem reach_eq : reachBytes = 140737488351232 := by decide +kernel
abbrev entR : RT := .cons (.int .i64) (.cons (.int .i64) (.one (.int .i64)))
abbrev recR : RT := .cons (.int .i64) (.cons (.int .i64) (.cons (.int .i64) (.one (.sl 77 entR))))
theorem op_rec (r : DenR recR) (h : BdR Tryz.prog recR r) : (r : Rc).2.2.2.length < 4611686018427387904 := by
  obtain ⟨_, _, _, h, _⟩ := h
  rw [by77, reach_eq] at h
  show List.length r.2.2.2 < _
  omega
end Go.Proofs.Y
namespace Go.Proofs.Y
open Go.Rb Go.Kx
theorem by41 : Tryz.prog.bytesOf 41 = 48 := by kernel_rfl
theorem op_haps (l : Den (.sl 41 recR)) (h : Bd Tryz.prog (.sl 41 recR) l) : List.length (show List Hp from l) < 4611686018427387904 ∧ ∀ r ∈ (show List Hp from l), r.2.2.2.length < 4611686018427387904 := by
  obtain ⟨h1, h2⟩ := h
  rw [by41, reach_eq] at h1
  refine ⟨?_, fun r hr => op_rec r (h2 r hr)⟩
  show List.length l < _; omega
end Go.Proofs.Y
namespace Go.Proofs.YtnkegapccacndaaGreatDoor
open Go.Rb Go.Kx Go.RowKit
abbrev laidL : List (String × DataW Unit) := Rows.storePartsRow.laid
theorem row249 (u : TypeId) (h : Tryz.prog.typeName? 3 u = some "*errors.errorString") : u = 249 :=
  typeName_ptr_named (nm := "errors.errorString") (by kernel_rfl) (by kernel_rfl) (by decide) u h
theorem cells251 : Tryz.prog.cellsOf 251 = 1 := by kernel_rfl
theorem cells9 : Tryz.prog.cellsOf 9 = 1 := by kernel_rfl
theorem glob_of {W : World} (h : laidMetH Tryz.prog laidL W) (hsh : W.ShapedOpen Tryz.prog) : Glob Tryz.prog W ∧ NG Tryz.prog ≤ W.heap.size := by
  rw [MakeChecks.laidMetH_plain _ _ _ (by kernel_rfl)] at h
  have h3 : laidMet Tryz.prog (("internal/strconv.uint64pow10", Lib.tabData .u64 Lib.pow10Tab) :: laidL.drop 3) W := h.tail.tail
  have h5 := h.tail.tail.tail.tail
  have h6 := h5.tail
  refine ⟨⟨?_, ?_, ?_, ?_⟩, ng_le hsh (by kernel_rfl) (by kernel_rfl)⟩
  · exact Lib.tabIs_of_head (g := 1) (t := 238) (e := 202) (n := 20) (by kernel_rfl) (by kernel_rfl) Tryz.underlying238 Tryz.underlying202 (by kernel_rfl) (by kernel_rfl) h3
  · obtain ⟨a, s, hv, _⟩ := laid_sentinel (g := 2) (ti := 183) h6 (by kernel_rfl) (by kernel_rfl) Tryz.underlying183 row249 Tryz.underlying249 Tryz.underlying251 rfl rfl Tryz.underlying9 cells251 cells9
    exact ⟨_, _, hv⟩
  · obtain ⟨a, s, hv, _⟩ := laid_sentinel (g := 3) (ti := 183) h5 (by kernel_rfl) (by kernel_rfl) Tryz.underlying183 row249 Tryz.underlying249 Tryz.underlying251 rfl rfl Tryz.underlying9 cells251 cells9
    exact ⟨_, _, hv⟩
  · exact glob_int (g := 0) (t := 3) (zero := #[.int .i64 0]) hsh (by kernel_rfl) (by kernel_rfl) (by kernel_rfl) (by kernel_rfl) (by kernel_rfl) Tryz.underlying3
theorem own : ownKnob Tryz.prog.godebug = none := by kernel_rfl
theorem laid_fits (os : Os) : (World.holding Tryz.prog os ⟨#[], #[], []⟩).layFits Tryz.prog laidL [] = true := by kernel_rfl
theorem laid_ifaces (os : Os) : (World.holding Tryz.prog os ⟨#[], #[], []⟩).layIfaces Tryz.prog laidL (World.laidAll Tryz.prog os laidL) = true := by kernel_rfl
theorem laid_met (os : Os) (args : Array Value) : laidMetH Tryz.prog laidL ((World.laidAll Tryz.prog os laidL).forCall (fun _ _ => 0) ⟨#[], args, []⟩).memory := by
  rw [MakeChecks.laidMetH_plain _ _ _ (by kernel_rfl)]
  exact laidMet_laidAll _ (laid_fits os) (laid_ifaces os)
end Go.Proofs.YtnkegapccacndaaGreatDoor
