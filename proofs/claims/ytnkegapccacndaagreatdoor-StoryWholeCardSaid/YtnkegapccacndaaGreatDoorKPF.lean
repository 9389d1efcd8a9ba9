/-
  What is proved, part by part: what story.Versions comes to. what story.At comes to. what rainbooklaw.told comes to. versions, and what was there at one: what the program's functions come to, in plain words; the closed fact on versions. versions of a world that came about from the new one: they only grow; what is there at one, by what its record says. a script played from the new world on: if at each moment the answer is yes, it is. what rainbooklaw.StoryReaders$1 comes to. what rainbooklaw.played comes to. what rainbooklaw.StoryReaders comes to. each reader sees what was there at its version: the law's body is true, in plain words. what slices.Index[[]api.Point,api.Point] comes to. what slices.Contains[[]api.Point,api.Point] comes to. what rainbooklaw.StoryRises$1 comes to. what rainbooklaw.played comes to. what rainbooklaw.StoryRises comes to. at each version the points rise, and nothing comes ahead of what was the last one: the law's body is true, in plain words. what story.At comes to. what rainbooklaw.StoryWhole$1 comes to. what rainbooklaw.played comes to. what rainbooklaw.StoryWhole comes to. batches are there wholly, or not at all: the law's body is true, in plain words. what a law is handed is no larger than memory. a world that a law is handed is no larger than memory; its bytes are bytes. what the rows list of package-level variables is what the library's functions ask. Conditions: none.
-/
import Derived.Test.YtnkegapccacndaaGreatDoorKPA
import Derived.Test.YtnkegapccacndaaGreatDoorKPD
import Derived.Test.YtnkegapccacndaaGreatDoorKPB
import Derived.Test.YtnkegapccacndaaGreatDoorKPE
import Derived.Test.YtnkegapccacndaaGreatDoorKED
import Derived.Test.YtnkegapccacndaaGreatDoorProg
import Derived.KernelRfl
import Derived.Test.YtnkegapccacndaaGreatDoorRows
set_option linter.unusedVariables false
set_option linter.unusedSimpArgs false
set_option linter.unnecessarySimpa false
set_option maxRecDepth 4000
namespace Go.Proofs.Y
open Go.Rb Go.Kx
noncomputable def C_story_Versions : Code := bodyOf Tryz.f42
noncomputable def G_story_Versions : FuncId → Option GS := tabG [(24, R_world_Check), (34, R_disk_Recover)]
theorem g_story_Versions : ΓOK Tryz.prog G_story_Versions := ΓOK_cons (R_world_Check_ok) (ΓOK_cons (R_disk_Recover_ok) (ΓOK_nil))
def H_story_Versions : HT := ⟨tabL [], tabH []⟩
abbrev is_story_Versions : List IT := [.v (.cons (.sl 95 (.cons (.sl 126 (.cons (.int .i64) (.cons (.int .i64) (.cons (.int .i64) (.one (.sl 4 (.one .bool))))))) (.one (.sl 73 (.cons (.int .i64) (.one (.int .i64))))))) (.cons (.sl 5 (.one (.int .u8))) (.cons (.sl 5 (.one (.int .u8))) (.cons (.bool) (.one (.sl 3 (.one (.int .i64)))))))) true]
abbrev os_story_Versions : List OT := [⟨.one (.int .i64), false, []⟩, ⟨.one (.int .i64), false, []⟩]
set_option maxRecDepth 100000
noncomputable def F_story_Versions : List (List (Int × Int × Int × List Bool) × List (Int × Int)) × List Int × List Int × Bool × List Int → Option (Int × Int) := fun (a : List (List (Int × Int × Int × List Bool) × List (Int × Int)) × List Int × List Int × Bool × List Int) => bindO (F_world_Check (a.1, a.2.1, a.2.2.1, a.2.2.2.1, a.2.2.2.2)) fun (y : Int) => ifB (neI y 0) (some (0, y)) (bindO (F_disk_Recover (a.2.1, a.2.2.1)) fun (y : (List Int × List Int) × List (Int × Int × Int × List (Int × Int × Int)) × Int) => some (lenI y.2.1, 0))
theorem F_story_Versions_eq (x : PI is_story_Versions) : F_story_Versions x = fnE T G_story_Versions H_story_Versions C_story_Versions (resOf Tryz.f42) is_story_Versions os_story_Versions x := by kernel_rfl
noncomputable abbrev R_story_Versions : GS := mkSpec false is_story_Versions os_story_Versions fun x => F_story_Versions x
theorem R_story_Versions_ok : GSOK Tryz.prog 42 R_story_Versions := spec_ok tok g_story_Versions fmo (Ht := H_story_Versions) (fn := Tryz.f42) (Tryz.func42) (c := C_story_Versions) (by kernel_rfl) (by kernel_rfl) (by kernel_rfl) (by decide +kernel) (by decide) F_story_Versions_eq
end Go.Proofs.Y
namespace Go.Proofs.Y
open Go.Rb Go.Kx
noncomputable def C_story_At : Code := bodyOf Tryz.f43
noncomputable def G_story_At : FuncId → Option GS := tabG [(24, R_world_Check), (34, R_disk_Recover), (28, R_store_Replay), (48, R_shelf_All)]
theorem g_story_At : ΓOK Tryz.prog G_story_At := ΓOK_cons (R_world_Check_ok) (ΓOK_cons (R_disk_Recover_ok) (ΓOK_cons (R_store_Replay_ok) (ΓOK_cons (R_shelf_All_ok) (ΓOK_nil))))
def H_story_At : HT := ⟨tabL [], tabH []⟩
abbrev is_story_At : List IT := [.v (.cons (.sl 95 (.cons (.sl 126 (.cons (.int .i64) (.cons (.int .i64) (.cons (.int .i64) (.one (.sl 4 (.one .bool))))))) (.one (.sl 73 (.cons (.int .i64) (.one (.int .i64))))))) (.cons (.sl 5 (.one (.int .u8))) (.cons (.sl 5 (.one (.int .u8))) (.cons (.bool) (.one (.sl 3 (.one (.int .i64)))))))) true, .v (.one (.int .i64)) false, .v (.one (.int .i64)) false]
abbrev os_story_At : List OT := [⟨.one (.sl 73 (.cons (.int .i64) (.one (.int .i64)))), false, []⟩, ⟨.one (.int .i64), false, []⟩]
set_option maxRecDepth 100000
noncomputable def F_story_At : List (List (Int × Int × Int × List Bool) × List (Int × Int)) × List Int × List Int × Bool × List Int → Int → Int → Option (List (Int × Int) × Int) := fun (a : List (List (Int × Int × Int × List Bool) × List (Int × Int)) × List Int × List Int × Bool × List Int) (b c : Int) => bindO (F_world_Check (a.1, a.2.1, a.2.2.1, a.2.2.2.1, a.2.2.2.2)) fun (y : Int) => ifB (neI y 0) (some ([], y)) (bindO (F_disk_Recover (a.2.1, a.2.2.1)) fun (y : (List Int × List Int) × List (Int × Int × Int × List (Int × Int × Int)) × Int) => ifB (ltI b 0) (some ([], 7)) (ifB (gtI b (lenI y.2.1)) (some ([], 7)) (ifB (in1 y.2.1 b) (bindO (F_store_Replay (takeI y.2.1 b)) fun (y : List (List (Int × Int × Int × List Bool) × List (Int × Int)) × Int) => ifB (neI y.2 0) (some ([], y.2)) (bindO (F_shelf_All y.1 c) fun (y : List (Int × Int) × Int) => some (y.1, y.2))) none)))
theorem F_story_At_eq (x : PI is_story_At) : F_story_At (x.1) (x.2.1) (x.2.2) = fnE T G_story_At H_story_At C_story_At (resOf Tryz.f43) is_story_At os_story_At x := by kernel_rfl
noncomputable abbrev R_story_At : GS := mkSpec false is_story_At os_story_At fun x => F_story_At (x.1) (x.2.1) (x.2.2)
theorem R_story_At_ok : GSOK Tryz.prog 43 R_story_At := spec_ok tok g_story_At fmo (Ht := H_story_At) (fn := Tryz.f43) (Tryz.func43) (c := C_story_At) (by kernel_rfl) (by kernel_rfl) (by kernel_rfl) (by decide +kernel) (by decide) F_story_At_eq
end Go.Proofs.Y
namespace Go.Proofs.Y
open Go.Rb Go.Kx
noncomputable def C_rainbooklaw_told : Code := bodyOf Tryz.f39
noncomputable def G_rainbooklaw_told : FuncId → Option GS := tabG [(26, R_world_New), (17, R_world_Run), (42, R_story_Versions), (43, R_story_At)]
theorem g_rainbooklaw_told : ΓOK Tryz.prog G_rainbooklaw_told := ΓOK_cons (R_world_New_ok) (ΓOK_cons (R_world_Run_ok) (ΓOK_cons (R_story_Versions_ok) (ΓOK_cons (R_story_At_ok) (ΓOK_nil))))
def H_rainbooklaw_told : HT := ⟨tabL [], tabH []⟩
abbrev is_rainbooklaw_told : List IT := []
abbrev os_rainbooklaw_told : List OT := [⟨.one .bool, false, []⟩]
set_option maxRecDepth 100000
noncomputable def F_rainbooklaw_told : Option Bool :=  bindO F_world_New fun (y : List (List (Int × Int × Int × List Bool) × List (Int × Int)) × List Int × List Int × Bool × List Int) => bindO (F_world_Run (y.1, y.2.1, y.2.2.1, y.2.2.2.1, y.2.2.2.2) [(1, 0, 0, [(0, 5, 0), (0, 6, 0)]), (2, 0, 2, []), (4, 0, 9, [])]) fun (y : (List (List (Int × Int × Int × List Bool) × List (Int × Int)) × List Int × List Int × Bool × List Int) × List Int × Int) => bindO (F_story_Versions (y.1.1, y.1.2.1, y.1.2.2.1, y.1.2.2.2.1, y.1.2.2.2.2)) fun (y_1 : Int × Int) => bindO (F_story_At (y.1.1, y.1.2.1, y.1.2.2.1, y.1.2.2.2.1, y.1.2.2.2.2) 2 0) fun (y_2 : List (Int × Int) × Int) => bindO (F_story_At (y.1.1, y.1.2.1, y.1.2.2.1, y.1.2.2.2.1, y.1.2.2.2.2) 3 0) fun (y_3 : List (Int × Int) × Int) => bindO (F_story_At (y.1.1, y.1.2.1, y.1.2.2.1, y.1.2.2.2.1, y.1.2.2.2.2) 4 0) fun (y_4 : List (Int × Int) × Int) => ifB (eqI y.2.2 0) (ifB (eqI y_1.2 0) (ifB (eqI y_2.2 0) (ifB (eqI y_3.2 0) (ifB (eqI y_4.2 7) (ifB (eqI y_1.1 3) (ifB (eqI (lenI y_2.1) 2) (some (eqI (lenI y_3.1) 0)) (some false)) (some false)) (some false)) (some false)) (some false)) (some false)) (some false)
theorem F_rainbooklaw_told_eq (x : PI is_rainbooklaw_told) : F_rainbooklaw_told  = fnE T G_rainbooklaw_told H_rainbooklaw_told C_rainbooklaw_told (resOf Tryz.f39) is_rainbooklaw_told os_rainbooklaw_told x := by kernel_rfl
noncomputable abbrev R_rainbooklaw_told : GS := mkSpec false is_rainbooklaw_told os_rainbooklaw_told fun x => F_rainbooklaw_told 
theorem R_rainbooklaw_told_ok : GSOK Tryz.prog 39 R_rainbooklaw_told := spec_ok tok g_rainbooklaw_told fmo (Ht := H_rainbooklaw_told) (fn := Tryz.f39) (Tryz.func39) (c := C_rainbooklaw_told) (by kernel_rfl) (by kernel_rfl) (by kernel_rfl) (by decide +kernel) (by decide) F_rainbooklaw_told_eq
end Go.Proofs.Y
namespace Go.Proofs.Y
open Go.Rb Go.Kx
theorem versions_eq (w : Wd) (h1 : w.2.1.1.length < 4611686018427387904) (h2 : w.2.1.2.length < 4611686018427387904) (hrd : w.2.2.2.length < 4611686018427387904) : F_story_Versions (wvd w) = some (verP w) := by
  unfold F_story_Versions
  refine (bind_of (worldCheck_eq w.1 w.2.1 w.2.2.1 w.2.2.2 h1 h2 hrd) _).trans ?_
  rw [ifB_neI]
  unfold verP
  by_cases hc : okc w = 0
  · rw [if_pos hc, if_pos hc]
    refine (bind_of (dRecover_eq w.2.1 h1 h2) _).trans ?_
    rw [lenI_eq]
  · rw [if_neg hc, if_neg hc]
theorem sat_eq (w : Wd) (v i : Int) (h1 : w.2.1.1.length < 4611686018427387904) (h2 : w.2.1.2.length < 4611686018427387904) (hrd : w.2.2.2.length < 4611686018427387904) : F_story_At (wvd w) v i = some (atP w v i) := by
  unfold F_story_At
  refine (bind_of (worldCheck_eq w.1 w.2.1 w.2.2.1 w.2.2.2 h1 h2 hrd) _).trans ?_
  rw [ifB_neI]
  unfold atP
  by_cases hc : okc w = 0
  · obtain ⟨_, o4, _⟩ := chkW_zero hc
    have hrec := recs_ok w.2.1
    have hrl := recs_len w.2.1 o4
    rw [if_pos hc, if_pos hc]
    refine (bind_of (dRecover_eq w.2.1 h1 h2) _).trans ?_
    simp only
    rw [ifB_ltI, ifB_gtI, lenI_eq]
    by_cases c1 : v < 0
    · rw [if_pos c1, if_pos (.inl c1)]
    rw [if_neg c1]
    by_cases c2 : ((dRecover w.2.1).2.1.length : Int) < v
    · rw [if_pos c2, if_pos (.inr c2)]
    rw [if_neg c2, if_neg (by rintro (h | h); exact c1 h; exact c2 h), ifB_in1, if_pos ⟨by omega, by omega⟩, takeI_eq, replay_eq _ (by rw [List.length_take]; omega) (fun r hr => small_rec (hrec r (List.mem_of_mem_take hr))), bindO_some, ifB_neI]
    by_cases c3 : (replayR ((dRecover w.2.1).2.1.take v.toNat)).2 = 0
    · rw [if_pos c3, if_pos c3, allS_eq _ _ (replayR_okS _), bindO_some]
    · rw [if_neg c3, if_neg c3]
  · rw [if_neg hc, if_neg hc]
def l3 : List Hp := [(1, 0, 0, [(0, 5, 0), (0, 6, 0)]), (2, 0, 2, []), (4, 0, 9, [])]
def wT : Wd := (runP l3 w0 []).1
theorem chkT : okc wT = 0 := by decide +kernel
theorem said3 : (runP l3 w0 []).2 = [0, 0, 0] := by decide +kernel
theorem run3 : F_world_Run (wvd w0) l3 = some (wvd wT, [0, 0, 0], 0) := by
  rw [run_eq w0 l3 (by decide) (by decide) (by decide) (by decide), if_pos chk0, if_neg (by decide), said3]; rfl
theorem verT : verP wT = (3, 0) := by decide +kernel
theorem atT2 : (atP wT 2 0).2 = 0 ∧ (atP wT 2 0).1.length = 2 := by decide +kernel
theorem atT3 : (atP wT 3 0).2 = 0 ∧ (atP wT 3 0).1.length = 0 := by decide +kernel
theorem atT4 : (atP wT 4 0).2 = 7 := by decide +kernel
theorem told_eq : F_rainbooklaw_told = some true := by
  obtain ⟨a1, a2, _⟩ := okc_len chkT
  have b1 : wT.2.1.1.length < 4611686018427387904 := by omega
  have b2 : wT.2.1.2.length < 4611686018427387904 := by omega
  have b3 : wT.2.2.2.length < 4611686018427387904 := by omega
  unfold F_rainbooklaw_told
  refine (bind_of new_world _).trans ?_
  refine (bind_of run3 _).trans ?_
  refine (bind_of (versions_eq wT b1 b2 b3) _).trans ?_
  refine (bind_of (sat_eq wT 2 0 b1 b2 b3) _).trans ?_
  refine (bind_of (sat_eq wT 3 0 b1 b2 b3) _).trans ?_
  refine (bind_of (sat_eq wT 4 0 b1 b2 b3) _).trans ?_
  simp only [verT, atT2.1, atT2.2, atT3.1, atT3.2, atT4, lenI_eq, ifB_eqI, if_true]
  rfl
end Go.Proofs.Y
namespace Go.Proofs.Y
open Go.Rb Go.Kx
def Inv (w : Wd) : Prop := okc w = 0 ∧ (replayR (recsW w)).2 = 0
theorem inv_new : Inv w0 := ⟨chk0, by decide +kernel⟩
theorem inv_len {w : Wd} (h : Inv w) : (recsW w).length ≤ 60 := (replayR_len h.2).1
theorem replay_take {L : List Rc} (h : (replayR L).2 = 0) (k : Nat) : (replayR (L.take k)).2 = 0 := by
  have h60 := (replayR_len h).1
  have e1 : replayR L = replayS freshS L := by unfold replayR; rw [if_neg (by omega)]
  have e2 : replayR (L.take k) = replayS freshS (L.take k) := by unfold replayR; rw [if_neg (by rw [List.length_take]; omega)]
  rw [e2]
  refine (replayS_app (L.drop k) (L.take k) freshS ?_).1
  rw [List.take_append_drop, ← e1]; exact h
theorem inv_hap {w : Wd} {x : Hp} (h : Inv w) (he : (hapP w x).2 = 0) : Inv (hapP w x).1 ∧ (recsW (hapP w x).1 = recsW w ∨ ∃ r, recsW (hapP w x).1 = recsW w ++ [r]) := by
  have hk := hapP_keeps h.1 he
  obtain ⟨s, d, up, rd⟩ := w
  cases up with
  | true =>
    obtain ⟨L, rfl, hL, h1, h2, h3, h4⟩ := up_of h.1
    obtain ⟨a1, _, a3⟩ := replayR_len h1
    have eL : recsW (s, (textL L, []), true, rd) = L := hL
    rw [eL]
    rcases hap_up h1 h2 h3 he with ⟨r, _, g1, g2, g3, g4⟩ | ⟨v, g1, _⟩ | ⟨_, g1⟩ | ⟨_, r, k, g1, g2, g3, g4⟩
    · have e : recsW (hapP (s, (textL L, []), true, rd) x).1 = L ++ [r] := by
        rw [g1]
        obtain ⟨b1, _, b3⟩ := replayR_len g3
        show (dRecover (textL (L ++ [r]), [])).2.1 = _
        rw [(rec_text b3 b1).2]
      exact ⟨⟨hk, by rw [e]; exact g3⟩, .inr ⟨r, e⟩⟩
    · have e : recsW (hapP (s, (textL L, []), true, rd) x).1 = L := by rw [g1]; exact hL
      exact ⟨⟨hk, by rw [e]; exact h1⟩, .inl e⟩
    · have e : recsW (hapP (s, (textL L, []), true, rd) x).1 = L := by rw [g1]; exact hL
      exact ⟨⟨hk, by rw [e]; exact h1⟩, .inl e⟩
    · have hlp : (lnP 60 (textL L)).1 = L := by rw [lnP_whole a3 (by omega)]
      rcases torn_disk (s := textL L) (r := r) (k := k) g2 g4 with hR | ⟨hn, hR⟩
      · have e : recsW (hapP (s, (textL L, []), true, rd) x).1 = L := by
          rw [g1]
          show (dRecover (textL L, (lineT r).take k)).2.1 = _
          rw [hR, hlp]
        exact ⟨⟨hk, by rw [e]; exact h1⟩, .inl e⟩
      · have e : recsW (hapP (s, (textL L, []), true, rd) x).1 = L ++ [r] := by
          rw [g1]
          show (dRecover (textL L, (lineT r).take k)).2.1 = _
          rw [hR, hlp]
        rw [hlp] at hn
        exact ⟨⟨hk, by rw [e]; exact (replay_one h1 hn (by rw [h2]; exact g3)).1⟩, .inr ⟨r, e⟩⟩
  | false =>
    obtain ⟨rfl, rfl, hd⟩ := down_of h.1
    obtain ⟨_, g1, g2⟩ := hap_down hd he
    have e : recsW (hapP (freshS, d, false, [-1, -1, -1]) x).1 = (dRecover d).2.1 := by
      rw [g2]
      obtain ⟨b1, _, b3⟩ := replayR_len g1
      show (dRecover (textL (dRecover d).2.1, [])).2.1 = _
      rw [(rec_text b3 b1).2]
    exact ⟨⟨hk, by rw [e]; exact g1⟩, .inl e⟩
def ptsV (L : List Rc) (v : Nat) (i : Int) : List Pt := (allS (replayR (L.take v)).1 i).1
theorem at_inv {w : Wd} (h : Inv w) {v i : Int} (v0 : 0 ≤ v) (v1 : v ≤ (recsW w).length) (i0 : 0 ≤ i) (i1 : i < 4) : atP w v i = (ptsV (recsW w) v.toNat i, 0) := by
  have hr := replay_take h.2 v.toNat
  have hc := (replayR_len hr).2.1
  unfold atP
  rw [if_pos h.1, if_neg (by omega), if_pos hr]
  have := allS_of hc i0 i1
  exact Prod.ext rfl this
theorem ver_inv {w : Wd} (h : Inv w) : verP w = (((recsW w).length : Int), 0) := by unfold verP; rw [if_pos h.1]
theorem ptsV_ok {L : List Rc} (h : (replayR L).2 = 0) (v : Nat) {i : Int} (i0 : 0 ≤ i) (i1 : i < 4) : checkL (ptsV L v i) = 0 := by
  have hc := (replayR_len (replay_take h v)).2.1
  have e := allS_is hc i0 i1
  unfold ptsV
  rw [e]
  exact (allR_is (chkS_row hc (by omega))).2.2.1
theorem step_pts {L : List Rc} (h : (replayR L).2 = 0) {n : Nat} (hn : n < L.length) {i : Int} (i0 : 0 ≤ i) (i1 : i < 4) :
    ((L.getD n default).1 = 4 → (L.getD n default).2.2.2 = [] ∧ ∃ k, ptsV L (n + 1) i = (ptsV L n i).drop k ∧ k ≤ (ptsV L n i).length) ∧
    ((L.getD n default).1 ≠ 4 → ptsV L (n + 1) i = ptsV L n i ++ entP i (L.getD n default).2.2.2) := by
  have h60 := (replayR_len h).1
  have e1 : ∀ k, replayR (L.take k) = replayS freshS (L.take k) := fun k => by unfold replayR; rw [if_neg (by rw [List.length_take]; omega)]
  have hs := replay_take h (n + 1)
  have hn0 := replay_take h n
  have htk := take_next hn
  rw [e1, htk] at hs
  obtain ⟨q1, q2⟩ := replayS_app [L.getD n default] (L.take n) freshS hs
  generalize L.getD n default = r at *
  have q3 : (replayS (replayS freshS (L.take n)).1 [r]).2 = 0 := by rw [q2]; exact hs
  obtain ⟨p1, p2⟩ := replayS_cons (l := []) q3
  have e3 : (replayR (L.take (n + 1))).1 = (nextS (replayR (L.take n)).1 r).1 := by
    rw [e1 (n + 1), htk, ← q2, ← p2, e1 n]; rfl
  rw [← e1 n] at p1
  unfold ptsV
  rw [e3]
  generalize (replayR (L.take n)).1 = s at *
  obtain ⟨h1, h2, h3, _⟩ := nextS_ok p1
  obtain ⟨_, _, _, k4⟩ := chkRec_kind h2
  rw [h3] at p1 ⊢
  unfold doRec at p1 ⊢
  by_cases c1 : r.1 = 1
  · rw [if_pos c1] at p1 ⊢
    exact ⟨fun h => by omega, fun _ => (putS_ok p1).2.2.2 i i0 i1⟩
  · rw [if_neg c1] at p1 ⊢
    have e0 : entP i r.2.2.2 = [] := by rw [(k4 c1).1]; rfl
    rw [e0, List.append_nil]
    by_cases c2 : r.1 = 2
    · rw [if_pos c2] at p1 ⊢
      exact ⟨fun h => by omega, fun _ => by rw [(sealS_ok p1).2.2 i]⟩
    · rw [if_neg c2] at p1 ⊢
      by_cases c3 : r.1 = 3
      · rw [if_pos c3] at p1 ⊢
        exact ⟨fun h => by omega, fun _ => by rw [(mergeS_ok p1).2.2 i]⟩
      · rw [if_neg c3] at p1 ⊢
        obtain ⟨k, m1, m2, _⟩ := (dropS_ok p1).2.2.2 i i0 i1
        refine ⟨fun _ => ⟨(k4 c1).1, k, m1, m2⟩, fun h => ?_⟩
        obtain ⟨k1, k2, _⟩ := chkRec_kind h2
        omega
end Go.Proofs.Y
namespace Go.Proofs.Y
open Go.Rb Go.Kx
noncomputable def playF (B : Wv → Option (Sum (Int × Wv) Bool) → Option (Sum (Int × Wv) Bool)) (a : List Hp) : Option Bool :=
  bindO F_world_New fun (w : Wv) => ifB (in1 a (minI (lenI a) 60)) (loopN maxR (fun (x : Int × Wv) => ifB (ltI x.1 (lenI (takeI a (minI (lenI a) 60))))
    (bindO (atI (takeI a (minI (lenI a) 60)) x.1) fun (h : Hp) => bindO (F_world_Do x.2 h) fun (z : Wv × Int) => ifB (eqI z.2 0) (B z.1 (some (Sum.inl (wadd .i64 x.1 1, z.1)))) (some (Sum.inl (wadd .i64 x.1 1, x.2)))) (mapO Sum.inr (some true))) (0, w)) none
theorem part60 (a : List Hp) : ∃ l : List Hp, takeI a (minI (lenI a) 60) = l ∧ l.length ≤ 60 ∧ (∀ x ∈ l, x ∈ a) ∧ 0 ≤ minI (lenI a) 60 ∧ minI (lenI a) 60 ≤ a.length := by
  have hm : minI (lenI a) 60 = min (a.length : Int) 60 := by rw [lenI_eq]; rfl
  refine ⟨_, rfl, ?_, ?_, ?_, ?_⟩
  · rw [takeI_eq, hm, List.length_take]; omega
  · rw [takeI_eq]; exact fun x hx => List.mem_of_mem_take hx
  · rw [hm]; omega
  · rw [hm]; omega
theorem played_eq {B : Wv → Option (Sum (Int × Wv) Bool) → Option (Sum (Int × Wv) Bool)} (hB : ∀ v : Wd, Inv v → ∀ K, B (wvd v) K = K) (a : List Hp) (hx : ∀ x ∈ a, x.2.2.2.length < 4611686018427387904) : playF B a = some true := by
  unfold playF
  obtain ⟨l, e, hl, hm, m0, m1⟩ := part60 a
  rw [e, new_world, bindO_some, ifB_in1, if_pos ⟨m0, m1⟩]
  refine loop_range l (fun j (s : Wd) => ((j : Int), wvd s)) (G := fun _ _ => some true) (P := fun _ s => Inv s) (s0 := w0) ?_ ?_ inv_new (by omega)
  · rintro j v hj hv k hk
    have hat := atI_nat hj
    have hmem : l.getD j default ∈ l := by simp only [List.getD, List.getElem?_eq_getElem hj, Option.getD_some]; exact List.getElem_mem hj
    have hxx := hx _ (hm _ hmem)
    generalize l.getD j default = x at *
    simp only
    rw [stepK_ifB, ifB_ltI, lenI_eq, if_pos (by omega), hat, bindO_some, do_ok hv.1 hxx, bindO_some]
    by_cases he : (hapP v x).2 = 0
    · obtain ⟨hi, _⟩ := inv_hap hv he
      rw [if_pos he]
      simp only
      rw [ifB_eqI, if_pos rfl, hB _ hi, stepK_inl, wadd_nat (by omega)]
      exact hk _ hi
    · rw [if_neg he]
      simp only
      rw [ifB_eqI, if_neg he, stepK_inl, wadd_nat (by omega)]
      exact hk _ hv
  · rintro v hv k
    simp only
    rw [stepK_ifB, stepK_map, ifB_ltI, lenI_eq, if_neg (by omega)]
end Go.Proofs.Y
namespace Go.Proofs.Y
open Go.Rb Go.Kx
end Go.Proofs.Y
namespace Go.Proofs.Y
open Go.Rb Go.Kx
end Go.Proofs.Y
namespace Go.Proofs.Y
open Go.Rb Go.Kx
set_option maxRecDepth 100000
end Go.Proofs.Y
namespace Go.Proofs.Y
open Go.Rb Go.Kx
end Go.Proofs.Y
namespace Go.Proofs.Y
open Go.Rb Go.Kx
set_option maxRecDepth 100000
end Go.Proofs.Y
namespace Go.Proofs.Y
open Go.Rb Go.Kx
set_option maxRecDepth 100000
end Go.Proofs.Y
namespace Go.Proofs.Y
open Go.Rb Go.Kx
end Go.Proofs.Y
namespace Go.Proofs.Y
open Go.Rb Go.Kx
end Go.Proofs.Y
namespace Go.Proofs.Y
open Go.Rb Go.Kx
set_option maxRecDepth 100000
end Go.Proofs.Y
namespace Go.Proofs.Y
open Go.Rb Go.Kx
end Go.Proofs.Y
namespace Go.Proofs.Y
open Go.Rb Go.Kx
noncomputable def C_storyAtO : Code := bodyOf Tryz.f43
noncomputable def G_storyAtO : FuncId → Option GS := tabG [(24, R_world_Check), (34, R_disk_Recover), (28, R_store_Replay), (48, R_shelf_All)]
theorem g_storyAtO : ΓOK Tryz.prog G_storyAtO := ΓOK_cons (R_world_Check_ok) (ΓOK_cons (R_disk_Recover_ok) (ΓOK_cons (R_store_Replay_ok) (ΓOK_cons (R_shelf_All_ok) (ΓOK_nil))))
def H_storyAtO : HT := ⟨tabL [], tabH []⟩
abbrev is_storyAtO : List IT := [.v (.cons (.sl 95 (.cons (.sl 126 (.cons (.int .i64) (.cons (.int .i64) (.cons (.int .i64) (.one (.sl 4 (.one .bool))))))) (.one (.sl 73 (.cons (.int .i64) (.one (.int .i64))))))) (.cons (.sl 5 (.one (.int .u8))) (.cons (.sl 5 (.one (.int .u8))) (.cons (.bool) (.one (.sl 3 (.one (.int .i64)))))))) true, .v (.one (.int .i64)) false, .v (.one (.int .i64)) false]
abbrev os_storyAtO : List OT := [⟨.one (.sl 73 (.cons (.int .i64) (.one (.int .i64)))), false, [true]⟩, ⟨.one (.int .i64), false, []⟩]
set_option maxRecDepth 100000
noncomputable def F_storyAtO : List (List (Int × Int × Int × List Bool) × List (Int × Int)) × List Int × List Int × Bool × List Int → Int → Int → Option (List (Int × Int) × Int) := fun (a : List (List (Int × Int × Int × List Bool) × List (Int × Int)) × List Int × List Int × Bool × List Int) (b c : Int) => bindO (F_world_Check (a.1, a.2.1, a.2.2.1, a.2.2.2.1, a.2.2.2.2)) fun (y : Int) => ifB (neI y 0) (some ([], y)) (bindO (F_disk_Recover (a.2.1, a.2.2.1)) fun (y : (List Int × List Int) × List (Int × Int × Int × List (Int × Int × Int)) × Int) => ifB (ltI b 0) (some ([], 7)) (ifB (gtI b (lenI y.2.1)) (some ([], 7)) (ifB (in1 y.2.1 b) (bindO (F_store_Replay (takeI y.2.1 b)) fun (y : List (List (Int × Int × Int × List Bool) × List (Int × Int)) × Int) => ifB (neI y.2 0) (some ([], y.2)) (bindO (F_shelf_All y.1 c) fun (y : List (Int × Int) × Int) => some (y.1, y.2))) none)))
theorem F_storyAtO_eq (x : PI is_storyAtO) : F_storyAtO (x.1) (x.2.1) (x.2.2) = fnE T G_storyAtO H_storyAtO C_storyAtO (resOf Tryz.f43) is_storyAtO os_storyAtO x := by kernel_rfl
noncomputable abbrev R_storyAtO : GS := mkSpec false is_storyAtO os_storyAtO fun x => F_storyAtO (x.1) (x.2.1) (x.2.2)
theorem R_storyAtO_ok : GSOK Tryz.prog 43 R_storyAtO := spec_ok tok g_storyAtO fmo (Ht := H_storyAtO) (fn := Tryz.f43) (Tryz.func43) (c := C_storyAtO) (by kernel_rfl) (by kernel_rfl) (by kernel_rfl) (by decide +kernel) (by decide) F_storyAtO_eq
end Go.Proofs.Y
namespace Go.Proofs.Y
open Go.Rb Go.Kx
noncomputable def C_sWhole : Code := bodyOf Tryz.f45
noncomputable def G_sWhole : FuncId → Option GS := tabG [(34, R_disk_Recover), (42, R_story_Versions), (43, R_storyAtO), (44, R_equalP)]
theorem g_sWhole : ΓOK Tryz.prog G_sWhole := ΓOK_cons (R_disk_Recover_ok) (ΓOK_cons (R_story_Versions_ok) (ΓOK_cons (R_storyAtO_ok) (ΓOK_cons (R_equalP_ok) (ΓOK_nil))))
def H_sWhole : HT := ⟨tabL [(13, .it [] (dyn [.a 9 73 (.cons (.int .i64) (.one (.int .i64))), .t 77 (.int .i64)]))], tabH []⟩
noncomputable def I_sWhole : GS := inl T G_sWhole H_sWhole C_sWhole (resOf Tryz.f45) (Tryz.f45.ntmps)
theorem I_sWhole_ok : GSOK Tryz.prog 45 I_sWhole := inl_ok tok g_sWhole fmo (Ht := H_sWhole) (fn := Tryz.f45) (Tryz.func45) (c := C_sWhole) (by kernel_rfl) (by kernel_rfl) (by kernel_rfl)
end Go.Proofs.Y
namespace Go.Proofs.Y
open Go.Rb Go.Kx
noncomputable def C_playedWhole : Code := bodyOf Tryz.f40
noncomputable def G_playedWhole : FuncId → Option GS := tabG [(26, R_world_New), (23, R_world_Do), (45, I_sWhole)]
theorem g_playedWhole : ΓOK Tryz.prog G_playedWhole := ΓOK_cons (R_world_New_ok) (ΓOK_cons (R_world_Do_ok) (ΓOK_cons (I_sWhole_ok) (ΓOK_nil)))
def H_playedWhole : HT := ⟨tabL [(3, .it [] (dyn [.t 17 (.int .i64), .c 5 0 (.sl 95 (.cons (.sl 126 (.cons (.int .i64) (.cons (.int .i64) (.cons (.int .i64) (.one (.sl 4 (.one .bool))))))) (.one (.sl 73 (.cons (.int .i64) (.one (.int .i64))))))), .c 5 1 (.sl 5 (.one (.int .u8))), .c 5 2 (.sl 5 (.one (.int .u8))), .c 5 3 .bool, .c 5 4 (.sl 3 (.one (.int .i64)))]))], tabH []⟩
noncomputable def I_playedWhole : GS := inl T G_playedWhole H_playedWhole C_playedWhole (resOf Tryz.f40) (Tryz.f40.ntmps)
theorem I_playedWhole_ok : GSOK Tryz.prog 40 I_playedWhole := inl_ok tok g_playedWhole fmo (Ht := H_playedWhole) (fn := Tryz.f40) (Tryz.func40) (c := C_playedWhole) (by kernel_rfl) (by kernel_rfl) (by kernel_rfl)
end Go.Proofs.Y
namespace Go.Proofs.Y
open Go.Rb Go.Kx
noncomputable def C_rainbooklaw_StoryWhole : Code := bodyOf Tryz.f8
noncomputable def G_rainbooklaw_StoryWhole : FuncId → Option GS := tabG [(30, R_rainbooklaw_at), (39, R_rainbooklaw_told), (45, I_sWhole), (40, I_playedWhole)]
theorem g_rainbooklaw_StoryWhole : ΓOK Tryz.prog G_rainbooklaw_StoryWhole := ΓOK_cons (R_rainbooklaw_at_ok) (ΓOK_cons (R_rainbooklaw_told_ok) (ΓOK_cons (I_sWhole_ok) (ΓOK_cons (I_playedWhole_ok) (ΓOK_nil))))
def H_rainbooklaw_StoryWhole : HT := ⟨tabL [], tabH []⟩
abbrev is_rainbooklaw_StoryWhole : List IT := [.v (.one (.sl 41 (.cons (.int .i64) (.cons (.int .i64) (.cons (.int .i64) (.one (.sl 77 (.cons (.int .i64) (.cons (.int .i64) (.one (.int .i64))))))))))) false, .v (.one (.int .i64)) false]
abbrev os_rainbooklaw_StoryWhole : List OT := [⟨.one .bool, false, []⟩]
set_option maxRecDepth 100000
noncomputable def F_rainbooklaw_StoryWhole : List (Int × Int × Int × List (Int × Int × Int)) → Int → Option Bool := fun (a : List (Int × Int × Int × List (Int × Int × Int))) (b : Int) => bindO (F_rainbooklaw_at b 4) fun (y : Int) => bindO F_rainbooklaw_told fun (y_1 : Bool) => ifB y_1 (bindO F_world_New fun (y_2 : List (List (Int × Int × Int × List Bool) × List (Int × Int)) × List Int × List Int × Bool × List Int) => ifB (in1 a (minI (lenI a) 60)) (loopN maxR (fun (x : Int × List (List (Int × Int × Int × List Bool) × List (Int × Int)) × List Int × List Int × Bool × List Int) => ifB (ltI x.1 (lenI (takeI a (minI (lenI a) 60)))) (bindO (atI (takeI a (minI (lenI a) 60)) x.1) fun (y_3 : Int × Int × Int × List (Int × Int × Int)) => bindO (F_world_Do (x.2.1, x.2.2.1, x.2.2.2.1, x.2.2.2.2.1, x.2.2.2.2.2) (y_3.1, y_3.2.1, y_3.2.2.1, y_3.2.2.2)) fun (y_4 : (List (List (Int × Int × Int × List Bool) × List (Int × Int)) × List Int × List Int × Bool × List Int) × Int) => ifB (eqI y_4.2 0) (bindO (F_disk_Recover (y_4.1.2.1, y_4.1.2.2.1)) fun (y_5 : (List Int × List Int) × List (Int × Int × Int × List (Int × Int × Int)) × Int) => ifB (neI y_5.2.2 0) (mapO Sum.inr (some false)) (bindO (F_story_Versions (y_4.1.1, y_4.1.2.1, y_4.1.2.2.1, y_4.1.2.2.2.1, y_4.1.2.2.2.2)) fun (y_6 : Int × Int) => ifB (neI y_6.2 0) (ifB (eqI y_6.2 0) (ifB (notB (eqI y_6.1 (lenI y_5.2.1))) (mapO Sum.inr (some false)) (some (Sum.inl (wadd .i64 x.1 1, y_4.1.1, y_4.1.2.1, y_4.1.2.2.1, y_4.1.2.2.2.1, y_4.1.2.2.2.2)))) (mapO Sum.inr (some false))) (ifB (neI y_6.1 (lenI y_5.2.1)) (ifB (eqI y_6.2 0) (ifB (notB (eqI y_6.1 (lenI y_5.2.1))) (mapO Sum.inr (some false)) (some (Sum.inl (wadd .i64 x.1 1, y_4.1.1, y_4.1.2.1, y_4.1.2.2.1, y_4.1.2.2.2.1, y_4.1.2.2.2.2)))) (mapO Sum.inr (some false))) (ifB (eqI y_6.1 0) (ifB (eqI y_6.2 0) (ifB (notB (eqI y_6.1 (lenI y_5.2.1))) (mapO Sum.inr (some false)) (some (Sum.inl (wadd .i64 x.1 1, y_4.1.1, y_4.1.2.1, y_4.1.2.2.1, y_4.1.2.2.2.1, y_4.1.2.2.2.2)))) (mapO Sum.inr (some false))) (bindO (atI y_5.2.1 (wsub .i64 y_6.1 1)) fun (y_7 : Int × Int × Int × List (Int × Int × Int)) => bindO (F_storyAtO (y_4.1.1, y_4.1.2.1, y_4.1.2.2.1, y_4.1.2.2.2.1, y_4.1.2.2.2.2) (wsub .i64 y_6.1 1) y) fun (y_8 : List (Int × Int) × Int) => bindO (F_storyAtO (y_4.1.1, y_4.1.2.1, y_4.1.2.2.1, y_4.1.2.2.2.1, y_4.1.2.2.2.2) y_6.1 y) fun (y_9 : List (Int × Int) × Int) => ifB (neI y_8.2 0) (mapO Sum.inr (some false)) (ifB (neI y_9.2 0) (mapO Sum.inr (some false)) (loopN maxR (fun (x_1 : Int × List (Int × Int)) => ifB (ltI x_1.1 (lenI y_7.2.2.2)) (bindO (atI y_7.2.2.2 x_1.1) fun (y_10 : Int × Int × Int) => ifB (eqI y_10.1 y) (ifB (roomA 16 x_1.2 [(y_10.2.1, y_10.2.2)]) (some (Sum.inl (wadd .i64 x_1.1 1, cat x_1.2 [(y_10.2.1, y_10.2.2)]))) none) (some (Sum.inl (wadd .i64 x_1.1 1, x_1.2)))) (mapO Sum.inr (ifB (eqI y_7.1 4) (ifB (leI (lenI y_9.1) (lenI x_1.2)) (ifB (in1 x_1.2 (wsub .i64 (lenI x_1.2) (lenI y_9.1))) (ifB (inN x_1.2 (addN 0 (natI (wsub .i64 (lenI x_1.2) (lenI y_9.1)))) (subNI (lenN x_1.2) (wsub .i64 (lenI x_1.2) (lenI y_9.1)))) (bindO (F_equalP y_9.1 (subN x_1.2 (addN 0 (natI (wsub .i64 (lenI x_1.2) (lenI y_9.1)))) (subNI (lenN x_1.2) (wsub .i64 (lenI x_1.2) (lenI y_9.1))))) fun (y : Bool) => ifB (notB y) (mapO Sum.inr (some false)) (some (Sum.inl (wadd .i64 x.1 1, y_4.1.1, y_4.1.2.1, y_4.1.2.2.1, y_4.1.2.2.2.1, y_4.1.2.2.2.2)))) none) none) (bindO (F_equalP y_9.1 x_1.2) fun (y : Bool) => ifB (notB y) (mapO Sum.inr (some false)) (some (Sum.inl (wadd .i64 x.1 1, y_4.1.1, y_4.1.2.1, y_4.1.2.2.1, y_4.1.2.2.2.1, y_4.1.2.2.2.2))))) (bindO (F_equalP y_9.1 x_1.2) fun (y : Bool) => ifB (notB y) (mapO Sum.inr (some false)) (some (Sum.inl (wadd .i64 x.1 1, y_4.1.1, y_4.1.2.1, y_4.1.2.2.1, y_4.1.2.2.2.1, y_4.1.2.2.2.2))))))) (0, y_8.1)))))))) (some (Sum.inl (wadd .i64 x.1 1, x.2.1, x.2.2.1, x.2.2.2.1, x.2.2.2.2.1, x.2.2.2.2.2)))) (mapO Sum.inr (some true))) (0, y_2.1, y_2.2.1, y_2.2.2.1, y_2.2.2.2.1, y_2.2.2.2.2)) none) (some false)
theorem F_rainbooklaw_StoryWhole_eq (x : PI is_rainbooklaw_StoryWhole) : F_rainbooklaw_StoryWhole (x.1) (x.2) = fnE T G_rainbooklaw_StoryWhole H_rainbooklaw_StoryWhole C_rainbooklaw_StoryWhole (resOf Tryz.f8) is_rainbooklaw_StoryWhole os_rainbooklaw_StoryWhole x := by kernel_rfl
noncomputable abbrev R_rainbooklaw_StoryWhole : GS := mkSpec false is_rainbooklaw_StoryWhole os_rainbooklaw_StoryWhole fun x => F_rainbooklaw_StoryWhole (x.1) (x.2)
theorem R_rainbooklaw_StoryWhole_ok : GSOK Tryz.prog 8 R_rainbooklaw_StoryWhole := spec_ok tok g_rainbooklaw_StoryWhole fmo (Ht := H_rainbooklaw_StoryWhole) (fn := Tryz.f8) (Tryz.func8) (c := C_rainbooklaw_StoryWhole) (by kernel_rfl) (by kernel_rfl) (by kernel_rfl) (by decide +kernel) (by decide) F_rainbooklaw_StoryWhole_eq
end Go.Proofs.Y
namespace Go.Proofs.Y
open Go.Rb Go.Kx
theorem atO_eq (w : Wd) (v i : Int) (h1 : w.2.1.1.length < 4611686018427387904) (h2 : w.2.1.2.length < 4611686018427387904) (hrd : w.2.2.2.length < 4611686018427387904) : F_storyAtO (wvd w) v i = some (atP w v i) := by
  rw [← sat_eq w v i h1 h2 hrd]; rfl
theorem entP_cons (i : Int) (e : Ent) (l : List Ent) : entP i (e :: l) = (if e.1 = i then [(e.2.1, e.2.2)] else []) ++ entP i l := by
  unfold entP
  by_cases h : e.1 = i
  · rw [if_pos h, List.filter_cons, if_pos (by simpa using h)]; rfl
  · rw [if_neg h, List.filter_cons, if_neg (by simpa using h)]; rfl
theorem entLoop {α : Type} (i : Int) (l : List Ent) (hl : l.length < 1000000) (F : List Pt → Option α) (s : List Pt) (hs : s.length ≤ 1000000) :
    loopN maxR (fun (x : Int × List Pt) => ifB (ltI x.1 (lenI l)) (bindO (atI l x.1) fun (e : Ent) => ifB (eqI e.1 i) (ifB (roomA 16 x.2 [(e.2.1, e.2.2)]) (some (Sum.inl (wadd .i64 x.1 1, cat x.2 [(e.2.1, e.2.2)]))) none) (some (Sum.inl (wadd .i64 x.1 1, x.2)))) (mapO Sum.inr (F x.2))) (0, s) = F (s ++ entP i l) := by
  refine loop_range l (fun j (s : List Pt) => ((j : Int), s)) (G := fun rest s => F (s ++ entP i rest)) (P := fun j s => s.length ≤ 1000000 + j) (s0 := s) ?_ ?_ (by simpa using hs) (by omega)
  · rintro j acc hj hp k hk
    have hat := atI_nat hj
    generalize l.getD j default = e at *
    simp only at hp ⊢
    rw [stepK_ifB, ifB_ltI, lenI_eq, if_pos (by omega), hat, bindO_some, stepK_ifB, ifB_eqI, entP_cons]
    by_cases h : e.1 = i
    · rw [if_pos h, if_pos h, stepK_ifB, ifB_roomA, if_pos (by simp only [List.length_cons, List.length_nil]; omega), stepK_inl, wadd_nat (by omega), cat_eq, hk _ (by simp only [List.length_append, List.length_cons, List.length_nil]; omega), List.append_assoc]
    · rw [if_neg h, if_neg h, stepK_inl, wadd_nat (by omega), hk _ (by omega), List.nil_append]
  · rintro acc hp k
    simp only
    rw [stepK_ifB, stepK_map, ifB_ltI, lenI_eq, if_neg (by omega)]
    simp [entP]
noncomputable def finW {β : Type} (t : Int) (z x : List Pt) (K : Option (Sum β Bool)) : Option (Sum β Bool) :=
  ifB (eqI t 4) (ifB (leI (lenI z) (lenI x)) (ifB (in1 x (wsub .i64 (lenI x) (lenI z))) (ifB (inN x (addN 0 (natI (wsub .i64 (lenI x) (lenI z)))) (subNI (lenN x) (wsub .i64 (lenI x) (lenI z))))
    (bindO (F_equalP z (subN x (addN 0 (natI (wsub .i64 (lenI x) (lenI z)))) (subNI (lenN x) (wsub .i64 (lenI x) (lenI z))))) fun (t : Bool) => ifB (notB t) (mapO Sum.inr (some false)) K) none) none)
    (bindO (F_equalP z x) fun (t : Bool) => ifB (notB t) (mapO Sum.inr (some false)) K)) (bindO (F_equalP z x) fun (t : Bool) => ifB (notB t) (mapO Sum.inr (some false)) K)
noncomputable def whB {β : Type} (v : Wv) (i : Int) (K : Option (Sum β Bool)) : Option (Sum β Bool) :=
  bindO (F_disk_Recover (v.2.1, v.2.2.1)) fun (d : (List Int × List Int) × List Rc × Int) => ifB (neI d.2.2 0) (mapO Sum.inr (some false)) (bindO (F_story_Versions v) fun (n : Int × Int) =>
    ifB (neI n.2 0) (ifB (eqI n.2 0) (ifB (notB (eqI n.1 (lenI d.2.1))) (mapO Sum.inr (some false)) K) (mapO Sum.inr (some false)))
    (ifB (neI n.1 (lenI d.2.1)) (ifB (eqI n.2 0) (ifB (notB (eqI n.1 (lenI d.2.1))) (mapO Sum.inr (some false)) K) (mapO Sum.inr (some false)))
    (ifB (eqI n.1 0) (ifB (eqI n.2 0) (ifB (notB (eqI n.1 (lenI d.2.1))) (mapO Sum.inr (some false)) K) (mapO Sum.inr (some false)))
    (bindO (atI d.2.1 (wsub .i64 n.1 1)) fun (r : Rc) => bindO (F_storyAtO v (wsub .i64 n.1 1) i) fun (q : List Pt × Int) => bindO (F_storyAtO v n.1 i) fun (z : List Pt × Int) => ifB (neI q.2 0) (mapO Sum.inr (some false)) (ifB (neI z.2 0) (mapO Sum.inr (some false))
      (loopN maxR (fun (x : Int × List Pt) => ifB (ltI x.1 (lenI r.2.2.2)) (bindO (atI r.2.2.2 x.1) fun (e : Ent) => ifB (eqI e.1 i) (ifB (roomA 16 x.2 [(e.2.1, e.2.2)]) (some (Sum.inl (wadd .i64 x.1 1, cat x.2 [(e.2.1, e.2.2)]))) none) (some (Sum.inl (wadd .i64 x.1 1, x.2)))) (mapO Sum.inr (finW r.1 z.1 x.2 K))) (0, q.1)))))))
theorem whole_form (a : List Hp) (b : Int) : F_rainbooklaw_StoryWhole a b = bindO (F_rainbooklaw_at b 4) fun (i : Int) => bindO F_rainbooklaw_told fun (t : Bool) => ifB t (playF (fun v K => whB v i K) a) (some false) := by kernel_rfl
theorem finW_eq {β : Type} {t : Int} {z x : List Pt} (K : Option (Sum β Bool)) (hx : x.length ≤ 1000000) (hz : z.length ≤ 1000000) (h4 : t = 4 → ∃ k, z = x.drop k ∧ k ≤ x.length) (hn : t ≠ 4 → z = x) : finW t z x K = K := by
  unfold finW
  rw [ifB_eqI]
  by_cases c : t = 4
  · obtain ⟨k, h1, h2⟩ := h4 c
    have hl : z.length = x.length - k := by rw [h1, List.length_drop]
    have e1 : wsub .i64 (lenI x) (lenI z) = (k : Int) := by rw [lenI_eq, lenI_eq, wsub_in ⟨by omega, by omega⟩]; omega
    have e2 : subN x (addN 0 (natI (k : Int))) (subNI (lenN x) (k : Int)) = z := by
      unfold subN addN natI subNI lenN
      rw [Int.toNat_natCast, Nat.zero_add, h1]
      exact List.take_of_length_le (by rw [List.length_drop]; omega)
    have e3 : addN 0 (natI (k : Int)) = k := by unfold addN natI; omega
    have e4 : subNI (lenN x) (k : Int) = x.length - k := by unfold subNI lenN; omega
    rw [if_pos c, e1, e2, e3, e4, ifB_leI, lenI_eq, lenI_eq, if_pos (by omega), ifB_in1, if_pos ⟨by omega, by omega⟩, ifB_inN, if_pos (by omega), equalP_eq (by omega), bindO_some, decide_eq_true rfl, ifB_not, ifB_t]
  · rw [if_neg c, hn c, equalP_eq (by omega), bindO_some, decide_eq_true rfl, ifB_not, ifB_t]
theorem whB_eq {β : Type} {v : Wd} (h : Inv v) {i : Int} (i0 : 0 ≤ i) (i1 : i < 4) (K : Option (Sum β Bool)) : whB (wvd v) i K = K := by
  obtain ⟨l1, l3, lS⟩ := okc_len h.1
  have h60 := inv_len h
  have o4 := (chkW_zero h.1).2.1
  have hok : ∀ n, (ptsV (recsW v) n i).length ≤ 40 := fun n => checkL_len (ptsV_ok h.2 n i0 i1)
  unfold whB
  refine (bind_of (dRecover_eq v.2.1 (by omega) (by omega)) _).trans ?_
  simp only
  rw [ifB_neI, if_pos o4, versions_eq v (by omega) (by omega) (by omega), bindO_some, ver_inv h]
  simp only
  rw [ifB_neI, if_pos rfl, ifB_neI, lenI_eq, if_pos rfl, ifB_eqI]
  by_cases c : (recsW v).length = 0
  · rw [if_pos (by omega), ifB_eqI, if_pos rfl, ifB_not, ifB_eqI, if_pos rfl]
  · rw [if_neg (by omega), wsub_in ⟨by omega, by omega⟩]
    obtain ⟨m, hm⟩ : ∃ m, (recsW v).length = m + 1 := ⟨(recsW v).length - 1, by omega⟩
    have e1 : (((recsW v).length : Int) - 1) = (m : Int) := by omega
    have hat := atI_nat (l := recsW v) (j := m) (by omega)
    have hrec : chkRec ((recsW v).getD m default) = 0 := (replayR_len h.2).2.2 _ (getD_mem (by omega))
    obtain ⟨s1, s2⟩ := step_pts h.2 (n := m) (by omega) i0 i1
    have hm1 := hok m
    have hm2 := hok (m + 1)
    rw [e1, hat, bindO_some, atO_eq v _ i (by omega) (by omega) (by omega), bindO_some, atO_eq v _ i (by omega) (by omega) (by omega), bindO_some, at_inv h (by omega) (by omega) i0 i1, at_inv h (by omega) (by omega) i0 i1, Int.toNat_natCast, Int.toNat_natCast, hm]
    generalize (recsW v).getD m default = r at *
    have hr := small_rec hrec
    have hE : r.2.2.2.length ≤ 10 := by
      obtain ⟨_, _, k3, k4⟩ := chkRec_kind hrec
      by_cases q : r.1 = 1
      · exact (k3 q).2.2.1
      · rw [(k4 q).1]; decide
    have hEl : (entP i r.2.2.2).length ≤ 10 := by
      unfold entP; rw [List.length_map]
      have := List.length_filter_le (fun x : Ent => decide (x.1 = i)) r.2.2.2
      omega
    simp only
    rw [ifB_neI, if_pos rfl, ifB_neI, if_pos rfl]
    refine (entLoop i r.2.2.2 (by omega) (fun x => finW r.1 (ptsV (recsW v) (m + 1) i) x K) _ (by omega)).trans ?_
    refine finW_eq K (by rw [List.length_append]; omega) (by omega) (fun c4 => ?_) (fun c4 => s2 c4)
    obtain ⟨g1, k, g2, g3⟩ := s1 c4
    rw [g1, show entP i [] = [] from rfl, List.append_nil]
    exact ⟨k, g2, g3⟩
theorem storyWhole_eq (a : List Hp) (b : Int) (hx : ∀ x ∈ a, x.2.2.2.length < 4611686018427387904) : F_rainbooklaw_StoryWhole a b = some true := by
  rw [whole_form]
  obtain ⟨i, hi, i0, i1⟩ := at_some b 4 (by omega) (by omega)
  rw [hi, bindO_some, told_eq, bindO_some, ifB_t]
  exact played_eq (fun v hv K => whB_eq hv i0 i1 K) a hx
end Go.Proofs.Y
namespace Go.Proofs.Y
open Go.Rb Go.Kx
theorem by77 : Tryz.prog.bytesOf 77 = 24 := by kernel_rfl
theorem reach_eq : reachBytes = 140737488351232 := by decide +kernel
abbrev entR : RT := .cons (.int .i64) (.cons (.int .i64) (.one (.int .i64)))
abbrev recR : RT := .cons (.int .i64) (.cons (.int .i64) (.cons (.int .i64) (.one (.sl 77 entR))))
theorem op_rec (r : DenR recR) (h : BdR Tryz.prog recR r) : (r : Rc).2.2.2.length < 4611686018427387904 := by
  obtain ⟨_, _, _, h, _⟩ := h
  rw [by77, reach_eq] at h
  show List.length r.2.2.2 < _
  omega
end Go.Proofs.Y
namespace Go.Proofs.Y
open Go.Rb Go.Kx
theorem by41 : Tryz.prog.bytesOf 41 = 48 := by kernel_rfl
theorem op_haps (l : Den (.sl 41 recR)) (h : Bd Tryz.prog (.sl 41 recR) l) : List.length (show List Hp from l) < 4611686018427387904 ∧ ∀ r ∈ (show List Hp from l), r.2.2.2.length < 4611686018427387904 := by
  obtain ⟨h1, h2⟩ := h
  rw [by41, reach_eq] at h1
  refine ⟨?_, fun r hr => op_rec r (h2 r hr)⟩
  show List.length l < _; omega
end Go.Proofs.Y
namespace Go.Proofs.YtnkegapccacndaaGreatDoor
open Go.Rb Go.Kx Go.RowKit
abbrev laidL : List (String × DataW Unit) := Rows.storePartsRow.laid
theorem row249 (u : TypeId) (h : Tryz.prog.typeName? 3 u = some "*errors.errorString") : u = 249 :=
  typeName_ptr_named (nm := "errors.errorString") (by kernel_rfl) (by kernel_rfl) (by decide) u h
theorem cells251 : Tryz.prog.cellsOf 251 = 1 := by kernel_rfl
theorem cells9 : Tryz.prog.cellsOf 9 = 1 := by kernel_rfl
theorem glob_of {W : World} (h : laidMetH Tryz.prog laidL W) (hsh : W.ShapedOpen Tryz.prog) : Glob Tryz.prog W ∧ NG Tryz.prog ≤ W.heap.size := by
  rw [MakeChecks.laidMetH_plain _ _ _ (by kernel_rfl)] at h
  have h3 : laidMet Tryz.prog (("internal/strconv.uint64pow10", Lib.tabData .u64 Lib.pow10Tab) :: laidL.drop 3) W := h.tail.tail
  have h5 := h.tail.tail.tail.tail
  have h6 := h5.tail
  refine ⟨⟨?_, ?_, ?_, ?_⟩, ng_le hsh (by kernel_rfl) (by kernel_rfl)⟩
  · exact Lib.tabIs_of_head (g := 1) (t := 238) (e := 202) (n := 20) (by kernel_rfl) (by kernel_rfl) Tryz.underlying238 Tryz.underlying202 (by kernel_rfl) (by kernel_rfl) h3
  · obtain ⟨a, s, hv, _⟩ := laid_sentinel (g := 2) (ti := 183) h6 (by kernel_rfl) (by kernel_rfl) Tryz.underlying183 row249 Tryz.underlying249 Tryz.underlying251 rfl rfl Tryz.underlying9 cells251 cells9
    exact ⟨_, _, hv⟩
  · obtain ⟨a, s, hv, _⟩ := laid_sentinel (g := 3) (ti := 183) h5 (by kernel_rfl) (by kernel_rfl) Tryz.underlying183 row249 Tryz.underlying249 Tryz.underlying251 rfl rfl Tryz.underlying9 cells251 cells9
    exact ⟨_, _, hv⟩
  · exact glob_int (g := 0) (t := 3) (zero := #[.int .i64 0]) hsh (by kernel_rfl) (by kernel_rfl) (by kernel_rfl) (by kernel_rfl) (by kernel_rfl) Tryz.underlying3
theorem own : ownKnob Tryz.prog.godebug = none := by kernel_rfl
theorem laid_fits (os : Os) : (World.holding Tryz.prog os ⟨#[], #[], []⟩).layFits Tryz.prog laidL [] = true := by kernel_rfl
theorem laid_ifaces (os : Os) : (World.holding Tryz.prog os ⟨#[], #[], []⟩).layIfaces Tryz.prog laidL (World.laidAll Tryz.prog os laidL) = true := by kernel_rfl
theorem laid_met (os : Os) (args : Array Value) : laidMetH Tryz.prog laidL ((World.laidAll Tryz.prog os laidL).forCall (fun _ _ => 0) ⟨#[], args, []⟩).memory := by
  rw [MakeChecks.laidMetH_plain _ _ _ (by kernel_rfl)]
  exact laidMet_laidAll _ (laid_fits os) (laid_ifaces os)
end Go.Proofs.YtnkegapccacndaaGreatDoor
