/-
  What is proved, part by part: what story.Versions comes to. what story.At comes to. what rainbooklaw.told comes to. versions, and what was there at one: what the program's functions come to, in plain words; the closed fact on versions. versions of a world that came about from the new one: they only grow; what is there at one, by what its record says. a script played from the new world on: if at each moment the answer is yes, it is. what rainbooklaw.StoryReaders$1 comes to. what rainbooklaw.played comes to. what rainbooklaw.StoryReaders comes to. each reader sees what was there at its version: the law's body is true, in plain words. what slices.Index[[]api.Point,api.Point] comes to. what slices.Contains[[]api.Point,api.Point] comes to. what rainbooklaw.StoryRises$1 comes to. what rainbooklaw.played comes to. what rainbooklaw.StoryRises comes to. at each version the points rise, and nothing comes ahead of what was the last one: the law's body is true, in plain words. what story.At comes to. what rainbooklaw.StoryWhole$1 comes to. what rainbooklaw.played comes to. what rainbooklaw.StoryWhole comes to. batches are there wholly, or not at all: the law's body is true, in plain words. what rainbooklaw.StoryGrows$1 comes to. what rainbooklaw.played comes to. what rainbooklaw.StoryGrows comes to. versions only grow, and what was there at one stays so: the law's body is true, in plain words. what a law is handed is no larger than memory. a world that a law is handed is no larger than memory; its bytes are bytes. what the rows list of package-level variables is what the library's functions ask. Conditions: none.
-/
import Derived.Test.YtnkegapccacndaaGreatDoorKPA
import Derived.Test.YtnkegapccacndaaGreatDoorKPD
import Derived.Test.YtnkegapccacndaaGreatDoorKPB
import Derived.Test.YtnkegapccacndaaGreatDoorKPE
import Derived.Test.YtnkegapccacndaaGreatDoorKED
import Derived.Test.YtnkegapccacndaaGreatDoorProg
import Derived.KernelRfl
import Derived.Test.YtnkegapccacndaaGreatDoorRows
set_option linter.unusedVariables false
set_option linter.unusedSimpArgs false
set_option linter.unnecessarySimpa false
set_option maxRecDepth 4000
namespace Go.Proofs.Y
open Go.Rb Go.Kx
noncomputable def C_story_Versions : Code := bodyOf Tryz.f42
noncomputable def G_story_Versions : FuncId → Option GS := tabG [(24, R_world_Check), (34, R_disk_Recover)]
theorem g_story_Versions : ΓOK Tryz.prog G_story_Versions := ΓOK_cons (R_world_Check_ok) (ΓOK_cons (R_disk_Recover_ok) (ΓOK_nil))
def H_story_Versions : HT := ⟨tabL [], tabH []⟩
abbrev is_story_Versions : List IT := [.v (.cons (.sl 95 (.cons (.sl 126 (.cons (.int .i64) (.cons (.int .i64) (.cons (.int .i64) (.one (.sl 4 (.one .bool))))))) (.one (.sl 73 (.cons (.int .i64) (.one (.int .i64))))))) (.cons (.sl 5 (.one (.int .u8))) (.cons (.sl 5 (.one (.int .u8))) (.cons (.bool) (.one (.sl 3 (.one (.int .i64)))))))) true]
abbrev os_story_Versions : List OT := [⟨.one (.int .i64), false, []⟩, ⟨.one (.int .i64), false, []⟩]
set_option maxRecDepth 100000
noncomputable def F_story_Versions : List (List (Int × Int × Int × List Bool) × List (Int × Int)) × List Int × List Int × Bool × List Int → Option (Int × Int) := fun (a : List (List (Int × Int × Int × List Bool) × List (Int × Int)) × List Int × List Int × Bool × List Int) => bindO (F_world_Check (a.1, a.2.1, a.2.2.1, a.2.2.2.1, a.2.2.2.2)) fun (y : Int) => ifB (neI y 0) (some (0, y)) (bindO (F_disk_Recover (a.2.1, a.2.2.1)) fun (y : (List Int × List Int) × List (Int × Int × Int × List (Int × Int × Int)) × Int) => some (lenI y.2.1, 0))
theorem F_story_Versions_eq (x : PI is_story_Versions) : F_story_Versions x = fnE T G_story_Versions H_story_Versions C_story_Versions (resOf Tryz.f42) is_story_Versions os_story_Versions x := by kernel_rfl
noncomputable abbrev R_story_Versions : GS := mkSpec false is_story_Versions os_story_Versions fun x => F_story_Versions x
theorem R_story_Versions_ok : GSOK Tryz.prog 42 R_story_Versions := spec_ok tok g_story_Versions fmo (Ht := H_story_Versions) (fn := Tryz.f42) (Tryz.func42) (c := C_story_Versions) (by kernel_rfl) (by kernel_rfl) (by kernel_rfl) (by decide +kernel) (by decide) F_story_Versions_eq
end Go.Proofs.Y
namespace Go.Proofs.Y
open Go.Rb Go.Kx
noncomputable def C_story_At : Code := bodyOf Tryz.f43
noncomputable def G_story_At : FuncId → Option GS := tabG [(24, R_world_Check), (34, R_disk_Recover), (28, R_store_Replay), (48, R_shelf_All)]
theorem g_story_At : ΓOK Tryz.prog G_story_At := ΓOK_cons (R_world_Check_ok) (ΓOK_cons (R_disk_Recover_ok) (ΓOK_cons (R_store_Replay_ok) (ΓOK_cons (R_shelf_All_ok) (ΓOK_nil))))
def H_story_At : HT := ⟨tabL [], tabH []⟩
abbrev is_story_At : List IT := [.v (.cons (.sl 95 (.cons (.sl 126 (.cons (.int .i64) (.cons (.int .i64) (.cons (.int .i64) (.one (.sl 4 (.one .bool))))))) (.one (.sl 73 (.cons (.int .i64) (.one (.int .i64))))))) (.cons (.sl 5 (.one (.int .u8))) (.cons (.sl 5 (.one (.int .u8))) (.cons (.bool) (.one (.sl 3 (.one (.int .i64)))))))) true, .v (.one (.int .i64)) false, .v (.one (.int .i64)) false]
abbrev os_story_At : List OT := [⟨.one (.sl 73 (.cons (.int .i64) (.one (.int .i64)))), false, []⟩, ⟨.one (.int .i64), false, []⟩]
set_option maxRecDepth 100000
noncomputable def F_story_At : List (List (Int × Int × Int × List Bool) × List (Int × Int)) × List Int × List Int × Bool × List Int → Int → Int → Option (List (Int × Int) × Int) := fun (a : List (List (Int × Int × Int × List Bool) × List (Int × Int)) × List Int × List Int × Bool × List Int) (b c : Int) => bindO (F_world_Check (a.1, a.2.1, a.2.2.1, a.2.2.2.1, a.2.2.2.2)) fun (y : Int) => ifB (neI y 0) (some ([], y)) (bindO (F_disk_Recover (a.2.1, a.2.2.1)) fun (y : (List Int × List Int) × List (Int × Int × Int × List (Int × Int × Int)) × Int) => ifB (ltI b 0) (some ([], 7)) (ifB (gtI b (lenI y.2.1)) (some ([], 7)) (ifB (in1 y.2.1 b) (bindO (F_store_Replay (takeI y.2.1 b)) fun (y : List (List (Int × Int × Int × List Bool) × List (Int × Int)) × Int) => ifB (neI y.2 0) (some ([], y.2)) (bindO (F_shelf_All y.1 c) fun (y : List (Int × Int) × Int) => some (y.1, y.2))) none)))
theorem F_story_At_eq (x : PI is_story_At) : F_story_At (x.1) (x.2.1) (x.2.2) = fnE T G_story_At H_story_At C_story_At (resOf Tryz.f43) is_story_At os_story_At x := by kernel_rfl
noncomputable abbrev R_story_At : GS := mkSpec false is_story_At os_story_At fun x => F_story_At (x.1) (x.2.1) (x.2.2)
theorem R_story_At_ok : GSOK Tryz.prog 43 R_story_At := spec_ok tok g_story_At fmo (Ht := H_story_At) (fn := Tryz.f43) (Tryz.func43) (c := C_story_At) (by kernel_rfl) (by kernel_rfl) (by kernel_rfl) (by decide +kernel) (by decide) F_story_At_eq
end Go.Proofs.Y
namespace Go.Proofs.Y
open Go.Rb Go.Kx
noncomputable def C_rainbooklaw_told : Code := bodyOf Tryz.f39
noncomputable def G_rainbooklaw_told : FuncId → Option GS := tabG [(26, R_world_New), (17, R_world_Run), (42, R_story_Versions), (43, R_story_At)]
theorem g_rainbooklaw_told : ΓOK Tryz.prog G_rainbooklaw_told := ΓOK_cons (R_world_New_ok) (ΓOK_cons (R_world_Run_ok) (ΓOK_cons (R_story_Versions_ok) (ΓOK_cons (R_story_At_ok) (ΓOK_nil))))
def H_rainbooklaw_told : HT := ⟨tabL [], tabH []⟩
abbrev is_rainbooklaw_told : List IT := []
abbrev os_rainbooklaw_told : List OT := [⟨.one .bool, false, []⟩]
set_option maxRecDepth 100000
noncomputable def F_rainbooklaw_told : Option Bool :=  bindO F_world_New fun (y : List (List (Int × Int × Int × List Bool) × List (Int × Int)) × List Int × List Int × Bool × List Int) => bindO (F_world_Run (y.1, y.2.1, y.2.2.1, y.2.2.2.1, y.2.2.2.2) [(1, 0, 0, [(0, 5, 0), (0, 6, 0)]), (2, 0, 2, []), (4, 0, 9, [])]) fun (y : (List (List (Int × Int × Int × List Bool) × List (Int × Int)) × List Int × List Int × Bool × List Int) × List Int × Int) => bindO (F_story_Versions (y.1.1, y.1.2.1, y.1.2.2.1, y.1.2.2.2.1, y.1.2.2.2.2)) fun (y_1 : Int × Int) => bindO (F_story_At (y.1.1, y.1.2.1, y.1.2.2.1, y.1.2.2.2.1, y.1.2.2.2.2) 2 0) fun (y_2 : List (Int × Int) × Int) => bindO (F_story_At (y.1.1, y.1.2.1, y.1.2.2.1, y.1.2.2.2.1, y.1.2.2.2.2) 3 0) fun (y_3 : List (Int × Int) × Int) => bindO (F_story_At (y.1.1, y.1.2.1, y.1.2.2.1, y.1.2.2.2.1, y.1.2.2.2.2) 4 0) fun (y_4 : List (Int × Int) × Int) => ifB (eqI y.2.2 0) (ifB (eqI y_1.2 0) (ifB (eqI y_2.2 0) (ifB (eqI y_3.2 0) (ifB (eqI y_4.2 7) (ifB (eqI y_1.1 3) (ifB (eqI (lenI y_2.1) 2) (some (eqI (lenI y_3.1) 0)) (some false)) (some false)) (some false)) (some false)) (some false)) (some false)) (some false)
theorem F_rainbooklaw_told_eq (x : PI is_rainbooklaw_told) : F_rainbooklaw_told  = fnE T G_rainbooklaw_told H_rainbooklaw_told C_rainbooklaw_told (resOf Tryz.f39) is_rainbooklaw_told os_rainbooklaw_told x := by kernel_rfl
noncomputable abbrev R_rainbooklaw_told : GS := mkSpec false is_rainbooklaw_told os_rainbooklaw_told fun x => F_rainbooklaw_told 
theorem R_rainbooklaw_told_ok : GSOK Tryz.prog 39 R_rainbooklaw_told := spec_ok tok g_rainbooklaw_told fmo (Ht := H_rainbooklaw_told) (fn := Tryz.f39) (Tryz.func39) (c := C_rainbooklaw_told) (by kernel_rfl) (by kernel_rfl) (by kernel_rfl) (by decide +kernel) (by decide) F_rainbooklaw_told_eq
end Go.Proofs.Y
namespace Go.Proofs.Y
open Go.Rb Go.Kx
theorem versions_eq (w : Wd) (h1 : w.2.1.1.length < 4611686018427387904) (h2 : w.2.1.2.length < 4611686018427387904) (hrd : w.2.2.2.length < 4611686018427387904) : F_story_Versions (wvd w) = some (verP w) := by
  unfold F_story_Versions
  refine (bind_of (worldCheck_eq w.1 w.2.1 w.2.2.1 w.2.2.2 h1 h2 hrd) _).trans ?_
  rw [ifB_neI]
  unfold verP
  by_cases hc : okc w = 0
  · rw [if_pos hc, if_pos hc]
    refine (bind_of (dRecover_eq w.2.1 h1 h2) _).trans ?_
    rw [lenI_eq]
  · rw [if_neg hc, if_neg hc]
theorem sat_eq (w : Wd) (v i : Int) (h1 : w.2.1.1.length < 4611686018427387904) (h2 : w.2.1.2.length < 4611686018427387904) (hrd : w.2.2.2.length < 4611686018427387904) : F_story_At (wvd w) v i = some (atP w v i) := by
  unfold F_story_At
  refine (bind_of (worldCheck_eq w.1 w.2.1 w.2.2.1 w.2.2.2 h1 h2 hrd) _).trans ?_
  rw [ifB_neI]
  unfold atP
  by_cases hc : okc w = 0
  · obtain ⟨_, o4, _⟩ := chkW_zero hc
    have hrec := recs_ok w.2.1
    have hrl := recs_len w.2.1 o4
    rw [if_pos hc, if_pos hc]
    refine (bind_of (dRecover_eq w.2.1 h1 h2) _).trans ?_
    simp only
    rw [ifB_ltI, ifB_gtI, lenI_eq]
    by_cases c1 : v < 0
    · rw [if_pos c1, if_pos (.inl c1)]
    rw [if_neg c1]
    by_cases c2 : ((dRecover w.2.1).2.1.length : Int) < v
    · rw [if_pos c2, if_pos (.inr c2)]
    rw [if_neg c2, if_neg (by rintro (h | h); exact c1 h; exact c2 h), ifB_in1, if_pos ⟨by omega, by omega⟩, takeI_eq, replay_eq _ (by rw [List.length_take]; omega) (fun r hr => small_rec (hrec r (List.mem_of_mem_take hr))), bindO_some, ifB_neI]
    by_cases c3 : (replayR ((dRecover w.2.1).2.1.take v.toNat)).2 = 0
    · rw [if_pos c3, if_pos c3, allS_eq _ _ (replayR_okS _), bindO_some]
    · rw [if_neg c3, if_neg c3]
  · rw [if_neg hc, if_neg hc]
def l3 : List Hp := [(1, 0, 0, [(0, 5, 0), (0, 6, 0)]), (2, 0, 2, []), (4, 0, 9, [])]
def wT : Wd := (runP l3 w0 []).1
theorem chkT : okc wT = 0 := by decide +kernel
theorem said3 : (runP l3 w0 []).2 = [0, 0, 0] := by decide +kernel
theorem run3 : F_world_Run (wvd w0) l3 = some (wvd wT, [0, 0, 0], 0) := by
  rw [run_eq w0 l3 (by decide) (by decide) (by decide) (by decide), if_pos chk0, if_neg (by decide), said3]; rfl
theorem verT : verP wT = (3, 0) := by decide +kernel
theorem atT2 : (atP wT 2 0).2 = 0 ∧ (atP wT 2 0).1.length = 2 := by decide +kernel
theorem atT3 : (atP wT 3 0).2 = 0 ∧ (atP wT 3 0).1.length = 0 := by decide +kernel
theorem atT4 : (atP wT 4 0).2 = 7 := by decide +kernel
theorem told_eq : F_rainbooklaw_told = some true := by
  obtain ⟨a1, a2, _⟩ := okc_len chkT
  have b1 : wT.2.1.1.length < 4611686018427387904 := by omega
  have b2 : wT.2.1.2.length < 4611686018427387904 := by omega
  have b3 : wT.2.2.2.length < 4611686018427387904 := by omega
  unfold F_rainbooklaw_told
  refine (bind_of new_world _).trans ?_
  refine (bind_of run3 _).trans ?_
  refine (bind_of (versions_eq wT b1 b2 b3) _).trans ?_
  refine (bind_of (sat_eq wT 2 0 b1 b2 b3) _).trans ?_
  refine (bind_of (sat_eq wT 3 0 b1 b2 b3) _).trans ?_
  refine (bind_of (sat_eq wT 4 0 b1 b2 b3) _).trans ?_
  simp only [verT, atT2.1, atT2.2, atT3.1, atT3.2, atT4, lenI_eq, ifB_eqI, if_true]
  rfl
end Go.Proofs.Y
namespace Go.Proofs.Y
open Go.Rb Go.Kx
def Inv (w : Wd) : Prop := okc w = 0 ∧ (replayR (recsW w)).2 = 0
theorem inv_new : Inv w0 := ⟨chk0, by decide +kernel⟩
theorem replay_take {L : List Rc} (h : (replayR L).2 = 0) (k : Nat) : (replayR (L.take k)).2 = 0 := by
  have h60 := (replayR_len h).1
  have e1 : replayR L = replayS freshS L := by unfold replayR; rw [if_neg (by omega)]
  have e2 : replayR (L.take k) = replayS freshS (L.take k) := by unfold replayR; rw [if_neg (by rw [List.length_take]; omega)]
  rw [e2]
  refine (replayS_app (L.drop k) (L.take k) freshS ?_).1
  rw [List.take_append_drop, ← e1]; exact h
theorem inv_hap {w : Wd} {x : Hp} (h : Inv w) (he : (hapP w x).2 = 0) : Inv (hapP w x).1 ∧ (recsW (hapP w x).1 = recsW w ∨ ∃ r, recsW (hapP w x).1 = recsW w ++ [r]) := by
  have hk := hapP_keeps h.1 he
  obtain ⟨s, d, up, rd⟩ := w
  cases up with
  | true =>
    obtain ⟨L, rfl, hL, h1, h2, h3, h4⟩ := up_of h.1
    obtain ⟨a1, _, a3⟩ := replayR_len h1
    have eL : recsW (s, (textL L, []), true, rd) = L := hL
    rw [eL]
    rcases hap_up h1 h2 h3 he with ⟨r, _, g1, g2, g3, g4⟩ | ⟨v, g1, _⟩ | ⟨_, g1⟩ | ⟨_, r, k, g1, g2, g3, g4⟩
    · have e : recsW (hapP (s, (textL L, []), true, rd) x).1 = L ++ [r] := by
        rw [g1]
        obtain ⟨b1, _, b3⟩ := replayR_len g3
        show (dRecover (textL (L ++ [r]), [])).2.1 = _
        rw [(rec_text b3 b1).2]
      exact ⟨⟨hk, by rw [e]; exact g3⟩, .inr ⟨r, e⟩⟩
    · have e : recsW (hapP (s, (textL L, []), true, rd) x).1 = L := by rw [g1]; exact hL
      exact ⟨⟨hk, by rw [e]; exact h1⟩, .inl e⟩
    · have e : recsW (hapP (s, (textL L, []), true, rd) x).1 = L := by rw [g1]; exact hL
      exact ⟨⟨hk, by rw [e]; exact h1⟩, .inl e⟩
    · have hlp : (lnP 60 (textL L)).1 = L := by rw [lnP_whole a3 (by omega)]
      rcases torn_disk (s := textL L) (r := r) (k := k) g2 g4 with hR | ⟨hn, hR⟩
      · have e : recsW (hapP (s, (textL L, []), true, rd) x).1 = L := by
          rw [g1]
          show (dRecover (textL L, (lineT r).take k)).2.1 = _
          rw [hR, hlp]
        exact ⟨⟨hk, by rw [e]; exact h1⟩, .inl e⟩
      · have e : recsW (hapP (s, (textL L, []), true, rd) x).1 = L ++ [r] := by
          rw [g1]
          show (dRecover (textL L, (lineT r).take k)).2.1 = _
          rw [hR, hlp]
        rw [hlp] at hn
        exact ⟨⟨hk, by rw [e]; exact (replay_one h1 hn (by rw [h2]; exact g3)).1⟩, .inr ⟨r, e⟩⟩
  | false =>
    obtain ⟨rfl, rfl, hd⟩ := down_of h.1
    obtain ⟨_, g1, g2⟩ := hap_down hd he
    have e : recsW (hapP (freshS, d, false, [-1, -1, -1]) x).1 = (dRecover d).2.1 := by
      rw [g2]
      obtain ⟨b1, _, b3⟩ := replayR_len g1
      show (dRecover (textL (dRecover d).2.1, [])).2.1 = _
      rw [(rec_text b3 b1).2]
    exact ⟨⟨hk, by rw [e]; exact g1⟩, .inl e⟩
def ptsV (L : List Rc) (v : Nat) (i : Int) : List Pt := (allS (replayR (L.take v)).1 i).1
theorem at_inv {w : Wd} (h : Inv w) {v i : Int} (v0 : 0 ≤ v) (v1 : v ≤ (recsW w).length) (i0 : 0 ≤ i) (i1 : i < 4) : atP w v i = (ptsV (recsW w) v.toNat i, 0) := by
  have hr := replay_take h.2 v.toNat
  have hc := (replayR_len hr).2.1
  unfold atP
  rw [if_pos h.1, if_neg (by omega), if_pos hr]
  have := allS_of hc i0 i1
  exact Prod.ext rfl this
theorem ver_inv {w : Wd} (h : Inv w) : verP w = (((recsW w).length : Int), 0) := by unfold verP; rw [if_pos h.1]
theorem ptsV_ok {L : List Rc} (h : (replayR L).2 = 0) (v : Nat) {i : Int} (i0 : 0 ≤ i) (i1 : i < 4) : checkL (ptsV L v i) = 0 := by
  have hc := (replayR_len (replay_take h v)).2.1
  have e := allS_is hc i0 i1
  unfold ptsV
  rw [e]
  exact (allR_is (chkS_row hc (by omega))).2.2.1
end Go.Proofs.Y
namespace Go.Proofs.Y
open Go.Rb Go.Kx
theorem part60 (a : List Hp) : ∃ l : List Hp, takeI a (minI (lenI a) 60) = l ∧ l.length ≤ 60 ∧ (∀ x ∈ l, x ∈ a) ∧ 0 ≤ minI (lenI a) 60 ∧ minI (lenI a) 60 ≤ a.length := by
  have hm : minI (lenI a) 60 = min (a.length : Int) 60 := by rw [lenI_eq]; rfl
  refine ⟨_, rfl, ?_, ?_, ?_, ?_⟩
  · rw [takeI_eq, hm, List.length_take]; omega
  · rw [takeI_eq]; exact fun x hx => List.mem_of_mem_take hx
  · rw [hm]; omega
  · rw [hm]; omega
end Go.Proofs.Y
namespace Go.Proofs.Y
open Go.Rb Go.Kx
end Go.Proofs.Y
namespace Go.Proofs.Y
open Go.Rb Go.Kx
end Go.Proofs.Y
namespace Go.Proofs.Y
open Go.Rb Go.Kx
set_option maxRecDepth 100000
end Go.Proofs.Y
namespace Go.Proofs.Y
open Go.Rb Go.Kx
end Go.Proofs.Y
namespace Go.Proofs.Y
open Go.Rb Go.Kx
set_option maxRecDepth 100000
end Go.Proofs.Y
namespace Go.Proofs.Y
open Go.Rb Go.Kx
set_option maxRecDepth 100000
end Go.Proofs.Y
namespace Go.Proofs.Y
open Go.Rb Go.Kx
end Go.Proofs.Y
namespace Go.Proofs.Y
open Go.Rb Go.Kx
end Go.Proofs.Y
namespace Go.Proofs.Y
open Go.Rb Go.Kx
set_option maxRecDepth 100000
end Go.Proofs.Y
namespace Go.Proofs.Y
open Go.Rb Go.Kx
end Go.Proofs.Y
namespace Go.Proofs.Y
open Go.Rb Go.Kx
set_option maxRecDepth 100000
end Go.Proofs.Y
namespace Go.Proofs.Y
open Go.Rb Go.Kx
end Go.Proofs.Y
namespace Go.Proofs.Y
open Go.Rb Go.Kx
end Go.Proofs.Y
namespace Go.Proofs.Y
open Go.Rb Go.Kx
set_option maxRecDepth 100000
end Go.Proofs.Y
namespace Go.Proofs.Y
open Go.Rb Go.Kx
end Go.Proofs.Y
namespace Go.Proofs.Y
open Go.Rb Go.Kx
noncomputable def C_sGrows : Code := bodyOf Tryz.f41
noncomputable def G_sGrows : FuncId → Option GS := tabG [(42, R_story_Versions), (43, R_story_At), (44, R_equalP)]
theorem g_sGrows : ΓOK Tryz.prog G_sGrows := ΓOK_cons (R_story_Versions_ok) (ΓOK_cons (R_story_At_ok) (ΓOK_cons (R_equalP_ok) (ΓOK_nil)))
def H_sGrows : HT := ⟨tabL [], tabH []⟩
noncomputable def I_sGrows : GS := inl T G_sGrows H_sGrows C_sGrows (resOf Tryz.f41) (Tryz.f41.ntmps)
theorem I_sGrows_ok : GSOK Tryz.prog 41 I_sGrows := inl_ok tok g_sGrows fmo (Ht := H_sGrows) (fn := Tryz.f41) (Tryz.func41) (c := C_sGrows) (by kernel_rfl) (by kernel_rfl) (by kernel_rfl)
end Go.Proofs.Y
namespace Go.Proofs.Y
open Go.Rb Go.Kx
noncomputable def C_playedGrows : Code := bodyOf Tryz.f40
noncomputable def G_playedGrows : FuncId → Option GS := tabG [(26, R_world_New), (23, R_world_Do), (41, I_sGrows)]
theorem g_playedGrows : ΓOK Tryz.prog G_playedGrows := ΓOK_cons (R_world_New_ok) (ΓOK_cons (R_world_Do_ok) (ΓOK_cons (I_sGrows_ok) (ΓOK_nil)))
def H_playedGrows : HT := ⟨tabL [(3, .it [] (fun σ => dyn [.t 17 (.int .i64), .c 5 0 (.sl 95 (.cons (.sl 126 (.cons (.int .i64) (.cons (.int .i64) (.cons (.int .i64) (.one (.sl 4 (.one .bool))))))) (.one (.sl 73 (.cons (.int .i64) (.one (.int .i64))))))), .c 5 1 (.sl 5 (.one (.int .u8))), .c 5 2 (.sl 5 (.one (.int .u8))), .c 5 3 .bool, .c 5 4 (.sl 3 (.one (.int .i64)))] σ ++ (match σ.T 1 with | .fn _ [.ptr a _ _, _, _, .ptr b _ _, .ptr c _ _] => [.c a 0 (.int .i64), .c b 0 .bool, .c c 0 (.sl 73 (.cons (.int .i64) (.one (.int .i64))))] | _ => [])))], tabH []⟩
noncomputable def I_playedGrows : GS := inl T G_playedGrows H_playedGrows C_playedGrows (resOf Tryz.f40) (Tryz.f40.ntmps)
theorem I_playedGrows_ok : GSOK Tryz.prog 40 I_playedGrows := inl_ok tok g_playedGrows fmo (Ht := H_playedGrows) (fn := Tryz.f40) (Tryz.func40) (c := C_playedGrows) (by kernel_rfl) (by kernel_rfl) (by kernel_rfl)
end Go.Proofs.Y
namespace Go.Proofs.Y
open Go.Rb Go.Kx
noncomputable def C_rainbooklaw_StoryGrows : Code := bodyOf Tryz.f7
noncomputable def G_rainbooklaw_StoryGrows : FuncId → Option GS := tabG [(30, R_rainbooklaw_at), (39, R_rainbooklaw_told), (41, I_sGrows), (40, I_playedGrows)]
theorem g_rainbooklaw_StoryGrows : ΓOK Tryz.prog G_rainbooklaw_StoryGrows := ΓOK_cons (R_rainbooklaw_at_ok) (ΓOK_cons (R_rainbooklaw_told_ok) (ΓOK_cons (I_sGrows_ok) (ΓOK_cons (I_playedGrows_ok) (ΓOK_nil))))
def H_rainbooklaw_StoryGrows : HT := ⟨tabL [], tabH []⟩
abbrev is_rainbooklaw_StoryGrows : List IT := [.v (.one (.sl 41 (.cons (.int .i64) (.cons (.int .i64) (.cons (.int .i64) (.one (.sl 77 (.cons (.int .i64) (.cons (.int .i64) (.one (.int .i64))))))))))) false, .v (.one (.int .i64)) false, .v (.one (.int .i64)) false]
abbrev os_rainbooklaw_StoryGrows : List OT := [⟨.one .bool, false, []⟩]
set_option maxRecDepth 100000
noncomputable def F_rainbooklaw_StoryGrows : List (Int × Int × Int × List (Int × Int × Int)) → Int → Int → Option Bool := fun (a : List (Int × Int × Int × List (Int × Int × Int))) (b c : Int) => bindO (F_rainbooklaw_at c 4) fun (y : Int) => bindO (F_rainbooklaw_at b 20) fun (y_1 : Int) => bindO F_rainbooklaw_told fun (y_2 : Bool) => ifB y_2 (bindO F_world_New fun (y_3 : List (List (Int × Int × Int × List Bool) × List (Int × Int)) × List Int × List Int × Bool × List Int) => ifB (in1 a (minI (lenI a) 60)) (loopN maxR (fun (x : Int × List (List (Int × Int × Int × List Bool) × List (Int × Int)) × List Int × List Int × Bool × List Int × Int × Bool × List (Int × Int)) => ifB (ltI x.1 (lenI (takeI a (minI (lenI a) 60)))) (bindO (atI (takeI a (minI (lenI a) 60)) x.1) fun (y_4 : Int × Int × Int × List (Int × Int × Int)) => bindO (F_world_Do (x.2.1, x.2.2.1, x.2.2.2.1, x.2.2.2.2.1, x.2.2.2.2.2.1) (y_4.1, y_4.2.1, y_4.2.2.1, y_4.2.2.2)) fun (y_5 : (List (List (Int × Int × Int × List Bool) × List (Int × Int)) × List Int × List Int × Bool × List Int) × Int) => ifB (eqI y_5.2 0) (bindO (F_story_Versions (y_5.1.1, y_5.1.2.1, y_5.1.2.2.1, y_5.1.2.2.2.1, y_5.1.2.2.2.2)) fun (y_6 : Int × Int) => ifB (neI y_6.2 0) (mapO Sum.inr (some false)) (ifB (ltI y_6.1 x.2.2.2.2.2.2.1) (mapO Sum.inr (some false)) (ifB (ltI y_6.1 y_1) (some (Sum.inl (wadd .i64 x.1 1, y_5.1.1, y_5.1.2.1, y_5.1.2.2.1, y_5.1.2.2.2.1, y_5.1.2.2.2.2, y_6.1, x.2.2.2.2.2.2.2.1, x.2.2.2.2.2.2.2.2))) (bindO (F_story_At (y_5.1.1, y_5.1.2.1, y_5.1.2.2.1, y_5.1.2.2.2.1, y_5.1.2.2.2.2) y_1 y) fun (y : List (Int × Int) × Int) => ifB (neI y.2 0) (mapO Sum.inr (some false)) (ifB x.2.2.2.2.2.2.2.1 (bindO (F_equalP y.1 x.2.2.2.2.2.2.2.2) fun (y_7 : Bool) => ifB (notB y_7) (mapO Sum.inr (some false)) (some (Sum.inl (wadd .i64 x.1 1, y_5.1.1, y_5.1.2.1, y_5.1.2.2.1, y_5.1.2.2.2.1, y_5.1.2.2.2.2, y_6.1, true, y.1)))) (some (Sum.inl (wadd .i64 x.1 1, y_5.1.1, y_5.1.2.1, y_5.1.2.2.1, y_5.1.2.2.2.1, y_5.1.2.2.2.2, y_6.1, true, y.1)))))))) (some (Sum.inl (wadd .i64 x.1 1, x.2.1, x.2.2.1, x.2.2.2.1, x.2.2.2.2.1, x.2.2.2.2.2.1, x.2.2.2.2.2.2.1, x.2.2.2.2.2.2.2.1, x.2.2.2.2.2.2.2.2)))) (mapO Sum.inr (some true))) (0, y_3.1, y_3.2.1, y_3.2.2.1, y_3.2.2.2.1, y_3.2.2.2.2, 0, false, [])) none) (some false)
theorem F_rainbooklaw_StoryGrows_eq (x : PI is_rainbooklaw_StoryGrows) : F_rainbooklaw_StoryGrows (x.1) (x.2.1) (x.2.2) = fnE T G_rainbooklaw_StoryGrows H_rainbooklaw_StoryGrows C_rainbooklaw_StoryGrows (resOf Tryz.f7) is_rainbooklaw_StoryGrows os_rainbooklaw_StoryGrows x := by kernel_rfl
noncomputable abbrev R_rainbooklaw_StoryGrows : GS := mkSpec false is_rainbooklaw_StoryGrows os_rainbooklaw_StoryGrows fun x => F_rainbooklaw_StoryGrows (x.1) (x.2.1) (x.2.2)
theorem R_rainbooklaw_StoryGrows_ok : GSOK Tryz.prog 7 R_rainbooklaw_StoryGrows := spec_ok tok g_rainbooklaw_StoryGrows fmo (Ht := H_rainbooklaw_StoryGrows) (fn := Tryz.f7) (Tryz.func7) (c := C_rainbooklaw_StoryGrows) (by kernel_rfl) (by kernel_rfl) (by kernel_rfl) (by decide +kernel) (by decide) F_rainbooklaw_StoryGrows_eq
end Go.Proofs.Y
namespace Go.Proofs.Y
open Go.Rb Go.Kx
abbrev Gst := Int × Shf × List Int × List Int × Bool × List Int × Int × Bool × List Pt
def gsOf (v : Wv) (n : Int) (seen : Bool) (was : List Pt) (j : Int) : Gst := (j, v.1, v.2.1, v.2.2.1, v.2.2.2.1, v.2.2.2.2, n, seen, was)
noncomputable def grB {β : Type} (v : Wv) (i ver n : Int) (seen : Bool) (was : List Pt) (K : Int → Bool → List Pt → Option (Sum β Bool)) : Option (Sum β Bool) :=
  bindO (F_story_Versions v) fun (m : Int × Int) => ifB (neI m.2 0) (mapO Sum.inr (some false)) (ifB (ltI m.1 n) (mapO Sum.inr (some false)) (ifB (ltI m.1 ver) (K m.1 seen was)
    (bindO (F_story_At v ver i) fun (q : List Pt × Int) => ifB (neI q.2 0) (mapO Sum.inr (some false)) (ifB seen (bindO (F_equalP q.1 was) fun (t : Bool) => ifB (notB t) (mapO Sum.inr (some false)) (K m.1 true q.1)) (K m.1 true q.1)))))
theorem grows_form (a : List Hp) (b c : Int) : F_rainbooklaw_StoryGrows a b c = bindO (F_rainbooklaw_at c 4) fun (i : Int) => bindO (F_rainbooklaw_at b 20) fun (ver : Int) => bindO F_rainbooklaw_told fun (t : Bool) => ifB t
    (bindO F_world_New fun (w : Wv) => ifB (in1 a (minI (lenI a) 60)) (loopN maxR (fun (x : Gst) => ifB (ltI x.1 (lenI (takeI a (minI (lenI a) 60))))
      (bindO (atI (takeI a (minI (lenI a) 60)) x.1) fun (h : Hp) => bindO (F_world_Do (x.2.1, x.2.2.1, x.2.2.2.1, x.2.2.2.2.1, x.2.2.2.2.2.1) h) fun (z : Wv × Int) => ifB (eqI z.2 0)
        (grB z.1 i ver x.2.2.2.2.2.2.1 x.2.2.2.2.2.2.2.1 x.2.2.2.2.2.2.2.2 fun n seen was => some (Sum.inl (gsOf z.1 n seen was (wadd .i64 x.1 1)))) (some (Sum.inl (wadd .i64 x.1 1, x.2)))) (mapO Sum.inr (some true))) (gsOf w 0 false [] 0)) none) (some false) := by kernel_rfl
theorem ptsV_grow {L L' : List Rc} (h : L' = L ∨ ∃ r, L' = L ++ [r]) {n : Nat} (hn : n ≤ L.length) (i : Int) : ptsV L' n i = ptsV L n i := by
  rcases h with rfl | ⟨r, rfl⟩
  · rfl
  · unfold ptsV
    rw [List.take_append_of_le_length hn]
theorem grow_len {L L' : List Rc} (h : L' = L ∨ ∃ r, L' = L ++ [r]) : L.length ≤ L'.length := by
  rcases h with rfl | ⟨r, rfl⟩
  · exact Nat.le_refl _
  · simp
theorem storyGrows_eq (a : List Hp) (b c : Int) (hx : ∀ x ∈ a, x.2.2.2.length < 4611686018427387904) : F_rainbooklaw_StoryGrows a b c = some true := by
  rw [grows_form]
  obtain ⟨i, hi, i0, i1⟩ := at_some c 4 (by omega) (by omega)
  obtain ⟨ver, hv, v0, v1⟩ := at_some b 20 (by omega) (by omega)
  rw [hi, bindO_some, hv, bindO_some, told_eq, bindO_some, ifB_t]
  obtain ⟨l, e, hl, hm, m0, m1⟩ := part60 a
  rw [e, new_world, bindO_some, ifB_in1, if_pos ⟨m0, m1⟩]
  refine loop_range l (fun j (s : Wd × Int × Bool × List Pt) => gsOf (wvd s.1) s.2.1 s.2.2.1 s.2.2.2 (j : Int)) (G := fun _ _ => some true)
    (P := fun _ s => Inv s.1 ∧ s.2.1 ≤ (recsW s.1).length ∧ (s.2.2.1 = true → ver ≤ (recsW s.1).length ∧ s.2.2.2 = ptsV (recsW s.1) ver.toNat i)) (s0 := (w0, 0, false, [])) ?_ ?_ ⟨inv_new, by simp only; omega, by simp⟩ (by omega)
  · rintro j ⟨v, n, seen, was⟩ hj ⟨hv, hn, hs⟩ k hk
    have hat := atI_nat hj
    have hmem : l.getD j default ∈ l := by simp only [List.getD, List.getElem?_eq_getElem hj, Option.getD_some]; exact List.getElem_mem hj
    have hxx := hx _ (hm _ hmem)
    generalize l.getD j default = x at *
    replace hv : Inv v := hv
    simp only at hn hs hk ⊢
    show stepK (ifB (ltI (j : Int) (lenI l)) (bindO (atI l (j : Int)) fun (h : Hp) => bindO (F_world_Do (wvd v) h) _) _) k = _
    rw [stepK_ifB, ifB_ltI, lenI_eq, if_pos (by omega), hat, bindO_some, do_ok hv.1 hxx, bindO_some]
    by_cases he : (hapP v x).2 = 0
    · obtain ⟨h2, hg⟩ := inv_hap hv he
      have hlen := grow_len hg
      obtain ⟨l1, l3, _⟩ := okc_len h2.1
      rw [if_pos he]
      show stepK (ifB (eqI 0 0) (grB (wvd (hapP v x).1) i ver n seen was fun n seen was => some (Sum.inl (gsOf (wvd (hapP v x).1) n seen was (wadd .i64 (j : Int) 1)))) _) k = _
      rw [ifB_eqI, if_pos rfl]
      unfold grB
      rw [versions_eq _ (by omega) (by omega) (by omega), bindO_some, ver_inv h2]
      simp only
      rw [ifB_neI, if_pos rfl, ifB_ltI, if_neg (by omega), ifB_ltI]
      by_cases cv : ((recsW (hapP v x).1).length : Int) < ver
      · rw [if_pos cv, stepK_inl, wadd_nat (by omega)]
        exact hk ((hapP v x).1, ((recsW (hapP v x).1).length : Int), seen, was) ⟨h2, by simp only; omega, fun h => by have := (hs h).1; omega⟩
      · rw [if_neg cv, sat_eq _ ver i (by omega) (by omega) (by omega), bindO_some, at_inv h2 v0 (by omega) i0 i1]
        simp only
        rw [ifB_neI, if_pos rfl]
        have hk2 := hk ((hapP v x).1, ((recsW (hapP v x).1).length : Int), true, ptsV (recsW (hapP v x).1) ver.toNat i) ⟨h2, by simp only; omega, fun _ => ⟨by show ver ≤ ((recsW (hapP v x).1).length : Int); omega, rfl⟩⟩
        cases seen with
        | false => rw [ifB_f, stepK_inl, wadd_nat (by omega)]; exact hk2
        | true =>
          obtain ⟨s1, s2⟩ := hs rfl
          have hl40 := checkL_len (ptsV_ok h2.2 ver.toNat i0 i1)
          rw [ifB_t, equalP_eq (by omega), bindO_some, decide_eq_true (by rw [s2]; exact ptsV_grow hg (by omega) i), ifB_not, ifB_t, stepK_inl, wadd_nat (by omega)]
          exact hk2
    · rw [if_neg he]
      show stepK (ifB (eqI (hapP v x).2 0) _ (some (Sum.inl (wadd .i64 (j : Int) 1, _)))) k = _
      rw [ifB_eqI, if_neg he, stepK_inl, wadd_nat (by omega)]
      exact hk (v, n, seen, was) ⟨hv, hn, hs⟩
  · rintro ⟨v, n, seen, was⟩ _ k
    show stepK (ifB (ltI (l.length : Int) (lenI l)) _ (mapO Sum.inr (some true))) k = _
    rw [stepK_ifB, stepK_map, ifB_ltI, lenI_eq, if_neg (by omega)]
end Go.Proofs.Y
namespace Go.Proofs.Y
open Go.Rb Go.Kx
theorem by77 : Tryz.prog.bytesOf 77 = 24 := by kernel_rfl
theorem reach_eq : reachBytes = 140737488351232 := by decide +kernel
abbrev entR : RT := .cons (.int .i64) (.cons (.int .i64) (.one (.int .i64)))
abbrev recR : RT := .cons (.int .i64) (.cons (.int .i64) (.cons (.int .i64) (.one (.sl 77 entR))))
theorem op_rec (r : DenR recR) (h : BdR Tryz.prog recR r) : (r : Rc).2.2.2.length < 4611686018427387904 := by
  obtain ⟨_, _, _, h, _⟩ := h
  rw [by77, reach_eq] at h
  show List.length r.2.2.2 < _
  omega
end Go.Proofs.Y
namespace Go.Proofs.Y
open Go.Rb Go.Kx
theorem by41 : Tryz.prog.bytesOf 41 = 48 := by kernel_rfl
theorem op_haps (l : Den (.sl 41 recR)) (h : Bd Tryz.prog (.sl 41 recR) l) : List.length (show List Hp from l) < 4611686018427387904 ∧ ∀ r ∈ (show List Hp from l), r.2.2.2.length < 4611686018427387904 := by
  obtain ⟨h1, h2⟩ := h
  rw [by41, reach_eq] at h1
  refine ⟨?_, fun r hr => op_rec r (h2 r hr)⟩
  show List.length l < _; omega
end Go.Proofs.Y
namespace Go.Proofs.YtnkegapccacndaaGreatDoor
open Go.Rb Go.Kx Go.RowKit
abbrev laidL : List (String × DataW Unit) := Rows.storePartsRow.laid
theorem row249 (u : TypeId) (h : Tryz.prog.typeName? 3 u = some "*errors.errorString") : u = 249 :=
  typeName_ptr_named (nm := "errors.errorString") (by kernel_rfl) (by kernel_rfl) (by decide) u h
theorem cells251 : Tryz.prog.cellsOf 251 = 1 := by kernel_rfl
theorem cells9 : Tryz.prog.cellsOf 9 = 1 := by kernel_rfl
theorem glob_of {W : World} (h : laidMetH Tryz.prog laidL W) (hsh : W.ShapedOpen Tryz.prog) : Glob Tryz.prog W ∧ NG Tryz.prog ≤ W.heap.size := by
  rw [MakeChecks.laidMetH_plain _ _ _ (by kernel_rfl)] at h
  have h3 : laidMet Tryz.prog (("internal/strconv.uint64pow10", Lib.tabData .u64 Lib.pow10Tab) :: laidL.drop 3) W := h.tail.tail
  have h5 := h.tail.tail.tail.tail
  have h6 := h5.tail
  refine ⟨⟨?_, ?_, ?_, ?_⟩, ng_le hsh (by kernel_rfl) (by kernel_rfl)⟩
  · exact Lib.tabIs_of_head (g := 1) (t := 238) (e := 202) (n := 20) (by kernel_rfl) (by kernel_rfl) Tryz.underlying238 Tryz.underlying202 (by kernel_rfl) (by kernel_rfl) h3
  · obtain ⟨a, s, hv, _⟩ := laid_sentinel (g := 2) (ti := 183) h6 (by kernel_rfl) (by kernel_rfl) Tryz.underlying183 row249 Tryz.underlying249 Tryz.underlying251 rfl rfl Tryz.underlying9 cells251 cells9
    exact ⟨_, _, hv⟩
  · obtain ⟨a, s, hv, _⟩ := laid_sentinel (g := 3) (ti := 183) h5 (by kernel_rfl) (by kernel_rfl) Tryz.underlying183 row249 Tryz.underlying249 Tryz.underlying251 rfl rfl Tryz.underlying9 cells251 cells9
    exact ⟨_, _, hv⟩
  · exact glob_int (g := 0) (t := 3) (zero := #[.int .i64 0]) hsh (by kernel_rfl) (by kernel_rfl) (by kernel_rfl) (by kernel_rfl) (by kernel_rfl) Tryz.underlying3
theorem own : ownKnob Tryz.prog.godebug = none := by kernel_rfl
theorem laid_fits (os : Os) : (World.holding Tryz.prog os ⟨#[], #[], []⟩).layFits Tryz.prog laidL [] = true := by kernel_rfl
theorem laid_ifaces (os : Os) : (World.holding Tryz.prog os ⟨#[], #[], []⟩).layIfaces Tryz.prog laidL (World.laidAll Tryz.prog os laidL) = true := by kernel_rfl
theorem laid_met (os : Os) (args : Array Value) : laidMetH Tryz.prog laidL ((World.laidAll Tryz.prog os laidL).forCall (fun _ _ => 0) ⟨#[], args, []⟩).memory := by
  rw [MakeChecks.laidMetH_plain _ _ _ (by kernel_rfl)]
  exact laidMet_laidAll _ (laid_fits os) (laid_ifaces os)
end Go.Proofs.YtnkegapccacndaaGreatDoor
