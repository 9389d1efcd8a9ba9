/-
  What is proved, part by part: what story.Versions comes to. what story.At comes to. what rainbooklaw.told comes to. versions, and what was there at one: what the program's functions come to, in plain words; the closed fact on versions. versions of a world that came about from the new one: they only grow; what is there at one, by what its record says. a script played from the new world on: if at each moment the answer is yes, it is. what rainbooklaw.StoryReaders$1 comes to. what rainbooklaw.played comes to. what rainbooklaw.StoryReaders comes to. each reader sees what was there at its version: the law's body is true, in plain words. what slices.Index[[]api.Point,api.Point] comes to. what slices.Contains[[]api.Point,api.Point] comes to. what rainbooklaw.StoryRises$1 comes to. what rainbooklaw.played comes to. what rainbooklaw.StoryRises comes to. at each version the points rise, and nothing comes ahead of what was the last one: the law's body is true, in plain words. what story.At comes to. what rainbooklaw.StoryWhole$1 comes to. what rainbooklaw.played comes to. what rainbooklaw.StoryWhole comes to. batches are there wholly, or not at all: the law's body is true, in plain words. what rainbooklaw.StoryGrows$1 comes to. what rainbooklaw.played comes to. what rainbooklaw.StoryGrows comes to. versions only grow, and what was there at one stays so: the law's body is true, in plain words. what rainbooklaw.WorldSnap comes to. what a reader sees doesn't change: the law's body is true, in plain words. what a law is handed is no larger than memory. a world that a law is handed is no larger than memory; its bytes are bytes. what the rows list of package-level variables is what the library's functions ask. Conditions: none.
-/
import Derived.Test.YtnkegapccacndaaGreatDoorKPA
import Derived.Test.YtnkegapccacndaaGreatDoorKPD
import Derived.Test.YtnkegapccacndaaGreatDoorKPB
import Derived.Test.YtnkegapccacndaaGreatDoorKPE
import Derived.Test.YtnkegapccacndaaGreatDoorKED
import Derived.Test.YtnkegapccacndaaGreatDoorProg
import Derived.KernelRfl
import Derived.Test.YtnkegapccacndaaGreatDoorRows
set_option linter.unusedVariables false
set_option linter.unusedSimpArgs false
set_option linter.unnecessarySimpa false
set_option maxRecDepth 4000
namespace Go.Proofs.Y
open Go.Rb Go.Kx
set_option maxRecDepth 100000
end Go.Proofs.Y
namespace Go.Proofs.Y
open Go.Rb Go.Kx
set_option maxRecDepth 100000
end Go.Proofs.Y
namespace Go.Proofs.Y
open Go.Rb Go.Kx
set_option maxRecDepth 100000
end Go.Proofs.Y
namespace Go.Proofs.Y
open Go.Rb Go.Kx
end Go.Proofs.Y
namespace Go.Proofs.Y
open Go.Rb Go.Kx
def Inv (w : Wd) : Prop := okc w = 0 ∧ (replayR (recsW w)).2 = 0
theorem replay_take {L : List Rc} (h : (replayR L).2 = 0) (k : Nat) : (replayR (L.take k)).2 = 0 := by
  have h60 := (replayR_len h).1
  have e1 : replayR L = replayS freshS L := by unfold replayR; rw [if_neg (by omega)]
  have e2 : replayR (L.take k) = replayS freshS (L.take k) := by unfold replayR; rw [if_neg (by rw [List.length_take]; omega)]
  rw [e2]
  refine (replayS_app (L.drop k) (L.take k) freshS ?_).1
  rw [List.take_append_drop, ← e1]; exact h
theorem inv_hap {w : Wd} {x : Hp} (h : Inv w) (he : (hapP w x).2 = 0) : Inv (hapP w x).1 ∧ (recsW (hapP w x).1 = recsW w ∨ ∃ r, recsW (hapP w x).1 = recsW w ++ [r]) := by
  have hk := hapP_keeps h.1 he
  obtain ⟨s, d, up, rd⟩ := w
  cases up with
  | true =>
    obtain ⟨L, rfl, hL, h1, h2, h3, h4⟩ := up_of h.1
    obtain ⟨a1, _, a3⟩ := replayR_len h1
    have eL : recsW (s, (textL L, []), true, rd) = L := hL
    rw [eL]
    rcases hap_up h1 h2 h3 he with ⟨r, _, g1, g2, g3, g4⟩ | ⟨v, g1, _⟩ | ⟨_, g1⟩ | ⟨_, r, k, g1, g2, g3, g4⟩
    · have e : recsW (hapP (s, (textL L, []), true, rd) x).1 = L ++ [r] := by
        rw [g1]
        obtain ⟨b1, _, b3⟩ := replayR_len g3
        show (dRecover (textL (L ++ [r]), [])).2.1 = _
        rw [(rec_text b3 b1).2]
      exact ⟨⟨hk, by rw [e]; exact g3⟩, .inr ⟨r, e⟩⟩
    · have e : recsW (hapP (s, (textL L, []), true, rd) x).1 = L := by rw [g1]; exact hL
      exact ⟨⟨hk, by rw [e]; exact h1⟩, .inl e⟩
    · have e : recsW (hapP (s, (textL L, []), true, rd) x).1 = L := by rw [g1]; exact hL
      exact ⟨⟨hk, by rw [e]; exact h1⟩, .inl e⟩
    · have hlp : (lnP 60 (textL L)).1 = L := by rw [lnP_whole a3 (by omega)]
      rcases torn_disk (s := textL L) (r := r) (k := k) g2 g4 with hR | ⟨hn, hR⟩
      · have e : recsW (hapP (s, (textL L, []), true, rd) x).1 = L := by
          rw [g1]
          show (dRecover (textL L, (lineT r).take k)).2.1 = _
          rw [hR, hlp]
        exact ⟨⟨hk, by rw [e]; exact h1⟩, .inl e⟩
      · have e : recsW (hapP (s, (textL L, []), true, rd) x).1 = L ++ [r] := by
          rw [g1]
          show (dRecover (textL L, (lineT r).take k)).2.1 = _
          rw [hR, hlp]
        rw [hlp] at hn
        exact ⟨⟨hk, by rw [e]; exact (replay_one h1 hn (by rw [h2]; exact g3)).1⟩, .inr ⟨r, e⟩⟩
  | false =>
    obtain ⟨rfl, rfl, hd⟩ := down_of h.1
    obtain ⟨_, g1, g2⟩ := hap_down hd he
    have e : recsW (hapP (freshS, d, false, [-1, -1, -1]) x).1 = (dRecover d).2.1 := by
      rw [g2]
      obtain ⟨b1, _, b3⟩ := replayR_len g1
      show (dRecover (textL (dRecover d).2.1, [])).2.1 = _
      rw [(rec_text b3 b1).2]
    exact ⟨⟨hk, by rw [e]; exact g1⟩, .inl e⟩
def ptsV (L : List Rc) (v : Nat) (i : Int) : List Pt := (allS (replayR (L.take v)).1 i).1
theorem ptsV_ok {L : List Rc} (h : (replayR L).2 = 0) (v : Nat) {i : Int} (i0 : 0 ≤ i) (i1 : i < 4) : checkL (ptsV L v i) = 0 := by
  have hc := (replayR_len (replay_take h v)).2.1
  have e := allS_is hc i0 i1
  unfold ptsV
  rw [e]
  exact (allR_is (chkS_row hc (by omega))).2.2.1
theorem range_all {l : List Pt} (h : checkL l = 0) : rangeR l 0 100001 = l := by
  unfold rangeR
  rw [List.filter_eq_self]
  intro p hp
  have := (checkL_iff.1 h).2.2 p hp
  unfold PtIn at this
  have h1 : ¬ p.1 < 0 := by omega
  have h2 : ¬ 100001 ≤ p.1 := by omega
  simp [keepP, h1, h2] <;> omega
end Go.Proofs.Y
namespace Go.Proofs.Y
open Go.Rb Go.Kx
end Go.Proofs.Y
namespace Go.Proofs.Y
open Go.Rb Go.Kx
end Go.Proofs.Y
namespace Go.Proofs.Y
open Go.Rb Go.Kx
end Go.Proofs.Y
namespace Go.Proofs.Y
open Go.Rb Go.Kx
set_option maxRecDepth 100000
end Go.Proofs.Y
namespace Go.Proofs.Y
open Go.Rb Go.Kx
theorem read_inv {v : Wd} (h : Inv v) {k i : Int} (k0 : 0 ≤ k) (k1 : k < 3) (i0 : 0 ≤ i) (i1 : i < 4) : readP v k i 0 100001 = if v.2.2.2.getD k.toNat default < 0 then ([], 7) else (ptsV (recsW v) (v.2.2.2.getD k.toNat default).toNat i, 0) := by
  obtain ⟨_, h3, _⟩ := okc_len h.1
  unfold readP
  rw [if_pos h.1, if_neg (by omega), if_neg (by omega)]
  by_cases c : v.2.2.2.getD k.toNat default < 0
  · rw [if_pos c, if_pos c]
  · rw [if_neg c, if_neg c]
    generalize (v.2.2.2.getD k.toNat default).toNat = n
    have hr := replay_take h.2 n
    have hc := (replayR_len hr).2.1
    have ha := allS_of hc i0 i1
    have hp := ptsV_ok h.2 n i0 i1
    rw [if_pos hr, if_pos ha]
    unfold ptsV at hp ⊢
    rw [range_all hp]
end Go.Proofs.Y
namespace Go.Proofs.Y
open Go.Rb Go.Kx
set_option maxRecDepth 100000
end Go.Proofs.Y
namespace Go.Proofs.Y
open Go.Rb Go.Kx
set_option maxRecDepth 100000
end Go.Proofs.Y
namespace Go.Proofs.Y
open Go.Rb Go.Kx
end Go.Proofs.Y
namespace Go.Proofs.Y
open Go.Rb Go.Kx
end Go.Proofs.Y
namespace Go.Proofs.Y
open Go.Rb Go.Kx
set_option maxRecDepth 100000
end Go.Proofs.Y
namespace Go.Proofs.Y
open Go.Rb Go.Kx
end Go.Proofs.Y
namespace Go.Proofs.Y
open Go.Rb Go.Kx
set_option maxRecDepth 100000
end Go.Proofs.Y
namespace Go.Proofs.Y
open Go.Rb Go.Kx
end Go.Proofs.Y
namespace Go.Proofs.Y
open Go.Rb Go.Kx
end Go.Proofs.Y
namespace Go.Proofs.Y
open Go.Rb Go.Kx
set_option maxRecDepth 100000
end Go.Proofs.Y
namespace Go.Proofs.Y
open Go.Rb Go.Kx
end Go.Proofs.Y
namespace Go.Proofs.Y
open Go.Rb Go.Kx
end Go.Proofs.Y
namespace Go.Proofs.Y
open Go.Rb Go.Kx
end Go.Proofs.Y
namespace Go.Proofs.Y
open Go.Rb Go.Kx
set_option maxRecDepth 100000
end Go.Proofs.Y
namespace Go.Proofs.Y
open Go.Rb Go.Kx
theorem ptsV_grow {L L' : List Rc} (h : L' = L ∨ ∃ r, L' = L ++ [r]) {n : Nat} (hn : n ≤ L.length) (i : Int) : ptsV L' n i = ptsV L n i := by
  rcases h with rfl | ⟨r, rfl⟩
  · rfl
  · unfold ptsV
    rw [List.take_append_of_le_length hn]
theorem grow_len {L L' : List Rc} (h : L' = L ∨ ∃ r, L' = L ++ [r]) : L.length ≤ L'.length := by
  rcases h with rfl | ⟨r, rfl⟩
  · exact Nat.le_refl _
  · simp
end Go.Proofs.Y
namespace Go.Proofs.Y
open Go.Rb Go.Kx
noncomputable def C_rainbooklaw_WorldSnap : Code := bodyOf Tryz.f10
noncomputable def G_rainbooklaw_WorldSnap : FuncId → Option GS := tabG [(30, R_rainbooklaw_at), (23, R_world_Do), (19, R_rainbooklaw_watched), (47, R_world_Read), (48, R_shelf_All), (44, R_equalP)]
theorem g_rainbooklaw_WorldSnap : ΓOK Tryz.prog G_rainbooklaw_WorldSnap := ΓOK_cons (R_rainbooklaw_at_ok) (ΓOK_cons (R_world_Do_ok) (ΓOK_cons (R_rainbooklaw_watched_ok) (ΓOK_cons (R_world_Read_ok) (ΓOK_cons (R_shelf_All_ok) (ΓOK_cons (R_equalP_ok) (ΓOK_nil))))))
def H_rainbooklaw_WorldSnap : HT := ⟨tabL [(10, .it [] (dyn [.t 68 (.int .i64), .c 4 0 (.sl 95 (.cons (.sl 126 (.cons (.int .i64) (.cons (.int .i64) (.cons (.int .i64) (.one (.sl 4 (.one .bool))))))) (.one (.sl 73 (.cons (.int .i64) (.one (.int .i64))))))), .c 4 1 (.sl 5 (.one (.int .u8))), .c 4 2 (.sl 5 (.one (.int .u8))), .c 4 3 (.bool), .c 4 4 (.sl 3 (.one (.int .i64)))]))], tabH []⟩
abbrev is_rainbooklaw_WorldSnap : List IT := [.v (.cons (.sl 95 (.cons (.sl 126 (.cons (.int .i64) (.cons (.int .i64) (.cons (.int .i64) (.one (.sl 4 (.one .bool))))))) (.one (.sl 73 (.cons (.int .i64) (.one (.int .i64))))))) (.cons (.sl 5 (.one (.int .u8))) (.cons (.sl 5 (.one (.int .u8))) (.cons (.bool) (.one (.sl 3 (.one (.int .i64)))))))) true, .v (.one (.sl 41 (.cons (.int .i64) (.cons (.int .i64) (.cons (.int .i64) (.one (.sl 77 (.cons (.int .i64) (.cons (.int .i64) (.one (.int .i64))))))))))) false, .v (.one (.int .i64)) false, .v (.one (.int .i64)) false]
abbrev os_rainbooklaw_WorldSnap : List OT := [⟨.one .bool, false, []⟩]
set_option maxRecDepth 100000
noncomputable def F_rainbooklaw_WorldSnap : List (List (Int × Int × Int × List Bool) × List (Int × Int)) × List Int × List Int × Bool × List Int → List (Int × Int × Int × List (Int × Int × Int)) → Int → Int → Option Bool := fun (a : List (List (Int × Int × Int × List Bool) × List (Int × Int)) × List Int × List Int × Bool × List Int) (b : List (Int × Int × Int × List (Int × Int × Int))) (c d : Int) => bindO (F_rainbooklaw_at c 3) fun (y : Int) => bindO (F_rainbooklaw_at d 4) fun (y_1 : Int) => bindO (F_world_Do (a.1, a.2.1, a.2.2.1, a.2.2.2.1, a.2.2.2.2) (5, 0, y, [])) fun (y_2 : (List (List (Int × Int × Int × List Bool) × List (Int × Int)) × List Int × List Int × Bool × List Int) × Int) => bindO F_rainbooklaw_watched fun (y_3 : Bool) => ifB (notB y_3) (bindO F_rainbooklaw_watched fun (y : Bool) => some y) (ifB (neI y_2.2 0) (bindO F_rainbooklaw_watched fun (y : Bool) => some y) (bindO (F_world_Read (y_2.1.1, y_2.1.2.1, y_2.1.2.2.1, y_2.1.2.2.2.1, y_2.1.2.2.2.2) y y_1 0 100001) fun (y_4 : List (Int × Int) × Int) => bindO (F_shelf_All y_2.1.1 y_1) fun (y_5 : List (Int × Int) × Int) => ifB (neI y_4.2 0) (some false) (ifB (neI y_5.2 0) (some false) (bindO (F_equalP y_4.1 y_5.1) fun (y_6 : Bool) => ifB (notB y_6) (some false) (ifB (in1 b (minI (lenI b) 15)) (loopN maxR (fun (x : Int × List (List (Int × Int × Int × List Bool) × List (Int × Int)) × List Int × List Int × Bool × List Int) => ifB (ltI x.1 (lenI (takeI b (minI (lenI b) 15)))) (bindO (atI (takeI b (minI (lenI b) 15)) x.1) fun (y_7 : Int × Int × Int × List (Int × Int × Int)) => ifB (eqI y_7.1 7) (some (Sum.inl (wadd .i64 x.1 1, x.2.1, x.2.2.1, x.2.2.2.1, x.2.2.2.2.1, x.2.2.2.2.2))) (ifB (eqI y_7.1 9) (some (Sum.inl (wadd .i64 x.1 1, x.2.1, x.2.2.1, x.2.2.2.1, x.2.2.2.2.1, x.2.2.2.2.2))) (ifB (eqI y_7.1 5) (ifB (eqI y_7.2.2.1 y) (some (Sum.inl (wadd .i64 x.1 1, x.2.1, x.2.2.1, x.2.2.2.1, x.2.2.2.2.1, x.2.2.2.2.2))) (bindO (F_world_Do (x.2.1, x.2.2.1, x.2.2.2.1, x.2.2.2.2.1, x.2.2.2.2.2) (y_7.1, y_7.2.1, y_7.2.2.1, y_7.2.2.2)) fun (y_8 : (List (List (Int × Int × Int × List Bool) × List (Int × Int)) × List Int × List Int × Bool × List Int) × Int) => ifB (neI y_8.2 0) (some (Sum.inl (wadd .i64 x.1 1, x.2.1, x.2.2.1, x.2.2.2.1, x.2.2.2.2.1, x.2.2.2.2.2))) (bindO (F_world_Read (y_8.1.1, y_8.1.2.1, y_8.1.2.2.1, y_8.1.2.2.2.1, y_8.1.2.2.2.2) y y_1 0 100001) fun (y : List (Int × Int) × Int) => ifB (neI y.2 0) (mapO Sum.inr (some false)) (bindO (F_equalP y.1 y_4.1) fun (y : Bool) => ifB (notB y) (mapO Sum.inr (some false)) (some (Sum.inl (wadd .i64 x.1 1, y_8.1.1, y_8.1.2.1, y_8.1.2.2.1, y_8.1.2.2.2.1, y_8.1.2.2.2.2))))))) (ifB (eqI y_7.1 6) (ifB (eqI y_7.2.2.1 y) (some (Sum.inl (wadd .i64 x.1 1, x.2.1, x.2.2.1, x.2.2.2.1, x.2.2.2.2.1, x.2.2.2.2.2))) (bindO (F_world_Do (x.2.1, x.2.2.1, x.2.2.2.1, x.2.2.2.2.1, x.2.2.2.2.2) (y_7.1, y_7.2.1, y_7.2.2.1, y_7.2.2.2)) fun (y_8 : (List (List (Int × Int × Int × List Bool) × List (Int × Int)) × List Int × List Int × Bool × List Int) × Int) => ifB (neI y_8.2 0) (some (Sum.inl (wadd .i64 x.1 1, x.2.1, x.2.2.1, x.2.2.2.1, x.2.2.2.2.1, x.2.2.2.2.2))) (bindO (F_world_Read (y_8.1.1, y_8.1.2.1, y_8.1.2.2.1, y_8.1.2.2.2.1, y_8.1.2.2.2.2) y y_1 0 100001) fun (y : List (Int × Int) × Int) => ifB (neI y.2 0) (mapO Sum.inr (some false)) (bindO (F_equalP y.1 y_4.1) fun (y : Bool) => ifB (notB y) (mapO Sum.inr (some false)) (some (Sum.inl (wadd .i64 x.1 1, y_8.1.1, y_8.1.2.1, y_8.1.2.2.1, y_8.1.2.2.2.1, y_8.1.2.2.2.2))))))) (bindO (F_world_Do (x.2.1, x.2.2.1, x.2.2.2.1, x.2.2.2.2.1, x.2.2.2.2.2) (y_7.1, y_7.2.1, y_7.2.2.1, y_7.2.2.2)) fun (y_8 : (List (List (Int × Int × Int × List Bool) × List (Int × Int)) × List Int × List Int × Bool × List Int) × Int) => ifB (neI y_8.2 0) (some (Sum.inl (wadd .i64 x.1 1, x.2.1, x.2.2.1, x.2.2.2.1, x.2.2.2.2.1, x.2.2.2.2.2))) (bindO (F_world_Read (y_8.1.1, y_8.1.2.1, y_8.1.2.2.1, y_8.1.2.2.2.1, y_8.1.2.2.2.2) y y_1 0 100001) fun (y : List (Int × Int) × Int) => ifB (neI y.2 0) (mapO Sum.inr (some false)) (bindO (F_equalP y.1 y_4.1) fun (y : Bool) => ifB (notB y) (mapO Sum.inr (some false)) (some (Sum.inl (wadd .i64 x.1 1, y_8.1.1, y_8.1.2.1, y_8.1.2.2.1, y_8.1.2.2.2.1, y_8.1.2.2.2.2)))))))))) (mapO Sum.inr (some true))) (0, y_2.1.1, y_2.1.2.1, y_2.1.2.2.1, y_2.1.2.2.2.1, y_2.1.2.2.2.2)) none)))))
theorem F_rainbooklaw_WorldSnap_eq (x : PI is_rainbooklaw_WorldSnap) : F_rainbooklaw_WorldSnap (x.1) (x.2.1) (x.2.2.1) (x.2.2.2) = fnE T G_rainbooklaw_WorldSnap H_rainbooklaw_WorldSnap C_rainbooklaw_WorldSnap (resOf Tryz.f10) is_rainbooklaw_WorldSnap os_rainbooklaw_WorldSnap x := by kernel_rfl
noncomputable abbrev R_rainbooklaw_WorldSnap : GS := mkSpec false is_rainbooklaw_WorldSnap os_rainbooklaw_WorldSnap fun x => F_rainbooklaw_WorldSnap (x.1) (x.2.1) (x.2.2.1) (x.2.2.2)
theorem R_rainbooklaw_WorldSnap_ok : GSOK Tryz.prog 10 R_rainbooklaw_WorldSnap := spec_ok tok g_rainbooklaw_WorldSnap fmo (Ht := H_rainbooklaw_WorldSnap) (fn := Tryz.f10) (Tryz.func10) (c := C_rainbooklaw_WorldSnap) (by kernel_rfl) (by kernel_rfl) (by kernel_rfl) (by decide +kernel) (by decide) F_rainbooklaw_WorldSnap_eq
end Go.Proofs.Y
namespace Go.Proofs.Y
open Go.Rb Go.Kx
noncomputable def snD (i rdr : Int) (was : List Pt) (x : Int × Wv) (h : Hp) : Option (Sum (Int × Wv) Bool) :=
  bindO (F_world_Do x.2 h) fun (z : Wv × Int) => ifB (neI z.2 0) (some (Sum.inl (wadd .i64 x.1 1, x.2))) (bindO (F_world_Read z.1 rdr i 0 100001) fun (r : List Pt × Int) => ifB (neI r.2 0) (mapO Sum.inr (some false))
    (bindO (F_equalP r.1 was) fun (t : Bool) => ifB (notB t) (mapO Sum.inr (some false)) (some (Sum.inl (wadd .i64 x.1 1, z.1)))))
theorem snap_form (a : Wv) (b : List Hp) (c d : Int) : F_rainbooklaw_WorldSnap a b c d = bindO (F_rainbooklaw_at c 3) fun (k : Int) => bindO (F_rainbooklaw_at d 4) fun (i : Int) => bindO (F_world_Do a (5, 0, k, [])) fun (w : Wv × Int) => bindO F_rainbooklaw_watched fun (t : Bool) =>
    ifB (notB t) (bindO F_rainbooklaw_watched fun (y : Bool) => some y) (ifB (neI w.2 0) (bindO F_rainbooklaw_watched fun (y : Bool) => some y)
      (bindO (F_world_Read w.1 k i 0 100001) fun (was : List Pt × Int) => bindO (F_shelf_All w.1.1 i) fun (all : List Pt × Int) => ifB (neI was.2 0) (some false) (ifB (neI all.2 0) (some false) (bindO (F_equalP was.1 all.1) fun (e : Bool) => ifB (notB e) (some false)
        (ifB (in1 b (minI (lenI b) 15)) (loopN maxR (fun (x : Int × Wv) => ifB (ltI x.1 (lenI (takeI b (minI (lenI b) 15)))) (bindO (atI (takeI b (minI (lenI b) 15)) x.1) fun (h : Hp) =>
          ifB (eqI h.1 7) (some (Sum.inl (wadd .i64 x.1 1, x.2))) (ifB (eqI h.1 9) (some (Sum.inl (wadd .i64 x.1 1, x.2))) (ifB (eqI h.1 5) (ifB (eqI h.2.2.1 k) (some (Sum.inl (wadd .i64 x.1 1, x.2))) (snD i k was.1 x h)) (ifB (eqI h.1 6) (ifB (eqI h.2.2.1 k) (some (Sum.inl (wadd .i64 x.1 1, x.2))) (snD i k was.1 x h)) (snD i k was.1 x h)))))
          (mapO Sum.inr (some true))) (0, w.1)) none))))) := by kernel_rfl
theorem part15 (a : List Hp) : ∃ l : List Hp, takeI a (minI (lenI a) 15) = l ∧ l.length ≤ 15 ∧ (∀ x ∈ l, x ∈ a) ∧ 0 ≤ minI (lenI a) 15 ∧ minI (lenI a) 15 ≤ a.length := by
  have hm : minI (lenI a) 15 = min (a.length : Int) 15 := by rw [lenI_eq]; rfl
  refine ⟨_, rfl, ?_, ?_, ?_, ?_⟩
  · rw [takeI_eq, hm, List.length_take]; omega
  · rw [takeI_eq]; exact fun x hx => List.mem_of_mem_take hx
  · rw [hm]; omega
  · rw [hm]; omega
theorem set_other {l : List Int} {i j : Nat} {v : Int} (h : j ≠ i) : (l.set i v).getD j default = l.getD j default := by
  simp only [List.getD, List.getElem?_set, if_neg (fun q : i = j => h q.symm)]
theorem snap_step {v : Wd} {x : Hp} {k : Int} (hv : Inv v) (hu : v.2.2.1 = true) (he : (hapP v x).2 = 0) (h7 : x.1 ≠ 7) (h9 : x.1 ≠ 9) (hk : x.1 = 5 ∨ x.1 = 6 → x.2.2.1 ≠ k) (k0 : 0 ≤ k) :
    (hapP v x).1.2.2.1 = true ∧ (hapP v x).1.2.2.2.getD k.toNat default = v.2.2.2.getD k.toNat default := by
  obtain ⟨s, d, up, rd⟩ := v
  simp only at hu
  subst hu
  obtain ⟨L, rfl, hL, h1, h2, h3, h4⟩ := up_of hv.1
  rcases hap_up h1 h2 h3 he with ⟨r, _, g1, g2, g3, g4⟩ | ⟨v, g1, g2, g3, g4⟩ | ⟨g0, g1⟩ | ⟨g0, _⟩
  · rw [g1]; exact ⟨rfl, rfl⟩
  · rw [g1]
    have := hk (by rcases g4 with g | g; exact .inl g.1; exact .inr g.1)
    exact ⟨rfl, set_other (by omega)⟩
  · exact absurd g0 h7
  · exact absurd g0 h9
theorem hapP_open {w : Wd} {k : Int} (he : (hapP w (5, 0, k, [])).2 = 0) : w.2.2.1 = true := by
  unfold hapP at he
  simp only at he
  rw [if_neg (by omega), if_neg (by omega)] at he
  cases hu : w.2.2.1 with
  | true => rfl
  | false => rw [hu, if_pos (by simp)] at he; cases he
theorem worldSnap_eq (w : Wd) (b : List Hp) (c d : Int) (h1 : w.2.1.1.length < 4611686018427387904) (h2 : w.2.1.2.length < 4611686018427387904) (hrd : w.2.2.2.length < 4611686018427387904) (hx : ∀ x ∈ b, x.2.2.2.length < 4611686018427387904) : F_rainbooklaw_WorldSnap (wvd w) b c d = some true := by
  rw [snap_form]
  obtain ⟨k, hk, k0, k1⟩ := at_some c 3 (by omega) (by omega)
  obtain ⟨i, hi, i0, i1⟩ := at_some d 4 (by omega) (by omega)
  rw [hk, bindO_some, hi, bindO_some, do_eq w (5, 0, k, []) h1 h2 hrd (by simp), bindO_some, watched_eq, bindO_some, ifB_not, ifB_t]
  by_cases hc : okc w = 0
  · rw [if_pos hc]
    by_cases he : (hapP w (5, 0, k, [])).2 = 0
    · rw [if_pos he]
      have hup := hapP_open he
      have hkeep := hapP_keeps hc he
      obtain ⟨s, dd, up, rd⟩ := w
      simp only at hup
      subst hup
      obtain ⟨L, rfl, hL, q1, q2, q3, q4⟩ := up_of hc
      rcases hap_up q1 q2 q3 he with ⟨r, g0, _⟩ | ⟨v, g1, g2, g3, g4⟩ | ⟨g0, _⟩ | ⟨g0, _⟩
      · exact absurd g0 (show ¬ (5 : Int) ≤ 4 by omega)
      · have hv : v = L.length := by rcases g4 with g | g; exact g.2; exact absurd g.1 (show ¬ (5 : Int) = 6 by omega)
        replace q3 : rd.length = 3 := q3
        subst hv
        rw [g1] at hkeep ⊢
        simp only at hkeep g2 g3 ⊢
        replace g2 : 0 ≤ k := k0
        have inv1 : Inv (s, (textL L, []), true, rd.set k.toNat (L.length : Int)) := ⟨hkeep, by show (replayR (dRecover (textL L, [])).2.1).2 = 0; rw [hL]; exact q1⟩
        have hrecs : recsW (s, (textL L, []), true, rd.set k.toNat (L.length : Int)) = L := hL
        have hget : (rd.set k.toNat (L.length : Int)).getD k.toNat default = L.length := by rw [set_getD (by omega), if_pos rfl]
        have hl40 := checkL_len (ptsV_ok q1 L.length i0 i1)
        have hrd1 := read_inv inv1 k0 k1 i0 i1
        simp only [hget] at hrd1
        rw [if_neg (by omega), hrecs, Int.toNat_natCast] at hrd1
        have hcs := (replayR_len q1).2.1
        have hall : allS s i = (ptsV L L.length i, 0) := by
          have := allS_of hcs i0 i1
          unfold ptsV
          rw [List.take_length]
          rw [q2] at this ⊢
          exact Prod.ext rfl this
        rw [q2] at hcs
        rw [ifB_neI, if_pos rfl, read_ok hkeep, bindO_some, hrd1]
        refine (bind_of (allS_eq s i (okS_of hcs)) _).trans ?_
        rw [hall]
        simp only
        rw [ifB_neI, if_pos rfl, ifB_neI, if_pos rfl, equalP_eq (by omega), bindO_some, decide_eq_true rfl, ifB_not, ifB_t]
        obtain ⟨l, e, hl, hm, m0, m1⟩ := part15 b
        rw [e, ifB_in1, if_pos ⟨m0, m1⟩]
        refine loop_range l (fun j (v : Wd) => ((j : Int), wvd v)) (G := fun _ _ => some true)
          (P := fun _ v => (Inv v ∧ v.2.2.1 = true) ∧ v.2.2.2.getD k.toNat default = L.length ∧ L.length ≤ (recsW v).length ∧ ptsV (recsW v) L.length i = ptsV L L.length i) (s0 := (s, (textL L, []), true, rd.set k.toNat (L.length : Int))) ?_ ?_ ⟨⟨inv1, rfl⟩, hget, by rw [hrecs]; omega, by rw [hrecs]⟩ (by omega)
        · rintro j v hj ⟨⟨hv, hu⟩, p1, p2, p3⟩ kk hkk
          have hat := atI_nat hj
          have hmem : l.getD j default ∈ l := by simp only [List.getD, List.getElem?_eq_getElem hj, Option.getD_some]; exact List.getElem_mem hj
          have hxx := hx _ (hm _ hmem)
          generalize l.getD j default = x at *
          simp only
          rw [stepK_ifB, ifB_ltI, lenI_eq, if_pos (by omega), hat, bindO_some]
          have skip : stepK (some (Sum.inl (wadd .i64 (j : Int) 1, wvd v)) : Option (Sum (Int × Wv) Bool)) kk = some true := by
            rw [stepK_inl, wadd_nat (by omega)]
            exact hkk _ ⟨⟨hv, hu⟩, p1, p2, p3⟩
          rw [ifB_eqI, ifB_eqI, ifB_eqI, ifB_eqI, ifB_eqI]
          by_cases c7 : x.1 = 7
          · rw [if_pos c7]; exact skip
          rw [if_neg c7]
          by_cases c9 : x.1 = 9
          · rw [if_pos c9]; exact skip
          rw [if_neg c9]
          have go : (x.1 = 5 ∨ x.1 = 6 → x.2.2.1 ≠ k) → stepK (snD i k (ptsV L L.length i) ((j : Int), wvd v) x) kk = some true := by
            intro hne
            unfold snD
            rw [do_ok hv.1 hxx, bindO_some]
            by_cases hh : (hapP v x).2 = 0
            · obtain ⟨t1, t2⟩ := snap_step hv hu hh c7 c9 hne k0
              obtain ⟨t3, t4⟩ := inv_hap hv hh
              have hgl := grow_len t4
              have hpv := ptsV_grow t4 p2 i
              rw [if_pos hh]
              simp only
              have hr2 := read_inv t3 k0 k1 i0 i1
              rw [t2, p1, if_neg (by omega), Int.toNat_natCast, hpv, p3] at hr2
              rw [ifB_neI, if_pos rfl, read_ok t3.1, bindO_some, hr2]
              simp only
              rw [ifB_neI, if_pos rfl, equalP_eq (by omega), bindO_some, decide_eq_true rfl, ifB_not, ifB_t, stepK_inl, wadd_nat (by omega)]
              exact hkk _ ⟨⟨t3, t1⟩, by rw [t2, p1], by omega, by rw [hpv, p3]⟩
            · rw [if_neg hh]
              simp only
              rw [ifB_neI, if_neg hh]
              exact skip
          by_cases c5 : x.1 = 5
          · rw [if_pos c5]
            by_cases ck : x.2.2.1 = k
            · rw [if_pos ck]; exact skip
            · rw [if_neg ck]; exact go fun _ => ck
          rw [if_neg c5]
          by_cases c6 : x.1 = 6
          · rw [if_pos c6]
            by_cases ck : x.2.2.1 = k
            · rw [if_pos ck]; exact skip
            · rw [if_neg ck]; exact go fun _ => ck
          rw [if_neg c6]
          exact go fun h => by rcases h with h | h; exact absurd h c5; exact absurd h c6
        · rintro v _ kk
          simp only
          rw [stepK_ifB, stepK_map, ifB_ltI, lenI_eq, if_neg (by omega)]
      · exact absurd g0 (show ¬ (5 : Int) = 7 by omega)
      · exact absurd g0 (show ¬ (5 : Int) = 9 by omega)
    · rw [if_neg he]
      simp only
      rw [ifB_neI, if_neg he]; rfl
  · rw [if_neg hc]
    simp only
    rw [ifB_neI, if_neg hc]; rfl
end Go.Proofs.Y
namespace Go.Proofs.Y
open Go.Rb Go.Kx
theorem by77 : Tryz.prog.bytesOf 77 = 24 := by kernel_rfl
theorem reach_eq : reachBytes = 140737488351232 := by decide +kernel
abbrev entR : RT := .cons (.int .i64) (.cons (.int .i64) (.one (.int .i64)))
abbrev recR : RT := .cons (.int .i64) (.cons (.int .i64) (.cons (.int .i64) (.one (.sl 77 entR))))
theorem op_rec (r : DenR recR) (h : BdR Tryz.prog recR r) : (r : Rc).2.2.2.length < 4611686018427387904 := by
  obtain ⟨_, _, _, h, _⟩ := h
  rw [by77, reach_eq] at h
  show List.length r.2.2.2 < _
  omega
end Go.Proofs.Y
namespace Go.Proofs.Y
open Go.Rb Go.Kx
theorem by5 : Tryz.prog.bytesOf 5 = 1 := by kernel_rfl
theorem by3 : Tryz.prog.bytesOf 3 = 8 := by kernel_rfl
abbrev wPtR : RT := .cons (.int .i64) (.one (.int .i64))
abbrev wBkR : RT := .cons (.int .i64) (.cons (.int .i64) (.cons (.int .i64) (.one (.sl 4 (.one .bool)))))
abbrev wRowR : RT := .cons (.sl 126 wBkR) (.one (.sl 73 wPtR))
abbrev worldR : RT := .cons (.sl 95 wRowR) (.cons (.sl 5 (.one (.int .u8))) (.cons (.sl 5 (.one (.int .u8))) (.cons .bool (.one (.sl 3 (.one (.int .i64)))))))
theorem by41 : Tryz.prog.bytesOf 41 = 48 := by kernel_rfl
theorem op_haps (l : Den (.sl 41 recR)) (h : Bd Tryz.prog (.sl 41 recR) l) : List.length (show List Hp from l) < 4611686018427387904 ∧ ∀ r ∈ (show List Hp from l), r.2.2.2.length < 4611686018427387904 := by
  obtain ⟨h1, h2⟩ := h
  rw [by41, reach_eq] at h1
  refine ⟨?_, fun r hr => op_rec r (h2 r hr)⟩
  show List.length l < _; omega
theorem byte_back {n : Int} (h : (Lit.int .u8 n).wf = true) : ((UInt8.ofNat n.toNat).toNat : Int) = n := by
  have e1 : IntKind.u8.min = 0 := rfl
  have e2 : IntKind.u8.max = 255 := rfl
  simp [Lit.wf, e1, e2] at h
  rw [UInt8.toNat_ofNat']; omega
theorem bytB_strB : ∀ {l : List Int}, (∀ n ∈ l, (Lit.int .u8 n).wf = true) → bytB (strB l) = l
  | [], _ => rfl
  | n :: l, h => by
    have ih := bytB_strB fun m hm => h m (List.mem_cons_of_mem n hm)
    have h0 := byte_back (h n (by simp))
    unfold bytB strB at ih ⊢
    rw [List.map_cons, List.map_cons, ih, h0]
theorem strB_len (l : List Int) : (strB l).length = l.length := by unfold strB; rw [List.length_map]
theorem op_world0 (s : Shf) (a b : List Int) (up : Bool) (rd : List Int) (h1 : a.length ≤ 140737488351232) (h1' : ∀ n ∈ a, (Lit.int .u8 n).wf = true) (h2 : b.length ≤ 140737488351232) (h2' : ∀ n ∈ b, (Lit.int .u8 n).wf = true) (h3 : rd.length * 8 ≤ 140737488351232) :
    ∃ w : Wd, ((s, a, b, up, rd) : Wv) = wvd w ∧ w.2.1.1.length < 4611686018427387904 ∧ w.2.1.2.length < 4611686018427387904 ∧ w.2.2.2.length < 4611686018427387904 := by
  have ea := bytB_strB h1'
  have eb := bytB_strB h2'
  have la := strB_len a
  have lb := strB_len b
  refine ⟨(s, (strB a, strB b), up, rd), ?_, ?_, ?_, ?_⟩
  · show (s, a, b, up, rd) = (s, bytB (strB a), bytB (strB b), up, rd)
    rw [ea, eb]
  · show (strB a).length < _
    omega
  · show (strB b).length < _
    omega
  · show rd.length < _
    omega
theorem op_world (x : DenR worldR) (h : BdR Tryz.prog worldR x) : ∃ w : Wd, (show Wv from x) = wvd w ∧ w.2.1.1.length < 4611686018427387904 ∧ w.2.1.2.length < 4611686018427387904 ∧ w.2.2.2.length < 4611686018427387904 := by
  obtain ⟨_, ⟨h1, h1'⟩, ⟨h2, h2'⟩, _, h3, _⟩ := h
  rw [by5, reach_eq, Nat.mul_one] at h1 h2
  rw [by3, reach_eq] at h3
  exact op_world0 x.1 x.2.1 x.2.2.1 x.2.2.2.1 x.2.2.2.2 h1 (fun n hn => h1' n hn) h2 (fun n hn => h2' n hn) h3
end Go.Proofs.Y
namespace Go.Proofs.YtnkegapccacndaaGreatDoor
open Go.Rb Go.Kx Go.RowKit
abbrev laidL : List (String × DataW Unit) := Rows.storePartsRow.laid
theorem row249 (u : TypeId) (h : Tryz.prog.typeName? 3 u = some "*errors.errorString") : u = 249 :=
  typeName_ptr_named (nm := "errors.errorString") (by kernel_rfl) (by kernel_rfl) (by decide) u h
theorem cells251 : Tryz.prog.cellsOf 251 = 1 := by kernel_rfl
theorem cells9 : Tryz.prog.cellsOf 9 = 1 := by kernel_rfl
theorem glob_of {W : World} (h : laidMetH Tryz.prog laidL W) (hsh : W.ShapedOpen Tryz.prog) : Glob Tryz.prog W ∧ NG Tryz.prog ≤ W.heap.size := by
  rw [MakeChecks.laidMetH_plain _ _ _ (by kernel_rfl)] at h
  have h3 : laidMet Tryz.prog (("internal/strconv.uint64pow10", Lib.tabData .u64 Lib.pow10Tab) :: laidL.drop 3) W := h.tail.tail
  have h5 := h.tail.tail.tail.tail
  have h6 := h5.tail
  refine ⟨⟨?_, ?_, ?_, ?_⟩, ng_le hsh (by kernel_rfl) (by kernel_rfl)⟩
  · exact Lib.tabIs_of_head (g := 1) (t := 238) (e := 202) (n := 20) (by kernel_rfl) (by kernel_rfl) Tryz.underlying238 Tryz.underlying202 (by kernel_rfl) (by kernel_rfl) h3
  · obtain ⟨a, s, hv, _⟩ := laid_sentinel (g := 2) (ti := 183) h6 (by kernel_rfl) (by kernel_rfl) Tryz.underlying183 row249 Tryz.underlying249 Tryz.underlying251 rfl rfl Tryz.underlying9 cells251 cells9
    exact ⟨_, _, hv⟩
  · obtain ⟨a, s, hv, _⟩ := laid_sentinel (g := 3) (ti := 183) h5 (by kernel_rfl) (by kernel_rfl) Tryz.underlying183 row249 Tryz.underlying249 Tryz.underlying251 rfl rfl Tryz.underlying9 cells251 cells9
    exact ⟨_, _, hv⟩
  · exact glob_int (g := 0) (t := 3) (zero := #[.int .i64 0]) hsh (by kernel_rfl) (by kernel_rfl) (by kernel_rfl) (by kernel_rfl) (by kernel_rfl) Tryz.underlying3
theorem own : ownKnob Tryz.prog.godebug = none := by kernel_rfl
theorem laid_fits (os : Os) : (World.holding Tryz.prog os ⟨#[], #[], []⟩).layFits Tryz.prog laidL [] = true := by kernel_rfl
theorem laid_ifaces (os : Os) : (World.holding Tryz.prog os ⟨#[], #[], []⟩).layIfaces Tryz.prog laidL (World.laidAll Tryz.prog os laidL) = true := by kernel_rfl
theorem laid_met (os : Os) (args : Array Value) : laidMetH Tryz.prog laidL ((World.laidAll Tryz.prog os laidL).forCall (fun _ _ => 0) ⟨#[], args, []⟩).memory := by
  rw [MakeChecks.laidMetH_plain _ _ _ (by kernel_rfl)]
  exact laidMet_laidAll _ (laid_fits os) (laid_ifaces os)
end Go.Proofs.YtnkegapccacndaaGreatDoor
