/-
  What is proved, part by part: shelves changed, as plain functions: put, sealed, merged, dropped; they stay right, and their points are as they should be. what slices.Clone[[]api.Row,api.Row] comes to. what slices.Clone[[]api.Block,api.Block] comes to. what shelf.Copy comes to. what shelf.Drop$1 comes to. what slices.IndexFunc[[]api.Block,api.Block] comes to. what slices.DeleteFunc[[]api.Block,api.Block] comes to. what shelf.Drop comes to. what shelf.Seal comes to. what slices.Delete[[]api.Block,api.Block] comes to. what shelf.Merge comes to. what shelf.Put comes to. the program's shelf functions that copy and change: what they come to, in plain words. the program's shelf functions seal, merge, put: what they come to, in plain words. what slices.EqualFunc[[]api.Block,[]api.Block,api.Block,api.Block] comes to. what shelf.Same$1 comes to. what rainbookref.SameShelf$1 comes to. what slices.EqualFunc[[]api.Row,[]api.Row,api.Row,api.Row] comes to. what shelf.Same comes to. what rainbookref.SameShelf comes to. what rainbookref.PutAll comes to. what rainbookref.Sealed comes to. what slices.Grow[[]api.Block,api.Block] comes to. what slices.Concat[[]api.Block,api.Block] comes to. what rainbookref.MergedRow comes to. what rainbookref.Dropped comes to. the document's shelf functions, and likeness of shelves: what they come to, in plain words. records and their replay, as plain functions; the points are those of all batches. what shelf.New comes to. what rainbooklaw.shelved comes to. Conditions: none.
-/
import Derived.Test.YtoihccclnkhmaaaKPB
import Derived.Test.YtoihccclnkhmaaaKPA
set_option linter.unusedVariables false
set_option linter.unusedSimpArgs false
set_option linter.unnecessarySimpa false
set_option maxRecDepth 4000
namespace Go.Rb
open Go.Kx
instance decRowd : DecidableEq Rowd := instDecidableEqProd
theorem chk_of : ∀ {l : List Pt} {L : Int}, Rise l → (∀ p ∈ l, PtIn p) → (∀ p ∈ l, L < p.1) → chk L l = 0
  | [], _, _, _, _ => rfl
  | p :: l, L, hr, hi, hL => chk_mk (hi p List.mem_cons_self) (hL p List.mem_cons_self) (chk_of (List.pairwise_cons.1 hr).2 (fun q hq => hi q (List.mem_cons_of_mem _ hq)) (List.pairwise_cons.1 hr).1)
theorem checkL_iff {l : List Pt} : checkL l = 0 ↔ l.length ≤ 40 ∧ Rise l ∧ ∀ p ∈ l, PtIn p := by
  constructor
  · intro h; exact ⟨checkL_len h, checkL_rise h, checkL_all h⟩
  · rintro ⟨h1, h2, h3⟩
    unfold checkL; rw [if_neg (by omega)]
    exact chk_of h2 h3 fun p hp => by have := h3 p hp; unfold PtIn at this; omega
theorem checkL_sub {l m : List Pt} (h : checkL m = 0) (hs : l.Sublist m) : checkL l = 0 := by
  rw [checkL_iff] at h ⊢
  exact ⟨by have := hs.length_le; omega, h.2.1.sublist hs, fun p hp => h.2.2 p (hs.subset hp)⟩
def okBs (bs : List Bk) : Prop := ∀ b ∈ bs, (ptsR b).2 = 0
def ptsBs (bs : List Bk) : List Pt := (bs.map fun b => (ptsR b).1).flatten
theorem ptsBs_app (a b : List Bk) : ptsBs (a ++ b) = ptsBs a ++ ptsBs b := by simp [ptsBs]
theorem ptsBs_cons (a : Bk) (b : List Bk) : ptsBs (a :: b) = (ptsR a).1 ++ ptsBs b := by simp [ptsBs]
theorem ptsBs_one (a : Bk) : ptsBs [a] = (ptsR a).1 := by simp [ptsBs]
theorem rp_ok : ∀ {bs : List Bk} {acc : List Pt}, okBs bs → rp bs acc = (acc ++ ptsBs bs, 0)
  | [], acc, _ => by simp [rp, ptsBs]
  | b :: r, acc, h => by
    rw [rp, if_pos (h b List.mem_cons_self), rp_ok fun c hc => h c (List.mem_cons_of_mem _ hc), ptsBs_cons, List.append_assoc]
theorem rp_zero : ∀ {bs : List Bk} {acc : List Pt}, (rp bs acc).2 = 0 → okBs bs
  | [], _, _ => fun b hb => by cases hb
  | b :: r, acc, h => by
    rw [rp] at h
    split at h
    · rename_i h0
      intro c hc
      rcases List.mem_cons.1 hc with rfl | hc
      · exact h0
      · exact rp_zero h c hc
    · rename_i h0; exact absurd h h0
theorem allR_of {r : Rowd} (h1 : r.1.length ≤ 8) (h2 : okBs r.1) (h3 : checkL (ptsBs r.1 ++ r.2) = 0) : allR r = (ptsBs r.1 ++ r.2, 0) := by
  unfold allR
  rw [if_neg (by omega), rp_ok h2, if_pos rfl, List.nil_append, h3]
theorem allR_is {r : Rowd} (h : (allR r).2 = 0) : r.1.length ≤ 8 ∧ okBs r.1 ∧ checkL (ptsBs r.1 ++ r.2) = 0 ∧ allR r = (ptsBs r.1 ++ r.2, 0) := by
  obtain ⟨h1, h2, h3, h4⟩ := allR_ok h
  have hb := rp_zero h2
  rw [rp_ok hb, List.nil_append] at h4
  exact ⟨h1, hb, h4, allR_of h1 hb h4⟩
theorem ptsR_is {b : Bk} (h : (ptsR b).2 = 0) : 0 < (ptsR b).1.length ∧ checkL (ptsR b).1 = 0 ∧ b = mkB (ptsR b).1 := by
  unfold ptsR at h
  split at h
  · rename_i h0; exact absurd h h0
  · rename_i h0
    split at h
    · cases h
    · rename_i h1
      have hp : ptsR b = ((unpackR b.2.2.2 b.1).1, 0) := by unfold ptsR; rw [if_neg h0, if_neg h1]
      have h0' : (unpackR b.2.2.2 b.1).2 = 0 := by rwa [Classical.not_not] at h0
      obtain ⟨g1, g2, g3⟩ := line_again h0'
      rw [not_or, not_or, Classical.not_not, Classical.not_not] at h1
      rw [hp]
      refine ⟨by have := h1.1; show 0 < (unpackR b.2.2.2 b.1).1.length; omega, g3, ?_⟩
      have hk := (line_back g3).1
      rw [g1] at hk
      obtain ⟨n, f, t, bits⟩ := b
      simp only at *
      unfold mkB
      rw [← (Prod.mk.inj hk).1, h1.2.1, h1.2.2, g2]
theorem ptsR_bits {b : Bk} (h : (ptsR b).2 = 0) : b.2.2.2.length ≤ 2560 := by
  obtain ⟨h1, h2, h3⟩ := ptsR_is h
  rw [h3]; exact mkB_bits (checkL_len h2)
theorem okR_of {r : Rowd} (h : (allR r).2 = 0) : okR r := by
  obtain ⟨h1, h2, h3, _⟩ := allR_is h
  have := checkL_len h3
  rw [List.length_append] at this
  exact ⟨fun b hb => by have := ptsR_bits (h2 b hb); unfold okB; omega, by omega, by omega⟩
theorem okS_of {s : Shf} (h : chkS s = 0) : okS s := by
  obtain ⟨h1, h2⟩ := chkS_zero.1 h
  exact ⟨by omega, fun r hr => okR_of (h2 r hr)⟩
theorem chkS_set {s : Shf} (h : chkS s = 0) {r : Rowd} (hr : (allR r).2 = 0) (i : Nat) : chkS (s.set i r) = 0 := by
  obtain ⟨h1, h2⟩ := chkS_zero.1 h
  refine chkS_zero.2 ⟨by rw [List.length_set]; exact h1, fun q hq => ?_⟩
  rcases List.mem_or_eq_of_mem_set hq with hq | rfl
  · exact h2 q hq
  · exact hr
theorem chkS_row {s : Shf} (h : chkS s = 0) {i : Nat} (hi : i < 4) : (allR (s.getD i default)).2 = 0 := by
  obtain ⟨h1, h2⟩ := chkS_zero.1 h
  exact h2 _ (getD_mem (by omega))
theorem allS_is {s : Shf} (h : chkS s = 0) {i : Int} (h0 : 0 ≤ i) (h1 : i < 4) : allS s i = (ptsBs (s.getD i.toNat default).1 ++ (s.getD i.toNat default).2, 0) := by
  have h4 := (chkS_zero.1 h).1
  unfold allS
  rw [if_pos h, if_neg (by omega)]
  exact (allR_is (chkS_row h (by omega))).2.2.2
theorem set_getD {α : Type} [Inhabited α] {l : List α} {i : Nat} {x : α} (h : i < l.length) (j : Nat) : (l.set i x).getD j default = if j = i then x else l.getD j default := by
  simp only [List.getD, List.getElem?_set]
  by_cases hj : i = j
  · subst hj; simp [h]
  · rw [if_neg hj, if_neg (fun h => hj h.symm)]
/-! ### One row -/
def sealR (n : Int) (r : Rowd) : Rowd × Int :=
  if n < 1 ∨ (r.2.length : Int) < n then (r, 3) else if r.1.length = 8 then (r, 2) else if ¬ (makeR (r.2.take n.toNat)).2 = 0 then (r, (makeR (r.2.take n.toNat)).2)
  else ((r.1 ++ [(makeR (r.2.take n.toNat)).1], r.2.drop n.toNat), 0)
def mergeW (k : Int) (r : Rowd) : Rowd × Int :=
  if k < 0 ∨ (r.1.length : Int) - 1 ≤ k then (r, 3) else
  if ¬ (mergeR (r.1.getD k.toNat default) (r.1.getD (k.toNat + 1) default)).2 = 0 then (r, (mergeR (r.1.getD k.toNat default) (r.1.getD (k.toNat + 1) default)).2)
  else ((r.1.take k.toNat ++ (mergeR (r.1.getD k.toNat default) (r.1.getD (k.toNat + 1) default)).1 :: r.1.drop (k.toNat + 2), r.2), 0)
def dropR (n : Int) (r : Rowd) : Rowd := (r.1.filter fun b => decide (n ≤ b.2.2.1), r.2)
def putW (x : Ent) (r : Rowd) : Rowd := (r.1, r.2 ++ [(x.2.1, x.2.2)])
def onRow (s : Shf) (i : Int) (q : Rowd → Rowd × Int) : Shf × Int :=
  if i < 0 ∨ (s.length : Int) ≤ i then ([], 5) else if (q (s.getD i.toNat default)).2 = 0 then (s.set i.toNat (q (s.getD i.toNat default)).1, 0) else ([], (q (s.getD i.toNat default)).2)
def sealS (s : Shf) (i n : Int) : Shf × Int := if chkS s = 0 then onRow s i (sealR n) else ([], chkS s)
def mergeS (s : Shf) (i k : Int) : Shf × Int := if chkS s = 0 then onRow s i (mergeW k) else ([], chkS s)
def dropS (s : Shf) (n : Int) : Shf × Int := if chkS s = 0 then (if n < 0 ∨ 100001 < n then ([], 3) else (s.map (dropR n), 0)) else ([], chkS s)
def putE : Shf → List Ent → Shf × Int
  | s, [] => (s, 0)
  | s, x :: l => if x.1 < 0 ∨ 4 ≤ x.1 then ([], 5) else if (allR (putW x (s.getD x.1.toNat default))).2 = 0 then putE (s.set x.1.toNat (putW x (s.getD x.1.toNat default))) l else ([], (allR (putW x (s.getD x.1.toNat default))).2)
def putS (s : Shf) (l : List Ent) : Shf × Int := if chkS s = 0 then (if 10 < l.length then ([], 2) else putE s l) else ([], chkS s)
theorem sealR_is {r : Rowd} (h : (allR r).2 = 0) {n : Int} (hn : 1 ≤ n) (hl : n ≤ r.2.length) : makeR (r.2.take n.toNat) = (mkB (r.2.take n.toNat), 0) ∧ ptsR (mkB (r.2.take n.toNat)) = (r.2.take n.toNat, 0) := by
  obtain ⟨_, _, h3, _⟩ := allR_is h
  exact makeR_ok (checkL_sub h3 ((List.take_sublist _ _).trans (List.sublist_append_right _ _))) (by rw [List.length_take]; omega)
theorem sealR_ok {r : Rowd} (h : (allR r).2 = 0) {n : Int} (he : (sealR n r).2 = 0) : allR (sealR n r).1 = allR r := by
  obtain ⟨h1, h2, h3, h4⟩ := allR_is h
  unfold sealR at he ⊢
  split at he
  · cases he
  · rename_i hn
    split at he
    · cases he
    · rename_i h8
      obtain ⟨g1, g2⟩ := sealR_is h (n := n) (by omega) (by omega)
      rw [g1] at he ⊢
      rw [if_neg hn, if_neg h8, if_neg (by simp)]
      have hp : ptsBs (r.1 ++ [mkB (r.2.take n.toNat)]) ++ r.2.drop n.toNat = ptsBs r.1 ++ r.2 := by
        rw [ptsBs_app, ptsBs_one, g2, List.append_assoc, List.take_append_drop]
      rw [h4, ← hp]
      refine allR_of (r := (r.1 ++ [mkB (r.2.take n.toNat)], r.2.drop n.toNat)) ?_ ?_ ?_
      · show (r.1 ++ [mkB (r.2.take n.toNat)]).length ≤ 8
        rw [List.length_append, List.length_singleton]; omega
      · intro b hb
        rcases List.mem_append.1 hb with hb | hb
        · exact h2 b hb
        · rw [List.mem_singleton] at hb; subst hb; rw [g2]
      · show checkL (ptsBs (r.1 ++ [mkB (r.2.take n.toNat)]) ++ r.2.drop n.toNat) = 0
        rw [hp]; exact h3
theorem two_split {α : Type} [Inhabited α] {l : List α} {k : Nat} (h : k + 1 < l.length) : l = l.take k ++ (l.getD k default :: l.getD (k + 1) default :: l.drop (k + 2)) := by
  have h1 := drop_cons (l := l) (i := k) (by omega)
  have h2 := drop_cons (l := l) (i := k + 1) (by omega)
  conv => lhs; rw [← List.take_append_drop k l, h1, h2]
theorem mergeW_is {r : Rowd} (h : (allR r).2 = 0) {k : Nat} (hk : k + 1 < r.1.length) : ∃ m, mergeR (r.1.getD k default) (r.1.getD (k + 1) default) = (m, 0) ∧ (ptsR m).2 = 0 ∧ (ptsR m).1 = (ptsR (r.1.getD k default)).1 ++ (ptsR (r.1.getD (k + 1) default)).1 := by
  obtain ⟨h1, h2, h3, h4⟩ := allR_is h
  have hs := two_split hk
  have a1 := h2 _ (getD_mem (l := r.1) (i := k) (by omega))
  have a2 := h2 _ (getD_mem (l := r.1) (i := k + 1) (by omega))
  generalize r.1.getD k default = x at *
  generalize r.1.getD (k + 1) default = y at *
  rw [hs, ptsBs_app, ptsBs_cons, ptsBs_cons] at h3
  obtain ⟨x1, x2, x3⟩ := ptsR_is a1
  obtain ⟨y1, y2, y3⟩ := ptsR_is a2
  have hc : checkL ((ptsR x).1 ++ (ptsR y).1) = 0 := by
    refine checkL_sub h3 ?_
    rw [← List.append_assoc (ptsR x).1]
    exact ((List.sublist_append_left _ _).trans (List.sublist_append_right _ _)).trans (List.sublist_append_left _ _)
  have hm := mergeR_ok x2 y2 x1 y1 hc
  rw [← x3, ← y3] at hm
  have hp := (makeR_ok hc (by rw [List.length_append]; omega)).2
  exact ⟨_, hm, by rw [hp], by rw [hp]⟩
theorem mergeW_ok {r : Rowd} (h : (allR r).2 = 0) {k : Int} (he : (mergeW k r).2 = 0) : allR (mergeW k r).1 = allR r := by
  obtain ⟨h1, h2, h3, h4⟩ := allR_is h
  unfold mergeW at he ⊢
  split at he
  · cases he
  · rename_i hk
    obtain ⟨m, g1, g2, g3⟩ := mergeW_is h (k := k.toNat) (by omega)
    rw [g1] at he ⊢
    rw [if_neg hk, if_neg (by simp)]
    have hs := two_split (l := r.1) (k := k.toNat) (by omega)
    have hp : ptsBs (r.1.take k.toNat ++ m :: r.1.drop (k.toNat + 2)) = ptsBs r.1 := by
      conv => rhs; rw [hs]
      rw [ptsBs_app, ptsBs_app, ptsBs_cons, ptsBs_cons, ptsBs_cons, g3, List.append_assoc]
    have hle : (r.1.take k.toNat ++ m :: r.1.drop (k.toNat + 2)).length ≤ 8 := by
      rw [List.length_append, List.length_take, List.length_cons, List.length_drop]; omega
    have := allR_of (r := (r.1.take k.toNat ++ m :: r.1.drop (k.toNat + 2), r.2)) hle (fun b hb => ?_) (by show checkL (ptsBs _ ++ r.2) = 0; rw [hp]; exact h3)
    · rw [h4]; rw [this]; simp only; rw [hp]
    · rcases List.mem_append.1 hb with hb | hb
      · exact h2 b (List.mem_of_mem_take hb)
      · rcases List.mem_cons.1 hb with rfl | hb
        · exact g2
        · exact h2 b (List.mem_of_mem_drop hb)
theorem block_to {b : Bk} (h : (ptsR b).2 = 0) : (∀ p ∈ (ptsR b).1, p.1 ≤ b.2.2.1) ∧ ∃ p ∈ (ptsR b).1, p.1 = b.2.2.1 := by
  obtain ⟨h1, h2, h3⟩ := ptsR_is h
  have hr := checkL_rise h2
  have ht : b.2.2.1 = ((ptsR b).1.getD ((ptsR b).1.length - 1) default).1 := congrArg (fun c : Bk => c.2.2.1) h3
  refine ⟨fun p hp => ?_, _, getD_mem (l := (ptsR b).1) (i := (ptsR b).1.length - 1) (by omega), ht.symm⟩
  rw [ht]
  obtain ⟨i, hi, rfl⟩ := List.mem_iff_getElem.1 hp
  by_cases hlt : i < (ptsR b).1.length - 1
  · have := List.pairwise_iff_getElem.1 hr i ((ptsR b).1.length - 1) hi (by omega) hlt
    simp [List.getD, List.getElem?_eq_getElem (show (ptsR b).1.length - 1 < (ptsR b).1.length by omega)]; omega
  · have : i = (ptsR b).1.length - 1 := by omega
    subst this
    simp [List.getD, List.getElem?_eq_getElem hi]
theorem filter_drop (n : Int) : ∀ {bs : List Bk}, okBs bs → Rise (ptsBs bs) → ∃ j, bs.filter (fun b => decide (n ≤ b.2.2.1)) = bs.drop j ∧ ∀ b ∈ bs.take j, b.2.2.1 < n
  | [], _, _ => ⟨0, rfl, fun b hb => by cases hb⟩
  | b :: bs, hk, hr => by
    have hb := hk b List.mem_cons_self
    have hbs : okBs bs := fun c hc => hk c (List.mem_cons_of_mem _ hc)
    rw [ptsBs_cons] at hr
    unfold Rise at hr
    rw [List.pairwise_append] at hr
    obtain ⟨_, hr2, hr3⟩ := hr
    by_cases h : n ≤ b.2.2.1
    · refine ⟨0, ?_, fun c hc => by cases hc⟩
      rw [List.drop_zero, List.filter_eq_self]
      intro c hc
      rcases List.mem_cons.1 hc with rfl | hc
      · simpa using h
      · obtain ⟨_, p, hp, hp2⟩ := block_to hb
        obtain ⟨hq, q, hq1, hq2⟩ := block_to (hbs c hc)
        have hm : q ∈ ptsBs bs := by
          unfold ptsBs
          rw [List.mem_flatten]
          exact ⟨_, List.mem_map.2 ⟨c, hc, rfl⟩, hq1⟩
        have := hr3 p hp q hm
        simp; omega
    · obtain ⟨j, g1, g2⟩ := filter_drop n hbs hr2
      refine ⟨j + 1, ?_, fun c hc => ?_⟩
      · rw [List.filter_cons, if_neg (by simpa using h), g1]; rfl
      · rw [List.take_succ_cons] at hc
        rcases List.mem_cons.1 hc with rfl | hc
        · omega
        · exact g2 c hc
theorem dropR_ok {r : Rowd} (h : (allR r).2 = 0) (n : Int) : (allR (dropR n r)).2 = 0 ∧ ∃ k, (allR (dropR n r)).1 = (allR r).1.drop k ∧ k ≤ (allR r).1.length ∧ ∀ p ∈ (allR r).1.take k, p.1 < n := by
  obtain ⟨h1, h2, h3, h4⟩ := allR_is h
  have hrise : Rise (ptsBs r.1) := (List.pairwise_append.1 (checkL_rise h3)).1
  obtain ⟨j, g1, g2⟩ := filter_drop n h2 hrise
  have hd : dropR n r = (r.1.drop j, r.2) := by unfold dropR; rw [g1]
  have hsp : ptsBs r.1 = ptsBs (r.1.take j) ++ ptsBs (r.1.drop j) := by rw [← ptsBs_app, List.take_append_drop]
  have h5 := allR_of (r := (r.1.drop j, r.2)) (by show (r.1.drop j).length ≤ 8; rw [List.length_drop]; omega) (fun b hb => h2 b (List.mem_of_mem_drop hb))
    (by
      show checkL (ptsBs (r.1.drop j) ++ r.2) = 0
      rw [hsp, List.append_assoc] at h3
      exact checkL_sub h3 (List.sublist_append_right _ _))
  rw [hd, h5, h4]
  refine ⟨rfl, (ptsBs (r.1.take j)).length, ?_, ?_, ?_⟩
  · rw [hsp, List.append_assoc, List.drop_left]
  · simp only; rw [hsp, List.append_assoc, List.length_append]; omega
  · rw [hsp, List.append_assoc, List.take_left]
    intro p hp
    unfold ptsBs at hp
    rw [List.mem_flatten] at hp
    obtain ⟨l, hl, hp⟩ := hp
    obtain ⟨b, hb, rfl⟩ := List.mem_map.1 hl
    have := (block_to (h2 b (List.mem_of_mem_take hb))).1 p hp
    have := g2 b hb
    omega
theorem putW_ok {r : Rowd} {x : Ent} (h : (allR (putW x r)).2 = 0) : (allR r).2 = 0 ∧ (allR (putW x r)).1 = (allR r).1 ++ [(x.2.1, x.2.2)] := by
  obtain ⟨h1, h2, h3, h4⟩ := allR_is h
  have h3' : checkL ((ptsBs r.1 ++ r.2) ++ [(x.2.1, x.2.2)]) = 0 := by rw [List.append_assoc]; exact h3
  have h5 := allR_of (r := r) h1 h2 (checkL_sub h3' (List.sublist_append_left _ _))
  rw [h5, h4]
  exact ⟨rfl, by show ptsBs r.1 ++ (r.2 ++ _) = _; rw [List.append_assoc]⟩
/-! ### Shelves -/
theorem onRow_ok {s : Shf} (h : chkS s = 0) {i : Int} {q : Rowd → Rowd × Int} (hq : ∀ r, (allR r).2 = 0 → (q r).2 = 0 → allR (q r).1 = allR r) (he : (onRow s i q).2 = 0) : chkS (onRow s i q).1 = 0 ∧ ∀ j, allS (onRow s i q).1 j = allS s j := by
  have h4 := (chkS_zero.1 h).1
  unfold onRow at he ⊢
  split at he
  · cases he
  · rename_i hi
    split at he
    · rename_i hz
      rw [if_neg hi, if_pos hz]
      have h0 := chkS_row h (i := i.toNat) (by omega)
      have h1 := hq _ h0 hz
      have hc := chkS_set h (r := (q (s.getD i.toNat default)).1) (by rw [h1]; exact h0) i.toNat
      refine ⟨hc, fun j => ?_⟩
      unfold allS
      simp only [hc, h, if_true, List.length_set]
      split
      · rfl
      · rw [set_getD (by omega)]
        split
        · rename_i hj; rw [h1, hj]
        · rfl
    · rename_i hz; exact absurd he hz
theorem sealS_ok {s : Shf} {i n : Int} (he : (sealS s i n).2 = 0) : chkS s = 0 ∧ chkS (sealS s i n).1 = 0 ∧ ∀ j, allS (sealS s i n).1 j = allS s j := by
  unfold sealS at he ⊢
  split at he
  · rename_i h
    rw [if_pos h]
    exact ⟨h, onRow_ok h (fun r hr hq => sealR_ok hr hq) he⟩
  · rename_i h; exact absurd he h
theorem mergeS_ok {s : Shf} {i n : Int} (he : (mergeS s i n).2 = 0) : chkS s = 0 ∧ chkS (mergeS s i n).1 = 0 ∧ ∀ j, allS (mergeS s i n).1 j = allS s j := by
  unfold mergeS at he ⊢
  split at he
  · rename_i h
    rw [if_pos h]
    exact ⟨h, onRow_ok h (fun r hr hq => mergeW_ok hr hq) he⟩
  · rename_i h; exact absurd he h
theorem dropS_ok {s : Shf} {n : Int} (he : (dropS s n).2 = 0) : chkS s = 0 ∧ (0 ≤ n ∧ n ≤ 100001) ∧ chkS (dropS s n).1 = 0 ∧ ∀ j : Int, 0 ≤ j → j < 4 → ∃ k, (allS (dropS s n).1 j).1 = (allS s j).1.drop k ∧ k ≤ (allS s j).1.length ∧ ∀ p ∈ (allS s j).1.take k, p.1 < n := by
  unfold dropS at he ⊢
  split at he
  · rename_i h
    obtain ⟨h4, hr⟩ := chkS_zero.1 h
    split at he
    · cases he
    · rename_i hn
      rw [if_pos h, if_neg hn]
      have hc : chkS (s.map (dropR n)) = 0 := chkS_zero.2 ⟨by rw [List.length_map]; exact h4, fun r hr' => by
        obtain ⟨q, hq, rfl⟩ := List.mem_map.1 hr'
        exact (dropR_ok (hr q hq) n).1⟩
      refine ⟨h, by omega, hc, fun j h0 h1 => ?_⟩
      have hg : (s.map (dropR n)).getD j.toNat default = dropR n (s.getD j.toNat default) := by
        simp [List.getD, List.getElem?_map, List.getElem?_eq_getElem (show j.toNat < s.length by omega)]
      unfold allS
      rw [if_pos hc, if_pos h, List.length_map, if_neg (by omega), if_neg (by omega), hg]
      exact (dropR_ok (chkS_row h (by omega)) n).2
  · rename_i h; exact absurd he h
/-- What a batch says of a series. -/
def entP (j : Int) (l : List Ent) : List Pt := (l.filter fun x => decide (x.1 = j)).map fun x => (x.2.1, x.2.2)
theorem putE_ok : ∀ {l : List Ent} {s : Shf}, chkS s = 0 → (putE s l).2 = 0 → chkS (putE s l).1 = 0 ∧ ∀ j : Int, 0 ≤ j → j < 4 → (allS (putE s l).1 j).1 = (allS s j).1 ++ entP j l
  | [], s, h, _ => ⟨h, fun j _ _ => by simp [putE, entP]⟩
  | x :: l, s, h, he => by
    have h4 := (chkS_zero.1 h).1
    rw [putE] at he ⊢
    split at he
    · cases he
    · rename_i hx
      split at he
      · rename_i hz
        rw [if_neg hx, if_pos hz]
        have hs := chkS_set h hz x.1.toNat
        obtain ⟨g1, g2⟩ := putE_ok hs he
        refine ⟨g1, fun j h0 h1 => ?_⟩
        rw [g2 j h0 h1]
        unfold allS entP
        rw [if_pos hs, if_pos h, List.length_set, if_neg (by omega), if_neg (by omega), set_getD (by omega), List.filter_cons]
        by_cases hj : x.1 = j
        · subst hj
          rw [if_pos rfl, if_pos (by simp), (putW_ok hz).2]
          simp
        · rw [if_neg (by omega), if_neg (by simpa using hj)]
      · rename_i hz; exact absurd he hz
theorem putS_ok {s : Shf} {l : List Ent} (he : (putS s l).2 = 0) : chkS s = 0 ∧ l.length ≤ 10 ∧ chkS (putS s l).1 = 0 ∧ ∀ j : Int, 0 ≤ j → j < 4 → (allS (putS s l).1 j).1 = (allS s j).1 ++ entP j l := by
  unfold putS at he ⊢
  split at he
  · rename_i h
    split at he
    · cases he
    · rename_i hl
      rw [if_pos h, if_neg hl]
      exact ⟨h, by omega, putE_ok h he⟩
  · rename_i h; exact absurd he h
end Go.Rb
namespace Go.Proofs.Y
open Go.Rb Go.Kx
noncomputable def C_cloneRw : Code := bodyOf Try.f113
noncomputable def G_cloneRw : FuncId → Option GS := tabG []
theorem g_cloneRw : ΓOK Try.prog G_cloneRw := ΓOK_nil
def H_cloneRw : HT := ⟨tabL [], tabH []⟩
abbrev is_cloneRw : List IT := [.v (.one (.sl 78 (.cons (.sl 58 (.cons (.int .i64) (.cons (.int .i64) (.cons (.int .i64) (.one (.sl 4 (.one .bool))))))) (.one (.sl 34 (.cons (.int .i64) (.one (.int .i64)))))))) false]
abbrev os_cloneRw : List OT := [⟨.one (.sl 78 (.cons (.sl 58 (.cons (.int .i64) (.cons (.int .i64) (.cons (.int .i64) (.one (.sl 4 (.one .bool))))))) (.one (.sl 34 (.cons (.int .i64) (.one (.int .i64))))))), false, [true]⟩]
set_option maxRecDepth 100000
noncomputable def F_cloneRw : List (List (Int × Int × Int × List Bool) × List (Int × Int)) → Option (List (List (Int × Int × Int × List Bool) × List (Int × Int))) := fun (a : List (List (Int × Int × Int × List Bool) × List (Int × Int))) => ifB (isE a) (ambO (some []) (ifB (roomA 48 [] a) (some (cat [] a)) none)) (ifB (roomA 48 [] a) (some (cat [] a)) none)
theorem F_cloneRw_eq (x : PI is_cloneRw) : F_cloneRw x = fnE T G_cloneRw H_cloneRw C_cloneRw (resOf Try.f113) is_cloneRw os_cloneRw x := by kernel_rfl
noncomputable abbrev R_cloneRw : GS := mkSpec false is_cloneRw os_cloneRw fun x => F_cloneRw x
theorem R_cloneRw_ok : GSOK Try.prog 113 R_cloneRw := spec_ok tok g_cloneRw fmo (Ht := H_cloneRw) (fn := Try.f113) (Try.func113) (c := C_cloneRw) (by kernel_rfl) (by kernel_rfl) (by kernel_rfl) (by decide +kernel) (by decide) F_cloneRw_eq
end Go.Proofs.Y
namespace Go.Proofs.Y
open Go.Rb Go.Kx
noncomputable def C_cloneBk : Code := bodyOf Try.f114
noncomputable def G_cloneBk : FuncId → Option GS := tabG []
theorem g_cloneBk : ΓOK Try.prog G_cloneBk := ΓOK_nil
def H_cloneBk : HT := ⟨tabL [], tabH []⟩
abbrev is_cloneBk : List IT := [.v (.one (.sl 58 (.cons (.int .i64) (.cons (.int .i64) (.cons (.int .i64) (.one (.sl 4 (.one .bool)))))))) false]
abbrev os_cloneBk : List OT := [⟨.one (.sl 58 (.cons (.int .i64) (.cons (.int .i64) (.cons (.int .i64) (.one (.sl 4 (.one .bool))))))), false, [true]⟩]
set_option maxRecDepth 100000
noncomputable def F_cloneBk : List (Int × Int × Int × List Bool) → Option (List (Int × Int × Int × List Bool)) := fun (a : List (Int × Int × Int × List Bool)) => ifB (isE a) (ambO (some []) (ifB (roomA 48 [] a) (some (cat [] a)) none)) (ifB (roomA 48 [] a) (some (cat [] a)) none)
theorem F_cloneBk_eq (x : PI is_cloneBk) : F_cloneBk x = fnE T G_cloneBk H_cloneBk C_cloneBk (resOf Try.f114) is_cloneBk os_cloneBk x := by kernel_rfl
noncomputable abbrev R_cloneBk : GS := mkSpec false is_cloneBk os_cloneBk fun x => F_cloneBk x
theorem R_cloneBk_ok : GSOK Try.prog 114 R_cloneBk := spec_ok tok g_cloneBk fmo (Ht := H_cloneBk) (fn := Try.f114) (Try.func114) (c := C_cloneBk) (by kernel_rfl) (by kernel_rfl) (by kernel_rfl) (by decide +kernel) (by decide) F_cloneBk_eq
end Go.Proofs.Y
namespace Go.Proofs.Y
open Go.Rb Go.Kx
noncomputable def C_shelf_Copy : Code := bodyOf Try.f105
noncomputable def G_shelf_Copy : FuncId → Option GS := tabG [(113, R_cloneRw), (114, R_cloneBk), (100, R_cloneP), (125, R_block_Copy)]
theorem g_shelf_Copy : ΓOK Try.prog G_shelf_Copy := ΓOK_cons (R_cloneRw_ok) (ΓOK_cons (R_cloneBk_ok) (ΓOK_cons (R_cloneP_ok) (ΓOK_cons (R_block_Copy_ok) (ΓOK_nil))))
def H_shelf_Copy : HT := ⟨tabL [(3, .unroll 5), (7, .it [] (dyn [.t 33 (.int .i64), .b 29 0 58 (.cons (.int .i64) (.cons (.int .i64) (.cons (.int .i64) (.one (.sl 4 (.one .bool))))))]))], tabH [(2, [.expl 1 0])]⟩
noncomputable def I_shelf_Copy : GS := inl T G_shelf_Copy H_shelf_Copy C_shelf_Copy (resOf Try.f105) (Try.f105.ntmps)
theorem I_shelf_Copy_ok : GSOK Try.prog 105 I_shelf_Copy := inl_ok tok g_shelf_Copy fmo (Ht := H_shelf_Copy) (fn := Try.f105) (Try.func105) (c := C_shelf_Copy) (by kernel_rfl) (by kernel_rfl) (by kernel_rfl)
end Go.Proofs.Y
namespace Go.Proofs.Y
open Go.Rb Go.Kx
noncomputable def C_shelf_Drop_1 : Code := bodyOf Try.f108
noncomputable def G_shelf_Drop_1 : FuncId → Option GS := tabG []
theorem g_shelf_Drop_1 : ΓOK Try.prog G_shelf_Drop_1 := ΓOK_nil
def H_shelf_Drop_1 : HT := ⟨tabL [], tabH []⟩
noncomputable def I_shelf_Drop_1 : GS := inl T G_shelf_Drop_1 H_shelf_Drop_1 C_shelf_Drop_1 (resOf Try.f108) (Try.f108.ntmps)
theorem I_shelf_Drop_1_ok : GSOK Try.prog 108 I_shelf_Drop_1 := inl_ok tok g_shelf_Drop_1 fmo (Ht := H_shelf_Drop_1) (fn := Try.f108) (Try.func108) (c := C_shelf_Drop_1) (by kernel_rfl) (by kernel_rfl) (by kernel_rfl)
end Go.Proofs.Y
namespace Go.Proofs.Y
open Go.Rb Go.Kx
noncomputable def C_indexFuncB : Code := bodyOf Try.f126
noncomputable def G_indexFuncB : FuncId → Option GS := tabG [(108, I_shelf_Drop_1)]
theorem g_indexFuncB : ΓOK Try.prog G_indexFuncB := ΓOK_cons (I_shelf_Drop_1_ok) (ΓOK_nil)
def H_indexFuncB : HT := ⟨tabL [(2, .it [] (dyn [.t 8 (.int .i64)]))], tabH []⟩
noncomputable def I_indexFuncB : GS := inl T G_indexFuncB H_indexFuncB C_indexFuncB (resOf Try.f126) (Try.f126.ntmps)
theorem I_indexFuncB_ok : GSOK Try.prog 126 I_indexFuncB := inl_ok tok g_indexFuncB fmo (Ht := H_indexFuncB) (fn := Try.f126) (Try.func126) (c := C_indexFuncB) (by kernel_rfl) (by kernel_rfl) (by kernel_rfl)
end Go.Proofs.Y
namespace Go.Proofs.Y
open Go.Rb Go.Kx
noncomputable def C_deleteFuncB : Code := bodyOf Try.f107
noncomputable def G_deleteFuncB : FuncId → Option GS := tabG [(126, I_indexFuncB), (108, I_shelf_Drop_1)]
theorem g_deleteFuncB : ΓOK Try.prog G_deleteFuncB := ΓOK_cons (I_indexFuncB_ok) (ΓOK_cons (I_shelf_Drop_1_ok) (ΓOK_nil))
def H_deleteFuncB : HT := ⟨tabL [(5, .it [] (dyn [.t 5 (.int .i64), .t 6 (.int .i64), .a 0 58 (.cons (.int .i64) (.cons (.int .i64) (.cons (.int .i64) (.one (.sl 4 (.one .bool))))))]))], tabH [(5, [.touch 0])]⟩
abbrev ws_deleteFuncB : List WA := [.f 108 (.one (.int .i64))]
abbrev os_deleteFuncB : List OT := [⟨.one (.sl 58 (.cons (.int .i64) (.cons (.int .i64) (.cons (.int .i64) (.one (.sl 4 (.one .bool))))))), false, []⟩]
set_option maxRecDepth 100000
noncomputable def F_deleteFuncB : List (Int × Int × Int × List Bool) → Int → Option (List (Int × Int × Int × List Bool)) := fun (a : List (Int × Int × Int × List Bool)) (b : Int) => loopN maxR (fun (x : Int) => ifB (ltI x (lenI a)) (ifB (ltL x a) (bindO (atN a (natI x)) fun (y : Int × Int × Int × List Bool) => ifB (ltI y.2.2.1 b) (mapO Sum.inr (ifB (eqI x (-1)) (some a) (loopN maxR (fun (x : Int × Int × List (Int × Int × Int × List Bool)) => ifB (ltI x.2.1 (lenI x.2.2)) (ifB (ltL x.2.1 x.2.2) (bindO (atN x.2.2 (natI x.2.1)) fun (y : Int × Int × Int × List Bool) => ifB (notB (ltI y.2.2.1 b)) (ifB (ltL x.1 x.2.2) (bindO (atN x.2.2 (natI x.1)) fun (y_1 : Int × Int × Int × List Bool) => some (Sum.inl (wadd .i64 x.1 1, wadd .i64 x.2.1 1, setN x.2.2 (natI x.1) (y.1, y.2.1, y.2.2.1, y.2.2.2)))) none) (some (Sum.inl (x.1, wadd .i64 x.2.1 1, x.2.2)))) none) (mapO Sum.inr (ifB (in1 x.2.2 x.1) (ifB (inN x.2.2 (addN 0 (natI x.1)) (subNI (lenN x.2.2) x.1)) (ifB (in1 (overN x.2.2 (addN 0 (natI x.1)) (repN (subNI (lenN x.2.2) x.1) (0, 0, 0, []))) x.1) (ifB (inN (overN x.2.2 (addN 0 (natI x.1)) (repN (subNI (lenN x.2.2) x.1) (0, 0, 0, []))) 0 (natI x.1)) (some (subN (overN x.2.2 (addN 0 (natI x.1)) (repN (subNI (lenN x.2.2) x.1) (0, 0, 0, []))) 0 (natI x.1))) none) none) none) none))) (x, wadd .i64 x 1, a)))) (some (Sum.inl (wadd .i64 x 1)))) none) (mapO Sum.inr (some a))) 0
theorem F_deleteFuncB_eq (rows : List (DenR (.cons (.int .i64) (.cons (.int .i64) (.cons (.int .i64) (.one (.sl 4 (.one .bool)))))))) (x : PW ws_deleteFuncB) : F_deleteFuncB rows (x.1) = fnM T G_deleteFuncB H_deleteFuncB C_deleteFuncB (resOf Try.f107) 58 (.cons (.int .i64) (.cons (.int .i64) (.cons (.int .i64) (.one (.sl 4 (.one .bool)))))) ws_deleteFuncB os_deleteFuncB rows x := by kernel_rfl
noncomputable abbrev R_deleteFuncB : GS := mkMove 58 (.cons (.int .i64) (.cons (.int .i64) (.cons (.int .i64) (.one (.sl 4 (.one .bool)))))) ws_deleteFuncB os_deleteFuncB fun rows x => F_deleteFuncB rows (x.1)
theorem R_deleteFuncB_ok : GSOK Try.prog 107 R_deleteFuncB := move_ok tok g_deleteFuncB fmo (Ht := H_deleteFuncB) (fn := Try.f107) (Try.func107) (c := C_deleteFuncB) (by kernel_rfl) (by kernel_rfl) (by kernel_rfl) (by decide +kernel) (by decide) F_deleteFuncB_eq
end Go.Proofs.Y
namespace Go.Proofs.Y
open Go.Rb Go.Kx
noncomputable def C_shelf_Drop : Code := bodyOf Try.f73
noncomputable def G_shelf_Drop : FuncId → Option GS := tabG [(75, R_shelf_Check), (105, I_shelf_Copy), (108, I_shelf_Drop_1), (107, R_deleteFuncB)]
theorem g_shelf_Drop : ΓOK Try.prog G_shelf_Drop := ΓOK_cons (R_shelf_Check_ok) (ΓOK_cons (I_shelf_Copy_ok) (ΓOK_cons (I_shelf_Drop_1_ok) (ΓOK_cons (R_deleteFuncB_ok) (ΓOK_nil))))
def H_shelf_Drop : HT := ⟨tabL [(8, .unroll 5)], tabH [(7, [.frzb 3 (.one (.int .i64))]), (12, [.frzq 2 0 0, .frzq 2 0 1, .frzq 2 0 2, .frzq 2 0 3, .frzq 2 0 4, .frzq 2 0 5, .frzq 2 0 6, .frzq 2 0 7, .pack 2 0 (.cons (.sl 58 (.cons (.int .i64) (.cons (.int .i64) (.cons (.int .i64) (.one (.sl 4 (.one .bool))))))) (.one (.sl 34 (.cons (.int .i64) (.one (.int .i64))))))])]⟩
abbrev is_shelf_Drop : List IT := [.v (.one (.sl 78 (.cons (.sl 58 (.cons (.int .i64) (.cons (.int .i64) (.cons (.int .i64) (.one (.sl 4 (.one .bool))))))) (.one (.sl 34 (.cons (.int .i64) (.one (.int .i64)))))))) true, .v (.one (.int .i64)) false]
abbrev os_shelf_Drop : List OT := [⟨.one (.sl 78 (.cons (.sl 58 (.cons (.int .i64) (.cons (.int .i64) (.cons (.int .i64) (.one (.sl 4 (.one .bool))))))) (.one (.sl 34 (.cons (.int .i64) (.one (.int .i64))))))), true, []⟩, ⟨.one (.int .i64), false, []⟩]
set_option maxRecDepth 100000
noncomputable def F_shelf_Drop : List (List (Int × Int × Int × List Bool) × List (Int × Int)) → Int → Option (List (List (Int × Int × Int × List Bool) × List (Int × Int)) × Int) := fun (a : List (List (Int × Int × Int × List Bool) × List (Int × Int))) (b : Int) => bindO (F_shelf_Check a) fun (y : Int) => ifB (neI y 0) (some ([], y)) (ifB (ltI b 0) (some ([], 3)) (ifB (gtI b 100001) (some ([], 3)) (bindO (F_cloneRw a) fun (y : List (List (Int × Int × Int × List Bool) × List (Int × Int))) => bindO (four y) fun (y : (List (Int × Int × Int × List Bool) × List (Int × Int)) × (List (Int × Int × Int × List Bool) × List (Int × Int)) × (List (Int × Int × Int × List Bool) × List (Int × Int)) × List (Int × Int × Int × List Bool) × List (Int × Int)) => bindO (F_cloneBk y.1.1) fun (y_1 : List (Int × Int × Int × List Bool)) => bindO (F_cloneP y.1.2) fun (y_2 : List (Int × Int)) => loopN maxR (fun (x : Int × List (Int × Int × Int × List Bool)) => ifB (ltI x.1 (lenI y.1.1)) (bindO (atI y.1.1 x.1) fun (y : Int × Int × Int × List Bool) => bindO (F_block_Copy (y.1, y.2.1, y.2.2.1, y.2.2.2)) fun (y : Int × Int × Int × List Bool) => ifB (ltL x.1 x.2) (bindO (atN x.2 (natI x.1)) fun (y_3 : Int × Int × Int × List Bool) => some (Sum.inl (wadd .i64 x.1 1, setN x.2 (natI x.1) (y.1, y.2.1, y.2.2.1, y.2.2.2)))) none) (mapO Sum.inr (bindO (F_cloneBk y.2.1.1) fun (y_3 : List (Int × Int × Int × List Bool)) => bindO (F_cloneP y.2.1.2) fun (y_4 : List (Int × Int)) => loopN maxR (fun (x_1 : Int × List (Int × Int × Int × List Bool)) => ifB (ltI x_1.1 (lenI y.2.1.1)) (bindO (atI y.2.1.1 x_1.1) fun (y : Int × Int × Int × List Bool) => bindO (F_block_Copy (y.1, y.2.1, y.2.2.1, y.2.2.2)) fun (y : Int × Int × Int × List Bool) => ifB (ltL x_1.1 x_1.2) (bindO (atN x_1.2 (natI x_1.1)) fun (y_5 : Int × Int × Int × List Bool) => some (Sum.inl (wadd .i64 x_1.1 1, setN x_1.2 (natI x_1.1) (y.1, y.2.1, y.2.2.1, y.2.2.2)))) none) (mapO Sum.inr (bindO (F_cloneBk y.2.2.1.1) fun (y_5 : List (Int × Int × Int × List Bool)) => bindO (F_cloneP y.2.2.1.2) fun (y_6 : List (Int × Int)) => loopN maxR (fun (x_2 : Int × List (Int × Int × Int × List Bool)) => ifB (ltI x_2.1 (lenI y.2.2.1.1)) (bindO (atI y.2.2.1.1 x_2.1) fun (y : Int × Int × Int × List Bool) => bindO (F_block_Copy (y.1, y.2.1, y.2.2.1, y.2.2.2)) fun (y : Int × Int × Int × List Bool) => ifB (ltL x_2.1 x_2.2) (bindO (atN x_2.2 (natI x_2.1)) fun (y_7 : Int × Int × Int × List Bool) => some (Sum.inl (wadd .i64 x_2.1 1, setN x_2.2 (natI x_2.1) (y.1, y.2.1, y.2.2.1, y.2.2.2)))) none) (mapO Sum.inr (bindO (F_cloneBk y.2.2.2.1) fun (y_7 : List (Int × Int × Int × List Bool)) => bindO (F_cloneP y.2.2.2.2) fun (y_8 : List (Int × Int)) => loopN maxR (fun (x_3 : Int × List (Int × Int × Int × List Bool)) => ifB (ltI x_3.1 (lenI y.2.2.2.1)) (bindO (atI y.2.2.2.1 x_3.1) fun (y : Int × Int × Int × List Bool) => bindO (F_block_Copy (y.1, y.2.1, y.2.2.1, y.2.2.2)) fun (y : Int × Int × Int × List Bool) => ifB (ltL x_3.1 x_3.2) (bindO (atN x_3.2 (natI x_3.1)) fun (y_9 : Int × Int × Int × List Bool) => some (Sum.inl (wadd .i64 x_3.1 1, setN x_3.2 (natI x_3.1) (y.1, y.2.1, y.2.2.1, y.2.2.2)))) none) (mapO Sum.inr (bindO (F_deleteFuncB x.2 b) fun (y : List (Int × Int × Int × List Bool)) => bindO (F_deleteFuncB x_1.2 b) fun (y_9 : List (Int × Int × Int × List Bool)) => bindO (F_deleteFuncB x_2.2 b) fun (y_10 : List (Int × Int × Int × List Bool)) => bindO (F_deleteFuncB x_3.2 b) fun (y_11 : List (Int × Int × Int × List Bool)) => some ([(y, y_2), (y_9, y_4), (y_10, y_6), (y_11, y_8)], 0)))) (0, y_7)))) (0, y_5)))) (0, y_3)))) (0, y_1))))
theorem F_shelf_Drop_eq (x : PI is_shelf_Drop) : F_shelf_Drop (x.1) (x.2) = fnE T G_shelf_Drop H_shelf_Drop C_shelf_Drop (resOf Try.f73) is_shelf_Drop os_shelf_Drop x := by kernel_rfl
noncomputable abbrev R_shelf_Drop : GS := mkSpec false is_shelf_Drop os_shelf_Drop fun x => F_shelf_Drop (x.1) (x.2)
theorem R_shelf_Drop_ok : GSOK Try.prog 73 R_shelf_Drop := spec_ok tok g_shelf_Drop fmo (Ht := H_shelf_Drop) (fn := Try.f73) (Try.func73) (c := C_shelf_Drop) (by kernel_rfl) (by kernel_rfl) (by kernel_rfl) (by decide +kernel) (by decide) F_shelf_Drop_eq
end Go.Proofs.Y
namespace Go.Proofs.Y
open Go.Rb Go.Kx
noncomputable def C_shelf_Seal : Code := bodyOf Try.f71
noncomputable def G_shelf_Seal : FuncId → Option GS := tabG [(75, R_shelf_Check), (105, I_shelf_Copy), (51, R_block_Make)]
theorem g_shelf_Seal : ΓOK Try.prog G_shelf_Seal := ΓOK_cons (R_shelf_Check_ok) (ΓOK_cons (I_shelf_Copy_ok) (ΓOK_cons (R_block_Make_ok) (ΓOK_nil)))
def H_shelf_Seal : HT := ⟨tabL [], tabH [(16, [.frzq 3 0 0, .frzq 3 0 1, .frzq 3 0 2, .frzq 3 0 3, .frzq 3 0 4, .frzq 3 0 5, .frzq 3 0 6, .frzq 3 0 7, .pack 3 0 (.cons (.sl 58 (.cons (.int .i64) (.cons (.int .i64) (.cons (.int .i64) (.one (.sl 4 (.one .bool))))))) (.one (.sl 34 (.cons (.int .i64) (.one (.int .i64))))))])]⟩
abbrev is_shelf_Seal : List IT := [.v (.one (.sl 78 (.cons (.sl 58 (.cons (.int .i64) (.cons (.int .i64) (.cons (.int .i64) (.one (.sl 4 (.one .bool))))))) (.one (.sl 34 (.cons (.int .i64) (.one (.int .i64)))))))) true, .v (.one (.int .i64)) false, .v (.one (.int .i64)) false]
abbrev os_shelf_Seal : List OT := [⟨.one (.sl 78 (.cons (.sl 58 (.cons (.int .i64) (.cons (.int .i64) (.cons (.int .i64) (.one (.sl 4 (.one .bool))))))) (.one (.sl 34 (.cons (.int .i64) (.one (.int .i64))))))), true, []⟩, ⟨.one (.int .i64), false, []⟩]
set_option maxRecDepth 100000
noncomputable def F_shelf_Seal : List (List (Int × Int × Int × List Bool) × List (Int × Int)) → Int → Int → Option (List (List (Int × Int × Int × List Bool) × List (Int × Int)) × Int) := fun (a : List (List (Int × Int × Int × List Bool) × List (Int × Int))) (b c : Int) => bindO (F_shelf_Check a) fun (y : Int) => ifB (neI y 0) (some ([], y)) (ifB (ltI b 0) (some ([], 5)) (ifB (geI b (lenI a)) (some ([], 5)) (bindO (F_cloneRw a) fun (y : List (List (Int × Int × Int × List Bool) × List (Int × Int))) => bindO (four y) fun (y : (List (Int × Int × Int × List Bool) × List (Int × Int)) × (List (Int × Int × Int × List Bool) × List (Int × Int)) × (List (Int × Int × Int × List Bool) × List (Int × Int)) × List (Int × Int × Int × List Bool) × List (Int × Int)) => bindO (F_cloneBk y.1.1) fun (y_1 : List (Int × Int × Int × List Bool)) => bindO (F_cloneP y.1.2) fun (y_2 : List (Int × Int)) => loopN maxR (fun (x : Int × List (Int × Int × Int × List Bool)) => ifB (ltI x.1 (lenI y.1.1)) (bindO (atI y.1.1 x.1) fun (y : Int × Int × Int × List Bool) => bindO (F_block_Copy (y.1, y.2.1, y.2.2.1, y.2.2.2)) fun (y : Int × Int × Int × List Bool) => ifB (ltL x.1 x.2) (bindO (atN x.2 (natI x.1)) fun (y_3 : Int × Int × Int × List Bool) => some (Sum.inl (wadd .i64 x.1 1, setN x.2 (natI x.1) (y.1, y.2.1, y.2.2.1, y.2.2.2)))) none) (mapO Sum.inr (bindO (F_cloneBk y.2.1.1) fun (y_3 : List (Int × Int × Int × List Bool)) => bindO (F_cloneP y.2.1.2) fun (y_4 : List (Int × Int)) => loopN maxR (fun (x_1 : Int × List (Int × Int × Int × List Bool)) => ifB (ltI x_1.1 (lenI y.2.1.1)) (bindO (atI y.2.1.1 x_1.1) fun (y : Int × Int × Int × List Bool) => bindO (F_block_Copy (y.1, y.2.1, y.2.2.1, y.2.2.2)) fun (y : Int × Int × Int × List Bool) => ifB (ltL x_1.1 x_1.2) (bindO (atN x_1.2 (natI x_1.1)) fun (y_5 : Int × Int × Int × List Bool) => some (Sum.inl (wadd .i64 x_1.1 1, setN x_1.2 (natI x_1.1) (y.1, y.2.1, y.2.2.1, y.2.2.2)))) none) (mapO Sum.inr (bindO (F_cloneBk y.2.2.1.1) fun (y_5 : List (Int × Int × Int × List Bool)) => bindO (F_cloneP y.2.2.1.2) fun (y_6 : List (Int × Int)) => loopN maxR (fun (x_2 : Int × List (Int × Int × Int × List Bool)) => ifB (ltI x_2.1 (lenI y.2.2.1.1)) (bindO (atI y.2.2.1.1 x_2.1) fun (y : Int × Int × Int × List Bool) => bindO (F_block_Copy (y.1, y.2.1, y.2.2.1, y.2.2.2)) fun (y : Int × Int × Int × List Bool) => ifB (ltL x_2.1 x_2.2) (bindO (atN x_2.2 (natI x_2.1)) fun (y_7 : Int × Int × Int × List Bool) => some (Sum.inl (wadd .i64 x_2.1 1, setN x_2.2 (natI x_2.1) (y.1, y.2.1, y.2.2.1, y.2.2.2)))) none) (mapO Sum.inr (bindO (F_cloneBk y.2.2.2.1) fun (y_7 : List (Int × Int × Int × List Bool)) => bindO (F_cloneP y.2.2.2.2) fun (y_8 : List (Int × Int)) => loopN maxR (fun (x_3 : Int × List (Int × Int × Int × List Bool)) => ifB (ltI x_3.1 (lenI y.2.2.2.1)) (bindO (atI y.2.2.2.1 x_3.1) fun (y : Int × Int × Int × List Bool) => bindO (F_block_Copy (y.1, y.2.1, y.2.2.1, y.2.2.2)) fun (y : Int × Int × Int × List Bool) => ifB (ltL x_3.1 x_3.2) (bindO (atN x_3.2 (natI x_3.1)) fun (y_9 : Int × Int × Int × List Bool) => some (Sum.inl (wadd .i64 x_3.1 1, setN x_3.2 (natI x_3.1) (y.1, y.2.1, y.2.2.1, y.2.2.2)))) none) (mapO Sum.inr (ifB (eqI b 0) (ifB (ltI c 1) (some ([], 3)) (ifB (gtI c (lenI y_2)) (some ([], 3)) (ifB (eqI (lenI x.2) 8) (some ([], 2)) (ifB (in1 y_2 c) (ifB (inN y_2 0 (natI c)) (bindO (F_block_Make (subN y_2 0 (natI c))) fun (y : (Int × Int × Int × List Bool) × Int) => ifB (neI y.2 0) (some ([], y.2)) (ifB (roomA 48 x.2 [(y.1.1, y.1.2.1, y.1.2.2.1, y.1.2.2.2)]) (ifB (in1 y_2 c) (some ([(cat x.2 [(y.1.1, y.1.2.1, y.1.2.2.1, y.1.2.2.2)], dropI y_2 c), (x_1.2, y_4), (x_2.2, y_6), (x_3.2, y_8)], 0)) none) none)) none) none)))) (ifB (eqI b 1) (ifB (ltI c 1) (some ([], 3)) (ifB (gtI c (lenI y_4)) (some ([], 3)) (ifB (eqI (lenI x_1.2) 8) (some ([], 2)) (ifB (in1 y_4 c) (ifB (inN y_4 0 (natI c)) (bindO (F_block_Make (subN y_4 0 (natI c))) fun (y : (Int × Int × Int × List Bool) × Int) => ifB (neI y.2 0) (some ([], y.2)) (ifB (roomA 48 x_1.2 [(y.1.1, y.1.2.1, y.1.2.2.1, y.1.2.2.2)]) (ifB (in1 y_4 c) (some ([(x.2, y_2), (cat x_1.2 [(y.1.1, y.1.2.1, y.1.2.2.1, y.1.2.2.2)], dropI y_4 c), (x_2.2, y_6), (x_3.2, y_8)], 0)) none) none)) none) none)))) (ifB (eqI b 2) (ifB (ltI c 1) (some ([], 3)) (ifB (gtI c (lenI y_6)) (some ([], 3)) (ifB (eqI (lenI x_2.2) 8) (some ([], 2)) (ifB (in1 y_6 c) (ifB (inN y_6 0 (natI c)) (bindO (F_block_Make (subN y_6 0 (natI c))) fun (y : (Int × Int × Int × List Bool) × Int) => ifB (neI y.2 0) (some ([], y.2)) (ifB (roomA 48 x_2.2 [(y.1.1, y.1.2.1, y.1.2.2.1, y.1.2.2.2)]) (ifB (in1 y_6 c) (some ([(x.2, y_2), (x_1.2, y_4), (cat x_2.2 [(y.1.1, y.1.2.1, y.1.2.2.1, y.1.2.2.2)], dropI y_6 c), (x_3.2, y_8)], 0)) none) none)) none) none)))) (ifB (eqI b 3) (ifB (ltI c 1) (some ([], 3)) (ifB (gtI c (lenI y_8)) (some ([], 3)) (ifB (eqI (lenI x_3.2) 8) (some ([], 2)) (ifB (in1 y_8 c) (ifB (inN y_8 0 (natI c)) (bindO (F_block_Make (subN y_8 0 (natI c))) fun (y : (Int × Int × Int × List Bool) × Int) => ifB (neI y.2 0) (some ([], y.2)) (ifB (roomA 48 x_3.2 [(y.1.1, y.1.2.1, y.1.2.2.1, y.1.2.2.2)]) (ifB (in1 y_8 c) (some ([(x.2, y_2), (x_1.2, y_4), (x_2.2, y_6), (cat x_3.2 [(y.1.1, y.1.2.1, y.1.2.2.1, y.1.2.2.2)], dropI y_8 c)], 0)) none) none)) none) none)))) none)))))) (0, y_7)))) (0, y_5)))) (0, y_3)))) (0, y_1))))
theorem F_shelf_Seal_eq (x : PI is_shelf_Seal) : F_shelf_Seal (x.1) (x.2.1) (x.2.2) = fnE T G_shelf_Seal H_shelf_Seal C_shelf_Seal (resOf Try.f71) is_shelf_Seal os_shelf_Seal x := by kernel_rfl
noncomputable abbrev R_shelf_Seal : GS := mkSpec false is_shelf_Seal os_shelf_Seal fun x => F_shelf_Seal (x.1) (x.2.1) (x.2.2)
theorem R_shelf_Seal_ok : GSOK Try.prog 71 R_shelf_Seal := spec_ok tok g_shelf_Seal fmo (Ht := H_shelf_Seal) (fn := Try.f71) (Try.func71) (c := C_shelf_Seal) (by kernel_rfl) (by kernel_rfl) (by kernel_rfl) (by decide +kernel) (by decide) F_shelf_Seal_eq
end Go.Proofs.Y
namespace Go.Proofs.Y
open Go.Rb Go.Kx
noncomputable def C_deleteB : Code := bodyOf Try.f106
noncomputable def G_deleteB : FuncId → Option GS := tabG []
theorem g_deleteB : ΓOK Try.prog G_deleteB := ΓOK_nil
def H_deleteB : HT := ⟨tabL [], tabH []⟩
abbrev ws_deleteB : List WA := [.d (.int .i64), .d (.int .i64)]
abbrev os_deleteB : List OT := [⟨.one (.sl 58 (.cons (.int .i64) (.cons (.int .i64) (.cons (.int .i64) (.one (.sl 4 (.one .bool))))))), false, []⟩]
set_option maxRecDepth 100000
noncomputable def F_deleteB : List (Int × Int × Int × List Bool) → Int → Int → Option (List (Int × Int × Int × List Bool)) := fun (a : List (Int × Int × Int × List Bool)) (b c : Int) => ifB (ifB (in2 a b c) (eqI (lenI a) (lenI a)) false) (ifB (eqI b c) (some a) (ifB (in1 a b) (ifB (in1 a c) (ifB (inN a (addN 0 (natI c)) (subNI (lenN a) c)) (ifB (inN a (addN 0 (natI b)) (lenN (subN a (addN 0 (natI c)) (subNI (lenN a) c)))) (ifB (in2C (addN (natI b) (lenN (subN a (addN 0 (natI c)) (subNI (lenN a) c)))) (capN (lenN (overN a (addN 0 (natI b)) (subN a (addN 0 (natI c)) (subNI (lenN a) c)))) 0) (intN (addN (natI b) (lenN (subN a (addN 0 (natI c)) (subNI (lenN a) c))))) (lenI a)) (ifB (inN (overN a (addN 0 (natI b)) (subN a (addN 0 (natI c)) (subNI (lenN a) c))) (addN 0 (natI (intN (addN (natI b) (lenN (subN a (addN 0 (natI c)) (subNI (lenN a) c))))))) (subI (intN (addN (natI b) (lenN (subN a (addN 0 (natI c)) (subNI (lenN a) c))))) (lenI a))) (ifB (inN (overN (overN a (addN 0 (natI b)) (subN a (addN 0 (natI c)) (subNI (lenN a) c))) (addN 0 (natI (intN (addN (natI b) (lenN (subN a (addN 0 (natI c)) (subNI (lenN a) c))))))) (repN (subI (intN (addN (natI b) (lenN (subN a (addN 0 (natI c)) (subNI (lenN a) c))))) (lenI a)) (0, 0, 0, []))) 0 (addN (natI b) (lenN (subN a (addN 0 (natI c)) (subNI (lenN a) c))))) (some (subN (overN (overN a (addN 0 (natI b)) (subN a (addN 0 (natI c)) (subNI (lenN a) c))) (addN 0 (natI (intN (addN (natI b) (lenN (subN a (addN 0 (natI c)) (subNI (lenN a) c))))))) (repN (subI (intN (addN (natI b) (lenN (subN a (addN 0 (natI c)) (subNI (lenN a) c))))) (lenI a)) (0, 0, 0, []))) 0 (addN (natI b) (lenN (subN a (addN 0 (natI c)) (subNI (lenN a) c)))))) none) none) none) none) none) none) none)) none
theorem F_deleteB_eq (rows : List (DenR (.cons (.int .i64) (.cons (.int .i64) (.cons (.int .i64) (.one (.sl 4 (.one .bool)))))))) (x : PW ws_deleteB) : F_deleteB rows (x.1) (x.2.1) = fnM T G_deleteB H_deleteB C_deleteB (resOf Try.f106) 58 (.cons (.int .i64) (.cons (.int .i64) (.cons (.int .i64) (.one (.sl 4 (.one .bool)))))) ws_deleteB os_deleteB rows x := by kernel_rfl
noncomputable abbrev R_deleteB : GS := mkMove 58 (.cons (.int .i64) (.cons (.int .i64) (.cons (.int .i64) (.one (.sl 4 (.one .bool)))))) ws_deleteB os_deleteB fun rows x => F_deleteB rows (x.1) (x.2.1)
theorem R_deleteB_ok : GSOK Try.prog 106 R_deleteB := move_ok tok g_deleteB fmo (Ht := H_deleteB) (fn := Try.f106) (Try.func106) (c := C_deleteB) (by kernel_rfl) (by kernel_rfl) (by kernel_rfl) (by decide +kernel) (by decide) F_deleteB_eq
end Go.Proofs.Y
namespace Go.Proofs.Y
open Go.Rb Go.Kx
noncomputable def C_shelf_Merge : Code := bodyOf Try.f72
noncomputable def G_shelf_Merge : FuncId → Option GS := tabG [(75, R_shelf_Check), (105, I_shelf_Copy), (53, R_block_Merge), (106, R_deleteB)]
theorem g_shelf_Merge : ΓOK Try.prog G_shelf_Merge := ΓOK_cons (R_shelf_Check_ok) (ΓOK_cons (I_shelf_Copy_ok) (ΓOK_cons (R_block_Merge_ok) (ΓOK_cons (R_deleteB_ok) (ΓOK_nil))))
def H_shelf_Merge : HT := ⟨tabL [], tabH [(15, [.frzq 3 0 0, .frzq 3 0 1, .frzq 3 0 2, .frzq 3 0 3, .frzq 3 0 4, .frzq 3 0 5, .frzq 3 0 6, .frzq 3 0 7, .pack 3 0 (.cons (.sl 58 (.cons (.int .i64) (.cons (.int .i64) (.cons (.int .i64) (.one (.sl 4 (.one .bool))))))) (.one (.sl 34 (.cons (.int .i64) (.one (.int .i64))))))])]⟩
abbrev is_shelf_Merge : List IT := [.v (.one (.sl 78 (.cons (.sl 58 (.cons (.int .i64) (.cons (.int .i64) (.cons (.int .i64) (.one (.sl 4 (.one .bool))))))) (.one (.sl 34 (.cons (.int .i64) (.one (.int .i64)))))))) true, .v (.one (.int .i64)) false, .v (.one (.int .i64)) false]
abbrev os_shelf_Merge : List OT := [⟨.one (.sl 78 (.cons (.sl 58 (.cons (.int .i64) (.cons (.int .i64) (.cons (.int .i64) (.one (.sl 4 (.one .bool))))))) (.one (.sl 34 (.cons (.int .i64) (.one (.int .i64))))))), true, []⟩, ⟨.one (.int .i64), false, []⟩]
set_option maxRecDepth 100000
noncomputable def F_shelf_Merge : List (List (Int × Int × Int × List Bool) × List (Int × Int)) → Int → Int → Option (List (List (Int × Int × Int × List Bool) × List (Int × Int)) × Int) := fun (a : List (List (Int × Int × Int × List Bool) × List (Int × Int))) (b c : Int) => bindO (F_shelf_Check a) fun (y : Int) => ifB (neI y 0) (some ([], y)) (ifB (ltI b 0) (some ([], 5)) (ifB (geI b (lenI a)) (some ([], 5)) (bindO (F_cloneRw a) fun (y : List (List (Int × Int × Int × List Bool) × List (Int × Int))) => bindO (four y) fun (y : (List (Int × Int × Int × List Bool) × List (Int × Int)) × (List (Int × Int × Int × List Bool) × List (Int × Int)) × (List (Int × Int × Int × List Bool) × List (Int × Int)) × List (Int × Int × Int × List Bool) × List (Int × Int)) => bindO (F_cloneBk y.1.1) fun (y_1 : List (Int × Int × Int × List Bool)) => bindO (F_cloneP y.1.2) fun (y_2 : List (Int × Int)) => loopN maxR (fun (x : Int × List (Int × Int × Int × List Bool)) => ifB (ltI x.1 (lenI y.1.1)) (bindO (atI y.1.1 x.1) fun (y : Int × Int × Int × List Bool) => bindO (F_block_Copy (y.1, y.2.1, y.2.2.1, y.2.2.2)) fun (y : Int × Int × Int × List Bool) => ifB (ltL x.1 x.2) (bindO (atN x.2 (natI x.1)) fun (y_3 : Int × Int × Int × List Bool) => some (Sum.inl (wadd .i64 x.1 1, setN x.2 (natI x.1) (y.1, y.2.1, y.2.2.1, y.2.2.2)))) none) (mapO Sum.inr (bindO (F_cloneBk y.2.1.1) fun (y_3 : List (Int × Int × Int × List Bool)) => bindO (F_cloneP y.2.1.2) fun (y_4 : List (Int × Int)) => loopN maxR (fun (x_1 : Int × List (Int × Int × Int × List Bool)) => ifB (ltI x_1.1 (lenI y.2.1.1)) (bindO (atI y.2.1.1 x_1.1) fun (y : Int × Int × Int × List Bool) => bindO (F_block_Copy (y.1, y.2.1, y.2.2.1, y.2.2.2)) fun (y : Int × Int × Int × List Bool) => ifB (ltL x_1.1 x_1.2) (bindO (atN x_1.2 (natI x_1.1)) fun (y_5 : Int × Int × Int × List Bool) => some (Sum.inl (wadd .i64 x_1.1 1, setN x_1.2 (natI x_1.1) (y.1, y.2.1, y.2.2.1, y.2.2.2)))) none) (mapO Sum.inr (bindO (F_cloneBk y.2.2.1.1) fun (y_5 : List (Int × Int × Int × List Bool)) => bindO (F_cloneP y.2.2.1.2) fun (y_6 : List (Int × Int)) => loopN maxR (fun (x_2 : Int × List (Int × Int × Int × List Bool)) => ifB (ltI x_2.1 (lenI y.2.2.1.1)) (bindO (atI y.2.2.1.1 x_2.1) fun (y : Int × Int × Int × List Bool) => bindO (F_block_Copy (y.1, y.2.1, y.2.2.1, y.2.2.2)) fun (y : Int × Int × Int × List Bool) => ifB (ltL x_2.1 x_2.2) (bindO (atN x_2.2 (natI x_2.1)) fun (y_7 : Int × Int × Int × List Bool) => some (Sum.inl (wadd .i64 x_2.1 1, setN x_2.2 (natI x_2.1) (y.1, y.2.1, y.2.2.1, y.2.2.2)))) none) (mapO Sum.inr (bindO (F_cloneBk y.2.2.2.1) fun (y_7 : List (Int × Int × Int × List Bool)) => bindO (F_cloneP y.2.2.2.2) fun (y_8 : List (Int × Int)) => loopN maxR (fun (x_3 : Int × List (Int × Int × Int × List Bool)) => ifB (ltI x_3.1 (lenI y.2.2.2.1)) (bindO (atI y.2.2.2.1 x_3.1) fun (y : Int × Int × Int × List Bool) => bindO (F_block_Copy (y.1, y.2.1, y.2.2.1, y.2.2.2)) fun (y : Int × Int × Int × List Bool) => ifB (ltL x_3.1 x_3.2) (bindO (atN x_3.2 (natI x_3.1)) fun (y_9 : Int × Int × Int × List Bool) => some (Sum.inl (wadd .i64 x_3.1 1, setN x_3.2 (natI x_3.1) (y.1, y.2.1, y.2.2.1, y.2.2.2)))) none) (mapO Sum.inr (ifB (eqI b 0) (ifB (ltI c 0) (some ([], 3)) (ifB (geI c (wsub .i64 (lenI x.2) 1)) (some ([], 3)) (ifB (ltL c x.2) (bindO (atN x.2 (natI c)) fun (y : Int × Int × Int × List Bool) => ifB (ltL (wadd .i64 c 1) x.2) (bindO (atN x.2 (natI (wadd .i64 c 1))) fun (y_9 : Int × Int × Int × List Bool) => bindO (F_block_Merge (y.1, y.2.1, y.2.2.1, y.2.2.2) (y_9.1, y_9.2.1, y_9.2.2.1, y_9.2.2.2)) fun (y : (Int × Int × Int × List Bool) × Int) => ifB (neI y.2 0) (some ([], y.2)) (ifB (ltL c x.2) (bindO (atN x.2 (natI c)) fun (y_10 : Int × Int × Int × List Bool) => bindO (F_deleteB (setN x.2 (natI c) (y.1.1, y.1.2.1, y.1.2.2.1, y.1.2.2.2)) (wadd .i64 c 1) (wadd .i64 c 2)) fun (y : List (Int × Int × Int × List Bool)) => some ([(y, y_2), (x_1.2, y_4), (x_2.2, y_6), (x_3.2, y_8)], 0)) none)) none) none))) (ifB (eqI b 1) (ifB (ltI c 0) (some ([], 3)) (ifB (geI c (wsub .i64 (lenI x_1.2) 1)) (some ([], 3)) (ifB (ltL c x_1.2) (bindO (atN x_1.2 (natI c)) fun (y : Int × Int × Int × List Bool) => ifB (ltL (wadd .i64 c 1) x_1.2) (bindO (atN x_1.2 (natI (wadd .i64 c 1))) fun (y_9 : Int × Int × Int × List Bool) => bindO (F_block_Merge (y.1, y.2.1, y.2.2.1, y.2.2.2) (y_9.1, y_9.2.1, y_9.2.2.1, y_9.2.2.2)) fun (y : (Int × Int × Int × List Bool) × Int) => ifB (neI y.2 0) (some ([], y.2)) (ifB (ltL c x_1.2) (bindO (atN x_1.2 (natI c)) fun (y_10 : Int × Int × Int × List Bool) => bindO (F_deleteB (setN x_1.2 (natI c) (y.1.1, y.1.2.1, y.1.2.2.1, y.1.2.2.2)) (wadd .i64 c 1) (wadd .i64 c 2)) fun (y : List (Int × Int × Int × List Bool)) => some ([(x.2, y_2), (y, y_4), (x_2.2, y_6), (x_3.2, y_8)], 0)) none)) none) none))) (ifB (eqI b 2) (ifB (ltI c 0) (some ([], 3)) (ifB (geI c (wsub .i64 (lenI x_2.2) 1)) (some ([], 3)) (ifB (ltL c x_2.2) (bindO (atN x_2.2 (natI c)) fun (y : Int × Int × Int × List Bool) => ifB (ltL (wadd .i64 c 1) x_2.2) (bindO (atN x_2.2 (natI (wadd .i64 c 1))) fun (y_9 : Int × Int × Int × List Bool) => bindO (F_block_Merge (y.1, y.2.1, y.2.2.1, y.2.2.2) (y_9.1, y_9.2.1, y_9.2.2.1, y_9.2.2.2)) fun (y : (Int × Int × Int × List Bool) × Int) => ifB (neI y.2 0) (some ([], y.2)) (ifB (ltL c x_2.2) (bindO (atN x_2.2 (natI c)) fun (y_10 : Int × Int × Int × List Bool) => bindO (F_deleteB (setN x_2.2 (natI c) (y.1.1, y.1.2.1, y.1.2.2.1, y.1.2.2.2)) (wadd .i64 c 1) (wadd .i64 c 2)) fun (y : List (Int × Int × Int × List Bool)) => some ([(x.2, y_2), (x_1.2, y_4), (y, y_6), (x_3.2, y_8)], 0)) none)) none) none))) (ifB (eqI b 3) (ifB (ltI c 0) (some ([], 3)) (ifB (geI c (wsub .i64 (lenI x_3.2) 1)) (some ([], 3)) (ifB (ltL c x_3.2) (bindO (atN x_3.2 (natI c)) fun (y : Int × Int × Int × List Bool) => ifB (ltL (wadd .i64 c 1) x_3.2) (bindO (atN x_3.2 (natI (wadd .i64 c 1))) fun (y_9 : Int × Int × Int × List Bool) => bindO (F_block_Merge (y.1, y.2.1, y.2.2.1, y.2.2.2) (y_9.1, y_9.2.1, y_9.2.2.1, y_9.2.2.2)) fun (y : (Int × Int × Int × List Bool) × Int) => ifB (neI y.2 0) (some ([], y.2)) (ifB (ltL c x_3.2) (bindO (atN x_3.2 (natI c)) fun (y_10 : Int × Int × Int × List Bool) => bindO (F_deleteB (setN x_3.2 (natI c) (y.1.1, y.1.2.1, y.1.2.2.1, y.1.2.2.2)) (wadd .i64 c 1) (wadd .i64 c 2)) fun (y : List (Int × Int × Int × List Bool)) => some ([(x.2, y_2), (x_1.2, y_4), (x_2.2, y_6), (y, y_8)], 0)) none)) none) none))) none)))))) (0, y_7)))) (0, y_5)))) (0, y_3)))) (0, y_1))))
theorem F_shelf_Merge_eq (x : PI is_shelf_Merge) : F_shelf_Merge (x.1) (x.2.1) (x.2.2) = fnE T G_shelf_Merge H_shelf_Merge C_shelf_Merge (resOf Try.f72) is_shelf_Merge os_shelf_Merge x := by kernel_rfl
noncomputable abbrev R_shelf_Merge : GS := mkSpec false is_shelf_Merge os_shelf_Merge fun x => F_shelf_Merge (x.1) (x.2.1) (x.2.2)
theorem R_shelf_Merge_ok : GSOK Try.prog 72 R_shelf_Merge := spec_ok tok g_shelf_Merge fmo (Ht := H_shelf_Merge) (fn := Try.f72) (Try.func72) (c := C_shelf_Merge) (by kernel_rfl) (by kernel_rfl) (by kernel_rfl) (by decide +kernel) (by decide) F_shelf_Merge_eq
end Go.Proofs.Y
namespace Go.Proofs.Y
open Go.Rb Go.Kx
noncomputable def C_shelf_Put : Code := bodyOf Try.f70
noncomputable def G_shelf_Put : FuncId → Option GS := tabG [(75, R_shelf_Check), (105, I_shelf_Copy), (104, B_shelf_all)]
theorem g_shelf_Put : ΓOK Try.prog G_shelf_Put := ΓOK_cons (R_shelf_Check_ok) (ΓOK_cons (I_shelf_Copy_ok) (ΓOK_cons (B_shelf_all_ok) (ΓOK_nil)))
def H_shelf_Put : HT := ⟨tabL [(8, .it [] (dyn [.t 26 (.int .i64), .q 2 0 1 34 (.cons (.int .i64) (.one (.int .i64))), .q 2 0 3 34 (.cons (.int .i64) (.one (.int .i64))), .q 2 0 5 34 (.cons (.int .i64) (.one (.int .i64))), .q 2 0 7 34 (.cons (.int .i64) (.one (.int .i64)))]))], tabH [(18, [.frzq 2 0 0, .frzq 2 0 1, .frzq 2 0 2, .frzq 2 0 3, .frzq 2 0 4, .frzq 2 0 5, .frzq 2 0 6, .frzq 2 0 7, .pack 2 0 (.cons (.sl 58 (.cons (.int .i64) (.cons (.int .i64) (.cons (.int .i64) (.one (.sl 4 (.one .bool))))))) (.one (.sl 34 (.cons (.int .i64) (.one (.int .i64))))))])]⟩
abbrev is_shelf_Put : List IT := [.v (.one (.sl 78 (.cons (.sl 58 (.cons (.int .i64) (.cons (.int .i64) (.cons (.int .i64) (.one (.sl 4 (.one .bool))))))) (.one (.sl 34 (.cons (.int .i64) (.one (.int .i64)))))))) true, .v (.one (.sl 97 (.cons (.int .i64) (.cons (.int .i64) (.one (.int .i64)))))) false]
abbrev os_shelf_Put : List OT := [⟨.one (.sl 78 (.cons (.sl 58 (.cons (.int .i64) (.cons (.int .i64) (.cons (.int .i64) (.one (.sl 4 (.one .bool))))))) (.one (.sl 34 (.cons (.int .i64) (.one (.int .i64))))))), true, []⟩, ⟨.one (.int .i64), false, []⟩]
set_option maxRecDepth 100000
noncomputable def F_shelf_Put : List (List (Int × Int × Int × List Bool) × List (Int × Int)) → List (Int × Int × Int) → Option (List (List (Int × Int × Int × List Bool) × List (Int × Int)) × Int) := fun (a : List (List (Int × Int × Int × List Bool) × List (Int × Int))) (b : List (Int × Int × Int)) => bindO (F_shelf_Check a) fun (y : Int) => ifB (neI y 0) (some ([], y)) (ifB (gtI (lenI b) 10) (some ([], 2)) (bindO (F_cloneRw a) fun (y : List (List (Int × Int × Int × List Bool) × List (Int × Int))) => bindO (four y) fun (y : (List (Int × Int × Int × List Bool) × List (Int × Int)) × (List (Int × Int × Int × List Bool) × List (Int × Int)) × (List (Int × Int × Int × List Bool) × List (Int × Int)) × List (Int × Int × Int × List Bool) × List (Int × Int)) => bindO (F_cloneBk y.1.1) fun (y_1 : List (Int × Int × Int × List Bool)) => bindO (F_cloneP y.1.2) fun (y_2 : List (Int × Int)) => loopN maxR (fun (x : Int × List (Int × Int × Int × List Bool)) => ifB (ltI x.1 (lenI y.1.1)) (bindO (atI y.1.1 x.1) fun (y : Int × Int × Int × List Bool) => bindO (F_block_Copy (y.1, y.2.1, y.2.2.1, y.2.2.2)) fun (y : Int × Int × Int × List Bool) => ifB (ltL x.1 x.2) (bindO (atN x.2 (natI x.1)) fun (y_3 : Int × Int × Int × List Bool) => some (Sum.inl (wadd .i64 x.1 1, setN x.2 (natI x.1) (y.1, y.2.1, y.2.2.1, y.2.2.2)))) none) (mapO Sum.inr (bindO (F_cloneBk y.2.1.1) fun (y_3 : List (Int × Int × Int × List Bool)) => bindO (F_cloneP y.2.1.2) fun (y_4 : List (Int × Int)) => loopN maxR (fun (x_1 : Int × List (Int × Int × Int × List Bool)) => ifB (ltI x_1.1 (lenI y.2.1.1)) (bindO (atI y.2.1.1 x_1.1) fun (y : Int × Int × Int × List Bool) => bindO (F_block_Copy (y.1, y.2.1, y.2.2.1, y.2.2.2)) fun (y : Int × Int × Int × List Bool) => ifB (ltL x_1.1 x_1.2) (bindO (atN x_1.2 (natI x_1.1)) fun (y_5 : Int × Int × Int × List Bool) => some (Sum.inl (wadd .i64 x_1.1 1, setN x_1.2 (natI x_1.1) (y.1, y.2.1, y.2.2.1, y.2.2.2)))) none) (mapO Sum.inr (bindO (F_cloneBk y.2.2.1.1) fun (y_5 : List (Int × Int × Int × List Bool)) => bindO (F_cloneP y.2.2.1.2) fun (y_6 : List (Int × Int)) => loopN maxR (fun (x_2 : Int × List (Int × Int × Int × List Bool)) => ifB (ltI x_2.1 (lenI y.2.2.1.1)) (bindO (atI y.2.2.1.1 x_2.1) fun (y : Int × Int × Int × List Bool) => bindO (F_block_Copy (y.1, y.2.1, y.2.2.1, y.2.2.2)) fun (y : Int × Int × Int × List Bool) => ifB (ltL x_2.1 x_2.2) (bindO (atN x_2.2 (natI x_2.1)) fun (y_7 : Int × Int × Int × List Bool) => some (Sum.inl (wadd .i64 x_2.1 1, setN x_2.2 (natI x_2.1) (y.1, y.2.1, y.2.2.1, y.2.2.2)))) none) (mapO Sum.inr (bindO (F_cloneBk y.2.2.2.1) fun (y_7 : List (Int × Int × Int × List Bool)) => bindO (F_cloneP y.2.2.2.2) fun (y_8 : List (Int × Int)) => loopN maxR (fun (x_3 : Int × List (Int × Int × Int × List Bool)) => ifB (ltI x_3.1 (lenI y.2.2.2.1)) (bindO (atI y.2.2.2.1 x_3.1) fun (y : Int × Int × Int × List Bool) => bindO (F_block_Copy (y.1, y.2.1, y.2.2.1, y.2.2.2)) fun (y : Int × Int × Int × List Bool) => ifB (ltL x_3.1 x_3.2) (bindO (atN x_3.2 (natI x_3.1)) fun (y_9 : Int × Int × Int × List Bool) => some (Sum.inl (wadd .i64 x_3.1 1, setN x_3.2 (natI x_3.1) (y.1, y.2.1, y.2.2.1, y.2.2.2)))) none) (mapO Sum.inr (loopN maxR (fun (x_4 : Int × List (Int × Int) × List (Int × Int) × List (Int × Int) × List (Int × Int)) => ifB (ltI x_4.1 (lenI b)) (bindO (atI b x_4.1) fun (y : Int × Int × Int) => ifB (ltI y.1 0) (mapO Sum.inr (some ([], 5))) (ifB (geI y.1 4) (mapO Sum.inr (some ([], 5))) (ifB (eqI y.1 0) (ifB (roomA 16 x_4.2.1 [(y.2.1, y.2.2)]) (bindO (F_shelf_all (x.2, cat x_4.2.1 [(y.2.1, y.2.2)])) fun (y_9 : List (Int × Int) × Int) => ifB (neI y_9.2 0) (mapO Sum.inr (some ([], y_9.2))) (some (Sum.inl (wadd .i64 x_4.1 1, cat x_4.2.1 [(y.2.1, y.2.2)], x_4.2.2.1, x_4.2.2.2.1, x_4.2.2.2.2)))) none) (ifB (eqI y.1 1) (ifB (roomA 16 x_4.2.2.1 [(y.2.1, y.2.2)]) (bindO (F_shelf_all (x_1.2, cat x_4.2.2.1 [(y.2.1, y.2.2)])) fun (y_9 : List (Int × Int) × Int) => ifB (neI y_9.2 0) (mapO Sum.inr (some ([], y_9.2))) (some (Sum.inl (wadd .i64 x_4.1 1, x_4.2.1, cat x_4.2.2.1 [(y.2.1, y.2.2)], x_4.2.2.2.1, x_4.2.2.2.2)))) none) (ifB (eqI y.1 2) (ifB (roomA 16 x_4.2.2.2.1 [(y.2.1, y.2.2)]) (bindO (F_shelf_all (x_2.2, cat x_4.2.2.2.1 [(y.2.1, y.2.2)])) fun (y_9 : List (Int × Int) × Int) => ifB (neI y_9.2 0) (mapO Sum.inr (some ([], y_9.2))) (some (Sum.inl (wadd .i64 x_4.1 1, x_4.2.1, x_4.2.2.1, cat x_4.2.2.2.1 [(y.2.1, y.2.2)], x_4.2.2.2.2)))) none) (ifB (eqI y.1 3) (ifB (roomA 16 x_4.2.2.2.2 [(y.2.1, y.2.2)]) (bindO (F_shelf_all (x_3.2, cat x_4.2.2.2.2 [(y.2.1, y.2.2)])) fun (y_9 : List (Int × Int) × Int) => ifB (neI y_9.2 0) (mapO Sum.inr (some ([], y_9.2))) (some (Sum.inl (wadd .i64 x_4.1 1, x_4.2.1, x_4.2.2.1, x_4.2.2.2.1, cat x_4.2.2.2.2 [(y.2.1, y.2.2)])))) none) none)))))) (mapO Sum.inr (some ([(x.2, x_4.2.1), (x_1.2, x_4.2.2.1), (x_2.2, x_4.2.2.2.1), (x_3.2, x_4.2.2.2.2)], 0)))) (0, y_2, y_4, y_6, y_8)))) (0, y_7)))) (0, y_5)))) (0, y_3)))) (0, y_1)))
theorem F_shelf_Put_eq (x : PI is_shelf_Put) : F_shelf_Put (x.1) (x.2) = fnE T G_shelf_Put H_shelf_Put C_shelf_Put (resOf Try.f70) is_shelf_Put os_shelf_Put x := by kernel_rfl
noncomputable abbrev R_shelf_Put : GS := mkSpec false is_shelf_Put os_shelf_Put fun x => F_shelf_Put (x.1) (x.2)
theorem R_shelf_Put_ok : GSOK Try.prog 70 R_shelf_Put := spec_ok tok g_shelf_Put fmo (Ht := H_shelf_Put) (fn := Try.f70) (Try.func70) (c := C_shelf_Put) (by kernel_rfl) (by kernel_rfl) (by kernel_rfl) (by decide +kernel) (by decide) F_shelf_Put_eq
end Go.Proofs.Y
namespace Go.Proofs.Y
open Go.Rb Go.Kx
theorem cloneRw_eq {a : Shf} (h : a.length ≤ 4000000000000) : F_cloneRw a = some a := clone_gen 48 a (by omega) (by omega)
theorem cloneBk_eq {a : List Bk} (h : a.length ≤ 4000000000000) : F_cloneBk a = some a := clone_gen 48 a (by omega) (by omega)
noncomputable def cpy {β : Type} (B : List Bk) (x : Int × List Bk) : Option (Sum (Int × List Bk) β) :=
  bindO (atI B (Prod.fst x)) fun (y : Int × Int × Int × List Bool) => bindO (F_block_Copy (Prod.fst y, Prod.fst (Prod.snd y), Prod.fst (Prod.snd (Prod.snd y)), Prod.snd (Prod.snd (Prod.snd y)))) fun (y : Int × Int × Int × List Bool) =>
    ifB (ltL (Prod.fst x) (Prod.snd x)) (bindO (atN (Prod.snd x) (natI (Prod.fst x))) fun (_ : Int × Int × Int × List Bool) =>
      some (Sum.inl (wadd IntKind.i64 (Prod.fst x) 1, setN (Prod.snd x) (natI (Prod.fst x)) (Prod.fst y, Prod.fst (Prod.snd y), Prod.fst (Prod.snd (Prod.snd y)), Prod.snd (Prod.snd (Prod.snd y)))))) none
theorem set_self {α : Type} [Inhabited α] {l : List α} {j : Nat} (h : j < l.length) : l.set j (l.getD j default) = l := by
  apply List.ext_getElem
  · simp
  · intro i h1 h2
    rw [List.getElem_set]
    split
    · rename_i he; subst he; simp [List.getD, List.getElem?_eq_getElem h]
    · rfl
theorem copyLoop {α : Type} (B : List Bk) (hB : ∀ b ∈ B, okB b) (hl : B.length < 4611686018427387904) (K : Int × List Bk → Option α) :
    loopN maxR (fun (x : Int × List Bk) => ifB (ltI (Prod.fst x) (lenI B)) (cpy B x) (mapO Sum.inr (K x))) (0, B) = K ((B.length : Int), B) := by
  refine loop_range B (fun j (s : List Bk) => ((j : Int), s)) (G := fun _ _ => K ((B.length : Int), B)) (P := fun _ s => s = B) ?_ ?_ (s0 := B) rfl (by omega)
  · rintro j s hj rfl k hk
    have hb := hB _ (getD_mem hj)
    have hat := atI_nat hj
    have hss := set_self hj
    have han := atN_nat hj
    unfold cpy
    generalize s.getD j default = b at *
    simp only [stepK_ifB, stepK_bind, stepK_map, stepK_none, stepK_inl]
    rw [ifB_ltI, lenI_eq, if_pos (by omega), hat, bindO_some, show ((b.1, b.2.1, b.2.2.1, b.2.2.2) : Bk) = b from rfl, copy_eq _ hb, bindO_some, ifB_ltL, if_pos ⟨by omega, by omega⟩, natI_eq, Int.toNat_natCast, han, bindO_some, setN_eq, hss, wadd_nat (by omega)]
    exact hk _ rfl
  · rintro s rfl k
    simp only [stepK_ifB, stepK_map]
    rw [ifB_ltI, lenI_eq, if_neg (by omega)]
theorem len4 {α : Type} {s : List α} (h : s.length = 4) : ∃ a b c d, s = [a, b, c, d] := by
  match s, h with
  | [a, b, c, d], _ => exact ⟨a, b, c, d, rfl⟩
theorem copy4 {α : Type} (r0 r1 r2 r3 : Rowd) (h0 : okR r0) (h1 : okR r1) (h2 : okR r2) (h3 : okR r3) (g0 : r0.1.length ≤ 8) (g1 : r1.1.length ≤ 8) (g2 : r2.1.length ≤ 8) (g3 : r3.1.length ≤ 8)
    (K : List Pt → List Pt → List Pt → List Pt → (Int × List Bk) → (Int × List Bk) → (Int × List Bk) → (Int × List Bk) → Option α) :
    (bindO (F_cloneRw [r0, r1, r2, r3]) fun (y : List (List (Int × Int × Int × List Bool) × List (Int × Int))) => bindO (four y) fun (y : (List (Int × Int × Int × List Bool) × List (Int × Int)) × (List (Int × Int × Int × List Bool) × List (Int × Int)) × (List (Int × Int × Int × List Bool) × List (Int × Int)) × List (Int × Int × Int × List Bool) × List (Int × Int)) =>
      bindO (F_cloneBk (Prod.fst (Prod.fst y))) fun (y_1 : List (Int × Int × Int × List Bool)) => bindO (F_cloneP (Prod.snd (Prod.fst y))) fun (y_2 : List (Int × Int)) =>
      loopN maxR (fun (x : Int × List (Int × Int × Int × List Bool)) => ifB (ltI (Prod.fst x) (lenI (Prod.fst (Prod.fst y)))) (cpy (Prod.fst (Prod.fst y)) x) (mapO Sum.inr
        (bindO (F_cloneBk (Prod.fst (Prod.fst (Prod.snd y)))) fun (y_3 : List (Int × Int × Int × List Bool)) => bindO (F_cloneP (Prod.snd (Prod.fst (Prod.snd y)))) fun (y_4 : List (Int × Int)) =>
        loopN maxR (fun (x_1 : Int × List (Int × Int × Int × List Bool)) => ifB (ltI (Prod.fst x_1) (lenI (Prod.fst (Prod.fst (Prod.snd y))))) (cpy (Prod.fst (Prod.fst (Prod.snd y))) x_1) (mapO Sum.inr
          (bindO (F_cloneBk (Prod.fst (Prod.fst (Prod.snd (Prod.snd y))))) fun (y_5 : List (Int × Int × Int × List Bool)) => bindO (F_cloneP (Prod.snd (Prod.fst (Prod.snd (Prod.snd y))))) fun (y_6 : List (Int × Int)) =>
          loopN maxR (fun (x_2 : Int × List (Int × Int × Int × List Bool)) => ifB (ltI (Prod.fst x_2) (lenI (Prod.fst (Prod.fst (Prod.snd (Prod.snd y)))))) (cpy (Prod.fst (Prod.fst (Prod.snd (Prod.snd y)))) x_2) (mapO Sum.inr
            (bindO (F_cloneBk (Prod.fst (Prod.snd (Prod.snd (Prod.snd y))))) fun (y_7 : List (Int × Int × Int × List Bool)) => bindO (F_cloneP (Prod.snd (Prod.snd (Prod.snd (Prod.snd y))))) fun (y_8 : List (Int × Int)) =>
            loopN maxR (fun (x_3 : Int × List (Int × Int × Int × List Bool)) => ifB (ltI (Prod.fst x_3) (lenI (Prod.fst (Prod.snd (Prod.snd (Prod.snd y)))))) (cpy (Prod.fst (Prod.snd (Prod.snd (Prod.snd y)))) x_3) (mapO Sum.inr (K y_2 y_4 y_6 y_8 x x_1 x_2 x_3))) (0, y_7)))) (0, y_5)))) (0, y_3)))) (0, y_1))
      = K r0.2 r1.2 r2.2 r3.2 ((r0.1.length : Int), r0.1) ((r1.1.length : Int), r1.1) ((r2.1.length : Int), r2.1) ((r3.1.length : Int), r3.1) := by
  rw [cloneRw_eq (by simp), bindO_some, show four [r0, r1, r2, r3] = some (r0, r1, r2, r3) from rfl, bindO_some]
  simp only
  rw [cloneBk_eq (by omega), bindO_some, cloneP_eq (by have := h0.2.2; omega), bindO_some]
  refine (copyLoop r0.1 h0.1 h0.2.1 _).trans ?_
  rw [cloneBk_eq (by omega), bindO_some, cloneP_eq (by have := h1.2.2; omega), bindO_some]
  refine (copyLoop r1.1 h1.1 h1.2.1 _).trans ?_
  rw [cloneBk_eq (by omega), bindO_some, cloneP_eq (by have := h2.2.2; omega), bindO_some]
  refine (copyLoop r2.1 h2.1 h2.2.1 _).trans ?_
  rw [cloneBk_eq (by omega), bindO_some, cloneP_eq (by have := h3.2.2; omega), bindO_some]
  exact copyLoop r3.1 h3.1 h3.2.1 _
/-- What is to go is written over by what is behind. -/
theorem compact_gen {α : Type} [Inhabited α] (z : α) (gone : α → Bool) (w : α → α) (hw : ∀ y, w y = y) (l : List α) (x : Nat) (hx : x < l.length) (hl : l.length < 4611686018427387904) (hpre : ∀ p ∈ l.take x, (!gone p) = true) (hnot : (!gone (l.getD x default)) = false) :
    loopN maxR (fun (x : Int × Int × List α) => ifB (ltI (Prod.fst (Prod.snd x)) (lenI (Prod.snd (Prod.snd x)))) (ifB (ltL (Prod.fst (Prod.snd x)) (Prod.snd (Prod.snd x)))
        (bindO (atN (Prod.snd (Prod.snd x)) (natI (Prod.fst (Prod.snd x)))) fun (y : α) => ifB (notB (gone y)) (ifB (ltL (Prod.fst x) (Prod.snd (Prod.snd x))) (bindO (atN (Prod.snd (Prod.snd x)) (natI (Prod.fst x))) fun (y_2 : α) =>
              some (Sum.inl (wadd IntKind.i64 (Prod.fst x) 1, wadd IntKind.i64 (Prod.fst (Prod.snd x)) 1, setN (Prod.snd (Prod.snd x)) (natI (Prod.fst x)) (w y)))) none)
            (some (Sum.inl (Prod.fst x, wadd IntKind.i64 (Prod.fst (Prod.snd x)) 1, Prod.snd (Prod.snd x))))) none)
      (mapO Sum.inr (ifB (in1 (Prod.snd (Prod.snd x)) (Prod.fst x)) (ifB (inN (Prod.snd (Prod.snd x)) (addN 0 (natI (Prod.fst x))) (subNI (lenN (Prod.snd (Prod.snd x))) (Prod.fst x)))
        (ifB (in1 (overN (Prod.snd (Prod.snd x)) (addN 0 (natI (Prod.fst x))) (repN (subNI (lenN (Prod.snd (Prod.snd x))) (Prod.fst x)) z)) (Prod.fst x))
          (ifB (inN (overN (Prod.snd (Prod.snd x)) (addN 0 (natI (Prod.fst x))) (repN (subNI (lenN (Prod.snd (Prod.snd x))) (Prod.fst x)) z)) 0 (natI (Prod.fst x)))
            (some (subN (overN (Prod.snd (Prod.snd x)) (addN 0 (natI (Prod.fst x))) (repN (subNI (lenN (Prod.snd (Prod.snd x))) (Prod.fst x)) z)) 0 (natI (Prod.fst x)))) none) none) none) none)))
      ((x : Int), wadd IntKind.i64 (x : Int) 1, l) = some (l.filter fun y => !gone y) := by
  rw [wadd_nat (by omega)]
  have hst : (l.take (x + 1)).filter (fun y => !gone y) = l.take x := by
    rw [filter_take _ hx, hnot, List.filter_eq_self.2 hpre]; simp
  refine loop_ind (G := fun _ => some (l.filter fun y => !gone y)) (P := fun (y : Int × Int × List α) => 0 ≤ y.1 ∧ y.1 < y.2.1 ∧ y.2.1 ≤ l.length ∧ y.2.2.length = l.length ∧ y.2.2.take y.1.toNat = (l.take y.2.1.toNat).filter (fun y => !gone y) ∧ y.2.2.drop y.2.1.toNat = l.drop y.2.1.toNat) (μ := fun y => l.length - y.2.1.toNat) ?_ maxR _ ⟨by show (0 : Int) ≤ x; omega, by show (x : Int) < ((x + 1 : Nat) : Int); omega, by show ((x + 1 : Nat) : Int) ≤ l.length; omega, rfl, hst.symm, rfl⟩ (by show l.length - ((x + 1 : Nat) : Int).toNat < maxR; unfold maxR; omega)
  rintro ⟨i0, j0, rows⟩ ⟨g0, g1, g2, g3, g4, g5⟩ K hk
  simp only at g0 g1 g2 g3 g4 g5
  obtain ⟨i, rfl⟩ : ∃ i : Nat, i0 = i := ⟨i0.toNat, by omega⟩
  obtain ⟨j, rfl⟩ : ∃ j : Nat, j0 = j := ⟨j0.toNat, by omega⟩
  simp only [Int.toNat_natCast] at g4 g5
  rw [stepK_ifB, stepK_map, ifB_ltI, lenI_eq]
  by_cases hj : (j : Int) < rows.length
  · rw [if_pos hj]
    simp only [stepK_ifB, stepK_bind, stepK_inl, stepK_none]
    rw [ifB_ltL, if_pos ⟨by omega, hj⟩, natI_eq, Int.toNat_natCast, atN_nat (by omega), bindO_some, getD_drop g5 (by omega) (by omega), wadd_nat (j := i) (by omega), wadd_nat (j := j) (by omega)]
    have hft := filter_take (fun y => !gone y) (l := l) (j := j) (by omega)
    generalize l.getD j default = p at *
    cases hg : gone p with
    | true =>
      rw [hg] at hft
      exact hk _ ⟨g0, by show (i : Int) < ((j + 1 : Nat) : Int); omega, by show ((j + 1 : Nat) : Int) ≤ l.length; omega, g3, by show rows.take i = _; rw [Int.toNat_natCast, hft, g4]; simp, by show rows.drop ((j + 1 : Nat) : Int).toNat = _; rw [Int.toNat_natCast]; exact drop_succ_of g5⟩ (by show l.length - ((j + 1 : Nat) : Int).toNat < l.length - ((j : Nat) : Int).toNat; omega)
    | false =>
      rw [hg] at hft
      rw [ifB_not, ifB_f, ifB_ltL, if_pos ⟨by omega, by omega⟩, natI_eq, Int.toNat_natCast, atN_nat (by omega), bindO_some, setN_eq, hw]
      refine hk _ ⟨by show (0 : Int) ≤ ((i + 1 : Nat) : Int); omega, by show ((i + 1 : Nat) : Int) < ((j + 1 : Nat) : Int); omega, by show ((j + 1 : Nat) : Int) ≤ l.length; omega, by show (rows.set i p).length = _; rw [List.length_set]; exact g3, ?_, ?_⟩ (by show l.length - ((j + 1 : Nat) : Int).toNat < l.length - ((j : Nat) : Int).toNat; omega)
      · show (rows.set i p).take ((i + 1 : Nat) : Int).toNat = (l.take ((j + 1 : Nat) : Int).toNat).filter (fun y => !gone y)
        rw [Int.toNat_natCast, Int.toNat_natCast, set_take (by omega), hft, g4]; simp
      · show (rows.set i p).drop ((j + 1 : Nat) : Int).toNat = l.drop ((j + 1 : Nat) : Int).toNat
        rw [Int.toNat_natCast, set_drop (by omega)]; exact drop_succ_of g5
  · rw [if_neg hj]
    have hjl : j = l.length := by omega
    rw [hjl, List.take_length] at g4
    rw [clear_end rows i z (by omega) (fun r => some r), g4]
theorem deleteFuncB_eq (a : List Bk) (n : Int) (hl : a.length < 4611686018427387904) : F_deleteFuncB a n = some (a.filter fun b => decide (n ≤ b.2.2.1)) := by
  unfold F_deleteFuncB
  have hf : (fun b : Bk => decide (n ≤ b.2.2.1)) = fun b : Bk => !(ltI b.2.2.1 n) := by
    funext b
    unfold ltI
    rw [← decide_not]
    exact decide_eq_decide.2 (by omega)
  rw [hf]
  refine loop_ind (G := fun _ => some (a.filter fun b : Bk => !(ltI b.2.2.1 n))) (P := fun (y : Int) => 0 ≤ y ∧ y ≤ a.length ∧ ∀ p ∈ a.take y.toNat, (!(ltI (Prod.fst (Prod.snd (Prod.snd p))) n)) = true) (μ := fun y => a.length - y.toNat) ?_ maxR 0 ⟨Int.le_refl 0, by omega, by simp⟩ (by show a.length - Int.toNat 0 < maxR; unfold maxR; omega)
  rintro y ⟨g0, g1, g2⟩ K hk
  obtain ⟨x, rfl⟩ : ∃ x : Nat, y = x := ⟨y.toNat, by omega⟩
  rw [Int.toNat_natCast] at g2
  rw [stepK_ifB, stepK_map, ifB_ltI, lenI_eq]
  by_cases hx : (x : Int) < a.length
  · rw [if_pos hx]
    simp only [stepK_ifB, stepK_bind, stepK_inl, stepK_none, stepK_map]
    rw [ifB_ltL, if_pos ⟨by omega, hx⟩, natI_eq, Int.toNat_natCast, atN_nat (by omega), bindO_some, ifB_eqI, if_neg (by omega)]
    have hcm := compact_gen ((0, 0, 0, []) : Bk) (fun b : Bk => ltI (Prod.fst (Prod.snd (Prod.snd b))) n) (fun b => (Prod.fst b, Prod.fst (Prod.snd b), Prod.fst (Prod.snd (Prod.snd b)), Prod.snd (Prod.snd (Prod.snd b)))) (fun _ => rfl) a x (by omega) (by omega) g2
    have hnx := take_next (l := a) (i := x) (by omega)
    generalize a.getD x default = p at *
    cases hg : ltI (Prod.fst (Prod.snd (Prod.snd p))) n with
    | true => rw [ifB_t]; exact hcm (by rw [hg]; rfl)
    | false =>
      rw [ifB_f, wadd_nat (by omega)]
      refine hk _ ⟨by omega, by omega, fun q hq => ?_⟩ (by omega)
      rw [Int.toNat_natCast, hnx, List.mem_append, List.mem_singleton] at hq
      rcases hq with hq | rfl
      · exact g2 q hq
      · rw [hg]; rfl
  · rw [if_neg hx]
    have hxl : x = a.length := by omega
    rw [hxl, List.take_length] at g2
    rw [List.filter_eq_self.2 g2]
theorem deleteB_eq (a : List Bk) (i j : Nat) (h1 : i ≤ j) (h2 : j ≤ a.length) (hl : a.length < 4611686018427387904) : F_deleteB a (i : Int) (j : Int) = some (a.take i ++ a.drop j) := by
  unfold F_deleteB
  have e0 : ∀ k : Nat, addN 0 (natI (k : Int)) = k := fun k => by simp [addN, natI]
  have e1 : subNI (lenN a) (j : Int) = a.length - j := by simp [subNI, lenN]
  have e2 : subN a j (a.length - j) = a.drop j := by unfold subN; rw [List.take_of_length_le (by simp)]
  have e3 : lenN (a.drop j) = a.length - j := by simp [lenN]
  have e4 : addN (natI (i : Int)) (a.length - j) = i + (a.length - j) := by simp [addN, natI]
  simp only [e0, e1, e2, e3, e4]
  have e5 : overN a i (a.drop j) = a.take i ++ a.drop j ++ a.drop (i + (a.length - j)) := by simp [overN]
  have e6 : (overN a i (a.drop j)).length = a.length := by rw [e5]; simp; omega
  have e7 : addN 0 (natI (intN (i + (a.length - j)))) = i + (a.length - j) := by rw [intN_eq]; exact e0 _
  have e8 : subI (intN (i + (a.length - j))) (lenI a) = a.length - (i + (a.length - j)) := by simp only [subI, intN, lenI]; omega
  simp only [e7, e8]
  have e9 : ∀ z : List Bk, z.length = a.length - (i + (a.length - j)) → subN (overN (overN a i (a.drop j)) (i + (a.length - j)) z) 0 (i + (a.length - j)) = a.take i ++ a.drop j := by
    intro z hz
    unfold subN
    rw [List.drop_zero]
    have h3 : (a.take i ++ a.drop j).length = i + (a.length - j) := by simp; omega
    have h4 : (overN a i (a.drop j)).take (i + (a.length - j)) = a.take i ++ a.drop j := by
      rw [e5, List.take_append_of_le_length (by omega), List.take_of_length_le (by omega)]
    unfold overN at h4 ⊢
    rw [h4, List.append_assoc, List.take_append_of_le_length (by omega), List.take_of_length_le (by omega)]
  have hz : (repN (a.length - (i + (a.length - j))) ((0, 0, 0, []) : Bk)).length = a.length - (i + (a.length - j)) := by simp [repN]
  have e10 : (overN (overN a i (a.drop j)) (i + (a.length - j)) (repN (a.length - (i + (a.length - j))) ((0, 0, 0, []) : Bk))).length = a.length := by
    generalize repN (a.length - (i + (a.length - j))) ((0, 0, 0, []) : Bk) = z at *
    rw [overN, List.length_append, List.length_append, List.length_take, List.length_drop, e6, hz]; omega
  have hd : (a.drop j).length = a.length - j := List.length_drop
  rw [ifB_and, ifB_in2, if_pos ⟨by omega, by omega, by omega⟩, ifB_eqI, if_pos rfl, ifB_eqI]
  by_cases hij : (i : Int) = j
  · rw [if_pos hij]
    have : i = j := by omega
    subst this
    rw [List.take_append_drop]
  · rw [if_neg hij, ifB_in1, if_pos ⟨by omega, by omega⟩, ifB_in1, if_pos ⟨by omega, by omega⟩, ifB_inN, if_pos (by omega), ifB_inN, if_pos (by omega), ifB_in2C, if_pos ?_, ifB_inN, if_pos (by omega), ifB_inN, if_pos (by omega), e9 _ hz]
    refine ⟨by rw [intN_eq]; omega, by rw [intN_eq, lenI_eq]; omega, ?_⟩
    rw [lenI_eq, capN, lenN, e6]; omega
theorem drop_eq (s : Shf) (n : Int) (hs : okS s) : F_shelf_Drop s n = some (dropS s n) := by
  unfold F_shelf_Drop dropS
  rw [checkS_eq s hs, bindO_some, ifB_neI]
  by_cases hc : chkS s = 0
  · obtain ⟨h4, hr⟩ := chkS_zero.1 hc
    rw [if_pos hc, if_pos hc, ifB_ltI, ifB_gtI]
    by_cases h0 : n < 0
    · rw [if_pos h0, if_pos (.inl h0)]
    by_cases h1 : 100001 < n
    · rw [if_neg h0, if_pos h1, if_pos (.inr h1)]
    rw [if_neg h0, if_neg h1, if_neg (by omega)]
    obtain ⟨r0, r1, r2, r3, rfl⟩ := len4 h4
    simp only [List.mem_cons, List.not_mem_nil, or_false, forall_eq_or_imp, forall_eq] at hr
    obtain ⟨a0, a1, a2, a3⟩ := hr
    have b0 := (allR_is a0).1; have b1 := (allR_is a1).1; have b2 := (allR_is a2).1; have b3 := (allR_is a3).1
    refine (copy4 r0 r1 r2 r3 (okR_of a0) (okR_of a1) (okR_of a2) (okR_of a3) b0 b1 b2 b3 _).trans ?_
    simp only
    rw [deleteFuncB_eq _ _ (by omega), bindO_some, deleteFuncB_eq _ _ (by omega), bindO_some, deleteFuncB_eq _ _ (by omega), bindO_some, deleteFuncB_eq _ _ (by omega), bindO_some]
    rfl
  · rw [if_neg hc, if_neg hc]
end Go.Proofs.Y
namespace Go.Proofs.Y
open Go.Rb Go.Kx
theorem sealRow_eq (r : Rowd) (h : (allR r).2 = 0) (c : Int) (E : List Bk → List Pt → Shf) :
    ifB (ltI c 1) (some (([] : Shf), (3 : Int))) (ifB (gtI c (lenI r.2)) (some ([], 3)) (ifB (eqI (lenI r.1) 8) (some ([], 2)) (ifB (in1 r.2 c) (ifB (inN r.2 0 (natI c))
      (bindO (F_block_Make (subN r.2 0 (natI c))) fun (y : (Int × Int × Int × List Bool) × Int) => ifB (neI (Prod.snd y) 0) (some ([], Prod.snd y))
        (ifB (roomA 48 r.1 [(Prod.fst (Prod.fst y), Prod.fst (Prod.snd (Prod.fst y)), Prod.fst (Prod.snd (Prod.snd (Prod.fst y))), Prod.snd (Prod.snd (Prod.snd (Prod.fst y))))])
          (ifB (in1 r.2 c) (some (E (cat r.1 [(Prod.fst (Prod.fst y), Prod.fst (Prod.snd (Prod.fst y)), Prod.fst (Prod.snd (Prod.snd (Prod.fst y))), Prod.snd (Prod.snd (Prod.snd (Prod.fst y))))]) (dropI r.2 c), 0)) none) none)) none) none)))
      = some (if (sealR c r).2 = 0 then (E (sealR c r).1.1 (sealR c r).1.2, 0) else ([], (sealR c r).2)) := by
  have h8 := (allR_is h).1
  have hl := (okR_of h).2.2
  rw [ifB_ltI, ifB_gtI, ifB_eqI, lenI_eq, lenI_eq]
  by_cases h1 : c < 1
  · have hv : sealR c r = (r, 3) := by unfold sealR; rw [if_pos (.inl h1)]
    rw [if_pos h1, hv]; rfl
  by_cases h2 : (r.2.length : Int) < c
  · have hv : sealR c r = (r, 3) := by unfold sealR; rw [if_pos (.inr h2)]
    rw [if_neg h1, if_pos h2, hv]; rfl
  have h12 : ¬ (c < 1 ∨ (r.2.length : Int) < c) := by omega
  rw [if_neg h1, if_neg h2]
  by_cases h3 : r.1.length = 8
  · have hv : sealR c r = (r, 2) := by unfold sealR; rw [if_neg h12, if_pos h3]
    rw [if_pos (by omega), hv]; rfl
  have hs : subN r.2 0 (natI c) = r.2.take c.toNat := rfl
  rw [if_neg (by omega), ifB_in1, if_pos ⟨by omega, by omega⟩, ifB_inN, if_pos (by rw [natI_eq]; omega), hs, make_eq _ (by rw [List.length_take]; omega), bindO_some, ifB_neI]
  by_cases h4 : (makeR (r.2.take c.toNat)).2 = 0
  · have hv : sealR c r = ((r.1 ++ [(makeR (r.2.take c.toNat)).1], r.2.drop c.toNat), 0) := by unfold sealR; rw [if_neg h12, if_neg h3, if_neg (not_not_intro h4)]
    rw [if_pos h4, ifB_roomA, if_pos (by simp only [List.length_cons, List.length_nil]; omega), ifB_in1, if_pos ⟨by omega, by omega⟩, hv]; rfl
  · have hv : sealR c r = (r, (makeR (r.2.take c.toNat)).2) := by unfold sealR; rw [if_neg h12, if_neg h3, if_pos h4]
    rw [if_neg h4, hv]
    simp only
    rw [if_neg h4]
theorem i4 {i : Int} (h0 : ¬ i < 0) (h1 : ¬ 4 ≤ i) : i = 0 ∨ i = 1 ∨ i = 2 ∨ i = 3 := by omega
theorem seal_eq (s : Shf) (i n : Int) (hs : okS s) : F_shelf_Seal s i n = some (sealS s i n) := by
  unfold F_shelf_Seal sealS
  rw [checkS_eq s hs, bindO_some, ifB_neI]
  by_cases hc : chkS s = 0
  · obtain ⟨h4, hr⟩ := chkS_zero.1 hc
    unfold onRow
    rw [if_pos hc, if_pos hc, ifB_ltI, ifB_geI, lenI_eq, h4]
    by_cases h0 : i < 0
    · rw [if_pos h0, if_pos (.inl h0)]
    by_cases h1 : ((4 : Nat) : Int) ≤ i
    · rw [if_neg h0, if_pos h1, if_pos (.inr h1)]
    rw [if_neg h0, if_neg h1, if_neg (show ¬ (i < 0 ∨ ((4 : Nat) : Int) ≤ i) by omega)]
    obtain ⟨r0, r1, r2, r3, rfl⟩ := len4 h4
    simp only [List.mem_cons, List.not_mem_nil, or_false, forall_eq_or_imp, forall_eq] at hr
    obtain ⟨a0, a1, a2, a3⟩ := hr
    have b0 := (allR_is a0).1; have b1 := (allR_is a1).1; have b2 := (allR_is a2).1; have b3 := (allR_is a3).1
    refine (copy4 r0 r1 r2 r3 (okR_of a0) (okR_of a1) (okR_of a2) (okR_of a3) b0 b1 b2 b3 _).trans ?_
    simp only
    rcases i4 h0 (by omega) with rfl | rfl | rfl | rfl
    · rw [ifB_eqI, if_pos rfl]; exact sealRow_eq r0 a0 n (fun b h => [(b, h), r1, r2, r3])
    · rw [ifB_eqI, if_neg (by decide), ifB_eqI, if_pos rfl]; exact sealRow_eq r1 a1 n (fun b h => [r0, (b, h), r2, r3])
    · rw [ifB_eqI, if_neg (by decide), ifB_eqI, if_neg (by decide), ifB_eqI, if_pos rfl]; exact sealRow_eq r2 a2 n (fun b h => [r0, r1, (b, h), r3])
    · rw [ifB_eqI, if_neg (by decide), ifB_eqI, if_neg (by decide), ifB_eqI, if_neg (by decide), ifB_eqI, if_pos rfl]; exact sealRow_eq r3 a3 n (fun b h => [r0, r1, r2, (b, h)])
  · rw [if_neg hc, if_neg hc]
theorem mergeRow_eq (r : Rowd) (h : (allR r).2 = 0) (c : Int) (E : List Bk → Shf) :
    ifB (ltI c 0) (some (([] : Shf), (3 : Int))) (ifB (geI c (wsub IntKind.i64 (lenI r.1) 1)) (some ([], 3)) (ifB (ltL c r.1) (bindO (atN r.1 (natI c)) fun (y : Int × Int × Int × List Bool) => ifB (ltL (wadd IntKind.i64 c 1) r.1)
      (bindO (atN r.1 (natI (wadd IntKind.i64 c 1))) fun (y_9 : Int × Int × Int × List Bool) => bindO (F_block_Merge (Prod.fst y, Prod.fst (Prod.snd y), Prod.fst (Prod.snd (Prod.snd y)), Prod.snd (Prod.snd (Prod.snd y))) (Prod.fst y_9, Prod.fst (Prod.snd y_9), Prod.fst (Prod.snd (Prod.snd y_9)), Prod.snd (Prod.snd (Prod.snd y_9)))) fun (y : (Int × Int × Int × List Bool) × Int) =>
        ifB (neI (Prod.snd y) 0) (some ([], Prod.snd y)) (ifB (ltL c r.1) (bindO (atN r.1 (natI c)) fun (_ : Int × Int × Int × List Bool) =>
          bindO (F_deleteB (setN r.1 (natI c) (Prod.fst (Prod.fst y), Prod.fst (Prod.snd (Prod.fst y)), Prod.fst (Prod.snd (Prod.snd (Prod.fst y))), Prod.snd (Prod.snd (Prod.snd (Prod.fst y))))) (wadd IntKind.i64 c 1) (wadd IntKind.i64 c 2)) fun (y : List (Int × Int × Int × List Bool)) => some (E y, 0)) none)) none) none))
      = some (if (mergeW c r).2 = 0 then (E (mergeW c r).1.1, 0) else ([], (mergeW c r).2)) := by
  have h8 := (allR_is h).1
  have hb := (okR_of h).1
  rw [ifB_ltI, ifB_geI, lenI_eq, wsub_in ⟨by omega, by omega⟩]
  by_cases h1 : c < 0
  · have hv : mergeW c r = (r, 3) := by unfold mergeW; rw [if_pos (.inl h1)]
    rw [if_pos h1, hv]; rfl
  by_cases h2 : (r.1.length : Int) - 1 ≤ c
  · have hv : mergeW c r = (r, 3) := by unfold mergeW; rw [if_pos (.inr h2)]
    rw [if_neg h1, if_pos h2, hv]; rfl
  obtain ⟨k, rfl⟩ : ∃ k : Nat, c = k := ⟨c.toNat, by omega⟩
  have h12 : ¬ ((k : Int) < 0 ∨ (r.1.length : Int) - 1 ≤ k) := by omega
  have hw2 : wadd .i64 (k : Int) 2 = ((k + 2 : Nat) : Int) := by rw [wadd_in ⟨by omega, by omega⟩]; rfl
  have e1 : ∀ b : Bk, ((b.1, b.2.1, b.2.2.1, b.2.2.2) : Bk) = b := fun _ => rfl
  have hmw : mergeW (k : Int) r = if ¬ (mergeR (r.1.getD k default) (r.1.getD (k + 1) default)).2 = 0 then (r, (mergeR (r.1.getD k default) (r.1.getD (k + 1) default)).2)
    else ((r.1.take k ++ (mergeR (r.1.getD k default) (r.1.getD (k + 1) default)).1 :: r.1.drop (k + 2), r.2), 0) := by unfold mergeW; rw [if_neg h12, Int.toNat_natCast]
  rw [if_neg h1, if_neg h2, ifB_ltL, if_pos ⟨by omega, by omega⟩, wadd_nat (by omega), hw2, natI_eq, natI_eq, Int.toNat_natCast, Int.toNat_natCast, atN_nat (by omega), bindO_some, ifB_ltL, if_pos ⟨by omega, by omega⟩, atN_nat (by omega), bindO_some, hmw]
  simp only [e1]
  have x1 := hb _ (getD_mem (l := r.1) (i := k) (by omega))
  have x2 := hb _ (getD_mem (l := r.1) (i := k + 1) (by omega))
  generalize r.1.getD (k + 1) default = y at *
  generalize r.1.getD k default = x at *
  rw [merge_eq x y x1 x2, bindO_some, ifB_neI]
  generalize mergeR x y = q
  by_cases h4 : q.2 = 0
  · have hd : (r.1.set k q.1).take (k + 1) ++ (r.1.set k q.1).drop (k + 2) = r.1.take k ++ q.1 :: r.1.drop (k + 2) := by
      rw [set_take (by omega), set_drop (by omega), List.append_assoc]; rfl
    rw [if_pos h4, ifB_ltL, if_pos ⟨by omega, by omega⟩, bindO_some, setN_eq, deleteB_eq _ _ _ (by omega) (by rw [List.length_set]; omega) (by rw [List.length_set]; omega), bindO_some, if_neg (not_not_intro h4), hd]
    rfl
  · rw [if_neg h4, if_pos h4]
    simp only
    rw [if_neg h4]
theorem mergeS_eq (s : Shf) (i n : Int) (hs : okS s) : F_shelf_Merge s i n = some (mergeS s i n) := by
  unfold F_shelf_Merge mergeS
  rw [checkS_eq s hs, bindO_some, ifB_neI]
  by_cases hc : chkS s = 0
  · obtain ⟨h4, hr⟩ := chkS_zero.1 hc
    unfold onRow
    rw [if_pos hc, if_pos hc, ifB_ltI, ifB_geI, lenI_eq, h4]
    by_cases h0 : i < 0
    · rw [if_pos h0, if_pos (.inl h0)]
    by_cases h1 : ((4 : Nat) : Int) ≤ i
    · rw [if_neg h0, if_pos h1, if_pos (.inr h1)]
    rw [if_neg h0, if_neg h1, if_neg (show ¬ (i < 0 ∨ ((4 : Nat) : Int) ≤ i) by omega)]
    obtain ⟨r0, r1, r2, r3, rfl⟩ := len4 h4
    simp only [List.mem_cons, List.not_mem_nil, or_false, forall_eq_or_imp, forall_eq] at hr
    obtain ⟨a0, a1, a2, a3⟩ := hr
    have b0 := (allR_is a0).1; have b1 := (allR_is a1).1; have b2 := (allR_is a2).1; have b3 := (allR_is a3).1
    refine (copy4 r0 r1 r2 r3 (okR_of a0) (okR_of a1) (okR_of a2) (okR_of a3) b0 b1 b2 b3 _).trans ?_
    simp only
    have e : ∀ r : Rowd, (mergeW n r).1.2 = r.2 := by
      intro r
      unfold mergeW
      split
      · rfl
      · split <;> rfl
    rcases i4 h0 (by omega) with rfl | rfl | rfl | rfl
    · rw [ifB_eqI, if_pos rfl]; refine (mergeRow_eq r0 a0 n (fun b => [(b, r0.2), r1, r2, r3])).trans ?_; rw [← e r0]; rfl
    · rw [ifB_eqI, if_neg (by decide), ifB_eqI, if_pos rfl]; refine (mergeRow_eq r1 a1 n (fun b => [r0, (b, r1.2), r2, r3])).trans ?_; rw [← e r1]; rfl
    · rw [ifB_eqI, if_neg (by decide), ifB_eqI, if_neg (by decide), ifB_eqI, if_pos rfl]; refine (mergeRow_eq r2 a2 n (fun b => [r0, r1, (b, r2.2), r3])).trans ?_; rw [← e r2]; rfl
    · rw [ifB_eqI, if_neg (by decide), ifB_eqI, if_neg (by decide), ifB_eqI, if_neg (by decide), ifB_eqI, if_pos rfl]; refine (mergeRow_eq r3 a3 n (fun b => [r0, r1, r2, (b, r3.2)])).trans ?_; rw [← e r3]; rfl
  · rw [if_neg hc, if_neg hc]
/-- One entry is put. -/
theorem putRow_eq {β : Type} (r : Rowd) (h : (allR r).2 = 0) (x : Ent) (E : List Pt → β) :
    ifB (roomA 16 r.2 [(Prod.fst (Prod.snd x), Prod.snd (Prod.snd x))]) (bindO (F_shelf_all (r.1, cat r.2 [(Prod.fst (Prod.snd x), Prod.snd (Prod.snd x))])) fun (y_9 : List (Int × Int) × Int) =>
      ifB (neI (Prod.snd y_9) 0) (mapO Sum.inr (some (([] : Shf), Prod.snd y_9))) (some (Sum.inl (E (cat r.2 [(Prod.fst (Prod.snd x), Prod.snd (Prod.snd x))]))))) none
      = if (allR (putW x r)).2 = 0 then some (Sum.inl (E (putW x r).2)) else some (Sum.inr ([], (allR (putW x r)).2)) := by
  have hl := (okR_of h)
  have hl2 : r.2.length ≤ 40 := by
    have := checkL_len (allR_is h).2.2.1
    rw [List.length_append] at this; omega
  have hk : okR (putW x r) := ⟨hl.1, hl.2.1, by show (r.2 ++ [_]).length ≤ _; rw [List.length_append, List.length_singleton]; omega⟩
  rw [ifB_roomA, if_pos (by simp only [List.length_cons, List.length_nil]; omega), cat_eq, show F_shelf_all (r.1, r.2 ++ [(x.2.1, x.2.2)]) = some (allR (putW x r)) from all_eq _ hk, bindO_some, ifB_neI]
  rfl
theorem shelfPut_eq (s : Shf) (l : List Ent) (hs : okS s) (hl : l.length < 4611686018427387904) : F_shelf_Put s l = some (putS s l) := by
  unfold F_shelf_Put putS
  rw [checkS_eq s hs, bindO_some, ifB_neI]
  by_cases hc : chkS s = 0
  · obtain ⟨h4, hr⟩ := chkS_zero.1 hc
    rw [if_pos hc, if_pos hc, ifB_gtI, lenI_eq]
    by_cases h10 : 10 < l.length
    · rw [if_pos (by omega), if_pos h10]
    rw [if_neg (by omega), if_neg h10]
    obtain ⟨r0, r1, r2, r3, rfl⟩ := len4 h4
    simp only [List.mem_cons, List.not_mem_nil, or_false, forall_eq_or_imp, forall_eq] at hr
    obtain ⟨a0, a1, a2, a3⟩ := hr
    have b0 := (allR_is a0).1; have b1 := (allR_is a1).1; have b2 := (allR_is a2).1; have b3 := (allR_is a3).1
    refine (copy4 r0 r1 r2 r3 (okR_of a0) (okR_of a1) (okR_of a2) (okR_of a3) b0 b1 b2 b3 _).trans ?_
    simp only
    refine loop_range l (fun j (s : List Pt × List Pt × List Pt × List Pt) => ((j : Int), s.1, s.2.1, s.2.2.1, s.2.2.2)) (G := fun rest s => some (putE [(r0.1, s.1), (r1.1, s.2.1), (r2.1, s.2.2.1), (r3.1, s.2.2.2)] rest))
      (P := fun _ s => (allR (r0.1, s.1)).2 = 0 ∧ (allR (r1.1, s.2.1)).2 = 0 ∧ (allR (r2.1, s.2.2.1)).2 = 0 ∧ (allR (r3.1, s.2.2.2)).2 = 0) ?_ ?_ (s0 := (r0.2, r1.2, r2.2, r3.2)) ⟨a0, a1, a2, a3⟩ (by omega)
    · rintro j ⟨h0, h1, h2, h3⟩ hj ⟨c0, c1, c2, c3⟩ k hk
      have hat := atI_nat hj
      simp only at c0 c1 c2 c3
      generalize l.getD j default = x at *
      simp only
      rw [stepK_ifB, stepK_map, ifB_ltI, if_pos (by omega), hat, stepK_bind, bindO_some, stepK_ifB, stepK_map, ifB_ltI, putE]
      by_cases x0 : x.1 < 0
      · rw [if_pos x0, if_pos (.inl x0)]
      rw [if_neg x0, stepK_ifB, stepK_map, ifB_geI]
      by_cases x4 : 4 ≤ x.1
      · rw [if_pos x4, if_pos (.inr x4)]
      rw [if_neg x4, if_neg (show ¬ (x.1 < 0 ∨ 4 ≤ x.1) by omega), stepK_ifB, ifB_eqI]
      simp only [wadd_nat (show (j : Int) < 4611686018427387904 by omega)]
      have f0 := putRow_eq (r0.1, h0) c0 x (fun h => (((j + 1 : Nat) : Int), h, h1, h2, h3))
      have f1 := putRow_eq (r1.1, h1) c1 x (fun h => (((j + 1 : Nat) : Int), h0, h, h2, h3))
      have f2 := putRow_eq (r2.1, h2) c2 x (fun h => (((j + 1 : Nat) : Int), h0, h1, h, h3))
      have f3 := putRow_eq (r3.1, h3) c3 x (fun h => (((j + 1 : Nat) : Int), h0, h1, h2, h))
      rcases i4 x0 x4 with e | e | e | e
      · rw [if_pos e, e]
        refine (congrArg (fun z => stepK z k) f0).trans ?_
        show _ = some (if (allR (putW x (r0.1, h0))).2 = 0 then putE [putW x (r0.1, h0), (r1.1, h1), (r2.1, h2), (r3.1, h3)] (l.drop (j + 1)) else ([], (allR (putW x (r0.1, h0))).2))
        by_cases hz : (allR (putW x (r0.1, h0))).2 = 0
        · rw [if_pos hz, if_pos hz]; exact hk (_, h1, h2, h3) ⟨hz, c1, c2, c3⟩
        · rw [if_neg hz, if_neg hz]; rfl
      · rw [if_neg (by omega), stepK_ifB, ifB_eqI, if_pos e, e]
        refine (congrArg (fun z => stepK z k) f1).trans ?_
        show _ = some (if (allR (putW x (r1.1, h1))).2 = 0 then putE [(r0.1, h0), putW x (r1.1, h1), (r2.1, h2), (r3.1, h3)] (l.drop (j + 1)) else ([], (allR (putW x (r1.1, h1))).2))
        by_cases hz : (allR (putW x (r1.1, h1))).2 = 0
        · rw [if_pos hz, if_pos hz]; exact hk (h0, _, h2, h3) ⟨c0, hz, c2, c3⟩
        · rw [if_neg hz, if_neg hz]; rfl
      · rw [if_neg (by omega), stepK_ifB, ifB_eqI, if_neg (by omega), stepK_ifB, ifB_eqI, if_pos e, e]
        refine (congrArg (fun z => stepK z k) f2).trans ?_
        show _ = some (if (allR (putW x (r2.1, h2))).2 = 0 then putE [(r0.1, h0), (r1.1, h1), putW x (r2.1, h2), (r3.1, h3)] (l.drop (j + 1)) else ([], (allR (putW x (r2.1, h2))).2))
        by_cases hz : (allR (putW x (r2.1, h2))).2 = 0
        · rw [if_pos hz, if_pos hz]; exact hk (h0, h1, _, h3) ⟨c0, c1, hz, c3⟩
        · rw [if_neg hz, if_neg hz]; rfl
      · rw [if_neg (by omega), stepK_ifB, ifB_eqI, if_neg (by omega), stepK_ifB, ifB_eqI, if_neg (by omega), stepK_ifB, ifB_eqI, if_pos e, e]
        refine (congrArg (fun z => stepK z k) f3).trans ?_
        show _ = some (if (allR (putW x (r3.1, h3))).2 = 0 then putE [(r0.1, h0), (r1.1, h1), (r2.1, h2), putW x (r3.1, h3)] (l.drop (j + 1)) else ([], (allR (putW x (r3.1, h3))).2))
        by_cases hz : (allR (putW x (r3.1, h3))).2 = 0
        · rw [if_pos hz, if_pos hz]; exact hk (h0, h1, h2, _) ⟨c0, c1, c2, hz⟩
        · rw [if_neg hz, if_neg hz]; rfl
    · rintro ⟨h0, h1, h2, h3⟩ _ k
      simp only
      rw [stepK_ifB, stepK_map, ifB_ltI, if_neg (by omega)]
      rfl
  · rw [if_neg hc, if_neg hc]
end Go.Proofs.Y
namespace Go.Proofs.Y
open Go.Rb Go.Kx
noncomputable def C_equalFuncB : Code := bodyOf Try.f111
noncomputable def G_equalFuncB : FuncId → Option GS := tabG [(58, R_block_Same), (59, R_rainbookref_SameBlock)]
theorem g_equalFuncB : ΓOK Try.prog G_equalFuncB := ΓOK_cons (R_block_Same_ok) (ΓOK_cons (R_rainbookref_SameBlock_ok) (ΓOK_nil))
def H_equalFuncB : HT := ⟨tabL [(4, .it [] (dyn [.t 17 (.int .i64)]))], tabH []⟩
noncomputable def I_equalFuncB : GS := inl T G_equalFuncB H_equalFuncB C_equalFuncB (resOf Try.f111) (Try.f111.ntmps)
theorem I_equalFuncB_ok : GSOK Try.prog 111 I_equalFuncB := inl_ok tok g_equalFuncB fmo (Ht := H_equalFuncB) (fn := Try.f111) (Try.func111) (c := C_equalFuncB) (by kernel_rfl) (by kernel_rfl) (by kernel_rfl)
end Go.Proofs.Y
namespace Go.Proofs.Y
open Go.Rb Go.Kx
noncomputable def C_shelf_Same_1 : Code := bodyOf Try.f110
noncomputable def G_shelf_Same_1 : FuncId → Option GS := tabG [(50, R_equalP), (111, I_equalFuncB), (58, R_block_Same)]
theorem g_shelf_Same_1 : ΓOK Try.prog G_shelf_Same_1 := ΓOK_cons (R_equalP_ok) (ΓOK_cons (I_equalFuncB_ok) (ΓOK_cons (R_block_Same_ok) (ΓOK_nil)))
def H_shelf_Same_1 : HT := ⟨tabL [], tabH []⟩
noncomputable def I_shelf_Same_1 : GS := inl T G_shelf_Same_1 H_shelf_Same_1 C_shelf_Same_1 (resOf Try.f110) (Try.f110.ntmps)
theorem I_shelf_Same_1_ok : GSOK Try.prog 110 I_shelf_Same_1 := inl_ok tok g_shelf_Same_1 fmo (Ht := H_shelf_Same_1) (fn := Try.f110) (Try.func110) (c := C_shelf_Same_1) (by kernel_rfl) (by kernel_rfl) (by kernel_rfl)
end Go.Proofs.Y
namespace Go.Proofs.Y
open Go.Rb Go.Kx
noncomputable def C_rainbookref_SameShelf_1 : Code := bodyOf Try.f112
noncomputable def G_rainbookref_SameShelf_1 : FuncId → Option GS := tabG [(111, I_equalFuncB), (59, R_rainbookref_SameBlock), (50, R_equalP)]
theorem g_rainbookref_SameShelf_1 : ΓOK Try.prog G_rainbookref_SameShelf_1 := ΓOK_cons (I_equalFuncB_ok) (ΓOK_cons (R_rainbookref_SameBlock_ok) (ΓOK_cons (R_equalP_ok) (ΓOK_nil)))
def H_rainbookref_SameShelf_1 : HT := ⟨tabL [], tabH []⟩
noncomputable def I_rainbookref_SameShelf_1 : GS := inl T G_rainbookref_SameShelf_1 H_rainbookref_SameShelf_1 C_rainbookref_SameShelf_1 (resOf Try.f112) (Try.f112.ntmps)
theorem I_rainbookref_SameShelf_1_ok : GSOK Try.prog 112 I_rainbookref_SameShelf_1 := inl_ok tok g_rainbookref_SameShelf_1 fmo (Ht := H_rainbookref_SameShelf_1) (fn := Try.f112) (Try.func112) (c := C_rainbookref_SameShelf_1) (by kernel_rfl) (by kernel_rfl) (by kernel_rfl)
end Go.Proofs.Y
namespace Go.Proofs.Y
open Go.Rb Go.Kx
noncomputable def C_equalFuncR : Code := bodyOf Try.f109
noncomputable def G_equalFuncR : FuncId → Option GS := tabG [(110, I_shelf_Same_1), (112, I_rainbookref_SameShelf_1)]
theorem g_equalFuncR : ΓOK Try.prog G_equalFuncR := ΓOK_cons (I_shelf_Same_1_ok) (ΓOK_cons (I_rainbookref_SameShelf_1_ok) (ΓOK_nil))
def H_equalFuncR : HT := ⟨tabL [(4, .it [] (dyn [.t 17 (.int .i64)]))], tabH []⟩
noncomputable def I_equalFuncR : GS := inl T G_equalFuncR H_equalFuncR C_equalFuncR (resOf Try.f109) (Try.f109.ntmps)
theorem I_equalFuncR_ok : GSOK Try.prog 109 I_equalFuncR := inl_ok tok g_equalFuncR fmo (Ht := H_equalFuncR) (fn := Try.f109) (Try.func109) (c := C_equalFuncR) (by kernel_rfl) (by kernel_rfl) (by kernel_rfl)
end Go.Proofs.Y
namespace Go.Proofs.Y
open Go.Rb Go.Kx
noncomputable def C_shelf_Same : Code := bodyOf Try.f76
noncomputable def G_shelf_Same : FuncId → Option GS := tabG [(109, I_equalFuncR), (110, I_shelf_Same_1)]
theorem g_shelf_Same : ΓOK Try.prog G_shelf_Same := ΓOK_cons (I_equalFuncR_ok) (ΓOK_cons (I_shelf_Same_1_ok) (ΓOK_nil))
def H_shelf_Same : HT := ⟨tabL [], tabH []⟩
abbrev is_shelf_Same : List IT := [.v (.one (.sl 78 (.cons (.sl 58 (.cons (.int .i64) (.cons (.int .i64) (.cons (.int .i64) (.one (.sl 4 (.one .bool))))))) (.one (.sl 34 (.cons (.int .i64) (.one (.int .i64)))))))) true, .v (.one (.sl 78 (.cons (.sl 58 (.cons (.int .i64) (.cons (.int .i64) (.cons (.int .i64) (.one (.sl 4 (.one .bool))))))) (.one (.sl 34 (.cons (.int .i64) (.one (.int .i64)))))))) true]
abbrev os_shelf_Same : List OT := [⟨.one .bool, false, []⟩]
set_option maxRecDepth 100000
noncomputable def F_shelf_Same : List (List (Int × Int × Int × List Bool) × List (Int × Int)) → List (List (Int × Int × Int × List Bool) × List (Int × Int)) → Option Bool := fun (a b : List (List (Int × Int × Int × List Bool) × List (Int × Int))) => ifB (neI (lenI a) (lenI b)) (some false) (loopN maxR (fun (x : Int) => ifB (ltI x (lenI a)) (bindO (atI a x) fun (y : List (Int × Int × Int × List Bool) × List (Int × Int)) => bindO (atI b x) fun (y_1 : List (Int × Int × Int × List Bool) × List (Int × Int)) => bindO (F_equalP y.2 y_1.2) fun (y_2 : Bool) => ifB y_2 (ifB (neI (lenI y.1) (lenI y_1.1)) (mapO Sum.inr (some false)) (loopN maxR (fun (x_1 : Int) => ifB (ltI x_1 (lenI y.1)) (bindO (atI y.1 x_1) fun (y : Int × Int × Int × List Bool) => bindO (atI y_1.1 x_1) fun (y_3 : Int × Int × Int × List Bool) => bindO (F_block_Same (y.1, y.2.1, y.2.2.1, y.2.2.2) (y_3.1, y_3.2.1, y_3.2.2.1, y_3.2.2.2)) fun (y : Bool) => ifB (notB y) (mapO Sum.inr (mapO Sum.inr (some false))) (some (Sum.inl (wadd .i64 x_1 1)))) (mapO Sum.inr (some (Sum.inl (wadd .i64 x 1))))) 0)) (mapO Sum.inr (some false))) (mapO Sum.inr (some true))) 0)
theorem F_shelf_Same_eq (x : PI is_shelf_Same) : F_shelf_Same (x.1) (x.2) = fnE T G_shelf_Same H_shelf_Same C_shelf_Same (resOf Try.f76) is_shelf_Same os_shelf_Same x := by kernel_rfl
noncomputable abbrev R_shelf_Same : GS := mkSpec false is_shelf_Same os_shelf_Same fun x => F_shelf_Same (x.1) (x.2)
theorem R_shelf_Same_ok : GSOK Try.prog 76 R_shelf_Same := spec_ok tok g_shelf_Same fmo (Ht := H_shelf_Same) (fn := Try.f76) (Try.func76) (c := C_shelf_Same) (by kernel_rfl) (by kernel_rfl) (by kernel_rfl) (by decide +kernel) (by decide) F_shelf_Same_eq
end Go.Proofs.Y
namespace Go.Proofs.Y
open Go.Rb Go.Kx
noncomputable def C_rainbookref_SameShelf : Code := bodyOf Try.f77
noncomputable def G_rainbookref_SameShelf : FuncId → Option GS := tabG [(109, I_equalFuncR), (112, I_rainbookref_SameShelf_1)]
theorem g_rainbookref_SameShelf : ΓOK Try.prog G_rainbookref_SameShelf := ΓOK_cons (I_equalFuncR_ok) (ΓOK_cons (I_rainbookref_SameShelf_1_ok) (ΓOK_nil))
def H_rainbookref_SameShelf : HT := ⟨tabL [], tabH []⟩
abbrev is_rainbookref_SameShelf : List IT := [.v (.one (.sl 78 (.cons (.sl 58 (.cons (.int .i64) (.cons (.int .i64) (.cons (.int .i64) (.one (.sl 4 (.one .bool))))))) (.one (.sl 34 (.cons (.int .i64) (.one (.int .i64)))))))) true, .v (.one (.sl 78 (.cons (.sl 58 (.cons (.int .i64) (.cons (.int .i64) (.cons (.int .i64) (.one (.sl 4 (.one .bool))))))) (.one (.sl 34 (.cons (.int .i64) (.one (.int .i64)))))))) true]
abbrev os_rainbookref_SameShelf : List OT := [⟨.one .bool, false, []⟩]
set_option maxRecDepth 100000
noncomputable def F_rainbookref_SameShelf : List (List (Int × Int × Int × List Bool) × List (Int × Int)) → List (List (Int × Int × Int × List Bool) × List (Int × Int)) → Option Bool := fun (a b : List (List (Int × Int × Int × List Bool) × List (Int × Int))) => ifB (neI (lenI a) (lenI b)) (some false) (loopN maxR (fun (x : Int) => ifB (ltI x (lenI a)) (bindO (atI a x) fun (y : List (Int × Int × Int × List Bool) × List (Int × Int)) => bindO (atI b x) fun (y_1 : List (Int × Int × Int × List Bool) × List (Int × Int)) => ifB (neI (lenI y.1) (lenI y_1.1)) (mapO Sum.inr (some false)) (loopN maxR (fun (x_1 : Int) => ifB (ltI x_1 (lenI y.1)) (bindO (atI y.1 x_1) fun (y : Int × Int × Int × List Bool) => bindO (atI y_1.1 x_1) fun (y_2 : Int × Int × Int × List Bool) => bindO (F_rainbookref_SameBlock (y.1, y.2.1, y.2.2.1, y.2.2.2) (y_2.1, y_2.2.1, y_2.2.2.1, y_2.2.2.2)) fun (y : Bool) => ifB (notB y) (mapO Sum.inr (mapO Sum.inr (some false))) (some (Sum.inl (wadd .i64 x_1 1)))) (mapO Sum.inr (bindO (F_equalP y.2 y_1.2) fun (y : Bool) => ifB (notB y) (mapO Sum.inr (some false)) (some (Sum.inl (wadd .i64 x 1)))))) 0)) (mapO Sum.inr (some true))) 0)
theorem F_rainbookref_SameShelf_eq (x : PI is_rainbookref_SameShelf) : F_rainbookref_SameShelf (x.1) (x.2) = fnE T G_rainbookref_SameShelf H_rainbookref_SameShelf C_rainbookref_SameShelf (resOf Try.f77) is_rainbookref_SameShelf os_rainbookref_SameShelf x := by kernel_rfl
noncomputable abbrev R_rainbookref_SameShelf : GS := mkSpec false is_rainbookref_SameShelf os_rainbookref_SameShelf fun x => F_rainbookref_SameShelf (x.1) (x.2)
theorem R_rainbookref_SameShelf_ok : GSOK Try.prog 77 R_rainbookref_SameShelf := spec_ok tok g_rainbookref_SameShelf fmo (Ht := H_rainbookref_SameShelf) (fn := Try.f77) (Try.func77) (c := C_rainbookref_SameShelf) (by kernel_rfl) (by kernel_rfl) (by kernel_rfl) (by decide +kernel) (by decide) F_rainbookref_SameShelf_eq
end Go.Proofs.Y
namespace Go.Proofs.Y
open Go.Rb Go.Kx
noncomputable def C_rainbookref_PutAll : Code := bodyOf Try.f80
noncomputable def G_rainbookref_PutAll : FuncId → Option GS := tabG [(113, R_cloneRw), (95, R_rainbookref_in), (100, R_cloneP), (65, R_rainbookref_RowPoints)]
theorem g_rainbookref_PutAll : ΓOK Try.prog G_rainbookref_PutAll := ΓOK_cons (R_cloneRw_ok) (ΓOK_cons (R_rainbookref_in_ok) (ΓOK_cons (R_cloneP_ok) (ΓOK_cons (R_rainbookref_RowPoints_ok) (ΓOK_nil))))
def H_rainbookref_PutAll : HT := ⟨tabL [(5, .it [] (dyn [.t 21 (.int .i64), .a 6 78 (.cons (.sl 58 (.cons (.int .i64) (.cons (.int .i64) (.cons (.int .i64) (.one (.sl 4 (.one .bool))))))) (.one (.sl 34 (.cons (.int .i64) (.one (.int .i64)))))), .c 4 0 (.sl 78 (.cons (.sl 58 (.cons (.int .i64) (.cons (.int .i64) (.cons (.int .i64) (.one (.sl 4 (.one .bool))))))) (.one (.sl 34 (.cons (.int .i64) (.one (.int .i64)))))))]))], tabH [(5, [.touch 6])]⟩
abbrev is_rainbookref_PutAll : List IT := [.v (.one (.sl 78 (.cons (.sl 58 (.cons (.int .i64) (.cons (.int .i64) (.cons (.int .i64) (.one (.sl 4 (.one .bool))))))) (.one (.sl 34 (.cons (.int .i64) (.one (.int .i64)))))))) true, .v (.one (.sl 97 (.cons (.int .i64) (.cons (.int .i64) (.one (.int .i64)))))) false]
abbrev os_rainbookref_PutAll : List OT := [⟨.one (.sl 78 (.cons (.sl 58 (.cons (.int .i64) (.cons (.int .i64) (.cons (.int .i64) (.one (.sl 4 (.one .bool))))))) (.one (.sl 34 (.cons (.int .i64) (.one (.int .i64))))))), true, []⟩, ⟨.one (.int .i64), false, []⟩]
set_option maxRecDepth 100000
noncomputable def F_rainbookref_PutAll : List (List (Int × Int × Int × List Bool) × List (Int × Int)) → List (Int × Int × Int) → Option (List (List (Int × Int × Int × List Bool) × List (Int × Int)) × Int) := fun (a : List (List (Int × Int × Int × List Bool) × List (Int × Int))) (b : List (Int × Int × Int)) => ifB (gtI (lenI b) 10) (some ([], 2)) (bindO (F_cloneRw a) fun (y : List (List (Int × Int × Int × List Bool) × List (Int × Int))) => loopN maxR (fun (x : Int × List (List (Int × Int × Int × List Bool) × List (Int × Int)) × List (List (Int × Int × Int × List Bool) × List (Int × Int))) => ifB (ltI x.1 (lenI b)) (bindO (atI b x.1) fun (y : Int × Int × Int) => bindO (F_rainbookref_in y.1 0 3) fun (y_1 : Bool) => ifB (notB y_1) (mapO Sum.inr (some ([], 5))) (ifB (ltL y.1 x.2.2) (bindO (atN x.2.2 (natI y.1)) fun (y_2 : List (Int × Int × Int × List Bool) × List (Int × Int)) => bindO (F_cloneP y_2.2) fun (y_3 : List (Int × Int)) => ifB (roomA 16 y_3 [(y.2.1, y.2.2)]) (bindO (F_rainbookref_RowPoints (y_2.1, cat y_3 [(y.2.1, y.2.2)])) fun (y_4 : List (Int × Int) × Int) => ifB (neI y_4.2 0) (mapO Sum.inr (some ([], y_4.2))) (ifB (ltL y.1 x.2.2) (bindO (atN x.2.2 (natI y.1)) fun (y_5 : List (Int × Int × Int × List Bool) × List (Int × Int)) => some (Sum.inl (wadd .i64 x.1 1, x.2.1, setN x.2.2 (natI y.1) (y_2.1, cat y_3 [(y.2.1, y.2.2)])))) none)) none) none)) (mapO Sum.inr (some (x.2.2, 0)))) (0, [], y))
theorem F_rainbookref_PutAll_eq (x : PI is_rainbookref_PutAll) : F_rainbookref_PutAll (x.1) (x.2) = fnE T G_rainbookref_PutAll H_rainbookref_PutAll C_rainbookref_PutAll (resOf Try.f80) is_rainbookref_PutAll os_rainbookref_PutAll x := by kernel_rfl
noncomputable abbrev R_rainbookref_PutAll : GS := mkSpec false is_rainbookref_PutAll os_rainbookref_PutAll fun x => F_rainbookref_PutAll (x.1) (x.2)
theorem R_rainbookref_PutAll_ok : GSOK Try.prog 80 R_rainbookref_PutAll := spec_ok tok g_rainbookref_PutAll fmo (Ht := H_rainbookref_PutAll) (fn := Try.f80) (Try.func80) (c := C_rainbookref_PutAll) (by kernel_rfl) (by kernel_rfl) (by kernel_rfl) (by decide +kernel) (by decide) F_rainbookref_PutAll_eq
end Go.Proofs.Y
namespace Go.Proofs.Y
open Go.Rb Go.Kx
noncomputable def C_rainbookref_Sealed : Code := bodyOf Try.f81
noncomputable def G_rainbookref_Sealed : FuncId → Option GS := tabG [(95, R_rainbookref_in), (113, R_cloneRw), (54, R_rainbookref_BlockOf), (114, R_cloneBk)]
theorem g_rainbookref_Sealed : ΓOK Try.prog G_rainbookref_Sealed := ΓOK_cons (R_rainbookref_in_ok) (ΓOK_cons (R_cloneRw_ok) (ΓOK_cons (R_rainbookref_BlockOf_ok) (ΓOK_cons (R_cloneBk_ok) (ΓOK_nil))))
def H_rainbookref_Sealed : HT := ⟨tabL [], tabH []⟩
abbrev is_rainbookref_Sealed : List IT := [.v (.one (.sl 78 (.cons (.sl 58 (.cons (.int .i64) (.cons (.int .i64) (.cons (.int .i64) (.one (.sl 4 (.one .bool))))))) (.one (.sl 34 (.cons (.int .i64) (.one (.int .i64)))))))) true, .v (.one (.int .i64)) false, .v (.one (.int .i64)) false]
abbrev os_rainbookref_Sealed : List OT := [⟨.one (.sl 78 (.cons (.sl 58 (.cons (.int .i64) (.cons (.int .i64) (.cons (.int .i64) (.one (.sl 4 (.one .bool))))))) (.one (.sl 34 (.cons (.int .i64) (.one (.int .i64))))))), true, []⟩, ⟨.one (.int .i64), false, []⟩]
set_option maxRecDepth 100000
noncomputable def F_rainbookref_Sealed : List (List (Int × Int × Int × List Bool) × List (Int × Int)) → Int → Int → Option (List (List (Int × Int × Int × List Bool) × List (Int × Int)) × Int) := fun (a : List (List (Int × Int × Int × List Bool) × List (Int × Int))) (b c : Int) => bindO (F_rainbookref_in b 0 3) fun (y : Bool) => ifB (notB y) (some ([], 5)) (bindO (F_cloneRw a) fun (y : List (List (Int × Int × Int × List Bool) × List (Int × Int))) => ifB (ltL b y) (bindO (atN y (natI b)) fun (y_1 : List (Int × Int × Int × List Bool) × List (Int × Int)) => bindO (F_rainbookref_in c 1 (lenI y_1.2)) fun (y_2 : Bool) => ifB (notB y_2) (some ([], 3)) (ifB (geI (lenI y_1.1) 8) (some ([], 2)) (ifB (in1 y_1.2 c) (bindO (F_rainbookref_BlockOf (takeI y_1.2 c)) fun (y_3 : (Int × Int × Int × List Bool) × Int) => bindO (F_cloneBk y_1.1) fun (y_4 : List (Int × Int × Int × List Bool)) => ifB (roomA 48 y_4 [(y_3.1.1, y_3.1.2.1, y_3.1.2.2.1, y_3.1.2.2.2)]) (ifB (in1 y_1.2 c) (ifB (ltL b y) (bindO (atN y (natI b)) fun (y_5 : List (Int × Int × Int × List Bool) × List (Int × Int)) => some (setN y (natI b) (cat y_4 [(y_3.1.1, y_3.1.2.1, y_3.1.2.2.1, y_3.1.2.2.2)], dropI y_1.2 c), 0)) none) none) none) none))) none)
theorem F_rainbookref_Sealed_eq (x : PI is_rainbookref_Sealed) : F_rainbookref_Sealed (x.1) (x.2.1) (x.2.2) = fnE T G_rainbookref_Sealed H_rainbookref_Sealed C_rainbookref_Sealed (resOf Try.f81) is_rainbookref_Sealed os_rainbookref_Sealed x := by kernel_rfl
noncomputable abbrev R_rainbookref_Sealed : GS := mkSpec false is_rainbookref_Sealed os_rainbookref_Sealed fun x => F_rainbookref_Sealed (x.1) (x.2.1) (x.2.2)
theorem R_rainbookref_Sealed_ok : GSOK Try.prog 81 R_rainbookref_Sealed := spec_ok tok g_rainbookref_Sealed fmo (Ht := H_rainbookref_Sealed) (fn := Try.f81) (Try.func81) (c := C_rainbookref_Sealed) (by kernel_rfl) (by kernel_rfl) (by kernel_rfl) (by decide +kernel) (by decide) F_rainbookref_Sealed_eq
end Go.Proofs.Y
namespace Go.Proofs.Y
open Go.Rb Go.Kx
noncomputable def C_growBk : Code := bodyOf Try.f127
noncomputable def G_growBk : FuncId → Option GS := tabG []
theorem g_growBk : ΓOK Try.prog G_growBk := ΓOK_nil
def H_growBk : HT := ⟨tabL [], tabH []⟩
noncomputable def I_growBk : GS := inl T G_growBk H_growBk C_growBk (resOf Try.f127) (Try.f127.ntmps)
theorem I_growBk_ok : GSOK Try.prog 127 I_growBk := inl_ok tok g_growBk fmo (Ht := H_growBk) (fn := Try.f127) (Try.func127) (c := C_growBk) (by kernel_rfl) (by kernel_rfl) (by kernel_rfl)
end Go.Proofs.Y
namespace Go.Proofs.Y
open Go.Rb Go.Kx
noncomputable def C_concatBk : Code := bodyOf Try.f115
noncomputable def G_concatBk : FuncId → Option GS := tabG [(127, I_growBk)]
theorem g_concatBk : ΓOK Try.prog G_concatBk := ΓOK_cons (I_growBk_ok) (ΓOK_nil)
def H_concatBk : HT := ⟨tabL [(3, .it [] (dyn [.t 3 (.int .i64), .t 11 (.int .i64)])), (11, .it [] (dyn [.a 6 58 (.cons (.int .i64) (.cons (.int .i64) (.cons (.int .i64) (.one (.sl 4 (.one .bool)))))), .t 27 (.int .i64)]))], tabH [(10, [.trim 6])]⟩
abbrev is_concatBk : List IT := [.v (.one (.sl 76 (.one (.sl 58 (.cons (.int .i64) (.cons (.int .i64) (.cons (.int .i64) (.one (.sl 4 (.one .bool)))))))))) false]
abbrev os_concatBk : List OT := [⟨.one (.sl 58 (.cons (.int .i64) (.cons (.int .i64) (.cons (.int .i64) (.one (.sl 4 (.one .bool))))))), false, []⟩]
set_option maxRecDepth 100000
noncomputable def F_concatBk : List (List (Int × Int × Int × List Bool)) → Option (List (Int × Int × Int × List Bool)) := fun (a : List (List (Int × Int × Int × List Bool))) => loopN maxR (fun (x : Int × Int) => ifB (ltI x.2 (lenI a)) (bindO (atI a x.2) fun (y : List (Int × Int × Int × List Bool)) => ifB (ltI (wadd .i64 x.1 (lenI y)) 0) none (some (Sum.inl (wadd .i64 x.1 (lenI y), wadd .i64 x.2 1)))) (mapO Sum.inr (ifB (ltI x.1 0) none (ifB (gtI (wsub .i64 x.1 (wsub .i64 0 0)) 0) (ifB (roomZ 48 (wsub .i64 x.1 (wsub .i64 0 0))) (ifB (in1 (repI (wsub .i64 x.1 (wsub .i64 0 0)) ((0, 0, 0, []) : Int × Int × Int × List Bool)) 0) (ifB (inN (repI (wsub .i64 x.1 (wsub .i64 0 0)) ((0, 0, 0, []) : Int × Int × Int × List Bool)) 0 (natI 0)) (loopN maxR (fun (x : Int × List (Int × Int × Int × List Bool)) => ifB (ltI x.1 (lenI a)) (bindO (atI a x.1) fun (y : List (Int × Int × Int × List Bool)) => ifB (roomA 48 x.2 y) (some (Sum.inl (wadd .i64 x.1 1, cat x.2 y))) none) (mapO Sum.inr (some x.2))) (0, subN (repI (wsub .i64 x.1 (wsub .i64 0 0)) ((0, 0, 0, []) : Int × Int × Int × List Bool)) 0 (natI 0))) none) none) none) (loopN maxR (fun (x : Int × List (Int × Int × Int × List Bool)) => ifB (ltI x.1 (lenI a)) (bindO (atI a x.1) fun (y : List (Int × Int × Int × List Bool)) => ifB (roomA 48 x.2 y) (some (Sum.inl (wadd .i64 x.1 1, cat x.2 y))) none) (mapO Sum.inr (some x.2))) (0, [])))))) (0, 0)
theorem F_concatBk_eq (x : PI is_concatBk) : F_concatBk x = fnE T G_concatBk H_concatBk C_concatBk (resOf Try.f115) is_concatBk os_concatBk x := by kernel_rfl
noncomputable abbrev R_concatBk : GS := mkSpec false is_concatBk os_concatBk fun x => F_concatBk x
theorem R_concatBk_ok : GSOK Try.prog 115 R_concatBk := spec_ok tok g_concatBk fmo (Ht := H_concatBk) (fn := Try.f115) (Try.func115) (c := C_concatBk) (by kernel_rfl) (by kernel_rfl) (by kernel_rfl) (by decide +kernel) (by decide) F_concatBk_eq
end Go.Proofs.Y
namespace Go.Proofs.Y
open Go.Rb Go.Kx
noncomputable def C_rainbookref_MergedRow : Code := bodyOf Try.f82
noncomputable def G_rainbookref_MergedRow : FuncId → Option GS := tabG [(95, R_rainbookref_in), (113, R_cloneRw), (56, R_rainbookref_Merged), (115, R_concatBk)]
theorem g_rainbookref_MergedRow : ΓOK Try.prog G_rainbookref_MergedRow := ΓOK_cons (R_rainbookref_in_ok) (ΓOK_cons (R_cloneRw_ok) (ΓOK_cons (R_rainbookref_Merged_ok) (ΓOK_cons (R_concatBk_ok) (ΓOK_nil))))
def H_rainbookref_MergedRow : HT := ⟨tabL [], tabH []⟩
abbrev is_rainbookref_MergedRow : List IT := [.v (.one (.sl 78 (.cons (.sl 58 (.cons (.int .i64) (.cons (.int .i64) (.cons (.int .i64) (.one (.sl 4 (.one .bool))))))) (.one (.sl 34 (.cons (.int .i64) (.one (.int .i64)))))))) true, .v (.one (.int .i64)) false, .v (.one (.int .i64)) false]
abbrev os_rainbookref_MergedRow : List OT := [⟨.one (.sl 78 (.cons (.sl 58 (.cons (.int .i64) (.cons (.int .i64) (.cons (.int .i64) (.one (.sl 4 (.one .bool))))))) (.one (.sl 34 (.cons (.int .i64) (.one (.int .i64))))))), true, []⟩, ⟨.one (.int .i64), false, []⟩]
set_option maxRecDepth 100000
noncomputable def F_rainbookref_MergedRow : List (List (Int × Int × Int × List Bool) × List (Int × Int)) → Int → Int → Option (List (List (Int × Int × Int × List Bool) × List (Int × Int)) × Int) := fun (a : List (List (Int × Int × Int × List Bool) × List (Int × Int))) (b c : Int) => bindO (F_rainbookref_in b 0 3) fun (y : Bool) => ifB (notB y) (some ([], 5)) (bindO (F_cloneRw a) fun (y : List (List (Int × Int × Int × List Bool) × List (Int × Int))) => ifB (ltL b y) (bindO (atN y (natI b)) fun (y_1 : List (Int × Int × Int × List Bool) × List (Int × Int)) => ifB (ltI c 0) (some ([], 3)) (ifB (leI (wadd .i64 c 1) 0) (some ([], 3)) (ifB (geI (wadd .i64 c 1) (lenI y_1.1)) (some ([], 3)) (bindO (atI y_1.1 c) fun (y_2 : Int × Int × Int × List Bool) => bindO (atI y_1.1 (wadd .i64 c 1)) fun (y_3 : Int × Int × Int × List Bool) => bindO (F_rainbookref_Merged (y_2.1, y_2.2.1, y_2.2.2.1, y_2.2.2.2) (y_3.1, y_3.2.1, y_3.2.2.1, y_3.2.2.2)) fun (y_4 : (Int × Int × Int × List Bool) × Int) => ifB (neI y_4.2 0) (some ([], y_4.2)) (ifB (in1 y_1.1 c) (ifB (in1 y_1.1 (wadd .i64 c 2)) (bindO (F_concatBk [takeI y_1.1 c, [(y_4.1.1, y_4.1.2.1, y_4.1.2.2.1, y_4.1.2.2.2)], dropI y_1.1 (wadd .i64 c 2)]) fun (y_5 : List (Int × Int × Int × List Bool)) => ifB (ltL b y) (bindO (atN y (natI b)) fun (y_6 : List (Int × Int × Int × List Bool) × List (Int × Int)) => some (setN y (natI b) (y_5, y_1.2), 0)) none) none) none))))) none)
theorem F_rainbookref_MergedRow_eq (x : PI is_rainbookref_MergedRow) : F_rainbookref_MergedRow (x.1) (x.2.1) (x.2.2) = fnE T G_rainbookref_MergedRow H_rainbookref_MergedRow C_rainbookref_MergedRow (resOf Try.f82) is_rainbookref_MergedRow os_rainbookref_MergedRow x := by kernel_rfl
noncomputable abbrev R_rainbookref_MergedRow : GS := mkSpec false is_rainbookref_MergedRow os_rainbookref_MergedRow fun x => F_rainbookref_MergedRow (x.1) (x.2.1) (x.2.2)
theorem R_rainbookref_MergedRow_ok : GSOK Try.prog 82 R_rainbookref_MergedRow := spec_ok tok g_rainbookref_MergedRow fmo (Ht := H_rainbookref_MergedRow) (fn := Try.f82) (Try.func82) (c := C_rainbookref_MergedRow) (by kernel_rfl) (by kernel_rfl) (by kernel_rfl) (by decide +kernel) (by decide) F_rainbookref_MergedRow_eq
end Go.Proofs.Y
namespace Go.Proofs.Y
open Go.Rb Go.Kx
noncomputable def C_rainbookref_Dropped : Code := bodyOf Try.f83
noncomputable def G_rainbookref_Dropped : FuncId → Option GS := tabG [(95, R_rainbookref_in)]
theorem g_rainbookref_Dropped : ΓOK Try.prog G_rainbookref_Dropped := ΓOK_cons (R_rainbookref_in_ok) (ΓOK_nil)
def H_rainbookref_Dropped : HT := ⟨tabL [(5, .it [] (dyn [.t 19 (.int .i64), .b 6 0 78 (.cons (.sl 58 (.cons (.int .i64) (.cons (.int .i64) (.cons (.int .i64) (.one (.sl 4 (.one .bool))))))) (.one (.sl 34 (.cons (.int .i64) (.one (.int .i64))))))])), (9, .it [] (dyn [.t 29 (.int .i64), .b 9 0 58 (.cons (.int .i64) (.cons (.int .i64) (.cons (.int .i64) (.one (.sl 4 (.one .bool))))))]))], tabH []⟩
abbrev is_rainbookref_Dropped : List IT := [.v (.one (.sl 78 (.cons (.sl 58 (.cons (.int .i64) (.cons (.int .i64) (.cons (.int .i64) (.one (.sl 4 (.one .bool))))))) (.one (.sl 34 (.cons (.int .i64) (.one (.int .i64)))))))) true, .v (.one (.int .i64)) false]
abbrev os_rainbookref_Dropped : List OT := [⟨.one (.sl 78 (.cons (.sl 58 (.cons (.int .i64) (.cons (.int .i64) (.cons (.int .i64) (.one (.sl 4 (.one .bool))))))) (.one (.sl 34 (.cons (.int .i64) (.one (.int .i64))))))), true, []⟩, ⟨.one (.int .i64), false, []⟩]
set_option maxRecDepth 100000
noncomputable def F_rainbookref_Dropped : List (List (Int × Int × Int × List Bool) × List (Int × Int)) → Int → Option (List (List (Int × Int × Int × List Bool) × List (Int × Int)) × Int) := fun (a : List (List (Int × Int × Int × List Bool) × List (Int × Int))) (b : Int) => bindO (F_rainbookref_in b 0 100001) fun (y : Bool) => ifB (notB y) (some ([], 3)) (loopN maxR (fun (x : Int × List (List (Int × Int × Int × List Bool) × List (Int × Int))) => ifB (ltI x.1 (lenI a)) (bindO (atI a x.1) fun (y : List (Int × Int × Int × List Bool) × List (Int × Int)) => loopN maxR (fun (x_1 : Int × List (Int × Int × Int × List Bool)) => ifB (ltI x_1.1 (lenI y.1)) (bindO (atI y.1 x_1.1) fun (y : Int × Int × Int × List Bool) => ifB (geI y.2.2.1 b) (ifB (roomA 48 x_1.2 [(y.1, y.2.1, y.2.2.1, y.2.2.2)]) (some (Sum.inl (wadd .i64 x_1.1 1, cat x_1.2 [(y.1, y.2.1, y.2.2.1, y.2.2.2)]))) none) (some (Sum.inl (wadd .i64 x_1.1 1, x_1.2)))) (mapO Sum.inr (ifB (roomA 48 x.2 [(x_1.2, y.2)]) (some (Sum.inl (wadd .i64 x.1 1, cat x.2 [(x_1.2, y.2)]))) none))) (0, [])) (mapO Sum.inr (some (x.2, 0)))) (0, []))
theorem F_rainbookref_Dropped_eq (x : PI is_rainbookref_Dropped) : F_rainbookref_Dropped (x.1) (x.2) = fnE T G_rainbookref_Dropped H_rainbookref_Dropped C_rainbookref_Dropped (resOf Try.f83) is_rainbookref_Dropped os_rainbookref_Dropped x := by kernel_rfl
noncomputable abbrev R_rainbookref_Dropped : GS := mkSpec false is_rainbookref_Dropped os_rainbookref_Dropped fun x => F_rainbookref_Dropped (x.1) (x.2)
theorem R_rainbookref_Dropped_ok : GSOK Try.prog 83 R_rainbookref_Dropped := spec_ok tok g_rainbookref_Dropped fmo (Ht := H_rainbookref_Dropped) (fn := Try.f83) (Try.func83) (c := C_rainbookref_Dropped) (by kernel_rfl) (by kernel_rfl) (by kernel_rfl) (by decide +kernel) (by decide) F_rainbookref_Dropped_eq
end Go.Proofs.Y
namespace Go.Proofs.Y
open Go.Rb Go.Kx
theorem eqLoop {γ α : Type} [Inhabited γ] [DecidableEq γ] (A B : List γ) (hl : A.length < 4611686018427387904) (hn : A.length = B.length) (R F : Option α) (T : Int → γ → γ → Option (Sum Int α))
    (hT : ∀ (i : Int) (x y : γ), x ∈ A → T i x y = if x = y then some (Sum.inl (wadd .i64 i 1)) else mapO Sum.inr F) :
    loopN maxR (fun (i : Int) => ifB (ltI i (lenI A)) (bindO (atI A i) fun (y : γ) => bindO (atI B i) fun (y3 : γ) => T i y y3) (mapO Sum.inr R)) 0 = if A = B then R else F := by
  refine loop_ind (G := fun _ => if A = B then R else F) (P := fun (i : Int) => 0 ≤ i ∧ i ≤ A.length ∧ ∀ j : Nat, (j : Int) < i → A.getD j default = B.getD j default) (μ := fun (i : Int) => A.length - i.toNat) ?_ maxR 0 ⟨by omega, by omega, fun j hj => by omega⟩ (by unfold maxR; omega)
  rintro i ⟨h0, h1, h2⟩ k hk
  obtain ⟨j, rfl⟩ : ∃ j : Nat, i = j := ⟨i.toNat, by omega⟩
  rw [stepK_ifB, stepK_map, ifB_ltI, lenI_eq]
  by_cases hj : j < A.length
  · rw [if_pos (by omega), atI_nat hj, atI_nat (by omega : j < B.length), bindO_some, bindO_some, hT _ _ _ (getD_mem hj), wadd_nat (by omega)]
    by_cases hq : A.getD j default = B.getD j default
    · rw [if_pos hq, stepK_inl]
      exact hk _ ⟨by omega, by omega, fun j' hj' => by
        by_cases h : j' = j
        · subst h; exact hq
        · exact h2 j' (by omega)⟩ (by omega)
    · have hne : ¬ A = B := by rintro rfl; exact hq rfl
      rw [if_neg hq, if_neg hne, stepK_map]
  · rw [if_neg (by omega)]
    have : A = B := getD_ext hn fun j' hj' => h2 j' (by omega)
    rw [if_pos this]
theorem shelfSame_eq (a b : Shf) (ha : okS a) : F_shelf_Same a b = some (decide (a = b)) := by
  unfold F_shelf_Same
  rw [ifB_neI, lenI_eq, lenI_eq]
  by_cases hn : (a.length : Int) = b.length
  · rw [if_pos hn]
    refine (eqLoop a b ha.1 (by omega) _ (some false) _ ?_).trans ?_
    · intro i x y hx
      have hok := ha.2 x hx
      rw [equalP_eq (by have := hok.2.2; omega), bindO_some, ifB_dec, ifB_neI, lenI_eq, lenI_eq]
      by_cases h2 : x.2 = y.2
      · rw [if_pos h2]
        by_cases hm : (x.1.length : Int) = y.1.length
        · rw [if_pos hm]
          refine (eqLoop x.1 y.1 hok.2.1 (by omega) _ (mapO Sum.inr (some false)) _ ?_).trans ?_
          · intro i2 u v hu
            rw [show ∀ b : Bk, ((b.1, b.2.1, b.2.2.1, b.2.2.2) : Bk) = b from fun _ => rfl, show ∀ b : Bk, ((b.1, b.2.1, b.2.2.1, b.2.2.2) : Bk) = b from fun _ => rfl, same_eq u v (hok.1 u hu), bindO_some, ifB_not, ifB_dec]
          · by_cases h1 : x.1 = y.1
            · rw [if_pos h1, if_pos (Prod.ext h1 h2)]
            · rw [if_neg h1, if_neg (fun h => h1 (congrArg Prod.fst h))]
        · rw [if_neg hm, if_neg (fun h => hm (by rw [h]))]
      · rw [if_neg h2, if_neg (fun h => h2 (congrArg Prod.snd h))]
    · by_cases h : a = b
      · simp [h]
      · simp [h]
  · have : ¬ a = b := by rintro rfl; exact hn rfl
    rw [if_neg hn, decide_eq_false this]
theorem sameShelf_eq (a b : Shf) (ha : okS a) : F_rainbookref_SameShelf a b = some (decide (a = b)) := by
  unfold F_rainbookref_SameShelf
  rw [ifB_neI, lenI_eq, lenI_eq]
  by_cases hn : (a.length : Int) = b.length
  · rw [if_pos hn]
    refine (eqLoop a b ha.1 (by omega) _ (some false) _ ?_).trans ?_
    · intro i x y hx
      have hok := ha.2 x hx
      rw [ifB_neI, lenI_eq, lenI_eq]
      by_cases hm : (x.1.length : Int) = y.1.length
      · rw [if_pos hm]
        refine (eqLoop x.1 y.1 hok.2.1 (by omega) _ (mapO Sum.inr (some false)) _ ?_).trans ?_
        · intro i2 u v hu
          rw [show ∀ b : Bk, ((b.1, b.2.1, b.2.2.1, b.2.2.2) : Bk) = b from fun _ => rfl, show ∀ b : Bk, ((b.1, b.2.1, b.2.2.1, b.2.2.2) : Bk) = b from fun _ => rfl, sameBlock_eq u v (hok.1 u hu), bindO_some, ifB_not, ifB_dec]
        · rw [equalP_eq (by have := hok.2.2; omega), bindO_some, ifB_not, ifB_dec]
          by_cases h1 : x.1 = y.1
          · rw [if_pos h1]
            by_cases h2 : x.2 = y.2
            · rw [if_pos h2, if_pos (Prod.ext h1 h2)]
            · rw [if_neg h2, if_neg (fun h => h2 (congrArg Prod.snd h))]
          · rw [if_neg h1, if_neg (fun h => h1 (congrArg Prod.fst h))]
      · rw [if_neg hm, if_neg (fun h => hm (by rw [h]))]
    · by_cases h : a = b
      · simp [h]
      · simp [h]
  · have : ¬ a = b := by rintro rfl; exact hn rfl
    rw [if_neg hn, decide_eq_false this]
theorem safeQ_2 (q : List Pt × Int) : (safeQ q).2 = q.2 := by unfold safeQ; split <;> rfl
theorem putAll_eq (s : Shf) (l : List Ent) (hc : chkS s = 0) (hl : l.length < 4611686018427387904) : F_rainbookref_PutAll s l = some (if 10 < l.length then ([], 2) else putE s l) := by
  have h4 := (chkS_zero.1 hc).1
  unfold F_rainbookref_PutAll
  rw [ifB_gtI, lenI_eq]
  by_cases h10 : 10 < l.length
  · rw [if_pos (by omega), if_pos h10]
  rw [if_neg (by omega), if_neg h10, cloneRw_eq (by omega), bindO_some]
  refine loop_range l (fun j (t : Shf) => ((j : Int), ([] : Shf), t)) (G := fun rest t => some (putE t rest)) (P := fun _ t => chkS t = 0) ?_ ?_ (s0 := s) hc (by omega)
  · rintro j t hj ht k hk
    have hat := atI_nat hj
    have ht4 := (chkS_zero.1 ht).1
    generalize l.getD j default = x at *
    simp only
    rw [stepK_ifB, stepK_map, ifB_ltI, if_pos (by omega), hat, stepK_bind, bindO_some, in_eq, stepK_bind, bindO_some, ifB_not, stepK_ifB, stepK_map, ifB_dec, putE, wadd_nat (by omega)]
    by_cases hx : 0 ≤ x.1 ∧ x.1 ≤ 3
    · have hr := chkS_row ht (i := x.1.toNat) (by omega)
      have hok := okR_of hr
      have h40 : (t.getD x.1.toNat default).2.length ≤ 40 := by
        have := checkL_len (allR_is hr).2.2.1
        rw [List.length_append] at this; omega
      rw [if_pos hx, if_neg (show ¬ (x.1 < 0 ∨ 4 ≤ x.1) by omega), ifB_ltL, if_pos ⟨by omega, by omega⟩, natI_eq, atN_nat (by omega), bindO_some]
      generalize t.getD x.1.toNat default = r at *
      have hk2 : okR (putW x r) := ⟨hok.1, hok.2.1, by show (r.2 ++ [_]).length ≤ _; rw [List.length_append, List.length_singleton]; omega⟩
      rw [cloneP_eq (by omega), bindO_some, ifB_roomA, if_pos (by simp only [List.length_cons, List.length_nil]; omega), cat_eq, show F_rainbookref_RowPoints (r.1, r.2 ++ [(x.2.1, x.2.2)]) = some (safeQ (allR (putW x r))) from rowPoints_eq _ hk2, bindO_some, safeQ_2, ifB_neI]
      by_cases hz : (allR (putW x r)).2 = 0
      · rw [if_pos hz, if_pos hz, ifB_ltL, if_pos ⟨by omega, by omega⟩, bindO_some, stepK_inl]
        exact hk _ (chkS_set ht hz _)
      · rw [if_neg hz, if_neg hz]; rfl
    · rw [if_neg hx, if_pos (by omega)]
  · rintro t _ k
    simp only
    rw [stepK_ifB, stepK_map, ifB_ltI, if_neg (by omega)]
    rfl
theorem sealed_eq (s : Shf) (i n : Int) (hc : chkS s = 0) : F_rainbookref_Sealed s i n = some (onRow s i (sealR n)) := by
  have h4 := (chkS_zero.1 hc).1
  unfold F_rainbookref_Sealed onRow
  rw [in_eq, bindO_some, ifB_not, ifB_dec]
  by_cases hi : 0 ≤ i ∧ i ≤ 3
  · have hr := chkS_row hc (i := i.toNat) (by omega)
    have hok := okR_of hr
    have h8 := (allR_is hr).1
    have h40 : (s.getD i.toNat default).2.length ≤ 40 := by
      have := checkL_len (allR_is hr).2.2.1
      rw [List.length_append] at this; omega
    rw [if_pos hi, if_neg (by omega), cloneRw_eq (by omega), bindO_some, ifB_ltL, if_pos ⟨by omega, by omega⟩, natI_eq, atN_nat (by omega), bindO_some, in_eq, bindO_some, ifB_not, ifB_dec, ifB_geI, lenI_eq, lenI_eq]
    generalize s.getD i.toNat default = r at *
    by_cases h1 : 1 ≤ n ∧ n ≤ r.2.length
    · have h12 : ¬ (n < 1 ∨ (r.2.length : Int) < n) := by omega
      rw [if_pos h1]
      by_cases h3 : r.1.length = 8
      · have hv : sealR n r = (r, 2) := by unfold sealR; rw [if_neg h12, if_pos h3]
        rw [if_pos (by omega), hv]; rfl
      · obtain ⟨g1, _⟩ := sealR_is hr h1.1 h1.2
        have hv : sealR n r = ((r.1 ++ [(makeR (r.2.take n.toNat)).1], r.2.drop n.toNat), 0) := by unfold sealR; rw [if_neg h12, if_neg h3, g1, if_neg (by simp)]
        rw [if_neg (by omega), ifB_in1, if_pos ⟨by omega, by omega⟩, takeI_eq, blockOf_eq _ (by rw [List.length_take]; omega), bindO_some, cloneBk_eq (by omega), bindO_some, ifB_roomA, if_pos (by simp only [List.length_cons, List.length_nil]; omega), ifB_in1, if_pos ⟨by omega, by omega⟩, ifB_ltL, if_pos ⟨by omega, by omega⟩, bindO_some, hv]
        rfl
    · have hv : sealR n r = (r, 3) := by unfold sealR; rw [if_pos (by omega)]
      rw [if_neg h1, hv]; rfl
  · rw [if_neg hi, if_pos (by omega)]
theorem concatBk_eq {a : List (List Bk)} (h : a.length < 4611686018427387904) (h2 : a.flatten.length ≤ 1000000000000) : F_concatBk a = some a.flatten := by
  have h3 : a.flatten.length * 48 ≤ 140737488355328 := by omega
  have h9 := concat_gen (α := Bk) 48 (0, 0, 0, []) a h (by decide) h3 (by decide)
  exact h9
theorem mergedRow_eq (s : Shf) (i n : Int) (hc : chkS s = 0) (hn : n ≤ 9223372036854775807) : F_rainbookref_MergedRow s i n = some (onRow s i (mergeW n)) := by
  have h4 := (chkS_zero.1 hc).1
  unfold F_rainbookref_MergedRow onRow
  rw [in_eq, bindO_some, ifB_not, ifB_dec]
  by_cases hi : 0 ≤ i ∧ i ≤ 3
  · have hr := chkS_row hc (i := i.toNat) (by omega)
    have hok := okR_of hr
    have h8 := (allR_is hr).1
    rw [if_pos hi, if_neg (by omega), cloneRw_eq (by omega), bindO_some, ifB_ltL, if_pos ⟨by omega, by omega⟩, natI_eq, atN_nat (by omega), bindO_some, ifB_ltI, ifB_leI, ifB_geI, lenI_eq]
    generalize s.getD i.toNat default = r at *
    by_cases h1 : n < 0
    · have hv : mergeW n r = (r, 3) := by unfold mergeW; rw [if_pos (.inl h1)]
      rw [if_pos h1, hv]; rfl
    rw [if_neg h1]
    by_cases hbig : (r.1.length : Int) - 1 ≤ n
    · have hv : mergeW n r = (r, 3) := by unfold mergeW; rw [if_pos (.inr hbig)]
      rw [hv]
      by_cases hw : wadd .i64 n 1 ≤ 0
      · rw [if_pos hw]; rfl
      · rw [if_neg hw, if_pos ?_]
        · rfl
        · unfold wadd at hw ⊢
          have := IntKind.wrap_i64 (n + 1)
          omega
    · obtain ⟨k, rfl⟩ : ∃ k : Nat, n = k := ⟨n.toNat, by omega⟩
      have h12 : ¬ ((k : Int) < 0 ∨ (r.1.length : Int) - 1 ≤ k) := by omega
      have hw2 : wadd .i64 (k : Int) 2 = ((k + 2 : Nat) : Int) := by rw [wadd_in ⟨by omega, by omega⟩]; rfl
      have e1 : ∀ b : Bk, ((b.1, b.2.1, b.2.2.1, b.2.2.2) : Bk) = b := fun _ => rfl
      have hmw : mergeW (k : Int) r = if ¬ (mergeR (r.1.getD k default) (r.1.getD (k + 1) default)).2 = 0 then (r, (mergeR (r.1.getD k default) (r.1.getD (k + 1) default)).2)
        else ((r.1.take k ++ (mergeR (r.1.getD k default) (r.1.getD (k + 1) default)).1 :: r.1.drop (k + 2), r.2), 0) := by unfold mergeW; rw [if_neg h12, Int.toNat_natCast]
      rw [wadd_nat (by omega), hw2, if_neg (by omega), if_neg (by omega), atI_nat (by omega), bindO_some, atI_nat (by omega), bindO_some, hmw]
      simp only [e1]
      have x1 := hok.1 _ (getD_mem (l := r.1) (i := k) (by omega))
      have x2 := hok.1 _ (getD_mem (l := r.1) (i := k + 1) (by omega))
      generalize r.1.getD (k + 1) default = y at *
      generalize r.1.getD k default = x at *
      rw [merged_eq x y x1 x2, bindO_some, ifB_neI]
      generalize mergeR x y = q
      have hf : [r.1.take k, [q.1], r.1.drop (k + 2)].flatten = r.1.take k ++ q.1 :: r.1.drop (k + 2) := by simp
      by_cases hq : q.2 = 0
      · rw [if_pos hq, if_neg (not_not_intro hq), ifB_in1, if_pos ⟨by omega, by omega⟩, ifB_in1, if_pos ⟨by omega, by omega⟩, takeI_eq, dropI_eq, Int.toNat_natCast, Int.toNat_natCast, concatBk_eq (by simp) (by rw [hf, List.length_append, List.length_cons, List.length_take, List.length_drop]; omega), bindO_some, hf, ifB_ltL, if_pos ⟨by omega, by omega⟩, bindO_some]
        rfl
      · rw [if_neg hq, if_pos hq]
        simp only
        rw [if_neg hq]
  · rw [if_neg hi, if_pos (by omega)]
theorem dropped_eq (s : Shf) (n : Int) (hc : chkS s = 0) : F_rainbookref_Dropped s n = some (if n < 0 ∨ 100001 < n then ([], 3) else (s.map (dropR n), 0)) := by
  obtain ⟨h4, hr⟩ := chkS_zero.1 hc
  unfold F_rainbookref_Dropped
  rw [in_eq, bindO_some, ifB_not, ifB_dec]
  by_cases hn : 0 ≤ n ∧ n ≤ 100001
  · rw [if_pos hn, if_neg (by omega)]
    refine (loop_range s (fun j (t : Shf) => ((j : Int), t)) (G := fun rest t => some (t ++ rest.map (dropR n), (0 : Int))) (P := fun j t => t.length = j) ?_ ?_ (s0 := []) rfl (by omega)).trans rfl
    · rintro j t hj ht k hk
      have hat := atI_nat hj
      have h8 := (allR_is (hr _ (getD_mem hj))).1
      generalize s.getD j default = r at *
      simp only
      rw [stepK_ifB, stepK_map, ifB_ltI, lenI_eq, if_pos (by omega), hat, stepK_bind, bindO_some]
      refine (congrArg (fun z => stepK z k) (loop_range r.1 (fun i (u : List Bk) => ((i : Int), u)) (G := fun rest u => some (Sum.inl (((j + 1 : Nat) : Int), t ++ [(u ++ rest.filter (fun b => decide (n ≤ b.2.2.1)), r.2)]))) (P := fun i u => u.length ≤ i) ?_ ?_ (s0 := []) (by simp) (by omega))).trans ?_
      · rintro i u hi hu k2 hk2
        have hat2 := atI_nat hi
        generalize r.1.getD i default = b at *
        simp only
        rw [stepK_ifB, stepK_map, ifB_ltI, lenI_eq, if_pos (by omega), hat2, stepK_bind, bindO_some, stepK_ifB, stepK_ifB, stepK_none, stepK_inl, stepK_inl, ifB_geI, List.filter_cons, wadd_nat (by omega)]
        by_cases hb : n ≤ b.2.2.1
        · rw [if_pos hb, ifB_roomA, if_pos (by simp only [List.length_cons, List.length_nil]; omega), if_pos (by simpa using hb)]
          refine (hk2 (u ++ [b]) (by rw [List.length_append, List.length_singleton]; omega)).trans ?_
          rw [List.append_assoc]; rfl
        · rw [if_neg hb, if_neg (by simpa using hb)]
          exact hk2 u (by omega)
      · rintro u hu k2
        simp only
        rw [stepK_ifB, stepK_map, ifB_ltI, lenI_eq, if_neg (by omega), ifB_roomA, if_pos (by simp only [List.length_cons, List.length_nil]; omega), wadd_nat (by omega), List.filter_nil, List.append_nil]; rfl
      · rw [stepK_inl]
        refine (hk _ (by rw [List.length_append, List.length_singleton, ht])).trans ?_
        rw [List.map_cons, List.append_assoc]; rfl
    · rintro t ht k
      simp only
      rw [stepK_ifB, stepK_map, ifB_ltI, lenI_eq, if_neg (by omega)]
      simp
  · rw [if_neg hn, if_pos (by omega)]
end Go.Proofs.Y
namespace Go.Rb
open Go.Kx
def badEnt (x : Ent) : Prop := x.1 < 0 ∨ 4 ≤ x.1 ∨ x.2.1 < 0 ∨ 100000 < x.2.1 ∨ x.2.2 < -1000000 ∨ 1000000 < x.2.2
instance badEntDec (x : Ent) : Decidable (badEnt x) := inferInstanceAs (Decidable (_ ∨ _))
def entE : List Ent → Int
  | [] => 0
  | x :: l => if badEnt x then 3 else entE l
def chkRec (r : Rc) : Int :=
  if r.1 < 1 ∨ 4 < r.1 then 4 else
  if r.1 = 1 then (if ¬ r.2.1 = 0 ∨ ¬ r.2.2.1 = 0 then 4 else if 10 < r.2.2.2.length then 2 else entE r.2.2.2) else
  if 0 < r.2.2.2.length ∨ (r.1 = 4 ∧ ¬ r.2.1 = 0) then 4 else if r.2.1 < 0 ∨ 4 ≤ r.2.1 ∨ r.2.2.1 < 0 ∨ 100001 < r.2.2.1 then 3 else 0
def doRec (s : Shf) (r : Rc) : Shf × Int := if r.1 = 1 then putS s r.2.2.2 else if r.1 = 2 then sealS s r.2.1 r.2.2.1 else if r.1 = 3 then mergeS s r.2.1 r.2.2.1 else dropS s r.2.2.1
def nextS (s : Shf) (r : Rc) : Shf × Int := if chkS s = 0 then (if chkRec r = 0 then doRec s r else ([], chkRec r)) else ([], chkS s)
def replayS : Shf → List Rc → Shf × Int
  | s, [] => (s, 0)
  | s, r :: l => if (nextS s r).2 = 0 then replayS (nextS s r).1 l else ([], (nextS s r).2)
def freshS : Shf := [([], []), ([], []), ([], []), ([], [])]
theorem fresh_ok : chkS freshS = 0 := by decide +kernel
def replayR (l : List Rc) : Shf × Int := if 60 < l.length then ([], 2) else replayS freshS l
theorem entE_or : ∀ l : List Ent, entE l = 0 ∨ entE l = 3
  | [] => .inl rfl
  | x :: l => by
    rw [entE]
    split
    · exact .inr rfl
    · exact entE_or l
theorem chkRec_kind {r : Rc} (h : chkRec r = 0) : 1 ≤ r.1 ∧ r.1 ≤ 4 ∧ (r.1 = 1 → r.2.1 = 0 ∧ r.2.2.1 = 0 ∧ r.2.2.2.length ≤ 10 ∧ entE r.2.2.2 = 0) ∧ (¬ r.1 = 1 → r.2.2.2 = [] ∧ 0 ≤ r.2.1 ∧ r.2.1 ≤ 3 ∧ 0 ≤ r.2.2.1 ∧ r.2.2.1 ≤ 100001 ∧ (r.1 = 4 → r.2.1 = 0)) := by
  unfold chkRec at h
  split at h
  · cases h
  · rename_i h1
    split at h
    · rename_i h2
      split at h
      · cases h
      · rename_i h3
        split at h
        · cases h
        · rename_i h4
          exact ⟨by omega, by omega, fun _ => ⟨by omega, by omega, by omega, h⟩, fun h => absurd h2 h⟩
    · rename_i h2
      split at h
      · cases h
      · rename_i h3
        split at h
        · cases h
        · rename_i h4
          refine ⟨by omega, by omega, fun h => absurd h h2, fun _ => ⟨List.eq_nil_of_length_eq_zero (by omega), by omega, by omega, by omega, by omega, fun h5 => ?_⟩⟩
          exact Classical.byContradiction fun h6 => h3 (.inr ⟨h5, h6⟩)
theorem doRec_ok {s : Shf} {r : Rc} (h : (doRec s r).2 = 0) : chkS s = 0 ∧ chkS (doRec s r).1 = 0 := by
  unfold doRec at h ⊢
  split
  · rename_i h1; rw [if_pos h1] at h; exact ⟨(putS_ok h).1, (putS_ok h).2.2.1⟩
  · rename_i h1
    rw [if_neg h1] at h
    split
    · rename_i h2; rw [if_pos h2] at h; exact ⟨(sealS_ok h).1, (sealS_ok h).2.1⟩
    · rename_i h2
      rw [if_neg h2] at h
      split
      · rename_i h3; rw [if_pos h3] at h; exact ⟨(mergeS_ok h).1, (mergeS_ok h).2.1⟩
      · rename_i h3; rw [if_neg h3] at h; exact ⟨(dropS_ok h).1, (dropS_ok h).2.2.1⟩
theorem nextS_ok {s : Shf} {r : Rc} (h : (nextS s r).2 = 0) : chkS s = 0 ∧ chkRec r = 0 ∧ nextS s r = doRec s r ∧ chkS (nextS s r).1 = 0 := by
  unfold nextS at h ⊢
  split at h
  · rename_i h1
    split at h
    · rename_i h2
      rw [if_pos h1, if_pos h2]
      exact ⟨h1, h2, rfl, (doRec_ok h).2⟩
    · rename_i h2; exact absurd h h2
  · rename_i h1; exact absurd h h1
theorem replayS_ok : ∀ {l : List Rc} {s : Shf}, chkS s = 0 → (replayS s l).2 = 0 → chkS (replayS s l).1 = 0
  | [], _, h, _ => h
  | r :: l, s, h, he => by
    rw [replayS] at he ⊢
    split at he
    · rename_i h1
      rw [if_pos h1]
      exact replayS_ok (nextS_ok h1).2.2.2 he
    · rename_i h1; exact absurd he h1
theorem replayS_rec : ∀ {l : List Rc} {s : Shf}, (replayS s l).2 = 0 → ∀ r ∈ l, chkRec r = 0
  | [], _, _ => fun r hr => by cases hr
  | r :: l, s, he => by
    rw [replayS] at he
    split at he
    · rename_i h1
      intro q hq
      rcases List.mem_cons.1 hq with rfl | hq
      · exact (nextS_ok h1).2.1
      · exact replayS_rec he q hq
    · rename_i h1; exact absurd he h1
/-- All batches' points of a series; the latest drop. -/
def allP (j : Int) (l : List Rc) : List Pt := (l.map fun r => entP j r.2.2.2).flatten
def leastF (m : Int) (l : List Rc) : Int := l.foldl (fun m r => if r.1 = 4 then max m r.2.2.1 else m) m
/-- The points are the last ones of A; those that are gone are ahead of m. -/
def Tail (A : List Pt) (m : Int) (l : List Pt) : Prop := ∃ k, l = A.drop k ∧ k ≤ A.length ∧ ∀ p ∈ A.take k, p.1 < m
theorem tail_next {s : Shf} {r : Rc} (h : (nextS s r).2 = 0) {j : Int} (j0 : 0 ≤ j) (j1 : j < 4) {A : List Pt} {m : Int} (ht : Tail A m (allS s j).1) :
    Tail (A ++ entP j r.2.2.2) (if r.1 = 4 then max m r.2.2.1 else m) (allS (nextS s r).1 j).1 := by
  obtain ⟨h1, h2, h3, _⟩ := nextS_ok h
  obtain ⟨k1, k2, k3, k4⟩ := chkRec_kind h2
  obtain ⟨k, t1, t2, t3⟩ := ht
  rw [h3] at h ⊢
  unfold doRec at h ⊢
  by_cases c1 : r.1 = 1
  · rw [if_pos c1] at h ⊢
    rw [if_neg (by omega), (putS_ok h).2.2.2 j j0 j1, t1]
    exact ⟨k, by rw [List.drop_append_of_le_length t2], by rw [List.length_append]; omega, by rw [List.take_append_of_le_length t2]; exact t3⟩
  · rw [(k4 c1).1]
    have e0 : entP j [] = [] := rfl
    rw [e0, List.append_nil]
    rw [if_neg c1] at h ⊢
    by_cases c2 : r.1 = 2
    · rw [if_pos c2] at h ⊢
      rw [if_neg (by omega), (sealS_ok h).2.2 j]
      exact ⟨k, t1, t2, t3⟩
    · rw [if_neg c2] at h ⊢
      by_cases c3 : r.1 = 3
      · rw [if_pos c3] at h ⊢
        rw [if_neg (by omega), (mergeS_ok h).2.2 j]
        exact ⟨k, t1, t2, t3⟩
      · rw [if_neg c3] at h ⊢
        rw [if_pos (by omega)]
        obtain ⟨k', d1, d2, d3⟩ := (dropS_ok h).2.2.2 j j0 j1
        rw [t1] at d1 d2 d3
        rw [List.length_drop] at d2
        refine ⟨k + k', by rw [d1, List.drop_drop], by omega, fun p hp => ?_⟩
        rw [List.take_add, List.mem_append] at hp
        rcases hp with hp | hp
        · have := t3 p hp; omega
        · have := d3 p hp; omega
theorem tail_replay : ∀ {l : List Rc} {s : Shf} {j : Int} {A : List Pt} {m : Int}, (replayS s l).2 = 0 → 0 ≤ j → j < 4 → Tail A m (allS s j).1 → Tail (A ++ allP j l) (leastF m l) (allS (replayS s l).1 j).1
  | [], s, j, A, m, _, _, _, ht => by simpa [replayS, allP, leastF] using ht
  | r :: l, s, j, A, m, he, j0, j1, ht => by
    rw [replayS] at he ⊢
    split at he
    · rename_i h1
      rw [if_pos h1]
      have := tail_replay he j0 j1 (tail_next h1 j0 j1 ht)
      rw [List.append_assoc] at this
      simpa [allP, leastF] using this
    · rename_i h1; exact absurd he h1
theorem store_points {l : List Rc} {j : Int} (he : (replayR l).2 = 0) (j0 : 0 ≤ j) (j1 : j < 4) : Tail (allP j l) (leastF 0 l) (allS (replayR l).1 j).1 := by
  unfold replayR at he ⊢
  split at he
  · cases he
  · rename_i h
    rw [if_neg h]
    have h0 : (allS freshS j).1 = [] := by
      have h := allS_is fresh_ok j0 j1
      rw [h]
      have : j = 0 ∨ j = 1 ∨ j = 2 ∨ j = 3 := by omega
      rcases this with rfl | rfl | rfl | rfl <;> rfl
    have := tail_replay he j0 j1 (A := []) (m := 0) ⟨0, by rw [h0]; rfl, by simp, by simp⟩
    simpa using this
theorem replayR_len {l : List Rc} (he : (replayR l).2 = 0) : l.length ≤ 60 ∧ chkS (replayR l).1 = 0 ∧ ∀ r ∈ l, chkRec r = 0 := by
  unfold replayR at he ⊢
  split at he
  · cases he
  · rename_i h
    rw [if_neg h]
    exact ⟨by omega, replayS_ok fresh_ok he, replayS_rec he⟩
end Go.Rb
namespace Go.Proofs.Y
open Go.Rb Go.Kx
noncomputable def C_shelf_New : Code := bodyOf Try.f78
noncomputable def G_shelf_New : FuncId → Option GS := tabG []
theorem g_shelf_New : ΓOK Try.prog G_shelf_New := ΓOK_nil
def H_shelf_New : HT := ⟨tabL [], tabH []⟩
abbrev is_shelf_New : List IT := []
abbrev os_shelf_New : List OT := [⟨.one (.sl 78 (.cons (.sl 58 (.cons (.int .i64) (.cons (.int .i64) (.cons (.int .i64) (.one (.sl 4 (.one .bool))))))) (.one (.sl 34 (.cons (.int .i64) (.one (.int .i64))))))), true, []⟩]
set_option maxRecDepth 100000
noncomputable def F_shelf_New : Option (List (List (Int × Int × Int × List Bool) × List (Int × Int))) := ifB (roomI 48 4) (some (repI 4 ([], []))) none
theorem F_shelf_New_eq (x : PI is_shelf_New) : F_shelf_New  = fnE T G_shelf_New H_shelf_New C_shelf_New (resOf Try.f78) is_shelf_New os_shelf_New x := by kernel_rfl
noncomputable abbrev R_shelf_New : GS := mkSpec false is_shelf_New os_shelf_New fun x => F_shelf_New 
theorem R_shelf_New_ok : GSOK Try.prog 78 R_shelf_New := spec_ok tok g_shelf_New fmo (Ht := H_shelf_New) (fn := Try.f78) (Try.func78) (c := C_shelf_New) (by kernel_rfl) (by kernel_rfl) (by kernel_rfl) (by decide +kernel) (by decide) F_shelf_New_eq
end Go.Proofs.Y
namespace Go.Proofs.Y
open Go.Rb Go.Kx
noncomputable def C_rainbooklaw_shelved : Code := bodyOf Try.f74
noncomputable def G_rainbooklaw_shelved : FuncId → Option GS := tabG [(78, R_shelf_New), (70, R_shelf_Put), (71, R_shelf_Seal), (72, R_shelf_Merge), (73, R_shelf_Drop), (69, R_shelf_All), (103, R_rainbooklaw_small), (76, R_shelf_Same), (92, R_rainbooklaw_points), (50, R_equalP), (75, R_shelf_Check)]
theorem g_rainbooklaw_shelved : ΓOK Try.prog G_rainbooklaw_shelved := ΓOK_cons (R_shelf_New_ok) (ΓOK_cons (R_shelf_Put_ok) (ΓOK_cons (R_shelf_Seal_ok) (ΓOK_cons (R_shelf_Merge_ok) (ΓOK_cons (R_shelf_Drop_ok) (ΓOK_cons (R_shelf_All_ok) (ΓOK_cons (R_rainbooklaw_small_ok) (ΓOK_cons (R_shelf_Same_ok) (ΓOK_cons (R_rainbooklaw_points_ok) (ΓOK_cons (R_equalP_ok) (ΓOK_cons (R_shelf_Check_ok) (ΓOK_nil)))))))))))
def H_rainbooklaw_shelved : HT := ⟨tabL [], tabH []⟩
abbrev is_rainbooklaw_shelved : List IT := []
abbrev os_rainbooklaw_shelved : List OT := [⟨.one .bool, false, []⟩]
set_option maxRecDepth 100000
noncomputable def F_rainbooklaw_shelved : Option Bool :=  bindO F_shelf_New fun (y : List (List (Int × Int × Int × List Bool) × List (Int × Int))) => bindO (F_shelf_Put y [(1, 10, 5), (1, 20, 5), (1, 30, 7)]) fun (y : List (List (Int × Int × Int × List Bool) × List (Int × Int)) × Int) => bindO (F_shelf_Put y.1 [(0, 1, 0), (1, 30, 0)]) fun (y_1 : List (List (Int × Int × Int × List Bool) × List (Int × Int)) × Int) => bindO (F_shelf_Seal y.1 1 2) fun (y_2 : List (List (Int × Int × Int × List Bool) × List (Int × Int)) × Int) => bindO (F_shelf_Seal y_2.1 1 1) fun (y_3 : List (List (Int × Int × Int × List Bool) × List (Int × Int)) × Int) => bindO (F_shelf_Merge y_3.1 1 0) fun (y_4 : List (List (Int × Int × Int × List Bool) × List (Int × Int)) × Int) => bindO (F_shelf_Drop y_3.1 30) fun (y_5 : List (List (Int × Int × Int × List Bool) × List (Int × Int)) × Int) => bindO (F_shelf_All y_5.1 1) fun (y_6 : List (Int × Int) × Int) => ifB (eqI y.2 0) (ifB (eqI y_1.2 7) (ifB (eqI y_2.2 0) (ifB (eqI y_3.2 0) (ifB (eqI y_4.2 0) (ifB (eqI y_5.2 0) (ifB (eqI y_6.2 0) (bindO F_rainbooklaw_small fun (y : List (List (Int × Int × Int × List Bool) × List (Int × Int))) => bindO (F_shelf_Same y_2.1 y) fun (y : Bool) => ifB y (bindO (atI y_3.1 1) fun (y : List (Int × Int × Int × List Bool) × List (Int × Int)) => ifB (eqI (lenI y.1) 2) (bindO (atI y_4.1 1) fun (y : List (Int × Int × Int × List Bool) × List (Int × Int)) => ifB (eqI (lenI y.1) 1) (bindO F_rainbooklaw_points fun (y : List (Int × Int)) => ifB (in1 y 2) (bindO (F_equalP y_6.1 (dropI y 2)) fun (y : Bool) => ifB y (bindO (F_shelf_Check y_4.1) fun (y : Int) => some (eqI y 0)) (some false)) none) (some false)) (some false)) (some false)) (some false)) (some false)) (some false)) (some false)) (some false)) (some false)) (some false)
theorem F_rainbooklaw_shelved_eq (x : PI is_rainbooklaw_shelved) : F_rainbooklaw_shelved  = fnE T G_rainbooklaw_shelved H_rainbooklaw_shelved C_rainbooklaw_shelved (resOf Try.f74) is_rainbooklaw_shelved os_rainbooklaw_shelved x := by kernel_rfl
noncomputable abbrev R_rainbooklaw_shelved : GS := mkSpec false is_rainbooklaw_shelved os_rainbooklaw_shelved fun x => F_rainbooklaw_shelved 
theorem R_rainbooklaw_shelved_ok : GSOK Try.prog 74 R_rainbooklaw_shelved := spec_ok tok g_rainbooklaw_shelved fmo (Ht := H_rainbooklaw_shelved) (fn := Try.f74) (Try.func74) (c := C_rainbooklaw_shelved) (by kernel_rfl) (by kernel_rfl) (by kernel_rfl) (by decide +kernel) (by decide) F_rainbooklaw_shelved_eq
end Go.Proofs.Y
