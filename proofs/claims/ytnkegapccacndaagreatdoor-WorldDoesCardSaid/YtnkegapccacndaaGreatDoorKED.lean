/-
  What is proved, part by part: a function that is known by what it comes to keeps what is said of it. a function that is known by what it comes to keeps what is said of it. a function that takes an array over keeps what is said of it. a function of Go's library of which the answer is known keeps what is said of it. functions of Go's library: what they hand back, by the shelf's contracts. strings joined by Go's library: what is handed back, by the shelf's contract. arguments that a row reads are plain data, of their types. a law's row holds if the law's body answers true on all data of its parameters' types. data of a type are typed data; a law's row holds if what its body comes to is true. a law's row that lists package-level variables holds if the law's body answers true where they hold what is listed. tables of types and of functions; what must be shown of each entry. Conditions: none.
-/
import Derived.Test.YtnkegapccacndaaGreatDoorKEC
import Derived.Shelf.Strconv.ErrVarAll
import Derived.Shelf.Strconv.ErrVarParseInt
import Derived.Shelf.Strconv.Itoa4
import Derived.Shelf.Strings.Cut
import Derived.Shelf.Strings.Split
import Derived.Shelf.Strings.Prefix
import Derived.Lib.AppendIntMem
import Derived.Shelf.Strings.OnBuilder
import Derived.Deep.Slices
import Derived.ChangeStays
import Derived.ChangeSame
import Derived.SizedLaws
import Derived.Below
import Derived.OpenShut
import Derived.RowKit
import Derived.LaidMore
import Derived.Lay
import Derived.Stop.Joined
import Derived.Stop.LaidErr
import Derived.Shelf.Vars
import Derived.MakeChecks
set_option linter.unusedVariables false
set_option linter.unusedSimpArgs false
set_option linter.unnecessarySimpa false
set_option maxRecDepth 4000
namespace Go.Kx
open Go.Rb
def C.flat : C → Prop
 | .sl _ _ => False
 | _ => True
theorem zf8 {c : CT} (h : c.flat = true) (x : Den c) : C.flat (enc c x) := by
 cases c <;> first | trivial | cases h
theorem ziO : ∀ {r : RT}, r.flat = true → ∀ (x : DenR r) (c : C), c ∈ encR r x → C.flat c
 | .one c, h, x, c', hc => by
  have : c' = enc c x := by simpa [encR] using hc
  subst this; exact zf8 h x
 | .cons c r, h, x, c', hc => by
  simp only [RT.flat, Bool.and_eq_true] at h
  have hc' : c' = enc c (Prod.fst x) ∨ c' ∈ encR r (Prod.snd x) := by simpa [encR] using hc
  rcases hc' with rfl | hc'
  ·exact zf8 h.1 _
  ·exact ziO h.2 _ _ hc'
section
variable {P : Program} {T : TT} {Γ : FuncId → Option GS} {B : Nat} {X : Nat → Prop} {w0 : World} {S0 : Nat → Nat → Prop} {pa : List ((Nat → Value) × (Nat → RV))} {E E' E2 : Env} {σ σ' σ2 : KS} {tm : Nat → Value}
def z9H (B : Nat) (X : Nat → Prop) (E' E2 : Env) (roots : List Nat) : Prop := ∀ l ∈ roots, E'.A l → (B ≤ E'.β l ∨ X (E'.β l)) ∧ (∀ o, ¬ E2.S (E'.β l) o) ∧ ∀ k, E2.A k → E2.β k ≠ E'.β l
structure Took (P : Program) (B : Nat) (X : Nat → Prop) (w0 : World) (S0 : Nat → Nat → Prop) (pa : List ((Nat → Value) × (Nat → RV))) (tm : Nat → Value) (E' E2 : Env) (σ2 : KS) (E3 : Env) (σ3 : KS) (roots : List Nat) : Prop where
 rel : RelE P B X w0 S0 pa E3 tm σ3
 le : E2.le E3
 tx : Tx P E2 σ2.H E3 σ3.H
 w : E3.w = E2.w
 S : E3.S = E2.S
 A : ∀ k, E3.A k → (E2.A k ∧ E3.β k = E2.β k) ∨ ∃ l ∈ roots, E'.A l ∧ E3.β k = E'.β l
theorem Took.refl (hr : RelE P B X w0 S0 pa E2 tm σ2) : Took P B X w0 S0 pa tm E' E2 σ2 E2 σ2 [] := ⟨hr, .refl _, .refl, rfl, rfl, fun _ h => .inl ⟨h, rfl⟩⟩
theorem Took.trans {E3 E4 : Env} {σ3 σ4 : KS} {a b : List Nat} (h : Took P B X w0 S0 pa tm E' E2 σ2 E3 σ3 a) (k : Took P B X w0 S0 pa tm E' E3 σ3 E4 σ4 b) : Took P B X w0 S0 pa tm E' E2 σ2 E4 σ4 (a ++ b) := by
 refine ⟨k.rel, h.le.trans k.le, h.tx.trans k.tx, k.w.trans h.w, k.S.trans h.S, fun i hi => ?_⟩
 rcases k.A i hi with ⟨h1, h2⟩ | ⟨l, h1, h2, h3⟩
 ·rcases h.A i h1 with ⟨h3, h4⟩ | ⟨l, h3, h4, h5⟩
  ·exact .inl ⟨h3, h2.trans h4⟩
  ·exact .inr ⟨l, List.mem_append_left _ h3, h4, h2.trans h5⟩
 ·exact .inr ⟨l, List.mem_append_right _ h1, h2, h3⟩
theorem Took.fresh {E3 : Env} {σ3 : KS} {a b : List Nat} (h : Took P B X w0 S0 pa tm E' E2 σ2 E3 σ3 a) (hf : z9H B X E' E2 b) (hd : ∀ l ∈ b, l ∉ a) (hne : ∀ l l', E'.A l → E'.A l' → E'.β l = E'.β l' → l = l') : z9H B X E' E3 b := by
 intro l hl hA
 obtain ⟨h1, h2, h3⟩ := hf l hl hA
 refine ⟨h1, fun o ho => h2 o (by rw [h.S] at ho; exact ho), fun k hk he => ?_⟩
 rcases h.A k hk with ⟨h4, h5⟩ | ⟨l', h4, h5, h6⟩
 ·exact h3 k h4 (h5.symm.trans he)
 ·have := hne l' l h5 hA (h6.symm.trans he)
  subst this
  exact hd l' hl h4
theorem zsx (hr : RelE P B X w0 S0 pa E2 tm σ2) {σ0 : KS} {d : Nat} {e : TypeId} {r : RT} {rows : List (DenR r)} {q : RV} {ws : Ws} {u : Value} {roots : List Nat} (hsz : r.size = P.cellsOf e) (hb : Rdr.run σ0 (newF d e r rows) = some (q, ws)) (hs : ∀ l, Key.H l ∈ Z5 ws → ∀ g, σ0.H l = .no g → σ2.H l = .no g)
  (hf : zqV P E' e r rows u roots) (hfr : z9H B X E' E2 roots) (hw : E2.w = E'.w) (hdat : ∀ v c, c ∈ (rw' r rows).flatten → VR P E' v (.c c) → VR P E2 v (.c c)) :
  ∃ E3, Took P B X w0 S0 pa tm E' E2 σ2 E3 (σ2.puts ws) roots ∧ VR P E3 u (av1 (σ2.puts ws).H q) ∧ ok1 (σ2.puts ws).H q := by
 obtain ⟨l, g, hl, h1⟩ := vm hb
 have h1' : some (RV.arw l (g + 1) e, [(Key.H l, Sl.hd (.flat (g + 1) false e r rows))]) = some (q, ws) := h1
 cases h1'
 have hl2 := hs l (by simp [Z5]) g hl
 have hHn : (σ2.puts [(Key.H l, Sl.hd (.flat (g + 1) false e r rows))]).H = updH σ2.H l (.flat (g + 1) false e r rows) := by
  show (σ2.put (.H l) _).H = _
  rw [y7]
 have hok : ok1 (σ2.puts [(Key.H l, Sl.hd (.flat (g + 1) false e r rows))]).H (.arw l (g + 1) e) := by
  show g + 1 ≤ ((σ2.puts [(Key.H l, Sl.hd (.flat (g + 1) false e r rows))]).H l).gen
  rw [hHn, zt]; exact Nat.le_refl _
 have hview : av1 (σ2.puts [(Key.H l, Sl.hd (.flat (g + 1) false e r rows))]).H (.arw l (g + 1) e) = .arr l 0 rows.length rows.length e := by
  show avW _ l (g + 1) e = _
  rw [hHn]; simp [avW, zt]
 rcases hf with ⟨rfl, a, rfl⟩ | ⟨lc, cs, ty, cap, hA, hroot, hh, hc, rfl, hle, hfit, hm⟩
 ·obtain ⟨k1, k2⟩ := hr.newEmpty hl2 hsz
  have hgen := vl (H := σ2.H) (l := l) (h := .flat (g + 1) false e r []) (by rw [hl2]; exact Nat.lt_succ_self g)
  refine ⟨E2, ⟨k1, .refl _, by rw [hHn]; exact Tx.upd hgen.1 hgen.2 envKill_le, rfl, rfl, fun k hk => .inl ⟨hk, rfl⟩⟩, ?_, hok⟩
  rw [hview]; exact .arr0 _ _ _ _
 ·obtain ⟨f1, f2, f3⟩ := hfr lc hroot hA
  have hblk : BlkR P E2 (E'.cp lc) cs (zr r rows) := by
   refine ⟨hc.1, hc.2.1, fun i v x hv hx => ?_⟩
   have h5 := hc.2.2 i v x hv hx
   rw [zr, List.getElem?_map, Option.map_eq_some_iff] at hx
   obtain ⟨c, hcc, rfl⟩ := hx
   exact ⟨hdat v c (List.mem_of_getElem? hcc) h5.1, h5.2⟩
  obtain ⟨E3, hE3, k1, k2, k3⟩ := hr.adopt hl2 hsz (b := E'.β lc) (n := E'.cp lc) (by rw [hw]; exact hh) hblk f2 f1 f3
  refine ⟨E3, ⟨k1, k2, by rw [hHn]; exact k3, by rw [hE3], by rw [hE3], fun k hk => ?_⟩, ?_, hok⟩
  ·subst hE3
   by_cases hkl : k = l
   ·subst hkl; exact .inr ⟨lc, hroot, hA, by simp⟩
   ·rcases hk with hk | hk
    ·exact .inl ⟨hk, by simp [hkl]⟩
    ·exact absurd hk hkl
  ·rw [hview]
   subst hE3
   have h9 := VR.arr (P := P) (E := { E2 with β := fun k => if k = l then E'.β lc else E2.β k, A := fun k => E2.A k ∨ k = l, cp := fun k => if k = l then E'.cp lc else E2.cp k }) l 0 rows.length rows.length cap e (.inr rfl) hle hle (by simp; omega) hm
   simp only [if_true] at h9
   exact h9
theorem zaf (hT : TOK P T) {σ0 : KS} {mode : Bool} {c : CT} {own : Bool} {y : Den c} {x : RV} {u : Value} {d : Nat} {q : RV} {ws : Ws} (hr : RelE P B X w0 S0 pa E2 tm σ2)
  (hE' : ∃ (B' : Nat) (X' : Nat → Prop) (w0' : World) (S0' : Nat → Nat → Prop) (pa' : List ((Nat → Value) × (Nat → RV))) (tm' : Nat → Value), RelE P B' X' w0' S0' pa' E' tm' σ') (h : CellOut P E' σ' c own x y u) (hb : Rdr.run σ0 (z36 d c own y) = some (q, ws))
  (hl : ∀ l ∈ (if own = true then x.root else []), z1X σ' l = true) (hs : ∀ l, Key.H l ∈ Z5 ws → ∀ g, σ0.H l = .no g → σ2.H l = .no g) (hot : zkG T c own = true) (hfr : z9H B X E' E2 (if own = true then x.root else [])) (hw : E2.w = E'.w)
  (hfl : mode = true → c.flatO own = true) (hdat : ∀ v c, (mode = true → C.flat c) → VR P E' v (.c c) → VR P E2 v (.c c)) :
  ∃ E3, Took P B X w0 S0 pa tm E' E2 σ2 E3 (σ2.puts ws) (if own = true then x.root else []) ∧ VR P E3 u (av1 (σ2.puts ws).H q) ∧ ok1 (σ2.puts ws).H q ∧ q.isCell = true ∧ (∀ k ∈ Z5 ws, ∃ l, k = Key.H l) := by
 obtain ⟨B', X', w0', S0', pa', tm', hE'⟩ := hE'
 have data : own = false ∨ c.flat = true → Rdr.run σ0 (z36 d c own y) = some (.d c y, []) → CellOut P E' σ' c false x y u → own = false →
   ∃ E3, Took P B X w0 S0 pa tm E' E2 σ2 E3 (σ2.puts ws) (if own = true then x.root else []) ∧ VR P E3 u (av1 (σ2.puts ws).H q) ∧ ok1 (σ2.puts ws).H q ∧ q.isCell = true ∧ (∀ k ∈ Z5 ws, ∃ l, k = Key.H l) := by
  intro _ h1 h2 ho
  rw [h1] at hb; cases hb
  subst ho
  rw [if_neg (by simp)]
  unfold CellOut at h2
  rw [if_neg (by simp)] at h2
  refine ⟨E2, .refl hr, ?_, trivial, rfl, by simp [Z5]⟩
  refine hdat u _ (fun hm => ?_) h2
  have := hfl hm
  exact zf8 (by cases c <;> exact this) y
 cases own with
 | false =>
  have h1 : Rdr.run σ0 (z36 d c false y) = some (.d c y, []) := by cases c <;> rfl
  exact data (.inl rfl) h1 h rfl
 | true =>
  cases c with
  | sl e r =>
   obtain ⟨y, rfl⟩ : ∃ y' : List (DenR r), y' = y := ⟨y, rfl⟩
   rw [if_pos rfl] at hl hfr ⊢
   have hb' : Rdr.run σ0 (newF d e r y) = some (q, ws) := hb
   have hf := zud hE' h hl
   obtain ⟨E3, k1, k2, k3⟩ := zsx hr (zbn hT hot) hb' hs hf hfr hw (fun v c hc hv => hdat v c (fun hm => by
    obtain ⟨row, h1, h2⟩ := List.mem_flatten.1 hc
    obtain ⟨z, _, rfl⟩ := List.mem_map.1 h1
    exact ziO (hfl hm) z c h2) hv)
   refine ⟨E3, k1, k2, k3, ?_, ?_⟩
   ·obtain ⟨l, g, _, h1⟩ := vm hb'
    have h1' : some (RV.arw l (g + 1) e, [(Key.H l, Sl.hd (.flat (g + 1) false e r y))]) = some (q, ws) := h1
    cases h1'; rfl
   ·obtain ⟨l, g, _, h1⟩ := vm hb'
    have h1' : some (RV.arw l (g + 1) e, [(Key.H l, Sl.hd (.flat (g + 1) false e r y))]) = some (q, ws) := h1
    cases h1'
    intro k hk
    exact ⟨l, by simpa [Z5] using hk⟩
  | _ =>
   exfalso
   unfold CellOut at h
   rw [if_pos rfl] at h
   obtain ⟨_, _, σi, _, h1⟩ := h
   cases h1
theorem z9I : ∀ {a b : List Nat}, Vg (a ++ b) = true → Vg a = true ∧ Vg b = true ∧ ∀ l ∈ b, l ∉ a
 | [], b, h => ⟨rfl, h, fun _ _ h => by cases h⟩
 | x :: a, b, h => by
  simp only [List.cons_append, Vg, Bool.and_eq_true, Bool.not_eq_true'] at h
  obtain ⟨h1, h2, h3⟩ := z9I h.2
  have hx : x ∉ a ++ b := fun hm => by rw [natIn_iff.2 hm] at h; exact absurd h.1 (by simp)
  refine ⟨?_, h2, fun l hl hla => ?_⟩
  ·simp only [Vg, Bool.and_eq_true, Bool.not_eq_true']
   refine ⟨?_, h1⟩
   cases hn : natIn x a with
   | false => rfl
   | true => exact absurd (List.mem_append_left _ (natIn_iff.1 hn)) hx
  ·rcases List.mem_cons.1 hla with rfl | hla
   ·exact hx (List.mem_append_right _ hl)
   ·exact h3 l hl hla
theorem z54 : ∀ {a b : List Key}, vX (a ++ b) = true → vX a = true ∧ vX b = true ∧ ∀ k ∈ b, k ∉ a
 | [], b, h => ⟨rfl, h, fun _ _ h => by cases h⟩
 | x :: a, b, h => by
  simp only [List.cons_append, vX, Bool.and_eq_true, Bool.not_eq_true'] at h
  obtain ⟨h1, h2, h3⟩ := z54 h.2
  have hx := z15 h.1
  refine ⟨?_, h2, fun l hl hla => ?_⟩
  ·simp only [vX, Bool.and_eq_true, Bool.not_eq_true']
   refine ⟨?_, h1⟩
   cases hn : kin x a with
   | false => rfl
   | true => exact absurd (List.mem_append_left _ (kin_true.1 hn)) hx
  ·rcases List.mem_cons.1 hla with rfl | hla
   ·exact hx (List.mem_append_right _ hl)
   ·exact h3 l hl hla
theorem ziP {σ0 σ2 : KS} {w1 w2 : Ws} (hs : ∀ l, Key.H l ∈ Z5 (w1 ++ w2) → ∀ g, σ0.H l = .no g → σ2.H l = .no g) (hnd : vX (yR (w1 ++ w2)) = true) :
  (∀ l, Key.H l ∈ Z5 w1 → ∀ g, σ0.H l = .no g → σ2.H l = .no g) ∧ ∀ l, Key.H l ∈ Z5 w2 → ∀ g, σ0.H l = .no g → (σ2.puts w1).H l = .no g := by
 rw [z7j] at hs
 rw [jC] at hnd
 obtain ⟨_, _, h3⟩ := z54 hnd
 refine ⟨fun l hl => hs l (List.mem_append_left _ hl), fun l hl g hg => ?_⟩
 have h4 : Key.H l ∉ Z5 w1 := fun h => h3 _ (z3Q hl (by simp)) (z3Q h (by simp))
 rw [zbg h4]
 exact hs l (List.mem_append_right _ hl) g hg
structure CallOK (P : Program) (T : TT) (mode : Bool) (E' : Env) (σ' : KS) : Prop where
 t : TOK P T
 r : ∃ (B' : Nat) (X' : Nat → Prop) (w0' : World) (S0' : Nat → Nat → Prop) (pa' : List ((Nat → Value) × (Nat → RV))) (tm' : Nat → Value), RelE P B' X' w0' S0' pa' E' tm' σ'
theorem CallOK.ne {mode : Bool} (h : CallOK P T mode E' σ') : ∀ l l', E'.A l → E'.A l' → E'.β l = E'.β l' → l = l' := by
 obtain ⟨_, _, _, _, _, _, hr⟩ := h.r; exact hr.w3.locne
theorem znJ {σ0 : KS} {mode : Bool} (hc : CallOK P T mode E' σ') : ∀ {rt : RT} {own : List Bool} {y : DenR rt} {xs : List RV} {us : List Value} {d : Nat} {rvs : List RV} {ws : Ws} {E2 : Env} {σ2 : KS}, RelE P B X w0 S0 pa E2 tm σ2 → RowOut P E' σ' rt own y xs us → Rdr.run σ0 (z7a d rt own y) = some (rvs, ws) →
  (∀ l ∈ ownL own xs, z1X σ' l = true) → Vg (ownL own xs) = true → (∀ l, Key.H l ∈ Z5 ws → ∀ g, σ0.H l = .no g → σ2.H l = .no g) → vX (yR ws) = true → ownT T rt own = true → z9H B X E' E2 (ownL own xs) → E2.w = E'.w → (mode = true → rt.flatO own = true) →
  (∀ v c, (mode = true → C.flat c) → VR P E' v (.c c) → VR P E2 v (.c c)) →
  ∃ E3, Took P B X w0 S0 pa tm E' E2 σ2 E3 (σ2.puts ws) (ownL own xs) ∧ rvs.length = us.length ∧ (∀ (i : Nat) (u : Value) (q : RV), us[i]? = some u → rvs[i]? = some q → VR P E3 u (av1 (σ2.puts ws).H q) ∧ ok1 (σ2.puts ws).H q ∧ q.isCell = true) ∧ ∀ k ∈ Z5 ws, ∃ l, k = Key.H l := by
 intro rt
 induction rt using RT.rec (motive_1 := fun _ => True) with
 | int | bool | str | sl => trivial
 | one c =>
  intro own y xs us d rvs ws E2 σ2 hr h hb hl hn hs hnd hot hfr hw hfl hdat
  obtain ⟨y, rfl⟩ : ∃ y' : Den c, y' = y := ⟨y, rfl⟩
  match xs, us, h with
  | [x], [u], h =>
   have hb' : Rdr.run σ0 (Rdr.bind (z36 d c (own.headD false) y) fun q => .ret ([q.1], q.2)) = some (rvs, ws) := hb
   simp only [Rdr.run_bind, Option.bind_eq_some_iff, Rdr.run, Option.some.injEq] at hb'
   obtain ⟨⟨q, w1⟩, h1, h2⟩ := hb'
   cases h2
   have hol : ownL own [x] = if own.headD false = true then x.root else [] := by simp [ownL]
   rw [hol] at hl hfr ⊢
   obtain ⟨E3, k1, k2, k3, k4, k5⟩ := zaf hc.t hr hc.r (show CellOut P E' σ' c (own.headD false) x y u from h) h1 hl hs hot hfr hw hfl hdat
   refine ⟨E3, k1, rfl, fun i v q' hv hq => ?_, k5⟩
   cases i with
   | zero => simp at hv hq; subst hv hq; exact ⟨k2, k3, k4⟩
   | succ i => simp at hv
  | [], _, h => exact h.elim
  | [_], [], h => exact h.elim
  | [_], _ :: _ :: _, h => exact h.elim
  | _ :: _ :: _, _, h => exact h.elim
 | cons c rt _ ih =>
  intro own y xs us d rvs ws E2 σ2 hr h hb hl hn hs hnd hot hfr hw hfl hdat
  obtain ⟨y, rfl⟩ : ∃ y' : Den c × DenR rt, y' = y := ⟨y, rfl⟩
  match xs, us, h with
  | x :: xs, u :: us, h =>
   have hb' : Rdr.run σ0 (Rdr.bind (z36 d c (own.headD false) y.1) fun q => Rdr.bind (z7a (d + 1) rt own.tail y.2) fun p => .ret (q.1 :: p.1, q.2 ++ p.2)) = some (rvs, ws) := hb
   simp only [Rdr.run_bind, Option.bind_eq_some_iff, Rdr.run, Option.some.injEq] at hb'
   obtain ⟨⟨q, w1⟩, h1, ⟨qs, w2⟩, h2, h3⟩ := hb'
   cases h3
   have hol : ownL own (x :: xs) = (if own.headD false = true then x.root else []) ++ ownL own.tail xs := rfl
   rw [hol] at hl hfr hn ⊢
   obtain ⟨n1, n2, n3⟩ := z9I hn
   obtain ⟨s1, s2⟩ := ziP hs hnd
   rw [jC] at hnd
   obtain ⟨m1, m2, _⟩ := z54 hnd
   have hot' : zkG T c (own.headD false) = true ∧ ownT T rt own.tail = true := by simpa [ownT, Bool.and_eq_true] using hot
   have hfl' : mode = true → c.flatO (own.headD false) = true ∧ rt.flatO own.tail = true := fun hm => by simpa [RT.flatO, Bool.and_eq_true] using hfl hm
   obtain ⟨hc1, hc2⟩ := (h : CellOut P E' σ' c (own.headD false) x y.1 u ∧ RowOut P E' σ' rt own.tail y.2 xs us)
   obtain ⟨E3, k1, k2, k3, k4, k5⟩ := zaf hc.t hr hc.r hc1 h1 (fun l hl' => hl l (List.mem_append_left _ hl')) s1 hot'.1 (fun l hl' => hfr l (List.mem_append_left _ hl')) hw (fun hm => (hfl' hm).1) hdat
   obtain ⟨E4, j1, j2, j3, j4⟩ := ih k1.rel hc2 h2 (fun l hl' => hl l (List.mem_append_right _ hl')) n2 s2 m2 hot'.2 (k1.fresh (fun l hl' => hfr l (List.mem_append_right _ hl')) n3 hc.ne) (k1.w.trans hw) (fun hm => (hfl' hm).2) (fun v c hm hv => (hdat v c hm hv).mono k1.le)
   rw [Yf]
   refine ⟨E4, k1.trans j1, by simp [j2], fun i v q' hv hq => ?_, fun k hk => ?_⟩
   ·cases i with
    | zero => simp at hv hq; subst hv hq; exact ⟨j1.tx.v1 u q k3 k2, j1.tx.ok1 q k3, k4⟩
    | succ i => exact j3 i v q' (by simpa using hv) (by simpa using hq)
   ·rw [z7j, List.mem_append] at hk
    rcases hk with hk | hk
    ·exact k5 k hk
    ·exact j4 k hk
  | [], _, h => exact h.elim
  | _ :: _, [], h => exact h.elim
theorem zag {σ0 : KS} {mode : Bool} (hc : CallOK P T mode E' σ') {o : OT} {y : DenR o.r} {x : RV} {u : Value} {d : Nat} {rvs : List RV} {ws : Ws} (hr : RelE P B X w0 S0 pa E2 tm σ2) (h : OutOne P E' σ' o y x u) (hb : Rdr.run σ0 (z7a d o.r o.own y) = some (rvs, ws))
  (hl : ∀ l ∈ ownL o.own (x.row o.agg), z1X σ' l = true) (hn : Vg (ownL o.own (x.row o.agg)) = true) (hs : ∀ l, Key.H l ∈ Z5 ws → ∀ g, σ0.H l = .no g → σ2.H l = .no g) (hnd : vX (yR ws) = true) (hot : ownT T o.r o.own = true) (hfr : z9H B X E' E2 (ownL o.own (x.row o.agg))) (hw : E2.w = E'.w)
  (hfl : mode = true → o.r.flatO o.own = true) (hdat : ∀ v c, (mode = true → C.flat c) → VR P E' v (.c c) → VR P E2 v (.c c)) :
  ∃ E3, Took P B X w0 S0 pa tm E' E2 σ2 E3 (σ2.puts ws) (ownL o.own (x.row o.agg)) ∧ VR P E3 u (av3 (σ2.puts ws).H (.ofRow o.agg rvs)) ∧ ok3 (σ2.puts ws).H (.ofRow o.agg rvs) ∧ (RV.ofRow o.agg rvs).nt = true := by
 obtain ⟨us, h1, h2⟩ := h
 obtain ⟨E3, k1, k2, k3, k4⟩ := znJ hc hr h1 hb hl hn hs hnd hot hfr hw hfl hdat
 refine ⟨E3, k1, ?_⟩
 cases hag : o.agg with
 | true =>
  rw [hag, if_pos rfl] at h2
  obtain ⟨rfl, h3⟩ := h2
  refine ⟨?_, fun q hq => ?_, rfl⟩
  ·refine .agg _ _ (by simp [k2]) (fun i v hv => h3 v (List.mem_of_getElem? (by simpa using hv))) fun i v z hv hz => ?_
   rw [List.getElem?_map, Option.map_eq_some_iff] at hz
   obtain ⟨q, hq, rfl⟩ := hz
   exact (k3 i v q (by simpa using hv) hq).1
  ·obtain ⟨i, hi⟩ := List.getElem?_of_mem hq
   have hlt : i < us.length := by rw [← k2]; exact (List.getElem?_eq_some_iff.1 hi).1
   exact (k3 i _ q (List.getElem?_eq_getElem hlt) hi).2.1
 | false =>
  rw [hag, if_neg (by simp)] at h2
  subst h2
  match rvs, k2, k3 with
  | [q], _, k3 =>
   obtain ⟨h4, h5, h6⟩ := k3 0 u q rfl rfl
   obtain ⟨g1, g2⟩ := z13 h6
   refine ⟨?_, ?_, ?_⟩
   ·show VR P E3 u (av3 _ q)
    rw [z5D h6]; exact h4
   ·exact z5C _ _ (z8F _ _ h5 g1) g2
   ·show q.nt = true
    cases q <;> first | rfl | exact absurd rfl (g2 _)
theorem zea {σ0 : KS} {mode : Bool} (hc : CallOK P T mode E' σ') : ∀ {os : List OT} {y : PO os} {xs : List RV} {us : List Value} {d : Nat} {rvs : List RV} {ws : Ws} {E2 : Env} {σ2 : KS}, RelE P B X w0 S0 pa E2 tm σ2 → zkI P E' σ' os y xs us → Rdr.run σ0 (zfS d os y) = some (rvs, ws) →
  (∀ l ∈ vW os xs, z1X σ' l = true) → Vg (vW os xs) = true → (∀ l, Key.H l ∈ Z5 ws → ∀ g, σ0.H l = .no g → σ2.H l = .no g) → vX (yR ws) = true → (∀ o ∈ os, ownT T o.r o.own = true) → z9H B X E' E2 (vW os xs) → E2.w = E'.w → (mode = true → ∀ o ∈ os, o.r.flatO o.own = true) →
  (∀ v c, (mode = true → C.flat c) → VR P E' v (.c c) → VR P E2 v (.c c)) →
  ∃ E3, Took P B X w0 S0 pa tm E' E2 σ2 E3 (σ2.puts ws) (vW os xs) ∧ us.length = rvs.length ∧ ∀ (i : Nat) (u : Value) (q : RV), us[i]? = some u → rvs[i]? = some q → VR P E3 u (av3 (σ2.puts ws).H q) ∧ ok3 (σ2.puts ws).H q ∧ q.nt = true := by
 intro os
 induction os with
 | nil =>
  intro y xs us d rvs ws E2 σ2 hr h hb _ _ _ _ _ _ _ _ _
  match xs, us, h with
  | [], [], _ =>
   cases hb
   exact ⟨E2, .refl hr, rfl, fun i u q hu _ => by simp at hu⟩
  | [], _ :: _, h => exact h.elim
  | _ :: _, _, h => exact h.elim
 | cons o os ih =>
  intro y xs us d rvs ws E2 σ2 hr h hb hl hn hs hnd hot hfr hw hfl hdat
  cases os with
  | nil =>
   obtain ⟨y, rfl⟩ : ∃ y' : DenR o.r, y' = y := ⟨y, rfl⟩
   match xs, us, h with
   | [x], [u], h =>
    have hb' : Rdr.run σ0 (Rdr.bind (z7a d o.r o.own y) fun q => .ret ([.ofRow o.agg q.1], q.2)) = some (rvs, ws) := hb
    simp only [Rdr.run_bind, Option.bind_eq_some_iff, Rdr.run, Option.some.injEq] at hb'
    obtain ⟨⟨q, w1⟩, h1, h2⟩ := hb'
    cases h2
    have hol : vW [o] [x] = ownL o.own (x.row o.agg) := by simp [vW]
    rw [hol] at hl hfr hn ⊢
    obtain ⟨E3, k1, k2, k3, k4⟩ := zag hc hr (show OutOne P E' σ' o y x u from h) h1 hl hn hs hnd (hot o List.mem_cons_self) hfr hw (fun hm => hfl hm o List.mem_cons_self) hdat
    refine ⟨E3, k1, rfl, fun i v z hv hz => ?_⟩
    cases i with
    | zero => simp at hv hz; subst hv hz; exact ⟨k2, k3, k4⟩
    | succ i => simp at hv
   | [], _, h => exact h.elim
   | [_], [], h => exact h.elim
   | [_], _ :: _ :: _, h => exact h.elim
   | _ :: _ :: _, _, h => exact h.elim
  | cons o1 os =>
   obtain ⟨y, rfl⟩ : ∃ y' : DenR o.r × PO (o1 :: os), y' = y := ⟨y, rfl⟩
   match xs, us, h with
   | x :: xs, u :: us, h =>
    have hb' : Rdr.run σ0 (Rdr.bind (z7a d o.r o.own y.1) fun q => Rdr.bind (zfS (d + o.r.size) (o1 :: os) y.2) fun p => .ret (.ofRow o.agg q.1 :: p.1, q.2 ++ p.2)) = some (rvs, ws) := hb
    simp only [Rdr.run_bind, Option.bind_eq_some_iff, Rdr.run, Option.some.injEq] at hb'
    obtain ⟨⟨q, w1⟩, h1, ⟨qs, w2⟩, h2, h3⟩ := hb'
    cases h3
    have hol : vW (o :: o1 :: os) (x :: xs) = ownL o.own (x.row o.agg) ++ vW (o1 :: os) xs := rfl
    rw [hol] at hl hfr hn ⊢
    obtain ⟨n1, n2, n3⟩ := z9I hn
    obtain ⟨s1, s2⟩ := ziP hs hnd
    rw [jC] at hnd
    obtain ⟨m1, m2, _⟩ := z54 hnd
    obtain ⟨hc1, hc2⟩ := (h : OutOne P E' σ' o y.1 x u ∧ zkI P E' σ' (o1 :: os) y.2 xs us)
    obtain ⟨E3, k1, k2, k3, k4⟩ := zag hc hr hc1 h1 (fun l hl' => hl l (List.mem_append_left _ hl')) n1 s1 m1 (hot o List.mem_cons_self) (fun l hl' => hfr l (List.mem_append_left _ hl')) hw (fun hm => hfl hm o List.mem_cons_self) hdat
    obtain ⟨E4, j1, j2, j3⟩ := ih k1.rel hc2 h2 (fun l hl' => hl l (List.mem_append_right _ hl')) n2 s2 m2 (fun o ho => hot o (List.mem_cons_of_mem _ ho)) (k1.fresh (fun l hl' => hfr l (List.mem_append_right _ hl')) n3 hc.ne) (k1.w.trans hw) (fun hm o ho => hfl hm o (List.mem_cons_of_mem _ ho)) (fun v c hm hv => (hdat v c hm hv).mono k1.le)
    rw [Yf]
    refine ⟨E4, k1.trans j1, by simp [j2], fun i v z hv hz => ?_⟩
    cases i with
    | zero => simp at hv hz; subst hv hz; exact ⟨j1.tx.v3 u _ k3 k2, j1.tx.ok3 _ k3, k4⟩
    | succ i => exact j3 i v z (by simpa using hv) (by simpa using hz)
   | [], _, h => exact h.elim
   | _ :: _, [], h => exact h.elim
end
end Go.Kx
namespace Go.Kx
open Go.Rb
theorem zbs : ∀ (is : List IT) (x : PI is), (yr is x).length = is.length
 | [], _ => rfl
 | .f id :: is, x => by show (yr is x).length + 1 = _; rw [zbs is x]; rfl
 | [.v r ag], x => rfl
 | .v r ag :: i1 :: is, x => by show (yr (i1 :: is) (Prod.snd x)).length + 1 = _; rw [zbs (i1 :: is)]; rfl
section
variable {P : Program} {T : TT} {Γ : FuncId → Option GS}
theorem zv2 {E E' : Env} (hle : ∀ v c, VR P E v (.c c) → VR P E' v (.c c)) (hel : ∀ v xs, VR P E v (.el xs) → VR P E' v (.el xs)) : Tx P E noH E' noH := by
 refine ⟨fun v x _ hv => ?_, fun _ _ h => h, fun _ h => h⟩
 cases x with
 | d c y => exact hle v _ hv
 | nils => cases hv with | nils => exact .nils
 | und => cases hv with | und => exact .und
 | ifc b => cases hv with
  | ifn => exact .ifn
  | ifs t v => exact .ifs t v
 | el r y o => exact hel v _ hv
 | _ => exact .any _
theorem zsy {Ec : Env} (hA : ∀ l, ¬ Ec.A l) (hslt : ∀ b o, Ec.S b o → b < Ec.w.heap.size) (how : ∀ nw k, Ec.ow nw k = .none) (hg : Glob P Ec.w ∧ NG P ≤ Ec.w.heap.size) {is : List IT} {x : PI is} {vs : Array Value} {m : Nat} (hv : Vals P Ec (σin is x) vs (yr is x)) :
  RelE P Ec.w.heap.size (fun _ => False) Ec.w Ec.S [] Ec (fun i => (vs ++ Array.replicate (m - vs.size) undef).getD i undef) (σin is x) := by
 refine zbq (σc := σin is x) ⟨Fr.refl _ _ _, Nat.le_refl _, fun _ _ h => h, fun _ _ h => .inl h, hslt, fun l hl => ?_, fun l hl => absurd hl (hA l), fun l l' hl => absurd hl (hA l), how, ⟨hg.1, hg.2, fun _ h => h.elim⟩⟩ (fun _ _ => trivial) (fun _ => trivial) (fun l hl => absurd hl (hA l)) (fun q hq => by cases hq) rfl hv
 exact absurd rfl hl
theorem zm (hT : TOK P T) (hΓ : ΓOK P Γ) (hm : P.follows .mixedOrders = true) {Ht : HT} {f : FuncId} {fn : Func} {c : Code} {bor : Bool} {is : List IT} {os : List OT} {F : PI is → Option (PO os)} (hf : P.funcs[f]? = some fn) (hb : fn.body = some c) (hname : (fn.name == "runtime.NumGoroutine") = false)
  (hok : VO fn.ntmps c = true) (hlen : is.length ≤ fn.ntmps) (hot : ∀ o ∈ os, ownT T o.r o.own = true) (hF : ∀ x, F x = fnE T Γ Ht c fn.results.toList is os x) : YX P f (mkS bor is os F) := by
 refine ⟨⟨fn, c, hf, hb, hname⟩, ?_⟩
 intro B X w0 S0 pa E σ tm d xs rv ws vs hr h hv
 unfold mkS at h
 split at h
 ·rename_i hcond
  simp only [Rdr.run_bind, Option.bind_eq_some_iff] at h
  obtain ⟨⟨x, wsf⟩, h1, h2⟩ := h
  cases hFx : F x with
  | none => simp only [Rdr.run, hFx] at h2; cases h2
  | some y =>
  simp only [Rdr.run, hFx, Rdr.run_bind, Option.bind_eq_some_iff] at h2
  obtain ⟨⟨rs', wb⟩, h3, h4⟩ := h2
  cases hnd : vX (yR wb) with
  | false => simp only [hnd] at h4; cases h4
  | true =>
  simp only [hnd, if_true] at h4
  cases h4
  -- how the arguments are handed on
  obtain ⟨E1, Ec, hr1, hw1, hS1, hA1, how1, hslt1, hvals, hno, hS2⟩ : ∃ E1 Ec : Env, RelE P B X w0 S0 pa E1 tm (σ.puts wsf) ∧ Ec.w = E1.w ∧ E1.w = E.w ∧ (∀ l, ¬ Ec.A l) ∧ (∀ nw k, Ec.ow nw k = .none) ∧ (∀ b o, Ec.S b o → b < Ec.w.heap.size) ∧ Vals P Ec (σin is x) vs (yr is x) ∧
    (∀ l g, σ.H l = .no g → (σ.puts wsf).H l = .no g) ∧ (bor = false → Ec.S = E1.S) := by
   cases bor with
   | false =>
    obtain ⟨E1, f1, _, f3, f4⟩ := ziM (.refl hr (.refl σ)) h1 (by simpa using hv.1) (vs := vs.toList) (fun i v z h5 h6 => hv.2 i v z (by simpa using h5) h6)
    refine ⟨E1, { E1 with A := fun _ => False }, f1.rel, rfl, f1.w, fun _ h => h, f1.rel.w3.ow, f1.rel.w3.slt, ⟨by rw [f3]; simp, fun i v z h5 h6 => ?_⟩, fun l g hl => f1.of.no hl, fun _ => rfl⟩
    obtain ⟨h7, h8⟩ := f4 i v z (by simpa using h5) h6
    exact ⟨(zv2 (P := P) (E := E1) (E' := { E1 with A := fun _ => False }) (fun v c h => by cases h with | c _ _ h => exact .c _ _ h) (fun v xs h => by cases h with | el b o _ ws h => exact .el b o _ ws h)).v3 v z h8 h7, h8⟩
   | true =>
    obtain ⟨f1, f3, f4⟩ := zub hr h1 (by simpa using hv.1) (vs := vs.toList) (fun i v z h5 h6 => hv.2 i v z (by simpa using h5) h6)
    subst f1
    refine ⟨E, Est E, hr, rfl, rfl, fun _ h => h, hr.w3.ow, fun b o hb => ?_, ⟨by rw [f3]; simp, fun i v z h5 h6 => f4 i v z (by simpa using h5) h6⟩, fun _ _ h => h, fun h => by cases h⟩
    rcases hb with hb | ⟨l, hl, rfl⟩
    ·exact hr.w3.slt b o hb
    ·exact hr.w3.lt hl
  have hEw : Ec.w = E.w := hw1.trans hS1
  have hen := zsy (m := fn.ntmps) hA1 hslt1 how1 (by rw [hEw]; exact hr.w3.glob) hvals
  have hvs : vs.size ≤ fn.ntmps := by
   have := zbs is x
   rw [hvals.1, this]; exact hlen
  rw [← hEw]
  refine calls_of_wp hf hb (vo (B := Ec.w.heap.size) (X := fun _ => False) (w0 := Ec.w) (S0 := Ec.S) (pa := []) (n := fn.ntmps) hT hΓ hm c (PO os) y (σin is x) [] _ _ Ec.w _ hok ⟨Ec, rfl, hen, rfl, by simp; omega⟩ (show fnE T Γ Ht c fn.results.toList is os x = some y by rw [← hF]; exact hFx) ?_)
  intro e σ' D' a' w' hr' _ h'
  obtain ⟨E', rfl, hre, hde, hn⟩ := hr'
  have fin : Rdr.runK σ' (resR T fn.results.toList) (fun xs => z9A os xs σ' fun σ y => if Vg (vW os xs) && (vW os xs).all (z1X σ) then some y else none) = some y →
    a'.defers = [] ∧ ∃ v, (results fn a'.tmps).run P E'.w = .ok v E'.w ∧ ∃ v', Ending.returned v = .returned v' ∧ Yb P B X w0 S0 pa tm (σ.puts (wsf ++ wb)) (z79 rs') v' E'.w := by
   intro h
   obtain ⟨xs', g1, g2⟩ := YP h
   obtain ⟨us, g3, g4, g5⟩ := z3R hT hre rfl _ xs' g1
   obtain ⟨Ef, σf, yf, g6, g7, g8⟩ := ze9 hre g2 g4 g5
   refine ⟨hde, z52 us, z7Y g3, z52 us, rfl, ?_⟩
   split at g6
   ·rename_i hfin
    cases g6
    simp only [Bool.and_eq_true] at hfin
    -- the caller
    have hcw : Ec.w.heap.size = E1.w.heap.size := by rw [hw1]
    have hfr : Fr E1.w.heap.size (fun _ => False) E1.w Ef.w := by have := g7.rel.w3.fr; rw [hw1] at this; exact this
    let S2 : Nat → Nat → Prop := if bor = true then E1.S else Ef.S
    have hgr := hr1.grown (w' := Ef.w) (S2 := S2) hfr (fun b o hb => by
     show (if bor = true then E1.S else Ef.S) b o
     cases bor with
     | true => exact hb
     | false => exact g7.rel.w3.s0 b o (by rw [hS2 rfl]; exact hb)) (fun b o hb => by
     replace hb : (if bor = true then E1.S else Ef.S) b o := hb
     cases bor with
     | true => exact .inl hb
     | false =>
      rcases g7.rel.w3.sNew b o hb with h | h | h
      ·rw [hS2 rfl] at h; exact .inl h
      ·rw [hcw] at h; exact .inr h
      ·exact h.elim) (fun b o hb => by
     replace hb : (if bor = true then E1.S else Ef.S) b o := hb
     cases bor with
     | true => exact Nat.lt_of_lt_of_le (hr1.w3.slt b o hb) hfr.size
     | false => exact g7.rel.w3.slt b o hb)
    obtain ⟨k1, k2⟩ := hgr
    obtain ⟨E3, j1, j2, j3⟩ := zea (mode := bor) (σ0 := σ) ⟨hT, _, _, _, _, _, _, g7.rel⟩ k1 g8 h3 (fun l hl => List.all_eq_true.1 hfin.2 l hl) hfin.1 (fun l _ g hl => hno l g hl) hnd hot (fun l _ hA => by
      obtain ⟨cs, ty, _, _, hs, hb⟩ := g7.rel.w3.loc l hA
      have hge : E1.w.heap.size ≤ Ef.β l := by
       rcases hb with hb | hb
       ·rw [hcw] at hb; exact hb
       ·exact hb.elim
      refine ⟨.inl (Nat.le_trans hr1.w3.hB hge), fun o ho => ?_, fun k hk he => ?_⟩
      ·replace ho : (if bor = true then E1.S else Ef.S) (Ef.β l) o := ho
       cases bor with
       | true => exact absurd (hr1.w3.slt _ _ ho) (Nat.not_lt.2 hge)
       | false => exact hs o ho
      ·have := hr1.w3.lt (show E1.A k from hk)
       replace he : E1.β k = Ef.β l := he
       rw [he] at this
       exact absurd this (Nat.not_lt.2 hge)) rfl (fun hbm o ho => by
      subst hbm
      simp only [Bool.not_true, Bool.false_or, List.all_eq_true] at hcond
      exact hcond o ho) (fun v c hfl hv => by
      cases hv with
      | c _ _ hrd =>
       refine .c _ _ ?_
       show Rd P Ef.w (if bor = true then E1.S else Ef.S) v c
       cases bor with
       | false => exact hrd
       | true =>
        have := hfl rfl
        cases hrd with
        | int k n => exact .int k n
        | bool b => exact .bool b
        | str s => exact .str s
        | emp => exact this.elim
        | sl => exact this.elim)
    obtain ⟨p1, p2⟩ := zf7 (E := E3) (H := ((σ.puts wsf).puts wb).H) j2 (fun i u q hu hq => ⟨(j3 i u q hu hq).1, (j3 i u q hu hq).2.1⟩) (fun q hq _ => by
     obtain ⟨i, hi⟩ := List.getElem?_of_mem hq
     have hlt : i < us.length := by rw [j2]; exact (List.getElem?_eq_some_iff.1 hi).1
     exact (j3 i _ q (List.getElem?_eq_getElem hlt) hi).2.2)
    rw [← Yf] at p1 p2
    refine ⟨E3, ?_, by rw [Yf]; exact j1.rel, p1, p2⟩
    rw [j1.w]; exact g7.w
   ·cases g6
  cases e with
  | normal => exact fin h'
  | ret => exact fin h'
  | exit i => cases h'
 ·cases h
end
end Go.Kx
namespace Go.Kx
open Go.Rb
section
variable {P : Program} {T : TT} {Γ : FuncId → Option GS} {B : Nat} {X : Nat → Prop} {w0 : World} {S0 : Nat → Nat → Prop} {pa : List ((Nat → Value) × (Nat → RV))} {E Ec : Env} {σ : KS} {tm : Nat → Value}
theorem zsz {e : TypeId} {r : RT} {x : RV} {rows : List (DenR r)} {wm : Ws} (h : Rdr.run σ (movR e r x) = some (rows, wm)) : ∃ l g, x = .arw l g e ∧ σ.H l = .flat g false e r rows ∧ wm = [(.H l, .hd (.no (g + 1)))] := by
 unfold movR at h
 split at h
 ·rename_i l g e'
  simp only [Rdr.run, KS.lk, Sl.hd!] at h
  split at h
  ·rename_i g' e2 r' rows' hH
   split at h
   ·rename_i hc
    obtain ⟨rfl, rfl, rfl⟩ := hc
    split at h
    ·rename_i hr _
     subst hr
     cases h
     exact ⟨l, g, rfl, hH, rfl⟩
    ·cases h
   ·cases h
  ·cases h
 ·cases h
theorem z9J {H : Nat → Hd} (hdat : ∀ v c, VR P E v (.c c) → VR P Ec v (.c c)) (hel : ∀ v xs, VR P E v (.el xs) → VR P Ec v (.el xs)) : ∀ {ws : List WA} {xs : List RV} {p : PW ws} {vs : List Value}, Rdr.run σ (insW ws xs) = some p → vs.length = xs.length →
  (∀ (i : Nat) (v : Value) (y : RV), vs[i]? = some v → xs[i]? = some y → VR P E v (av3 σ.H y) ∧ ok3 σ.H y) → (vY ws p).length = vs.length ∧ ∀ (i : Nat) (v : Value) (y : RV), vs[i]? = some v → (vY ws p)[i]? = some y → VR P Ec v (av3 H y) ∧ ok3 H y
 | [], [], p, vs, h, hl, hv => ⟨by rw [hl]; rfl, fun i v y _ hy => by simp [vY] at hy⟩
 | [], _ :: _, p, vs, h, hl, hv => by cases h
 | .d c :: ws, [], p, vs, h, hl, hv => by cases h
 | .f id r :: ws, [], p, vs, h, hl, hv => by cases h
 | .d c :: ws, x :: xs, p, v :: vs, h, hl, hv => by
  obtain ⟨p, rfl⟩ : ∃ p' : Den c × PW ws, p' = p := ⟨p, rfl⟩
  have h' : Rdr.run σ (Rdr.bind (optR (asD c x)) fun y => Rdr.bind (insW ws xs) fun p => .ret (y, p)) = some p := h
  simp only [Rdr.run_bind, Option.bind_eq_some_iff, Rdr.run, Option.some.injEq] at h'
  obtain ⟨y, h1, q, h2, h3⟩ := h'
  cases h3
  have h3 := V4 h1
  obtain ⟨h4, h5⟩ := z9J (H := H) hdat hel h2 (vs := vs) (by simpa using hl) (fun i v y h1 h2 => hv (i + 1) v y (by simpa using h1) (by simpa using h2))
  refine ⟨by simp [vY, h4], fun i u z hu hz => ?_⟩
  cases i with
  | zero =>
   simp [vY] at hu hz
   subst hu hz
   obtain ⟨h6, _⟩ := hv 0 v x rfl rfl
   have hx : av3 σ.H x = av1 σ.H x := by
    unfold asD at h3
    split at h3
    ·rfl
    ·rfl
    ·cases h3
   rw [hx] at h6
   exact ⟨hdat _ _ (z5E h3 σ.H h6), trivial⟩
  | succ i => exact h5 i u z (by simpa using hu) (by simpa [vY] using hz)
 | .f id r :: ws, x :: xs, p, v :: vs, h, hl, hv => by
  obtain ⟨id', r', y', rfl⟩ : ∃ id' r' y', x = .fn id' [.el r' y' 0] := by
   cases x with
   | fn f caps =>
    cases caps with
    | nil => cases h
    | cons c cs =>
     cases c with
     | el r' y' o =>
      cases cs with
      | cons _ _ => cases o <;> cases h
      | nil =>
       cases o with
       | zero => exact ⟨_, _, _, rfl⟩
       | succ _ => cases h
     | _ => cases h
   | _ => cases h
  obtain ⟨p, rfl⟩ : ∃ p' : DenR r × PW ws, p' = p := ⟨p, rfl⟩
  have h' : Rdr.run σ (if id = id' then (match RT.dec r' r with
   | .isTrue h => Rdr.bind (insW ws xs) fun p => .ret (zpu h y', p)
   | .isFalse _ => .fail) else .fail) = some p := h
  split at h'
  case isFalse => cases h'
  rename_i hid
  subst hid
  split at h'
  case h_2 => cases h'
  rename_i hr _
  subst hr
  simp only [Rdr.run_bind, Option.bind_eq_some_iff, Rdr.run, Option.some.injEq] at h'
  obtain ⟨q, h2, h3⟩ := h'
  cases h3
  obtain ⟨h4, h5⟩ := z9J (H := H) hdat hel h2 (vs := vs) (by simpa using hl) (fun i v y h1 h2 => hv (i + 1) v y (by simpa using h1) (by simpa using h2))
  refine ⟨by simp [vY, h4], fun i u z hu hz => ?_⟩
  cases i with
  | zero =>
   simp [vY] at hu hz
   subst hu hz
   obtain ⟨h6, _⟩ := hv 0 v _ rfl rfl
   have e1 : av3 σ.H (.fn id [.el r' y' 0]) = .fn id [.el (encR r' y')] := by
    show av1 σ.H (.fn id [.el r' y' 0]) = _
    simp [av1, av0, AV.isAny]
   have e2 : av3 H (.fn id [.el r' (zpu rfl y') 0]) = .fn id [.el (encR r' y')] := by
    show av1 H (.fn id [.el r' y' 0]) = _
    simp [av1, av0, AV.isAny]
   rw [e1] at h6
   refine ⟨?_, fun c hc => by rw [List.mem_singleton.1 hc]; trivial⟩
   rw [e2]
   cases h6 with
   | fn _ cs _ hn hcs =>
    refine .fn id cs _ hn fun j u c hu hc => ?_
    have h7 := hcs j u c hu hc
    cases j with
    | zero => simp at hc; subst hc; exact hel u _ h7
    | succ j => simp at hc
  | succ i => exact h5 i u z (by simpa using hu) (by simpa [vY] using hz)
 | .d c :: ws, x :: xs, p, [], h, hl, hv => by simp at hl
 | .f id r :: ws, x :: xs, p, [], h, hl, hv => by simp at hl
theorem zbt : ∀ (ws : List WA) (p : PW ws), (vY ws p).length = ws.length
 | [], _ => rfl
 | .d _ :: ws, p => by simp [vY, zbt ws]
 | .f _ _ :: ws, p => by simp [vY, zbt ws]
theorem zoM (hT : TOK P T) (hΓ : ΓOK P Γ) (hm : P.follows .mixedOrders = true) {Ht : HT} {f : FuncId} {fn : Func} {c : Code} {e : TypeId} {r : RT} {ws : List WA} {os : List OT} {F : List (DenR r) → PW ws → Option (PO os)} (hf : P.funcs[f]? = some fn) (hb : fn.body = some c) (hname : (fn.name == "runtime.NumGoroutine") = false)
  (hok : VO fn.ntmps c = true) (hlen : ws.length + 1 ≤ fn.ntmps) (hot : ∀ o ∈ os, ownT T o.r o.own = true) (hF : ∀ rows x, F rows x = fnM T Γ Ht c fn.results.toList e r ws os rows x) : YX P f (mkM e r ws os F) := by
 refine ⟨⟨fn, c, hf, hb, hname⟩, ?_⟩
 intro B X w0 S0 pa E σ tm d xs rv wsr vs hr h hv
 unfold mkM at h
 match xs, h with
 | [], h => cases h
 | x :: xs, h =>
 simp only [Rdr.run_bind, Option.bind_eq_some_iff] at h
 obtain ⟨⟨rows, wm⟩, h1, p, h2, h3⟩ := h
 obtain ⟨l, g, rfl, hH, rfl⟩ := zsz h1
 cases hFx : F rows p with
 | none => simp only [Rdr.run, hFx] at h3; cases h3
 | some y =>
 simp only [Rdr.run, hFx, Rdr.run_bind, Option.bind_eq_some_iff] at h3
 obtain ⟨⟨rs', wb⟩, h4, h5⟩ := h3
 cases hnd : vX (yR wb) with
 | false => simp only [hnd] at h5; cases h5
 | true =>
 simp only [hnd, if_true] at h5
 cases h5
 -- the caller forgets the array
 have hsz : r.size = P.cellsOf e := by have := hr.hd l; rw [hH] at this; exact this
 have hr1 := hr.kill (l := l) (g := g + 1) (by rw [hH]; exact Nat.le_succ g)
 have hml := Y4 hH
 let Y : Nat → Prop := fun b => E.A l ∧ b = E.β l
 let Ec : Env := { w := E.w, S := E.S, β := fun _ => E.β l, ow := E.ow, A := fun k => k = 7 ∧ E.A l, cp := fun _ => E.cp l }
 have hdat : ∀ v c, VR P E v (.c c) → VR P Ec v (.c c) := fun v c h => by cases h with | c _ _ h => exact .c _ _ h
 have hel : ∀ v xs, VR P E v (.el xs) → VR P Ec v (.el xs) := fun v xs h => by cases h with | el b o _ vs h => exact .el b o _ vs h
 let σc := σinM e r ws rows p
 have hH7 : σc.H 7 = .flat 1 false e r rows := rfl
 have hHk : ∀ k, k ≠ 7 → σc.H k = .no 0 := by
  intro k hk
  show (bif Nat.beq k 7 then _ else _) = _
  have : Nat.beq k 7 = false := by
   cases hq : Nat.beq k 7 with
   | false => rfl
   | true => exact absurd (Nat.eq_of_beq_eq_true hq) hk
  rw [this]; rfl
 have hm7 : σc.m 7 = zr r rows := Y4 hH7
 have hmk : ∀ k, k ≠ 7 → σc.m k = [] := fun k hk => by simp [KS.m, hHk k hk]
 have hvals : Vals P Ec σc vs (.arw 7 1 e :: vY ws p) := by
  have hv1 : vs.size = xs.length + 1 := by simpa using hv.1
  obtain ⟨v0, hv0⟩ : ∃ v0, vs[0]? = some v0 := ⟨_, Array.getElem?_eq_getElem (by omega)⟩
  have hvl : vs.toList = v0 :: vs.toList.tail := by
   cases hq : vs.toList with
   | nil => have : vs.toList.length = 0 := by rw [hq]; rfl
            rw [Array.length_toList] at this; omega
   | cons a rst =>
    have : vs.toList[0]? = some v0 := by simpa using hv0
    rw [hq] at this; simp at this; rw [this]; rfl
  obtain ⟨h6, h7⟩ := z9J (H := σc.H) hdat hel h2 (vs := vs.toList.tail) (by simp; omega) (fun i v y g1 g2 => by
   refine hv.2 (i + 1) v y ?_ (by simpa using g2)
   have : vs.toList[i + 1]? = some v := by rw [hvl]; simpa using g1
   simpa using this)
  refine ⟨by show vs.size = (vY ws p).length + 1; rw [h6, List.length_tail, Array.length_toList]; omega, fun i v z g1 g2 => ?_⟩
  cases i with
  | zero =>
   rw [hv0] at g1; cases g1
   simp at g2; subst g2
   have h8 := (hv.2 0 v0 _ hv0 rfl).1
   have e1 : av3 σ.H (.arw l g e) = .arr l 0 rows.length rows.length e := by show avW σ.H l g e = _; simp [avW, hH]
   have e2 : av3 σc.H (.arw 7 1 e) = .arr 7 0 rows.length rows.length e := by show avW σc.H 7 1 e = _; simp [avW, hH7]
   rw [e1] at h8
   rw [e2]
   refine ⟨?_, ?_⟩
   ·rcases vV h8 with ⟨g3, _, a, rfl⟩ | ⟨c', hA, g3, g4, g5, g6, rfl⟩
    ·rw [g3]; exact .arr0 _ _ _ _
    ·exact .arr (E := Ec) 7 0 _ _ c' e ⟨rfl, hA⟩ g3 g4 g5 g6
   ·show 1 ≤ (σc.H 7).gen
    rw [hH7]; exact Nat.le_refl _
  | succ i =>
   refine h7 i v z ?_ (by simpa using g2)
   have : vs.toList[i + 1]? = some v := by simpa using g1
   rw [hvl] at this; simpa using this
 have hen : RelE P E.w.heap.size Y E.w E.S [] Ec (fun i => (vs ++ Array.replicate (fn.ntmps - vs.size) undef).getD i undef) σc := by
  refine zbq (σc := σc) ⟨Fr.refl _ _ _, Nat.le_refl _, fun _ _ h => h, fun _ _ h => .inl h, hr.w3.slt, fun k hk => ?_, fun k hk => ?_, fun k k' hk hk' _ => hk.1.trans hk'.1.symm, hr.w3.ow, ⟨hr.w3.glob.1, hr.w3.glob.2, fun b hb => by rw [hb.2]; exact hr.w3.gbeta hb.1⟩⟩ (fun k j => ?_) (fun k => ?_) (fun k hk => ?_) (fun q hq => by cases hq) rfl hvals
  ·by_cases hk7 : k = 7
   ·subst hk7
    refine ⟨rfl, hr.w3.hA l ?_⟩
    rw [hml]; rw [hm7] at hk; exact hk
   ·exact absurd (hmk k hk7) hk
  ·obtain ⟨rfl, hA⟩ := hk
   obtain ⟨cs, ty, hh, hc, hs, hb⟩ := hr.w3.loc l hA
   refine ⟨cs, ty, hh, ?_, hs, .inr ⟨hA, rfl⟩⟩
   rw [hm7]
   have hml' : σ.m l = zr r rows := hml
   rw [hml'] at hc
   refine ⟨hc.1, hc.2.1, fun i v z hv hz => ?_⟩
   have h9 := hc.2.2 i v z hv hz
   rw [zr, List.getElem?_map, Option.map_eq_some_iff] at hz
   obtain ⟨c, _, rfl⟩ := hz
   exact ⟨hdat _ _ h9.1, h9.2⟩
  ·unfold okC
   by_cases hk7 : k = 7
   ·subst hk7; rw [hH7]; trivial
   ·rw [hHk k hk7]; trivial
  ·by_cases hk7 : k = 7
   ·subst hk7; rw [hH7]; exact hsz
   ·rw [hHk k hk7]; trivial
  ·rw [hk.1, hH7]; rfl
 have hvs : vs.size ≤ fn.ntmps := by rw [hvals.1]; simp [zbt]; omega
 refine calls_of_wp hf hb (vo (B := E.w.heap.size) (X := Y) (w0 := E.w) (S0 := E.S) (pa := []) (n := fn.ntmps) hT hΓ hm c (PO os) y σc [] _ _ E.w _ hok ⟨Ec, rfl, hen, rfl, by simp; omega⟩ (show fnM T Γ Ht c fn.results.toList e r ws os rows p = some y by rw [← hF]; exact hFx) ?_)
 intro ex σ' D' a' w' hr' _ h'
 obtain ⟨E', rfl, hre, hde, hn⟩ := hr'
 have hYok : ∀ b, Y b → (B ≤ b ∨ X b) ∧ (∀ o, ¬ (ZH E l).S b o) ∧ ∀ k, (ZH E l).A k → (ZH E l).β k ≠ b := by
  rintro b ⟨hA, rfl⟩
  obtain ⟨cs, ty, hh, hc, hs, hb⟩ := hr.w3.loc l hA
  exact ⟨hb, hs, fun k hk he => hk.2 (hr.w3.locne k l hk.1 hA he)⟩
 have fin : Rdr.runK σ' (resR T fn.results.toList) (fun xs => z9A os xs σ' fun σ y => if Vg (vW os xs) && (vW os xs).all (z1X σ) then some y else none) = some y →
   a'.defers = [] ∧ ∃ v, (results fn a'.tmps).run P E'.w = .ok v E'.w ∧ ∃ v', Ending.returned v = .returned v' ∧ Yb P B X w0 S0 pa tm (σ.puts ([(.H l, .hd (.no (g + 1)))] ++ wb)) (z79 rs') v' E'.w := by
  intro h
  obtain ⟨xs', g1, g2⟩ := YP h
  obtain ⟨us, g3, g4, g5⟩ := z3R hT hre rfl _ xs' g1
  obtain ⟨Ef, σf, yf, g6, g7, g8⟩ := ze9 hre g2 g4 g5
  refine ⟨hde, z52 us, z7Y g3, z52 us, rfl, ?_⟩
  split at g6
  ·rename_i hfin
   cases g6
   simp only [Bool.and_eq_true] at hfin
   have hfr : Fr E.w.heap.size Y E.w Ef.w := g7.rel.w3.fr
   obtain ⟨k1, k2⟩ := hr1.grownX (w' := Ef.w) (S2 := Ef.S) (Y := Y) hfr hYok (fun b o hb => g7.rel.w3.s0 b o hb) (fun b o hb => g7.rel.w3.sNew b o hb) (fun b o hb => g7.rel.w3.slt b o hb)
   obtain ⟨E3, j1, j2, j3⟩ := zea (mode := false) (σ0 := σ) ⟨hT, _, _, _, _, _, _, g7.rel⟩ k1 g8 h4 (fun l hl => List.all_eq_true.1 hfin.2 l hl) hfin.1 (fun l' _ g' hl' => by
     show (σ.put (.H l) _).H l' = _
     rw [y7]
     show updH σ.H l _ l' = _
     rw [zR _ (by rintro rfl; rw [hH] at hl'; cases hl')]; exact hl') hnd hot (fun l' _ hA => by
     obtain ⟨cs, ty, _, _, hs, hb⟩ := g7.rel.w3.loc l' hA
     refine ⟨?_, fun o ho => hs o ho, fun k hk he => ?_⟩
     ·rcases hb with hb | hb
      ·exact .inl (Nat.le_trans hr.w3.hB hb)
      ·exact (hYok _ hb).1
     ·rcases hb with hb | hb
      ·have := hr1.w3.lt (show (ZH E l).A k from hk)
       replace he : (ZH E l).β k = Ef.β l' := he
       rw [he] at this
       exact absurd this (Nat.not_lt.2 hb)
      ·exact (hYok _ hb).2.2 k hk he) rfl (fun hbm => by cases hbm) (fun v c _ hv => by
     cases hv with
     | c _ _ hrd => exact .c _ _ hrd)
   obtain ⟨p1, p2⟩ := zf7 (E := E3) (H := ((σ.put (.H l) (.hd (.no (g + 1)))).puts wb).H) j2 (fun i u q hu hq => ⟨(j3 i u q hu hq).1, (j3 i u q hu hq).2.1⟩) (fun q hq _ => by
    obtain ⟨i, hi⟩ := List.getElem?_of_mem hq
    have hlt : i < us.length := by rw [j2]; exact (List.getElem?_eq_some_iff.1 hi).1
    exact (j3 i _ q (List.getElem?_eq_getElem hlt) hi).2.2)
   refine ⟨E3, ?_, j1.rel, p1, p2⟩
   rw [j1.w]; exact g7.w
  ·cases g6
 cases ex with
 | normal => exact fin h'
 | ret => exact fin h'
 | exit i => cases h'
end
end Go.Kx
namespace Go.Kx
open Go.Rb
section
variable {P : Program}
def zdG (x : RV) : Prop := ∀ H : Nat → Hd, av3 H x = av3 noH x ∧ ok3 H x
theorem zbu (y : List UInt8) : zdG (gStr y) := fun _ => ⟨rfl, trivial⟩
theorem zpJ (y : Bool) : zdG (zkH y) := fun _ => ⟨rfl, trivial⟩
theorem zg6 (e : TypeId) (y : List (List UInt8)) : zdG (z7b e y) := fun _ => ⟨rfl, trivial⟩
theorem ziQ (y : Int × Bool) : zdG (gErr y) := fun H => ⟨rfl, fun x hx => by
 rcases List.mem_cons.1 hx with rfl | hx
 ·trivial
 ·rcases List.mem_cons.1 hx with rfl | hx
  ·trivial
  ·cases hx⟩
theorem zqW (y : List UInt8 × List UInt8 × Bool) : zdG (gCut y) := fun H => ⟨rfl, fun x hx => by
 rcases List.mem_cons.1 hx with rfl | hx
 ·trivial
 ·rcases List.mem_cons.1 hx with rfl | hx
  ·trivial
  ·rcases List.mem_cons.1 hx with rfl | hx
   ·trivial
   ·cases hx⟩
def z3S (E : Env) (w' : World) : Env := { E with w := w', S := fun b o => E.S b o ∨ (E.w.heap.size ≤ b ∧ b < w'.heap.size) }
theorem z22 {f : FuncId} {is : List IT} {β : Type} {F : PI is → Option β} {g : β → RV} (hb : yv P f) (hg : ∀ y, zdG (g y))
  (h : ∀ (x : PI is) (y : β) (E : Env) (vs : Array Value), F x = some y → Glob P E.w → vs.size = (yr is x).length → (∀ (i : Nat) (v : Value) (z : RV), vs[i]? = some v → (yr is x)[i]? = some z → VR P E v (av3 noH z)) → (∀ b o, E.S b o → b < E.w.heap.size) →
   Calls P f vs E.w fun e w' => ∃ v, e = .returned v ∧ RowKit.Below E.w.heap.size E.w w' ∧ VR P (z3S E w') v (av3 noH (g y))) : YX P f (libS is F g) := by
 refine ⟨hb, ?_⟩
 intro B X w0 S0 pa E σ tm d xs rv ws vs hr hrun hv
 unfold libS at hrun
 simp only [Rdr.run_bind, Option.bind_eq_some_iff] at hrun
 obtain ⟨⟨x, wsf⟩, h1, h2⟩ := hrun
 cases hFx : F x with
 | none => simp only [Rdr.run, hFx] at h2; cases h2
 | some y =>
 simp only [Rdr.run, hFx] at h2
 cases h2
 obtain ⟨E1, f1, _, f3, f4⟩ := ziM (.refl hr (.refl σ)) h1 (by simpa using hv.1) (vs := vs.toList) (fun i v z h5 h6 => hv.2 i v z (by simpa using h5) h6)
 have hw := f1.w
 have hc := h x y E1 vs hFx f1.rel.w3.glob.1 (by rw [f3]; simp) (fun i v z h5 h6 => (f4 i v z (by simpa using h5) h6).1) f1.rel.w3.slt
 rw [hw] at hc
 refine hc.mono fun e w' hq => ?_
 obtain ⟨v, rfl, hbl, hvr⟩ := hq
 have hfr : Fr E1.w.heap.size (fun _ => False) E1.w w' := by
  rw [hw]; exact ⟨hbl.os, hbl.tape, hbl.output, hbl.size, fun k hk _ => hbl.block k hk⟩
 obtain ⟨k1, k2⟩ := f1.rel.grown (S2 := (z3S E1 w').S) hfr (fun b o hb => .inl hb) (fun b o hb => by
  rcases hb with hb | hb
  ·exact .inl hb
  ·exact .inr hb.1) (fun b o hb => by
  rcases hb with hb | hb
  ·exact Nat.lt_of_lt_of_le (f1.rel.w3.slt b o hb) hfr.size
  ·exact hb.2)
 obtain ⟨e1, e2⟩ := hg y (σ.puts ws).H
 exact ⟨v, rfl, z3S E1 w', rfl, k1, by rw [e1]; exact hvr, e2⟩
end
end Go.Kx
namespace Go.Kx
open Go.Rb Go.Shelf Go.RowKit Go.Proofs
section
variable {P : Program} {ρ : Ren}
theorem arr1 {vs : Array Value} (h : vs.size = 1) : ∃ a, vs = #[a] := by
 match vs, h with
 | ⟨[a]⟩, _ => exact ⟨a, rfl⟩
theorem arr2 {vs : Array Value} (h : vs.size = 2) : ∃ a b, vs = #[a, b] := by
 match vs, h with
 | ⟨[a, b]⟩, _ => exact ⟨a, b, rfl⟩
theorem arr3 {vs : Array Value} (h : vs.size = 3) : ∃ a b c, vs = #[a, b, c] := by
 match vs, h with
 | ⟨[a, b, c]⟩, _ => exact ⟨a, b, c, rfl⟩
theorem arr4 {vs : Array Value} (h : vs.size = 4) : ∃ a b c d, vs = #[a, b, c, d] := by
 match vs, h with
 | ⟨[a, b, c, d]⟩, _ => exact ⟨a, b, c, d, rfl⟩
theorem bsz (s : List UInt8) : (⟨List.toArray s⟩ : ByteArray).size = s.length := by simp [ByteArray.size]
theorem bdl (s : List UInt8) : (⟨List.toArray s⟩ : ByteArray).data.toList = s := by simp
theorem z5v {E : Env} {a b : Value} {x y : AV} (h1 : VR P E a x) (h2 : VR P E b y) : VR P E (.tuple #[a, b]) (.tup [x, y]) := by
 refine .tup _ _ rfl fun i v z hv hz => ?_
 match i with
 | 0 => cases hv; cases hz; exact h1
 | 1 => cases hv; cases hz; exact h2
 | i + 2 => simp at hz
theorem zue {E : Env} {a b c : Value} {x y z : AV} (h1 : VR P E a x) (h2 : VR P E b y) (h3 : VR P E c z) : VR P E (.tuple #[a, b, c]) (.tup [x, y, z]) := by
 refine .tup _ _ rfl fun i v q hv hz => ?_
 match i with
 | 0 => cases hv; cases hz; exact h1
 | 1 => cases hv; cases hz; exact h2
 | 2 => cases hv; cases hz; exact h3
 | i + 3 => simp at hz
theorem zlm {w w' : World} {e : TypeId} (h : w' = w ∨ ∃ t, w' = Lib.bytesWorld w e t) : Below w.heap.size w w' := by
 rcases h with rfl | ⟨t, rfl⟩
 ·exact Below.refl _ _
 ·exact Lib.bytesWorld_below _ _ _
abbrev isS : List IT := [.v (.one .str) false]
abbrev isI : List IT := [.v (.one (.int .i64)) false]
abbrev isSS : List IT := [.v (.one .str) false, .v (.one .str) false]
abbrev isII : List IT := [.v (.one (.int .i64)) false, .v (.one (.int .i64)) false]
abbrev ztI : List IT := [.v (.one .str) false, .v (.one (.int .i64)) false, .v (.one (.int .i64)) false]
abbrev zqX : List IT := [.v (.one .str) false, .v (.one .str) false, .v (.one (.int .i64)) false, .v (.one (.int .i64)) false]
theorem zqY (L : LaysC.n172 P ρ) (hb : yv P (ρ.f 172)) : YX P (ρ.f 172) (libS isS (fun x => z9w x) gErr) := by
 refine z22 hb ziQ fun x y E vs hF hG hsz hv hS => ?_
 obtain ⟨x, rfl⟩ : ∃ x' : List UInt8, x' = x := ⟨x, rfl⟩
 obtain ⟨a, rfl⟩ := arr1 hsz
 have h0 := YO (s := ⟨List.toArray x⟩) (hv 0 a _ rfl rfl)
 subst h0
 unfold z9w at hF
 split at hF
 ·rename_i hl
  cases hF
  obtain ⟨_, ⟨tp, p, hv1⟩, ⟨tp2, p2, hv2⟩, _⟩ := hG
  rcases h : Lib.atoiAll x with v | _ | _
  ·refine (Any.strconv_Atoi_ok L ⟨List.toArray x⟩ (by rw [bsz]; omega) v (by rw [bdl]; exact h) E.w).mono ?_
   rintro e w' ⟨rfl, hw⟩
   exact ⟨_, rfl, zlm hw, z5v (.c _ _ (.int _ _)) .ifn⟩
  ·refine (Any.strconv_Atoi_syntax_var L ⟨List.toArray x⟩ (by rw [bsz]; exact hl) (by rw [bdl]; exact h) tp p E.w hv1).mono ?_
   rintro e w' ⟨N, rfl, _, _, hw⟩
   exact ⟨_, rfl, hw, z5v (.c _ _ (.int _ _)) (.ifs _ _)⟩
  ·refine (Any.strconv_Atoi_range_var L ⟨List.toArray x⟩ (by rw [bsz]; exact hl) (by rw [bdl]; exact h) tp2 p2 E.w hv2).mono ?_
   rintro e w' ⟨N, rfl, _, _, hw⟩
   rw [bdl]
   exact ⟨_, rfl, hw, z5v (.c _ _ (.int _ _)) (.ifs _ _)⟩
 ·cases hF
theorem zpK (L : LaysC.n174 P ρ) (hb : yv P (ρ.f 174)) : YX P (ρ.f 174) (libS ztI (fun x => z1U (x.1) (x.2.1) (x.2.2)) gErr) := by
 refine z22 hb ziQ fun x y E vs hF hG hsz hv hS => ?_
 obtain ⟨s, b, z⟩ := x
 obtain ⟨s, rfl⟩ : ∃ x' : List UInt8, x' = s := ⟨s, rfl⟩
 obtain ⟨a0, a1, a2, rfl⟩ := arr3 hsz
 have h0 := YO (s := ⟨List.toArray s⟩) (hv 0 a0 _ rfl rfl)
 have h1 := yE (k := .i64) (n := b) (hv 1 a1 _ rfl rfl)
 have h2 := yE (k := .i64) (n := z) (hv 2 a2 _ rfl rfl)
 subst h0 h1 h2
 simp only at hF
 unfold z1U at hF
 split at hF
 ·rename_i hl
  obtain ⟨hl, rfl, rfl⟩ := hl
  cases hF
  obtain ⟨_, ⟨tp, p, hv1⟩, ⟨tp2, p2, hv2⟩, _⟩ := hG
  rcases h : Lib.parseIntB 64 s with v | _ | _
  ·refine (Any.strconv_ParseInt_10_at64_ok L ⟨List.toArray s⟩ (by rw [bsz]; omega) v (by rw [bdl]; exact h) E.w).mono ?_
   rintro e w' ⟨rfl, hw⟩
   exact ⟨_, rfl, zlm hw, z5v (.c _ _ (.int _ _)) .ifn⟩
  ·refine (Any.strconv_ParseInt_10_at64_syntax_var L ⟨List.toArray s⟩ (by rw [bsz]; exact hl) (by rw [bdl]; exact h) tp p E.w hv1).mono ?_
   rintro e w' ⟨N, rfl, _, _, hw⟩
   exact ⟨_, rfl, hw, z5v (.c _ _ (.int _ _)) (.ifs _ _)⟩
  ·refine (Any.strconv_ParseInt_10_at64_range_var L ⟨List.toArray s⟩ (by rw [bsz]; exact hl) (by rw [bdl]; exact h) tp2 p2 E.w hv2).mono ?_
   rintro e w' ⟨N, rfl, _, _, hw⟩
   rw [bdl]
   exact ⟨_, rfl, hw, z5v (.c _ _ (.int _ _)) (.ifs _ _)⟩
 ·cases hF
theorem zln {w w' : World} (h : ∃ k os, w' = Go.Sort.grow (w.drewN k) os) : Below w.heap.size w w' := by
 obtain ⟨k, os, rfl⟩ := h
 exact Lib.below_grow _ w (Nat.le_refl _) k os
theorem zqZ (L : LaysM.n171 P ρ) (hb : yv P (ρ.f 171)) : YX P (ρ.f 171) (libS isI (fun x => Yo x) gStr) := by
 refine z22 hb zbu fun x y E vs hF hG hsz hv hS => ?_
 obtain ⟨a, rfl⟩ := arr1 hsz
 have h0 := yE (k := .i64) (n := x) (hv 0 a _ rfl rfl)
 subst h0
 unfold Yo at hF
 split at hF
 ·rename_i hl
  cases hF
  refine (Any.strconv_Itoa L x hl.1 hl.2 E.w hG.1).mono ?_
  rintro e w' ⟨rfl, hw⟩
  exact ⟨_, rfl, zln hw, .c _ _ (.str _)⟩
 ·cases hF
theorem zsA (L : LaysM.n173 P ρ) (hb : yv P (ρ.f 173)) : YX P (ρ.f 173) (libS isII (fun x => fmtO (x.1) (x.2)) gStr) := by
 refine z22 hb zbu fun x y E vs hF hG hsz hv hS => ?_
 obtain ⟨n, b⟩ := x
 obtain ⟨a0, a1, rfl⟩ := arr2 hsz
 have h0 := yE (k := .i64) (n := n) (hv 0 a0 _ rfl rfl)
 have h1 := yE (k := .i64) (n := b) (hv 1 a1 _ rfl rfl)
 subst h0 h1
 simp only at hF
 unfold fmtO at hF
 split at hF
 ·rename_i hl
  obtain ⟨rfl, hl⟩ := hl
  cases hF
  refine (Any.strconv_FormatInt_10 L n hl.1 hl.2 E.w hG.1).mono ?_
  rintro e w' ⟨rfl, hw⟩
  exact ⟨_, rfl, zln hw, .c _ _ (.str _)⟩
 ·cases hF
theorem zsB (L : LaysM.n145 P ρ) (hb : yv P (ρ.f 145)) : YX P (ρ.f 145) (libS isSS (fun x => cutO (x.1) (x.2)) gCut) := by
 refine z22 hb zqW fun x y E vs hF hG hsz hv hS => ?_
 obtain ⟨s, p⟩ := x
 obtain ⟨s, rfl⟩ : ∃ x' : List UInt8, x' = s := ⟨s, rfl⟩
 obtain ⟨p, rfl⟩ : ∃ x' : List UInt8, x' = p := ⟨p, rfl⟩
 obtain ⟨a0, a1, rfl⟩ := arr2 hsz
 have h0 := YO (s := ⟨List.toArray s⟩) (hv 0 a0 _ rfl rfl)
 have h1 := YO (s := ⟨List.toArray p⟩) (hv 1 a1 _ rfl rfl)
 subst h0 h1
 simp only at hF
 unfold cutO at hF
 split at hF
 ·rename_i hl
  cases hF
  obtain ⟨_, _, _, ⟨m, hm⟩⟩ := hG
  have hc := World.var?_cell L.m1 hm 0
  refine (Any.strings_Cut { L with } ⟨List.toArray s⟩ ⟨List.toArray p⟩ m E.w (by rw [bsz]; exact hl) (by rw [hc]; rfl)).mono ?_
  rintro e w' ⟨rfl, n, rfl⟩
  rw [bdl, bdl]
  exact ⟨_, rfl, ⟨rfl, rfl, rfl, Nat.le_refl _, fun _ _ => rfl⟩, zue (.c _ _ (.str _)) (.c _ _ (.str _)) (.c _ _ (.bool _))⟩
 ·cases hF
theorem zsC (L : Lays.n100 P ρ) (hb : yv P (ρ.f 100)) : YX P (ρ.f 100) (libS isSS (fun x => sufO (x.1) (x.2)) zkH) := by
 refine z22 hb zpJ fun x y E vs hF hG hsz hv hS => ?_
 obtain ⟨s, p⟩ := x
 obtain ⟨s, rfl⟩ : ∃ x' : List UInt8, x' = s := ⟨s, rfl⟩
 obtain ⟨p, rfl⟩ : ∃ x' : List UInt8, x' = p := ⟨p, rfl⟩
 obtain ⟨a0, a1, rfl⟩ := arr2 hsz
 have h0 := YO (s := ⟨List.toArray s⟩) (hv 0 a0 _ rfl rfl)
 have h1 := YO (s := ⟨List.toArray p⟩) (hv 1 a1 _ rfl rfl)
 subst h0 h1
 simp only at hF
 unfold sufO at hF
 split at hF
 ·rename_i hl
  cases hF
  refine (Any.strings_HasSuffix L ⟨List.toArray s⟩ ⟨List.toArray p⟩ E.w (by rw [bsz]; exact hl)).mono ?_
  rintro e w' ⟨rfl, rfl⟩
  rw [bdl, bdl]
  exact ⟨_, rfl, Below.refl _ _, .c _ _ (.bool _)⟩
 ·cases hF
theorem zoN {E : Env} {e : TypeId} (he : P.cellsOf e = 1) (l : List ByteArray) (xs : List (List UInt8)) (hl : l.map (·.data.toList) = xs) (n c : Nat) (hn : n = l.length) (hc : n ≤ c) {cs : Array Value} (hcs : ∀ i, i < l.length → cs[i]? = some (.string (l.getD i ByteArray.empty))) :
  VR P (z3S E (E.w.alloc (.cells cs e))) (.slice (some ⟨E.w.heap.size, 0, none⟩) n c) (av3 noH (z7b e xs)) := by
 have hlen : xs.length = l.length := by rw [← hl, List.length_map]
 have hx : ∀ i, i < l.length → (⟨List.toArray (xs.getD i [])⟩ : ByteArray) = l.getD i ByteArray.empty := fun i hi => by
  rw [← hl]
  simp [List.getD, List.getElem?_eq_getElem hi]
 show VR P _ _ (.c (.sl e (List.map (encR (.one .str)) (show List (DenR (.one .str)) from xs))))
 refine .c _ _ (.sl e E.w.heap.size 0 _ _ _ (fun i _ => .string (l.getD i ByteArray.empty)) (by rw [hn, ← hlen]; exact (List.length_map ..).symm) hc (fun i r h => ?_) (fun i j r c h h2 => ?_) (fun i j r c h h2 => ?_))
 ·rw [List.getElem?_map, Option.map_eq_some_iff] at h
  obtain ⟨q, _, rfl⟩ := h
  rw [he]; rfl
 ·rw [List.getElem?_map, Option.map_eq_some_iff] at h
  obtain ⟨q, h, rfl⟩ := h
  have hi : i < l.length := by rw [← hlen]; exact (List.getElem?_eq_some_iff.1 h).1
  have hj : j = 0 := by
   have := (List.getElem?_eq_some_iff.1 h2).1
   have e1 : (encR (.one .str) q).length = 1 := rfl
   omega
  subst hj
  rw [he, Nat.mul_one, Nat.add_zero, Nat.zero_add]
  refine ⟨?_, .inr ⟨Nat.le_refl _, by show _ < (E.w.alloc _).heap.size; simp⟩⟩
  show (E.w.alloc _).cell? _ = _
  rw [World.cell?_alloc_new]
  exact hcs i hi
 ·rw [List.getElem?_map, Option.map_eq_some_iff] at h
  obtain ⟨q, h, rfl⟩ := h
  have hi : i < l.length := by rw [← hlen]; exact (List.getElem?_eq_some_iff.1 h).1
  have hj : j = 0 := by
   have := (List.getElem?_eq_some_iff.1 h2).1
   have e1 : (encR (.one .str) q).length = 1 := rfl
   omega
  subst hj
  have h5 : some (C.str ⟨List.toArray q⟩) = some c := h2
  cases h5
  have h6 : xs.getD i [] = q := by
   have h' : xs[i]? = some q := h
   unfold List.getD; rw [h']; rfl
  rw [← hx i hi, h6]
  exact .str _
theorem zpL (L : LaysM.n146 P ρ) (hb : yv P (ρ.f 146)) : YX P (ρ.f 146) (libS isSS (fun x => z5z (x.1) (x.2)) (z7b (ρ.t 9))) := by
 refine z22 hb (zg6 _) fun x y E vs hF hG hsz hv hS => ?_
 obtain ⟨s, p⟩ := x
 obtain ⟨s, rfl⟩ : ∃ x' : List UInt8, x' = s := ⟨s, rfl⟩
 obtain ⟨p, rfl⟩ : ∃ x' : List UInt8, x' = p := ⟨p, rfl⟩
 obtain ⟨a0, a1, rfl⟩ := arr2 hsz
 have h0 := YO (s := ⟨List.toArray s⟩) (hv 0 a0 _ rfl rfl)
 have h1 := YO (s := ⟨List.toArray p⟩) (hv 1 a1 _ rfl rfl)
 subst h0 h1
 simp only at hF
 unfold z5z at hF
 split at hF
 ·rename_i hl
  cases hF
  obtain ⟨_, _, _, ⟨m, hm⟩⟩ := hG
  have hc := World.var?_cell L.m1 hm 0
  have he : P.cellsOf (ρ.t 9) = 1 := by
   have := L.i9
   unfold Program.cellsOf
   cases hi : P.info? (ρ.t 9) with
   | none => rw [hi] at this; simp at this
   | some i => rw [hi] at this; simp at this; simpa using this.2.1
  have hp1 : 1 ≤ (⟨List.toArray p⟩ : ByteArray).size := by rw [bsz]; exact hl.2
  refine (Any.strings_Split { L with } L.i9 ⟨List.toArray s⟩ ⟨List.toArray p⟩ m E.w (by rw [bsz]; exact hl.1) (by rw [hc]; rfl) hp1).mono ?_
  rintro e w' ⟨rfl, rfl⟩
  have hall := Lib.splitB_all ⟨List.toArray p⟩ hp1 0 _ ⟨List.toArray s⟩ rfl
  have hd := Lib.splitB_data ⟨List.toArray p⟩ 0 (Lib.countB ⟨List.toArray s⟩ ⟨List.toArray p⟩) ⟨List.toArray s⟩
  have hcnt : Lib.countB ⟨List.toArray s⟩ ⟨List.toArray p⟩ = Lib.count s p := by unfold Lib.countB; rw [bdl, bdl]
  refine ⟨_, rfl, ⟨rfl, rfl, rfl, by simp, fun k hk => heap_alloc_old E.w _ hk⟩, zoN he _ (Lib.split s p) ?_ _ _ hall.symm (Nat.le_refl _) fun i hi => ?_⟩
  ·rw [hd, bdl, bdl, hcnt]; rfl
  ·simp [List.getD, List.getElem?_eq_getElem hi]
 ·cases hF
theorem znK (L : LaysM.n221 P ρ) (hb : yv P (ρ.f 221)) : YX P (ρ.f 221) (libS zqX (fun x => z5q (x.1) (x.2.1) (x.2.2.1) (x.2.2.2)) (z7b (ρ.t 9))) := by
 refine z22 hb (zg6 _) fun x y E vs hF hG hsz hv hS => ?_
 obtain ⟨s, p, sv, n⟩ := x
 obtain ⟨s, rfl⟩ : ∃ x' : List UInt8, x' = s := ⟨s, rfl⟩
 obtain ⟨p, rfl⟩ : ∃ x' : List UInt8, x' = p := ⟨p, rfl⟩
 obtain ⟨sv, rfl⟩ : ∃ x' : Int, x' = sv := ⟨sv, rfl⟩
 obtain ⟨a0, a1, a2, a3, rfl⟩ := arr4 hsz
 have h0 := YO (s := ⟨List.toArray s⟩) (hv 0 a0 _ rfl rfl)
 have h1 := YO (s := ⟨List.toArray p⟩) (hv 1 a1 _ rfl rfl)
 have h2 := yE (k := .i64) (n := sv) (hv 2 a2 _ rfl rfl)
 have h3 := yE (k := .i64) (n := n) (hv 3 a3 _ rfl rfl)
 subst h0 h1 h2 h3
 simp only at hF
 unfold z5q at hF
 split at hF
 ·rename_i hl
  obtain ⟨hl, rfl, hv0, hv1⟩ := hl
  cases hF
  obtain ⟨_, _, _, ⟨m, hm⟩⟩ := hG
  have hc := World.var?_cell L.m1 hm 0
  have he : P.cellsOf (ρ.t 9) = 1 := by
   have := L.i9
   unfold Program.cellsOf
   cases hi : P.info? (ρ.t 9) with
   | none => rw [hi] at this; simp at this
   | some i => rw [hi] at this; simp at this; simpa using this.2.1
  have hp1 : 1 ≤ (⟨List.toArray p⟩ : ByteArray).size := by rw [bsz]; exact hl.2
  have hle := Lib.countB_le ⟨List.toArray p⟩ hp1 _ ⟨List.toArray s⟩ (Nat.le_refl _)
  have hall := Lib.splitB_all ⟨List.toArray p⟩ hp1 sv.toNat _ ⟨List.toArray s⟩ rfl
  have hcall := Any.strings_genSplit { L with } L.i9 ⟨List.toArray s⟩ ⟨List.toArray p⟩ sv.toNat (-1) (Lib.countB ⟨List.toArray s⟩ ⟨List.toArray p⟩ + 1) m E.w (by rw [bsz]; exact hl.1) (by rw [hc]; rfl) hp1 (by rw [bsz]; omega) (by decide) (by decide) (by
   rw [if_pos (by decide)]; rw [bsz] at hle ⊢; omega)
  have hsv : ((sv.toNat : Nat) : Int) = sv := by omega
  rw [hsv, Nat.add_sub_cancel] at hcall
  refine hcall.mono ?_
  rintro e w' ⟨rfl, rfl⟩
  have hd := Lib.splitB_data ⟨List.toArray p⟩ sv.toNat (Lib.countB ⟨List.toArray s⟩ ⟨List.toArray p⟩) ⟨List.toArray s⟩
  have hcnt : Lib.countB ⟨List.toArray s⟩ ⟨List.toArray p⟩ = Lib.count s p := by unfold Lib.countB; rw [bdl, bdl]
  refine ⟨_, rfl, ⟨rfl, rfl, rfl, by simp, fun k hk => heap_alloc_old E.w _ hk⟩, zoN he _ (Lib.splitK p sv.toNat (Lib.count s p) s) ?_ _ _ rfl (by rw [hall]; exact Nat.le_refl _) fun i hi => ?_⟩
  ·rw [hd, bdl, bdl, hcnt]
  ·rw [hall] at hi
   rw [← hall, Lib.cellsOf_full]
   rw [← hall] at hi
   simp [List.getD, List.getElem?_eq_getElem hi]
 ·cases hF
end
end Go.Kx
namespace Go.Kx
open Go.Rb Go.Shelf Go.RowKit Go.Proofs
section
variable {P : Program} {ρ : Ren}
abbrev isLS (e : TypeId) : List IT := [.v (.one (.sl e (.one .str))) false, .v (.one .str) false]
theorem zr0 (e : TypeId) (L : Lays.n156 P ρ) (X : Builder.Extra P ρ) (hb : yv P (ρ.f 156)) : YX P (ρ.f 156) (libS (isLS e) (fun x => z3C (x.1) (x.2)) gStr) := by
 refine z22 hb zbu fun x y E vs hF hG hsz hv hS => ?_
 obtain ⟨xs, p⟩ := x
 obtain ⟨xs, rfl⟩ : ∃ x' : List (List UInt8), x' = xs := ⟨xs, rfl⟩
 obtain ⟨p, rfl⟩ : ∃ x' : List UInt8, x' = p := ⟨p, rfl⟩
 obtain ⟨a0, a1, rfl⟩ := arr2 hsz
 have h1 := YO (s := ⟨List.toArray p⟩) (hv 1 a1 _ rfl rfl)
 have h0 : Rd P E.w E.S a0 (.sl e (xs.map fun s => [C.str ⟨List.toArray s⟩])) := jy (hv 0 a0 _ rfl rfl)
 subst h1
 simp only at hF
 unfold z3C at hF
 split at hF
 ·rename_i hl
  obtain ⟨hl1, hl2⟩ := hl
  cases hF
  have hmap : (xs.map fun s => (⟨List.toArray s⟩ : ByteArray)).map (fun b => b.data.toList) = xs := by
   rw [List.map_map]
   conv => rhs; rw [← List.map_id xs]
   exact List.map_congr_left fun s _ => by simp
  have fin : ∀ {v : Value}, Calls P (ρ.f 156) #[v, .string ⟨List.toArray p⟩] E.w (fun e w' => e = .returned (.string ⟨(Lib.join xs p).toArray⟩) ∧ Below E.w.heap.size E.w w') → Calls P (ρ.f 156) #[v, .string ⟨List.toArray p⟩] E.w fun e w' => ∃ v, e = .returned v ∧ RowKit.Below E.w.heap.size E.w w' ∧ VR P (z3S E w') v (av3 noH (gStr (Lib.join xs p))) := by
   intro v h
   refine h.mono ?_
   rintro e w' ⟨rfl, hb⟩
   exact ⟨_, rfl, hb, .c _ _ (.str _)⟩
  generalize hrows : (xs.map fun s => [C.str ⟨List.toArray s⟩]) = rows at h0
  generalize hc0 : C.sl e rows = c0 at h0
  cases h0 with
  | int k n => cases hc0
  | bool b => cases hc0
  | str s => cases hc0
  | emp e' a cap =>
   cases hc0
   have hx : xs = [] := by cases xs with | nil => rfl | cons s r => simp at hrows
   subst hx
   refine fin ?_
   refine (Any.strings_Join_none L X a cap ⟨List.toArray p⟩ E.w).mono ?_
   rintro e w' ⟨rfl, rfl⟩
   exact ⟨rfl, Below.refl _ _⟩
  | sl e' b off n cap rows' us hn hcap hsz2 hcell hrd =>
   cases hc0
   subst hrows
   rw [List.length_map] at hn
   subst hn
   refine fin ?_
   have hget : ∀ (j : Nat) (z : ByteArray), (xs.map fun s => (⟨List.toArray s⟩ : ByteArray))[j]? = some z → E.w.cell? ⟨b, off + j, none⟩ = some (.string z) ∧ E.S b (off + j) := by
    intro j z hz
    rw [List.getElem?_map, Option.map_eq_some_iff] at hz
    obtain ⟨s, hs, rfl⟩ := hz
    have hr : (xs.map fun s => [C.str ⟨List.toArray s⟩])[j]? = some [C.str ⟨List.toArray s⟩] := by rw [List.getElem?_map, hs]; rfl
    have h1 := hsz2 j _ hr
    have h2 := hcell j 0 _ _ hr rfl
    have h3 := hrd j 0 _ _ hr rfl
    simp only [List.length_cons, List.length_nil] at h1
    rw [← h1] at h2
    simp only [Nat.zero_add, Nat.mul_one, Nat.add_zero] at h2
    generalize hu : us j 0 = u at h2 h3
    cases h3
    exact h2
   cases xs with
   | nil =>
    refine (Any.strings_Join_none L X (some ⟨b, off, none⟩) cap ⟨List.toArray p⟩ E.w).mono ?_
    rintro e w' ⟨rfl, rfl⟩
    exact ⟨rfl, Below.refl _ _⟩
   | cons s r =>
    have hlt := hS _ _ (hget 0 _ rfl).2
    have hj := Any.strings_Join L X b off cap ((s :: r).map fun s => (⟨List.toArray s⟩ : ByteArray)) ⟨List.toArray p⟩ E.w (fun j z hz => (hget j z hz).1) hlt (by rw [List.length_map]; exact hl1) (by rw [List.length_map]; exact hcap) (by rw [hmap]; simpa using hl2)
    rw [hmap, List.length_map] at hj
    simpa using hj
 ·cases hF
end
end Go.Kx
namespace Go.Rb
open Go.ChangeShapes Go.WideShapes Go.Deep
inductive Ty (P : Program) : TypeId → List C → Prop where
 | bool {t : TypeId} (b : Bool) (h : P.underlying t = some .bool) : Ty P t [.bool b]
 | int {t : TypeId} {k : IntKind} (n : Int) (h : P.underlying t = some (.int k)) (hw : (Lit.int k n).wf = true) : Ty P t [.int k n]
 | str {t : TypeId} (s : ByteArray) (h : P.underlying t = some .string) (hs : s.size ≤ maxLen) : Ty P t [.str s]
 | sl {t e : TypeId} (rows : List (List C)) (h : P.underlying t = some (.slice e)) (hn : rows.length * P.bytesOf e ≤ reachBytes) (hr : ∀ r ∈ rows, Ty P e r) : Ty P t [.sl e rows]
 | struct {t : TypeId} {fs : Array Field} (cs : List C) (h : P.underlying t = some (.struct fs)) (hl : cs.length = P.cellsOf t)
   (hf : ∀ f ∈ fs.toList, Ty P f.type ((cs.drop f.offset).take (P.cellsOf f.type))) : Ty P t cs
def tot (P : Program) : List Field → Nat
 | [] => 0
 | f :: fs => P.cellsOf f.type + tot P fs
def z55 (P : Program) : Nat → List Field → Bool
 | _, [] => true
 | o, f :: fs => f.offset == o && z55 P (o + P.cellsOf f.type) fs
def Vf (P : Program) : Nat → TypeId → Bool
 | 0, _ => false
 | d + 1, t => match P.underlying t with
  | some .bool | some (.int _) | some .string => true
  | some (.slice e) => (P.cellsOf e != 0) && Vf P d e
  | some (.struct fs) => z55 P 0 fs.toList && (tot P fs.toList == P.cellsOf t) && fs.toList.all (fun f => Vf P d f.type)
  | _ => false
def RdL (P : Program) (w : World) (S : Nat → Nat → Prop) (vs : List Value) (cs : List C) : Prop := ∀ (i : Nat) (v : Value) (c : C), vs[i]? = some v → cs[i]? = some c → Rd P w S v c
theorem ziR {P : Program} {w : World} {S : Nat → Nat → Prop} {vs : List Value} : ∀ (fs : List Field) (o : Nat), z55 P o fs = true → o + tot P fs ≤ vs.length →
  (∀ f ∈ fs, ∃ cf, cf.length = ((vs.drop f.offset).take (P.cellsOf f.type)).length ∧ RdL P w S ((vs.drop f.offset).take (P.cellsOf f.type)) cf ∧ Ty P f.type cf) →
  ∃ cs, cs.length = tot P fs ∧ RdL P w S (vs.drop o) cs ∧ ∀ f ∈ fs, o ≤ f.offset ∧ Ty P f.type ((cs.drop (f.offset - o)).take (P.cellsOf f.type))
 | [], o, _, _, _ => ⟨[], rfl, by intro i v c _ h; simp at h, by simp⟩
 | f :: fs, o, ht, hl, h => by
  simp only [z55, Bool.and_eq_true, beq_iff_eq] at ht
  obtain ⟨ho, ht⟩ := ht
  simp only [tot] at hl
  obtain ⟨cf, h1, h2, h3⟩ := h f List.mem_cons_self
  obtain ⟨cs, g1, g2, g3⟩ := ziR fs (o + P.cellsOf f.type) ht (by omega) (fun f hf => h f (List.mem_cons_of_mem _ hf))
  rw [ho] at h1 h2
  have hcf : cf.length = P.cellsOf f.type := by rw [h1]; simp; omega
  refine ⟨cf ++ cs, by simp [tot, hcf, g1], ?_, ?_⟩
  ·intro i v c hv hc
   by_cases hi : i < cf.length
   ·rw [List.getElem?_append_left hi] at hc
    refine h2 i v c ?_ hc
    rw [List.getElem?_take, if_pos (by omega)]
    exact hv
   ·rw [List.getElem?_append_right (by omega)] at hc
    refine g2 (i - cf.length) v c ?_ hc
    rw [List.getElem?_drop] at hv ⊢
    rw [← hv]
    congr 1
    omega
  ·intro g hg
   rcases List.mem_cons.1 hg with rfl | hg
   ·refine ⟨by omega, ?_⟩
    rw [ho, Nat.sub_self, List.drop_zero, ← hcf, List.take_left]
    exact h3
   ·obtain ⟨k1, k2⟩ := g3 g hg
    refine ⟨by omega, ?_⟩
    have : g.offset - o = cf.length + (g.offset - (o + P.cellsOf f.type)) := by omega
    rw [this, List.drop_append]
    rw [List.drop_of_length_le (by omega), List.nil_append]
    have e : cf.length + (g.offset - (o + P.cellsOf f.type)) - cf.length = g.offset - (o + P.cellsOf f.type) := by omega
    rw [e]
    exact k2
theorem z8J {H : Type} {P : Program} {e : TypeId} : ∀ {ds : List (DataW H)} {d : DataW H}, d ∈ ds → ∀ n ∈ d.weights P e, n ∈ DataW.weightsAll P e ds
 | [], _, h, _, _ => by cases h
 | d0 :: ds, d, h, n, hn => by
  simp only [DataW.weightsAll, List.mem_append]
  rcases List.mem_cons.1 h with rfl | h
  ·exact .inl hn
  ·exact .inr (z8J h n hn)
section
variable {H : Type} {enc : TypeId × Value → H} {P : Program} {w : World} {base : Nat} {spare : Nat → Bool} {held : Bool}
theorem zoO {a : Addr} {v : Value} (h : w.cell? a = some v) : a.block < w.heap.size ∧ a.spot = none := by
 unfold World.cell? at h
 split at h
 ·rename_i c e f hb
  refine ⟨(Array.getElem?_eq_some_iff.1 hb).1, ?_⟩
  cases hs : a.spot with
  | none => rfl
  | some k => simp [hs] at h
 ·cases h
theorem zhY : ∀ (d n : Nat) (t : TypeId) (vs : List Value) (x : DataW H × List MemPlace), Vf P d t = true → (∀ k ∈ x.1.weights P t, k ≤ reachBytes) → DataW.trod enc P w base spare held n t vs = some x →
  ∃ cs, cs.length = vs.length ∧ RdL P w (fun b _ => b < w.heap.size) vs cs ∧ Ty P t cs
 | 0, _, _, _, _, h, _, _ => by cases h
 | d + 1, n, t, vs, x, hd, hw, h => by
  have one : ∀ {v : Value} {c : C}, Rd P w (fun b _ => b < w.heap.size) v c → RdL P w (fun b _ => b < w.heap.size) [v] [c] := by
   intro v c hr i v' c' hv hc
   cases i with
   | zero => simp at hv hc; subst hv hc; exact hr
   | succ i => simp at hv
  unfold Vf at hd
  split at hd
  ·rename_i hu
   obtain ⟨b, rfl, _⟩ := DataW.trod_bool hu h
   exact ⟨[.bool b], rfl, one (.bool b), .bool b hu⟩
  ·rename_i k hu
   obtain ⟨m, rfl, _, hwf⟩ := DataW.trod_int hu h
   exact ⟨[.int k m], rfl, one (.int k m), .int m hu hwf⟩
  ·rename_i hu
   obtain ⟨s, rfl, _, hs⟩ := DataW.trod_string hu h
   exact ⟨[.str s], rfl, one (.str s), .str s hu hs⟩
  ·rename_i e hu
   simp only [Bool.and_eq_true, bne_iff_ne] at hd
   obtain ⟨hz0, hd⟩ := hd
   rcases DataW.trod_slice hu h with ⟨rfl, _⟩ | ⟨a, len, cap, elems, rest, m, _, rfl, hx, hb, hlc, hcm, hel, helem, _, _⟩
   ·exact ⟨[.sl e []], rfl, one (.emp e none 0), .sl [] hu (by simp) (by simp)⟩
   ·have hwt : (elems.length + rest.length) * P.bytesOf e ≤ reachBytes ∧ ∀ y ∈ elems, ∀ k ∈ y.1.weights P e, k ≤ reachBytes := by
     rw [hx] at hw
     simp only [DataW.weights, hu, List.length_map, List.mem_cons, List.mem_append] at hw
     refine ⟨hw _ (.inl rfl), fun y hy k hk => hw k (.inr (.inl (z8J (List.mem_map_of_mem hy) k hk)))⟩
    have each : ∀ i, i < len → ∃ vs' cs, cs.length = vs'.length ∧ w.cells? base (a.add (i * P.cellsOf e)) (P.cellsOf e) = some vs' ∧ RdL P w (fun b _ => b < w.heap.size) vs' cs ∧ Ty P e cs := by
     intro i hi
     have h1 := helem i hi
     have hie : i < elems.length := by omega
     rw [List.getElem?_eq_getElem hie] at h1
     obtain ⟨vs', h2, h3⟩ := Option.bind_eq_some_iff.1 h1
     obtain ⟨cs, g1, g2, g3⟩ := zhY d m e vs' _ hd (hwt.2 _ (List.getElem_mem hie)) h3
     exact ⟨vs', cs, g1, h2, g2, g3⟩
    have hbytes : len * P.bytesOf e ≤ reachBytes := Nat.le_trans (Nat.mul_le_mul_right _ (by omega)) hwt.1
    by_cases hl0 : len = 0
    ·subst hl0
     exact ⟨[.sl e []], rfl, one (.emp e (some a) cap), .sl [] hu (by simp) (by simp)⟩
    ·obtain ⟨Q, hQ⟩ := choose_lt (α := List Value × List C) (p := fun i q => q.2.length = q.1.length ∧ w.cells? base (a.add (i * P.cellsOf e)) (P.cellsOf e) = some q.1 ∧ RdL P w (fun b _ => b < w.heap.size) q.1 q.2 ∧ Ty P e q.2)
      (fun i hi => by obtain ⟨vs', cs, h⟩ := each i hi; exact ⟨(vs', cs), h⟩)
     have hrow : ∀ (i : Nat) (r : List C), ((List.range len).map fun i => (Q i).2)[i]? = some r → i < len ∧ r = (Q i).2 := by
      intro i r hi
      simp only [List.getElem?_map, Option.map_eq_some_iff] at hi
      obtain ⟨j, hj, rfl⟩ := hi
      obtain ⟨h1, h2⟩ := List.getElem?_eq_some_iff.1 hj
      simp at h1 h2
      subst h2
      exact ⟨h1, rfl⟩
     have hsz : ∀ i, i < len → (Q i).1.length = P.cellsOf e ∧ ∀ j, j < P.cellsOf e → w.cell? ((a.add (i * P.cellsOf e)).add j) = (Q i).1[j]? := fun i hi => by
      obtain ⟨_, h1, h2⟩ := World.cells?_some (hQ i hi).2.1
      exact ⟨h1, h2⟩
     refine ⟨[.sl e ((List.range len).map fun i => (Q i).2)], rfl, one ?_, .sl _ hu (by simpa using hbytes) ?_⟩
     ·have hce : P.cellsOf e ≠ 0 := hz0
      ·have h0 := (hsz 0 (by omega)).2 0 (by omega)
       have hq0 : 0 < (Q 0).1.length := by rw [(hsz 0 (by omega)).1]; omega
       rw [List.getElem?_eq_getElem hq0] at h0
       have hsp := (zoO h0).2
       obtain ⟨ab, ao, asp⟩ := a
       have : asp = none := by
        cases asp with
        | none => rfl
        | some k => simp [Addr.add] at hsp
       subst this
       refine .sl e ab ao len cap _ (fun i j => (Q i).1.getD j undef) (by simp) hlc ?_ ?_ ?_
       ·intro i r hi
        obtain ⟨h1, rfl⟩ := hrow i r hi
        rw [(hQ i h1).1, (hsz i h1).1]
       ·intro i j r c hi hj
        obtain ⟨h1, rfl⟩ := hrow i r hi
        have hjl : j < (Q i).1.length := by rw [← (hQ i h1).1]; exact (List.getElem?_eq_some_iff.1 hj).1
        have h2 := (hsz i h1).2 j (by rw [← (hsz i h1).1]; exact hjl)
        rw [Ye, Ye, List.getElem?_eq_getElem hjl] at h2
        have h3 : (Q i).1.getD j undef = (Q i).1[j] := by simp [List.getD, List.getElem?_eq_getElem hjl]
        rw [← Nat.add_assoc, h3]
        exact ⟨h2, (zoO h2).1⟩
       ·intro i j r c hi hj
        obtain ⟨h1, rfl⟩ := hrow i r hi
        have hjl : j < (Q i).1.length := by rw [← (hQ i h1).1]; exact (List.getElem?_eq_some_iff.1 hj).1
        have h3 : (Q i).1.getD j undef = (Q i).1[j] := by simp [List.getD, List.getElem?_eq_getElem hjl]
        rw [h3]
        exact (hQ i h1).2.2.1 j _ c (List.getElem?_eq_getElem hjl) hj
     ·intro r hr
      obtain ⟨i, hi⟩ := List.getElem?_of_mem hr
      obtain ⟨h1, rfl⟩ := hrow i r hi
      exact (hQ i h1).2.2.2
  ·rename_i fs hu
   simp only [Bool.and_eq_true, beq_iff_eq, List.all_eq_true] at hd
   obtain ⟨⟨ht, htot⟩, hall⟩ := hd
   obtain ⟨xs, m, _, hx, hlen, hxl, hf⟩ := DataW.trod_struct hu h
   have hwf : ∀ (i : Nat) (f : Field) (y : DataW H × List MemPlace), fs[i]? = some f → xs[i]? = some y → ∀ k ∈ y.1.weights P f.type, k ≤ reachBytes := by
    intro i f y hfi hyi k hk
    rw [hx] at hw
    simp only [DataW.weights, hu] at hw
    refine hw k (DataW.weights_mem_each (j := i) (t := f.type) (d := y.1) ?_ ?_ k hk)
    ·simp [hfi]
    ·simp [hyi]
   obtain ⟨cs, h1, h2, h3⟩ := ziR (P := P) (w := w) (S := fun b _ => b < w.heap.size) (vs := vs) fs.toList 0 ht (by omega) (by
    intro f hfm
    obtain ⟨i, hi⟩ := List.getElem?_of_mem hfm
    have hi' : fs[i]? = some f := by simpa using hi
    have hfi := hf i f hi'
    have hix : i < xs.length := by rw [hxl]; exact (Array.getElem?_eq_some_iff.1 hi').1
    rw [List.getElem?_eq_getElem hix] at hfi
    obtain ⟨cf, g1, g2, g3⟩ := zhY d m f.type _ _ (hall f hfm) (hwf i f _ hi' (List.getElem?_eq_getElem hix)) hfi
    exact ⟨cf, g1, g2, g3⟩)
   refine ⟨cs, by omega, by simpa using h2, .struct cs hu (by omega) fun f hfm => ?_⟩
   have := (h3 f hfm).2
   simpa using this
  ·cases hd
end
end Go.Rb
namespace Go.Rb
open Go.ChangeShapes Go.WideShapes Go.Deep Go.RowKit
def argA (P : Program) (t : TypeId) (cs : List C) : AV :=
 match YW P t with
 | some true => .agg (cs.map .c)
 | _ => match cs with | [c] => .c c | _ => .any
inductive TyL (P : Program) : List TypeId → List (List C) → Prop where
 | nil : TyL P [] []
 | cons {t : TypeId} {ts : List TypeId} {cs : List C} {css : List (List C)} (h : Ty P t cs) (r : TyL P ts css) : TyL P (t :: ts) (cs :: css)
def Jq (P : Program) : List TypeId → List (List C) → List AV
 | t :: ts, cs :: css => argA P t cs :: Jq P ts css
 | _, _ => []
def env0 (W : World) : Env := { w := W, S := fun b _ => b < W.heap.size, β := fun l => l, ow := fun _ _ => .none, A := fun _ => False }
section
variable {H : Type} {enc : TypeId × Value → H} {P : Program} {W : World}
theorem zsD {t : TypeId} {v : Value} {dd : DataW H} {p : List MemPlace} {d : Nat} {sp : Nat → Bool} {base : Nat} (hd : Vf P d t = true) (h : DataW.Trod enc P W 0 sp true t v dd p) (hv : Value.okWide P W .any base t v)
  (hw : ∀ k ∈ dd.weights P t, k ≤ reachBytes) : ∃ cs, Ty P t cs ∧ VR P (env0 W) v (argA P t cs) := by
 obtain ⟨n, h⟩ := h
 obtain ⟨cs, h1, h2, h3⟩ := zhY d n t _ _ hd hw h
 refine ⟨cs, h3, ?_⟩
 have single : v.cells = #[v] → YW P t ≠ some true → VR P (env0 W) v (argA P t cs) := by
  intro hc ha
  rw [hc] at h1 h2
  match cs, h1 with
  | [c], _ =>
   have : argA P t [c] = .c c := by unfold argA; split <;> simp_all
   rw [this]
   exact .c _ _ (h2 0 v c rfl rfl)
 cases d with
 | zero => cases hd
 | succ d =>
  unfold Vf at hd
  unfold Value.okWide at hv
  split at hd
  ·rename_i hu
   rw [hu] at hv
   simp only [Cell.okWide, Cell.ok, hu] at hv
   refine single ?_ (by simp [YW, hu])
   cases v <;> first | rfl | exact hv.elim | (simp only at hv)
  ·rename_i k hu
   rw [hu] at hv
   simp only [Cell.okWide, Cell.ok, hu] at hv
   refine single ?_ (by simp [YW, hu])
   cases v <;> first | rfl | exact hv.elim | (simp only at hv)
  ·rename_i hu
   rw [hu] at hv
   simp only [Cell.okWide, Cell.ok, hu] at hv
   refine single ?_ (by simp [YW, hu])
   cases v <;> first | rfl | exact hv.elim | (simp only at hv)
  ·rename_i e hu
   rw [hu] at hv
   simp only [Cell.okWide, Cell.ok, hu] at hv
   refine single ?_ (by simp [YW, hu])
   cases v <;> first | rfl | exact hv.elim | (simp only at hv)
  ·rename_i fs hu
   rw [hu] at hv
   obtain ⟨vs, rfl, _, _⟩ := hv
   have ha : argA P t cs = .agg (cs.map .c) := by simp [argA, YW, hu]
   rw [ha]
   have hvs : Value.cells (.agg vs) = vs := rfl
   rw [hvs] at h1 h2
   have each : ∀ (i : Nat) (v : Value), vs[i]? = some v → ∃ c, cs[i]? = some c ∧ Rd P W (fun b _ => b < W.heap.size) v c := by
    intro i v hv
    have hi : i < cs.length := by rw [h1]; simpa using (Array.getElem?_eq_some_iff.1 hv).1
    exact ⟨cs[i], List.getElem?_eq_getElem hi, h2 i v _ (by simpa using hv) (List.getElem?_eq_getElem hi)⟩
   refine .agg _ _ (by simp at h1; simp [h1]) (fun i v hv => ?_) (fun i v x hv hx => ?_)
   ·obtain ⟨c, _, hr⟩ := each i v hv
    exact hr.oneCell
   ·obtain ⟨c, hc, hr⟩ := each i v hv
    rw [List.getElem?_map, hc] at hx
    simp at hx
    subst hx
    exact .c _ _ hr
  ·cases hd
theorem zlo {sp : Nat → Bool} {base : Nat} : ∀ (ts : List TypeId) (vs : List Value) (ds : List (DataW H)) (p : List MemPlace), (∀ t ∈ ts, ∃ d, Vf P d t = true) → DataW.TrodAll enc P W 0 sp true ts vs ds p →
  (∀ (j : Nat) t v, ts[j]? = some t → vs[j]? = some v → Value.okWide P W .any base t v) → (∀ k ∈ DataW.weightsEach P ts ds, k ≤ reachBytes) →
  ∃ css, TyL P ts css ∧ vs.length = (Jq P ts css).length ∧ ∀ (i : Nat) (v : Value) (x : AV), vs[i]? = some v → (Jq P ts css)[i]? = some x → VR P (env0 W) v x
 | [], vs, ds, p, _, h, _, _ => by
  obtain ⟨rfl, rfl, rfl⟩ := trodAll_nil h
  exact ⟨[], .nil, rfl, by simp⟩
 | t :: ts, vs, ds, p, hT, h, hv, hw => by
  match vs, ds, h with
  | v :: vs, dd :: ds, ⟨p1, q1, h1, h2, _⟩ =>
   obtain ⟨d, hd⟩ := hT t List.mem_cons_self
   obtain ⟨cs, g1, g2⟩ := zsD hd h1 (hv 0 t v rfl rfl) (fun k hk => hw k (by simp only [DataW.weightsEach, List.mem_append]; exact .inl hk))
   obtain ⟨css, k1, k2, k3⟩ := zlo ts vs ds q1 (fun t ht => hT t (List.mem_cons_of_mem _ ht)) h2 (fun j t v ht hvj => hv (j + 1) t v (by simpa using ht) (by simpa using hvj))
    (fun k hk => hw k (by simp only [DataW.weightsEach, List.mem_append]; exact .inr hk))
   refine ⟨cs :: css, .cons g1 k1, by simp [Jq, k2], fun i v x hi hx => ?_⟩
   cases i with
   | zero => simp [Jq] at hi hx; subst hi hx; exact g2
   | succ i => exact k3 i v x (by simpa using hi) (by simpa [Jq] using hx)
/-! ### The arguments read as they did -/
theorem ziS : ∀ (fs : List Field) (o : Nat), z55 P o fs = true → ∀ (j : Nat) f, fs[j]? = some f → f.offset = o + ((fs.take j).map fun f => P.cellsOf f.type).sum
 | [], _, _, j, f, h => by simp at h
 | g :: fs, o, ht, j, f, h => by
  simp only [z55, Bool.and_eq_true, beq_iff_eq] at ht
  cases j with
  | zero => simp at h; subst h; simp [ht.1]
  | succ j =>
   have := ziS fs _ ht.2 j f (by simpa using h)
   rw [this]
   simp [Nat.add_assoc]
theorem zoP : ∀ (fs : List Field), tot P fs = (fs.map fun f => P.cellsOf f.type).sum
 | [] => rfl
 | f :: fs => by simp [tot, zoP fs]
theorem zr1 : Kids P (fun t => ∃ d, Vf P d t = true) where
 pointer := by
  rintro t e ⟨d, hd⟩ hu
  cases d with
  | zero => cases hd
  | succ d => unfold Vf at hd; simp [hu] at hd
 slice := by
  rintro t e ⟨d, hd⟩ hu
  cases d with
  | zero => cases hd
  | succ d => unfold Vf at hd; simp [hu] at hd; exact ⟨d, hd.2⟩
 array := by
  rintro t e n ⟨d, hd⟩ hu
  cases d with
  | zero => cases hd
  | succ d => unfold Vf at hd; simp [hu] at hd
 struct := by
  rintro t fs ⟨d, hd⟩ hu
  cases d with
  | zero => cases hd
  | succ d =>
   unfold Vf at hd
   simp only [hu, Bool.and_eq_true, beq_iff_eq, List.all_eq_true] at hd
   refine ⟨fun f hf => ⟨d, hd.2 f hf⟩, by rw [← hd.1.2, zoP], fun j f hf => ?_⟩
   have := ziS fs.toList 0 hd.1.1 j f hf
   simpa using this
 map := by
  rintro t k e ⟨d, hd⟩ hu
  cases d with
  | zero => cases hd
  | succ d => unfold Vf at hd; simp [hu] at hd
theorem zlp {W' : World} (hb : Below W.heap.size W W') {sp : Nat → Bool} : ∀ (ts : List TypeId) (vs : List Value) (ds : List (DataW H)) (p : List MemPlace), (∀ t ∈ ts, ∃ d, Vf P d t = true) →
  DataW.TrodAll enc P W 0 (fun _ => true) true ts vs ds p → (∀ q ∈ p, sp q.block = true) → DataW.TrodAll enc P W' 0 sp true ts vs ds p
 | [], vs, ds, p, _, h, _ => by
  obtain ⟨rfl, rfl, rfl⟩ := trodAll_nil h
  exact rfl
 | t :: ts, vs, ds, p, hT, h, hs => by
  match vs, ds, h with
  | v :: vs, dd :: ds, ⟨p1, q1, ⟨n, h1⟩, h2, he⟩ =>
   subst he
   refine ⟨p1, q1, ⟨n, ?_⟩, zlp hb ts vs ds q1 (fun t ht => hT t (List.mem_cons_of_mem _ ht)) h2 (fun q hq => hs q (List.mem_append_right _ hq)), rfl⟩
   refine DataW.trod_stays zr1 (fun {t e} ⟨d, hd⟩ hu => ?_) (fun h => by cases h) (hT t List.mem_cons_self) h1 (fun q hq => hb.same (DataW.trod_lt n t _ _ h1 q hq)) (fun q hq => hs q (List.mem_append_left _ hq))
   cases d with
   | zero => cases hd
   | succ d => unfold Vf at hd; simp [hu] at hd; omega
theorem zoQ {base : Nat} {sp : Nat → Bool} {held : Bool} : ∀ {ts : List TypeId} {vs : List Value} {ds : List (DataW H)} {p : List MemPlace}, DataW.TrodAll enc P W base sp held ts vs ds p → ds.length = ts.length
 | [], vs, ds, p, h => by
  obtain ⟨_, rfl, _⟩ := trodAll_nil h
  rfl
 | t :: ts, vs, ds, p, h => by
  match vs, ds, h with
  | v :: vs, dd :: ds, ⟨p1, q1, _, h2, _⟩ => simp [zoQ h2]
theorem zk7 {f : Func} {s : ChangeSpec} {apart fresh handsOn again : Bool} {W' : World} {args : Array Value} {v : Value} {ds gs : List (DataW H)} {before : List MemPlace}
  (hW : DataW.Whole enc P f.params.toList s.vars apart W args.toList ds gs before) (hb : Below W.heap.size W W')
  (hres : ∀ (b : Nat) (sp : Nat → Bool) (hd : Bool), DataW.TrodAll enc P W' b sp hd f.resultTypes.toList (v.resultList f.resultTypes.size) (s.fn H (ds ++ gs)).results [])
  (hargs : ∀ sp : Nat → Bool, (∀ p ∈ before, sp p.block = true) → DataW.TrodAll enc P W' 0 sp true f.params.toList args.toList (s.fn H (ds ++ gs)).args before)
  (hvars : ∀ sp : Nat → Bool, (∀ p ∈ before, sp p.block = true) → DataW.TrodVars enc P W' sp s.vars (s.fn H (ds ++ gs)).vars [])
  (hok : ∀ (j : Nat) (t : TypeId) (r : Value), f.resultTypes[j]? = some t → (v.resultList f.resultTypes.size)[j]? = some r → Value.okWide P W' .any 0 t r) :
  s.post enc P f apart fresh handsOn again W args v W' := by
 have hlt := hW.lt
 have hold : ∀ p ∈ before, (fun b => decide (b < W.heap.size)) p.block = true := fun p hp => by simpa using hlt p hp
 refine ⟨ds, gs, before, [], before, [], hW, hres _ _ _, hargs _ hold, hvars _ hold, World.keptBut_mono (fun p hp => ⟨hp, .inr (.inl hp)⟩) (hb.frame (· ∈ before)), fun _ => ?_⟩
 obtain ⟨_, _, _, _, _, hz, hn⟩ := hW
 refine ⟨hok, _, _, ([] ++ before) ++ [], ⟨[] ++ before, [], trodAll_append (hargs _ (fun _ _ => rfl)) (hres _ _ _), hvars _ (fun _ _ => rfl), rfl, ?_, ?_⟩, ?_⟩
 ·intro b off hp
  have hp' : MemPlace.cell b off ∈ before := by simpa using hp
  rw [hb.frozen (p := ⟨b, off, none⟩) (hlt _ hp')]
  exact hz b off hp'
 ·intro ha
  simpa using hn ha
 ·intro p hp _
  simpa using hp
end
end Go.Rb
namespace Go.Kx
open Go.Rb
/-! ### Rows, one behind the other -/
def RT.app : RT → RT → RT
 | .one c, r => .cons c r
 | .cons c r, r' => .cons c (r.app r')
def zdH : (r r' : RT) → DenR r → DenR r' → DenR (r.app r')
 | .one _, _, x, y => (x, y)
 | .cons _ r, r', x, y => (Prod.fst x, zdH r r' (Prod.snd x) y)
theorem ziT : ∀ (r r' : RT) (x : DenR r) (y : DenR r'), encR (r.app r') (zdH r r' x y) = encR r x ++ encR r' y
 | .one c, r', x, y => by simp [RT.app, zdH, encR]
 | .cons c r, r', x, y => by
  show enc c (Prod.fst x) :: encR (r.app r') (zdH r r' (Prod.snd x) y) = _
  rw [ziT r r']; rfl
mutual
def Bd (P : Program) : (c : CT) → Den c → Prop
 | .int k, n => (Lit.int k n).wf = true
 | .bool, _ => True
 | .str, s => List.length s ≤ maxLen
 | .sl e r, xs => List.length xs * P.bytesOf e ≤ reachBytes ∧ ∀ x, x ∈ (show List (DenR r) from xs) → BdR P r x
def BdR (P : Program) : (r : RT) → DenR r → Prop
 | .one c, x => Bd P c x
 | .cons c r, x => Bd P c (Prod.fst x) ∧ BdR P r (Prod.snd x)
end
theorem zlq {P : Program} : ∀ (r r' : RT) (x : DenR r) (y : DenR r'), BdR P r x → BdR P r' y → BdR P (r.app r') (zdH r r' x y)
 | .one c, r', x, y, h, h' => ⟨h, h'⟩
 | .cons c r, r', x, y, h, h' => ⟨h.1, zlq r r' _ _ h.2 h'⟩
def zg7 : List RT → Option RT
 | [] => none
 | [r] => some r
 | r :: rs => (zg7 rs).map r.app
def rtP (P : Program) : Nat → TypeId → Option RT
 | 0, _ => none
 | d + 1, t => match P.underlying t with
  | some .bool => if P.cellsOf t = 1 then some (.one .bool) else none
  | some (.int k) => if P.cellsOf t = 1 then some (.one (.int k)) else none
  | some .string => if P.cellsOf t = 1 then some (.one .str) else none
  | some (.slice e) => if P.cellsOf t = 1 then (rtP P d e).map fun r => .one (.sl e r) else none
  | some (.struct fs) => if z55 P 0 fs.toList = true ∧ tot P fs.toList = P.cellsOf t then (fs.toList.mapM fun f => rtP P d f.type).bind zg7 else none
  | _ => none
theorem zg8 {P : Program} {d : Nat} (ih : ∀ (t : TypeId) (cs : List C) (r : RT), Ty P t cs → rtP P d t = some r → (∃ x : DenR r, cs = encR r x ∧ BdR P r x) ∧ r.size = P.cellsOf t) : ∀ (fs : List Field) (o : Nat) (cs : List C) (rs : List RT) (r : RT), z55 P o fs = true → o + tot P fs = cs.length →
  (∀ f ∈ fs, Ty P f.type ((cs.drop f.offset).take (P.cellsOf f.type))) → fs.mapM (fun f => rtP P d f.type) = some rs → zg7 rs = some r → ∃ x : DenR r, cs.drop o = encR r x ∧ BdR P r x
 | [], o, cs, rs, r, _, _, _, hm, hc => by
  simp at hm; subst hm; cases hc
 | f :: fs, o, cs, rs, r, ht, hl, hf, hm, hc => by
  simp only [z55, Bool.and_eq_true, beq_iff_eq] at ht
  obtain ⟨ho, ht⟩ := ht
  simp only [tot] at hl
  simp only [List.mapM_cons, Option.bind_eq_bind, Option.bind_eq_some_iff, Option.pure_def, Option.some.injEq] at hm
  obtain ⟨r1, h1, rs', h2, rfl⟩ := hm
  obtain ⟨⟨x1, h3, h4⟩, hs1⟩ := ih _ _ _ (hf f List.mem_cons_self) h1
  rw [ho] at h3
  have hsplit : cs.drop o = ((cs.drop o).take (P.cellsOf f.type)) ++ cs.drop (o + P.cellsOf f.type) := by
   rw [← List.drop_drop, List.take_append_drop]
  cases rs' with
  | nil =>
   have hfs : fs = [] := by
    cases fs with
    | nil => rfl
    | cons g fs =>
     simp only [List.mapM_cons, Option.bind_eq_bind, Option.bind_eq_some_iff, Option.pure_def, Option.some.injEq] at h2
     obtain ⟨_, _, _, _, h⟩ := h2; cases h
   subst hfs
   simp only [zg7, Option.some.injEq] at hc
   subst hc
   refine ⟨x1, ?_, h4⟩
   rw [hsplit, h3, List.drop_of_length_le (by simp [tot] at hl; omega), List.append_nil]
  | cons r2 rs2 =>
   have hc' : (zg7 (r2 :: rs2)).map r1.app = some r := hc
   rw [Option.map_eq_some_iff] at hc'
   obtain ⟨r3, h5, rfl⟩ := hc'
   obtain ⟨y, h6, h7⟩ := zg8 ih fs (o + P.cellsOf f.type) cs (r2 :: rs2) r3 ht (by omega) (fun g hg => hf g (List.mem_cons_of_mem _ hg)) h2 h5
   exact ⟨zdH r1 r3 x1 y, by rw [ziT, hsplit, h3, h6], zlq _ _ _ _ h4 h7⟩
theorem zlr {P : Program} :
  ∀ (d : Nat) (t : TypeId) (cs : List C) (r : RT), Ty P t cs → rtP P d t = some r → (∃ x : DenR r, cs = encR r x ∧ BdR P r x) ∧ r.size = P.cellsOf t
 | 0, t, cs, r, _, hr => by cases hr
 | d + 1, t, cs, r, ht, hr => by
  unfold rtP at hr
  cases ht with
  | bool b h =>
   rw [h] at hr; simp only at hr
   split at hr
   ·rename_i h1; cases hr; exact ⟨⟨b, rfl, trivial⟩, h1.symm⟩
   ·cases hr
  | int n h hw =>
   rw [h] at hr; simp only at hr
   split at hr
   ·rename_i h1; cases hr; exact ⟨⟨n, rfl, hw⟩, h1.symm⟩
   ·cases hr
  | str s h hs =>
   rw [h] at hr; simp only at hr
   split at hr
   case isFalse => cases hr
   rename_i h1
   cases hr
   refine ⟨⟨s.data.toList, ?_, ?_⟩, h1.symm⟩
   ·show [C.str s] = [C.str ⟨List.toArray s.data.toList⟩]
    rw [barr]
   ·show List.length s.data.toList ≤ maxLen
    rw [Array.length_toList]; exact hs
  | @sl _ e rows h hn hrows =>
   rw [h] at hr; simp only at hr
   split at hr
   case isFalse => cases hr
   rename_i hcell
   simp only [Option.map_eq_some_iff] at hr
   obtain ⟨r', h1, rfl⟩ := hr
   have key : ∀ rows : List (List C), (∀ q ∈ rows, Ty P e q) → ∃ ys : List (DenR r'), rows = ys.map (encR r') ∧ ∀ y ∈ ys, BdR P r' y := by
    intro rows
    induction rows with
    | nil => intro _; exact ⟨[], rfl, by simp⟩
    | cons q rows ih =>
     intro hq
     obtain ⟨⟨y, h2, h3⟩, _⟩ := zlr d e q r' (hq q List.mem_cons_self) h1
     obtain ⟨ys, h4, h5⟩ := ih fun q hq' => hq q (List.mem_cons_of_mem _ hq')
     exact ⟨y :: ys, by simp [h2, h4], fun z hz => by rcases List.mem_cons.1 hz with rfl | hz; exact h3; exact h5 z hz⟩
   obtain ⟨ys, h2, h3⟩ := key rows hrows
   subst h2
   exact ⟨⟨ys, rfl, by simpa using hn, h3⟩, hcell.symm⟩
  | struct cs h hl hf =>
   rw [h] at hr
   simp only at hr
   split at hr
   ·rename_i htt
    rw [Option.bind_eq_some_iff] at hr
    obtain ⟨rs, h1, h2⟩ := hr
    obtain ⟨x, h3, h4⟩ := zg8 (fun t cs r => zlr d t cs r) _ 0 cs rs r htt.1 (by rw [Nat.zero_add, hl]; exact htt.2) hf h1 h2
    refine ⟨⟨x, by simpa using h3, h4⟩, ?_⟩
    rw [← ZW r x, ← h3, List.drop_zero, hl]
   ·cases hr
/-! ### Laws -/
def zdI (P : Program) (t : TypeId) (it : IT) : Bool := match it with
 | .v r ag => (match rtP P 9 t with | some r' => (match RT.dec r' r with | .isTrue _ => true | .isFalse _ => false) | none => false) && ((YW P t == some ag) && (ag || Nat.beq r.size 1))
 | .f _ => false
def Vi (P : Program) : List TypeId → List IT → Bool
 | [], [] => true
 | t :: ts, it :: is => zdI P t it && Vi P ts is
 | _, _ => false
def BdI (P : Program) : (is : List IT) → PI is → Prop
 | [], _ => True
 | .f _ :: is, x => BdI P is x
 | [.v r _], x => BdR P r x
 | .v r _ :: i1 :: is, x => BdR P r (Prod.fst x) ∧ BdI P (i1 :: is) (Prod.snd x)
theorem zuf {P : Program} {t : TypeId} {r : RT} {ag : Bool} (h : zdI P t (.v r ag) = true) {cs : List C} (ht : Ty P t cs) : ∃ x : DenR r, BdR P r x ∧ argA P t cs = av3 noH (.ofRow ag (zV r x)) := by
 simp only [zdI, Bool.and_eq_true, beq_iff_eq, Bool.or_eq_true] at h
 obtain ⟨h2, h3, h4⟩ := h
 split at h2
 ·rename_i r' hr'
  split at h2
  ·rename_i hrr _
   subst hrr
   obtain ⟨⟨x, h5, h6⟩, _⟩ := zlr 9 t cs r' ht hr'
   refine ⟨x, h6, ?_⟩
   unfold argA
   rw [h3]
   cases ag with
   | true =>
    show AV.agg (cs.map .c) = .agg ((zV r' x).map (av1 noH))
    rw [vk, h5]
   | false =>
    have hsz : r'.size = 1 := Nat.eq_of_beq_eq_true (by simpa using h4)
    cases r' with
    | cons c r => simp [RT.size] at hsz; have := YL r; omega
    | one c => subst h5; rfl
  ·cases h2
 ·cases h2
theorem zls {P : Program} : ∀ {ts : List TypeId} {is : List IT} {css : List (List C)}, Vi P ts is = true → TyL P ts css → ∃ x : PI is, BdI P is x ∧ Jq P ts css = (yr is x).map (av3 noH)
 | [], [], _, _, .nil => ⟨(), trivial, rfl⟩
 | t :: ts, .v r ag :: is, _, h, .cons hc hr => by
  simp only [Vi, Bool.and_eq_true] at h
  obtain ⟨x, h2, h3⟩ := zuf h.1 hc
  obtain ⟨y, h4, h5⟩ := zls h.2 hr
  cases is with
  | nil =>
   refine ⟨x, h2, ?_⟩
   cases ts with
   | nil => cases hr; simp only [Jq, h3]; rfl
   | cons t ts => simp [Vi] at h
  | cons i1 is => exact ⟨(x, y), ⟨h2, h4⟩, by simp only [Jq, h3, h5]; rfl⟩
 | t :: ts, .f _ :: is, _, h, _ => by simp [Vi, zdI] at h
 | [], _ :: _, _, h, _ => by simp [Vi] at h
 | _ :: _, [], _, h, _ => by simp [Vi] at h
theorem zlt (c : CT) (y : Den c) : asD c (.d c y) = some y := by
 unfold asD
 simp only
 split
 ·rfl
 ·rename_i h _; exact absurd rfl h
theorem zbv {σ : KS} : ∀ (r : RT) (x : DenR r), Rdr.run σ (rowI false r (zV r x)) = some (x, [])
 | .one c, x => by
  obtain ⟨x, rfl⟩ : ∃ x' : Den c, x' = x := ⟨x, rfl⟩
  show Rdr.run σ (VC false c (.d c x)) = some (x, [])
  simp only [VC, Bool.false_eq_true, if_false, frz0, Rdr.bind, zlt, optR, Rdr.run]
 | .cons c r, x => by
  show Rdr.run σ (Rdr.bind (VC false c (.d c (Prod.fst x))) fun q => Rdr.bind (rowI false r (zV r (Prod.snd x))) fun p => .ret ((q.1, p.1), q.2 ++ p.2)) = _
  have h1 : Rdr.run σ (VC false c (.d c (Prod.fst x))) = some (Prod.fst x, []) := by
   simp only [VC, Bool.false_eq_true, if_false, frz0, Rdr.bind, zlt, optR, Rdr.run]
  rw [Rdr.run_bind, h1, Option.bind_some, Rdr.run_bind, zbv r (Prod.snd x)]
  rfl
theorem zv3 {ag : Bool} {r : RT} {x : DenR r} (h : (ag || Nat.beq r.size 1) = true) : (RV.ofRow ag (zV r x)).row ag = zV r x := by
 cases ag with
 | true => rfl
 | false =>
  have hsz : r.size = 1 := Nat.eq_of_beq_eq_true (by simpa using h)
  cases r with
  | cons c r => simp [RT.size] at hsz; have := YL r; omega
  | one c => rfl
theorem ziU {P : Program} {σ : KS} : ∀ {ts : List TypeId} {is : List IT} (x : PI is), Vi P ts is = true → Rdr.run σ (insR false is (yr is x)) = some (x, [])
 | [], [], x, _ => rfl
 | t :: ts, .v r ag :: is, x, h => by
  simp only [Vi, zdI, Bool.and_eq_true] at h
  have hrow := fun y : DenR r => zv3 (x := y) (ag := ag) h.1.2.2
  cases is with
  | nil =>
   obtain ⟨x, rfl⟩ : ∃ x' : DenR r, x' = x := ⟨x, rfl⟩
   show Rdr.run σ (rowI false r ((RV.ofRow ag (zV r x)).row ag)) = _
   rw [hrow]; exact zbv r x
  | cons i1 is =>
   show Rdr.run σ (Rdr.bind (rowI false r ((RV.ofRow ag (zV r (Prod.fst x))).row ag)) fun q => Rdr.bind (insR false (i1 :: is) (yr (i1 :: is) (Prod.snd x))) fun p => .ret ((q.1, p.1), q.2 ++ p.2)) = _
   rw [hrow, Rdr.run_bind, zbv, Option.bind_some, Rdr.run_bind, ziU (ts := ts) _ h.2]
   rfl
 | t :: ts, .f _ :: is, x, h => by simp [Vi, zdI] at h
 | [], _ :: _, x, h => by simp [Vi] at h
 | _ :: _, [], x, h => by simp [Vi] at h
theorem zsE (H : Nat → Hd) : ∀ (is : List IT) (x : PI is), ∀ y ∈ yr is x, ok3 H y ∧ (∀ E P v, VR P E v (av3 noH y) → VR P E v (av3 H y)) := by
 have one : ∀ (r : RT) (ag : Bool) (x : DenR r), ok3 H (.ofRow ag (zV r x)) ∧ (∀ E P v, VR P E v (av3 noH (.ofRow ag (zV r x))) → VR P E v (av3 H (.ofRow ag (zV r x)))) := by
  intro r ag x
  cases ag with
  | true =>
   refine ⟨fun y hy => by obtain ⟨c, z, rfl⟩ := Jo r x y hy; trivial, fun E P v hv => ?_⟩
   replace hv : VR P E v (.agg ((zV r x).map (av1 noH))) := hv
   show VR P E v (.agg ((zV r x).map (av1 H)))
   rw [vk] at hv ⊢; exact hv
  | false => cases r with
   | one c => exact ⟨trivial, fun _ _ _ h => h⟩
   | cons c r => exact ⟨trivial, fun _ _ _ h => h⟩
 intro is
 induction is with
 | nil => intro x y hy; cases hy
 | cons it is ih =>
  intro x y hy
  cases it with
  | f id =>
   rcases List.mem_cons.1 (show y ∈ RV.fn id [] :: yr is x from hy) with rfl | hy
   ·exact ⟨(fun c hc => by cases hc), fun _ _ _ h => h⟩
   ·exact ih x y hy
  | v r ag =>
   cases is with
   | nil =>
    have : y = .ofRow ag (zV r x) := List.mem_singleton.1 hy
    subst this; exact one r ag x
   | cons i1 is =>
    rcases List.mem_cons.1 (show y ∈ RV.ofRow ag (zV r (Prod.fst x)) :: yr (i1 :: is) (Prod.snd x) from hy) with rfl | hy
    ·exact one r ag _
    ·exact ih (Prod.snd x) y hy
theorem zr2 {P : Program} {f : FuncId} {is : List IT} {ts : List TypeId} {F : PI is → Option Bool} (hs : YX P f (mkS false is [⟨.one .bool, false, []⟩] F)) (hp : Vi P ts is = true) (hF : ∀ x, BdI P is x → F x = some true) :
  ∀ css, TyL P ts css → ∀ (W : World) (vs : Array Value), Glob P W ∧ NG P ≤ W.heap.size → vs.size = (Jq P ts css).length → (∀ (i : Nat) (v : Value) (x : AV), vs[i]? = some v → (Jq P ts css)[i]? = some x → VR P (env0 W) v x) →
   Calls P f vs W fun e W' => ∃ v, e = .returned v ∧ v = .bool true ∧ W'.os = W.os ∧ W'.tape = W.tape ∧ W'.output = W.output ∧ W.heap.size ≤ W'.heap.size ∧ ∀ k, k < W.heap.size → W'.heap[k]? = W.heap[k]? := by
 intro css hty W vs hG hl hv
 obtain ⟨x, hb, hx⟩ := zls hp hty
 rw [hx] at hl hv
 rw [List.length_map] at hl
 let σ : KS := { T := fun _ => .any, H := noH, C := fun _ _ => .any }
 have hr : RelE P W.heap.size (fun _ => False) W (env0 W).S [] (env0 W) (fun _ => undef) σ :=
  ⟨⟨Fr.refl _ _ _, Nat.le_refl _, fun _ _ h => h, fun _ _ h => .inl h, fun _ _ h => h, fun l hl => absurd rfl hl, fun l hl => hl.elim, fun l l' hl => hl.elim, fun _ _ => rfl, ⟨hG.1, hG.2, fun _ h => h.elim⟩⟩, fun _ => .any _, fun _ => trivial, fun _ _ => trivial, fun _ => trivial, fun l hl => hl.elim, fun q hq => by cases hq⟩
 have hrun : Rdr.run σ (mkS false is [⟨.one .bool, false, []⟩] F 0 (yr is x)) = some (.d .bool true, []) := by
  simp only [mkS, Bool.not_false, Bool.true_or, if_true, Rdr.run_bind, ziU x hp, Option.bind_some, Rdr.run, hF x hb]
  rfl
 have hc := hs.2 W.heap.size (fun _ => False) W (env0 W).S [] (env0 W) σ (fun _ => undef) 0 (yr is x) _ _ vs hr hrun ⟨hl, fun i v y h2 h3 => by
  obtain ⟨h4, h5⟩ := zsE σ.H is x y (List.mem_of_getElem? h3)
  exact ⟨h5 _ _ _ (hv i v _ h2 (by rw [List.getElem?_map, h3]; rfl)), h4⟩⟩
 refine hc.mono fun e W' h => ?_
 obtain ⟨v, rfl, E', rfl, h2, h3, _⟩ := h
 exact ⟨v, rfl, z34 (b := true) h3, h2.w3.fr.os, h2.w3.fr.tape, h2.w3.fr.output, h2.w3.fr.size, fun k hk => h2.w3.fr.block k hk (by simp)⟩
end Go.Kx
namespace Go.Rb
open Go.ChangeShapes Go.WideShapes Go.Deep Go.RowKit Go.Kx
section
variable {H : Type} {enc : TypeId × Value → H}
theorem zlu {a : Assume} {C : Checked} {os : Os} {f : FuncId} {fn : Func} {s : ChangeSpec} {conds : List PathCond} {apart fresh : Bool} {tb : TypeId} {laid : List (String × DataW Unit)}
  (own : ownKnob C.prog.godebug = none) (started : os.Started) (noInit : C.prog.inits.idxOf? f = none) (hfn : C.prog.funcs[f]? = some fn)
  (witness : ∃ (w : World) (tape : Tape) (i : Input), w.os = os ∧ (w.forCall tape i).Shaped C.prog ∧ i.vars = [] ∧ Input.okWide C.prog (w.forCall tape i) .any w.heap.size f i ∧
   ((s.pre enc C.prog fn conds apart (w.forCall tape i).memory i.args ∧ laidMetH C.prog laid (w.forCall tape i).memory) ∧ sizedMet enc C.prog fn (OpenSpec.ofChange s) apart (w.forCall tape i).memory i.args) ∧ a.holds C.prog (lone (Frame.enter C.prog f i.args .normal) [] (w.forCall tape i)))
  (hT : ∀ t ∈ fn.params.toList, ∃ d, Vf C.prog d t = true) (hvars : s.vars = []) (hspec : ∀ (ds : List (DataW H)), ds.length = fn.params.toList.length → s.fn H ds = { results := [.lit (.bool true)], args := ds })
  (hres : fn.resultTypes = #[tb]) (hub : C.prog.underlying tb = some .bool)
  (hF : ∀ css, TyL C.prog fn.params.toList css → ∀ (W : World) (vs : Array Value), W.ShapedOpen C.prog → laidMetH C.prog laid W → vs.size = (Jq C.prog fn.params.toList css).length → (∀ (i : Nat) (v : Value) (x : AV), vs[i]? = some v → (Jq C.prog fn.params.toList css)[i]? = some x → VR C.prog (env0 W) v x) →
   Calls C.prog f vs W fun e W' => ∃ v, e = .returned v ∧ v = .bool true ∧ W'.os = W.os ∧ W'.tape = W.tape ∧ W'.output = W.output ∧ W.heap.size ≤ W'.heap.size ∧ ∀ k, k < W.heap.size → W'.heap[k]? = W.heap[k]?) :
  ReturnsInHanded a C os f .any (fun w args => (s.pre enc C.prog fn conds apart w args ∧ laidMetH C.prog laid w) ∧ sizedMet enc C.prog fn (OpenSpec.ofChange s) apart w args) (s.post enc C.prog fn apart fresh false false) := by
 refine returnsInHanded_of_calls own started noInit witness ?_
 intro w tape i _ hsh _ hok hpre hholds
 obtain ⟨_, _, _, fn', hfn', _, _, _, _, hval0⟩ := hok
 have e : fn' = fn := Option.some.inj (hfn'.symm.trans hfn)
 subst e
 obtain ⟨⟨⟨ds, gs, before, hw, hc⟩, hl0⟩, hz0⟩ := hpre
 have hW := DataW.Whole.of_heap (w' := w.forCall tape i) (by rfl) hw
 have hz := hz0.weights hw
 have hlaid : laidMetH C.prog laid (w.forCall tape i) := hl0.of_heap (by rfl)
 have hval : ∀ (j : Nat) t v, fn'.params[j]? = some t → i.args[j]? = some v → Value.okWide C.prog (w.forCall tape i) .any w.heap.size t v := hval0
 have key : Calls C.prog f i.args (w.forCall tape i) fun e W' => ∃ v, e = .returned v ∧ s.post enc C.prog fn' apart fresh false false (w.forCall tape i) i.args v W' := by
  generalize w.forCall tape i = W at *
  have hW' := hW
  obtain ⟨p, q, hA, hV, rfl, hfz, hnd⟩ := hW
  rw [hvars] at hV
  obtain ⟨rfl, rfl⟩ := trodVars_none hV
  have hlen : ds.length = fn'.params.toList.length := zoQ hA
  obtain ⟨css, hty, hl, hvr⟩ := zlo fn'.params.toList i.args.toList ds p hT hA (fun j t v ht hv => hval j t v (by simpa using ht) (by simpa using hv)) (fun k hk => by
   have h1 : ∀ (ts : List TypeId) (ds : List (DataW H)) (ts' : List TypeId), ds.length = ts.length → DataW.weightsEach C.prog (ts ++ ts') ds = DataW.weightsEach C.prog ts ds := by
    intro ts
    induction ts with
    | nil => intro ds ts' h; cases ds <;> simp_all [DataW.weightsEach]
    | cons t ts ih =>
     intro ds ts' h
     cases ds with
     | nil => simp at h
     | cons d ds => simp only [List.cons_append, DataW.weightsEach, ih ds ts' (by simpa using h)]
   rw [List.append_nil, h1 _ _ _ hlen] at hz
   simpa using List.all_eq_true.1 hz k hk)
  have hcall := hF css hty W i.args hsh hlaid (by simpa using hl) (fun i v x hi hx => hvr i v x (by simpa using hi) hx)
  refine hcall.mono fun e W' h => ?_
  obtain ⟨v, rfl, rfl, h1, h2, h3, h4, h5⟩ := h
  have hb : Below W.heap.size W W' := ⟨h1, h2, h3, h4, h5⟩
  refine ⟨_, rfl, zk7 hW' hb ?_ ?_ ?_ ?_⟩
  ·intro b sp hd
   rw [List.append_nil, hspec ds hlen, hres]
   exact trodAll_cons_mk (shut_bool hub _) trodAll_mk0
  ·intro sp hs
   rw [List.append_nil, hspec ds hlen]
   simp only [List.append_nil] at hs ⊢
   exact zlp hb _ _ _ _ hT hA hs
  ·intro sp _
   rw [List.append_nil, hspec ds hlen, hvars]
   rfl
  ·exact ok_one hres rfl (okWide_bool_mk hub _)
 refine key.mono fun e W' ⟨v, he, hp⟩ => ?_
 subst he
 exact ChangeSpec.post_blind hp
end
section
variable {P : Program} {W : World}
theorem zvC (h : W.ShapedOpen P) (h0 : Nat.blt 0 (NG P) = true) (hl : (((begin P (fun _ _ => 0) default).world.heap[NG P - 1]?).bind Obj.row?).isSome = true) : NG P ≤ W.heap.size := by
 have h0z : 0 < NG P := by simpa using h0
 cases hz : ((begin P (fun _ _ => 0) default).world.heap[NG P - 1]?).bind Obj.row? with
 | none => rw [hz] at hl; cases hl
 | some x =>
  obtain ⟨zero, t⟩ := x
  obtain ⟨cs, hh, _⟩ := h.1 (NG P - 1) zero t (show NG P - 1 < P.globals.size by unfold NG at *; omega) hz
  have := (Array.getElem?_eq_some_iff.1 hh).1
  omega
theorem zsF {n : String} {g : Nat} {t : TypeId} {zero : Array Value} {k : IntKind}
  (h : W.ShapedOpen P) (hn : P.globalNamed n = some g)
  (h0 : ((begin P (fun _ _ => 0) default).world.heap[g]?).bind Obj.row? = some (zero, t)) (hz : zero.size = 1)
  (hb : P.buildable t = true) (hc : P.cellTypes P.depth t = some [t]) (hu : P.underlying t = some (.int k)) :
  ∃ m, W.var? P n = some #[.int k m] := by
 have hg : g < P.globals.size := z8D hn
 obtain ⟨m, hm⟩ := Go.Proofs.cell_of_shapedOpen_int h hg h0 hz hb hc hu
 obtain ⟨cs, hh, hs, _⟩ := h.1 g zero t hg h0
 refine ⟨m, ?_⟩
 unfold World.var?
 rw [hn, Option.bind_some, hh]
 have h1 : cs.size = 1 := by omega
 obtain ⟨l⟩ := cs
 match l, h1 with
 | [x], _ =>
  have : x = .int k m := by simpa [World.cell?, hh] using hm
  rw [this]
end
end Go.Rb
namespace Go.Kx
open Go.Rb
def zg (fn : Func) : Code := fn.body.getD .skip
def zo (fn : Func) : List ResultVar := fn.results.toList
def tabT : List (Nat × TD) → TT
 | [], _ => none
 | (j, d) :: r, i => bif Nat.beq i j then some d else tabT r i
def tabG : List (Nat × GS) → FuncId → Option GS
 | [], _ => none
 | (j, d) :: r, i => bif Nat.beq i j then some d else tabG r i
def tabL : List (Nat × LH) → Nat → LH
 | [], _ => .unroll 0
 | (j, d) :: r, i => bif Nat.beq i j then d else tabL r i
def tabH : List (Nat × List Gh) → Nat → List Gh
 | [], _ => []
 | (j, d) :: r, i => bif Nat.beq i j then d else tabH r i
def GSOK (P : Program) (f : FuncId) : GS → Prop
 | .r s => YX P f s
 | .c c => CSOK P f c
theorem ze {P : Program} : ΓOK P (tabG []) := by
 constructor
 ·intro _ _ h; cases h
 ·intro _ _ h; cases h
theorem z8 {P : Program} {j : Nat} {g : GS} {r : List (Nat × GS)} (h : GSOK P j g) (hr : ΓOK P (tabG r)) : ΓOK P (tabG ((j, g) :: r)) := by
 refine ⟨fun f sp hf => ?_, fun f cs hf => ?_⟩
 ·simp only [tabG] at hf
  cases hb : Nat.beq f j with
  | true => rw [hb] at hf; cases Nat.eq_of_beq_eq_true hb; cases hf; exact h
  | false => rw [hb] at hf; exact hr.r f sp hf
 ·simp only [tabG] at hf
  cases hb : Nat.beq f j with
  | true => rw [hb] at hf; cases Nat.eq_of_beq_eq_true hb; cases hf; exact h
  | false => rw [hb] at hf; exact hr.c f cs hf
structure OkTD (P : Program) (t : TypeId) (d : TD) : Prop where
 c : P.cellsOf t = d.cells ∧ P.bytesOf t = d.bytes ∧ (P.info? t).isSome = true
 k : match d.k with
  | .int k => P.underlying t = some (.int k)
  | .bool => P.underlying t = some .bool
  | .str => P.underlying t = some .string
  | .sl e => P.underlying t = some (.slice e) ∧ (P.info? e).isSome = true
  | .st fs => ∃ fs', P.underlying t = some (.struct fs') ∧ fs = fs'.toList.map (fun f => (f.offset, P.cellsOf f.type)) ∧ fs'.all (fun f => (P.info? f.type).isSome) = true
  | .ifc => ∃ ms, P.underlying t = some (.interface ms)
  | .mp => zpv P t
  | .other => True
 rt : match d.rt with
  | none => True
  | some r => r.size = d.cells ∧ zc P t = some ((Y0 r).map (av1 noH))
 eq : match d.k, d.rt with
  | .st _, some r => z0U (Y0 r) ≠ none → zkO P t d.cells
  | _, _ => True
theorem zvD {P : Program} {t kt et : TypeId} (h1 : P.underlying t = some (.map kt et)) (h2 : P.underlying kt = some (.int .i64)) (h3 : (P.info? et).bind (fun i => i.zero) = some (.string ⟨#[]⟩)) : zpv P t := by
 cases hi : P.info? et with
 | none => rw [hi] at h3; cases h3
 | some i => rw [hi] at h3; exact ⟨kt, et, h1, h2, i, hi, h3⟩
theorem zv4 {P : Program} {L : List (Nat × TD)} (h : ∀ q ∈ L, OkTD P q.1 q.2) : TOK P (tabT L) := by
 have hL : ∀ t d, tabT L t = some d → OkTD P t d := by
  intro t d
  induction L with
  | nil => intro h; cases h
  | cons q r ih =>
   obtain ⟨j, dd⟩ := q
   intro hq
   simp only [tabT] at hq
   cases hb : Nat.beq t j with
   | true => rw [hb] at hq; cases Nat.eq_of_beq_eq_true hb; cases hq; exact h _ List.mem_cons_self
   | false => rw [hb] at hq; exact ih (fun q hq => h q (List.mem_cons_of_mem _ hq)) hq
 refine ⟨fun t d h => (hL t d h).c, fun t d k h hk => ?_, fun t d h hk => ?_, fun t d h hk => ?_, fun t d e h hk => ?_, fun t d fs h hk => ?_, fun t d r h hk => ?_, fun t d fs r h hk hr hz => ?_, fun t d h hk => ?_, fun t d h hk => ?_⟩
 ·have := (hL t d h).k; rw [hk] at this; exact this
 ·have := (hL t d h).k; rw [hk] at this; exact this
 ·have := (hL t d h).k; rw [hk] at this; exact this
 ·have := (hL t d h).k; rw [hk] at this; exact this
 ·have := (hL t d h).k; rw [hk] at this; exact this
 ·have := (hL t d h).rt; rw [hk] at this; exact this
 ·have := (hL t d h).eq; rw [hk, hr] at this; exact this hz
 ·have := (hL t d h).k; rw [hk] at this; exact this
 ·have := (hL t d h).k; rw [hk] at this; exact this
/-! ### Structs of numbers, of which some are structs of numbers -/
end Go.Kx
