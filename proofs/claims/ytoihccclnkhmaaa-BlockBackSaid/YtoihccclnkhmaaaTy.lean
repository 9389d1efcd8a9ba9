/-
  What is proved: facts on the types of the program, and codes of its data. Conditions: none.
-/
import Derived.Test.YtoihccclnkhmaaaProg
import Derived.KernelRfl
import Derived.Test.YtoihccclnkhmaaaPA
set_option linter.unusedVariables false
set_option linter.unusedSimpArgs false
set_option maxRecDepth 4000
namespace Go.Proofs.Y
open Go.Rb
theorem sz3 : Try.prog.cellsOf 3 = 1 := by kernel_rfl
theorem if3 : (Try.prog.info? 3).isSome = true := by kernel_rfl
theorem un3 : Try.prog.underlying 3 = some (.int .i64) := Try.underlying3
theorem ag3 : isAggT Try.prog 3 = some false := by simp only [isAggT, Try.underlying3]
theorem zc3 : zc Try.prog 3 = some [.c (.int .i64 0)] := by kernel_rfl
theorem by3 : Try.prog.bytesOf 3 = 8 := by kernel_rfl
theorem sz4 : Try.prog.cellsOf 4 = 1 := by kernel_rfl
theorem if4 : (Try.prog.info? 4).isSome = true := by kernel_rfl
theorem un4 : Try.prog.underlying 4 = some .bool := Try.underlying4
theorem ag4 : isAggT Try.prog 4 = some false := by simp only [isAggT, Try.underlying4]
theorem zc4 : zc Try.prog 4 = some [.c (.bool false)] := by kernel_rfl
theorem by4 : Try.prog.bytesOf 4 = 1 := by kernel_rfl
theorem be4 : ∀ a b : Bool, ybin Try.prog .eql 4 (.c (.bool a)) (.c (.bool b)) = some (.c (.bool (a == b))) := fun a b => by simp [ybin, un4]
theorem bn4 : ∀ a b : Bool, ybin Try.prog .neq 4 (.c (.bool a)) (.c (.bool b)) = some (.c (.bool (!(a == b)))) := fun a b => by simp [ybin, un4]
theorem sz31 : Try.prog.cellsOf 31 = 1 := by kernel_rfl
theorem if31 : (Try.prog.info? 31).isSome = true := by kernel_rfl
theorem un31 : Try.prog.underlying 31 = some (.int .i64) := Try.underlying31
theorem ag31 : isAggT Try.prog 31 = some false := by simp only [isAggT, Try.underlying31]
theorem zc31 : zc Try.prog 31 = some [.c (.int .i64 0)] := by kernel_rfl
theorem by31 : Try.prog.bytesOf 31 = 8 := by kernel_rfl
theorem sz24 : Try.prog.cellsOf 24 = 4 := by kernel_rfl
theorem if24 : (Try.prog.info? 24).isSome = true := by kernel_rfl
theorem ag24 : isAggT Try.prog 24 = some true := by simp only [isAggT, Try.underlying24]
theorem zc24 : zc Try.prog 24 = some [.c (.int .i64 0), .c (.int .i64 0), .c (.int .i64 0), .c (.int .i64 0)] := by kernel_rfl
theorem by24 : Try.prog.bytesOf 24 = 32 := by kernel_rfl
theorem fp24_0 : ∀ l off : Nat, yfield Try.prog 24 0 (.ptr l off) = some (.ptr l (off + 0)) := fun _ _ => by simp [yfield, Try.underlying24, sz3]
theorem fe24_0 : ∀ xs : List C, yfield Try.prog 24 0 (.el xs) = some (.el (xs.drop 0)) := fun _ => by simp [yfield, Try.underlying24, sz3]
theorem fp24_1 : ∀ l off : Nat, yfield Try.prog 24 1 (.ptr l off) = some (.ptr l (off + 1)) := fun _ _ => by simp [yfield, Try.underlying24, sz3]
theorem fe24_1 : ∀ xs : List C, yfield Try.prog 24 1 (.el xs) = some (.el (xs.drop 1)) := fun _ => by simp [yfield, Try.underlying24, sz3]
theorem fp24_2 : ∀ l off : Nat, yfield Try.prog 24 2 (.ptr l off) = some (.ptr l (off + 2)) := fun _ _ => by simp [yfield, Try.underlying24, sz3]
theorem fe24_2 : ∀ xs : List C, yfield Try.prog 24 2 (.el xs) = some (.el (xs.drop 2)) := fun _ => by simp [yfield, Try.underlying24, sz3]
theorem fp24_3 : ∀ l off : Nat, yfield Try.prog 24 3 (.ptr l off) = some (.ptr l (off + 3)) := fun _ _ => by simp [yfield, Try.underlying24, sz3]
theorem fe24_3 : ∀ xs : List C, yfield Try.prog 24 3 (.el xs) = some (.el (xs.drop 3)) := fun _ => by simp [yfield, Try.underlying24, sz3]
theorem bd24 : ∀ ps : List (Nat × AV), ybuild Try.prog 24 ps = (yfill (fun i => match i with | 0 => some (0, 1) | 1 => some (1, 1) | 2 => some (2, 1) | 3 => some (3, 1) | _ => none) [.c (.int .i64 0), .c (.int .i64 0), .c (.int .i64 0), .c (.int .i64 0)] ps).map .agg := by
  intro ps
  simp only [ybuild, Try.underlying24, zc24]
  rw [if_pos (by simp [if3, sz3])]
  congr 2
  funext i
  rcases i with _ | (_ | (_ | (_ | _))) <;> simp [if3, sz3]
theorem sz34 : Try.prog.cellsOf 34 = 2 := by kernel_rfl
theorem if34 : (Try.prog.info? 34).isSome = true := by kernel_rfl
theorem ag34 : isAggT Try.prog 34 = some true := by simp only [isAggT, Try.underlying34]
theorem zc34 : zc Try.prog 34 = some [.c (.int .i64 0), .c (.int .i64 0)] := by kernel_rfl
theorem by34 : Try.prog.bytesOf 34 = 16 := by kernel_rfl
theorem fp34_0 : ∀ l off : Nat, yfield Try.prog 34 0 (.ptr l off) = some (.ptr l (off + 0)) := fun _ _ => by simp [yfield, Try.underlying34, sz3]
theorem fe34_0 : ∀ xs : List C, yfield Try.prog 34 0 (.el xs) = some (.el (xs.drop 0)) := fun _ => by simp [yfield, Try.underlying34, sz3]
theorem fp34_1 : ∀ l off : Nat, yfield Try.prog 34 1 (.ptr l off) = some (.ptr l (off + 1)) := fun _ _ => by simp [yfield, Try.underlying34, sz3]
theorem fe34_1 : ∀ xs : List C, yfield Try.prog 34 1 (.el xs) = some (.el (xs.drop 1)) := fun _ => by simp [yfield, Try.underlying34, sz3]
theorem bd34 : ∀ ps : List (Nat × AV), ybuild Try.prog 34 ps = (yfill (fun i => match i with | 0 => some (0, 1) | 1 => some (1, 1) | _ => none) [.c (.int .i64 0), .c (.int .i64 0)] ps).map .agg := by
  intro ps
  simp only [ybuild, Try.underlying34, zc34]
  rw [if_pos (by simp [if3, sz3])]
  congr 2
  funext i
  rcases i with _ | (_ | _) <;> simp [if3, sz3]
theorem sz22 : Try.prog.cellsOf 22 = 1 := by kernel_rfl
theorem if22 : (Try.prog.info? 22).isSome = true := by kernel_rfl
theorem un22 : Try.prog.underlying 22 = some (.slice 34) := Try.underlying22
theorem ag22 : isAggT Try.prog 22 = some false := by simp only [isAggT, Try.underlying22]
theorem zc22 : zc Try.prog 22 = some [.nils] := by kernel_rfl
theorem by22 : Try.prog.bytesOf 22 = 24 := by kernel_rfl
theorem len_c22 : type_of% (fun {α : Type} => @len_c Try.prog 22 34 un22 α) := fun {α : Type} => @len_c Try.prog 22 34 un22 α
theorem len_o22 : type_of% (fun {α : Type} => @len_o Try.prog 22 34 un22 α) := fun {α : Type} => @len_o Try.prog 22 34 un22 α
theorem len_n22 : type_of% (@len_n Try.prog 22 34 un22) := @len_n Try.prog 22 34 un22
theorem len_e22 : type_of% (@len_e Try.prog 22 34 un22) := @len_e Try.prog 22 34 un22
theorem len_oe22 : type_of% (@len_oe Try.prog 22 34 un22) := @len_oe Try.prog 22 34 un22
theorem len_a22 : type_of% (@len_a Try.prog 22 34 un22) := @len_a Try.prog 22 34 un22
theorem sz36 : Try.prog.cellsOf 36 = 1 := by kernel_rfl
theorem if36 : (Try.prog.info? 36).isSome = true := by kernel_rfl
theorem un36 : Try.prog.underlying 36 = some (.slice 4) := Try.underlying36
theorem ag36 : isAggT Try.prog 36 = some false := by simp only [isAggT, Try.underlying36]
theorem zc36 : zc Try.prog 36 = some [.nils] := by kernel_rfl
theorem by36 : Try.prog.bytesOf 36 = 24 := by kernel_rfl
theorem len_c36 : type_of% (fun {α : Type} => @len_c Try.prog 36 4 un36 α) := fun {α : Type} => @len_c Try.prog 36 4 un36 α
theorem len_o36 : type_of% (fun {α : Type} => @len_o Try.prog 36 4 un36 α) := fun {α : Type} => @len_o Try.prog 36 4 un36 α
theorem len_n36 : type_of% (@len_n Try.prog 36 4 un36) := @len_n Try.prog 36 4 un36
theorem len_e36 : type_of% (@len_e Try.prog 36 4 un36) := @len_e Try.prog 36 4 un36
theorem len_oe36 : type_of% (@len_oe Try.prog 36 4 un36) := @len_oe Try.prog 36 4 un36
theorem len_a36 : type_of% (@len_a Try.prog 36 4 un36) := @len_a Try.prog 36 4 un36
theorem sz43 : Try.prog.cellsOf 43 = 1 := by kernel_rfl
theorem if43 : (Try.prog.info? 43).isSome = true := by kernel_rfl
theorem un43 : Try.prog.underlying 43 = some (.slice 3) := Try.underlying43
theorem ag43 : isAggT Try.prog 43 = some false := by simp only [isAggT, Try.underlying43]
theorem zc43 : zc Try.prog 43 = some [.nils] := by kernel_rfl
theorem by43 : Try.prog.bytesOf 43 = 24 := by kernel_rfl
theorem len_c43 : type_of% (fun {α : Type} => @len_c Try.prog 43 3 un43 α) := fun {α : Type} => @len_c Try.prog 43 3 un43 α
theorem len_o43 : type_of% (fun {α : Type} => @len_o Try.prog 43 3 un43 α) := fun {α : Type} => @len_o Try.prog 43 3 un43 α
theorem len_n43 : type_of% (@len_n Try.prog 43 3 un43) := @len_n Try.prog 43 3 un43
theorem len_e43 : type_of% (@len_e Try.prog 43 3 un43) := @len_e Try.prog 43 3 un43
theorem len_oe43 : type_of% (@len_oe Try.prog 43 3 un43) := @len_oe Try.prog 43 3 un43
theorem len_a43 : type_of% (@len_a Try.prog 43 3 un43) := @len_a Try.prog 43 3 un43
theorem sz116 : Try.prog.cellsOf 116 = 1 := by kernel_rfl
theorem if116 : (Try.prog.info? 116).isSome = true := by kernel_rfl
theorem un116 : Try.prog.underlying 116 = some (.slice 36) := Try.underlying116
theorem ag116 : isAggT Try.prog 116 = some false := by simp only [isAggT, Try.underlying116]
theorem zc116 : zc Try.prog 116 = some [.nils] := by kernel_rfl
theorem by116 : Try.prog.bytesOf 116 = 24 := by kernel_rfl
theorem len_c116 : type_of% (fun {α : Type} => @len_c Try.prog 116 36 un116 α) := fun {α : Type} => @len_c Try.prog 116 36 un116 α
theorem len_o116 : type_of% (fun {α : Type} => @len_o Try.prog 116 36 un116 α) := fun {α : Type} => @len_o Try.prog 116 36 un116 α
theorem len_n116 : type_of% (@len_n Try.prog 116 36 un116) := @len_n Try.prog 116 36 un116
theorem len_e116 : type_of% (@len_e Try.prog 116 36 un116) := @len_e Try.prog 116 36 un116
theorem len_oe116 : type_of% (@len_oe Try.prog 116 36 un116) := @len_oe Try.prog 116 36 un116
theorem len_a116 : type_of% (@len_a Try.prog 116 36 un116) := @len_a Try.prog 116 36 un116
theorem sz58 : Try.prog.cellsOf 58 = 4 := by kernel_rfl
theorem if58 : (Try.prog.info? 58).isSome = true := by kernel_rfl
theorem ag58 : isAggT Try.prog 58 = some true := by simp only [isAggT, Try.underlying58]
theorem zc58 : zc Try.prog 58 = some [.c (.int .i64 0), .c (.int .i64 0), .c (.int .i64 0), .nils] := by kernel_rfl
theorem by58 : Try.prog.bytesOf 58 = 48 := by kernel_rfl
theorem fp58_0 : ∀ l off : Nat, yfield Try.prog 58 0 (.ptr l off) = some (.ptr l (off + 0)) := fun _ _ => by simp [yfield, Try.underlying58, sz3]
theorem fe58_0 : ∀ xs : List C, yfield Try.prog 58 0 (.el xs) = some (.el (xs.drop 0)) := fun _ => by simp [yfield, Try.underlying58, sz3]
theorem fp58_1 : ∀ l off : Nat, yfield Try.prog 58 1 (.ptr l off) = some (.ptr l (off + 1)) := fun _ _ => by simp [yfield, Try.underlying58, sz3]
theorem fe58_1 : ∀ xs : List C, yfield Try.prog 58 1 (.el xs) = some (.el (xs.drop 1)) := fun _ => by simp [yfield, Try.underlying58, sz3]
theorem fp58_2 : ∀ l off : Nat, yfield Try.prog 58 2 (.ptr l off) = some (.ptr l (off + 2)) := fun _ _ => by simp [yfield, Try.underlying58, sz3]
theorem fe58_2 : ∀ xs : List C, yfield Try.prog 58 2 (.el xs) = some (.el (xs.drop 2)) := fun _ => by simp [yfield, Try.underlying58, sz3]
theorem fp58_3 : ∀ l off : Nat, yfield Try.prog 58 3 (.ptr l off) = some (.ptr l (off + 3)) := fun _ _ => by simp [yfield, Try.underlying58, sz36]
theorem fe58_3 : ∀ xs : List C, yfield Try.prog 58 3 (.el xs) = some (.el (xs.drop 3)) := fun _ => by simp [yfield, Try.underlying58, sz36]
theorem bd58 : ∀ ps : List (Nat × AV), ybuild Try.prog 58 ps = (yfill (fun i => match i with | 0 => some (0, 1) | 1 => some (1, 1) | 2 => some (2, 1) | 3 => some (3, 1) | _ => none) [.c (.int .i64 0), .c (.int .i64 0), .c (.int .i64 0), .nils] ps).map .agg := by
  intro ps
  simp only [ybuild, Try.underlying58, zc58]
  rw [if_pos (by simp [if3, sz3, if36, sz36])]
  congr 2
  funext i
  rcases i with _ | (_ | (_ | (_ | _))) <;> simp [if3, sz3, if36, sz36]
theorem sz76 : Try.prog.cellsOf 76 = 1 := by kernel_rfl
theorem if76 : (Try.prog.info? 76).isSome = true := by kernel_rfl
theorem un76 : Try.prog.underlying 76 = some (.slice 58) := Try.underlying76
theorem ag76 : isAggT Try.prog 76 = some false := by simp only [isAggT, Try.underlying76]
theorem zc76 : zc Try.prog 76 = some [.nils] := by kernel_rfl
theorem by76 : Try.prog.bytesOf 76 = 24 := by kernel_rfl
theorem len_c76 : type_of% (fun {α : Type} => @len_c Try.prog 76 58 un76 α) := fun {α : Type} => @len_c Try.prog 76 58 un76 α
theorem len_o76 : type_of% (fun {α : Type} => @len_o Try.prog 76 58 un76 α) := fun {α : Type} => @len_o Try.prog 76 58 un76 α
theorem len_n76 : type_of% (@len_n Try.prog 76 58 un76) := @len_n Try.prog 76 58 un76
theorem len_e76 : type_of% (@len_e Try.prog 76 58 un76) := @len_e Try.prog 76 58 un76
theorem len_oe76 : type_of% (@len_oe Try.prog 76 58 un76) := @len_oe Try.prog 76 58 un76
theorem len_a76 : type_of% (@len_a Try.prog 76 58 un76) := @len_a Try.prog 76 58 un76
theorem sz78 : Try.prog.cellsOf 78 = 2 := by kernel_rfl
theorem if78 : (Try.prog.info? 78).isSome = true := by kernel_rfl
theorem ag78 : isAggT Try.prog 78 = some true := by simp only [isAggT, Try.underlying78]
theorem zc78 : zc Try.prog 78 = some [.nils, .nils] := by kernel_rfl
theorem by78 : Try.prog.bytesOf 78 = 48 := by kernel_rfl
theorem fp78_0 : ∀ l off : Nat, yfield Try.prog 78 0 (.ptr l off) = some (.ptr l (off + 0)) := fun _ _ => by simp [yfield, Try.underlying78, sz76]
theorem fe78_0 : ∀ xs : List C, yfield Try.prog 78 0 (.el xs) = some (.el (xs.drop 0)) := fun _ => by simp [yfield, Try.underlying78, sz76]
theorem fp78_1 : ∀ l off : Nat, yfield Try.prog 78 1 (.ptr l off) = some (.ptr l (off + 1)) := fun _ _ => by simp [yfield, Try.underlying78, sz22]
theorem fe78_1 : ∀ xs : List C, yfield Try.prog 78 1 (.el xs) = some (.el (xs.drop 1)) := fun _ => by simp [yfield, Try.underlying78, sz22]
theorem bd78 : ∀ ps : List (Nat × AV), ybuild Try.prog 78 ps = (yfill (fun i => match i with | 0 => some (0, 1) | 1 => some (1, 1) | _ => none) [.nils, .nils] ps).map .agg := by
  intro ps
  simp only [ybuild, Try.underlying78, zc78]
  rw [if_pos (by simp [if22, sz22, if76, sz76])]
  congr 2
  funext i
  rcases i with _ | (_ | _) <;> simp [if22, sz22, if76, sz76]
theorem sz65 : Try.prog.cellsOf 65 = 1 := by kernel_rfl
theorem if65 : (Try.prog.info? 65).isSome = true := by kernel_rfl
theorem un65 : Try.prog.underlying 65 = some (.slice 78) := Try.underlying65
theorem ag65 : isAggT Try.prog 65 = some false := by simp only [isAggT, Try.underlying65]
theorem zc65 : zc Try.prog 65 = some [.nils] := by kernel_rfl
theorem by65 : Try.prog.bytesOf 65 = 24 := by kernel_rfl
theorem len_c65 : type_of% (fun {α : Type} => @len_c Try.prog 65 78 un65 α) := fun {α : Type} => @len_c Try.prog 65 78 un65 α
theorem len_o65 : type_of% (fun {α : Type} => @len_o Try.prog 65 78 un65 α) := fun {α : Type} => @len_o Try.prog 65 78 un65 α
theorem len_n65 : type_of% (@len_n Try.prog 65 78 un65) := @len_n Try.prog 65 78 un65
theorem len_e65 : type_of% (@len_e Try.prog 65 78 un65) := @len_e Try.prog 65 78 un65
theorem len_oe65 : type_of% (@len_oe Try.prog 65 78 un65) := @len_oe Try.prog 65 78 un65
theorem len_a65 : type_of% (@len_a Try.prog 65 78 un65) := @len_a Try.prog 65 78 un65
theorem sz67 : Try.prog.cellsOf 67 = 1 := by kernel_rfl
theorem if67 : (Try.prog.info? 67).isSome = true := by kernel_rfl
theorem ag67 : isAggT Try.prog 67 = some true := by simp only [isAggT, Try.underlying67]
theorem zc67 : zc Try.prog 67 = some [.nils] := by kernel_rfl
theorem by67 : Try.prog.bytesOf 67 = 24 := by kernel_rfl
theorem fp67_0 : ∀ l off : Nat, yfield Try.prog 67 0 (.ptr l off) = some (.ptr l (off + 0)) := fun _ _ => by simp [yfield, Try.underlying67, sz65]
theorem fe67_0 : ∀ xs : List C, yfield Try.prog 67 0 (.el xs) = some (.el (xs.drop 0)) := fun _ => by simp [yfield, Try.underlying67, sz65]
theorem bd67 : ∀ ps : List (Nat × AV), ybuild Try.prog 67 ps = (yfill (fun i => match i with | 0 => some (0, 1) | _ => none) [.nils] ps).map .agg := by
  intro ps
  simp only [ybuild, Try.underlying67, zc67]
  rw [if_pos (by simp [if65, sz65])]
  congr 2
  funext i
  rcases i with _ | _ <;> simp [if65, sz65]
theorem sz97 : Try.prog.cellsOf 97 = 3 := by kernel_rfl
theorem if97 : (Try.prog.info? 97).isSome = true := by kernel_rfl
theorem ag97 : isAggT Try.prog 97 = some true := by simp only [isAggT, Try.underlying97]
theorem zc97 : zc Try.prog 97 = some [.c (.int .i64 0), .c (.int .i64 0), .c (.int .i64 0)] := by kernel_rfl
theorem by97 : Try.prog.bytesOf 97 = 24 := by kernel_rfl
theorem fp97_0 : ∀ l off : Nat, yfield Try.prog 97 0 (.ptr l off) = some (.ptr l (off + 0)) := fun _ _ => by simp [yfield, Try.underlying97, sz3]
theorem fe97_0 : ∀ xs : List C, yfield Try.prog 97 0 (.el xs) = some (.el (xs.drop 0)) := fun _ => by simp [yfield, Try.underlying97, sz3]
theorem fp97_1 : ∀ l off : Nat, yfield Try.prog 97 1 (.ptr l off) = some (.ptr l (off + 1)) := fun _ _ => by simp [yfield, Try.underlying97, sz3]
theorem fe97_1 : ∀ xs : List C, yfield Try.prog 97 1 (.el xs) = some (.el (xs.drop 1)) := fun _ => by simp [yfield, Try.underlying97, sz3]
theorem fp97_2 : ∀ l off : Nat, yfield Try.prog 97 2 (.ptr l off) = some (.ptr l (off + 2)) := fun _ _ => by simp [yfield, Try.underlying97, sz3]
theorem fe97_2 : ∀ xs : List C, yfield Try.prog 97 2 (.el xs) = some (.el (xs.drop 2)) := fun _ => by simp [yfield, Try.underlying97, sz3]
theorem bd97 : ∀ ps : List (Nat × AV), ybuild Try.prog 97 ps = (yfill (fun i => match i with | 0 => some (0, 1) | 1 => some (1, 1) | 2 => some (2, 1) | _ => none) [.c (.int .i64 0), .c (.int .i64 0), .c (.int .i64 0)] ps).map .agg := by
  intro ps
  simp only [ybuild, Try.underlying97, zc97]
  rw [if_pos (by simp [if3, sz3])]
  congr 2
  funext i
  rcases i with _ | (_ | (_ | _)) <;> simp [if3, sz3]
theorem sz86 : Try.prog.cellsOf 86 = 1 := by kernel_rfl
theorem if86 : (Try.prog.info? 86).isSome = true := by kernel_rfl
theorem un86 : Try.prog.underlying 86 = some (.slice 97) := Try.underlying86
theorem ag86 : isAggT Try.prog 86 = some false := by simp only [isAggT, Try.underlying86]
theorem zc86 : zc Try.prog 86 = some [.nils] := by kernel_rfl
theorem by86 : Try.prog.bytesOf 86 = 24 := by kernel_rfl
theorem len_c86 : type_of% (fun {α : Type} => @len_c Try.prog 86 97 un86 α) := fun {α : Type} => @len_c Try.prog 86 97 un86 α
theorem len_o86 : type_of% (fun {α : Type} => @len_o Try.prog 86 97 un86 α) := fun {α : Type} => @len_o Try.prog 86 97 un86 α
theorem len_n86 : type_of% (@len_n Try.prog 86 97 un86) := @len_n Try.prog 86 97 un86
theorem len_e86 : type_of% (@len_e Try.prog 86 97 un86) := @len_e Try.prog 86 97 un86
theorem len_oe86 : type_of% (@len_oe Try.prog 86 97 un86) := @len_oe Try.prog 86 97 un86
theorem len_a86 : type_of% (@len_a Try.prog 86 97 un86) := @len_a Try.prog 86 97 un86
theorem sz83 : Try.prog.cellsOf 83 = 5 := by kernel_rfl
theorem if83 : (Try.prog.info? 83).isSome = true := by kernel_rfl
theorem ag83 : isAggT Try.prog 83 = some true := by simp only [isAggT, Try.underlying83]
theorem zc83 : zc Try.prog 83 = some [.c (.int .i64 0), .c (.int .i64 0), .c (.int .i64 0), .c (.int .i64 0), .c (.int .i64 0)] := by kernel_rfl
theorem by83 : Try.prog.bytesOf 83 = 40 := by kernel_rfl
theorem fp83_0 : ∀ l off : Nat, yfield Try.prog 83 0 (.ptr l off) = some (.ptr l (off + 0)) := fun _ _ => by simp [yfield, Try.underlying83, sz3]
theorem fe83_0 : ∀ xs : List C, yfield Try.prog 83 0 (.el xs) = some (.el (xs.drop 0)) := fun _ => by simp [yfield, Try.underlying83, sz3]
theorem fp83_1 : ∀ l off : Nat, yfield Try.prog 83 1 (.ptr l off) = some (.ptr l (off + 1)) := fun _ _ => by simp [yfield, Try.underlying83, sz24]
theorem fe83_1 : ∀ xs : List C, yfield Try.prog 83 1 (.el xs) = some (.el (xs.drop 1)) := fun _ => by simp [yfield, Try.underlying83, sz24]
theorem bd83 : ∀ ps : List (Nat × AV), ybuild Try.prog 83 ps = (yfill (fun i => match i with | 0 => some (0, 1) | 1 => some (1, 4) | _ => none) [.c (.int .i64 0), .c (.int .i64 0), .c (.int .i64 0), .c (.int .i64 0), .c (.int .i64 0)] ps).map .agg := by
  intro ps
  simp only [ybuild, Try.underlying83, zc83]
  rw [if_pos (by simp [if24, sz24, if3, sz3])]
  congr 2
  funext i
  rcases i with _ | (_ | _) <;> simp [if24, sz24, if3, sz3]
theorem sz69 : Try.prog.cellsOf 69 = 1 := by kernel_rfl
theorem if69 : (Try.prog.info? 69).isSome = true := by kernel_rfl
theorem un69 : Try.prog.underlying 69 = some (.slice 83) := Try.underlying69
theorem ag69 : isAggT Try.prog 69 = some false := by simp only [isAggT, Try.underlying69]
theorem zc69 : zc Try.prog 69 = some [.nils] := by kernel_rfl
theorem by69 : Try.prog.bytesOf 69 = 24 := by kernel_rfl
theorem len_c69 : type_of% (fun {α : Type} => @len_c Try.prog 69 83 un69 α) := fun {α : Type} => @len_c Try.prog 69 83 un69 α
theorem len_o69 : type_of% (fun {α : Type} => @len_o Try.prog 69 83 un69 α) := fun {α : Type} => @len_o Try.prog 69 83 un69 α
theorem len_n69 : type_of% (@len_n Try.prog 69 83 un69) := @len_n Try.prog 69 83 un69
theorem len_e69 : type_of% (@len_e Try.prog 69 83 un69) := @len_e Try.prog 69 83 un69
theorem len_oe69 : type_of% (@len_oe Try.prog 69 83 un69) := @len_oe Try.prog 69 83 un69
theorem len_a69 : type_of% (@len_a Try.prog 69 83 un69) := @len_a Try.prog 69 83 un69
theorem sz104 : Try.prog.cellsOf 104 = 4 := by kernel_rfl
theorem if104 : (Try.prog.info? 104).isSome = true := by kernel_rfl
theorem ag104 : isAggT Try.prog 104 = some true := by simp only [isAggT, Try.underlying104]
theorem zc104 : zc Try.prog 104 = some [.c (.int .i64 0), .c (.int .i64 0), .c (.int .i64 0), .nils] := by kernel_rfl
theorem by104 : Try.prog.bytesOf 104 = 48 := by kernel_rfl
theorem fp104_0 : ∀ l off : Nat, yfield Try.prog 104 0 (.ptr l off) = some (.ptr l (off + 0)) := fun _ _ => by simp [yfield, Try.underlying104, sz3]
theorem fe104_0 : ∀ xs : List C, yfield Try.prog 104 0 (.el xs) = some (.el (xs.drop 0)) := fun _ => by simp [yfield, Try.underlying104, sz3]
theorem fp104_1 : ∀ l off : Nat, yfield Try.prog 104 1 (.ptr l off) = some (.ptr l (off + 1)) := fun _ _ => by simp [yfield, Try.underlying104, sz3]
theorem fe104_1 : ∀ xs : List C, yfield Try.prog 104 1 (.el xs) = some (.el (xs.drop 1)) := fun _ => by simp [yfield, Try.underlying104, sz3]
theorem fp104_2 : ∀ l off : Nat, yfield Try.prog 104 2 (.ptr l off) = some (.ptr l (off + 2)) := fun _ _ => by simp [yfield, Try.underlying104, sz3]
theorem fe104_2 : ∀ xs : List C, yfield Try.prog 104 2 (.el xs) = some (.el (xs.drop 2)) := fun _ => by simp [yfield, Try.underlying104, sz3]
theorem fp104_3 : ∀ l off : Nat, yfield Try.prog 104 3 (.ptr l off) = some (.ptr l (off + 3)) := fun _ _ => by simp [yfield, Try.underlying104, sz86]
theorem fe104_3 : ∀ xs : List C, yfield Try.prog 104 3 (.el xs) = some (.el (xs.drop 3)) := fun _ => by simp [yfield, Try.underlying104, sz86]
theorem bd104 : ∀ ps : List (Nat × AV), ybuild Try.prog 104 ps = (yfill (fun i => match i with | 0 => some (0, 1) | 1 => some (1, 1) | 2 => some (2, 1) | 3 => some (3, 1) | _ => none) [.c (.int .i64 0), .c (.int .i64 0), .c (.int .i64 0), .nils] ps).map .agg := by
  intro ps
  simp only [ybuild, Try.underlying104, zc104]
  rw [if_pos (by simp [if3, sz3, if86, sz86])]
  congr 2
  funext i
  rcases i with _ | (_ | (_ | (_ | _))) <;> simp [if3, sz3, if86, sz86]
theorem sz101 : Try.prog.cellsOf 101 = 1 := by kernel_rfl
theorem if101 : (Try.prog.info? 101).isSome = true := by kernel_rfl
theorem un101 : Try.prog.underlying 101 = some (.slice 104) := Try.underlying101
theorem ag101 : isAggT Try.prog 101 = some false := by simp only [isAggT, Try.underlying101]
theorem zc101 : zc Try.prog 101 = some [.nils] := by kernel_rfl
theorem by101 : Try.prog.bytesOf 101 = 24 := by kernel_rfl
theorem len_c101 : type_of% (fun {α : Type} => @len_c Try.prog 101 104 un101 α) := fun {α : Type} => @len_c Try.prog 101 104 un101 α
theorem len_o101 : type_of% (fun {α : Type} => @len_o Try.prog 101 104 un101 α) := fun {α : Type} => @len_o Try.prog 101 104 un101 α
theorem len_n101 : type_of% (@len_n Try.prog 101 104 un101) := @len_n Try.prog 101 104 un101
theorem len_e101 : type_of% (@len_e Try.prog 101 104 un101) := @len_e Try.prog 101 104 un101
theorem len_oe101 : type_of% (@len_oe Try.prog 101 104 un101) := @len_oe Try.prog 101 104 un101
theorem len_a101 : type_of% (@len_a Try.prog 101 104 un101) := @len_a Try.prog 101 104 un101
theorem tyf : type_of% (And.intro @sz3 <| And.intro @if3 <| And.intro @un3 <| And.intro @ag3 <| And.intro @zc3 <| And.intro @by3 <| And.intro @sz4 <| And.intro @if4 <| And.intro @un4 <| And.intro @ag4 <| And.intro @zc4 <| And.intro @by4 <| And.intro @be4 <| And.intro @bn4 <| And.intro @sz31 <| And.intro @if31 <| And.intro @un31 <| And.intro @ag31 <| And.intro @zc31 <| And.intro @by31 <| And.intro @sz24 <| And.intro @if24 <| And.intro @ag24 <| And.intro @zc24 <| And.intro @by24 <| And.intro @fp24_0 <| And.intro @fe24_0 <| And.intro @fp24_1 <| And.intro @fe24_1 <| And.intro @fp24_2 <| And.intro @fe24_2 <| And.intro @fp24_3 <| And.intro @fe24_3 <| And.intro @bd24 <| And.intro @sz34 <| And.intro @if34 <| And.intro @ag34 <| And.intro @zc34 <| And.intro @by34 <| And.intro @fp34_0 <| And.intro @fe34_0 <| And.intro @fp34_1 <| And.intro @fe34_1 <| And.intro @bd34 <| And.intro @sz22 <| And.intro @if22 <| And.intro @un22 <| And.intro @ag22 <| And.intro @zc22 <| And.intro @by22 <| And.intro @len_c22 <| And.intro @len_o22 <| And.intro @len_n22 <| And.intro @len_e22 <| And.intro @len_oe22 <| And.intro @len_a22 <| And.intro @sz36 <| And.intro @if36 <| And.intro @un36 <| And.intro @ag36 <| And.intro @zc36 <| And.intro @by36 <| And.intro @len_c36 <| And.intro @len_o36 <| And.intro @len_n36 <| And.intro @len_e36 <| And.intro @len_oe36 <| And.intro @len_a36 <| And.intro @sz43 <| And.intro @if43 <| And.intro @un43 <| And.intro @ag43 <| And.intro @zc43 <| And.intro @by43 <| And.intro @len_c43 <| And.intro @len_o43 <| And.intro @len_n43 <| And.intro @len_e43 <| And.intro @len_oe43 <| And.intro @len_a43 <| And.intro @sz116 <| And.intro @if116 <| And.intro @un116 <| And.intro @ag116 <| And.intro @zc116 <| And.intro @by116 <| And.intro @len_c116 <| And.intro @len_o116 <| And.intro @len_n116 <| And.intro @len_e116 <| And.intro @len_oe116 <| And.intro @len_a116 <| And.intro @sz58 <| And.intro @if58 <| And.intro @ag58 <| And.intro @zc58 <| And.intro @by58 <| And.intro @fp58_0 <| And.intro @fe58_0 <| And.intro @fp58_1 <| And.intro @fe58_1 <| And.intro @fp58_2 <| And.intro @fe58_2 <| And.intro @fp58_3 <| And.intro @fe58_3 <| And.intro @bd58 <| And.intro @sz76 <| And.intro @if76 <| And.intro @un76 <| And.intro @ag76 <| And.intro @zc76 <| And.intro @by76 <| And.intro @len_c76 <| And.intro @len_o76 <| And.intro @len_n76 <| And.intro @len_e76 <| And.intro @len_oe76 <| And.intro @len_a76 <| And.intro @sz78 <| And.intro @if78 <| And.intro @ag78 <| And.intro @zc78 <| And.intro @by78 <| And.intro @fp78_0 <| And.intro @fe78_0 <| And.intro @fp78_1 <| And.intro @fe78_1 <| And.intro @bd78 <| And.intro @sz65 <| And.intro @if65 <| And.intro @un65 <| And.intro @ag65 <| And.intro @zc65 <| And.intro @by65 <| And.intro @len_c65 <| And.intro @len_o65 <| And.intro @len_n65 <| And.intro @len_e65 <| And.intro @len_oe65 <| And.intro @len_a65 <| And.intro @sz67 <| And.intro @if67 <| And.intro @ag67 <| And.intro @zc67 <| And.intro @by67 <| And.intro @fp67_0 <| And.intro @fe67_0 <| And.intro @bd67 <| And.intro @sz97 <| And.intro @if97 <| And.intro @ag97 <| And.intro @zc97 <| And.intro @by97 <| And.intro @fp97_0 <| And.intro @fe97_0 <| And.intro @fp97_1 <| And.intro @fe97_1 <| And.intro @fp97_2 <| And.intro @fe97_2 <| And.intro @bd97 <| And.intro @sz86 <| And.intro @if86 <| And.intro @un86 <| And.intro @ag86 <| And.intro @zc86 <| And.intro @by86 <| And.intro @len_c86 <| And.intro @len_o86 <| And.intro @len_n86 <| And.intro @len_e86 <| And.intro @len_oe86 <| And.intro @len_a86 <| And.intro @sz83 <| And.intro @if83 <| And.intro @ag83 <| And.intro @zc83 <| And.intro @by83 <| And.intro @fp83_0 <| And.intro @fe83_0 <| And.intro @fp83_1 <| And.intro @fe83_1 <| And.intro @bd83 <| And.intro @sz69 <| And.intro @if69 <| And.intro @un69 <| And.intro @ag69 <| And.intro @zc69 <| And.intro @by69 <| And.intro @len_c69 <| And.intro @len_o69 <| And.intro @len_n69 <| And.intro @len_e69 <| And.intro @len_oe69 <| And.intro @len_a69 <| And.intro @sz104 <| And.intro @if104 <| And.intro @ag104 <| And.intro @zc104 <| And.intro @by104 <| And.intro @fp104_0 <| And.intro @fe104_0 <| And.intro @fp104_1 <| And.intro @fe104_1 <| And.intro @fp104_2 <| And.intro @fe104_2 <| And.intro @fp104_3 <| And.intro @fe104_3 <| And.intro @bd104 <| And.intro @sz101 <| And.intro @if101 <| And.intro @un101 <| And.intro @ag101 <| And.intro @zc101 <| And.intro @by101 <| And.intro @len_c101 <| And.intro @len_o101 <| And.intro @len_n101 <| And.intro @len_e101 <| And.intro @len_oe101 <| @len_a101) := And.intro @sz3 <| And.intro @if3 <| And.intro @un3 <| And.intro @ag3 <| And.intro @zc3 <| And.intro @by3 <| And.intro @sz4 <| And.intro @if4 <| And.intro @un4 <| And.intro @ag4 <| And.intro @zc4 <| And.intro @by4 <| And.intro @be4 <| And.intro @bn4 <| And.intro @sz31 <| And.intro @if31 <| And.intro @un31 <| And.intro @ag31 <| And.intro @zc31 <| And.intro @by31 <| And.intro @sz24 <| And.intro @if24 <| And.intro @ag24 <| And.intro @zc24 <| And.intro @by24 <| And.intro @fp24_0 <| And.intro @fe24_0 <| And.intro @fp24_1 <| And.intro @fe24_1 <| And.intro @fp24_2 <| And.intro @fe24_2 <| And.intro @fp24_3 <| And.intro @fe24_3 <| And.intro @bd24 <| And.intro @sz34 <| And.intro @if34 <| And.intro @ag34 <| And.intro @zc34 <| And.intro @by34 <| And.intro @fp34_0 <| And.intro @fe34_0 <| And.intro @fp34_1 <| And.intro @fe34_1 <| And.intro @bd34 <| And.intro @sz22 <| And.intro @if22 <| And.intro @un22 <| And.intro @ag22 <| And.intro @zc22 <| And.intro @by22 <| And.intro @len_c22 <| And.intro @len_o22 <| And.intro @len_n22 <| And.intro @len_e22 <| And.intro @len_oe22 <| And.intro @len_a22 <| And.intro @sz36 <| And.intro @if36 <| And.intro @un36 <| And.intro @ag36 <| And.intro @zc36 <| And.intro @by36 <| And.intro @len_c36 <| And.intro @len_o36 <| And.intro @len_n36 <| And.intro @len_e36 <| And.intro @len_oe36 <| And.intro @len_a36 <| And.intro @sz43 <| And.intro @if43 <| And.intro @un43 <| And.intro @ag43 <| And.intro @zc43 <| And.intro @by43 <| And.intro @len_c43 <| And.intro @len_o43 <| And.intro @len_n43 <| And.intro @len_e43 <| And.intro @len_oe43 <| And.intro @len_a43 <| And.intro @sz116 <| And.intro @if116 <| And.intro @un116 <| And.intro @ag116 <| And.intro @zc116 <| And.intro @by116 <| And.intro @len_c116 <| And.intro @len_o116 <| And.intro @len_n116 <| And.intro @len_e116 <| And.intro @len_oe116 <| And.intro @len_a116 <| And.intro @sz58 <| And.intro @if58 <| And.intro @ag58 <| And.intro @zc58 <| And.intro @by58 <| And.intro @fp58_0 <| And.intro @fe58_0 <| And.intro @fp58_1 <| And.intro @fe58_1 <| And.intro @fp58_2 <| And.intro @fe58_2 <| And.intro @fp58_3 <| And.intro @fe58_3 <| And.intro @bd58 <| And.intro @sz76 <| And.intro @if76 <| And.intro @un76 <| And.intro @ag76 <| And.intro @zc76 <| And.intro @by76 <| And.intro @len_c76 <| And.intro @len_o76 <| And.intro @len_n76 <| And.intro @len_e76 <| And.intro @len_oe76 <| And.intro @len_a76 <| And.intro @sz78 <| And.intro @if78 <| And.intro @ag78 <| And.intro @zc78 <| And.intro @by78 <| And.intro @fp78_0 <| And.intro @fe78_0 <| And.intro @fp78_1 <| And.intro @fe78_1 <| And.intro @bd78 <| And.intro @sz65 <| And.intro @if65 <| And.intro @un65 <| And.intro @ag65 <| And.intro @zc65 <| And.intro @by65 <| And.intro @len_c65 <| And.intro @len_o65 <| And.intro @len_n65 <| And.intro @len_e65 <| And.intro @len_oe65 <| And.intro @len_a65 <| And.intro @sz67 <| And.intro @if67 <| And.intro @ag67 <| And.intro @zc67 <| And.intro @by67 <| And.intro @fp67_0 <| And.intro @fe67_0 <| And.intro @bd67 <| And.intro @sz97 <| And.intro @if97 <| And.intro @ag97 <| And.intro @zc97 <| And.intro @by97 <| And.intro @fp97_0 <| And.intro @fe97_0 <| And.intro @fp97_1 <| And.intro @fe97_1 <| And.intro @fp97_2 <| And.intro @fe97_2 <| And.intro @bd97 <| And.intro @sz86 <| And.intro @if86 <| And.intro @un86 <| And.intro @ag86 <| And.intro @zc86 <| And.intro @by86 <| And.intro @len_c86 <| And.intro @len_o86 <| And.intro @len_n86 <| And.intro @len_e86 <| And.intro @len_oe86 <| And.intro @len_a86 <| And.intro @sz83 <| And.intro @if83 <| And.intro @ag83 <| And.intro @zc83 <| And.intro @by83 <| And.intro @fp83_0 <| And.intro @fe83_0 <| And.intro @fp83_1 <| And.intro @fe83_1 <| And.intro @bd83 <| And.intro @sz69 <| And.intro @if69 <| And.intro @un69 <| And.intro @ag69 <| And.intro @zc69 <| And.intro @by69 <| And.intro @len_c69 <| And.intro @len_o69 <| And.intro @len_n69 <| And.intro @len_e69 <| And.intro @len_oe69 <| And.intro @len_a69 <| And.intro @sz104 <| And.intro @if104 <| And.intro @ag104 <| And.intro @zc104 <| And.intro @by104 <| And.intro @fp104_0 <| And.intro @fe104_0 <| And.intro @fp104_1 <| And.intro @fe104_1 <| And.intro @fp104_2 <| And.intro @fe104_2 <| And.intro @fp104_3 <| And.intro @fe104_3 <| And.intro @bd104 <| And.intro @sz101 <| And.intro @if101 <| And.intro @un101 <| And.intro @ag101 <| And.intro @zc101 <| And.intro @by101 <| And.intro @len_c101 <| And.intro @len_o101 <| And.intro @len_n101 <| And.intro @len_e101 <| And.intro @len_oe101 <| @len_a101
theorem eqi24 : EqInts Try.prog 24 4 := eqInts_flat Try.underlying24 rfl (by kernel_rfl) (by kernel_rfl) (by kernel_rfl)
theorem eqi34 : EqInts Try.prog 34 2 := eqInts_flat Try.underlying34 rfl (by kernel_rfl) (by kernel_rfl) (by kernel_rfl)
theorem eqi97 : EqInts Try.prog 97 3 := eqInts_flat Try.underlying97 rfl (by kernel_rfl) (by kernel_rfl) (by kernel_rfl)
def bkC (b : Bk) : List C := [.int .i64 b.n, .int .i64 b.fr, .int .i64 b.to, .sl 4 (Rw boC b.bits)]
def rowC (r : Rowd) : List C := [.sl 58 (Rw bkC r.blocks), .sl 34 (Rw Pt.cs r.head)]
def rcC (r : Rc) : List C := [.int .i64 r.kind, .int .i64 r.series, .int .i64 r.n, .sl 97 (Rw Ent.cs r.e)]
theorem csR1 : (∀ b : Bk, bkC b = [.int .i64 b.n, .int .i64 b.fr, .int .i64 b.to, .sl 4 (Rw boC b.bits)]) ∧ (∀ r : Rowd, rowC r = [.sl 58 (Rw bkC r.blocks), .sl 34 (Rw Pt.cs r.head)]) ∧
    (∀ r : Rc, rcC r = [.int .i64 r.kind, .int .i64 r.series, .int .i64 r.n, .sl 97 (Rw Ent.cs r.e)]) := ⟨fun _ => rfl, fun _ => rfl, fun _ => rfl⟩
theorem csR : type_of% (And.intro csR0 csR1) := And.intro csR0 csR1

theorem qq : type_of% (And.intro @q0 <| And.intro @kz <| And.intro @kv <| And.intro @ka <| And.intro @kf <| And.intro @km <| And.intro @y_and <| And.intro @rwR <| And.intro @enR <| And.intro @csR <| @tyf) := And.intro @q0 <| And.intro @kz <| And.intro @kv <| And.intro @ka <| And.intro @kf <| And.intro @km <| And.intro @y_and <| And.intro @rwR <| And.intro @enR <| And.intro @csR <| @tyf
end Go.Proofs.Y
