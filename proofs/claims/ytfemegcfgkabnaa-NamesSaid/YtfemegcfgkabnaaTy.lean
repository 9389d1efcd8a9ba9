/-
  What is proved: facts on the types of the program, and codes of its data. Conditions: none.
-/
import Derived.Test.YtfemegcfgkabnaaProg
import Derived.KernelRfl
import Derived.Test.YtfemegcfgkabnaaPA
set_option linter.unusedVariables false
set_option linter.unusedSimpArgs false
set_option maxRecDepth 4000
namespace Go.Proofs.Y
open Go.Rb
theorem sz3 : Try.prog.cellsOf 3 = 1 := by kernel_rfl
theorem if3 : (Try.prog.info? 3).isSome = true := by kernel_rfl
theorem un3 : Try.prog.underlying 3 = some (.int .i64) := Try.underlying3
theorem ag3 : isAggT Try.prog 3 = some false := by simp only [isAggT, Try.underlying3]
theorem zc3 : zc Try.prog 3 = some [.c (.int .i64 0)] := by kernel_rfl
theorem by3 : Try.prog.bytesOf 3 = 8 := by kernel_rfl
theorem sz4 : Try.prog.cellsOf 4 = 1 := by kernel_rfl
theorem if4 : (Try.prog.info? 4).isSome = true := by kernel_rfl
theorem un4 : Try.prog.underlying 4 = some .bool := Try.underlying4
theorem ag4 : isAggT Try.prog 4 = some false := by simp only [isAggT, Try.underlying4]
theorem zc4 : zc Try.prog 4 = some [.c (.bool false)] := by kernel_rfl
theorem by4 : Try.prog.bytesOf 4 = 1 := by kernel_rfl
theorem be4 : ∀ a b : Bool, ybin Try.prog .eql 4 (.c (.bool a)) (.c (.bool b)) = some (.c (.bool (a == b))) := fun a b => by simp [ybin, un4]
theorem bn4 : ∀ a b : Bool, ybin Try.prog .neq 4 (.c (.bool a)) (.c (.bool b)) = some (.c (.bool (!(a == b)))) := fun a b => by simp [ybin, un4]
theorem sz22 : Try.prog.cellsOf 22 = 1 := by kernel_rfl
theorem if22 : (Try.prog.info? 22).isSome = true := by kernel_rfl
theorem un22 : Try.prog.underlying 22 = some (.int .i64) := Try.underlying22
theorem ag22 : isAggT Try.prog 22 = some false := by simp only [isAggT, Try.underlying22]
theorem zc22 : zc Try.prog 22 = some [.c (.int .i64 0)] := by kernel_rfl
theorem by22 : Try.prog.bytesOf 22 = 8 := by kernel_rfl
theorem sz24 : Try.prog.cellsOf 24 = 1 := by kernel_rfl
theorem if24 : (Try.prog.info? 24).isSome = true := by kernel_rfl
theorem un24 : Try.prog.underlying 24 = some (.slice 3) := Try.underlying24
theorem ag24 : isAggT Try.prog 24 = some false := by simp only [isAggT, Try.underlying24]
theorem zc24 : zc Try.prog 24 = some [.nils] := by kernel_rfl
theorem by24 : Try.prog.bytesOf 24 = 24 := by kernel_rfl
theorem len_c24 : type_of% (fun {α : Type} => @len_c Try.prog 24 3 un24 α) := fun {α : Type} => @len_c Try.prog 24 3 un24 α
theorem len_o24 : type_of% (fun {α : Type} => @len_o Try.prog 24 3 un24 α) := fun {α : Type} => @len_o Try.prog 24 3 un24 α
theorem len_n24 : type_of% (@len_n Try.prog 24 3 un24) := @len_n Try.prog 24 3 un24
theorem len_e24 : type_of% (@len_e Try.prog 24 3 un24) := @len_e Try.prog 24 3 un24
theorem len_oe24 : type_of% (@len_oe Try.prog 24 3 un24) := @len_oe Try.prog 24 3 un24
theorem len_a24 : type_of% (@len_a Try.prog 24 3 un24) := @len_a Try.prog 24 3 un24
theorem sz23 : Try.prog.cellsOf 23 = 1 := by kernel_rfl
theorem if23 : (Try.prog.info? 23).isSome = true := by kernel_rfl
theorem un23 : Try.prog.underlying 23 = some (.slice 22) := Try.underlying23
theorem ag23 : isAggT Try.prog 23 = some false := by simp only [isAggT, Try.underlying23]
theorem zc23 : zc Try.prog 23 = some [.nils] := by kernel_rfl
theorem by23 : Try.prog.bytesOf 23 = 24 := by kernel_rfl
theorem len_c23 : type_of% (fun {α : Type} => @len_c Try.prog 23 22 un23 α) := fun {α : Type} => @len_c Try.prog 23 22 un23 α
theorem len_o23 : type_of% (fun {α : Type} => @len_o Try.prog 23 22 un23 α) := fun {α : Type} => @len_o Try.prog 23 22 un23 α
theorem len_n23 : type_of% (@len_n Try.prog 23 22 un23) := @len_n Try.prog 23 22 un23
theorem len_e23 : type_of% (@len_e Try.prog 23 22 un23) := @len_e Try.prog 23 22 un23
theorem len_oe23 : type_of% (@len_oe Try.prog 23 22 un23) := @len_oe Try.prog 23 22 un23
theorem len_a23 : type_of% (@len_a Try.prog 23 22 un23) := @len_a Try.prog 23 22 un23
theorem tyf : type_of% (And.intro @sz3 <| And.intro @if3 <| And.intro @un3 <| And.intro @ag3 <| And.intro @zc3 <| And.intro @by3 <| And.intro @sz4 <| And.intro @if4 <| And.intro @un4 <| And.intro @ag4 <| And.intro @zc4 <| And.intro @by4 <| And.intro @be4 <| And.intro @bn4 <| And.intro @sz22 <| And.intro @if22 <| And.intro @un22 <| And.intro @ag22 <| And.intro @zc22 <| And.intro @by22 <| And.intro @sz24 <| And.intro @if24 <| And.intro @un24 <| And.intro @ag24 <| And.intro @zc24 <| And.intro @by24 <| And.intro @len_c24 <| And.intro @len_o24 <| And.intro @len_n24 <| And.intro @len_e24 <| And.intro @len_oe24 <| And.intro @len_a24 <| And.intro @sz23 <| And.intro @if23 <| And.intro @un23 <| And.intro @ag23 <| And.intro @zc23 <| And.intro @by23 <| And.intro @len_c23 <| And.intro @len_o23 <| And.intro @len_n23 <| And.intro @len_e23 <| And.intro @len_oe23 <| @len_a23) := And.intro @sz3 <| And.intro @if3 <| And.intro @un3 <| And.intro @ag3 <| And.intro @zc3 <| And.intro @by3 <| And.intro @sz4 <| And.intro @if4 <| And.intro @un4 <| And.intro @ag4 <| And.intro @zc4 <| And.intro @by4 <| And.intro @be4 <| And.intro @bn4 <| And.intro @sz22 <| And.intro @if22 <| And.intro @un22 <| And.intro @ag22 <| And.intro @zc22 <| And.intro @by22 <| And.intro @sz24 <| And.intro @if24 <| And.intro @un24 <| And.intro @ag24 <| And.intro @zc24 <| And.intro @by24 <| And.intro @len_c24 <| And.intro @len_o24 <| And.intro @len_n24 <| And.intro @len_e24 <| And.intro @len_oe24 <| And.intro @len_a24 <| And.intro @sz23 <| And.intro @if23 <| And.intro @un23 <| And.intro @ag23 <| And.intro @zc23 <| And.intro @by23 <| And.intro @len_c23 <| And.intro @len_o23 <| And.intro @len_n23 <| And.intro @len_e23 <| And.intro @len_oe23 <| @len_a23
theorem csR : type_of% csR0 := csR0
theorem qq : type_of% (And.intro @q0 <| And.intro @kz <| And.intro @kv <| And.intro @ka <| And.intro @kf <| And.intro @km <| And.intro @y_and <| And.intro @rwR <| And.intro @enR <| And.intro @csR <| @tyf) := And.intro @q0 <| And.intro @kz <| And.intro @kv <| And.intro @ka <| And.intro @kf <| And.intro @km <| And.intro @y_and <| And.intro @rwR <| And.intro @enR <| And.intro @csR <| @tyf
end Go.Proofs.Y
