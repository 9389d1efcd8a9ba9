/-
  No cell of these rows narrows 'for every input' (looked for: loops, veiled, ifaces, maps, wideKeys, modest, calm, conditions, laid).
  DERIVED. THE GIVEN ROWS OF THIS SEAT. 22 by the template 'for every input the law returns true; each argument reads behind the call as it read before'; 0 by the template 'total and deterministic' (their statements: YtoihccclnkhmaaaTotals.lean).
  GIVEN WITH THE SEED: the statements are not yours to turn. If you find one false, say at which input.
  Laid BY PROGRAM, IN A SANDBOX (cutbox-rows.mjs): the forced cells as the released guide's own fill.sh prints them over the translation efffb4faaa01d8df… (all of the seat's roots in one cut). By AI agents, Wed Nov 11 2026. No macro, syntax, notation, axiom, sorry.
-/
import Derived.Test.YtoihccclnkhmaaaChecked
import GoSem.Claim
import GoSem.ClaimJoined
import GoSem.ClaimMapViews
import Derived.JoinedTies
import Derived.KernelRfl
namespace Go.Proofs.Ytoihccclnkhmaaa
/- THE CELL 'sum', in the pinned program and in every row, IS THE sha256 OF THE DUMP (.gsa) THAT YtoihccclnkhmaaaProg.lean LOADS. Nothing in Lean hashes anything: it is a label: what it is worth is what the hold of that sum in a sandbox is worth. -/
noncomputable def Try.pinned : Pinned := { name := "ytoihccclnkhmaaa", sum := "efffb4faaa01d8df989492eb36868fd97bf6374306a3280b123ee6f2653c993d", checked := Try.checked }
namespace Rows
def none {H : Type} : Left H := { results := [], args := [] }

/-- 'rainbooklaw.SumSays': WHATEVER THE INPUT: true; the input reads as it did. -/
def sumSaysSpec : ChangeSpec := { name := "sumSays", fn := fun _ => fun
  | [d1, d2, d3] => { results := [.lit (.bool true)], args := [d1, d2, d3] }
  | _ => none }
def sumSaysRow : OpenClaim := { program := "ytoihccclnkhmaaa", sum := "efffb4faaa01d8df989492eb36868fd97bf6374306a3280b123ee6f2653c993d", func := "rainbook/rainbooklaw.SumSays", spec := "sumSays", apart := false }
def SumSaysSaid : Prop := sumSaysRow.holds Try.pinned (OpenSpec.ofChange sumSaysSpec)

/-- ITS FALSE NEIGHBOUR: 'it returns false'. Refute it at one input. -/
def sumSaysWrong : ChangeSpec := { name := "sumSays", fn := fun _ => fun
  | [d1, d2, d3] => { results := [.lit (.bool false)], args := [d1, d2, d3] }
  | _ => none }
def SumSaysWrongFalsely : Prop := sumSaysRow.holds Try.pinned (OpenSpec.ofChange sumSaysWrong)

/-- 'rainbooklaw.SumParts': WHATEVER THE INPUT: true; the input reads as it did. -/
def sumPartsSpec : ChangeSpec := { name := "sumParts", fn := fun _ => fun
  | [d1, d2, d3] => { results := [.lit (.bool true)], args := [d1, d2, d3] }
  | _ => none }
def sumPartsRow : OpenClaim := { program := "ytoihccclnkhmaaa", sum := "efffb4faaa01d8df989492eb36868fd97bf6374306a3280b123ee6f2653c993d", func := "rainbook/rainbooklaw.SumParts", spec := "sumParts", apart := false }
def SumPartsSaid : Prop := sumPartsRow.holds Try.pinned (OpenSpec.ofChange sumPartsSpec)

/-- ITS FALSE NEIGHBOUR: 'it returns false'. Refute it at one input. -/
def sumPartsWrong : ChangeSpec := { name := "sumParts", fn := fun _ => fun
  | [d1, d2, d3] => { results := [.lit (.bool false)], args := [d1, d2, d3] }
  | _ => none }
def SumPartsWrongFalsely : Prop := sumPartsRow.holds Try.pinned (OpenSpec.ofChange sumPartsWrong)

/-- 'rainbooklaw.SumBounds': WHATEVER THE INPUT: true; the input reads as it did. -/
def sumBoundsSpec : ChangeSpec := { name := "sumBounds", fn := fun _ => fun
  | [d] => { results := [.lit (.bool true)], args := [d] }
  | _ => none }
def sumBoundsRow : OpenClaim := { program := "ytoihccclnkhmaaa", sum := "efffb4faaa01d8df989492eb36868fd97bf6374306a3280b123ee6f2653c993d", func := "rainbook/rainbooklaw.SumBounds", spec := "sumBounds", apart := false }
def SumBoundsSaid : Prop := sumBoundsRow.holds Try.pinned (OpenSpec.ofChange sumBoundsSpec)

/-- ITS FALSE NEIGHBOUR: 'it returns false'. Refute it at one input. -/
def sumBoundsWrong : ChangeSpec := { name := "sumBounds", fn := fun _ => fun
  | [d] => { results := [.lit (.bool false)], args := [d] }
  | _ => none }
def SumBoundsWrongFalsely : Prop := sumBoundsRow.holds Try.pinned (OpenSpec.ofChange sumBoundsWrong)

/-- 'rainbooklaw.BitsSay': WHATEVER THE INPUT: true; the input reads as it did. -/
def bitsSaySpec : ChangeSpec := { name := "bitsSay", fn := fun _ => fun
  | [d1, d2, d3] => { results := [.lit (.bool true)], args := [d1, d2, d3] }
  | _ => none }
def bitsSayRow : OpenClaim := { program := "ytoihccclnkhmaaa", sum := "efffb4faaa01d8df989492eb36868fd97bf6374306a3280b123ee6f2653c993d", func := "rainbook/rainbooklaw.BitsSay", spec := "bitsSay", apart := false }
def BitsSaySaid : Prop := bitsSayRow.holds Try.pinned (OpenSpec.ofChange bitsSaySpec)

/-- ITS FALSE NEIGHBOUR: 'it returns false'. Refute it at one input. -/
def bitsSayWrong : ChangeSpec := { name := "bitsSay", fn := fun _ => fun
  | [d1, d2, d3] => { results := [.lit (.bool false)], args := [d1, d2, d3] }
  | _ => none }
def BitsSayWrongFalsely : Prop := bitsSayRow.holds Try.pinned (OpenSpec.ofChange bitsSayWrong)

/-- 'rainbooklaw.BitsBack': WHATEVER THE INPUT: true; the input reads as it did. -/
def bitsBackSpec : ChangeSpec := { name := "bitsBack", fn := fun _ => fun
  | [d1, d2, d3] => { results := [.lit (.bool true)], args := [d1, d2, d3] }
  | _ => none }
def bitsBackRow : OpenClaim := { program := "ytoihccclnkhmaaa", sum := "efffb4faaa01d8df989492eb36868fd97bf6374306a3280b123ee6f2653c993d", func := "rainbook/rainbooklaw.BitsBack", spec := "bitsBack", apart := false }
def BitsBackSaid : Prop := bitsBackRow.holds Try.pinned (OpenSpec.ofChange bitsBackSpec)

/-- ITS FALSE NEIGHBOUR: 'it returns false'. Refute it at one input. -/
def bitsBackWrong : ChangeSpec := { name := "bitsBack", fn := fun _ => fun
  | [d1, d2, d3] => { results := [.lit (.bool false)], args := [d1, d2, d3] }
  | _ => none }
def BitsBackWrongFalsely : Prop := bitsBackRow.holds Try.pinned (OpenSpec.ofChange bitsBackWrong)

/-- 'rainbooklaw.ZigSays': WHATEVER THE INPUT: true; the input reads as it did. -/
def zigSaysSpec : ChangeSpec := { name := "zigSays", fn := fun _ => fun
  | [d1, d2] => { results := [.lit (.bool true)], args := [d1, d2] }
  | _ => none }
def zigSaysRow : OpenClaim := { program := "ytoihccclnkhmaaa", sum := "efffb4faaa01d8df989492eb36868fd97bf6374306a3280b123ee6f2653c993d", func := "rainbook/rainbooklaw.ZigSays", spec := "zigSays", apart := false }
def ZigSaysSaid : Prop := zigSaysRow.holds Try.pinned (OpenSpec.ofChange zigSaysSpec)

/-- ITS FALSE NEIGHBOUR: 'it returns false'. Refute it at one input. -/
def zigSaysWrong : ChangeSpec := { name := "zigSays", fn := fun _ => fun
  | [d1, d2] => { results := [.lit (.bool false)], args := [d1, d2] }
  | _ => none }
def ZigSaysWrongFalsely : Prop := zigSaysRow.holds Try.pinned (OpenSpec.ofChange zigSaysWrong)

/-- 'rainbooklaw.ZigBack': WHATEVER THE INPUT: true; the input reads as it did. -/
def zigBackSpec : ChangeSpec := { name := "zigBack", fn := fun _ => fun
  | [d1, d2, d3] => { results := [.lit (.bool true)], args := [d1, d2, d3] }
  | _ => none }
def zigBackRow : OpenClaim := { program := "ytoihccclnkhmaaa", sum := "efffb4faaa01d8df989492eb36868fd97bf6374306a3280b123ee6f2653c993d", func := "rainbook/rainbooklaw.ZigBack", spec := "zigBack", apart := false }
def ZigBackSaid : Prop := zigBackRow.holds Try.pinned (OpenSpec.ofChange zigBackSpec)

/-- ITS FALSE NEIGHBOUR: 'it returns false'. Refute it at one input. -/
def zigBackWrong : ChangeSpec := { name := "zigBack", fn := fun _ => fun
  | [d1, d2, d3] => { results := [.lit (.bool false)], args := [d1, d2, d3] }
  | _ => none }
def ZigBackWrongFalsely : Prop := zigBackRow.holds Try.pinned (OpenSpec.ofChange zigBackWrong)

/-- 'rainbooklaw.LineSays': WHATEVER THE INPUT: true; the input reads as it did. -/
def lineSaysSpec : ChangeSpec := { name := "lineSays", fn := fun _ => fun
  | [d1, d2, d3] => { results := [.lit (.bool true)], args := [d1, d2, d3] }
  | _ => none }
def lineSaysRow : OpenClaim := { program := "ytoihccclnkhmaaa", sum := "efffb4faaa01d8df989492eb36868fd97bf6374306a3280b123ee6f2653c993d", func := "rainbook/rainbooklaw.LineSays", spec := "lineSays", apart := false }
def LineSaysSaid : Prop := lineSaysRow.holds Try.pinned (OpenSpec.ofChange lineSaysSpec)

/-- ITS FALSE NEIGHBOUR: 'it returns false'. Refute it at one input. -/
def lineSaysWrong : ChangeSpec := { name := "lineSays", fn := fun _ => fun
  | [d1, d2, d3] => { results := [.lit (.bool false)], args := [d1, d2, d3] }
  | _ => none }
def LineSaysWrongFalsely : Prop := lineSaysRow.holds Try.pinned (OpenSpec.ofChange lineSaysWrong)

/-- 'rainbooklaw.LineBack': WHATEVER THE INPUT: true; the input reads as it did. -/
def lineBackSpec : ChangeSpec := { name := "lineBack", fn := fun _ => fun
  | [d1, d2, d3] => { results := [.lit (.bool true)], args := [d1, d2, d3] }
  | _ => none }
def lineBackRow : OpenClaim := { program := "ytoihccclnkhmaaa", sum := "efffb4faaa01d8df989492eb36868fd97bf6374306a3280b123ee6f2653c993d", func := "rainbook/rainbooklaw.LineBack", spec := "lineBack", apart := false }
def LineBackSaid : Prop := lineBackRow.holds Try.pinned (OpenSpec.ofChange lineBackSpec)

/-- ITS FALSE NEIGHBOUR: 'it returns false'. Refute it at one input. -/
def lineBackWrong : ChangeSpec := { name := "lineBack", fn := fun _ => fun
  | [d1, d2, d3] => { results := [.lit (.bool false)], args := [d1, d2, d3] }
  | _ => none }
def LineBackWrongFalsely : Prop := lineBackRow.holds Try.pinned (OpenSpec.ofChange lineBackWrong)

/-- 'rainbooklaw.LineSteady': WHATEVER THE INPUT: true; the input reads as it did. -/
def lineSteadySpec : ChangeSpec := { name := "lineSteady", fn := fun _ => fun
  | [d1, d2, d3, d4] => { results := [.lit (.bool true)], args := [d1, d2, d3, d4] }
  | _ => none }
def lineSteadyRow : OpenClaim := { program := "ytoihccclnkhmaaa", sum := "efffb4faaa01d8df989492eb36868fd97bf6374306a3280b123ee6f2653c993d", func := "rainbook/rainbooklaw.LineSteady", spec := "lineSteady", apart := false }
def LineSteadySaid : Prop := lineSteadyRow.holds Try.pinned (OpenSpec.ofChange lineSteadySpec)

/-- ITS FALSE NEIGHBOUR: 'it returns false'. Refute it at one input. -/
def lineSteadyWrong : ChangeSpec := { name := "lineSteady", fn := fun _ => fun
  | [d1, d2, d3, d4] => { results := [.lit (.bool false)], args := [d1, d2, d3, d4] }
  | _ => none }
def LineSteadyWrongFalsely : Prop := lineSteadyRow.holds Try.pinned (OpenSpec.ofChange lineSteadyWrong)

/-- 'rainbooklaw.LineBegins': WHATEVER THE INPUT: true; the input reads as it did. -/
def lineBeginsSpec : ChangeSpec := { name := "lineBegins", fn := fun _ => fun
  | [d1, d2] => { results := [.lit (.bool true)], args := [d1, d2] }
  | _ => none }
def lineBeginsRow : OpenClaim := { program := "ytoihccclnkhmaaa", sum := "efffb4faaa01d8df989492eb36868fd97bf6374306a3280b123ee6f2653c993d", func := "rainbook/rainbooklaw.LineBegins", spec := "lineBegins", apart := false }
def LineBeginsSaid : Prop := lineBeginsRow.holds Try.pinned (OpenSpec.ofChange lineBeginsSpec)

/-- ITS FALSE NEIGHBOUR: 'it returns false'. Refute it at one input. -/
def lineBeginsWrong : ChangeSpec := { name := "lineBegins", fn := fun _ => fun
  | [d1, d2] => { results := [.lit (.bool false)], args := [d1, d2] }
  | _ => none }
def LineBeginsWrongFalsely : Prop := lineBeginsRow.holds Try.pinned (OpenSpec.ofChange lineBeginsWrong)

/-- 'rainbooklaw.BlockSays': WHATEVER THE INPUT: true; the input reads as it did. -/
def blockSaysSpec : ChangeSpec := { name := "blockSays", fn := fun _ => fun
  | [d1, d2, d3] => { results := [.lit (.bool true)], args := [d1, d2, d3] }
  | _ => none }
def blockSaysRow : OpenClaim := { program := "ytoihccclnkhmaaa", sum := "efffb4faaa01d8df989492eb36868fd97bf6374306a3280b123ee6f2653c993d", func := "rainbook/rainbooklaw.BlockSays", spec := "blockSays", apart := false }
def BlockSaysSaid : Prop := blockSaysRow.holds Try.pinned (OpenSpec.ofChange blockSaysSpec)

/-- ITS FALSE NEIGHBOUR: 'it returns false'. Refute it at one input. -/
def blockSaysWrong : ChangeSpec := { name := "blockSays", fn := fun _ => fun
  | [d1, d2, d3] => { results := [.lit (.bool false)], args := [d1, d2, d3] }
  | _ => none }
def BlockSaysWrongFalsely : Prop := blockSaysRow.holds Try.pinned (OpenSpec.ofChange blockSaysWrong)

/-- 'rainbooklaw.BlockBack': WHATEVER THE INPUT: true; the input reads as it did. -/
def blockBackSpec : ChangeSpec := { name := "blockBack", fn := fun _ => fun
  | [d1, d2, d3] => { results := [.lit (.bool true)], args := [d1, d2, d3] }
  | _ => none }
def blockBackRow : OpenClaim := { program := "ytoihccclnkhmaaa", sum := "efffb4faaa01d8df989492eb36868fd97bf6374306a3280b123ee6f2653c993d", func := "rainbook/rainbooklaw.BlockBack", spec := "blockBack", apart := false }
def BlockBackSaid : Prop := blockBackRow.holds Try.pinned (OpenSpec.ofChange blockBackSpec)

/-- ITS FALSE NEIGHBOUR: 'it returns false'. Refute it at one input. -/
def blockBackWrong : ChangeSpec := { name := "blockBack", fn := fun _ => fun
  | [d1, d2, d3] => { results := [.lit (.bool false)], args := [d1, d2, d3] }
  | _ => none }
def BlockBackWrongFalsely : Prop := blockBackRow.holds Try.pinned (OpenSpec.ofChange blockBackWrong)

/-- 'rainbooklaw.QuerySays': WHATEVER THE INPUT: true; the input reads as it did. -/
def querySaysSpec : ChangeSpec := { name := "querySays", fn := fun _ => fun
  | [d1, d2, d3, d4, d5] => { results := [.lit (.bool true)], args := [d1, d2, d3, d4, d5] }
  | _ => none }
def querySaysRow : OpenClaim := { program := "ytoihccclnkhmaaa", sum := "efffb4faaa01d8df989492eb36868fd97bf6374306a3280b123ee6f2653c993d", func := "rainbook/rainbooklaw.QuerySays", spec := "querySays", unfollowed := true, recurses := true, apart := false }
def QuerySaysSaid : Prop := querySaysRow.holds Try.pinned (OpenSpec.ofChange querySaysSpec)

/-- ITS FALSE NEIGHBOUR: 'it returns false'. Refute it at one input. -/
def querySaysWrong : ChangeSpec := { name := "querySays", fn := fun _ => fun
  | [d1, d2, d3, d4, d5] => { results := [.lit (.bool false)], args := [d1, d2, d3, d4, d5] }
  | _ => none }
def QuerySaysWrongFalsely : Prop := querySaysRow.holds Try.pinned (OpenSpec.ofChange querySaysWrong)

/-- 'rainbooklaw.QueryEach': WHATEVER THE INPUT: true; the input reads as it did. -/
def queryEachSpec : ChangeSpec := { name := "queryEach", fn := fun _ => fun
  | [d1, d2] => { results := [.lit (.bool true)], args := [d1, d2] }
  | _ => none }
def queryEachRow : OpenClaim := { program := "ytoihccclnkhmaaa", sum := "efffb4faaa01d8df989492eb36868fd97bf6374306a3280b123ee6f2653c993d", func := "rainbook/rainbooklaw.QueryEach", spec := "queryEach", unfollowed := true, recurses := true, apart := false }
def QueryEachSaid : Prop := queryEachRow.holds Try.pinned (OpenSpec.ofChange queryEachSpec)

/-- ITS FALSE NEIGHBOUR: 'it returns false'. Refute it at one input. -/
def queryEachWrong : ChangeSpec := { name := "queryEach", fn := fun _ => fun
  | [d1, d2] => { results := [.lit (.bool false)], args := [d1, d2] }
  | _ => none }
def QueryEachWrongFalsely : Prop := queryEachRow.holds Try.pinned (OpenSpec.ofChange queryEachWrong)

/-- 'rainbooklaw.ShelfSays': WHATEVER THE INPUT: true; the input reads as it did. -/
def shelfSaysSpec : ChangeSpec := { name := "shelfSays", fn := fun _ => fun
  | [d1, d2, d3, d4, d5] => { results := [.lit (.bool true)], args := [d1, d2, d3, d4, d5] }
  | _ => none }
def shelfSaysRow : OpenClaim := { program := "ytoihccclnkhmaaa", sum := "efffb4faaa01d8df989492eb36868fd97bf6374306a3280b123ee6f2653c993d", func := "rainbook/rainbooklaw.ShelfSays", spec := "shelfSays", unfollowed := true, recurses := true, apart := false }
def ShelfSaysSaid : Prop := shelfSaysRow.holds Try.pinned (OpenSpec.ofChange shelfSaysSpec)

/-- ITS FALSE NEIGHBOUR: 'it returns false'. Refute it at one input. -/
def shelfSaysWrong : ChangeSpec := { name := "shelfSays", fn := fun _ => fun
  | [d1, d2, d3, d4, d5] => { results := [.lit (.bool false)], args := [d1, d2, d3, d4, d5] }
  | _ => none }
def ShelfSaysWrongFalsely : Prop := shelfSaysRow.holds Try.pinned (OpenSpec.ofChange shelfSaysWrong)

/-- 'rainbooklaw.ShelfSame': WHATEVER THE INPUT: true; the input reads as it did. -/
def shelfSameSpec : ChangeSpec := { name := "shelfSame", fn := fun _ => fun
  | [d1, d2, d3, d4] => { results := [.lit (.bool true)], args := [d1, d2, d3, d4] }
  | _ => none }
def shelfSameRow : OpenClaim := { program := "ytoihccclnkhmaaa", sum := "efffb4faaa01d8df989492eb36868fd97bf6374306a3280b123ee6f2653c993d", func := "rainbook/rainbooklaw.ShelfSame", spec := "shelfSame", unfollowed := true, recurses := true, apart := false }
def ShelfSameSaid : Prop := shelfSameRow.holds Try.pinned (OpenSpec.ofChange shelfSameSpec)

/-- ITS FALSE NEIGHBOUR: 'it returns false'. Refute it at one input. -/
def shelfSameWrong : ChangeSpec := { name := "shelfSame", fn := fun _ => fun
  | [d1, d2, d3, d4] => { results := [.lit (.bool false)], args := [d1, d2, d3, d4] }
  | _ => none }
def ShelfSameWrongFalsely : Prop := shelfSameRow.holds Try.pinned (OpenSpec.ofChange shelfSameWrong)

/-- 'rainbooklaw.ShelfAll': WHATEVER THE INPUT: true; the input reads as it did. -/
def shelfAllSpec : ChangeSpec := { name := "shelfAll", fn := fun _ => fun
  | [d1, d2, d3] => { results := [.lit (.bool true)], args := [d1, d2, d3] }
  | _ => none }
def shelfAllRow : OpenClaim := { program := "ytoihccclnkhmaaa", sum := "efffb4faaa01d8df989492eb36868fd97bf6374306a3280b123ee6f2653c993d", func := "rainbook/rainbooklaw.ShelfAll", spec := "shelfAll", unfollowed := true, recurses := true, apart := false }
def ShelfAllSaid : Prop := shelfAllRow.holds Try.pinned (OpenSpec.ofChange shelfAllSpec)

/-- ITS FALSE NEIGHBOUR: 'it returns false'. Refute it at one input. -/
def shelfAllWrong : ChangeSpec := { name := "shelfAll", fn := fun _ => fun
  | [d1, d2, d3] => { results := [.lit (.bool false)], args := [d1, d2, d3] }
  | _ => none }
def ShelfAllWrongFalsely : Prop := shelfAllRow.holds Try.pinned (OpenSpec.ofChange shelfAllWrong)

/-- 'rainbooklaw.ShelfLast': WHATEVER THE INPUT: true; the input reads as it did. -/
def shelfLastSpec : ChangeSpec := { name := "shelfLast", fn := fun _ => fun
  | [d1, d2, d3, d4, d5] => { results := [.lit (.bool true)], args := [d1, d2, d3, d4, d5] }
  | _ => none }
def shelfLastRow : OpenClaim := { program := "ytoihccclnkhmaaa", sum := "efffb4faaa01d8df989492eb36868fd97bf6374306a3280b123ee6f2653c993d", func := "rainbook/rainbooklaw.ShelfLast", spec := "shelfLast", unfollowed := true, recurses := true, apart := false }
def ShelfLastSaid : Prop := shelfLastRow.holds Try.pinned (OpenSpec.ofChange shelfLastSpec)

/-- ITS FALSE NEIGHBOUR: 'it returns false'. Refute it at one input. -/
def shelfLastWrong : ChangeSpec := { name := "shelfLast", fn := fun _ => fun
  | [d1, d2, d3, d4, d5] => { results := [.lit (.bool false)], args := [d1, d2, d3, d4, d5] }
  | _ => none }
def ShelfLastWrongFalsely : Prop := shelfLastRow.holds Try.pinned (OpenSpec.ofChange shelfLastWrong)

/-- 'rainbooklaw.StorePoints': WHATEVER THE INPUT: true; the input reads as it did. -/
def storePointsSpec : ChangeSpec := { name := "storePoints", fn := fun _ => fun
  | [d1, d2] => { results := [.lit (.bool true)], args := [d1, d2] }
  | _ => none }
def storePointsRow : OpenClaim := { program := "ytoihccclnkhmaaa", sum := "efffb4faaa01d8df989492eb36868fd97bf6374306a3280b123ee6f2653c993d", func := "rainbook/rainbooklaw.StorePoints", spec := "storePoints", unfollowed := true, recurses := true, apart := false }
def StorePointsSaid : Prop := storePointsRow.holds Try.pinned (OpenSpec.ofChange storePointsSpec)

/-- ITS FALSE NEIGHBOUR: 'it returns false'. Refute it at one input. -/
def storePointsWrong : ChangeSpec := { name := "storePoints", fn := fun _ => fun
  | [d1, d2] => { results := [.lit (.bool false)], args := [d1, d2] }
  | _ => none }
def StorePointsWrongFalsely : Prop := storePointsRow.holds Try.pinned (OpenSpec.ofChange storePointsWrong)

/-- 'rainbooklaw.StoreSays': WHATEVER THE INPUT: true; the input reads as it did. -/
def storeSaysSpec : ChangeSpec := { name := "storeSays", fn := fun _ => fun
  | [d1, d2, d3] => { results := [.lit (.bool true)], args := [d1, d2, d3] }
  | _ => none }
def storeSaysRow : OpenClaim := { program := "ytoihccclnkhmaaa", sum := "efffb4faaa01d8df989492eb36868fd97bf6374306a3280b123ee6f2653c993d", func := "rainbook/rainbooklaw.StoreSays", spec := "storeSays", unfollowed := true, recurses := true, apart := false }
def StoreSaysSaid : Prop := storeSaysRow.holds Try.pinned (OpenSpec.ofChange storeSaysSpec)

/-- ITS FALSE NEIGHBOUR: 'it returns false'. Refute it at one input. -/
def storeSaysWrong : ChangeSpec := { name := "storeSays", fn := fun _ => fun
  | [d1, d2, d3] => { results := [.lit (.bool false)], args := [d1, d2, d3] }
  | _ => none }
def StoreSaysWrongFalsely : Prop := storeSaysRow.holds Try.pinned (OpenSpec.ofChange storeSaysWrong)

/-- 'rainbooklaw.QueryParts': WHATEVER THE INPUT: true; the input reads as it did. -/
def queryPartsSpec : ChangeSpec := { name := "queryParts", fn := fun _ => fun
  | [d1, d2, d3, d4, d5, d6] => { results := [.lit (.bool true)], args := [d1, d2, d3, d4, d5, d6] }
  | _ => none }
def queryPartsRow : OpenClaim := { program := "ytoihccclnkhmaaa", sum := "efffb4faaa01d8df989492eb36868fd97bf6374306a3280b123ee6f2653c993d", func := "rainbook/rainbooklaw.QueryParts", spec := "queryParts", unfollowed := true, recurses := true, apart := false }
def QueryPartsSaid : Prop := queryPartsRow.holds Try.pinned (OpenSpec.ofChange queryPartsSpec)

/-- ITS FALSE NEIGHBOUR: 'it returns false'. Refute it at one input. -/
def queryPartsWrong : ChangeSpec := { name := "queryParts", fn := fun _ => fun
  | [d1, d2, d3, d4, d5, d6] => { results := [.lit (.bool false)], args := [d1, d2, d3, d4, d5, d6] }
  | _ => none }
def QueryPartsWrongFalsely : Prop := queryPartsRow.holds Try.pinned (OpenSpec.ofChange queryPartsWrong)

/- THE SECOND FORM. 'bulk': how many values and letters a reading holds, each counted each time it is reached (what is shared counts as often as it is met; a slice's spare places count too). A statement '..UptoSaid' is the law's where the arguments, and the package variables that the reading takes, are together of bulk at most 1048576: NARROWER than '..Said'. Prove '..Said' where nothing that the law and all that it calls make is longer than what came in: it says more and counts as full. Else prove '..UptoSaid'. A law counts once. -/
mutual
def uptoBulk {H : Type} : DataW H → Nat
  | .lit (.string bytes) => bytes.length + 1
  | .lit _ => 1
  | .nil => 1
  | .ptr d => uptoBulk d + 1
  | .slice elems spare => uptoBulkAll elems + uptoBulkAll spare + 1
  | .agg parts => uptoBulkAll parts + 1
  | .iface _ d => uptoBulk d + 1
  | .map entries => uptoBulkEntries entries + 1
  | .held _ => 1
def uptoBulkAll {H : Type} : List (DataW H) → Nat
  | [] => 0
  | d :: r => uptoBulk d + uptoBulkAll r
def uptoBulkEntries {H : Type} : List (Lit × DataW H) → Nat
  | [] => 0
  | x :: r => uptoBulkEntry x + uptoBulkEntries r
def uptoBulkEntry {H : Type} : Lit × DataW H → Nat
  | (.string bytes, d) => bytes.length + uptoBulk d + 1
  | (_, d) => uptoBulk d + 1
 end
def uptoSmall : (H : Type) → List (DataW H) → Bool := fun _ ds => decide (uptoBulkAll ds ≤ 1048576)
def OpenSpec.upto (s : _root_.Go.ChangeSpec) : _root_.Go.OpenSpec := { _root_.Go.OpenSpec.ofChange s with cond := some uptoSmall }

/-- 'rainbooklaw.SumSays', WHERE WHAT IT READS IS OF BULK AT MOST 1048576: true; the input reads as it did. -/
def sumSaysUptoRow : OpenClaim := { program := "ytoihccclnkhmaaa", sum := "efffb4faaa01d8df989492eb36868fd97bf6374306a3280b123ee6f2653c993d", func := "rainbook/rainbooklaw.SumSays", spec := "sumSays", apart := false, narrowed := true }
def SumSaysUptoSaid : Prop := sumSaysUptoRow.holds Try.pinned (OpenSpec.upto sumSaysSpec)

/-- 'rainbooklaw.SumParts', WHERE WHAT IT READS IS OF BULK AT MOST 1048576: true; the input reads as it did. -/
def sumPartsUptoRow : OpenClaim := { program := "ytoihccclnkhmaaa", sum := "efffb4faaa01d8df989492eb36868fd97bf6374306a3280b123ee6f2653c993d", func := "rainbook/rainbooklaw.SumParts", spec := "sumParts", apart := false, narrowed := true }
def SumPartsUptoSaid : Prop := sumPartsUptoRow.holds Try.pinned (OpenSpec.upto sumPartsSpec)

/-- 'rainbooklaw.SumBounds', WHERE WHAT IT READS IS OF BULK AT MOST 1048576: true; the input reads as it did. -/
def sumBoundsUptoRow : OpenClaim := { program := "ytoihccclnkhmaaa", sum := "efffb4faaa01d8df989492eb36868fd97bf6374306a3280b123ee6f2653c993d", func := "rainbook/rainbooklaw.SumBounds", spec := "sumBounds", apart := false, narrowed := true }
def SumBoundsUptoSaid : Prop := sumBoundsUptoRow.holds Try.pinned (OpenSpec.upto sumBoundsSpec)

/-- 'rainbooklaw.BitsSay', WHERE WHAT IT READS IS OF BULK AT MOST 1048576: true; the input reads as it did. -/
def bitsSayUptoRow : OpenClaim := { program := "ytoihccclnkhmaaa", sum := "efffb4faaa01d8df989492eb36868fd97bf6374306a3280b123ee6f2653c993d", func := "rainbook/rainbooklaw.BitsSay", spec := "bitsSay", apart := false, narrowed := true }
def BitsSayUptoSaid : Prop := bitsSayUptoRow.holds Try.pinned (OpenSpec.upto bitsSaySpec)

/-- 'rainbooklaw.BitsBack', WHERE WHAT IT READS IS OF BULK AT MOST 1048576: true; the input reads as it did. -/
def bitsBackUptoRow : OpenClaim := { program := "ytoihccclnkhmaaa", sum := "efffb4faaa01d8df989492eb36868fd97bf6374306a3280b123ee6f2653c993d", func := "rainbook/rainbooklaw.BitsBack", spec := "bitsBack", apart := false, narrowed := true }
def BitsBackUptoSaid : Prop := bitsBackUptoRow.holds Try.pinned (OpenSpec.upto bitsBackSpec)

/-- 'rainbooklaw.ZigSays', WHERE WHAT IT READS IS OF BULK AT MOST 1048576: true; the input reads as it did. -/
def zigSaysUptoRow : OpenClaim := { program := "ytoihccclnkhmaaa", sum := "efffb4faaa01d8df989492eb36868fd97bf6374306a3280b123ee6f2653c993d", func := "rainbook/rainbooklaw.ZigSays", spec := "zigSays", apart := false, narrowed := true }
def ZigSaysUptoSaid : Prop := zigSaysUptoRow.holds Try.pinned (OpenSpec.upto zigSaysSpec)

/-- 'rainbooklaw.ZigBack', WHERE WHAT IT READS IS OF BULK AT MOST 1048576: true; the input reads as it did. -/
def zigBackUptoRow : OpenClaim := { program := "ytoihccclnkhmaaa", sum := "efffb4faaa01d8df989492eb36868fd97bf6374306a3280b123ee6f2653c993d", func := "rainbook/rainbooklaw.ZigBack", spec := "zigBack", apart := false, narrowed := true }
def ZigBackUptoSaid : Prop := zigBackUptoRow.holds Try.pinned (OpenSpec.upto zigBackSpec)

/-- 'rainbooklaw.LineSays', WHERE WHAT IT READS IS OF BULK AT MOST 1048576: true; the input reads as it did. -/
def lineSaysUptoRow : OpenClaim := { program := "ytoihccclnkhmaaa", sum := "efffb4faaa01d8df989492eb36868fd97bf6374306a3280b123ee6f2653c993d", func := "rainbook/rainbooklaw.LineSays", spec := "lineSays", apart := false, narrowed := true }
def LineSaysUptoSaid : Prop := lineSaysUptoRow.holds Try.pinned (OpenSpec.upto lineSaysSpec)

/-- 'rainbooklaw.LineBack', WHERE WHAT IT READS IS OF BULK AT MOST 1048576: true; the input reads as it did. -/
def lineBackUptoRow : OpenClaim := { program := "ytoihccclnkhmaaa", sum := "efffb4faaa01d8df989492eb36868fd97bf6374306a3280b123ee6f2653c993d", func := "rainbook/rainbooklaw.LineBack", spec := "lineBack", apart := false, narrowed := true }
def LineBackUptoSaid : Prop := lineBackUptoRow.holds Try.pinned (OpenSpec.upto lineBackSpec)

/-- 'rainbooklaw.LineSteady', WHERE WHAT IT READS IS OF BULK AT MOST 1048576: true; the input reads as it did. -/
def lineSteadyUptoRow : OpenClaim := { program := "ytoihccclnkhmaaa", sum := "efffb4faaa01d8df989492eb36868fd97bf6374306a3280b123ee6f2653c993d", func := "rainbook/rainbooklaw.LineSteady", spec := "lineSteady", apart := false, narrowed := true }
def LineSteadyUptoSaid : Prop := lineSteadyUptoRow.holds Try.pinned (OpenSpec.upto lineSteadySpec)

/-- 'rainbooklaw.LineBegins', WHERE WHAT IT READS IS OF BULK AT MOST 1048576: true; the input reads as it did. -/
def lineBeginsUptoRow : OpenClaim := { program := "ytoihccclnkhmaaa", sum := "efffb4faaa01d8df989492eb36868fd97bf6374306a3280b123ee6f2653c993d", func := "rainbook/rainbooklaw.LineBegins", spec := "lineBegins", apart := false, narrowed := true }
def LineBeginsUptoSaid : Prop := lineBeginsUptoRow.holds Try.pinned (OpenSpec.upto lineBeginsSpec)

/-- 'rainbooklaw.BlockSays', WHERE WHAT IT READS IS OF BULK AT MOST 1048576: true; the input reads as it did. -/
def blockSaysUptoRow : OpenClaim := { program := "ytoihccclnkhmaaa", sum := "efffb4faaa01d8df989492eb36868fd97bf6374306a3280b123ee6f2653c993d", func := "rainbook/rainbooklaw.BlockSays", spec := "blockSays", apart := false, narrowed := true }
def BlockSaysUptoSaid : Prop := blockSaysUptoRow.holds Try.pinned (OpenSpec.upto blockSaysSpec)

/-- 'rainbooklaw.BlockBack', WHERE WHAT IT READS IS OF BULK AT MOST 1048576: true; the input reads as it did. -/
def blockBackUptoRow : OpenClaim := { program := "ytoihccclnkhmaaa", sum := "efffb4faaa01d8df989492eb36868fd97bf6374306a3280b123ee6f2653c993d", func := "rainbook/rainbooklaw.BlockBack", spec := "blockBack", apart := false, narrowed := true }
def BlockBackUptoSaid : Prop := blockBackUptoRow.holds Try.pinned (OpenSpec.upto blockBackSpec)

/-- 'rainbooklaw.QuerySays', WHERE WHAT IT READS IS OF BULK AT MOST 1048576: true; the input reads as it did. -/
def querySaysUptoRow : OpenClaim := { program := "ytoihccclnkhmaaa", sum := "efffb4faaa01d8df989492eb36868fd97bf6374306a3280b123ee6f2653c993d", func := "rainbook/rainbooklaw.QuerySays", spec := "querySays", unfollowed := true, recurses := true, apart := false, narrowed := true }
def QuerySaysUptoSaid : Prop := querySaysUptoRow.holds Try.pinned (OpenSpec.upto querySaysSpec)

/-- 'rainbooklaw.QueryEach', WHERE WHAT IT READS IS OF BULK AT MOST 1048576: true; the input reads as it did. -/
def queryEachUptoRow : OpenClaim := { program := "ytoihccclnkhmaaa", sum := "efffb4faaa01d8df989492eb36868fd97bf6374306a3280b123ee6f2653c993d", func := "rainbook/rainbooklaw.QueryEach", spec := "queryEach", unfollowed := true, recurses := true, apart := false, narrowed := true }
def QueryEachUptoSaid : Prop := queryEachUptoRow.holds Try.pinned (OpenSpec.upto queryEachSpec)

/-- 'rainbooklaw.ShelfSays', WHERE WHAT IT READS IS OF BULK AT MOST 1048576: true; the input reads as it did. -/
def shelfSaysUptoRow : OpenClaim := { program := "ytoihccclnkhmaaa", sum := "efffb4faaa01d8df989492eb36868fd97bf6374306a3280b123ee6f2653c993d", func := "rainbook/rainbooklaw.ShelfSays", spec := "shelfSays", unfollowed := true, recurses := true, apart := false, narrowed := true }
def ShelfSaysUptoSaid : Prop := shelfSaysUptoRow.holds Try.pinned (OpenSpec.upto shelfSaysSpec)

/-- 'rainbooklaw.ShelfSame', WHERE WHAT IT READS IS OF BULK AT MOST 1048576: true; the input reads as it did. -/
def shelfSameUptoRow : OpenClaim := { program := "ytoihccclnkhmaaa", sum := "efffb4faaa01d8df989492eb36868fd97bf6374306a3280b123ee6f2653c993d", func := "rainbook/rainbooklaw.ShelfSame", spec := "shelfSame", unfollowed := true, recurses := true, apart := false, narrowed := true }
def ShelfSameUptoSaid : Prop := shelfSameUptoRow.holds Try.pinned (OpenSpec.upto shelfSameSpec)

/-- 'rainbooklaw.ShelfAll', WHERE WHAT IT READS IS OF BULK AT MOST 1048576: true; the input reads as it did. -/
def shelfAllUptoRow : OpenClaim := { program := "ytoihccclnkhmaaa", sum := "efffb4faaa01d8df989492eb36868fd97bf6374306a3280b123ee6f2653c993d", func := "rainbook/rainbooklaw.ShelfAll", spec := "shelfAll", unfollowed := true, recurses := true, apart := false, narrowed := true }
def ShelfAllUptoSaid : Prop := shelfAllUptoRow.holds Try.pinned (OpenSpec.upto shelfAllSpec)

/-- 'rainbooklaw.ShelfLast', WHERE WHAT IT READS IS OF BULK AT MOST 1048576: true; the input reads as it did. -/
def shelfLastUptoRow : OpenClaim := { program := "ytoihccclnkhmaaa", sum := "efffb4faaa01d8df989492eb36868fd97bf6374306a3280b123ee6f2653c993d", func := "rainbook/rainbooklaw.ShelfLast", spec := "shelfLast", unfollowed := true, recurses := true, apart := false, narrowed := true }
def ShelfLastUptoSaid : Prop := shelfLastUptoRow.holds Try.pinned (OpenSpec.upto shelfLastSpec)

/-- 'rainbooklaw.StorePoints', WHERE WHAT IT READS IS OF BULK AT MOST 1048576: true; the input reads as it did. -/
def storePointsUptoRow : OpenClaim := { program := "ytoihccclnkhmaaa", sum := "efffb4faaa01d8df989492eb36868fd97bf6374306a3280b123ee6f2653c993d", func := "rainbook/rainbooklaw.StorePoints", spec := "storePoints", unfollowed := true, recurses := true, apart := false, narrowed := true }
def StorePointsUptoSaid : Prop := storePointsUptoRow.holds Try.pinned (OpenSpec.upto storePointsSpec)

/-- 'rainbooklaw.StoreSays', WHERE WHAT IT READS IS OF BULK AT MOST 1048576: true; the input reads as it did. -/
def storeSaysUptoRow : OpenClaim := { program := "ytoihccclnkhmaaa", sum := "efffb4faaa01d8df989492eb36868fd97bf6374306a3280b123ee6f2653c993d", func := "rainbook/rainbooklaw.StoreSays", spec := "storeSays", unfollowed := true, recurses := true, apart := false, narrowed := true }
def StoreSaysUptoSaid : Prop := storeSaysUptoRow.holds Try.pinned (OpenSpec.upto storeSaysSpec)

/-- 'rainbooklaw.QueryParts', WHERE WHAT IT READS IS OF BULK AT MOST 1048576: true; the input reads as it did. -/
def queryPartsUptoRow : OpenClaim := { program := "ytoihccclnkhmaaa", sum := "efffb4faaa01d8df989492eb36868fd97bf6374306a3280b123ee6f2653c993d", func := "rainbook/rainbooklaw.QueryParts", spec := "queryParts", unfollowed := true, recurses := true, apart := false, narrowed := true }
def QueryPartsUptoSaid : Prop := queryPartsUptoRow.holds Try.pinned (OpenSpec.upto queryPartsSpec)

end Rows
end Go.Proofs.Ytoihccclnkhmaaa
