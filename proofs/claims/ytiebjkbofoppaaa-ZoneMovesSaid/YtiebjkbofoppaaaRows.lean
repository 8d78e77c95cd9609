/-
  No cell of these rows narrows 'for every input' (looked for: loops, veiled, ifaces, maps, wideKeys, modest, calm, conditions, laid).
  DERIVED. THE GIVEN ROWS OF THIS SEAT. 7 by the template 'for every input the law returns true; each argument reads behind the call as it read before'; 0 by the template 'total and deterministic' (their statements: YtiebjkbofoppaaaTotals.lean).
  GIVEN WITH THE SEED: the statements are not yours to turn. If you find one false, say at which input.
  Laid BY PROGRAM, IN A SANDBOX (cutbox-rows.mjs): the forced cells as the released guide's own fill.sh prints them over the translation 51648fe91d4f5a3e… (all of the seat's roots in one cut). By AI agents, Wed Nov 11 2026. No macro, syntax, notation, axiom, sorry.
-/
import Derived.Test.YtiebjkbofoppaaaChecked
import GoSem.Claim
import GoSem.ClaimJoined
import GoSem.ClaimMapViews
import Derived.JoinedTies
import Derived.KernelRfl
namespace Go.Proofs.Ytiebjkbofoppaaa
/- THE CELL 'sum', in the pinned program and in every row, IS THE sha256 OF THE DUMP (.gsa) THAT YtiebjkbofoppaaaProg.lean LOADS. Nothing in Lean hashes anything: it is a label: what it is worth is what the hold of that sum in a sandbox is worth. -/
noncomputable def Try.pinned : Pinned := { name := "ytiebjkbofoppaaa", sum := "51648fe91d4f5a3ed6a83a3160a33e347186147d3c1abb4786c3533e4705f317", checked := Try.checked }
namespace Rows
def none {H : Type} : Left H := { results := [], args := [] }

/-- 'cardgamelaw25.ZonePlaces': WHATEVER THE INPUT: true; the input reads as it did. -/
def zonePlacesSpec : ChangeSpec := { name := "zonePlaces", fn := fun _ => fun
  | [d1, d2] => { results := [.lit (.bool true)], args := [d1, d2] }
  | _ => none }
def zonePlacesRow : OpenClaim := { program := "ytiebjkbofoppaaa", sum := "51648fe91d4f5a3ed6a83a3160a33e347186147d3c1abb4786c3533e4705f317", func := "cardgame/cardgamelaw25.ZonePlaces", spec := "zonePlaces", inPlace := ["slices.overlaps[cardgame/api.Object]", "slices.overlaps[int]"], unfollowed := true, recurses := true, apart := false }
def ZonePlacesSaid : Prop := zonePlacesRow.holds Try.pinned (OpenSpec.ofChange zonePlacesSpec)

/-- ITS FALSE NEIGHBOUR: 'it returns false'. Refute it at one input. -/
def zonePlacesWrong : ChangeSpec := { name := "zonePlaces", fn := fun _ => fun
  | [d1, d2] => { results := [.lit (.bool false)], args := [d1, d2] }
  | _ => none }
def ZonePlacesWrongFalsely : Prop := zonePlacesRow.holds Try.pinned (OpenSpec.ofChange zonePlacesWrong)

/-- 'cardgamelaw25.ZoneMoving': WHATEVER THE INPUT: true; the input reads as it did. -/
def zoneMovingSpec : ChangeSpec := { name := "zoneMoving", fn := fun _ => fun
  | [d1, d2] => { results := [.lit (.bool true)], args := [d1, d2] }
  | _ => none }
def zoneMovingRow : OpenClaim := { program := "ytiebjkbofoppaaa", sum := "51648fe91d4f5a3ed6a83a3160a33e347186147d3c1abb4786c3533e4705f317", func := "cardgame/cardgamelaw25.ZoneMoving", spec := "zoneMoving", inPlace := ["slices.overlaps[cardgame/api.Object]", "slices.overlaps[int]"], unfollowed := true, recurses := true, apart := false }
def ZoneMovingSaid : Prop := zoneMovingRow.holds Try.pinned (OpenSpec.ofChange zoneMovingSpec)

/-- ITS FALSE NEIGHBOUR: 'it returns false'. Refute it at one input. -/
def zoneMovingWrong : ChangeSpec := { name := "zoneMoving", fn := fun _ => fun
  | [d1, d2] => { results := [.lit (.bool false)], args := [d1, d2] }
  | _ => none }
def ZoneMovingWrongFalsely : Prop := zoneMovingRow.holds Try.pinned (OpenSpec.ofChange zoneMovingWrong)

/-- 'cardgamelaw25.ZoneMakes': WHATEVER THE INPUT: true; the input reads as it did. -/
def zoneMakesSpec : ChangeSpec := { name := "zoneMakes", fn := fun _ => fun
  | [d1, d2, d3] => { results := [.lit (.bool true)], args := [d1, d2, d3] }
  | _ => none }
def zoneMakesRow : OpenClaim := { program := "ytiebjkbofoppaaa", sum := "51648fe91d4f5a3ed6a83a3160a33e347186147d3c1abb4786c3533e4705f317", func := "cardgame/cardgamelaw25.ZoneMakes", spec := "zoneMakes", inPlace := ["slices.overlaps[cardgame/api.Object]", "slices.overlaps[int]"], unfollowed := true, recurses := true, apart := false }
def ZoneMakesSaid : Prop := zoneMakesRow.holds Try.pinned (OpenSpec.ofChange zoneMakesSpec)

/-- ITS FALSE NEIGHBOUR: 'it returns false'. Refute it at one input. -/
def zoneMakesWrong : ChangeSpec := { name := "zoneMakes", fn := fun _ => fun
  | [d1, d2, d3] => { results := [.lit (.bool false)], args := [d1, d2, d3] }
  | _ => none }
def ZoneMakesWrongFalsely : Prop := zoneMakesRow.holds Try.pinned (OpenSpec.ofChange zoneMakesWrong)

/-- 'cardgamelaw25.ZoneFinds': WHATEVER THE INPUT: true; the input reads as it did. -/
def zoneFindsSpec : ChangeSpec := { name := "zoneFinds", fn := fun _ => fun
  | [d1, d2, d3] => { results := [.lit (.bool true)], args := [d1, d2, d3] }
  | _ => none }
def zoneFindsRow : OpenClaim := { program := "ytiebjkbofoppaaa", sum := "51648fe91d4f5a3ed6a83a3160a33e347186147d3c1abb4786c3533e4705f317", func := "cardgame/cardgamelaw25.ZoneFinds", spec := "zoneFinds", inPlace := ["slices.overlaps[cardgame/api.Object]", "slices.overlaps[int]"], unfollowed := true, recurses := true, apart := false }
def ZoneFindsSaid : Prop := zoneFindsRow.holds Try.pinned (OpenSpec.ofChange zoneFindsSpec)

/-- ITS FALSE NEIGHBOUR: 'it returns false'. Refute it at one input. -/
def zoneFindsWrong : ChangeSpec := { name := "zoneFinds", fn := fun _ => fun
  | [d1, d2, d3] => { results := [.lit (.bool false)], args := [d1, d2, d3] }
  | _ => none }
def ZoneFindsWrongFalsely : Prop := zoneFindsRow.holds Try.pinned (OpenSpec.ofChange zoneFindsWrong)

/-- 'cardgamelaw25.ZoneMoves': WHATEVER THE INPUT: true; the input reads as it did. -/
def zoneMovesSpec : ChangeSpec := { name := "zoneMoves", fn := fun _ => fun
  | [d1, d2] => { results := [.lit (.bool true)], args := [d1, d2] }
  | _ => none }
def zoneMovesRow : OpenClaim := { program := "ytiebjkbofoppaaa", sum := "51648fe91d4f5a3ed6a83a3160a33e347186147d3c1abb4786c3533e4705f317", func := "cardgame/cardgamelaw25.ZoneMoves", spec := "zoneMoves", inPlace := ["slices.overlaps[cardgame/api.Object]", "slices.overlaps[int]"], unfollowed := true, recurses := true, apart := false }
def ZoneMovesSaid : Prop := zoneMovesRow.holds Try.pinned (OpenSpec.ofChange zoneMovesSpec)

/-- ITS FALSE NEIGHBOUR: 'it returns false'. Refute it at one input. -/
def zoneMovesWrong : ChangeSpec := { name := "zoneMoves", fn := fun _ => fun
  | [d1, d2] => { results := [.lit (.bool false)], args := [d1, d2] }
  | _ => none }
def ZoneMovesWrongFalsely : Prop := zoneMovesRow.holds Try.pinned (OpenSpec.ofChange zoneMovesWrong)

/-- 'cardgamelaw25.ZoneLists': WHATEVER THE INPUT: true; the input reads as it did. -/
def zoneListsSpec : ChangeSpec := { name := "zoneLists", fn := fun _ => fun
  | [d1, d2, d3] => { results := [.lit (.bool true)], args := [d1, d2, d3] }
  | _ => none }
def zoneListsRow : OpenClaim := { program := "ytiebjkbofoppaaa", sum := "51648fe91d4f5a3ed6a83a3160a33e347186147d3c1abb4786c3533e4705f317", func := "cardgame/cardgamelaw25.ZoneLists", spec := "zoneLists", inPlace := ["slices.overlaps[cardgame/api.Object]", "slices.overlaps[int]"], unfollowed := true, recurses := true, apart := false }
def ZoneListsSaid : Prop := zoneListsRow.holds Try.pinned (OpenSpec.ofChange zoneListsSpec)

/-- ITS FALSE NEIGHBOUR: 'it returns false'. Refute it at one input. -/
def zoneListsWrong : ChangeSpec := { name := "zoneLists", fn := fun _ => fun
  | [d1, d2, d3] => { results := [.lit (.bool false)], args := [d1, d2, d3] }
  | _ => none }
def ZoneListsWrongFalsely : Prop := zoneListsRow.holds Try.pinned (OpenSpec.ofChange zoneListsWrong)

/-- 'cardgamelaw25.ZoneKeeps': WHATEVER THE INPUT: true; the input reads as it did. -/
def zoneKeepsSpec : ChangeSpec := { name := "zoneKeeps", fn := fun _ => fun
  | [d1, d2, d3] => { results := [.lit (.bool true)], args := [d1, d2, d3] }
  | _ => none }
def zoneKeepsRow : OpenClaim := { program := "ytiebjkbofoppaaa", sum := "51648fe91d4f5a3ed6a83a3160a33e347186147d3c1abb4786c3533e4705f317", func := "cardgame/cardgamelaw25.ZoneKeeps", spec := "zoneKeeps", inPlace := ["slices.overlaps[cardgame/api.Object]", "slices.overlaps[int]"], unfollowed := true, recurses := true, apart := false }
def ZoneKeepsSaid : Prop := zoneKeepsRow.holds Try.pinned (OpenSpec.ofChange zoneKeepsSpec)

/-- ITS FALSE NEIGHBOUR: 'it returns false'. Refute it at one input. -/
def zoneKeepsWrong : ChangeSpec := { name := "zoneKeeps", fn := fun _ => fun
  | [d1, d2, d3] => { results := [.lit (.bool false)], args := [d1, d2, d3] }
  | _ => none }
def ZoneKeepsWrongFalsely : Prop := zoneKeepsRow.holds Try.pinned (OpenSpec.ofChange zoneKeepsWrong)

/- THE SECOND FORM. 'bulk': how many values and letters a reading holds, each counted each time it is reached (what is shared counts as often as it is met; a slice's spare places count too). A statement '..UptoSaid' is the law's where the arguments, and the package variables that the reading takes, are together of bulk at most 1048576: NARROWER than '..Said'. Prove '..Said' where nothing that the law and all that it calls make is longer than what came in: it says more and counts as full. Else prove '..UptoSaid'. A law counts once. -/
mutual
def uptoBulk {H : Type} : DataW H → Nat
  | .lit (.string bytes) => bytes.length + 1
  | .lit _ => 1
  | .nil => 1
  | .ptr d => uptoBulk d + 1
  | .slice elems spare => uptoBulkAll elems + uptoBulkAll spare + 1
  | .agg parts => uptoBulkAll parts + 1
  | .iface _ d => uptoBulk d + 1
  | .map entries => uptoBulkEntries entries + 1
  | .held _ => 1
def uptoBulkAll {H : Type} : List (DataW H) → Nat
  | [] => 0
  | d :: r => uptoBulk d + uptoBulkAll r
def uptoBulkEntries {H : Type} : List (Lit × DataW H) → Nat
  | [] => 0
  | x :: r => uptoBulkEntry x + uptoBulkEntries r
def uptoBulkEntry {H : Type} : Lit × DataW H → Nat
  | (.string bytes, d) => bytes.length + uptoBulk d + 1
  | (_, d) => uptoBulk d + 1
 end
def uptoSmall : (H : Type) → List (DataW H) → Bool := fun _ ds => decide (uptoBulkAll ds ≤ 1048576)
def OpenSpec.upto (s : _root_.Go.ChangeSpec) : _root_.Go.OpenSpec := { _root_.Go.OpenSpec.ofChange s with cond := some uptoSmall }

/-- 'cardgamelaw25.ZonePlaces', WHERE WHAT IT READS IS OF BULK AT MOST 1048576: true; the input reads as it did. -/
def zonePlacesUptoRow : OpenClaim := { program := "ytiebjkbofoppaaa", sum := "51648fe91d4f5a3ed6a83a3160a33e347186147d3c1abb4786c3533e4705f317", func := "cardgame/cardgamelaw25.ZonePlaces", spec := "zonePlaces", inPlace := ["slices.overlaps[cardgame/api.Object]", "slices.overlaps[int]"], unfollowed := true, recurses := true, apart := false, narrowed := true }
def ZonePlacesUptoSaid : Prop := zonePlacesUptoRow.holds Try.pinned (OpenSpec.upto zonePlacesSpec)

/-- 'cardgamelaw25.ZoneMoving', WHERE WHAT IT READS IS OF BULK AT MOST 1048576: true; the input reads as it did. -/
def zoneMovingUptoRow : OpenClaim := { program := "ytiebjkbofoppaaa", sum := "51648fe91d4f5a3ed6a83a3160a33e347186147d3c1abb4786c3533e4705f317", func := "cardgame/cardgamelaw25.ZoneMoving", spec := "zoneMoving", inPlace := ["slices.overlaps[cardgame/api.Object]", "slices.overlaps[int]"], unfollowed := true, recurses := true, apart := false, narrowed := true }
def ZoneMovingUptoSaid : Prop := zoneMovingUptoRow.holds Try.pinned (OpenSpec.upto zoneMovingSpec)

/-- 'cardgamelaw25.ZoneMakes', WHERE WHAT IT READS IS OF BULK AT MOST 1048576: true; the input reads as it did. -/
def zoneMakesUptoRow : OpenClaim := { program := "ytiebjkbofoppaaa", sum := "51648fe91d4f5a3ed6a83a3160a33e347186147d3c1abb4786c3533e4705f317", func := "cardgame/cardgamelaw25.ZoneMakes", spec := "zoneMakes", inPlace := ["slices.overlaps[cardgame/api.Object]", "slices.overlaps[int]"], unfollowed := true, recurses := true, apart := false, narrowed := true }
def ZoneMakesUptoSaid : Prop := zoneMakesUptoRow.holds Try.pinned (OpenSpec.upto zoneMakesSpec)

/-- 'cardgamelaw25.ZoneFinds', WHERE WHAT IT READS IS OF BULK AT MOST 1048576: true; the input reads as it did. -/
def zoneFindsUptoRow : OpenClaim := { program := "ytiebjkbofoppaaa", sum := "51648fe91d4f5a3ed6a83a3160a33e347186147d3c1abb4786c3533e4705f317", func := "cardgame/cardgamelaw25.ZoneFinds", spec := "zoneFinds", inPlace := ["slices.overlaps[cardgame/api.Object]", "slices.overlaps[int]"], unfollowed := true, recurses := true, apart := false, narrowed := true }
def ZoneFindsUptoSaid : Prop := zoneFindsUptoRow.holds Try.pinned (OpenSpec.upto zoneFindsSpec)

/-- 'cardgamelaw25.ZoneMoves', WHERE WHAT IT READS IS OF BULK AT MOST 1048576: true; the input reads as it did. -/
def zoneMovesUptoRow : OpenClaim := { program := "ytiebjkbofoppaaa", sum := "51648fe91d4f5a3ed6a83a3160a33e347186147d3c1abb4786c3533e4705f317", func := "cardgame/cardgamelaw25.ZoneMoves", spec := "zoneMoves", inPlace := ["slices.overlaps[cardgame/api.Object]", "slices.overlaps[int]"], unfollowed := true, recurses := true, apart := false, narrowed := true }
def ZoneMovesUptoSaid : Prop := zoneMovesUptoRow.holds Try.pinned (OpenSpec.upto zoneMovesSpec)

/-- 'cardgamelaw25.ZoneLists', WHERE WHAT IT READS IS OF BULK AT MOST 1048576: true; the input reads as it did. -/
def zoneListsUptoRow : OpenClaim := { program := "ytiebjkbofoppaaa", sum := "51648fe91d4f5a3ed6a83a3160a33e347186147d3c1abb4786c3533e4705f317", func := "cardgame/cardgamelaw25.ZoneLists", spec := "zoneLists", inPlace := ["slices.overlaps[cardgame/api.Object]", "slices.overlaps[int]"], unfollowed := true, recurses := true, apart := false, narrowed := true }
def ZoneListsUptoSaid : Prop := zoneListsUptoRow.holds Try.pinned (OpenSpec.upto zoneListsSpec)

/-- 'cardgamelaw25.ZoneKeeps', WHERE WHAT IT READS IS OF BULK AT MOST 1048576: true; the input reads as it did. -/
def zoneKeepsUptoRow : OpenClaim := { program := "ytiebjkbofoppaaa", sum := "51648fe91d4f5a3ed6a83a3160a33e347186147d3c1abb4786c3533e4705f317", func := "cardgame/cardgamelaw25.ZoneKeeps", spec := "zoneKeeps", inPlace := ["slices.overlaps[cardgame/api.Object]", "slices.overlaps[int]"], unfollowed := true, recurses := true, apart := false, narrowed := true }
def ZoneKeepsUptoSaid : Prop := zoneKeepsUptoRow.holds Try.pinned (OpenSpec.upto zoneKeepsSpec)

end Rows
end Go.Proofs.Ytiebjkbofoppaaa
