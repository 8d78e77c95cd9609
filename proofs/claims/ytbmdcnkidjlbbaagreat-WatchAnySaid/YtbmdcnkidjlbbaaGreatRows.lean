/-
  No cell of these rows narrows 'for every input' (looked for: loops, veiled, ifaces, maps, wideKeys, modest, calm, conditions, laid).
  DERIVED. THE GIVEN ROWS OF THIS SEAT. 5 by the template 'for every input the law returns true; each argument reads behind the call as it read before'; 0 by the template 'total and deterministic' (their statements: YtbmdcnkidjlbbaaGreatTotals.lean).
  GIVEN WITH THE SEED: the statements are not yours to turn. If you find one false, say at which input.
  Laid BY PROGRAM, IN A SANDBOX (cutbox-rows.mjs): the forced cells as the released guide's own fill.sh prints them over the translation 5e0c24fb4bbde5fe… (all of the seat's roots in one cut). By AI agents, Wed Nov 11 2026. No macro, syntax, notation, axiom, sorry.
-/
import Derived.Test.YtbmdcnkidjlbbaaGreatChecked
import GoSem.Claim
import GoSem.ClaimJoined
import GoSem.ClaimMapViews
import Derived.JoinedTies
import Derived.KernelRfl
namespace Go.Proofs.YtbmdcnkidjlbbaaGreat
/- THE CELL 'sum', in the pinned program and in every row, IS THE sha256 OF THE DUMP (.gsa) THAT YtbmdcnkidjlbbaaGreatProg.lean LOADS. Nothing in Lean hashes anything: it is a label: what it is worth is what the hold of that sum in a sandbox is worth. -/
noncomputable def Tryz.pinned : Pinned := { name := "ytbmdcnkidjlbbaagreat", sum := "5e0c24fb4bbde5fe9bd3f1112c70f374bb6ced400613bbccf471c2ac90d8851b", checked := Tryz.checked }
namespace Rows
def none {H : Type} : Left H := { results := [], args := [] }

/-- 'cardgamelaw35.WatchDoes': WHATEVER THE INPUT: true; the input reads as it did. -/
def watchDoesSpec : ChangeSpec := { name := "watchDoes", fn := fun _ => fun
  | [d1, d2, d3] => { results := [.lit (.bool true)], args := [d1, d2, d3] }
  | _ => none }
def watchDoesRow : OpenClaim := { program := "ytbmdcnkidjlbbaagreat", sum := "5e0c24fb4bbde5fe9bd3f1112c70f374bb6ced400613bbccf471c2ac90d8851b", func := "cardgame/cardgamelaw35.WatchDoes", spec := "watchDoes", inPlace := ["internal/bytealg.IndexByteString", "internal/bytealg.IndexString"], unfollowed := true, recurses := true, named := ["internal/bytealg.MaxLen"], apart := false }
def WatchDoesSaid : Prop := watchDoesRow.holds Tryz.pinned (OpenSpec.ofChange watchDoesSpec)

/-- ITS FALSE NEIGHBOUR: 'it returns false'. Refute it at one input. -/
def watchDoesWrong : ChangeSpec := { name := "watchDoes", fn := fun _ => fun
  | [d1, d2, d3] => { results := [.lit (.bool false)], args := [d1, d2, d3] }
  | _ => none }
def WatchDoesWrongFalsely : Prop := watchDoesRow.holds Tryz.pinned (OpenSpec.ofChange watchDoesWrong)

/-- 'cardgamelaw35.WatchAny': WHATEVER THE INPUT: true; the input reads as it did. -/
def watchAnySpec : ChangeSpec := { name := "watchAny", fn := fun _ => fun
  | [d] => { results := [.lit (.bool true)], args := [d] }
  | _ => none }
def watchAnyRow : OpenClaim := { program := "ytbmdcnkidjlbbaagreat", sum := "5e0c24fb4bbde5fe9bd3f1112c70f374bb6ced400613bbccf471c2ac90d8851b", func := "cardgame/cardgamelaw35.WatchAny", spec := "watchAny", inPlace := ["internal/bytealg.IndexByteString", "internal/bytealg.IndexString"], unfollowed := true, recurses := true, named := ["internal/bytealg.MaxLen"], apart := false }
def WatchAnySaid : Prop := watchAnyRow.holds Tryz.pinned (OpenSpec.ofChange watchAnySpec)

/-- ITS FALSE NEIGHBOUR: 'it returns false'. Refute it at one input. -/
def watchAnyWrong : ChangeSpec := { name := "watchAny", fn := fun _ => fun
  | [d] => { results := [.lit (.bool false)], args := [d] }
  | _ => none }
def WatchAnyWrongFalsely : Prop := watchAnyRow.holds Tryz.pinned (OpenSpec.ofChange watchAnyWrong)

/-- 'cardgamelaw35.WatchFires': WHATEVER THE INPUT: true; the input reads as it did. -/
def watchFiresSpec : ChangeSpec := { name := "watchFires", fn := fun _ => fun
  | [d1, d2, d3] => { results := [.lit (.bool true)], args := [d1, d2, d3] }
  | _ => none }
def watchFiresRow : OpenClaim := { program := "ytbmdcnkidjlbbaagreat", sum := "5e0c24fb4bbde5fe9bd3f1112c70f374bb6ced400613bbccf471c2ac90d8851b", func := "cardgame/cardgamelaw35.WatchFires", spec := "watchFires", inPlace := ["internal/bytealg.IndexByteString", "internal/bytealg.IndexString"], unfollowed := true, recurses := true, named := ["internal/bytealg.MaxLen"], apart := false }
def WatchFiresSaid : Prop := watchFiresRow.holds Tryz.pinned (OpenSpec.ofChange watchFiresSpec)

/-- ITS FALSE NEIGHBOUR: 'it returns false'. Refute it at one input. -/
def watchFiresWrong : ChangeSpec := { name := "watchFires", fn := fun _ => fun
  | [d1, d2, d3] => { results := [.lit (.bool false)], args := [d1, d2, d3] }
  | _ => none }
def WatchFiresWrongFalsely : Prop := watchFiresRow.holds Tryz.pinned (OpenSpec.ofChange watchFiresWrong)

/-- 'cardgamelaw35.WatchPlayers': WHATEVER THE INPUT: true; the input reads as it did. -/
def watchPlayersSpec : ChangeSpec := { name := "watchPlayers", fn := fun _ => fun
  | [d] => { results := [.lit (.bool true)], args := [d] }
  | _ => none }
def watchPlayersRow : OpenClaim := { program := "ytbmdcnkidjlbbaagreat", sum := "5e0c24fb4bbde5fe9bd3f1112c70f374bb6ced400613bbccf471c2ac90d8851b", func := "cardgame/cardgamelaw35.WatchPlayers", spec := "watchPlayers", inPlace := ["internal/bytealg.IndexByteString", "internal/bytealg.IndexString"], unfollowed := true, recurses := true, named := ["internal/bytealg.MaxLen"], apart := false }
def WatchPlayersSaid : Prop := watchPlayersRow.holds Tryz.pinned (OpenSpec.ofChange watchPlayersSpec)

/-- ITS FALSE NEIGHBOUR: 'it returns false'. Refute it at one input. -/
def watchPlayersWrong : ChangeSpec := { name := "watchPlayers", fn := fun _ => fun
  | [d] => { results := [.lit (.bool false)], args := [d] }
  | _ => none }
def WatchPlayersWrongFalsely : Prop := watchPlayersRow.holds Tryz.pinned (OpenSpec.ofChange watchPlayersWrong)

/-- 'cardgamelaw35.WatchDeaths': WHATEVER THE INPUT: true; the input reads as it did. -/
def watchDeathsSpec : ChangeSpec := { name := "watchDeaths", fn := fun _ => fun
  | [d1, d2, d3] => { results := [.lit (.bool true)], args := [d1, d2, d3] }
  | _ => none }
def watchDeathsRow : OpenClaim := { program := "ytbmdcnkidjlbbaagreat", sum := "5e0c24fb4bbde5fe9bd3f1112c70f374bb6ced400613bbccf471c2ac90d8851b", func := "cardgame/cardgamelaw35.WatchDeaths", spec := "watchDeaths", inPlace := ["internal/bytealg.IndexByteString", "internal/bytealg.IndexString"], unfollowed := true, recurses := true, named := ["internal/bytealg.MaxLen"], apart := false }
def WatchDeathsSaid : Prop := watchDeathsRow.holds Tryz.pinned (OpenSpec.ofChange watchDeathsSpec)

/-- ITS FALSE NEIGHBOUR: 'it returns false'. Refute it at one input. -/
def watchDeathsWrong : ChangeSpec := { name := "watchDeaths", fn := fun _ => fun
  | [d1, d2, d3] => { results := [.lit (.bool false)], args := [d1, d2, d3] }
  | _ => none }
def WatchDeathsWrongFalsely : Prop := watchDeathsRow.holds Tryz.pinned (OpenSpec.ofChange watchDeathsWrong)

/- THE SECOND FORM. 'bulk': how many values and letters a reading holds, each counted each time it is reached (what is shared counts as often as it is met; a slice's spare places count too). A statement '..UptoSaid' is the law's where the arguments, and the package variables that the reading takes, are together of bulk at most 1048576: NARROWER than '..Said'. Prove '..Said' where nothing that the law and all that it calls make is longer than what came in: it says more and counts as full. Else prove '..UptoSaid'. A law counts once. -/
mutual
def uptoBulk {H : Type} : DataW H → Nat
  | .lit (.string bytes) => bytes.length + 1
  | .lit _ => 1
  | .nil => 1
  | .ptr d => uptoBulk d + 1
  | .slice elems spare => uptoBulkAll elems + uptoBulkAll spare + 1
  | .agg parts => uptoBulkAll parts + 1
  | .iface _ d => uptoBulk d + 1
  | .map entries => uptoBulkEntries entries + 1
  | .held _ => 1
def uptoBulkAll {H : Type} : List (DataW H) → Nat
  | [] => 0
  | d :: r => uptoBulk d + uptoBulkAll r
def uptoBulkEntries {H : Type} : List (Lit × DataW H) → Nat
  | [] => 0
  | x :: r => uptoBulkEntry x + uptoBulkEntries r
def uptoBulkEntry {H : Type} : Lit × DataW H → Nat
  | (.string bytes, d) => bytes.length + uptoBulk d + 1
  | (_, d) => uptoBulk d + 1
 end
def uptoSmall : (H : Type) → List (DataW H) → Bool := fun _ ds => decide (uptoBulkAll ds ≤ 1048576)
def OpenSpec.upto (s : _root_.Go.ChangeSpec) : _root_.Go.OpenSpec := { _root_.Go.OpenSpec.ofChange s with cond := some uptoSmall }

/-- 'cardgamelaw35.WatchDoes', WHERE WHAT IT READS IS OF BULK AT MOST 1048576: true; the input reads as it did. -/
def watchDoesUptoRow : OpenClaim := { program := "ytbmdcnkidjlbbaagreat", sum := "5e0c24fb4bbde5fe9bd3f1112c70f374bb6ced400613bbccf471c2ac90d8851b", func := "cardgame/cardgamelaw35.WatchDoes", spec := "watchDoes", inPlace := ["internal/bytealg.IndexByteString", "internal/bytealg.IndexString"], unfollowed := true, recurses := true, named := ["internal/bytealg.MaxLen"], apart := false, narrowed := true }
def WatchDoesUptoSaid : Prop := watchDoesUptoRow.holds Tryz.pinned (OpenSpec.upto watchDoesSpec)

/-- 'cardgamelaw35.WatchAny', WHERE WHAT IT READS IS OF BULK AT MOST 1048576: true; the input reads as it did. -/
def watchAnyUptoRow : OpenClaim := { program := "ytbmdcnkidjlbbaagreat", sum := "5e0c24fb4bbde5fe9bd3f1112c70f374bb6ced400613bbccf471c2ac90d8851b", func := "cardgame/cardgamelaw35.WatchAny", spec := "watchAny", inPlace := ["internal/bytealg.IndexByteString", "internal/bytealg.IndexString"], unfollowed := true, recurses := true, named := ["internal/bytealg.MaxLen"], apart := false, narrowed := true }
def WatchAnyUptoSaid : Prop := watchAnyUptoRow.holds Tryz.pinned (OpenSpec.upto watchAnySpec)

/-- 'cardgamelaw35.WatchFires', WHERE WHAT IT READS IS OF BULK AT MOST 1048576: true; the input reads as it did. -/
def watchFiresUptoRow : OpenClaim := { program := "ytbmdcnkidjlbbaagreat", sum := "5e0c24fb4bbde5fe9bd3f1112c70f374bb6ced400613bbccf471c2ac90d8851b", func := "cardgame/cardgamelaw35.WatchFires", spec := "watchFires", inPlace := ["internal/bytealg.IndexByteString", "internal/bytealg.IndexString"], unfollowed := true, recurses := true, named := ["internal/bytealg.MaxLen"], apart := false, narrowed := true }
def WatchFiresUptoSaid : Prop := watchFiresUptoRow.holds Tryz.pinned (OpenSpec.upto watchFiresSpec)

/-- 'cardgamelaw35.WatchPlayers', WHERE WHAT IT READS IS OF BULK AT MOST 1048576: true; the input reads as it did. -/
def watchPlayersUptoRow : OpenClaim := { program := "ytbmdcnkidjlbbaagreat", sum := "5e0c24fb4bbde5fe9bd3f1112c70f374bb6ced400613bbccf471c2ac90d8851b", func := "cardgame/cardgamelaw35.WatchPlayers", spec := "watchPlayers", inPlace := ["internal/bytealg.IndexByteString", "internal/bytealg.IndexString"], unfollowed := true, recurses := true, named := ["internal/bytealg.MaxLen"], apart := false, narrowed := true }
def WatchPlayersUptoSaid : Prop := watchPlayersUptoRow.holds Tryz.pinned (OpenSpec.upto watchPlayersSpec)

/-- 'cardgamelaw35.WatchDeaths', WHERE WHAT IT READS IS OF BULK AT MOST 1048576: true; the input reads as it did. -/
def watchDeathsUptoRow : OpenClaim := { program := "ytbmdcnkidjlbbaagreat", sum := "5e0c24fb4bbde5fe9bd3f1112c70f374bb6ced400613bbccf471c2ac90d8851b", func := "cardgame/cardgamelaw35.WatchDeaths", spec := "watchDeaths", inPlace := ["internal/bytealg.IndexByteString", "internal/bytealg.IndexString"], unfollowed := true, recurses := true, named := ["internal/bytealg.MaxLen"], apart := false, narrowed := true }
def WatchDeathsUptoSaid : Prop := watchDeathsUptoRow.holds Tryz.pinned (OpenSpec.upto watchDeathsSpec)

end Rows
end Go.Proofs.YtbmdcnkidjlbbaaGreat
