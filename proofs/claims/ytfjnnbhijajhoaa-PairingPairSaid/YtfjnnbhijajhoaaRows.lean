/-
  No cell of these rows narrows 'for every input' (looked for: loops, veiled, ifaces, maps, wideKeys, modest, calm, conditions, laid).
  DERIVED. THE GIVEN ROWS OF THIS SEAT. 6 by the template 'for every input the law returns true; each argument reads behind the call as it read before'; 0 by the template 'total and deterministic' (their statements: YtfjnnbhijajhoaaTotals.lean).
  GIVEN WITH THE SEED: the statements are not yours to turn. If you find one false, say at which input.
  Laid BY PROGRAM, IN A SANDBOX (cutbox-rows.mjs): the forced cells as the released guide's own fill.sh prints them over the translation af66b21cbc03004c… (all of the seat's roots in one cut). By AI agents, Wed Nov 11 2026. No macro, syntax, notation, axiom, sorry.
-/
import Derived.Test.YtfjnnbhijajhoaaChecked
import GoSem.Claim
import GoSem.ClaimJoined
import GoSem.ClaimMapViews
import Derived.JoinedTies
import Derived.KernelRfl
namespace Go.Proofs.Ytfjnnbhijajhoaa
/- THE CELL 'sum', in the pinned program and in every row, IS THE sha256 OF THE DUMP (.gsa) THAT YtfjnnbhijajhoaaProg.lean LOADS. Nothing in Lean hashes anything: it is a label: what it is worth is what the hold of that sum in a sandbox is worth. -/
noncomputable def Try.pinned : Pinned := { name := "ytfjnnbhijajhoaa", sum := "af66b21cbc03004c99dfe9c21e23bce3a0f62a660861f72c98f31022a06bbbee", checked := Try.checked }
namespace Rows
def none {H : Type} : Left H := { results := [], args := [] }

/-- 'cardgamelaw56.PairingStandings': WHATEVER THE INPUT: true; the input reads as it did. -/
def pairingStandingsSpec : ChangeSpec := { name := "pairingStandings", fn := fun _ => fun
  | [d1, d2] => { results := [.lit (.bool true)], args := [d1, d2] }
  | _ => none }
def pairingStandingsRow : OpenClaim := { program := "ytfjnnbhijajhoaa", sum := "af66b21cbc03004c99dfe9c21e23bce3a0f62a660861f72c98f31022a06bbbee", func := "cardgame/cardgamelaw56.PairingStandings", spec := "pairingStandings", unfollowed := true, recurses := true, apart := false }
def PairingStandingsSaid : Prop := pairingStandingsRow.holds Try.pinned (OpenSpec.ofChange pairingStandingsSpec)

/-- ITS FALSE NEIGHBOUR: 'it returns false'. Refute it at one input. -/
def pairingStandingsWrong : ChangeSpec := { name := "pairingStandings", fn := fun _ => fun
  | [d1, d2] => { results := [.lit (.bool false)], args := [d1, d2] }
  | _ => none }
def PairingStandingsWrongFalsely : Prop := pairingStandingsRow.holds Try.pinned (OpenSpec.ofChange pairingStandingsWrong)

/-- 'cardgamelaw56.PairingPlayed': WHATEVER THE INPUT: true; the input reads as it did. -/
def pairingPlayedSpec : ChangeSpec := { name := "pairingPlayed", fn := fun _ => fun
  | [d1, d2, d3] => { results := [.lit (.bool true)], args := [d1, d2, d3] }
  | _ => none }
def pairingPlayedRow : OpenClaim := { program := "ytfjnnbhijajhoaa", sum := "af66b21cbc03004c99dfe9c21e23bce3a0f62a660861f72c98f31022a06bbbee", func := "cardgame/cardgamelaw56.PairingPlayed", spec := "pairingPlayed", unfollowed := true, recurses := true, apart := false }
def PairingPlayedSaid : Prop := pairingPlayedRow.holds Try.pinned (OpenSpec.ofChange pairingPlayedSpec)

/-- ITS FALSE NEIGHBOUR: 'it returns false'. Refute it at one input. -/
def pairingPlayedWrong : ChangeSpec := { name := "pairingPlayed", fn := fun _ => fun
  | [d1, d2, d3] => { results := [.lit (.bool false)], args := [d1, d2, d3] }
  | _ => none }
def PairingPlayedWrongFalsely : Prop := pairingPlayedRow.holds Try.pinned (OpenSpec.ofChange pairingPlayedWrong)

/-- 'cardgamelaw56.PairingPair': WHATEVER THE INPUT: true; the input reads as it did. -/
def pairingPairSpec : ChangeSpec := { name := "pairingPair", fn := fun _ => fun
  | [d1, d2] => { results := [.lit (.bool true)], args := [d1, d2] }
  | _ => none }
def pairingPairRow : OpenClaim := { program := "ytfjnnbhijajhoaa", sum := "af66b21cbc03004c99dfe9c21e23bce3a0f62a660861f72c98f31022a06bbbee", func := "cardgame/cardgamelaw56.PairingPair", spec := "pairingPair", unfollowed := true, recurses := true, apart := false }
def PairingPairSaid : Prop := pairingPairRow.holds Try.pinned (OpenSpec.ofChange pairingPairSpec)

/-- ITS FALSE NEIGHBOUR: 'it returns false'. Refute it at one input. -/
def pairingPairWrong : ChangeSpec := { name := "pairingPair", fn := fun _ => fun
  | [d1, d2] => { results := [.lit (.bool false)], args := [d1, d2] }
  | _ => none }
def PairingPairWrongFalsely : Prop := pairingPairRow.holds Try.pinned (OpenSpec.ofChange pairingPairWrong)

/-- 'cardgamelaw56.PairingOnce': WHATEVER THE INPUT: true; the input reads as it did. -/
def pairingOnceSpec : ChangeSpec := { name := "pairingOnce", fn := fun _ => fun
  | [d1, d2] => { results := [.lit (.bool true)], args := [d1, d2] }
  | _ => none }
def pairingOnceRow : OpenClaim := { program := "ytfjnnbhijajhoaa", sum := "af66b21cbc03004c99dfe9c21e23bce3a0f62a660861f72c98f31022a06bbbee", func := "cardgame/cardgamelaw56.PairingOnce", spec := "pairingOnce", unfollowed := true, recurses := true, apart := false }
def PairingOnceSaid : Prop := pairingOnceRow.holds Try.pinned (OpenSpec.ofChange pairingOnceSpec)

/-- ITS FALSE NEIGHBOUR: 'it returns false'. Refute it at one input. -/
def pairingOnceWrong : ChangeSpec := { name := "pairingOnce", fn := fun _ => fun
  | [d1, d2] => { results := [.lit (.bool false)], args := [d1, d2] }
  | _ => none }
def PairingOnceWrongFalsely : Prop := pairingOnceRow.holds Try.pinned (OpenSpec.ofChange pairingOnceWrong)

/-- 'cardgamelaw56.PairingTotals': WHATEVER THE INPUT: true; the input reads as it did. -/
def pairingTotalsSpec : ChangeSpec := { name := "pairingTotals", fn := fun _ => fun
  | [d1, d2] => { results := [.lit (.bool true)], args := [d1, d2] }
  | _ => none }
def pairingTotalsRow : OpenClaim := { program := "ytfjnnbhijajhoaa", sum := "af66b21cbc03004c99dfe9c21e23bce3a0f62a660861f72c98f31022a06bbbee", func := "cardgame/cardgamelaw56.PairingTotals", spec := "pairingTotals", unfollowed := true, recurses := true, apart := false }
def PairingTotalsSaid : Prop := pairingTotalsRow.holds Try.pinned (OpenSpec.ofChange pairingTotalsSpec)

/-- ITS FALSE NEIGHBOUR: 'it returns false'. Refute it at one input. -/
def pairingTotalsWrong : ChangeSpec := { name := "pairingTotals", fn := fun _ => fun
  | [d1, d2] => { results := [.lit (.bool false)], args := [d1, d2] }
  | _ => none }
def PairingTotalsWrongFalsely : Prop := pairingTotalsRow.holds Try.pinned (OpenSpec.ofChange pairingTotalsWrong)

/-- 'cardgamelaw56.PairingFresh': WHATEVER THE INPUT: true; the input reads as it did. -/
def pairingFreshSpec : ChangeSpec := { name := "pairingFresh", fn := fun _ => fun
  | [d1, d2] => { results := [.lit (.bool true)], args := [d1, d2] }
  | _ => none }
def pairingFreshRow : OpenClaim := { program := "ytfjnnbhijajhoaa", sum := "af66b21cbc03004c99dfe9c21e23bce3a0f62a660861f72c98f31022a06bbbee", func := "cardgame/cardgamelaw56.PairingFresh", spec := "pairingFresh", unfollowed := true, recurses := true, apart := false }
def PairingFreshSaid : Prop := pairingFreshRow.holds Try.pinned (OpenSpec.ofChange pairingFreshSpec)

/-- ITS FALSE NEIGHBOUR: 'it returns false'. Refute it at one input. -/
def pairingFreshWrong : ChangeSpec := { name := "pairingFresh", fn := fun _ => fun
  | [d1, d2] => { results := [.lit (.bool false)], args := [d1, d2] }
  | _ => none }
def PairingFreshWrongFalsely : Prop := pairingFreshRow.holds Try.pinned (OpenSpec.ofChange pairingFreshWrong)

/- THE SECOND FORM. 'bulk': how many values and letters a reading holds, each counted each time it is reached (what is shared counts as often as it is met; a slice's spare places count too). A statement '..UptoSaid' is the law's where the arguments, and the package variables that the reading takes, are together of bulk at most 1048576: NARROWER than '..Said'. Prove '..Said' where nothing that the law and all that it calls make is longer than what came in: it says more and counts as full. Else prove '..UptoSaid'. A law counts once. -/
mutual
def uptoBulk {H : Type} : DataW H → Nat
  | .lit (.string bytes) => bytes.length + 1
  | .lit _ => 1
  | .nil => 1
  | .ptr d => uptoBulk d + 1
  | .slice elems spare => uptoBulkAll elems + uptoBulkAll spare + 1
  | .agg parts => uptoBulkAll parts + 1
  | .iface _ d => uptoBulk d + 1
  | .map entries => uptoBulkEntries entries + 1
  | .held _ => 1
def uptoBulkAll {H : Type} : List (DataW H) → Nat
  | [] => 0
  | d :: r => uptoBulk d + uptoBulkAll r
def uptoBulkEntries {H : Type} : List (Lit × DataW H) → Nat
  | [] => 0
  | x :: r => uptoBulkEntry x + uptoBulkEntries r
def uptoBulkEntry {H : Type} : Lit × DataW H → Nat
  | (.string bytes, d) => bytes.length + uptoBulk d + 1
  | (_, d) => uptoBulk d + 1
 end
def uptoSmall : (H : Type) → List (DataW H) → Bool := fun _ ds => decide (uptoBulkAll ds ≤ 1048576)
def OpenSpec.upto (s : _root_.Go.ChangeSpec) : _root_.Go.OpenSpec := { _root_.Go.OpenSpec.ofChange s with cond := some uptoSmall }

/-- 'cardgamelaw56.PairingStandings', WHERE WHAT IT READS IS OF BULK AT MOST 1048576: true; the input reads as it did. -/
def pairingStandingsUptoRow : OpenClaim := { program := "ytfjnnbhijajhoaa", sum := "af66b21cbc03004c99dfe9c21e23bce3a0f62a660861f72c98f31022a06bbbee", func := "cardgame/cardgamelaw56.PairingStandings", spec := "pairingStandings", unfollowed := true, recurses := true, apart := false, narrowed := true }
def PairingStandingsUptoSaid : Prop := pairingStandingsUptoRow.holds Try.pinned (OpenSpec.upto pairingStandingsSpec)

/-- 'cardgamelaw56.PairingPlayed', WHERE WHAT IT READS IS OF BULK AT MOST 1048576: true; the input reads as it did. -/
def pairingPlayedUptoRow : OpenClaim := { program := "ytfjnnbhijajhoaa", sum := "af66b21cbc03004c99dfe9c21e23bce3a0f62a660861f72c98f31022a06bbbee", func := "cardgame/cardgamelaw56.PairingPlayed", spec := "pairingPlayed", unfollowed := true, recurses := true, apart := false, narrowed := true }
def PairingPlayedUptoSaid : Prop := pairingPlayedUptoRow.holds Try.pinned (OpenSpec.upto pairingPlayedSpec)

/-- 'cardgamelaw56.PairingPair', WHERE WHAT IT READS IS OF BULK AT MOST 1048576: true; the input reads as it did. -/
def pairingPairUptoRow : OpenClaim := { program := "ytfjnnbhijajhoaa", sum := "af66b21cbc03004c99dfe9c21e23bce3a0f62a660861f72c98f31022a06bbbee", func := "cardgame/cardgamelaw56.PairingPair", spec := "pairingPair", unfollowed := true, recurses := true, apart := false, narrowed := true }
def PairingPairUptoSaid : Prop := pairingPairUptoRow.holds Try.pinned (OpenSpec.upto pairingPairSpec)

/-- 'cardgamelaw56.PairingOnce', WHERE WHAT IT READS IS OF BULK AT MOST 1048576: true; the input reads as it did. -/
def pairingOnceUptoRow : OpenClaim := { program := "ytfjnnbhijajhoaa", sum := "af66b21cbc03004c99dfe9c21e23bce3a0f62a660861f72c98f31022a06bbbee", func := "cardgame/cardgamelaw56.PairingOnce", spec := "pairingOnce", unfollowed := true, recurses := true, apart := false, narrowed := true }
def PairingOnceUptoSaid : Prop := pairingOnceUptoRow.holds Try.pinned (OpenSpec.upto pairingOnceSpec)

/-- 'cardgamelaw56.PairingTotals', WHERE WHAT IT READS IS OF BULK AT MOST 1048576: true; the input reads as it did. -/
def pairingTotalsUptoRow : OpenClaim := { program := "ytfjnnbhijajhoaa", sum := "af66b21cbc03004c99dfe9c21e23bce3a0f62a660861f72c98f31022a06bbbee", func := "cardgame/cardgamelaw56.PairingTotals", spec := "pairingTotals", unfollowed := true, recurses := true, apart := false, narrowed := true }
def PairingTotalsUptoSaid : Prop := pairingTotalsUptoRow.holds Try.pinned (OpenSpec.upto pairingTotalsSpec)

/-- 'cardgamelaw56.PairingFresh', WHERE WHAT IT READS IS OF BULK AT MOST 1048576: true; the input reads as it did. -/
def pairingFreshUptoRow : OpenClaim := { program := "ytfjnnbhijajhoaa", sum := "af66b21cbc03004c99dfe9c21e23bce3a0f62a660861f72c98f31022a06bbbee", func := "cardgame/cardgamelaw56.PairingFresh", spec := "pairingFresh", unfollowed := true, recurses := true, apart := false, narrowed := true }
def PairingFreshUptoSaid : Prop := pairingFreshUptoRow.holds Try.pinned (OpenSpec.upto pairingFreshSpec)

end Rows
end Go.Proofs.Ytfjnnbhijajhoaa
