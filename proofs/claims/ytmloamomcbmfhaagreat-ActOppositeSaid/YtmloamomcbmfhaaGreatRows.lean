/-
  No cell of these rows narrows 'for every input' (looked for: loops, veiled, ifaces, maps, wideKeys, modest, calm, conditions, laid).
  DERIVED. THE GIVEN ROWS OF THIS SEAT. 4 by the template 'for every input the law returns true; each argument reads behind the call as it read before'; 0 by the template 'total and deterministic' (their statements: YtmloamomcbmfhaaGreatTotals.lean).
  GIVEN WITH THE SEED: the statements are not yours to turn. If you find one false, say at which input.
  Laid BY PROGRAM, IN A SANDBOX (cutbox-rows.mjs): the forced cells as the released guide's own fill.sh prints them over the translation 47ace97f40732a56… (all of the seat's roots in one cut). By AI agents, Wed Nov 11 2026. No macro, syntax, notation, axiom, sorry.
-/
import Derived.Test.YtmloamomcbmfhaaGreatChecked
import GoSem.Claim
import GoSem.ClaimJoined
import GoSem.ClaimMapViews
import Derived.JoinedTies
import Derived.KernelRfl
namespace Go.Proofs.YtmloamomcbmfhaaGreat
/- THE CELL 'sum', in the pinned program and in every row, IS THE sha256 OF THE DUMP (.gsa) THAT YtmloamomcbmfhaaGreatProg.lean LOADS. Nothing in Lean hashes anything: it is a label: what it is worth is what the hold of that sum in a sandbox is worth. -/
noncomputable def Tryz.pinned : Pinned := { name := "ytmloamomcbmfhaagreat", sum := "47ace97f40732a56903cf34617986468361d60c4380835e422c4c154eb3e3298", checked := Tryz.checked }
namespace Rows
def none {H : Type} : Left H := { results := [], args := [] }

/-- 'cardgamelaw33.ActDoes': WHATEVER THE INPUT: true; the input reads as it did. -/
def actDoesSpec : ChangeSpec := { name := "actDoes", fn := fun _ => fun
  | [d] => { results := [.lit (.bool true)], args := [d] }
  | _ => none }
def actDoesRow : OpenClaim := { program := "ytmloamomcbmfhaagreat", sum := "47ace97f40732a56903cf34617986468361d60c4380835e422c4c154eb3e3298", func := "cardgame/cardgamelaw33.ActDoes", spec := "actDoes", inPlace := ["slices.overlaps[cardgame/api.Object]", "slices.overlaps[int]"], unfollowed := true, recurses := true, apart := false }
def ActDoesSaid : Prop := actDoesRow.holds Tryz.pinned (OpenSpec.ofChange actDoesSpec)

/-- ITS FALSE NEIGHBOUR: 'it returns false'. Refute it at one input. -/
def actDoesWrong : ChangeSpec := { name := "actDoes", fn := fun _ => fun
  | [d] => { results := [.lit (.bool false)], args := [d] }
  | _ => none }
def ActDoesWrongFalsely : Prop := actDoesRow.holds Tryz.pinned (OpenSpec.ofChange actDoesWrong)

/-- 'cardgamelaw33.ActValid': WHATEVER THE INPUT: true; the input reads as it did. -/
def actValidSpec : ChangeSpec := { name := "actValid", fn := fun _ => fun
  | [d] => { results := [.lit (.bool true)], args := [d] }
  | _ => none }
def actValidRow : OpenClaim := { program := "ytmloamomcbmfhaagreat", sum := "47ace97f40732a56903cf34617986468361d60c4380835e422c4c154eb3e3298", func := "cardgame/cardgamelaw33.ActValid", spec := "actValid", inPlace := ["slices.overlaps[cardgame/api.Object]", "slices.overlaps[int]"], unfollowed := true, recurses := true, apart := false }
def ActValidSaid : Prop := actValidRow.holds Tryz.pinned (OpenSpec.ofChange actValidSpec)

/-- ITS FALSE NEIGHBOUR: 'it returns false'. Refute it at one input. -/
def actValidWrong : ChangeSpec := { name := "actValid", fn := fun _ => fun
  | [d] => { results := [.lit (.bool false)], args := [d] }
  | _ => none }
def ActValidWrongFalsely : Prop := actValidRow.holds Tryz.pinned (OpenSpec.ofChange actValidWrong)

/-- 'cardgamelaw33.ActKeeps': WHATEVER THE INPUT: true; the input reads as it did. -/
def actKeepsSpec : ChangeSpec := { name := "actKeeps", fn := fun _ => fun
  | [d] => { results := [.lit (.bool true)], args := [d] }
  | _ => none }
def actKeepsRow : OpenClaim := { program := "ytmloamomcbmfhaagreat", sum := "47ace97f40732a56903cf34617986468361d60c4380835e422c4c154eb3e3298", func := "cardgame/cardgamelaw33.ActKeeps", spec := "actKeeps", inPlace := ["slices.overlaps[cardgame/api.Object]", "slices.overlaps[int]"], unfollowed := true, recurses := true, apart := false }
def ActKeepsSaid : Prop := actKeepsRow.holds Tryz.pinned (OpenSpec.ofChange actKeepsSpec)

/-- ITS FALSE NEIGHBOUR: 'it returns false'. Refute it at one input. -/
def actKeepsWrong : ChangeSpec := { name := "actKeeps", fn := fun _ => fun
  | [d] => { results := [.lit (.bool false)], args := [d] }
  | _ => none }
def ActKeepsWrongFalsely : Prop := actKeepsRow.holds Tryz.pinned (OpenSpec.ofChange actKeepsWrong)

/-- 'cardgamelaw33.ActOpposite': WHATEVER THE INPUT: true; the input reads as it did. -/
def actOppositeSpec : ChangeSpec := { name := "actOpposite", fn := fun _ => fun
  | [d] => { results := [.lit (.bool true)], args := [d] }
  | _ => none }
def actOppositeRow : OpenClaim := { program := "ytmloamomcbmfhaagreat", sum := "47ace97f40732a56903cf34617986468361d60c4380835e422c4c154eb3e3298", func := "cardgame/cardgamelaw33.ActOpposite", spec := "actOpposite", inPlace := ["slices.overlaps[cardgame/api.Object]", "slices.overlaps[int]"], unfollowed := true, recurses := true, apart := false }
def ActOppositeSaid : Prop := actOppositeRow.holds Tryz.pinned (OpenSpec.ofChange actOppositeSpec)

/-- ITS FALSE NEIGHBOUR: 'it returns false'. Refute it at one input. -/
def actOppositeWrong : ChangeSpec := { name := "actOpposite", fn := fun _ => fun
  | [d] => { results := [.lit (.bool false)], args := [d] }
  | _ => none }
def ActOppositeWrongFalsely : Prop := actOppositeRow.holds Tryz.pinned (OpenSpec.ofChange actOppositeWrong)

/- THE SECOND FORM. 'bulk': how many values and letters a reading holds, each counted each time it is reached (what is shared counts as often as it is met; a slice's spare places count too). A statement '..UptoSaid' is the law's where the arguments, and the package variables that the reading takes, are together of bulk at most 1048576: NARROWER than '..Said'. Prove '..Said' where nothing that the law and all that it calls make is longer than what came in: it says more and counts as full. Else prove '..UptoSaid'. A law counts once. -/
mutual
def uptoBulk {H : Type} : DataW H → Nat
  | .lit (.string bytes) => bytes.length + 1
  | .lit _ => 1
  | .nil => 1
  | .ptr d => uptoBulk d + 1
  | .slice elems spare => uptoBulkAll elems + uptoBulkAll spare + 1
  | .agg parts => uptoBulkAll parts + 1
  | .iface _ d => uptoBulk d + 1
  | .map entries => uptoBulkEntries entries + 1
  | .held _ => 1
def uptoBulkAll {H : Type} : List (DataW H) → Nat
  | [] => 0
  | d :: r => uptoBulk d + uptoBulkAll r
def uptoBulkEntries {H : Type} : List (Lit × DataW H) → Nat
  | [] => 0
  | x :: r => uptoBulkEntry x + uptoBulkEntries r
def uptoBulkEntry {H : Type} : Lit × DataW H → Nat
  | (.string bytes, d) => bytes.length + uptoBulk d + 1
  | (_, d) => uptoBulk d + 1
 end
def uptoSmall : (H : Type) → List (DataW H) → Bool := fun _ ds => decide (uptoBulkAll ds ≤ 1048576)
def OpenSpec.upto (s : _root_.Go.ChangeSpec) : _root_.Go.OpenSpec := { _root_.Go.OpenSpec.ofChange s with cond := some uptoSmall }

/-- 'cardgamelaw33.ActDoes', WHERE WHAT IT READS IS OF BULK AT MOST 1048576: true; the input reads as it did. -/
def actDoesUptoRow : OpenClaim := { program := "ytmloamomcbmfhaagreat", sum := "47ace97f40732a56903cf34617986468361d60c4380835e422c4c154eb3e3298", func := "cardgame/cardgamelaw33.ActDoes", spec := "actDoes", inPlace := ["slices.overlaps[cardgame/api.Object]", "slices.overlaps[int]"], unfollowed := true, recurses := true, apart := false, narrowed := true }
def ActDoesUptoSaid : Prop := actDoesUptoRow.holds Tryz.pinned (OpenSpec.upto actDoesSpec)

/-- 'cardgamelaw33.ActValid', WHERE WHAT IT READS IS OF BULK AT MOST 1048576: true; the input reads as it did. -/
def actValidUptoRow : OpenClaim := { program := "ytmloamomcbmfhaagreat", sum := "47ace97f40732a56903cf34617986468361d60c4380835e422c4c154eb3e3298", func := "cardgame/cardgamelaw33.ActValid", spec := "actValid", inPlace := ["slices.overlaps[cardgame/api.Object]", "slices.overlaps[int]"], unfollowed := true, recurses := true, apart := false, narrowed := true }
def ActValidUptoSaid : Prop := actValidUptoRow.holds Tryz.pinned (OpenSpec.upto actValidSpec)

/-- 'cardgamelaw33.ActKeeps', WHERE WHAT IT READS IS OF BULK AT MOST 1048576: true; the input reads as it did. -/
def actKeepsUptoRow : OpenClaim := { program := "ytmloamomcbmfhaagreat", sum := "47ace97f40732a56903cf34617986468361d60c4380835e422c4c154eb3e3298", func := "cardgame/cardgamelaw33.ActKeeps", spec := "actKeeps", inPlace := ["slices.overlaps[cardgame/api.Object]", "slices.overlaps[int]"], unfollowed := true, recurses := true, apart := false, narrowed := true }
def ActKeepsUptoSaid : Prop := actKeepsUptoRow.holds Tryz.pinned (OpenSpec.upto actKeepsSpec)

/-- 'cardgamelaw33.ActOpposite', WHERE WHAT IT READS IS OF BULK AT MOST 1048576: true; the input reads as it did. -/
def actOppositeUptoRow : OpenClaim := { program := "ytmloamomcbmfhaagreat", sum := "47ace97f40732a56903cf34617986468361d60c4380835e422c4c154eb3e3298", func := "cardgame/cardgamelaw33.ActOpposite", spec := "actOpposite", inPlace := ["slices.overlaps[cardgame/api.Object]", "slices.overlaps[int]"], unfollowed := true, recurses := true, apart := false, narrowed := true }
def ActOppositeUptoSaid : Prop := actOppositeUptoRow.holds Tryz.pinned (OpenSpec.upto actOppositeSpec)

end Rows
end Go.Proofs.YtmloamomcbmfhaaGreat
