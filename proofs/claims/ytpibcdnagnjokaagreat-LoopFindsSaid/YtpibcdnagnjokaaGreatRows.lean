/-
  No cell of these rows narrows 'for every input' (looked for: loops, veiled, ifaces, maps, wideKeys, modest, calm, conditions, laid).
  DERIVED. THE GIVEN ROWS OF THIS SEAT. 4 by the template 'for every input the law returns true; each argument reads behind the call as it read before'; 0 by the template 'total and deterministic' (their statements: YtpibcdnagnjokaaGreatTotals.lean).
  GIVEN WITH THE SEED: the statements are not yours to turn. If you find one false, say at which input.
  Laid BY PROGRAM, IN A SANDBOX (cutbox-rows.mjs): the forced cells as the released guide's own fill.sh prints them over the translation 08bfedf18ae4375c… (all of the seat's roots in one cut). By AI agents, Wed Nov 11 2026. No macro, syntax, notation, axiom, sorry.
-/
import Derived.Test.YtpibcdnagnjokaaGreatChecked
import GoSem.Claim
import GoSem.ClaimJoined
import GoSem.ClaimMapViews
import Derived.JoinedTies
import Derived.KernelRfl
namespace Go.Proofs.YtpibcdnagnjokaaGreat
/- THE CELL 'sum', in the pinned program and in every row, IS THE sha256 OF THE DUMP (.gsa) THAT YtpibcdnagnjokaaGreatProg.lean LOADS. Nothing in Lean hashes anything: it is a label: what it is worth is what the hold of that sum in a sandbox is worth. -/
noncomputable def Tryz.pinned : Pinned := { name := "ytpibcdnagnjokaagreat", sum := "08bfedf18ae4375cea920776afb5db7d54c21c22b82ee667da1fb1eed58c6e43", checked := Tryz.checked }
namespace Rows
def none {H : Type} : Left H := { results := [], args := [] }

/-- 'cardgamelaw50.LoopNormalizes': WHATEVER THE INPUT: true; the input reads as it did. -/
def loopNormalizesSpec : ChangeSpec := { name := "loopNormalizes", fn := fun _ => fun
  | [d1, d2] => { results := [.lit (.bool true)], args := [d1, d2] }
  | _ => none }
def loopNormalizesRow : OpenClaim := { program := "ytpibcdnagnjokaagreat", sum := "08bfedf18ae4375cea920776afb5db7d54c21c22b82ee667da1fb1eed58c6e43", func := "cardgame/cardgamelaw50.LoopNormalizes", spec := "loopNormalizes", unfollowed := true, recurses := true, apart := false }
def LoopNormalizesSaid : Prop := loopNormalizesRow.holds Tryz.pinned (OpenSpec.ofChange loopNormalizesSpec)

/-- ITS FALSE NEIGHBOUR: 'it returns false'. Refute it at one input. -/
def loopNormalizesWrong : ChangeSpec := { name := "loopNormalizes", fn := fun _ => fun
  | [d1, d2] => { results := [.lit (.bool false)], args := [d1, d2] }
  | _ => none }
def LoopNormalizesWrongFalsely : Prop := loopNormalizesRow.holds Tryz.pinned (OpenSpec.ofChange loopNormalizesWrong)

/-- 'cardgamelaw50.LoopSame': WHATEVER THE INPUT: true; the input reads as it did. -/
def loopSameSpec : ChangeSpec := { name := "loopSame", fn := fun _ => fun
  | [d1, d2, d3] => { results := [.lit (.bool true)], args := [d1, d2, d3] }
  | _ => none }
def loopSameRow : OpenClaim := { program := "ytpibcdnagnjokaagreat", sum := "08bfedf18ae4375cea920776afb5db7d54c21c22b82ee667da1fb1eed58c6e43", func := "cardgame/cardgamelaw50.LoopSame", spec := "loopSame", unfollowed := true, recurses := true, apart := false }
def LoopSameSaid : Prop := loopSameRow.holds Tryz.pinned (OpenSpec.ofChange loopSameSpec)

/-- ITS FALSE NEIGHBOUR: 'it returns false'. Refute it at one input. -/
def loopSameWrong : ChangeSpec := { name := "loopSame", fn := fun _ => fun
  | [d1, d2, d3] => { results := [.lit (.bool false)], args := [d1, d2, d3] }
  | _ => none }
def LoopSameWrongFalsely : Prop := loopSameRow.holds Tryz.pinned (OpenSpec.ofChange loopSameWrong)

/-- 'cardgamelaw50.LoopFinds': WHATEVER THE INPUT: true; the input reads as it did. -/
def loopFindsSpec : ChangeSpec := { name := "loopFinds", fn := fun _ => fun
  | [d1, d2] => { results := [.lit (.bool true)], args := [d1, d2] }
  | _ => none }
def loopFindsRow : OpenClaim := { program := "ytpibcdnagnjokaagreat", sum := "08bfedf18ae4375cea920776afb5db7d54c21c22b82ee667da1fb1eed58c6e43", func := "cardgame/cardgamelaw50.LoopFinds", spec := "loopFinds", unfollowed := true, recurses := true, apart := false }
def LoopFindsSaid : Prop := loopFindsRow.holds Tryz.pinned (OpenSpec.ofChange loopFindsSpec)

/-- ITS FALSE NEIGHBOUR: 'it returns false'. Refute it at one input. -/
def loopFindsWrong : ChangeSpec := { name := "loopFinds", fn := fun _ => fun
  | [d1, d2] => { results := [.lit (.bool false)], args := [d1, d2] }
  | _ => none }
def LoopFindsWrongFalsely : Prop := loopFindsRow.holds Tryz.pinned (OpenSpec.ofChange loopFindsWrong)

/-- 'cardgamelaw50.LoopTells': WHATEVER THE INPUT: true; the input reads as it did. -/
def loopTellsSpec : ChangeSpec := { name := "loopTells", fn := fun _ => fun
  | [d1, d2, d3] => { results := [.lit (.bool true)], args := [d1, d2, d3] }
  | _ => none }
def loopTellsRow : OpenClaim := { program := "ytpibcdnagnjokaagreat", sum := "08bfedf18ae4375cea920776afb5db7d54c21c22b82ee667da1fb1eed58c6e43", func := "cardgame/cardgamelaw50.LoopTells", spec := "loopTells", unfollowed := true, recurses := true, apart := false }
def LoopTellsSaid : Prop := loopTellsRow.holds Tryz.pinned (OpenSpec.ofChange loopTellsSpec)

/-- ITS FALSE NEIGHBOUR: 'it returns false'. Refute it at one input. -/
def loopTellsWrong : ChangeSpec := { name := "loopTells", fn := fun _ => fun
  | [d1, d2, d3] => { results := [.lit (.bool false)], args := [d1, d2, d3] }
  | _ => none }
def LoopTellsWrongFalsely : Prop := loopTellsRow.holds Tryz.pinned (OpenSpec.ofChange loopTellsWrong)

/- THE SECOND FORM. 'bulk': how many values and letters a reading holds, each counted each time it is reached (what is shared counts as often as it is met; a slice's spare places count too). A statement '..UptoSaid' is the law's where the arguments, and the package variables that the reading takes, are together of bulk at most 1048576: NARROWER than '..Said'. Prove '..Said' where nothing that the law and all that it calls make is longer than what came in: it says more and counts as full. Else prove '..UptoSaid'. A law counts once. -/
mutual
def uptoBulk {H : Type} : DataW H → Nat
  | .lit (.string bytes) => bytes.length + 1
  | .lit _ => 1
  | .nil => 1
  | .ptr d => uptoBulk d + 1
  | .slice elems spare => uptoBulkAll elems + uptoBulkAll spare + 1
  | .agg parts => uptoBulkAll parts + 1
  | .iface _ d => uptoBulk d + 1
  | .map entries => uptoBulkEntries entries + 1
  | .held _ => 1
def uptoBulkAll {H : Type} : List (DataW H) → Nat
  | [] => 0
  | d :: r => uptoBulk d + uptoBulkAll r
def uptoBulkEntries {H : Type} : List (Lit × DataW H) → Nat
  | [] => 0
  | x :: r => uptoBulkEntry x + uptoBulkEntries r
def uptoBulkEntry {H : Type} : Lit × DataW H → Nat
  | (.string bytes, d) => bytes.length + uptoBulk d + 1
  | (_, d) => uptoBulk d + 1
 end
def uptoSmall : (H : Type) → List (DataW H) → Bool := fun _ ds => decide (uptoBulkAll ds ≤ 1048576)
def OpenSpec.upto (s : _root_.Go.ChangeSpec) : _root_.Go.OpenSpec := { _root_.Go.OpenSpec.ofChange s with cond := some uptoSmall }

/-- 'cardgamelaw50.LoopNormalizes', WHERE WHAT IT READS IS OF BULK AT MOST 1048576: true; the input reads as it did. -/
def loopNormalizesUptoRow : OpenClaim := { program := "ytpibcdnagnjokaagreat", sum := "08bfedf18ae4375cea920776afb5db7d54c21c22b82ee667da1fb1eed58c6e43", func := "cardgame/cardgamelaw50.LoopNormalizes", spec := "loopNormalizes", unfollowed := true, recurses := true, apart := false, narrowed := true }
def LoopNormalizesUptoSaid : Prop := loopNormalizesUptoRow.holds Tryz.pinned (OpenSpec.upto loopNormalizesSpec)

/-- 'cardgamelaw50.LoopSame', WHERE WHAT IT READS IS OF BULK AT MOST 1048576: true; the input reads as it did. -/
def loopSameUptoRow : OpenClaim := { program := "ytpibcdnagnjokaagreat", sum := "08bfedf18ae4375cea920776afb5db7d54c21c22b82ee667da1fb1eed58c6e43", func := "cardgame/cardgamelaw50.LoopSame", spec := "loopSame", unfollowed := true, recurses := true, apart := false, narrowed := true }
def LoopSameUptoSaid : Prop := loopSameUptoRow.holds Tryz.pinned (OpenSpec.upto loopSameSpec)

/-- 'cardgamelaw50.LoopFinds', WHERE WHAT IT READS IS OF BULK AT MOST 1048576: true; the input reads as it did. -/
def loopFindsUptoRow : OpenClaim := { program := "ytpibcdnagnjokaagreat", sum := "08bfedf18ae4375cea920776afb5db7d54c21c22b82ee667da1fb1eed58c6e43", func := "cardgame/cardgamelaw50.LoopFinds", spec := "loopFinds", unfollowed := true, recurses := true, apart := false, narrowed := true }
def LoopFindsUptoSaid : Prop := loopFindsUptoRow.holds Tryz.pinned (OpenSpec.upto loopFindsSpec)

/-- 'cardgamelaw50.LoopTells', WHERE WHAT IT READS IS OF BULK AT MOST 1048576: true; the input reads as it did. -/
def loopTellsUptoRow : OpenClaim := { program := "ytpibcdnagnjokaagreat", sum := "08bfedf18ae4375cea920776afb5db7d54c21c22b82ee667da1fb1eed58c6e43", func := "cardgame/cardgamelaw50.LoopTells", spec := "loopTells", unfollowed := true, recurses := true, apart := false, narrowed := true }
def LoopTellsUptoSaid : Prop := loopTellsUptoRow.holds Tryz.pinned (OpenSpec.upto loopTellsSpec)

end Rows
end Go.Proofs.YtpibcdnagnjokaaGreat
