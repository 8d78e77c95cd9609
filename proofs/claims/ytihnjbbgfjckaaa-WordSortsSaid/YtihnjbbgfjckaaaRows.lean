/-
  No cell of these rows narrows 'for every input' (looked for: loops, veiled, ifaces, maps, wideKeys, modest, calm, conditions, laid).
  DERIVED. THE GIVEN ROWS OF THIS SEAT. 12 by the template 'for every input the law returns true; each argument reads behind the call as it read before'; 0 by the template 'total and deterministic' (their statements: YtihnjbbgfjckaaaTotals.lean).
  GIVEN WITH THE SEED: the statements are not yours to turn. If you find one false, say at which input.
  Laid BY PROGRAM, IN A SANDBOX (cutbox-rows.mjs): the forced cells as the released guide's own fill.sh prints them over the translation a0edbccb1103077d… (all of the seat's roots in one cut). By AI agents, Wed Nov 11 2026. No macro, syntax, notation, axiom, sorry.
-/
import Derived.Test.YtihnjbbgfjckaaaChecked
import GoSem.Claim
import GoSem.ClaimJoined
import GoSem.ClaimMapViews
import Derived.JoinedTies
import Derived.KernelRfl
namespace Go.Proofs.Ytihnjbbgfjckaaa
/- THE CELL 'sum', in the pinned program and in every row, IS THE sha256 OF THE DUMP (.gsa) THAT YtihnjbbgfjckaaaProg.lean LOADS. Nothing in Lean hashes anything: it is a label: what it is worth is what the hold of that sum in a sandbox is worth. -/
noncomputable def Try.pinned : Pinned := { name := "ytihnjbbgfjckaaa", sum := "a0edbccb1103077dc8d80f262ccc42dbfdf7c43c11381c64f2a4808ef22f24ae", checked := Try.checked }
namespace Rows
def none {H : Type} : Left H := { results := [], args := [] }

/-- 'cardgamelaw02.WordIs': WHATEVER THE INPUT: true; the input reads as it did. -/
def wordIsSpec : ChangeSpec := { name := "wordIs", fn := fun _ => fun
  | [d] => { results := [.lit (.bool true)], args := [d] }
  | _ => none }
def wordIsRow : OpenClaim := { program := "ytihnjbbgfjckaaa", sum := "a0edbccb1103077dc8d80f262ccc42dbfdf7c43c11381c64f2a4808ef22f24ae", func := "cardgame/cardgamelaw02.WordIs", spec := "wordIs", inPlace := ["internal/bytealg.IndexByteString", "internal/bytealg.IndexString"], named := ["internal/bytealg.MaxLen"], apart := false }
def WordIsSaid : Prop := wordIsRow.holds Try.pinned (OpenSpec.ofChange wordIsSpec)

/-- ITS FALSE NEIGHBOUR: 'it returns false'. Refute it at one input. -/
def wordIsWrong : ChangeSpec := { name := "wordIs", fn := fun _ => fun
  | [d] => { results := [.lit (.bool false)], args := [d] }
  | _ => none }
def WordIsWrongFalsely : Prop := wordIsRow.holds Try.pinned (OpenSpec.ofChange wordIsWrong)

/-- 'cardgamelaw02.WordSplits': WHATEVER THE INPUT: true; the input reads as it did. -/
def wordSplitsSpec : ChangeSpec := { name := "wordSplits", fn := fun _ => fun
  | [d1, d2] => { results := [.lit (.bool true)], args := [d1, d2] }
  | _ => none }
def wordSplitsRow : OpenClaim := { program := "ytihnjbbgfjckaaa", sum := "a0edbccb1103077dc8d80f262ccc42dbfdf7c43c11381c64f2a4808ef22f24ae", func := "cardgame/cardgamelaw02.WordSplits", spec := "wordSplits", inPlace := ["internal/bytealg.IndexByteString", "internal/bytealg.IndexString"], named := ["internal/bytealg.MaxLen"], apart := false }
def WordSplitsSaid : Prop := wordSplitsRow.holds Try.pinned (OpenSpec.ofChange wordSplitsSpec)

/-- ITS FALSE NEIGHBOUR: 'it returns false'. Refute it at one input. -/
def wordSplitsWrong : ChangeSpec := { name := "wordSplits", fn := fun _ => fun
  | [d1, d2] => { results := [.lit (.bool false)], args := [d1, d2] }
  | _ => none }
def WordSplitsWrongFalsely : Prop := wordSplitsRow.holds Try.pinned (OpenSpec.ofChange wordSplitsWrong)

/-- 'cardgamelaw02.WordCuts': WHATEVER THE INPUT: true; the input reads as it did. -/
def wordCutsSpec : ChangeSpec := { name := "wordCuts", fn := fun _ => fun
  | [d1, d2] => { results := [.lit (.bool true)], args := [d1, d2] }
  | _ => none }
def wordCutsRow : OpenClaim := { program := "ytihnjbbgfjckaaa", sum := "a0edbccb1103077dc8d80f262ccc42dbfdf7c43c11381c64f2a4808ef22f24ae", func := "cardgame/cardgamelaw02.WordCuts", spec := "wordCuts", inPlace := ["internal/bytealg.IndexByteString", "internal/bytealg.IndexString"], named := ["internal/bytealg.MaxLen"], apart := false }
def WordCutsSaid : Prop := wordCutsRow.holds Try.pinned (OpenSpec.ofChange wordCutsSpec)

/-- ITS FALSE NEIGHBOUR: 'it returns false'. Refute it at one input. -/
def wordCutsWrong : ChangeSpec := { name := "wordCuts", fn := fun _ => fun
  | [d1, d2] => { results := [.lit (.bool false)], args := [d1, d2] }
  | _ => none }
def WordCutsWrongFalsely : Prop := wordCutsRow.holds Try.pinned (OpenSpec.ofChange wordCutsWrong)

/-- 'cardgamelaw02.WordLines': WHATEVER THE INPUT: true; the input reads as it did. -/
def wordLinesSpec : ChangeSpec := { name := "wordLines", fn := fun _ => fun
  | [d] => { results := [.lit (.bool true)], args := [d] }
  | _ => none }
def wordLinesRow : OpenClaim := { program := "ytihnjbbgfjckaaa", sum := "a0edbccb1103077dc8d80f262ccc42dbfdf7c43c11381c64f2a4808ef22f24ae", func := "cardgame/cardgamelaw02.WordLines", spec := "wordLines", inPlace := ["internal/bytealg.IndexByteString", "internal/bytealg.IndexString"], named := ["internal/bytealg.MaxLen"], apart := false }
def WordLinesSaid : Prop := wordLinesRow.holds Try.pinned (OpenSpec.ofChange wordLinesSpec)

/-- ITS FALSE NEIGHBOUR: 'it returns false'. Refute it at one input. -/
def wordLinesWrong : ChangeSpec := { name := "wordLines", fn := fun _ => fun
  | [d] => { results := [.lit (.bool false)], args := [d] }
  | _ => none }
def WordLinesWrongFalsely : Prop := wordLinesRow.holds Try.pinned (OpenSpec.ofChange wordLinesWrong)

/-- 'cardgamelaw11.KeywordTexts': WHATEVER THE INPUT: true; the input reads as it did. -/
def keywordTextsSpec : ChangeSpec := { name := "keywordTexts", fn := fun _ => fun
  | [d] => { results := [.lit (.bool true)], args := [d] }
  | _ => none }
def keywordTextsRow : OpenClaim := { program := "ytihnjbbgfjckaaa", sum := "a0edbccb1103077dc8d80f262ccc42dbfdf7c43c11381c64f2a4808ef22f24ae", func := "cardgame/cardgamelaw11.KeywordTexts", spec := "keywordTexts", inPlace := ["internal/abi.NoEscape", "internal/bytealg.MakeNoZero", "internal/bytealg.IndexByteString"], apart := false }
def KeywordTextsSaid : Prop := keywordTextsRow.holds Try.pinned (OpenSpec.ofChange keywordTextsSpec)

/-- ITS FALSE NEIGHBOUR: 'it returns false'. Refute it at one input. -/
def keywordTextsWrong : ChangeSpec := { name := "keywordTexts", fn := fun _ => fun
  | [d] => { results := [.lit (.bool false)], args := [d] }
  | _ => none }
def KeywordTextsWrongFalsely : Prop := keywordTextsRow.holds Try.pinned (OpenSpec.ofChange keywordTextsWrong)

/-- 'cardgamelaw11.KeywordParses': WHATEVER THE INPUT: true; the input reads as it did. -/
def keywordParsesSpec : ChangeSpec := { name := "keywordParses", fn := fun _ => fun
  | [d] => { results := [.lit (.bool true)], args := [d] }
  | _ => none }
def keywordParsesRow : OpenClaim := { program := "ytihnjbbgfjckaaa", sum := "a0edbccb1103077dc8d80f262ccc42dbfdf7c43c11381c64f2a4808ef22f24ae", func := "cardgame/cardgamelaw11.KeywordParses", spec := "keywordParses", inPlace := ["internal/bytealg.IndexByteString", "internal/abi.NoEscape", "internal/bytealg.MakeNoZero"], apart := false }
def KeywordParsesSaid : Prop := keywordParsesRow.holds Try.pinned (OpenSpec.ofChange keywordParsesSpec)

/-- ITS FALSE NEIGHBOUR: 'it returns false'. Refute it at one input. -/
def keywordParsesWrong : ChangeSpec := { name := "keywordParses", fn := fun _ => fun
  | [d] => { results := [.lit (.bool false)], args := [d] }
  | _ => none }
def KeywordParsesWrongFalsely : Prop := keywordParsesRow.holds Try.pinned (OpenSpec.ofChange keywordParsesWrong)

/-- 'cardgamelaw11.KeywordBack': WHATEVER THE INPUT: true; the input reads as it did. -/
def keywordBackSpec : ChangeSpec := { name := "keywordBack", fn := fun _ => fun
  | [d] => { results := [.lit (.bool true)], args := [d] }
  | _ => none }
def keywordBackRow : OpenClaim := { program := "ytihnjbbgfjckaaa", sum := "a0edbccb1103077dc8d80f262ccc42dbfdf7c43c11381c64f2a4808ef22f24ae", func := "cardgame/cardgamelaw11.KeywordBack", spec := "keywordBack", inPlace := ["internal/abi.NoEscape", "internal/bytealg.MakeNoZero", "internal/bytealg.IndexByteString"], apart := false }
def KeywordBackSaid : Prop := keywordBackRow.holds Try.pinned (OpenSpec.ofChange keywordBackSpec)

/-- ITS FALSE NEIGHBOUR: 'it returns false'. Refute it at one input. -/
def keywordBackWrong : ChangeSpec := { name := "keywordBack", fn := fun _ => fun
  | [d] => { results := [.lit (.bool false)], args := [d] }
  | _ => none }
def KeywordBackWrongFalsely : Prop := keywordBackRow.holds Try.pinned (OpenSpec.ofChange keywordBackWrong)

/-- 'cardgamelaw11.KeywordHas': WHATEVER THE INPUT: true; the input reads as it did. -/
def keywordHasSpec : ChangeSpec := { name := "keywordHas", fn := fun _ => fun
  | [d1, d2] => { results := [.lit (.bool true)], args := [d1, d2] }
  | _ => none }
def keywordHasRow : OpenClaim := { program := "ytihnjbbgfjckaaa", sum := "a0edbccb1103077dc8d80f262ccc42dbfdf7c43c11381c64f2a4808ef22f24ae", func := "cardgame/cardgamelaw11.KeywordHas", spec := "keywordHas", inPlace := ["internal/bytealg.IndexByteString", "internal/abi.NoEscape", "internal/bytealg.MakeNoZero"], apart := false }
def KeywordHasSaid : Prop := keywordHasRow.holds Try.pinned (OpenSpec.ofChange keywordHasSpec)

/-- ITS FALSE NEIGHBOUR: 'it returns false'. Refute it at one input. -/
def keywordHasWrong : ChangeSpec := { name := "keywordHas", fn := fun _ => fun
  | [d1, d2] => { results := [.lit (.bool false)], args := [d1, d2] }
  | _ => none }
def KeywordHasWrongFalsely : Prop := keywordHasRow.holds Try.pinned (OpenSpec.ofChange keywordHasWrong)

/-- 'cardgamelaw11.KeywordNames': WHATEVER THE INPUT: true; the input reads as it did. -/
def keywordNamesSpec : ChangeSpec := { name := "keywordNames", fn := fun _ => fun
  | [d] => { results := [.lit (.bool true)], args := [d] }
  | _ => none }
def keywordNamesRow : OpenClaim := { program := "ytihnjbbgfjckaaa", sum := "a0edbccb1103077dc8d80f262ccc42dbfdf7c43c11381c64f2a4808ef22f24ae", func := "cardgame/cardgamelaw11.KeywordNames", spec := "keywordNames", inPlace := ["internal/abi.NoEscape", "internal/bytealg.MakeNoZero", "internal/bytealg.IndexByteString"], apart := false }
def KeywordNamesSaid : Prop := keywordNamesRow.holds Try.pinned (OpenSpec.ofChange keywordNamesSpec)

/-- ITS FALSE NEIGHBOUR: 'it returns false'. Refute it at one input. -/
def keywordNamesWrong : ChangeSpec := { name := "keywordNames", fn := fun _ => fun
  | [d] => { results := [.lit (.bool false)], args := [d] }
  | _ => none }
def KeywordNamesWrongFalsely : Prop := keywordNamesRow.holds Try.pinned (OpenSpec.ofChange keywordNamesWrong)

/-- 'cardgamelaw02.WordJoins': WHATEVER THE INPUT: true; the input reads as it did. -/
def wordJoinsSpec : ChangeSpec := { name := "wordJoins", fn := fun _ => fun
  | [d1, d2] => { results := [.lit (.bool true)], args := [d1, d2] }
  | _ => none }
def wordJoinsRow : OpenClaim := { program := "ytihnjbbgfjckaaa", sum := "a0edbccb1103077dc8d80f262ccc42dbfdf7c43c11381c64f2a4808ef22f24ae", func := "cardgame/cardgamelaw02.WordJoins", spec := "wordJoins", inPlace := ["internal/bytealg.IndexByteString", "internal/bytealg.IndexString", "internal/abi.NoEscape", "internal/bytealg.MakeNoZero"], named := ["internal/bytealg.MaxLen"], apart := false }
def WordJoinsSaid : Prop := wordJoinsRow.holds Try.pinned (OpenSpec.ofChange wordJoinsSpec)

/-- ITS FALSE NEIGHBOUR: 'it returns false'. Refute it at one input. -/
def wordJoinsWrong : ChangeSpec := { name := "wordJoins", fn := fun _ => fun
  | [d1, d2] => { results := [.lit (.bool false)], args := [d1, d2] }
  | _ => none }
def WordJoinsWrongFalsely : Prop := wordJoinsRow.holds Try.pinned (OpenSpec.ofChange wordJoinsWrong)

/-- 'cardgamelaw02.WordSorts': WHATEVER THE INPUT: true; the input reads as it did. -/
def wordSortsSpec : ChangeSpec := { name := "wordSorts", fn := fun _ => fun
  | [d] => { results := [.lit (.bool true)], args := [d] }
  | _ => none }
def wordSortsRow : OpenClaim := { program := "ytihnjbbgfjckaaa", sum := "a0edbccb1103077dc8d80f262ccc42dbfdf7c43c11381c64f2a4808ef22f24ae", func := "cardgame/cardgamelaw02.WordSorts", spec := "wordSorts", inPlace := ["internal/bytealg.IndexByteString", "internal/bytealg.IndexString"], recurses := true, named := ["internal/bytealg.MaxLen"], apart := false }
def WordSortsSaid : Prop := wordSortsRow.holds Try.pinned (OpenSpec.ofChange wordSortsSpec)

/-- ITS FALSE NEIGHBOUR: 'it returns false'. Refute it at one input. -/
def wordSortsWrong : ChangeSpec := { name := "wordSorts", fn := fun _ => fun
  | [d] => { results := [.lit (.bool false)], args := [d] }
  | _ => none }
def WordSortsWrongFalsely : Prop := wordSortsRow.holds Try.pinned (OpenSpec.ofChange wordSortsWrong)

/-- 'cardgamelaw02.WordLists': WHATEVER THE INPUT: true; the input reads as it did. -/
def wordListsSpec : ChangeSpec := { name := "wordLists", fn := fun _ => fun
  | [d1, d2] => { results := [.lit (.bool true)], args := [d1, d2] }
  | _ => none }
def wordListsRow : OpenClaim := { program := "ytihnjbbgfjckaaa", sum := "a0edbccb1103077dc8d80f262ccc42dbfdf7c43c11381c64f2a4808ef22f24ae", func := "cardgame/cardgamelaw02.WordLists", spec := "wordLists", inPlace := ["internal/bytealg.IndexByteString", "internal/bytealg.IndexString", "internal/abi.NoEscape", "internal/bytealg.MakeNoZero"], recurses := true, named := ["internal/bytealg.MaxLen"], apart := false }
def WordListsSaid : Prop := wordListsRow.holds Try.pinned (OpenSpec.ofChange wordListsSpec)

/-- ITS FALSE NEIGHBOUR: 'it returns false'. Refute it at one input. -/
def wordListsWrong : ChangeSpec := { name := "wordLists", fn := fun _ => fun
  | [d1, d2] => { results := [.lit (.bool false)], args := [d1, d2] }
  | _ => none }
def WordListsWrongFalsely : Prop := wordListsRow.holds Try.pinned (OpenSpec.ofChange wordListsWrong)

/- THE SECOND FORM. 'bulk': how many values and letters a reading holds, each counted each time it is reached (what is shared counts as often as it is met; a slice's spare places count too). A statement '..UptoSaid' is the law's where the arguments, and the package variables that the reading takes, are together of bulk at most 1048576: NARROWER than '..Said'. Prove '..Said' where nothing that the law and all that it calls make is longer than what came in: it says more and counts as full. Else prove '..UptoSaid'. A law counts once. -/
mutual
def uptoBulk {H : Type} : DataW H → Nat
  | .lit (.string bytes) => bytes.length + 1
  | .lit _ => 1
  | .nil => 1
  | .ptr d => uptoBulk d + 1
  | .slice elems spare => uptoBulkAll elems + uptoBulkAll spare + 1
  | .agg parts => uptoBulkAll parts + 1
  | .iface _ d => uptoBulk d + 1
  | .map entries => uptoBulkEntries entries + 1
  | .held _ => 1
def uptoBulkAll {H : Type} : List (DataW H) → Nat
  | [] => 0
  | d :: r => uptoBulk d + uptoBulkAll r
def uptoBulkEntries {H : Type} : List (Lit × DataW H) → Nat
  | [] => 0
  | x :: r => uptoBulkEntry x + uptoBulkEntries r
def uptoBulkEntry {H : Type} : Lit × DataW H → Nat
  | (.string bytes, d) => bytes.length + uptoBulk d + 1
  | (_, d) => uptoBulk d + 1
 end
def uptoSmall : (H : Type) → List (DataW H) → Bool := fun _ ds => decide (uptoBulkAll ds ≤ 1048576)
def OpenSpec.upto (s : _root_.Go.ChangeSpec) : _root_.Go.OpenSpec := { _root_.Go.OpenSpec.ofChange s with cond := some uptoSmall }

/-- 'cardgamelaw02.WordIs', WHERE WHAT IT READS IS OF BULK AT MOST 1048576: true; the input reads as it did. -/
def wordIsUptoRow : OpenClaim := { program := "ytihnjbbgfjckaaa", sum := "a0edbccb1103077dc8d80f262ccc42dbfdf7c43c11381c64f2a4808ef22f24ae", func := "cardgame/cardgamelaw02.WordIs", spec := "wordIs", inPlace := ["internal/bytealg.IndexByteString", "internal/bytealg.IndexString"], named := ["internal/bytealg.MaxLen"], apart := false, narrowed := true }
def WordIsUptoSaid : Prop := wordIsUptoRow.holds Try.pinned (OpenSpec.upto wordIsSpec)

/-- 'cardgamelaw02.WordSplits', WHERE WHAT IT READS IS OF BULK AT MOST 1048576: true; the input reads as it did. -/
def wordSplitsUptoRow : OpenClaim := { program := "ytihnjbbgfjckaaa", sum := "a0edbccb1103077dc8d80f262ccc42dbfdf7c43c11381c64f2a4808ef22f24ae", func := "cardgame/cardgamelaw02.WordSplits", spec := "wordSplits", inPlace := ["internal/bytealg.IndexByteString", "internal/bytealg.IndexString"], named := ["internal/bytealg.MaxLen"], apart := false, narrowed := true }
def WordSplitsUptoSaid : Prop := wordSplitsUptoRow.holds Try.pinned (OpenSpec.upto wordSplitsSpec)

/-- 'cardgamelaw02.WordCuts', WHERE WHAT IT READS IS OF BULK AT MOST 1048576: true; the input reads as it did. -/
def wordCutsUptoRow : OpenClaim := { program := "ytihnjbbgfjckaaa", sum := "a0edbccb1103077dc8d80f262ccc42dbfdf7c43c11381c64f2a4808ef22f24ae", func := "cardgame/cardgamelaw02.WordCuts", spec := "wordCuts", inPlace := ["internal/bytealg.IndexByteString", "internal/bytealg.IndexString"], named := ["internal/bytealg.MaxLen"], apart := false, narrowed := true }
def WordCutsUptoSaid : Prop := wordCutsUptoRow.holds Try.pinned (OpenSpec.upto wordCutsSpec)

/-- 'cardgamelaw02.WordLines', WHERE WHAT IT READS IS OF BULK AT MOST 1048576: true; the input reads as it did. -/
def wordLinesUptoRow : OpenClaim := { program := "ytihnjbbgfjckaaa", sum := "a0edbccb1103077dc8d80f262ccc42dbfdf7c43c11381c64f2a4808ef22f24ae", func := "cardgame/cardgamelaw02.WordLines", spec := "wordLines", inPlace := ["internal/bytealg.IndexByteString", "internal/bytealg.IndexString"], named := ["internal/bytealg.MaxLen"], apart := false, narrowed := true }
def WordLinesUptoSaid : Prop := wordLinesUptoRow.holds Try.pinned (OpenSpec.upto wordLinesSpec)

/-- 'cardgamelaw11.KeywordTexts', WHERE WHAT IT READS IS OF BULK AT MOST 1048576: true; the input reads as it did. -/
def keywordTextsUptoRow : OpenClaim := { program := "ytihnjbbgfjckaaa", sum := "a0edbccb1103077dc8d80f262ccc42dbfdf7c43c11381c64f2a4808ef22f24ae", func := "cardgame/cardgamelaw11.KeywordTexts", spec := "keywordTexts", inPlace := ["internal/abi.NoEscape", "internal/bytealg.MakeNoZero", "internal/bytealg.IndexByteString"], apart := false, narrowed := true }
def KeywordTextsUptoSaid : Prop := keywordTextsUptoRow.holds Try.pinned (OpenSpec.upto keywordTextsSpec)

/-- 'cardgamelaw11.KeywordParses', WHERE WHAT IT READS IS OF BULK AT MOST 1048576: true; the input reads as it did. -/
def keywordParsesUptoRow : OpenClaim := { program := "ytihnjbbgfjckaaa", sum := "a0edbccb1103077dc8d80f262ccc42dbfdf7c43c11381c64f2a4808ef22f24ae", func := "cardgame/cardgamelaw11.KeywordParses", spec := "keywordParses", inPlace := ["internal/bytealg.IndexByteString", "internal/abi.NoEscape", "internal/bytealg.MakeNoZero"], apart := false, narrowed := true }
def KeywordParsesUptoSaid : Prop := keywordParsesUptoRow.holds Try.pinned (OpenSpec.upto keywordParsesSpec)

/-- 'cardgamelaw11.KeywordBack', WHERE WHAT IT READS IS OF BULK AT MOST 1048576: true; the input reads as it did. -/
def keywordBackUptoRow : OpenClaim := { program := "ytihnjbbgfjckaaa", sum := "a0edbccb1103077dc8d80f262ccc42dbfdf7c43c11381c64f2a4808ef22f24ae", func := "cardgame/cardgamelaw11.KeywordBack", spec := "keywordBack", inPlace := ["internal/abi.NoEscape", "internal/bytealg.MakeNoZero", "internal/bytealg.IndexByteString"], apart := false, narrowed := true }
def KeywordBackUptoSaid : Prop := keywordBackUptoRow.holds Try.pinned (OpenSpec.upto keywordBackSpec)

/-- 'cardgamelaw11.KeywordHas', WHERE WHAT IT READS IS OF BULK AT MOST 1048576: true; the input reads as it did. -/
def keywordHasUptoRow : OpenClaim := { program := "ytihnjbbgfjckaaa", sum := "a0edbccb1103077dc8d80f262ccc42dbfdf7c43c11381c64f2a4808ef22f24ae", func := "cardgame/cardgamelaw11.KeywordHas", spec := "keywordHas", inPlace := ["internal/bytealg.IndexByteString", "internal/abi.NoEscape", "internal/bytealg.MakeNoZero"], apart := false, narrowed := true }
def KeywordHasUptoSaid : Prop := keywordHasUptoRow.holds Try.pinned (OpenSpec.upto keywordHasSpec)

/-- 'cardgamelaw11.KeywordNames', WHERE WHAT IT READS IS OF BULK AT MOST 1048576: true; the input reads as it did. -/
def keywordNamesUptoRow : OpenClaim := { program := "ytihnjbbgfjckaaa", sum := "a0edbccb1103077dc8d80f262ccc42dbfdf7c43c11381c64f2a4808ef22f24ae", func := "cardgame/cardgamelaw11.KeywordNames", spec := "keywordNames", inPlace := ["internal/abi.NoEscape", "internal/bytealg.MakeNoZero", "internal/bytealg.IndexByteString"], apart := false, narrowed := true }
def KeywordNamesUptoSaid : Prop := keywordNamesUptoRow.holds Try.pinned (OpenSpec.upto keywordNamesSpec)

/-- 'cardgamelaw02.WordJoins', WHERE WHAT IT READS IS OF BULK AT MOST 1048576: true; the input reads as it did. -/
def wordJoinsUptoRow : OpenClaim := { program := "ytihnjbbgfjckaaa", sum := "a0edbccb1103077dc8d80f262ccc42dbfdf7c43c11381c64f2a4808ef22f24ae", func := "cardgame/cardgamelaw02.WordJoins", spec := "wordJoins", inPlace := ["internal/bytealg.IndexByteString", "internal/bytealg.IndexString", "internal/abi.NoEscape", "internal/bytealg.MakeNoZero"], named := ["internal/bytealg.MaxLen"], apart := false, narrowed := true }
def WordJoinsUptoSaid : Prop := wordJoinsUptoRow.holds Try.pinned (OpenSpec.upto wordJoinsSpec)

/-- 'cardgamelaw02.WordSorts', WHERE WHAT IT READS IS OF BULK AT MOST 1048576: true; the input reads as it did. -/
def wordSortsUptoRow : OpenClaim := { program := "ytihnjbbgfjckaaa", sum := "a0edbccb1103077dc8d80f262ccc42dbfdf7c43c11381c64f2a4808ef22f24ae", func := "cardgame/cardgamelaw02.WordSorts", spec := "wordSorts", inPlace := ["internal/bytealg.IndexByteString", "internal/bytealg.IndexString"], recurses := true, named := ["internal/bytealg.MaxLen"], apart := false, narrowed := true }
def WordSortsUptoSaid : Prop := wordSortsUptoRow.holds Try.pinned (OpenSpec.upto wordSortsSpec)

/-- 'cardgamelaw02.WordLists', WHERE WHAT IT READS IS OF BULK AT MOST 1048576: true; the input reads as it did. -/
def wordListsUptoRow : OpenClaim := { program := "ytihnjbbgfjckaaa", sum := "a0edbccb1103077dc8d80f262ccc42dbfdf7c43c11381c64f2a4808ef22f24ae", func := "cardgame/cardgamelaw02.WordLists", spec := "wordLists", inPlace := ["internal/bytealg.IndexByteString", "internal/bytealg.IndexString", "internal/abi.NoEscape", "internal/bytealg.MakeNoZero"], recurses := true, named := ["internal/bytealg.MaxLen"], apart := false, narrowed := true }
def WordListsUptoSaid : Prop := wordListsUptoRow.holds Try.pinned (OpenSpec.upto wordListsSpec)

end Rows
end Go.Proofs.Ytihnjbbgfjckaaa
