/- Chapter 25: the shapes of the types. -/
import Derived.Test.YtiebjkbofoppaaaProg
import Derived.Test.YtiebjkbofoppaaaShT
import Derived.WalkLawsBesides
import Derived.WalkSpells
import Derived.WalkSmall
import Derived.BigQuiet
import Derived.Deep.MidRow
import Derived.Lib.Hide
namespace Go.Proofs.Ytiebjkbofoppaaa
open Go Go.RowKit Go.Sort Cg
def kI (n : Nat) : List K := List.replicate n (.lit .int)
def kB : K := .lit .bool
def kFilter : List K := kI 7 ++ [.lit .str] ++ kI 8
def kMod : List K := kI 3 ++ [.lit .str] ++ kFilter
def kSpec : List K := [kB, kB] ++ kFilter
def kRef : List K := kI 2 ++ kFilter
def kAmount : List K := kI 3 ++ kFilter
def kEffect : List K := kI 1 ++ kRef ++ kAmount ++ kI 2 ++ [.lit .str] ++ kFilter ++ kI 6 ++ [.sl kMod 176]
def kPrice : List K := kI 7 ++ [kB, kB] ++ kI 1
def kAbility : List K := kI 1 ++ kFilter ++ [.sl kMod 176] ++ kPrice ++ [kB] ++ (kI 2 ++ kFilter) ++ [kB] ++ [.sl kSpec 144] ++ [.sl kEffect 560] ++ (kI 2 ++ kFilter ++ kI 4)
def kTarget : List K := kI 2
def kEvent : List K := kI 10 ++ [kB, kB] ++ kI 3
def kItem : List K := kI 5 ++ [kB] ++ kAbility ++ [.sl kTarget 16] ++ kEvent
def kWaiting : List K := kI 2 ++ kAbility ++ kEvent
def kInts : K := .sl (kI 1) 8
def kCont : List K := kI 4 ++ [kInts] ++ [.sl kMod 176]
def kPlayer : List K := kI 9 ++ [kB, kB] ++ [kInts, kInts, kInts]
def kObject : List K := kI 5 ++ [kB, kB, kB, kB] ++ kI 7 ++ [kB] ++ kI 2
def kState : List K := [.sl kPlayer 152, .sl kObject 128, kInts, kInts, .sl kItem 824, .sl kWaiting 768, .sl kCont 80] ++ kI 3 ++ [kB] ++ kI 4 ++ [.lit .u64] ++ [kInts] ++ kI 2
theorem shState : shapeOf Try.prog 12 30 = some kState := by kernel_rfl
theorem shObject : shapeOf Try.prog 12 47 = some kObject := by kernel_rfl
theorem shAbility : shapeOf Try.prog 12 78 = some kAbility := by kernel_rfl
theorem shItem : shapeOf Try.prog 12 83 = some kItem := by kernel_rfl
theorem shPlayer : shapeOf Try.prog 12 59 = some kPlayer := by kernel_rfl
theorem kObject_len : kObject.length = 19 := by decide
theorem kState_len : kState.length = 19 := by decide
theorem kPlayer_len : kPlayer.length = 14 := by decide
theorem kItem_len : kItem.length = 94 := by decide
theorem kAbility_len : kAbility.length = 72 := by decide
end Go.Proofs.Ytiebjkbofoppaaa
