/- Chapter 25: the arguments of the statements. -/
import Derived.Test.YtiebjkbofoppaaaZoI
import Derived.Test.YtiebjkbofoppaaaRows
import Derived.ProofKit
import Derived.OpenShut
import Derived.ChangeOld
import Derived.ShutString
import Derived.ChangeSlices
import Derived.SizedLaws
namespace Go.Proofs.Ytiebjkbofoppaaa
open Go Go.ChangeShapes Go.WideShapes Go.ChangeAt Go.RowKit Go.Sort Cg
theorem own : ownKnob Try.prog.godebug = none := by kernel_rfl
theorem laidOut : laidOutB Try.prog = true := by kernel_rfl
set_option maxRecDepth 100000 in
theorem arg_of {H : Type} {enc : TypeId × Value → H} {W : World} {v : Value} {d : DataW H} {ps : List MemPlace} {r : Reach} {b0 : Nat} {t : TypeId} {ks : List K} (hu : ∃ fs, Try.prog.underlying t = some (.struct fs)) (hs : shapeOf Try.prog 12 t = some ks) (hv : Value.okWide Try.prog W r b0 t v)
    (h : DataW.Trod enc Try.prog W 0 (fun _ => true) true t v d ps) (hw : wok Try.prog t d) : ∃ cs es, v = .agg cs.toArray ∧ RdL (fun _ => True) reachBytes W ks cs es := by
  obtain ⟨fs, hu⟩ := hu
  unfold Value.okWide at hv
  rw [hu] at hv
  obtain ⟨cs, rfl, _, _⟩ := hv
  obtain ⟨fuel, hf⟩ := h
  obtain ⟨es, he⟩ := rd_of 12 t ks hs fuel cs.toList (d, ps) hf hw
  exact ⟨cs.toList, es, rfl, he⟩
def kWay : List K := kI 3 ++ [kB]
theorem shWay : shapeOf Try.prog 12 37 = some kWay := by kernel_rfl
theorem reach_le : reachBytes ≤ 140737488355328 := by decide
theorem reach_le2 : reachBytes + 300 ≤ 140737488355328 := by decide
end Go.Proofs.Ytiebjkbofoppaaa
