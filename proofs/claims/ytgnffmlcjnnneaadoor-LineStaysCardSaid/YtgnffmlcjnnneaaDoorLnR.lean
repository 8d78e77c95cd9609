/- Chapter 10: what the cards share: how an argument that is a line is read; a world for the witness that lays the two listed tables. -/
import Derived.Test.YtgnffmlcjnnneaaDoorCards
import Derived.Test.YtgnffmlcjnnneaaDoorTie
import Derived.Test.YtgnffmlcjnnneaaDoorWdQ
import Derived.Test.YtgnffmlcjnnneaaDoorRow
import Derived.ChangeOld
import Derived.Deep.DeepHandedRow
import Derived.Lib.LaidTab
import Derived.Lib.SmallJoins
namespace Go.Proofs.YtgnffmlcjnnneaaDoor
open Go Go.ChangeShapes Go.WideShapes Go.ChangeAt Go.RowKit Go.Joins Cg
theorem rest_weights {H : Type} {P : Program} {t : TypeId} {ts : List TypeId} {d : DataW H} {r : List (DataW H)} (h : (DataW.weightsEach P (t :: ts) (d :: r)).all (· ≤ reachBytes) = true) : (DataW.weightsEach P ts r).all (· ≤ reachBytes) = true := by
  rw [DataW.weightsEach, List.all_append, Bool.and_eq_true] at h
  exact h.2
theorem cellsLine : Tryd.prog.cellsOf 24 = 3 := by kernel_rfl
theorem strs_len {H : Type} {enc : TypeId × Value → H} {W : World} {v : Value} {d : DataW H} {ps : List MemPlace} {n : Nat} (h : DataW.trod enc Tryd.prog W 0 (fun _ => true) true n 22 [v] = some (d, ps))
    (hw : (DataW.weights Tryd.prog 22 d).all (· ≤ reachBytes) = true) : ∃ a l c, v = .slice a l c ∧ l ≤ 4611686018427387904 := by
  rcases open_strings Tryd.underlying22 Tryd.underlying9 (by kernel_rfl) h with ⟨h0, _⟩ | ⟨ad, len, cap, zs, h0, _, hlc, hcm, hz, hx, hc, _⟩
  · exact ⟨_, _, _, List.singleton_inj.1 h0, Nat.zero_le _⟩
  · refine ⟨_, _, _, List.singleton_inj.1 h0, ?_⟩
    have hlz : len ≤ zs.length := by rw [hz]; split <;> omega
    have hl : (zs.take len).length = len := by rw [List.length_take]; omega
    have hd : d = .slice (strs (zs.take len)) (strs (zs.drop len)) := (Prod.mk.inj hx).1
    rw [hd, DataW.weights, show Tryd.prog.underlying 22 = some (.slice 9) from Tryd.underlying22] at hw
    simp only [List.all_cons, Bool.and_eq_true, decide_eq_true_eq] at hw
    have h1 := hw.1
    have hb : Tryd.prog.bytesOf 9 = 16 := by kernel_rfl
    have hr : reachBytes ≤ 140737488355328 := by decide
    have hsl : (strs (H := H) (zs.take len)).length = len := by unfold strs; rw [List.length_map]; exact hl
    rw [hb, hsl] at h1
    omega
theorem line_of {H : Type} {enc : TypeId × Value → H} {W : World} {v : Value} {d : DataW H} {ps : List MemPlace} {r : Reach} {b0 : Nat} (hv : Value.okWide Tryd.prog W r b0 24 v)
    (h : DataW.Trod enc Tryd.prog W 0 (fun _ => true) true 24 v d ps) (hw : (DataW.weights Tryd.prog 24 d).all (· ≤ reachBytes) = true) :
    ∃ (su ty : Int) (sv : Value) (zs : List ByteArray), v = .agg #[.int .i64 su, .int .i64 ty, sv] ∧ RowAt Value.string W sv zs ∧ (∀ z ∈ zs, z.size ≤ 140737488355328) ∧ zs.length ≤ 4611686018427387904 := by
  obtain ⟨c0, c1, c2, y0, y1, y2, m, rfl, rfl, rfl, h0, h1, h2⟩ := open_agg3 Tryd.underlying24 (by kernel_rfl) cellsLine hv h
  obtain ⟨a, e0, _, _⟩ := DataW.trod_int Tryd.underlying3 h0
  obtain ⟨b, e1, _, _⟩ := DataW.trod_int Tryd.underlying3 h1
  obtain rfl : c0 = .int .i64 a := List.singleton_inj.1 e0
  obtain rfl : c1 = .int .i64 b := List.singleton_inj.1 e1
  have hwe : (DataW.weights Tryd.prog 22 y2.1).all (· ≤ reachBytes) = true := by
    rw [DataW.weights, show Tryd.prog.underlying 24 = some (.struct _) from Tryd.underlying24] at hw
    exact first_weights (rest_weights (rest_weights hw))
  obtain ⟨a2, l, c, rfl, hl⟩ := strs_len (d := y2.1) (ps := y2.2) h2 hwe
  obtain ⟨zs, row, zz, _⟩ := strs_of (d := y2.1) (ps := y2.2) ⟨m, by simpa [Value.cells] using h2⟩ ⟨_, _, _, rfl⟩ hwe
  obtain ⟨_, _, hz⟩ := row.form
  simp only [Value.slice.injEq] at hz
  exact ⟨a, b, _, zs, rfl, row, zz, by omega⟩
def flat1 : DataW Unit → List Value
  | .lit (.int k n) => [.int k n]
  | _ => []
def flat2 : DataW Unit → List Value
  | .agg xs => xs.flatMap flat1
  | d => flat1 d
def flat3 : DataW Unit → List Value
  | .agg xs => xs.flatMap flat2
  | d => flat1 d
noncomputable def layIn (d : DataW Unit) : Obj → Obj
  | .cells _ t frozen => .cells (flat3 d).toArray t frozen
  | o => o
/-- A world for the witness: the settled one, the listed tables holding what their initialisers lay. -/
noncomputable def laidWorld (os : Os) : World :=
  { World.holding Tryd.prog os ⟨#[], #[], []⟩ with heap := ((World.holding Tryd.prog os ⟨#[], #[], []⟩).heap.modify 1 (layIn Go.Pinned.utf8First)).modify 2 (layIn Rows.laid_unicode_utf8_acceptRanges) }
end Go.Proofs.YtgnffmlcjnnneaaDoor
