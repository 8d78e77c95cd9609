/- Chapter 56: slices.Delete at one record; rests. -/
import Derived.Test.YtfjnnbhijajhoaaPrJ
import Derived.Deep.RegionLaw
import Derived.Lib.SliceRun
namespace Go.Proofs.Ytfjnnbhijajhoaa
open Go Go.RowKit Go.Sort Go.Shelf Cg
theorem run_clear_K {P : Program} (w : World) (t e ty : TypeId) (z : Value) (ht : P.underlying t = some (.slice e)) (hv : ∀ w, (zeroValue e).run P w = .ok z w) (vs : List Value) (hz : (Builtin.zeroCells z.cells 1).toList = vs) (h1 : ∀ u ∈ vs, u.oneCell' = true) (b o c : Nat)
    (hc : ∀ j, j < vs.length → (w.cell? ⟨b, o + j, none⟩).isSome = true) (hf : ∀ j, j < vs.length → w.frozen? ⟨b, o + j, none⟩ = false) :
    (Builtin.clear_ #[t] ty #[.slice (some ⟨b, o, none⟩) 1 c]).run P w = .ok (.tuple #[]) (w.setCells b o vs) := by
  have hst := run_storeCells_cells (P := P) b o vs 0 w (by simpa using hc) (by simpa using hf) h1
  simp only [Nat.add_zero] at hst
  simp [Builtin.clear_, run_underlying ht, hv, hz, hst]
theorem setCells_append (b : Nat) : ∀ (us vs : List Value) (o : Nat) (w : World), w.setCells b o (us ++ vs) = (w.setCells b o us).setCells b (o + us.length) vs
  | [], vs, o, w => rfl
  | u :: us, vs, o, w => by
    rw [List.cons_append, World.setCells, World.setCells, setCells_append b us vs (o + 1), List.length_cons]
    congr 1
    omega
theorem BlkK.setMany {t : TypeId} {g : Nat} : ∀ (ys : List (St × Sl)) (j : Nat) (all : List (St × Sl)) (w : World), BlkK 8 encT t w g all → j + ys.length ≤ all.length → BlkK 8 encT t (w.setCells g (j * 8) (ys.flatMap encT)) g (all.take j ++ ys ++ all.drop (j + ys.length))
  | [], j, all, w, h, _ => by
    have e : all.take j ++ [] ++ all.drop (j + ([] : List (St × Sl)).length) = all := by simp
    rw [e]
    exact h
  | y :: ys, j, all, w, h, hj => by
    rw [List.length_cons] at hj
    have h1 := h.setCells encT_len j (by omega) y
    have ih := BlkK.setMany ys (j + 1) (all.set j y) _ h1 (by rw [List.length_set]; omega)
    rw [List.flatMap_cons, setCells_append, encT_len]
    rw [Nat.add_mul, Nat.one_mul] at ih
    have e : (all.set j y).take (j + 1) ++ ys ++ (all.set j y).drop (j + 1 + ys.length) = all.take j ++ (y :: ys) ++ all.drop (j + (y :: ys).length) := by
      rw [List.drop_set_of_lt (by omega), List.take_succ_eq_append_getElem (by rw [List.length_set]; omega), List.take_set_of_le (Nat.le_refl j), List.getElem_set_self, List.length_cons, show j + (ys.length + 1) = j + 1 + ys.length by omega]
      simp
    rw [e] at ih
    exact ih
theorem std_zero : (Builtin.zeroCells (stV (st0 0) (.slice none 0 0)).cells 1).toList = [((st0 0, (none, 0, 0)) : St × Sl)].flatMap encT := by kernel_rfl
theorem list_move {α : Type} (pre xs post : List α) (i : Nat) (hi : i < xs.length) (z : α) :
    ((pre ++ xs ++ post).take (pre.length + i) ++ xs.drop (i + 1) ++ (pre ++ xs ++ post).drop (pre.length + i + (xs.drop (i + 1)).length)).take (pre.length + (xs.length - 1)) ++ [z] ++ ((pre ++ xs ++ post).take (pre.length + i) ++ xs.drop (i + 1) ++ (pre ++ xs ++ post).drop (pre.length + i + (xs.drop (i + 1)).length)).drop (pre.length + (xs.length - 1) + 1)
      = pre ++ (xs.take i ++ xs.drop (i + 1)) ++ (z :: post) := by
  have e1 : (pre ++ xs ++ post).take (pre.length + i) = pre ++ xs.take i := by
    rw [List.append_assoc, List.take_length_add_append, List.take_append_of_le_length (by omega)]
  have hl : (xs.drop (i + 1)).length = xs.length - (i + 1) := List.length_drop
  have e2 : (pre ++ xs ++ post).drop (pre.length + i + (xs.drop (i + 1)).length) = xs.drop (xs.length - 1) ++ post := by
    rw [hl, List.append_assoc, show pre.length + i + (xs.length - (i + 1)) = pre.length + (xs.length - 1) by omega, List.drop_length_add_append, List.drop_append_of_le_length (by omega)]
  rw [e1, e2]
  have hlen : (pre ++ xs.take i ++ xs.drop (i + 1)).length = pre.length + (xs.length - 1) := by
    rw [List.length_append, List.length_append, List.length_take, hl]; omega
  have e3 : (pre ++ xs.take i ++ xs.drop (i + 1) ++ (xs.drop (xs.length - 1) ++ post)).take (pre.length + (xs.length - 1)) = pre ++ xs.take i ++ xs.drop (i + 1) := by
    rw [← hlen]; exact List.take_left
  have e4 : (pre ++ xs.take i ++ xs.drop (i + 1) ++ (xs.drop (xs.length - 1) ++ post)).drop (pre.length + (xs.length - 1) + 1) = post := by
    rw [← hlen, ← List.drop_drop, List.drop_left]
    obtain ⟨ys, hys⟩ : ∃ ys, ys = xs.drop (xs.length - 1) := ⟨_, rfl⟩
    have : ys.length = 1 := by rw [hys, List.length_drop]; omega
    rw [← hys, ← this]
    exact List.drop_left
  rw [e3, e4]
  simp
end Go.Proofs.Ytfjnnbhijajhoaa
