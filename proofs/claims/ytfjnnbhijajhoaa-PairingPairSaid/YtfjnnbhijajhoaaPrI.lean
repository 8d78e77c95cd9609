/- Chapter 56: the order of the standings; insertion; a sorted list of records is one only. -/
import Derived.Test.YtfjnnbhijajhoaaPrH
namespace Go.Proofs.Ytfjnnbhijajhoaa
open Go Go.RowKit Go.Sort Go.Shelf Cg
theorem better_iff (a b : St) : better a b = true ↔ (b.pt < a.pt ∨ b.pt = a.pt ∧ (b.tie < a.tie ∨ b.tie = a.tie ∧ a.pl < b.pl)) := by unfold better; rw [decide_eq_true_eq]
theorem better_not (a b : St) : better a b = false ↔ ¬ (b.pt < a.pt ∨ b.pt = a.pt ∧ (b.tie < a.tie ∨ b.tie = a.tie ∧ a.pl < b.pl)) := by unfold better; rw [decide_eq_false_iff_not]
/-- Sorted: no later one stands before an earlier one. -/
def Srt (l : List St) : Prop := l.Pairwise fun a b => better b a = false
theorem srt_of {rows : List (St × Sl)} (h : ∀ i j (hi : i < rows.length) (hj : j < rows.length), i < j → better rows[j].1 rows[i].1 = false) : Srt (rows.map (·.1)) := by
  unfold Srt
  rw [List.pairwise_iff_getElem]
  intro i j hi hj hij
  rw [List.length_map] at hi hj
  rw [List.getElem_map, List.getElem_map]
  exact h i j hi hj hij
theorem srt_ins {l : List St} (h : Srt l) (x : St) (k : Nat) (hk : k ≤ l.length) (h1 : ∀ j (hj : j < l.length), j < k → better l[j] x = true) (h2 : ∀ hk : k < l.length, better l[k] x = false) : Srt (l.take k ++ [x] ++ l.drop k) := by
  unfold Srt at *
  have hs := List.pairwise_iff_getElem.1 h
  rw [List.append_assoc, List.pairwise_append]
  refine ⟨h.sublist (List.take_sublist _ _), ?_, fun a ha b hb => ?_⟩
  · rw [List.singleton_append, List.pairwise_cons]
    refine ⟨fun b hb => ?_, h.sublist (List.drop_sublist _ _)⟩
    obtain ⟨j, hj, rfl⟩ := List.getElem_of_mem hb
    rw [List.length_drop] at hj
    rw [List.getElem_drop]
    have hkl : k < l.length := by omega
    have e0 := h2 hkl
    by_cases ej : j = 0
    · subst ej; simpa using e0
    · have e1 := hs k (k + j) hkl (by omega) (by omega)
      rw [better_not] at *
      omega
  · obtain ⟨i, hi, rfl⟩ := List.getElem_of_mem ha
    rw [List.length_take] at hi
    rw [List.getElem_take]
    have e1 := h1 i (by omega) (by omega)
    rw [List.singleton_append, List.mem_cons] at hb
    rcases hb with rfl | hb
    · rw [better_iff] at e1; rw [better_not]; omega
    · obtain ⟨j, hj, rfl⟩ := List.getElem_of_mem hb
      rw [List.length_drop] at hj
      rw [List.getElem_drop]
      exact hs i (k + j) (by omega) (by omega) (by omega)
/-- Two sorted lists of the same records, the players all different, are one. -/
theorem srt_uniq : ∀ (l m : List St), l.Perm m → Srt l → Srt m → (l.map (·.pl)).Nodup → l = m
  | [], m, hp, _, _, _ => (List.Perm.nil_eq hp)
  | x :: l, m, hp, hl, hm, hn => by
    obtain ⟨y, m', rfl⟩ : ∃ y m', m = y :: m' := by
      cases m with
      | nil => exact absurd hp.symm.nil_eq (by simp)
      | cons y m' => exact ⟨y, m', rfl⟩
    unfold Srt at *
    rw [List.pairwise_cons] at hl hm
    rw [List.map_cons, List.nodup_cons] at hn
    have hxy : x = y := by
      have hy : y ∈ x :: l := hp.symm.subset List.mem_cons_self
      have hx : x ∈ y :: m' := hp.subset List.mem_cons_self
      rw [List.mem_cons] at hx hy
      rcases hy with rfl | hy
      · rfl
      · rcases hx with rfl | hx
        · rfl
        · have e1 := hl.1 y hy
          have e2 := hm.1 x hx
          rw [better_not] at e1 e2
          have hpl : x.pl = y.pl := by omega
          exact absurd (List.mem_map.2 ⟨y, hy, hpl.symm⟩) hn.1
    subst hxy
    rw [srt_uniq l m' ((List.perm_cons x).1 hp) hl.2 hm.2 hn.2]
theorem recT_pl (n : Int) (l : List Rs) (p : Int) : (recT n l p).pl = p := by
  show (recs n l p).pl = p
  exact (recs_ok n p l).pl
theorem recT_nodup (N : Nat) (l : List Rs) : (((List.range N).map fun (p : Nat) => recT N l p).map (·.pl)).Nodup := by
  rw [List.map_map]
  unfold List.Nodup
  rw [List.pairwise_map]
  refine List.Pairwise.imp (fun {a b} hab h => ?_) (List.nodup_range (n := N))
  simp only [Function.comp, recT_pl] at h
  exact hab (by omega)
/-- Insertion keeps what the list holds. -/
theorem ins_perm {α : Type} (l : List α) (x : α) (k : Nat) : (l.take k ++ [x] ++ l.drop k).Perm (l ++ [x]) := by
  rw [List.append_assoc]
  have h : (l.take k ++ ([x] ++ l.drop k)).Perm (l.take k ++ (l.drop k ++ [x])) := List.Perm.append_left _ List.perm_append_comm
  rwa [← List.append_assoc (l.take k) (l.drop k) [x], List.take_append_drop] at h
end Go.Proofs.Ytfjnnbhijajhoaa
