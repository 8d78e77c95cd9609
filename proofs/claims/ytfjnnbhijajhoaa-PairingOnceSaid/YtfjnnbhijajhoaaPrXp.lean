/- Chapter 56, plain: everybody stands in one pair. -/
import Derived.Test.YtfjnnbhijajhoaaPrL
namespace Go.Proofs.Ytfjnnbhijajhoaa
open Go Go.RowKit Go.Sort Go.Shelf Cg
def seen1 (r : Rs) : List Int := if r.b = -1 then [r.a] else [r.a, r.b]
def seenOf (l : List Rs) : List Int := l.flatMap seen1
theorem seenOf_take (l : List Rs) (k : Nat) (h : k < l.length) : seenOf (l.take (k + 1)) = seenOf (l.take k) ++ seen1 l[k] := by
  unfold seenOf
  rw [List.take_succ_eq_append_getElem h, List.flatMap_append]
  simp
theorem seenOf_pairs : ∀ (ps : List (Int × Int)), (∀ p ∈ ps, p.2 ≠ -1) → seenOf (ps.map rsPair) = inPairs ps
  | [], _ => rfl
  | p :: ps, h => by
    have h1 := h p List.mem_cons_self
    have ih := seenOf_pairs ps (fun q hq => h q (List.mem_cons_of_mem _ hq))
    have e : seen1 (rsPair p) = [p.1, p.2] := if_neg h1
    show seen1 (rsPair p) ++ seenOf (ps.map rsPair) = [p.1, p.2] ++ inPairs ps
    rw [e, ih]
theorem mem_inPairs {ps : List (Int × Int)} {p : Int × Int} (h : p ∈ ps) : p.2 ∈ inPairs ps := List.mem_flatMap.2 ⟨p, h, by simp⟩
theorem players {N : Nat} {l : List Rs} {s : List St} (hp : s.Perm ((List.range N).map fun (p : Nat) => recT N l p)) : (s.map (·.pl)).Perm ((List.range N).map fun (p : Nat) => (p : Int)) := by
  have := hp.map (·.pl)
  rw [List.map_map] at this
  have e : ((·.pl) ∘ fun (p : Nat) => recT N l p) = fun (p : Nat) => (p : Int) := by
    funext p
    exact recT_pl N l p
  rwa [e] at this
/-- What the law of the pairs wants. -/
structure OnceOk (N : Nat) (ps : List Rs) : Prop where
  last : ∀ k (h : k < ps.length), ps[k].b = -1 → k = ps.length - 1 ∧ N % 2 = 1
  perm : (seenOf ps).Perm ((List.range N).map fun (p : Nat) => (p : Int))
theorem once_ok {N : Nat} {l : List Rs} {s : List St} (hp : s.Perm ((List.range N).map fun (p : Nat) => recT N l p)) : OnceOk N (pairOut l s) := by
  have hpl := players hp
  have hln : s.length = N := by have := hpl.length_eq; simpa using this
  have h0 : ∀ x ∈ s.map (·.pl), (0 : Int) ≤ x := fun x hx => by
    obtain ⟨p, _, hp2⟩ := List.mem_map.1 (hpl.subset hx)
    omega
  by_cases hodd : s.length % 2 = 1
  · have hr := restI_lt s (by omega)
    have he : pairOut l s = (pairs l ((s.eraseIdx (restI s)).map (·.pl))).map rsPair ++ [⟨s[restI s].pl, -1, 0, 0, 0⟩] := by
      unfold pairOut
      rw [if_pos hodd, List.getElem?_eq_getElem hr]
      rfl
    have hel : ((s.eraseIdx (restI s)).map (·.pl)).length = N - 1 := by rw [List.length_map, List.length_eraseIdx_of_lt hr, hln]
    have hpp := pairs_perm l _ ((s.eraseIdx (restI s)).map (·.pl)) (Nat.le_refl _) (by omega)
    have hsub : ∀ x ∈ (s.eraseIdx (restI s)).map (·.pl), x ∈ s.map (·.pl) := fun x hx => by
      obtain ⟨y, hy, rfl⟩ := List.mem_map.1 hx
      exact List.mem_map.2 ⟨y, List.mem_of_mem_eraseIdx hy, rfl⟩
    have hb : ∀ p ∈ pairs l ((s.eraseIdx (restI s)).map (·.pl)), p.2 ≠ -1 := fun p hp => by
      have := h0 _ (hsub _ (hpp.subset (mem_inPairs hp)))
      omega
    rw [he]
    refine ⟨fun k hk hkb => ?_, ?_⟩
    · rw [List.length_append, List.length_singleton] at hk ⊢
      by_cases h : k < ((pairs l ((s.eraseIdx (restI s)).map (·.pl))).map rsPair).length
      · rw [List.getElem_append_left h, List.getElem_map] at hkb
        exact absurd hkb (hb _ (List.getElem_mem _))
      · exact ⟨by omega, by omega⟩
    · have e1 : seenOf ((pairs l ((s.eraseIdx (restI s)).map (·.pl))).map rsPair ++ [⟨s[restI s].pl, -1, 0, 0, 0⟩]) = inPairs (pairs l ((s.eraseIdx (restI s)).map (·.pl))) ++ [s[restI s].pl] := by
        rw [← seenOf_pairs _ hb]
        unfold seenOf
        rw [List.flatMap_append]
        rfl
      rw [e1]
      refine ((hpp.append_right _).trans ?_).trans hpl
      have h1 := (get_erase_perm s (restI s) hr).map (·.pl)
      rw [List.map_cons] at h1
      exact List.Perm.trans List.perm_append_comm (show ([s[restI s].pl] ++ (s.eraseIdx (restI s)).map fun x : St => x.pl).Perm _ from h1)
  · have he : pairOut l s = (pairs l (s.map (·.pl))).map rsPair := by
      unfold pairOut
      rw [if_neg hodd]
    have hpp := pairs_perm l _ (s.map (·.pl)) (Nat.le_refl _) (by rw [List.length_map]; omega)
    have hb : ∀ p ∈ pairs l (s.map (·.pl)), p.2 ≠ -1 := fun p hp => by
      have := h0 _ (hpp.subset (mem_inPairs hp))
      omega
    rw [he]
    refine ⟨fun k hk hkb => ?_, ?_⟩
    · rw [List.getElem_map] at hkb
      exact absurd hkb (hb _ (List.getElem_mem _))
    · rw [seenOf_pairs _ hb]
      exact hpp.trans hpl
theorem seen_len (l : List Rs) : (seenOf l).length ≤ 2 * l.length := by
  unfold seenOf
  induction l with
  | nil => simp
  | cons r l ih =>
    rw [List.flatMap_cons, List.length_append, List.length_cons]
    have : (seen1 r).length ≤ 2 := by unfold seen1; split <;> simp
    omega
theorem pairOut_len (l : List Rs) (s : List St) : (pairOut l s).length ≤ s.length + 1 := by
  unfold pairOut
  split
  · rw [List.length_append, List.length_map, pairs_len l _ _ (Nat.le_refl _), List.length_map]
    have : (s.eraseIdx (restI s)).length ≤ s.length := List.length_eraseIdx_le ..
    simp only [List.length_singleton]
    omega
  · rw [List.length_map, pairs_len l _ _ (Nat.le_refl _), List.length_map]
    omega
end Go.Proofs.Ytfjnnbhijajhoaa
