/- Chapter 56, plain: the steps of the reference's Pair. -/
import Derived.Test.YtfjnnbhijajhoaaPrL
namespace Go.Proofs.Ytfjnnbhijajhoaa
open Go Go.RowKit Go.Sort Go.Shelf Cg
theorem lastFree_snoc : ∀ (l : List St) (x : St), lastFree (l ++ [x]) = if x.by_ = 0 then some l.length else lastFree l
  | [], x => by
    rw [List.nil_append]
    unfold lastFree
    unfold lastFree
    rfl
  | y :: l, x => by
    have ih := lastFree_snoc l x
    rw [List.cons_append, lastFree, ih]
    by_cases h : x.by_ = 0
    · simp only [if_pos h]
      rfl
    · simp only [if_neg h]
      rw [lastFree]
/-- The player whom the first k records make rest. -/
def byeAt (s : List St) (k : Nat) : Int := match lastFree (s.take k) with
  | some j => ((s[j]?).getD default).pl
  | none => ((s[s.length - 1]?).getD default).pl
theorem byeAt_zero (s : List St) : byeAt s 0 = ((s[s.length - 1]?).getD default).pl := rfl
theorem byeAt_step (s : List St) (k : Nat) (h : k < s.length) : byeAt s (k + 1) = if s[k].by_ = 0 then s[k].pl else byeAt s k := by
  unfold byeAt
  rw [List.take_succ_eq_append_getElem h, lastFree_snoc]
  by_cases h0 : s[k].by_ = 0
  · rw [if_pos h0, if_pos h0, List.length_take, Nat.min_eq_left (by omega)]
    show ((s[k]?).getD default).pl = _
    rw [List.getElem?_eq_getElem h]
    rfl
  · rw [if_neg h0, if_neg h0]
theorem byeAt_end (s : List St) : byeAt s s.length = ((s[restI s]?).getD default).pl := by
  unfold byeAt restI
  rw [List.take_length]
  cases lastFree s <;> rfl
/-- The players who do not rest, among the first k. -/
def frees (s : List St) (bye : Int) (k : Nat) : List Int := ((s.take k).map (·.pl)).filter (· != bye)
theorem frees_step (s : List St) (bye : Int) (k : Nat) (h : k < s.length) : frees s bye (k + 1) = if (s[k].pl != bye) = true then frees s bye k ++ [s[k].pl] else frees s bye k := by
  unfold frees
  rw [List.take_succ_eq_append_getElem h, List.map_append, List.filter_append]
  by_cases hb : (s[k].pl != bye) = true
  · rw [if_pos hb]
    simp [hb]
  · rw [if_neg hb]
    simp [hb]
theorem frees_all (s : List St) (h : ∀ x ∈ s, 0 ≤ x.pl) : frees s (-1) s.length = s.map (·.pl) := by
  unfold frees
  rw [List.take_length]
  refine List.filter_eq_self.2 fun x hx => ?_
  obtain ⟨y, hy, rfl⟩ := List.mem_map.1 hx
  have := h y hy
  exact bne_iff_ne.2 (by omega)
theorem filter_erase : ∀ (xs : List Int) (i : Nat) (h : i < xs.length), xs.Nodup → xs.filter (· != xs[i]) = xs.eraseIdx i
  | x :: xs, 0, _, hn => by
    rw [List.getElem_cons_zero, List.eraseIdx_cons_zero, List.filter_cons_of_neg (by simp)]
    rw [List.nodup_cons] at hn
    exact List.filter_eq_self.2 fun y hy => bne_iff_ne.2 fun e => hn.1 (e ▸ hy)
  | x :: xs, i + 1, h, hn => by
    have hl : i < xs.length := Nat.lt_of_succ_lt_succ h
    rw [List.nodup_cons] at hn
    have ih := filter_erase xs i hl hn.2
    have hx : (x != xs[i]) = true := bne_iff_ne.2 fun e => hn.1 (by rw [e]; exact List.getElem_mem hl)
    rw [List.getElem_cons_succ, List.eraseIdx_cons_succ, List.filter_cons_of_pos (p := fun y => y != xs[i]) hx, ih]
theorem erase_map' {α β : Type} (f : α → β) : ∀ (xs : List α) (i : Nat), (xs.map f).eraseIdx i = (xs.eraseIdx i).map f
  | [], _ => rfl
  | _ :: _, 0 => rfl
  | x :: xs, i + 1 => by rw [List.map_cons, List.eraseIdx_cons_succ, List.eraseIdx_cons_succ, List.map_cons, erase_map' f xs i]
theorem frees_one (s : List St) (i : Nat) (h : i < s.length) (hn : (s.map (·.pl)).Nodup) : frees s s[i].pl s.length = (s.eraseIdx i).map (·.pl) := by
  have := filter_erase (s.map (·.pl)) i (by rw [List.length_map]; exact h) hn
  rw [List.getElem_map, erase_map'] at this
  unfold frees
  rw [List.take_length]
  exact this
/-- The least fresh one at k or behind it, else 1. -/
def AtOk (l : List Rs) (xs : List Int) (k a : Nat) : Prop :=
  (∃ h : a < xs.length, k ≤ a ∧ plays l (xs.headD 0) xs[a] = false ∧ ∀ j (hj : j < xs.length), k ≤ j → j < a → plays l (xs.headD 0) xs[j] = true) ∨ (a = 1 ∧ ∀ j (hj : j < xs.length), k ≤ j → plays l (xs.headD 0) xs[j] = true)
theorem AtOk.hit {l : List Rs} {xs : List Int} {k : Nat} (h : k < xs.length) (hp : plays l (xs.headD 0) xs[k] = false) : AtOk l xs k k := .inl ⟨h, Nat.le_refl _, hp, fun j hj h1 h2 => by omega⟩
theorem AtOk.miss {l : List Rs} {xs : List Int} {k a : Nat} (hk : k < xs.length) (hp : plays l (xs.headD 0) xs[k] = true) (h : AtOk l xs (k + 1) a) : AtOk l xs k a := by
  have key : ∀ j (hj : j < xs.length), k ≤ j → ¬ k + 1 ≤ j → plays l (xs.headD 0) xs[j] = true := fun j hj h1 h2 => by
    obtain rfl : j = k := by omega
    exact hp
  rcases h with ⟨ha, h1, h2, h3⟩ | ⟨h1, h2⟩
  · exact .inl ⟨ha, by omega, h2, fun j hj hkj hja => if e : k + 1 ≤ j then h3 j hj e hja else key j hj hkj e⟩
  · exact .inr ⟨h1, fun j hj hkj => if e : k + 1 ≤ j then h2 j hj e else key j hj hkj e⟩
theorem pick_none (l : List Rs) (a : Int) (xs : List Int) (h : ∀ j (hj : j < xs.length), plays l a xs[j] = true) : pick l a xs = 0 := by
  unfold pick
  rw [List.findIdx?_eq_none_iff.2 (fun x hx => by
    obtain ⟨j, hj, rfl⟩ := List.getElem_of_mem hx
    rw [h j hj]
    rfl)]
  rfl
theorem pick_some (l : List Rs) (a : Int) (xs : List Int) (k : Nat) (hk : k < xs.length) (hp : plays l a xs[k] = false) (h : ∀ j (hj : j < xs.length), j < k → plays l a xs[j] = true) : pick l a xs = k := by
  unfold pick
  rw [List.findIdx?_eq_some_iff_getElem.2 ⟨hk, by rw [hp]; rfl, fun j hj => by
    rw [h j (by omega) hj]
    simp⟩]
  rfl
theorem AtOk.pick {l : List Rs} {xs : List Int} {a : Nat} (h : AtOk l xs 1 a) (h2 : 1 < xs.length) : a < xs.length ∧ 0 < a ∧ a = Go.Proofs.Ytfjnnbhijajhoaa.pick l xs[0] (xs.drop 1) + 1 := by
  have e0 : xs.headD 0 = xs[0] := by
    cases xs with
    | nil => simp at h2
    | cons x xs => rfl
  unfold AtOk at h
  rw [e0] at h
  rcases h with ⟨ha, h1, hp, h3⟩ | ⟨h1, h3⟩
  · refine ⟨ha, by omega, ?_⟩
    have := pick_some l xs[0] (xs.drop 1) (a - 1) (by rw [List.length_drop]; omega) (by
      rw [List.getElem_drop]
      simp only [show 1 + (a - 1) = a by omega]
      exact hp) (fun j hj hja => by
      rw [List.length_drop] at hj
      rw [List.getElem_drop]
      exact h3 (1 + j) (by omega) (by omega) (by omega))
    omega
  · refine ⟨by omega, by omega, ?_⟩
    have := pick_none l xs[0] (xs.drop 1) (fun j hj => by
      rw [List.length_drop] at hj
      rw [List.getElem_drop]
      exact h3 (1 + j) (by omega) (by omega))
    omega
/-- What is left of the first k, without the first and without a. -/
def restTo (xs : List Int) (a k : Nat) : List Int := ((xs.take k).eraseIdx a).drop 1
theorem restTo_one (xs : List Int) (a : Nat) : restTo xs a 1 = [] := by
  unfold restTo
  refine List.drop_eq_nil_of_le ?_
  have : ((xs.take 1).eraseIdx a).length ≤ (xs.take 1).length := List.length_eraseIdx_le ..
  rw [List.length_take] at this
  omega
theorem restTo_end (xs : List Int) (a : Nat) : restTo xs a xs.length = (xs.eraseIdx a).drop 1 := by
  unfold restTo
  rw [List.take_length]
theorem restTo_skip (xs : List Int) (a : Nat) (h : a < xs.length) : restTo xs a (a + 1) = restTo xs a a := by
  unfold restTo
  have hl : (xs.take a).length = a := by rw [List.length_take]; omega
  have e1 : (xs.take a).eraseIdx a = xs.take a := List.eraseIdx_of_length_le (by omega)
  have e2 : (xs.take (a + 1)).eraseIdx a = xs.take a := by
    rw [List.take_succ_eq_append_getElem h, List.eraseIdx_append_of_length_le (by omega), hl, Nat.sub_self]
    simp
  rw [e1, e2]
theorem restTo_step (xs : List Int) (a k : Nat) (h : k < xs.length) (hk : 0 < k) (ha : 0 < a) (hne : k ≠ a) : restTo xs a (k + 1) = restTo xs a k ++ [xs[k]] := by
  unfold restTo
  have hl : (xs.take k).length = k := by rw [List.length_take]; omega
  rw [List.take_succ_eq_append_getElem h]
  by_cases hka : k < a
  · rw [List.eraseIdx_of_length_le (by rw [List.length_append, hl, List.length_singleton]; omega), List.eraseIdx_of_length_le (by omega), List.drop_append_of_le_length (by omega)]
  · rw [List.eraseIdx_append_of_lt_length (by omega)]
    by_cases hk1 : k = 1
    · omega
    · rw [List.drop_append_of_le_length (by rw [List.length_eraseIdx_of_lt (by omega)]; omega)]
theorem restTo_len (xs : List Int) (a k : Nat) : (restTo xs a k).length ≤ k := by
  unfold restTo
  rw [List.length_drop]
  have h1 : ((xs.take k).eraseIdx a).length ≤ (xs.take k).length := List.length_eraseIdx_le ..
  rw [List.length_take] at h1
  omega
end Go.Proofs.Ytfjnnbhijajhoaa
