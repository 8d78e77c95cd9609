/- Chapter 56, plain: the points add up. -/
import Derived.Test.YtfjnnbhijajhoaaPrL
namespace Go.Proofs.Ytfjnnbhijajhoaa
open Go Go.RowKit Go.Sort Go.Shelf Cg
def sumL : List Int → Int
  | [] => 0
  | x :: l => x + sumL l
theorem sumL_app (l m : List Int) : sumL (l ++ m) = sumL l + sumL m := by
  induction l with
  | nil => simp [sumL]
  | cons x l ih => rw [List.cons_append, sumL, ih, sumL]; omega
theorem sumL_perm {l m : List Int} (h : l.Perm m) : sumL l = sumL m := by
  induction h with
  | nil => rfl
  | cons x _ ih => rw [sumL, sumL, ih]
  | swap x y l => simp only [sumL]; omega
  | trans _ _ ih1 ih2 => rw [ih1, ih2]
theorem sumL_bound (m : Int) : ∀ l : List Int, (∀ x ∈ l, 0 ≤ x ∧ x ≤ m) → 0 ≤ sumL l ∧ sumL l ≤ m * l.length
  | [], _ => by simp [sumL]
  | x :: l, h => by
    have h1 := h x List.mem_cons_self
    have h2 := sumL_bound m l (fun y hy => h y (List.mem_cons_of_mem _ hy))
    rw [sumL, List.length_cons]
    have : m * ((l.length + 1 : Nat) : Int) = m * l.length + m := by rw [Int.natCast_add, Int.mul_add]; simp
    omega
theorem sumL_take (l : List Int) (k : Nat) (h : k < l.length) : sumL (l.take (k + 1)) = sumL (l.take k) + l[k] := by
  rw [List.take_succ_eq_append_getElem h, sumL_app]
  simp [sumL]
def sumTo (f : Nat → Int) : Nat → Int
  | 0 => 0
  | k + 1 => sumTo f k + f k
theorem sumTo_range (f : Nat → Int) (n : Nat) : sumL ((List.range n).map f) = sumTo f n := by
  induction n with
  | zero => rfl
  | succ n ih => rw [List.range_succ, List.map_append, sumL_app, ih, sumTo]; simp [sumL]
theorem sumTo_add (f g : Nat → Int) (n : Nat) : sumTo (fun p => f p + g p) n = sumTo f n + sumTo g n := by
  induction n with
  | zero => rfl
  | succ n ih => rw [sumTo, sumTo, sumTo, ih]; omega
theorem sumTo_congr {f g : Nat → Int} (n : Nat) (h : ∀ p, p < n → f p = g p) : sumTo f n = sumTo g n := by
  induction n with
  | zero => rfl
  | succ n ih => rw [sumTo, sumTo, ih (fun p hp => h p (by omega)), h n (by omega)]
theorem sumTo_zero (n : Nat) : sumTo (fun _ => 0) n = 0 := by
  induction n with
  | zero => rfl
  | succ n ih => rw [sumTo, ih]; rfl
theorem sumTo_one (a : Nat) (u : Int) (n : Nat) : sumTo (fun p => if p = a then u else 0) n = if a < n then u else 0 := by
  induction n with
  | zero => rfl
  | succ n ih =>
    rw [sumTo, ih]
    by_cases h1 : a < n
    · rw [if_pos h1, if_neg (by omega), if_pos (by omega)]; omega
    · by_cases h2 : n = a
      · rw [if_neg h1, if_pos h2, if_pos (by omega)]; omega
      · rw [if_neg h1, if_neg h2, if_neg (by omega)]; rfl
/-- The points of one side of a match. -/
def ptsOf (won lost : Int) : Int := if lost < won then 3 else if won = lost then 1 else 0
def gain (n p : Int) (r : Rs) : Int :=
  if cnts n r = true ∧ (r.a = p ∨ r.b = p) then
    if r.b = -1 then 3 else if r.b = p then ptsOf r.wb r.wa else ptsOf r.wa r.wb
  else 0
theorem recd_pt (x : St) (o won lost : Int) : (recd x o won lost).pt = x.pt + ptsOf won lost := by
  unfold recd ptsOf
  split
  · rfl
  · split
    · rfl
    · show x.pt = x.pt + 0; omega
theorem upd_pt (n p : Int) (x : St) (r : Rs) : (upd n p x r).pt = x.pt + gain n p r := by
  unfold upd gain
  split
  · split
    · rfl
    · split <;> exact recd_pt ..
  · omega
def gainAll (n : Int) (r : Rs) : Int := if cnts n r = true then (if r.b = -1 then 3 else if r.wa = r.wb then 2 else 3) else 0
theorem gain_sum (N : Nat) (r : Rs) : sumTo (fun p => gain N p r) N = gainAll N r := by
  unfold gainAll
  cases hc : cnts N r with
  | false =>
    rw [if_neg (by simp), sumTo_congr (g := fun _ => 0) N (fun p _ => by unfold gain; rw [if_neg (by rw [hc]; simp)]), sumTo_zero]
  | true =>
    rw [if_pos rfl]
    obtain ⟨h1, h2, h3, h4, h5⟩ := (cnts_iff N r).1 hc
    obtain ⟨a, ha⟩ : ∃ a : Nat, r.a = (a : Int) := ⟨r.a.toNat, by omega⟩
    by_cases hb : r.b = -1
    · rw [if_pos hb, sumTo_congr (g := fun p => if p = a then 3 else 0) N (fun p _ => by
        unfold gain
        by_cases hp : p = a
        · rw [if_pos ⟨hc, .inl (by omega)⟩, if_pos hb, if_pos hp]
        · rw [if_neg (fun h => by rcases h.2 with h | h <;> omega), if_neg hp]), sumTo_one, if_pos (by omega)]
    · obtain ⟨b, hb2⟩ : ∃ b : Nat, r.b = (b : Int) := ⟨r.b.toNat, by omega⟩
      rw [if_neg hb, sumTo_congr (g := fun p => (if p = a then ptsOf r.wa r.wb else 0) + (if p = b then ptsOf r.wb r.wa else 0)) N (fun p _ => by
        unfold gain
        by_cases hp : p = a
        · rw [if_pos ⟨hc, .inl (by omega)⟩, if_neg hb, if_neg (by omega), if_pos hp, if_neg (by omega)]; omega
        · by_cases hp2 : p = b
          · rw [if_pos ⟨hc, .inr (by omega)⟩, if_neg hb, if_pos (by omega), if_neg hp, if_pos hp2]; omega
          · rw [if_neg (fun h => by rcases h.2 with h | h <;> omega), if_neg hp, if_neg hp2]; rfl), sumTo_add, sumTo_one, sumTo_one, if_pos (by omega), if_pos (by omega)]
      unfold ptsOf
      by_cases e : r.wa = r.wb
      · rw [if_pos e, if_neg (by omega), if_pos e, if_neg (by omega), if_pos e.symm]; rfl
      · by_cases e2 : r.wb < r.wa
        · rw [if_pos e2, if_neg (by omega), if_neg (by omega), if_neg e]; rfl
        · rw [if_neg e2, if_neg e, if_pos (by omega), if_neg e]; rfl
def tot (n : Int) (l : List Rs) : Int := sumL (l.map (gainAll n))
theorem recs_sum (N : Nat) (l : List Rs) : sumTo (fun p => (recs N l p).pt) N = tot N l := by
  have key : ∀ k, k ≤ l.length → sumTo (fun p => (recs N (l.take k) p).pt) N = sumL ((l.map (gainAll N)).take k) := by
    intro k
    induction k with
    | zero => intro _; exact sumTo_zero N
    | succ k ih =>
      intro hk
      rw [sumL_take _ k (by rw [List.length_map]; omega), ← ih (by omega), List.getElem_map, ← gain_sum, ← sumTo_add]
      exact sumTo_congr N fun p _ => by rw [recs_take N l k (by omega), upd_pt]
  have := key l.length (Nat.le_refl _)
  rw [List.take_length] at this
  rw [this, tot]
  congr 1
  exact List.take_of_length_le (by rw [List.length_map]; exact Nat.le_refl _)
/-- What the numbers of a record have to do with one another. -/
def Fits (x : St) : Prop := x.pt = 3 * x.wi + x.dw + 3 * x.by_ ∧ (x.opp.length : Int) = x.wi + x.lo + x.dw
theorem recs_fits (n : Int) (l : List Rs) (p : Int) : Fits (recs n l p) := by
  have hr : ∀ (x : St) (o won lost : Int), Fits x → Fits (recd x o won lost) := fun x o won lost h => by
    obtain ⟨h1, h2⟩ := h
    have hl : ((x.opp ++ [o]).length : Int) = x.opp.length + 1 := by rw [List.length_append, List.length_singleton]; rfl
    unfold recd
    split
    · exact ⟨by show x.pt + 3 = 3 * (x.wi + 1) + x.dw + 3 * x.by_; omega, by show ((x.opp ++ [o]).length : Int) = x.wi + 1 + x.lo + x.dw; omega⟩
    · split
      · exact ⟨by show x.pt + 1 = 3 * x.wi + (x.dw + 1) + 3 * x.by_; omega, by show ((x.opp ++ [o]).length : Int) = x.wi + x.lo + (x.dw + 1); omega⟩
      · exact ⟨h1, by show ((x.opp ++ [o]).length : Int) = x.wi + (x.lo + 1) + x.dw; omega⟩
  have key : ∀ (l : List Rs) (x : St), Fits x → Fits (l.foldl (upd n p) x) := by
    intro l
    induction l with
    | nil => intro x h; exact h
    | cons r l ih =>
      intro x h
      refine ih _ ?_
      unfold upd
      split
      · split
        · obtain ⟨h1, h2⟩ := h
          exact ⟨by show x.pt + 3 = 3 * x.wi + x.dw + 3 * (x.by_ + 1); omega, h2⟩
        · split <;> exact hr _ _ _ _ h
      · exact h
  exact key l (st0 p) ⟨rfl, rfl⟩
theorem gainAll_bound (n : Int) (r : Rs) : 0 ≤ gainAll n r ∧ gainAll n r ≤ 3 := by
  unfold gainAll
  split
  · split
    · omega
    · split <;> omega
  · omega
end Go.Proofs.Ytfjnnbhijajhoaa
