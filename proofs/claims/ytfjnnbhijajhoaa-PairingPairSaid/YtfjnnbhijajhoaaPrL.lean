/- Chapter 56, plain: the pairs of the next round as a function on lists. -/
import Derived.Test.YtfjnnbhijajhoaaPrI
namespace Go.Proofs.Ytfjnnbhijajhoaa
open Go Go.RowKit Go.Sort Go.Shelf Cg
/-- The last record without a bye. -/
def lastFree : List St → Option Nat
  | [] => none
  | x :: r => match lastFree r with
    | some i => some (i + 1)
    | none => if x.by_ = 0 then some 0 else none
/-- The index of the player who gets a bye. -/
def restI (s : List St) : Nat := (lastFree s).getD (s.length - 1)
theorem lastFree_none : ∀ (s : List St), (∀ j (h : j < s.length), s[j].by_ ≠ 0) → lastFree s = none
  | [], _ => rfl
  | x :: r, h => by
    have ih := lastFree_none r (fun j hj => h (j + 1) (Nat.succ_lt_succ hj))
    have h0 := h 0 (Nat.succ_pos _)
    rw [List.getElem_cons_zero] at h0
    simp only [lastFree, ih, if_neg h0]
theorem lastFree_some : ∀ (s : List St) (i : Nat) (hi : i < s.length), s[i].by_ = 0 → (∀ j (h : j < s.length), i < j → s[j].by_ ≠ 0) → lastFree s = some i
  | x :: r, 0, _, h0, h => by
    have ih := lastFree_none r (fun j hj => h (j + 1) (Nat.succ_lt_succ hj) (Nat.succ_pos _))
    rw [List.getElem_cons_zero] at h0
    simp only [lastFree, ih, if_pos h0]
  | x :: r, i + 1, hi, h0, h => by
    have ih := lastFree_some r i (Nat.lt_of_succ_lt_succ hi) h0 (fun j hj hij => h (j + 1) (Nat.succ_lt_succ hj) (Nat.succ_lt_succ hij))
    simp only [lastFree, ih]
theorem lastFree_lt : ∀ (s : List St) (i : Nat), lastFree s = some i → i < s.length
  | x :: r, i, h => by
    rw [lastFree] at h
    cases e : lastFree r with
    | some j =>
      rw [e] at h
      cases h
      exact Nat.succ_lt_succ (lastFree_lt r j e)
    | none =>
      rw [e] at h
      by_cases hx : x.by_ = 0
      · rw [if_pos hx] at h
        cases h
        exact Nat.succ_pos _
      · rw [if_neg hx] at h
        cases h
theorem restI_lt (s : List St) (h : 0 < s.length) : restI s < s.length := by
  unfold restI
  cases e : lastFree s with
  | none => show s.length - 1 < s.length; omega
  | some i => exact lastFree_lt s i e
/-- The first one not met yet, else the first. -/
def pick (l : List Rs) (a : Int) (xs : List Int) : Nat := (xs.findIdx? fun b => !plays l a b).getD 0
theorem pick_lt (l : List Rs) (a : Int) (xs : List Int) (h : 0 < xs.length) : pick l a xs < xs.length := by
  unfold pick
  cases e : xs.findIdx? fun b => !plays l a b with
  | none => exact h
  | some i =>
    have := List.findIdx?_eq_some_iff_getElem.1 e
    exact this.1
def pairUp (l : List Rs) : Nat → List Int → List (Int × Int)
  | k + 1, a :: b :: r => (a, ((b :: r)[pick l a (b :: r)]?).getD 0) :: pairUp l k ((b :: r).eraseIdx (pick l a (b :: r)))
  | _, _ => []
theorem erase_len (l : List Rs) (a b : Int) (r : List Int) : ((b :: r).eraseIdx (pick l a (b :: r))).length = r.length := by
  rw [List.length_eraseIdx_of_lt (pick_lt l a (b :: r) (Nat.succ_pos _)), List.length_cons]
  rfl
theorem get_erase_perm {α : Type} : ∀ (xs : List α) (i : Nat) (h : i < xs.length), (xs[i] :: xs.eraseIdx i).Perm xs
  | x :: xs, 0, _ => .refl _
  | x :: xs, i + 1, h => by
    rw [List.getElem_cons_succ, List.eraseIdx_cons_succ]
    exact .trans (.swap _ _ _) (.cons x (get_erase_perm xs i (Nat.lt_of_succ_lt_succ h)))
theorem pairUp_fuel (l : List Rs) : ∀ (k m : Nat) (xs : List Int), xs.length ≤ k → xs.length ≤ m → pairUp l k xs = pairUp l m xs
  | 0, m, xs, h, _ => by
    obtain rfl := List.eq_nil_of_length_eq_zero (Nat.le_zero.1 h)
    cases m <;> rfl
  | k + 1, 0, xs, _, h => by
    obtain rfl := List.eq_nil_of_length_eq_zero (Nat.le_zero.1 h)
    rfl
  | k + 1, m + 1, [], _, _ => rfl
  | k + 1, m + 1, [_], _, _ => rfl
  | k + 1, m + 1, a :: b :: r, h1, h2 => by
    rw [List.length_cons, List.length_cons] at h1 h2
    rw [pairUp, pairUp, pairUp_fuel l k m _ (by rw [erase_len]; omega) (by rw [erase_len]; omega)]
def pairs (l : List Rs) (xs : List Int) : List (Int × Int) := pairUp l xs.length xs
theorem pairs_nil (l : List Rs) : pairs l [] = [] := rfl
theorem pairs_one (l : List Rs) (a : Int) : pairs l [a] = [] := rfl
theorem pairs_short (l : List Rs) (xs : List Int) (h : xs.length ≤ 1) : pairs l xs = [] := by
  match xs, h with
  | [], _ => rfl
  | [_], _ => rfl
theorem pairs_cons (l : List Rs) (a b : Int) (r : List Int) : pairs l (a :: b :: r) = (a, ((b :: r)[pick l a (b :: r)]?).getD 0) :: pairs l ((b :: r).eraseIdx (pick l a (b :: r))) := by
  unfold pairs
  rw [List.length_cons, List.length_cons, pairUp, pairUp_fuel l (r.length + 1) _ _ (by rw [erase_len]; omega) (Nat.le_refl _)]
/-- One step, by index. -/
theorem pairs_step (l : List Rs) (xs : List Int) (h : 1 < xs.length) (i : Nat) (hi : i < xs.length) (hp : i = pick l xs[0] (xs.drop 1) + 1) : pairs l xs = (xs[0], xs[i]) :: pairs l ((xs.eraseIdx i).drop 1) := by
  match xs, h with
  | a :: b :: r, _ =>
    simp only [List.getElem_cons_zero, List.drop_succ_cons, List.drop_zero] at hp
    subst hp
    rw [pairs_cons, List.getElem?_eq_getElem (pick_lt l a (b :: r) (Nat.succ_pos _)), Option.getD_some]
    rfl
def rsPair (p : Int × Int) : Rs := ⟨p.1, p.2, 0, 0, 0⟩
/-- The pairs of the next round out of the standings. -/
def pairOut (l : List Rs) (s : List St) : List Rs :=
  if s.length % 2 = 1 then (pairs l ((s.eraseIdx (restI s)).map (·.pl))).map rsPair ++ [⟨((s[restI s]?).getD default).pl, -1, 0, 0, 0⟩]
  else (pairs l (s.map (·.pl))).map rsPair
theorem pairs_len (l : List Rs) : ∀ (n : Nat) (xs : List Int), xs.length ≤ n → (pairs l xs).length = xs.length / 2
  | 0, xs, h => by
    obtain rfl := List.eq_nil_of_length_eq_zero (Nat.le_zero.1 h)
    rfl
  | n + 1, [], _ => rfl
  | n + 1, [a], _ => by rw [pairs_one]; simp
  | n + 1, a :: b :: r, h => by
    rw [List.length_cons, List.length_cons] at h
    rw [pairs_cons, List.length_cons, pairs_len l n _ (by rw [erase_len]; omega), erase_len, List.length_cons, List.length_cons]
    omega
/-- Who stands in the pairs: everybody, but for one who is left over. -/
def inPairs (ps : List (Int × Int)) : List Int := ps.flatMap fun p => [p.1, p.2]
theorem pairs_perm (l : List Rs) : ∀ (n : Nat) (xs : List Int), xs.length ≤ n → xs.length % 2 = 0 → (inPairs (pairs l xs)).Perm xs
  | 0, xs, h, _ => by
    obtain rfl := List.eq_nil_of_length_eq_zero (Nat.le_zero.1 h)
    exact .refl _
  | n + 1, [], _, _ => .refl _
  | n + 1, [_], _, h => by simp at h
  | n + 1, a :: b :: r, h, h2 => by
    rw [List.length_cons, List.length_cons] at h h2
    have hp := pick_lt l a (b :: r) (Nat.succ_pos _)
    rw [pairs_cons, List.getElem?_eq_getElem hp, Option.getD_some]
    have ih := pairs_perm l n ((b :: r).eraseIdx (pick l a (b :: r))) (by rw [erase_len]; omega) (by rw [erase_len]; omega)
    show (a :: (b :: r)[pick l a (b :: r)] :: inPairs _).Perm _
    refine .cons a (.trans (.cons _ ih) ?_)
    exact get_erase_perm _ _ hp
end Go.Proofs.Ytfjnnbhijajhoaa
