/- Plain definitions for chapter 56 (pairings): results, records, what one result does to a record, the order of the standings; no program in sight. -/
import Derived.Test.YtfjnnbhijajhoaaBase
import Derived.Sort.Statements
namespace Go.Proofs.Ytfjnnbhijajhoaa
open Go Go.RowKit Cg
/-- A result. -/
structure Rs where
  a : Int
  b : Int
  wa : Int
  wb : Int
  dr : Int
deriving DecidableEq, Inhabited
/-- A record. -/
structure St where
  pl : Int
  pt : Int
  wi : Int
  lo : Int
  dw : Int
  by_ : Int
  opp : List Int
  tie : Int
deriving DecidableEq, Inhabited
def cnts (n : Int) (r : Rs) : Bool := decide (0 ≤ r.a) && decide (r.a < n) && decide (-1 ≤ r.b) && decide (r.b < n) && !(r.a == r.b)
/-- A match against an opponent, added to a record. -/
def recd (x : St) (o won lost : Int) : St :=
  if lost < won then { x with opp := x.opp ++ [o], wi := x.wi + 1, pt := x.pt + 3 }
  else if won = lost then { x with opp := x.opp ++ [o], dw := x.dw + 1, pt := x.pt + 1 }
  else { x with opp := x.opp ++ [o], lo := x.lo + 1 }
/-- What a result does to the record of player p. -/
def upd (n p : Int) (x : St) (r : Rs) : St :=
  if cnts n r = true ∧ (r.a = p ∨ r.b = p) then
    if r.b = -1 then { x with by_ := x.by_ + 1, pt := x.pt + 3 }
    else if r.b = p then recd x r.a r.wb r.wa else recd x r.b r.wa r.wb
  else x
def st0 (p : Int) : St := ⟨p, 0, 0, 0, 0, 0, [], 0⟩
def recs (n : Int) (l : List Rs) (p : Int) : St := l.foldl (upd n p) (st0 p)
theorem recs_snoc (n : Int) (l : List Rs) (r : Rs) (p : Int) : recs n (l ++ [r]) p = upd n p (recs n l p) r := by unfold recs; rw [List.foldl_append]; rfl
theorem recs_take (n : Int) (l : List Rs) (k : Nat) (h : k < l.length) (p : Int) : recs n (l.take (k + 1)) p = upd n p (recs n (l.take k) p) l[k] := by
  rw [List.take_succ_eq_append_getElem h, recs_snoc]
/-- How large the numbers of a record may be after k results; whom it names. -/
structure StOk (n : Int) (k : Nat) (p : Int) (x : St) : Prop where
  pl : x.pl = p
  pt : 0 ≤ x.pt ∧ x.pt ≤ 3 * k
  wi : 0 ≤ x.wi ∧ x.wi ≤ k
  lo : 0 ≤ x.lo ∧ x.lo ≤ k
  dw : 0 ≤ x.dw ∧ x.dw ≤ k
  by_ : 0 ≤ x.by_ ∧ x.by_ ≤ k
  opl : x.opp.length ≤ k
  opp : ∀ q ∈ x.opp, 0 ≤ q ∧ q < n
  tie : x.tie = 0
theorem StOk.init (n p : Int) : StOk n 0 p (st0 p) := ⟨rfl, ⟨by simp [st0], by simp [st0]⟩, ⟨by simp [st0], by simp [st0]⟩, ⟨by simp [st0], by simp [st0]⟩, ⟨by simp [st0], by simp [st0]⟩, ⟨by simp [st0], by simp [st0]⟩, by simp [st0], fun q h => by simp [st0] at h, rfl⟩
theorem StOk.up {n : Int} {k m : Nat} {p : Int} {x : St} (h : StOk n k p x) (hm : k ≤ m) : StOk n m p x := by
  obtain ⟨h1, h2, h3, h4, h5, h6, h7, h8, h9⟩ := h
  exact ⟨h1, ⟨h2.1, by omega⟩, ⟨h3.1, by omega⟩, ⟨h4.1, by omega⟩, ⟨h5.1, by omega⟩, ⟨h6.1, by omega⟩, by omega, h8, h9⟩
theorem StOk.recd {n : Int} {k : Nat} {p : Int} {x : St} (h : StOk n k p x) (o won lost : Int) (ho : 0 ≤ o ∧ o < n) : StOk n (k + 1) p (recd x o won lost) := by
  obtain ⟨h1, h2, h3, h4, h5, h6, h7, h8, h9⟩ := h
  have hq : ∀ q ∈ x.opp ++ [o], 0 ≤ q ∧ q < n := fun q hq => by
    rcases List.mem_append.1 hq with hq | hq
    · exact h8 q hq
    · rw [List.mem_singleton.1 hq]; exact ho
  have hl : (x.opp ++ [o]).length ≤ k + 1 := by rw [List.length_append, List.length_singleton]; omega
  unfold Go.Proofs.Ytfjnnbhijajhoaa.recd
  split
  · exact ⟨h1, ⟨by show 0 ≤ x.pt + 3; omega, by show x.pt + 3 ≤ _; omega⟩, ⟨by show 0 ≤ x.wi + 1; omega, by show x.wi + 1 ≤ _; omega⟩, ⟨h4.1, by show x.lo ≤ _; omega⟩, ⟨h5.1, by show x.dw ≤ _; omega⟩, ⟨h6.1, by show x.by_ ≤ _; omega⟩, hl, hq, h9⟩
  · split
    · exact ⟨h1, ⟨by show 0 ≤ x.pt + 1; omega, by show x.pt + 1 ≤ _; omega⟩, ⟨h3.1, by show x.wi ≤ _; omega⟩, ⟨h4.1, by show x.lo ≤ _; omega⟩, ⟨by show 0 ≤ x.dw + 1; omega, by show x.dw + 1 ≤ _; omega⟩, ⟨h6.1, by show x.by_ ≤ _; omega⟩, hl, hq, h9⟩
    · exact ⟨h1, ⟨h2.1, by show x.pt ≤ _; omega⟩, ⟨h3.1, by show x.wi ≤ _; omega⟩, ⟨by show 0 ≤ x.lo + 1; omega, by show x.lo + 1 ≤ _; omega⟩, ⟨h5.1, by show x.dw ≤ _; omega⟩, ⟨h6.1, by show x.by_ ≤ _; omega⟩, hl, hq, h9⟩
theorem cnts_iff (n : Int) (r : Rs) : cnts n r = true ↔ 0 ≤ r.a ∧ r.a < n ∧ -1 ≤ r.b ∧ r.b < n ∧ r.a ≠ r.b := by
  unfold cnts
  simp [and_assoc]
theorem StOk.upd {n : Int} {k : Nat} {p : Int} {x : St} (h : StOk n k p x) (r : Rs) : StOk n (k + 1) p (upd n p x r) := by
  unfold Go.Proofs.Ytfjnnbhijajhoaa.upd
  split
  · rename_i hc
    have hn := (cnts_iff n r).1 hc.1
    split
    · obtain ⟨h1, h2, h3, h4, h5, h6, h7, h8, h9⟩ := h
      exact ⟨h1, ⟨by show 0 ≤ x.pt + 3; omega, by show x.pt + 3 ≤ _; omega⟩, ⟨h3.1, by show x.wi ≤ _; omega⟩, ⟨h4.1, by show x.lo ≤ _; omega⟩, ⟨h5.1, by show x.dw ≤ _; omega⟩, ⟨by show 0 ≤ x.by_ + 1; omega, by show x.by_ + 1 ≤ _; omega⟩, by show x.opp.length ≤ _; omega, h8, h9⟩
    · split
      · exact h.recd _ _ _ ⟨hn.1, hn.2.1⟩
      · exact h.recd _ _ _ ⟨by omega, hn.2.2.2.1⟩
  · exact h.up (Nat.le_succ k)
theorem recs_ok (n : Int) (p : Int) : ∀ (l : List Rs), StOk n l.length p (recs n l p) := by
  intro l
  have key : ∀ (l : List Rs) (k : Nat) (x : St), StOk n k p x → StOk n (k + l.length) p (l.foldl (upd n p) x) := by
    intro l
    induction l with
    | nil => intro k x h; exact h
    | cons r l ih =>
      intro k x h
      have := ih (k + 1) _ (h.upd r)
      rw [List.foldl_cons, List.length_cons]
      rwa [show k + (l.length + 1) = k + 1 + l.length by omega]
  have := key l 0 (st0 p) (StOk.init n p)
  rwa [Nat.zero_add] at this
/-- The points of the opponents. -/
def tieUp (f : Int → Int) : List Int → Int
  | [] => 0
  | q :: l => f q + tieUp f l
theorem tieUp_snoc (f : Int → Int) (l : List Int) (q : Int) : tieUp f (l ++ [q]) = tieUp f l + f q := by
  induction l with
  | nil => simp [tieUp]
  | cons x l ih => rw [List.cons_append, tieUp, ih, tieUp]; omega
theorem tieUp_bound (f : Int → Int) (m : Int) (hm : 0 ≤ m) : ∀ l : List Int, (∀ q ∈ l, 0 ≤ f q ∧ f q ≤ m) → 0 ≤ tieUp f l ∧ tieUp f l ≤ m * l.length
  | [], _ => by simp [tieUp]
  | q :: l, h => by
    have h1 := h q List.mem_cons_self
    have h2 := tieUp_bound f m hm l (fun q hq => h q (List.mem_cons_of_mem _ hq))
    rw [tieUp, List.length_cons]
    refine ⟨by omega, ?_⟩
    have : m * ((l.length + 1 : Nat) : Int) = m * l.length + m := by rw [Int.natCast_add, Int.mul_add]; simp
    omega
def recT (n : Int) (l : List Rs) (p : Int) : St := { recs n l p with tie := tieUp (fun q => (recs n l q).pt) (recs n l p).opp }
/-- The order of the standings. -/
def better (a b : St) : Bool := decide (b.pt < a.pt ∨ b.pt = a.pt ∧ (b.tie < a.tie ∨ b.tie = a.tie ∧ a.pl < b.pl))
end Go.Proofs.Ytfjnnbhijajhoaa
