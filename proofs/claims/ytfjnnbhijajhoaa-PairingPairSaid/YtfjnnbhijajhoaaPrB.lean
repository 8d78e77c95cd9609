/- Chapter 56: results and records as values; counts, cmp.Compare, cmp.Or, better, before, clamp. -/
import Derived.Test.YtfjnnbhijajhoaaProg
import Derived.Test.YtfjnnbhijajhoaaPrA
import Derived.Test.YtfjnnbhijajhoaaRowK
import Derived.WalkLawsBesides
import Derived.WalkSpells
import Derived.WalkSmall
import Derived.BigQuiet
import Derived.Deep.QuietTactic
import Derived.Deep.RegionHeld3
namespace Go.Proofs.Ytfjnnbhijajhoaa
open Go Go.RowKit Go.Sort Cg
abbrev rsV (a b wa wb dr : Int) : Value := .agg #[.int .i64 a, .int .i64 b, .int .i64 wa, .int .i64 wb, .int .i64 dr]
def encR (r : Rs) : List Value := [.int .i64 r.a, .int .i64 r.b, .int .i64 r.wa, .int .i64 r.wb, .int .i64 r.dr]
abbrev stV (x : St) (v : Value) : Value := .agg #[.int .i64 x.pl, .int .i64 x.pt, .int .i64 x.wi, .int .i64 x.lo, .int .i64 x.dw, .int .i64 x.by_, v, .int .i64 x.tie]
def encS (x : St × Value) : List Value := [.int .i64 x.1.pl, .int .i64 x.1.pt, .int .i64 x.1.wi, .int .i64 x.1.lo, .int .i64 x.1.dw, .int .i64 x.1.by_, x.2, .int .i64 x.1.tie]
theorem encR_len (r : Rs) : (encR r).length = 5 := rfl
theorem encS_len (x : St × Value) : (encS x).length = 8 := rfl
theorem five_new (w : World) (a b c d e : Value) (t : TypeId) : ∃ wx, wx = w.alloc (.cells #[a, b, c, d, e] t) ∧ Below w.heap.size w wx ∧ wx.cell? ⟨w.heap.size, 0, none⟩ = some a ∧ wx.cell? ⟨w.heap.size, 1, none⟩ = some b ∧ wx.cell? ⟨w.heap.size, 2, none⟩ = some c ∧ wx.cell? ⟨w.heap.size, 3, none⟩ = some d ∧ wx.cell? ⟨w.heap.size, 4, none⟩ = some e :=
  ⟨_, rfl, (Below.refl w.heap.size w).alloc (Nat.le_refl _) _, cell_of_row _ _ 0 _ _ _ (heap_alloc_new w _), cell_of_row _ _ 1 _ _ _ (heap_alloc_new w _), cell_of_row _ _ 2 _ _ _ (heap_alloc_new w _), cell_of_row _ _ 3 _ _ _ (heap_alloc_new w _), cell_of_row _ _ 4 _ _ _ (heap_alloc_new w _)⟩
theorem counts_prog (n a b wa wb dr : Int) (w : World) : Calls Try.prog 20 #[.int .i64 n, rsV a b wa wb dr] w fun e w' => e = .returned (.bool (cnts n ⟨a, b, wa, wb, dr⟩)) ∧ Below w.heap.size w w' := by
  have bx := Lib.hid ((Below.refl w.heap.size w).alloc (Nat.le_refl _) (.cells #[.int .i64 a, .int .i64 b, .int .i64 wa, .int .i64 wb, .int .i64 dr] 31))
  have HC := Lib.hid (show cnts n ⟨a, b, wa, wb, dr⟩ = (decide (0 ≤ a) && decide (a < n) && decide (-1 ≤ b) && decide (b < n) && !(a == b)) from rfl)
  by_cases h0 : 0 ≤ a
  · have d0 : decide (0 ≤ a) = true := decide_eq_true h0
    by_cases h1 : a < n
    · have d1 : decide (a < n) = true := decide_eq_true h1
      by_cases h2 : -1 ≤ b
      · have d2 : decide (-1 ≤ b) = true := decide_eq_true h2
        by_cases h3 : b < n
        · have d3 : decide (b < n) = true := decide_eq_true h3
          by_cases h4 : a = b
          · have d4 : (a == b) = true := beq_iff_eq.2 h4
            have d5 : (a != b) = false := by rw [bne, d4]; rfl
            have HE := Lib.hid (show cnts n ⟨a, b, wa, wb, dr⟩ = false by rw [HC.out, d4, Bool.not_true, Bool.and_false])
            clear h4
            go_enter Try.func20, Try.ntmps20
            go_wp2_with fail
            go_ret
            exact ⟨by rw [HE.out] <;> rfl, bx.out⟩
          · have d4 : (a == b) = false := beq_eq_false_iff_ne.2 h4
            have d5 : (a != b) = true := by rw [bne, d4]; rfl
            have HE := Lib.hid (show cnts n ⟨a, b, wa, wb, dr⟩ = true by rw [HC.out, d0, d1, d2, d3, d4]; rfl)
            go_enter Try.func20, Try.ntmps20
            go_wp2_with fail
            go_ret
            exact ⟨by rw [HE.out] <;> rfl, bx.out⟩
        · have d3 : decide (b < n) = false := decide_eq_false h3
          have HE := Lib.hid (show cnts n ⟨a, b, wa, wb, dr⟩ = false by rw [HC.out, d3]; simp)
          go_enter Try.func20, Try.ntmps20
          go_wp2_with fail
          go_ret
          exact ⟨by rw [HE.out] <;> rfl, bx.out⟩
      · have d2 : decide (-1 ≤ b) = false := decide_eq_false h2
        have HE := Lib.hid (show cnts n ⟨a, b, wa, wb, dr⟩ = false by rw [HC.out, d2]; simp)
        go_enter Try.func20, Try.ntmps20
        go_wp2_with fail
        go_ret
        exact ⟨by rw [HE.out] <;> rfl, bx.out⟩
    · have d1 : decide (a < n) = false := decide_eq_false h1
      have HE := Lib.hid (show cnts n ⟨a, b, wa, wb, dr⟩ = false by rw [HC.out, d1]; simp)
      go_enter Try.func20, Try.ntmps20
      go_wp2_with fail
      go_ret
      exact ⟨by rw [HE.out] <;> rfl, bx.out⟩
  · have d0 : decide (0 ≤ a) = false := decide_eq_false h0
    have HE := Lib.hid (show cnts n ⟨a, b, wa, wb, dr⟩ = false by rw [HC.out, d0]; simp)
    go_enter Try.func20, Try.ntmps20
    go_wp2_with fail
    go_ret
    exact ⟨by rw [HE.out] <;> rfl, bx.out⟩
theorem counts_ref (n a b wa wb dr : Int) (w : World) : Calls Try.prog 38 #[.int .i64 n, rsV a b wa wb dr] w fun e w' => e = .returned (.bool (cnts n ⟨a, b, wa, wb, dr⟩)) ∧ Below w.heap.size w w' := by
  have bx := Lib.hid ((Below.refl w.heap.size w).alloc (Nat.le_refl _) (.cells #[.int .i64 a, .int .i64 b, .int .i64 wa, .int .i64 wb, .int .i64 dr] 31))
  have HC := Lib.hid (show cnts n ⟨a, b, wa, wb, dr⟩ = (decide (0 ≤ a) && decide (a < n) && decide (-1 ≤ b) && decide (b < n) && !(a == b)) from rfl)
  by_cases h0 : 0 ≤ a
  · have d0 : decide (0 ≤ a) = true := decide_eq_true h0
    by_cases h1 : a < n
    · have d1 : decide (a < n) = true := decide_eq_true h1
      by_cases h2 : -1 ≤ b
      · have d2 : decide (-1 ≤ b) = true := decide_eq_true h2
        by_cases h3 : b < n
        · have d3 : decide (b < n) = true := decide_eq_true h3
          by_cases h4 : a = b
          · have d4 : (a == b) = true := beq_iff_eq.2 h4
            have d5 : (a != b) = false := by rw [bne, d4]; rfl
            have HE := Lib.hid (show cnts n ⟨a, b, wa, wb, dr⟩ = false by rw [HC.out, d4, Bool.not_true, Bool.and_false])
            clear h4
            go_enter Try.func38, Try.ntmps38
            go_wp2_with fail
            go_ret
            exact ⟨by rw [HE.out] <;> rfl, bx.out⟩
          · have d4 : (a == b) = false := beq_eq_false_iff_ne.2 h4
            have d5 : (a != b) = true := by rw [bne, d4]; rfl
            have HE := Lib.hid (show cnts n ⟨a, b, wa, wb, dr⟩ = true by rw [HC.out, d0, d1, d2, d3, d4]; rfl)
            go_enter Try.func38, Try.ntmps38
            go_wp2_with fail
            go_ret
            exact ⟨by rw [HE.out] <;> rfl, bx.out⟩
        · have d3 : decide (b < n) = false := decide_eq_false h3
          have HE := Lib.hid (show cnts n ⟨a, b, wa, wb, dr⟩ = false by rw [HC.out, d3]; simp)
          go_enter Try.func38, Try.ntmps38
          go_wp2_with fail
          go_ret
          exact ⟨by rw [HE.out] <;> rfl, bx.out⟩
      · have d2 : decide (-1 ≤ b) = false := decide_eq_false h2
        have HE := Lib.hid (show cnts n ⟨a, b, wa, wb, dr⟩ = false by rw [HC.out, d2]; simp)
        go_enter Try.func38, Try.ntmps38
        go_wp2_with fail
        go_ret
        exact ⟨by rw [HE.out] <;> rfl, bx.out⟩
    · have d1 : decide (a < n) = false := decide_eq_false h1
      have HE := Lib.hid (show cnts n ⟨a, b, wa, wb, dr⟩ = false by rw [HC.out, d1]; simp)
      go_enter Try.func38, Try.ntmps38
      go_wp2_with fail
      go_ret
      exact ⟨by rw [HE.out] <;> rfl, bx.out⟩
  · have d0 : decide (0 ≤ a) = false := decide_eq_false h0
    have HE := Lib.hid (show cnts n ⟨a, b, wa, wb, dr⟩ = false by rw [HC.out, d0]; simp)
    go_enter Try.func38, Try.ntmps38
    go_wp2_with fail
    go_ret
    exact ⟨by rw [HE.out] <;> rfl, bx.out⟩
def cmpI (x y : Int) : Int := if x < y then -1 else if y < x then 1 else 0
theorem isNaN_any (x : Int) (w : World) : Calls Try.prog 40 #[.int .i64 x] w fun e w' => e = .returned (.bool false) ∧ w = w' := by
  have d : (x != x) = false := by simp
  go_enter Try.func40, Try.ntmps40
  go_wp2_with fail
  go_ret
  exact ⟨rfl, rfl⟩
theorem compare_any (x y : Int) (w : World) : Calls Try.prog 35 #[.int .i64 x, .int .i64 y] w fun e w' => e = .returned (.int .i64 (cmpI x y)) ∧ w = w' := by
  by_cases h1 : x < y
  · have d1 : decide (x < y) = true := decide_eq_true h1
    have HE := Lib.hid (show cmpI x y = -1 by rw [cmpI, if_pos h1])
    go_enter Try.func35, Try.ntmps35
    go_wp2_with (go_at_call 40; refine (isNaN_any _ _).mono ?_; rintro e w' ⟨rfl, rfl⟩)
    go_ret
    exact ⟨by rw [HE.out] <;> rfl, rfl⟩
  · have d1 : decide (x < y) = false := decide_eq_false h1
    by_cases h2 : y < x
    · have d2 : decide (y < x) = true := decide_eq_true h2
      have HE := Lib.hid (show cmpI x y = 1 by rw [cmpI, if_neg h1, if_pos h2])
      go_enter Try.func35, Try.ntmps35
      go_wp2_with (go_at_call 40; refine (isNaN_any _ _).mono ?_; rintro e w' ⟨rfl, rfl⟩)
      go_ret
      exact ⟨by rw [HE.out] <;> rfl, rfl⟩
    · have d2 : decide (y < x) = false := decide_eq_false h2
      have HE := Lib.hid (show cmpI x y = 0 by rw [cmpI, if_neg h1, if_neg h2])
      go_enter Try.func35, Try.ntmps35
      go_wp2_with (go_at_call 40; refine (isNaN_any _ _).mono ?_; rintro e w' ⟨rfl, rfl⟩)
      go_ret
      exact ⟨by rw [HE.out] <;> rfl, rfl⟩
/-- The first that is not 0. -/
def orI : List Int → Int
  | [] => 0
  | x :: l => if x = 0 then orI l else x
theorem orI_miss (xs : List Int) : ∀ k, (∀ j, j < k → xs.getD j 0 = 0) → orI xs = orI (xs.drop k) := by
  induction xs with
  | nil => intro k _; simp
  | cons x xs ih =>
    intro k h
    cases k with
    | zero => rfl
    | succ k =>
      rw [List.drop_succ_cons, orI, if_pos (by simpa using h 0 (by omega))]
      exact ih k (fun j hj => by simpa using h (j + 1) (by omega))
theorem orI_hit (xs : List Int) (k : Nat) (hk : k < xs.length) (h : ∀ j, j < k → xs.getD j 0 = 0) (hx : ¬ xs.getD k 0 = 0) : orI xs = xs.getD k 0 := by
  have e : xs.getD k 0 = xs[k] := by rw [List.getD_eq_getElem?_getD, List.getElem?_eq_getElem hk]; rfl
  rw [e] at hx ⊢
  rw [orI_miss xs k h, List.drop_eq_getElem_cons hk, orI, if_neg hx]
theorem or_any (v : Value) (xs : List Int) (w : World) (h : RowAt (Value.int .i64) w v xs) (hn : xs.length ≤ 1000) : Calls Try.prog 34 #[v] w fun e w' => e = .returned (.int .i64 (orI xs)) ∧ w = w' := by
  obtain ⟨ao, cap, rfl, _, hx⟩ := h
  have HX := Lib.hid hx
  clear hx
  go_enter Try.func34, Try.ntmps34
  go_wp2_with fail
  go_loop [8] (fun i => ∃ k : Nat, k ≤ xs.length ∧ i = .int .i64 k ∧ Hid (∀ j, j < k → xs.getD j 0 = 0)) (fun i => xs.length - (intOf i).toNat)
  case atStart => exact ⟨0, by omega, rfl, Lib.hid fun j hj => by omega⟩
  case round =>
    obtain ⟨k, hk, rfl, HK⟩ := hrel
    by_cases hlt : k < xs.length
    · rcases HX.out with hh | ⟨g, o, rfl, hg, hcell⟩
      · rw [hh] at hlt; simp at hlt
      have q := cells_getD 0 hcell k hlt
      obtain ⟨x, hx⟩ : ∃ x, x = xs.getD k 0 := ⟨_, rfl⟩
      rw [← hx] at q
      have HXE := Lib.hid hx
      clear hcell hx
      by_cases h0 : x = 0
      · subst h0
        go_wp2_with fail
        go_round
        case rel => exact ⟨k + 1, by omega, by go_num, Lib.hid fun j hj => by
          by_cases e : j = k
          · rw [e, ← HXE.out]
          · exact HK.out j (by omega)⟩
        case measure => simp [intOf]; omega
      · have HE := Lib.hid (show orI xs = x by rw [orI_hit xs k hlt HK.out (by rw [← HXE.out]; exact h0), ← HXE.out])
        have d0 : (x != 0) = true := by simpa using h0
        clear h0
        go_wp2_with fail
        go_ret
        exact ⟨by rw [HE.out] <;> rfl, rfl⟩
    · obtain rfl : k = xs.length := by omega
      have HE := Lib.hid (show orI xs = 0 by rw [orI_miss xs xs.length HK.out, List.drop_length]; rfl)
      go_wp2_with fail
      go_ret
      exact ⟨by rw [HE.out] <;> rfl, rfl⟩
/-- How the standings are compared. -/
def cfS (x y : St) : Int := orI [cmpI y.pt x.pt, cmpI y.tie x.tie, cmpI x.pl y.pl]
def BtS (B : Nat) (x y : St) (w' : World) : Prop :=
  w'.cell? ⟨B, 0, none⟩ = some (.int .i64 x.pl) ∧ w'.cell? ⟨B, 1, none⟩ = some (.int .i64 x.pt) ∧ w'.cell? ⟨B, 7, none⟩ = some (.int .i64 x.tie) ∧ w'.cell? ⟨B + 1, 0, none⟩ = some (.int .i64 y.pl) ∧ w'.cell? ⟨B + 1, 1, none⟩ = some (.int .i64 y.pt) ∧ w'.cell? ⟨B + 1, 7, none⟩ = some (.int .i64 y.tie)
theorem BtS.step {B : Nat} {x y : St} {w w' : World} (h : BtS B x y w) (hb : Below w.heap.size w w') : BtS B x y w' := by
  obtain ⟨s1, s2, s3, s4, s5, s6⟩ := h
  have l1 := block_lt_of_cell s1
  have l2 := block_lt_of_cell s4
  exact ⟨(hb.cell (p := ⟨B, 0, none⟩) l1).trans s1, (hb.cell (p := ⟨B, 1, none⟩) l1).trans s2, (hb.cell (p := ⟨B, 7, none⟩) l1).trans s3, (hb.cell (p := ⟨B + 1, 0, none⟩) l2).trans s4, (hb.cell (p := ⟨B + 1, 1, none⟩) l2).trans s5, (hb.cell (p := ⟨B + 1, 7, none⟩) l2).trans s6⟩
theorem BtS.mk2 {B : Nat} {x y : St} {v u : Value} {W : World} {t : TypeId} (l1 : W.heap[B]? = some (.cells #[.int .i64 x.pl, .int .i64 x.pt, .int .i64 x.wi, .int .i64 x.lo, .int .i64 x.dw, .int .i64 x.by_, v, .int .i64 x.tie] t (0, 0)))
    (l2 : W.heap[B + 1]? = some (.cells #[.int .i64 y.pl, .int .i64 y.pt, .int .i64 y.wi, .int .i64 y.lo, .int .i64 y.dw, .int .i64 y.by_, u, .int .i64 y.tie] t (0, 0))) : BtS B x y W.drew :=
  ⟨cell_of_row W.drew B 0 _ _ _ l1, cell_of_row W.drew B 1 _ _ _ l1, cell_of_row W.drew B 7 _ _ _ l1, cell_of_row W.drew (B + 1) 0 _ _ _ l2, cell_of_row W.drew (B + 1) 1 _ _ _ l2, cell_of_row W.drew (B + 1) 7 _ _ _ l2⟩
set_option maxRecDepth 100000 in
set_option maxHeartbeats 2000000 in
theorem better_any (x y : St) (v u : Value) (w : World) : Calls Try.prog 22 #[stV x v, stV y u] w fun e w' => e = .returned (.int .i64 (cfS x y)) ∧ ∃ q os, w' = grow (w.drewN q) os := by
  have HCF := Lib.hid (show cfS x y = orI [cmpI y.pt x.pt, cmpI y.tie x.tie, cmpI x.pl y.pl] from rfl)
  have l1 : ((w.alloc (.cells #[.int .i64 x.pl, .int .i64 x.pt, .int .i64 x.wi, .int .i64 x.lo, .int .i64 x.dw, .int .i64 x.by_, v, .int .i64 x.tie] 35)).alloc (.cells #[.int .i64 y.pl, .int .i64 y.pt, .int .i64 y.wi, .int .i64 y.lo, .int .i64 y.dw, .int .i64 y.by_, u, .int .i64 y.tie] 35)).heap[w.heap.size]? = some (.cells #[.int .i64 x.pl, .int .i64 x.pt, .int .i64 x.wi, .int .i64 x.lo, .int .i64 x.dw, .int .i64 x.by_, v, .int .i64 x.tie] 35 (0, 0)) := by
    show ((w.heap.push _).push _)[w.heap.size]? = _
    rw [Array.getElem?_push, if_neg (by simp), Array.getElem?_push, if_pos rfl]
  have l2 : ((w.alloc (.cells #[.int .i64 x.pl, .int .i64 x.pt, .int .i64 x.wi, .int .i64 x.lo, .int .i64 x.dw, .int .i64 x.by_, v, .int .i64 x.tie] 35)).alloc (.cells #[.int .i64 y.pl, .int .i64 y.pt, .int .i64 y.wi, .int .i64 y.lo, .int .i64 y.dw, .int .i64 y.by_, u, .int .i64 y.tie] 35)).heap[w.heap.size + 1]? = some (.cells #[.int .i64 y.pl, .int .i64 y.pt, .int .i64 y.wi, .int .i64 y.lo, .int .i64 y.dw, .int .i64 y.by_, u, .int .i64 y.tie] 35 (0, 0)) := by
    show ((w.heap.push _).push _)[w.heap.size + 1]? = _
    rw [Array.getElem?_push, if_pos (by simp)]
  have HS0 := Lib.hid (BtS.mk2 l1 l2)
  clear l1 l2
  go_enter Try.func22, Try.ntmps22
  go_wp2_with fail
  refine wp_region_noPanic ?_
  refine wp_region_held_drew (S := fun w' => BtS w.heap.size x y w') (by kernel_rfl) (HS0.out) (fun hHeld => ?_)
  obtain ⟨wy, hwy⟩ : ∃ wy, wy = (((w.alloc (.cells #[.int .i64 x.pl, .int .i64 x.pt, .int .i64 x.wi, .int .i64 x.lo, .int .i64 x.dw, .int .i64 x.by_, v, .int .i64 x.tie] 35)).alloc (.cells #[.int .i64 y.pl, .int .i64 y.pt, .int .i64 y.wi, .int .i64 y.lo, .int .i64 y.dw, .int .i64 y.by_, u, .int .i64 y.tie] 35)).drew) := ⟨_, rfl⟩
  rw [← hwy] at hHeld ⊢
  have HS := Lib.hid hHeld
  have HWY := Lib.hid hwy
  have hSt : ∀ wn, Below wy.heap.size wy wn → BtS w.heap.size x y wn := fun wn hb => HS.out.step hb
  clear hwy hHeld
  refine wpAnyH_take (i := 0) (oi := ?oiA0x) (v := ?vA0x) ?hiA0x (by kernel_rfl) (by kernel_rfl) (by kernel_rfl) ?hqA0x ?hyA0x (by assumption) ?restA0x
  case hiA0x => (simp only [List.getElem?_toArray, List.getElem?_cons_zero] <;> rfl)
  case hqA0x => exact fun _ _ _ h => h
  case hyA0x => exact Or.inl ⟨by rfl, by (intro wS hSw; obtain ⟨s1, s2, s3, s4, s5, s6⟩ := hSw; go_simp; try with_reducible rfl)⟩
  try simp only [Act.put, List.setIfInBounds_toArray, List.set_cons_zero, List.set_cons_succ]
  refine wpAnyH_take (i := 1) (oi := ?oiA1x) (v := ?vA1x) ?hiA1x (by kernel_rfl) (by kernel_rfl) (by kernel_rfl) ?hqA1x ?hyA1x (by assumption) ?restA1x
  case hiA1x => (simp only [List.getElem?_toArray, List.getElem?_cons_succ, List.getElem?_cons_zero] <;> rfl)
  case hqA1x => exact fun _ _ _ h => h
  case hyA1x => exact Or.inl ⟨by rfl, by (intro wS hSw; obtain ⟨s1, s2, s3, s4, s5, s6⟩ := hSw; go_simp; try with_reducible rfl)⟩
  try simp only [Act.put, List.setIfInBounds_toArray, List.set_cons_zero, List.set_cons_succ]
  refine wpAnyH_take (i := 2) (oi := ?oiA2x) (v := ?vA2x) ?hiA2x (by kernel_rfl) (by kernel_rfl) (by kernel_rfl) ?hqA2x ?hyA2x (by assumption) ?restA2x
  case hiA2x => (simp only [List.getElem?_toArray, List.getElem?_cons_succ, List.getElem?_cons_zero] <;> rfl)
  case hqA2x => exact fun _ _ _ h => h
  case hyA2x => exact Or.inl ⟨by rfl, by (intro wS hSw; obtain ⟨s1, s2, s3, s4, s5, s6⟩ := hSw; go_simp; try with_reducible rfl)⟩
  try simp only [Act.put, List.setIfInBounds_toArray, List.set_cons_zero, List.set_cons_succ]
  refine wpAnyH_take (i := 3) (oi := ?oiA3x) (v := ?vA3x) ?hiA3x (by kernel_rfl) (by kernel_rfl) (by kernel_rfl) ?hqA3x ?hyA3x (by assumption) ?restA3x
  case hiA3x => (simp only [List.getElem?_toArray, List.getElem?_cons_succ, List.getElem?_cons_zero] <;> rfl)
  case hqA3x => exact fun _ _ _ h => h
  case hyA3x => exact Or.inl ⟨by rfl, by (intro wS hSw; obtain ⟨s1, s2, s3, s4, s5, s6⟩ := hSw; go_simp; try with_reducible rfl)⟩
  try simp only [Act.put, List.setIfInBounds_toArray, List.set_cons_zero, List.set_cons_succ]
  refine wpAnyH_take (i := 5) (oi := ?oiA5x) (v := ?vA5x) ?hiA5x (by kernel_rfl) (by kernel_rfl) (by kernel_rfl) ?hqA5x ?hyA5x (by assumption) ?restA5x
  case hiA5x => (simp only [List.getElem?_toArray, List.getElem?_cons_succ, List.getElem?_cons_zero] <;> rfl)
  case hqA5x => exact fun _ _ _ h => h
  case hyA5x => exact Or.inl ⟨by rfl, by (intro wS hSw; obtain ⟨s1, s2, s3, s4, s5, s6⟩ := hSw; go_simp; try with_reducible rfl)⟩
  try simp only [Act.put, List.setIfInBounds_toArray, List.set_cons_zero, List.set_cons_succ]
  refine wpAnyH_take (i := 6) (oi := ?oiA6x) (v := ?vA6x) ?hiA6x (by kernel_rfl) (by kernel_rfl) (by kernel_rfl) ?hqA6x ?hyA6x (by assumption) ?restA6x
  case hiA6x => (simp only [List.getElem?_toArray, List.getElem?_cons_succ, List.getElem?_cons_zero] <;> rfl)
  case hqA6x => exact fun _ _ _ h => h
  case hyA6x => exact Or.inl ⟨by rfl, by (intro wS hSw; obtain ⟨s1, s2, s3, s4, s5, s6⟩ := hSw; go_simp; try with_reducible rfl)⟩
  try simp only [Act.put, List.setIfInBounds_toArray, List.set_cons_zero, List.set_cons_succ]
  refine wpAnyH_take (i := 7) (oi := ?oiA7x) (v := ?vA7x) ?hiA7x (by kernel_rfl) (by kernel_rfl) (by kernel_rfl) ?hqA7x ?hyA7x (by assumption) ?restA7x
  case hiA7x => (simp only [List.getElem?_toArray, List.getElem?_cons_succ, List.getElem?_cons_zero] <;> rfl)
  case hqA7x => exact fun _ _ _ h => h
  case hyA7x => exact Or.inl ⟨by rfl, by (intro wS hSw; obtain ⟨s1, s2, s3, s4, s5, s6⟩ := hSw; go_simp; try with_reducible rfl)⟩
  try simp only [Act.put, List.setIfInBounds_toArray, List.set_cons_zero, List.set_cons_succ]
  refine wpAnyH_take (i := 8) (oi := ?oiA8x) (v := ?vA8x) ?hiA8x (by kernel_rfl) (by kernel_rfl) (by kernel_rfl) ?hqA8x ?hyA8x (by assumption) ?restA8x
  case hiA8x => (simp only [List.getElem?_toArray, List.getElem?_cons_succ, List.getElem?_cons_zero] <;> rfl)
  case hqA8x => exact fun _ _ _ h => h
  case hyA8x => exact Or.inl ⟨by rfl, by (intro wS hSw; obtain ⟨s1, s2, s3, s4, s5, s6⟩ := hSw; go_simp; try with_reducible rfl)⟩
  try simp only [Act.put, List.setIfInBounds_toArray, List.set_cons_zero, List.set_cons_succ]
  refine wpAnyH_take (i := 10) (oi := ?oiA10x) (v := ?vA10x) ?hiA10x (by kernel_rfl) (by kernel_rfl) (by kernel_rfl) ?hqA10x ?hyA10x (by assumption) ?restA10x
  case hiA10x => (simp only [List.getElem?_toArray, List.getElem?_cons_succ, List.getElem?_cons_zero] <;> rfl)
  case hqA10x => exact fun _ _ _ h => h
  case hyA10x => exact Or.inl ⟨by rfl, by (intro wS hSw; obtain ⟨s1, s2, s3, s4, s5, s6⟩ := hSw; go_simp; try with_reducible rfl)⟩
  try simp only [Act.put, List.setIfInBounds_toArray, List.set_cons_zero, List.set_cons_succ]
  refine wpAnyH_take (i := 11) (oi := ?oiA11x) (v := ?vA11x) ?hiA11x (by kernel_rfl) (by kernel_rfl) (by kernel_rfl) ?hqA11x ?hyA11x (by assumption) ?restA11x
  case hiA11x => (simp only [List.getElem?_toArray, List.getElem?_cons_succ, List.getElem?_cons_zero] <;> rfl)
  case hqA11x => exact fun _ _ _ h => h
  case hyA11x => exact Or.inl ⟨by rfl, by (intro wS hSw; obtain ⟨s1, s2, s3, s4, s5, s6⟩ := hSw; go_simp; try with_reducible rfl)⟩
  try simp only [Act.put, List.setIfInBounds_toArray, List.set_cons_zero, List.set_cons_succ]
  refine wpAnyH_take (i := 12) (oi := ?oiA12x) (v := ?vA12x) ?hiA12x (by kernel_rfl) (by kernel_rfl) (by kernel_rfl) ?hqA12x ?hyA12x (by assumption) ?restA12x
  case hiA12x => (simp only [List.getElem?_toArray, List.getElem?_cons_succ, List.getElem?_cons_zero] <;> rfl)
  case hqA12x => exact fun _ _ _ h => h
  case hyA12x => exact Or.inl ⟨by rfl, by (intro wS hSw; obtain ⟨s1, s2, s3, s4, s5, s6⟩ := hSw; go_simp; try with_reducible rfl)⟩
  try simp only [Act.put, List.setIfInBounds_toArray, List.set_cons_zero, List.set_cons_succ]
  refine wpAnyH_take (i := 13) (oi := ?oiA13x) (v := ?vA13x) ?hiA13x (by kernel_rfl) (by kernel_rfl) (by kernel_rfl) ?hqA13x ?hyA13x (by assumption) ?restA13x
  case hiA13x => (simp only [List.getElem?_toArray, List.getElem?_cons_succ, List.getElem?_cons_zero] <;> rfl)
  case hqA13x => exact fun _ _ _ h => h
  case hyA13x => exact Or.inl ⟨by rfl, by (intro wS hSw; obtain ⟨s1, s2, s3, s4, s5, s6⟩ := hSw; go_simp; try with_reducible rfl)⟩
  try simp only [Act.put, List.setIfInBounds_toArray, List.set_cons_zero, List.set_cons_succ]
  refine wpAnyH_ready (rs := [4]) (by kernel_rfl) (by simp) ?_
  refine AllReadyH.cons (o := ?oiA4x) ?hiA4x (fun K hK => ?hsA4x) AllReadyH.nil
  case hiA4x => (simp only [List.getElem?_toArray, List.getElem?_cons_succ, List.getElem?_cons_zero] <;> rfl)
  go_simp
  refine (compare_any y.pt x.pt _).mono ?_
  rintro e wq ⟨rfl, rfl⟩
  go_wp2_with fail
  refine hK.out _ _ HS.out (fun hHeld => ?_)
  clear hHeld
  clear hK K
  try simp only [Act.put, List.setIfInBounds_toArray, List.set_cons_zero, List.set_cons_succ]
  refine wpAnyH_ready (rs := [9]) (by kernel_rfl) (by simp) ?_
  refine AllReadyH.cons (o := ?oiA9x) ?hiA9x (fun K hK => ?hsA9x) AllReadyH.nil
  case hiA9x => (simp only [List.getElem?_toArray, List.getElem?_cons_succ, List.getElem?_cons_zero] <;> rfl)
  go_simp
  refine (compare_any y.tie x.tie _).mono ?_
  rintro e wq ⟨rfl, rfl⟩
  go_wp2_with fail
  refine hK.out _ _ HS.out (fun hHeld => ?_)
  clear hHeld
  clear hK K
  try simp only [Act.put, List.setIfInBounds_toArray, List.set_cons_zero, List.set_cons_succ]
  refine wpAnyH_ready (rs := [14]) (by kernel_rfl) (by simp) ?_
  refine AllReadyH.cons (o := ?oiA14x) ?hiA14x (fun K hK => ?hsA14x) AllReadyH.nil
  case hiA14x => (simp only [List.getElem?_toArray, List.getElem?_cons_succ, List.getElem?_cons_zero] <;> rfl)
  go_simp
  refine (compare_any x.pl y.pl _).mono ?_
  rintro e wq ⟨rfl, rfl⟩
  go_wp2_with fail
  refine hK.out _ _ HS.out (fun hHeld => ?_)
  clear hHeld
  clear hK K
  try simp only [Act.put, List.setIfInBounds_toArray, List.set_cons_zero, List.set_cons_succ]
  refine wpAnyH_ready (rs := [15]) (by kernel_rfl) (by simp) ?_
  refine AllReadyH.cons (o := ?oiA15x) ?hiA15x (fun K hK => ?hsA15x) AllReadyH.nil
  case hiA15x => (simp only [List.getElem?_toArray, List.getElem?_cons_succ, List.getElem?_cons_zero] <;> rfl)
  go_simp
  obtain ⟨wz, hwz⟩ : ∃ wz, wz = wy.alloc (.cells #[.int .i64 (cmpI y.pt x.pt), .int .i64 (cmpI y.tie x.tie), .int .i64 (cmpI x.pl y.pl)] 3) := ⟨_, rfl⟩
  have RZ := Lib.hid (rowAt_lit (Value.int .i64) wy [cmpI y.pt x.pt, cmpI y.tie x.tie, cmpI x.pl y.pl] 3)
  have HZ := Lib.hid (hSt wz (by rw [hwz]; exact (Below.refl _ _).alloc (Nat.le_refl _) _))
  have HWZ := Lib.hid hwz
  have e3 : (Obj.cells ([cmpI y.pt x.pt, cmpI y.tie x.tie, cmpI x.pl y.pl].map (Value.int .i64)).toArray 3) = .cells #[.int .i64 (cmpI y.pt x.pt), .int .i64 (cmpI y.tie x.tie), .int .i64 (cmpI x.pl y.pl)] 3 := rfl
  rw [e3, ← hwz] at RZ
  rw [← hwz]
  clear hwz e3
  refine hK.out _ _ HZ.out (fun hHeld => ?_)
  clear hHeld
  clear hK K
  try simp only [Act.put, List.setIfInBounds_toArray, List.set_cons_zero, List.set_cons_succ]
  refine wpAnyH_ready (rs := [16]) (by kernel_rfl) (by simp) ?_
  refine AllReadyH.cons (o := ?oiA16x) ?hiA16x (fun K hK => ?hsA16x) AllReadyH.nil
  case hiA16x => (simp only [List.getElem?_toArray, List.getElem?_cons_succ, List.getElem?_cons_zero] <;> rfl)
  go_simp
  refine (or_any _ _ wz RZ.out (by simp)).mono ?_
  rintro e wq ⟨rfl, rfl⟩
  go_wp2_with fail
  refine hK.out _ _ HZ.out (fun hHeld => ?_)
  clear hHeld
  clear hK K
  try simp only [Act.put, List.setIfInBounds_toArray, List.set_cons_zero, List.set_cons_succ]
  refine wpAnyH_take (i := 17) (oi := ?oiA17x) (v := ?vA17x) ?hiA17x (by kernel_rfl) (by kernel_rfl) (by kernel_rfl) ?hqA17x ?hyA17x (by assumption) ?restA17x
  case hiA17x => (simp only [List.getElem?_toArray, List.getElem?_cons_succ, List.getElem?_cons_zero] <;> rfl)
  case hqA17x => exact fun _ _ _ h => h
  case hyA17x => exact Or.inl ⟨by rfl, by (intro wS hSw; obtain ⟨s1, s2, s3, s4, s5, s6⟩ := hSw; go_simp; try with_reducible rfl)⟩
  try simp only [Act.put, List.setIfInBounds_toArray, List.set_cons_zero, List.set_cons_succ]
  refine wpAnyH_done (by kernel_rfl) ?_ _
  refine NoPanic.normal ?_
  go_wp2_with fail
  go_ret
  exact ⟨by rw [HCF.out] <;> rfl, 1, _, by rw [HWZ.out, HWY.out, alloc_eq_grow, alloc_eq_grow, alloc_eq_grow, grow_grow, drew_grow, grow_grow] <;> rfl⟩
end Go.Proofs.Ytfjnnbhijajhoaa
