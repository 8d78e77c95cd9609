/- Chapter 56: Played (both), before and clamp (the reference's). -/
import Derived.Test.YtfjnnbhijajhoaaPrC
import Derived.Shelf.Abstract
namespace Go.Proofs.Ytfjnnbhijajhoaa
open Go Go.RowKit Go.Sort Cg
/-- Whether a result is one of two players. -/
def met (r : Rs) (a b : Int) : Bool := (r.a == a && r.b == b) || (r.a == b && r.b == a)
def plays (l : List Rs) (a b : Int) : Bool := l.any fun r => met r a b
theorem met_comm (r : Rs) (a b : Int) : met r a b = met r b a := by unfold met; rw [Bool.or_comm]
theorem plays_comm (l : List Rs) (a b : Int) : plays l a b = plays l b a := by unfold plays; congr 1; funext r; exact met_comm r a b
abbrev rsOf (r : Rs) : Value := rsV r.a r.b r.wa r.wb r.dr
theorem five_at {w : World} {g o k : Nat} {l : List Rs} (h : ∀ (j : Nat) x, l[j]? = some x → ∀ (i : Nat) u, (encR x)[i]? = some u → w.cell? ⟨g, o + j * 5 + i, none⟩ = some u) (hk : k < l.length) :
    w.cell? ⟨g, o + k * 5, none⟩ = some (.int .i64 l[k].a) ∧ w.cell? ⟨g, o + k * 5 + 1, none⟩ = some (.int .i64 l[k].b) ∧ w.cell? ⟨g, o + k * 5 + 2, none⟩ = some (.int .i64 l[k].wa) ∧ w.cell? ⟨g, o + k * 5 + 3, none⟩ = some (.int .i64 l[k].wb) ∧ w.cell? ⟨g, o + k * 5 + 4, none⟩ = some (.int .i64 l[k].dr) :=
  ⟨h k _ (List.getElem?_eq_getElem hk) 0 _ rfl, h k _ (List.getElem?_eq_getElem hk) 1 _ rfl, h k _ (List.getElem?_eq_getElem hk) 2 _ rfl, h k _ (List.getElem?_eq_getElem hk) 3 _ rfl, h k _ (List.getElem?_eq_getElem hk) 4 _ rfl⟩
theorem box2 (w : World) (a b : Int) (t u : TypeId) : ∃ wx, wx = (w.alloc (.cells #[.int .i64 a] t)).alloc (.cells #[.int .i64 b] u) ∧ Below w.heap.size w wx ∧ wx.cell? ⟨w.heap.size, 0, none⟩ = some (.int .i64 a) ∧ wx.cell? ⟨w.heap.size + 1, 0, none⟩ = some (.int .i64 b) := by
  have p : ((w.alloc (.cells #[.int .i64 a] t)).alloc (.cells #[.int .i64 b] u)).heap[w.heap.size]? = some (.cells #[.int .i64 a] t (0, 0)) ∧ ((w.alloc (.cells #[.int .i64 a] t)).alloc (.cells #[.int .i64 b] u)).heap[w.heap.size + 1]? = some (.cells #[.int .i64 b] u (0, 0)) := push2 w.heap (.cells #[.int .i64 a] t) (.cells #[.int .i64 b] u)
  refine ⟨_, rfl, ((Below.refl w.heap.size w).alloc (Nat.le_refl _) _).alloc (by show w.heap.size ≤ (w.heap.push _).size; simp) _, ?_, ?_⟩
  · exact cell_of_row _ w.heap.size 0 _ _ _ p.1
  · exact cell_of_row _ (w.heap.size + 1) 0 _ _ _ p.2
set_option maxHeartbeats 4000000 in
theorem played1 (ra rb wa wb dr a b : Int) (ba bb : Nat) (w : World) (ha : w.cell? ⟨ba, 0, none⟩ = some (.int .i64 a)) (hb : w.cell? ⟨bb, 0, none⟩ = some (.int .i64 b)) :
    Calls Try.prog 28 #[rsV ra rb wa wb dr, .pointer (some ⟨ba, 0, none⟩), .pointer (some ⟨bb, 0, none⟩)] w fun e w' => e = .returned (.bool (met ⟨ra, rb, wa, wb, dr⟩ a b)) ∧ Below w.heap.size w w' := by
  have bx := Lib.hid ((Below.refl w.heap.size w).alloc (Nat.le_refl _) (.cells #[.int .i64 ra, .int .i64 rb, .int .i64 wa, .int .i64 wb, .int .i64 dr] 31))
  have ha2 := (bx.out.cell (p := ⟨ba, 0, none⟩) (block_lt_of_cell ha)).trans ha
  have hb2 := (bx.out.cell (p := ⟨bb, 0, none⟩) (block_lt_of_cell hb)).trans hb
  have HM := Lib.hid (show met ⟨ra, rb, wa, wb, dr⟩ a b = ((ra == a && rb == b) || (ra == b && rb == a)) from rfl)
  cases h1 : (ra == a) <;> cases h2 : (rb == b) <;> cases h3 : (ra == b) <;> cases h4 : (rb == a)
  all_goals
    rw [h1, h2, h3, h4] at HM
    go_enter Try.func28, Try.ntmps28
    go_wp2_with fail
    go_ret
    exact ⟨by rw [HM.out] <;> rfl, bx.out⟩
theorem any_miss (l : List Rs) (a b : Int) : ∀ k, (∀ j (h : j < l.length), j < k → met l[j] a b = false) → plays l a b = plays (l.drop k) a b := by
  induction l with
  | nil => intro k _; simp
  | cons x l ih =>
    intro k h
    cases k with
    | zero => rfl
    | succ k =>
      have h0 := h 0 (by simp) (by omega)
      rw [List.getElem_cons_zero] at h0
      rw [List.drop_succ_cons, plays, List.any_cons, h0, Bool.false_or]
      exact ih k (fun j hj hk => by have h2 := h (j + 1) (Nat.succ_lt_succ hj) (by omega); rwa [List.getElem_cons_succ] at h2)
theorem any_hit (l : List Rs) (a b : Int) (k : Nat) (hk : k < l.length) (h : met l[k] a b = true) : plays l a b = true := List.any_eq_true.2 ⟨_, List.getElem_mem hk, h⟩
def firstMet (l : List Rs) (a b : Int) (k : Nat) : Prop := (∀ j (h : j < l.length), j < k → met l[j] a b = false)
def idxP (l : List Rs) (a b i : Int) : Prop := (plays l a b = true ∧ 0 ≤ i) ∨ (plays l a b = false ∧ i = -1)
set_option maxHeartbeats 4000000 in
theorem indexFunc_r (v : Value) (l : List Rs) (a b : Int) (ba bb : Nat) (w : World) (h : RowK 5 encR w v l) (hn : l.length ≤ 1000000) (ha : w.cell? ⟨ba, 0, none⟩ = some (.int .i64 a)) (hb : w.cell? ⟨bb, 0, none⟩ = some (.int .i64 b)) :
    Calls Try.prog 39 #[v, .func (.func 28) #[] #[.pointer (some ⟨ba, 0, none⟩), .pointer (some ⟨bb, 0, none⟩)]] w fun e w' => ∃ i : Int, e = .returned (.int .i64 i) ∧ idxP l a b i ∧ Below w.heap.size w w' := by
  have eg : ∀ args w, (callFunc 28 args).run Try.prog w = .ok (.enter 28 args) w := enters_of Try.func28 (by kernel_rfl) rfl
  have HA := Lib.hid ha
  have HB := Lib.hid hb
  obtain ⟨ao, cap, rfl, _, hx⟩ := h
  have HX := Lib.hid hx
  clear hx ha hb
  go_enter Try.func39, Try.ntmps39
  go_wp2_with fail
  go_loopw [8] (fun i wr => ∃ k : Nat, k ≤ l.length ∧ i = .int .i64 k ∧ Hid (∀ j (h : j < l.length), j < k → met l[j] a b = false) ∧ Below w.heap.size w wr) (fun i _ => l.length - (intOf i).toNat)
  case atStart => exact ⟨0, by omega, rfl, Lib.hid fun j hj _ => by omega, Below.refl _ _⟩
  case round =>
    obtain ⟨k, hk, rfl, HK, bw⟩ := hrel
    have BW := Lib.hid bw
    clear bw
    by_cases hlt : k < l.length
    · rcases HX.out with hh | ⟨g, o, rfl, hg, hcell⟩
      · rw [hh] at hlt; simp at hlt
      have hcell2 := (fun (j : Nat) x (hj : l[j]? = some x) (i : Nat) u (hu : (encR x)[i]? = some u) => (BW.out.cell (p := ⟨g, o + j * 5 + i, none⟩) hg).trans (hcell j x hj i u hu))
      obtain ⟨q0, q1, q2, q3, q4⟩ := five_at hcell2 hlt
      have ca := (BW.out.cell (p := ⟨ba, 0, none⟩) (block_lt_of_cell HA.out)).trans HA.out
      have cb := (BW.out.cell (p := ⟨bb, 0, none⟩) (block_lt_of_cell HB.out)).trans HB.out
      have HCL := Lib.hid (played1 l[k].a l[k].b l[k].wa l[k].wb l[k].dr a b ba bb _ ca cb)
      have e0 : (⟨l[k].a, l[k].b, l[k].wa, l[k].wb, l[k].dr⟩ : Rs) = l[k] := rfl
      rw [e0] at HCL
      obtain ⟨r, hr⟩ : ∃ r, r = l[k] := ⟨_, rfl⟩
      rw [← hr] at q0 q1 q2 q3 q4 HCL
      have HR := Lib.hid hr
      clear hcell hcell2 hr e0 ca cb
      cases hm : met r a b
      · rw [hm] at HCL
        have HM := Lib.hid hm
        clear hm
        go_wp2_with (go_at_fn 28; refine HCL.out.mono ?_; rintro e w' ⟨rfl, b2⟩)
        go_round
        case rel => exact ⟨k + 1, by omega, by go_num, Lib.hid fun j hj hjk => (by
          by_cases e : j = k
          · subst e; rw [← HR.out]; exact HM.out
          · exact HK.out j hj (by omega)), BW.out.trans (b2.mono BW.out.size)⟩
        case measure => simp [intOf]; omega
      · rw [hm] at HCL
        have HE := Lib.hid (any_hit l a b k hlt (by rw [← HR.out]; exact hm))
        clear hm
        go_wp2_with (go_at_fn 28; refine HCL.out.mono ?_; rintro e w' ⟨rfl, b2⟩)
        go_ret
        exact ⟨_, rfl, .inl ⟨HE.out, by omega⟩, BW.out.trans (b2.mono BW.out.size)⟩
    · obtain rfl : k = l.length := by omega
      have HE := Lib.hid (show plays l a b = false by rw [any_miss l a b l.length HK.out, List.drop_length]; rfl)
      go_wp2_with fail
      go_ret
      exact ⟨_, rfl, .inr ⟨HE.out, rfl⟩, BW.out⟩
theorem containsFunc_r (v : Value) (l : List Rs) (a b : Int) (ba bb : Nat) (w : World) (h : RowK 5 encR w v l) (hn : l.length ≤ 1000000) (ha : w.cell? ⟨ba, 0, none⟩ = some (.int .i64 a)) (hb : w.cell? ⟨bb, 0, none⟩ = some (.int .i64 b)) :
    Calls Try.prog 27 #[v, .func (.func 28) #[] #[.pointer (some ⟨ba, 0, none⟩), .pointer (some ⟨bb, 0, none⟩)]] w fun e w' => e = .returned (.bool (plays l a b)) ∧ Below w.heap.size w w' := by
  have HI := Lib.hid (indexFunc_r v l a b ba bb w h hn ha hb)
  clear h ha hb
  go_enter Try.func27, Try.ntmps27
  go_wp2_with (go_at_call 39; refine HI.out.mono ?_; rintro e w' ⟨i, rfl, hi, bw⟩; have HP := Lib.hid hi; have BW := Lib.hid bw; clear hi bw)
  go_ret
  refine ⟨?_, BW.out⟩
  rcases HP.out with ⟨h1, h2⟩ | ⟨h1, h2⟩
  · rw [h1, decide_eq_true (by omega)] <;> rfl
  · rw [h1, decide_eq_false (by omega)] <;> rfl
theorem played_prog (v : Value) (l : List Rs) (a b : Int) (w : World) (h : RowK 5 encR w v l) (hn : l.length ≤ 1000000) :
    Calls Try.prog 14 #[v, .int .i64 a, .int .i64 b] w fun e w' => e = .returned (.bool (plays l a b)) ∧ Below w.heap.size w w' := by
  obtain ⟨wx, hwx, bx, c1, c2⟩ := box2 w a b 3 3
  have HI := Lib.hid (containsFunc_r v l a b w.heap.size (w.heap.size + 1) wx (h.below bx) hn c1 c2)
  have BX := Lib.hid bx
  have HW := Lib.hid hwx
  clear h c1 c2 bx
  go_enter Try.func14, Try.ntmps14
  go_wp2_with (go_at_call 27; rw [← HW.out]; refine HI.out.mono ?_; rintro e w' ⟨rfl, bw⟩; have BW := Lib.hid bw; clear bw)
  go_ret
  exact ⟨rfl, BX.out.trans (BW.out.mono BX.out.size)⟩
set_option maxHeartbeats 4000000 in
theorem played_ref (v : Value) (l : List Rs) (a b : Int) (w : World) (h : RowK 5 encR w v l) (hn : l.length ≤ 1000000) :
    Calls Try.prog 15 #[v, .int .i64 a, .int .i64 b] w fun e w' => e = .returned (.bool (plays l a b)) ∧ Below w.heap.size w w' := by
  obtain ⟨ao, cap, rfl, _, hx⟩ := h
  have HX := Lib.hid hx
  clear hx
  go_enter Try.func15, Try.ntmps15
  go_wp2_with fail
  go_loopw [7] (fun i wr => ∃ k : Nat, k ≤ l.length ∧ i = .int .i64 k ∧ Hid (∀ j (h : j < l.length), j < k → met l[j] a b = false) ∧ ∃ q, wr = w.drewN q) (fun i _ => l.length - (intOf i).toNat)
  case atStart => exact ⟨0, by omega, rfl, Lib.hid fun j hj _ => by omega, 0, rfl⟩
  case round =>
    obtain ⟨k, hk, rfl, HK, q, rfl⟩ := hrel
    by_cases hlt : k < l.length
    · rcases HX.out with hh | ⟨g, o, rfl, hg, hcell⟩
      · rw [hh] at hlt; simp at hlt
      obtain ⟨q0, q1, q2, q3, q4⟩ := five_at hcell hlt
      obtain ⟨r, hr⟩ : ∃ r, r = l[k] := ⟨_, rfl⟩
      rw [← hr] at q0 q1
      have HR := Lib.hid hr
      have HM := Lib.hid (show met r a b = ((r.a == a && r.b == b) || (r.a == b && r.b == a)) from rfl)
      clear hcell q2 q3 q4 hr
      cases h1 : (r.a == a) <;> cases h2 : (r.b == b) <;> cases h3 : (r.a == b) <;> cases h4 : (r.b == a)
      all_goals
        rw [h1, h2, h3, h4] at HM
        first
        | have HE := Lib.hid (any_hit l a b k hlt (by rw [← HR.out]; exact HM.out))
          go_wp2_with fail
          go_ret
          exact ⟨by rw [HE.out] <;> rfl, drewN_grow _ _⟩
        | go_wp2_with fail
          go_round
          case rel => exact ⟨k + 1, by omega, by go_num, Lib.hid fun j hj hjk => (by
            by_cases e : j = k
            · subst e; rw [← HR.out]; exact HM.out
            · exact HK.out j hj (by omega)), q, rfl⟩
          case measure => simp [intOf]; omega
    · obtain rfl : k = l.length := by omega
      have HE := Lib.hid (show plays l a b = false by rw [any_miss l a b l.length HK.out, List.drop_length]; rfl)
      go_wp2_with fail
      go_ret
      exact ⟨by rw [HE.out] <;> rfl, drewN_grow _ _⟩
set_option maxHeartbeats 4000000 in
theorem before_ref (x y : St) (v u : Value) (w : World) : Calls Try.prog 26 #[stV x v, stV y u] w fun e w' => e = .returned (.bool (better x y)) ∧ Below w.heap.size w w' := by
  obtain ⟨pl, pt, wi, lo, dw, by_, opp, tie⟩ := x
  obtain ⟨pl2, pt2, wi2, lo2, dw2, by2, opp2, tie2⟩ := y
  have bx := Lib.hid (((Below.refl w.heap.size w).alloc (Nat.le_refl _) (.cells #[.int .i64 pl, .int .i64 pt, .int .i64 wi, .int .i64 lo, .int .i64 dw, .int .i64 by_, v, .int .i64 tie] 35)).alloc (by show w.heap.size ≤ (w.heap.push _).size; simp) (.cells #[.int .i64 pl2, .int .i64 pt2, .int .i64 wi2, .int .i64 lo2, .int .i64 dw2, .int .i64 by2, u, .int .i64 tie2] 35))
  have p : ((w.alloc (.cells #[.int .i64 pl, .int .i64 pt, .int .i64 wi, .int .i64 lo, .int .i64 dw, .int .i64 by_, v, .int .i64 tie] 35)).alloc (.cells #[.int .i64 pl2, .int .i64 pt2, .int .i64 wi2, .int .i64 lo2, .int .i64 dw2, .int .i64 by2, u, .int .i64 tie2] 35)).heap[w.heap.size]? = some (.cells #[.int .i64 pl, .int .i64 pt, .int .i64 wi, .int .i64 lo, .int .i64 dw, .int .i64 by_, v, .int .i64 tie] 35 (0, 0)) ∧ ((w.alloc (.cells #[.int .i64 pl, .int .i64 pt, .int .i64 wi, .int .i64 lo, .int .i64 dw, .int .i64 by_, v, .int .i64 tie] 35)).alloc (.cells #[.int .i64 pl2, .int .i64 pt2, .int .i64 wi2, .int .i64 lo2, .int .i64 dw2, .int .i64 by2, u, .int .i64 tie2] 35)).heap[w.heap.size + 1]? = some (.cells #[.int .i64 pl2, .int .i64 pt2, .int .i64 wi2, .int .i64 lo2, .int .i64 dw2, .int .i64 by2, u, .int .i64 tie2] 35 (0, 0)) := push2 w.heap _ _
  obtain ⟨⟨a0, a1, _, _, _, _, _, a7⟩, _⟩ := int8 p.1
  obtain ⟨⟨b0, b1, _, _, _, _, _, b7⟩, _⟩ := int8 p.2
  have HB := Lib.hid (show better ⟨pl, pt, wi, lo, dw, by_, opp, tie⟩ ⟨pl2, pt2, wi2, lo2, dw2, by2, opp2, tie2⟩ = decide (pt2 < pt ∨ pt2 = pt ∧ (tie2 < tie ∨ tie2 = tie ∧ pl < pl2)) from rfl)
  clear p
  cases h1 : (pt == pt2)
  · have n1 : (pt != pt2) = true := by rw [bne, h1]; rfl
    have HE := Lib.hid (show better ⟨pl, pt, wi, lo, dw, by_, opp, tie⟩ ⟨pl2, pt2, wi2, lo2, dw2, by2, opp2, tie2⟩ = decide (pt2 < pt) by
      have := beq_eq_false_iff_ne.1 h1
      rw [HB.out]
      exact decide_eq_decide.2 ⟨fun h => by omega, fun h => .inl h⟩)
    go_enter Try.func26, Try.ntmps26
    go_wp2_with fail
    go_ret
    exact ⟨by rw [HE.out] <;> rfl, bx.out⟩
  · have n1 : (pt != pt2) = false := by rw [bne, h1]; rfl
    have e1 : pt = pt2 := beq_iff_eq.1 h1
    cases h2 : (tie == tie2)
    · have n2 : (tie != tie2) = true := by rw [bne, h2]; rfl
      have HE := Lib.hid (show better ⟨pl, pt, wi, lo, dw, by_, opp, tie⟩ ⟨pl2, pt2, wi2, lo2, dw2, by2, opp2, tie2⟩ = decide (tie2 < tie) by
        have := beq_eq_false_iff_ne.1 h2
        rw [HB.out]
        exact decide_eq_decide.2 ⟨fun h => by omega, fun h => .inr ⟨e1.symm, .inl h⟩⟩)
      clear e1
      go_enter Try.func26, Try.ntmps26
      go_wp2_with fail
      go_ret
      exact ⟨by rw [HE.out] <;> rfl, bx.out⟩
    · have n2 : (tie != tie2) = false := by rw [bne, h2]; rfl
      have HE := Lib.hid (show better ⟨pl, pt, wi, lo, dw, by_, opp, tie⟩ ⟨pl2, pt2, wi2, lo2, dw2, by2, opp2, tie2⟩ = decide (pl < pl2) by
        have := beq_iff_eq.1 h2
        rw [HB.out]
        exact decide_eq_decide.2 ⟨fun h => by omega, fun h => .inr ⟨e1.symm, .inr ⟨this.symm, h⟩⟩⟩)
      clear e1
      go_enter Try.func26, Try.ntmps26
      go_wp2_with fail
      go_ret
      exact ⟨by rw [HE.out] <;> rfl, bx.out⟩
def clampI (n : Int) : Int := if n < 0 then 0 else if 256 < n then 256 else n
theorem clamp_ref (n : Int) (w : World) : Calls Try.prog 24 #[.int .i64 n] w fun e w' => e = .returned (.int .i64 (clampI n)) ∧ w = w' := by
  have HC := Lib.hid (show clampI n = max 0 (min n 256) by
    unfold clampI
    split
    · omega
    · split <;> omega)
  go_enter Try.func24, Try.ntmps24
  go_wp2_with fail
  all_goals
    go_ret
    refine ⟨congrArg (fun z => Ending.returned (Value.int .i64 z)) (?_ : _ = clampI n), rfl⟩
    rw [HC.out]
    omega
end Go.Proofs.Ytfjnnbhijajhoaa
