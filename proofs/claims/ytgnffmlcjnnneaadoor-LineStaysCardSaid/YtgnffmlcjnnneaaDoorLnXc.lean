/- Chapter 10: AddSub of the program, whole. -/
import Derived.Test.YtgnffmlcjnnneaaDoorLnXb
namespace Go.Proofs.YtgnffmlcjnnneaaDoor
open Go Go.RowKit Go.Sort Cg
/-- The blocks of AddSub: the line, the string, the result. -/
def AsAt (B : Nat) (wo : World) (su ty : Int) (v : Value) (s : ByteArray) (w : World) : Prop :=
  w.heap[B]? = some (.cells #[.int .i64 su, .int .i64 ty, v] 24 (0, 0)) ∧ w.heap[B + 1]? = some (.cells #[.string s] 9 (0, 0)) ∧ w.heap[B + 2]? = some (.cells #[.int .i64 0, .int .i64 0, .slice none 0 0] 24 (0, 0)) ∧ Below B wo w ∧ B + 3 ≤ w.heap.size
theorem AsAt.grow {B : Nat} {wo w w' : World} {su ty : Int} {v : Value} {s : ByteArray} (h : AsAt B wo su ty v s w) (hb : Below (B + 3) w w') : AsAt B wo su ty v s w' := by
  obtain ⟨h1, h2, h3, h4, h5⟩ := h
  exact ⟨(hb.block B (by omega)).trans h1, (hb.block (B + 1) (by omega)).trans h2, (hb.block (B + 2) (by omega)).trans h3, h4.trans (hb.mono (by omega)), Nat.le_trans h5 hb.size⟩
theorem AsAt.later {B : Nat} {wo w w' : World} {su ty : Int} {v : Value} {s : ByteArray} (h : AsAt B wo su ty v s w) (hb : Below w.heap.size w w') : AsAt B wo su ty v s w' := h.grow (hb.mono h.2.2.2.2)
theorem AsAt.set {B : Nat} {wo w : World} {su ty : Int} {v : Value} {s : ByteArray} (h : AsAt B wo su ty v s w) (u : Value) : AsAt B wo su ty u s (w.setCell ⟨B, 2, none⟩ u) := by
  obtain ⟨h1, h2, h3, h4, h5⟩ := h
  exact ⟨cells_set w B 2 _ _ _ _ h1, (Below.heap_setCell w _ _ _ (by show B + 1 ≠ B; omega)).trans h2, (Below.heap_setCell w _ _ _ (by show B + 2 ≠ B; omega)).trans h3, h4.setCell (Nat.le_refl _) _, by simpa [World.setCell] using h5⟩
theorem AsAt.cells {B : Nat} {wo w : World} {su ty : Int} {v : Value} {s : ByteArray} (h : AsAt B wo su ty v s w) :
    (w.cell? ⟨B, 0, none⟩ = some (.int .i64 su) ∧ w.cell? ⟨B, 1, none⟩ = some (.int .i64 ty) ∧ w.cell? ⟨B, 2, none⟩ = some v ∧ w.frozen? ⟨B, 2, none⟩ = false ∧ w.cell? ⟨B + 1, 0, none⟩ = some (.string s)) ∧
    w.cell? ⟨B + 1 + 1, 0, none⟩ = some (.int .i64 0) ∧ w.cell? ⟨B + 1 + 1, 1, none⟩ = some (.int .i64 0) ∧ w.cell? ⟨B + 1 + 1, 2, none⟩ = some (.slice none 0 0) ∧ w.frozen? ⟨B + 1 + 1, 0, none⟩ = false ∧ w.frozen? ⟨B + 1 + 1, 1, none⟩ = false ∧ w.frozen? ⟨B + 1 + 1, 2, none⟩ = false := by
  obtain ⟨h1, h2, h3, _⟩ := h
  exact ⟨⟨cell_of_row _ _ 0 _ _ _ h1, cell_of_row _ _ 1 _ _ _ h1, cell_of_row _ _ 2 _ _ _ h1, by simp [World.frozen?, h1], cell_of_row _ _ 0 _ _ _ h2⟩, cell_of_row _ _ 0 _ _ _ h3, cell_of_row _ _ 1 _ _ _ h3, cell_of_row _ _ 2 _ _ _ h3, by simp [World.frozen?, h3], by simp [World.frozen?, h3], by simp [World.frozen?, h3]⟩
/-- A store into a block without strings leaves a slice of strings as it was. -/
theorem rowAt_set {w : World} {v : Value} {xs : List ByteArray} (h : RowAt Value.string w v xs) {g : Nat} {cs : Array Value} {t : TypeId} {fr : Nat × Nat} (hg : w.heap[g]? = some (.cells cs t fr)) (hno : ∀ (j : Nat) s, cs[j]? ≠ some (.string s)) (k : Nat) (u : Value) :
    RowAt Value.string (w.setCell ⟨g, k, none⟩ u) v xs := by
  obtain ⟨ao, cap, rfl, hc, h⟩ := h
  refine ⟨ao, cap, rfl, hc, ?_⟩
  rcases h with h | ⟨b, o, rfl, hlt, hx⟩
  · exact .inl h
  by_cases he : xs = []
  · exact .inl he
  have hbg : b ≠ g := by
    rintro rfl
    have hl := List.length_pos_iff.2 he
    have := hx 0 _ (List.getElem?_eq_getElem hl)
    rw [cell_of_row _ _ _ _ _ _ hg] at this
    exact hno _ _ this
  refine .inr ⟨b, o, rfl, by simpa [World.setCell] using hlt, fun j x hj => ?_⟩
  rw [← hx j x hj]
  exact World.cell?_of_block (Below.heap_setCell w _ _ _ (by show b ≠ g; exact hbg))
theorem no_str3 (a b : Int) (v : Value) (hv : ∀ s, v ≠ .string s) : ∀ (j : Nat) s, (#[.int .i64 a, .int .i64 b, v] : Array Value)[j]? ≠ some (.string s) := by
  intro j s
  match j with
  | 0 => simp
  | 1 => simp
  | 2 => simpa using hv s
  | j + 3 => simp
/-- The end: the line is stored into the result's block. -/
theorem AsAt.fin {B : Nat} {wo w : World} {su ty : Int} {ao : Option Addr} {n c : Nat} {s : ByteArray} {xs : List ByteArray} (h : AsAt B wo su ty (.slice ao n c) s w) (hr : RowAt Value.string w (.slice ao n c) xs) :
    ∃ W, W = (((w.setCell ⟨B + 1 + 1, 0, none⟩ (.int .i64 su)).setCell ⟨B + 1 + 1, 1, none⟩ (.int .i64 ty)).setCell ⟨B + 1 + 1, 2, none⟩ (.slice ao n c)) ∧
      W.cell? ⟨B + 1 + 1, 0, none⟩ = some (.int .i64 su) ∧ W.cell? ⟨B + 1 + 1, 1, none⟩ = some (.int .i64 ty) ∧ W.cell? ⟨B + 1 + 1, 2, none⟩ = some (.slice ao n c) ∧ RowAt Value.string W (.slice ao n c) xs ∧ Below B wo W := by
  obtain ⟨h1, h2, h3, h4, h5⟩ := h
  have hs := set3 w (B + 1 + 1) _ _ _ (.int .i64 su) (.int .i64 ty) (.slice ao n c) _ _ h3
  refine ⟨_, rfl, cell_of_row _ _ 0 _ _ _ hs, cell_of_row _ _ 1 _ _ _ hs, cell_of_row _ _ 2 _ _ _ hs, ?_, below_set3 h4 _ _ _ _ (by omega)⟩
  have e1 := cells_set w (B + 1 + 1) 0 _ _ _ (.int .i64 su) h3
  have e2 := cells_set _ (B + 1 + 1) 1 _ _ _ (.int .i64 ty) e1
  exact rowAt_set (rowAt_set (rowAt_set hr h3 (no_str3 0 0 _ (fun s h => by cases h)) 0 _) e1 (no_str3 su 0 _ (fun s h => by cases h)) 1 _) e2 (no_str3 su ty _ (fun s h => by cases h)) 2 _
theorem push3 (h : Array Obj) (a b c : Obj) : (((h.push a).push b).push c)[h.size]? = some a ∧ (((h.push a).push b).push c)[h.size + 1]? = some b ∧ (((h.push a).push b).push c)[h.size + 2]? = some c := by
  refine ⟨?_, ?_, ?_⟩
  · rw [Array.getElem?_push, if_neg (by simp; omega), Array.getElem?_push, if_neg (by simp), Array.getElem?_push, if_pos rfl]
  · rw [Array.getElem?_push, if_neg (by simp), Array.getElem?_push, if_pos (by simp)]
  · rw [Array.getElem?_push, if_pos (by simp)]
set_option maxRecDepth 100000 in
set_option maxHeartbeats 4000000 in
theorem addSub_prog (su ty : Int) (v : Value) (xs : List ByteArray) (s : ByteArray) (w : World) (h : RowAt Value.string w v xs) (hn : xs.length ≤ 1000) (hm : Mx w) :
    Calls Tryd.prog 27 #[lineV su ty v, .string s] w fun e w' => ∃ v', e = .returned (lineV su ty v') ∧ RowAt Value.string w' v' (addL xs s) ∧ Below w.heap.size w w' := by
  obtain ⟨ao, cap, rfl⟩ := h.form
  obtain ⟨wx, hwx⟩ : ∃ wx, wx = ((w.alloc (.cells #[.int .i64 su, .int .i64 ty, .slice ao xs.length cap] 24)).alloc (.cells #[.string s] 9)).alloc (.cells #[.int .i64 0, .int .i64 0, .slice none 0 0] 24) := ⟨_, rfl⟩
  have hz : wx.heap.size = w.heap.size + 3 := by rw [hwx]; show (((w.heap.push _).push _).push _).size = _; simp
  have bx : Below w.heap.size w wx := by rw [hwx]; exact (((Below.refl w.heap.size w).alloc (Nat.le_refl _) _).alloc (by show w.heap.size ≤ (w.heap.push _).size; simp) _).alloc (by show w.heap.size ≤ ((w.heap.push _).push _).size; simp; omega) _
  have p3 := push3 w.heap (.cells #[.int .i64 su, .int .i64 ty, .slice ao xs.length cap] 24) (.cells #[.string s] 9) (.cells #[.int .i64 0, .int .i64 0, .slice none 0 0] 24)
  have AX := Lib.hid (show AsAt w.heap.size w su ty (.slice ao xs.length cap) s wx from ⟨by rw [hwx]; exact p3.1, by rw [hwx]; exact p3.2.1, by rw [hwx]; exact p3.2.2, bx, by omega⟩)
  have HA := Lib.hid hwx
  have RX := Lib.hid (h.below bx)
  have HZ := Lib.hid hz
  have HM := Lib.hid (hm.below bx)
  have HM0 := Lib.hid hm
  clear h hm hwx hz bx p3
  obtain ⟨⟨c0, c1, c2, f2, c3⟩, _⟩ := AX.out.cells
  have f2' := f2
  rw [HA.out] at c2 f2'
  clear c0 c1 c3
  go_enter Tryd.func27, Tryd.ntmps27
  go_wp2_with fail
  rw [← HA.out]
  refine (clone_s _ xs wx RX.out (by omega)).mono ?_
  rintro e w1 ⟨v1, rfl, o1, b1⟩
  have A1 := Lib.hid (AX.out.later b1)
  have HM1 := Lib.hid (HM.out.below b1)
  obtain ⟨a1, k1, rfl⟩ := (rowAt_own o1).form
  rw [HZ.out] at o1
  have A2 := Lib.hid (A1.out.set (.slice a1 xs.length k1))
  have O2 := Lib.hid (ownsRow_setCell_below o1 (a := ⟨w.heap.size, 2, none⟩) (by show w.heap.size < w.heap.size + 3; omega) (.slice a1 xs.length k1))
  have HM2 := Lib.hid (show Mx (w1.setCell ⟨w.heap.size, 2, none⟩ (.slice a1 xs.length k1)) by
    obtain ⟨m, hm⟩ := HM.out
    have h0 : 0 < w.heap.size := by
      obtain ⟨_, h⟩ := HM0.out
      exact block_lt_of_cell h
    exact ⟨m, (World.cell?_of_block (Below.heap_setCell _ _ _ _ (by show 0 ≠ w.heap.size; omega))).trans ((b1.cell (p := ⟨0, 0, none⟩) (by show 0 < wx.heap.size; have := HZ.out; omega)).trans hm)⟩)
  clear o1 b1 c2 f2 f2'
  obtain ⟨⟨c0, c1, c2, f2, c3⟩, _⟩ := A1.out.cells
  clear c0 c1 c3
  obtain ⟨w2, hw2⟩ : ∃ w2, w2 = w1.setCell ⟨w.heap.size, 2, none⟩ (.slice a1 xs.length k1) := ⟨_, rfl⟩
  have HW2 := Lib.hid hw2
  rw [← hw2] at A2 O2 HM2
  obtain ⟨⟨g0, g1, g2, _, g3⟩, _⟩ := A2.out.cells
  rw [hw2] at g3
  clear hw2 g0 g1 g2
  have HI := Lib.hid (isSub_prog s w2 HM2.out)
  have HHS := Lib.hid (fun (w' : World) (r : RowAt Value.string w' (.slice a1 xs.length k1) xs) => hasSub_prog su ty (.slice a1 xs.length k1) xs s w' r (by omega))
  cases hs : isSub s
  · have HAL := Lib.hid (show addL xs s = xs by rw [addL, if_neg (fun h => by rw [hs] at h; exact Bool.noConfusion h.1)])
    rw [hs] at HI
    clear hs
    go_wp2_with fail
    rw [← HW2.out]
    refine HI.out.mono ?_
    rintro e w3 ⟨rfl, b3⟩
    have A3 := Lib.hid (A2.out.later b3)
    have R3 := Lib.hid ((rowAt_own O2.out).below b3)
    clear b3 c2 f2 g3
    obtain ⟨W, hW, k0, k1', k2, RW, BW⟩ := A3.out.fin R3.out
    have HRW := Lib.hid RW
    have HBW := Lib.hid BW
    have HWE := Lib.hid hW
    clear hW RW BW
    obtain ⟨⟨c0, c1, c2, f2, c3⟩, e0, e1, e2, f3, f4, f5⟩ := A3.out.cells
    clear c3 f2
    go_wp2_with fail
    rw [← HWE.out]
    exact bodyPost_ret (v := lineV su ty (.slice a1 xs.length k1)) (by simp [results, Tryd.results27, go_sem, k0, k1', k2]) rfl ⟨_, rfl, by rw [HAL.out]; exact HRW.out, HBW.out⟩
  · rw [hs] at HI
    have HS := Lib.hid hs
    clear hs
    go_wp2_with fail
    rw [← HW2.out]
    refine HI.out.mono ?_
    rintro e w3 ⟨rfl, b3⟩
    have A3 := Lib.hid (A2.out.later b3)
    have O3 := Lib.hid (own_block O2.out b3)
    have R3 := Lib.hid ((rowAt_own O2.out).below b3)
    clear b3 c2 f2 g3
    obtain ⟨⟨c0, c1, c2, f2, c3⟩, _⟩ := A3.out.cells
    have HQ := Lib.hid (HHS.out w3 R3.out)
    cases hc : Lib.containsS xs s
    · rw [hc] at HQ
      by_cases h4 : xs.length < 4
      · have HAL := Lib.hid (show addL xs s = insAt xs (geIdx xs s) s by rw [addL, if_pos ⟨HS.out, hc, h4⟩])
        have HGL := geIdx_le xs s
        have HIX := Lib.hid (fun (w' : World) (r : RowAt Value.string w' (.slice a1 xs.length k1) xs) => indexFunc_s (.slice a1 xs.length k1) xs s (w.heap.size + 1) w' r (by omega))
        have d1 : decide (4 ≤ xs.length) = false := decide_eq_false (by omega)
        have d2 : decide (4 ≤ (xs.length : Int)) = false := decide_eq_false (by omega)
        clear hc h4
        go_wp2_with fail
        refine HQ.out.mono ?_
        rintro e w4 ⟨rfl, b4⟩
        have A4 := Lib.hid (A3.out.later b4)
        have O4 := Lib.hid (own_block O3.out b4)
        have R4 := Lib.hid (R3.out.below b4)
        clear b4 c0 c1 c2 f2 c3 HQ
        obtain ⟨⟨c0, c1, c2, f2, c3⟩, _⟩ := A4.out.cells
        have HIY := Lib.hid (HIX.out w4 R4.out c3)
        have BAL := Lib.hid ((Below.refl w4.heap.size w4).alloc (Nat.le_refl _) (.cells #[.string s] 9))
        have HINS := fun (i : Nat) (hi : i ≤ xs.length) => insert_s (w.heap.size + 3) (.slice a1 xs.length k1) xs i w4.heap.size s (w4.alloc (.cells #[.string s] 9)) (O4.out.alloc _) hi (by omega) (Nat.le_trans A4.out.2.2.2.2 BAL.out.size) (heap_alloc_new w4 _) (fun e => by
          have := (O4.out.lt _ e).2
          omega)
        have HINS := Lib.hid HINS
        have AAL := Lib.hid (A4.out.later BAL.out)
        by_cases hg : geIdx xs s < xs.length
        · have HRX := Lib.hid (show idxRes xs s = ((geIdx xs s : Nat) : Int) by rw [idxRes, if_pos hg])
          rw [HRX.out] at HIY
          obtain ⟨i, hi⟩ : ∃ i, i = geIdx xs s := ⟨_, rfl⟩
          rw [← hi] at HIY HAL HGL
          clear hi hg HRX HIX
          go_wp2_with fail
          refine HIY.out.mono ?_
          rintro e w4' ⟨rfl, rfl⟩
          go_wp2_with fail
          refine (HINS.out i HGL).mono ?_
          rintro e w5 ⟨v5, rfl, r5, b5⟩
          obtain ⟨a5, k5, rfl⟩ := r5.form
          have A5 := Lib.hid (AAL.out.grow b5)
          have R6 := Lib.hid (rowAt_set r5 A5.out.1 (no_str3 su ty _ (fun s h => by cases h)) 2 (.slice a5 (insAt xs i s).length k5))
          have A6 := Lib.hid (A5.out.set (.slice a5 (insAt xs i s).length k5))
          clear r5 b5 c0 c1 c2 f2 c3 HIY
          obtain ⟨W, hW, k0, k1', k2, RW, BW⟩ := A6.out.fin R6.out
          have HRW := Lib.hid RW
          have HBW := Lib.hid BW
          have HWE := Lib.hid hW
          clear hW RW BW
          obtain ⟨⟨c0, c1, c2, f2, c3⟩, e0, e1, e2, f3, f4, f5⟩ := A5.out.cells
          go_wp2_with fail
          rw [← HWE.out]
          exact bodyPost_ret (v := lineV su ty (.slice a5 (insAt xs i s).length k5)) (by simp [results, Tryd.results27, go_sem, k0, k1', k2]) rfl ⟨_, rfl, by rw [HAL.out]; exact HRW.out, HBW.out⟩
        · have HRX := Lib.hid (show idxRes xs s = -1 by rw [idxRes, if_neg hg])
          rw [HRX.out] at HIY
          have hge : geIdx xs s = xs.length := by omega
          rw [hge] at HAL HGL
          clear hg HRX HIX hge
          go_wp2_with fail
          refine HIY.out.mono ?_
          rintro e w4' ⟨rfl, rfl⟩
          go_wp2_with fail
          refine (HINS.out xs.length HGL).mono ?_
          rintro e w5 ⟨v5, rfl, r5, b5⟩
          obtain ⟨a5, k5, rfl⟩ := r5.form
          have A5 := Lib.hid (AAL.out.grow b5)
          have R6 := Lib.hid (rowAt_set r5 A5.out.1 (no_str3 su ty _ (fun s h => by cases h)) 2 (.slice a5 (insAt xs xs.length s).length k5))
          have A6 := Lib.hid (A5.out.set (.slice a5 (insAt xs xs.length s).length k5))
          clear r5 b5 c0 c1 c2 f2 c3 HIY
          obtain ⟨W, hW, k0, k1', k2, RW, BW⟩ := A6.out.fin R6.out
          have HRW := Lib.hid RW
          have HBW := Lib.hid BW
          have HWE := Lib.hid hW
          clear hW RW BW
          obtain ⟨⟨c0, c1, c2, f2, c3⟩, e0, e1, e2, f3, f4, f5⟩ := A5.out.cells
          go_wp2_with fail
          rw [← HWE.out]
          exact bodyPost_ret (v := lineV su ty (.slice a5 (insAt xs xs.length s).length k5)) (by simp [results, Tryd.results27, go_sem, k0, k1', k2]) rfl ⟨_, rfl, by rw [HAL.out]; exact HRW.out, HBW.out⟩
      · have HAL := Lib.hid (show addL xs s = xs by rw [addL, if_neg (fun h => h4 h.2.2)])
        have d1 : decide (4 ≤ xs.length) = true := decide_eq_true (by omega)
        have d2 : decide (4 ≤ (xs.length : Int)) = true := decide_eq_true (by omega)
        clear hc h4
        go_wp2_with fail
        refine HQ.out.mono ?_
        rintro e w4 ⟨rfl, b4⟩
        have A4 := Lib.hid (A3.out.later b4)
        have R4 := Lib.hid (R3.out.below b4)
        clear b4 c0 c1 c2 f2 c3 HQ
        obtain ⟨W, hW, k0, k1', k2, RW, BW⟩ := A4.out.fin R4.out
        have HRW := Lib.hid RW
        have HBW := Lib.hid BW
        have HWE := Lib.hid hW
        clear hW RW BW
        obtain ⟨⟨c0, c1, c2, f2, c3⟩, e0, e1, e2, f3, f4, f5⟩ := A4.out.cells
        clear c3 f2
        go_wp2_with fail
        rw [← HWE.out]
        exact bodyPost_ret (v := lineV su ty (.slice a1 xs.length k1)) (by simp [results, Tryd.results27, go_sem, k0, k1', k2]) rfl ⟨_, rfl, by rw [HAL.out]; exact HRW.out, HBW.out⟩
    · rw [hc] at HQ
      have HAL := Lib.hid (show addL xs s = xs by rw [addL, if_neg (fun h => by rw [hc] at h; exact Bool.noConfusion h.2.1)])
      clear hc
      go_wp2_with fail
      refine HQ.out.mono ?_
      rintro e w4 ⟨rfl, b4⟩
      have A4 := Lib.hid (A3.out.later b4)
      have R4 := Lib.hid (R3.out.below b4)
      clear b4 c0 c1 c2 f2 c3 HQ
      obtain ⟨W, hW, k0, k1', k2, RW, BW⟩ := A4.out.fin R4.out
      have HRW := Lib.hid RW
      have HBW := Lib.hid BW
      have HWE := Lib.hid hW
      clear hW RW BW
      obtain ⟨⟨c0, c1, c2, f2, c3⟩, e0, e1, e2, f3, f4, f5⟩ := A4.out.cells
      clear c3 f2
      go_wp2_with fail
      rw [← HWE.out]
      exact bodyPost_ret (v := lineV su ty (.slice a1 xs.length k1)) (by simp [results, Tryd.results27, go_sem, k0, k1', k2]) rfl ⟨_, rfl, by rw [HAL.out]; exact HRW.out, HBW.out⟩
end Go.Proofs.YtgnffmlcjnnneaaDoor
