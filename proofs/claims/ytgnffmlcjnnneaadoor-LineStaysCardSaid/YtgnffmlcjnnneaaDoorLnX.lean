/- Chapter 10: law LineAdds. -/
import Derived.Test.YtgnffmlcjnnneaaDoorLnXd
import Derived.Deep.CutRange
namespace Go.Proofs.YtgnffmlcjnnneaaDoor
open Go Go.RowKit Go.Sort Cg
theorem old_block {w w' : World} {p : Nat} {o : Obj} (h : w.heap[p]? = some o) (hb : Below w.heap.size w w') : w'.heap[p]? = some o := (hb.block p (Array.getElem?_eq_some_iff.1 h).1).trans h
theorem block_lt {w : World} {p : Nat} {o : Obj} (h : w.heap[p]? = some o) : p < w.heap.size := (Array.getElem?_eq_some_iff.1 h).1
theorem no_frozen {w : World} {p : Nat} {cs : Array Value} {t : TypeId} (h : w.heap[p]? = some (.cells cs t (0, 0))) : w.frozen? ⟨p, 0, none⟩ = false ∧ w.frozen? ⟨p, 1, none⟩ = false ∧ w.frozen? ⟨p, 2, none⟩ = false := ⟨by simp [World.frozen?, h], by simp [World.frozen?, h], by simp [World.frozen?, h]⟩
/-- A line stored into a new block. -/
theorem store3 {B p : Nat} {wo w : World} (hp : w.heap[p]? = some (.cells #[.int .i64 0, .int .i64 0, .slice none 0 0] 24 (0, 0))) (hb : Below B wo w) (hB : B ≤ p) (su ty : Int) (v : Value) :
    (((w.setCell ⟨p, 0, none⟩ (.int .i64 su)).setCell ⟨p, 1, none⟩ (.int .i64 ty)).setCell ⟨p, 2, none⟩ v).heap[p]? = some (.cells #[.int .i64 su, .int .i64 ty, v] 24 (0, 0)) ∧
    (∀ k, k ≠ p → (((w.setCell ⟨p, 0, none⟩ (.int .i64 su)).setCell ⟨p, 1, none⟩ (.int .i64 ty)).setCell ⟨p, 2, none⟩ v).heap[k]? = w.heap[k]?) ∧
    (∀ u (xs : List ByteArray), RowAt Value.string w u xs → RowAt Value.string (((w.setCell ⟨p, 0, none⟩ (.int .i64 su)).setCell ⟨p, 1, none⟩ (.int .i64 ty)).setCell ⟨p, 2, none⟩ v) u xs) ∧
    Below B wo (((w.setCell ⟨p, 0, none⟩ (.int .i64 su)).setCell ⟨p, 1, none⟩ (.int .i64 ty)).setCell ⟨p, 2, none⟩ v) := by
  have e1 := cells_set w p 0 _ _ _ (.int .i64 su) hp
  have e2 := cells_set _ p 1 _ _ _ (.int .i64 ty) e1
  exact ⟨set3 w p _ _ _ _ _ _ _ _ hp, fun k hk => by rw [Below.heap_setCell _ _ _ _ (by show k ≠ p; exact hk), Below.heap_setCell _ _ _ _ (by show k ≠ p; exact hk), Below.heap_setCell _ _ _ _ (by show k ≠ p; exact hk)],
    fun u xs h => rowAt_set (rowAt_set (rowAt_set h hp (no_str3 0 0 _ (fun s h => by cases h)) 0 _) e1 (no_str3 su 0 _ (fun s h => by cases h)) 1 _) e2 (no_str3 su ty _ (fun s h => by cases h)) 2 _, below_set3 hb _ _ _ _ hB⟩
def Fin4 (su ty : Int) (zs : List ByteArray) (w4 : World) (s6 s7 : Value) (wx : World) : Prop :=
  ∃ p6 p7 v1 v2, s6 = .pointer (some ⟨p6, 0, none⟩) ∧ s7 = .pointer (some ⟨p7, 0, none⟩) ∧ wx.heap[p6]? = some (.cells #[.int .i64 su, .int .i64 ty, v1] 24 (0, 0)) ∧ wx.heap[p7]? = some (.cells #[.int .i64 su, .int .i64 ty, v2] 24 (0, 0)) ∧ RowAt Value.string wx v1 zs ∧ RowAt Value.string wx v2 zs ∧ Below w4.heap.size w4 wx
theorem addL_len (xs : List ByteArray) (s : ByteArray) : (addL xs s).length ≤ xs.length + 1 := by
  unfold addL
  split
  · rw [insAt_len _ _ _ (geIdx_le xs s)]
    omega
  · omega
set_option maxRecDepth 100000 in
set_option maxHeartbeats 16000000 in
theorem law_lineAdds (su ty : Int) (v : Value) (xs : List ByteArray) (s : ByteArray) (w : World) (h : RowAt Value.string w v xs) (hn : xs.length ≤ 4611686018427387904) (hm : Mx w) :
    Calls Tryd.prog 7 #[lineV su ty v, .string s] w fun e w' => e = .returned (.bool true) ∧ Below w.heap.size w w' := by
  obtain ⟨ao, cap, rfl⟩ := h.form
  obtain ⟨wx, hwx, bx, hz, hc⟩ := one_line w (.int .i64 su) (.int .i64 ty) (.slice ao xs.length cap)
  have HA := Lib.hid hwx
  have RX := Lib.hid (h.below bx)
  have HM := Lib.hid (hm.below bx)
  have BX := Lib.hid bx
  have HC := Lib.hid hc
  have F1 := Lib.hid (few_prog su ty (.slice ao xs.length cap) xs wx RX.out)
  clear h hm hwx bx hz hc
  by_cases h1 : xs.length ≤ 12
  · rw [decide_eq_true h1] at F1
    go_enter Tryd.func7, Tryd.ntmps7
    go_wp2_with fail
    rw [← HA.out]
    refine F1.out.mono ?_
    rintro e w1 ⟨rfl, bw1⟩
    have Bw1 := Lib.hid bw1
    have OE := Lib.hid (empty_own w1 w1.heap.size (Nat.le_refl _))
    have BE := Lib.hid (show Below w1.heap.size w1 (w1.alloc (.cells #[] 9)) from (Below.refl _ _).alloc (Nat.le_refl _) _)
    have RE := Lib.hid ((RX.out.below bw1).below BE.out)
    obtain ⟨c0, c1, c2⟩ := HC.out _ (bw1.trans (BE.out.mono bw1.size))
    clear bw1 c0 c1
    go_upto_region 4 with (at_builtin; refine wpList_append_row2 rfl (.tmp 12) (.tmp 14) 22 rfl w1.heap.size stringsElem ⟨w1.heap.size, 0, none⟩ 0 0 _ rfl OE.out Value.string (fun _ => rfl) xs _ rfl RE.out (by omega) (by omega) BE.out.size ?_; intro g4 cap4 w4 own4 bel4; have O4 := Lib.hid own4; have B14 := Lib.hid (BE.out.trans bel4); clear own4 bel4 c2)
    have O4 := Lib.hid (show w4.ownsRow w1.heap.size 9 1 (.slice (some ⟨g4, 0, none⟩) xs.length cap4) xs.length (xs.map Value.string) by have h := O4.out; rw [Nat.zero_add, List.nil_append] at h; exact h)
    have Bw4 := Lib.hid (Bw1.out.trans (B14.out.mono Bw1.out.size))
    have HC4 := Lib.hid (fun (w' : World) (h : Below w4.heap.size w4 w') => HC.out w' (Bw4.out.trans (h.mono Bw4.out.size)))
    have HP := Lib.hid (fun (w' : World) (h : Below w4.heap.size w4 w') => addSub_prog su ty (.slice ao xs.length cap) xs s w' (RX.out.below (Bw4.out.trans (h.mono Bw4.out.size))) (by omega) (HM.out.below (Bw4.out.trans (h.mono Bw4.out.size))))
    have HR := Lib.hid (fun (w' : World) (h : Below w4.heap.size w4 w') => addSub_ref su ty (.slice ao xs.length cap) xs s w' (RX.out.below (Bw4.out.trans (h.mono Bw4.out.size))) (by omega))
    go_cut [6, 7] from 16 to 21 (fun s6 s7 wx => Fin4 su ty (addL xs s) w4 s6 s7 wx)
    case first =>
      refine wp_region_noPanic ?_
      refine wp_region_held_drew (S := fun w' => Below w4.heap.size w4 w') (by kernel_rfl) (Below.refl _ _).drew (fun hHeld => ?_)
      obtain ⟨q0, hq0⟩ : ∃ q0, q0 = w4.drew := ⟨_, rfl⟩
      have Gq0 := Lib.hid hHeld
      rw [← hq0] at Gq0 ⊢
      clear hq0 hHeld
      have hH5 := Gq0.out
      refine wpAnyH_take (i := 0) (oi := ?oiY0x) (v := ?vY0x) ?hiY0x (by kernel_rfl) (by kernel_rfl) (by kernel_rfl) ?hqY0x ?hyY0x (by assumption) ?restY0x
      case hiY0x => (simp only [List.getElem?_toArray, List.getElem?_cons_zero] <;> rfl)
      case hqY0x => exact fun _ _ _ h => h
      case hyY0x => exact Or.inl ⟨by rfl, by (intro wS hSw; obtain ⟨c0, c1, c2⟩ := HC4.out wS hSw; go_simp; try with_reducible rfl)⟩
      try simp only [Act.put, List.setIfInBounds_toArray, List.set_cons_zero, List.set_cons_succ]
      refine wpAnyH_take (i := 1) (oi := ?oiY1x) (v := ?vY1x) ?hiY1x (by kernel_rfl) (by kernel_rfl) (by kernel_rfl) ?hqY1x ?hyY1x (by assumption) ?restY1x
      case hiY1x => (simp only [List.getElem?_toArray, List.getElem?_cons_succ, List.getElem?_cons_zero] <;> rfl)
      case hqY1x => exact fun _ _ _ h => h
      case hyY1x => exact Or.inl ⟨by rfl, by (intro wS hSw; obtain ⟨c0, c1, c2⟩ := HC4.out wS hSw; go_simp; try with_reducible rfl)⟩
      try simp only [Act.put, List.setIfInBounds_toArray, List.set_cons_zero, List.set_cons_succ]
      refine wpAnyH_take (i := 3) (oi := ?oiY3x) (v := ?vY3x) ?hiY3x (by kernel_rfl) (by kernel_rfl) (by kernel_rfl) ?hqY3x ?hyY3x (by assumption) ?restY3x
      case hiY3x => (simp only [List.getElem?_toArray, List.getElem?_cons_succ, List.getElem?_cons_zero] <;> rfl)
      case hqY3x => exact fun _ _ _ h => h
      case hyY3x => exact Or.inl ⟨by rfl, by (intro wS hSw; obtain ⟨c0, c1, c2⟩ := HC4.out wS hSw; go_simp; try with_reducible rfl)⟩
      try simp only [Act.put, List.setIfInBounds_toArray, List.set_cons_zero, List.set_cons_succ]
      refine wpAnyH_take (i := 4) (oi := ?oiY4x) (v := ?vY4x) ?hiY4x (by kernel_rfl) (by kernel_rfl) (by kernel_rfl) ?hqY4x ?hyY4x (by assumption) ?restY4x
      case hiY4x => (simp only [List.getElem?_toArray, List.getElem?_cons_succ, List.getElem?_cons_zero] <;> rfl)
      case hqY4x => exact fun _ _ _ h => h
      case hyY4x => exact Or.inl ⟨by rfl, by (intro wS hSw; obtain ⟨c0, c1, c2⟩ := HC4.out wS hSw; go_simp; try with_reducible rfl)⟩
      try simp only [Act.put, List.setIfInBounds_toArray, List.set_cons_zero, List.set_cons_succ]
      clear hH5
      refine wpAnyH_ready (rs := [2, 6, 7]) (by kernel_rfl) (by simp) ?_
      refine AllReadyH.cons (o := ?o1x2) ?h1x2 (fun K hK => ?s1x2) (AllReadyH.cons (o := ?o1x6) ?h1x6 (fun K hK => ?s1x6) (AllReadyH.cons (o := ?o1x7) ?h1x7 (fun K hK => ?s1x7) (AllReadyH.nil)))
      case h1x2 => (simp only [List.getElem?_toArray, List.getElem?_cons_succ, List.getElem?_cons_zero] <;> rfl)
      case h1x6 => (simp only [List.getElem?_toArray, List.getElem?_cons_succ, List.getElem?_cons_zero] <;> rfl)
      case h1x7 => (simp only [List.getElem?_toArray, List.getElem?_cons_succ, List.getElem?_cons_zero] <;> rfl)
      case s1x2 =>
        go_simp
        refine (HP.out q0 Gq0.out).mono ?_
        rintro e q2 ⟨v1, rfl, rr, bb⟩
        obtain ⟨av1, kv1, rfl⟩ := rr.form
        have R1q2 := Lib.hid rr
        have Gq2 := Lib.hid (Gq0.out.trans (bb.mono Gq0.out.size))
        clear bb rr
        go_wp2_with fail
        refine hK.out _ _ Gq2.out (fun hHeld => ?_)
        clear hK K hHeld
        try simp only [Act.put, List.setIfInBounds_toArray, List.set_cons_zero, List.set_cons_succ]
        refine wpAnyH_ready (rs := [5, 6, 7]) (by kernel_rfl) (by simp) ?_
        refine AllReadyH.cons (o := ?o3x5) ?h3x5 (fun K hK => ?s3x5) (AllReadyH.cons (o := ?o3x6) ?h3x6 (fun K hK => ?s3x6) (AllReadyH.cons (o := ?o3x7) ?h3x7 (fun K hK => ?s3x7) (AllReadyH.nil)))
        case h3x5 => (simp only [List.getElem?_toArray, List.getElem?_cons_succ, List.getElem?_cons_zero] <;> rfl)
        case h3x6 => (simp only [List.getElem?_toArray, List.getElem?_cons_succ, List.getElem?_cons_zero] <;> rfl)
        case h3x7 => (simp only [List.getElem?_toArray, List.getElem?_cons_succ, List.getElem?_cons_zero] <;> rfl)
        case s3x5 =>
          go_simp
          refine (HR.out q2 Gq2.out).mono ?_
          rintro e q4 ⟨v2, rfl, rr, bb⟩
          obtain ⟨av2, kv2, rfl⟩ := rr.form
          have R2q4 := Lib.hid rr
          have Gq4 := Lib.hid (Gq2.out.trans (bb.mono Gq2.out.size))
          have R1q4 := Lib.hid (R1q2.out.below bb)
          clear bb rr
          go_wp2_with fail
          refine hK.out _ _ Gq4.out (fun hHeld => ?_)
          clear hK K hHeld
          try simp only [Act.put, List.setIfInBounds_toArray, List.set_cons_zero, List.set_cons_succ]
          refine wpAnyH_ready (rs := [6, 7]) (by kernel_rfl) (by simp) ?_
          refine AllReadyH.cons (o := ?o5x6) ?h5x6 (fun K hK => ?s5x6) (AllReadyH.cons (o := ?o5x7) ?h5x7 (fun K hK => ?s5x7) (AllReadyH.nil))
          case h5x6 => (simp only [List.getElem?_toArray, List.getElem?_cons_succ, List.getElem?_cons_zero] <;> rfl)
          case h5x7 => (simp only [List.getElem?_toArray, List.getElem?_cons_succ, List.getElem?_cons_zero] <;> rfl)
          case s5x6 =>
            go_simp
            have bb : Below q4.heap.size q4 (q4.alloc (.cells #[.int .i64 0, .int .i64 0, .slice none 0 0] 24)) := (Below.refl _ _).alloc (Nat.le_refl _) _
            have nb : (q4.alloc (.cells #[.int .i64 0, .int .i64 0, .slice none 0 0] 24)).heap[q4.heap.size]? = some (.cells #[.int .i64 0, .int .i64 0, .slice none 0 0] 24) := heap_alloc_new q4 _
            obtain ⟨q6, hwn⟩ : ∃ wn, wn = q4.alloc (.cells #[.int .i64 0, .int .i64 0, .slice none 0 0] 24) := ⟨_, rfl⟩
            rw [← hwn] at bb nb ⊢
            obtain ⟨p6, hp6⟩ : ∃ p6, p6 = q4.heap.size := ⟨_, rfl⟩
            have Gq6 := Lib.hid (Gq4.out.trans (bb.mono Gq4.out.size))
            have R1q6 := Lib.hid (R1q4.out.below bb)
            have R2q6 := Lib.hid (R2q4.out.below bb)
            have NB6 := Lib.hid (show w4.heap.size ≤ p6 by rw [hp6]; exact Gq4.out.size)
            rw [← hp6] at nb ⊢
            have L6q6 := Lib.hid nb
            clear bb nb hwn hp6
            refine hK.out _ _ Gq6.out (fun hHeld => ?_)
            clear hK K hHeld
            try simp only [Act.put, List.setIfInBounds_toArray, List.set_cons_zero, List.set_cons_succ]
            refine wpAnyH_ready (rs := [7]) (by kernel_rfl) (by simp) ?_
            refine AllReadyH.cons (o := ?o7x7) ?h7x7 (fun K hK => ?s7x7) (AllReadyH.nil)
            case h7x7 => (simp only [List.getElem?_toArray, List.getElem?_cons_succ, List.getElem?_cons_zero] <;> rfl)
            case s7x7 =>
              go_simp
              have bb : Below q6.heap.size q6 (q6.alloc (.cells #[.int .i64 0, .int .i64 0, .slice none 0 0] 24)) := (Below.refl _ _).alloc (Nat.le_refl _) _
              have nb : (q6.alloc (.cells #[.int .i64 0, .int .i64 0, .slice none 0 0] 24)).heap[q6.heap.size]? = some (.cells #[.int .i64 0, .int .i64 0, .slice none 0 0] 24) := heap_alloc_new q6 _
              obtain ⟨q8, hwn⟩ : ∃ wn, wn = q6.alloc (.cells #[.int .i64 0, .int .i64 0, .slice none 0 0] 24) := ⟨_, rfl⟩
              rw [← hwn] at bb nb ⊢
              obtain ⟨p7, hp7⟩ : ∃ p7, p7 = q6.heap.size := ⟨_, rfl⟩
              have Gq8 := Lib.hid (Gq6.out.trans (bb.mono Gq6.out.size))
              have L6q8 := Lib.hid (old_block L6q6.out bb)
              have R1q8 := Lib.hid (R1q6.out.below bb)
              have R2q8 := Lib.hid (R2q6.out.below bb)
              have NB7 := Lib.hid (show w4.heap.size ≤ p7 by rw [hp7]; exact Gq6.out.size)
              have HNE := Lib.hid (show p6 ≠ p7 from fun e => by have := block_lt L6q6.out; omega)
              rw [← hp7] at nb ⊢
              have L7q8 := Lib.hid nb
              clear bb nb hwn hp7
              refine hK.out _ _ Gq8.out (fun hHeld => ?_)
              clear hK K hHeld
              try simp only [Act.put, List.setIfInBounds_toArray, List.set_cons_zero, List.set_cons_succ]
              refine wpAnyH_ready (rs := [8]) (by kernel_rfl) (by simp) ?_
              refine AllReadyH.cons (o := ?o9x8) ?h9x8 (fun K hK => ?s9x8) (AllReadyH.nil)
              case h9x8 => (simp only [List.getElem?_toArray, List.getElem?_cons_succ, List.getElem?_cons_zero] <;> rfl)
              case s9x8 =>
                have e0 := cell_of_row _ _ 0 _ _ _ L6q8.out
                have e1 := cell_of_row _ _ 1 _ _ _ L6q8.out
                have e2 := cell_of_row _ _ 2 _ _ _ L6q8.out
                obtain ⟨f0, f1, f2⟩ := no_frozen L6q8.out
                go_simp
                obtain ⟨q10, hwn⟩ : ∃ wn, wn = (((q8.setCell ⟨p6, 0, none⟩ (.int .i64 su)).setCell ⟨p6, 1, none⟩ (.int .i64 ty)).setCell ⟨p6, 2, none⟩ (.slice av1 (addL xs s).length kv1)) := ⟨_, rfl⟩
                rw [← hwn]
                have ST := store3 (B := w4.heap.size) (wo := w4) L6q8.out Gq8.out NB6.out su ty (.slice av1 (addL xs s).length kv1)
                rw [← hwn] at ST
                obtain ⟨l6, l7, rs, gg⟩ := ST
                have L6q10 := Lib.hid l6
                have L7q10 := Lib.hid ((l7 p7 (Ne.symm HNE.out)).trans L7q8.out)
                have R1q10 := Lib.hid (rs _ _ R1q8.out)
                have R2q10 := Lib.hid (rs _ _ R2q8.out)
                have Gq10 := Lib.hid gg
                clear l6 l7 rs gg hwn e0 e1 e2 f0 f1 f2
                refine hK.out _ _ Gq10.out (fun hHeld => ?_)
                clear hK K hHeld
                try simp only [Act.put, List.setIfInBounds_toArray, List.set_cons_zero, List.set_cons_succ]
                refine wpAnyH_ready (rs := [9]) (by kernel_rfl) (by simp) ?_
                refine AllReadyH.cons (o := ?o11x9) ?h11x9 (fun K hK => ?s11x9) (AllReadyH.nil)
                case h11x9 => (simp only [List.getElem?_toArray, List.getElem?_cons_succ, List.getElem?_cons_zero] <;> rfl)
                case s11x9 =>
                  have e0 := cell_of_row _ _ 0 _ _ _ L7q10.out
                  have e1 := cell_of_row _ _ 1 _ _ _ L7q10.out
                  have e2 := cell_of_row _ _ 2 _ _ _ L7q10.out
                  obtain ⟨f0, f1, f2⟩ := no_frozen L7q10.out
                  go_simp
                  obtain ⟨q12, hwn⟩ : ∃ wn, wn = (((q10.setCell ⟨p7, 0, none⟩ (.int .i64 su)).setCell ⟨p7, 1, none⟩ (.int .i64 ty)).setCell ⟨p7, 2, none⟩ (.slice av2 (addL xs s).length kv2)) := ⟨_, rfl⟩
                  rw [← hwn]
                  have ST := store3 (B := w4.heap.size) (wo := w4) L7q10.out Gq10.out NB7.out su ty (.slice av2 (addL xs s).length kv2)
                  rw [← hwn] at ST
                  obtain ⟨l7, l6, rs, gg⟩ := ST
                  have L7q12 := Lib.hid l7
                  have L6q12 := Lib.hid ((l6 p6 HNE.out).trans L6q10.out)
                  have R1q12 := Lib.hid (rs _ _ R1q10.out)
                  have R2q12 := Lib.hid (rs _ _ R2q10.out)
                  have Gq12 := Lib.hid gg
                  clear l6 l7 rs gg hwn e0 e1 e2 f0 f1 f2
                  refine hK.out _ _ Gq12.out (fun hHeld => ?_)
                  clear hK K hHeld
                  try simp only [Act.put, List.setIfInBounds_toArray, List.set_cons_zero, List.set_cons_succ]
                  refine wpAnyH_done (by kernel_rfl) ?_ _
                  refine NoPanic.normal ?_
                  go_wp2_with fail
                  go_meet
                  case rel => exact ⟨p6, p7, _, _, rfl, rfl, L6q12.out, L7q12.out, R1q12.out, R2q12.out, Gq12.out⟩
          case s5x7 =>
            go_simp
            have bb : Below q4.heap.size q4 (q4.alloc (.cells #[.int .i64 0, .int .i64 0, .slice none 0 0] 24)) := (Below.refl _ _).alloc (Nat.le_refl _) _
            have nb : (q4.alloc (.cells #[.int .i64 0, .int .i64 0, .slice none 0 0] 24)).heap[q4.heap.size]? = some (.cells #[.int .i64 0, .int .i64 0, .slice none 0 0] 24) := heap_alloc_new q4 _
            obtain ⟨q13, hwn⟩ : ∃ wn, wn = q4.alloc (.cells #[.int .i64 0, .int .i64 0, .slice none 0 0] 24) := ⟨_, rfl⟩
            rw [← hwn] at bb nb ⊢
            obtain ⟨p7, hp7⟩ : ∃ p7, p7 = q4.heap.size := ⟨_, rfl⟩
            have Gq13 := Lib.hid (Gq4.out.trans (bb.mono Gq4.out.size))
            have R1q13 := Lib.hid (R1q4.out.below bb)
            have R2q13 := Lib.hid (R2q4.out.below bb)
            have NB7 := Lib.hid (show w4.heap.size ≤ p7 by rw [hp7]; exact Gq4.out.size)
            rw [← hp7] at nb ⊢
            have L7q13 := Lib.hid nb
            clear bb nb hwn hp7
            refine hK.out _ _ Gq13.out (fun hHeld => ?_)
            clear hK K hHeld
            try simp only [Act.put, List.setIfInBounds_toArray, List.set_cons_zero, List.set_cons_succ]
            refine wpAnyH_ready (rs := [6]) (by kernel_rfl) (by simp) ?_
            refine AllReadyH.cons (o := ?o14x6) ?h14x6 (fun K hK => ?s14x6) (AllReadyH.nil)
            case h14x6 => (simp only [List.getElem?_toArray, List.getElem?_cons_succ, List.getElem?_cons_zero] <;> rfl)
            case s14x6 =>
              go_simp
              have bb : Below q13.heap.size q13 (q13.alloc (.cells #[.int .i64 0, .int .i64 0, .slice none 0 0] 24)) := (Below.refl _ _).alloc (Nat.le_refl _) _
              have nb : (q13.alloc (.cells #[.int .i64 0, .int .i64 0, .slice none 0 0] 24)).heap[q13.heap.size]? = some (.cells #[.int .i64 0, .int .i64 0, .slice none 0 0] 24) := heap_alloc_new q13 _
              obtain ⟨q15, hwn⟩ : ∃ wn, wn = q13.alloc (.cells #[.int .i64 0, .int .i64 0, .slice none 0 0] 24) := ⟨_, rfl⟩
              rw [← hwn] at bb nb ⊢
              obtain ⟨p6, hp6⟩ : ∃ p6, p6 = q13.heap.size := ⟨_, rfl⟩
              have Gq15 := Lib.hid (Gq13.out.trans (bb.mono Gq13.out.size))
              have R1q15 := Lib.hid (R1q13.out.below bb)
              have L7q15 := Lib.hid (old_block L7q13.out bb)
              have R2q15 := Lib.hid (R2q13.out.below bb)
              have NB6 := Lib.hid (show w4.heap.size ≤ p6 by rw [hp6]; exact Gq13.out.size)
              have HNE := Lib.hid (show p6 ≠ p7 from fun e => by have := block_lt L7q13.out; omega)
              rw [← hp6] at nb ⊢
              have L6q15 := Lib.hid nb
              clear bb nb hwn hp6
              refine hK.out _ _ Gq15.out (fun hHeld => ?_)
              clear hK K hHeld
              try simp only [Act.put, List.setIfInBounds_toArray, List.set_cons_zero, List.set_cons_succ]
              refine wpAnyH_ready (rs := [8]) (by kernel_rfl) (by simp) ?_
              refine AllReadyH.cons (o := ?o16x8) ?h16x8 (fun K hK => ?s16x8) (AllReadyH.nil)
              case h16x8 => (simp only [List.getElem?_toArray, List.getElem?_cons_succ, List.getElem?_cons_zero] <;> rfl)
              case s16x8 =>
                have e0 := cell_of_row _ _ 0 _ _ _ L6q15.out
                have e1 := cell_of_row _ _ 1 _ _ _ L6q15.out
                have e2 := cell_of_row _ _ 2 _ _ _ L6q15.out
                obtain ⟨f0, f1, f2⟩ := no_frozen L6q15.out
                go_simp
                obtain ⟨q17, hwn⟩ : ∃ wn, wn = (((q15.setCell ⟨p6, 0, none⟩ (.int .i64 su)).setCell ⟨p6, 1, none⟩ (.int .i64 ty)).setCell ⟨p6, 2, none⟩ (.slice av1 (addL xs s).length kv1)) := ⟨_, rfl⟩
                rw [← hwn]
                have ST := store3 (B := w4.heap.size) (wo := w4) L6q15.out Gq15.out NB6.out su ty (.slice av1 (addL xs s).length kv1)
                rw [← hwn] at ST
                obtain ⟨l6, l7, rs, gg⟩ := ST
                have L6q17 := Lib.hid l6
                have L7q17 := Lib.hid ((l7 p7 (Ne.symm HNE.out)).trans L7q15.out)
                have R1q17 := Lib.hid (rs _ _ R1q15.out)
                have R2q17 := Lib.hid (rs _ _ R2q15.out)
                have Gq17 := Lib.hid gg
                clear l6 l7 rs gg hwn e0 e1 e2 f0 f1 f2
                refine hK.out _ _ Gq17.out (fun hHeld => ?_)
                clear hK K hHeld
                try simp only [Act.put, List.setIfInBounds_toArray, List.set_cons_zero, List.set_cons_succ]
                refine wpAnyH_ready (rs := [9]) (by kernel_rfl) (by simp) ?_
                refine AllReadyH.cons (o := ?o18x9) ?h18x9 (fun K hK => ?s18x9) (AllReadyH.nil)
                case h18x9 => (simp only [List.getElem?_toArray, List.getElem?_cons_succ, List.getElem?_cons_zero] <;> rfl)
                case s18x9 =>
                  have e0 := cell_of_row _ _ 0 _ _ _ L7q17.out
                  have e1 := cell_of_row _ _ 1 _ _ _ L7q17.out
                  have e2 := cell_of_row _ _ 2 _ _ _ L7q17.out
                  obtain ⟨f0, f1, f2⟩ := no_frozen L7q17.out
                  go_simp
                  obtain ⟨q19, hwn⟩ : ∃ wn, wn = (((q17.setCell ⟨p7, 0, none⟩ (.int .i64 su)).setCell ⟨p7, 1, none⟩ (.int .i64 ty)).setCell ⟨p7, 2, none⟩ (.slice av2 (addL xs s).length kv2)) := ⟨_, rfl⟩
                  rw [← hwn]
                  have ST := store3 (B := w4.heap.size) (wo := w4) L7q17.out Gq17.out NB7.out su ty (.slice av2 (addL xs s).length kv2)
                  rw [← hwn] at ST
                  obtain ⟨l7, l6, rs, gg⟩ := ST
                  have L7q19 := Lib.hid l7
                  have L6q19 := Lib.hid ((l6 p6 HNE.out).trans L6q17.out)
                  have R1q19 := Lib.hid (rs _ _ R1q17.out)
                  have R2q19 := Lib.hid (rs _ _ R2q17.out)
                  have Gq19 := Lib.hid gg
                  clear l6 l7 rs gg hwn e0 e1 e2 f0 f1 f2
                  refine hK.out _ _ Gq19.out (fun hHeld => ?_)
                  clear hK K hHeld
                  try simp only [Act.put, List.setIfInBounds_toArray, List.set_cons_zero, List.set_cons_succ]
                  refine wpAnyH_done (by kernel_rfl) ?_ _
                  refine NoPanic.normal ?_
                  go_wp2_with fail
                  go_meet
                  case rel => exact ⟨p6, p7, _, _, rfl, rfl, L6q19.out, L7q19.out, R1q19.out, R2q19.out, Gq19.out⟩
        case s3x6 =>
          go_simp
          have bb : Below q2.heap.size q2 (q2.alloc (.cells #[.int .i64 0, .int .i64 0, .slice none 0 0] 24)) := (Below.refl _ _).alloc (Nat.le_refl _) _
          have nb : (q2.alloc (.cells #[.int .i64 0, .int .i64 0, .slice none 0 0] 24)).heap[q2.heap.size]? = some (.cells #[.int .i64 0, .int .i64 0, .slice none 0 0] 24) := heap_alloc_new q2 _
          obtain ⟨q20, hwn⟩ : ∃ wn, wn = q2.alloc (.cells #[.int .i64 0, .int .i64 0, .slice none 0 0] 24) := ⟨_, rfl⟩
          rw [← hwn] at bb nb ⊢
          obtain ⟨p6, hp6⟩ : ∃ p6, p6 = q2.heap.size := ⟨_, rfl⟩
          have Gq20 := Lib.hid (Gq2.out.trans (bb.mono Gq2.out.size))
          have R1q20 := Lib.hid (R1q2.out.below bb)
          have NB6 := Lib.hid (show w4.heap.size ≤ p6 by rw [hp6]; exact Gq2.out.size)
          rw [← hp6] at nb ⊢
          have L6q20 := Lib.hid nb
          clear bb nb hwn hp6
          refine hK.out _ _ Gq20.out (fun hHeld => ?_)
          clear hK K hHeld
          try simp only [Act.put, List.setIfInBounds_toArray, List.set_cons_zero, List.set_cons_succ]
          refine wpAnyH_ready (rs := [5, 7]) (by kernel_rfl) (by simp) ?_
          refine AllReadyH.cons (o := ?o21x5) ?h21x5 (fun K hK => ?s21x5) (AllReadyH.cons (o := ?o21x7) ?h21x7 (fun K hK => ?s21x7) (AllReadyH.nil))
          case h21x5 => (simp only [List.getElem?_toArray, List.getElem?_cons_succ, List.getElem?_cons_zero] <;> rfl)
          case h21x7 => (simp only [List.getElem?_toArray, List.getElem?_cons_succ, List.getElem?_cons_zero] <;> rfl)
          case s21x5 =>
            go_simp
            refine (HR.out q20 Gq20.out).mono ?_
            rintro e q22 ⟨v2, rfl, rr, bb⟩
            obtain ⟨av2, kv2, rfl⟩ := rr.form
            have R2q22 := Lib.hid rr
            have Gq22 := Lib.hid (Gq20.out.trans (bb.mono Gq20.out.size))
            have R1q22 := Lib.hid (R1q20.out.below bb)
            have L6q22 := Lib.hid (old_block L6q20.out bb)
            clear bb rr
            go_wp2_with fail
            refine hK.out _ _ Gq22.out (fun hHeld => ?_)
            clear hK K hHeld
            try simp only [Act.put, List.setIfInBounds_toArray, List.set_cons_zero, List.set_cons_succ]
            refine wpAnyH_ready (rs := [7]) (by kernel_rfl) (by simp) ?_
            refine AllReadyH.cons (o := ?o23x7) ?h23x7 (fun K hK => ?s23x7) (AllReadyH.nil)
            case h23x7 => (simp only [List.getElem?_toArray, List.getElem?_cons_succ, List.getElem?_cons_zero] <;> rfl)
            case s23x7 =>
              go_simp
              have bb : Below q22.heap.size q22 (q22.alloc (.cells #[.int .i64 0, .int .i64 0, .slice none 0 0] 24)) := (Below.refl _ _).alloc (Nat.le_refl _) _
              have nb : (q22.alloc (.cells #[.int .i64 0, .int .i64 0, .slice none 0 0] 24)).heap[q22.heap.size]? = some (.cells #[.int .i64 0, .int .i64 0, .slice none 0 0] 24) := heap_alloc_new q22 _
              obtain ⟨q24, hwn⟩ : ∃ wn, wn = q22.alloc (.cells #[.int .i64 0, .int .i64 0, .slice none 0 0] 24) := ⟨_, rfl⟩
              rw [← hwn] at bb nb ⊢
              obtain ⟨p7, hp7⟩ : ∃ p7, p7 = q22.heap.size := ⟨_, rfl⟩
              have Gq24 := Lib.hid (Gq22.out.trans (bb.mono Gq22.out.size))
              have R2q24 := Lib.hid (R2q22.out.below bb)
              have R1q24 := Lib.hid (R1q22.out.below bb)
              have L6q24 := Lib.hid (old_block L6q22.out bb)
              have NB7 := Lib.hid (show w4.heap.size ≤ p7 by rw [hp7]; exact Gq22.out.size)
              have HNE := Lib.hid (show p6 ≠ p7 from fun e => by have := block_lt L6q22.out; omega)
              rw [← hp7] at nb ⊢
              have L7q24 := Lib.hid nb
              clear bb nb hwn hp7
              refine hK.out _ _ Gq24.out (fun hHeld => ?_)
              clear hK K hHeld
              try simp only [Act.put, List.setIfInBounds_toArray, List.set_cons_zero, List.set_cons_succ]
              refine wpAnyH_ready (rs := [8]) (by kernel_rfl) (by simp) ?_
              refine AllReadyH.cons (o := ?o25x8) ?h25x8 (fun K hK => ?s25x8) (AllReadyH.nil)
              case h25x8 => (simp only [List.getElem?_toArray, List.getElem?_cons_succ, List.getElem?_cons_zero] <;> rfl)
              case s25x8 =>
                have e0 := cell_of_row _ _ 0 _ _ _ L6q24.out
                have e1 := cell_of_row _ _ 1 _ _ _ L6q24.out
                have e2 := cell_of_row _ _ 2 _ _ _ L6q24.out
                obtain ⟨f0, f1, f2⟩ := no_frozen L6q24.out
                go_simp
                obtain ⟨q26, hwn⟩ : ∃ wn, wn = (((q24.setCell ⟨p6, 0, none⟩ (.int .i64 su)).setCell ⟨p6, 1, none⟩ (.int .i64 ty)).setCell ⟨p6, 2, none⟩ (.slice av1 (addL xs s).length kv1)) := ⟨_, rfl⟩
                rw [← hwn]
                have ST := store3 (B := w4.heap.size) (wo := w4) L6q24.out Gq24.out NB6.out su ty (.slice av1 (addL xs s).length kv1)
                rw [← hwn] at ST
                obtain ⟨l6, l7, rs, gg⟩ := ST
                have L6q26 := Lib.hid l6
                have L7q26 := Lib.hid ((l7 p7 (Ne.symm HNE.out)).trans L7q24.out)
                have R1q26 := Lib.hid (rs _ _ R1q24.out)
                have R2q26 := Lib.hid (rs _ _ R2q24.out)
                have Gq26 := Lib.hid gg
                clear l6 l7 rs gg hwn e0 e1 e2 f0 f1 f2
                refine hK.out _ _ Gq26.out (fun hHeld => ?_)
                clear hK K hHeld
                try simp only [Act.put, List.setIfInBounds_toArray, List.set_cons_zero, List.set_cons_succ]
                refine wpAnyH_ready (rs := [9]) (by kernel_rfl) (by simp) ?_
                refine AllReadyH.cons (o := ?o27x9) ?h27x9 (fun K hK => ?s27x9) (AllReadyH.nil)
                case h27x9 => (simp only [List.getElem?_toArray, List.getElem?_cons_succ, List.getElem?_cons_zero] <;> rfl)
                case s27x9 =>
                  have e0 := cell_of_row _ _ 0 _ _ _ L7q26.out
                  have e1 := cell_of_row _ _ 1 _ _ _ L7q26.out
                  have e2 := cell_of_row _ _ 2 _ _ _ L7q26.out
                  obtain ⟨f0, f1, f2⟩ := no_frozen L7q26.out
                  go_simp
                  obtain ⟨q28, hwn⟩ : ∃ wn, wn = (((q26.setCell ⟨p7, 0, none⟩ (.int .i64 su)).setCell ⟨p7, 1, none⟩ (.int .i64 ty)).setCell ⟨p7, 2, none⟩ (.slice av2 (addL xs s).length kv2)) := ⟨_, rfl⟩
                  rw [← hwn]
                  have ST := store3 (B := w4.heap.size) (wo := w4) L7q26.out Gq26.out NB7.out su ty (.slice av2 (addL xs s).length kv2)
                  rw [← hwn] at ST
                  obtain ⟨l7, l6, rs, gg⟩ := ST
                  have L7q28 := Lib.hid l7
                  have L6q28 := Lib.hid ((l6 p6 HNE.out).trans L6q26.out)
                  have R1q28 := Lib.hid (rs _ _ R1q26.out)
                  have R2q28 := Lib.hid (rs _ _ R2q26.out)
                  have Gq28 := Lib.hid gg
                  clear l6 l7 rs gg hwn e0 e1 e2 f0 f1 f2
                  refine hK.out _ _ Gq28.out (fun hHeld => ?_)
                  clear hK K hHeld
                  try simp only [Act.put, List.setIfInBounds_toArray, List.set_cons_zero, List.set_cons_succ]
                  refine wpAnyH_done (by kernel_rfl) ?_ _
                  refine NoPanic.normal ?_
                  go_wp2_with fail
                  go_meet
                  case rel => exact ⟨p6, p7, _, _, rfl, rfl, L6q28.out, L7q28.out, R1q28.out, R2q28.out, Gq28.out⟩
          case s21x7 =>
            go_simp
            have bb : Below q20.heap.size q20 (q20.alloc (.cells #[.int .i64 0, .int .i64 0, .slice none 0 0] 24)) := (Below.refl _ _).alloc (Nat.le_refl _) _
            have nb : (q20.alloc (.cells #[.int .i64 0, .int .i64 0, .slice none 0 0] 24)).heap[q20.heap.size]? = some (.cells #[.int .i64 0, .int .i64 0, .slice none 0 0] 24) := heap_alloc_new q20 _
            obtain ⟨q29, hwn⟩ : ∃ wn, wn = q20.alloc (.cells #[.int .i64 0, .int .i64 0, .slice none 0 0] 24) := ⟨_, rfl⟩
            rw [← hwn] at bb nb ⊢
            obtain ⟨p7, hp7⟩ : ∃ p7, p7 = q20.heap.size := ⟨_, rfl⟩
            have Gq29 := Lib.hid (Gq20.out.trans (bb.mono Gq20.out.size))
            have R1q29 := Lib.hid (R1q20.out.below bb)
            have L6q29 := Lib.hid (old_block L6q20.out bb)
            have NB7 := Lib.hid (show w4.heap.size ≤ p7 by rw [hp7]; exact Gq20.out.size)
            have HNE := Lib.hid (show p6 ≠ p7 from fun e => by have := block_lt L6q20.out; omega)
            rw [← hp7] at nb ⊢
            have L7q29 := Lib.hid nb
            clear bb nb hwn hp7
            refine hK.out _ _ Gq29.out (fun hHeld => ?_)
            clear hK K hHeld
            try simp only [Act.put, List.setIfInBounds_toArray, List.set_cons_zero, List.set_cons_succ]
            refine wpAnyH_ready (rs := [5]) (by kernel_rfl) (by simp) ?_
            refine AllReadyH.cons (o := ?o30x5) ?h30x5 (fun K hK => ?s30x5) (AllReadyH.nil)
            case h30x5 => (simp only [List.getElem?_toArray, List.getElem?_cons_succ, List.getElem?_cons_zero] <;> rfl)
            case s30x5 =>
              go_simp
              refine (HR.out q29 Gq29.out).mono ?_
              rintro e q31 ⟨v2, rfl, rr, bb⟩
              obtain ⟨av2, kv2, rfl⟩ := rr.form
              have R2q31 := Lib.hid rr
              have Gq31 := Lib.hid (Gq29.out.trans (bb.mono Gq29.out.size))
              have R1q31 := Lib.hid (R1q29.out.below bb)
              have L7q31 := Lib.hid (old_block L7q29.out bb)
              have L6q31 := Lib.hid (old_block L6q29.out bb)
              clear bb rr
              go_wp2_with fail
              refine hK.out _ _ Gq31.out (fun hHeld => ?_)
              clear hK K hHeld
              try simp only [Act.put, List.setIfInBounds_toArray, List.set_cons_zero, List.set_cons_succ]
              refine wpAnyH_ready (rs := [8]) (by kernel_rfl) (by simp) ?_
              refine AllReadyH.cons (o := ?o32x8) ?h32x8 (fun K hK => ?s32x8) (AllReadyH.nil)
              case h32x8 => (simp only [List.getElem?_toArray, List.getElem?_cons_succ, List.getElem?_cons_zero] <;> rfl)
              case s32x8 =>
                have e0 := cell_of_row _ _ 0 _ _ _ L6q31.out
                have e1 := cell_of_row _ _ 1 _ _ _ L6q31.out
                have e2 := cell_of_row _ _ 2 _ _ _ L6q31.out
                obtain ⟨f0, f1, f2⟩ := no_frozen L6q31.out
                go_simp
                obtain ⟨q33, hwn⟩ : ∃ wn, wn = (((q31.setCell ⟨p6, 0, none⟩ (.int .i64 su)).setCell ⟨p6, 1, none⟩ (.int .i64 ty)).setCell ⟨p6, 2, none⟩ (.slice av1 (addL xs s).length kv1)) := ⟨_, rfl⟩
                rw [← hwn]
                have ST := store3 (B := w4.heap.size) (wo := w4) L6q31.out Gq31.out NB6.out su ty (.slice av1 (addL xs s).length kv1)
                rw [← hwn] at ST
                obtain ⟨l6, l7, rs, gg⟩ := ST
                have L6q33 := Lib.hid l6
                have L7q33 := Lib.hid ((l7 p7 (Ne.symm HNE.out)).trans L7q31.out)
                have R1q33 := Lib.hid (rs _ _ R1q31.out)
                have R2q33 := Lib.hid (rs _ _ R2q31.out)
                have Gq33 := Lib.hid gg
                clear l6 l7 rs gg hwn e0 e1 e2 f0 f1 f2
                refine hK.out _ _ Gq33.out (fun hHeld => ?_)
                clear hK K hHeld
                try simp only [Act.put, List.setIfInBounds_toArray, List.set_cons_zero, List.set_cons_succ]
                refine wpAnyH_ready (rs := [9]) (by kernel_rfl) (by simp) ?_
                refine AllReadyH.cons (o := ?o34x9) ?h34x9 (fun K hK => ?s34x9) (AllReadyH.nil)
                case h34x9 => (simp only [List.getElem?_toArray, List.getElem?_cons_succ, List.getElem?_cons_zero] <;> rfl)
                case s34x9 =>
                  have e0 := cell_of_row _ _ 0 _ _ _ L7q33.out
                  have e1 := cell_of_row _ _ 1 _ _ _ L7q33.out
                  have e2 := cell_of_row _ _ 2 _ _ _ L7q33.out
                  obtain ⟨f0, f1, f2⟩ := no_frozen L7q33.out
                  go_simp
                  obtain ⟨q35, hwn⟩ : ∃ wn, wn = (((q33.setCell ⟨p7, 0, none⟩ (.int .i64 su)).setCell ⟨p7, 1, none⟩ (.int .i64 ty)).setCell ⟨p7, 2, none⟩ (.slice av2 (addL xs s).length kv2)) := ⟨_, rfl⟩
                  rw [← hwn]
                  have ST := store3 (B := w4.heap.size) (wo := w4) L7q33.out Gq33.out NB7.out su ty (.slice av2 (addL xs s).length kv2)
                  rw [← hwn] at ST
                  obtain ⟨l7, l6, rs, gg⟩ := ST
                  have L7q35 := Lib.hid l7
                  have L6q35 := Lib.hid ((l6 p6 HNE.out).trans L6q33.out)
                  have R1q35 := Lib.hid (rs _ _ R1q33.out)
                  have R2q35 := Lib.hid (rs _ _ R2q33.out)
                  have Gq35 := Lib.hid gg
                  clear l6 l7 rs gg hwn e0 e1 e2 f0 f1 f2
                  refine hK.out _ _ Gq35.out (fun hHeld => ?_)
                  clear hK K hHeld
                  try simp only [Act.put, List.setIfInBounds_toArray, List.set_cons_zero, List.set_cons_succ]
                  refine wpAnyH_done (by kernel_rfl) ?_ _
                  refine NoPanic.normal ?_
                  go_wp2_with fail
                  go_meet
                  case rel => exact ⟨p6, p7, _, _, rfl, rfl, L6q35.out, L7q35.out, R1q35.out, R2q35.out, Gq35.out⟩
        case s3x7 =>
          go_simp
          have bb : Below q2.heap.size q2 (q2.alloc (.cells #[.int .i64 0, .int .i64 0, .slice none 0 0] 24)) := (Below.refl _ _).alloc (Nat.le_refl _) _
          have nb : (q2.alloc (.cells #[.int .i64 0, .int .i64 0, .slice none 0 0] 24)).heap[q2.heap.size]? = some (.cells #[.int .i64 0, .int .i64 0, .slice none 0 0] 24) := heap_alloc_new q2 _
          obtain ⟨q36, hwn⟩ : ∃ wn, wn = q2.alloc (.cells #[.int .i64 0, .int .i64 0, .slice none 0 0] 24) := ⟨_, rfl⟩
          rw [← hwn] at bb nb ⊢
          obtain ⟨p7, hp7⟩ : ∃ p7, p7 = q2.heap.size := ⟨_, rfl⟩
          have Gq36 := Lib.hid (Gq2.out.trans (bb.mono Gq2.out.size))
          have R1q36 := Lib.hid (R1q2.out.below bb)
          have NB7 := Lib.hid (show w4.heap.size ≤ p7 by rw [hp7]; exact Gq2.out.size)
          rw [← hp7] at nb ⊢
          have L7q36 := Lib.hid nb
          clear bb nb hwn hp7
          refine hK.out _ _ Gq36.out (fun hHeld => ?_)
          clear hK K hHeld
          try simp only [Act.put, List.setIfInBounds_toArray, List.set_cons_zero, List.set_cons_succ]
          refine wpAnyH_ready (rs := [5, 6]) (by kernel_rfl) (by simp) ?_
          refine AllReadyH.cons (o := ?o37x5) ?h37x5 (fun K hK => ?s37x5) (AllReadyH.cons (o := ?o37x6) ?h37x6 (fun K hK => ?s37x6) (AllReadyH.nil))
          case h37x5 => (simp only [List.getElem?_toArray, List.getElem?_cons_succ, List.getElem?_cons_zero] <;> rfl)
          case h37x6 => (simp only [List.getElem?_toArray, List.getElem?_cons_succ, List.getElem?_cons_zero] <;> rfl)
          case s37x5 =>
            go_simp
            refine (HR.out q36 Gq36.out).mono ?_
            rintro e q38 ⟨v2, rfl, rr, bb⟩
            obtain ⟨av2, kv2, rfl⟩ := rr.form
            have R2q38 := Lib.hid rr
            have Gq38 := Lib.hid (Gq36.out.trans (bb.mono Gq36.out.size))
            have R1q38 := Lib.hid (R1q36.out.below bb)
            have L7q38 := Lib.hid (old_block L7q36.out bb)
            clear bb rr
            go_wp2_with fail
            refine hK.out _ _ Gq38.out (fun hHeld => ?_)
            clear hK K hHeld
            try simp only [Act.put, List.setIfInBounds_toArray, List.set_cons_zero, List.set_cons_succ]
            refine wpAnyH_ready (rs := [6]) (by kernel_rfl) (by simp) ?_
            refine AllReadyH.cons (o := ?o39x6) ?h39x6 (fun K hK => ?s39x6) (AllReadyH.nil)
            case h39x6 => (simp only [List.getElem?_toArray, List.getElem?_cons_succ, List.getElem?_cons_zero] <;> rfl)
            case s39x6 =>
              go_simp
              have bb : Below q38.heap.size q38 (q38.alloc (.cells #[.int .i64 0, .int .i64 0, .slice none 0 0] 24)) := (Below.refl _ _).alloc (Nat.le_refl _) _
              have nb : (q38.alloc (.cells #[.int .i64 0, .int .i64 0, .slice none 0 0] 24)).heap[q38.heap.size]? = some (.cells #[.int .i64 0, .int .i64 0, .slice none 0 0] 24) := heap_alloc_new q38 _
              obtain ⟨q40, hwn⟩ : ∃ wn, wn = q38.alloc (.cells #[.int .i64 0, .int .i64 0, .slice none 0 0] 24) := ⟨_, rfl⟩
              rw [← hwn] at bb nb ⊢
              obtain ⟨p6, hp6⟩ : ∃ p6, p6 = q38.heap.size := ⟨_, rfl⟩
              have Gq40 := Lib.hid (Gq38.out.trans (bb.mono Gq38.out.size))
              have R1q40 := Lib.hid (R1q38.out.below bb)
              have L7q40 := Lib.hid (old_block L7q38.out bb)
              have R2q40 := Lib.hid (R2q38.out.below bb)
              have NB6 := Lib.hid (show w4.heap.size ≤ p6 by rw [hp6]; exact Gq38.out.size)
              have HNE := Lib.hid (show p6 ≠ p7 from fun e => by have := block_lt L7q38.out; omega)
              rw [← hp6] at nb ⊢
              have L6q40 := Lib.hid nb
              clear bb nb hwn hp6
              refine hK.out _ _ Gq40.out (fun hHeld => ?_)
              clear hK K hHeld
              try simp only [Act.put, List.setIfInBounds_toArray, List.set_cons_zero, List.set_cons_succ]
              refine wpAnyH_ready (rs := [8]) (by kernel_rfl) (by simp) ?_
              refine AllReadyH.cons (o := ?o41x8) ?h41x8 (fun K hK => ?s41x8) (AllReadyH.nil)
              case h41x8 => (simp only [List.getElem?_toArray, List.getElem?_cons_succ, List.getElem?_cons_zero] <;> rfl)
              case s41x8 =>
                have e0 := cell_of_row _ _ 0 _ _ _ L6q40.out
                have e1 := cell_of_row _ _ 1 _ _ _ L6q40.out
                have e2 := cell_of_row _ _ 2 _ _ _ L6q40.out
                obtain ⟨f0, f1, f2⟩ := no_frozen L6q40.out
                go_simp
                obtain ⟨q42, hwn⟩ : ∃ wn, wn = (((q40.setCell ⟨p6, 0, none⟩ (.int .i64 su)).setCell ⟨p6, 1, none⟩ (.int .i64 ty)).setCell ⟨p6, 2, none⟩ (.slice av1 (addL xs s).length kv1)) := ⟨_, rfl⟩
                rw [← hwn]
                have ST := store3 (B := w4.heap.size) (wo := w4) L6q40.out Gq40.out NB6.out su ty (.slice av1 (addL xs s).length kv1)
                rw [← hwn] at ST
                obtain ⟨l6, l7, rs, gg⟩ := ST
                have L6q42 := Lib.hid l6
                have L7q42 := Lib.hid ((l7 p7 (Ne.symm HNE.out)).trans L7q40.out)
                have R1q42 := Lib.hid (rs _ _ R1q40.out)
                have R2q42 := Lib.hid (rs _ _ R2q40.out)
                have Gq42 := Lib.hid gg
                clear l6 l7 rs gg hwn e0 e1 e2 f0 f1 f2
                refine hK.out _ _ Gq42.out (fun hHeld => ?_)
                clear hK K hHeld
                try simp only [Act.put, List.setIfInBounds_toArray, List.set_cons_zero, List.set_cons_succ]
                refine wpAnyH_ready (rs := [9]) (by kernel_rfl) (by simp) ?_
                refine AllReadyH.cons (o := ?o43x9) ?h43x9 (fun K hK => ?s43x9) (AllReadyH.nil)
                case h43x9 => (simp only [List.getElem?_toArray, List.getElem?_cons_succ, List.getElem?_cons_zero] <;> rfl)
                case s43x9 =>
                  have e0 := cell_of_row _ _ 0 _ _ _ L7q42.out
                  have e1 := cell_of_row _ _ 1 _ _ _ L7q42.out
                  have e2 := cell_of_row _ _ 2 _ _ _ L7q42.out
                  obtain ⟨f0, f1, f2⟩ := no_frozen L7q42.out
                  go_simp
                  obtain ⟨q44, hwn⟩ : ∃ wn, wn = (((q42.setCell ⟨p7, 0, none⟩ (.int .i64 su)).setCell ⟨p7, 1, none⟩ (.int .i64 ty)).setCell ⟨p7, 2, none⟩ (.slice av2 (addL xs s).length kv2)) := ⟨_, rfl⟩
                  rw [← hwn]
                  have ST := store3 (B := w4.heap.size) (wo := w4) L7q42.out Gq42.out NB7.out su ty (.slice av2 (addL xs s).length kv2)
                  rw [← hwn] at ST
                  obtain ⟨l7, l6, rs, gg⟩ := ST
                  have L7q44 := Lib.hid l7
                  have L6q44 := Lib.hid ((l6 p6 HNE.out).trans L6q42.out)
                  have R1q44 := Lib.hid (rs _ _ R1q42.out)
                  have R2q44 := Lib.hid (rs _ _ R2q42.out)
                  have Gq44 := Lib.hid gg
                  clear l6 l7 rs gg hwn e0 e1 e2 f0 f1 f2
                  refine hK.out _ _ Gq44.out (fun hHeld => ?_)
                  clear hK K hHeld
                  try simp only [Act.put, List.setIfInBounds_toArray, List.set_cons_zero, List.set_cons_succ]
                  refine wpAnyH_done (by kernel_rfl) ?_ _
                  refine NoPanic.normal ?_
                  go_wp2_with fail
                  go_meet
                  case rel => exact ⟨p6, p7, _, _, rfl, rfl, L6q44.out, L7q44.out, R1q44.out, R2q44.out, Gq44.out⟩
          case s37x6 =>
            go_simp
            have bb : Below q36.heap.size q36 (q36.alloc (.cells #[.int .i64 0, .int .i64 0, .slice none 0 0] 24)) := (Below.refl _ _).alloc (Nat.le_refl _) _
            have nb : (q36.alloc (.cells #[.int .i64 0, .int .i64 0, .slice none 0 0] 24)).heap[q36.heap.size]? = some (.cells #[.int .i64 0, .int .i64 0, .slice none 0 0] 24) := heap_alloc_new q36 _
            obtain ⟨q45, hwn⟩ : ∃ wn, wn = q36.alloc (.cells #[.int .i64 0, .int .i64 0, .slice none 0 0] 24) := ⟨_, rfl⟩
            rw [← hwn] at bb nb ⊢
            obtain ⟨p6, hp6⟩ : ∃ p6, p6 = q36.heap.size := ⟨_, rfl⟩
            have Gq45 := Lib.hid (Gq36.out.trans (bb.mono Gq36.out.size))
            have R1q45 := Lib.hid (R1q36.out.below bb)
            have L7q45 := Lib.hid (old_block L7q36.out bb)
            have NB6 := Lib.hid (show w4.heap.size ≤ p6 by rw [hp6]; exact Gq36.out.size)
            have HNE := Lib.hid (show p6 ≠ p7 from fun e => by have := block_lt L7q36.out; omega)
            rw [← hp6] at nb ⊢
            have L6q45 := Lib.hid nb
            clear bb nb hwn hp6
            refine hK.out _ _ Gq45.out (fun hHeld => ?_)
            clear hK K hHeld
            try simp only [Act.put, List.setIfInBounds_toArray, List.set_cons_zero, List.set_cons_succ]
            refine wpAnyH_ready (rs := [5]) (by kernel_rfl) (by simp) ?_
            refine AllReadyH.cons (o := ?o46x5) ?h46x5 (fun K hK => ?s46x5) (AllReadyH.nil)
            case h46x5 => (simp only [List.getElem?_toArray, List.getElem?_cons_succ, List.getElem?_cons_zero] <;> rfl)
            case s46x5 =>
              go_simp
              refine (HR.out q45 Gq45.out).mono ?_
              rintro e q47 ⟨v2, rfl, rr, bb⟩
              obtain ⟨av2, kv2, rfl⟩ := rr.form
              have R2q47 := Lib.hid rr
              have Gq47 := Lib.hid (Gq45.out.trans (bb.mono Gq45.out.size))
              have R1q47 := Lib.hid (R1q45.out.below bb)
              have L7q47 := Lib.hid (old_block L7q45.out bb)
              have L6q47 := Lib.hid (old_block L6q45.out bb)
              clear bb rr
              go_wp2_with fail
              refine hK.out _ _ Gq47.out (fun hHeld => ?_)
              clear hK K hHeld
              try simp only [Act.put, List.setIfInBounds_toArray, List.set_cons_zero, List.set_cons_succ]
              refine wpAnyH_ready (rs := [8]) (by kernel_rfl) (by simp) ?_
              refine AllReadyH.cons (o := ?o48x8) ?h48x8 (fun K hK => ?s48x8) (AllReadyH.nil)
              case h48x8 => (simp only [List.getElem?_toArray, List.getElem?_cons_succ, List.getElem?_cons_zero] <;> rfl)
              case s48x8 =>
                have e0 := cell_of_row _ _ 0 _ _ _ L6q47.out
                have e1 := cell_of_row _ _ 1 _ _ _ L6q47.out
                have e2 := cell_of_row _ _ 2 _ _ _ L6q47.out
                obtain ⟨f0, f1, f2⟩ := no_frozen L6q47.out
                go_simp
                obtain ⟨q49, hwn⟩ : ∃ wn, wn = (((q47.setCell ⟨p6, 0, none⟩ (.int .i64 su)).setCell ⟨p6, 1, none⟩ (.int .i64 ty)).setCell ⟨p6, 2, none⟩ (.slice av1 (addL xs s).length kv1)) := ⟨_, rfl⟩
                rw [← hwn]
                have ST := store3 (B := w4.heap.size) (wo := w4) L6q47.out Gq47.out NB6.out su ty (.slice av1 (addL xs s).length kv1)
                rw [← hwn] at ST
                obtain ⟨l6, l7, rs, gg⟩ := ST
                have L6q49 := Lib.hid l6
                have L7q49 := Lib.hid ((l7 p7 (Ne.symm HNE.out)).trans L7q47.out)
                have R1q49 := Lib.hid (rs _ _ R1q47.out)
                have R2q49 := Lib.hid (rs _ _ R2q47.out)
                have Gq49 := Lib.hid gg
                clear l6 l7 rs gg hwn e0 e1 e2 f0 f1 f2
                refine hK.out _ _ Gq49.out (fun hHeld => ?_)
                clear hK K hHeld
                try simp only [Act.put, List.setIfInBounds_toArray, List.set_cons_zero, List.set_cons_succ]
                refine wpAnyH_ready (rs := [9]) (by kernel_rfl) (by simp) ?_
                refine AllReadyH.cons (o := ?o50x9) ?h50x9 (fun K hK => ?s50x9) (AllReadyH.nil)
                case h50x9 => (simp only [List.getElem?_toArray, List.getElem?_cons_succ, List.getElem?_cons_zero] <;> rfl)
                case s50x9 =>
                  have e0 := cell_of_row _ _ 0 _ _ _ L7q49.out
                  have e1 := cell_of_row _ _ 1 _ _ _ L7q49.out
                  have e2 := cell_of_row _ _ 2 _ _ _ L7q49.out
                  obtain ⟨f0, f1, f2⟩ := no_frozen L7q49.out
                  go_simp
                  obtain ⟨q51, hwn⟩ : ∃ wn, wn = (((q49.setCell ⟨p7, 0, none⟩ (.int .i64 su)).setCell ⟨p7, 1, none⟩ (.int .i64 ty)).setCell ⟨p7, 2, none⟩ (.slice av2 (addL xs s).length kv2)) := ⟨_, rfl⟩
                  rw [← hwn]
                  have ST := store3 (B := w4.heap.size) (wo := w4) L7q49.out Gq49.out NB7.out su ty (.slice av2 (addL xs s).length kv2)
                  rw [← hwn] at ST
                  obtain ⟨l7, l6, rs, gg⟩ := ST
                  have L7q51 := Lib.hid l7
                  have L6q51 := Lib.hid ((l6 p6 HNE.out).trans L6q49.out)
                  have R1q51 := Lib.hid (rs _ _ R1q49.out)
                  have R2q51 := Lib.hid (rs _ _ R2q49.out)
                  have Gq51 := Lib.hid gg
                  clear l6 l7 rs gg hwn e0 e1 e2 f0 f1 f2
                  refine hK.out _ _ Gq51.out (fun hHeld => ?_)
                  clear hK K hHeld
                  try simp only [Act.put, List.setIfInBounds_toArray, List.set_cons_zero, List.set_cons_succ]
                  refine wpAnyH_done (by kernel_rfl) ?_ _
                  refine NoPanic.normal ?_
                  go_wp2_with fail
                  go_meet
                  case rel => exact ⟨p6, p7, _, _, rfl, rfl, L6q51.out, L7q51.out, R1q51.out, R2q51.out, Gq51.out⟩
      case s1x6 =>
        go_simp
        have bb : Below q0.heap.size q0 (q0.alloc (.cells #[.int .i64 0, .int .i64 0, .slice none 0 0] 24)) := (Below.refl _ _).alloc (Nat.le_refl _) _
        have nb : (q0.alloc (.cells #[.int .i64 0, .int .i64 0, .slice none 0 0] 24)).heap[q0.heap.size]? = some (.cells #[.int .i64 0, .int .i64 0, .slice none 0 0] 24) := heap_alloc_new q0 _
        obtain ⟨q52, hwn⟩ : ∃ wn, wn = q0.alloc (.cells #[.int .i64 0, .int .i64 0, .slice none 0 0] 24) := ⟨_, rfl⟩
        rw [← hwn] at bb nb ⊢
        obtain ⟨p6, hp6⟩ : ∃ p6, p6 = q0.heap.size := ⟨_, rfl⟩
        have Gq52 := Lib.hid (Gq0.out.trans (bb.mono Gq0.out.size))
        have NB6 := Lib.hid (show w4.heap.size ≤ p6 by rw [hp6]; exact Gq0.out.size)
        rw [← hp6] at nb ⊢
        have L6q52 := Lib.hid nb
        clear bb nb hwn hp6
        refine hK.out _ _ Gq52.out (fun hHeld => ?_)
        clear hK K hHeld
        try simp only [Act.put, List.setIfInBounds_toArray, List.set_cons_zero, List.set_cons_succ]
        refine wpAnyH_ready (rs := [2, 7]) (by kernel_rfl) (by simp) ?_
        refine AllReadyH.cons (o := ?o53x2) ?h53x2 (fun K hK => ?s53x2) (AllReadyH.cons (o := ?o53x7) ?h53x7 (fun K hK => ?s53x7) (AllReadyH.nil))
        case h53x2 => (simp only [List.getElem?_toArray, List.getElem?_cons_succ, List.getElem?_cons_zero] <;> rfl)
        case h53x7 => (simp only [List.getElem?_toArray, List.getElem?_cons_succ, List.getElem?_cons_zero] <;> rfl)
        case s53x2 =>
          go_simp
          refine (HP.out q52 Gq52.out).mono ?_
          rintro e q54 ⟨v1, rfl, rr, bb⟩
          obtain ⟨av1, kv1, rfl⟩ := rr.form
          have R1q54 := Lib.hid rr
          have Gq54 := Lib.hid (Gq52.out.trans (bb.mono Gq52.out.size))
          have L6q54 := Lib.hid (old_block L6q52.out bb)
          clear bb rr
          go_wp2_with fail
          refine hK.out _ _ Gq54.out (fun hHeld => ?_)
          clear hK K hHeld
          try simp only [Act.put, List.setIfInBounds_toArray, List.set_cons_zero, List.set_cons_succ]
          refine wpAnyH_ready (rs := [5, 7]) (by kernel_rfl) (by simp) ?_
          refine AllReadyH.cons (o := ?o55x5) ?h55x5 (fun K hK => ?s55x5) (AllReadyH.cons (o := ?o55x7) ?h55x7 (fun K hK => ?s55x7) (AllReadyH.nil))
          case h55x5 => (simp only [List.getElem?_toArray, List.getElem?_cons_succ, List.getElem?_cons_zero] <;> rfl)
          case h55x7 => (simp only [List.getElem?_toArray, List.getElem?_cons_succ, List.getElem?_cons_zero] <;> rfl)
          case s55x5 =>
            go_simp
            refine (HR.out q54 Gq54.out).mono ?_
            rintro e q56 ⟨v2, rfl, rr, bb⟩
            obtain ⟨av2, kv2, rfl⟩ := rr.form
            have R2q56 := Lib.hid rr
            have Gq56 := Lib.hid (Gq54.out.trans (bb.mono Gq54.out.size))
            have R1q56 := Lib.hid (R1q54.out.below bb)
            have L6q56 := Lib.hid (old_block L6q54.out bb)
            clear bb rr
            go_wp2_with fail
            refine hK.out _ _ Gq56.out (fun hHeld => ?_)
            clear hK K hHeld
            try simp only [Act.put, List.setIfInBounds_toArray, List.set_cons_zero, List.set_cons_succ]
            refine wpAnyH_ready (rs := [7]) (by kernel_rfl) (by simp) ?_
            refine AllReadyH.cons (o := ?o57x7) ?h57x7 (fun K hK => ?s57x7) (AllReadyH.nil)
            case h57x7 => (simp only [List.getElem?_toArray, List.getElem?_cons_succ, List.getElem?_cons_zero] <;> rfl)
            case s57x7 =>
              go_simp
              have bb : Below q56.heap.size q56 (q56.alloc (.cells #[.int .i64 0, .int .i64 0, .slice none 0 0] 24)) := (Below.refl _ _).alloc (Nat.le_refl _) _
              have nb : (q56.alloc (.cells #[.int .i64 0, .int .i64 0, .slice none 0 0] 24)).heap[q56.heap.size]? = some (.cells #[.int .i64 0, .int .i64 0, .slice none 0 0] 24) := heap_alloc_new q56 _
              obtain ⟨q58, hwn⟩ : ∃ wn, wn = q56.alloc (.cells #[.int .i64 0, .int .i64 0, .slice none 0 0] 24) := ⟨_, rfl⟩
              rw [← hwn] at bb nb ⊢
              obtain ⟨p7, hp7⟩ : ∃ p7, p7 = q56.heap.size := ⟨_, rfl⟩
              have Gq58 := Lib.hid (Gq56.out.trans (bb.mono Gq56.out.size))
              have R2q58 := Lib.hid (R2q56.out.below bb)
              have R1q58 := Lib.hid (R1q56.out.below bb)
              have L6q58 := Lib.hid (old_block L6q56.out bb)
              have NB7 := Lib.hid (show w4.heap.size ≤ p7 by rw [hp7]; exact Gq56.out.size)
              have HNE := Lib.hid (show p6 ≠ p7 from fun e => by have := block_lt L6q56.out; omega)
              rw [← hp7] at nb ⊢
              have L7q58 := Lib.hid nb
              clear bb nb hwn hp7
              refine hK.out _ _ Gq58.out (fun hHeld => ?_)
              clear hK K hHeld
              try simp only [Act.put, List.setIfInBounds_toArray, List.set_cons_zero, List.set_cons_succ]
              refine wpAnyH_ready (rs := [8]) (by kernel_rfl) (by simp) ?_
              refine AllReadyH.cons (o := ?o59x8) ?h59x8 (fun K hK => ?s59x8) (AllReadyH.nil)
              case h59x8 => (simp only [List.getElem?_toArray, List.getElem?_cons_succ, List.getElem?_cons_zero] <;> rfl)
              case s59x8 =>
                have e0 := cell_of_row _ _ 0 _ _ _ L6q58.out
                have e1 := cell_of_row _ _ 1 _ _ _ L6q58.out
                have e2 := cell_of_row _ _ 2 _ _ _ L6q58.out
                obtain ⟨f0, f1, f2⟩ := no_frozen L6q58.out
                go_simp
                obtain ⟨q60, hwn⟩ : ∃ wn, wn = (((q58.setCell ⟨p6, 0, none⟩ (.int .i64 su)).setCell ⟨p6, 1, none⟩ (.int .i64 ty)).setCell ⟨p6, 2, none⟩ (.slice av1 (addL xs s).length kv1)) := ⟨_, rfl⟩
                rw [← hwn]
                have ST := store3 (B := w4.heap.size) (wo := w4) L6q58.out Gq58.out NB6.out su ty (.slice av1 (addL xs s).length kv1)
                rw [← hwn] at ST
                obtain ⟨l6, l7, rs, gg⟩ := ST
                have L6q60 := Lib.hid l6
                have L7q60 := Lib.hid ((l7 p7 (Ne.symm HNE.out)).trans L7q58.out)
                have R1q60 := Lib.hid (rs _ _ R1q58.out)
                have R2q60 := Lib.hid (rs _ _ R2q58.out)
                have Gq60 := Lib.hid gg
                clear l6 l7 rs gg hwn e0 e1 e2 f0 f1 f2
                refine hK.out _ _ Gq60.out (fun hHeld => ?_)
                clear hK K hHeld
                try simp only [Act.put, List.setIfInBounds_toArray, List.set_cons_zero, List.set_cons_succ]
                refine wpAnyH_ready (rs := [9]) (by kernel_rfl) (by simp) ?_
                refine AllReadyH.cons (o := ?o61x9) ?h61x9 (fun K hK => ?s61x9) (AllReadyH.nil)
                case h61x9 => (simp only [List.getElem?_toArray, List.getElem?_cons_succ, List.getElem?_cons_zero] <;> rfl)
                case s61x9 =>
                  have e0 := cell_of_row _ _ 0 _ _ _ L7q60.out
                  have e1 := cell_of_row _ _ 1 _ _ _ L7q60.out
                  have e2 := cell_of_row _ _ 2 _ _ _ L7q60.out
                  obtain ⟨f0, f1, f2⟩ := no_frozen L7q60.out
                  go_simp
                  obtain ⟨q62, hwn⟩ : ∃ wn, wn = (((q60.setCell ⟨p7, 0, none⟩ (.int .i64 su)).setCell ⟨p7, 1, none⟩ (.int .i64 ty)).setCell ⟨p7, 2, none⟩ (.slice av2 (addL xs s).length kv2)) := ⟨_, rfl⟩
                  rw [← hwn]
                  have ST := store3 (B := w4.heap.size) (wo := w4) L7q60.out Gq60.out NB7.out su ty (.slice av2 (addL xs s).length kv2)
                  rw [← hwn] at ST
                  obtain ⟨l7, l6, rs, gg⟩ := ST
                  have L7q62 := Lib.hid l7
                  have L6q62 := Lib.hid ((l6 p6 HNE.out).trans L6q60.out)
                  have R1q62 := Lib.hid (rs _ _ R1q60.out)
                  have R2q62 := Lib.hid (rs _ _ R2q60.out)
                  have Gq62 := Lib.hid gg
                  clear l6 l7 rs gg hwn e0 e1 e2 f0 f1 f2
                  refine hK.out _ _ Gq62.out (fun hHeld => ?_)
                  clear hK K hHeld
                  try simp only [Act.put, List.setIfInBounds_toArray, List.set_cons_zero, List.set_cons_succ]
                  refine wpAnyH_done (by kernel_rfl) ?_ _
                  refine NoPanic.normal ?_
                  go_wp2_with fail
                  go_meet
                  case rel => exact ⟨p6, p7, _, _, rfl, rfl, L6q62.out, L7q62.out, R1q62.out, R2q62.out, Gq62.out⟩
          case s55x7 =>
            go_simp
            have bb : Below q54.heap.size q54 (q54.alloc (.cells #[.int .i64 0, .int .i64 0, .slice none 0 0] 24)) := (Below.refl _ _).alloc (Nat.le_refl _) _
            have nb : (q54.alloc (.cells #[.int .i64 0, .int .i64 0, .slice none 0 0] 24)).heap[q54.heap.size]? = some (.cells #[.int .i64 0, .int .i64 0, .slice none 0 0] 24) := heap_alloc_new q54 _
            obtain ⟨q63, hwn⟩ : ∃ wn, wn = q54.alloc (.cells #[.int .i64 0, .int .i64 0, .slice none 0 0] 24) := ⟨_, rfl⟩
            rw [← hwn] at bb nb ⊢
            obtain ⟨p7, hp7⟩ : ∃ p7, p7 = q54.heap.size := ⟨_, rfl⟩
            have Gq63 := Lib.hid (Gq54.out.trans (bb.mono Gq54.out.size))
            have R1q63 := Lib.hid (R1q54.out.below bb)
            have L6q63 := Lib.hid (old_block L6q54.out bb)
            have NB7 := Lib.hid (show w4.heap.size ≤ p7 by rw [hp7]; exact Gq54.out.size)
            have HNE := Lib.hid (show p6 ≠ p7 from fun e => by have := block_lt L6q54.out; omega)
            rw [← hp7] at nb ⊢
            have L7q63 := Lib.hid nb
            clear bb nb hwn hp7
            refine hK.out _ _ Gq63.out (fun hHeld => ?_)
            clear hK K hHeld
            try simp only [Act.put, List.setIfInBounds_toArray, List.set_cons_zero, List.set_cons_succ]
            refine wpAnyH_ready (rs := [5]) (by kernel_rfl) (by simp) ?_
            refine AllReadyH.cons (o := ?o64x5) ?h64x5 (fun K hK => ?s64x5) (AllReadyH.nil)
            case h64x5 => (simp only [List.getElem?_toArray, List.getElem?_cons_succ, List.getElem?_cons_zero] <;> rfl)
            case s64x5 =>
              go_simp
              refine (HR.out q63 Gq63.out).mono ?_
              rintro e q65 ⟨v2, rfl, rr, bb⟩
              obtain ⟨av2, kv2, rfl⟩ := rr.form
              have R2q65 := Lib.hid rr
              have Gq65 := Lib.hid (Gq63.out.trans (bb.mono Gq63.out.size))
              have R1q65 := Lib.hid (R1q63.out.below bb)
              have L7q65 := Lib.hid (old_block L7q63.out bb)
              have L6q65 := Lib.hid (old_block L6q63.out bb)
              clear bb rr
              go_wp2_with fail
              refine hK.out _ _ Gq65.out (fun hHeld => ?_)
              clear hK K hHeld
              try simp only [Act.put, List.setIfInBounds_toArray, List.set_cons_zero, List.set_cons_succ]
              refine wpAnyH_ready (rs := [8]) (by kernel_rfl) (by simp) ?_
              refine AllReadyH.cons (o := ?o66x8) ?h66x8 (fun K hK => ?s66x8) (AllReadyH.nil)
              case h66x8 => (simp only [List.getElem?_toArray, List.getElem?_cons_succ, List.getElem?_cons_zero] <;> rfl)
              case s66x8 =>
                have e0 := cell_of_row _ _ 0 _ _ _ L6q65.out
                have e1 := cell_of_row _ _ 1 _ _ _ L6q65.out
                have e2 := cell_of_row _ _ 2 _ _ _ L6q65.out
                obtain ⟨f0, f1, f2⟩ := no_frozen L6q65.out
                go_simp
                obtain ⟨q67, hwn⟩ : ∃ wn, wn = (((q65.setCell ⟨p6, 0, none⟩ (.int .i64 su)).setCell ⟨p6, 1, none⟩ (.int .i64 ty)).setCell ⟨p6, 2, none⟩ (.slice av1 (addL xs s).length kv1)) := ⟨_, rfl⟩
                rw [← hwn]
                have ST := store3 (B := w4.heap.size) (wo := w4) L6q65.out Gq65.out NB6.out su ty (.slice av1 (addL xs s).length kv1)
                rw [← hwn] at ST
                obtain ⟨l6, l7, rs, gg⟩ := ST
                have L6q67 := Lib.hid l6
                have L7q67 := Lib.hid ((l7 p7 (Ne.symm HNE.out)).trans L7q65.out)
                have R1q67 := Lib.hid (rs _ _ R1q65.out)
                have R2q67 := Lib.hid (rs _ _ R2q65.out)
                have Gq67 := Lib.hid gg
                clear l6 l7 rs gg hwn e0 e1 e2 f0 f1 f2
                refine hK.out _ _ Gq67.out (fun hHeld => ?_)
                clear hK K hHeld
                try simp only [Act.put, List.setIfInBounds_toArray, List.set_cons_zero, List.set_cons_succ]
                refine wpAnyH_ready (rs := [9]) (by kernel_rfl) (by simp) ?_
                refine AllReadyH.cons (o := ?o68x9) ?h68x9 (fun K hK => ?s68x9) (AllReadyH.nil)
                case h68x9 => (simp only [List.getElem?_toArray, List.getElem?_cons_succ, List.getElem?_cons_zero] <;> rfl)
                case s68x9 =>
                  have e0 := cell_of_row _ _ 0 _ _ _ L7q67.out
                  have e1 := cell_of_row _ _ 1 _ _ _ L7q67.out
                  have e2 := cell_of_row _ _ 2 _ _ _ L7q67.out
                  obtain ⟨f0, f1, f2⟩ := no_frozen L7q67.out
                  go_simp
                  obtain ⟨q69, hwn⟩ : ∃ wn, wn = (((q67.setCell ⟨p7, 0, none⟩ (.int .i64 su)).setCell ⟨p7, 1, none⟩ (.int .i64 ty)).setCell ⟨p7, 2, none⟩ (.slice av2 (addL xs s).length kv2)) := ⟨_, rfl⟩
                  rw [← hwn]
                  have ST := store3 (B := w4.heap.size) (wo := w4) L7q67.out Gq67.out NB7.out su ty (.slice av2 (addL xs s).length kv2)
                  rw [← hwn] at ST
                  obtain ⟨l7, l6, rs, gg⟩ := ST
                  have L7q69 := Lib.hid l7
                  have L6q69 := Lib.hid ((l6 p6 HNE.out).trans L6q67.out)
                  have R1q69 := Lib.hid (rs _ _ R1q67.out)
                  have R2q69 := Lib.hid (rs _ _ R2q67.out)
                  have Gq69 := Lib.hid gg
                  clear l6 l7 rs gg hwn e0 e1 e2 f0 f1 f2
                  refine hK.out _ _ Gq69.out (fun hHeld => ?_)
                  clear hK K hHeld
                  try simp only [Act.put, List.setIfInBounds_toArray, List.set_cons_zero, List.set_cons_succ]
                  refine wpAnyH_done (by kernel_rfl) ?_ _
                  refine NoPanic.normal ?_
                  go_wp2_with fail
                  go_meet
                  case rel => exact ⟨p6, p7, _, _, rfl, rfl, L6q69.out, L7q69.out, R1q69.out, R2q69.out, Gq69.out⟩
        case s53x7 =>
          go_simp
          have bb : Below q52.heap.size q52 (q52.alloc (.cells #[.int .i64 0, .int .i64 0, .slice none 0 0] 24)) := (Below.refl _ _).alloc (Nat.le_refl _) _
          have nb : (q52.alloc (.cells #[.int .i64 0, .int .i64 0, .slice none 0 0] 24)).heap[q52.heap.size]? = some (.cells #[.int .i64 0, .int .i64 0, .slice none 0 0] 24) := heap_alloc_new q52 _
          obtain ⟨q70, hwn⟩ : ∃ wn, wn = q52.alloc (.cells #[.int .i64 0, .int .i64 0, .slice none 0 0] 24) := ⟨_, rfl⟩
          rw [← hwn] at bb nb ⊢
          obtain ⟨p7, hp7⟩ : ∃ p7, p7 = q52.heap.size := ⟨_, rfl⟩
          have Gq70 := Lib.hid (Gq52.out.trans (bb.mono Gq52.out.size))
          have L6q70 := Lib.hid (old_block L6q52.out bb)
          have NB7 := Lib.hid (show w4.heap.size ≤ p7 by rw [hp7]; exact Gq52.out.size)
          have HNE := Lib.hid (show p6 ≠ p7 from fun e => by have := block_lt L6q52.out; omega)
          rw [← hp7] at nb ⊢
          have L7q70 := Lib.hid nb
          clear bb nb hwn hp7
          refine hK.out _ _ Gq70.out (fun hHeld => ?_)
          clear hK K hHeld
          try simp only [Act.put, List.setIfInBounds_toArray, List.set_cons_zero, List.set_cons_succ]
          refine wpAnyH_ready (rs := [2]) (by kernel_rfl) (by simp) ?_
          refine AllReadyH.cons (o := ?o71x2) ?h71x2 (fun K hK => ?s71x2) (AllReadyH.nil)
          case h71x2 => (simp only [List.getElem?_toArray, List.getElem?_cons_succ, List.getElem?_cons_zero] <;> rfl)
          case s71x2 =>
            go_simp
            refine (HP.out q70 Gq70.out).mono ?_
            rintro e q72 ⟨v1, rfl, rr, bb⟩
            obtain ⟨av1, kv1, rfl⟩ := rr.form
            have R1q72 := Lib.hid rr
            have Gq72 := Lib.hid (Gq70.out.trans (bb.mono Gq70.out.size))
            have L7q72 := Lib.hid (old_block L7q70.out bb)
            have L6q72 := Lib.hid (old_block L6q70.out bb)
            clear bb rr
            go_wp2_with fail
            refine hK.out _ _ Gq72.out (fun hHeld => ?_)
            clear hK K hHeld
            try simp only [Act.put, List.setIfInBounds_toArray, List.set_cons_zero, List.set_cons_succ]
            refine wpAnyH_ready (rs := [5]) (by kernel_rfl) (by simp) ?_
            refine AllReadyH.cons (o := ?o73x5) ?h73x5 (fun K hK => ?s73x5) (AllReadyH.nil)
            case h73x5 => (simp only [List.getElem?_toArray, List.getElem?_cons_succ, List.getElem?_cons_zero] <;> rfl)
            case s73x5 =>
              go_simp
              refine (HR.out q72 Gq72.out).mono ?_
              rintro e q74 ⟨v2, rfl, rr, bb⟩
              obtain ⟨av2, kv2, rfl⟩ := rr.form
              have R2q74 := Lib.hid rr
              have Gq74 := Lib.hid (Gq72.out.trans (bb.mono Gq72.out.size))
              have R1q74 := Lib.hid (R1q72.out.below bb)
              have L7q74 := Lib.hid (old_block L7q72.out bb)
              have L6q74 := Lib.hid (old_block L6q72.out bb)
              clear bb rr
              go_wp2_with fail
              refine hK.out _ _ Gq74.out (fun hHeld => ?_)
              clear hK K hHeld
              try simp only [Act.put, List.setIfInBounds_toArray, List.set_cons_zero, List.set_cons_succ]
              refine wpAnyH_ready (rs := [8]) (by kernel_rfl) (by simp) ?_
              refine AllReadyH.cons (o := ?o75x8) ?h75x8 (fun K hK => ?s75x8) (AllReadyH.nil)
              case h75x8 => (simp only [List.getElem?_toArray, List.getElem?_cons_succ, List.getElem?_cons_zero] <;> rfl)
              case s75x8 =>
                have e0 := cell_of_row _ _ 0 _ _ _ L6q74.out
                have e1 := cell_of_row _ _ 1 _ _ _ L6q74.out
                have e2 := cell_of_row _ _ 2 _ _ _ L6q74.out
                obtain ⟨f0, f1, f2⟩ := no_frozen L6q74.out
                go_simp
                obtain ⟨q76, hwn⟩ : ∃ wn, wn = (((q74.setCell ⟨p6, 0, none⟩ (.int .i64 su)).setCell ⟨p6, 1, none⟩ (.int .i64 ty)).setCell ⟨p6, 2, none⟩ (.slice av1 (addL xs s).length kv1)) := ⟨_, rfl⟩
                rw [← hwn]
                have ST := store3 (B := w4.heap.size) (wo := w4) L6q74.out Gq74.out NB6.out su ty (.slice av1 (addL xs s).length kv1)
                rw [← hwn] at ST
                obtain ⟨l6, l7, rs, gg⟩ := ST
                have L6q76 := Lib.hid l6
                have L7q76 := Lib.hid ((l7 p7 (Ne.symm HNE.out)).trans L7q74.out)
                have R1q76 := Lib.hid (rs _ _ R1q74.out)
                have R2q76 := Lib.hid (rs _ _ R2q74.out)
                have Gq76 := Lib.hid gg
                clear l6 l7 rs gg hwn e0 e1 e2 f0 f1 f2
                refine hK.out _ _ Gq76.out (fun hHeld => ?_)
                clear hK K hHeld
                try simp only [Act.put, List.setIfInBounds_toArray, List.set_cons_zero, List.set_cons_succ]
                refine wpAnyH_ready (rs := [9]) (by kernel_rfl) (by simp) ?_
                refine AllReadyH.cons (o := ?o77x9) ?h77x9 (fun K hK => ?s77x9) (AllReadyH.nil)
                case h77x9 => (simp only [List.getElem?_toArray, List.getElem?_cons_succ, List.getElem?_cons_zero] <;> rfl)
                case s77x9 =>
                  have e0 := cell_of_row _ _ 0 _ _ _ L7q76.out
                  have e1 := cell_of_row _ _ 1 _ _ _ L7q76.out
                  have e2 := cell_of_row _ _ 2 _ _ _ L7q76.out
                  obtain ⟨f0, f1, f2⟩ := no_frozen L7q76.out
                  go_simp
                  obtain ⟨q78, hwn⟩ : ∃ wn, wn = (((q76.setCell ⟨p7, 0, none⟩ (.int .i64 su)).setCell ⟨p7, 1, none⟩ (.int .i64 ty)).setCell ⟨p7, 2, none⟩ (.slice av2 (addL xs s).length kv2)) := ⟨_, rfl⟩
                  rw [← hwn]
                  have ST := store3 (B := w4.heap.size) (wo := w4) L7q76.out Gq76.out NB7.out su ty (.slice av2 (addL xs s).length kv2)
                  rw [← hwn] at ST
                  obtain ⟨l7, l6, rs, gg⟩ := ST
                  have L7q78 := Lib.hid l7
                  have L6q78 := Lib.hid ((l6 p6 HNE.out).trans L6q76.out)
                  have R1q78 := Lib.hid (rs _ _ R1q76.out)
                  have R2q78 := Lib.hid (rs _ _ R2q76.out)
                  have Gq78 := Lib.hid gg
                  clear l6 l7 rs gg hwn e0 e1 e2 f0 f1 f2
                  refine hK.out _ _ Gq78.out (fun hHeld => ?_)
                  clear hK K hHeld
                  try simp only [Act.put, List.setIfInBounds_toArray, List.set_cons_zero, List.set_cons_succ]
                  refine wpAnyH_done (by kernel_rfl) ?_ _
                  refine NoPanic.normal ?_
                  go_wp2_with fail
                  go_meet
                  case rel => exact ⟨p6, p7, _, _, rfl, rfl, L6q78.out, L7q78.out, R1q78.out, R2q78.out, Gq78.out⟩
      case s1x7 =>
        go_simp
        have bb : Below q0.heap.size q0 (q0.alloc (.cells #[.int .i64 0, .int .i64 0, .slice none 0 0] 24)) := (Below.refl _ _).alloc (Nat.le_refl _) _
        have nb : (q0.alloc (.cells #[.int .i64 0, .int .i64 0, .slice none 0 0] 24)).heap[q0.heap.size]? = some (.cells #[.int .i64 0, .int .i64 0, .slice none 0 0] 24) := heap_alloc_new q0 _
        obtain ⟨q79, hwn⟩ : ∃ wn, wn = q0.alloc (.cells #[.int .i64 0, .int .i64 0, .slice none 0 0] 24) := ⟨_, rfl⟩
        rw [← hwn] at bb nb ⊢
        obtain ⟨p7, hp7⟩ : ∃ p7, p7 = q0.heap.size := ⟨_, rfl⟩
        have Gq79 := Lib.hid (Gq0.out.trans (bb.mono Gq0.out.size))
        have NB7 := Lib.hid (show w4.heap.size ≤ p7 by rw [hp7]; exact Gq0.out.size)
        rw [← hp7] at nb ⊢
        have L7q79 := Lib.hid nb
        clear bb nb hwn hp7
        refine hK.out _ _ Gq79.out (fun hHeld => ?_)
        clear hK K hHeld
        try simp only [Act.put, List.setIfInBounds_toArray, List.set_cons_zero, List.set_cons_succ]
        refine wpAnyH_ready (rs := [2, 6]) (by kernel_rfl) (by simp) ?_
        refine AllReadyH.cons (o := ?o80x2) ?h80x2 (fun K hK => ?s80x2) (AllReadyH.cons (o := ?o80x6) ?h80x6 (fun K hK => ?s80x6) (AllReadyH.nil))
        case h80x2 => (simp only [List.getElem?_toArray, List.getElem?_cons_succ, List.getElem?_cons_zero] <;> rfl)
        case h80x6 => (simp only [List.getElem?_toArray, List.getElem?_cons_succ, List.getElem?_cons_zero] <;> rfl)
        case s80x2 =>
          go_simp
          refine (HP.out q79 Gq79.out).mono ?_
          rintro e q81 ⟨v1, rfl, rr, bb⟩
          obtain ⟨av1, kv1, rfl⟩ := rr.form
          have R1q81 := Lib.hid rr
          have Gq81 := Lib.hid (Gq79.out.trans (bb.mono Gq79.out.size))
          have L7q81 := Lib.hid (old_block L7q79.out bb)
          clear bb rr
          go_wp2_with fail
          refine hK.out _ _ Gq81.out (fun hHeld => ?_)
          clear hK K hHeld
          try simp only [Act.put, List.setIfInBounds_toArray, List.set_cons_zero, List.set_cons_succ]
          refine wpAnyH_ready (rs := [5, 6]) (by kernel_rfl) (by simp) ?_
          refine AllReadyH.cons (o := ?o82x5) ?h82x5 (fun K hK => ?s82x5) (AllReadyH.cons (o := ?o82x6) ?h82x6 (fun K hK => ?s82x6) (AllReadyH.nil))
          case h82x5 => (simp only [List.getElem?_toArray, List.getElem?_cons_succ, List.getElem?_cons_zero] <;> rfl)
          case h82x6 => (simp only [List.getElem?_toArray, List.getElem?_cons_succ, List.getElem?_cons_zero] <;> rfl)
          case s82x5 =>
            go_simp
            refine (HR.out q81 Gq81.out).mono ?_
            rintro e q83 ⟨v2, rfl, rr, bb⟩
            obtain ⟨av2, kv2, rfl⟩ := rr.form
            have R2q83 := Lib.hid rr
            have Gq83 := Lib.hid (Gq81.out.trans (bb.mono Gq81.out.size))
            have R1q83 := Lib.hid (R1q81.out.below bb)
            have L7q83 := Lib.hid (old_block L7q81.out bb)
            clear bb rr
            go_wp2_with fail
            refine hK.out _ _ Gq83.out (fun hHeld => ?_)
            clear hK K hHeld
            try simp only [Act.put, List.setIfInBounds_toArray, List.set_cons_zero, List.set_cons_succ]
            refine wpAnyH_ready (rs := [6]) (by kernel_rfl) (by simp) ?_
            refine AllReadyH.cons (o := ?o84x6) ?h84x6 (fun K hK => ?s84x6) (AllReadyH.nil)
            case h84x6 => (simp only [List.getElem?_toArray, List.getElem?_cons_succ, List.getElem?_cons_zero] <;> rfl)
            case s84x6 =>
              go_simp
              have bb : Below q83.heap.size q83 (q83.alloc (.cells #[.int .i64 0, .int .i64 0, .slice none 0 0] 24)) := (Below.refl _ _).alloc (Nat.le_refl _) _
              have nb : (q83.alloc (.cells #[.int .i64 0, .int .i64 0, .slice none 0 0] 24)).heap[q83.heap.size]? = some (.cells #[.int .i64 0, .int .i64 0, .slice none 0 0] 24) := heap_alloc_new q83 _
              obtain ⟨q85, hwn⟩ : ∃ wn, wn = q83.alloc (.cells #[.int .i64 0, .int .i64 0, .slice none 0 0] 24) := ⟨_, rfl⟩
              rw [← hwn] at bb nb ⊢
              obtain ⟨p6, hp6⟩ : ∃ p6, p6 = q83.heap.size := ⟨_, rfl⟩
              have Gq85 := Lib.hid (Gq83.out.trans (bb.mono Gq83.out.size))
              have R1q85 := Lib.hid (R1q83.out.below bb)
              have L7q85 := Lib.hid (old_block L7q83.out bb)
              have R2q85 := Lib.hid (R2q83.out.below bb)
              have NB6 := Lib.hid (show w4.heap.size ≤ p6 by rw [hp6]; exact Gq83.out.size)
              have HNE := Lib.hid (show p6 ≠ p7 from fun e => by have := block_lt L7q83.out; omega)
              rw [← hp6] at nb ⊢
              have L6q85 := Lib.hid nb
              clear bb nb hwn hp6
              refine hK.out _ _ Gq85.out (fun hHeld => ?_)
              clear hK K hHeld
              try simp only [Act.put, List.setIfInBounds_toArray, List.set_cons_zero, List.set_cons_succ]
              refine wpAnyH_ready (rs := [8]) (by kernel_rfl) (by simp) ?_
              refine AllReadyH.cons (o := ?o86x8) ?h86x8 (fun K hK => ?s86x8) (AllReadyH.nil)
              case h86x8 => (simp only [List.getElem?_toArray, List.getElem?_cons_succ, List.getElem?_cons_zero] <;> rfl)
              case s86x8 =>
                have e0 := cell_of_row _ _ 0 _ _ _ L6q85.out
                have e1 := cell_of_row _ _ 1 _ _ _ L6q85.out
                have e2 := cell_of_row _ _ 2 _ _ _ L6q85.out
                obtain ⟨f0, f1, f2⟩ := no_frozen L6q85.out
                go_simp
                obtain ⟨q87, hwn⟩ : ∃ wn, wn = (((q85.setCell ⟨p6, 0, none⟩ (.int .i64 su)).setCell ⟨p6, 1, none⟩ (.int .i64 ty)).setCell ⟨p6, 2, none⟩ (.slice av1 (addL xs s).length kv1)) := ⟨_, rfl⟩
                rw [← hwn]
                have ST := store3 (B := w4.heap.size) (wo := w4) L6q85.out Gq85.out NB6.out su ty (.slice av1 (addL xs s).length kv1)
                rw [← hwn] at ST
                obtain ⟨l6, l7, rs, gg⟩ := ST
                have L6q87 := Lib.hid l6
                have L7q87 := Lib.hid ((l7 p7 (Ne.symm HNE.out)).trans L7q85.out)
                have R1q87 := Lib.hid (rs _ _ R1q85.out)
                have R2q87 := Lib.hid (rs _ _ R2q85.out)
                have Gq87 := Lib.hid gg
                clear l6 l7 rs gg hwn e0 e1 e2 f0 f1 f2
                refine hK.out _ _ Gq87.out (fun hHeld => ?_)
                clear hK K hHeld
                try simp only [Act.put, List.setIfInBounds_toArray, List.set_cons_zero, List.set_cons_succ]
                refine wpAnyH_ready (rs := [9]) (by kernel_rfl) (by simp) ?_
                refine AllReadyH.cons (o := ?o88x9) ?h88x9 (fun K hK => ?s88x9) (AllReadyH.nil)
                case h88x9 => (simp only [List.getElem?_toArray, List.getElem?_cons_succ, List.getElem?_cons_zero] <;> rfl)
                case s88x9 =>
                  have e0 := cell_of_row _ _ 0 _ _ _ L7q87.out
                  have e1 := cell_of_row _ _ 1 _ _ _ L7q87.out
                  have e2 := cell_of_row _ _ 2 _ _ _ L7q87.out
                  obtain ⟨f0, f1, f2⟩ := no_frozen L7q87.out
                  go_simp
                  obtain ⟨q89, hwn⟩ : ∃ wn, wn = (((q87.setCell ⟨p7, 0, none⟩ (.int .i64 su)).setCell ⟨p7, 1, none⟩ (.int .i64 ty)).setCell ⟨p7, 2, none⟩ (.slice av2 (addL xs s).length kv2)) := ⟨_, rfl⟩
                  rw [← hwn]
                  have ST := store3 (B := w4.heap.size) (wo := w4) L7q87.out Gq87.out NB7.out su ty (.slice av2 (addL xs s).length kv2)
                  rw [← hwn] at ST
                  obtain ⟨l7, l6, rs, gg⟩ := ST
                  have L7q89 := Lib.hid l7
                  have L6q89 := Lib.hid ((l6 p6 HNE.out).trans L6q87.out)
                  have R1q89 := Lib.hid (rs _ _ R1q87.out)
                  have R2q89 := Lib.hid (rs _ _ R2q87.out)
                  have Gq89 := Lib.hid gg
                  clear l6 l7 rs gg hwn e0 e1 e2 f0 f1 f2
                  refine hK.out _ _ Gq89.out (fun hHeld => ?_)
                  clear hK K hHeld
                  try simp only [Act.put, List.setIfInBounds_toArray, List.set_cons_zero, List.set_cons_succ]
                  refine wpAnyH_done (by kernel_rfl) ?_ _
                  refine NoPanic.normal ?_
                  go_wp2_with fail
                  go_meet
                  case rel => exact ⟨p6, p7, _, _, rfl, rfl, L6q89.out, L7q89.out, R1q89.out, R2q89.out, Gq89.out⟩
          case s82x6 =>
            go_simp
            have bb : Below q81.heap.size q81 (q81.alloc (.cells #[.int .i64 0, .int .i64 0, .slice none 0 0] 24)) := (Below.refl _ _).alloc (Nat.le_refl _) _
            have nb : (q81.alloc (.cells #[.int .i64 0, .int .i64 0, .slice none 0 0] 24)).heap[q81.heap.size]? = some (.cells #[.int .i64 0, .int .i64 0, .slice none 0 0] 24) := heap_alloc_new q81 _
            obtain ⟨q90, hwn⟩ : ∃ wn, wn = q81.alloc (.cells #[.int .i64 0, .int .i64 0, .slice none 0 0] 24) := ⟨_, rfl⟩
            rw [← hwn] at bb nb ⊢
            obtain ⟨p6, hp6⟩ : ∃ p6, p6 = q81.heap.size := ⟨_, rfl⟩
            have Gq90 := Lib.hid (Gq81.out.trans (bb.mono Gq81.out.size))
            have R1q90 := Lib.hid (R1q81.out.below bb)
            have L7q90 := Lib.hid (old_block L7q81.out bb)
            have NB6 := Lib.hid (show w4.heap.size ≤ p6 by rw [hp6]; exact Gq81.out.size)
            have HNE := Lib.hid (show p6 ≠ p7 from fun e => by have := block_lt L7q81.out; omega)
            rw [← hp6] at nb ⊢
            have L6q90 := Lib.hid nb
            clear bb nb hwn hp6
            refine hK.out _ _ Gq90.out (fun hHeld => ?_)
            clear hK K hHeld
            try simp only [Act.put, List.setIfInBounds_toArray, List.set_cons_zero, List.set_cons_succ]
            refine wpAnyH_ready (rs := [5]) (by kernel_rfl) (by simp) ?_
            refine AllReadyH.cons (o := ?o91x5) ?h91x5 (fun K hK => ?s91x5) (AllReadyH.nil)
            case h91x5 => (simp only [List.getElem?_toArray, List.getElem?_cons_succ, List.getElem?_cons_zero] <;> rfl)
            case s91x5 =>
              go_simp
              refine (HR.out q90 Gq90.out).mono ?_
              rintro e q92 ⟨v2, rfl, rr, bb⟩
              obtain ⟨av2, kv2, rfl⟩ := rr.form
              have R2q92 := Lib.hid rr
              have Gq92 := Lib.hid (Gq90.out.trans (bb.mono Gq90.out.size))
              have R1q92 := Lib.hid (R1q90.out.below bb)
              have L7q92 := Lib.hid (old_block L7q90.out bb)
              have L6q92 := Lib.hid (old_block L6q90.out bb)
              clear bb rr
              go_wp2_with fail
              refine hK.out _ _ Gq92.out (fun hHeld => ?_)
              clear hK K hHeld
              try simp only [Act.put, List.setIfInBounds_toArray, List.set_cons_zero, List.set_cons_succ]
              refine wpAnyH_ready (rs := [8]) (by kernel_rfl) (by simp) ?_
              refine AllReadyH.cons (o := ?o93x8) ?h93x8 (fun K hK => ?s93x8) (AllReadyH.nil)
              case h93x8 => (simp only [List.getElem?_toArray, List.getElem?_cons_succ, List.getElem?_cons_zero] <;> rfl)
              case s93x8 =>
                have e0 := cell_of_row _ _ 0 _ _ _ L6q92.out
                have e1 := cell_of_row _ _ 1 _ _ _ L6q92.out
                have e2 := cell_of_row _ _ 2 _ _ _ L6q92.out
                obtain ⟨f0, f1, f2⟩ := no_frozen L6q92.out
                go_simp
                obtain ⟨q94, hwn⟩ : ∃ wn, wn = (((q92.setCell ⟨p6, 0, none⟩ (.int .i64 su)).setCell ⟨p6, 1, none⟩ (.int .i64 ty)).setCell ⟨p6, 2, none⟩ (.slice av1 (addL xs s).length kv1)) := ⟨_, rfl⟩
                rw [← hwn]
                have ST := store3 (B := w4.heap.size) (wo := w4) L6q92.out Gq92.out NB6.out su ty (.slice av1 (addL xs s).length kv1)
                rw [← hwn] at ST
                obtain ⟨l6, l7, rs, gg⟩ := ST
                have L6q94 := Lib.hid l6
                have L7q94 := Lib.hid ((l7 p7 (Ne.symm HNE.out)).trans L7q92.out)
                have R1q94 := Lib.hid (rs _ _ R1q92.out)
                have R2q94 := Lib.hid (rs _ _ R2q92.out)
                have Gq94 := Lib.hid gg
                clear l6 l7 rs gg hwn e0 e1 e2 f0 f1 f2
                refine hK.out _ _ Gq94.out (fun hHeld => ?_)
                clear hK K hHeld
                try simp only [Act.put, List.setIfInBounds_toArray, List.set_cons_zero, List.set_cons_succ]
                refine wpAnyH_ready (rs := [9]) (by kernel_rfl) (by simp) ?_
                refine AllReadyH.cons (o := ?o95x9) ?h95x9 (fun K hK => ?s95x9) (AllReadyH.nil)
                case h95x9 => (simp only [List.getElem?_toArray, List.getElem?_cons_succ, List.getElem?_cons_zero] <;> rfl)
                case s95x9 =>
                  have e0 := cell_of_row _ _ 0 _ _ _ L7q94.out
                  have e1 := cell_of_row _ _ 1 _ _ _ L7q94.out
                  have e2 := cell_of_row _ _ 2 _ _ _ L7q94.out
                  obtain ⟨f0, f1, f2⟩ := no_frozen L7q94.out
                  go_simp
                  obtain ⟨q96, hwn⟩ : ∃ wn, wn = (((q94.setCell ⟨p7, 0, none⟩ (.int .i64 su)).setCell ⟨p7, 1, none⟩ (.int .i64 ty)).setCell ⟨p7, 2, none⟩ (.slice av2 (addL xs s).length kv2)) := ⟨_, rfl⟩
                  rw [← hwn]
                  have ST := store3 (B := w4.heap.size) (wo := w4) L7q94.out Gq94.out NB7.out su ty (.slice av2 (addL xs s).length kv2)
                  rw [← hwn] at ST
                  obtain ⟨l7, l6, rs, gg⟩ := ST
                  have L7q96 := Lib.hid l7
                  have L6q96 := Lib.hid ((l6 p6 HNE.out).trans L6q94.out)
                  have R1q96 := Lib.hid (rs _ _ R1q94.out)
                  have R2q96 := Lib.hid (rs _ _ R2q94.out)
                  have Gq96 := Lib.hid gg
                  clear l6 l7 rs gg hwn e0 e1 e2 f0 f1 f2
                  refine hK.out _ _ Gq96.out (fun hHeld => ?_)
                  clear hK K hHeld
                  try simp only [Act.put, List.setIfInBounds_toArray, List.set_cons_zero, List.set_cons_succ]
                  refine wpAnyH_done (by kernel_rfl) ?_ _
                  refine NoPanic.normal ?_
                  go_wp2_with fail
                  go_meet
                  case rel => exact ⟨p6, p7, _, _, rfl, rfl, L6q96.out, L7q96.out, R1q96.out, R2q96.out, Gq96.out⟩
        case s80x6 =>
          go_simp
          have bb : Below q79.heap.size q79 (q79.alloc (.cells #[.int .i64 0, .int .i64 0, .slice none 0 0] 24)) := (Below.refl _ _).alloc (Nat.le_refl _) _
          have nb : (q79.alloc (.cells #[.int .i64 0, .int .i64 0, .slice none 0 0] 24)).heap[q79.heap.size]? = some (.cells #[.int .i64 0, .int .i64 0, .slice none 0 0] 24) := heap_alloc_new q79 _
          obtain ⟨q97, hwn⟩ : ∃ wn, wn = q79.alloc (.cells #[.int .i64 0, .int .i64 0, .slice none 0 0] 24) := ⟨_, rfl⟩
          rw [← hwn] at bb nb ⊢
          obtain ⟨p6, hp6⟩ : ∃ p6, p6 = q79.heap.size := ⟨_, rfl⟩
          have Gq97 := Lib.hid (Gq79.out.trans (bb.mono Gq79.out.size))
          have L7q97 := Lib.hid (old_block L7q79.out bb)
          have NB6 := Lib.hid (show w4.heap.size ≤ p6 by rw [hp6]; exact Gq79.out.size)
          have HNE := Lib.hid (show p6 ≠ p7 from fun e => by have := block_lt L7q79.out; omega)
          rw [← hp6] at nb ⊢
          have L6q97 := Lib.hid nb
          clear bb nb hwn hp6
          refine hK.out _ _ Gq97.out (fun hHeld => ?_)
          clear hK K hHeld
          try simp only [Act.put, List.setIfInBounds_toArray, List.set_cons_zero, List.set_cons_succ]
          refine wpAnyH_ready (rs := [2]) (by kernel_rfl) (by simp) ?_
          refine AllReadyH.cons (o := ?o98x2) ?h98x2 (fun K hK => ?s98x2) (AllReadyH.nil)
          case h98x2 => (simp only [List.getElem?_toArray, List.getElem?_cons_succ, List.getElem?_cons_zero] <;> rfl)
          case s98x2 =>
            go_simp
            refine (HP.out q97 Gq97.out).mono ?_
            rintro e q99 ⟨v1, rfl, rr, bb⟩
            obtain ⟨av1, kv1, rfl⟩ := rr.form
            have R1q99 := Lib.hid rr
            have Gq99 := Lib.hid (Gq97.out.trans (bb.mono Gq97.out.size))
            have L7q99 := Lib.hid (old_block L7q97.out bb)
            have L6q99 := Lib.hid (old_block L6q97.out bb)
            clear bb rr
            go_wp2_with fail
            refine hK.out _ _ Gq99.out (fun hHeld => ?_)
            clear hK K hHeld
            try simp only [Act.put, List.setIfInBounds_toArray, List.set_cons_zero, List.set_cons_succ]
            refine wpAnyH_ready (rs := [5]) (by kernel_rfl) (by simp) ?_
            refine AllReadyH.cons (o := ?o100x5) ?h100x5 (fun K hK => ?s100x5) (AllReadyH.nil)
            case h100x5 => (simp only [List.getElem?_toArray, List.getElem?_cons_succ, List.getElem?_cons_zero] <;> rfl)
            case s100x5 =>
              go_simp
              refine (HR.out q99 Gq99.out).mono ?_
              rintro e q101 ⟨v2, rfl, rr, bb⟩
              obtain ⟨av2, kv2, rfl⟩ := rr.form
              have R2q101 := Lib.hid rr
              have Gq101 := Lib.hid (Gq99.out.trans (bb.mono Gq99.out.size))
              have R1q101 := Lib.hid (R1q99.out.below bb)
              have L7q101 := Lib.hid (old_block L7q99.out bb)
              have L6q101 := Lib.hid (old_block L6q99.out bb)
              clear bb rr
              go_wp2_with fail
              refine hK.out _ _ Gq101.out (fun hHeld => ?_)
              clear hK K hHeld
              try simp only [Act.put, List.setIfInBounds_toArray, List.set_cons_zero, List.set_cons_succ]
              refine wpAnyH_ready (rs := [8]) (by kernel_rfl) (by simp) ?_
              refine AllReadyH.cons (o := ?o102x8) ?h102x8 (fun K hK => ?s102x8) (AllReadyH.nil)
              case h102x8 => (simp only [List.getElem?_toArray, List.getElem?_cons_succ, List.getElem?_cons_zero] <;> rfl)
              case s102x8 =>
                have e0 := cell_of_row _ _ 0 _ _ _ L6q101.out
                have e1 := cell_of_row _ _ 1 _ _ _ L6q101.out
                have e2 := cell_of_row _ _ 2 _ _ _ L6q101.out
                obtain ⟨f0, f1, f2⟩ := no_frozen L6q101.out
                go_simp
                obtain ⟨q103, hwn⟩ : ∃ wn, wn = (((q101.setCell ⟨p6, 0, none⟩ (.int .i64 su)).setCell ⟨p6, 1, none⟩ (.int .i64 ty)).setCell ⟨p6, 2, none⟩ (.slice av1 (addL xs s).length kv1)) := ⟨_, rfl⟩
                rw [← hwn]
                have ST := store3 (B := w4.heap.size) (wo := w4) L6q101.out Gq101.out NB6.out su ty (.slice av1 (addL xs s).length kv1)
                rw [← hwn] at ST
                obtain ⟨l6, l7, rs, gg⟩ := ST
                have L6q103 := Lib.hid l6
                have L7q103 := Lib.hid ((l7 p7 (Ne.symm HNE.out)).trans L7q101.out)
                have R1q103 := Lib.hid (rs _ _ R1q101.out)
                have R2q103 := Lib.hid (rs _ _ R2q101.out)
                have Gq103 := Lib.hid gg
                clear l6 l7 rs gg hwn e0 e1 e2 f0 f1 f2
                refine hK.out _ _ Gq103.out (fun hHeld => ?_)
                clear hK K hHeld
                try simp only [Act.put, List.setIfInBounds_toArray, List.set_cons_zero, List.set_cons_succ]
                refine wpAnyH_ready (rs := [9]) (by kernel_rfl) (by simp) ?_
                refine AllReadyH.cons (o := ?o104x9) ?h104x9 (fun K hK => ?s104x9) (AllReadyH.nil)
                case h104x9 => (simp only [List.getElem?_toArray, List.getElem?_cons_succ, List.getElem?_cons_zero] <;> rfl)
                case s104x9 =>
                  have e0 := cell_of_row _ _ 0 _ _ _ L7q103.out
                  have e1 := cell_of_row _ _ 1 _ _ _ L7q103.out
                  have e2 := cell_of_row _ _ 2 _ _ _ L7q103.out
                  obtain ⟨f0, f1, f2⟩ := no_frozen L7q103.out
                  go_simp
                  obtain ⟨q105, hwn⟩ : ∃ wn, wn = (((q103.setCell ⟨p7, 0, none⟩ (.int .i64 su)).setCell ⟨p7, 1, none⟩ (.int .i64 ty)).setCell ⟨p7, 2, none⟩ (.slice av2 (addL xs s).length kv2)) := ⟨_, rfl⟩
                  rw [← hwn]
                  have ST := store3 (B := w4.heap.size) (wo := w4) L7q103.out Gq103.out NB7.out su ty (.slice av2 (addL xs s).length kv2)
                  rw [← hwn] at ST
                  obtain ⟨l7, l6, rs, gg⟩ := ST
                  have L7q105 := Lib.hid l7
                  have L6q105 := Lib.hid ((l6 p6 HNE.out).trans L6q103.out)
                  have R1q105 := Lib.hid (rs _ _ R1q103.out)
                  have R2q105 := Lib.hid (rs _ _ R2q103.out)
                  have Gq105 := Lib.hid gg
                  clear l6 l7 rs gg hwn e0 e1 e2 f0 f1 f2
                  refine hK.out _ _ Gq105.out (fun hHeld => ?_)
                  clear hK K hHeld
                  try simp only [Act.put, List.setIfInBounds_toArray, List.set_cons_zero, List.set_cons_succ]
                  refine wpAnyH_done (by kernel_rfl) ?_ _
                  refine NoPanic.normal ?_
                  go_wp2_with fail
                  go_meet
                  case rel => exact ⟨p6, p7, _, _, rfl, rfl, L6q105.out, L7q105.out, R1q105.out, R2q105.out, Gq105.out⟩
    case rest =>
      obtain ⟨p6, p7, v1, v2, rfl, rfl, l6, l7, r1, r2, gg⟩ := hcut
      obtain ⟨a1, k1, rfl⟩ := r1.form
      obtain ⟨a2, k2, rfl⟩ := r2.form
      have hzl : (addL xs s).length ≤ 4611686018427387904 := Nat.le_trans (addL_len xs s) (by omega)
      have HMC := Lib.hid (HM.out.below (Bw4.out.trans (gg.mono Bw4.out.size)))
      have L6 := Lib.hid l6
      have L7 := Lib.hid l7
      have R1 := Lib.hid r1
      have R2 := Lib.hid r2
      have G := Lib.hid gg
      clear l6 l7 r1 r2 gg
      go_wp2_with fail
      refine (alive10 wc HMC.out).mono ?_
      rintro e w6 ⟨rfl, b6⟩
      have G6 := Lib.hid (G.out.trans (b6.mono G.out.size))
      have K6 := Lib.hid (old_block L6.out b6)
      have K7 := Lib.hid (old_block L7.out b6)
      have HQ := Lib.hid (sameL_ref su ty (.slice a1 (addL xs s).length k1) (addL xs s) su ty (.slice a2 (addL xs s).length k2) (addL xs s) w6 (R1.out.below b6) (R2.out.below b6) hzl)
      rw [same_self] at HQ
      have d0 := cell_of_row _ _ 0 _ _ _ K6.out
      have d1 := cell_of_row _ _ 1 _ _ _ K6.out
      have d2 := cell_of_row _ _ 2 _ _ _ K6.out
      have e0 := cell_of_row _ _ 0 _ _ _ K7.out
      have e1 := cell_of_row _ _ 1 _ _ _ K7.out
      have e2 := cell_of_row _ _ 2 _ _ _ K7.out
      simp only [List.getElem?_toArray, List.getElem?_cons_succ, List.getElem?_cons_zero] at d0 d1 d2 e0 e1 e2
      clear b6
      go_wp2_with fail
      refine HQ.out.mono ?_
      rintro e w7 ⟨rfl, b7⟩
      have G7 := Lib.hid (G6.out.trans (b7.mono G6.out.size))
      have HQ2 := Lib.hid (sameL_ref su ty (.slice ao xs.length cap) xs su ty (.slice (some ⟨g4, 0, none⟩) xs.length cap4) xs w7 (RX.out.below (Bw4.out.trans (G7.out.mono Bw4.out.size))) ((rowAt_own O4.out).below G7.out) hn)
      rw [same_self] at HQ2
      obtain ⟨c0, c1, c2⟩ := HC4.out w7 G7.out
      clear b7 d0 d1 d2 e0 e1 e2 HQ
      go_wp2_with fail
      refine HQ2.out.mono ?_
      rintro e w8 ⟨rfl, b8⟩
      have G8 := Lib.hid (G7.out.trans (b8.mono G7.out.size))
      clear b8 c0 c1 c2
      go_wp2_with fail
      go_ret
      exact ⟨rfl, BX.out.trans ((Bw4.out.trans (G8.out.mono Bw4.out.size)).mono BX.out.size)⟩
  · rw [decide_eq_false h1] at F1
    go_enter Tryd.func7, Tryd.ntmps7
    go_wp2_with fail
    rw [← HA.out]
    refine F1.out.mono ?_
    rintro e w1 ⟨rfl, b1⟩
    have B1 := Lib.hid b1
    clear b1
    go_wp2_with fail
    refine (alive10 w1 (HM.out.below B1.out)).mono ?_
    rintro e w2 ⟨rfl, b2⟩
    go_wp2_with fail
    go_ret
    exact ⟨rfl, BX.out.trans ((B1.out.trans (b2.mono B1.out.size)).mono BX.out.size)⟩
end Go.Proofs.YtgnffmlcjnnneaaDoor
