/- Chapter 10: the reference's Text. -/
import Derived.Test.YtgnffmlcjnnneaaDoorLnJ
namespace Go.Proofs.YtgnffmlcjnnneaaDoor
open Go Go.RowKit Go.Sort Cg
attribute [local go_sem ↓] Go.wp_at_zero Go.wp_at_succ
theorem jo_app (xs ys : List ByteArray) (by_ : ByteArray) (hx : ¬ xs = []) (hy : ¬ ys = []) : jo (xs ++ ys) by_ = jo xs by_ ++ by_ ++ jo ys by_ := by
  apply bytes_ext
  have h1 := jo_data xs by_
  have h2 := jo_data ys by_
  rw [jo_data]
  obtain ⟨a, r, rfl⟩ := List.exists_cons_of_ne_nil hx
  obtain ⟨b, s, rfl⟩ := List.exists_cons_of_ne_nil hy
  have tail_app : ∀ (p q : List (List UInt8)), Lib.joinTail by_.data.toList (p ++ q) = Lib.joinTail by_.data.toList p ++ Lib.joinTail by_.data.toList q := fun p q => by simp [Lib.joinTail]
  have tail_cons : ∀ (x : List UInt8) (q : List (List UInt8)), Lib.joinTail by_.data.toList (x :: q) = by_.data.toList ++ x ++ Lib.joinTail by_.data.toList q := fun x q => by simp [Lib.joinTail]
  rw [List.map_cons, Lib.join_cons] at h1 h2
  rw [List.cons_append, List.map_cons, Lib.join_cons, List.map_append, List.map_cons, tail_app, tail_cons]
  simp only [ByteArray.data_append, Array.toList_append, h1, h2, List.append_assoc]
theorem pk_some (tn : Nat) (h1 : 1 ≤ tn) (h2 : tn < 64) : ¬ pk types tn 6 = [] := by
  have : ∀ k, k < 64 → 1 ≤ k → ¬ (pk types k 6).length = 0 := by decide
  exact fun e => this tn h2 h1 (by rw [e]; rfl)
/-- What the reference has written after k subtypes. -/
def tacc (sn tn : Nat) (xs : List ByteArray) (k : Nat) : ByteArray := jo (pk supers sn 2 ++ pk types tn 6 ++ xs.take k) ⟨#[32]⟩
theorem tacc_step (sn tn : Nat) (h1 : 1 ≤ tn) (h2 : tn < 64) (xs : List ByteArray) (k : Nat) (h : k < xs.length) : tacc sn tn xs (k + 1) = tacc sn tn xs k ++ (⟨#[32]⟩ ++ xs[k]) := by
  have hne : ¬ pk supers sn 2 ++ pk types tn 6 ++ xs.take k = [] := fun e => by
    have e2 := (List.append_eq_nil_iff.1 (List.append_eq_nil_iff.1 e).1).2
    exact pk_some tn h1 h2 e2
  rw [tacc, List.take_succ_eq_append_getElem h, ← List.append_assoc, jo_more _ _ _ hne, tacc, ByteArray.append_assoc]
theorem tacc_size (sn tn : Nat) (xs : List ByteArray) (hn : xs.length ≤ 4) (hx : ∀ x ∈ xs, isSub x = true) (k : Nat) : (tacc sn tn xs k).size ≤ 2400 := by
  have h := jo_size (pk supers sn 2 ++ pk types tn 6 ++ xs.take k) ⟨#[32]⟩ (by decide) (fun x hx2 => by
    rcases List.mem_append.1 hx2 with hx2 | hx2
    · rcases List.mem_append.1 hx2 with hx2 | hx2
      · exact (supers_small x (pk_mem supers _ 2 (by decide) x hx2)).2
      · exact (types_small x (pk_mem types _ 6 (by decide) x hx2)).2
    · have := isSub_size (hx x (List.mem_of_mem_take hx2)); omega)
  have h1 := pk_len supers sn 2
  have h2 := pk_len types tn 6
  have h3 : (xs.take k).length ≤ 4 := by rw [List.length_take]; omega
  rw [List.length_append, List.length_append] at h
  unfold tacc
  omega
theorem tacc_zero (sn tn : Nat) (xs : List ByteArray) : tacc sn tn xs 0 = jo (pk supers sn 2 ++ pk types tn 6) ⟨#[32]⟩ := by rw [tacc, List.take_zero, List.append_nil]
set_option maxRecDepth 100000 in
set_option maxHeartbeats 4000000 in
theorem text_ref (su ty : Int) (v : Value) (xs : List ByteArray) (w : World) (h : RowAt Value.string w v xs) (hn : xs.length ≤ 4611686018427387904) :
    Calls Tryd.prog 14 #[lineV su ty v] w fun e w' => e = .returned (.string (lineText su ty xs)) ∧ Below w.heap.size w w' := by
  obtain ⟨ao, cap, rfl⟩ := h.form
  have ba := (Below.refl w.heap.size w).alloc (Nat.le_refl _) (.cells #[.int .i64 su, .int .i64 ty, .slice ao xs.length cap] 24)
  have BA := Lib.hid ba
  have hsz : w.heap.size < (w.alloc (.cells #[.int .i64 su, .int .i64 ty, .slice ao xs.length cap] 24)).heap.size := by show w.heap.size < (w.heap.push _).size; simp
  have HSZ := Lib.hid hsz
  have RX := Lib.hid (h.below ba)
  have HI := Lib.hid (isL_ref su ty (.slice ao xs.length cap) xs _ (h.below ba) hn)
  have C0 := Lib.hid (cells_new w [.int .i64 su, .int .i64 ty, .slice ao xs.length cap] 24 0 _ rfl)
  have C1 := Lib.hid (cells_new w [.int .i64 su, .int .i64 ty, .slice ao xs.length cap] 24 1 _ rfl)
  have C2 := Lib.hid (cells_new w [.int .i64 su, .int .i64 ty, .slice ao xs.length cap] 24 2 _ rfl)
  clear h ba hsz
  cases hl : isL su ty xs
  · have HT := Lib.hid (show lineText su ty xs = ⟨#[]⟩ by rw [lineText, hl]; rfl)
    rw [hl] at HI
    clear hl
    go_enter Tryd.func14, Tryd.ntmps14
    go_wp2_with fail
    refine HI.out.mono ?_
    rintro e w1 ⟨rfl, b1⟩
    go_wp2_with fail
    go_ret
    exact ⟨by rw [HT.out] <;> rfl, BA.out.trans (b1.mono BA.out.size)⟩
  · obtain ⟨⟨h1, h2, h3, h4, _, h6⟩, hsub⟩ := isL_parts hl
    obtain ⟨sn, rfl⟩ := Int.eq_ofNat_of_zero_le h1
    obtain ⟨tn, rfl⟩ := Int.eq_ofNat_of_zero_le (show 0 ≤ ty by omega)
    have HT := Lib.hid (show lineText (sn : Int) (tn : Int) xs = tacc sn tn xs xs.length by rw [lineText, hl, if_pos rfl, lineWords, Int.toNat_natCast, Int.toNat_natCast, tacc, List.take_length])
    rw [hl] at HI
    have HSTEP := Lib.hid (tacc_step sn tn (by omega) (by omega) xs)
    have HSIZE := Lib.hid (tacc_size sn tn xs h6 hsub)
    have HSUB := Lib.hid (fun x hx => isSub_size (hsub x hx))
    have hs4 : sn < 4 := by omega
    have ht6 : tn < 64 := by omega
    have ht1 : 1 ≤ tn := by omega
    have HZ := Lib.hid (tacc_zero sn tn xs)
    have HZ0 := Lib.hid (HSIZE.out 0)
    have HPT := Lib.hid (pk_some tn ht1 ht6)
    have HE := Lib.hid (jo_empty (pk supers sn 2) ⟨#[32]⟩ (fun x hx => (supers_small x (pk_mem supers _ 2 (by decide) x hx)).1))
    have HJ1 := Lib.hid (jo_size (pk supers sn 2) ⟨#[32]⟩ (by decide) (fun x hx => (supers_small x (pk_mem supers _ 2 (by decide) x hx)).2))
    have HJ2 := Lib.hid (jo_size (pk types tn 6) ⟨#[32]⟩ (by decide) (fun x hx => (types_small x (pk_mem types _ 6 (by decide) x hx)).2))
    have HL1 := Lib.hid (pk_len supers sn 2)
    have HL2 := Lib.hid (pk_len types tn 6)
    clear hl hsub h1 h2 h3 h4
    go_enter Tryd.func14, Tryd.ntmps14
    go_wp2_with fail
    refine HI.out.mono ?_
    rintro e wa ⟨rfl, b1⟩
    have RX := Lib.hid (RX.out.below b1)
    have BA := Lib.hid (BA.out.trans (b1.mono BA.out.size))
    have F0 := Lib.hid (fun w' (h : Lx wa w') => (Below.cell h (p := ⟨w.heap.size, 0, none⟩) (Nat.lt_of_lt_of_le HSZ.out b1.size)).trans ((b1.cell (p := ⟨w.heap.size, 0, none⟩) HSZ.out).trans C0.out))
    have F1 := Lib.hid (fun w' (h : Lx wa w') => (Below.cell h (p := ⟨w.heap.size, 1, none⟩) (Nat.lt_of_lt_of_le HSZ.out b1.size)).trans ((b1.cell (p := ⟨w.heap.size, 1, none⟩) HSZ.out).trans C1.out))
    have F2 := Lib.hid (fun w' (h : Lx wa w') => (Below.cell h (p := ⟨w.heap.size, 2, none⟩) (Nat.lt_of_lt_of_le HSZ.out b1.size)).trans ((b1.cell (p := ⟨w.heap.size, 2, none⟩) HSZ.out).trans C2.out))
    clear b1 HI C0 C1 C2
    have hG : Lx wa wa := Below.refl _ _
    go_wp2_with fail
    refine wp_region_noPanic ?_
    refine wp_region_held_drew (S := fun w' => Lx wa w') (by kernel_rfl) (Lx.drew (by assumption)) (fun hHeld => ?_)
    refine wpAnyH_take (i := 1) (oi := ?oiP1x) (v := ?vP1x) ?hiP1x (by kernel_rfl) (by kernel_rfl) (by kernel_rfl) ?hqP1x ?hyP1x (by assumption) ?restP1x
    case hiP1x => (simp only [List.getElem?_toArray, List.getElem?_cons_succ, List.getElem?_cons_zero] <;> rfl)
    case hqP1x => exact fun _ _ _ h => h
    case hyP1x => exact Or.inl ⟨by rfl, by (intro wS hSw; have s0 := F0.out wS hSw; have s1 := F1.out wS hSw; go_simp; try with_reducible rfl)⟩
    try simp only [Act.put, List.setIfInBounds_toArray, List.set_cons_zero, List.set_cons_succ]
    refine wpAnyH_take (i := 2) (oi := ?oiP2x) (v := ?vP2x) ?hiP2x (by kernel_rfl) (by kernel_rfl) (by kernel_rfl) ?hqP2x ?hyP2x (by assumption) ?restP2x
    case hiP2x => (simp only [List.getElem?_toArray, List.getElem?_cons_succ, List.getElem?_cons_zero] <;> rfl)
    case hqP2x => exact fun _ _ _ h => h
    case hyP2x => exact Or.inl ⟨by rfl, by (intro wS hSw; have s0 := F0.out wS hSw; have s1 := F1.out wS hSw; go_simp; try with_reducible rfl)⟩
    try simp only [Act.put, List.setIfInBounds_toArray, List.set_cons_zero, List.set_cons_succ]
    refine wpAnyH_ready (rs := [0]) (by kernel_rfl) (by simp) ?_
    refine AllReadyH.cons (o := ?oiP0x) ?hiP0x (fun K hK => ?hsP0x) AllReadyH.nil
    case hiP0x => (simp only [List.getElem?_toArray, List.getElem?_cons_zero] <;> rfl)
    go_simp
    refine (superWords_ref _).mono ?_
    rintro e w3 ⟨v3, rfl, r3, b3⟩
    have hG3 : Lx wa w3 := Lx.step (by assumption) b3
    have R3 := Lib.hid r3
    clear r3 b3
    go_wp2_with fail
    refine hK.out _ _ hG3 (fun hHeld3 => ?_)
    clear hK K
    try simp only [Act.put, List.setIfInBounds_toArray, List.set_cons_zero, List.set_cons_succ]
    refine wpAnyH_ready (rs := [3]) (by kernel_rfl) (by simp) ?_
    refine AllReadyH.cons (o := ?oiP3x) ?hiP3x (fun K hK => ?hsP3x) AllReadyH.nil
    case hiP3x => (simp only [List.getElem?_toArray, List.getElem?_cons_succ, List.getElem?_cons_zero] <;> rfl)
    go_simp
    refine (joined_ref v3 supers sn ⟨#[32]⟩ _ R3.out (by decide) (by omega) (by decide) supers_small).mono ?_
    rintro e w4 ⟨rfl, rfl⟩
    go_wp2_with fail
    refine hK.out _ _ hG3 (fun hHeld4 => ?_)
    clear hK K
    try simp only [Act.put, List.setIfInBounds_toArray, List.set_cons_zero, List.set_cons_succ]
    refine wpAnyH_take (i := 4) (oi := ?oiP4x) (v := ?vP4x) ?hiP4x (by kernel_rfl) (by kernel_rfl) (by kernel_rfl) ?hqP4x ?hyP4x (by assumption) ?restP4x
    case hiP4x => (simp only [List.getElem?_toArray, List.getElem?_cons_succ, List.getElem?_cons_zero] <;> rfl)
    case hqP4x => exact fun _ _ _ h => h
    case hyP4x => exact Or.inl ⟨by rfl, by (intro wS hSw; have s0 := F0.out wS hSw; have s1 := F1.out wS hSw; go_simp; try with_reducible rfl)⟩
    try simp only [Act.put, List.setIfInBounds_toArray, List.set_cons_zero, List.set_cons_succ]
    refine wpAnyH_done (by kernel_rfl) ?_ _
    refine NoPanic.normal ?_
    obtain ⟨p, hp⟩ : ∃ p, jo (pk supers sn 2) ⟨#[32]⟩ = p := ⟨_, rfl⟩
    obtain ⟨q, hq⟩ : ∃ q, jo (pk types tn 6) ⟨#[32]⟩ = q := ⟨_, rfl⟩
    have hps : p.size ≤ 400 := by have := HJ1.out; have := HL1.out; rw [hp] at *; omega
    have hqs : q.size ≤ 1200 := by have := HJ2.out; have := HL2.out; rw [hq] at *; omega
    have nq1 : ¬ 9223372036854775807 < p.size + q.size := by omega
    have nq2 : ¬ 9223372036854775807 < p.size + 1 + q.size := by omega
    have HPP := Lib.hid hp
    have HQQ := Lib.hid hq
    rw [show jo (pk supers sn supers.length) ⟨#[32]⟩ = p from hp]
    clear hp hq
    by_cases hemp : pk supers sn 2 = []
    · have hpe : p.toList.isEmpty = true := by rw [← HPP.out]; exact HE.out.2 hemp
      have HS0 := Lib.hid (show tacc sn tn xs 0 = p ++ q by
        have hp0 : p = ⟨#[]⟩ := by rw [← HPP.out, hemp]; rfl
        rw [HZ.out, hemp, List.nil_append, HQQ.out, hp0]
        exact (bytes_ext (by simp)))
      clear hemp
      go_wp2_with fail
      refine wp_region_noPanic ?_
      refine wp_region_held_drew (S := fun w' => Lx wa w') (by kernel_rfl) (Lx.drew (by assumption)) (fun hHeld => ?_)
      refine wpAnyH_take (i := 0) (oi := ?oiQa0x) (v := ?vQa0x) ?hiQa0x (by kernel_rfl) (by kernel_rfl) (by kernel_rfl) ?hqQa0x ?hyQa0x (by assumption) ?restQa0x
      case hiQa0x => (simp only [List.getElem?_toArray, List.getElem?_cons_zero] <;> rfl)
      case hqQa0x => exact fun _ _ _ h => h
      case hyQa0x => exact Or.inl ⟨by rfl, by (intro wS hSw; have s0 := F0.out wS hSw; have s1 := F1.out wS hSw; go_simp; try with_reducible rfl)⟩
      try simp only [Act.put, List.setIfInBounds_toArray, List.set_cons_zero, List.set_cons_succ]
      refine wpAnyH_take (i := 2) (oi := ?oiQa2x) (v := ?vQa2x) ?hiQa2x (by kernel_rfl) (by kernel_rfl) (by kernel_rfl) ?hqQa2x ?hyQa2x (by assumption) ?restQa2x
      case hiQa2x => (simp only [List.getElem?_toArray, List.getElem?_cons_succ, List.getElem?_cons_zero] <;> rfl)
      case hqQa2x => exact fun _ _ _ h => h
      case hyQa2x => exact Or.inl ⟨by rfl, by (intro wS hSw; have s0 := F0.out wS hSw; have s1 := F1.out wS hSw; go_simp; try with_reducible rfl)⟩
      try simp only [Act.put, List.setIfInBounds_toArray, List.set_cons_zero, List.set_cons_succ]
      refine wpAnyH_take (i := 3) (oi := ?oiQa3x) (v := ?vQa3x) ?hiQa3x (by kernel_rfl) (by kernel_rfl) (by kernel_rfl) ?hqQa3x ?hyQa3x (by assumption) ?restQa3x
      case hiQa3x => (simp only [List.getElem?_toArray, List.getElem?_cons_succ, List.getElem?_cons_zero] <;> rfl)
      case hqQa3x => exact fun _ _ _ h => h
      case hyQa3x => exact Or.inl ⟨by rfl, by (intro wS hSw; have s0 := F0.out wS hSw; have s1 := F1.out wS hSw; go_simp; try with_reducible rfl)⟩
      try simp only [Act.put, List.setIfInBounds_toArray, List.set_cons_zero, List.set_cons_succ]
      refine wpAnyH_ready (rs := [1]) (by kernel_rfl) (by simp) ?_
      refine AllReadyH.cons (o := ?oiQa1x) ?hiQa1x (fun K hK => ?hsQa1x) AllReadyH.nil
      case hiQa1x => (simp only [List.getElem?_toArray, List.getElem?_cons_succ, List.getElem?_cons_zero] <;> rfl)
      go_simp
      refine (typeWords_ref _).mono ?_
      rintro e w6 ⟨v6, rfl, r6, b6⟩
      have hG6 : Lx wa w6 := Lx.step (by assumption) b6
      have R6 := Lib.hid r6
      clear r6 b6
      go_wp2_with fail
      refine hK.out _ _ hG6 (fun hHeld6 => ?_)
      clear hK K
      try simp only [Act.put, List.setIfInBounds_toArray, List.set_cons_zero, List.set_cons_succ]
      refine wpAnyH_ready (rs := [4]) (by kernel_rfl) (by simp) ?_
      refine AllReadyH.cons (o := ?oiQa4x) ?hiQa4x (fun K hK => ?hsQa4x) AllReadyH.nil
      case hiQa4x => (simp only [List.getElem?_toArray, List.getElem?_cons_succ, List.getElem?_cons_zero] <;> rfl)
      go_simp
      refine (joined_ref v6 types tn ⟨#[32]⟩ _ R6.out (by decide) (by omega) (by decide) types_small).mono ?_
      rintro e w7 ⟨rfl, rfl⟩
      rw [show jo (pk types tn types.length) ⟨#[32]⟩ = q from HQQ.out]
      go_wp2_with fail
      refine hK.out _ _ hG6 (fun hHeld7 => ?_)
      clear hK K
      try simp only [Act.put, List.setIfInBounds_toArray, List.set_cons_zero, List.set_cons_succ]
      refine wpAnyH_take (i := 5) (oi := ?oiQa5x) (v := ?vQa5x) ?hiQa5x (by kernel_rfl) (by kernel_rfl) (by kernel_rfl) ?hqQa5x ?hyQa5x (by assumption) ?restQa5x
      case hiQa5x => (simp only [List.getElem?_toArray, List.getElem?_cons_succ, List.getElem?_cons_zero] <;> rfl)
      case hqQa5x => exact fun _ _ _ h => h
      case hyQa5x => exact Or.inl ⟨by rfl, by (intro wS hSw; have s0 := F0.out wS hSw; have s1 := F1.out wS hSw; go_simp; try with_reducible rfl)⟩
      try simp only [Act.put, List.setIfInBounds_toArray, List.set_cons_zero, List.set_cons_succ]
      refine wpAnyH_take (i := 6) (oi := ?oiQa6x) (v := ?vQa6x) ?hiQa6x (by kernel_rfl) (by kernel_rfl) (by kernel_rfl) ?hqQa6x ?hyQa6x (by assumption) ?restQa6x
      case hiQa6x => (simp only [List.getElem?_toArray, List.getElem?_cons_succ, List.getElem?_cons_zero] <;> rfl)
      case hqQa6x => exact fun _ _ _ h => h
      case hyQa6x => exact Or.inl ⟨by rfl, by (intro wS hSw; have s0 := F0.out wS hSw; have s1 := F1.out wS hSw; go_simp; try with_reducible rfl)⟩
      try simp only [Act.put, List.setIfInBounds_toArray, List.set_cons_zero, List.set_cons_succ]
      refine wpAnyH_done (by kernel_rfl) ?_ _
      refine NoPanic.normal ?_
      have hp2 : Lx wa w6 := hG6
      go_wp2_with fail
      go_loopw [3, 4] (fun s i wr => ∃ k : Nat, k ≤ xs.length ∧ i = .int .i64 k ∧ s = .string (tacc sn tn xs k) ∧ Hid (Lx wa wr) ∧ wr.cell? ⟨w.heap.size, 2, none⟩ = some (.slice ao xs.length cap)) (fun _ i _ => xs.length - (intOf i).toNat)
      case atStart => exact ⟨0, by omega, rfl, by rw [HS0.out], Lib.hid (by assumption), F2.out _ (by assumption)⟩
      case round =>
        obtain ⟨k, hk, rfl, rfl, HB, cc⟩ := hrel
        have hsz := HSIZE.out k
        by_cases hlt : k < xs.length
        · have RX1 := RX.out.below HB.out
          obtain ⟨ao', cap', he, hcap, hx⟩ := RX1
          simp only [Value.slice.injEq, true_and] at he
          obtain ⟨rfl, rfl⟩ := he
          rcases hx with e | ⟨b, o, rfl, hb, hc⟩
          · rw [e] at hlt; simp at hlt
          have g0 := hc k xs[k] (by simp)
          have HS := Lib.hid (HSTEP.out k hlt)
          have hss := HSUB.out xs[k] (List.getElem_mem _)
          obtain ⟨x, hxx⟩ : ∃ x, x = xs[k] := ⟨_, rfl⟩
          obtain ⟨s, hs⟩ : ∃ s, s = tacc sn tn xs k := ⟨_, rfl⟩
          rw [← hxx] at g0 HS hss
          rw [← hs] at HS hsz ⊢
          clear hc hxx hs hcap hb
          go_wp2_with fail
          go_roundw
          case rel => exact ⟨k + 1, by omega, by go_num, by rw [HS.out], HB, cc⟩
          case measure => simp [intOf]; omega
        · obtain rfl : k = xs.length := by omega
          go_wp2_with fail
          go_ret
          exact ⟨by rw [HT.out] <;> rfl, BA.out.trans (Below.mono HB.out BA.out.size)⟩
    · have hpe : p.toList.isEmpty = false := by rw [← HPP.out, Bool.eq_false_iff]; exact fun e => hemp (HE.out.1 e)
      have HS0 := Lib.hid (show tacc sn tn xs 0 = p ++ ⟨#[32]⟩ ++ q by rw [HZ.out, jo_app _ _ _ hemp HPT.out, HPP.out, HQQ.out])
      clear hemp
      go_wp2_with fail
      refine wp_region_noPanic ?_
      refine wp_region_held_drew (S := fun w' => Lx wa w') (by kernel_rfl) (Lx.drew (by assumption)) (fun hHeld => ?_)
      refine wpAnyH_take (i := 0) (oi := ?oiQb0x) (v := ?vQb0x) ?hiQb0x (by kernel_rfl) (by kernel_rfl) (by kernel_rfl) ?hqQb0x ?hyQb0x (by assumption) ?restQb0x
      case hiQb0x => (simp only [List.getElem?_toArray, List.getElem?_cons_zero] <;> rfl)
      case hqQb0x => exact fun _ _ _ h => h
      case hyQb0x => exact Or.inl ⟨by rfl, by (intro wS hSw; have s0 := F0.out wS hSw; have s1 := F1.out wS hSw; go_simp; try with_reducible rfl)⟩
      try simp only [Act.put, List.setIfInBounds_toArray, List.set_cons_zero, List.set_cons_succ]
      refine wpAnyH_take (i := 2) (oi := ?oiQb2x) (v := ?vQb2x) ?hiQb2x (by kernel_rfl) (by kernel_rfl) (by kernel_rfl) ?hqQb2x ?hyQb2x (by assumption) ?restQb2x
      case hiQb2x => (simp only [List.getElem?_toArray, List.getElem?_cons_succ, List.getElem?_cons_zero] <;> rfl)
      case hqQb2x => exact fun _ _ _ h => h
      case hyQb2x => exact Or.inl ⟨by rfl, by (intro wS hSw; have s0 := F0.out wS hSw; have s1 := F1.out wS hSw; go_simp; try with_reducible rfl)⟩
      try simp only [Act.put, List.setIfInBounds_toArray, List.set_cons_zero, List.set_cons_succ]
      refine wpAnyH_take (i := 3) (oi := ?oiQb3x) (v := ?vQb3x) ?hiQb3x (by kernel_rfl) (by kernel_rfl) (by kernel_rfl) ?hqQb3x ?hyQb3x (by assumption) ?restQb3x
      case hiQb3x => (simp only [List.getElem?_toArray, List.getElem?_cons_succ, List.getElem?_cons_zero] <;> rfl)
      case hqQb3x => exact fun _ _ _ h => h
      case hyQb3x => exact Or.inl ⟨by rfl, by (intro wS hSw; have s0 := F0.out wS hSw; have s1 := F1.out wS hSw; go_simp; try with_reducible rfl)⟩
      try simp only [Act.put, List.setIfInBounds_toArray, List.set_cons_zero, List.set_cons_succ]
      refine wpAnyH_ready (rs := [1]) (by kernel_rfl) (by simp) ?_
      refine AllReadyH.cons (o := ?oiQb1x) ?hiQb1x (fun K hK => ?hsQb1x) AllReadyH.nil
      case hiQb1x => (simp only [List.getElem?_toArray, List.getElem?_cons_succ, List.getElem?_cons_zero] <;> rfl)
      go_simp
      refine (typeWords_ref _).mono ?_
      rintro e w6 ⟨v6, rfl, r6, b6⟩
      have hG6 : Lx wa w6 := Lx.step (by assumption) b6
      have R6 := Lib.hid r6
      clear r6 b6
      go_wp2_with fail
      refine hK.out _ _ hG6 (fun hHeld6 => ?_)
      clear hK K
      try simp only [Act.put, List.setIfInBounds_toArray, List.set_cons_zero, List.set_cons_succ]
      refine wpAnyH_ready (rs := [4]) (by kernel_rfl) (by simp) ?_
      refine AllReadyH.cons (o := ?oiQb4x) ?hiQb4x (fun K hK => ?hsQb4x) AllReadyH.nil
      case hiQb4x => (simp only [List.getElem?_toArray, List.getElem?_cons_succ, List.getElem?_cons_zero] <;> rfl)
      go_simp
      refine (joined_ref v6 types tn ⟨#[32]⟩ _ R6.out (by decide) (by omega) (by decide) types_small).mono ?_
      rintro e w7 ⟨rfl, rfl⟩
      rw [show jo (pk types tn types.length) ⟨#[32]⟩ = q from HQQ.out]
      go_wp2_with fail
      refine hK.out _ _ hG6 (fun hHeld7 => ?_)
      clear hK K
      try simp only [Act.put, List.setIfInBounds_toArray, List.set_cons_zero, List.set_cons_succ]
      refine wpAnyH_take (i := 5) (oi := ?oiQb5x) (v := ?vQb5x) ?hiQb5x (by kernel_rfl) (by kernel_rfl) (by kernel_rfl) ?hqQb5x ?hyQb5x (by assumption) ?restQb5x
      case hiQb5x => (simp only [List.getElem?_toArray, List.getElem?_cons_succ, List.getElem?_cons_zero] <;> rfl)
      case hqQb5x => exact fun _ _ _ h => h
      case hyQb5x => exact Or.inl ⟨by rfl, by (intro wS hSw; have s0 := F0.out wS hSw; have s1 := F1.out wS hSw; go_simp; try with_reducible rfl)⟩
      try simp only [Act.put, List.setIfInBounds_toArray, List.set_cons_zero, List.set_cons_succ]
      refine wpAnyH_take (i := 6) (oi := ?oiQb6x) (v := ?vQb6x) ?hiQb6x (by kernel_rfl) (by kernel_rfl) (by kernel_rfl) ?hqQb6x ?hyQb6x (by assumption) ?restQb6x
      case hiQb6x => (simp only [List.getElem?_toArray, List.getElem?_cons_succ, List.getElem?_cons_zero] <;> rfl)
      case hqQb6x => exact fun _ _ _ h => h
      case hyQb6x => exact Or.inl ⟨by rfl, by (intro wS hSw; have s0 := F0.out wS hSw; have s1 := F1.out wS hSw; go_simp; try with_reducible rfl)⟩
      try simp only [Act.put, List.setIfInBounds_toArray, List.set_cons_zero, List.set_cons_succ]
      refine wpAnyH_done (by kernel_rfl) ?_ _
      refine NoPanic.normal ?_
      have hp2 : Lx wa w6 := hG6
      go_wp2_with fail
      go_loopw [3, 4] (fun s i wr => ∃ k : Nat, k ≤ xs.length ∧ i = .int .i64 k ∧ s = .string (tacc sn tn xs k) ∧ Hid (Lx wa wr) ∧ wr.cell? ⟨w.heap.size, 2, none⟩ = some (.slice ao xs.length cap)) (fun _ i _ => xs.length - (intOf i).toNat)
      case atStart => exact ⟨0, by omega, rfl, by rw [HS0.out], Lib.hid (by assumption), F2.out _ (by assumption)⟩
      case round =>
        obtain ⟨k, hk, rfl, rfl, HB, cc⟩ := hrel
        have hsz := HSIZE.out k
        by_cases hlt : k < xs.length
        · have RX1 := RX.out.below HB.out
          obtain ⟨ao', cap', he, hcap, hx⟩ := RX1
          simp only [Value.slice.injEq, true_and] at he
          obtain ⟨rfl, rfl⟩ := he
          rcases hx with e | ⟨b, o, rfl, hb, hc⟩
          · rw [e] at hlt; simp at hlt
          have g0 := hc k xs[k] (by simp)
          have HS := Lib.hid (HSTEP.out k hlt)
          have hss := HSUB.out xs[k] (List.getElem_mem _)
          obtain ⟨x, hxx⟩ : ∃ x, x = xs[k] := ⟨_, rfl⟩
          obtain ⟨s, hs⟩ : ∃ s, s = tacc sn tn xs k := ⟨_, rfl⟩
          rw [← hxx] at g0 HS hss
          rw [← hs] at HS hsz ⊢
          clear hc hxx hs hcap hb
          go_wp2_with fail
          go_roundw
          case rel => exact ⟨k + 1, by omega, by go_num, by rw [HS.out], HB, cc⟩
          case measure => simp [intOf]; omega
        · obtain rfl : k = xs.length := by omega
          go_wp2_with fail
          go_ret
          exact ⟨by rw [HT.out] <;> rfl, BA.out.trans (Below.mono HB.out BA.out.size)⟩
end Go.Proofs.YtgnffmlcjnnneaaDoor
