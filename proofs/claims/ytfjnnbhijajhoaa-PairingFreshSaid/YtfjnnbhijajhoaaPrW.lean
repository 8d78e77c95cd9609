/- Chapter 56: the law of the fresh pair. -/
import Derived.Test.YtfjnnbhijajhoaaPrU
namespace Go.Proofs.Ytfjnnbhijajhoaa
open Go Go.RowKit Go.Sort Go.Shelf Cg
theorem pick_fresh (l : List Rs) (a : Int) (xs : List Int) (h : 0 < xs.length) : plays l a (xs[pick l a xs]'(pick_lt l a xs h)) = !(xs.any fun b => !plays l a b) := by
  cases e : xs.findIdx? fun b => !plays l a b with
  | none =>
    have hn := List.findIdx?_eq_none_iff.1 e
    have hp : pick l a xs = 0 := by unfold pick; rw [e]; rfl
    have h1 : (xs.any fun b => !plays l a b) = false := List.any_eq_false.2 fun x hx => by rw [hn x hx]; simp
    have h2 := hn xs[0] (List.getElem_mem h)
    rw [h1]
    have : plays l a xs[0] = true := by simpa using h2
    simp only [hp, this]
    rfl
  | some i =>
    obtain ⟨hi, hb, _⟩ := List.findIdx?_eq_some_iff_getElem.1 e
    have hp : pick l a xs = i := by unfold pick; rw [e]; rfl
    have h1 : (xs.any fun b => !plays l a b) = true := List.any_eq_true.2 ⟨_, List.getElem_mem hi, hb⟩
    rw [h1]
    have : plays l a xs[i] = false := by simpa using hb
    simp only [hp, this]
    rfl
/-- Whether somebody among those from 1 to k - 1 is fresh. -/
def frs (l : List Rs) (a : Int) (xs : List Int) (k : Nat) : Bool := ((xs.take k).drop 1).any fun b => !plays l a b
theorem frs_step (l : List Rs) (a : Int) (xs : List Int) (k : Nat) (h : k < xs.length) (h0 : 0 < k) : frs l a xs (k + 1) = (frs l a xs k || !plays l a xs[k]) := by
  unfold frs
  rw [List.take_succ_eq_append_getElem h, List.drop_append_of_le_length (by rw [List.length_take]; omega), List.any_append]
  simp
theorem first_pair (l : List Rs) (xs : List Int) (h : 1 < xs.length) : ∃ b t, pairs l xs = (xs[0], b) :: t ∧ plays l xs[0] b = !frs l xs[0] xs xs.length := by
  have hd : 0 < (xs.drop 1).length := by rw [List.length_drop]; omega
  have hp := pick_lt l xs[0] (xs.drop 1) hd
  have hp2 := hp
  rw [List.length_drop] at hp2
  refine ⟨_, _, pairs_step l xs h (pick l xs[0] (xs.drop 1) + 1) (by omega) rfl, ?_⟩
  have := pick_fresh l xs[0] (xs.drop 1) hd
  rw [List.getElem_drop] at this
  unfold frs
  rw [List.take_length, ← this]
  congr 1
  simp only [Nat.add_comm]
def FS (g o : Nat) (a b : Int) (w : World) : Prop := w.cell? ⟨g, 0, none⟩ = some (.int .i64 a) ∧ w.cell? ⟨g, o, none⟩ = some (.int .i64 b)
theorem FS.below {g o : Nat} {a b : Int} {w w' : World} (h : FS g o a b w) (hb : Below w.heap.size w w') : FS g o a b w' := ⟨(hb.cell (p := ⟨g, 0, none⟩) (block_lt_of_cell h.1)).trans h.1, (hb.cell (p := ⟨g, o, none⟩) (block_lt_of_cell h.2)).trans h.2⟩
def FP (g o : Nat) (a b : Int) (w : World) : Prop := w.cell? ⟨g, o, none⟩ = some (.int .i64 a) ∧ w.cell? ⟨g, o + 1, none⟩ = some (.int .i64 b)
theorem FP.below {g o : Nat} {a b : Int} {w w' : World} (h : FP g o a b w) (hb : Below w.heap.size w w') : FP g o a b w' := ⟨(hb.cell (p := ⟨g, o, none⟩) (block_lt_of_cell h.1)).trans h.1, (hb.cell (p := ⟨g, o + 1, none⟩) (block_lt_of_cell h.2)).trans h.2⟩
set_option maxRecDepth 100000 in
set_option maxHeartbeats 8000000 in
theorem law_pairingFresh (n : Int) (v : Value) (l : List Rs) (w : World) (h : Cg.RowK 5 encR w v l) : Calls Try.prog 8 #[.int .i64 n, v] w fun e w' => e = .returned (.bool true) ∧ Below w.heap.size w w' := by
  have HF := Lib.hid (few_law n v l w h)
  have HL := Lib.hid h
  obtain ⟨ao, cap, rfl⟩ := h.form
  clear h
  cases hd : (decide (n ≤ 40) && decide ((l.length : Int) ≤ 150))
  · have d2 := Lib.hid hd
    clear hd
    go_enter Try.func8, Try.ntmps8
    go_wp2_with fail
    refine HF.out.mono ?_
    rintro e w1 ⟨rfl, rfl⟩
    rw [d2.out]
    go_wp2_with fail
    refine (alive56 w1 w1 (Below.refl _ _)).mono ?_
    rintro e w6 ⟨rfl, b6⟩
    go_wp2_with fail
    go_ret
    exact ⟨rfl, b6⟩
  · have d2 := Lib.hid hd
    rw [Bool.and_eq_true, decide_eq_true_eq, decide_eq_true_eq] at hd
    have hn40 := hd.1
    have hl150 : l.length ≤ 150 := by omega
    clear hd
    by_cases h2 : n < 2
    · have f2 : decide (n < 2) = true := decide_eq_true h2
      go_enter Try.func8, Try.ntmps8
      go_wp2_with fail
      refine HF.out.mono ?_
      rintro e w1 ⟨rfl, rfl⟩
      rw [d2.out]
      go_wp2_with fail
      refine (alive56 w1 w1 (Below.refl _ _)).mono ?_
      rintro e w6 ⟨rfl, b6⟩
      go_wp2_with fail
      go_ret
      exact ⟨rfl, b6⟩
    · have f2 : decide (n < 2) = false := decide_eq_false h2
      obtain ⟨N, rfl⟩ : ∃ N : Nat, n = (N : Int) := ⟨n.toNat, by omega⟩
      cases h3 : ((N : Int) % 2 == 1)
      · have HEV := Lib.hid (show ¬ N % 2 = 1 by have := beq_eq_false_iff_ne.1 h3; omega)
        have HC := Lib.hid (show clampI (N : Int) = N by unfold clampI; rw [if_neg (by omega), if_neg (by omega)])
        go_enter Try.func8, Try.ntmps8
        go_wp2_with fail
        refine HF.out.mono ?_
        rintro e w1 ⟨rfl, rfl⟩
        rw [d2.out]
        go_wp2_with fail
        refine (standings_prog N N _ l w1 HL.out (by omega) HC.out (by omega)).mono ?_
        rintro e w2 ⟨g, rows, rfl, hlen, st⟩
        have ST := Lib.hid st
        have LEN := Lib.hid hlen
        clear st hlen
        go_wp2_with fail
        refine (pair_prog N N _ l w2 (HL.out.below ST.out.bel) (by omega) HC.out (by omega)).mono ?_
        rintro e w3 ⟨v3, s3, rfl, r3, b3, p3, t3⟩
        rw [← st_uniq ST.out.perm (srt_of ST.out.srt) p3 t3] at r3
        obtain ⟨xs, hxs⟩ : ∃ xs, xs = rows.map (·.1.pl) := ⟨_, rfl⟩
        have hxl : xs.length = N := by rw [hxs, List.length_map, LEN.out]
        have hpo : pairOut l (rows.map (·.1)) = (pairs l xs).map rsPair := by
          unfold pairOut
          rw [List.length_map, LEN.out, if_neg HEV.out, List.map_map, hxs]
          rfl
        rw [hpo] at r3
        have hpl : ((pairs l xs).map rsPair).length = N / 2 := by rw [List.length_map, pairs_len l _ xs (Nat.le_refl _), hxl]
        obtain ⟨b, t, hpt, hfr⟩ := first_pair l xs (by omega)
        obtain ⟨vo, vc, rfl, _, hx⟩ := r3
        rw [hpl]
        obtain ⟨a, ha⟩ : ∃ a, a = xs[0]'(by omega) := ⟨_, rfl⟩
        rw [← ha] at hpt hfr
        rw [hpt] at hx
        rcases hx with hh | ⟨bp, op, rfl, hbp, hcell⟩
        · simp at hh
        have p0 := hcell 0 _ rfl 0 _ rfl
        have p1 := hcell 0 _ rfl 1 _ rfl
        rw [Nat.zero_mul, Nat.add_zero] at p0 p1
        simp only [rsPair] at p0 p1
        have B3 := Lib.hid b3
        have K3 := Lib.hid (ST.out.blk.same (b3.block g ST.out.blk.lt))
        have cells : ∀ (j : Nat) (hj : j < xs.length), w3.cell? ⟨g, j * 8, none⟩ = some (.int .i64 xs[j]) := fun j hj => by
          have hjr : j < rows.length := by rw [LEN.out, ← hxl]; exact hj
          have := K3.out.cell j _ (List.getElem?_eq_getElem hjr) 0 _ rfl
          rw [Nat.add_zero] at this
          rw [this]
          simp only [hxs, List.getElem_map]
        have c0 := cells 0 (by omega)
        rw [Nat.zero_mul, ← ha] at c0
        have HCE := Lib.hid cells
        have HXL := Lib.hid hxl
        have HFR := Lib.hid hfr
        have HA := Lib.hid ha
        have HBP := Lib.hid hbp
        have BW := Lib.hid (ST.out.bel.trans (B3.out.mono ST.out.bel.size))
        have HGL := Lib.hid K3.out.lt
        have e1 : ((N : Int) != (N : Int)) = false := by simp
        have e2 : (a != a) = false := by simp
        have hN2 : 0 < N / 2 := by omega
        have P0 := Lib.hid p0
        have P1 := Lib.hid p1
        clear b3 p3 t3 hpo hpl hpt hcell cells hfr ha hbp hxs
        have e3 : (((N / 2 : Nat) : Int) != (N : Int) / 2) = false := by
          have : ((N / 2 : Nat) : Int) = (N : Int) / 2 := by omega
          rw [this]; simp
        have e4 : (((N / 2 : Nat) : Int) != (N : Int).tdiv 2) = false := by
          have : ((N / 2 : Nat) : Int) = (N : Int).tdiv 2 := by rw [Int.tdiv_eq_ediv_of_nonneg (by omega)]; omega
          rw [this]; simp
        have e5 : (0 : Int) < (N : Int) / 2 := by omega
        have e6 : (0 : Int) < (N : Int) := by omega
        have e7 : 0 < N := by omega
        go_wp2_with fail
        go_quiet (fail)
        clear p0 p1 c0 e3 e4
        go_wp2_with fail
        go_loopw [7, 8] (fun fv i wr => ∃ k : Nat, 1 ≤ k ∧ k ≤ N ∧ i = .int .i64 k ∧ fv = .bool (frs l a xs k) ∧ Below w3.heap.size w3 wr) (fun _ i _ => N - (intOf i).toNat)
        case atStart => exact ⟨1, by omega, by omega, rfl, by
          have : frs l a xs 1 = false := by
            unfold frs
            have : ((xs.take 1).drop 1) = [] := List.drop_eq_nil_of_le (by rw [List.length_take]; omega)
            rw [this]; rfl
          rw [this], drewN_grow _ _⟩
        case round =>
          obtain ⟨k, hk1, hk, rfl, rfl, bw⟩ := hrel
          have B4 := Lib.hid bw
          have B14 := Lib.hid (BW.out.trans (bw.mono BW.out.size))
          clear bw
          by_cases hlt : k < N
          · have hkx : k < xs.length := by omega
            have s0 := (B4.out.cell (p := ⟨g, 0 * 8, none⟩) HGL.out).trans (HCE.out 0 (by omega))
            rw [← HA.out, Nat.zero_mul] at s0
            have s1 := (B4.out.cell (p := ⟨g, k * 8, none⟩) HGL.out).trans (HCE.out k hkx)
            have HST := Lib.hid (frs_step l a xs k hkx (by omega))
            obtain ⟨b2, hb2⟩ : ∃ b2, b2 = xs[k] := ⟨_, rfl⟩
            rw [← hb2] at s1 HST
            obtain ⟨f, hf⟩ : ∃ f, f = frs l a xs k := ⟨_, rfl⟩
            rw [← hf] at HST
            rw [← hf]
            clear hb2 hf
            cases f
            · have PS1 := Lib.hid (show FS g (k * 8) a b2 wr from ⟨s0, s1⟩)
              clear s0 s1
              go_wp2_with fail
              refine wp_region_noPanic ?_
              refine wp_region_held_drew (S := FS g (k * 8) a b2) (by kernel_rfl) (PS1.out) (fun hHeld => ?_)
              refine wpAnyH_take (i := 0) (oi := ?oiA0x) (v := ?vA0x) ?hiA0x (by kernel_rfl) (by kernel_rfl) (by kernel_rfl) ?hqA0x ?hyA0x (by assumption) ?restA0x
              case hiA0x => (simp only [List.getElem?_toArray, List.getElem?_cons_zero] <;> rfl)
              case hqA0x => exact fun _ _ _ h => h
              case hyA0x => exact Or.inl ⟨by rfl, by (intro wS hSw; obtain ⟨q0, q1⟩ := hSw; go_simp; try with_reducible rfl)⟩
              try simp only [Act.put, List.setIfInBounds_toArray, List.set_cons_zero, List.set_cons_succ]
              refine wpAnyH_take (i := 1) (oi := ?oiA1x) (v := ?vA1x) ?hiA1x (by kernel_rfl) (by kernel_rfl) (by kernel_rfl) ?hqA1x ?hyA1x (by assumption) ?restA1x
              case hiA1x => (simp only [List.getElem?_toArray, List.getElem?_cons_succ, List.getElem?_cons_zero] <;> rfl)
              case hqA1x => exact fun _ _ _ h => h
              case hyA1x => exact Or.inl ⟨by rfl, by (intro wS hSw; obtain ⟨q0, q1⟩ := hSw; go_simp; try with_reducible rfl)⟩
              try simp only [Act.put, List.setIfInBounds_toArray, List.set_cons_zero, List.set_cons_succ]
              refine wpAnyH_take (i := 2) (oi := ?oiA2x) (v := ?vA2x) ?hiA2x (by kernel_rfl) (by kernel_rfl) (by kernel_rfl) ?hqA2x ?hyA2x (by assumption) ?restA2x
              case hiA2x => (simp only [List.getElem?_toArray, List.getElem?_cons_succ, List.getElem?_cons_zero] <;> rfl)
              case hqA2x => exact fun _ _ _ h => h
              case hyA2x => exact Or.inl ⟨by rfl, by (intro wS hSw; obtain ⟨q0, q1⟩ := hSw; go_simp; try with_reducible rfl)⟩
              try simp only [Act.put, List.setIfInBounds_toArray, List.set_cons_zero, List.set_cons_succ]
              refine wpAnyH_take (i := 3) (oi := ?oiA3x) (v := ?vA3x) ?hiA3x (by kernel_rfl) (by kernel_rfl) (by kernel_rfl) ?hqA3x ?hyA3x (by assumption) ?restA3x
              case hiA3x => (simp only [List.getElem?_toArray, List.getElem?_cons_succ, List.getElem?_cons_zero] <;> rfl)
              case hqA3x => exact fun _ _ _ h => h
              case hyA3x => exact Or.inl ⟨by rfl, by (intro wS hSw; obtain ⟨q0, q1⟩ := hSw; go_simp; try with_reducible rfl)⟩
              try simp only [Act.put, List.setIfInBounds_toArray, List.set_cons_zero, List.set_cons_succ]
              refine wpAnyH_take (i := 4) (oi := ?oiA4x) (v := ?vA4x) ?hiA4x (by kernel_rfl) (by kernel_rfl) (by kernel_rfl) ?hqA4x ?hyA4x (by assumption) ?restA4x
              case hiA4x => (simp only [List.getElem?_toArray, List.getElem?_cons_succ, List.getElem?_cons_zero] <;> rfl)
              case hqA4x => exact fun _ _ _ h => h
              case hyA4x => exact Or.inl ⟨by rfl, by (intro wS hSw; obtain ⟨q0, q1⟩ := hSw; go_simp; try with_reducible rfl)⟩
              try simp only [Act.put, List.setIfInBounds_toArray, List.set_cons_zero, List.set_cons_succ]
              refine wpAnyH_take (i := 5) (oi := ?oiA5x) (v := ?vA5x) ?hiA5x (by kernel_rfl) (by kernel_rfl) (by kernel_rfl) ?hqA5x ?hyA5x (by assumption) ?restA5x
              case hiA5x => (simp only [List.getElem?_toArray, List.getElem?_cons_succ, List.getElem?_cons_zero] <;> rfl)
              case hqA5x => exact fun _ _ _ h => h
              case hyA5x => exact Or.inl ⟨by rfl, by (intro wS hSw; obtain ⟨q0, q1⟩ := hSw; go_simp; try with_reducible rfl)⟩
              try simp only [Act.put, List.setIfInBounds_toArray, List.set_cons_zero, List.set_cons_succ]
              refine wpAnyH_take (i := 6) (oi := ?oiA6x) (v := ?vA6x) ?hiA6x (by kernel_rfl) (by kernel_rfl) (by kernel_rfl) ?hqA6x ?hyA6x (by assumption) ?restA6x
              case hiA6x => (simp only [List.getElem?_toArray, List.getElem?_cons_succ, List.getElem?_cons_zero] <;> rfl)
              case hqA6x => exact fun _ _ _ h => h
              case hyA6x => exact Or.inl ⟨by rfl, by (intro wS hSw; obtain ⟨q0, q1⟩ := hSw; go_simp; try with_reducible rfl)⟩
              try simp only [Act.put, List.setIfInBounds_toArray, List.set_cons_zero, List.set_cons_succ]
              refine wpAnyH_take (i := 7) (oi := ?oiA7x) (v := ?vA7x) ?hiA7x (by kernel_rfl) (by kernel_rfl) (by kernel_rfl) ?hqA7x ?hyA7x (by assumption) ?restA7x
              case hiA7x => (simp only [List.getElem?_toArray, List.getElem?_cons_succ, List.getElem?_cons_zero] <;> rfl)
              case hqA7x => exact fun _ _ _ h => h
              case hyA7x => exact Or.inl ⟨by rfl, by (intro wS hSw; obtain ⟨q0, q1⟩ := hSw; go_simp; try with_reducible rfl)⟩
              try simp only [Act.put, List.setIfInBounds_toArray, List.set_cons_zero, List.set_cons_succ]
              refine wpAnyH_take (i := 8) (oi := ?oiA8x) (v := ?vA8x) ?hiA8x (by kernel_rfl) (by kernel_rfl) (by kernel_rfl) ?hqA8x ?hyA8x (by assumption) ?restA8x
              case hiA8x => (simp only [List.getElem?_toArray, List.getElem?_cons_succ, List.getElem?_cons_zero] <;> rfl)
              case hqA8x => exact fun _ _ _ h => h
              case hyA8x => exact Or.inl ⟨by rfl, by (intro wS hSw; obtain ⟨q0, q1⟩ := hSw; go_simp; try with_reducible rfl)⟩
              try simp only [Act.put, List.setIfInBounds_toArray, List.set_cons_zero, List.set_cons_succ]
              refine wpAnyH_take (i := 9) (oi := ?oiA9x) (v := ?vA9x) ?hiA9x (by kernel_rfl) (by kernel_rfl) (by kernel_rfl) ?hqA9x ?hyA9x (by assumption) ?restA9x
              case hiA9x => (simp only [List.getElem?_toArray, List.getElem?_cons_succ, List.getElem?_cons_zero] <;> rfl)
              case hqA9x => exact fun _ _ _ h => h
              case hyA9x => exact Or.inl ⟨by rfl, by (intro wS hSw; obtain ⟨q0, q1⟩ := hSw; go_simp; try with_reducible rfl)⟩
              try simp only [Act.put, List.setIfInBounds_toArray, List.set_cons_zero, List.set_cons_succ]
              refine wpAnyH_take (i := 10) (oi := ?oiA10x) (v := ?vA10x) ?hiA10x (by kernel_rfl) (by kernel_rfl) (by kernel_rfl) ?hqA10x ?hyA10x (by assumption) ?restA10x
              case hiA10x => (simp only [List.getElem?_toArray, List.getElem?_cons_succ, List.getElem?_cons_zero] <;> rfl)
              case hqA10x => exact fun _ _ _ h => h
              case hyA10x => exact Or.inl ⟨by rfl, by (intro wS hSw; obtain ⟨q0, q1⟩ := hSw; go_simp; try with_reducible rfl)⟩
              try simp only [Act.put, List.setIfInBounds_toArray, List.set_cons_zero, List.set_cons_succ]
              refine wpAnyH_take (i := 11) (oi := ?oiA11x) (v := ?vA11x) ?hiA11x (by kernel_rfl) (by kernel_rfl) (by kernel_rfl) ?hqA11x ?hyA11x (by assumption) ?restA11x
              case hiA11x => (simp only [List.getElem?_toArray, List.getElem?_cons_succ, List.getElem?_cons_zero] <;> rfl)
              case hqA11x => exact fun _ _ _ h => h
              case hyA11x => exact Or.inl ⟨by rfl, by (intro wS hSw; obtain ⟨q0, q1⟩ := hSw; go_simp; try with_reducible rfl)⟩
              try simp only [Act.put, List.setIfInBounds_toArray, List.set_cons_zero, List.set_cons_succ]
              refine wpAnyH_ready (rs := [12]) (by kernel_rfl) (by simp) ?_
              refine AllReadyH.cons (o := ?oiA12x) ?hiA12x (fun K hK => ?hsA12x) AllReadyH.nil
              case hiA12x => (simp only [List.getElem?_toArray, List.getElem?_cons_succ, List.getElem?_cons_zero] <;> rfl)
              go_simp
              have B4D := Lib.hid (B14.out.trans ((Below.refl wr.heap.size wr).drew.mono B14.out.size))
              refine (played_prog _ l a b2 wr.drew (HL.out.below B4D.out) (by omega)).mono ?_
              rintro e w5 ⟨rfl, b5⟩
              have PS5 := Lib.hid ((PS1.out.below (Below.refl wr.heap.size wr).drew).below b5)
              have B5 := Lib.hid (B4.out.trans ((((Below.refl wr.heap.size wr).drew).trans b5).mono B4.out.size))
              obtain ⟨pb, hpb⟩ : ∃ pb, pb = plays l a b2 := ⟨_, rfl⟩
              rw [← hpb]
              have HPB := Lib.hid hpb.symm
              clear b5 hpb
              refine hK.out _ _ PS5.out (fun hHeld5 => ?_)
              clear hK K
              try simp only [Act.put, List.setIfInBounds_toArray, List.set_cons_zero, List.set_cons_succ]
              refine wpAnyH_take (i := 13) (oi := ?oiA13x) (v := ?vA13x) ?hiA13x (by kernel_rfl) (by kernel_rfl) (by kernel_rfl) ?hqA13x ?hyA13x (by assumption) ?restA13x
              case hiA13x => (simp only [List.getElem?_toArray, List.getElem?_cons_succ, List.getElem?_cons_zero] <;> rfl)
              case hqA13x => exact fun _ _ _ h => h
              case hyA13x => exact Or.inl ⟨by rfl, by (intro wS hSw; obtain ⟨q0, q1⟩ := hSw; go_simp; try with_reducible rfl)⟩
              try simp only [Act.put, List.setIfInBounds_toArray, List.set_cons_zero, List.set_cons_succ]
              refine wpAnyH_take (i := 14) (oi := ?oiA14x) (v := ?vA14x) ?hiA14x (by kernel_rfl) (by kernel_rfl) (by kernel_rfl) ?hqA14x ?hyA14x (by assumption) ?restA14x
              case hiA14x => (simp only [List.getElem?_toArray, List.getElem?_cons_succ, List.getElem?_cons_zero] <;> rfl)
              case hqA14x => exact fun _ _ _ h => h
              case hyA14x => exact Or.inl ⟨by rfl, by (intro wS hSw; obtain ⟨q0, q1⟩ := hSw; go_simp; try with_reducible rfl)⟩
              try simp only [Act.put, List.setIfInBounds_toArray, List.set_cons_zero, List.set_cons_succ]
              refine wpAnyH_take (i := 15) (oi := ?oiA15x) (v := ?vA15x) ?hiA15x (by kernel_rfl) (by kernel_rfl) (by kernel_rfl) ?hqA15x ?hyA15x (by assumption) ?restA15x
              case hiA15x => (simp only [List.getElem?_toArray, List.getElem?_cons_succ, List.getElem?_cons_zero] <;> rfl)
              case hqA15x => exact fun _ _ _ h => h
              case hyA15x => exact Or.inl ⟨by rfl, by (intro wS hSw; obtain ⟨q0, q1⟩ := hSw; go_simp; try with_reducible rfl)⟩
              try simp only [Act.put, List.setIfInBounds_toArray, List.set_cons_zero, List.set_cons_succ]
              refine wpAnyH_done (by kernel_rfl) ?_ _
              refine NoPanic.normal ?_
              go_wp2_with fail
              go_round
              case rel => exact ⟨k + 1, by omega, by omega, by go_num, by rw [HST.out, HPB.out] <;> rfl, B5.out⟩
              case measure => simp [intOf]; omega
            · go_wp2_with fail
              go_quiet (fail)
              go_wp2_with fail
              go_round
              case rel => exact ⟨k + 1, by omega, by omega, by go_num, by rw [HST.out] <;> rfl, B4.out.trans ((drewN_grow _ _).mono B4.out.size)⟩
              case measure => simp [intOf]; omega
          · obtain rfl : k = N := by omega
            have PS1 := Lib.hid (show FP bp op a b wr from ⟨(B4.out.cell (p := ⟨bp, op, none⟩) HBP.out).trans P0.out, (B4.out.cell (p := ⟨bp, op + 1, none⟩) HBP.out).trans P1.out⟩)
            have HFF := Lib.hid (show plays l a b = !frs l a xs k by have := HFR.out; rwa [hxl] at this)
            obtain ⟨f, hf⟩ : ∃ f, f = frs l a xs k := ⟨_, rfl⟩
            rw [← hf] at HFF
            rw [← hf]
            clear hf
            cases f
            · go_wp2_with fail
              refine wp_region_noPanic ?_
              refine wp_region_held_drew (S := FP bp op a b) (by kernel_rfl) (PS1.out) (fun hHeld => ?_)
              refine wpAnyH_take (i := 0) (oi := ?oiB0x) (v := ?vB0x) ?hiB0x (by kernel_rfl) (by kernel_rfl) (by kernel_rfl) ?hqB0x ?hyB0x (by assumption) ?restB0x
              case hiB0x => (simp only [List.getElem?_toArray, List.getElem?_cons_zero] <;> rfl)
              case hqB0x => exact fun _ _ _ h => h
              case hyB0x => exact Or.inl ⟨by rfl, by (intro wS hSw; obtain ⟨q0, q1⟩ := hSw; go_simp; try with_reducible rfl)⟩
              try simp only [Act.put, List.setIfInBounds_toArray, List.set_cons_zero, List.set_cons_succ]
              refine wpAnyH_take (i := 1) (oi := ?oiB1x) (v := ?vB1x) ?hiB1x (by kernel_rfl) (by kernel_rfl) (by kernel_rfl) ?hqB1x ?hyB1x (by assumption) ?restB1x
              case hiB1x => (simp only [List.getElem?_toArray, List.getElem?_cons_succ, List.getElem?_cons_zero] <;> rfl)
              case hqB1x => exact fun _ _ _ h => h
              case hyB1x => exact Or.inl ⟨by rfl, by (intro wS hSw; obtain ⟨q0, q1⟩ := hSw; go_simp; try with_reducible rfl)⟩
              try simp only [Act.put, List.setIfInBounds_toArray, List.set_cons_zero, List.set_cons_succ]
              refine wpAnyH_take (i := 2) (oi := ?oiB2x) (v := ?vB2x) ?hiB2x (by kernel_rfl) (by kernel_rfl) (by kernel_rfl) ?hqB2x ?hyB2x (by assumption) ?restB2x
              case hiB2x => (simp only [List.getElem?_toArray, List.getElem?_cons_succ, List.getElem?_cons_zero] <;> rfl)
              case hqB2x => exact fun _ _ _ h => h
              case hyB2x => exact Or.inl ⟨by rfl, by (intro wS hSw; obtain ⟨q0, q1⟩ := hSw; go_simp; try with_reducible rfl)⟩
              try simp only [Act.put, List.setIfInBounds_toArray, List.set_cons_zero, List.set_cons_succ]
              refine wpAnyH_take (i := 3) (oi := ?oiB3x) (v := ?vB3x) ?hiB3x (by kernel_rfl) (by kernel_rfl) (by kernel_rfl) ?hqB3x ?hyB3x (by assumption) ?restB3x
              case hiB3x => (simp only [List.getElem?_toArray, List.getElem?_cons_succ, List.getElem?_cons_zero] <;> rfl)
              case hqB3x => exact fun _ _ _ h => h
              case hyB3x => exact Or.inl ⟨by rfl, by (intro wS hSw; obtain ⟨q0, q1⟩ := hSw; go_simp; try with_reducible rfl)⟩
              try simp only [Act.put, List.setIfInBounds_toArray, List.set_cons_zero, List.set_cons_succ]
              refine wpAnyH_take (i := 4) (oi := ?oiB4x) (v := ?vB4x) ?hiB4x (by kernel_rfl) (by kernel_rfl) (by kernel_rfl) ?hqB4x ?hyB4x (by assumption) ?restB4x
              case hiB4x => (simp only [List.getElem?_toArray, List.getElem?_cons_succ, List.getElem?_cons_zero] <;> rfl)
              case hqB4x => exact fun _ _ _ h => h
              case hyB4x => exact Or.inl ⟨by rfl, by (intro wS hSw; obtain ⟨q0, q1⟩ := hSw; go_simp; try with_reducible rfl)⟩
              try simp only [Act.put, List.setIfInBounds_toArray, List.set_cons_zero, List.set_cons_succ]
              refine wpAnyH_take (i := 5) (oi := ?oiB5x) (v := ?vB5x) ?hiB5x (by kernel_rfl) (by kernel_rfl) (by kernel_rfl) ?hqB5x ?hyB5x (by assumption) ?restB5x
              case hiB5x => (simp only [List.getElem?_toArray, List.getElem?_cons_succ, List.getElem?_cons_zero] <;> rfl)
              case hqB5x => exact fun _ _ _ h => h
              case hyB5x => exact Or.inl ⟨by rfl, by (intro wS hSw; obtain ⟨q0, q1⟩ := hSw; go_simp; try with_reducible rfl)⟩
              try simp only [Act.put, List.setIfInBounds_toArray, List.set_cons_zero, List.set_cons_succ]
              refine wpAnyH_take (i := 6) (oi := ?oiB6x) (v := ?vB6x) ?hiB6x (by kernel_rfl) (by kernel_rfl) (by kernel_rfl) ?hqB6x ?hyB6x (by assumption) ?restB6x
              case hiB6x => (simp only [List.getElem?_toArray, List.getElem?_cons_succ, List.getElem?_cons_zero] <;> rfl)
              case hqB6x => exact fun _ _ _ h => h
              case hyB6x => exact Or.inl ⟨by rfl, by (intro wS hSw; obtain ⟨q0, q1⟩ := hSw; go_simp; try with_reducible rfl)⟩
              try simp only [Act.put, List.setIfInBounds_toArray, List.set_cons_zero, List.set_cons_succ]
              refine wpAnyH_take (i := 7) (oi := ?oiB7x) (v := ?vB7x) ?hiB7x (by kernel_rfl) (by kernel_rfl) (by kernel_rfl) ?hqB7x ?hyB7x (by assumption) ?restB7x
              case hiB7x => (simp only [List.getElem?_toArray, List.getElem?_cons_succ, List.getElem?_cons_zero] <;> rfl)
              case hqB7x => exact fun _ _ _ h => h
              case hyB7x => exact Or.inl ⟨by rfl, by (intro wS hSw; obtain ⟨q0, q1⟩ := hSw; go_simp; try with_reducible rfl)⟩
              try simp only [Act.put, List.setIfInBounds_toArray, List.set_cons_zero, List.set_cons_succ]
              refine wpAnyH_take (i := 8) (oi := ?oiB8x) (v := ?vB8x) ?hiB8x (by kernel_rfl) (by kernel_rfl) (by kernel_rfl) ?hqB8x ?hyB8x (by assumption) ?restB8x
              case hiB8x => (simp only [List.getElem?_toArray, List.getElem?_cons_succ, List.getElem?_cons_zero] <;> rfl)
              case hqB8x => exact fun _ _ _ h => h
              case hyB8x => exact Or.inl ⟨by rfl, by (intro wS hSw; obtain ⟨q0, q1⟩ := hSw; go_simp; try with_reducible rfl)⟩
              try simp only [Act.put, List.setIfInBounds_toArray, List.set_cons_zero, List.set_cons_succ]
              refine wpAnyH_take (i := 10) (oi := ?oiB10x) (v := ?vB10x) ?hiB10x (by kernel_rfl) (by kernel_rfl) (by kernel_rfl) ?hqB10x ?hyB10x (by assumption) ?restB10x
              case hiB10x => (simp only [List.getElem?_toArray, List.getElem?_cons_succ, List.getElem?_cons_zero] <;> rfl)
              case hqB10x => exact fun _ _ _ h => h
              case hyB10x => exact Or.inl ⟨by rfl, by (intro wS hSw; obtain ⟨q0, q1⟩ := hSw; go_simp; try with_reducible rfl)⟩
              try simp only [Act.put, List.setIfInBounds_toArray, List.set_cons_zero, List.set_cons_succ]
              refine wpAnyH_ready (rs := [9]) (by kernel_rfl) (by simp) ?_
              refine AllReadyH.cons (o := ?oiB9x) ?hiB9x (fun K hK => ?hsB9x) AllReadyH.nil
              case hiB9x => (simp only [List.getElem?_toArray, List.getElem?_cons_succ, List.getElem?_cons_zero] <;> rfl)
              go_simp
              have B4D := Lib.hid (B14.out.trans ((Below.refl wr.heap.size wr).drew.mono B14.out.size))
              refine (played_prog _ l a b wr.drew (HL.out.below B4D.out) (by omega)).mono ?_
              rintro e w5 ⟨rfl, b5⟩
              rw [show plays l a b = true by rw [HFF.out]; rfl]
              have PS5 := Lib.hid ((PS1.out.below (Below.refl wr.heap.size wr).drew).below b5)
              have B5 := Lib.hid (B14.out.trans ((((Below.refl wr.heap.size wr).drew).trans b5).mono B14.out.size))
              clear b5
              refine hK.out _ _ PS5.out (fun hHeld5 => ?_)
              clear hK K
              try simp only [Act.put, List.setIfInBounds_toArray, List.set_cons_zero, List.set_cons_succ]
              refine wpAnyH_take (i := 11) (oi := ?oiB11x) (v := ?vB11x) ?hiB11x (by kernel_rfl) (by kernel_rfl) (by kernel_rfl) ?hqB11x ?hyB11x (by assumption) ?restB11x
              case hiB11x => (simp only [List.getElem?_toArray, List.getElem?_cons_succ, List.getElem?_cons_zero] <;> rfl)
              case hqB11x => exact fun _ _ _ h => h
              case hyB11x => exact Or.inl ⟨by rfl, by (intro wS hSw; obtain ⟨q0, q1⟩ := hSw; go_simp; try with_reducible rfl)⟩
              try simp only [Act.put, List.setIfInBounds_toArray, List.set_cons_zero, List.set_cons_succ]
              refine wpAnyH_take (i := 12) (oi := ?oiB12x) (v := ?vB12x) ?hiB12x (by kernel_rfl) (by kernel_rfl) (by kernel_rfl) ?hqB12x ?hyB12x (by assumption) ?restB12x
              case hiB12x => (simp only [List.getElem?_toArray, List.getElem?_cons_succ, List.getElem?_cons_zero] <;> rfl)
              case hqB12x => exact fun _ _ _ h => h
              case hyB12x => exact Or.inl ⟨by rfl, by (intro wS hSw; obtain ⟨q0, q1⟩ := hSw; go_simp; try with_reducible rfl)⟩
              try simp only [Act.put, List.setIfInBounds_toArray, List.set_cons_zero, List.set_cons_succ]
              refine wpAnyH_ready (rs := [13]) (by kernel_rfl) (by simp) ?_
              refine AllReadyH.cons (o := ?oiB13x) ?hiB13x (fun K hK => ?hsB13x) AllReadyH.nil
              case hiB13x => (simp only [List.getElem?_toArray, List.getElem?_cons_succ, List.getElem?_cons_zero] <;> rfl)
              go_simp
              refine (alive56 w5 w5 (Below.refl _ _)).mono ?_
              rintro e w6 ⟨rfl, b6⟩
              have B6 := Lib.hid (B5.out.trans (b6.mono B5.out.size))
              have PS6 := Lib.hid (PS5.out.below b6)
              clear b6
              refine hK.out _ _ PS6.out (fun hHeld6 => ?_)
              clear hK K
              try simp only [Act.put, List.setIfInBounds_toArray, List.set_cons_zero, List.set_cons_succ]
              refine wpAnyH_take (i := 14) (oi := ?oiB14x) (v := ?vB14x) ?hiB14x (by kernel_rfl) (by kernel_rfl) (by kernel_rfl) ?hqB14x ?hyB14x (by assumption) ?restB14x
              case hiB14x => (simp only [List.getElem?_toArray, List.getElem?_cons_succ, List.getElem?_cons_zero] <;> rfl)
              case hqB14x => exact fun _ _ _ h => h
              case hyB14x => exact Or.inl ⟨by rfl, by (intro wS hSw; obtain ⟨q0, q1⟩ := hSw; go_simp; try with_reducible rfl)⟩
              try simp only [Act.put, List.setIfInBounds_toArray, List.set_cons_zero, List.set_cons_succ]
              refine wpAnyH_take (i := 15) (oi := ?oiB15x) (v := ?vB15x) ?hiB15x (by kernel_rfl) (by kernel_rfl) (by kernel_rfl) ?hqB15x ?hyB15x (by assumption) ?restB15x
              case hiB15x => (simp only [List.getElem?_toArray, List.getElem?_cons_succ, List.getElem?_cons_zero] <;> rfl)
              case hqB15x => exact fun _ _ _ h => h
              case hyB15x => exact Or.inl ⟨by rfl, by (intro wS hSw; obtain ⟨q0, q1⟩ := hSw; go_simp; try with_reducible rfl)⟩
              try simp only [Act.put, List.setIfInBounds_toArray, List.set_cons_zero, List.set_cons_succ]
              refine wpAnyH_done (by kernel_rfl) ?_ _
              refine NoPanic.normal ?_
              go_wp2_with fail
              go_ret
              exact ⟨rfl, B6.out⟩
            · go_wp2_with fail
              refine wp_region_noPanic ?_
              refine wp_region_held_drew (S := FP bp op a b) (by kernel_rfl) (PS1.out) (fun hHeld => ?_)
              refine wpAnyH_take (i := 0) (oi := ?oiC0x) (v := ?vC0x) ?hiC0x (by kernel_rfl) (by kernel_rfl) (by kernel_rfl) ?hqC0x ?hyC0x (by assumption) ?restC0x
              case hiC0x => (simp only [List.getElem?_toArray, List.getElem?_cons_zero] <;> rfl)
              case hqC0x => exact fun _ _ _ h => h
              case hyC0x => exact Or.inl ⟨by rfl, by (intro wS hSw; obtain ⟨q0, q1⟩ := hSw; go_simp; try with_reducible rfl)⟩
              try simp only [Act.put, List.setIfInBounds_toArray, List.set_cons_zero, List.set_cons_succ]
              refine wpAnyH_take (i := 1) (oi := ?oiC1x) (v := ?vC1x) ?hiC1x (by kernel_rfl) (by kernel_rfl) (by kernel_rfl) ?hqC1x ?hyC1x (by assumption) ?restC1x
              case hiC1x => (simp only [List.getElem?_toArray, List.getElem?_cons_succ, List.getElem?_cons_zero] <;> rfl)
              case hqC1x => exact fun _ _ _ h => h
              case hyC1x => exact Or.inl ⟨by rfl, by (intro wS hSw; obtain ⟨q0, q1⟩ := hSw; go_simp; try with_reducible rfl)⟩
              try simp only [Act.put, List.setIfInBounds_toArray, List.set_cons_zero, List.set_cons_succ]
              refine wpAnyH_take (i := 2) (oi := ?oiC2x) (v := ?vC2x) ?hiC2x (by kernel_rfl) (by kernel_rfl) (by kernel_rfl) ?hqC2x ?hyC2x (by assumption) ?restC2x
              case hiC2x => (simp only [List.getElem?_toArray, List.getElem?_cons_succ, List.getElem?_cons_zero] <;> rfl)
              case hqC2x => exact fun _ _ _ h => h
              case hyC2x => exact Or.inl ⟨by rfl, by (intro wS hSw; obtain ⟨q0, q1⟩ := hSw; go_simp; try with_reducible rfl)⟩
              try simp only [Act.put, List.setIfInBounds_toArray, List.set_cons_zero, List.set_cons_succ]
              refine wpAnyH_take (i := 3) (oi := ?oiC3x) (v := ?vC3x) ?hiC3x (by kernel_rfl) (by kernel_rfl) (by kernel_rfl) ?hqC3x ?hyC3x (by assumption) ?restC3x
              case hiC3x => (simp only [List.getElem?_toArray, List.getElem?_cons_succ, List.getElem?_cons_zero] <;> rfl)
              case hqC3x => exact fun _ _ _ h => h
              case hyC3x => exact Or.inl ⟨by rfl, by (intro wS hSw; obtain ⟨q0, q1⟩ := hSw; go_simp; try with_reducible rfl)⟩
              try simp only [Act.put, List.setIfInBounds_toArray, List.set_cons_zero, List.set_cons_succ]
              refine wpAnyH_take (i := 4) (oi := ?oiC4x) (v := ?vC4x) ?hiC4x (by kernel_rfl) (by kernel_rfl) (by kernel_rfl) ?hqC4x ?hyC4x (by assumption) ?restC4x
              case hiC4x => (simp only [List.getElem?_toArray, List.getElem?_cons_succ, List.getElem?_cons_zero] <;> rfl)
              case hqC4x => exact fun _ _ _ h => h
              case hyC4x => exact Or.inl ⟨by rfl, by (intro wS hSw; obtain ⟨q0, q1⟩ := hSw; go_simp; try with_reducible rfl)⟩
              try simp only [Act.put, List.setIfInBounds_toArray, List.set_cons_zero, List.set_cons_succ]
              refine wpAnyH_take (i := 5) (oi := ?oiC5x) (v := ?vC5x) ?hiC5x (by kernel_rfl) (by kernel_rfl) (by kernel_rfl) ?hqC5x ?hyC5x (by assumption) ?restC5x
              case hiC5x => (simp only [List.getElem?_toArray, List.getElem?_cons_succ, List.getElem?_cons_zero] <;> rfl)
              case hqC5x => exact fun _ _ _ h => h
              case hyC5x => exact Or.inl ⟨by rfl, by (intro wS hSw; obtain ⟨q0, q1⟩ := hSw; go_simp; try with_reducible rfl)⟩
              try simp only [Act.put, List.setIfInBounds_toArray, List.set_cons_zero, List.set_cons_succ]
              refine wpAnyH_take (i := 6) (oi := ?oiC6x) (v := ?vC6x) ?hiC6x (by kernel_rfl) (by kernel_rfl) (by kernel_rfl) ?hqC6x ?hyC6x (by assumption) ?restC6x
              case hiC6x => (simp only [List.getElem?_toArray, List.getElem?_cons_succ, List.getElem?_cons_zero] <;> rfl)
              case hqC6x => exact fun _ _ _ h => h
              case hyC6x => exact Or.inl ⟨by rfl, by (intro wS hSw; obtain ⟨q0, q1⟩ := hSw; go_simp; try with_reducible rfl)⟩
              try simp only [Act.put, List.setIfInBounds_toArray, List.set_cons_zero, List.set_cons_succ]
              refine wpAnyH_take (i := 7) (oi := ?oiC7x) (v := ?vC7x) ?hiC7x (by kernel_rfl) (by kernel_rfl) (by kernel_rfl) ?hqC7x ?hyC7x (by assumption) ?restC7x
              case hiC7x => (simp only [List.getElem?_toArray, List.getElem?_cons_succ, List.getElem?_cons_zero] <;> rfl)
              case hqC7x => exact fun _ _ _ h => h
              case hyC7x => exact Or.inl ⟨by rfl, by (intro wS hSw; obtain ⟨q0, q1⟩ := hSw; go_simp; try with_reducible rfl)⟩
              try simp only [Act.put, List.setIfInBounds_toArray, List.set_cons_zero, List.set_cons_succ]
              refine wpAnyH_take (i := 8) (oi := ?oiC8x) (v := ?vC8x) ?hiC8x (by kernel_rfl) (by kernel_rfl) (by kernel_rfl) ?hqC8x ?hyC8x (by assumption) ?restC8x
              case hiC8x => (simp only [List.getElem?_toArray, List.getElem?_cons_succ, List.getElem?_cons_zero] <;> rfl)
              case hqC8x => exact fun _ _ _ h => h
              case hyC8x => exact Or.inl ⟨by rfl, by (intro wS hSw; obtain ⟨q0, q1⟩ := hSw; go_simp; try with_reducible rfl)⟩
              try simp only [Act.put, List.setIfInBounds_toArray, List.set_cons_zero, List.set_cons_succ]
              refine wpAnyH_take (i := 10) (oi := ?oiC10x) (v := ?vC10x) ?hiC10x (by kernel_rfl) (by kernel_rfl) (by kernel_rfl) ?hqC10x ?hyC10x (by assumption) ?restC10x
              case hiC10x => (simp only [List.getElem?_toArray, List.getElem?_cons_succ, List.getElem?_cons_zero] <;> rfl)
              case hqC10x => exact fun _ _ _ h => h
              case hyC10x => exact Or.inl ⟨by rfl, by (intro wS hSw; obtain ⟨q0, q1⟩ := hSw; go_simp; try with_reducible rfl)⟩
              try simp only [Act.put, List.setIfInBounds_toArray, List.set_cons_zero, List.set_cons_succ]
              refine wpAnyH_ready (rs := [9]) (by kernel_rfl) (by simp) ?_
              refine AllReadyH.cons (o := ?oiC9x) ?hiC9x (fun K hK => ?hsC9x) AllReadyH.nil
              case hiC9x => (simp only [List.getElem?_toArray, List.getElem?_cons_succ, List.getElem?_cons_zero] <;> rfl)
              go_simp
              have B4D := Lib.hid (B14.out.trans ((Below.refl wr.heap.size wr).drew.mono B14.out.size))
              refine (played_prog _ l a b wr.drew (HL.out.below B4D.out) (by omega)).mono ?_
              rintro e w5 ⟨rfl, b5⟩
              rw [show plays l a b = false by rw [HFF.out]; rfl]
              have PS5 := Lib.hid ((PS1.out.below (Below.refl wr.heap.size wr).drew).below b5)
              have B5 := Lib.hid (B14.out.trans ((((Below.refl wr.heap.size wr).drew).trans b5).mono B14.out.size))
              clear b5
              refine hK.out _ _ PS5.out (fun hHeld5 => ?_)
              clear hK K
              try simp only [Act.put, List.setIfInBounds_toArray, List.set_cons_zero, List.set_cons_succ]
              refine wpAnyH_take (i := 11) (oi := ?oiC11x) (v := ?vC11x) ?hiC11x (by kernel_rfl) (by kernel_rfl) (by kernel_rfl) ?hqC11x ?hyC11x (by assumption) ?restC11x
              case hiC11x => (simp only [List.getElem?_toArray, List.getElem?_cons_succ, List.getElem?_cons_zero] <;> rfl)
              case hqC11x => exact fun _ _ _ h => h
              case hyC11x => exact Or.inl ⟨by rfl, by (intro wS hSw; obtain ⟨q0, q1⟩ := hSw; go_simp; try with_reducible rfl)⟩
              try simp only [Act.put, List.setIfInBounds_toArray, List.set_cons_zero, List.set_cons_succ]
              refine wpAnyH_take (i := 12) (oi := ?oiC12x) (v := ?vC12x) ?hiC12x (by kernel_rfl) (by kernel_rfl) (by kernel_rfl) ?hqC12x ?hyC12x (by assumption) ?restC12x
              case hiC12x => (simp only [List.getElem?_toArray, List.getElem?_cons_succ, List.getElem?_cons_zero] <;> rfl)
              case hqC12x => exact fun _ _ _ h => h
              case hyC12x => exact Or.inl ⟨by rfl, by (intro wS hSw; obtain ⟨q0, q1⟩ := hSw; go_simp; try with_reducible rfl)⟩
              try simp only [Act.put, List.setIfInBounds_toArray, List.set_cons_zero, List.set_cons_succ]
              refine wpAnyH_ready (rs := [13]) (by kernel_rfl) (by simp) ?_
              refine AllReadyH.cons (o := ?oiC13x) ?hiC13x (fun K hK => ?hsC13x) AllReadyH.nil
              case hiC13x => (simp only [List.getElem?_toArray, List.getElem?_cons_succ, List.getElem?_cons_zero] <;> rfl)
              go_simp
              refine (alive56 w5 w5 (Below.refl _ _)).mono ?_
              rintro e w6 ⟨rfl, b6⟩
              have B6 := Lib.hid (B5.out.trans (b6.mono B5.out.size))
              have PS6 := Lib.hid (PS5.out.below b6)
              clear b6
              refine hK.out _ _ PS6.out (fun hHeld6 => ?_)
              clear hK K
              try simp only [Act.put, List.setIfInBounds_toArray, List.set_cons_zero, List.set_cons_succ]
              refine wpAnyH_take (i := 14) (oi := ?oiC14x) (v := ?vC14x) ?hiC14x (by kernel_rfl) (by kernel_rfl) (by kernel_rfl) ?hqC14x ?hyC14x (by assumption) ?restC14x
              case hiC14x => (simp only [List.getElem?_toArray, List.getElem?_cons_succ, List.getElem?_cons_zero] <;> rfl)
              case hqC14x => exact fun _ _ _ h => h
              case hyC14x => exact Or.inl ⟨by rfl, by (intro wS hSw; obtain ⟨q0, q1⟩ := hSw; go_simp; try with_reducible rfl)⟩
              try simp only [Act.put, List.setIfInBounds_toArray, List.set_cons_zero, List.set_cons_succ]
              refine wpAnyH_take (i := 15) (oi := ?oiC15x) (v := ?vC15x) ?hiC15x (by kernel_rfl) (by kernel_rfl) (by kernel_rfl) ?hqC15x ?hyC15x (by assumption) ?restC15x
              case hiC15x => (simp only [List.getElem?_toArray, List.getElem?_cons_succ, List.getElem?_cons_zero] <;> rfl)
              case hqC15x => exact fun _ _ _ h => h
              case hyC15x => exact Or.inl ⟨by rfl, by (intro wS hSw; obtain ⟨q0, q1⟩ := hSw; go_simp; try with_reducible rfl)⟩
              try simp only [Act.put, List.setIfInBounds_toArray, List.set_cons_zero, List.set_cons_succ]
              refine wpAnyH_done (by kernel_rfl) ?_ _
              refine NoPanic.normal ?_
              go_wp2_with fail
              go_ret
              exact ⟨rfl, B6.out⟩
      · go_enter Try.func8, Try.ntmps8
        go_wp2_with fail
        refine HF.out.mono ?_
        rintro e w1 ⟨rfl, rfl⟩
        rw [d2.out]
        go_wp2_with fail
        refine (alive56 w1 w1 (Below.refl _ _)).mono ?_
        rintro e w6 ⟨rfl, b6⟩
        go_wp2_with fail
        go_ret
        exact ⟨rfl, b6⟩
end Go.Proofs.Ytfjnnbhijajhoaa
