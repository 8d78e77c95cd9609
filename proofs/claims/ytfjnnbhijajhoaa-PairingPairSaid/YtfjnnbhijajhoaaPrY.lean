/- Chapter 56: Pair of the reference. -/
import Derived.Test.YtfjnnbhijajhoaaPrN
import Derived.Test.YtfjnnbhijajhoaaPrYp
namespace Go.Proofs.Ytfjnnbhijajhoaa
open Go Go.RowKit Go.Sort Go.Shelf Cg
def FC (g o1 o2 : Nat) (a b : Int) (w : World) : Prop := w.cell? ⟨g, o1, none⟩ = some (.int .i64 a) ∧ w.cell? ⟨g, o2, none⟩ = some (.int .i64 b)
theorem FC.below {g o1 o2 : Nat} {a b : Int} {w w' : World} (h : FC g o1 o2 a b w) (hb : Below w.heap.size w w') : FC g o1 o2 a b w' := ⟨(hb.cell (p := ⟨g, o1, none⟩) (block_lt_of_cell h.1)).trans h.1, (hb.cell (p := ⟨g, o2, none⟩) (block_lt_of_cell h.2)).trans h.2⟩
theorem FC.keep {g o1 o2 : Nat} {a b : Int} {w w' : World} (h : FC g o1 o2 a b w) (h1 : w'.heap[g]? = w.heap[g]?) : FC g o1 o2 a b w' := ⟨(World.cell?_of_block (a := ⟨g, o1, none⟩) h1).trans h.1, (World.cell?_of_block (a := ⟨g, o2, none⟩) h1).trans h.2⟩
set_option maxRecDepth 100000 in
set_option maxHeartbeats 8000000 in
theorem pair_ref (n : Int) (N : Nat) (v : Value) (l : List Rs) (w : World) (h : Cg.RowK 5 encR w v l) (hl : l.length ≤ 1000) (hN : clampI n = N) (hN2 : N ≤ 256) :
    Calls Try.prog 17 #[.int .i64 n, v] w fun e w' => ∃ v', e = .returned v' ∧ ∃ s, Cg.RowK 5 encR w' v' (pairOut l s) ∧ Below w.heap.size w w' ∧ s.Perm ((List.range N).map fun (p : Nat) => recT N l p) ∧ Srt s := by
  have HST := Lib.hid (standings_ref n N v l w h hl hN hN2)
  have HL := Lib.hid h
  clear h hN
  go_enter Try.func17, Try.ntmps17
  go_wp2_with fail
  refine HST.out.mono ?_
  rintro e w2 ⟨v2, rows, rfl, r2, _, b2, p2, t2⟩
  obtain ⟨s, hs⟩ : ∃ s, s = rows.map (·.1) := ⟨_, rfl⟩
  rw [← hs] at p2 t2
  have hsl : s.length = N := by have := p2.length_eq; simpa using this
  have hrl : rows.length = N := by rw [← hsl, hs, List.length_map]
  obtain ⟨ao, cap, rfl, _, hx⟩ := r2
  rw [hrl]
  have cells : Hid (∀ (k : Nat) (hk : k < s.length), ∃ b o, ao = some ⟨b, o, none⟩ ∧ b < w2.heap.size ∧ w2.cell? ⟨b, o + k * 8, none⟩ = some (.int .i64 s[k].pl) ∧ w2.cell? ⟨b, o + k * 8 + 5, none⟩ = some (.int .i64 s[k].by_)) := Lib.hid fun k hk => by
    have hkr : k < rows.length := by omega
    rcases hx with hh | ⟨b, o, rfl, hb, hcell⟩
    · rw [hh] at hkr; simp at hkr
    · have c0 := hcell k _ (List.getElem?_eq_getElem hkr) 0 _ rfl
      have c5 := hcell k _ (List.getElem?_eq_getElem hkr) 5 _ rfl
      rw [Nat.add_zero] at c0
      refine ⟨b, o, rfl, hb, ?_, ?_⟩
      · rw [c0]; simp only [hs, List.getElem_map]
      · rw [c5]; simp only [hs, List.getElem_map]
  have B2 := Lib.hid b2
  have P2 := Lib.hid p2
  have T2 := Lib.hid t2
  have HPL := Lib.hid (show ∀ x ∈ s, 0 ≤ x.pl from fun x hx => by
    obtain ⟨p, _, hp2⟩ := List.mem_map.1 (p2.subset hx)
    rw [← hp2, recT_pl]
    omega)
  have HND := Lib.hid (show (s.map (·.pl)).Nodup from (p2.map (·.pl)).nodup_iff.2 (recT_nodup N l))
  have HSL := Lib.hid hsl
  clear b2 p2 t2 hx hs hrl hsl
  cases hodd : ((N : Int) % 2 == 1)
  · have HOD := Lib.hid (show ¬ N % 2 = 1 by have := beq_eq_false_iff_ne.1 hodd; omega)
    go_wp2_with fail
    have HQ := Lib.hid (show pairOut l s = (pairs l (frees s (-1) s.length)).map rsPair by
      unfold pairOut
      rw [HSL.out, if_neg HOD.out, ← HSL.out, frees_all s HPL.out])
    clear hodd HOD
    obtain ⟨q0, hq0⟩ : ∃ q : Nat, q = 0 := ⟨0, rfl⟩
    have CE := Lib.hid (show ∀ (k : Nat) (hk : k < s.length), ∃ b o, ao = some ⟨b, o, none⟩ ∧ b < w2.heap.size ∧ w2.cell? ⟨b, o + k * 8, none⟩ = some (.int .i64 s[k].pl) from fun k hk => by
      obtain ⟨b, o, h1, h2, h3, _⟩ := cells.out k hk
      exact ⟨b, o, h1, h2, h3⟩)
    have BW := Lib.hid B2.out
    clear cells q0 hq0
    go_loopw [8, 9] (fun fv i wr => ∃ k : Nat, k ≤ N ∧ i = .int .i64 k ∧ wr.ownsRow w2.heap.size 3 1 fv (frees s (-1) k).length ((frees s (-1) k).map (Value.int .i64)) ∧ Below w2.heap.size w2 wr) (fun _ i _ => N - (intOf i).toNat)
    case atStart => exact ⟨0, by omega, rfl, World.ownsRow_nil _ _ _ _, Below.refl _ _⟩
    case round =>
      obtain ⟨k, hk, rfl, hown, bw⟩ := hrel
      have OW := Lib.hid hown
      have BF := Lib.hid bw
      clear hown bw
      by_cases hlt : k < N
      · have hks : k < s.length := by rw [HSL.out]; exact hlt
        obtain ⟨g2, o2, hgo, hg2, ca⟩ := CE.out k hks
        cases hgo
        have cb := (BF.out.cell (p := ⟨_, _, none⟩) hg2).trans ca
        have HST := Lib.hid (frees_step s (-1) k hks)
        have hfl : (frees s (-1) k).length ≤ k := by
          have h1 := List.length_filter_le (fun x => x != (-1)) ((s.take k).map (·.pl))
          rw [List.length_map, List.length_take] at h1
          exact Nat.le_trans h1 (Nat.min_le_left _ _)
        obtain ⟨x, hx⟩ : ∃ x, x = s[k].pl := ⟨_, rfl⟩
        rw [← hx] at cb HST
        obtain ⟨fs, hfs⟩ : ∃ fs, fs = frees s (-1) k := ⟨_, rfl⟩
        rw [← hfs] at OW HST hfl
        clear hx hfs ca hg2 hks
        cases hb : (x != (-1))
        · have HS2 := Lib.hid (show frees s (-1) (k + 1) = fs by rw [HST.out, if_neg (by rw [hb]; simp)])
          go_wp2_with fail
          go_round
          case rel => exact ⟨k + 1, by omega, by go_num, by rw [HS2.out]; exact OW.out, BF.out⟩
          case measure => simp [intOf]; omega
        · have HS2 := Lib.hid (show frees s (-1) (k + 1) = fs ++ [x] by rw [HST.out, if_pos hb])
          go_wp2_with (at_builtin; refine wpList_append_new rfl (.tmp 59) (.tmp 65) 32 rfl w2.heap.size intsElem _ _ _ rfl OW.out [.int .i64 x] rfl rfl rfl (by show (fs.length + 1) * 8 ≤ _; omega) (by omega) BF.out.size ?_; intro v3 w4 own4 bel4 _; have O4 := Lib.hid own4; have B4 := Lib.hid (BF.out.trans bel4); clear own4 bel4)
          go_round
          case rel => exact ⟨k + 1, by omega, by go_num, by rw [HS2.out, List.length_append, List.map_append]; exact O4.out, B4.out⟩
          case measure => simp [intOf]; omega
      · obtain rfl : N = k := by omega
        have hfl : (frees s (-1) N).length ≤ N := by
          have h1 := List.length_filter_le (fun x => x != (-1)) ((s.take N).map (·.pl))
          rw [List.length_map, List.length_take] at h1
          exact Nat.le_trans h1 (Nat.min_le_left _ _)
        have HQ2 := Lib.hid (show pairOut l s = (pairs l (frees s (-1) N)).map rsPair by rw [HQ.out, HSL.out])
        obtain ⟨xs0, hxs0⟩ : ∃ xs0, xs0 = frees s (-1) N := ⟨_, rfl⟩
        rw [← hxs0] at OW HQ2 hfl
        clear hxs0 HQ
        obtain ⟨wo, rfl⟩ : ∃ wo, wo = wr := ⟨_, rfl⟩
        have BO := Lib.hid (BW.out.trans (BF.out.mono BW.out.size))
        have RX := Lib.hid (RowX.of_own (b := none) OW.out (fun _ _ e => by cases e))
        clear OW
        go_wp2_with fail
        go_loopw [8, 10] (fun fv out wr => ∃ xs ps, wr.ownsRow wo.heap.size 31 5 out ps.length ((ps.map rsPair).flatMap encR) ∧ RowX out.ownBlock wr fv xs ∧ Below wo.heap.size wo wr ∧ xs.length + ps.length ≤ 256 ∧ Hid (ps ++ pairs l xs = pairs l xs0)) (fun fv _ _ => lenV fv)
        case atStart => exact ⟨xs0, [], World.ownsRow_nil _ _ _ _, RX.out, Below.refl _ _, by show xs0.length + 0 ≤ 256; omega, Lib.hid rfl⟩
        case round =>
          obtain ⟨xs, ps, hown, hrx, bm, hfew, HE⟩ := hrel
          have OO := Lib.hid hown
          have BM := Lib.hid bm
          have BWM := Lib.hid (BO.out.trans (bm.mono BO.out.size))
          obtain ⟨fo, fc, rfl, _, hfx⟩ := hrx
          clear hown bm
          by_cases h2 : 2 ≤ xs.length
          · rcases hfx with hh | ⟨g5, o5, rfl, hg5, hn5, hc5⟩
            · rw [hh] at h2; simp at h2
            have h1 : 1 < xs.length := by omega
            have h0 : 0 < xs.length := by omega
            obtain ⟨wb, rfl⟩ : ∃ wb, wb = wr := ⟨_, rfl⟩
            have HC5 := Lib.hid hc5
            have HG5 := Lib.hid hg5
            have HN5 := Lib.hid hn5
            obtain ⟨x0, hx0⟩ : ∃ x0, x0 = xs[0] := ⟨_, rfl⟩
            have HX0 := Lib.hid hx0
            have HH := Lib.hid (show xs.headD 0 = x0 by rw [hx0]; cases xs with | nil => simp at h2 | cons _ _ => rfl)
            have hge : decide ((2 : Int) ≤ (xs.length : Int)) = true := decide_eq_true (by omega)
            clear hc5 hg5 hn5 hx0
            go_wp2_with fail
            go_loopw [11, 12] (fun av iv wr => ∃ k a : Nat, k < xs.length ∧ iv = .int .i64 k ∧ av = .int .i64 a ∧ Hid (AtOk l xs (k + 1) a) ∧ Below wb.heap.size wb wr) (fun _ iv _ => (intOf iv).toNat)
            case atStart => exact ⟨xs.length - 1, 1, by omega, congrArg (Value.int .i64) (by omega), rfl, Lib.hid (.inr ⟨rfl, fun j hj h => by omega⟩), Below.refl _ _⟩
            case round =>
              obtain ⟨k, a, hk, rfl, rfl, HAT, bk⟩ := hrel
              have BK := Lib.hid bk
              have BWK := Lib.hid (BWM.out.trans (bk.mono BWM.out.size))
              clear bk
              by_cases hk1 : 1 ≤ k
              · have hke : k - 1 + 1 = k := by omega
                have HKE := Lib.hid hke
                obtain ⟨y, hy⟩ : ∃ y, y = xs[k] := ⟨_, rfl⟩
                have FK := Lib.hid (show FC g5 o5 (o5 + k) x0 y wr by
                  have e0 := HC5.out 0 _ (List.getElem?_eq_getElem h0)
                  have e1 := HC5.out k _ (List.getElem?_eq_getElem hk)
                  rw [Nat.add_zero, ← HX0.out] at e0
                  rw [← hy] at e1
                  exact FC.below ⟨e0, e1⟩ BK.out)
                have HY := Lib.hid hy
                clear hy hke
                cases hp : plays l x0 y
                · have HA2 := Lib.hid (show AtOk l xs (k - 1 + 1) k from HKE.out.symm ▸ AtOk.hit hk (by rw [HH.out, ← HY.out]; exact hp))
                  have HP := Lib.hid hp
                  clear hp
                  go_wp2_with fail
                  refine wp_region_noPanic ?_
                  refine wp_region_held_drew (S := FC g5 o5 (o5 + k) x0 y) (by kernel_rfl) (FK.out) (fun hHeld => ?_)
                  refine wpAnyH_take (i := 0) (oi := ?oiPa0x) (v := ?vPa0x) ?hiPa0x (by kernel_rfl) (by kernel_rfl) (by kernel_rfl) ?hqPa0x ?hyPa0x (by assumption) ?restPa0x
                  case hiPa0x => (simp only [List.getElem?_toArray, List.getElem?_cons_zero] <;> rfl)
                  case hqPa0x => exact fun _ _ _ h => h
                  case hyPa0x => exact Or.inl ⟨by rfl, by (intro wS hSw; obtain ⟨q0, q1⟩ := hSw; go_simp; try with_reducible rfl)⟩
                  try simp only [Act.put, List.setIfInBounds_toArray, List.set_cons_zero, List.set_cons_succ]
                  refine wpAnyH_take (i := 1) (oi := ?oiPa1x) (v := ?vPa1x) ?hiPa1x (by kernel_rfl) (by kernel_rfl) (by kernel_rfl) ?hqPa1x ?hyPa1x (by assumption) ?restPa1x
                  case hiPa1x => (simp only [List.getElem?_toArray, List.getElem?_cons_succ, List.getElem?_cons_zero] <;> rfl)
                  case hqPa1x => exact fun _ _ _ h => h
                  case hyPa1x => exact Or.inl ⟨by rfl, by (intro wS hSw; obtain ⟨q0, q1⟩ := hSw; go_simp; try with_reducible rfl)⟩
                  try simp only [Act.put, List.setIfInBounds_toArray, List.set_cons_zero, List.set_cons_succ]
                  refine wpAnyH_take (i := 2) (oi := ?oiPa2x) (v := ?vPa2x) ?hiPa2x (by kernel_rfl) (by kernel_rfl) (by kernel_rfl) ?hqPa2x ?hyPa2x (by assumption) ?restPa2x
                  case hiPa2x => (simp only [List.getElem?_toArray, List.getElem?_cons_succ, List.getElem?_cons_zero] <;> rfl)
                  case hqPa2x => exact fun _ _ _ h => h
                  case hyPa2x => exact Or.inl ⟨by rfl, by (intro wS hSw; obtain ⟨q0, q1⟩ := hSw; go_simp; try with_reducible rfl)⟩
                  try simp only [Act.put, List.setIfInBounds_toArray, List.set_cons_zero, List.set_cons_succ]
                  refine wpAnyH_take (i := 3) (oi := ?oiPa3x) (v := ?vPa3x) ?hiPa3x (by kernel_rfl) (by kernel_rfl) (by kernel_rfl) ?hqPa3x ?hyPa3x (by assumption) ?restPa3x
                  case hiPa3x => (simp only [List.getElem?_toArray, List.getElem?_cons_succ, List.getElem?_cons_zero] <;> rfl)
                  case hqPa3x => exact fun _ _ _ h => h
                  case hyPa3x => exact Or.inl ⟨by rfl, by (intro wS hSw; obtain ⟨q0, q1⟩ := hSw; go_simp; try with_reducible rfl)⟩
                  try simp only [Act.put, List.setIfInBounds_toArray, List.set_cons_zero, List.set_cons_succ]
                  refine wpAnyH_take (i := 4) (oi := ?oiPa4x) (v := ?vPa4x) ?hiPa4x (by kernel_rfl) (by kernel_rfl) (by kernel_rfl) ?hqPa4x ?hyPa4x (by assumption) ?restPa4x
                  case hiPa4x => (simp only [List.getElem?_toArray, List.getElem?_cons_succ, List.getElem?_cons_zero] <;> rfl)
                  case hqPa4x => exact fun _ _ _ h => h
                  case hyPa4x => exact Or.inl ⟨by rfl, by (intro wS hSw; obtain ⟨q0, q1⟩ := hSw; go_simp; try with_reducible rfl)⟩
                  try simp only [Act.put, List.setIfInBounds_toArray, List.set_cons_zero, List.set_cons_succ]
                  refine wpAnyH_take (i := 5) (oi := ?oiPa5x) (v := ?vPa5x) ?hiPa5x (by kernel_rfl) (by kernel_rfl) (by kernel_rfl) ?hqPa5x ?hyPa5x (by assumption) ?restPa5x
                  case hiPa5x => (simp only [List.getElem?_toArray, List.getElem?_cons_succ, List.getElem?_cons_zero] <;> rfl)
                  case hqPa5x => exact fun _ _ _ h => h
                  case hyPa5x => exact Or.inl ⟨by rfl, by (intro wS hSw; obtain ⟨q0, q1⟩ := hSw; go_simp; try with_reducible rfl)⟩
                  try simp only [Act.put, List.setIfInBounds_toArray, List.set_cons_zero, List.set_cons_succ]
                  refine wpAnyH_take (i := 6) (oi := ?oiPa6x) (v := ?vPa6x) ?hiPa6x (by kernel_rfl) (by kernel_rfl) (by kernel_rfl) ?hqPa6x ?hyPa6x (by assumption) ?restPa6x
                  case hiPa6x => (simp only [List.getElem?_toArray, List.getElem?_cons_succ, List.getElem?_cons_zero] <;> rfl)
                  case hqPa6x => exact fun _ _ _ h => h
                  case hyPa6x => exact Or.inl ⟨by rfl, by (intro wS hSw; obtain ⟨q0, q1⟩ := hSw; go_simp; try with_reducible rfl)⟩
                  try simp only [Act.put, List.setIfInBounds_toArray, List.set_cons_zero, List.set_cons_succ]
                  refine wpAnyH_take (i := 7) (oi := ?oiPa7x) (v := ?vPa7x) ?hiPa7x (by kernel_rfl) (by kernel_rfl) (by kernel_rfl) ?hqPa7x ?hyPa7x (by assumption) ?restPa7x
                  case hiPa7x => (simp only [List.getElem?_toArray, List.getElem?_cons_succ, List.getElem?_cons_zero] <;> rfl)
                  case hqPa7x => exact fun _ _ _ h => h
                  case hyPa7x => exact Or.inl ⟨by rfl, by (intro wS hSw; obtain ⟨q0, q1⟩ := hSw; go_simp; try with_reducible rfl)⟩
                  try simp only [Act.put, List.setIfInBounds_toArray, List.set_cons_zero, List.set_cons_succ]
                  refine wpAnyH_ready (rs := [8]) (by kernel_rfl) (by simp) ?_
                  refine AllReadyH.cons (o := ?oiPa8x) ?hiPa8x (fun K hK => ?hsPa8x) AllReadyH.nil
                  case hiPa8x => (simp only [List.getElem?_toArray, List.getElem?_cons_succ, List.getElem?_cons_zero] <;> rfl)
                  go_simp
                  have BKD := Lib.hid (BWK.out.trans ((Below.refl wr.heap.size wr).drew.mono BWK.out.size))
                  refine (played_ref _ l x0 y wr.drew (HL.out.below BKD.out) (by omega)).mono ?_
                  rintro e w5 ⟨rfl, b5⟩
                  rw [HP.out]
                  have FK5 := Lib.hid ((FK.out.below (Below.refl wr.heap.size wr).drew).below b5)
                  have BK2 := Lib.hid (BK.out.trans ((((Below.refl wr.heap.size wr).drew).trans b5).mono BK.out.size))
                  clear b5
                  refine hK.out _ _ FK5.out (fun hHeld5 => ?_)
                  clear hK K
                  try simp only [Act.put, List.setIfInBounds_toArray, List.set_cons_zero, List.set_cons_succ]
                  refine wpAnyH_take (i := 9) (oi := ?oiPa9x) (v := ?vPa9x) ?hiPa9x (by kernel_rfl) (by kernel_rfl) (by kernel_rfl) ?hqPa9x ?hyPa9x (by assumption) ?restPa9x
                  case hiPa9x => (simp only [List.getElem?_toArray, List.getElem?_cons_succ, List.getElem?_cons_zero] <;> rfl)
                  case hqPa9x => exact fun _ _ _ h => h
                  case hyPa9x => exact Or.inl ⟨by rfl, by (intro wS hSw; obtain ⟨q0, q1⟩ := hSw; go_simp; try with_reducible rfl)⟩
                  try simp only [Act.put, List.setIfInBounds_toArray, List.set_cons_zero, List.set_cons_succ]
                  refine wpAnyH_done (by kernel_rfl) ?_ _
                  refine NoPanic.normal ?_
                  go_wp2_with fail
                  go_round
                  case rel => exact ⟨k - 1, k, by omega, congrArg (Value.int .i64) (by omega), rfl, HA2, BK2.out⟩
                  case measure => simp [intOf]; omega
                · have HA2 := Lib.hid (show AtOk l xs (k - 1 + 1) a from HKE.out.symm ▸ AtOk.miss hk (by rw [HH.out, ← HY.out]; exact hp) HAT.out)
                  have HP := Lib.hid hp
                  clear hp
                  go_wp2_with fail
                  refine wp_region_noPanic ?_
                  refine wp_region_held_drew (S := FC g5 o5 (o5 + k) x0 y) (by kernel_rfl) (FK.out) (fun hHeld => ?_)
                  refine wpAnyH_take (i := 0) (oi := ?oiPb0x) (v := ?vPb0x) ?hiPb0x (by kernel_rfl) (by kernel_rfl) (by kernel_rfl) ?hqPb0x ?hyPb0x (by assumption) ?restPb0x
                  case hiPb0x => (simp only [List.getElem?_toArray, List.getElem?_cons_zero] <;> rfl)
                  case hqPb0x => exact fun _ _ _ h => h
                  case hyPb0x => exact Or.inl ⟨by rfl, by (intro wS hSw; obtain ⟨q0, q1⟩ := hSw; go_simp; try with_reducible rfl)⟩
                  try simp only [Act.put, List.setIfInBounds_toArray, List.set_cons_zero, List.set_cons_succ]
                  refine wpAnyH_take (i := 1) (oi := ?oiPb1x) (v := ?vPb1x) ?hiPb1x (by kernel_rfl) (by kernel_rfl) (by kernel_rfl) ?hqPb1x ?hyPb1x (by assumption) ?restPb1x
                  case hiPb1x => (simp only [List.getElem?_toArray, List.getElem?_cons_succ, List.getElem?_cons_zero] <;> rfl)
                  case hqPb1x => exact fun _ _ _ h => h
                  case hyPb1x => exact Or.inl ⟨by rfl, by (intro wS hSw; obtain ⟨q0, q1⟩ := hSw; go_simp; try with_reducible rfl)⟩
                  try simp only [Act.put, List.setIfInBounds_toArray, List.set_cons_zero, List.set_cons_succ]
                  refine wpAnyH_take (i := 2) (oi := ?oiPb2x) (v := ?vPb2x) ?hiPb2x (by kernel_rfl) (by kernel_rfl) (by kernel_rfl) ?hqPb2x ?hyPb2x (by assumption) ?restPb2x
                  case hiPb2x => (simp only [List.getElem?_toArray, List.getElem?_cons_succ, List.getElem?_cons_zero] <;> rfl)
                  case hqPb2x => exact fun _ _ _ h => h
                  case hyPb2x => exact Or.inl ⟨by rfl, by (intro wS hSw; obtain ⟨q0, q1⟩ := hSw; go_simp; try with_reducible rfl)⟩
                  try simp only [Act.put, List.setIfInBounds_toArray, List.set_cons_zero, List.set_cons_succ]
                  refine wpAnyH_take (i := 3) (oi := ?oiPb3x) (v := ?vPb3x) ?hiPb3x (by kernel_rfl) (by kernel_rfl) (by kernel_rfl) ?hqPb3x ?hyPb3x (by assumption) ?restPb3x
                  case hiPb3x => (simp only [List.getElem?_toArray, List.getElem?_cons_succ, List.getElem?_cons_zero] <;> rfl)
                  case hqPb3x => exact fun _ _ _ h => h
                  case hyPb3x => exact Or.inl ⟨by rfl, by (intro wS hSw; obtain ⟨q0, q1⟩ := hSw; go_simp; try with_reducible rfl)⟩
                  try simp only [Act.put, List.setIfInBounds_toArray, List.set_cons_zero, List.set_cons_succ]
                  refine wpAnyH_take (i := 4) (oi := ?oiPb4x) (v := ?vPb4x) ?hiPb4x (by kernel_rfl) (by kernel_rfl) (by kernel_rfl) ?hqPb4x ?hyPb4x (by assumption) ?restPb4x
                  case hiPb4x => (simp only [List.getElem?_toArray, List.getElem?_cons_succ, List.getElem?_cons_zero] <;> rfl)
                  case hqPb4x => exact fun _ _ _ h => h
                  case hyPb4x => exact Or.inl ⟨by rfl, by (intro wS hSw; obtain ⟨q0, q1⟩ := hSw; go_simp; try with_reducible rfl)⟩
                  try simp only [Act.put, List.setIfInBounds_toArray, List.set_cons_zero, List.set_cons_succ]
                  refine wpAnyH_take (i := 5) (oi := ?oiPb5x) (v := ?vPb5x) ?hiPb5x (by kernel_rfl) (by kernel_rfl) (by kernel_rfl) ?hqPb5x ?hyPb5x (by assumption) ?restPb5x
                  case hiPb5x => (simp only [List.getElem?_toArray, List.getElem?_cons_succ, List.getElem?_cons_zero] <;> rfl)
                  case hqPb5x => exact fun _ _ _ h => h
                  case hyPb5x => exact Or.inl ⟨by rfl, by (intro wS hSw; obtain ⟨q0, q1⟩ := hSw; go_simp; try with_reducible rfl)⟩
                  try simp only [Act.put, List.setIfInBounds_toArray, List.set_cons_zero, List.set_cons_succ]
                  refine wpAnyH_take (i := 6) (oi := ?oiPb6x) (v := ?vPb6x) ?hiPb6x (by kernel_rfl) (by kernel_rfl) (by kernel_rfl) ?hqPb6x ?hyPb6x (by assumption) ?restPb6x
                  case hiPb6x => (simp only [List.getElem?_toArray, List.getElem?_cons_succ, List.getElem?_cons_zero] <;> rfl)
                  case hqPb6x => exact fun _ _ _ h => h
                  case hyPb6x => exact Or.inl ⟨by rfl, by (intro wS hSw; obtain ⟨q0, q1⟩ := hSw; go_simp; try with_reducible rfl)⟩
                  try simp only [Act.put, List.setIfInBounds_toArray, List.set_cons_zero, List.set_cons_succ]
                  refine wpAnyH_take (i := 7) (oi := ?oiPb7x) (v := ?vPb7x) ?hiPb7x (by kernel_rfl) (by kernel_rfl) (by kernel_rfl) ?hqPb7x ?hyPb7x (by assumption) ?restPb7x
                  case hiPb7x => (simp only [List.getElem?_toArray, List.getElem?_cons_succ, List.getElem?_cons_zero] <;> rfl)
                  case hqPb7x => exact fun _ _ _ h => h
                  case hyPb7x => exact Or.inl ⟨by rfl, by (intro wS hSw; obtain ⟨q0, q1⟩ := hSw; go_simp; try with_reducible rfl)⟩
                  try simp only [Act.put, List.setIfInBounds_toArray, List.set_cons_zero, List.set_cons_succ]
                  refine wpAnyH_ready (rs := [8]) (by kernel_rfl) (by simp) ?_
                  refine AllReadyH.cons (o := ?oiPb8x) ?hiPb8x (fun K hK => ?hsPb8x) AllReadyH.nil
                  case hiPb8x => (simp only [List.getElem?_toArray, List.getElem?_cons_succ, List.getElem?_cons_zero] <;> rfl)
                  go_simp
                  have BKD := Lib.hid (BWK.out.trans ((Below.refl wr.heap.size wr).drew.mono BWK.out.size))
                  refine (played_ref _ l x0 y wr.drew (HL.out.below BKD.out) (by omega)).mono ?_
                  rintro e w5 ⟨rfl, b5⟩
                  rw [HP.out]
                  have FK5 := Lib.hid ((FK.out.below (Below.refl wr.heap.size wr).drew).below b5)
                  have BK2 := Lib.hid (BK.out.trans ((((Below.refl wr.heap.size wr).drew).trans b5).mono BK.out.size))
                  clear b5
                  refine hK.out _ _ FK5.out (fun hHeld5 => ?_)
                  clear hK K
                  try simp only [Act.put, List.setIfInBounds_toArray, List.set_cons_zero, List.set_cons_succ]
                  refine wpAnyH_take (i := 9) (oi := ?oiPb9x) (v := ?vPb9x) ?hiPb9x (by kernel_rfl) (by kernel_rfl) (by kernel_rfl) ?hqPb9x ?hyPb9x (by assumption) ?restPb9x
                  case hiPb9x => (simp only [List.getElem?_toArray, List.getElem?_cons_succ, List.getElem?_cons_zero] <;> rfl)
                  case hqPb9x => exact fun _ _ _ h => h
                  case hyPb9x => exact Or.inl ⟨by rfl, by (intro wS hSw; obtain ⟨q0, q1⟩ := hSw; go_simp; try with_reducible rfl)⟩
                  try simp only [Act.put, List.setIfInBounds_toArray, List.set_cons_zero, List.set_cons_succ]
                  refine wpAnyH_done (by kernel_rfl) ?_ _
                  refine NoPanic.normal ?_
                  go_wp2_with fail
                  go_round
                  case rel => exact ⟨k - 1, a, by omega, congrArg (Value.int .i64) (by omega), rfl, HA2, BK2.out⟩
                  case measure => simp [intOf]; omega
              · obtain rfl : k = 0 := by omega
                obtain ⟨ha1, ha0, hap⟩ := AtOk.pick HAT.out h1
                obtain ⟨y, hy⟩ : ∃ y, y = xs[a] := ⟨_, rfl⟩
                have FK := Lib.hid (show FC g5 o5 (o5 + a) x0 y wr by
                  have e0 := HC5.out 0 _ (List.getElem?_eq_getElem h0)
                  have e1 := HC5.out a _ (List.getElem?_eq_getElem ha1)
                  rw [Nat.add_zero, ← HX0.out] at e0
                  rw [← hy] at e1
                  exact FC.below ⟨e0, e1⟩ BK.out)
                have HY := Lib.hid hy
                have HAP := Lib.hid hap
                have OK := Lib.hid (own_block OO.out BK.out)
                have HGK := Lib.hid (Nat.lt_of_lt_of_le HG5.out BK.out.size)
                have BD := Lib.hid ((Below.refl wr.heap.size wr).drew.alloc (show wr.heap.size ≤ wr.drew.heap.size from Nat.le_refl _) (.cells (encR ⟨x0, y, 0, 0, 0⟩).toArray 31))
                have O8 := Lib.hid (own_block OK.out BD.out)
                have FK8 := Lib.hid (FK.out.below BD.out)
                have R8 := Lib.hid (res_row wr.drew ⟨x0, y, 0, 0, 0⟩ 31)
                have BOK := Lib.hid (BM.out.trans (BK.out.mono BM.out.size))
                clear hy hap
                go_wp2_with fail
                refine wp_region_noPanic ?_
                refine wp_region_held_drew (S := FC g5 o5 (o5 + a) x0 y) (by kernel_rfl) (FK.out) (fun hHeld => ?_)
                refine wpAnyH_take (i := 0) (oi := ?oiPh0x) (v := ?vPh0x) ?hiPh0x (by kernel_rfl) (by kernel_rfl) (by kernel_rfl) ?hqPh0x ?hyPh0x (by assumption) ?restPh0x
                case hiPh0x => (simp only [List.getElem?_toArray, List.getElem?_cons_zero] <;> rfl)
                case hqPh0x => exact fun _ _ _ h => h
                case hyPh0x => exact Or.inl ⟨by rfl, by (intro wS hSw; obtain ⟨q0, q1⟩ := hSw; go_simp; try with_reducible rfl)⟩
                try simp only [Act.put, List.setIfInBounds_toArray, List.set_cons_zero, List.set_cons_succ]
                refine wpAnyH_take (i := 1) (oi := ?oiPh1x) (v := ?vPh1x) ?hiPh1x (by kernel_rfl) (by kernel_rfl) (by kernel_rfl) ?hqPh1x ?hyPh1x (by assumption) ?restPh1x
                case hiPh1x => (simp only [List.getElem?_toArray, List.getElem?_cons_succ, List.getElem?_cons_zero] <;> rfl)
                case hqPh1x => exact fun _ _ _ h => h
                case hyPh1x => exact Or.inl ⟨by rfl, by (intro wS hSw; obtain ⟨q0, q1⟩ := hSw; go_simp; try with_reducible rfl)⟩
                try simp only [Act.put, List.setIfInBounds_toArray, List.set_cons_zero, List.set_cons_succ]
                refine wpAnyH_take (i := 2) (oi := ?oiPh2x) (v := ?vPh2x) ?hiPh2x (by kernel_rfl) (by kernel_rfl) (by kernel_rfl) ?hqPh2x ?hyPh2x (by assumption) ?restPh2x
                case hiPh2x => (simp only [List.getElem?_toArray, List.getElem?_cons_succ, List.getElem?_cons_zero] <;> rfl)
                case hqPh2x => exact fun _ _ _ h => h
                case hyPh2x => exact Or.inl ⟨by rfl, by (intro wS hSw; obtain ⟨q0, q1⟩ := hSw; go_simp; try with_reducible rfl)⟩
                try simp only [Act.put, List.setIfInBounds_toArray, List.set_cons_zero, List.set_cons_succ]
                refine wpAnyH_take (i := 3) (oi := ?oiPh3x) (v := ?vPh3x) ?hiPh3x (by kernel_rfl) (by kernel_rfl) (by kernel_rfl) ?hqPh3x ?hyPh3x (by assumption) ?restPh3x
                case hiPh3x => (simp only [List.getElem?_toArray, List.getElem?_cons_succ, List.getElem?_cons_zero] <;> rfl)
                case hqPh3x => exact fun _ _ _ h => h
                case hyPh3x => exact Or.inl ⟨by rfl, by (intro wS hSw; obtain ⟨q0, q1⟩ := hSw; go_simp; try with_reducible rfl)⟩
                try simp only [Act.put, List.setIfInBounds_toArray, List.set_cons_zero, List.set_cons_succ]
                refine wpAnyH_take (i := 4) (oi := ?oiPh4x) (v := ?vPh4x) ?hiPh4x (by kernel_rfl) (by kernel_rfl) (by kernel_rfl) ?hqPh4x ?hyPh4x (by assumption) ?restPh4x
                case hiPh4x => (simp only [List.getElem?_toArray, List.getElem?_cons_succ, List.getElem?_cons_zero] <;> rfl)
                case hqPh4x => exact fun _ _ _ h => h
                case hyPh4x => exact Or.inl ⟨by rfl, by (intro wS hSw; obtain ⟨q0, q1⟩ := hSw; go_simp; try with_reducible rfl)⟩
                try simp only [Act.put, List.setIfInBounds_toArray, List.set_cons_zero, List.set_cons_succ]
                refine wpAnyH_take (i := 5) (oi := ?oiPh5x) (v := ?vPh5x) ?hiPh5x (by kernel_rfl) (by kernel_rfl) (by kernel_rfl) ?hqPh5x ?hyPh5x (by assumption) ?restPh5x
                case hiPh5x => (simp only [List.getElem?_toArray, List.getElem?_cons_succ, List.getElem?_cons_zero] <;> rfl)
                case hqPh5x => exact fun _ _ _ h => h
                case hyPh5x => exact Or.inl ⟨by rfl, by (intro wS hSw; obtain ⟨q0, q1⟩ := hSw; go_simp; try with_reducible rfl)⟩
                try simp only [Act.put, List.setIfInBounds_toArray, List.set_cons_zero, List.set_cons_succ]
                refine wpAnyH_take (i := 6) (oi := ?oiPh6x) (v := ?vPh6x) ?hiPh6x (by kernel_rfl) (by kernel_rfl) (by kernel_rfl) ?hqPh6x ?hyPh6x (by assumption) ?restPh6x
                case hiPh6x => (simp only [List.getElem?_toArray, List.getElem?_cons_succ, List.getElem?_cons_zero] <;> rfl)
                case hqPh6x => exact fun _ _ _ h => h
                case hyPh6x => exact Or.inl ⟨by rfl, by (intro wS hSw; obtain ⟨q0, q1⟩ := hSw; go_simp; try with_reducible rfl)⟩
                try simp only [Act.put, List.setIfInBounds_toArray, List.set_cons_zero, List.set_cons_succ]
                refine wpAnyH_take (i := 7) (oi := ?oiPh7x) (v := ?vPh7x) ?hiPh7x (by kernel_rfl) (by kernel_rfl) (by kernel_rfl) ?hqPh7x ?hyPh7x (by assumption) ?restPh7x
                case hiPh7x => (simp only [List.getElem?_toArray, List.getElem?_cons_succ, List.getElem?_cons_zero] <;> rfl)
                case hqPh7x => exact fun _ _ _ h => h
                case hyPh7x => exact Or.inl ⟨by rfl, by (intro wS hSw; obtain ⟨q0, q1⟩ := hSw; go_simp; try with_reducible rfl)⟩
                try simp only [Act.put, List.setIfInBounds_toArray, List.set_cons_zero, List.set_cons_succ]
                refine wpAnyH_take (i := 8) (oi := ?oiPh8x) (v := ?vPh8x) ?hiPh8x (by kernel_rfl) (by kernel_rfl) (by kernel_rfl) ?hqPh8x ?hyPh8x (by assumption) ?restPh8x
                case hiPh8x => (simp only [List.getElem?_toArray, List.getElem?_cons_succ, List.getElem?_cons_zero] <;> rfl)
                case hqPh8x => exact fun _ _ _ h => h
                case hyPh8x => exact Or.inl ⟨by rfl, by (intro wS hSw; obtain ⟨q0, q1⟩ := hSw; go_simp; try with_reducible rfl)⟩
                try simp only [Act.put, List.setIfInBounds_toArray, List.set_cons_zero, List.set_cons_succ]
                refine wpAnyH_ready (rs := [9]) (by kernel_rfl) (by simp) ?_
                refine AllReadyH.cons (o := ?oiPh9x) ?hiPh9x (fun K hK => ?hsPh9x) AllReadyH.nil
                case hiPh9x => (simp only [List.getElem?_toArray, List.getElem?_cons_succ, List.getElem?_cons_zero] <;> rfl)
                go_simp
                refine hK.out _ _ FK8.out (fun hHeld8 => ?_)
                clear hK K
                try simp only [Act.put, List.setIfInBounds_toArray, List.set_cons_zero, List.set_cons_succ]
                refine wpAnyH_ready (rs := [10]) (by kernel_rfl) (by simp) ?_
                refine AllReadyH.cons (o := ?oiPh10x) ?hiPh10x (fun K hK => ?hsPh10x) AllReadyH.nil
                case hiPh10x => (simp only [List.getElem?_toArray, List.getElem?_cons_succ, List.getElem?_cons_zero] <;> rfl)
                refine step_append_rowK rfl (.tmp 88) (.tmp 97) 22 rfl wo.heap.size resElem u10 ps.length _ rfl O8.out encR encR_len encR_one [⟨x0, y, 0, 0, 0⟩] ⟨wr.heap.size, 0, none⟩ 1 1 rfl R8.out (by show (ps.length + 1) * 40 ≤ _; omega) (by show ps.length + 1 < _; omega) (Nat.le_trans BOK.out.size BD.out.size) ?_
                intro v9 w9 own9 grow9 bel9
                have O9 := Lib.hid own9
                have HB9 := Lib.hid (show w9.heap[g5]? = wr.heap[g5]? from (grow9.block g5 (Nat.lt_of_lt_of_le HGK.out BD.out.size) HN5.out).trans (BD.out.block g5 HGK.out))
                have HG9 := Lib.hid (show g5 < w9.heap.size from Nat.lt_of_lt_of_le (Nat.lt_of_lt_of_le HGK.out BD.out.size) grow9.size)
                have B9 := Lib.hid (BOK.out.trans ((BD.out.mono BOK.out.size).trans bel9))
                have FK9 := Lib.hid (FK.out.keep HB9.out)
                clear own9 grow9 bel9
                refine hK.out _ _ FK9.out (fun hHeld9 => ?_)
                clear hK K
                try simp only [Act.put, List.setIfInBounds_toArray, List.set_cons_zero, List.set_cons_succ]
                refine wpAnyH_take (i := 11) (oi := ?oiPh11x) (v := ?vPh11x) ?hiPh11x (by kernel_rfl) (by kernel_rfl) (by kernel_rfl) ?hqPh11x ?hyPh11x (by assumption) ?restPh11x
                case hiPh11x => (simp only [List.getElem?_toArray, List.getElem?_cons_succ, List.getElem?_cons_zero] <;> rfl)
                case hqPh11x => exact fun _ _ _ h => h
                case hyPh11x => exact Or.inl ⟨by rfl, by (intro wS hSw; obtain ⟨q0, q1⟩ := hSw; go_simp; try with_reducible rfl)⟩
                try simp only [Act.put, List.setIfInBounds_toArray, List.set_cons_zero, List.set_cons_succ]
                refine wpAnyH_done (by kernel_rfl) ?_ _
                refine NoPanic.normal ?_
                go_wp2_with fail
                go_loopw [13, 14] (fun rv iv wr => ∃ k : Nat, 1 ≤ k ∧ k ≤ xs.length ∧ iv = .int .i64 k ∧ wr.ownsRow w9.heap.size 3 1 rv (restTo xs a k).length ((restTo xs a k).map (Value.int .i64)) ∧ Below w9.heap.size w9 wr) (fun _ iv _ => xs.length - (intOf iv).toNat)
                case atStart => exact ⟨1, by omega, by omega, rfl, by rw [restTo_one]; exact World.ownsRow_nil _ _ _ _, Below.refl _ _⟩
                case round =>
                  obtain ⟨k, hk1, hk2, rfl, hor, br⟩ := hrel
                  have OR := Lib.hid hor
                  have BR := Lib.hid br
                  clear hor br
                  by_cases hlt : k < xs.length
                  · have hrl := restTo_len xs a k
                    by_cases hka : k = a
                    · subst hka
                      have HS2 := Lib.hid (restTo_skip xs k hlt)
                      have e1 : ((k : Int) != (k : Int)) = false := by simp
                      go_wp2_with fail
                      go_round
                      case rel => exact ⟨k + 1, by omega, by omega, by go_num, by rw [HS2.out]; exact OR.out, BR.out⟩
                      case measure => simp [intOf]; omega
                    · have HS2 := Lib.hid (restTo_step xs a k hlt (by omega) ha0 hka)
                      have e1 : ((k : Int) != (a : Int)) = true := bne_iff_ne.2 (by omega)
                      have ck := (BR.out.cell (p := ⟨g5, o5 + k, none⟩) HG9.out).trans ((World.cell?_of_block (a := ⟨g5, o5 + k, none⟩) HB9.out).trans ((BK.out.cell (p := ⟨g5, o5 + k, none⟩) HG5.out).trans (HC5.out k _ (List.getElem?_eq_getElem hlt))))
                      obtain ⟨z, hz⟩ : ∃ z, z = xs[k] := ⟨_, rfl⟩
                      rw [← hz] at ck HS2
                      clear hz hka
                      go_wp2_with (at_builtin; refine wpList_append_new rfl (.tmp 108) (.tmp 113) 32 rfl w9.heap.size intsElem _ _ _ rfl OR.out [.int .i64 z] rfl rfl rfl (by omega) (by omega) BR.out.size ?_; intro v4 w4 own4 bel4 _; have O4 := Lib.hid own4; have B4 := Lib.hid (BR.out.trans bel4); clear own4 bel4)
                      go_round
                      case rel => exact ⟨k + 1, by omega, by omega, by go_num, by rw [HS2.out, List.length_append, List.map_append]; exact O4.out, B4.out⟩
                      case measure => simp [intOf]; omega
                  · obtain rfl : k = xs.length := by omega
                    have ORE := Lib.hid OR.out
                    rw [restTo_end] at ORE
                    have RX2 := Lib.hid (RowX.of_own (b := v9.ownBlock) ORE.out (fun g hg e => by have h1 := (ORE.out.lt g hg).1; have h2 := (O9.out.lt g e.symm).2; omega))
                    have O10 := Lib.hid (own_block O9.out BR.out)
                    have hel : ((xs.eraseIdx a).drop 1).length = xs.length - 2 := by rw [List.length_drop, List.length_eraseIdx_of_lt ha1]; omega
                    go_wp2_with fail
                    go_round
                    case rel =>
                      refine ⟨(xs.eraseIdx a).drop 1, ps ++ [(x0, y)], ?_, RX2.out, ?_, ?_, Lib.hid ?_⟩
                      · rw [List.length_append, List.length_singleton, List.map_append, List.flatMap_append]
                        exact O10.out
                      · exact B9.out.trans (BR.out.mono B9.out.size)
                      · rw [hel, List.length_append, List.length_singleton]; omega
                      · have := pairs_step l xs h1 a ha1 HAP.out
                        rw [← HX0.out, ← HY.out] at this
                        rw [List.append_assoc, List.singleton_append, ← this]
                        exact HE.out
                    case measure =>
                      show lenV _ < xs.length
                      obtain ⟨_, _, hv⟩ := RX2.out.row.form
                      rw [hv]
                      show ((xs.eraseIdx a).drop 1).length < _
                      omega
          · have HEE := Lib.hid (show ps = pairs l xs0 by
              have := HE.out
              rwa [pairs_short l xs (by omega), List.append_nil] at this)
            go_wp2_with fail
            go_ret
            refine ⟨_, rfl, s, ?_, BWM.out, P2.out, T2.out⟩
            rw [HQ2.out, ← HEE.out]
            exact rowK_own encR_len (by rw [List.length_map]; exact OO.out)
  · have HOD := Lib.hid (show N % 2 = 1 by have := beq_iff_eq.1 hodd; omega)
    obtain ⟨M, hM⟩ : ∃ M, N = M + 1 := ⟨N - 1, by have := HOD.out; omega⟩
    have hM2 : (N : Int) - 1 = (M : Int) := by omega
    have hN0 : 0 < N := by omega
    obtain ⟨g, o, rfl, hg, cl, c5x⟩ := cells.out M (by rw [HSL.out]; omega)
    have hlast := byeAt_zero s
    rw [HSL.out, hM, Nat.add_sub_cancel, List.getElem?_eq_getElem (by rw [HSL.out]; omega), Option.getD_some] at hlast
    rw [← hlast] at cl
    have HG := Lib.hid hg
    have hMN : M < N := by omega
    clear hlast hg hM c5x
    go_wp2_with fail
    clear hM2 hMN cl
    go_loopw [6, 7] (fun bv i wr => ∃ k : Nat, k ≤ N ∧ i = .int .i64 k ∧ bv = .int .i64 (byeAt s k) ∧ ∃ q, wr = w2.drewN q) (fun _ i _ => N - (intOf i).toNat)
    case atStart => exact ⟨0, by omega, rfl, rfl, 0, rfl⟩
    case round =>
      obtain ⟨k, hk, rfl, rfl, q, rfl⟩ := hrel
      by_cases hlt : k < N
      · have hks : k < s.length := by rw [HSL.out]; exact hlt
        obtain ⟨g2, o2, hgo, _, ca, cb⟩ := cells.out k hks
        obtain ⟨rfl, rfl⟩ : g = g2 ∧ o = o2 := by simpa using hgo
        have HST := Lib.hid (byeAt_step s k hks)
        obtain ⟨x, hx⟩ : ∃ x, x = s[k] := ⟨_, rfl⟩
        rw [← hx] at ca cb HST
        obtain ⟨b, hb⟩ : ∃ b, b = x.by_ := ⟨_, rfl⟩
        rw [← hb] at cb HST
        obtain ⟨p, hp⟩ : ∃ p, p = x.pl := ⟨_, rfl⟩
        rw [← hp] at ca HST
        clear hx hb hp hgo hks
        cases hb0 : (b == 0)
        · have HS2 := Lib.hid (show byeAt s (k + 1) = byeAt s k by rw [HST.out, if_neg (beq_eq_false_iff_ne.1 hb0)])
          go_wp2_with fail
          go_round
          case rel => exact ⟨k + 1, by omega, by go_num, by rw [HS2.out], q, rfl⟩
          case measure => simp [intOf]; omega
        · have HS2 := Lib.hid (show byeAt s (k + 1) = p by rw [HST.out, if_pos (beq_iff_eq.1 hb0)])
          go_wp2_with fail
          go_round
          case rel => exact ⟨k + 1, by omega, by go_num, by rw [HS2.out], q, rfl⟩
          case measure => simp [intOf]; omega
      · obtain rfl : N = k := by omega
        have hri : restI s < s.length := restI_lt s (by rw [HSL.out]; omega)
        have hbe := byeAt_end s
        rw [HSL.out, List.getElem?_eq_getElem hri, Option.getD_some] at hbe
        obtain ⟨bye, hbye⟩ : ∃ bye, bye = byeAt s N := ⟨_, rfl⟩
        rw [← hbye]
        rw [← hbye] at hbe
        have hb0 : 0 ≤ bye := by rw [hbe]; exact HPL.out _ (List.getElem_mem hri)
        have HQ := Lib.hid (show pairOut l s = (pairs l (frees s bye s.length)).map rsPair ++ [⟨bye, -1, 0, 0, 0⟩] by
          unfold pairOut
          rw [HSL.out, if_pos HOD.out, List.getElem?_eq_getElem hri, Option.getD_some, ← hbe, ← HSL.out]
          have := frees_one s (restI s) hri HND.out
          rw [← hbe] at this
          rw [this])
        clear hbe hbye hri HG
        have hb1 : decide (0 ≤ bye) = true := decide_eq_true hb0
        have CE := Lib.hid (show ∀ (k : Nat) (hk : k < s.length), ∃ b o', (some ⟨g, o, none⟩ : Option Addr) = some ⟨b, o', none⟩ ∧ b < (w2.drewN q).heap.size ∧ (w2.drewN q).cell? ⟨b, o' + k * 8, none⟩ = some (.int .i64 s[k].pl) from fun k hk => by
          obtain ⟨b, o', h1, h2, h3, _⟩ := cells.out k hk
          exact ⟨b, o', h1, h2, h3⟩)
        have BW := Lib.hid (B2.out.trans ((drewN_grow w2 q).mono B2.out.size))
        generalize w2.drewN q = w3 at *
        clear cells
        go_wp2_with fail
        go_loopw [8, 9] (fun fv i wr => ∃ k : Nat, k ≤ N ∧ i = .int .i64 k ∧ wr.ownsRow w3.heap.size 3 1 fv (frees s bye k).length ((frees s bye k).map (Value.int .i64)) ∧ Below w3.heap.size w3 wr) (fun _ i _ => N - (intOf i).toNat)
        case atStart => exact ⟨0, by omega, rfl, World.ownsRow_nil _ _ _ _, Below.refl _ _⟩
        case round =>
          obtain ⟨k, hk, rfl, hown, bw⟩ := hrel
          have OW := Lib.hid hown
          have BF := Lib.hid bw
          clear hown bw
          by_cases hlt : k < N
          · have hks : k < s.length := by rw [HSL.out]; exact hlt
            obtain ⟨g2, o2, hgo, hg2, ca⟩ := CE.out k hks
            cases hgo
            have cb := (BF.out.cell (p := ⟨_, _, none⟩) hg2).trans ca
            have HST := Lib.hid (frees_step s bye k hks)
            have hfl : (frees s bye k).length ≤ k := by
              have h1 := List.length_filter_le (fun x => x != bye) ((s.take k).map (·.pl))
              rw [List.length_map, List.length_take] at h1
              exact Nat.le_trans h1 (Nat.min_le_left _ _)
            obtain ⟨x, hx⟩ : ∃ x, x = s[k].pl := ⟨_, rfl⟩
            rw [← hx] at cb HST
            obtain ⟨fs, hfs⟩ : ∃ fs, fs = frees s bye k := ⟨_, rfl⟩
            rw [← hfs] at OW HST hfl
            clear hx hfs ca hg2 hks
            cases hb : (x != bye)
            · have HS2 := Lib.hid (show frees s bye (k + 1) = fs by rw [HST.out, if_neg (by rw [hb]; simp)])
              go_wp2_with fail
              go_round
              case rel => exact ⟨k + 1, by omega, by go_num, by rw [HS2.out]; exact OW.out, BF.out⟩
              case measure => simp [intOf]; omega
            · have HS2 := Lib.hid (show frees s bye (k + 1) = fs ++ [x] by rw [HST.out, if_pos hb])
              go_wp2_with (at_builtin; refine wpList_append_new rfl (.tmp 59) (.tmp 65) 32 rfl w3.heap.size intsElem _ _ _ rfl OW.out [.int .i64 x] rfl rfl rfl (by show (fs.length + 1) * 8 ≤ _; omega) (by omega) BF.out.size ?_; intro v3 w4 own4 bel4 _; have O4 := Lib.hid own4; have B4 := Lib.hid (BF.out.trans bel4); clear own4 bel4)
              go_round
              case rel => exact ⟨k + 1, by omega, by go_num, by rw [HS2.out, List.length_append, List.map_append]; exact O4.out, B4.out⟩
              case measure => simp [intOf]; omega
          · obtain rfl : N = k := by omega
            have hfl : (frees s bye N).length ≤ N := by
              have h1 := List.length_filter_le (fun x => x != bye) ((s.take N).map (·.pl))
              rw [List.length_map, List.length_take] at h1
              exact Nat.le_trans h1 (Nat.min_le_left _ _)
            have HQ2 := Lib.hid (show pairOut l s = (pairs l (frees s bye N)).map rsPair ++ [⟨bye, -1, 0, 0, 0⟩] by rw [HQ.out, HSL.out])
            obtain ⟨xs0, hxs0⟩ : ∃ xs0, xs0 = frees s bye N := ⟨_, rfl⟩
            rw [← hxs0] at OW HQ2 hfl
            clear hxs0 HQ
            obtain ⟨wo, rfl⟩ : ∃ wo, wo = wr := ⟨_, rfl⟩
            have BO := Lib.hid (BW.out.trans (BF.out.mono BW.out.size))
            have RX := Lib.hid (RowX.of_own (b := none) OW.out (fun _ _ e => by cases e))
            clear OW
            go_wp2_with fail
            go_loopw [8, 10] (fun fv out wr => ∃ xs ps, wr.ownsRow wo.heap.size 31 5 out ps.length ((ps.map rsPair).flatMap encR) ∧ RowX out.ownBlock wr fv xs ∧ Below wo.heap.size wo wr ∧ xs.length + ps.length ≤ 256 ∧ Hid (ps ++ pairs l xs = pairs l xs0)) (fun fv _ _ => lenV fv)
            case atStart => exact ⟨xs0, [], World.ownsRow_nil _ _ _ _, RX.out, Below.refl _ _, by show xs0.length + 0 ≤ 256; omega, Lib.hid rfl⟩
            case round =>
              obtain ⟨xs, ps, hown, hrx, bm, hfew, HE⟩ := hrel
              have OO := Lib.hid hown
              have BM := Lib.hid bm
              have BWM := Lib.hid (BO.out.trans (bm.mono BO.out.size))
              obtain ⟨fo, fc, rfl, _, hfx⟩ := hrx
              clear hown bm
              by_cases h2 : 2 ≤ xs.length
              · rcases hfx with hh | ⟨g5, o5, rfl, hg5, hn5, hc5⟩
                · rw [hh] at h2; simp at h2
                have h1 : 1 < xs.length := by omega
                have h0 : 0 < xs.length := by omega
                obtain ⟨wb, rfl⟩ : ∃ wb, wb = wr := ⟨_, rfl⟩
                have HC5 := Lib.hid hc5
                have HG5 := Lib.hid hg5
                have HN5 := Lib.hid hn5
                obtain ⟨x0, hx0⟩ : ∃ x0, x0 = xs[0] := ⟨_, rfl⟩
                have HX0 := Lib.hid hx0
                have HH := Lib.hid (show xs.headD 0 = x0 by rw [hx0]; cases xs with | nil => simp at h2 | cons _ _ => rfl)
                have hge : decide ((2 : Int) ≤ (xs.length : Int)) = true := decide_eq_true (by omega)
                clear hc5 hg5 hn5 hx0
                go_wp2_with fail
                go_loopw [11, 12] (fun av iv wr => ∃ k a : Nat, k < xs.length ∧ iv = .int .i64 k ∧ av = .int .i64 a ∧ Hid (AtOk l xs (k + 1) a) ∧ Below wb.heap.size wb wr) (fun _ iv _ => (intOf iv).toNat)
                case atStart => exact ⟨xs.length - 1, 1, by omega, congrArg (Value.int .i64) (by omega), rfl, Lib.hid (.inr ⟨rfl, fun j hj h => by omega⟩), Below.refl _ _⟩
                case round =>
                  obtain ⟨k, a, hk, rfl, rfl, HAT, bk⟩ := hrel
                  have BK := Lib.hid bk
                  have BWK := Lib.hid (BWM.out.trans (bk.mono BWM.out.size))
                  clear bk
                  by_cases hk1 : 1 ≤ k
                  · have hke : k - 1 + 1 = k := by omega
                    have HKE := Lib.hid hke
                    obtain ⟨y, hy⟩ : ∃ y, y = xs[k] := ⟨_, rfl⟩
                    have FK := Lib.hid (show FC g5 o5 (o5 + k) x0 y wr by
                      have e0 := HC5.out 0 _ (List.getElem?_eq_getElem h0)
                      have e1 := HC5.out k _ (List.getElem?_eq_getElem hk)
                      rw [Nat.add_zero, ← HX0.out] at e0
                      rw [← hy] at e1
                      exact FC.below ⟨e0, e1⟩ BK.out)
                    have HY := Lib.hid hy
                    clear hy hke
                    cases hp : plays l x0 y
                    · have HA2 := Lib.hid (show AtOk l xs (k - 1 + 1) k from HKE.out.symm ▸ AtOk.hit hk (by rw [HH.out, ← HY.out]; exact hp))
                      have HP := Lib.hid hp
                      clear hp
                      go_wp2_with fail
                      refine wp_region_noPanic ?_
                      refine wp_region_held_drew (S := FC g5 o5 (o5 + k) x0 y) (by kernel_rfl) (FK.out) (fun hHeld => ?_)
                      refine wpAnyH_take (i := 0) (oi := ?oiQa0x) (v := ?vQa0x) ?hiQa0x (by kernel_rfl) (by kernel_rfl) (by kernel_rfl) ?hqQa0x ?hyQa0x (by assumption) ?restQa0x
                      case hiQa0x => (simp only [List.getElem?_toArray, List.getElem?_cons_zero] <;> rfl)
                      case hqQa0x => exact fun _ _ _ h => h
                      case hyQa0x => exact Or.inl ⟨by rfl, by (intro wS hSw; obtain ⟨q0, q1⟩ := hSw; go_simp; try with_reducible rfl)⟩
                      try simp only [Act.put, List.setIfInBounds_toArray, List.set_cons_zero, List.set_cons_succ]
                      refine wpAnyH_take (i := 1) (oi := ?oiQa1x) (v := ?vQa1x) ?hiQa1x (by kernel_rfl) (by kernel_rfl) (by kernel_rfl) ?hqQa1x ?hyQa1x (by assumption) ?restQa1x
                      case hiQa1x => (simp only [List.getElem?_toArray, List.getElem?_cons_succ, List.getElem?_cons_zero] <;> rfl)
                      case hqQa1x => exact fun _ _ _ h => h
                      case hyQa1x => exact Or.inl ⟨by rfl, by (intro wS hSw; obtain ⟨q0, q1⟩ := hSw; go_simp; try with_reducible rfl)⟩
                      try simp only [Act.put, List.setIfInBounds_toArray, List.set_cons_zero, List.set_cons_succ]
                      refine wpAnyH_take (i := 2) (oi := ?oiQa2x) (v := ?vQa2x) ?hiQa2x (by kernel_rfl) (by kernel_rfl) (by kernel_rfl) ?hqQa2x ?hyQa2x (by assumption) ?restQa2x
                      case hiQa2x => (simp only [List.getElem?_toArray, List.getElem?_cons_succ, List.getElem?_cons_zero] <;> rfl)
                      case hqQa2x => exact fun _ _ _ h => h
                      case hyQa2x => exact Or.inl ⟨by rfl, by (intro wS hSw; obtain ⟨q0, q1⟩ := hSw; go_simp; try with_reducible rfl)⟩
                      try simp only [Act.put, List.setIfInBounds_toArray, List.set_cons_zero, List.set_cons_succ]
                      refine wpAnyH_take (i := 3) (oi := ?oiQa3x) (v := ?vQa3x) ?hiQa3x (by kernel_rfl) (by kernel_rfl) (by kernel_rfl) ?hqQa3x ?hyQa3x (by assumption) ?restQa3x
                      case hiQa3x => (simp only [List.getElem?_toArray, List.getElem?_cons_succ, List.getElem?_cons_zero] <;> rfl)
                      case hqQa3x => exact fun _ _ _ h => h
                      case hyQa3x => exact Or.inl ⟨by rfl, by (intro wS hSw; obtain ⟨q0, q1⟩ := hSw; go_simp; try with_reducible rfl)⟩
                      try simp only [Act.put, List.setIfInBounds_toArray, List.set_cons_zero, List.set_cons_succ]
                      refine wpAnyH_take (i := 4) (oi := ?oiQa4x) (v := ?vQa4x) ?hiQa4x (by kernel_rfl) (by kernel_rfl) (by kernel_rfl) ?hqQa4x ?hyQa4x (by assumption) ?restQa4x
                      case hiQa4x => (simp only [List.getElem?_toArray, List.getElem?_cons_succ, List.getElem?_cons_zero] <;> rfl)
                      case hqQa4x => exact fun _ _ _ h => h
                      case hyQa4x => exact Or.inl ⟨by rfl, by (intro wS hSw; obtain ⟨q0, q1⟩ := hSw; go_simp; try with_reducible rfl)⟩
                      try simp only [Act.put, List.setIfInBounds_toArray, List.set_cons_zero, List.set_cons_succ]
                      refine wpAnyH_take (i := 5) (oi := ?oiQa5x) (v := ?vQa5x) ?hiQa5x (by kernel_rfl) (by kernel_rfl) (by kernel_rfl) ?hqQa5x ?hyQa5x (by assumption) ?restQa5x
                      case hiQa5x => (simp only [List.getElem?_toArray, List.getElem?_cons_succ, List.getElem?_cons_zero] <;> rfl)
                      case hqQa5x => exact fun _ _ _ h => h
                      case hyQa5x => exact Or.inl ⟨by rfl, by (intro wS hSw; obtain ⟨q0, q1⟩ := hSw; go_simp; try with_reducible rfl)⟩
                      try simp only [Act.put, List.setIfInBounds_toArray, List.set_cons_zero, List.set_cons_succ]
                      refine wpAnyH_take (i := 6) (oi := ?oiQa6x) (v := ?vQa6x) ?hiQa6x (by kernel_rfl) (by kernel_rfl) (by kernel_rfl) ?hqQa6x ?hyQa6x (by assumption) ?restQa6x
                      case hiQa6x => (simp only [List.getElem?_toArray, List.getElem?_cons_succ, List.getElem?_cons_zero] <;> rfl)
                      case hqQa6x => exact fun _ _ _ h => h
                      case hyQa6x => exact Or.inl ⟨by rfl, by (intro wS hSw; obtain ⟨q0, q1⟩ := hSw; go_simp; try with_reducible rfl)⟩
                      try simp only [Act.put, List.setIfInBounds_toArray, List.set_cons_zero, List.set_cons_succ]
                      refine wpAnyH_take (i := 7) (oi := ?oiQa7x) (v := ?vQa7x) ?hiQa7x (by kernel_rfl) (by kernel_rfl) (by kernel_rfl) ?hqQa7x ?hyQa7x (by assumption) ?restQa7x
                      case hiQa7x => (simp only [List.getElem?_toArray, List.getElem?_cons_succ, List.getElem?_cons_zero] <;> rfl)
                      case hqQa7x => exact fun _ _ _ h => h
                      case hyQa7x => exact Or.inl ⟨by rfl, by (intro wS hSw; obtain ⟨q0, q1⟩ := hSw; go_simp; try with_reducible rfl)⟩
                      try simp only [Act.put, List.setIfInBounds_toArray, List.set_cons_zero, List.set_cons_succ]
                      refine wpAnyH_ready (rs := [8]) (by kernel_rfl) (by simp) ?_
                      refine AllReadyH.cons (o := ?oiQa8x) ?hiQa8x (fun K hK => ?hsQa8x) AllReadyH.nil
                      case hiQa8x => (simp only [List.getElem?_toArray, List.getElem?_cons_succ, List.getElem?_cons_zero] <;> rfl)
                      go_simp
                      have BKD := Lib.hid (BWK.out.trans ((Below.refl wr.heap.size wr).drew.mono BWK.out.size))
                      refine (played_ref _ l x0 y wr.drew (HL.out.below BKD.out) (by omega)).mono ?_
                      rintro e w5 ⟨rfl, b5⟩
                      rw [HP.out]
                      have FK5 := Lib.hid ((FK.out.below (Below.refl wr.heap.size wr).drew).below b5)
                      have BK2 := Lib.hid (BK.out.trans ((((Below.refl wr.heap.size wr).drew).trans b5).mono BK.out.size))
                      clear b5
                      refine hK.out _ _ FK5.out (fun hHeld5 => ?_)
                      clear hK K
                      try simp only [Act.put, List.setIfInBounds_toArray, List.set_cons_zero, List.set_cons_succ]
                      refine wpAnyH_take (i := 9) (oi := ?oiQa9x) (v := ?vQa9x) ?hiQa9x (by kernel_rfl) (by kernel_rfl) (by kernel_rfl) ?hqQa9x ?hyQa9x (by assumption) ?restQa9x
                      case hiQa9x => (simp only [List.getElem?_toArray, List.getElem?_cons_succ, List.getElem?_cons_zero] <;> rfl)
                      case hqQa9x => exact fun _ _ _ h => h
                      case hyQa9x => exact Or.inl ⟨by rfl, by (intro wS hSw; obtain ⟨q0, q1⟩ := hSw; go_simp; try with_reducible rfl)⟩
                      try simp only [Act.put, List.setIfInBounds_toArray, List.set_cons_zero, List.set_cons_succ]
                      refine wpAnyH_done (by kernel_rfl) ?_ _
                      refine NoPanic.normal ?_
                      go_wp2_with fail
                      go_round
                      case rel => exact ⟨k - 1, k, by omega, congrArg (Value.int .i64) (by omega), rfl, HA2, BK2.out⟩
                      case measure => simp [intOf]; omega
                    · have HA2 := Lib.hid (show AtOk l xs (k - 1 + 1) a from HKE.out.symm ▸ AtOk.miss hk (by rw [HH.out, ← HY.out]; exact hp) HAT.out)
                      have HP := Lib.hid hp
                      clear hp
                      go_wp2_with fail
                      refine wp_region_noPanic ?_
                      refine wp_region_held_drew (S := FC g5 o5 (o5 + k) x0 y) (by kernel_rfl) (FK.out) (fun hHeld => ?_)
                      refine wpAnyH_take (i := 0) (oi := ?oiQb0x) (v := ?vQb0x) ?hiQb0x (by kernel_rfl) (by kernel_rfl) (by kernel_rfl) ?hqQb0x ?hyQb0x (by assumption) ?restQb0x
                      case hiQb0x => (simp only [List.getElem?_toArray, List.getElem?_cons_zero] <;> rfl)
                      case hqQb0x => exact fun _ _ _ h => h
                      case hyQb0x => exact Or.inl ⟨by rfl, by (intro wS hSw; obtain ⟨q0, q1⟩ := hSw; go_simp; try with_reducible rfl)⟩
                      try simp only [Act.put, List.setIfInBounds_toArray, List.set_cons_zero, List.set_cons_succ]
                      refine wpAnyH_take (i := 1) (oi := ?oiQb1x) (v := ?vQb1x) ?hiQb1x (by kernel_rfl) (by kernel_rfl) (by kernel_rfl) ?hqQb1x ?hyQb1x (by assumption) ?restQb1x
                      case hiQb1x => (simp only [List.getElem?_toArray, List.getElem?_cons_succ, List.getElem?_cons_zero] <;> rfl)
                      case hqQb1x => exact fun _ _ _ h => h
                      case hyQb1x => exact Or.inl ⟨by rfl, by (intro wS hSw; obtain ⟨q0, q1⟩ := hSw; go_simp; try with_reducible rfl)⟩
                      try simp only [Act.put, List.setIfInBounds_toArray, List.set_cons_zero, List.set_cons_succ]
                      refine wpAnyH_take (i := 2) (oi := ?oiQb2x) (v := ?vQb2x) ?hiQb2x (by kernel_rfl) (by kernel_rfl) (by kernel_rfl) ?hqQb2x ?hyQb2x (by assumption) ?restQb2x
                      case hiQb2x => (simp only [List.getElem?_toArray, List.getElem?_cons_succ, List.getElem?_cons_zero] <;> rfl)
                      case hqQb2x => exact fun _ _ _ h => h
                      case hyQb2x => exact Or.inl ⟨by rfl, by (intro wS hSw; obtain ⟨q0, q1⟩ := hSw; go_simp; try with_reducible rfl)⟩
                      try simp only [Act.put, List.setIfInBounds_toArray, List.set_cons_zero, List.set_cons_succ]
                      refine wpAnyH_take (i := 3) (oi := ?oiQb3x) (v := ?vQb3x) ?hiQb3x (by kernel_rfl) (by kernel_rfl) (by kernel_rfl) ?hqQb3x ?hyQb3x (by assumption) ?restQb3x
                      case hiQb3x => (simp only [List.getElem?_toArray, List.getElem?_cons_succ, List.getElem?_cons_zero] <;> rfl)
                      case hqQb3x => exact fun _ _ _ h => h
                      case hyQb3x => exact Or.inl ⟨by rfl, by (intro wS hSw; obtain ⟨q0, q1⟩ := hSw; go_simp; try with_reducible rfl)⟩
                      try simp only [Act.put, List.setIfInBounds_toArray, List.set_cons_zero, List.set_cons_succ]
                      refine wpAnyH_take (i := 4) (oi := ?oiQb4x) (v := ?vQb4x) ?hiQb4x (by kernel_rfl) (by kernel_rfl) (by kernel_rfl) ?hqQb4x ?hyQb4x (by assumption) ?restQb4x
                      case hiQb4x => (simp only [List.getElem?_toArray, List.getElem?_cons_succ, List.getElem?_cons_zero] <;> rfl)
                      case hqQb4x => exact fun _ _ _ h => h
                      case hyQb4x => exact Or.inl ⟨by rfl, by (intro wS hSw; obtain ⟨q0, q1⟩ := hSw; go_simp; try with_reducible rfl)⟩
                      try simp only [Act.put, List.setIfInBounds_toArray, List.set_cons_zero, List.set_cons_succ]
                      refine wpAnyH_take (i := 5) (oi := ?oiQb5x) (v := ?vQb5x) ?hiQb5x (by kernel_rfl) (by kernel_rfl) (by kernel_rfl) ?hqQb5x ?hyQb5x (by assumption) ?restQb5x
                      case hiQb5x => (simp only [List.getElem?_toArray, List.getElem?_cons_succ, List.getElem?_cons_zero] <;> rfl)
                      case hqQb5x => exact fun _ _ _ h => h
                      case hyQb5x => exact Or.inl ⟨by rfl, by (intro wS hSw; obtain ⟨q0, q1⟩ := hSw; go_simp; try with_reducible rfl)⟩
                      try simp only [Act.put, List.setIfInBounds_toArray, List.set_cons_zero, List.set_cons_succ]
                      refine wpAnyH_take (i := 6) (oi := ?oiQb6x) (v := ?vQb6x) ?hiQb6x (by kernel_rfl) (by kernel_rfl) (by kernel_rfl) ?hqQb6x ?hyQb6x (by assumption) ?restQb6x
                      case hiQb6x => (simp only [List.getElem?_toArray, List.getElem?_cons_succ, List.getElem?_cons_zero] <;> rfl)
                      case hqQb6x => exact fun _ _ _ h => h
                      case hyQb6x => exact Or.inl ⟨by rfl, by (intro wS hSw; obtain ⟨q0, q1⟩ := hSw; go_simp; try with_reducible rfl)⟩
                      try simp only [Act.put, List.setIfInBounds_toArray, List.set_cons_zero, List.set_cons_succ]
                      refine wpAnyH_take (i := 7) (oi := ?oiQb7x) (v := ?vQb7x) ?hiQb7x (by kernel_rfl) (by kernel_rfl) (by kernel_rfl) ?hqQb7x ?hyQb7x (by assumption) ?restQb7x
                      case hiQb7x => (simp only [List.getElem?_toArray, List.getElem?_cons_succ, List.getElem?_cons_zero] <;> rfl)
                      case hqQb7x => exact fun _ _ _ h => h
                      case hyQb7x => exact Or.inl ⟨by rfl, by (intro wS hSw; obtain ⟨q0, q1⟩ := hSw; go_simp; try with_reducible rfl)⟩
                      try simp only [Act.put, List.setIfInBounds_toArray, List.set_cons_zero, List.set_cons_succ]
                      refine wpAnyH_ready (rs := [8]) (by kernel_rfl) (by simp) ?_
                      refine AllReadyH.cons (o := ?oiQb8x) ?hiQb8x (fun K hK => ?hsQb8x) AllReadyH.nil
                      case hiQb8x => (simp only [List.getElem?_toArray, List.getElem?_cons_succ, List.getElem?_cons_zero] <;> rfl)
                      go_simp
                      have BKD := Lib.hid (BWK.out.trans ((Below.refl wr.heap.size wr).drew.mono BWK.out.size))
                      refine (played_ref _ l x0 y wr.drew (HL.out.below BKD.out) (by omega)).mono ?_
                      rintro e w5 ⟨rfl, b5⟩
                      rw [HP.out]
                      have FK5 := Lib.hid ((FK.out.below (Below.refl wr.heap.size wr).drew).below b5)
                      have BK2 := Lib.hid (BK.out.trans ((((Below.refl wr.heap.size wr).drew).trans b5).mono BK.out.size))
                      clear b5
                      refine hK.out _ _ FK5.out (fun hHeld5 => ?_)
                      clear hK K
                      try simp only [Act.put, List.setIfInBounds_toArray, List.set_cons_zero, List.set_cons_succ]
                      refine wpAnyH_take (i := 9) (oi := ?oiQb9x) (v := ?vQb9x) ?hiQb9x (by kernel_rfl) (by kernel_rfl) (by kernel_rfl) ?hqQb9x ?hyQb9x (by assumption) ?restQb9x
                      case hiQb9x => (simp only [List.getElem?_toArray, List.getElem?_cons_succ, List.getElem?_cons_zero] <;> rfl)
                      case hqQb9x => exact fun _ _ _ h => h
                      case hyQb9x => exact Or.inl ⟨by rfl, by (intro wS hSw; obtain ⟨q0, q1⟩ := hSw; go_simp; try with_reducible rfl)⟩
                      try simp only [Act.put, List.setIfInBounds_toArray, List.set_cons_zero, List.set_cons_succ]
                      refine wpAnyH_done (by kernel_rfl) ?_ _
                      refine NoPanic.normal ?_
                      go_wp2_with fail
                      go_round
                      case rel => exact ⟨k - 1, a, by omega, congrArg (Value.int .i64) (by omega), rfl, HA2, BK2.out⟩
                      case measure => simp [intOf]; omega
                  · obtain rfl : k = 0 := by omega
                    obtain ⟨ha1, ha0, hap⟩ := AtOk.pick HAT.out h1
                    obtain ⟨y, hy⟩ : ∃ y, y = xs[a] := ⟨_, rfl⟩
                    have FK := Lib.hid (show FC g5 o5 (o5 + a) x0 y wr by
                      have e0 := HC5.out 0 _ (List.getElem?_eq_getElem h0)
                      have e1 := HC5.out a _ (List.getElem?_eq_getElem ha1)
                      rw [Nat.add_zero, ← HX0.out] at e0
                      rw [← hy] at e1
                      exact FC.below ⟨e0, e1⟩ BK.out)
                    have HY := Lib.hid hy
                    have HAP := Lib.hid hap
                    have OK := Lib.hid (own_block OO.out BK.out)
                    have HGK := Lib.hid (Nat.lt_of_lt_of_le HG5.out BK.out.size)
                    have BD := Lib.hid ((Below.refl wr.heap.size wr).drew.alloc (show wr.heap.size ≤ wr.drew.heap.size from Nat.le_refl _) (.cells (encR ⟨x0, y, 0, 0, 0⟩).toArray 31))
                    have O8 := Lib.hid (own_block OK.out BD.out)
                    have FK8 := Lib.hid (FK.out.below BD.out)
                    have R8 := Lib.hid (res_row wr.drew ⟨x0, y, 0, 0, 0⟩ 31)
                    have BOK := Lib.hid (BM.out.trans (BK.out.mono BM.out.size))
                    clear hy hap
                    go_wp2_with fail
                    refine wp_region_noPanic ?_
                    refine wp_region_held_drew (S := FC g5 o5 (o5 + a) x0 y) (by kernel_rfl) (FK.out) (fun hHeld => ?_)
                    refine wpAnyH_take (i := 0) (oi := ?oiQh0x) (v := ?vQh0x) ?hiQh0x (by kernel_rfl) (by kernel_rfl) (by kernel_rfl) ?hqQh0x ?hyQh0x (by assumption) ?restQh0x
                    case hiQh0x => (simp only [List.getElem?_toArray, List.getElem?_cons_zero] <;> rfl)
                    case hqQh0x => exact fun _ _ _ h => h
                    case hyQh0x => exact Or.inl ⟨by rfl, by (intro wS hSw; obtain ⟨q0, q1⟩ := hSw; go_simp; try with_reducible rfl)⟩
                    try simp only [Act.put, List.setIfInBounds_toArray, List.set_cons_zero, List.set_cons_succ]
                    refine wpAnyH_take (i := 1) (oi := ?oiQh1x) (v := ?vQh1x) ?hiQh1x (by kernel_rfl) (by kernel_rfl) (by kernel_rfl) ?hqQh1x ?hyQh1x (by assumption) ?restQh1x
                    case hiQh1x => (simp only [List.getElem?_toArray, List.getElem?_cons_succ, List.getElem?_cons_zero] <;> rfl)
                    case hqQh1x => exact fun _ _ _ h => h
                    case hyQh1x => exact Or.inl ⟨by rfl, by (intro wS hSw; obtain ⟨q0, q1⟩ := hSw; go_simp; try with_reducible rfl)⟩
                    try simp only [Act.put, List.setIfInBounds_toArray, List.set_cons_zero, List.set_cons_succ]
                    refine wpAnyH_take (i := 2) (oi := ?oiQh2x) (v := ?vQh2x) ?hiQh2x (by kernel_rfl) (by kernel_rfl) (by kernel_rfl) ?hqQh2x ?hyQh2x (by assumption) ?restQh2x
                    case hiQh2x => (simp only [List.getElem?_toArray, List.getElem?_cons_succ, List.getElem?_cons_zero] <;> rfl)
                    case hqQh2x => exact fun _ _ _ h => h
                    case hyQh2x => exact Or.inl ⟨by rfl, by (intro wS hSw; obtain ⟨q0, q1⟩ := hSw; go_simp; try with_reducible rfl)⟩
                    try simp only [Act.put, List.setIfInBounds_toArray, List.set_cons_zero, List.set_cons_succ]
                    refine wpAnyH_take (i := 3) (oi := ?oiQh3x) (v := ?vQh3x) ?hiQh3x (by kernel_rfl) (by kernel_rfl) (by kernel_rfl) ?hqQh3x ?hyQh3x (by assumption) ?restQh3x
                    case hiQh3x => (simp only [List.getElem?_toArray, List.getElem?_cons_succ, List.getElem?_cons_zero] <;> rfl)
                    case hqQh3x => exact fun _ _ _ h => h
                    case hyQh3x => exact Or.inl ⟨by rfl, by (intro wS hSw; obtain ⟨q0, q1⟩ := hSw; go_simp; try with_reducible rfl)⟩
                    try simp only [Act.put, List.setIfInBounds_toArray, List.set_cons_zero, List.set_cons_succ]
                    refine wpAnyH_take (i := 4) (oi := ?oiQh4x) (v := ?vQh4x) ?hiQh4x (by kernel_rfl) (by kernel_rfl) (by kernel_rfl) ?hqQh4x ?hyQh4x (by assumption) ?restQh4x
                    case hiQh4x => (simp only [List.getElem?_toArray, List.getElem?_cons_succ, List.getElem?_cons_zero] <;> rfl)
                    case hqQh4x => exact fun _ _ _ h => h
                    case hyQh4x => exact Or.inl ⟨by rfl, by (intro wS hSw; obtain ⟨q0, q1⟩ := hSw; go_simp; try with_reducible rfl)⟩
                    try simp only [Act.put, List.setIfInBounds_toArray, List.set_cons_zero, List.set_cons_succ]
                    refine wpAnyH_take (i := 5) (oi := ?oiQh5x) (v := ?vQh5x) ?hiQh5x (by kernel_rfl) (by kernel_rfl) (by kernel_rfl) ?hqQh5x ?hyQh5x (by assumption) ?restQh5x
                    case hiQh5x => (simp only [List.getElem?_toArray, List.getElem?_cons_succ, List.getElem?_cons_zero] <;> rfl)
                    case hqQh5x => exact fun _ _ _ h => h
                    case hyQh5x => exact Or.inl ⟨by rfl, by (intro wS hSw; obtain ⟨q0, q1⟩ := hSw; go_simp; try with_reducible rfl)⟩
                    try simp only [Act.put, List.setIfInBounds_toArray, List.set_cons_zero, List.set_cons_succ]
                    refine wpAnyH_take (i := 6) (oi := ?oiQh6x) (v := ?vQh6x) ?hiQh6x (by kernel_rfl) (by kernel_rfl) (by kernel_rfl) ?hqQh6x ?hyQh6x (by assumption) ?restQh6x
                    case hiQh6x => (simp only [List.getElem?_toArray, List.getElem?_cons_succ, List.getElem?_cons_zero] <;> rfl)
                    case hqQh6x => exact fun _ _ _ h => h
                    case hyQh6x => exact Or.inl ⟨by rfl, by (intro wS hSw; obtain ⟨q0, q1⟩ := hSw; go_simp; try with_reducible rfl)⟩
                    try simp only [Act.put, List.setIfInBounds_toArray, List.set_cons_zero, List.set_cons_succ]
                    refine wpAnyH_take (i := 7) (oi := ?oiQh7x) (v := ?vQh7x) ?hiQh7x (by kernel_rfl) (by kernel_rfl) (by kernel_rfl) ?hqQh7x ?hyQh7x (by assumption) ?restQh7x
                    case hiQh7x => (simp only [List.getElem?_toArray, List.getElem?_cons_succ, List.getElem?_cons_zero] <;> rfl)
                    case hqQh7x => exact fun _ _ _ h => h
                    case hyQh7x => exact Or.inl ⟨by rfl, by (intro wS hSw; obtain ⟨q0, q1⟩ := hSw; go_simp; try with_reducible rfl)⟩
                    try simp only [Act.put, List.setIfInBounds_toArray, List.set_cons_zero, List.set_cons_succ]
                    refine wpAnyH_take (i := 8) (oi := ?oiQh8x) (v := ?vQh8x) ?hiQh8x (by kernel_rfl) (by kernel_rfl) (by kernel_rfl) ?hqQh8x ?hyQh8x (by assumption) ?restQh8x
                    case hiQh8x => (simp only [List.getElem?_toArray, List.getElem?_cons_succ, List.getElem?_cons_zero] <;> rfl)
                    case hqQh8x => exact fun _ _ _ h => h
                    case hyQh8x => exact Or.inl ⟨by rfl, by (intro wS hSw; obtain ⟨q0, q1⟩ := hSw; go_simp; try with_reducible rfl)⟩
                    try simp only [Act.put, List.setIfInBounds_toArray, List.set_cons_zero, List.set_cons_succ]
                    refine wpAnyH_ready (rs := [9]) (by kernel_rfl) (by simp) ?_
                    refine AllReadyH.cons (o := ?oiQh9x) ?hiQh9x (fun K hK => ?hsQh9x) AllReadyH.nil
                    case hiQh9x => (simp only [List.getElem?_toArray, List.getElem?_cons_succ, List.getElem?_cons_zero] <;> rfl)
                    go_simp
                    refine hK.out _ _ FK8.out (fun hHeld8 => ?_)
                    clear hK K
                    try simp only [Act.put, List.setIfInBounds_toArray, List.set_cons_zero, List.set_cons_succ]
                    refine wpAnyH_ready (rs := [10]) (by kernel_rfl) (by simp) ?_
                    refine AllReadyH.cons (o := ?oiQh10x) ?hiQh10x (fun K hK => ?hsQh10x) AllReadyH.nil
                    case hiQh10x => (simp only [List.getElem?_toArray, List.getElem?_cons_succ, List.getElem?_cons_zero] <;> rfl)
                    refine step_append_rowK rfl (.tmp 88) (.tmp 97) 22 rfl wo.heap.size resElem u10 ps.length _ rfl O8.out encR encR_len encR_one [⟨x0, y, 0, 0, 0⟩] ⟨wr.heap.size, 0, none⟩ 1 1 rfl R8.out (by show (ps.length + 1) * 40 ≤ _; omega) (by show ps.length + 1 < _; omega) (Nat.le_trans BOK.out.size BD.out.size) ?_
                    intro v9 w9 own9 grow9 bel9
                    have O9 := Lib.hid own9
                    have HB9 := Lib.hid (show w9.heap[g5]? = wr.heap[g5]? from (grow9.block g5 (Nat.lt_of_lt_of_le HGK.out BD.out.size) HN5.out).trans (BD.out.block g5 HGK.out))
                    have HG9 := Lib.hid (show g5 < w9.heap.size from Nat.lt_of_lt_of_le (Nat.lt_of_lt_of_le HGK.out BD.out.size) grow9.size)
                    have B9 := Lib.hid (BOK.out.trans ((BD.out.mono BOK.out.size).trans bel9))
                    have FK9 := Lib.hid (FK.out.keep HB9.out)
                    clear own9 grow9 bel9
                    refine hK.out _ _ FK9.out (fun hHeld9 => ?_)
                    clear hK K
                    try simp only [Act.put, List.setIfInBounds_toArray, List.set_cons_zero, List.set_cons_succ]
                    refine wpAnyH_take (i := 11) (oi := ?oiQh11x) (v := ?vQh11x) ?hiQh11x (by kernel_rfl) (by kernel_rfl) (by kernel_rfl) ?hqQh11x ?hyQh11x (by assumption) ?restQh11x
                    case hiQh11x => (simp only [List.getElem?_toArray, List.getElem?_cons_succ, List.getElem?_cons_zero] <;> rfl)
                    case hqQh11x => exact fun _ _ _ h => h
                    case hyQh11x => exact Or.inl ⟨by rfl, by (intro wS hSw; obtain ⟨q0, q1⟩ := hSw; go_simp; try with_reducible rfl)⟩
                    try simp only [Act.put, List.setIfInBounds_toArray, List.set_cons_zero, List.set_cons_succ]
                    refine wpAnyH_done (by kernel_rfl) ?_ _
                    refine NoPanic.normal ?_
                    go_wp2_with fail
                    go_loopw [13, 14] (fun rv iv wr => ∃ k : Nat, 1 ≤ k ∧ k ≤ xs.length ∧ iv = .int .i64 k ∧ wr.ownsRow w9.heap.size 3 1 rv (restTo xs a k).length ((restTo xs a k).map (Value.int .i64)) ∧ Below w9.heap.size w9 wr) (fun _ iv _ => xs.length - (intOf iv).toNat)
                    case atStart => exact ⟨1, by omega, by omega, rfl, by rw [restTo_one]; exact World.ownsRow_nil _ _ _ _, Below.refl _ _⟩
                    case round =>
                      obtain ⟨k, hk1, hk2, rfl, hor, br⟩ := hrel
                      have OR := Lib.hid hor
                      have BR := Lib.hid br
                      clear hor br
                      by_cases hlt : k < xs.length
                      · have hrl := restTo_len xs a k
                        by_cases hka : k = a
                        · subst hka
                          have HS2 := Lib.hid (restTo_skip xs k hlt)
                          have e1 : ((k : Int) != (k : Int)) = false := by simp
                          go_wp2_with fail
                          go_round
                          case rel => exact ⟨k + 1, by omega, by omega, by go_num, by rw [HS2.out]; exact OR.out, BR.out⟩
                          case measure => simp [intOf]; omega
                        · have HS2 := Lib.hid (restTo_step xs a k hlt (by omega) ha0 hka)
                          have e1 : ((k : Int) != (a : Int)) = true := bne_iff_ne.2 (by omega)
                          have ck := (BR.out.cell (p := ⟨g5, o5 + k, none⟩) HG9.out).trans ((World.cell?_of_block (a := ⟨g5, o5 + k, none⟩) HB9.out).trans ((BK.out.cell (p := ⟨g5, o5 + k, none⟩) HG5.out).trans (HC5.out k _ (List.getElem?_eq_getElem hlt))))
                          obtain ⟨z, hz⟩ : ∃ z, z = xs[k] := ⟨_, rfl⟩
                          rw [← hz] at ck HS2
                          clear hz hka
                          go_wp2_with (at_builtin; refine wpList_append_new rfl (.tmp 108) (.tmp 113) 32 rfl w9.heap.size intsElem _ _ _ rfl OR.out [.int .i64 z] rfl rfl rfl (by omega) (by omega) BR.out.size ?_; intro v4 w4 own4 bel4 _; have O4 := Lib.hid own4; have B4 := Lib.hid (BR.out.trans bel4); clear own4 bel4)
                          go_round
                          case rel => exact ⟨k + 1, by omega, by omega, by go_num, by rw [HS2.out, List.length_append, List.map_append]; exact O4.out, B4.out⟩
                          case measure => simp [intOf]; omega
                      · obtain rfl : k = xs.length := by omega
                        have ORE := Lib.hid OR.out
                        rw [restTo_end] at ORE
                        have RX2 := Lib.hid (RowX.of_own (b := v9.ownBlock) ORE.out (fun g hg e => by have h1 := (ORE.out.lt g hg).1; have h2 := (O9.out.lt g e.symm).2; omega))
                        have O10 := Lib.hid (own_block O9.out BR.out)
                        have hel : ((xs.eraseIdx a).drop 1).length = xs.length - 2 := by rw [List.length_drop, List.length_eraseIdx_of_lt ha1]; omega
                        go_wp2_with fail
                        go_round
                        case rel =>
                          refine ⟨(xs.eraseIdx a).drop 1, ps ++ [(x0, y)], ?_, RX2.out, ?_, ?_, Lib.hid ?_⟩
                          · rw [List.length_append, List.length_singleton, List.map_append, List.flatMap_append]
                            exact O10.out
                          · exact B9.out.trans (BR.out.mono B9.out.size)
                          · rw [hel, List.length_append, List.length_singleton]; omega
                          · have := pairs_step l xs h1 a ha1 HAP.out
                            rw [← HX0.out, ← HY.out] at this
                            rw [List.append_assoc, List.singleton_append, ← this]
                            exact HE.out
                        case measure =>
                          show lenV _ < xs.length
                          obtain ⟨_, _, hv⟩ := RX2.out.row.form
                          rw [hv]
                          show ((xs.eraseIdx a).drop 1).length < _
                          omega
              · have HEE := Lib.hid (show ps = pairs l xs0 by
                  have := HE.out
                  rwa [pairs_short l xs (by omega), List.append_nil] at this)
                go_wp2_with (at_builtin; refine wpList_append_new rfl (.tmp 118) (.tmp 121) 22 rfl wo.heap.size resElem _ _ _ rfl OO.out (encR ⟨bye, -1, 0, 0, 0⟩) rfl rfl rfl (by omega) (by omega) BM.out.size ?_; intro v9 w9 own9 bel9 _; have O9 := Lib.hid own9; have B9 := Lib.hid (BM.out.trans bel9); clear own9 bel9)
                go_ret
                refine ⟨_, rfl, s, ?_, BO.out.trans (B9.out.mono BO.out.size), P2.out, T2.out⟩
                rw [HQ2.out, ← HEE.out]
                have := O9.out
                exact rowK_own encR_len (by rw [List.length_append, List.length_map, List.flatMap_append]; simpa using this)
end Go.Proofs.Ytfjnnbhijajhoaa
