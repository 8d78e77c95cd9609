/- Walks of chapter 11: the reference's Parse. -/
import Derived.Test.YtihnjbbgfjckaaaKwF
import Derived.Deep.RegionHeld3
import Derived.Deep.DrawnRows
import Derived.BigQuiet
namespace Go.Proofs.Ytihnjbbgfjckaaa
open Go Go.RowKit Cg
attribute [local go_sem ↓] Go.wp_at_zero Go.wp_at_succ
/-- Of what was there when the call began nothing has turned. -/
def Bw (w0 w : World) : Prop := Below w0.heap.size w0 w
theorem Bw.drew {w0 w : World} (h : Bw w0 w) : Bw w0 w.drew := Below.drew h
theorem Bw.step {w0 w w' : World} (h : Bw w0 w) (hb : Below w.heap.size w w') : Bw w0 w' := Below.trans h (hb.mono (Below.size h))
theorem kname_g {w0 w : World} (hg : Bw w0 w) (k : Nat) : Calls Try.prog 28 #[.int .i64 k] w fun e w' => e = .returned (.string (kn k)) ∧ Bw w0 w' :=
  (kname_ref k w).mono fun _ _ ⟨h1, h2⟩ => ⟨by rw [h1, knI_nat], hg.step h2⟩
theorem hit_true (r : ByteArray) (k : Nat) (h1 : (kn k).size ≤ r.size) (h2 : r.extract 0 (kn k).size = kn k) (h3 : r.size = (kn k).size ∨ bt r (kn k).size = 43) : hit r k = true := decide_eq_true ⟨h1, h2, h3⟩
theorem hit_no1 (r : ByteArray) (k : Nat) (h1 : ¬ (kn k).size ≤ r.size) : hit r k = false := decide_eq_false (fun h => h1 h.1)
theorem hit_no2 (r : ByteArray) (k : Nat) (h1 : ¬ r.extract 0 (kn k).size = kn k) : hit r k = false := decide_eq_false (fun h => h1 h.2.1)
theorem hit_no3 (r : ByteArray) (k : Nat) (h1 : ¬ r.size = (kn k).size) (h2 : ¬ bt r (kn k).size = 43) : hit r k = false := decide_eq_false (fun h => h.2.2.elim h1 h2)
theorem rmask_eq (s : ByteArray) : (gst s 17).1 = rmask s := by unfold rmask; rfl
theorem none_list : (⟨#[110, 111, 110, 101]⟩ : ByteArray).toList = [110, 111, 110, 101] := by rw [ByteArray.toList_eq]
theorem empty_list (r : ByteArray) : r.toList.isEmpty = decide (r.size = 0) := by
  rw [ByteArray.toList_eq, Lib.size_eq]
  cases r.data.toList <;> simp
theorem next_size (r : ByteArray) (k : Nat) : (next r k).size ≤ r.size := by
  rw [next]
  split <;> simp only [ByteArray.size_extract] <;> omega
theorem gst_size (s : ByteArray) : ∀ k, (gst s k).2.size ≤ s.size
  | 0 => Nat.le_refl _
  | k + 1 => by
    have ih := gst_size s k
    cases h : hit (gst s k).2 k
    · rw [gst_miss s k h]; exact ih
    · have hn := next_size (gst s k).2 k
      rw [gst_hit s k h]
      dsimp only
      exact Nat.le_trans hn ih
attribute [local irreducible] next
set_option maxHeartbeats 1600000 in
theorem parse_ref (s : ByteArray) (hs : s.size ≤ 1000000) (w : World) : Calls Try.prog 33 #[.string s] w fun e w' => e = .returned (.tuple #[.int .i64 ((pres s).1 : Nat), .int .i64 ((pres s).2 : Nat)]) ∧ Below w.heap.size w w' := by
  have HR0 := Lib.hid (pres_ref s)
  by_cases h0 : s = ⟨#[110, 111, 110, 101]⟩
  · have HR := Lib.hid (show pres s = (0, 0) by rw [HR0.out, if_pos h0])
    have hsame : (s.toList == [110, 111, 110, 101]) = true := by rw [← none_list]; exact same_true h0
    clear h0
    go_enter Try.func33, Try.ntmps33
    go_wp2_with fail
    go_ret2
    exact ⟨by rw [HR.out] <;> rfl, Below.refl _ _⟩
  · rw [if_neg h0] at HR0
    have hsame : (s.toList == [110, 111, 110, 101]) = false := by rw [← none_list]; exact same_false h0
    clear h0
    go_enter Try.func33, Try.ntmps33
    go_wp2_with fail
    have G0 : Bw w w := Below.refl _ _
    clear hsame
    go_loopw [4, 5, 6, 7] (fun m b r i wr => ∃ k : Nat, k ≤ 17 ∧ i = .int .i64 k ∧ m = .int .i64 (((gst s k).1 : Nat) : Int) ∧ b = .int .i64 ((2 ^ k : Nat) : Int) ∧ r = .string (gst s k).2 ∧ (gst s k).2.size ≤ 1000000 ∧ Bw w wr) (fun _ _ _ i _ => 17 - (intOf i).toNat)
    case atStart => exact ⟨0, by omega, rfl, rfl, rfl, rfl, hs, G0⟩
    case round =>
      obtain ⟨k, hk, rfl, rfl, rfl, rfl, hr, hg⟩ := hrel
      by_cases hlt : k < 17
      · clear G0
        have hml := gst_lt s k
        have hpk : 2 ^ k < 2 ^ 17 := Nat.pow_lt_pow_right (by omega) hlt
        have HP := Lib.hid (show 2 ^ (k + 1) = 2 * 2 ^ k by rw [Nat.pow_succ, Nat.mul_comm])
        have H1 := Lib.hid (gst_hit s k)
        have H2 := Lib.hid (gst_miss s k)
        obtain ⟨m, hm⟩ : ∃ m, m = (gst s k).1 := ⟨_, rfl⟩
        obtain ⟨r, hrr⟩ : ∃ r, r = (gst s k).2 := ⟨_, rfl⟩
        have HG := Lib.hid (show gst s k = (m, r) by rw [hm, hrr])
        obtain ⟨p2, hp2⟩ : ∃ p2, p2 = 2 ^ k := ⟨_, rfl⟩
        rw [← hm, ← hp2] at hml
        rw [← hm, ← hrr, ← hp2] at H1
        rw [← hrr] at H2 hr
        rw [← hp2] at hpk HP
        rw [← hm, ← hrr, ← hp2]
        clear hm hrr hp2
        have hks := kn_small k
        have hkp := kn_pos k hlt
        obtain ⟨nb, hnb⟩ : ∃ nb, kn k = nb := ⟨_, rfl⟩
        have HKB := Lib.hid hnb
        rw [hnb] at hks hkp
        clear hnb
        by_cases a1 : nb.size ≤ r.size
        · have T1 := Lib.hid (show decide ((nb.size : Int) ≤ (r.size : Int)) = true from decide_eq_true (by omega))
          by_cases a2 : r.extract 0 nb.size = nb
          · by_cases a3 : r.size = nb.size
            · have HH := Lib.hid (show gst s (k + 1) = (m + p2, next r k) from H1.out (hit_true r k (by rw [HKB.out]; exact a1) (by rw [HKB.out]; exact a2) (.inl (by rw [HKB.out]; exact a3))))
              have T2 := Lib.hid (same_true a2)
              have hz : (r.extract nb.size r.size).size = 0 := by rw [ByteArray.size_extract]; omega
              have HEMP := Lib.hid (show (r.extract nb.size r.size).toList.isEmpty = true by rw [empty_list, hz]; rfl)
              have HN := Lib.hid (show next r k = r.extract nb.size r.size by rw [next, HKB.out, if_pos hz])
              have T3 := Lib.hid (show ((r.size : Int) == (nb.size : Int)) = true by rw [a3]; simp)
              clear a2 a3 H1 H2 HG hz
              go_wp2_with fail
              refine (kname_g hg k).mono ?_
              rintro e w2 ⟨rfl, g2⟩
              rw [HKB.out]
              go_wp2_with fail
              clear hg
              have t1 := T1.out
              have t2 := T2.out
              have t3 := T3.out
              refine wp_region_noPanic ?_
              refine wp_region_held_drew (S := fun w' => Bw w w') (by kernel_rfl) (Bw.drew (by assumption)) (fun hHeld => ?_)
              refine wpAnyH_take (i := 0) (oi := ?oiA30) (v := ?vA30) ?hiA30 (by kernel_rfl) (by kernel_rfl) (by kernel_rfl) ?hqA30 ?hyA30 (by assumption) ?restA30
              case hiA30 => (simp only [List.getElem?_toArray, List.getElem?_cons_zero] <;> rfl)
              case hqA30 => exact fun _ _ _ h => h
              case hyA30 => exact Or.inl ⟨by rfl, by (intro wS hSw; go_simp; try with_reducible rfl)⟩
              try simp only [Act.put, List.setIfInBounds_toArray, List.set_cons_zero, List.set_cons_succ]
              refine wpAnyH_take (i := 1) (oi := ?oiA31) (v := ?vA31) ?hiA31 (by kernel_rfl) (by kernel_rfl) (by kernel_rfl) ?hqA31 ?hyA31 (by assumption) ?restA31
              case hiA31 => (simp only [List.getElem?_toArray, List.getElem?_cons_succ, List.getElem?_cons_zero] <;> rfl)
              case hqA31 => exact fun _ _ _ h => h
              case hyA31 => exact Or.inl ⟨by rfl, by (intro wS hSw; go_simp; try with_reducible rfl)⟩
              try simp only [Act.put, List.setIfInBounds_toArray, List.set_cons_zero, List.set_cons_succ]
              refine wpAnyH_take (i := 2) (oi := ?oiA32) (v := ?vA32) ?hiA32 (by kernel_rfl) (by kernel_rfl) (by kernel_rfl) ?hqA32 ?hyA32 (by assumption) ?restA32
              case hiA32 => (simp only [List.getElem?_toArray, List.getElem?_cons_succ, List.getElem?_cons_zero] <;> rfl)
              case hqA32 => exact fun _ _ _ h => h
              case hyA32 => exact Or.inl ⟨by rfl, by (intro wS hSw; go_simp; try with_reducible rfl)⟩
              try simp only [Act.put, List.setIfInBounds_toArray, List.set_cons_zero, List.set_cons_succ]
              refine wpAnyH_take (i := 3) (oi := ?oiA33) (v := ?vA33) ?hiA33 (by kernel_rfl) (by kernel_rfl) (by kernel_rfl) ?hqA33 ?hyA33 (by assumption) ?restA33
              case hiA33 => (simp only [List.getElem?_toArray, List.getElem?_cons_succ, List.getElem?_cons_zero] <;> rfl)
              case hqA33 => exact fun _ _ _ h => h
              case hyA33 => exact Or.inl ⟨by rfl, by (intro wS hSw; go_simp; try with_reducible rfl)⟩
              try simp only [Act.put, List.setIfInBounds_toArray, List.set_cons_zero, List.set_cons_succ]
              refine wpAnyH_take (i := 4) (oi := ?oiA34) (v := ?vA34) ?hiA34 (by kernel_rfl) (by kernel_rfl) (by kernel_rfl) ?hqA34 ?hyA34 (by assumption) ?restA34
              case hiA34 => (simp only [List.getElem?_toArray, List.getElem?_cons_succ, List.getElem?_cons_zero] <;> rfl)
              case hqA34 => exact fun _ _ _ h => h
              case hyA34 => exact Or.inl ⟨by rfl, by (intro wS hSw; go_simp; try with_reducible rfl)⟩
              try simp only [Act.put, List.setIfInBounds_toArray, List.set_cons_zero, List.set_cons_succ]
              refine wpAnyH_take (i := 5) (oi := ?oiA35) (v := ?vA35) ?hiA35 (by kernel_rfl) (by kernel_rfl) (by kernel_rfl) ?hqA35 ?hyA35 (by assumption) ?restA35
              case hiA35 => (simp only [List.getElem?_toArray, List.getElem?_cons_succ, List.getElem?_cons_zero] <;> rfl)
              case hqA35 => exact fun _ _ _ h => h
              case hyA35 => exact Or.inl ⟨by rfl, by (intro wS hSw; go_simp; try with_reducible rfl)⟩
              try simp only [Act.put, List.setIfInBounds_toArray, List.set_cons_zero, List.set_cons_succ]
              refine wpAnyH_take (i := 6) (oi := ?oiA36) (v := ?vA36) ?hiA36 (by kernel_rfl) (by kernel_rfl) (by kernel_rfl) ?hqA36 ?hyA36 (by assumption) ?restA36
              case hiA36 => (simp only [List.getElem?_toArray, List.getElem?_cons_succ, List.getElem?_cons_zero] <;> rfl)
              case hqA36 => exact fun _ _ _ h => h
              case hyA36 => exact Or.inl ⟨by rfl, by (intro wS hSw; go_simp; try with_reducible rfl)⟩
              try simp only [Act.put, List.setIfInBounds_toArray, List.set_cons_zero, List.set_cons_succ]
              refine wpAnyH_take (i := 7) (oi := ?oiA37) (v := ?vA37) ?hiA37 (by kernel_rfl) (by kernel_rfl) (by kernel_rfl) ?hqA37 ?hyA37 (by assumption) ?restA37
              case hiA37 => (simp only [List.getElem?_toArray, List.getElem?_cons_succ, List.getElem?_cons_zero] <;> rfl)
              case hqA37 => exact fun _ _ _ h => h
              case hyA37 => exact Or.inl ⟨by rfl, by (intro wS hSw; go_simp; try with_reducible rfl)⟩
              try simp only [Act.put, List.setIfInBounds_toArray, List.set_cons_zero, List.set_cons_succ]
              refine wpAnyH_take (i := 8) (oi := ?oiA38) (v := ?vA38) ?hiA38 (by kernel_rfl) (by kernel_rfl) (by kernel_rfl) ?hqA38 ?hyA38 (by assumption) ?restA38
              case hiA38 => (simp only [List.getElem?_toArray, List.getElem?_cons_succ, List.getElem?_cons_zero] <;> rfl)
              case hqA38 => exact fun _ _ _ h => h
              case hyA38 => exact Or.inl ⟨by rfl, by (intro wS hSw; go_simp; try with_reducible rfl)⟩
              try simp only [Act.put, List.setIfInBounds_toArray, List.set_cons_zero, List.set_cons_succ]
              refine wpAnyH_ready (rs := [9]) (by kernel_rfl) (by simp) ?_
              refine AllReadyH.cons (o := ?oiA39) ?hiA39 (fun K hK => ?hsA39) AllReadyH.nil
              case hiA39 => (simp only [List.getElem?_toArray, List.getElem?_cons_succ, List.getElem?_cons_zero] <;> rfl)
              go_simp
              refine (kname_g (w0 := w) (by assumption) k).mono ?_
              rintro e w3 ⟨rfl, hG3⟩
              rw [HKB.out]
              go_wp2_with fail
              refine hK.out _ _ hG3 (fun hHeld3 => ?_)
              clear hK K
              try simp only [Act.put, List.setIfInBounds_toArray, List.set_cons_zero, List.set_cons_succ]
              refine wpAnyH_take (i := 10) (oi := ?oiA310) (v := ?vA310) ?hiA310 (by kernel_rfl) (by kernel_rfl) (by kernel_rfl) ?hqA310 ?hyA310 (by assumption) ?restA310
              case hiA310 => (simp only [List.getElem?_toArray, List.getElem?_cons_succ, List.getElem?_cons_zero] <;> rfl)
              case hqA310 => exact fun _ _ _ h => h
              case hyA310 => exact Or.inl ⟨by rfl, by (intro wS hSw; go_simp; try with_reducible rfl)⟩
              try simp only [Act.put, List.setIfInBounds_toArray, List.set_cons_zero, List.set_cons_succ]
              refine wpAnyH_take (i := 11) (oi := ?oiA311) (v := ?vA311) ?hiA311 (by kernel_rfl) (by kernel_rfl) (by kernel_rfl) ?hqA311 ?hyA311 (by assumption) ?restA311
              case hiA311 => (simp only [List.getElem?_toArray, List.getElem?_cons_succ, List.getElem?_cons_zero] <;> rfl)
              case hqA311 => exact fun _ _ _ h => h
              case hyA311 => exact Or.inl ⟨by rfl, by (intro wS hSw; go_simp; try with_reducible rfl)⟩
              try simp only [Act.put, List.setIfInBounds_toArray, List.set_cons_zero, List.set_cons_succ]
              refine wpAnyH_take (i := 12) (oi := ?oiA312) (v := ?vA312) ?hiA312 (by kernel_rfl) (by kernel_rfl) (by kernel_rfl) ?hqA312 ?hyA312 (by assumption) ?restA312
              case hiA312 => (simp only [List.getElem?_toArray, List.getElem?_cons_succ, List.getElem?_cons_zero] <;> rfl)
              case hqA312 => exact fun _ _ _ h => h
              case hyA312 => exact Or.inl ⟨by rfl, by (intro wS hSw; go_simp; try with_reducible rfl)⟩
              try simp only [Act.put, List.setIfInBounds_toArray, List.set_cons_zero, List.set_cons_succ]
              refine wpAnyH_take (i := 13) (oi := ?oiA313) (v := ?vA313) ?hiA313 (by kernel_rfl) (by kernel_rfl) (by kernel_rfl) ?hqA313 ?hyA313 (by assumption) ?restA313
              case hiA313 => (simp only [List.getElem?_toArray, List.getElem?_cons_succ, List.getElem?_cons_zero] <;> rfl)
              case hqA313 => exact fun _ _ _ h => h
              case hyA313 => exact Or.inl ⟨by rfl, by (intro wS hSw; go_simp; try with_reducible rfl)⟩
              try simp only [Act.put, List.setIfInBounds_toArray, List.set_cons_zero, List.set_cons_succ]
              refine wpAnyH_take (i := 14) (oi := ?oiA314) (v := ?vA314) ?hiA314 (by kernel_rfl) (by kernel_rfl) (by kernel_rfl) ?hqA314 ?hyA314 (by assumption) ?restA314
              case hiA314 => (simp only [List.getElem?_toArray, List.getElem?_cons_succ, List.getElem?_cons_zero] <;> rfl)
              case hqA314 => exact fun _ _ _ h => h
              case hyA314 => exact Or.inl ⟨by rfl, by (intro wS hSw; go_simp; try with_reducible rfl)⟩
              try simp only [Act.put, List.setIfInBounds_toArray, List.set_cons_zero, List.set_cons_succ]
              refine wpAnyH_take (i := 15) (oi := ?oiA315) (v := ?vA315) ?hiA315 (by kernel_rfl) (by kernel_rfl) (by kernel_rfl) ?hqA315 ?hyA315 (by assumption) ?restA315
              case hiA315 => (simp only [List.getElem?_toArray, List.getElem?_cons_succ, List.getElem?_cons_zero] <;> rfl)
              case hqA315 => exact fun _ _ _ h => h
              case hyA315 => exact Or.inl ⟨by rfl, by (intro wS hSw; go_simp; try with_reducible rfl)⟩
              try simp only [Act.put, List.setIfInBounds_toArray, List.set_cons_zero, List.set_cons_succ]
              refine wpAnyH_take (i := 16) (oi := ?oiA316) (v := ?vA316) ?hiA316 (by kernel_rfl) (by kernel_rfl) (by kernel_rfl) ?hqA316 ?hyA316 (by assumption) ?restA316
              case hiA316 => (simp only [List.getElem?_toArray, List.getElem?_cons_succ, List.getElem?_cons_zero] <;> rfl)
              case hqA316 => exact fun _ _ _ h => h
              case hyA316 => exact Or.inl ⟨by rfl, by (intro wS hSw; go_simp; try with_reducible rfl)⟩
              try simp only [Act.put, List.setIfInBounds_toArray, List.set_cons_zero, List.set_cons_succ]
              refine wpAnyH_take (i := 17) (oi := ?oiA317) (v := ?vA317) ?hiA317 (by kernel_rfl) (by kernel_rfl) (by kernel_rfl) ?hqA317 ?hyA317 (by assumption) ?restA317
              case hiA317 => (simp only [List.getElem?_toArray, List.getElem?_cons_succ, List.getElem?_cons_zero] <;> rfl)
              case hqA317 => exact fun _ _ _ h => h
              case hyA317 => exact Or.inl ⟨by rfl, by (intro wS hSw; go_simp; try with_reducible rfl)⟩
              try simp only [Act.put, List.setIfInBounds_toArray, List.set_cons_zero, List.set_cons_succ]
              refine wpAnyH_take (i := 18) (oi := ?oiA318) (v := undef) ?hiA318 (by kernel_rfl) (by kernel_rfl) (by kernel_rfl) ?hqA318 ?hyA318 (by assumption) ?restA318
              case hiA318 => (simp only [List.getElem?_toArray, List.getElem?_cons_succ, List.getElem?_cons_zero] <;> rfl)
              case hqA318 => exact fun _ _ _ h => h
              case hyA318 => exact Or.inr ⟨by kernel_rfl, rfl⟩
              try simp only [Act.put, List.setIfInBounds_toArray, List.set_cons_zero, List.set_cons_succ]
              refine wpAnyH_take (i := 19) (oi := ?oiA319) (v := undef) ?hiA319 (by kernel_rfl) (by kernel_rfl) (by kernel_rfl) ?hqA319 ?hyA319 (by assumption) ?restA319
              case hiA319 => (simp only [List.getElem?_toArray, List.getElem?_cons_succ, List.getElem?_cons_zero] <;> rfl)
              case hqA319 => exact fun _ _ _ h => h
              case hyA319 => exact Or.inr ⟨by kernel_rfl, rfl⟩
              try simp only [Act.put, List.setIfInBounds_toArray, List.set_cons_zero, List.set_cons_succ]
              refine wpAnyH_take (i := 20) (oi := ?oiA320) (v := undef) ?hiA320 (by kernel_rfl) (by kernel_rfl) (by kernel_rfl) ?hqA320 ?hyA320 (by assumption) ?restA320
              case hiA320 => (simp only [List.getElem?_toArray, List.getElem?_cons_succ, List.getElem?_cons_zero] <;> rfl)
              case hqA320 => exact fun _ _ _ h => h
              case hyA320 => exact Or.inr ⟨by kernel_rfl, rfl⟩
              try simp only [Act.put, List.setIfInBounds_toArray, List.set_cons_zero, List.set_cons_succ]
              refine wpAnyH_take (i := 21) (oi := ?oiA321) (v := undef) ?hiA321 (by kernel_rfl) (by kernel_rfl) (by kernel_rfl) ?hqA321 ?hyA321 (by assumption) ?restA321
              case hiA321 => (simp only [List.getElem?_toArray, List.getElem?_cons_succ, List.getElem?_cons_zero] <;> rfl)
              case hqA321 => exact fun _ _ _ h => h
              case hyA321 => exact Or.inr ⟨by kernel_rfl, rfl⟩
              try simp only [Act.put, List.setIfInBounds_toArray, List.set_cons_zero, List.set_cons_succ]
              refine wpAnyH_take (i := 22) (oi := ?oiA322) (v := ?vA322) ?hiA322 (by kernel_rfl) (by kernel_rfl) (by kernel_rfl) ?hqA322 ?hyA322 (by assumption) ?restA322
              case hiA322 => (simp only [List.getElem?_toArray, List.getElem?_cons_succ, List.getElem?_cons_zero] <;> rfl)
              case hqA322 => exact fun _ _ _ h => h
              case hyA322 => exact Or.inl ⟨by rfl, by (intro wS hSw; go_simp; try with_reducible rfl)⟩
              try simp only [Act.put, List.setIfInBounds_toArray, List.set_cons_zero, List.set_cons_succ]
              refine wpAnyH_take (i := 23) (oi := ?oiA323) (v := ?vA323) ?hiA323 (by kernel_rfl) (by kernel_rfl) (by kernel_rfl) ?hqA323 ?hyA323 (by assumption) ?restA323
              case hiA323 => (simp only [List.getElem?_toArray, List.getElem?_cons_succ, List.getElem?_cons_zero] <;> rfl)
              case hqA323 => exact fun _ _ _ h => h
              case hyA323 => exact Or.inl ⟨by rfl, by (intro wS hSw; go_simp; try with_reducible rfl)⟩
              try simp only [Act.put, List.setIfInBounds_toArray, List.set_cons_zero, List.set_cons_succ]
              refine wpAnyH_done (by kernel_rfl) ?_ _
              refine NoPanic.normal ?_
              have hemp := HEMP.out
              go_wp2_with fail
              go_roundw
              case rel => exact ⟨k + 1, by omega, by go_num, by rw [HH.out]; go_num, by rw [HP.out]; go_num, by rw [HH.out, HN.out] <;> go_num, Nat.le_trans (gst_size s (k + 1)) hs, by assumption⟩
              case measure => simp [intOf]; omega
            · have a5 : nb.size < r.size := by omega
              obtain ⟨c, hc⟩ : ∃ c, r[nb.size]'a5 = c := ⟨_, rfl⟩
              have A3 := Lib.hid a3
              clear a3
              have hb : bt r nb.size = c := by rw [bt_eq r _ (by omega), hc]
              have T2 := Lib.hid (same_true a2)
              have hcl : c.toNat < 256 := c.toNat_lt
              have T3 := Lib.hid (show ((r.size : Int) == (nb.size : Int)) = false from beq_eq_false_iff_ne.2 (by omega))
              by_cases a4 : c = 43
              · have HH := Lib.hid (show gst s (k + 1) = (m + p2, next r k) from H1.out (hit_true r k (by rw [HKB.out]; exact a1) (by rw [HKB.out]; exact a2) (.inr (by rw [HKB.out, hb, a4]))))
                have hz : ¬ (r.extract nb.size r.size).size = 0 := by rw [ByteArray.size_extract]; omega
                have HEMP := Lib.hid (show (r.extract nb.size r.size).toList.isEmpty = false by rw [empty_list]; exact decide_eq_false hz)
                have HN := Lib.hid (show next r k = (r.extract nb.size r.size).extract 1 (r.extract nb.size r.size).size by rw [next, HKB.out, if_neg hz])
                have T4 := Lib.hid (show ((c.toNat : Int) == 43) = true by rw [a4]; rfl)
                clear a2 a4 hb H1 H2 HG hz
                go_wp2_with fail
                refine (kname_g hg k).mono ?_
                rintro e w2 ⟨rfl, g2⟩
                rw [HKB.out]
                go_wp2_with fail
                clear hg
                have t1 := T1.out
                have t2 := T2.out
                have t3 := T3.out
                have t4 := T4.out
                refine wp_region_noPanic ?_
                refine wp_region_held_drew (S := fun w' => Bw w w') (by kernel_rfl) (Bw.drew (by assumption)) (fun hHeld => ?_)
                refine wpAnyH_take (i := 0) (oi := ?oiA40) (v := ?vA40) ?hiA40 (by kernel_rfl) (by kernel_rfl) (by kernel_rfl) ?hqA40 ?hyA40 (by assumption) ?restA40
                case hiA40 => (simp only [List.getElem?_toArray, List.getElem?_cons_zero] <;> rfl)
                case hqA40 => exact fun _ _ _ h => h
                case hyA40 => exact Or.inl ⟨by rfl, by (intro wS hSw; go_simp; try with_reducible rfl)⟩
                try simp only [Act.put, List.setIfInBounds_toArray, List.set_cons_zero, List.set_cons_succ]
                refine wpAnyH_take (i := 1) (oi := ?oiA41) (v := ?vA41) ?hiA41 (by kernel_rfl) (by kernel_rfl) (by kernel_rfl) ?hqA41 ?hyA41 (by assumption) ?restA41
                case hiA41 => (simp only [List.getElem?_toArray, List.getElem?_cons_succ, List.getElem?_cons_zero] <;> rfl)
                case hqA41 => exact fun _ _ _ h => h
                case hyA41 => exact Or.inl ⟨by rfl, by (intro wS hSw; go_simp; try with_reducible rfl)⟩
                try simp only [Act.put, List.setIfInBounds_toArray, List.set_cons_zero, List.set_cons_succ]
                refine wpAnyH_take (i := 2) (oi := ?oiA42) (v := ?vA42) ?hiA42 (by kernel_rfl) (by kernel_rfl) (by kernel_rfl) ?hqA42 ?hyA42 (by assumption) ?restA42
                case hiA42 => (simp only [List.getElem?_toArray, List.getElem?_cons_succ, List.getElem?_cons_zero] <;> rfl)
                case hqA42 => exact fun _ _ _ h => h
                case hyA42 => exact Or.inl ⟨by rfl, by (intro wS hSw; go_simp; try with_reducible rfl)⟩
                try simp only [Act.put, List.setIfInBounds_toArray, List.set_cons_zero, List.set_cons_succ]
                refine wpAnyH_take (i := 3) (oi := ?oiA43) (v := ?vA43) ?hiA43 (by kernel_rfl) (by kernel_rfl) (by kernel_rfl) ?hqA43 ?hyA43 (by assumption) ?restA43
                case hiA43 => (simp only [List.getElem?_toArray, List.getElem?_cons_succ, List.getElem?_cons_zero] <;> rfl)
                case hqA43 => exact fun _ _ _ h => h
                case hyA43 => exact Or.inl ⟨by rfl, by (intro wS hSw; go_simp; try with_reducible rfl)⟩
                try simp only [Act.put, List.setIfInBounds_toArray, List.set_cons_zero, List.set_cons_succ]
                refine wpAnyH_take (i := 4) (oi := ?oiA44) (v := ?vA44) ?hiA44 (by kernel_rfl) (by kernel_rfl) (by kernel_rfl) ?hqA44 ?hyA44 (by assumption) ?restA44
                case hiA44 => (simp only [List.getElem?_toArray, List.getElem?_cons_succ, List.getElem?_cons_zero] <;> rfl)
                case hqA44 => exact fun _ _ _ h => h
                case hyA44 => exact Or.inl ⟨by rfl, by (intro wS hSw; go_simp; try with_reducible rfl)⟩
                try simp only [Act.put, List.setIfInBounds_toArray, List.set_cons_zero, List.set_cons_succ]
                refine wpAnyH_take (i := 5) (oi := ?oiA45) (v := ?vA45) ?hiA45 (by kernel_rfl) (by kernel_rfl) (by kernel_rfl) ?hqA45 ?hyA45 (by assumption) ?restA45
                case hiA45 => (simp only [List.getElem?_toArray, List.getElem?_cons_succ, List.getElem?_cons_zero] <;> rfl)
                case hqA45 => exact fun _ _ _ h => h
                case hyA45 => exact Or.inl ⟨by rfl, by (intro wS hSw; go_simp; try with_reducible rfl)⟩
                try simp only [Act.put, List.setIfInBounds_toArray, List.set_cons_zero, List.set_cons_succ]
                refine wpAnyH_take (i := 6) (oi := ?oiA46) (v := ?vA46) ?hiA46 (by kernel_rfl) (by kernel_rfl) (by kernel_rfl) ?hqA46 ?hyA46 (by assumption) ?restA46
                case hiA46 => (simp only [List.getElem?_toArray, List.getElem?_cons_succ, List.getElem?_cons_zero] <;> rfl)
                case hqA46 => exact fun _ _ _ h => h
                case hyA46 => exact Or.inl ⟨by rfl, by (intro wS hSw; go_simp; try with_reducible rfl)⟩
                try simp only [Act.put, List.setIfInBounds_toArray, List.set_cons_zero, List.set_cons_succ]
                refine wpAnyH_take (i := 7) (oi := ?oiA47) (v := ?vA47) ?hiA47 (by kernel_rfl) (by kernel_rfl) (by kernel_rfl) ?hqA47 ?hyA47 (by assumption) ?restA47
                case hiA47 => (simp only [List.getElem?_toArray, List.getElem?_cons_succ, List.getElem?_cons_zero] <;> rfl)
                case hqA47 => exact fun _ _ _ h => h
                case hyA47 => exact Or.inl ⟨by rfl, by (intro wS hSw; go_simp; try with_reducible rfl)⟩
                try simp only [Act.put, List.setIfInBounds_toArray, List.set_cons_zero, List.set_cons_succ]
                refine wpAnyH_take (i := 8) (oi := ?oiA48) (v := ?vA48) ?hiA48 (by kernel_rfl) (by kernel_rfl) (by kernel_rfl) ?hqA48 ?hyA48 (by assumption) ?restA48
                case hiA48 => (simp only [List.getElem?_toArray, List.getElem?_cons_succ, List.getElem?_cons_zero] <;> rfl)
                case hqA48 => exact fun _ _ _ h => h
                case hyA48 => exact Or.inl ⟨by rfl, by (intro wS hSw; go_simp; try with_reducible rfl)⟩
                try simp only [Act.put, List.setIfInBounds_toArray, List.set_cons_zero, List.set_cons_succ]
                refine wpAnyH_ready (rs := [9]) (by kernel_rfl) (by simp) ?_
                refine AllReadyH.cons (o := ?oiA49) ?hiA49 (fun K hK => ?hsA49) AllReadyH.nil
                case hiA49 => (simp only [List.getElem?_toArray, List.getElem?_cons_succ, List.getElem?_cons_zero] <;> rfl)
                go_simp
                refine (kname_g (w0 := w) (by assumption) k).mono ?_
                rintro e w3 ⟨rfl, hG3⟩
                rw [HKB.out]
                go_wp2_with fail
                refine hK.out _ _ hG3 (fun hHeld3 => ?_)
                clear hK K
                try simp only [Act.put, List.setIfInBounds_toArray, List.set_cons_zero, List.set_cons_succ]
                refine wpAnyH_take (i := 10) (oi := ?oiA410) (v := ?vA410) ?hiA410 (by kernel_rfl) (by kernel_rfl) (by kernel_rfl) ?hqA410 ?hyA410 (by assumption) ?restA410
                case hiA410 => (simp only [List.getElem?_toArray, List.getElem?_cons_succ, List.getElem?_cons_zero] <;> rfl)
                case hqA410 => exact fun _ _ _ h => h
                case hyA410 => exact Or.inl ⟨by rfl, by (intro wS hSw; go_simp; try with_reducible rfl)⟩
                try simp only [Act.put, List.setIfInBounds_toArray, List.set_cons_zero, List.set_cons_succ]
                refine wpAnyH_take (i := 11) (oi := ?oiA411) (v := ?vA411) ?hiA411 (by kernel_rfl) (by kernel_rfl) (by kernel_rfl) ?hqA411 ?hyA411 (by assumption) ?restA411
                case hiA411 => (simp only [List.getElem?_toArray, List.getElem?_cons_succ, List.getElem?_cons_zero] <;> rfl)
                case hqA411 => exact fun _ _ _ h => h
                case hyA411 => exact Or.inl ⟨by rfl, by (intro wS hSw; go_simp; try with_reducible rfl)⟩
                try simp only [Act.put, List.setIfInBounds_toArray, List.set_cons_zero, List.set_cons_succ]
                refine wpAnyH_take (i := 12) (oi := ?oiA412) (v := ?vA412) ?hiA412 (by kernel_rfl) (by kernel_rfl) (by kernel_rfl) ?hqA412 ?hyA412 (by assumption) ?restA412
                case hiA412 => (simp only [List.getElem?_toArray, List.getElem?_cons_succ, List.getElem?_cons_zero] <;> rfl)
                case hqA412 => exact fun _ _ _ h => h
                case hyA412 => exact Or.inl ⟨by rfl, by (intro wS hSw; go_simp; try with_reducible rfl)⟩
                try simp only [Act.put, List.setIfInBounds_toArray, List.set_cons_zero, List.set_cons_succ]
                refine wpAnyH_take (i := 13) (oi := ?oiA413) (v := ?vA413) ?hiA413 (by kernel_rfl) (by kernel_rfl) (by kernel_rfl) ?hqA413 ?hyA413 (by assumption) ?restA413
                case hiA413 => (simp only [List.getElem?_toArray, List.getElem?_cons_succ, List.getElem?_cons_zero] <;> rfl)
                case hqA413 => exact fun _ _ _ h => h
                case hyA413 => exact Or.inl ⟨by rfl, by (intro wS hSw; go_simp; try with_reducible rfl)⟩
                try simp only [Act.put, List.setIfInBounds_toArray, List.set_cons_zero, List.set_cons_succ]
                refine wpAnyH_take (i := 14) (oi := ?oiA414) (v := ?vA414) ?hiA414 (by kernel_rfl) (by kernel_rfl) (by kernel_rfl) ?hqA414 ?hyA414 (by assumption) ?restA414
                case hiA414 => (simp only [List.getElem?_toArray, List.getElem?_cons_succ, List.getElem?_cons_zero] <;> rfl)
                case hqA414 => exact fun _ _ _ h => h
                case hyA414 => exact Or.inl ⟨by rfl, by (intro wS hSw; go_simp; try with_reducible rfl)⟩
                try simp only [Act.put, List.setIfInBounds_toArray, List.set_cons_zero, List.set_cons_succ]
                refine wpAnyH_take (i := 15) (oi := ?oiA415) (v := ?vA415) ?hiA415 (by kernel_rfl) (by kernel_rfl) (by kernel_rfl) ?hqA415 ?hyA415 (by assumption) ?restA415
                case hiA415 => (simp only [List.getElem?_toArray, List.getElem?_cons_succ, List.getElem?_cons_zero] <;> rfl)
                case hqA415 => exact fun _ _ _ h => h
                case hyA415 => exact Or.inl ⟨by rfl, by (intro wS hSw; go_simp; try with_reducible rfl)⟩
                try simp only [Act.put, List.setIfInBounds_toArray, List.set_cons_zero, List.set_cons_succ]
                refine wpAnyH_take (i := 16) (oi := ?oiA416) (v := ?vA416) ?hiA416 (by kernel_rfl) (by kernel_rfl) (by kernel_rfl) ?hqA416 ?hyA416 (by assumption) ?restA416
                case hiA416 => (simp only [List.getElem?_toArray, List.getElem?_cons_succ, List.getElem?_cons_zero] <;> rfl)
                case hqA416 => exact fun _ _ _ h => h
                case hyA416 => exact Or.inl ⟨by rfl, by (intro wS hSw; go_simp; try with_reducible rfl)⟩
                try simp only [Act.put, List.setIfInBounds_toArray, List.set_cons_zero, List.set_cons_succ]
                refine wpAnyH_take (i := 17) (oi := ?oiA417) (v := ?vA417) ?hiA417 (by kernel_rfl) (by kernel_rfl) (by kernel_rfl) ?hqA417 ?hyA417 (by assumption) ?restA417
                case hiA417 => (simp only [List.getElem?_toArray, List.getElem?_cons_succ, List.getElem?_cons_zero] <;> rfl)
                case hqA417 => exact fun _ _ _ h => h
                case hyA417 => exact Or.inl ⟨by rfl, by (intro wS hSw; go_simp; try with_reducible rfl)⟩
                try simp only [Act.put, List.setIfInBounds_toArray, List.set_cons_zero, List.set_cons_succ]
                refine wpAnyH_take (i := 18) (oi := ?oiA418) (v := ?vA418) ?hiA418 (by kernel_rfl) (by kernel_rfl) (by kernel_rfl) ?hqA418 ?hyA418 (by assumption) ?restA418
                case hiA418 => (simp only [List.getElem?_toArray, List.getElem?_cons_succ, List.getElem?_cons_zero] <;> rfl)
                case hqA418 => exact fun _ _ _ h => h
                case hyA418 => exact Or.inl ⟨by rfl, by (intro wS hSw; go_simp; try with_reducible rfl)⟩
                try simp only [Act.put, List.setIfInBounds_toArray, List.set_cons_zero, List.set_cons_succ]
                refine wpAnyH_take (i := 19) (oi := ?oiA419) (v := ?vA419) ?hiA419 (by kernel_rfl) (by kernel_rfl) (by kernel_rfl) ?hqA419 ?hyA419 (by assumption) ?restA419
                case hiA419 => (simp only [List.getElem?_toArray, List.getElem?_cons_succ, List.getElem?_cons_zero] <;> rfl)
                case hqA419 => exact fun _ _ _ h => h
                case hyA419 => exact Or.inl ⟨by rfl, by (intro wS hSw; go_simp; try with_reducible rfl)⟩
                try simp only [Act.put, List.setIfInBounds_toArray, List.set_cons_zero, List.set_cons_succ]
                refine wpAnyH_take (i := 20) (oi := ?oiA420) (v := ?vA420) ?hiA420 (by kernel_rfl) (by kernel_rfl) (by kernel_rfl) ?hqA420 ?hyA420 (by assumption) ?restA420
                case hiA420 => (simp only [List.getElem?_toArray, List.getElem?_cons_succ, List.getElem?_cons_zero] <;> rfl)
                case hqA420 => exact fun _ _ _ h => h
                case hyA420 => exact Or.inl ⟨by rfl, by (intro wS hSw; go_simp; try with_reducible rfl)⟩
                try simp only [Act.put, List.setIfInBounds_toArray, List.set_cons_zero, List.set_cons_succ]
                refine wpAnyH_take (i := 21) (oi := ?oiA421) (v := ?vA421) ?hiA421 (by kernel_rfl) (by kernel_rfl) (by kernel_rfl) ?hqA421 ?hyA421 (by assumption) ?restA421
                case hiA421 => (simp only [List.getElem?_toArray, List.getElem?_cons_succ, List.getElem?_cons_zero] <;> rfl)
                case hqA421 => exact fun _ _ _ h => h
                case hyA421 => exact Or.inl ⟨by rfl, by (intro wS hSw; go_simp; try with_reducible rfl)⟩
                try simp only [Act.put, List.setIfInBounds_toArray, List.set_cons_zero, List.set_cons_succ]
                refine wpAnyH_take (i := 22) (oi := ?oiA422) (v := ?vA422) ?hiA422 (by kernel_rfl) (by kernel_rfl) (by kernel_rfl) ?hqA422 ?hyA422 (by assumption) ?restA422
                case hiA422 => (simp only [List.getElem?_toArray, List.getElem?_cons_succ, List.getElem?_cons_zero] <;> rfl)
                case hqA422 => exact fun _ _ _ h => h
                case hyA422 => exact Or.inl ⟨by rfl, by (intro wS hSw; go_simp; try with_reducible rfl)⟩
                try simp only [Act.put, List.setIfInBounds_toArray, List.set_cons_zero, List.set_cons_succ]
                refine wpAnyH_take (i := 23) (oi := ?oiA423) (v := ?vA423) ?hiA423 (by kernel_rfl) (by kernel_rfl) (by kernel_rfl) ?hqA423 ?hyA423 (by assumption) ?restA423
                case hiA423 => (simp only [List.getElem?_toArray, List.getElem?_cons_succ, List.getElem?_cons_zero] <;> rfl)
                case hqA423 => exact fun _ _ _ h => h
                case hyA423 => exact Or.inl ⟨by rfl, by (intro wS hSw; go_simp; try with_reducible rfl)⟩
                try simp only [Act.put, List.setIfInBounds_toArray, List.set_cons_zero, List.set_cons_succ]
                refine wpAnyH_done (by kernel_rfl) ?_ _
                refine NoPanic.normal ?_
                have HZ3 : 1 ≤ (r.extract nb.size r.size).size := by rw [ByteArray.size_extract]; omega
                obtain ⟨ev, hev⟩ : ∃ ev, r.extract nb.size r.size = ev := ⟨_, rfl⟩
                rw [hev] at HN HEMP HZ3
                have hemp := HEMP.out
                have hz3 : (1 : Int) ≤ (ev.size : Int) := by omega
                go_wp2_with fail
                go_roundw
                case rel => exact ⟨k + 1, by omega, by go_num, by rw [HH.out]; go_num, by rw [HP.out]; go_num, by rw [HH.out, HN.out] <;> go_num, Nat.le_trans (gst_size s (k + 1)) hs, by assumption⟩
                case measure => simp [intOf]; omega
              · have HH := Lib.hid (show gst s (k + 1) = (m, r) by rw [H2.out (hit_no3 r k (by rw [HKB.out]; exact A3.out) (by rw [HKB.out, hb]; exact a4)), HG.out])
                have T4 := Lib.hid (show ((c.toNat : Int) == 43) = false from beq_eq_false_iff_ne.2 (fun e => a4 (UInt8.toNat_inj.1 (show c.toNat = 43 by omega))))
                clear a2 a4 hb H1 H2 HG
                go_wp2_with fail
                refine (kname_g hg k).mono ?_
                rintro e w2 ⟨rfl, g2⟩
                rw [HKB.out]
                go_wp2_with fail
                clear hg
                have t1 := T1.out
                have t2 := T2.out
                have t3 := T3.out
                have t4 := T4.out
                refine wp_region_noPanic ?_
                refine wp_region_held_drew (S := fun w' => Bw w w') (by kernel_rfl) (Bw.drew (by assumption)) (fun hHeld => ?_)
                refine wpAnyH_take (i := 0) (oi := ?oiA50) (v := ?vA50) ?hiA50 (by kernel_rfl) (by kernel_rfl) (by kernel_rfl) ?hqA50 ?hyA50 (by assumption) ?restA50
                case hiA50 => (simp only [List.getElem?_toArray, List.getElem?_cons_zero] <;> rfl)
                case hqA50 => exact fun _ _ _ h => h
                case hyA50 => exact Or.inl ⟨by rfl, by (intro wS hSw; go_simp; try with_reducible rfl)⟩
                try simp only [Act.put, List.setIfInBounds_toArray, List.set_cons_zero, List.set_cons_succ]
                refine wpAnyH_take (i := 1) (oi := ?oiA51) (v := ?vA51) ?hiA51 (by kernel_rfl) (by kernel_rfl) (by kernel_rfl) ?hqA51 ?hyA51 (by assumption) ?restA51
                case hiA51 => (simp only [List.getElem?_toArray, List.getElem?_cons_succ, List.getElem?_cons_zero] <;> rfl)
                case hqA51 => exact fun _ _ _ h => h
                case hyA51 => exact Or.inl ⟨by rfl, by (intro wS hSw; go_simp; try with_reducible rfl)⟩
                try simp only [Act.put, List.setIfInBounds_toArray, List.set_cons_zero, List.set_cons_succ]
                refine wpAnyH_take (i := 2) (oi := ?oiA52) (v := ?vA52) ?hiA52 (by kernel_rfl) (by kernel_rfl) (by kernel_rfl) ?hqA52 ?hyA52 (by assumption) ?restA52
                case hiA52 => (simp only [List.getElem?_toArray, List.getElem?_cons_succ, List.getElem?_cons_zero] <;> rfl)
                case hqA52 => exact fun _ _ _ h => h
                case hyA52 => exact Or.inl ⟨by rfl, by (intro wS hSw; go_simp; try with_reducible rfl)⟩
                try simp only [Act.put, List.setIfInBounds_toArray, List.set_cons_zero, List.set_cons_succ]
                refine wpAnyH_take (i := 3) (oi := ?oiA53) (v := ?vA53) ?hiA53 (by kernel_rfl) (by kernel_rfl) (by kernel_rfl) ?hqA53 ?hyA53 (by assumption) ?restA53
                case hiA53 => (simp only [List.getElem?_toArray, List.getElem?_cons_succ, List.getElem?_cons_zero] <;> rfl)
                case hqA53 => exact fun _ _ _ h => h
                case hyA53 => exact Or.inl ⟨by rfl, by (intro wS hSw; go_simp; try with_reducible rfl)⟩
                try simp only [Act.put, List.setIfInBounds_toArray, List.set_cons_zero, List.set_cons_succ]
                refine wpAnyH_take (i := 4) (oi := ?oiA54) (v := ?vA54) ?hiA54 (by kernel_rfl) (by kernel_rfl) (by kernel_rfl) ?hqA54 ?hyA54 (by assumption) ?restA54
                case hiA54 => (simp only [List.getElem?_toArray, List.getElem?_cons_succ, List.getElem?_cons_zero] <;> rfl)
                case hqA54 => exact fun _ _ _ h => h
                case hyA54 => exact Or.inl ⟨by rfl, by (intro wS hSw; go_simp; try with_reducible rfl)⟩
                try simp only [Act.put, List.setIfInBounds_toArray, List.set_cons_zero, List.set_cons_succ]
                refine wpAnyH_take (i := 5) (oi := ?oiA55) (v := ?vA55) ?hiA55 (by kernel_rfl) (by kernel_rfl) (by kernel_rfl) ?hqA55 ?hyA55 (by assumption) ?restA55
                case hiA55 => (simp only [List.getElem?_toArray, List.getElem?_cons_succ, List.getElem?_cons_zero] <;> rfl)
                case hqA55 => exact fun _ _ _ h => h
                case hyA55 => exact Or.inl ⟨by rfl, by (intro wS hSw; go_simp; try with_reducible rfl)⟩
                try simp only [Act.put, List.setIfInBounds_toArray, List.set_cons_zero, List.set_cons_succ]
                refine wpAnyH_take (i := 6) (oi := ?oiA56) (v := ?vA56) ?hiA56 (by kernel_rfl) (by kernel_rfl) (by kernel_rfl) ?hqA56 ?hyA56 (by assumption) ?restA56
                case hiA56 => (simp only [List.getElem?_toArray, List.getElem?_cons_succ, List.getElem?_cons_zero] <;> rfl)
                case hqA56 => exact fun _ _ _ h => h
                case hyA56 => exact Or.inl ⟨by rfl, by (intro wS hSw; go_simp; try with_reducible rfl)⟩
                try simp only [Act.put, List.setIfInBounds_toArray, List.set_cons_zero, List.set_cons_succ]
                refine wpAnyH_take (i := 7) (oi := ?oiA57) (v := ?vA57) ?hiA57 (by kernel_rfl) (by kernel_rfl) (by kernel_rfl) ?hqA57 ?hyA57 (by assumption) ?restA57
                case hiA57 => (simp only [List.getElem?_toArray, List.getElem?_cons_succ, List.getElem?_cons_zero] <;> rfl)
                case hqA57 => exact fun _ _ _ h => h
                case hyA57 => exact Or.inl ⟨by rfl, by (intro wS hSw; go_simp; try with_reducible rfl)⟩
                try simp only [Act.put, List.setIfInBounds_toArray, List.set_cons_zero, List.set_cons_succ]
                refine wpAnyH_take (i := 8) (oi := ?oiA58) (v := ?vA58) ?hiA58 (by kernel_rfl) (by kernel_rfl) (by kernel_rfl) ?hqA58 ?hyA58 (by assumption) ?restA58
                case hiA58 => (simp only [List.getElem?_toArray, List.getElem?_cons_succ, List.getElem?_cons_zero] <;> rfl)
                case hqA58 => exact fun _ _ _ h => h
                case hyA58 => exact Or.inl ⟨by rfl, by (intro wS hSw; go_simp; try with_reducible rfl)⟩
                try simp only [Act.put, List.setIfInBounds_toArray, List.set_cons_zero, List.set_cons_succ]
                refine wpAnyH_ready (rs := [9]) (by kernel_rfl) (by simp) ?_
                refine AllReadyH.cons (o := ?oiA59) ?hiA59 (fun K hK => ?hsA59) AllReadyH.nil
                case hiA59 => (simp only [List.getElem?_toArray, List.getElem?_cons_succ, List.getElem?_cons_zero] <;> rfl)
                go_simp
                refine (kname_g (w0 := w) (by assumption) k).mono ?_
                rintro e w3 ⟨rfl, hG3⟩
                rw [HKB.out]
                go_wp2_with fail
                refine hK.out _ _ hG3 (fun hHeld3 => ?_)
                clear hK K
                try simp only [Act.put, List.setIfInBounds_toArray, List.set_cons_zero, List.set_cons_succ]
                refine wpAnyH_take (i := 10) (oi := ?oiA510) (v := ?vA510) ?hiA510 (by kernel_rfl) (by kernel_rfl) (by kernel_rfl) ?hqA510 ?hyA510 (by assumption) ?restA510
                case hiA510 => (simp only [List.getElem?_toArray, List.getElem?_cons_succ, List.getElem?_cons_zero] <;> rfl)
                case hqA510 => exact fun _ _ _ h => h
                case hyA510 => exact Or.inl ⟨by rfl, by (intro wS hSw; go_simp; try with_reducible rfl)⟩
                try simp only [Act.put, List.setIfInBounds_toArray, List.set_cons_zero, List.set_cons_succ]
                refine wpAnyH_take (i := 11) (oi := ?oiA511) (v := ?vA511) ?hiA511 (by kernel_rfl) (by kernel_rfl) (by kernel_rfl) ?hqA511 ?hyA511 (by assumption) ?restA511
                case hiA511 => (simp only [List.getElem?_toArray, List.getElem?_cons_succ, List.getElem?_cons_zero] <;> rfl)
                case hqA511 => exact fun _ _ _ h => h
                case hyA511 => exact Or.inl ⟨by rfl, by (intro wS hSw; go_simp; try with_reducible rfl)⟩
                try simp only [Act.put, List.setIfInBounds_toArray, List.set_cons_zero, List.set_cons_succ]
                refine wpAnyH_take (i := 12) (oi := ?oiA512) (v := ?vA512) ?hiA512 (by kernel_rfl) (by kernel_rfl) (by kernel_rfl) ?hqA512 ?hyA512 (by assumption) ?restA512
                case hiA512 => (simp only [List.getElem?_toArray, List.getElem?_cons_succ, List.getElem?_cons_zero] <;> rfl)
                case hqA512 => exact fun _ _ _ h => h
                case hyA512 => exact Or.inl ⟨by rfl, by (intro wS hSw; go_simp; try with_reducible rfl)⟩
                try simp only [Act.put, List.setIfInBounds_toArray, List.set_cons_zero, List.set_cons_succ]
                refine wpAnyH_take (i := 13) (oi := ?oiA513) (v := ?vA513) ?hiA513 (by kernel_rfl) (by kernel_rfl) (by kernel_rfl) ?hqA513 ?hyA513 (by assumption) ?restA513
                case hiA513 => (simp only [List.getElem?_toArray, List.getElem?_cons_succ, List.getElem?_cons_zero] <;> rfl)
                case hqA513 => exact fun _ _ _ h => h
                case hyA513 => exact Or.inl ⟨by rfl, by (intro wS hSw; go_simp; try with_reducible rfl)⟩
                try simp only [Act.put, List.setIfInBounds_toArray, List.set_cons_zero, List.set_cons_succ]
                refine wpAnyH_take (i := 14) (oi := ?oiA514) (v := ?vA514) ?hiA514 (by kernel_rfl) (by kernel_rfl) (by kernel_rfl) ?hqA514 ?hyA514 (by assumption) ?restA514
                case hiA514 => (simp only [List.getElem?_toArray, List.getElem?_cons_succ, List.getElem?_cons_zero] <;> rfl)
                case hqA514 => exact fun _ _ _ h => h
                case hyA514 => exact Or.inl ⟨by rfl, by (intro wS hSw; go_simp; try with_reducible rfl)⟩
                try simp only [Act.put, List.setIfInBounds_toArray, List.set_cons_zero, List.set_cons_succ]
                refine wpAnyH_take (i := 15) (oi := ?oiA515) (v := ?vA515) ?hiA515 (by kernel_rfl) (by kernel_rfl) (by kernel_rfl) ?hqA515 ?hyA515 (by assumption) ?restA515
                case hiA515 => (simp only [List.getElem?_toArray, List.getElem?_cons_succ, List.getElem?_cons_zero] <;> rfl)
                case hqA515 => exact fun _ _ _ h => h
                case hyA515 => exact Or.inl ⟨by rfl, by (intro wS hSw; go_simp; try with_reducible rfl)⟩
                try simp only [Act.put, List.setIfInBounds_toArray, List.set_cons_zero, List.set_cons_succ]
                refine wpAnyH_take (i := 16) (oi := ?oiA516) (v := ?vA516) ?hiA516 (by kernel_rfl) (by kernel_rfl) (by kernel_rfl) ?hqA516 ?hyA516 (by assumption) ?restA516
                case hiA516 => (simp only [List.getElem?_toArray, List.getElem?_cons_succ, List.getElem?_cons_zero] <;> rfl)
                case hqA516 => exact fun _ _ _ h => h
                case hyA516 => exact Or.inl ⟨by rfl, by (intro wS hSw; go_simp; try with_reducible rfl)⟩
                try simp only [Act.put, List.setIfInBounds_toArray, List.set_cons_zero, List.set_cons_succ]
                refine wpAnyH_take (i := 17) (oi := ?oiA517) (v := ?vA517) ?hiA517 (by kernel_rfl) (by kernel_rfl) (by kernel_rfl) ?hqA517 ?hyA517 (by assumption) ?restA517
                case hiA517 => (simp only [List.getElem?_toArray, List.getElem?_cons_succ, List.getElem?_cons_zero] <;> rfl)
                case hqA517 => exact fun _ _ _ h => h
                case hyA517 => exact Or.inl ⟨by rfl, by (intro wS hSw; go_simp; try with_reducible rfl)⟩
                try simp only [Act.put, List.setIfInBounds_toArray, List.set_cons_zero, List.set_cons_succ]
                refine wpAnyH_take (i := 18) (oi := ?oiA518) (v := ?vA518) ?hiA518 (by kernel_rfl) (by kernel_rfl) (by kernel_rfl) ?hqA518 ?hyA518 (by assumption) ?restA518
                case hiA518 => (simp only [List.getElem?_toArray, List.getElem?_cons_succ, List.getElem?_cons_zero] <;> rfl)
                case hqA518 => exact fun _ _ _ h => h
                case hyA518 => exact Or.inl ⟨by rfl, by (intro wS hSw; go_simp; try with_reducible rfl)⟩
                try simp only [Act.put, List.setIfInBounds_toArray, List.set_cons_zero, List.set_cons_succ]
                refine wpAnyH_take (i := 19) (oi := ?oiA519) (v := ?vA519) ?hiA519 (by kernel_rfl) (by kernel_rfl) (by kernel_rfl) ?hqA519 ?hyA519 (by assumption) ?restA519
                case hiA519 => (simp only [List.getElem?_toArray, List.getElem?_cons_succ, List.getElem?_cons_zero] <;> rfl)
                case hqA519 => exact fun _ _ _ h => h
                case hyA519 => exact Or.inl ⟨by rfl, by (intro wS hSw; go_simp; try with_reducible rfl)⟩
                try simp only [Act.put, List.setIfInBounds_toArray, List.set_cons_zero, List.set_cons_succ]
                refine wpAnyH_take (i := 20) (oi := ?oiA520) (v := ?vA520) ?hiA520 (by kernel_rfl) (by kernel_rfl) (by kernel_rfl) ?hqA520 ?hyA520 (by assumption) ?restA520
                case hiA520 => (simp only [List.getElem?_toArray, List.getElem?_cons_succ, List.getElem?_cons_zero] <;> rfl)
                case hqA520 => exact fun _ _ _ h => h
                case hyA520 => exact Or.inl ⟨by rfl, by (intro wS hSw; go_simp; try with_reducible rfl)⟩
                try simp only [Act.put, List.setIfInBounds_toArray, List.set_cons_zero, List.set_cons_succ]
                refine wpAnyH_take (i := 21) (oi := ?oiA521) (v := ?vA521) ?hiA521 (by kernel_rfl) (by kernel_rfl) (by kernel_rfl) ?hqA521 ?hyA521 (by assumption) ?restA521
                case hiA521 => (simp only [List.getElem?_toArray, List.getElem?_cons_succ, List.getElem?_cons_zero] <;> rfl)
                case hqA521 => exact fun _ _ _ h => h
                case hyA521 => exact Or.inl ⟨by rfl, by (intro wS hSw; go_simp; try with_reducible rfl)⟩
                try simp only [Act.put, List.setIfInBounds_toArray, List.set_cons_zero, List.set_cons_succ]
                refine wpAnyH_take (i := 22) (oi := ?oiA522) (v := ?vA522) ?hiA522 (by kernel_rfl) (by kernel_rfl) (by kernel_rfl) ?hqA522 ?hyA522 (by assumption) ?restA522
                case hiA522 => (simp only [List.getElem?_toArray, List.getElem?_cons_succ, List.getElem?_cons_zero] <;> rfl)
                case hqA522 => exact fun _ _ _ h => h
                case hyA522 => exact Or.inl ⟨by rfl, by (intro wS hSw; go_simp; try with_reducible rfl)⟩
                try simp only [Act.put, List.setIfInBounds_toArray, List.set_cons_zero, List.set_cons_succ]
                refine wpAnyH_take (i := 23) (oi := ?oiA523) (v := ?vA523) ?hiA523 (by kernel_rfl) (by kernel_rfl) (by kernel_rfl) ?hqA523 ?hyA523 (by assumption) ?restA523
                case hiA523 => (simp only [List.getElem?_toArray, List.getElem?_cons_succ, List.getElem?_cons_zero] <;> rfl)
                case hqA523 => exact fun _ _ _ h => h
                case hyA523 => exact Or.inl ⟨by rfl, by (intro wS hSw; go_simp; try with_reducible rfl)⟩
                try simp only [Act.put, List.setIfInBounds_toArray, List.set_cons_zero, List.set_cons_succ]
                refine wpAnyH_done (by kernel_rfl) ?_ _
                refine NoPanic.normal ?_
                go_wp2_with fail
                go_roundw
                case rel => exact ⟨k + 1, by omega, by go_num, by rw [HH.out], by rw [HP.out]; go_num, by rw [HH.out], Nat.le_trans (gst_size s (k + 1)) hs, by first | assumption | exact below_drewN (by assumption) _⟩
                case measure => simp [intOf]; omega
          · have HH := Lib.hid (show gst s (k + 1) = (m, r) by rw [H2.out (hit_no2 r k (by rw [HKB.out]; exact a2)), HG.out])
            have T2 := Lib.hid (same_false a2)
            clear a2 H1 H2 HG
            go_wp2_with fail
            refine (kname_g hg k).mono ?_
            rintro e w2 ⟨rfl, g2⟩
            rw [HKB.out]
            go_wp2_with fail
            clear hg
            have t1 := T1.out
            have t2 := T2.out
            refine wp_region_noPanic ?_
            refine wp_region_held_drew (S := fun w' => Bw w w') (by kernel_rfl) (Bw.drew (by assumption)) (fun hHeld => ?_)
            refine wpAnyH_take (i := 0) (oi := ?oiA20) (v := ?vA20) ?hiA20 (by kernel_rfl) (by kernel_rfl) (by kernel_rfl) ?hqA20 ?hyA20 (by assumption) ?restA20
            case hiA20 => (simp only [List.getElem?_toArray, List.getElem?_cons_zero] <;> rfl)
            case hqA20 => exact fun _ _ _ h => h
            case hyA20 => exact Or.inl ⟨by rfl, by (intro wS hSw; go_simp; try with_reducible rfl)⟩
            try simp only [Act.put, List.setIfInBounds_toArray, List.set_cons_zero, List.set_cons_succ]
            refine wpAnyH_take (i := 1) (oi := ?oiA21) (v := ?vA21) ?hiA21 (by kernel_rfl) (by kernel_rfl) (by kernel_rfl) ?hqA21 ?hyA21 (by assumption) ?restA21
            case hiA21 => (simp only [List.getElem?_toArray, List.getElem?_cons_succ, List.getElem?_cons_zero] <;> rfl)
            case hqA21 => exact fun _ _ _ h => h
            case hyA21 => exact Or.inl ⟨by rfl, by (intro wS hSw; go_simp; try with_reducible rfl)⟩
            try simp only [Act.put, List.setIfInBounds_toArray, List.set_cons_zero, List.set_cons_succ]
            refine wpAnyH_take (i := 2) (oi := ?oiA22) (v := ?vA22) ?hiA22 (by kernel_rfl) (by kernel_rfl) (by kernel_rfl) ?hqA22 ?hyA22 (by assumption) ?restA22
            case hiA22 => (simp only [List.getElem?_toArray, List.getElem?_cons_succ, List.getElem?_cons_zero] <;> rfl)
            case hqA22 => exact fun _ _ _ h => h
            case hyA22 => exact Or.inl ⟨by rfl, by (intro wS hSw; go_simp; try with_reducible rfl)⟩
            try simp only [Act.put, List.setIfInBounds_toArray, List.set_cons_zero, List.set_cons_succ]
            refine wpAnyH_take (i := 3) (oi := ?oiA23) (v := ?vA23) ?hiA23 (by kernel_rfl) (by kernel_rfl) (by kernel_rfl) ?hqA23 ?hyA23 (by assumption) ?restA23
            case hiA23 => (simp only [List.getElem?_toArray, List.getElem?_cons_succ, List.getElem?_cons_zero] <;> rfl)
            case hqA23 => exact fun _ _ _ h => h
            case hyA23 => exact Or.inl ⟨by rfl, by (intro wS hSw; go_simp; try with_reducible rfl)⟩
            try simp only [Act.put, List.setIfInBounds_toArray, List.set_cons_zero, List.set_cons_succ]
            refine wpAnyH_take (i := 4) (oi := ?oiA24) (v := ?vA24) ?hiA24 (by kernel_rfl) (by kernel_rfl) (by kernel_rfl) ?hqA24 ?hyA24 (by assumption) ?restA24
            case hiA24 => (simp only [List.getElem?_toArray, List.getElem?_cons_succ, List.getElem?_cons_zero] <;> rfl)
            case hqA24 => exact fun _ _ _ h => h
            case hyA24 => exact Or.inl ⟨by rfl, by (intro wS hSw; go_simp; try with_reducible rfl)⟩
            try simp only [Act.put, List.setIfInBounds_toArray, List.set_cons_zero, List.set_cons_succ]
            refine wpAnyH_take (i := 5) (oi := ?oiA25) (v := ?vA25) ?hiA25 (by kernel_rfl) (by kernel_rfl) (by kernel_rfl) ?hqA25 ?hyA25 (by assumption) ?restA25
            case hiA25 => (simp only [List.getElem?_toArray, List.getElem?_cons_succ, List.getElem?_cons_zero] <;> rfl)
            case hqA25 => exact fun _ _ _ h => h
            case hyA25 => exact Or.inl ⟨by rfl, by (intro wS hSw; go_simp; try with_reducible rfl)⟩
            try simp only [Act.put, List.setIfInBounds_toArray, List.set_cons_zero, List.set_cons_succ]
            refine wpAnyH_take (i := 6) (oi := ?oiA26) (v := ?vA26) ?hiA26 (by kernel_rfl) (by kernel_rfl) (by kernel_rfl) ?hqA26 ?hyA26 (by assumption) ?restA26
            case hiA26 => (simp only [List.getElem?_toArray, List.getElem?_cons_succ, List.getElem?_cons_zero] <;> rfl)
            case hqA26 => exact fun _ _ _ h => h
            case hyA26 => exact Or.inl ⟨by rfl, by (intro wS hSw; go_simp; try with_reducible rfl)⟩
            try simp only [Act.put, List.setIfInBounds_toArray, List.set_cons_zero, List.set_cons_succ]
            refine wpAnyH_take (i := 7) (oi := ?oiA27) (v := ?vA27) ?hiA27 (by kernel_rfl) (by kernel_rfl) (by kernel_rfl) ?hqA27 ?hyA27 (by assumption) ?restA27
            case hiA27 => (simp only [List.getElem?_toArray, List.getElem?_cons_succ, List.getElem?_cons_zero] <;> rfl)
            case hqA27 => exact fun _ _ _ h => h
            case hyA27 => exact Or.inl ⟨by rfl, by (intro wS hSw; go_simp; try with_reducible rfl)⟩
            try simp only [Act.put, List.setIfInBounds_toArray, List.set_cons_zero, List.set_cons_succ]
            refine wpAnyH_take (i := 8) (oi := ?oiA28) (v := ?vA28) ?hiA28 (by kernel_rfl) (by kernel_rfl) (by kernel_rfl) ?hqA28 ?hyA28 (by assumption) ?restA28
            case hiA28 => (simp only [List.getElem?_toArray, List.getElem?_cons_succ, List.getElem?_cons_zero] <;> rfl)
            case hqA28 => exact fun _ _ _ h => h
            case hyA28 => exact Or.inl ⟨by rfl, by (intro wS hSw; go_simp; try with_reducible rfl)⟩
            try simp only [Act.put, List.setIfInBounds_toArray, List.set_cons_zero, List.set_cons_succ]
            refine wpAnyH_ready (rs := [9]) (by kernel_rfl) (by simp) ?_
            refine AllReadyH.cons (o := ?oiA29) ?hiA29 (fun K hK => ?hsA29) AllReadyH.nil
            case hiA29 => (simp only [List.getElem?_toArray, List.getElem?_cons_succ, List.getElem?_cons_zero] <;> rfl)
            go_simp
            refine (kname_g (w0 := w) (by assumption) k).mono ?_
            rintro e w3 ⟨rfl, hG3⟩
            rw [HKB.out]
            go_wp2_with fail
            refine hK.out _ _ hG3 (fun hHeld3 => ?_)
            clear hK K
            try simp only [Act.put, List.setIfInBounds_toArray, List.set_cons_zero, List.set_cons_succ]
            refine wpAnyH_take (i := 10) (oi := ?oiA210) (v := ?vA210) ?hiA210 (by kernel_rfl) (by kernel_rfl) (by kernel_rfl) ?hqA210 ?hyA210 (by assumption) ?restA210
            case hiA210 => (simp only [List.getElem?_toArray, List.getElem?_cons_succ, List.getElem?_cons_zero] <;> rfl)
            case hqA210 => exact fun _ _ _ h => h
            case hyA210 => exact Or.inl ⟨by rfl, by (intro wS hSw; go_simp; try with_reducible rfl)⟩
            try simp only [Act.put, List.setIfInBounds_toArray, List.set_cons_zero, List.set_cons_succ]
            refine wpAnyH_take (i := 11) (oi := ?oiA211) (v := ?vA211) ?hiA211 (by kernel_rfl) (by kernel_rfl) (by kernel_rfl) ?hqA211 ?hyA211 (by assumption) ?restA211
            case hiA211 => (simp only [List.getElem?_toArray, List.getElem?_cons_succ, List.getElem?_cons_zero] <;> rfl)
            case hqA211 => exact fun _ _ _ h => h
            case hyA211 => exact Or.inl ⟨by rfl, by (intro wS hSw; go_simp; try with_reducible rfl)⟩
            try simp only [Act.put, List.setIfInBounds_toArray, List.set_cons_zero, List.set_cons_succ]
            refine wpAnyH_take (i := 12) (oi := ?oiA212) (v := ?vA212) ?hiA212 (by kernel_rfl) (by kernel_rfl) (by kernel_rfl) ?hqA212 ?hyA212 (by assumption) ?restA212
            case hiA212 => (simp only [List.getElem?_toArray, List.getElem?_cons_succ, List.getElem?_cons_zero] <;> rfl)
            case hqA212 => exact fun _ _ _ h => h
            case hyA212 => exact Or.inl ⟨by rfl, by (intro wS hSw; go_simp; try with_reducible rfl)⟩
            try simp only [Act.put, List.setIfInBounds_toArray, List.set_cons_zero, List.set_cons_succ]
            refine wpAnyH_take (i := 13) (oi := ?oiA213) (v := undef) ?hiA213 (by kernel_rfl) (by kernel_rfl) (by kernel_rfl) ?hqA213 ?hyA213 (by assumption) ?restA213
            case hiA213 => (simp only [List.getElem?_toArray, List.getElem?_cons_succ, List.getElem?_cons_zero] <;> rfl)
            case hqA213 => exact fun _ _ _ h => h
            case hyA213 => exact Or.inr ⟨by kernel_rfl, rfl⟩
            try simp only [Act.put, List.setIfInBounds_toArray, List.set_cons_zero, List.set_cons_succ]
            refine wpAnyH_take (i := 14) (oi := ?oiA214) (v := undef) ?hiA214 (by kernel_rfl) (by kernel_rfl) (by kernel_rfl) ?hqA214 ?hyA214 (by assumption) ?restA214
            case hiA214 => (simp only [List.getElem?_toArray, List.getElem?_cons_succ, List.getElem?_cons_zero] <;> rfl)
            case hqA214 => exact fun _ _ _ h => h
            case hyA214 => exact Or.inr ⟨by kernel_rfl, rfl⟩
            try simp only [Act.put, List.setIfInBounds_toArray, List.set_cons_zero, List.set_cons_succ]
            refine wpAnyH_take (i := 15) (oi := ?oiA215) (v := undef) ?hiA215 (by kernel_rfl) (by kernel_rfl) (by kernel_rfl) ?hqA215 ?hyA215 (by assumption) ?restA215
            case hiA215 => (simp only [List.getElem?_toArray, List.getElem?_cons_succ, List.getElem?_cons_zero] <;> rfl)
            case hqA215 => exact fun _ _ _ h => h
            case hyA215 => exact Or.inr ⟨by kernel_rfl, rfl⟩
            try simp only [Act.put, List.setIfInBounds_toArray, List.set_cons_zero, List.set_cons_succ]
            refine wpAnyH_take (i := 16) (oi := ?oiA216) (v := undef) ?hiA216 (by kernel_rfl) (by kernel_rfl) (by kernel_rfl) ?hqA216 ?hyA216 (by assumption) ?restA216
            case hiA216 => (simp only [List.getElem?_toArray, List.getElem?_cons_succ, List.getElem?_cons_zero] <;> rfl)
            case hqA216 => exact fun _ _ _ h => h
            case hyA216 => exact Or.inr ⟨by kernel_rfl, rfl⟩
            try simp only [Act.put, List.setIfInBounds_toArray, List.set_cons_zero, List.set_cons_succ]
            refine wpAnyH_take (i := 17) (oi := ?oiA217) (v := undef) ?hiA217 (by kernel_rfl) (by kernel_rfl) (by kernel_rfl) ?hqA217 ?hyA217 (by assumption) ?restA217
            case hiA217 => (simp only [List.getElem?_toArray, List.getElem?_cons_succ, List.getElem?_cons_zero] <;> rfl)
            case hqA217 => exact fun _ _ _ h => h
            case hyA217 => exact Or.inr ⟨by kernel_rfl, rfl⟩
            try simp only [Act.put, List.setIfInBounds_toArray, List.set_cons_zero, List.set_cons_succ]
            refine wpAnyH_take (i := 18) (oi := ?oiA218) (v := undef) ?hiA218 (by kernel_rfl) (by kernel_rfl) (by kernel_rfl) ?hqA218 ?hyA218 (by assumption) ?restA218
            case hiA218 => (simp only [List.getElem?_toArray, List.getElem?_cons_succ, List.getElem?_cons_zero] <;> rfl)
            case hqA218 => exact fun _ _ _ h => h
            case hyA218 => exact Or.inr ⟨by kernel_rfl, rfl⟩
            try simp only [Act.put, List.setIfInBounds_toArray, List.set_cons_zero, List.set_cons_succ]
            refine wpAnyH_take (i := 19) (oi := ?oiA219) (v := undef) ?hiA219 (by kernel_rfl) (by kernel_rfl) (by kernel_rfl) ?hqA219 ?hyA219 (by assumption) ?restA219
            case hiA219 => (simp only [List.getElem?_toArray, List.getElem?_cons_succ, List.getElem?_cons_zero] <;> rfl)
            case hqA219 => exact fun _ _ _ h => h
            case hyA219 => exact Or.inr ⟨by kernel_rfl, rfl⟩
            try simp only [Act.put, List.setIfInBounds_toArray, List.set_cons_zero, List.set_cons_succ]
            refine wpAnyH_take (i := 20) (oi := ?oiA220) (v := undef) ?hiA220 (by kernel_rfl) (by kernel_rfl) (by kernel_rfl) ?hqA220 ?hyA220 (by assumption) ?restA220
            case hiA220 => (simp only [List.getElem?_toArray, List.getElem?_cons_succ, List.getElem?_cons_zero] <;> rfl)
            case hqA220 => exact fun _ _ _ h => h
            case hyA220 => exact Or.inr ⟨by kernel_rfl, rfl⟩
            try simp only [Act.put, List.setIfInBounds_toArray, List.set_cons_zero, List.set_cons_succ]
            refine wpAnyH_take (i := 21) (oi := ?oiA221) (v := undef) ?hiA221 (by kernel_rfl) (by kernel_rfl) (by kernel_rfl) ?hqA221 ?hyA221 (by assumption) ?restA221
            case hiA221 => (simp only [List.getElem?_toArray, List.getElem?_cons_succ, List.getElem?_cons_zero] <;> rfl)
            case hqA221 => exact fun _ _ _ h => h
            case hyA221 => exact Or.inr ⟨by kernel_rfl, rfl⟩
            try simp only [Act.put, List.setIfInBounds_toArray, List.set_cons_zero, List.set_cons_succ]
            refine wpAnyH_take (i := 22) (oi := ?oiA222) (v := undef) ?hiA222 (by kernel_rfl) (by kernel_rfl) (by kernel_rfl) ?hqA222 ?hyA222 (by assumption) ?restA222
            case hiA222 => (simp only [List.getElem?_toArray, List.getElem?_cons_succ, List.getElem?_cons_zero] <;> rfl)
            case hqA222 => exact fun _ _ _ h => h
            case hyA222 => exact Or.inr ⟨by kernel_rfl, rfl⟩
            try simp only [Act.put, List.setIfInBounds_toArray, List.set_cons_zero, List.set_cons_succ]
            refine wpAnyH_take (i := 23) (oi := ?oiA223) (v := ?vA223) ?hiA223 (by kernel_rfl) (by kernel_rfl) (by kernel_rfl) ?hqA223 ?hyA223 (by assumption) ?restA223
            case hiA223 => (simp only [List.getElem?_toArray, List.getElem?_cons_succ, List.getElem?_cons_zero] <;> rfl)
            case hqA223 => exact fun _ _ _ h => h
            case hyA223 => exact Or.inl ⟨by rfl, by (intro wS hSw; go_simp; try with_reducible rfl)⟩
            try simp only [Act.put, List.setIfInBounds_toArray, List.set_cons_zero, List.set_cons_succ]
            refine wpAnyH_done (by kernel_rfl) ?_ _
            refine NoPanic.normal ?_
            go_wp2_with fail
            go_roundw
            case rel => exact ⟨k + 1, by omega, by go_num, by rw [HH.out], by rw [HP.out]; go_num, by rw [HH.out], Nat.le_trans (gst_size s (k + 1)) hs, by first | assumption | exact below_drewN (by assumption) _⟩
            case measure => simp [intOf]; omega
        · have HH := Lib.hid (show gst s (k + 1) = (m, r) by rw [H2.out (hit_no1 r k (by rw [HKB.out]; exact a1)), HG.out])
          have T1 := Lib.hid (show decide ((nb.size : Int) ≤ (r.size : Int)) = false from decide_eq_false (by omega))
          clear H1 H2 HG
          go_wp2_with fail
          refine (kname_g hg k).mono ?_
          rintro e w2 ⟨rfl, g2⟩
          rw [HKB.out]
          go_wp2_with fail
          clear hg
          have t1 := T1.out
          go_quiet (fail)
          go_wp2_with fail
          go_roundw
          case rel => exact ⟨k + 1, by omega, by go_num, by rw [HH.out], by rw [HP.out]; go_num, by rw [HH.out], Nat.le_trans (gst_size s (k + 1)) hs, by first | assumption | exact below_drewN (by assumption) _⟩
          case measure => simp [intOf]; omega
      · obtain rfl : k = 17 := by omega
        have HK := Lib.hid (ktext_ktx (rmask s) (rmask_lt s))
        rw [rmask_eq s]
        by_cases he : ktx (rmask s) = s
        · have HR := Lib.hid (show pres s = (rmask s, 0) by rw [HR0.out, if_pos he])
          have hsame := same_true he
          obtain ⟨q, hq⟩ : ∃ q, rmask s = q := ⟨_, rfl⟩
          rw [hq] at HK HR hsame ⊢
          clear he hq
          go_wp2_with fail
          refine (text_ref q _).mono ?_
          rintro e w2 ⟨rfl, b2⟩
          rw [HK.out]
          go_wp2_with fail
          go_ret2
          exact ⟨by rw [HR.out] <;> rfl, hg.step b2⟩
        · have HR := Lib.hid (show pres s = (0, 3) by rw [HR0.out, if_neg he])
          have hsame := same_false he
          obtain ⟨q, hq⟩ : ∃ q, rmask s = q := ⟨_, rfl⟩
          rw [hq] at HK hsame ⊢
          clear he hq
          go_wp2_with fail
          refine (text_ref q _).mono ?_
          rintro e w2 ⟨rfl, b2⟩
          rw [HK.out]
          go_wp2_with fail
          go_ret2
          exact ⟨by rw [HR.out] <;> rfl, hg.step b2⟩
end Go.Proofs.Ytihnjbbgfjckaaa
