/- Chapter 10: the reference's Is. -/
import Derived.Test.YtgnffmlcjnnneaaDoorLnF
import Derived.Deep.RegionHeld3
import Derived.Deep.DrawnRows
namespace Go.Proofs.YtgnffmlcjnnneaaDoor
open Go Go.RowKit Go.Sort Cg
attribute [local go_sem ↓] Go.wp_at_zero Go.wp_at_succ
/-- Of what was there when the walk stood at wa nothing has turned. -/
def Lx (wa w : World) : Prop := Below wa.heap.size wa w
theorem Lx.drew {wa w : World} (h : Lx wa w) : Lx wa w.drew := Below.drew h
theorem Lx.step {wa w w' : World} (h : Lx wa w) (hb : Below w.heap.size w w') : Lx wa w' := Below.trans h (hb.mono (Below.size h))
theorem comb_ref (tn : Nat) (h : tn < 64) : comb tn = (((tn : Int) == 2) || (((tn : Int) == 4) || (!decide (tn / 2 ^ 1 % 2 = 1) && !decide (tn / 2 ^ 2 % 2 = 1)))) := by
  have : ∀ k, k < 64 → comb k = (decide (k = 2) || (decide (k = 4) || (!decide (k / 2 ^ 1 % 2 = 1) && !decide (k / 2 ^ 2 % 2 = 1)))) := by decide
  rw [this tn h]
  congr 1
  · rw [Bool.eq_iff_iff, beq_iff_eq, decide_eq_true_eq]; omega
  · congr 1
    rw [Bool.eq_iff_iff, beq_iff_eq, decide_eq_true_eq]; omega
set_option maxRecDepth 100000 in
set_option maxHeartbeats 4000000 in
theorem isL_ref (su ty : Int) (v : Value) (xs : List ByteArray) (w : World) (h : RowAt Value.string w v xs) (hn : xs.length ≤ 4611686018427387904) :
    Calls Tryd.prog 22 #[lineV su ty v] w fun e w' => e = .returned (.bool (isL su ty xs)) ∧ Below w.heap.size w w' := by
  have RX := Lib.hid h
  obtain ⟨ao, cap, rfl⟩ := h.form
  clear h
  have BA := Lib.hid ((Below.refl w.heap.size w).alloc (Nat.le_refl _) (.cells #[.int .i64 su, .int .i64 ty, .slice ao xs.length cap] 24))
  by_cases hh : 0 ≤ su ∧ su ≤ 3 ∧ 1 ≤ ty ∧ ty ≤ 63 ∧ xs.length ≤ 4
  · obtain ⟨h1, h2, h3, h4, h6⟩ := hh
    obtain ⟨tn, rfl⟩ := Int.eq_ofNat_of_zero_le (show 0 ≤ ty by omega)
    have hc2 := cells_new w [.int .i64 su, .int .i64 (tn : Int), .slice ao xs.length cap] 24 2 _ rfl
    have hc1 := cells_new w [.int .i64 su, .int .i64 (tn : Int), .slice ao xs.length cap] 24 1 _ rfl
    have C2 := Lib.hid hc2
    have C1 := Lib.hid hc1
    have hsz : w.heap.size < (w.alloc (.cells #[.int .i64 su, .int .i64 (tn : Int), .slice ao xs.length cap] 24)).heap.size := by show w.heap.size < (w.heap.push _).size; simp
    have HSZ := Lib.hid hsz
    clear hc2 hc1 hsz
    have d6 : decide ((xs.length : Int) > 4) = false := decide_eq_false (by omega)
    go_enter Tryd.func22, Tryd.ntmps22
    go_wp2_with fail
    clear d6
    obtain ⟨wa, hwa⟩ : ∃ wa, wa = (w.alloc (.cells #[.int .i64 su, .int .i64 (tn : Int), .slice ao xs.length cap] 24)) := ⟨_, rfl⟩
    rw [← hwa] at C1 C2 HSZ BA ⊢
    have HWA := Lib.hid hwa
    clear hwa
    have c2 := C2.out
    go_loopw [3] (fun i wr => ∃ k : Nat, k ≤ xs.length ∧ i = .int .i64 k ∧ Hid (SubsOk xs k) ∧ Hid (Lx wa wr) ∧ wr.cell? ⟨w.heap.size, 2, none⟩ = some (.slice ao xs.length cap)) (fun i _ => xs.length - (intOf i).toNat)
    case atStart => exact ⟨0, by omega, rfl, Lib.hid fun j hj => by omega, Lib.hid (Below.refl _ _), c2⟩
    case round =>
      obtain ⟨k, hk, rfl, H, HB, cc⟩ := hrel
      clear c2
      by_cases hlt : k < xs.length
      · have RX1 := RX.out.below BA.out
        obtain ⟨ao', cap', he, hcap, hx⟩ := RX1
        simp only [Value.slice.injEq, true_and] at he
        obtain ⟨rfl, rfl⟩ := he
        rcases hx with e | ⟨b, o, rfl, hb, hc⟩
        · rw [e] at hlt; simp at hlt
        have g0 := hc k xs[k] (by simp)
        have gd0 := getS_at xs k hlt
        have F0 := Lib.hid (fun w' (h : Lx wa w') => (Below.cell h (p := ⟨w.heap.size, 2, none⟩) HSZ.out).trans C2.out)
        have hG : Lx wa wr := HB.out
        by_cases h0 : k = 0
        · subst h0
          obtain ⟨x, hxx⟩ : ∃ x, x = xs[0] := ⟨_, rfl⟩
          rw [← hxx] at g0 gd0
          rw [Nat.add_zero] at g0
          have GD := Lib.hid gd0
          have F1 := Lib.hid (fun w' (h : Lx wa w') => (Below.cell h (p := ⟨b, o, none⟩) hb).trans g0)
          clear hc hxx gd0 g0 hcap hb
          have i1 : (0 : Int) < (xs.length : Int) := by omega
          cases hs : isSub x
          · have HR := Lib.hid (isL_bad (su := su) (ty := (tn : Int)) hlt (by rw [GD.out, hs]; simp))
            have HS := Lib.hid hs
            clear hs
            go_wp2_with fail
            refine wp_region_noPanic ?_
            refine wp_region_held_drew (S := fun w' => Lx wa w') (by kernel_rfl) (Lx.drew (by assumption)) (fun hHeld => ?_)
            refine wpAnyH_take (i := 0) (oi := ?oiA00x) (v := ?vA00x) ?hiA00x (by kernel_rfl) (by kernel_rfl) (by kernel_rfl) ?hqA00x ?hyA00x (by assumption) ?restA00x
            case hiA00x => (simp only [List.getElem?_toArray, List.getElem?_cons_zero] <;> rfl)
            case hqA00x => exact fun _ _ _ h => h
            case hyA00x => exact Or.inl ⟨by rfl, by (intro wS hSw; have s0 := F0.out wS hSw; have s1 := F1.out wS hSw; go_simp; try with_reducible rfl)⟩
            try simp only [Act.put, List.setIfInBounds_toArray, List.set_cons_zero, List.set_cons_succ]
            refine wpAnyH_take (i := 1) (oi := ?oiA01x) (v := ?vA01x) ?hiA01x (by kernel_rfl) (by kernel_rfl) (by kernel_rfl) ?hqA01x ?hyA01x (by assumption) ?restA01x
            case hiA01x => (simp only [List.getElem?_toArray, List.getElem?_cons_succ, List.getElem?_cons_zero] <;> rfl)
            case hqA01x => exact fun _ _ _ h => h
            case hyA01x => exact Or.inl ⟨by rfl, by (intro wS hSw; have s0 := F0.out wS hSw; have s1 := F1.out wS hSw; go_simp; try with_reducible rfl)⟩
            try simp only [Act.put, List.setIfInBounds_toArray, List.set_cons_zero, List.set_cons_succ]
            refine wpAnyH_take (i := 2) (oi := ?oiA02x) (v := ?vA02x) ?hiA02x (by kernel_rfl) (by kernel_rfl) (by kernel_rfl) ?hqA02x ?hyA02x (by assumption) ?restA02x
            case hiA02x => (simp only [List.getElem?_toArray, List.getElem?_cons_succ, List.getElem?_cons_zero] <;> rfl)
            case hqA02x => exact fun _ _ _ h => h
            case hyA02x => exact Or.inl ⟨by rfl, by (intro wS hSw; have s0 := F0.out wS hSw; have s1 := F1.out wS hSw; go_simp; try with_reducible rfl)⟩
            try simp only [Act.put, List.setIfInBounds_toArray, List.set_cons_zero, List.set_cons_succ]
            refine wpAnyH_take (i := 3) (oi := ?oiA03x) (v := ?vA03x) ?hiA03x (by kernel_rfl) (by kernel_rfl) (by kernel_rfl) ?hqA03x ?hyA03x (by assumption) ?restA03x
            case hiA03x => (simp only [List.getElem?_toArray, List.getElem?_cons_succ, List.getElem?_cons_zero] <;> rfl)
            case hqA03x => exact fun _ _ _ h => h
            case hyA03x => exact Or.inl ⟨by rfl, by (intro wS hSw; have s0 := F0.out wS hSw; have s1 := F1.out wS hSw; go_simp; try with_reducible rfl)⟩
            try simp only [Act.put, List.setIfInBounds_toArray, List.set_cons_zero, List.set_cons_succ]
            refine wpAnyH_take (i := 4) (oi := ?oiA04x) (v := ?vA04x) ?hiA04x (by kernel_rfl) (by kernel_rfl) (by kernel_rfl) ?hqA04x ?hyA04x (by assumption) ?restA04x
            case hiA04x => (simp only [List.getElem?_toArray, List.getElem?_cons_succ, List.getElem?_cons_zero] <;> rfl)
            case hqA04x => exact fun _ _ _ h => h
            case hyA04x => exact Or.inl ⟨by rfl, by (intro wS hSw; have s0 := F0.out wS hSw; have s1 := F1.out wS hSw; go_simp; try with_reducible rfl)⟩
            try simp only [Act.put, List.setIfInBounds_toArray, List.set_cons_zero, List.set_cons_succ]
            refine wpAnyH_ready (rs := [5]) (by kernel_rfl) (by simp) ?_
            refine AllReadyH.cons (o := ?oiA05x) ?hiA05x (fun K hK => ?hsA05x) AllReadyH.nil
            case hiA05x => (simp only [List.getElem?_toArray, List.getElem?_cons_succ, List.getElem?_cons_zero] <;> rfl)
            go_simp
            refine (isSub_ref x _).mono ?_
            rintro e w3 ⟨rfl, b3⟩
            rw [HS.out]
            have hG3 : Lx wa w3 := Lx.step (by assumption) b3
            go_wp2_with fail
            refine hK.out _ _ hG3 (fun hHeld3 => ?_)
            clear hK K
            try simp only [Act.put, List.setIfInBounds_toArray, List.set_cons_zero, List.set_cons_succ]
            refine wpAnyH_take (i := 6) (oi := ?oiA06x) (v := ?vA06x) ?hiA06x (by kernel_rfl) (by kernel_rfl) (by kernel_rfl) ?hqA06x ?hyA06x (by assumption) ?restA06x
            case hiA06x => (simp only [List.getElem?_toArray, List.getElem?_cons_succ, List.getElem?_cons_zero] <;> rfl)
            case hqA06x => exact fun _ _ _ h => h
            case hyA06x => exact Or.inl ⟨by rfl, by (intro wS hSw; have s0 := F0.out wS hSw; have s1 := F1.out wS hSw; go_simp; try with_reducible rfl)⟩
            try simp only [Act.put, List.setIfInBounds_toArray, List.set_cons_zero, List.set_cons_succ]
            refine wpAnyH_take (i := 7) (oi := ?oiA07x) (v := ?vA07x) ?hiA07x (by kernel_rfl) (by kernel_rfl) (by kernel_rfl) ?hqA07x ?hyA07x (by assumption) ?restA07x
            case hiA07x => (simp only [List.getElem?_toArray, List.getElem?_cons_succ, List.getElem?_cons_zero] <;> rfl)
            case hqA07x => exact fun _ _ _ h => h
            case hyA07x => exact Or.inl ⟨by rfl, by (intro wS hSw; have s0 := F0.out wS hSw; have s1 := F1.out wS hSw; go_simp; try with_reducible rfl)⟩
            try simp only [Act.put, List.setIfInBounds_toArray, List.set_cons_zero, List.set_cons_succ]
            refine wpAnyH_take (i := 8) (oi := ?oiA08x) (v := undef) ?hiA08x (by kernel_rfl) (by kernel_rfl) (by kernel_rfl) ?hqA08x ?hyA08x (by assumption) ?restA08x
            case hiA08x => (simp only [List.getElem?_toArray, List.getElem?_cons_succ, List.getElem?_cons_zero] <;> rfl)
            case hqA08x => exact fun _ _ _ h => h
            case hyA08x => exact Or.inr ⟨by kernel_rfl, rfl⟩
            try simp only [Act.put, List.setIfInBounds_toArray, List.set_cons_zero, List.set_cons_succ]
            refine wpAnyH_take (i := 9) (oi := ?oiA09x) (v := undef) ?hiA09x (by kernel_rfl) (by kernel_rfl) (by kernel_rfl) ?hqA09x ?hyA09x (by assumption) ?restA09x
            case hiA09x => (simp only [List.getElem?_toArray, List.getElem?_cons_succ, List.getElem?_cons_zero] <;> rfl)
            case hqA09x => exact fun _ _ _ h => h
            case hyA09x => exact Or.inr ⟨by kernel_rfl, rfl⟩
            try simp only [Act.put, List.setIfInBounds_toArray, List.set_cons_zero, List.set_cons_succ]
            refine wpAnyH_take (i := 10) (oi := ?oiA010x) (v := undef) ?hiA010x (by kernel_rfl) (by kernel_rfl) (by kernel_rfl) ?hqA010x ?hyA010x (by assumption) ?restA010x
            case hiA010x => (simp only [List.getElem?_toArray, List.getElem?_cons_succ, List.getElem?_cons_zero] <;> rfl)
            case hqA010x => exact fun _ _ _ h => h
            case hyA010x => exact Or.inr ⟨by kernel_rfl, rfl⟩
            try simp only [Act.put, List.setIfInBounds_toArray, List.set_cons_zero, List.set_cons_succ]
            refine wpAnyH_take (i := 11) (oi := ?oiA011x) (v := undef) ?hiA011x (by kernel_rfl) (by kernel_rfl) (by kernel_rfl) ?hqA011x ?hyA011x (by assumption) ?restA011x
            case hiA011x => (simp only [List.getElem?_toArray, List.getElem?_cons_succ, List.getElem?_cons_zero] <;> rfl)
            case hqA011x => exact fun _ _ _ h => h
            case hyA011x => exact Or.inr ⟨by kernel_rfl, rfl⟩
            try simp only [Act.put, List.setIfInBounds_toArray, List.set_cons_zero, List.set_cons_succ]
            refine wpAnyH_take (i := 12) (oi := ?oiA012x) (v := undef) ?hiA012x (by kernel_rfl) (by kernel_rfl) (by kernel_rfl) ?hqA012x ?hyA012x (by assumption) ?restA012x
            case hiA012x => (simp only [List.getElem?_toArray, List.getElem?_cons_succ, List.getElem?_cons_zero] <;> rfl)
            case hqA012x => exact fun _ _ _ h => h
            case hyA012x => exact Or.inr ⟨by kernel_rfl, rfl⟩
            try simp only [Act.put, List.setIfInBounds_toArray, List.set_cons_zero, List.set_cons_succ]
            refine wpAnyH_take (i := 13) (oi := ?oiA013x) (v := undef) ?hiA013x (by kernel_rfl) (by kernel_rfl) (by kernel_rfl) ?hqA013x ?hyA013x (by assumption) ?restA013x
            case hiA013x => (simp only [List.getElem?_toArray, List.getElem?_cons_succ, List.getElem?_cons_zero] <;> rfl)
            case hqA013x => exact fun _ _ _ h => h
            case hyA013x => exact Or.inr ⟨by kernel_rfl, rfl⟩
            try simp only [Act.put, List.setIfInBounds_toArray, List.set_cons_zero, List.set_cons_succ]
            refine wpAnyH_take (i := 14) (oi := ?oiA014x) (v := undef) ?hiA014x (by kernel_rfl) (by kernel_rfl) (by kernel_rfl) ?hqA014x ?hyA014x (by assumption) ?restA014x
            case hiA014x => (simp only [List.getElem?_toArray, List.getElem?_cons_succ, List.getElem?_cons_zero] <;> rfl)
            case hqA014x => exact fun _ _ _ h => h
            case hyA014x => exact Or.inr ⟨by kernel_rfl, rfl⟩
            try simp only [Act.put, List.setIfInBounds_toArray, List.set_cons_zero, List.set_cons_succ]
            refine wpAnyH_take (i := 15) (oi := ?oiA015x) (v := undef) ?hiA015x (by kernel_rfl) (by kernel_rfl) (by kernel_rfl) ?hqA015x ?hyA015x (by assumption) ?restA015x
            case hiA015x => (simp only [List.getElem?_toArray, List.getElem?_cons_succ, List.getElem?_cons_zero] <;> rfl)
            case hqA015x => exact fun _ _ _ h => h
            case hyA015x => exact Or.inr ⟨by kernel_rfl, rfl⟩
            try simp only [Act.put, List.setIfInBounds_toArray, List.set_cons_zero, List.set_cons_succ]
            refine wpAnyH_take (i := 16) (oi := ?oiA016x) (v := undef) ?hiA016x (by kernel_rfl) (by kernel_rfl) (by kernel_rfl) ?hqA016x ?hyA016x (by assumption) ?restA016x
            case hiA016x => (simp only [List.getElem?_toArray, List.getElem?_cons_succ, List.getElem?_cons_zero] <;> rfl)
            case hqA016x => exact fun _ _ _ h => h
            case hyA016x => exact Or.inr ⟨by kernel_rfl, rfl⟩
            try simp only [Act.put, List.setIfInBounds_toArray, List.set_cons_zero, List.set_cons_succ]
            refine wpAnyH_take (i := 17) (oi := ?oiA017x) (v := undef) ?hiA017x (by kernel_rfl) (by kernel_rfl) (by kernel_rfl) ?hqA017x ?hyA017x (by assumption) ?restA017x
            case hiA017x => (simp only [List.getElem?_toArray, List.getElem?_cons_succ, List.getElem?_cons_zero] <;> rfl)
            case hqA017x => exact fun _ _ _ h => h
            case hyA017x => exact Or.inr ⟨by kernel_rfl, rfl⟩
            try simp only [Act.put, List.setIfInBounds_toArray, List.set_cons_zero, List.set_cons_succ]
            refine wpAnyH_take (i := 18) (oi := ?oiA018x) (v := undef) ?hiA018x (by kernel_rfl) (by kernel_rfl) (by kernel_rfl) ?hqA018x ?hyA018x (by assumption) ?restA018x
            case hiA018x => (simp only [List.getElem?_toArray, List.getElem?_cons_succ, List.getElem?_cons_zero] <;> rfl)
            case hqA018x => exact fun _ _ _ h => h
            case hyA018x => exact Or.inr ⟨by kernel_rfl, rfl⟩
            try simp only [Act.put, List.setIfInBounds_toArray, List.set_cons_zero, List.set_cons_succ]
            refine wpAnyH_take (i := 19) (oi := ?oiA019x) (v := undef) ?hiA019x (by kernel_rfl) (by kernel_rfl) (by kernel_rfl) ?hqA019x ?hyA019x (by assumption) ?restA019x
            case hiA019x => (simp only [List.getElem?_toArray, List.getElem?_cons_succ, List.getElem?_cons_zero] <;> rfl)
            case hqA019x => exact fun _ _ _ h => h
            case hyA019x => exact Or.inr ⟨by kernel_rfl, rfl⟩
            try simp only [Act.put, List.setIfInBounds_toArray, List.set_cons_zero, List.set_cons_succ]
            refine wpAnyH_take (i := 20) (oi := ?oiA020x) (v := undef) ?hiA020x (by kernel_rfl) (by kernel_rfl) (by kernel_rfl) ?hqA020x ?hyA020x (by assumption) ?restA020x
            case hiA020x => (simp only [List.getElem?_toArray, List.getElem?_cons_succ, List.getElem?_cons_zero] <;> rfl)
            case hqA020x => exact fun _ _ _ h => h
            case hyA020x => exact Or.inr ⟨by kernel_rfl, rfl⟩
            try simp only [Act.put, List.setIfInBounds_toArray, List.set_cons_zero, List.set_cons_succ]
            refine wpAnyH_take (i := 21) (oi := ?oiA021x) (v := undef) ?hiA021x (by kernel_rfl) (by kernel_rfl) (by kernel_rfl) ?hqA021x ?hyA021x (by assumption) ?restA021x
            case hiA021x => (simp only [List.getElem?_toArray, List.getElem?_cons_succ, List.getElem?_cons_zero] <;> rfl)
            case hqA021x => exact fun _ _ _ h => h
            case hyA021x => exact Or.inr ⟨by kernel_rfl, rfl⟩
            try simp only [Act.put, List.setIfInBounds_toArray, List.set_cons_zero, List.set_cons_succ]
            refine wpAnyH_take (i := 22) (oi := ?oiA022x) (v := undef) ?hiA022x (by kernel_rfl) (by kernel_rfl) (by kernel_rfl) ?hqA022x ?hyA022x (by assumption) ?restA022x
            case hiA022x => (simp only [List.getElem?_toArray, List.getElem?_cons_succ, List.getElem?_cons_zero] <;> rfl)
            case hqA022x => exact fun _ _ _ h => h
            case hyA022x => exact Or.inr ⟨by kernel_rfl, rfl⟩
            try simp only [Act.put, List.setIfInBounds_toArray, List.set_cons_zero, List.set_cons_succ]
            refine wpAnyH_take (i := 23) (oi := ?oiA023x) (v := undef) ?hiA023x (by kernel_rfl) (by kernel_rfl) (by kernel_rfl) ?hqA023x ?hyA023x (by assumption) ?restA023x
            case hiA023x => (simp only [List.getElem?_toArray, List.getElem?_cons_succ, List.getElem?_cons_zero] <;> rfl)
            case hqA023x => exact fun _ _ _ h => h
            case hyA023x => exact Or.inr ⟨by kernel_rfl, rfl⟩
            try simp only [Act.put, List.setIfInBounds_toArray, List.set_cons_zero, List.set_cons_succ]
            refine wpAnyH_take (i := 24) (oi := ?oiA024x) (v := ?vA024x) ?hiA024x (by kernel_rfl) (by kernel_rfl) (by kernel_rfl) ?hqA024x ?hyA024x (by assumption) ?restA024x
            case hiA024x => (simp only [List.getElem?_toArray, List.getElem?_cons_succ, List.getElem?_cons_zero] <;> rfl)
            case hqA024x => exact fun _ _ _ h => h
            case hyA024x => exact Or.inl ⟨by rfl, by (intro wS hSw; have s0 := F0.out wS hSw; have s1 := F1.out wS hSw; go_simp; try with_reducible rfl)⟩
            try simp only [Act.put, List.setIfInBounds_toArray, List.set_cons_zero, List.set_cons_succ]
            refine wpAnyH_done (by kernel_rfl) ?_ _
            refine NoPanic.normal ?_
            go_wp2_with fail
            go_ret
            exact ⟨ret_bool HR.out.symm, BA.out.trans (Below.mono (by assumption : Lx wa _) (Nat.le_of_lt HSZ.out))⟩
          · have H2 := Lib.hid (H.out.step (by rw [GD.out]; exact hs) (fun h => by omega))
            have HS := Lib.hid hs
            clear hs H
            go_wp2_with fail
            refine wp_region_noPanic ?_
            refine wp_region_held_drew (S := fun w' => Lx wa w') (by kernel_rfl) (Lx.drew (by assumption)) (fun hHeld => ?_)
            refine wpAnyH_take (i := 0) (oi := ?oiB00x) (v := ?vB00x) ?hiB00x (by kernel_rfl) (by kernel_rfl) (by kernel_rfl) ?hqB00x ?hyB00x (by assumption) ?restB00x
            case hiB00x => (simp only [List.getElem?_toArray, List.getElem?_cons_zero] <;> rfl)
            case hqB00x => exact fun _ _ _ h => h
            case hyB00x => exact Or.inl ⟨by rfl, by (intro wS hSw; have s0 := F0.out wS hSw; have s1 := F1.out wS hSw; go_simp; try with_reducible rfl)⟩
            try simp only [Act.put, List.setIfInBounds_toArray, List.set_cons_zero, List.set_cons_succ]
            refine wpAnyH_take (i := 1) (oi := ?oiB01x) (v := ?vB01x) ?hiB01x (by kernel_rfl) (by kernel_rfl) (by kernel_rfl) ?hqB01x ?hyB01x (by assumption) ?restB01x
            case hiB01x => (simp only [List.getElem?_toArray, List.getElem?_cons_succ, List.getElem?_cons_zero] <;> rfl)
            case hqB01x => exact fun _ _ _ h => h
            case hyB01x => exact Or.inl ⟨by rfl, by (intro wS hSw; have s0 := F0.out wS hSw; have s1 := F1.out wS hSw; go_simp; try with_reducible rfl)⟩
            try simp only [Act.put, List.setIfInBounds_toArray, List.set_cons_zero, List.set_cons_succ]
            refine wpAnyH_take (i := 2) (oi := ?oiB02x) (v := ?vB02x) ?hiB02x (by kernel_rfl) (by kernel_rfl) (by kernel_rfl) ?hqB02x ?hyB02x (by assumption) ?restB02x
            case hiB02x => (simp only [List.getElem?_toArray, List.getElem?_cons_succ, List.getElem?_cons_zero] <;> rfl)
            case hqB02x => exact fun _ _ _ h => h
            case hyB02x => exact Or.inl ⟨by rfl, by (intro wS hSw; have s0 := F0.out wS hSw; have s1 := F1.out wS hSw; go_simp; try with_reducible rfl)⟩
            try simp only [Act.put, List.setIfInBounds_toArray, List.set_cons_zero, List.set_cons_succ]
            refine wpAnyH_take (i := 3) (oi := ?oiB03x) (v := ?vB03x) ?hiB03x (by kernel_rfl) (by kernel_rfl) (by kernel_rfl) ?hqB03x ?hyB03x (by assumption) ?restB03x
            case hiB03x => (simp only [List.getElem?_toArray, List.getElem?_cons_succ, List.getElem?_cons_zero] <;> rfl)
            case hqB03x => exact fun _ _ _ h => h
            case hyB03x => exact Or.inl ⟨by rfl, by (intro wS hSw; have s0 := F0.out wS hSw; have s1 := F1.out wS hSw; go_simp; try with_reducible rfl)⟩
            try simp only [Act.put, List.setIfInBounds_toArray, List.set_cons_zero, List.set_cons_succ]
            refine wpAnyH_take (i := 4) (oi := ?oiB04x) (v := ?vB04x) ?hiB04x (by kernel_rfl) (by kernel_rfl) (by kernel_rfl) ?hqB04x ?hyB04x (by assumption) ?restB04x
            case hiB04x => (simp only [List.getElem?_toArray, List.getElem?_cons_succ, List.getElem?_cons_zero] <;> rfl)
            case hqB04x => exact fun _ _ _ h => h
            case hyB04x => exact Or.inl ⟨by rfl, by (intro wS hSw; have s0 := F0.out wS hSw; have s1 := F1.out wS hSw; go_simp; try with_reducible rfl)⟩
            try simp only [Act.put, List.setIfInBounds_toArray, List.set_cons_zero, List.set_cons_succ]
            refine wpAnyH_ready (rs := [5]) (by kernel_rfl) (by simp) ?_
            refine AllReadyH.cons (o := ?oiB05x) ?hiB05x (fun K hK => ?hsB05x) AllReadyH.nil
            case hiB05x => (simp only [List.getElem?_toArray, List.getElem?_cons_succ, List.getElem?_cons_zero] <;> rfl)
            go_simp
            refine (isSub_ref x _).mono ?_
            rintro e w3 ⟨rfl, b3⟩
            rw [HS.out]
            have hG3 : Lx wa w3 := Lx.step (by assumption) b3
            go_wp2_with fail
            refine hK.out _ _ hG3 (fun hHeld3 => ?_)
            clear hK K
            try simp only [Act.put, List.setIfInBounds_toArray, List.set_cons_zero, List.set_cons_succ]
            refine wpAnyH_take (i := 6) (oi := ?oiB06x) (v := ?vB06x) ?hiB06x (by kernel_rfl) (by kernel_rfl) (by kernel_rfl) ?hqB06x ?hyB06x (by assumption) ?restB06x
            case hiB06x => (simp only [List.getElem?_toArray, List.getElem?_cons_succ, List.getElem?_cons_zero] <;> rfl)
            case hqB06x => exact fun _ _ _ h => h
            case hyB06x => exact Or.inl ⟨by rfl, by (intro wS hSw; have s0 := F0.out wS hSw; have s1 := F1.out wS hSw; go_simp; try with_reducible rfl)⟩
            try simp only [Act.put, List.setIfInBounds_toArray, List.set_cons_zero, List.set_cons_succ]
            refine wpAnyH_take (i := 7) (oi := ?oiB07x) (v := ?vB07x) ?hiB07x (by kernel_rfl) (by kernel_rfl) (by kernel_rfl) ?hqB07x ?hyB07x (by assumption) ?restB07x
            case hiB07x => (simp only [List.getElem?_toArray, List.getElem?_cons_succ, List.getElem?_cons_zero] <;> rfl)
            case hqB07x => exact fun _ _ _ h => h
            case hyB07x => exact Or.inl ⟨by rfl, by (intro wS hSw; have s0 := F0.out wS hSw; have s1 := F1.out wS hSw; go_simp; try with_reducible rfl)⟩
            try simp only [Act.put, List.setIfInBounds_toArray, List.set_cons_zero, List.set_cons_succ]
            refine wpAnyH_take (i := 8) (oi := ?oiB08x) (v := ?vB08x) ?hiB08x (by kernel_rfl) (by kernel_rfl) (by kernel_rfl) ?hqB08x ?hyB08x (by assumption) ?restB08x
            case hiB08x => (simp only [List.getElem?_toArray, List.getElem?_cons_succ, List.getElem?_cons_zero] <;> rfl)
            case hqB08x => exact fun _ _ _ h => h
            case hyB08x => exact Or.inl ⟨by rfl, by (intro wS hSw; have s0 := F0.out wS hSw; have s1 := F1.out wS hSw; go_simp; try with_reducible rfl)⟩
            try simp only [Act.put, List.setIfInBounds_toArray, List.set_cons_zero, List.set_cons_succ]
            refine wpAnyH_take (i := 9) (oi := ?oiB09x) (v := ?vB09x) ?hiB09x (by kernel_rfl) (by kernel_rfl) (by kernel_rfl) ?hqB09x ?hyB09x (by assumption) ?restB09x
            case hiB09x => (simp only [List.getElem?_toArray, List.getElem?_cons_succ, List.getElem?_cons_zero] <;> rfl)
            case hqB09x => exact fun _ _ _ h => h
            case hyB09x => exact Or.inl ⟨by rfl, by (intro wS hSw; have s0 := F0.out wS hSw; have s1 := F1.out wS hSw; go_simp; try with_reducible rfl)⟩
            try simp only [Act.put, List.setIfInBounds_toArray, List.set_cons_zero, List.set_cons_succ]
            refine wpAnyH_take (i := 10) (oi := ?oiB010x) (v := ?vB010x) ?hiB010x (by kernel_rfl) (by kernel_rfl) (by kernel_rfl) ?hqB010x ?hyB010x (by assumption) ?restB010x
            case hiB010x => (simp only [List.getElem?_toArray, List.getElem?_cons_succ, List.getElem?_cons_zero] <;> rfl)
            case hqB010x => exact fun _ _ _ h => h
            case hyB010x => exact Or.inl ⟨by rfl, by (intro wS hSw; have s0 := F0.out wS hSw; have s1 := F1.out wS hSw; go_simp; try with_reducible rfl)⟩
            try simp only [Act.put, List.setIfInBounds_toArray, List.set_cons_zero, List.set_cons_succ]
            refine wpAnyH_take (i := 11) (oi := ?oiB011x) (v := undef) ?hiB011x (by kernel_rfl) (by kernel_rfl) (by kernel_rfl) ?hqB011x ?hyB011x (by assumption) ?restB011x
            case hiB011x => (simp only [List.getElem?_toArray, List.getElem?_cons_succ, List.getElem?_cons_zero] <;> rfl)
            case hqB011x => exact fun _ _ _ h => h
            case hyB011x => exact Or.inr ⟨by kernel_rfl, rfl⟩
            try simp only [Act.put, List.setIfInBounds_toArray, List.set_cons_zero, List.set_cons_succ]
            refine wpAnyH_take (i := 12) (oi := ?oiB012x) (v := undef) ?hiB012x (by kernel_rfl) (by kernel_rfl) (by kernel_rfl) ?hqB012x ?hyB012x (by assumption) ?restB012x
            case hiB012x => (simp only [List.getElem?_toArray, List.getElem?_cons_succ, List.getElem?_cons_zero] <;> rfl)
            case hqB012x => exact fun _ _ _ h => h
            case hyB012x => exact Or.inr ⟨by kernel_rfl, rfl⟩
            try simp only [Act.put, List.setIfInBounds_toArray, List.set_cons_zero, List.set_cons_succ]
            refine wpAnyH_take (i := 13) (oi := ?oiB013x) (v := undef) ?hiB013x (by kernel_rfl) (by kernel_rfl) (by kernel_rfl) ?hqB013x ?hyB013x (by assumption) ?restB013x
            case hiB013x => (simp only [List.getElem?_toArray, List.getElem?_cons_succ, List.getElem?_cons_zero] <;> rfl)
            case hqB013x => exact fun _ _ _ h => h
            case hyB013x => exact Or.inr ⟨by kernel_rfl, rfl⟩
            try simp only [Act.put, List.setIfInBounds_toArray, List.set_cons_zero, List.set_cons_succ]
            refine wpAnyH_take (i := 14) (oi := ?oiB014x) (v := undef) ?hiB014x (by kernel_rfl) (by kernel_rfl) (by kernel_rfl) ?hqB014x ?hyB014x (by assumption) ?restB014x
            case hiB014x => (simp only [List.getElem?_toArray, List.getElem?_cons_succ, List.getElem?_cons_zero] <;> rfl)
            case hqB014x => exact fun _ _ _ h => h
            case hyB014x => exact Or.inr ⟨by kernel_rfl, rfl⟩
            try simp only [Act.put, List.setIfInBounds_toArray, List.set_cons_zero, List.set_cons_succ]
            refine wpAnyH_take (i := 15) (oi := ?oiB015x) (v := undef) ?hiB015x (by kernel_rfl) (by kernel_rfl) (by kernel_rfl) ?hqB015x ?hyB015x (by assumption) ?restB015x
            case hiB015x => (simp only [List.getElem?_toArray, List.getElem?_cons_succ, List.getElem?_cons_zero] <;> rfl)
            case hqB015x => exact fun _ _ _ h => h
            case hyB015x => exact Or.inr ⟨by kernel_rfl, rfl⟩
            try simp only [Act.put, List.setIfInBounds_toArray, List.set_cons_zero, List.set_cons_succ]
            refine wpAnyH_take (i := 16) (oi := ?oiB016x) (v := undef) ?hiB016x (by kernel_rfl) (by kernel_rfl) (by kernel_rfl) ?hqB016x ?hyB016x (by assumption) ?restB016x
            case hiB016x => (simp only [List.getElem?_toArray, List.getElem?_cons_succ, List.getElem?_cons_zero] <;> rfl)
            case hqB016x => exact fun _ _ _ h => h
            case hyB016x => exact Or.inr ⟨by kernel_rfl, rfl⟩
            try simp only [Act.put, List.setIfInBounds_toArray, List.set_cons_zero, List.set_cons_succ]
            refine wpAnyH_take (i := 17) (oi := ?oiB017x) (v := undef) ?hiB017x (by kernel_rfl) (by kernel_rfl) (by kernel_rfl) ?hqB017x ?hyB017x (by assumption) ?restB017x
            case hiB017x => (simp only [List.getElem?_toArray, List.getElem?_cons_succ, List.getElem?_cons_zero] <;> rfl)
            case hqB017x => exact fun _ _ _ h => h
            case hyB017x => exact Or.inr ⟨by kernel_rfl, rfl⟩
            try simp only [Act.put, List.setIfInBounds_toArray, List.set_cons_zero, List.set_cons_succ]
            refine wpAnyH_take (i := 18) (oi := ?oiB018x) (v := undef) ?hiB018x (by kernel_rfl) (by kernel_rfl) (by kernel_rfl) ?hqB018x ?hyB018x (by assumption) ?restB018x
            case hiB018x => (simp only [List.getElem?_toArray, List.getElem?_cons_succ, List.getElem?_cons_zero] <;> rfl)
            case hqB018x => exact fun _ _ _ h => h
            case hyB018x => exact Or.inr ⟨by kernel_rfl, rfl⟩
            try simp only [Act.put, List.setIfInBounds_toArray, List.set_cons_zero, List.set_cons_succ]
            refine wpAnyH_take (i := 19) (oi := ?oiB019x) (v := undef) ?hiB019x (by kernel_rfl) (by kernel_rfl) (by kernel_rfl) ?hqB019x ?hyB019x (by assumption) ?restB019x
            case hiB019x => (simp only [List.getElem?_toArray, List.getElem?_cons_succ, List.getElem?_cons_zero] <;> rfl)
            case hqB019x => exact fun _ _ _ h => h
            case hyB019x => exact Or.inr ⟨by kernel_rfl, rfl⟩
            try simp only [Act.put, List.setIfInBounds_toArray, List.set_cons_zero, List.set_cons_succ]
            refine wpAnyH_take (i := 20) (oi := ?oiB020x) (v := undef) ?hiB020x (by kernel_rfl) (by kernel_rfl) (by kernel_rfl) ?hqB020x ?hyB020x (by assumption) ?restB020x
            case hiB020x => (simp only [List.getElem?_toArray, List.getElem?_cons_succ, List.getElem?_cons_zero] <;> rfl)
            case hqB020x => exact fun _ _ _ h => h
            case hyB020x => exact Or.inr ⟨by kernel_rfl, rfl⟩
            try simp only [Act.put, List.setIfInBounds_toArray, List.set_cons_zero, List.set_cons_succ]
            refine wpAnyH_take (i := 21) (oi := ?oiB021x) (v := undef) ?hiB021x (by kernel_rfl) (by kernel_rfl) (by kernel_rfl) ?hqB021x ?hyB021x (by assumption) ?restB021x
            case hiB021x => (simp only [List.getElem?_toArray, List.getElem?_cons_succ, List.getElem?_cons_zero] <;> rfl)
            case hqB021x => exact fun _ _ _ h => h
            case hyB021x => exact Or.inr ⟨by kernel_rfl, rfl⟩
            try simp only [Act.put, List.setIfInBounds_toArray, List.set_cons_zero, List.set_cons_succ]
            refine wpAnyH_take (i := 22) (oi := ?oiB022x) (v := undef) ?hiB022x (by kernel_rfl) (by kernel_rfl) (by kernel_rfl) ?hqB022x ?hyB022x (by assumption) ?restB022x
            case hiB022x => (simp only [List.getElem?_toArray, List.getElem?_cons_succ, List.getElem?_cons_zero] <;> rfl)
            case hqB022x => exact fun _ _ _ h => h
            case hyB022x => exact Or.inr ⟨by kernel_rfl, rfl⟩
            try simp only [Act.put, List.setIfInBounds_toArray, List.set_cons_zero, List.set_cons_succ]
            refine wpAnyH_take (i := 23) (oi := ?oiB023x) (v := ?vB023x) ?hiB023x (by kernel_rfl) (by kernel_rfl) (by kernel_rfl) ?hqB023x ?hyB023x (by assumption) ?restB023x
            case hiB023x => (simp only [List.getElem?_toArray, List.getElem?_cons_succ, List.getElem?_cons_zero] <;> rfl)
            case hqB023x => exact fun _ _ _ h => h
            case hyB023x => exact Or.inl ⟨by rfl, by (intro wS hSw; have s0 := F0.out wS hSw; have s1 := F1.out wS hSw; go_simp; try with_reducible rfl)⟩
            try simp only [Act.put, List.setIfInBounds_toArray, List.set_cons_zero, List.set_cons_succ]
            refine wpAnyH_take (i := 24) (oi := ?oiB024x) (v := ?vB024x) ?hiB024x (by kernel_rfl) (by kernel_rfl) (by kernel_rfl) ?hqB024x ?hyB024x (by assumption) ?restB024x
            case hiB024x => (simp only [List.getElem?_toArray, List.getElem?_cons_succ, List.getElem?_cons_zero] <;> rfl)
            case hqB024x => exact fun _ _ _ h => h
            case hyB024x => exact Or.inl ⟨by rfl, by (intro wS hSw; have s0 := F0.out wS hSw; have s1 := F1.out wS hSw; go_simp; try with_reducible rfl)⟩
            try simp only [Act.put, List.setIfInBounds_toArray, List.set_cons_zero, List.set_cons_succ]
            refine wpAnyH_done (by kernel_rfl) ?_ _
            refine NoPanic.normal ?_
            go_wp2_with fail
            go_roundw
            case rel => exact ⟨1, by omega, by go_num, H2, Lib.hid (by assumption), F0.out _ (by assumption)⟩
            case measure => simp [intOf]; omega
        · obtain ⟨m, rfl⟩ : ∃ m, k = m + 1 := ⟨k - 1, by omega⟩
          have g1 := hc m xs[m] (by simp)
          have gd1 := getS_at xs m (by omega)
          obtain ⟨x, hxx⟩ : ∃ x, x = xs[m + 1] := ⟨_, rfl⟩
          obtain ⟨y, hyy⟩ : ∃ y, y = xs[m] := ⟨_, rfl⟩
          rw [← hxx] at g0 gd0
          rw [← hyy] at g1 gd1
          have GD := Lib.hid gd0
          have GD1 := Lib.hid gd1
          have F1 := Lib.hid (fun w' (h : Lx wa w') => (Below.cell h (p := ⟨b, o + (m + 1), none⟩) hb).trans g0)
          have F2 := Lib.hid (fun w' (h : Lx wa w') => (Below.cell h (p := ⟨b, o + m, none⟩) hb).trans g1)
          have i0 : (0 : Int) ≤ (m : Int) := by omega
          have i1 : (m : Int) < (xs.length : Int) := by omega
          have i2 : (m : Int) + 1 < (xs.length : Int) := by omega
          have i3 : (0 : Int) ≤ (m : Int) + 1 := by omega
          have i4 : IntKind.i64.wrap (m : Int) = (m : Int) := by rw [IntKind.wrap_i64]; omega
          clear hc hxx hyy gd0 gd1 g0 g1 hcap hb h0
          cases hs : isSub x
          · have HR := Lib.hid (isL_bad (su := su) (ty := (tn : Int)) hlt (by rw [GD.out, hs]; simp))
            have HS := Lib.hid hs
            clear hs
            go_wp2_with fail
            refine wp_region_noPanic ?_
            refine wp_region_held_drew (S := fun w' => Lx wa w') (by kernel_rfl) (Lx.drew (by assumption)) (fun hHeld => ?_)
            refine wpAnyH_take (i := 0) (oi := ?oiA10x) (v := ?vA10x) ?hiA10x (by kernel_rfl) (by kernel_rfl) (by kernel_rfl) ?hqA10x ?hyA10x (by assumption) ?restA10x
            case hiA10x => (simp only [List.getElem?_toArray, List.getElem?_cons_zero] <;> rfl)
            case hqA10x => exact fun _ _ _ h => h
            case hyA10x => exact Or.inl ⟨by rfl, by (intro wS hSw; have s0 := F0.out wS hSw; have s1 := F1.out wS hSw; go_simp; try with_reducible rfl)⟩
            try simp only [Act.put, List.setIfInBounds_toArray, List.set_cons_zero, List.set_cons_succ]
            refine wpAnyH_take (i := 1) (oi := ?oiA11x) (v := ?vA11x) ?hiA11x (by kernel_rfl) (by kernel_rfl) (by kernel_rfl) ?hqA11x ?hyA11x (by assumption) ?restA11x
            case hiA11x => (simp only [List.getElem?_toArray, List.getElem?_cons_succ, List.getElem?_cons_zero] <;> rfl)
            case hqA11x => exact fun _ _ _ h => h
            case hyA11x => exact Or.inl ⟨by rfl, by (intro wS hSw; have s0 := F0.out wS hSw; have s1 := F1.out wS hSw; go_simp; try with_reducible rfl)⟩
            try simp only [Act.put, List.setIfInBounds_toArray, List.set_cons_zero, List.set_cons_succ]
            refine wpAnyH_take (i := 2) (oi := ?oiA12x) (v := ?vA12x) ?hiA12x (by kernel_rfl) (by kernel_rfl) (by kernel_rfl) ?hqA12x ?hyA12x (by assumption) ?restA12x
            case hiA12x => (simp only [List.getElem?_toArray, List.getElem?_cons_succ, List.getElem?_cons_zero] <;> rfl)
            case hqA12x => exact fun _ _ _ h => h
            case hyA12x => exact Or.inl ⟨by rfl, by (intro wS hSw; have s0 := F0.out wS hSw; have s1 := F1.out wS hSw; go_simp; try with_reducible rfl)⟩
            try simp only [Act.put, List.setIfInBounds_toArray, List.set_cons_zero, List.set_cons_succ]
            refine wpAnyH_take (i := 3) (oi := ?oiA13x) (v := ?vA13x) ?hiA13x (by kernel_rfl) (by kernel_rfl) (by kernel_rfl) ?hqA13x ?hyA13x (by assumption) ?restA13x
            case hiA13x => (simp only [List.getElem?_toArray, List.getElem?_cons_succ, List.getElem?_cons_zero] <;> rfl)
            case hqA13x => exact fun _ _ _ h => h
            case hyA13x => exact Or.inl ⟨by rfl, by (intro wS hSw; have s0 := F0.out wS hSw; have s1 := F1.out wS hSw; go_simp; try with_reducible rfl)⟩
            try simp only [Act.put, List.setIfInBounds_toArray, List.set_cons_zero, List.set_cons_succ]
            refine wpAnyH_take (i := 4) (oi := ?oiA14x) (v := ?vA14x) ?hiA14x (by kernel_rfl) (by kernel_rfl) (by kernel_rfl) ?hqA14x ?hyA14x (by assumption) ?restA14x
            case hiA14x => (simp only [List.getElem?_toArray, List.getElem?_cons_succ, List.getElem?_cons_zero] <;> rfl)
            case hqA14x => exact fun _ _ _ h => h
            case hyA14x => exact Or.inl ⟨by rfl, by (intro wS hSw; have s0 := F0.out wS hSw; have s1 := F1.out wS hSw; go_simp; try with_reducible rfl)⟩
            try simp only [Act.put, List.setIfInBounds_toArray, List.set_cons_zero, List.set_cons_succ]
            refine wpAnyH_ready (rs := [5]) (by kernel_rfl) (by simp) ?_
            refine AllReadyH.cons (o := ?oiA15x) ?hiA15x (fun K hK => ?hsA15x) AllReadyH.nil
            case hiA15x => (simp only [List.getElem?_toArray, List.getElem?_cons_succ, List.getElem?_cons_zero] <;> rfl)
            go_simp
            refine (isSub_ref x _).mono ?_
            rintro e w3 ⟨rfl, b3⟩
            rw [HS.out]
            have hG3 : Lx wa w3 := Lx.step (by assumption) b3
            go_wp2_with fail
            refine hK.out _ _ hG3 (fun hHeld3 => ?_)
            clear hK K
            try simp only [Act.put, List.setIfInBounds_toArray, List.set_cons_zero, List.set_cons_succ]
            refine wpAnyH_take (i := 6) (oi := ?oiA16x) (v := ?vA16x) ?hiA16x (by kernel_rfl) (by kernel_rfl) (by kernel_rfl) ?hqA16x ?hyA16x (by assumption) ?restA16x
            case hiA16x => (simp only [List.getElem?_toArray, List.getElem?_cons_succ, List.getElem?_cons_zero] <;> rfl)
            case hqA16x => exact fun _ _ _ h => h
            case hyA16x => exact Or.inl ⟨by rfl, by (intro wS hSw; have s0 := F0.out wS hSw; have s1 := F1.out wS hSw; go_simp; try with_reducible rfl)⟩
            try simp only [Act.put, List.setIfInBounds_toArray, List.set_cons_zero, List.set_cons_succ]
            refine wpAnyH_take (i := 7) (oi := ?oiA17x) (v := ?vA17x) ?hiA17x (by kernel_rfl) (by kernel_rfl) (by kernel_rfl) ?hqA17x ?hyA17x (by assumption) ?restA17x
            case hiA17x => (simp only [List.getElem?_toArray, List.getElem?_cons_succ, List.getElem?_cons_zero] <;> rfl)
            case hqA17x => exact fun _ _ _ h => h
            case hyA17x => exact Or.inl ⟨by rfl, by (intro wS hSw; have s0 := F0.out wS hSw; have s1 := F1.out wS hSw; go_simp; try with_reducible rfl)⟩
            try simp only [Act.put, List.setIfInBounds_toArray, List.set_cons_zero, List.set_cons_succ]
            refine wpAnyH_take (i := 8) (oi := ?oiA18x) (v := undef) ?hiA18x (by kernel_rfl) (by kernel_rfl) (by kernel_rfl) ?hqA18x ?hyA18x (by assumption) ?restA18x
            case hiA18x => (simp only [List.getElem?_toArray, List.getElem?_cons_succ, List.getElem?_cons_zero] <;> rfl)
            case hqA18x => exact fun _ _ _ h => h
            case hyA18x => exact Or.inr ⟨by kernel_rfl, rfl⟩
            try simp only [Act.put, List.setIfInBounds_toArray, List.set_cons_zero, List.set_cons_succ]
            refine wpAnyH_take (i := 9) (oi := ?oiA19x) (v := undef) ?hiA19x (by kernel_rfl) (by kernel_rfl) (by kernel_rfl) ?hqA19x ?hyA19x (by assumption) ?restA19x
            case hiA19x => (simp only [List.getElem?_toArray, List.getElem?_cons_succ, List.getElem?_cons_zero] <;> rfl)
            case hqA19x => exact fun _ _ _ h => h
            case hyA19x => exact Or.inr ⟨by kernel_rfl, rfl⟩
            try simp only [Act.put, List.setIfInBounds_toArray, List.set_cons_zero, List.set_cons_succ]
            refine wpAnyH_take (i := 10) (oi := ?oiA110x) (v := undef) ?hiA110x (by kernel_rfl) (by kernel_rfl) (by kernel_rfl) ?hqA110x ?hyA110x (by assumption) ?restA110x
            case hiA110x => (simp only [List.getElem?_toArray, List.getElem?_cons_succ, List.getElem?_cons_zero] <;> rfl)
            case hqA110x => exact fun _ _ _ h => h
            case hyA110x => exact Or.inr ⟨by kernel_rfl, rfl⟩
            try simp only [Act.put, List.setIfInBounds_toArray, List.set_cons_zero, List.set_cons_succ]
            refine wpAnyH_take (i := 11) (oi := ?oiA111x) (v := undef) ?hiA111x (by kernel_rfl) (by kernel_rfl) (by kernel_rfl) ?hqA111x ?hyA111x (by assumption) ?restA111x
            case hiA111x => (simp only [List.getElem?_toArray, List.getElem?_cons_succ, List.getElem?_cons_zero] <;> rfl)
            case hqA111x => exact fun _ _ _ h => h
            case hyA111x => exact Or.inr ⟨by kernel_rfl, rfl⟩
            try simp only [Act.put, List.setIfInBounds_toArray, List.set_cons_zero, List.set_cons_succ]
            refine wpAnyH_take (i := 12) (oi := ?oiA112x) (v := undef) ?hiA112x (by kernel_rfl) (by kernel_rfl) (by kernel_rfl) ?hqA112x ?hyA112x (by assumption) ?restA112x
            case hiA112x => (simp only [List.getElem?_toArray, List.getElem?_cons_succ, List.getElem?_cons_zero] <;> rfl)
            case hqA112x => exact fun _ _ _ h => h
            case hyA112x => exact Or.inr ⟨by kernel_rfl, rfl⟩
            try simp only [Act.put, List.setIfInBounds_toArray, List.set_cons_zero, List.set_cons_succ]
            refine wpAnyH_take (i := 13) (oi := ?oiA113x) (v := undef) ?hiA113x (by kernel_rfl) (by kernel_rfl) (by kernel_rfl) ?hqA113x ?hyA113x (by assumption) ?restA113x
            case hiA113x => (simp only [List.getElem?_toArray, List.getElem?_cons_succ, List.getElem?_cons_zero] <;> rfl)
            case hqA113x => exact fun _ _ _ h => h
            case hyA113x => exact Or.inr ⟨by kernel_rfl, rfl⟩
            try simp only [Act.put, List.setIfInBounds_toArray, List.set_cons_zero, List.set_cons_succ]
            refine wpAnyH_take (i := 14) (oi := ?oiA114x) (v := undef) ?hiA114x (by kernel_rfl) (by kernel_rfl) (by kernel_rfl) ?hqA114x ?hyA114x (by assumption) ?restA114x
            case hiA114x => (simp only [List.getElem?_toArray, List.getElem?_cons_succ, List.getElem?_cons_zero] <;> rfl)
            case hqA114x => exact fun _ _ _ h => h
            case hyA114x => exact Or.inr ⟨by kernel_rfl, rfl⟩
            try simp only [Act.put, List.setIfInBounds_toArray, List.set_cons_zero, List.set_cons_succ]
            refine wpAnyH_take (i := 15) (oi := ?oiA115x) (v := undef) ?hiA115x (by kernel_rfl) (by kernel_rfl) (by kernel_rfl) ?hqA115x ?hyA115x (by assumption) ?restA115x
            case hiA115x => (simp only [List.getElem?_toArray, List.getElem?_cons_succ, List.getElem?_cons_zero] <;> rfl)
            case hqA115x => exact fun _ _ _ h => h
            case hyA115x => exact Or.inr ⟨by kernel_rfl, rfl⟩
            try simp only [Act.put, List.setIfInBounds_toArray, List.set_cons_zero, List.set_cons_succ]
            refine wpAnyH_take (i := 16) (oi := ?oiA116x) (v := undef) ?hiA116x (by kernel_rfl) (by kernel_rfl) (by kernel_rfl) ?hqA116x ?hyA116x (by assumption) ?restA116x
            case hiA116x => (simp only [List.getElem?_toArray, List.getElem?_cons_succ, List.getElem?_cons_zero] <;> rfl)
            case hqA116x => exact fun _ _ _ h => h
            case hyA116x => exact Or.inr ⟨by kernel_rfl, rfl⟩
            try simp only [Act.put, List.setIfInBounds_toArray, List.set_cons_zero, List.set_cons_succ]
            refine wpAnyH_take (i := 17) (oi := ?oiA117x) (v := undef) ?hiA117x (by kernel_rfl) (by kernel_rfl) (by kernel_rfl) ?hqA117x ?hyA117x (by assumption) ?restA117x
            case hiA117x => (simp only [List.getElem?_toArray, List.getElem?_cons_succ, List.getElem?_cons_zero] <;> rfl)
            case hqA117x => exact fun _ _ _ h => h
            case hyA117x => exact Or.inr ⟨by kernel_rfl, rfl⟩
            try simp only [Act.put, List.setIfInBounds_toArray, List.set_cons_zero, List.set_cons_succ]
            refine wpAnyH_take (i := 18) (oi := ?oiA118x) (v := undef) ?hiA118x (by kernel_rfl) (by kernel_rfl) (by kernel_rfl) ?hqA118x ?hyA118x (by assumption) ?restA118x
            case hiA118x => (simp only [List.getElem?_toArray, List.getElem?_cons_succ, List.getElem?_cons_zero] <;> rfl)
            case hqA118x => exact fun _ _ _ h => h
            case hyA118x => exact Or.inr ⟨by kernel_rfl, rfl⟩
            try simp only [Act.put, List.setIfInBounds_toArray, List.set_cons_zero, List.set_cons_succ]
            refine wpAnyH_take (i := 19) (oi := ?oiA119x) (v := undef) ?hiA119x (by kernel_rfl) (by kernel_rfl) (by kernel_rfl) ?hqA119x ?hyA119x (by assumption) ?restA119x
            case hiA119x => (simp only [List.getElem?_toArray, List.getElem?_cons_succ, List.getElem?_cons_zero] <;> rfl)
            case hqA119x => exact fun _ _ _ h => h
            case hyA119x => exact Or.inr ⟨by kernel_rfl, rfl⟩
            try simp only [Act.put, List.setIfInBounds_toArray, List.set_cons_zero, List.set_cons_succ]
            refine wpAnyH_take (i := 20) (oi := ?oiA120x) (v := undef) ?hiA120x (by kernel_rfl) (by kernel_rfl) (by kernel_rfl) ?hqA120x ?hyA120x (by assumption) ?restA120x
            case hiA120x => (simp only [List.getElem?_toArray, List.getElem?_cons_succ, List.getElem?_cons_zero] <;> rfl)
            case hqA120x => exact fun _ _ _ h => h
            case hyA120x => exact Or.inr ⟨by kernel_rfl, rfl⟩
            try simp only [Act.put, List.setIfInBounds_toArray, List.set_cons_zero, List.set_cons_succ]
            refine wpAnyH_take (i := 21) (oi := ?oiA121x) (v := undef) ?hiA121x (by kernel_rfl) (by kernel_rfl) (by kernel_rfl) ?hqA121x ?hyA121x (by assumption) ?restA121x
            case hiA121x => (simp only [List.getElem?_toArray, List.getElem?_cons_succ, List.getElem?_cons_zero] <;> rfl)
            case hqA121x => exact fun _ _ _ h => h
            case hyA121x => exact Or.inr ⟨by kernel_rfl, rfl⟩
            try simp only [Act.put, List.setIfInBounds_toArray, List.set_cons_zero, List.set_cons_succ]
            refine wpAnyH_take (i := 22) (oi := ?oiA122x) (v := undef) ?hiA122x (by kernel_rfl) (by kernel_rfl) (by kernel_rfl) ?hqA122x ?hyA122x (by assumption) ?restA122x
            case hiA122x => (simp only [List.getElem?_toArray, List.getElem?_cons_succ, List.getElem?_cons_zero] <;> rfl)
            case hqA122x => exact fun _ _ _ h => h
            case hyA122x => exact Or.inr ⟨by kernel_rfl, rfl⟩
            try simp only [Act.put, List.setIfInBounds_toArray, List.set_cons_zero, List.set_cons_succ]
            refine wpAnyH_take (i := 23) (oi := ?oiA123x) (v := undef) ?hiA123x (by kernel_rfl) (by kernel_rfl) (by kernel_rfl) ?hqA123x ?hyA123x (by assumption) ?restA123x
            case hiA123x => (simp only [List.getElem?_toArray, List.getElem?_cons_succ, List.getElem?_cons_zero] <;> rfl)
            case hqA123x => exact fun _ _ _ h => h
            case hyA123x => exact Or.inr ⟨by kernel_rfl, rfl⟩
            try simp only [Act.put, List.setIfInBounds_toArray, List.set_cons_zero, List.set_cons_succ]
            refine wpAnyH_take (i := 24) (oi := ?oiA124x) (v := ?vA124x) ?hiA124x (by kernel_rfl) (by kernel_rfl) (by kernel_rfl) ?hqA124x ?hyA124x (by assumption) ?restA124x
            case hiA124x => (simp only [List.getElem?_toArray, List.getElem?_cons_succ, List.getElem?_cons_zero] <;> rfl)
            case hqA124x => exact fun _ _ _ h => h
            case hyA124x => exact Or.inl ⟨by rfl, by (intro wS hSw; have s0 := F0.out wS hSw; have s1 := F1.out wS hSw; go_simp; try with_reducible rfl)⟩
            try simp only [Act.put, List.setIfInBounds_toArray, List.set_cons_zero, List.set_cons_succ]
            refine wpAnyH_done (by kernel_rfl) ?_ _
            refine NoPanic.normal ?_
            go_wp2_with fail
            go_ret
            exact ⟨ret_bool HR.out.symm, BA.out.trans (Below.mono (by assumption : Lx wa _) (Nat.le_of_lt HSZ.out))⟩
          · have HS := Lib.hid hs
            cases hl : ltS y x
            · have HR := Lib.hid (isL_bad (su := su) (ty := (tn : Int)) hlt (by rw [show m + 1 - 1 = m by omega, GD.out, GD1.out, hl]; simp))
              have hbl : Op.bytesLess y.toList x.toList = false := hl
              clear hs hl
              go_wp2_with fail
              refine wp_region_noPanic ?_
              refine wp_region_held_drew (S := fun w' => Lx wa w') (by kernel_rfl) (Lx.drew (by assumption)) (fun hHeld => ?_)
              refine wpAnyH_take (i := 0) (oi := ?oiC00x) (v := ?vC00x) ?hiC00x (by kernel_rfl) (by kernel_rfl) (by kernel_rfl) ?hqC00x ?hyC00x (by assumption) ?restC00x
              case hiC00x => (simp only [List.getElem?_toArray, List.getElem?_cons_zero] <;> rfl)
              case hqC00x => exact fun _ _ _ h => h
              case hyC00x => exact Or.inl ⟨by rfl, by (intro wS hSw; have s0 := F0.out wS hSw; have s1 := F1.out wS hSw; have s2 := F2.out wS hSw; go_simp; try with_reducible rfl)⟩
              try simp only [Act.put, List.setIfInBounds_toArray, List.set_cons_zero, List.set_cons_succ]
              refine wpAnyH_take (i := 1) (oi := ?oiC01x) (v := ?vC01x) ?hiC01x (by kernel_rfl) (by kernel_rfl) (by kernel_rfl) ?hqC01x ?hyC01x (by assumption) ?restC01x
              case hiC01x => (simp only [List.getElem?_toArray, List.getElem?_cons_succ, List.getElem?_cons_zero] <;> rfl)
              case hqC01x => exact fun _ _ _ h => h
              case hyC01x => exact Or.inl ⟨by rfl, by (intro wS hSw; have s0 := F0.out wS hSw; have s1 := F1.out wS hSw; have s2 := F2.out wS hSw; go_simp; try with_reducible rfl)⟩
              try simp only [Act.put, List.setIfInBounds_toArray, List.set_cons_zero, List.set_cons_succ]
              refine wpAnyH_take (i := 2) (oi := ?oiC02x) (v := ?vC02x) ?hiC02x (by kernel_rfl) (by kernel_rfl) (by kernel_rfl) ?hqC02x ?hyC02x (by assumption) ?restC02x
              case hiC02x => (simp only [List.getElem?_toArray, List.getElem?_cons_succ, List.getElem?_cons_zero] <;> rfl)
              case hqC02x => exact fun _ _ _ h => h
              case hyC02x => exact Or.inl ⟨by rfl, by (intro wS hSw; have s0 := F0.out wS hSw; have s1 := F1.out wS hSw; have s2 := F2.out wS hSw; go_simp; try with_reducible rfl)⟩
              try simp only [Act.put, List.setIfInBounds_toArray, List.set_cons_zero, List.set_cons_succ]
              refine wpAnyH_take (i := 3) (oi := ?oiC03x) (v := ?vC03x) ?hiC03x (by kernel_rfl) (by kernel_rfl) (by kernel_rfl) ?hqC03x ?hyC03x (by assumption) ?restC03x
              case hiC03x => (simp only [List.getElem?_toArray, List.getElem?_cons_succ, List.getElem?_cons_zero] <;> rfl)
              case hqC03x => exact fun _ _ _ h => h
              case hyC03x => exact Or.inl ⟨by rfl, by (intro wS hSw; have s0 := F0.out wS hSw; have s1 := F1.out wS hSw; have s2 := F2.out wS hSw; go_simp; try with_reducible rfl)⟩
              try simp only [Act.put, List.setIfInBounds_toArray, List.set_cons_zero, List.set_cons_succ]
              refine wpAnyH_take (i := 4) (oi := ?oiC04x) (v := ?vC04x) ?hiC04x (by kernel_rfl) (by kernel_rfl) (by kernel_rfl) ?hqC04x ?hyC04x (by assumption) ?restC04x
              case hiC04x => (simp only [List.getElem?_toArray, List.getElem?_cons_succ, List.getElem?_cons_zero] <;> rfl)
              case hqC04x => exact fun _ _ _ h => h
              case hyC04x => exact Or.inl ⟨by rfl, by (intro wS hSw; have s0 := F0.out wS hSw; have s1 := F1.out wS hSw; have s2 := F2.out wS hSw; go_simp; try with_reducible rfl)⟩
              try simp only [Act.put, List.setIfInBounds_toArray, List.set_cons_zero, List.set_cons_succ]
              refine wpAnyH_ready (rs := [5]) (by kernel_rfl) (by simp) ?_
              refine AllReadyH.cons (o := ?oiC05x) ?hiC05x (fun K hK => ?hsC05x) AllReadyH.nil
              case hiC05x => (simp only [List.getElem?_toArray, List.getElem?_cons_succ, List.getElem?_cons_zero] <;> rfl)
              go_simp
              refine (isSub_ref x _).mono ?_
              rintro e w3 ⟨rfl, b3⟩
              rw [HS.out]
              have hG3 : Lx wa w3 := Lx.step (by assumption) b3
              go_wp2_with fail
              refine hK.out _ _ hG3 (fun hHeld3 => ?_)
              clear hK K
              try simp only [Act.put, List.setIfInBounds_toArray, List.set_cons_zero, List.set_cons_succ]
              refine wpAnyH_take (i := 6) (oi := ?oiC06x) (v := ?vC06x) ?hiC06x (by kernel_rfl) (by kernel_rfl) (by kernel_rfl) ?hqC06x ?hyC06x (by assumption) ?restC06x
              case hiC06x => (simp only [List.getElem?_toArray, List.getElem?_cons_succ, List.getElem?_cons_zero] <;> rfl)
              case hqC06x => exact fun _ _ _ h => h
              case hyC06x => exact Or.inl ⟨by rfl, by (intro wS hSw; have s0 := F0.out wS hSw; have s1 := F1.out wS hSw; have s2 := F2.out wS hSw; go_simp; try with_reducible rfl)⟩
              try simp only [Act.put, List.setIfInBounds_toArray, List.set_cons_zero, List.set_cons_succ]
              refine wpAnyH_take (i := 7) (oi := ?oiC07x) (v := ?vC07x) ?hiC07x (by kernel_rfl) (by kernel_rfl) (by kernel_rfl) ?hqC07x ?hyC07x (by assumption) ?restC07x
              case hiC07x => (simp only [List.getElem?_toArray, List.getElem?_cons_succ, List.getElem?_cons_zero] <;> rfl)
              case hqC07x => exact fun _ _ _ h => h
              case hyC07x => exact Or.inl ⟨by rfl, by (intro wS hSw; have s0 := F0.out wS hSw; have s1 := F1.out wS hSw; have s2 := F2.out wS hSw; go_simp; try with_reducible rfl)⟩
              try simp only [Act.put, List.setIfInBounds_toArray, List.set_cons_zero, List.set_cons_succ]
              refine wpAnyH_take (i := 8) (oi := ?oiC08x) (v := ?vC08x) ?hiC08x (by kernel_rfl) (by kernel_rfl) (by kernel_rfl) ?hqC08x ?hyC08x (by assumption) ?restC08x
              case hiC08x => (simp only [List.getElem?_toArray, List.getElem?_cons_succ, List.getElem?_cons_zero] <;> rfl)
              case hqC08x => exact fun _ _ _ h => h
              case hyC08x => exact Or.inl ⟨by rfl, by (intro wS hSw; have s0 := F0.out wS hSw; have s1 := F1.out wS hSw; have s2 := F2.out wS hSw; go_simp; try with_reducible rfl)⟩
              try simp only [Act.put, List.setIfInBounds_toArray, List.set_cons_zero, List.set_cons_succ]
              refine wpAnyH_take (i := 9) (oi := ?oiC09x) (v := ?vC09x) ?hiC09x (by kernel_rfl) (by kernel_rfl) (by kernel_rfl) ?hqC09x ?hyC09x (by assumption) ?restC09x
              case hiC09x => (simp only [List.getElem?_toArray, List.getElem?_cons_succ, List.getElem?_cons_zero] <;> rfl)
              case hqC09x => exact fun _ _ _ h => h
              case hyC09x => exact Or.inl ⟨by rfl, by (intro wS hSw; have s0 := F0.out wS hSw; have s1 := F1.out wS hSw; have s2 := F2.out wS hSw; go_simp; try with_reducible rfl)⟩
              try simp only [Act.put, List.setIfInBounds_toArray, List.set_cons_zero, List.set_cons_succ]
              refine wpAnyH_take (i := 10) (oi := ?oiC010x) (v := ?vC010x) ?hiC010x (by kernel_rfl) (by kernel_rfl) (by kernel_rfl) ?hqC010x ?hyC010x (by assumption) ?restC010x
              case hiC010x => (simp only [List.getElem?_toArray, List.getElem?_cons_succ, List.getElem?_cons_zero] <;> rfl)
              case hqC010x => exact fun _ _ _ h => h
              case hyC010x => exact Or.inl ⟨by rfl, by (intro wS hSw; have s0 := F0.out wS hSw; have s1 := F1.out wS hSw; have s2 := F2.out wS hSw; go_simp; try with_reducible rfl)⟩
              try simp only [Act.put, List.setIfInBounds_toArray, List.set_cons_zero, List.set_cons_succ]
              refine wpAnyH_take (i := 11) (oi := ?oiC011x) (v := ?vC011x) ?hiC011x (by kernel_rfl) (by kernel_rfl) (by kernel_rfl) ?hqC011x ?hyC011x (by assumption) ?restC011x
              case hiC011x => (simp only [List.getElem?_toArray, List.getElem?_cons_succ, List.getElem?_cons_zero] <;> rfl)
              case hqC011x => exact fun _ _ _ h => h
              case hyC011x => exact Or.inl ⟨by rfl, by (intro wS hSw; have s0 := F0.out wS hSw; have s1 := F1.out wS hSw; have s2 := F2.out wS hSw; go_simp; try with_reducible rfl)⟩
              try simp only [Act.put, List.setIfInBounds_toArray, List.set_cons_zero, List.set_cons_succ]
              refine wpAnyH_take (i := 12) (oi := ?oiC012x) (v := ?vC012x) ?hiC012x (by kernel_rfl) (by kernel_rfl) (by kernel_rfl) ?hqC012x ?hyC012x (by assumption) ?restC012x
              case hiC012x => (simp only [List.getElem?_toArray, List.getElem?_cons_succ, List.getElem?_cons_zero] <;> rfl)
              case hqC012x => exact fun _ _ _ h => h
              case hyC012x => exact Or.inl ⟨by rfl, by (intro wS hSw; have s0 := F0.out wS hSw; have s1 := F1.out wS hSw; have s2 := F2.out wS hSw; go_simp; try with_reducible rfl)⟩
              try simp only [Act.put, List.setIfInBounds_toArray, List.set_cons_zero, List.set_cons_succ]
              refine wpAnyH_take (i := 13) (oi := ?oiC013x) (v := ?vC013x) ?hiC013x (by kernel_rfl) (by kernel_rfl) (by kernel_rfl) ?hqC013x ?hyC013x (by assumption) ?restC013x
              case hiC013x => (simp only [List.getElem?_toArray, List.getElem?_cons_succ, List.getElem?_cons_zero] <;> rfl)
              case hqC013x => exact fun _ _ _ h => h
              case hyC013x => exact Or.inl ⟨by rfl, by (intro wS hSw; have s0 := F0.out wS hSw; have s1 := F1.out wS hSw; have s2 := F2.out wS hSw; go_simp; try with_reducible rfl)⟩
              try simp only [Act.put, List.setIfInBounds_toArray, List.set_cons_zero, List.set_cons_succ]
              refine wpAnyH_take (i := 14) (oi := ?oiC014x) (v := ?vC014x) ?hiC014x (by kernel_rfl) (by kernel_rfl) (by kernel_rfl) ?hqC014x ?hyC014x (by assumption) ?restC014x
              case hiC014x => (simp only [List.getElem?_toArray, List.getElem?_cons_succ, List.getElem?_cons_zero] <;> rfl)
              case hqC014x => exact fun _ _ _ h => h
              case hyC014x => exact Or.inl ⟨by rfl, by (intro wS hSw; have s0 := F0.out wS hSw; have s1 := F1.out wS hSw; have s2 := F2.out wS hSw; go_simp; try with_reducible rfl)⟩
              try simp only [Act.put, List.setIfInBounds_toArray, List.set_cons_zero, List.set_cons_succ]
              refine wpAnyH_take (i := 15) (oi := ?oiC015x) (v := ?vC015x) ?hiC015x (by kernel_rfl) (by kernel_rfl) (by kernel_rfl) ?hqC015x ?hyC015x (by assumption) ?restC015x
              case hiC015x => (simp only [List.getElem?_toArray, List.getElem?_cons_succ, List.getElem?_cons_zero] <;> rfl)
              case hqC015x => exact fun _ _ _ h => h
              case hyC015x => exact Or.inl ⟨by rfl, by (intro wS hSw; have s0 := F0.out wS hSw; have s1 := F1.out wS hSw; have s2 := F2.out wS hSw; go_simp; try with_reducible rfl)⟩
              try simp only [Act.put, List.setIfInBounds_toArray, List.set_cons_zero, List.set_cons_succ]
              refine wpAnyH_take (i := 16) (oi := ?oiC016x) (v := ?vC016x) ?hiC016x (by kernel_rfl) (by kernel_rfl) (by kernel_rfl) ?hqC016x ?hyC016x (by assumption) ?restC016x
              case hiC016x => (simp only [List.getElem?_toArray, List.getElem?_cons_succ, List.getElem?_cons_zero] <;> rfl)
              case hqC016x => exact fun _ _ _ h => h
              case hyC016x => exact Or.inl ⟨by rfl, by (intro wS hSw; have s0 := F0.out wS hSw; have s1 := F1.out wS hSw; have s2 := F2.out wS hSw; go_simp; try with_reducible rfl)⟩
              try simp only [Act.put, List.setIfInBounds_toArray, List.set_cons_zero, List.set_cons_succ]
              refine wpAnyH_take (i := 17) (oi := ?oiC017x) (v := ?vC017x) ?hiC017x (by kernel_rfl) (by kernel_rfl) (by kernel_rfl) ?hqC017x ?hyC017x (by assumption) ?restC017x
              case hiC017x => (simp only [List.getElem?_toArray, List.getElem?_cons_succ, List.getElem?_cons_zero] <;> rfl)
              case hqC017x => exact fun _ _ _ h => h
              case hyC017x => exact Or.inl ⟨by rfl, by (intro wS hSw; have s0 := F0.out wS hSw; have s1 := F1.out wS hSw; have s2 := F2.out wS hSw; go_simp; try with_reducible rfl)⟩
              try simp only [Act.put, List.setIfInBounds_toArray, List.set_cons_zero, List.set_cons_succ]
              refine wpAnyH_take (i := 18) (oi := ?oiC018x) (v := ?vC018x) ?hiC018x (by kernel_rfl) (by kernel_rfl) (by kernel_rfl) ?hqC018x ?hyC018x (by assumption) ?restC018x
              case hiC018x => (simp only [List.getElem?_toArray, List.getElem?_cons_succ, List.getElem?_cons_zero] <;> rfl)
              case hqC018x => exact fun _ _ _ h => h
              case hyC018x => exact Or.inl ⟨by rfl, by (intro wS hSw; have s0 := F0.out wS hSw; have s1 := F1.out wS hSw; have s2 := F2.out wS hSw; go_simp; try with_reducible rfl)⟩
              try simp only [Act.put, List.setIfInBounds_toArray, List.set_cons_zero, List.set_cons_succ]
              refine wpAnyH_take (i := 19) (oi := ?oiC019x) (v := ?vC019x) ?hiC019x (by kernel_rfl) (by kernel_rfl) (by kernel_rfl) ?hqC019x ?hyC019x (by assumption) ?restC019x
              case hiC019x => (simp only [List.getElem?_toArray, List.getElem?_cons_succ, List.getElem?_cons_zero] <;> rfl)
              case hqC019x => exact fun _ _ _ h => h
              case hyC019x => exact Or.inl ⟨by rfl, by (intro wS hSw; have s0 := F0.out wS hSw; have s1 := F1.out wS hSw; have s2 := F2.out wS hSw; go_simp; try with_reducible rfl)⟩
              try simp only [Act.put, List.setIfInBounds_toArray, List.set_cons_zero, List.set_cons_succ]
              refine wpAnyH_take (i := 20) (oi := ?oiC020x) (v := ?vC020x) ?hiC020x (by kernel_rfl) (by kernel_rfl) (by kernel_rfl) ?hqC020x ?hyC020x (by assumption) ?restC020x
              case hiC020x => (simp only [List.getElem?_toArray, List.getElem?_cons_succ, List.getElem?_cons_zero] <;> rfl)
              case hqC020x => exact fun _ _ _ h => h
              case hyC020x => exact Or.inl ⟨by rfl, by (intro wS hSw; have s0 := F0.out wS hSw; have s1 := F1.out wS hSw; have s2 := F2.out wS hSw; go_simp; try with_reducible rfl)⟩
              try simp only [Act.put, List.setIfInBounds_toArray, List.set_cons_zero, List.set_cons_succ]
              refine wpAnyH_take (i := 21) (oi := ?oiC021x) (v := ?vC021x) ?hiC021x (by kernel_rfl) (by kernel_rfl) (by kernel_rfl) ?hqC021x ?hyC021x (by assumption) ?restC021x
              case hiC021x => (simp only [List.getElem?_toArray, List.getElem?_cons_succ, List.getElem?_cons_zero] <;> rfl)
              case hqC021x => exact fun _ _ _ h => h
              case hyC021x => exact Or.inl ⟨by rfl, by (intro wS hSw; have s0 := F0.out wS hSw; have s1 := F1.out wS hSw; have s2 := F2.out wS hSw; go_simp; try with_reducible rfl)⟩
              try simp only [Act.put, List.setIfInBounds_toArray, List.set_cons_zero, List.set_cons_succ]
              refine wpAnyH_take (i := 22) (oi := ?oiC022x) (v := ?vC022x) ?hiC022x (by kernel_rfl) (by kernel_rfl) (by kernel_rfl) ?hqC022x ?hyC022x (by assumption) ?restC022x
              case hiC022x => (simp only [List.getElem?_toArray, List.getElem?_cons_succ, List.getElem?_cons_zero] <;> rfl)
              case hqC022x => exact fun _ _ _ h => h
              case hyC022x => exact Or.inl ⟨by rfl, by (intro wS hSw; have s0 := F0.out wS hSw; have s1 := F1.out wS hSw; have s2 := F2.out wS hSw; go_simp; try with_reducible rfl)⟩
              try simp only [Act.put, List.setIfInBounds_toArray, List.set_cons_zero, List.set_cons_succ]
              refine wpAnyH_take (i := 23) (oi := ?oiC023x) (v := ?vC023x) ?hiC023x (by kernel_rfl) (by kernel_rfl) (by kernel_rfl) ?hqC023x ?hyC023x (by assumption) ?restC023x
              case hiC023x => (simp only [List.getElem?_toArray, List.getElem?_cons_succ, List.getElem?_cons_zero] <;> rfl)
              case hqC023x => exact fun _ _ _ h => h
              case hyC023x => exact Or.inl ⟨by rfl, by (intro wS hSw; have s0 := F0.out wS hSw; have s1 := F1.out wS hSw; have s2 := F2.out wS hSw; go_simp; try with_reducible rfl)⟩
              try simp only [Act.put, List.setIfInBounds_toArray, List.set_cons_zero, List.set_cons_succ]
              refine wpAnyH_take (i := 24) (oi := ?oiC024x) (v := ?vC024x) ?hiC024x (by kernel_rfl) (by kernel_rfl) (by kernel_rfl) ?hqC024x ?hyC024x (by assumption) ?restC024x
              case hiC024x => (simp only [List.getElem?_toArray, List.getElem?_cons_succ, List.getElem?_cons_zero] <;> rfl)
              case hqC024x => exact fun _ _ _ h => h
              case hyC024x => exact Or.inl ⟨by rfl, by (intro wS hSw; have s0 := F0.out wS hSw; have s1 := F1.out wS hSw; have s2 := F2.out wS hSw; go_simp; try with_reducible rfl)⟩
              try simp only [Act.put, List.setIfInBounds_toArray, List.set_cons_zero, List.set_cons_succ]
              refine wpAnyH_done (by kernel_rfl) ?_ _
              refine NoPanic.normal ?_
              go_wp2_with fail
              go_ret
              exact ⟨ret_bool HR.out.symm, BA.out.trans (Below.mono (by assumption : Lx wa _) (Nat.le_of_lt HSZ.out))⟩
            · have H2 := Lib.hid (H.out.step (by rw [GD.out]; exact hs) (fun _ => by rw [show m + 1 - 1 = m by omega, GD.out, GD1.out]; exact hl))
              have hbl : Op.bytesLess y.toList x.toList = true := hl
              clear hs hl H
              go_wp2_with fail
              refine wp_region_noPanic ?_
              refine wp_region_held_drew (S := fun w' => Lx wa w') (by kernel_rfl) (Lx.drew (by assumption)) (fun hHeld => ?_)
              refine wpAnyH_take (i := 0) (oi := ?oiC10x) (v := ?vC10x) ?hiC10x (by kernel_rfl) (by kernel_rfl) (by kernel_rfl) ?hqC10x ?hyC10x (by assumption) ?restC10x
              case hiC10x => (simp only [List.getElem?_toArray, List.getElem?_cons_zero] <;> rfl)
              case hqC10x => exact fun _ _ _ h => h
              case hyC10x => exact Or.inl ⟨by rfl, by (intro wS hSw; have s0 := F0.out wS hSw; have s1 := F1.out wS hSw; have s2 := F2.out wS hSw; go_simp; try with_reducible rfl)⟩
              try simp only [Act.put, List.setIfInBounds_toArray, List.set_cons_zero, List.set_cons_succ]
              refine wpAnyH_take (i := 1) (oi := ?oiC11x) (v := ?vC11x) ?hiC11x (by kernel_rfl) (by kernel_rfl) (by kernel_rfl) ?hqC11x ?hyC11x (by assumption) ?restC11x
              case hiC11x => (simp only [List.getElem?_toArray, List.getElem?_cons_succ, List.getElem?_cons_zero] <;> rfl)
              case hqC11x => exact fun _ _ _ h => h
              case hyC11x => exact Or.inl ⟨by rfl, by (intro wS hSw; have s0 := F0.out wS hSw; have s1 := F1.out wS hSw; have s2 := F2.out wS hSw; go_simp; try with_reducible rfl)⟩
              try simp only [Act.put, List.setIfInBounds_toArray, List.set_cons_zero, List.set_cons_succ]
              refine wpAnyH_take (i := 2) (oi := ?oiC12x) (v := ?vC12x) ?hiC12x (by kernel_rfl) (by kernel_rfl) (by kernel_rfl) ?hqC12x ?hyC12x (by assumption) ?restC12x
              case hiC12x => (simp only [List.getElem?_toArray, List.getElem?_cons_succ, List.getElem?_cons_zero] <;> rfl)
              case hqC12x => exact fun _ _ _ h => h
              case hyC12x => exact Or.inl ⟨by rfl, by (intro wS hSw; have s0 := F0.out wS hSw; have s1 := F1.out wS hSw; have s2 := F2.out wS hSw; go_simp; try with_reducible rfl)⟩
              try simp only [Act.put, List.setIfInBounds_toArray, List.set_cons_zero, List.set_cons_succ]
              refine wpAnyH_take (i := 3) (oi := ?oiC13x) (v := ?vC13x) ?hiC13x (by kernel_rfl) (by kernel_rfl) (by kernel_rfl) ?hqC13x ?hyC13x (by assumption) ?restC13x
              case hiC13x => (simp only [List.getElem?_toArray, List.getElem?_cons_succ, List.getElem?_cons_zero] <;> rfl)
              case hqC13x => exact fun _ _ _ h => h
              case hyC13x => exact Or.inl ⟨by rfl, by (intro wS hSw; have s0 := F0.out wS hSw; have s1 := F1.out wS hSw; have s2 := F2.out wS hSw; go_simp; try with_reducible rfl)⟩
              try simp only [Act.put, List.setIfInBounds_toArray, List.set_cons_zero, List.set_cons_succ]
              refine wpAnyH_take (i := 4) (oi := ?oiC14x) (v := ?vC14x) ?hiC14x (by kernel_rfl) (by kernel_rfl) (by kernel_rfl) ?hqC14x ?hyC14x (by assumption) ?restC14x
              case hiC14x => (simp only [List.getElem?_toArray, List.getElem?_cons_succ, List.getElem?_cons_zero] <;> rfl)
              case hqC14x => exact fun _ _ _ h => h
              case hyC14x => exact Or.inl ⟨by rfl, by (intro wS hSw; have s0 := F0.out wS hSw; have s1 := F1.out wS hSw; have s2 := F2.out wS hSw; go_simp; try with_reducible rfl)⟩
              try simp only [Act.put, List.setIfInBounds_toArray, List.set_cons_zero, List.set_cons_succ]
              refine wpAnyH_ready (rs := [5]) (by kernel_rfl) (by simp) ?_
              refine AllReadyH.cons (o := ?oiC15x) ?hiC15x (fun K hK => ?hsC15x) AllReadyH.nil
              case hiC15x => (simp only [List.getElem?_toArray, List.getElem?_cons_succ, List.getElem?_cons_zero] <;> rfl)
              go_simp
              refine (isSub_ref x _).mono ?_
              rintro e w3 ⟨rfl, b3⟩
              rw [HS.out]
              have hG3 : Lx wa w3 := Lx.step (by assumption) b3
              go_wp2_with fail
              refine hK.out _ _ hG3 (fun hHeld3 => ?_)
              clear hK K
              try simp only [Act.put, List.setIfInBounds_toArray, List.set_cons_zero, List.set_cons_succ]
              refine wpAnyH_take (i := 6) (oi := ?oiC16x) (v := ?vC16x) ?hiC16x (by kernel_rfl) (by kernel_rfl) (by kernel_rfl) ?hqC16x ?hyC16x (by assumption) ?restC16x
              case hiC16x => (simp only [List.getElem?_toArray, List.getElem?_cons_succ, List.getElem?_cons_zero] <;> rfl)
              case hqC16x => exact fun _ _ _ h => h
              case hyC16x => exact Or.inl ⟨by rfl, by (intro wS hSw; have s0 := F0.out wS hSw; have s1 := F1.out wS hSw; have s2 := F2.out wS hSw; go_simp; try with_reducible rfl)⟩
              try simp only [Act.put, List.setIfInBounds_toArray, List.set_cons_zero, List.set_cons_succ]
              refine wpAnyH_take (i := 7) (oi := ?oiC17x) (v := ?vC17x) ?hiC17x (by kernel_rfl) (by kernel_rfl) (by kernel_rfl) ?hqC17x ?hyC17x (by assumption) ?restC17x
              case hiC17x => (simp only [List.getElem?_toArray, List.getElem?_cons_succ, List.getElem?_cons_zero] <;> rfl)
              case hqC17x => exact fun _ _ _ h => h
              case hyC17x => exact Or.inl ⟨by rfl, by (intro wS hSw; have s0 := F0.out wS hSw; have s1 := F1.out wS hSw; have s2 := F2.out wS hSw; go_simp; try with_reducible rfl)⟩
              try simp only [Act.put, List.setIfInBounds_toArray, List.set_cons_zero, List.set_cons_succ]
              refine wpAnyH_take (i := 8) (oi := ?oiC18x) (v := ?vC18x) ?hiC18x (by kernel_rfl) (by kernel_rfl) (by kernel_rfl) ?hqC18x ?hyC18x (by assumption) ?restC18x
              case hiC18x => (simp only [List.getElem?_toArray, List.getElem?_cons_succ, List.getElem?_cons_zero] <;> rfl)
              case hqC18x => exact fun _ _ _ h => h
              case hyC18x => exact Or.inl ⟨by rfl, by (intro wS hSw; have s0 := F0.out wS hSw; have s1 := F1.out wS hSw; have s2 := F2.out wS hSw; go_simp; try with_reducible rfl)⟩
              try simp only [Act.put, List.setIfInBounds_toArray, List.set_cons_zero, List.set_cons_succ]
              refine wpAnyH_take (i := 9) (oi := ?oiC19x) (v := ?vC19x) ?hiC19x (by kernel_rfl) (by kernel_rfl) (by kernel_rfl) ?hqC19x ?hyC19x (by assumption) ?restC19x
              case hiC19x => (simp only [List.getElem?_toArray, List.getElem?_cons_succ, List.getElem?_cons_zero] <;> rfl)
              case hqC19x => exact fun _ _ _ h => h
              case hyC19x => exact Or.inl ⟨by rfl, by (intro wS hSw; have s0 := F0.out wS hSw; have s1 := F1.out wS hSw; have s2 := F2.out wS hSw; go_simp; try with_reducible rfl)⟩
              try simp only [Act.put, List.setIfInBounds_toArray, List.set_cons_zero, List.set_cons_succ]
              refine wpAnyH_take (i := 10) (oi := ?oiC110x) (v := ?vC110x) ?hiC110x (by kernel_rfl) (by kernel_rfl) (by kernel_rfl) ?hqC110x ?hyC110x (by assumption) ?restC110x
              case hiC110x => (simp only [List.getElem?_toArray, List.getElem?_cons_succ, List.getElem?_cons_zero] <;> rfl)
              case hqC110x => exact fun _ _ _ h => h
              case hyC110x => exact Or.inl ⟨by rfl, by (intro wS hSw; have s0 := F0.out wS hSw; have s1 := F1.out wS hSw; have s2 := F2.out wS hSw; go_simp; try with_reducible rfl)⟩
              try simp only [Act.put, List.setIfInBounds_toArray, List.set_cons_zero, List.set_cons_succ]
              refine wpAnyH_take (i := 11) (oi := ?oiC111x) (v := ?vC111x) ?hiC111x (by kernel_rfl) (by kernel_rfl) (by kernel_rfl) ?hqC111x ?hyC111x (by assumption) ?restC111x
              case hiC111x => (simp only [List.getElem?_toArray, List.getElem?_cons_succ, List.getElem?_cons_zero] <;> rfl)
              case hqC111x => exact fun _ _ _ h => h
              case hyC111x => exact Or.inl ⟨by rfl, by (intro wS hSw; have s0 := F0.out wS hSw; have s1 := F1.out wS hSw; have s2 := F2.out wS hSw; go_simp; try with_reducible rfl)⟩
              try simp only [Act.put, List.setIfInBounds_toArray, List.set_cons_zero, List.set_cons_succ]
              refine wpAnyH_take (i := 12) (oi := ?oiC112x) (v := ?vC112x) ?hiC112x (by kernel_rfl) (by kernel_rfl) (by kernel_rfl) ?hqC112x ?hyC112x (by assumption) ?restC112x
              case hiC112x => (simp only [List.getElem?_toArray, List.getElem?_cons_succ, List.getElem?_cons_zero] <;> rfl)
              case hqC112x => exact fun _ _ _ h => h
              case hyC112x => exact Or.inl ⟨by rfl, by (intro wS hSw; have s0 := F0.out wS hSw; have s1 := F1.out wS hSw; have s2 := F2.out wS hSw; go_simp; try with_reducible rfl)⟩
              try simp only [Act.put, List.setIfInBounds_toArray, List.set_cons_zero, List.set_cons_succ]
              refine wpAnyH_take (i := 13) (oi := ?oiC113x) (v := ?vC113x) ?hiC113x (by kernel_rfl) (by kernel_rfl) (by kernel_rfl) ?hqC113x ?hyC113x (by assumption) ?restC113x
              case hiC113x => (simp only [List.getElem?_toArray, List.getElem?_cons_succ, List.getElem?_cons_zero] <;> rfl)
              case hqC113x => exact fun _ _ _ h => h
              case hyC113x => exact Or.inl ⟨by rfl, by (intro wS hSw; have s0 := F0.out wS hSw; have s1 := F1.out wS hSw; have s2 := F2.out wS hSw; go_simp; try with_reducible rfl)⟩
              try simp only [Act.put, List.setIfInBounds_toArray, List.set_cons_zero, List.set_cons_succ]
              refine wpAnyH_take (i := 14) (oi := ?oiC114x) (v := ?vC114x) ?hiC114x (by kernel_rfl) (by kernel_rfl) (by kernel_rfl) ?hqC114x ?hyC114x (by assumption) ?restC114x
              case hiC114x => (simp only [List.getElem?_toArray, List.getElem?_cons_succ, List.getElem?_cons_zero] <;> rfl)
              case hqC114x => exact fun _ _ _ h => h
              case hyC114x => exact Or.inl ⟨by rfl, by (intro wS hSw; have s0 := F0.out wS hSw; have s1 := F1.out wS hSw; have s2 := F2.out wS hSw; go_simp; try with_reducible rfl)⟩
              try simp only [Act.put, List.setIfInBounds_toArray, List.set_cons_zero, List.set_cons_succ]
              refine wpAnyH_take (i := 15) (oi := ?oiC115x) (v := ?vC115x) ?hiC115x (by kernel_rfl) (by kernel_rfl) (by kernel_rfl) ?hqC115x ?hyC115x (by assumption) ?restC115x
              case hiC115x => (simp only [List.getElem?_toArray, List.getElem?_cons_succ, List.getElem?_cons_zero] <;> rfl)
              case hqC115x => exact fun _ _ _ h => h
              case hyC115x => exact Or.inl ⟨by rfl, by (intro wS hSw; have s0 := F0.out wS hSw; have s1 := F1.out wS hSw; have s2 := F2.out wS hSw; go_simp; try with_reducible rfl)⟩
              try simp only [Act.put, List.setIfInBounds_toArray, List.set_cons_zero, List.set_cons_succ]
              refine wpAnyH_take (i := 16) (oi := ?oiC116x) (v := ?vC116x) ?hiC116x (by kernel_rfl) (by kernel_rfl) (by kernel_rfl) ?hqC116x ?hyC116x (by assumption) ?restC116x
              case hiC116x => (simp only [List.getElem?_toArray, List.getElem?_cons_succ, List.getElem?_cons_zero] <;> rfl)
              case hqC116x => exact fun _ _ _ h => h
              case hyC116x => exact Or.inl ⟨by rfl, by (intro wS hSw; have s0 := F0.out wS hSw; have s1 := F1.out wS hSw; have s2 := F2.out wS hSw; go_simp; try with_reducible rfl)⟩
              try simp only [Act.put, List.setIfInBounds_toArray, List.set_cons_zero, List.set_cons_succ]
              refine wpAnyH_take (i := 17) (oi := ?oiC117x) (v := ?vC117x) ?hiC117x (by kernel_rfl) (by kernel_rfl) (by kernel_rfl) ?hqC117x ?hyC117x (by assumption) ?restC117x
              case hiC117x => (simp only [List.getElem?_toArray, List.getElem?_cons_succ, List.getElem?_cons_zero] <;> rfl)
              case hqC117x => exact fun _ _ _ h => h
              case hyC117x => exact Or.inl ⟨by rfl, by (intro wS hSw; have s0 := F0.out wS hSw; have s1 := F1.out wS hSw; have s2 := F2.out wS hSw; go_simp; try with_reducible rfl)⟩
              try simp only [Act.put, List.setIfInBounds_toArray, List.set_cons_zero, List.set_cons_succ]
              refine wpAnyH_take (i := 18) (oi := ?oiC118x) (v := ?vC118x) ?hiC118x (by kernel_rfl) (by kernel_rfl) (by kernel_rfl) ?hqC118x ?hyC118x (by assumption) ?restC118x
              case hiC118x => (simp only [List.getElem?_toArray, List.getElem?_cons_succ, List.getElem?_cons_zero] <;> rfl)
              case hqC118x => exact fun _ _ _ h => h
              case hyC118x => exact Or.inl ⟨by rfl, by (intro wS hSw; have s0 := F0.out wS hSw; have s1 := F1.out wS hSw; have s2 := F2.out wS hSw; go_simp; try with_reducible rfl)⟩
              try simp only [Act.put, List.setIfInBounds_toArray, List.set_cons_zero, List.set_cons_succ]
              refine wpAnyH_take (i := 19) (oi := ?oiC119x) (v := ?vC119x) ?hiC119x (by kernel_rfl) (by kernel_rfl) (by kernel_rfl) ?hqC119x ?hyC119x (by assumption) ?restC119x
              case hiC119x => (simp only [List.getElem?_toArray, List.getElem?_cons_succ, List.getElem?_cons_zero] <;> rfl)
              case hqC119x => exact fun _ _ _ h => h
              case hyC119x => exact Or.inl ⟨by rfl, by (intro wS hSw; have s0 := F0.out wS hSw; have s1 := F1.out wS hSw; have s2 := F2.out wS hSw; go_simp; try with_reducible rfl)⟩
              try simp only [Act.put, List.setIfInBounds_toArray, List.set_cons_zero, List.set_cons_succ]
              refine wpAnyH_take (i := 20) (oi := ?oiC120x) (v := ?vC120x) ?hiC120x (by kernel_rfl) (by kernel_rfl) (by kernel_rfl) ?hqC120x ?hyC120x (by assumption) ?restC120x
              case hiC120x => (simp only [List.getElem?_toArray, List.getElem?_cons_succ, List.getElem?_cons_zero] <;> rfl)
              case hqC120x => exact fun _ _ _ h => h
              case hyC120x => exact Or.inl ⟨by rfl, by (intro wS hSw; have s0 := F0.out wS hSw; have s1 := F1.out wS hSw; have s2 := F2.out wS hSw; go_simp; try with_reducible rfl)⟩
              try simp only [Act.put, List.setIfInBounds_toArray, List.set_cons_zero, List.set_cons_succ]
              refine wpAnyH_take (i := 21) (oi := ?oiC121x) (v := ?vC121x) ?hiC121x (by kernel_rfl) (by kernel_rfl) (by kernel_rfl) ?hqC121x ?hyC121x (by assumption) ?restC121x
              case hiC121x => (simp only [List.getElem?_toArray, List.getElem?_cons_succ, List.getElem?_cons_zero] <;> rfl)
              case hqC121x => exact fun _ _ _ h => h
              case hyC121x => exact Or.inl ⟨by rfl, by (intro wS hSw; have s0 := F0.out wS hSw; have s1 := F1.out wS hSw; have s2 := F2.out wS hSw; go_simp; try with_reducible rfl)⟩
              try simp only [Act.put, List.setIfInBounds_toArray, List.set_cons_zero, List.set_cons_succ]
              refine wpAnyH_take (i := 22) (oi := ?oiC122x) (v := ?vC122x) ?hiC122x (by kernel_rfl) (by kernel_rfl) (by kernel_rfl) ?hqC122x ?hyC122x (by assumption) ?restC122x
              case hiC122x => (simp only [List.getElem?_toArray, List.getElem?_cons_succ, List.getElem?_cons_zero] <;> rfl)
              case hqC122x => exact fun _ _ _ h => h
              case hyC122x => exact Or.inl ⟨by rfl, by (intro wS hSw; have s0 := F0.out wS hSw; have s1 := F1.out wS hSw; have s2 := F2.out wS hSw; go_simp; try with_reducible rfl)⟩
              try simp only [Act.put, List.setIfInBounds_toArray, List.set_cons_zero, List.set_cons_succ]
              refine wpAnyH_take (i := 23) (oi := ?oiC123x) (v := ?vC123x) ?hiC123x (by kernel_rfl) (by kernel_rfl) (by kernel_rfl) ?hqC123x ?hyC123x (by assumption) ?restC123x
              case hiC123x => (simp only [List.getElem?_toArray, List.getElem?_cons_succ, List.getElem?_cons_zero] <;> rfl)
              case hqC123x => exact fun _ _ _ h => h
              case hyC123x => exact Or.inl ⟨by rfl, by (intro wS hSw; have s0 := F0.out wS hSw; have s1 := F1.out wS hSw; have s2 := F2.out wS hSw; go_simp; try with_reducible rfl)⟩
              try simp only [Act.put, List.setIfInBounds_toArray, List.set_cons_zero, List.set_cons_succ]
              refine wpAnyH_take (i := 24) (oi := ?oiC124x) (v := ?vC124x) ?hiC124x (by kernel_rfl) (by kernel_rfl) (by kernel_rfl) ?hqC124x ?hyC124x (by assumption) ?restC124x
              case hiC124x => (simp only [List.getElem?_toArray, List.getElem?_cons_succ, List.getElem?_cons_zero] <;> rfl)
              case hqC124x => exact fun _ _ _ h => h
              case hyC124x => exact Or.inl ⟨by rfl, by (intro wS hSw; have s0 := F0.out wS hSw; have s1 := F1.out wS hSw; have s2 := F2.out wS hSw; go_simp; try with_reducible rfl)⟩
              try simp only [Act.put, List.setIfInBounds_toArray, List.set_cons_zero, List.set_cons_succ]
              refine wpAnyH_done (by kernel_rfl) ?_ _
              refine NoPanic.normal ?_
              go_wp2_with fail
              go_roundw
              case rel => exact ⟨m + 1 + 1, by omega, by go_num, H2, Lib.hid (by assumption), F0.out _ (by assumption)⟩
              case measure => simp [intOf]; omega
      · obtain rfl : k = xs.length := by omega
        have c1 := (Below.cell HB.out (p := ⟨w.heap.size, 1, none⟩) HSZ.out).trans C1.out
        have HBW := Lib.hid (BA.out.trans (Below.mono HB.out (Nat.le_of_lt HSZ.out)))
        have HCR := Lib.hid (comb_ref tn (by omega))
        have HR := Lib.hid (show isL su (tn : Int) xs = comb tn by
          cases hc : comb tn
          · exact isL_head fun h => by have := h.2.2.2.2.1; rw [Int.toNat_natCast, hc] at this; cases this
          · exact isL_good ⟨h1, h2, h3, h4, by rw [Int.toNat_natCast]; exact hc, h6⟩ H.out)
        obtain ⟨p, hp⟩ : ∃ p, decide (tn / 2 ^ 1 % 2 = 1) = p := ⟨_, rfl⟩
        obtain ⟨q, hq⟩ : ∃ q, decide (tn / 2 ^ 2 % 2 = 1) = q := ⟨_, rfl⟩
        rw [hp, hq] at HCR
        have HP := Lib.hid hp
        have HQ := Lib.hid hq
        clear hp hq
        cases t2 : ((tn : Int) == 2)
        · cases t3 : ((tn : Int) == 4)
          · rw [t2, t3] at HCR
            cases p
            · go_wp2_with fail
              refine (bit_ref tn 1 (by omega) (by omega) _).mono ?_
              rintro e w3 ⟨rfl, rfl⟩
              rw [HP.out]
              go_wp2_with fail
              refine (bit_ref tn 2 (by omega) (by omega) _).mono ?_
              rintro e w3 ⟨rfl, rfl⟩
              rw [HQ.out]
              go_wp2_with fail
              go_ret
              exact ⟨ret_bool (by rw [HR.out, HCR.out]; rfl), HBW.out⟩
            · go_wp2_with fail
              refine (bit_ref tn 1 (by omega) (by omega) _).mono ?_
              rintro e w3 ⟨rfl, rfl⟩
              rw [HP.out]
              go_wp2_with fail
              go_ret
              exact ⟨ret_bool (by rw [HR.out, HCR.out]; rfl), HBW.out⟩
          · rw [t2, t3] at HCR
            go_wp2_with fail
            go_ret
            exact ⟨ret_bool (by rw [HR.out, HCR.out]; rfl), HBW.out⟩
        · rw [t2] at HCR
          go_wp2_with fail
          go_ret
          exact ⟨ret_bool (by rw [HR.out, HCR.out]; rfl), HBW.out⟩
  · have HR := Lib.hid (show isL su ty xs = false from isL_head fun h => hh ⟨h.1, h.2.1, h.2.2.1, h.2.2.2.1, h.2.2.2.2.2⟩)
    by_cases h1 : 0 ≤ su
    · by_cases h2 : su ≤ 3
      · by_cases h3 : 1 ≤ ty
        · by_cases h4 : ty ≤ 63
          · have h6 : 4 < xs.length := Nat.not_le.1 fun h6 => hh ⟨h1, h2, h3, h4, h6⟩
            have d6 : (4 : Int) < (xs.length : Int) := by omega
            clear hh
            go_enter Tryd.func22, Tryd.ntmps22
            go_wp2_with fail
            go_ret
            exact ⟨ret_bool HR.out.symm, BA.out⟩
          · have h4' : 63 < ty := by omega
            clear hh h4
            go_enter Tryd.func22, Tryd.ntmps22
            go_wp2_with fail
            go_ret
            exact ⟨ret_bool HR.out.symm, BA.out⟩
        · have h3' : ty < 1 := by omega
          clear hh h3
          go_enter Tryd.func22, Tryd.ntmps22
          go_wp2_with fail
          go_ret
          exact ⟨ret_bool HR.out.symm, BA.out⟩
      · have h2' : 3 < su := by omega
        clear hh h2
        go_enter Tryd.func22, Tryd.ntmps22
        go_wp2_with fail
        go_ret
        exact ⟨ret_bool HR.out.symm, BA.out⟩
    · have h1' : su < 0 := by omega
      clear hh h1
      go_enter Tryd.func22, Tryd.ntmps22
      go_wp2_with fail
      go_ret
      exact ⟨ret_bool HR.out.symm, BA.out⟩
end Go.Proofs.YtgnffmlcjnnneaaDoor
