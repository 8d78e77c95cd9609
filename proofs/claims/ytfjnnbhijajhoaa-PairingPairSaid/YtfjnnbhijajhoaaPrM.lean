/- Chapter 56: rests; the search for a fresh opponent. -/
import Derived.Test.YtfjnnbhijajhoaaPrK2
import Derived.Test.YtfjnnbhijajhoaaPrL
namespace Go.Proofs.Ytfjnnbhijajhoaa
open Go Go.RowKit Go.Sort Go.Shelf Cg
set_option maxHeartbeats 4000000 in
theorem rests_prog (v : Value) (rows : List (St × Sl)) (w : World) (h : Cg.RowK 8 encT w v rows) (hn : rows.length ≤ 1000) (h0 : 0 < rows.length) :
    Calls Try.prog 29 #[v] w fun e w' => e = .returned (.int .i64 (restI (rows.map (·.1)) : Nat)) ∧ ∃ q, w' = w.drewN q := by
  obtain ⟨ao, cap, rfl, _, hx⟩ := h
  have HX := Lib.hid hx
  clear hx
  go_enter Try.func29, Try.ntmps29
  go_wp2_with fail
  go_loopw [3] (fun i wr => ∃ z : Int, i = .int .i64 z ∧ -1 ≤ z ∧ z < rows.length ∧ Hid (∀ j (h : j < rows.length), z < (j : Int) → rows[j].1.by_ ≠ 0) ∧ ∃ q, wr = w.drewN q) (fun i _ => (intOf i + 1).toNat)
  case atStart => exact ⟨(rows.length : Int) - 1, rfl, by omega, by omega, Lib.hid fun j hj hz => by omega, 0, rfl⟩
  case round =>
    obtain ⟨z, rfl, hz1, hz2, HK, q, rfl⟩ := hrel
    by_cases hlt : 0 ≤ z
    · obtain ⟨k, rfl⟩ : ∃ k : Nat, z = (k : Int) := ⟨z.toNat, by omega⟩
      have hkl : k < rows.length := by omega
      rcases HX.out with hh | ⟨g, o, rfl, hg, hcell⟩
      · rw [hh] at hkl; simp at hkl
      have c5 := hcell k _ (List.getElem?_eq_getElem hkl) 5 (.int .i64 rows[k].1.by_) rfl
      obtain ⟨b, hb⟩ : ∃ b, b = rows[k].1.by_ := ⟨_, rfl⟩
      rw [← hb] at c5
      have HB := Lib.hid hb
      clear hb hcell
      cases hb0 : (b == 0)
      · have HB0 := Lib.hid (beq_eq_false_iff_ne.1 hb0)
        go_wp2_with fail
        go_round
        case rel => exact ⟨(k : Int) - 1, by go_num, by omega, by omega, Lib.hid fun j hj hz => (by
          by_cases e : j = k
          · subst e; rw [← HB.out]; exact HB0.out
          · exact HK.out j hj (by omega)), q, rfl⟩
        case measure => simp [intOf] <;> omega
      · have HE := Lib.hid (show restI (rows.map (·.1)) = k by
          unfold restI
          rw [lastFree_some (rows.map (·.1)) k (by rw [List.length_map]; exact hkl) (by rw [List.getElem_map, ← HB.out]; exact beq_iff_eq.1 hb0) (fun j hj hkj => by
            rw [List.length_map] at hj
            rw [List.getElem_map]
            exact HK.out j hj (by omega))]
          rfl)
        go_wp2_with fail
        go_ret
        exact ⟨by rw [HE.out] <;> rfl, q, rfl⟩
    · have HE := Lib.hid (show ((restI (rows.map (·.1)) : Nat) : Int) = (rows.length : Int) - 1 by
        unfold restI
        rw [lastFree_none (rows.map (·.1)) (fun j hj => by
          rw [List.length_map] at hj
          rw [List.getElem_map]
          exact HK.out j hj (by omega)), Option.getD_none, List.length_map]
        omega)
      go_wp2_with fail
      go_ret
      exact ⟨by rw [HE.out] <;> rfl, q, rfl⟩
set_option maxHeartbeats 4000000 in
theorem pair1 (x : St) (u v : Value) (l : List Rs) (a : Int) (bl ba : Nat) (w : World) (hv : w.cell? ⟨bl, 0, none⟩ = some v) (ha : w.cell? ⟨ba, 0, none⟩ = some (.int .i64 a)) (h : Cg.RowK 5 encR w v l) (hn : l.length ≤ 1000000) :
    Calls Try.prog 32 #[stV x u, .pointer (some ⟨bl, 0, none⟩), .pointer (some ⟨ba, 0, none⟩)] w fun e w' => e = .returned (.bool (!plays l a x.pl)) ∧ Below w.heap.size w w' := by
  obtain ⟨pl, pt, wi, lo, dw, by_, opp, tie⟩ := x
  obtain ⟨wx, hwx⟩ : ∃ wx, wx = w.alloc (.cells #[.int .i64 pl, .int .i64 pt, .int .i64 wi, .int .i64 lo, .int .i64 dw, .int .i64 by_, u, .int .i64 tie] 35) := ⟨_, rfl⟩
  have bx : Below w.heap.size w wx := by rw [hwx]; exact (Below.refl w.heap.size w).alloc (Nat.le_refl _) _
  have hc := (int8 (show wx.heap[w.heap.size]? = _ by rw [hwx]; exact heap_alloc_new w _)).1.1
  have hv2 := (bx.cell (p := ⟨bl, 0, none⟩) (block_lt_of_cell hv)).trans hv
  have ha2 := (bx.cell (p := ⟨ba, 0, none⟩) (block_lt_of_cell ha)).trans ha
  have HP := Lib.hid (played_prog v l a pl wx (h.below bx) hn)
  have BX := Lib.hid bx
  have HW := Lib.hid hwx
  obtain ⟨pb, hpb⟩ : ∃ pb, pb = plays l a pl := ⟨_, rfl⟩
  rw [← hpb] at HP
  have HPB := Lib.hid hpb
  rw [hwx] at hc hv2 ha2
  clear h hv ha bx hwx hpb
  go_enter Try.func32, Try.ntmps32
  go_wp2_with (go_at_call 14; rw [← HW.out]; refine HP.out.mono ?_; rintro e w' ⟨rfl, bw⟩; have BW := Lib.hid bw; clear bw)
  go_ret
  exact ⟨by rw [← HPB.out] <;> rfl, BX.out.trans (BW.out.mono BX.out.size)⟩
theorem pick_miss (l : List Rs) (a : Int) (xs : List Int) (h : ∀ j (hj : j < xs.length), plays l a xs[j] = true) : pick l a xs = 0 := by
  unfold pick
  rw [List.findIdx?_eq_none_iff.2 (fun x hx => by
    obtain ⟨j, hj, rfl⟩ := List.getElem_of_mem hx
    rw [h j hj]
    rfl)]
  rfl
theorem pick_hit (l : List Rs) (a : Int) (xs : List Int) (k : Nat) (hk : k < xs.length) (hp : plays l a xs[k] = false) (h : ∀ j (hj : j < xs.length), j < k → plays l a xs[j] = true) : pick l a xs = k := by
  unfold pick
  rw [List.findIdx?_eq_some_iff_getElem.2 ⟨hk, by rw [hp]; rfl, fun j hj => by
    rw [h j (by omega) hj]
    simp⟩]
  rfl
set_option maxHeartbeats 4000000 in
theorem indexFunc_s (vs v : Value) (rows : List (St × Sl)) (l : List Rs) (a : Int) (bl ba : Nat) (w : World) (hs : Cg.RowK 8 encT w vs rows) (hrn : rows.length ≤ 1000000) (hv : w.cell? ⟨bl, 0, none⟩ = some v) (ha : w.cell? ⟨ba, 0, none⟩ = some (.int .i64 a)) (h : Cg.RowK 5 encR w v l) (hn : l.length ≤ 1000000) :
    Calls Try.prog 31 #[vs, .func (.func 32) #[] #[.pointer (some ⟨bl, 0, none⟩), .pointer (some ⟨ba, 0, none⟩)]] w fun e w' => ∃ i : Int, e = .returned (.int .i64 i) ∧ max i 0 = ((pick l a (rows.map fun x => x.1.pl) : Nat) : Int) ∧ Below w.heap.size w w' := by
  have eg : ∀ args w, (callFunc 32 args).run Try.prog w = .ok (.enter 32 args) w := enters_of Try.func32 (by kernel_rfl) rfl
  have HA := Lib.hid ha
  have HV := Lib.hid hv
  have HL := Lib.hid h
  obtain ⟨ao, cap, rfl, _, hx⟩ := hs
  have HX := Lib.hid hx
  clear hx ha hv h
  go_enter Try.func31, Try.ntmps31
  go_wp2_with fail
  go_loopw [8] (fun i wr => ∃ k : Nat, k ≤ rows.length ∧ i = .int .i64 k ∧ Hid (∀ j (h : j < rows.length), j < k → plays l a rows[j].1.pl = true) ∧ Below w.heap.size w wr) (fun i _ => rows.length - (intOf i).toNat)
  case atStart => exact ⟨0, by omega, rfl, Lib.hid fun j hj _ => by omega, Below.refl _ _⟩
  case round =>
    obtain ⟨k, hk, rfl, HK, bw⟩ := hrel
    have BW := Lib.hid bw
    clear bw
    by_cases hlt : k < rows.length
    · rcases HX.out with hh | ⟨g, o, rfl, hg, hcell⟩
      · rw [hh] at hlt; simp at hlt
      have hcell2 := (fun (i : Nat) u (hu : (encT rows[k])[i]? = some u) => (BW.out.cell (p := ⟨g, o + k * 8 + i, none⟩) hg).trans (hcell k _ (List.getElem?_eq_getElem hlt) i u hu))
      obtain ⟨q0, q1, q2, q3, q4, q5, q6, q7⟩ : _ ∧ _ ∧ _ ∧ _ ∧ _ ∧ _ ∧ _ ∧ _ := ⟨hcell2 0 _ rfl, hcell2 1 _ rfl, hcell2 2 _ rfl, hcell2 3 _ rfl, hcell2 4 _ rfl, hcell2 5 _ rfl, hcell2 6 _ rfl, hcell2 7 _ rfl⟩
      have cl := (BW.out.cell (p := ⟨bl, 0, none⟩) (block_lt_of_cell HV.out)).trans HV.out
      have ca := (BW.out.cell (p := ⟨ba, 0, none⟩) (block_lt_of_cell HA.out)).trans HA.out
      have HCL := Lib.hid (pair1 rows[k].1 (slv rows[k].2) v l a bl ba _ cl ca (HL.out.below BW.out) hn)
      obtain ⟨r, hr⟩ : ∃ r, r = rows[k].1 := ⟨_, rfl⟩
      obtain ⟨u, hu⟩ : ∃ u, u = slv rows[k].2 := ⟨_, rfl⟩
      rw [← hr] at q0 q1 q2 q3 q4 q5 q7 HCL
      rw [← hu] at q6 HCL
      have HR := Lib.hid hr
      obtain ⟨pl, pt, wi, lo, dw, by_, opp, tie⟩ := r
      simp only at q0 q1 q2 q3 q4 q5 q7
      rw [Nat.add_zero] at q0
      clear hcell hcell2 hr hu ca cl
      cases hm : plays l a pl
      · have HM := Lib.hid hm
        have HE := Lib.hid (show pick l a (rows.map fun x => x.1.pl) = k from pick_hit l a _ k (by rw [List.length_map]; exact hlt) (by rw [List.getElem_map, ← HR.out]; exact hm) (fun j hj hjk => by
          rw [List.length_map] at hj
          rw [List.getElem_map]
          exact HK.out j hj hjk))
        simp only [hm] at HCL
        clear hm
        go_wp2_with (go_at_fn 32; refine HCL.out.mono ?_; rintro e w' ⟨rfl, b2⟩)
        go_ret
        exact ⟨_, rfl, by rw [HE.out]; omega, BW.out.trans (b2.mono BW.out.size)⟩
      · have HM := Lib.hid hm
        simp only [hm] at HCL
        clear hm
        go_wp2_with (go_at_fn 32; refine HCL.out.mono ?_; rintro e w' ⟨rfl, b2⟩)
        go_round
        case rel => exact ⟨k + 1, by omega, by go_num, Lib.hid fun j hj hjk => (by
          by_cases e : j = k
          · subst e; rw [← HR.out]; exact HM.out
          · exact HK.out j hj (by omega)), BW.out.trans (b2.mono BW.out.size)⟩
        case measure => simp [intOf]; omega
    · obtain rfl : k = rows.length := by omega
      have HE := Lib.hid (show pick l a (rows.map fun x => x.1.pl) = 0 from pick_miss l a _ (fun j hj => by
        rw [List.length_map] at hj
        rw [List.getElem_map]
        exact HK.out j hj hj))
      go_wp2_with fail
      go_ret
      exact ⟨_, rfl, by rw [HE.out]; rfl, BW.out⟩
end Go.Proofs.Ytfjnnbhijajhoaa
