/- Chapter 56: the law of the pairs. -/
import Derived.Test.YtfjnnbhijajhoaaPrU
import Derived.Test.YtfjnnbhijajhoaaPrY
namespace Go.Proofs.Ytfjnnbhijajhoaa
open Go Go.RowKit Go.Sort Go.Shelf Cg
theorem pairOut_len' (l : List Rs) (s : List St) : (pairOut l s).length ≤ s.length + 1 := by
  unfold pairOut
  split
  · rw [List.length_append, List.length_map, pairs_len l _ _ (Nat.le_refl _), List.length_map]
    have : (s.eraseIdx (restI s)).length ≤ s.length := List.length_eraseIdx_le ..
    simp only [List.length_singleton]
    omega
  · rw [List.length_map, pairs_len l _ _ (Nat.le_refl _), List.length_map]
    omega
set_option maxRecDepth 100000 in
set_option maxHeartbeats 4000000 in
theorem law_pairingPair (n : Int) (v : Value) (l : List Rs) (w : World) (h : Cg.RowK 5 encR w v l) : Calls Try.prog 5 #[.int .i64 n, v] w fun e w' => e = .returned (.bool true) ∧ Below w.heap.size w w' := by
  have HF := Lib.hid (few_law n v l w h)
  have HL := Lib.hid h
  obtain ⟨ao, cap, rfl⟩ := h.form
  clear h
  cases hd : (decide (n ≤ 40) && decide ((l.length : Int) ≤ 150))
  · have d2 := Lib.hid hd
    clear hd
    go_enter Try.func5, Try.ntmps5
    go_wp2_with fail
    refine HF.out.mono ?_
    rintro e w1 ⟨rfl, rfl⟩
    rw [d2.out]
    go_wp2_with fail
    refine (alive56 w1 w1 (Below.refl _ _)).mono ?_
    rintro e w6 ⟨rfl, b6⟩
    go_wp2_with fail
    go_ret
    exact ⟨rfl, b6⟩
  · have d2 := Lib.hid hd
    rw [Bool.and_eq_true, decide_eq_true_eq, decide_eq_true_eq] at hd
    have HN := Lib.hid (show n ≤ 256 ∧ l.length ≤ 1000 by omega)
    clear hd
    obtain ⟨N, hN, hN2, _, _⟩ := clamp_nat n
    have HC := Lib.hid hN
    go_enter Try.func5, Try.ntmps5
    go_wp2_with fail
    refine HF.out.mono ?_
    rintro e w1 ⟨rfl, rfl⟩
    rw [d2.out]
    go_wp2_with fail
    refine (pair_prog n N _ l w1 HL.out HN.out.2 HC.out HN.out.1).mono ?_
    rintro e w2 ⟨v2, s, rfl, r2, b2, p2, t2⟩
    have B2 := Lib.hid b2
    have R2 := Lib.hid r2
    have PT := Lib.hid (And.intro p2 t2)
    clear r2 b2 p2 t2
    go_wp2_with fail
    refine (pair_ref n N _ l w2 (HL.out.below B2.out) HN.out.2 HC.out hN2).mono ?_
    rintro e w3 ⟨v3, rfl, s3, r3, b3, p3, t3⟩
    rw [← st_uniq PT.out.1 PT.out.2 p3 t3] at r3
    have hps : (pairOut l s).length ≤ 300 := by
      have := pairOut_len' l s
      have h2 : s.length = N := by have := PT.out.1.length_eq; simpa using this
      omega
    obtain ⟨ps, hpe⟩ : ∃ ps, ps = pairOut l s := ⟨_, rfl⟩
    rw [← hpe] at R2 r3 hps
    obtain ⟨ao2, cap2, rfl, _, hx2⟩ := R2.out.below b3
    obtain ⟨ao3, cap3, rfl, _, hx3⟩ := r3
    have X2 := Lib.hid hx2
    have X3 := Lib.hid hx3
    have B3 := Lib.hid (B2.out.trans (b3.mono B2.out.size))
    have e1 : ((ps.length : Int) != (ps.length : Int)) = false := by simp
    clear b3 p3 t3 hpe hx2 hx3 R2
    go_wp2_with fail
    go_loopw [7] (fun i wr => ∃ k : Nat, k ≤ ps.length ∧ i = .int .i64 k ∧ ∃ q, wr = w3.drewN q) (fun i _ => ps.length - (intOf i).toNat)
    case atStart => exact ⟨0, by omega, rfl, 0, rfl⟩
    case round =>
      obtain ⟨k, hk, rfl, q, rfl⟩ := hrel
      by_cases hlt : k < ps.length
      · rcases X2.out with hh | ⟨g2, o2, rfl, _, hc2⟩
        · rw [hh] at hlt; simp at hlt
        rcases X3.out with hh | ⟨g3, o3, rfl, _, hc3⟩
        · rw [hh] at hlt; simp at hlt
        obtain ⟨p0, p1, p2, p3, p4⟩ := five_at hc2 hlt
        obtain ⟨q0, q1, q2, q3, q4⟩ := five_at hc3 hlt
        obtain ⟨r, hr⟩ : ∃ r, r = ps[k] := ⟨_, rfl⟩
        rw [← hr] at p0 p1 p2 p3 p4 q0 q1 q2 q3 q4
        obtain ⟨a, b, c, d, f⟩ := r
        simp only at p0 p1 p2 p3 p4 q0 q1 q2 q3 q4
        clear hr hc2 hc3
        go_wp2_with fail
        go_quiet (fail)
        go_wp2_with fail
        go_round
        case rel => exact ⟨k + 1, by omega, by go_num, _, rfl⟩
        case measure => simp [intOf]; omega
      · obtain rfl : k = ps.length := by omega
        go_wp2_with fail
        refine (alive56 w1 _ (B3.out.trans ((drewN_grow w3 q).mono B3.out.size))).mono ?_
        rintro e w6 ⟨rfl, b6⟩
        go_wp2_with fail
        go_ret
        exact ⟨rfl, b6⟩
end Go.Proofs.Ytfjnnbhijajhoaa
