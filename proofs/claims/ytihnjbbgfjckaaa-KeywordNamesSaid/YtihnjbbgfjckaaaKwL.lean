/- Chapter 11: the walk of the law KeywordNames. -/
import Derived.Test.YtihnjbbgfjckaaaKwJ
import Derived.Test.YtihnjbbgfjckaaaKwK
namespace Go.Proofs.Ytihnjbbgfjckaaa
open Go Go.RowKit Cg
attribute [local go_sem ↓] Go.wp_at_zero Go.wp_at_succ
/-- The names of the bits below k, each with a '+' ahead of it. -/
def pacc (n k : Nat) : ByteArray := ⟨(Lib.joinTail [43] ((ksel n k).map (·.data.toList))).toArray⟩
theorem pacc_data (n k : Nat) : (pacc n k).data.toList = Lib.joinTail [43] ((ksel n k).map (·.data.toList)) := by simp [pacc]
theorem pacc_hit (n k : Nat) (h : n / 2 ^ k % 2 = 1) : pacc n (k + 1) = pacc n k ++ (⟨#[43]⟩ ++ kn k) := by
  apply bytes_ext
  rw [pacc_data, ksel_hit n k h, List.map_append, List.map_cons, List.map_nil, joinTail_snoc, ← pacc_data]
  simp
theorem pacc_miss (n k : Nat) (h : ¬ n / 2 ^ k % 2 = 1) : pacc n (k + 1) = pacc n k := by rw [pacc, pacc, ksel_miss n k h]
theorem pacc_size (n : Nat) : ∀ k, (pacc n k).size ≤ 14 * k
  | 0 => Nat.le_refl _
  | k + 1 => by
    have ih := pacc_size n k
    have hs := kn_small k
    by_cases h : n / 2 ^ k % 2 = 1
    · rw [pacc_hit n k h, ByteArray.size_append, ByteArray.size_append]
      have : (⟨#[43]⟩ : ByteArray).size = 1 := rfl
      omega
    · rw [pacc_miss n k h]; omega
theorem pacc_nil (n : Nat) (h : ksel n 17 = []) : (pacc n 17).toList.isEmpty = true := by rw [ByteArray.toList_eq, pacc_data, h]; rfl
theorem pacc_not (n : Nat) (h : ¬ ksel n 17 = []) : (pacc n 17).toList.isEmpty = false ∧ 1 ≤ (pacc n 17).size ∧ kacc n 17 = (pacc n 17).extract 1 (pacc n 17).size := by
  have hd := pacc_data n 17
  have ht := drop_tail (ksel n 17)
  rw [← hd] at ht
  obtain ⟨a, r, hr⟩ : ∃ a r, ksel n 17 = a :: r := by
    cases h2 : ksel n 17 with
    | nil => exact absurd h2 h
    | cons a r => exact ⟨a, r, rfl⟩
  have hc : ∃ u, (pacc n 17).data.toList = 43 :: u := by
    rw [hd, hr, List.map_cons]
    exact ⟨_, rfl⟩
  obtain ⟨u, hu⟩ := hc
  refine ⟨by rw [ByteArray.toList_eq, hu]; rfl, by rw [Lib.size_eq, hu]; simp, ?_⟩
  apply bytes_ext
  rw [kacc_data, ← ht, Lib.extract_data, List.take_of_length_le]
  rw [List.length_drop, ← Lib.size_eq]
  omega
theorem kn_some (k : Nat) (h : k < 17) : (kn k).toList.isEmpty = false := by
  have := kn_pos k h
  rw [Lib.size_eq] at this
  rw [ByteArray.toList_eq]
  cases h2 : (kn k).data.toList with
  | nil => rw [h2] at this; simp at this
  | cons a r => rfl
theorem and_pow (m k : Nat) : m &&& 2 ^ k = if m.testBit k then 2 ^ k else 0 := by
  apply Nat.eq_of_testBit_eq
  intro j
  rw [Nat.testBit_and, Nat.testBit_two_pow]
  by_cases h : k = j
  · subst h
    split <;> simp [*, Nat.testBit_two_pow_self]
  · split
    · rw [Nat.testBit_two_pow]; simp [h]
    · simp [h]
theorem and_pow_hit (m k : Nat) (h : m / 2 ^ k % 2 = 1) : m &&& 2 ^ k = 2 ^ k := by
  rw [and_pow, Nat.testBit_eq_decide_div_mod_eq, decide_eq_true h]
  simp
theorem and_pow_miss (m k : Nat) (h : ¬ m / 2 ^ k % 2 = 1) : m &&& 2 ^ k = 0 := by
  rw [and_pow, Nat.testBit_eq_decide_div_mod_eq, decide_eq_false h]
  simp
set_option maxHeartbeats 1600000 in
theorem law_keywordNames (n : Int) (w : World) : Calls Try.prog 11 #[.int .i64 n] w fun e w' => e = .returned (.bool true) ∧ Below w.heap.size w w' := by
  have G0 : Kw w w := Below.refl _ _
  cases ho : okK n
  · have HT := Lib.hid (ktext_not n ho)
    have HO := Lib.hid ho
    clear ho
    go_enter Try.func11, Try.ntmps11
    go_wp2_with (first
      | (go_at_call 25; refine (kis_p (w0 := w) (by assumption) _).mono ?_; rintro e w' ⟨rfl, hG⟩; rw [HO.out])
      | (go_at_call 29; refine (ktext_p (w0 := w) (by assumption) _).mono ?_; rintro e w' ⟨rfl, hG⟩; rw [HT.out])
      | (go_at_call 31; refine (alive11 (w0 := w) (by assumption)).mono ?_; rintro e w' ⟨rfl, hG⟩))
    go_ret
    exact ⟨rfl, by assumption⟩
  · obtain ⟨h0, h1⟩ := (okK_iff n).1 ho
    obtain ⟨m, rfl⟩ := Int.eq_ofNat_of_zero_le h0
    have hm : m < 131072 := by omega
    have HT := Lib.hid (ktext_ktx m hm)
    have HO := Lib.hid ho
    clear ho h0 h1
    go_enter Try.func11, Try.ntmps11
    go_wp2_with (go_at_call 25; refine (kis_p (w0 := w) (by assumption) _).mono ?_; rintro e w' ⟨rfl, hG⟩; rw [HO.out])
    go_loopw [3, 15] (fun s i wr => ∃ k : Nat, k ≤ 17 ∧ i = .int .i64 k ∧ s = .string (pacc m k) ∧ Kw w wr) (fun _ i _ => 17 - (intOf i).toNat)
    case atStart => exact ⟨0, by omega, rfl, rfl, by assumption⟩
    case round =>
      obtain ⟨k, hk, rfl, rfl, hg⟩ := hrel
      have hsz := pacc_size m k
      by_cases hlt : k < 17
      · have H1 := Lib.hid (pacc_hit m k)
        have H2 := Lib.hid (pacc_miss m k)
        have hks := kn_small k
        have hemp := kn_some k hlt
        obtain ⟨s, hs⟩ : ∃ s, s = pacc m k := ⟨_, rfl⟩
        rw [← hs] at hsz H1 H2 ⊢
        clear hs
        go_wp2_with (go_at_call 27; refine (kname_p (w0 := w) (by assumption) _).mono ?_; rintro e w' ⟨rfl, hG⟩; rw [knI_nat])
        go_loopw [22] (fun i wr => ∃ j : Nat, j ≤ k ∧ i = .int .i64 j ∧ Kw w wr) (fun i _ => k - (intOf i).toNat)
        case atStart => exact ⟨0, by omega, rfl, by assumption⟩
        case round =>
          obtain ⟨j, hj, rfl, hg2⟩ := hrel
          by_cases hlt2 : j < k
          · have hne : ((kn j).toList == (kn k).toList) = false := same_false (fun e => by have := kn_inj j (by omega) k hlt e; omega)
            go_wp2_with (go_at_call 27; refine (kname_p (w0 := w) (by assumption) _).mono ?_; rintro e w' ⟨rfl, hG⟩; rw [knI_nat])
            go_roundw
            case rel => exact ⟨j + 1, by omega, by go_num, by assumption⟩
            case measure => simp [intOf]; omega
          · obtain rfl : j = k := by omega
            clear hlt2 hj
            have hpk : 2 ^ j < 2 ^ 17 := Nat.pow_lt_pow_right (by omega) hlt
            have HA1 := Lib.hid (and_pow_hit m j)
            have HA2 := Lib.hid (and_pow_miss m j)
            have hand := i64_and_nat m (2 ^ j) (by omega) (by omega)
            obtain ⟨p2, hp2⟩ : ∃ p2, p2 = 2 ^ j := ⟨_, rfl⟩
            have hsh : IntKind.i64.wrap ((2 : Int) ^ j) = (p2 : Int) := by
              have : ((2 : Int) ^ j) = (p2 : Int) := by rw [hp2]; simp
              rw [this, IntKind.wrap_i64]
              rw [← hp2] at hpk
              omega
            have hpos : 0 < p2 := by rw [hp2]; exact Nat.two_pow_pos j
            rw [← hp2] at hand hpk
            by_cases hb : m / 2 ^ j % 2 = 1
            · have HH := Lib.hid (H1.out hb)
              have h2 : (bits .and .i64 (m : Int) (p2 : Int) == (p2 : Int)) = true := by rw [hand, hp2, HA1.out hb]; simp
              have HB := Lib.hid h2
              clear h2 hb hp2 hand HA1 HA2
              go_wp2_with (first
                | (go_at_call 34; refine (khas_p (w0 := w) (by assumption) _ _).mono ?_; rintro e w' ⟨rfl, hG⟩; rw [HB.out])
                | (go_at_call 27; refine (kname_p (w0 := w) (by assumption) _).mono ?_; rintro e w' ⟨rfl, hG⟩; rw [knI_nat]))
              go_roundw
              case rel => exact ⟨j + 1, by omega, by go_num, by rw [HH.out], by assumption⟩
              case measure => simp [intOf]; omega
            · have HH := Lib.hid (H2.out hb)
              have h2 : (bits .and .i64 (m : Int) (p2 : Int) == (p2 : Int)) = false := by
                rw [hand, hp2, HA2.out hb, ← hp2, beq_eq_false_iff_ne]
                omega
              have HB := Lib.hid h2
              clear h2 hb hp2 hand HA1 HA2
              go_wp2_with (first
                | (go_at_call 34; refine (khas_p (w0 := w) (by assumption) _ _).mono ?_; rintro e w' ⟨rfl, hG⟩; rw [HB.out])
                | (go_at_call 27; refine (kname_p (w0 := w) (by assumption) _).mono ?_; rintro e w' ⟨rfl, hG⟩; rw [knI_nat]))
              go_roundw
              case rel => exact ⟨j + 1, by omega, by go_num, by rw [HH.out], by assumption⟩
              case measure => simp [intOf]; omega
      · obtain rfl : k = 17 := by omega
        clear hlt hk
        by_cases he : ksel m 17 = []
        · have hemp := pacc_nil m he
          have HZ := Lib.hid (show ktext (m : Int) = ⟨#[110, 111, 110, 101]⟩ by rw [HT.out, ktx, if_pos he])
          clear he
          obtain ⟨s, hs⟩ : ∃ s, s = pacc m 17 := ⟨_, rfl⟩
          rw [← hs] at hemp hsz ⊢
          clear hs
          go_wp2_with (first
            | (go_at_call 29; refine (ktext_p (w0 := w) (by assumption) _).mono ?_; rintro e w' ⟨rfl, hG⟩; rw [HZ.out])
            | (go_at_call 31; refine (alive11 (w0 := w) (by assumption)).mono ?_; rintro e w' ⟨rfl, hG⟩))
          go_ret
          exact ⟨rfl, by assumption⟩
        · obtain ⟨hemp, hone, hext⟩ := pacc_not m he
          have HZ := Lib.hid (show ktext (m : Int) = (pacc m 17).extract 1 (pacc m 17).size by rw [HT.out, ktx, if_neg he, hext])
          clear he hext
          obtain ⟨s, hs⟩ : ∃ s, s = pacc m 17 := ⟨_, rfl⟩
          rw [← hs] at hemp hsz hone HZ ⊢
          clear hs
          have hone' : (1 : Int) ≤ (s.size : Int) := by omega
          have hself : ((s.extract 1 s.size).toList == (s.extract 1 s.size).toList) = true := by simp
          clear hone
          go_wp2_with fail
          go_region_held3 (fun w' => Kw w w') (first | assumption | exact Kw.drew (by assumption)) (first
            | (go_at_call 29; refine (ktext_p (w0 := w) (by assumption) _).mono ?_; rintro e w' ⟨rfl, hG⟩; rw [HZ.out])
            | (go_at_call 31; refine (alive11 (w0 := w) (by assumption)).mono ?_; rintro e w' ⟨rfl, hG⟩))
          go_wp2_with fail
          go_ret
          exact ⟨rfl, by assumption⟩
end Go.Proofs.Ytihnjbbgfjckaaa
