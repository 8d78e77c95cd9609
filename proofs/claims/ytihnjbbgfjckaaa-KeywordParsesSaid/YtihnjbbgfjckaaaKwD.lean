/- Walks of chapter 11: Text, the program's and the reference's. -/
import Derived.Test.YtihnjbbgfjckaaaKwC
namespace Go.Proofs.Ytihnjbbgfjckaaa
open Go Go.RowKit Cg
/-- What is owned stays so through a call that turns nothing of what was there (after a worked proof). -/
theorem own_below {w w' : World} {B e size n : Nat} {v : Value} {xs : List Value} (h : w.ownsRow B e size v n xs) (hb : Below w.heap.size w w') : w'.ownsRow B e size v n xs := by
  refine ⟨h.1, ?_⟩
  rcases h.2 with hn | ⟨g, cap, cur, rfl, hg, hgg, rest⟩
  · exact .inl hn
  · exact .inr ⟨g, cap, cur, rfl, hg, by rw [hb.block g (Array.getElem?_eq_some_iff.1 hgg).1]; exact hgg, rest⟩
theorem ktext_not (n : Int) (h : okK n = false) : ktext n = ⟨#[]⟩ := by rw [ktext, h]; rfl
theorem ktext_none (n : Nat) (h : okK n = true) (e : ksel n 17 = []) : ktext n = ⟨#[110, 111, 110, 101]⟩ := by
  rw [ktext, h]
  show ktx n = _
  rw [ktx, if_pos e]
theorem ktext_some (n : Nat) (h : okK n = true) (e : ¬ ksel n 17 = []) : ktext n = kacc n 17 := by
  rw [ktext, h]
  show ktx n = _
  rw [ktx, if_neg e]
set_option maxHeartbeats 1000000 in
theorem text_prog (n : Int) (w : World) : Calls Try.prog 29 #[.int .i64 n] w fun e w' => e = .returned (.string (ktext n)) ∧ Below w.heap.size w w' := by
  cases ho : okK n
  · rw [ktext_not n ho]
    go_enter Try.func29, Try.ntmps29
    go_wp2_with fail
    refine (kis_prog n _).mono ?_
    rintro e w1 ⟨rfl, rfl⟩
    rw [ho]
    clear ho
    go_wp2_with fail
    go_ret
    exact ⟨rfl, Below.refl _ _⟩
  · obtain ⟨h0, h1⟩ := (okK_iff n).1 ho
    obtain ⟨m, rfl⟩ := Int.eq_ofNat_of_zero_le h0
    have hm : m < 131072 := by omega
    have HT0 := Lib.hid (ktext_none m ho)
    have HT1 := Lib.hid (ktext_some m ho)
    have HK := Lib.hid (ksel_31 m hm)
    have HL := Lib.hid (jn_len m 17)
    have HO := Lib.hid ho
    have hkl := ksel_len m 17
    have hbl := bsel_len m 31
    have HB := Lib.hid (bsel_lt m 31)
    clear h0 h1 ho
    go_enter Try.func29, Try.ntmps29
    go_wp2_with fail
    refine (kis_prog m _).mono ?_
    rintro e w1 ⟨rfl, rfl⟩
    rw [HO.out]
    go_wp2_with fail
    refine (bits_prog m hm _).mono ?_
    rintro e w1 ⟨v, rfl, o1, b1⟩
    obtain ⟨bs, hbs⟩ : ∃ bs, bs = bsel m 31 := ⟨_, rfl⟩
    rw [← hbs] at o1 HK hbl HB
    clear hbs
    have B1 := Lib.hid b1
    have hbz := b1.size
    have HV : (bs = [] ∧ ∃ ao cap, v = .slice ao 0 cap) ∨ ∃ g cap, v = .slice (some ⟨g, 0, none⟩) bs.length cap ∧ g < w1.heap.size ∧ bs.length ≤ cap ∧ ∀ (j : Nat) x, bs[j]? = some x → w1.cell? ⟨g, j, none⟩ = some (.int .i64 (x : Nat)) := by
      by_cases hn : bs = []
      · left
        refine ⟨hn, ?_⟩
        subst hn
        rcases o1.2 with ⟨rfl, _⟩ | ⟨g, cap, cur, rfl, _⟩
        · exact ⟨none, 0, rfl⟩
        · exact ⟨_, cap, rfl⟩
      · right
        obtain ⟨g, cap, rfl, _, hlt, hc, hx⟩ := own_nil_or o1 (List.length_pos_iff.2 hn)
        exact ⟨g, cap, rfl, hlt, hc, fun j x hj => hx j _ (by simp [hj])⟩
    clear o1 b1
    rcases HV with ⟨hn, ao, cap, rfl⟩ | ⟨g, cap, rfl, hg, hc, hcell⟩
    · subst hn
      have hz : ksel m 17 = [] := by rw [← HK.out]; rfl
      have HZ := Lib.hid (HT0.out hz)
      clear hz
      go_wp2_with fail
      refine wp_loop_rounds 1 ?_
      rw [rounds_succ]
      go_wp2_with fail
      go_ret
      exact ⟨by rw [HZ.out] <;> rfl, B1.out⟩
    · have HC := Lib.hid hcell
      clear hcell
      go_wp2_with fail
      go_loopw [3, 12] (fun out i wr => ∃ k : Nat, k ≤ bs.length ∧ i = .int .i64 k ∧ wr.ownsRow w1.heap.size 9 1 out k (((bs.take k).map kn).map Value.string) ∧ Below w1.heap.size w1 wr) (fun _ i _ => bs.length - (intOf i).toNat)
      case atStart => exact ⟨0, by omega, rfl, by simpa using World.ownsRow_nil _ _ _ _, Below.refl _ _⟩
      case round =>
        obtain ⟨k, hk, rfl, hown, hnx⟩ := hrel
        by_cases hlt : k < bs.length
        · have hcell := (hnx.cell (p := ⟨g, k, none⟩) hg).trans (HC.out k bs[k] (by simp))
          have hx := HB.out bs[k] (List.getElem_mem _)
          have HS := Lib.hid (show (bs.take (k + 1)).map kn = (bs.take k).map kn ++ [kn bs[k]] by rw [List.take_succ_eq_append_getElem hlt, List.map_append]; rfl)
          obtain ⟨x, hxx⟩ : ∃ x, x = bs[k] := ⟨_, rfl⟩
          rw [← hxx] at hcell hx HS
          clear hxx
          go_wp2_with fail
          refine (kname_prog x _).mono ?_
          rintro e w2 ⟨rfl, b2⟩
          rw [knI_nat]
          have hown2 := own_below hown b2
          have hnx2 := hnx.trans (b2.mono hnx.size)
          go_wp2_with (at_builtin; refine wpList_append_new rfl (.tmp 16) (.tmp 19) 25 rfl w1.heap.size stringsElem _ _ _ rfl hown2 [.string (kn x)] rfl rfl rfl (by omega) (by omega) hnx2.size ?_; intro v' w3 hown' hbel hne)
          go_roundw
          case rel => exact ⟨k + 1, by omega, by go_num, by rw [HS.out]; simpa using hown', hnx2.trans hbel⟩
          case measure => simp [intOf]; omega
        · obtain rfl : k = bs.length := by omega
          rw [List.take_length, HK.out] at hown
          have hlen : bs.length = (ksel m 17).length := by rw [← HK.out, List.length_map]
          rw [hlen] at hown
          have SA := strsAt_own hown
          by_cases hz : ksel m 17 = []
          · have HZ := Lib.hid (HT0.out hz)
            rw [hz] at SA hlen
            obtain ⟨ao, cap2, hv, _⟩ := SA
            subst hv
            have h0 : bs.length = 0 := hlen
            clear hz hown
            go_wp2_with fail
            go_ret
            exact ⟨by rw [HZ.out] <;> rfl, B1.out.trans (hnx.mono hbz)⟩
          · have HZ := Lib.hid (HT1.out hz)
            have hpos := List.length_pos_iff.2 hz
            have SA' := Lib.hid SA
            obtain ⟨ao, cap2, hv, _⟩ := SA
            subst hv
            clear hz hown
            go_wp2_with fail
            refine (join_prog _ (ksel m 17) ⟨#[43]⟩ _ SA'.out (by omega) (by have := HL.out; unfold jn at this; exact Nat.le_trans this (by omega))).mono ?_
            rintro e w3 ⟨rfl, b3⟩
            go_wp2_with fail
            go_ret
            refine ⟨by rw [HZ.out]; rfl, B1.out.trans ((hnx.mono hbz).trans (b3.mono ?_))⟩
            have := hnx.size
            omega
set_option maxHeartbeats 1000000 in
theorem text_ref (n : Int) (w : World) : Calls Try.prog 30 #[.int .i64 n] w fun e w' => e = .returned (.string (ktext n)) ∧ Below w.heap.size w w' := by
  cases ho : okK n
  · rw [ktext_not n ho]
    go_enter Try.func30, Try.ntmps30
    go_wp2_with fail
    refine (kis_ref n _).mono ?_
    rintro e w1 ⟨rfl, rfl⟩
    rw [ho]
    clear ho
    go_wp2_with fail
    go_ret
    exact ⟨rfl, Below.refl _ _⟩
  · obtain ⟨h0, h1⟩ := (okK_iff n).1 ho
    obtain ⟨m, rfl⟩ := Int.eq_ofNat_of_zero_le h0
    have hm : m < 131072 := by omega
    have HT0 := Lib.hid (ktext_none m ho)
    have HT1 := Lib.hid (ktext_some m ho)
    have HO := Lib.hid ho
    clear h0 h1 ho
    go_enter Try.func30, Try.ntmps30
    go_wp2_with fail
    refine (kis_ref m _).mono ?_
    rintro e w1 ⟨rfl, rfl⟩
    rw [HO.out]
    go_wp2_with fail
    go_loopw [0, 3, 4] (fun q s i wr => ∃ k : Nat, k ≤ 17 ∧ i = .int .i64 k ∧ q = .int .i64 ((m / 2 ^ k : Nat) : Int) ∧ s = .string (kacc m k) ∧ Below w.heap.size w wr) (fun _ _ i _ => 17 - (intOf i).toNat)
    case atStart => exact ⟨0, by omega, rfl, by simp, rfl, Below.refl _ _⟩
    case round =>
      obtain ⟨k, hk, rfl, rfl, rfl, hnx⟩ := hrel
      have hsz := kacc_size m k
      have HE := Lib.hid (kacc_empty m k hk)
      by_cases hlt : k < 17
      · have hle : m / 2 ^ k ≤ m := Nat.div_le_self _ _
        have HQ := Lib.hid (show m / 2 ^ (k + 1) = m / 2 ^ k / 2 by rw [Nat.pow_succ, Nat.div_div_eq_div_mul])
        have H1 := Lib.hid (kacc_first m k)
        have H2 := Lib.hid (kacc_more m k)
        have H3 := Lib.hid (kacc_miss m k)
        have hks := kn_small k
        obtain ⟨q, hq⟩ : ∃ q, q = m / 2 ^ k := ⟨_, rfl⟩
        obtain ⟨s, hs⟩ : ∃ s, s = kacc m k := ⟨_, rfl⟩
        rw [← hq] at hle HQ H1 H2 H3 ⊢
        rw [← hs] at hsz HE H1 H2 H3 ⊢
        clear hq hs
        by_cases hb : q % 2 = 1
        · have t1 : ((q : Int) % 2 == 1) = true := by rw [beq_iff_eq]; omega
          by_cases he : ksel m k = []
          · have HH := Lib.hid (H1.out hb he)
            have hemp := HE.out.2 he
            clear hb he
            go_wp2_with fail
            refine (kname_ref k _).mono ?_
            rintro e w2 ⟨rfl, b2⟩
            rw [knI_nat]
            go_wp2_with fail
            go_roundw
            case rel => exact ⟨k + 1, by omega, by go_num, by rw [HQ.out]; go_num, by rw [HH.out], hnx.trans (b2.mono hnx.size)⟩
            case measure => simp [intOf]; omega
          · have HH := Lib.hid (H2.out hb he)
            have hemp : s.toList.isEmpty = false := by rw [Bool.eq_false_iff]; exact fun h => he (HE.out.1 h)
            clear hb he
            go_wp2_with fail
            refine (kname_ref k _).mono ?_
            rintro e w2 ⟨rfl, b2⟩
            rw [knI_nat]
            go_wp2_with fail
            go_roundw
            case rel => exact ⟨k + 1, by omega, by go_num, by rw [HQ.out]; go_num, by rw [HH.out], hnx.trans (b2.mono hnx.size)⟩
            case measure => simp [intOf]; omega
        · have t1 : ((q : Int) % 2 == 1) = false := by rw [beq_eq_false_iff_ne]; omega
          have HH := Lib.hid (H3.out hb)
          clear hb
          go_wp2_with fail
          go_roundw
          case rel => exact ⟨k + 1, by omega, by go_num, by rw [HQ.out]; go_num, by rw [HH.out], hnx⟩
          case measure => simp [intOf]; omega
      · obtain rfl : k = 17 := by omega
        by_cases he : ksel m 17 = []
        · have HZ := Lib.hid (HT0.out he)
          have hemp := HE.out.2 he
          clear he
          go_wp2_with fail
          go_ret
          exact ⟨by rw [HZ.out] <;> rfl, hnx⟩
        · have HZ := Lib.hid (HT1.out he)
          have hemp : (kacc m 17).toList.isEmpty = false := by rw [Bool.eq_false_iff]; exact fun h => he (HE.out.1 h)
          clear he
          go_wp2_with fail
          go_ret
          exact ⟨by rw [HZ.out] <;> rfl, hnx⟩
end Go.Proofs.Ytihnjbbgfjckaaa
