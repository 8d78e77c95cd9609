/- Chapter 03: walks of the references that make lists, of Same, and of the program's Is. -/
import Derived.Test.YthhlpcmgcblopaaIdB
namespace Go.Proofs.Ythhlpcmgcblopaa
open Go Go.RowKit Cg
set_option maxHeartbeats 400000 in
theorem is_prog (v : Value) (xs : List Int) (w : World) (h : RowAt (Value.int .i64) w v xs) (hn : xs.length ≤ 1000000) :
    Calls Try.prog 17 #[v] w fun e w' => e = .returned (.bool (isZ xs)) ∧ QZ w w' := by
  obtain ⟨ao, cap, rfl, hcap, hx⟩ := h
  have HX := Lib.hid hx
  clear hx
  go_enter Try.func17, Try.ntmps17
  go_wp2_with fail
  go_loopw [3] (fun i wr => ∃ k : Nat, 1 ≤ k ∧ i = .int .i64 k ∧ Hid (k ≤ xs.length ∨ k = 1) ∧ Hid (Rise xs k) ∧ Hid (QZ w wr)) (fun i _ => xs.length - (intOf i).toNat)
  case atStart => exact ⟨1, by omega, rfl, Lib.hid (.inr rfl), Lib.hid fun j hj h0 => by omega, Lib.hid (QZ.refl w)⟩
  case round =>
    obtain ⟨k, hk, rfl, HK, H, HQ⟩ := hrel
    by_cases hlt : k < xs.length
    · rcases HX.out with e | ⟨b, o, rfl, hb, hc⟩
      · rw [e] at hlt; simp at hlt
      have g0 := (HQ.out.below.cell (p := ⟨b, o + k, none⟩) hb).trans (hc k xs[k] (by simp))
      have g1 := (HQ.out.below.cell (p := ⟨b, o + (k - 1), none⟩) hb).trans (hc (k - 1) xs[k - 1] (by simp))
      have h0 := getD_at xs k hlt
      have h1 := getD_at xs (k - 1) (by omega)
      obtain ⟨y, hy⟩ : ∃ y, y = xs[k] := ⟨_, rfl⟩
      obtain ⟨z, hz⟩ : ∃ z, z = xs[k - 1] := ⟨_, rfl⟩
      rw [← hy] at g0 h0
      rw [← hz] at g1 h1
      have H0 := Lib.hid h0
      have H1 := Lib.hid h1
      clear h0 h1 hc hy hz
      obtain ⟨m, rfl⟩ : ∃ m, k = m + 1 := ⟨k - 1, by omega⟩
      rw [show m + 1 - 1 = m by omega] at g1 H1
      have i0 : (0 : Int) ≤ (m : Int) := by omega
      have i1 : (m : Int) < (xs.length : Int) := by omega
      have i2 : ((m : Int) + 1) < (xs.length : Int) := by omega
      by_cases hle : z < y
      · have H2 := Lib.hid (H.out.step (by rw [show m + 1 - 1 = m by omega, H0.out, H1.out]; exact hle))
        go_wp2_with fail
        go_quiet (fail)
        go_wp2_with fail
        go_roundw
        case rel => exact ⟨m + 1 + 1, by omega, by go_num, Lib.hid (.inl (by omega)), H2, Lib.hid (HQ.out.more _)⟩
        case measure => simp [intOf]; omega
      · have HR := Lib.hid (isZ_false hlt hk (by rw [show m + 1 - 1 = m by omega, H0.out, H1.out]; exact hle))
        go_wp2_with fail
        go_quiet (fail)
        go_wp2_with fail
        go_ret
        exact ⟨ret_bool HR.out.symm, HQ.out.more _⟩
    · have HR := Lib.hid (show isZ xs = true from isZ_true fun j hj h0 => H.out j (by omega) h0)
      go_wp2_with fail
      go_ret
      exact ⟨ret_bool HR.out.symm, HQ.out⟩
theorem list_ext_getD {xs ys : List Int} (hl : xs.length = ys.length) (h : ∀ j, j < xs.length → xs.getD j 0 = ys.getD j 0) : xs = ys := by
  apply List.ext_getElem hl
  intro j h1 h2
  have := h j h1
  rwa [getD_at _ _ h1, getD_at _ _ h2] at this
theorem same_ref (v u : Value) (xs ys : List Int) (w : World) (h : RowAt (Value.int .i64) w v xs) (k : RowAt (Value.int .i64) w u ys) (hn : xs.length ≤ 1000000) :
    Calls Try.prog 19 #[v, u] w fun e w' => e = .returned (.bool (decide (xs = ys))) ∧ QZ w w' := by
  obtain ⟨ao, cap, rfl, hcap, hx⟩ := h
  obtain ⟨au, cap2, rfl, hcap2, hy⟩ := k
  have HX := Lib.hid hx
  have HY := Lib.hid hy
  clear hx hy
  by_cases hl : xs.length = ys.length
  · obtain ⟨n, hnn⟩ : ∃ n, xs.length = n := ⟨_, rfl⟩
    have hmm := hl.symm.trans hnn
    have HL := Lib.hid hnn
    have HM := Lib.hid hmm
    rw [hnn, hmm]
    rw [hnn] at hn
    clear hl hnn hmm hcap hcap2
    go_enter Try.func19, Try.ntmps19
    go_wp2_with fail
    go_loopw [5] (fun i wr => ∃ k : Nat, k ≤ n ∧ i = .int .i64 k ∧ Hid (∀ j, j < k → xs.getD j 0 = ys.getD j 0) ∧ Hid (QZ w wr)) (fun i _ => n - (intOf i).toNat)
    case atStart => exact ⟨0, by omega, rfl, Lib.hid fun j hj => by omega, Lib.hid (QZ.refl w)⟩
    case round =>
      obtain ⟨k, hk, rfl, H, HQ⟩ := hrel
      by_cases hlt : k < n
      · have hk1 : k < xs.length := by rw [HL.out]; exact hlt
        have hk2 : k < ys.length := by rw [HM.out]; exact hlt
        rcases HX.out with e | ⟨b, o, rfl, hb, hc⟩
        · rw [e] at hk1; simp at hk1
        rcases HY.out with e | ⟨b2, o2, rfl, hb2, hc2⟩
        · rw [e] at hk2; simp at hk2
        have g0 := (HQ.out.below.cell (p := ⟨b, o + k, none⟩) hb).trans (hc k xs[k] (by simp))
        have g1 := (HQ.out.below.cell (p := ⟨b2, o2 + k, none⟩) hb2).trans (hc2 k ys[k] (by simp))
        have h0 := getD_at xs k hk1
        have h1 := getD_at ys k hk2
        obtain ⟨y, hy⟩ : ∃ y, y = xs[k] := ⟨_, rfl⟩
        obtain ⟨z, hz⟩ : ∃ z, z = ys[k] := ⟨_, rfl⟩
        rw [← hy] at g0 h0
        rw [← hz] at g1 h1
        have H0 := Lib.hid h0
        have H1 := Lib.hid h1
        clear h0 h1 hc hc2 hy hz hk1 hk2
        have i0 : (0 : Int) ≤ (k : Int) := by omega
        have i1 : (k : Int) < (n : Int) := by omega
        by_cases he : y = z
        · have ht : (y == z) = true := by rw [he]; simp
          have H2 : Hid (∀ j, j < k + 1 → xs.getD j 0 = ys.getD j 0) := Lib.hid fun j hj => by
            by_cases e : j = k
            · rw [e, H0.out, H1.out]; exact he
            · exact H.out j (by omega)
          clear he
          go_wp2_with fail
          go_quiet (fail)
          go_wp2_with fail
          go_roundw
          case rel => exact ⟨k + 1, by omega, by go_num, H2, Lib.hid (HQ.out.more _)⟩
          case measure => simp [intOf]; omega
        · have ht : (y == z) = false := beq_eq_false_iff_ne.2 he
          have HR := Lib.hid (show decide (xs = ys) = false from decide_eq_false fun e => he (by rw [← H0.out, ← H1.out, e]))
          clear he
          go_wp2_with fail
          go_quiet (fail)
          go_wp2_with fail
          go_ret
          exact ⟨ret_bool HR.out.symm, HQ.out.more _⟩
      · obtain rfl : k = n := by omega
        have HR := Lib.hid (show decide (xs = ys) = true from decide_eq_true (list_ext_getD (by rw [HL.out, HM.out]) (by rw [HL.out]; exact H.out)))
        go_wp2_with fail
        go_ret
        exact ⟨ret_bool HR.out.symm, HQ.out⟩
  · have ht : ((xs.length : Int) == (ys.length : Int)) = false := beq_eq_false_iff_ne.2 (by omega)
    have HR := Lib.hid (show decide (xs = ys) = false from decide_eq_false fun e => hl (by rw [e]))
    go_enter Try.func19, Try.ntmps19
    go_wp2_with fail
    go_ret
    exact ⟨ret_bool HR.out.symm, QZ.refl w⟩
/-- What a reference's insertion has done after k elements. -/
def ist (n : Int) (xs : List Int) (k : Nat) : List Int × Bool := (xs.take k).foldl (insStep ltZ n) ([], false)
theorem ist_succ (n : Int) (xs : List Int) (k : Nat) (h : k < xs.length) : ist n xs (k + 1) = insStep ltZ n (ist n xs k) xs[k] := by
  rw [ist, List.take_succ_eq_append_getElem h, List.foldl_append]; rfl
theorem ist_len (n : Int) (xs : List Int) : ∀ k, k ≤ xs.length → (ist n xs k).1.length ≤ 2 * k
  | 0, _ => by simp [ist]
  | k + 1, h => by
    have ih := ist_len n xs k (by omega)
    rw [ist_succ n xs k (by omega)]
    unfold insStep
    split <;> split <;> simp <;> omega
theorem ist_all (n : Int) (xs : List Int) : (if (ist n xs xs.length).2 then (ist n xs xs.length).1 else (ist n xs xs.length).1 ++ [n]) = ins ltZ n xs := by
  have := insStep_open ltZ ltZ_ord n xs []
  rw [List.nil_append] at this
  unfold ist
  rw [List.take_length]
  exact this
set_option maxHeartbeats 1000000 in
theorem insert_ref (v : Value) (xs : List Int) (n : Int) (w : World) (h : RowAt (Value.int .i64) w v xs) (hn : xs.length ≤ 1000000) :
    Calls Try.prog 45 #[v, .int .i64 n] w fun e w' => ∃ v', e = .returned v' ∧ w'.ownsRow w.heap.size 3 1 v' (ins ltZ n xs).length ((ins ltZ n xs).map (Value.int .i64)) ∧ Below w.heap.size w w' := by
  obtain ⟨ao, cap, rfl, hcap, hx⟩ := h
  have HX := Lib.hid hx
  clear hx
  go_enter Try.func45, Try.ntmps45
  go_wp2_with fail
  go_loopw [5, 6, 7] (fun out d i wr => ∃ k : Nat, k ≤ xs.length ∧ i = .int .i64 k ∧ d = .bool (ist n xs k).2 ∧ wr.ownsRow w.heap.size 3 1 out (ist n xs k).1.length ((ist n xs k).1.map (Value.int .i64)) ∧ Below w.heap.size w wr) (fun _ _ i _ => xs.length - (intOf i).toNat)
  case atStart => exact ⟨0, by omega, rfl, rfl, World.ownsRow_nil _ _ _ _, Below.refl _ _⟩
  case round =>
    obtain ⟨k, hk, rfl, rfl, hown, hnx⟩ := hrel
    have hln := ist_len n xs k hk
    by_cases hlt : k < xs.length
    · rcases HX.out with e | ⟨b, o, rfl, hb, hc⟩
      · rw [e] at hlt; simp at hlt
      have hcell := (hnx.cell (p := ⟨b, o + k, none⟩) hb).trans (hc k xs[k] (by simp))
      have hs := ist_succ n xs k hlt
      obtain ⟨x, hxx⟩ : ∃ x, x = xs[k] := ⟨_, rfl⟩
      rw [← hxx] at hcell hs
      obtain ⟨l, hl⟩ : ∃ l, l = (ist n xs k).1 := ⟨_, rfl⟩
      cases hd : (ist n xs k).2
      · by_cases hlx : x < n
        · have ne : ¬ x = n := by omega
          have hne : (x == n) = false := beq_eq_false_iff_ne.2 ne
          have HS := Lib.hid (show ist n xs (k + 1) = (l ++ [x], false) by rw [hs, insStep, hd, hl, if_neg (by simp [ltZ, hlx]), if_neg ne])
          rw [← hl] at hown hln
          clear hs hl hd hc hxx ne
          go_wp2_with (at_builtin; refine wpList_append_new rfl (.tmp 34) (.tmp 39) 22 rfl w.heap.size intsElem _ _ _ rfl hown [.int .i64 x] rfl rfl rfl (by omega) (by omega) hnx.size ?_; intro v' w1 hown' hbel _)
          go_roundw
          case rel => exact ⟨k + 1, by omega, by go_num, by rw [HS.out], by rw [HS.out]; simpa using hown', hnx.trans hbel⟩
          case measure => simp [intOf]; omega
        · have hge : n ≤ x := by omega
          clear hlx
          by_cases ne : x = n
          · have HS := Lib.hid (show ist n xs (k + 1) = (l ++ [n], true) by rw [hs, insStep, hd, hl, if_pos ⟨rfl, by simp [ltZ, hge]⟩, if_pos ne])
            rw [← hl] at hown hln
            rw [ne] at hcell
            clear hs hl hd hc hxx hge ne
            go_wp2_with (at_builtin; refine wpList_append_new rfl (.tmp 24) (.tmp 26) 22 rfl w.heap.size intsElem _ _ _ rfl hown [.int .i64 n] rfl rfl rfl (by omega) (by omega) hnx.size ?_; intro v' w1 hown' hbel _; have hcell1 := (hbel.cell (p := ⟨b, o + k, none⟩) hb).trans hcell; clear hcell)
            go_roundw
            case rel => exact ⟨k + 1, by omega, by go_num, by rw [HS.out], by rw [HS.out]; simpa using hown', hnx.trans hbel⟩
            case measure => simp [intOf]; omega
          · have hne : (x == n) = false := beq_eq_false_iff_ne.2 ne
            have HS := Lib.hid (show ist n xs (k + 1) = (l ++ [n] ++ [x], true) by rw [hs, insStep, hd, hl, if_pos ⟨rfl, by simp [ltZ, hge]⟩, if_neg ne])
            rw [← hl] at hown hln
            clear hs hl hd hc hxx ne
            go_wp2_with (first
              | (at_builtin; refine wpList_append_new rfl (.tmp 24) (.tmp 26) 22 rfl w.heap.size intsElem _ _ _ rfl hown [.int .i64 n] rfl rfl rfl (by omega) (by omega) hnx.size ?_; intro v1 w1 hown1 hbel1 _; have hcell1 := (hbel1.cell (p := ⟨b, o + k, none⟩) hb).trans hcell; clear hcell hown)
              | (at_builtin; refine wpList_append_new rfl (.tmp 34) (.tmp 39) 22 rfl w.heap.size intsElem _ _ _ rfl hown1 [.int .i64 x] rfl rfl rfl (by omega) (by omega) (hnx.trans hbel1).size ?_; intro v' w2 hown' hbel _))
            go_roundw
            case rel => exact ⟨k + 1, by omega, by go_num, by rw [HS.out], by rw [HS.out]; simpa using hown', (hnx.trans hbel1).trans hbel⟩
            case measure => simp [intOf]; omega
      · by_cases ne : x = n
        · have hne : (x == n) = true := by rw [ne]; simp
          have HS := Lib.hid (show ist n xs (k + 1) = (l, true) by rw [hs, insStep, hd, hl, if_neg (by simp), if_pos ne])
          rw [← hl] at hown hln
          clear hs hl hd hc hxx ne
          go_wp2_with fail
          go_roundw
          case rel => exact ⟨k + 1, by omega, by go_num, by rw [HS.out], by rw [HS.out]; exact hown, hnx⟩
          case measure => simp [intOf]; omega
        · have hne : (x == n) = false := beq_eq_false_iff_ne.2 ne
          have HS := Lib.hid (show ist n xs (k + 1) = (l ++ [x], true) by rw [hs, insStep, hd, hl, if_neg (by simp), if_neg ne])
          rw [← hl] at hown hln
          clear hs hl hd hc hxx ne
          go_wp2_with (at_builtin; refine wpList_append_new rfl (.tmp 34) (.tmp 39) 22 rfl w.heap.size intsElem _ _ _ rfl hown [.int .i64 x] rfl rfl rfl (by omega) (by omega) hnx.size ?_; intro v' w1 hown' hbel _)
          go_roundw
          case rel => exact ⟨k + 1, by omega, by go_num, by rw [HS.out], by rw [HS.out]; simpa using hown', hnx.trans hbel⟩
          case measure => simp [intOf]; omega
    · obtain rfl : k = xs.length := by omega
      have hall := ist_all n xs
      obtain ⟨l, hl⟩ : ∃ l, l = (ist n xs xs.length).1 := ⟨_, rfl⟩
      rw [← hl] at hown hln hall
      cases hd : (ist n xs xs.length).2
      · rw [hd] at hall
        have HA := Lib.hid (show ins ltZ n xs = l ++ [n] from hall.symm)
        clear hall hl hd
        go_wp2_with (at_builtin; refine wpList_append_new rfl (.tmp 43) (.tmp 45) 22 rfl w.heap.size intsElem _ _ _ rfl hown [.int .i64 n] rfl rfl rfl (by omega) (by omega) hnx.size ?_; intro v' w1 hown' hbel _)
        go_ret
        exact ⟨_, rfl, by rw [HA.out]; simpa using hown', hnx.trans hbel⟩
      · rw [hd] at hall
        have HA := Lib.hid (show ins ltZ n xs = l from hall.symm)
        clear hall hl hd
        go_wp2_with fail
        go_ret
        exact ⟨_, rfl, by rw [HA.out]; exact hown, hnx⟩
theorem insert_own (base : Nat) (v : Value) (xs : List Int) (n : Int) (w : World) (h : w.ownsRow base 3 1 v xs.length (xs.map (Value.int .i64))) (hb : base ≤ w.heap.size) (hn : xs.length ≤ 1000000) :
    Calls Try.prog 45 #[v, .int .i64 n] w fun e w' => ∃ v', e = .returned v' ∧ w'.ownsRow base 3 1 v' (ins ltZ n xs).length ((ins ltZ n xs).map (Value.int .i64)) ∧ Below w.heap.size w w' :=
  (insert_ref v xs n w (rowAt_own h) hn).mono fun _ _ ⟨v', h1, h2, h3⟩ => ⟨v', h1, own_low h2 hb, h3⟩
theorem of_ref (v : Value) (xs : List Int) (w : World) (h : RowAt (Value.int .i64) w v xs) (hn : xs.length ≤ 400000) :
    Calls Try.prog 21 #[v] w fun e w' => ∃ v', e = .returned v' ∧ w'.ownsRow w.heap.size 3 1 v' (insAll ltZ [] xs).length ((insAll ltZ [] xs).map (Value.int .i64)) ∧ Below w.heap.size w w' := by
  obtain ⟨ao, cap, rfl, hcap, hx⟩ := h
  have HX := Lib.hid hx
  clear hx
  go_enter Try.func21, Try.ntmps21
  go_wp2_with fail
  go_loopw [3, 4] (fun out i wr => ∃ k : Nat, k ≤ xs.length ∧ i = .int .i64 k ∧ wr.ownsRow w.heap.size 3 1 out (insAll ltZ [] (xs.take k)).length ((insAll ltZ [] (xs.take k)).map (Value.int .i64)) ∧ Below w.heap.size w wr) (fun _ i _ => xs.length - (intOf i).toNat)
  case atStart => exact ⟨0, by omega, rfl, World.ownsRow_nil _ _ _ _, Below.refl _ _⟩
  case round =>
    obtain ⟨k, hk, rfl, hown, hnx⟩ := hrel
    by_cases hlt : k < xs.length
    · rcases HX.out with e | ⟨b, o, rfl, hb, hc⟩
      · rw [e] at hlt; simp at hlt
      have hcell := (hnx.cell (p := ⟨b, o + k, none⟩) hb).trans (hc k xs[k] (by simp))
      have HS := Lib.hid (show insAll ltZ [] (xs.take (k + 1)) = ins ltZ xs[k] (insAll ltZ [] (xs.take k)) by rw [List.take_succ_eq_append_getElem hlt, insAll_snoc])
      have HL := Lib.hid (show (insAll ltZ [] (xs.take k)).length ≤ 1000000 by have := insAll_len ltZ (xs.take k) []; simp at this; omega)
      obtain ⟨x, hxx⟩ : ∃ x, x = xs[k] := ⟨_, rfl⟩
      obtain ⟨l, hl⟩ : ∃ l, l = insAll ltZ [] (xs.take k) := ⟨_, rfl⟩
      rw [← hxx] at hcell HS
      rw [← hl] at hown HS HL
      clear hxx hc hl
      have HO := Lib.hid hown
      clear hown
      go_wp2_with fail
      refine (insert_own w.heap.size _ l x _ HO.out hnx.size HL.out).mono ?_
      rintro e w1 ⟨v1, rfl, o1, b1⟩
      go_wp2_with fail
      go_roundw
      case rel => exact ⟨k + 1, by omega, by go_num, by rw [HS.out]; exact o1, hnx.trans (b1.mono hnx.size)⟩
      case measure => simp [intOf]; omega
    · obtain rfl : k = xs.length := by omega
      rw [List.take_length] at hown
      go_wp2_with fail
      go_ret
      exact ⟨_, rfl, hown, hnx⟩
theorem union_ref (v u : Value) (xs ys : List Int) (w : World) (h : RowAt (Value.int .i64) w v xs) (h2 : RowAt (Value.int .i64) w u ys) (hn : xs.length ≤ 400000) (hm : ys.length ≤ 400000) :
    Calls Try.prog 23 #[v, u] w fun e w' => ∃ v', e = .returned v' ∧ w'.ownsRow w.heap.size 3 1 v' (insAll ltZ (insAll ltZ [] xs) ys).length ((insAll ltZ (insAll ltZ [] xs) ys).map (Value.int .i64)) ∧ Below w.heap.size w w' := by
  obtain ⟨au, cap2, rfl, hcap2, hy⟩ := h2
  have HY := Lib.hid hy
  have HC := Lib.hid (of_ref v xs w h hn)
  have HL0 := insAll_len ltZ xs []
  rw [List.length_nil, Nat.zero_add] at HL0
  clear hy h
  obtain ⟨zs, hz⟩ : ∃ zs, zs = insAll ltZ [] xs := ⟨_, rfl⟩
  rw [← hz] at HC HL0 ⊢
  clear hz
  go_enter Try.func23, Try.ntmps23
  go_wp2_with fail
  refine HC.out.mono ?_
  rintro e w1 ⟨v1, rfl, o1, b1⟩
  clear HC
  go_wp2_with fail
  go_loopw [5, 6] (fun out i wr => ∃ k : Nat, k ≤ ys.length ∧ i = .int .i64 k ∧ wr.ownsRow w.heap.size 3 1 out (insAll ltZ zs (ys.take k)).length ((insAll ltZ zs (ys.take k)).map (Value.int .i64)) ∧ Below w.heap.size w wr) (fun _ i _ => ys.length - (intOf i).toNat)
  case atStart => exact ⟨0, by omega, rfl, o1, b1⟩
  case round =>
    obtain ⟨k, hk, rfl, hown, hnx⟩ := hrel
    clear o1
    by_cases hlt : k < ys.length
    · rcases HY.out with e | ⟨b, o, rfl, hb, hc⟩
      · rw [e] at hlt; simp at hlt
      have hcell := (hnx.cell (p := ⟨b, o + k, none⟩) hb).trans (hc k ys[k] (by simp))
      have HS := Lib.hid (show insAll ltZ zs (ys.take (k + 1)) = ins ltZ ys[k] (insAll ltZ zs (ys.take k)) by rw [List.take_succ_eq_append_getElem hlt, insAll_snoc])
      have HL := Lib.hid (show (insAll ltZ zs (ys.take k)).length ≤ 1000000 by have := insAll_len ltZ (ys.take k) zs; have h4 : (ys.take k).length ≤ k := List.length_take_le _ _; omega)
      obtain ⟨x, hxx⟩ : ∃ x, x = ys[k] := ⟨_, rfl⟩
      obtain ⟨l, hl⟩ : ∃ l, l = insAll ltZ zs (ys.take k) := ⟨_, rfl⟩
      rw [← hxx] at hcell HS
      rw [← hl] at hown HS HL
      clear hxx hc hl b1
      have HO := Lib.hid hown
      clear hown
      go_wp2_with fail
      refine (insert_own w.heap.size _ l x _ HO.out hnx.size HL.out).mono ?_
      rintro e w2 ⟨v2, rfl, o2, b2⟩
      go_wp2_with fail
      go_roundw
      case rel => exact ⟨k + 1, by omega, by go_num, by rw [HS.out]; exact o2, hnx.trans (b2.mono hnx.size)⟩
      case measure => simp [intOf]; omega
    · obtain rfl : k = ys.length := by omega
      rw [List.take_length] at hown
      clear b1
      go_wp2_with fail
      go_ret
      exact ⟨_, rfl, hown, hnx⟩
def fmeet (xs ys : List Int) : List Int := insAll ltZ [] (xs.filter fun x => decide (x ∈ ys))
theorem fmeet_hit (xs ys : List Int) (k : Nat) (h : k < xs.length) (hp :  xs[k] ∈ ys) : fmeet (xs.take (k + 1)) ys = ins ltZ xs[k] (fmeet (xs.take k) ys) := by
  rw [fmeet, List.take_succ_eq_append_getElem h, List.filter_append, List.filter_cons, if_pos (by simpa using hp), List.filter_nil, insAll_snoc]; rfl
theorem fmeet_miss (xs ys : List Int) (k : Nat) (h : k < xs.length) (hp : ¬ xs[k] ∈ ys) : fmeet (xs.take (k + 1)) ys = fmeet (xs.take k) ys := by
  rw [fmeet, List.take_succ_eq_append_getElem h, List.filter_append, List.filter_cons, if_neg (by simpa using hp), List.filter_nil, List.append_nil]; rfl
theorem fmeet_len (xs ys : List Int) : (fmeet xs ys).length ≤ xs.length := by
  have h1 := insAll_len ltZ (xs.filter fun x => decide (x ∈ ys)) []
  have h2 := List.length_filter_le (fun x => decide (x ∈ ys)) xs
  rw [List.length_nil, Nat.zero_add] at h1
  exact Nat.le_trans h1 h2
theorem meet_ref (v u : Value) (xs ys : List Int) (w : World) (h : RowAt (Value.int .i64) w v xs) (h2 : RowAt (Value.int .i64) w u ys) (hn : xs.length ≤ 400000) (hm : ys.length ≤ 400000) :
    Calls Try.prog 25 #[v, u] w fun e w' => ∃ v', e = .returned v' ∧ w'.ownsRow w.heap.size 3 1 v' (fmeet xs ys).length ((fmeet xs ys).map (Value.int .i64)) ∧ Below w.heap.size w w' := by
  obtain ⟨ao, cap, rfl, hcap, hx⟩ := h
  have HX := Lib.hid hx
  have HY := Lib.hid h2
  obtain ⟨au, cap2, rfl⟩ := h2.form
  clear hx h2
  go_enter Try.func25, Try.ntmps25
  go_wp2_with fail
  go_loopw [5, 6] (fun out i wr => ∃ k : Nat, k ≤ xs.length ∧ i = .int .i64 k ∧ wr.ownsRow w.heap.size 3 1 out (fmeet (xs.take k) ys).length ((fmeet (xs.take k) ys).map (Value.int .i64)) ∧ Below w.heap.size w wr) (fun _ i _ => xs.length - (intOf i).toNat)
  case atStart => exact ⟨0, by omega, rfl, World.ownsRow_nil _ _ _ _, Below.refl _ _⟩
  case round =>
    obtain ⟨k, hk, rfl, hown, hnx⟩ := hrel
    by_cases hlt : k < xs.length
    · rcases HX.out with e | ⟨b, o, rfl, hb, hc⟩
      · rw [e] at hlt; simp at hlt
      have hcell := (hnx.cell (p := ⟨b, o + k, none⟩) hb).trans (hc k xs[k] (by simp))
      have H1 := Lib.hid (fmeet_hit xs ys k hlt)
      have H2 := Lib.hid (fmeet_miss xs ys k hlt)
      have HL := Lib.hid (show (fmeet (xs.take k) ys).length ≤ 1000000 by have := fmeet_len (xs.take k) ys; have h4 : (xs.take k).length ≤ k := List.length_take_le _ _; omega)
      obtain ⟨x, hxx⟩ : ∃ x, x = xs[k] := ⟨_, rfl⟩
      obtain ⟨l, hl⟩ : ∃ l, l = fmeet (xs.take k) ys := ⟨_, rfl⟩
      rw [← hxx] at hcell H1 H2
      rw [← hl] at hown H1 H2 HL
      clear hxx hc hl
      have HO := Lib.hid hown
      clear hown
      by_cases hp :  x ∈ ys
      · have HS := Lib.hid (H1.out hp)
        have HD := Lib.hid (show decide (x ∈ ys) = true by simpa using hp)
        clear hp H1 H2
        go_wp2_with fail
        refine (has_ref _ ys x _ (HY.out.below hnx) (by omega)).mono ?_
        rintro e w1 ⟨rfl, rfl⟩
        rw [HD.out]
        go_wp2_with fail
        refine (insert_own w.heap.size _ l x _ HO.out hnx.size HL.out).mono ?_
        rintro e w2 ⟨v2, rfl, o2, b2⟩
        go_wp2_with fail
        go_roundw
        case rel => exact ⟨k + 1, by omega, by go_num, by rw [HS.out]; exact o2, hnx.trans (b2.mono hnx.size)⟩
        case measure => simp [intOf]; omega
      · have HS := Lib.hid (H2.out (by simpa using hp))
        have HD := Lib.hid (show decide (x ∈ ys) = false by simpa using hp)
        clear hp H1 H2
        go_wp2_with fail
        refine (has_ref _ ys x _ (HY.out.below hnx) (by omega)).mono ?_
        rintro e w1 ⟨rfl, rfl⟩
        rw [HD.out]
        go_wp2_with fail
        go_roundw
        case rel => exact ⟨k + 1, by omega, by go_num, by rw [HS.out]; exact HO.out, hnx⟩
        case measure => simp [intOf]; omega
    · obtain rfl : k = xs.length := by omega
      rw [List.take_length] at hown
      go_wp2_with fail
      go_ret
      exact ⟨_, rfl, hown, hnx⟩
def fminus (xs ys : List Int) : List Int := insAll ltZ [] (xs.filter fun x => decide (¬ x ∈ ys))
theorem fminus_hit (xs ys : List Int) (k : Nat) (h : k < xs.length) (hp : ¬ xs[k] ∈ ys) : fminus (xs.take (k + 1)) ys = ins ltZ xs[k] (fminus (xs.take k) ys) := by
  rw [fminus, List.take_succ_eq_append_getElem h, List.filter_append, List.filter_cons, if_pos (by simpa using hp), List.filter_nil, insAll_snoc]; rfl
theorem fminus_miss (xs ys : List Int) (k : Nat) (h : k < xs.length) (hp :  xs[k] ∈ ys) : fminus (xs.take (k + 1)) ys = fminus (xs.take k) ys := by
  rw [fminus, List.take_succ_eq_append_getElem h, List.filter_append, List.filter_cons, if_neg (by simpa using hp), List.filter_nil, List.append_nil]; rfl
theorem fminus_len (xs ys : List Int) : (fminus xs ys).length ≤ xs.length := by
  have h1 := insAll_len ltZ (xs.filter fun x => decide (¬ x ∈ ys)) []
  have h2 := List.length_filter_le (fun x => decide (¬ x ∈ ys)) xs
  rw [List.length_nil, Nat.zero_add] at h1
  exact Nat.le_trans h1 h2
theorem minus_ref (v u : Value) (xs ys : List Int) (w : World) (h : RowAt (Value.int .i64) w v xs) (h2 : RowAt (Value.int .i64) w u ys) (hn : xs.length ≤ 400000) (hm : ys.length ≤ 400000) :
    Calls Try.prog 27 #[v, u] w fun e w' => ∃ v', e = .returned v' ∧ w'.ownsRow w.heap.size 3 1 v' (fminus xs ys).length ((fminus xs ys).map (Value.int .i64)) ∧ Below w.heap.size w w' := by
  obtain ⟨ao, cap, rfl, hcap, hx⟩ := h
  have HX := Lib.hid hx
  have HY := Lib.hid h2
  obtain ⟨au, cap2, rfl⟩ := h2.form
  clear hx h2
  go_enter Try.func27, Try.ntmps27
  go_wp2_with fail
  go_loopw [5, 6] (fun out i wr => ∃ k : Nat, k ≤ xs.length ∧ i = .int .i64 k ∧ wr.ownsRow w.heap.size 3 1 out (fminus (xs.take k) ys).length ((fminus (xs.take k) ys).map (Value.int .i64)) ∧ Below w.heap.size w wr) (fun _ i _ => xs.length - (intOf i).toNat)
  case atStart => exact ⟨0, by omega, rfl, World.ownsRow_nil _ _ _ _, Below.refl _ _⟩
  case round =>
    obtain ⟨k, hk, rfl, hown, hnx⟩ := hrel
    by_cases hlt : k < xs.length
    · rcases HX.out with e | ⟨b, o, rfl, hb, hc⟩
      · rw [e] at hlt; simp at hlt
      have hcell := (hnx.cell (p := ⟨b, o + k, none⟩) hb).trans (hc k xs[k] (by simp))
      have H1 := Lib.hid (fminus_hit xs ys k hlt)
      have H2 := Lib.hid (fminus_miss xs ys k hlt)
      have HL := Lib.hid (show (fminus (xs.take k) ys).length ≤ 1000000 by have := fminus_len (xs.take k) ys; have h4 : (xs.take k).length ≤ k := List.length_take_le _ _; omega)
      obtain ⟨x, hxx⟩ : ∃ x, x = xs[k] := ⟨_, rfl⟩
      obtain ⟨l, hl⟩ : ∃ l, l = fminus (xs.take k) ys := ⟨_, rfl⟩
      rw [← hxx] at hcell H1 H2
      rw [← hl] at hown H1 H2 HL
      clear hxx hc hl
      have HO := Lib.hid hown
      clear hown
      by_cases hp : ¬ x ∈ ys
      · have HS := Lib.hid (H1.out hp)
        have HD := Lib.hid (show decide (x ∈ ys) = false by simpa using hp)
        clear hp H1 H2
        go_wp2_with fail
        refine (has_ref _ ys x _ (HY.out.below hnx) (by omega)).mono ?_
        rintro e w1 ⟨rfl, rfl⟩
        rw [HD.out]
        go_wp2_with fail
        refine (insert_own w.heap.size _ l x _ HO.out hnx.size HL.out).mono ?_
        rintro e w2 ⟨v2, rfl, o2, b2⟩
        go_wp2_with fail
        go_roundw
        case rel => exact ⟨k + 1, by omega, by go_num, by rw [HS.out]; exact o2, hnx.trans (b2.mono hnx.size)⟩
        case measure => simp [intOf]; omega
      · have HS := Lib.hid (H2.out (by simpa using hp))
        have HD := Lib.hid (show decide (x ∈ ys) = true by simpa using hp)
        clear hp H1 H2
        go_wp2_with fail
        refine (has_ref _ ys x _ (HY.out.below hnx) (by omega)).mono ?_
        rintro e w1 ⟨rfl, rfl⟩
        rw [HD.out]
        go_wp2_with fail
        go_roundw
        case rel => exact ⟨k + 1, by omega, by go_num, by rw [HS.out]; exact HO.out, hnx⟩
        case measure => simp [intOf]; omega
    · obtain rfl : k = xs.length := by omega
      rw [List.take_length] at hown
      go_wp2_with fail
      go_ret
      exact ⟨_, rfl, hown, hnx⟩
def wout (xs : List Int) (n : Int) : List Int := xs.filter fun x => decide (¬ x = n)
theorem wout_hit (xs : List Int) (n : Int) (k : Nat) (h : k < xs.length) (hp : ¬ xs[k] = n) : wout (xs.take (k + 1)) n = wout (xs.take k) n ++ [xs[k]] := by
  rw [wout, List.take_succ_eq_append_getElem h, List.filter_append, List.filter_cons, if_pos (by simpa using hp), List.filter_nil]; rfl
theorem wout_miss (xs : List Int) (n : Int) (k : Nat) (h : k < xs.length) (hp : xs[k] = n) : wout (xs.take (k + 1)) n = wout (xs.take k) n := by
  rw [wout, List.take_succ_eq_append_getElem h, List.filter_append, List.filter_cons, if_neg (by simpa using hp), List.filter_nil, List.append_nil]; rfl
theorem wout_len (xs : List Int) (n : Int) : (wout xs n).length ≤ xs.length := List.length_filter_le _ _
theorem without_ref (v : Value) (xs : List Int) (n : Int) (w : World) (h : RowAt (Value.int .i64) w v xs) (hn : xs.length ≤ 400000) :
    Calls Try.prog 33 #[v, .int .i64 n] w fun e w' => ∃ v', e = .returned v' ∧ w'.ownsRow w.heap.size 3 1 v' (wout xs n).length ((wout xs n).map (Value.int .i64)) ∧ Below w.heap.size w w' := by
  obtain ⟨ao, cap, rfl, hcap, hx⟩ := h
  have HX := Lib.hid hx
  clear hx
  go_enter Try.func33, Try.ntmps33
  go_wp2_with fail
  go_loopw [5, 6] (fun out i wr => ∃ k : Nat, k ≤ xs.length ∧ i = .int .i64 k ∧ wr.ownsRow w.heap.size 3 1 out (wout (xs.take k) n).length ((wout (xs.take k) n).map (Value.int .i64)) ∧ Below w.heap.size w wr) (fun _ i _ => xs.length - (intOf i).toNat)
  case atStart => exact ⟨0, by omega, rfl, World.ownsRow_nil _ _ _ _, Below.refl _ _⟩
  case round =>
    obtain ⟨k, hk, rfl, hown, hnx⟩ := hrel
    by_cases hlt : k < xs.length
    · rcases HX.out with e | ⟨b, o, rfl, hb, hc⟩
      · rw [e] at hlt; simp at hlt
      have hcell := (hnx.cell (p := ⟨b, o + k, none⟩) hb).trans (hc k xs[k] (by simp))
      have H1 := Lib.hid (wout_hit xs n k hlt)
      have H2 := Lib.hid (wout_miss xs n k hlt)
      have hll : (wout (xs.take k) n).length ≤ 1000000 := by have := wout_len (xs.take k) n; have h4 : (xs.take k).length ≤ k := List.length_take_le _ _; omega
      obtain ⟨x, hxx⟩ : ∃ x, x = xs[k] := ⟨_, rfl⟩
      obtain ⟨l, hl⟩ : ∃ l, l = wout (xs.take k) n := ⟨_, rfl⟩
      rw [← hxx] at hcell H1 H2
      rw [← hl] at hown H1 H2 hll
      clear hxx hc hl
      by_cases hp : x = n
      · have HS := Lib.hid (H2.out hp)
        have ht : (x == n) = true := by rw [hp]; simp
        clear hp H1 H2
        go_wp2_with fail
        go_roundw
        case rel => exact ⟨k + 1, by omega, by go_num, by rw [HS.out]; exact hown, hnx⟩
        case measure => simp [intOf]; omega
      · have HS := Lib.hid (H1.out hp)
        have ht : (x == n) = false := beq_eq_false_iff_ne.2 hp
        clear hp H1 H2
        go_wp2_with (at_builtin; refine wpList_append_new rfl (.tmp 19) (.tmp 24) 22 rfl w.heap.size intsElem _ _ _ rfl hown [.int .i64 x] rfl rfl rfl (by omega) (by omega) hnx.size ?_; intro v' w1 hown' hbel _)
        go_roundw
        case rel => exact ⟨k + 1, by omega, by go_num, by rw [HS.out]; simpa using hown', hnx.trans hbel⟩
        case measure => simp [intOf]; omega
    · obtain rfl : k = xs.length := by omega
      rw [List.take_length] at hown
      go_wp2_with fail
      go_ret
      exact ⟨_, rfl, hown, hnx⟩
end Go.Proofs.Ythhlpcmgcblopaa
