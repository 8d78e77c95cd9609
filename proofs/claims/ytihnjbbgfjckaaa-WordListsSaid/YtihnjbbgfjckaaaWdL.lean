/- Chapter 02: the reference's Join, the bound on a list of strings, the walks of the laws WordSorts and WordLists. -/
import Derived.Test.YtihnjbbgfjckaaaWdK
namespace Go.Proofs.Ytihnjbbgfjckaaa
open Go Go.RowKit Go.Sort Cg
def tot (xs : List ByteArray) : Nat := (xs.map (·.size)).sum
theorem tot_snoc (xs : List ByteArray) (x : ByteArray) : tot (xs ++ [x]) = tot xs + x.size := by simp [tot]
theorem tot_le (xs : List ByteArray) (M : Nat) (h : ∀ x ∈ xs, x.size ≤ M) : tot xs ≤ xs.length * M := by
  induction xs with
  | nil => simp [tot]
  | cons a l ih =>
    have h1 := h a (by simp)
    have h2 := ih (fun x hx => h x (by simp [hx]))
    unfold tot at *
    rw [List.map_cons, List.sum_cons, List.length_cons, Nat.succ_mul]
    omega
theorem tot_mem (xs : List ByteArray) : ∀ x ∈ xs, x.size ≤ tot xs := by
  induction xs with
  | nil => intro x hx; simp at hx
  | cons a l ih =>
    intro x hx
    unfold tot at *
    rw [List.map_cons, List.sum_cons]
    rcases List.mem_cons.1 hx with e | hx
    · rw [e]; omega
    · have := ih x hx; omega
def smallB (xs : List ByteArray) : Bool := decide (xs.length ≤ 200 ∧ tot xs ≤ 2000)
theorem small_any (v : Value) (xs : List ByteArray) (w : World) (h : RowAt Value.string w v xs) (hz : ∀ x ∈ xs, x.size ≤ 140737488355328) (hn : xs.length ≤ 9223372036854775807) :
    Calls Try.prog 37 #[v] w fun e w' => e = .returned (.bool (smallB xs)) ∧ w = w' := by
  obtain ⟨ao, cap, rfl, hcap, hx⟩ := h
  have HX := Lib.hid hx
  have HZ := Lib.hid hz
  clear hx hz
  by_cases hl : xs.length ≤ 200
  · go_enter Try.func37, Try.ntmps37
    go_wp2_with fail
    go_loop [3, 8] (fun s i => ∃ k : Nat, k ≤ xs.length ∧ i = .int .i64 k ∧ s = .int .i64 ((tot (xs.take k) : Nat) : Int)) (fun _ i => xs.length - (intOf i).toNat)
    case atStart => exact ⟨0, by omega, rfl, rfl⟩
    case round =>
      obtain ⟨k, hk, rfl, rfl⟩ := hrel
      have htl : tot (xs.take k) ≤ 28147497671065600 := by
        have h1 := tot_le (xs.take k) 140737488355328 (fun x hx => HZ.out x (List.mem_of_mem_take hx))
        have h2 : (xs.take k).length ≤ 200 := by rw [List.length_take]; omega
        omega
      by_cases hlt : k < xs.length
      · rcases HX.out with e | ⟨b, o, rfl, hb, hc⟩
        · rw [e] at hlt; simp at hlt
        have hcell := hc k xs[k] (by simp)
        have HT := Lib.hid (show tot (xs.take (k + 1)) = tot (xs.take k) + xs[k].size by rw [List.take_succ_eq_append_getElem hlt, tot_snoc])
        have hy := HZ.out xs[k] (List.getElem_mem _)
        obtain ⟨y, hyy⟩ : ∃ y, y = xs[k] := ⟨_, rfl⟩
        obtain ⟨t, ht⟩ : ∃ t, t = tot (xs.take k) := ⟨_, rfl⟩
        rw [← hyy] at hcell HT hy
        rw [← ht] at HT htl ⊢
        clear hc hyy ht
        go_wp2_with fail
        go_round
        case rel => exact ⟨k + 1, by omega, by go_num, by rw [HT.out]; go_num⟩
        case measure => simp [intOf]; omega
      · obtain rfl : k = xs.length := by omega
        rw [List.take_length] at htl ⊢
        by_cases ht : tot xs ≤ 2000
        · have HR := Lib.hid (show smallB xs = true from decide_eq_true ⟨hl, ht⟩)
          obtain ⟨t, htt⟩ : ∃ t, t = tot xs := ⟨_, rfl⟩
          rw [← htt] at ht htl ⊢
          clear htt
          have d1 : decide ((xs.length : Int) ≤ 200) = true := decide_eq_true (by omega)
          have d2 : decide ((t : Int) ≤ 2000) = true := decide_eq_true (by omega)
          go_wp2_with fail
          go_ret
          exact ⟨ret_bool HR.out.symm, rfl⟩
        · have HR := Lib.hid (show smallB xs = false from decide_eq_false fun h => ht h.2)
          obtain ⟨t, htt⟩ : ∃ t, t = tot xs := ⟨_, rfl⟩
          rw [← htt] at ht htl ⊢
          clear htt
          have d1 : decide ((xs.length : Int) ≤ 200) = true := decide_eq_true (by omega)
          have d2 : decide ((t : Int) ≤ 2000) = false := decide_eq_false (by omega)
          go_wp2_with fail
          go_ret
          exact ⟨ret_bool HR.out.symm, rfl⟩
  · have HR := Lib.hid (show smallB xs = false from decide_eq_false fun h => hl h.1)
    go_enter Try.func37, Try.ntmps37
    go_wp2_with fail
    go_loop [3, 8] (fun s i => ∃ k : Nat, ∃ z : Int, k ≤ xs.length ∧ i = .int .i64 k ∧ s = .int .i64 z) (fun _ i => xs.length - (intOf i).toNat)
    case atStart => exact ⟨0, 0, by omega, rfl, rfl⟩
    case round =>
      obtain ⟨k, z, hk, rfl, rfl⟩ := hrel
      by_cases hlt : k < xs.length
      · rcases HX.out with e | ⟨b, o, rfl, hb, hc⟩
        · rw [e] at hlt; simp at hlt
        have hcell := hc k xs[k] (by simp)
        obtain ⟨y, hyy⟩ : ∃ y, y = xs[k] := ⟨_, rfl⟩
        rw [← hyy] at hcell
        clear hc hyy
        go_wp2_with fail
        go_round
        case rel => exact ⟨k + 1, _, by omega, by go_num, rfl⟩
        case measure => simp [intOf]; omega
      · obtain rfl : k = xs.length := by omega
        have d1 : decide ((xs.length : Int) ≤ 200) = false := decide_eq_false (by omega)
        go_wp2_with fail
        go_ret
        exact ⟨ret_bool HR.out.symm, rfl⟩
/-- The reference's text after k elements. -/
def jacc (xs : List ByteArray) (by_ : ByteArray) (k : Nat) : ByteArray := ⟨(Lib.join ((xs.take k).map (·.data.toList)) by_.data.toList).toArray⟩
theorem jacc_data (xs : List ByteArray) (by_ : ByteArray) (k : Nat) : (jacc xs by_ k).data.toList = Lib.join ((xs.take k).map (·.data.toList)) by_.data.toList := by simp [jacc]
theorem jacc_one (xs : List ByteArray) (by_ : ByteArray) (h : 0 < xs.length) : jacc xs by_ 1 = ⟨#[]⟩ ++ xs[0] := by
  apply bytes_ext
  rw [jacc_data, List.take_succ_eq_append_getElem h]
  simp [Lib.join_one]
theorem jacc_more (xs : List ByteArray) (by_ : ByteArray) (k : Nat) (h0 : 0 < k) (h : k < xs.length) : jacc xs by_ (k + 1) = jacc xs by_ k ++ by_ ++ xs[k] := by
  apply bytes_ext
  have hd := jacc_data xs by_ k
  rw [jacc_data, List.take_succ_eq_append_getElem h, List.map_append, List.map_cons, List.map_nil]
  obtain ⟨a, r, hr⟩ : ∃ a r, xs.take k = a :: r := by
    cases h2 : xs.take k with
    | nil =>
      have := congrArg List.length h2
      rw [List.length_take, List.length_nil] at this
      omega
    | cons a r => exact ⟨a, r, rfl⟩
  rw [hr] at hd ⊢
  rw [List.map_cons] at hd ⊢
  rw [List.cons_append, Lib.join_cons, joinTail_snoc]
  rw [Lib.join_cons] at hd
  simp only [ByteArray.data_append, Array.toList_append, hd, List.append_assoc]
theorem jacc_size (xs : List ByteArray) (by_ : ByteArray) (hb : by_.size ≤ 2000) (hx : ∀ x ∈ xs, x.size ≤ 2000) : ∀ k, k ≤ xs.length → (jacc xs by_ k).size ≤ 4000 * k
  | 0, _ => by
    show (⟨#[]⟩ : ByteArray).size ≤ _
    decide
  | k + 1, h => by
    have ih := jacc_size xs by_ hb hx k (by omega)
    have hxk := hx xs[k] (List.getElem_mem _)
    by_cases h0 : k = 0
    · subst h0
      rw [jacc_one xs by_ (by omega), ByteArray.size_append]
      have : (⟨#[]⟩ : ByteArray).size = 0 := rfl
      omega
    · rw [jacc_more xs by_ k (by omega) (by omega), ByteArray.size_append, ByteArray.size_append]
      omega
theorem join_ref (v : Value) (xs : List ByteArray) (by_ : ByteArray) (w : World) (h : RowAt Value.string w v xs) (hn : xs.length ≤ 200) (hb : by_.size ≤ 2000) (hx : ∀ x ∈ xs, x.size ≤ 2000) :
    Calls Try.prog 40 #[v, .string by_] w fun e w' => e = .returned (.string (jacc xs by_ xs.length)) ∧ w = w' := by
  have HSZ := Lib.hid (jacc_size xs by_ hb hx)
  have HM := Lib.hid hx
  obtain ⟨ao, cap, rfl, hcap, hrow⟩ := h
  have HX := Lib.hid hrow
  clear hrow hx
  go_enter Try.func40, Try.ntmps40
  go_wp2_with fail
  go_loop [5, 6] (fun s i => ∃ k : Nat, k ≤ xs.length ∧ i = .int .i64 k ∧ s = .string (jacc xs by_ k)) (fun _ i => xs.length - (intOf i).toNat)
  case atStart => exact ⟨0, by omega, rfl, rfl⟩
  case round =>
    obtain ⟨k, hk, rfl, rfl⟩ := hrel
    have hsz := HSZ.out k hk
    by_cases hlt : k < xs.length
    · rcases HX.out with e | ⟨b, o, rfl, hbl, hc⟩
      · rw [e] at hlt; simp at hlt
      have hcell := hc k xs[k] (by simp)
      have hxs := HM.out xs[k] (List.getElem_mem _)
      by_cases h0 : k = 0
      · subst h0
        have HJ := Lib.hid (jacc_one xs by_ hlt)
        obtain ⟨x, hxx⟩ : ∃ x, x = xs[0] := ⟨_, rfl⟩
        rw [← hxx] at HJ hcell hxs
        have H0 := Lib.hid (show jacc xs by_ 0 = ⟨#[]⟩ from rfl)
        rw [Nat.add_zero] at hcell
        rw [H0.out]
        clear hc hxx
        go_wp2_with fail
        go_round
        case rel => exact ⟨1, by omega, by go_num, by rw [HJ.out]⟩
        case measure => simp [intOf]; omega
      · have HJ := Lib.hid (jacc_more xs by_ k (by omega) hlt)
        obtain ⟨x, hxx⟩ : ∃ x, x = xs[k] := ⟨_, rfl⟩
        obtain ⟨s, hs⟩ : ∃ s, s = jacc xs by_ k := ⟨_, rfl⟩
        rw [← hxx] at HJ hcell hxs
        rw [← hs] at HJ hsz ⊢
        have hk0 : 0 < k := by omega
        clear hc hxx hs h0
        go_wp2_with fail
        go_round
        case rel => exact ⟨k + 1, by omega, by go_num, by rw [HJ.out]⟩
        case measure => simp [intOf]; omega
    · obtain rfl : k = xs.length := by omega
      go_wp2_with fail
      go_ret
      exact ⟨rfl, rfl⟩
theorem jacc_all (xs : List ByteArray) (by_ : ByteArray) : jacc xs by_ xs.length = ⟨(Lib.join (xs.map (·.data.toList)) by_.data.toList).toArray⟩ := by rw [jacc, List.take_length]
theorem join_size (xs : List ByteArray) (by_ : ByteArray) : (jacc xs by_ xs.length).size = (Lib.join (xs.map (·.data.toList)) by_.data.toList).length := by rw [Lib.size_eq, jacc_data, List.take_length]
theorem si_at (xs : List ByteArray) (h : SI ltS xs) (k : Nat) (hk : k + 1 < xs.length) : ltS xs[k] xs[k + 1] = true := List.pairwise_iff_getElem.1 h k (k + 1) (by omega) hk (by omega)
theorem idxOfS_in (xs : List ByteArray) (x : ByteArray) (h : x ∈ xs) : 0 ≤ Lib.idxOfS xs x := (Lib.idxOfS_nonneg_iff xs x).2 h
set_option maxHeartbeats 1000000 in
theorem law_wordLists (v : Value) (xs : List ByteArray) (s : ByteArray) (w : World) (hX : RowAt Value.string w v xs) (hz : ∀ x ∈ xs, x.size ≤ 140737488355328) (hn : xs.length ≤ 9223372036854775807) (hm : Mx w) :
    Calls Try.prog 14 #[v, .string s] w fun e w' => e = .returned (.bool true) ∧ Below w.heap.size w w' := by
  have G := Lib.hid (show Gd w w from ⟨hm, Below.refl _ _⟩)
  have RX := Lib.hid hX
  have HC := Lib.hid (small_any v xs w hX hz hn)
  obtain ⟨aX, cX, rfl⟩ := hX.form
  clear hX hm
  cases hsm : smallB xs
  · have HS := Lib.hid hsm
    clear hsm hz
    go_enter Try.func14, Try.ntmps14
    go_wp2_with fail
    refine HC.out.mono ?_
    rintro e w1 ⟨rfl, rfl⟩
    rw [HS.out]
    go_wp2_with fail
    refine (alive02 w _ G.out).mono ?_
    rintro e w3 ⟨rfl, g3⟩
    have G3 := Lib.hid g3
    clear g3
    go_wp2_with fail
    go_ret
    exact ⟨rfl, G3.out.2⟩
  · obtain ⟨hl, ht⟩ : xs.length ≤ 200 ∧ tot xs ≤ 2000 := of_decide_eq_true hsm
    have HS := Lib.hid hsm
    have HM := Lib.hid (fun x hx => Nat.le_trans (tot_mem xs x hx) ht)
    clear hsm hz ht
    by_cases hss : s.size ≤ 2000
    · have d1 : decide (2000 < (s.size : Int)) = false := decide_eq_false (by omega)
      have HJ := Lib.hid (jacc_all xs s)
      have HJS := Lib.hid (jacc_size xs s hss HM.out xs.length (Nat.le_refl _))
      have HW := Lib.hid (wsort_ins xs)
      have HWL := Lib.hid (wsort_len xs)
      obtain ⟨q, hq⟩ : ∃ q, Lib.idxOfS xs s = q := ⟨_, rfl⟩
      have HQ := Lib.hid hq
      obtain ⟨js, hjs⟩ : ∃ js, jacc xs s xs.length = js := ⟨_, rfl⟩
      have HJ1 := Lib.hid hjs
      have HJ2 := Lib.hid (show (⟨(Lib.join (xs.map (·.data.toList)) s.data.toList).toArray⟩ : ByteArray) = js by rw [← HJ.out]; exact hjs)
      obtain ⟨ws, hws⟩ : ∃ ws, wsort xs = ws := ⟨_, rfl⟩
      have HWS := Lib.hid hws
      have HWI := Lib.hid (show insAll ltS [] xs = ws by rw [← HW.out]; exact hws)
      have hwl : ws.length ≤ 200 := by rw [← hws]; exact Nat.le_trans HWL.out hl
      have hself : (js.toList == js.toList) = true := by simp
      clear hq hjs hws
      go_enter Try.func14, Try.ntmps14
      go_wp2_with fail
      refine HC.out.mono ?_
      rintro e w1 ⟨rfl, rfl⟩
      rw [HS.out]
      go_wp2_with fail
      refine (join_prog _ xs s _ (strs_row RX.out) (by omega) ?_).mono ?_
      · have e1 := HJS.out
        rw [join_size] at e1
        omega
      rintro e w2 ⟨rfl, b2⟩
      rw [HJ2.out]
      have G := Lib.hid (G.out.step b2)
      have RX := Lib.hid (RX.out.below b2)
      clear b2
      go_wp2_with fail
      refine (join_ref _ xs s _ RX.out hl hss HM.out).mono ?_
      rintro e w3 ⟨rfl, rfl⟩
      rw [HJ1.out]
      go_wp2_with fail
      refine (wsort_prog _ xs _ RX.out (by omega)).mono ?_
      rintro e w4 ⟨v4, rfl, o4, b4⟩
      rw [HWS.out] at o4
      have G := Lib.hid (G.out.step b4)
      have RX := Lib.hid (RX.out.below b4)
      have R4 := Lib.hid (rowAt_own o4)
      clear o4 b4
      obtain ⟨a4, c4, rfl⟩ := R4.out.form
      go_wp2_with fail
      refine (wsort_ref _ xs _ RX.out (by omega)).mono ?_
      rintro e w5 ⟨v5, rfl, o5, b5⟩
      rw [HWI.out] at o5
      have G := Lib.hid (G.out.step b5)
      have RX := Lib.hid (RX.out.below b5)
      have R4 := Lib.hid (R4.out.below b5)
      have R5 := Lib.hid (rowAt_own o5)
      clear o5 b5
      obtain ⟨a5, c5, rfl⟩ := R5.out.form
      go_wp2_with fail
      refine (same_ref _ _ ws ws _ (strs_row R4.out) (strs_row R5.out) (by omega) (by omega)).mono ?_
      rintro e w6 ⟨rfl, n6, hw6⟩
      rw [show decide (ws = ws) = true from decide_eq_true rfl]
      have G := Lib.hid (show Gd w w6 by rw [hw6]; exact G.out.drewN n6)
      have RX := Lib.hid (show RowAt Value.string w6 (.slice aX xs.length cX) xs by rw [hw6]; exact RX.out.below (drewN_grow _ n6))
      clear hw6
      go_wp2_with fail
      refine (windex_prog _ xs s _ RX.out (by omega)).mono ?_
      rintro e w7 ⟨rfl, rfl⟩
      rw [HQ.out]
      go_wp2_with fail
      refine (windex_ref _ xs s _ RX.out (by omega)).mono ?_
      rintro e w7 ⟨rfl, rfl⟩
      rw [HQ.out]
      go_wp2_with fail
      refine (alive02 w _ G.out).mono ?_
      rintro e w8 ⟨rfl, g8⟩
      have G8 := Lib.hid g8
      clear g8
      go_wp2_with fail
      go_ret
      exact ⟨rfl, G8.out.2⟩
    · have d1 : decide (2000 < (s.size : Int)) = true := decide_eq_true (by omega)
      go_enter Try.func14, Try.ntmps14
      go_wp2_with fail
      refine HC.out.mono ?_
      rintro e w1 ⟨rfl, rfl⟩
      rw [HS.out]
      go_wp2_with fail
      refine (alive02 w _ G.out).mono ?_
      rintro e w3 ⟨rfl, g3⟩
      have G3 := Lib.hid g3
      clear g3
      go_wp2_with fail
      go_ret
      exact ⟨rfl, G3.out.2⟩
set_option maxHeartbeats 1000000 in
theorem law_wordSorts (v : Value) (xs : List ByteArray) (w : World) (hX : RowAt Value.string w v xs) (hz : ∀ x ∈ xs, x.size ≤ 140737488355328) (hn : xs.length ≤ 9223372036854775807) (hm : Mx w) :
    Calls Try.prog 13 #[v] w fun e w' => e = .returned (.bool true) ∧ Below w.heap.size w w' := by
  have G := Lib.hid (show Gd w w from ⟨hm, Below.refl _ _⟩)
  have RX := Lib.hid hX
  have HC := Lib.hid (small_any v xs w hX hz hn)
  obtain ⟨aX, cX, rfl⟩ := hX.form
  clear hX hm
  cases hsm : smallB xs
  · have HS := Lib.hid hsm
    clear hsm hz
    go_enter Try.func13, Try.ntmps13
    go_wp2_with fail
    refine HC.out.mono ?_
    rintro e w1 ⟨rfl, rfl⟩
    rw [HS.out]
    go_wp2_with fail
    refine (alive02 w _ G.out).mono ?_
    rintro e w3 ⟨rfl, g3⟩
    have G3 := Lib.hid g3
    clear g3
    go_wp2_with fail
    go_ret
    exact ⟨rfl, G3.out.2⟩
  · obtain ⟨hl, ht⟩ : xs.length ≤ 200 ∧ tot xs ≤ 2000 := of_decide_eq_true hsm
    have HS := Lib.hid hsm
    clear hsm hz ht
    have hwl0 := wsort_len xs
    obtain ⟨hsi, hmem⟩ := wsort_si xs
    obtain ⟨ws, hws⟩ : ∃ ws, wsort xs = ws := ⟨_, rfl⟩
    have HWS := Lib.hid hws
    rw [hws] at hwl0 hsi hmem
    have HSI := Lib.hid (si_at ws hsi)
    have HME := Lib.hid hmem
    clear hws hsi hmem
    go_enter Try.func13, Try.ntmps13
    go_wp2_with fail
    refine HC.out.mono ?_
    rintro e w1 ⟨rfl, rfl⟩
    rw [HS.out]
    go_wp2_with fail
    refine (wsort_prog _ xs _ RX.out (by omega)).mono ?_
    rintro e w4 ⟨v4, rfl, o4, b4⟩
    rw [HWS.out] at o4
    have G := Lib.hid (G.out.step b4)
    have RX := Lib.hid (RX.out.below b4)
    have R4 := Lib.hid (rowAt_own o4)
    clear o4 b4
    obtain ⟨a4, c4, rfl⟩ := R4.out.form
    go_wp2_with fail
    go_loop [16] (fun i => ∃ k : Nat, k ≤ ws.length ∧ i = .int .i64 k) (fun i => ws.length - (intOf i).toNat)
    case atStart => exact ⟨0, by omega, rfl⟩
    case round =>
      obtain ⟨k, hk, rfl⟩ := hrel
      by_cases hlt : k < ws.length
      · obtain ⟨ao, cap, he, hcap, hx⟩ := R4.out
        simp only [Value.slice.injEq, true_and] at he
        obtain ⟨rfl, rfl⟩ := he
        rcases hx with e | ⟨b, o, rfl, hb, hc⟩
        · rw [e] at hlt; simp at hlt
        have hcell := hc k ws[k] (by simp)
        have hidx := idxOfS_in xs ws[k] ((HME.out _).1 (List.getElem_mem _))
        by_cases h0 : k = 0
        · subst h0
          obtain ⟨y, hy⟩ : ∃ y, y = ws[0] := ⟨_, rfl⟩
          rw [← hy] at hcell hidx
          rw [Nat.add_zero] at hcell
          obtain ⟨q, hq⟩ : ∃ q, Lib.idxOfS xs y = q := ⟨_, rfl⟩
          have HQ := Lib.hid hq
          rw [hq] at hidx
          clear hc hcap hy hq
          go_wp2_with fail
          refine (windex_prog _ xs y _ RX.out (by omega)).mono ?_
          rintro e w7 ⟨rfl, rfl⟩
          rw [HQ.out]
          go_wp2_with fail
          go_round
          case rel => exact ⟨1, by omega, by go_num⟩
          case measure => simp [intOf]; omega
        · obtain ⟨j, rfl⟩ : ∃ j, k = j + 1 := ⟨k - 1, by omega⟩
          have hcell2 := hc j ws[j] (by simp)
          have hlt2 := HSI.out j hlt
          obtain ⟨y, hy⟩ : ∃ y, y = ws[j + 1] := ⟨_, rfl⟩
          obtain ⟨z, hz⟩ : ∃ z, z = ws[j] := ⟨_, rfl⟩
          rw [← hy] at hcell hidx hlt2
          rw [← hz] at hcell2 hlt2
          have hbl : Op.bytesLess z.toList y.toList = true := hlt2
          have i0 : (0 : Int) ≤ (j : Int) := by omega
          have i1 : (j : Int) < (ws.length : Int) := by omega
          have i2 : (j : Int) + 1 < (ws.length : Int) := by omega
          obtain ⟨q, hq⟩ : ∃ q, Lib.idxOfS xs y = q := ⟨_, rfl⟩
          have HQ := Lib.hid hq
          rw [hq] at hidx
          clear hc hcap hy hz hlt2 hq h0
          go_wp2_with fail
          refine (windex_prog _ xs y _ RX.out (by omega)).mono ?_
          rintro e w7 ⟨rfl, rfl⟩
          rw [HQ.out]
          go_wp2_with fail
          go_round
          case rel => exact ⟨j + 1 + 1, by omega, by go_num⟩
          case measure => simp [intOf]; omega
      · go_wp2_with fail
        go_loop [41] (fun i => ∃ k : Nat, k ≤ xs.length ∧ i = .int .i64 k) (fun i => xs.length - (intOf i).toNat)
        case atStart => exact ⟨0, by omega, rfl⟩
        case round =>
          obtain ⟨m, hm, rfl⟩ := hrel
          by_cases hlt3 : m < xs.length
          · obtain ⟨ao, cap, he, hcap, hx⟩ := RX.out
            simp only [Value.slice.injEq, true_and] at he
            obtain ⟨rfl, rfl⟩ := he
            rcases hx with e | ⟨b, o, rfl, hb, hc⟩
            · rw [e] at hlt3; simp at hlt3
            have hcell := hc m xs[m] (by simp)
            have hidx := idxOfS_in ws xs[m] ((HME.out _).2 (List.getElem_mem _))
            obtain ⟨y, hy⟩ : ∃ y, y = xs[m] := ⟨_, rfl⟩
            rw [← hy] at hcell hidx
            obtain ⟨q, hq⟩ : ∃ q, Lib.idxOfS ws y = q := ⟨_, rfl⟩
            have HQ := Lib.hid hq
            rw [hq] at hidx
            clear hc hcap hy hq
            go_wp2_with fail
            refine (windex_prog _ ws y _ R4.out (by omega)).mono ?_
            rintro e w7 ⟨rfl, rfl⟩
            rw [HQ.out]
            go_wp2_with fail
            go_round
            case rel => exact ⟨m + 1, by omega, by go_num⟩
            case measure => simp [intOf]; omega
          · go_wp2_with fail
            refine (alive02 w _ G.out).mono ?_
            rintro e w8 ⟨rfl, g8⟩
            have G8 := Lib.hid g8
            clear g8
            go_wp2_with fail
            go_ret
            exact ⟨rfl, G8.out.2⟩
end Go.Proofs.Ytihnjbbgfjckaaa
