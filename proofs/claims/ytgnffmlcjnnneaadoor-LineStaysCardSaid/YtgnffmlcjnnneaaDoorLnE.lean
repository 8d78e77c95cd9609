/- Walks of chapter 10: words, combines, the reference's joined. -/
import Derived.Test.YtgnffmlcjnnneaaDoorLnD
namespace Go.Proofs.YtgnffmlcjnnneaaDoor
open Go Go.RowKit Cg
theorem bsel_bit (m : Nat) : ∀ k, ∀ x ∈ bsel m k, m / 2 ^ x % 2 = 1
  | 0, x, hx => by simp [bsel] at hx
  | k + 1, x, hx => by
    rw [bsel] at hx
    split at hx
    · rcases List.mem_append.1 hx with hx | hx
      · exact bsel_bit m k x hx
      · rw [List.mem_singleton.1 hx]; assumption
    · exact bsel_bit m k x hx
theorem bsel_small (m n : Nat) (hm : m < 2 ^ n) (k : Nat) : ∀ x ∈ bsel m k, x < n := fun x hx => by
  have h := bsel_bit m k x hx
  rcases Nat.lt_or_ge x n with h2 | h2
  · exact h2
  · have : m / 2 ^ x = 0 := Nat.div_eq_of_lt (Nat.lt_of_lt_of_le hm (Nat.pow_le_pow_right (by omega) h2))
    rw [this] at h
    simp at h
theorem words_superN (m : Nat) (hm : m < 2 ^ 2) (w : World) : Calls Tryd.prog 40 #[.int .i64 m, .func (.func 31) #[] #[]] w fun e w' => ∃ v, e = .returned v ∧ w'.ownsRow w.heap.size 9 1 v ((bsel m 31).map superN).length (((bsel m 31).map superN).map Value.string) ∧ Below w.heap.size w w' := by
  have eg : ∀ args w, (callFunc 31 args).run Tryd.prog w = .ok (.enter 31 args) w := enters_of Tryd.func31 (by kernel_rfl) rfl
  have hm2 : m < 131072 := Nat.lt_of_lt_of_le hm (by decide)
  have HLT := Lib.hid (fun x hx => bsel_small m 2 hm 31 x hx)
  have hbl := bsel_len m 31
  obtain ⟨bs, hbs⟩ : ∃ bs, bs = bsel m 31 := ⟨_, rfl⟩
  have HBS := Lib.hid hbs
  rw [← hbs] at HLT hbl ⊢
  clear hbs hm
  go_enter Tryd.func40, Tryd.ntmps40
  go_wp2_with fail
  refine (bits_prog m hm2 _).mono ?_
  rintro e w1 ⟨v1, rfl, o1, b1⟩
  rw [← HBS.out] at o1
  have R1 := Lib.hid (show RowAt (fun (x : Nat) => Value.int .i64 (x : Int)) w1 v1 bs from rowAt_own o1)
  have hbz := b1.size
  clear o1
  obtain ⟨a1, c1, rfl⟩ := R1.out.form
  go_wp2_with fail
  go_loopw [5, 11] (fun out i wr => ∃ k : Nat, k ≤ bs.length ∧ i = .int .i64 k ∧ wr.ownsRow w1.heap.size 9 1 out ((bs.take k).map superN).length (((bs.take k).map superN).map Value.string) ∧ Below w1.heap.size w1 wr) (fun _ i _ => bs.length - (intOf i).toNat)
  case atStart => exact ⟨0, by omega, rfl, World.ownsRow_nil _ _ _ _, Below.refl _ _⟩
  case round =>
    obtain ⟨k, hk, rfl, hown, hnx⟩ := hrel
    by_cases hlt : k < bs.length
    · obtain ⟨ao, cap, he, hcap, hx⟩ := R1.out
      simp only [Value.slice.injEq, true_and] at he
      obtain ⟨rfl, rfl⟩ := he
      rcases hx with e | ⟨b, o, rfl, hb, hc⟩
      · rw [e] at hlt; simp at hlt
      have hcell := (hnx.cell (p := ⟨b, o + k, none⟩) hb).trans (hc k bs[k] (by simp))
      have HS := Lib.hid (show (bs.take (k + 1)).map superN = (bs.take k).map superN ++ [superN bs[k]] by rw [List.take_succ_eq_append_getElem hlt, List.map_append]; rfl)
      have hxl := HLT.out bs[k] (List.getElem_mem _)
      have hll : ((bs.take k).map superN).length ≤ 31 := by rw [List.length_map, List.length_take]; omega
      obtain ⟨x, hxx⟩ : ∃ x, x = bs[k] := ⟨_, rfl⟩
      rw [← hxx] at hcell HS hxl
      clear hc hxx hcap
      go_wp2_with fail
      refine (superN_any x hxl _).mono ?_
      rintro e w2 ⟨rfl, rfl⟩
      go_wp2_with (at_builtin; refine wpList_append_new rfl (.tmp 15) (.tmp 19) 22 rfl w1.heap.size stringsElem _ _ _ rfl hown [.string (superN x)] rfl rfl rfl (by omega) (by omega) hnx.size ?_; intro v' w3 hown' hbel _)
      go_roundw
      case rel => exact ⟨k + 1, by omega, by go_num, by rw [HS.out]; simpa using hown', hnx.trans hbel⟩
      case measure => simp [intOf]; omega
    · obtain rfl : k = bs.length := by omega
      rw [List.take_length] at hown
      go_wp2_with fail
      go_ret
      exact ⟨_, rfl, own_low hown hbz, b1.trans (hnx.mono hbz)⟩
theorem words_typeN (m : Nat) (hm : m < 2 ^ 6) (w : World) : Calls Tryd.prog 40 #[.int .i64 m, .func (.func 32) #[] #[]] w fun e w' => ∃ v, e = .returned v ∧ w'.ownsRow w.heap.size 9 1 v ((bsel m 31).map typeN).length (((bsel m 31).map typeN).map Value.string) ∧ Below w.heap.size w w' := by
  have eg : ∀ args w, (callFunc 32 args).run Tryd.prog w = .ok (.enter 32 args) w := enters_of Tryd.func32 (by kernel_rfl) rfl
  have hm2 : m < 131072 := Nat.lt_of_lt_of_le hm (by decide)
  have HLT := Lib.hid (fun x hx => bsel_small m 6 hm 31 x hx)
  have hbl := bsel_len m 31
  obtain ⟨bs, hbs⟩ : ∃ bs, bs = bsel m 31 := ⟨_, rfl⟩
  have HBS := Lib.hid hbs
  rw [← hbs] at HLT hbl ⊢
  clear hbs hm
  go_enter Tryd.func40, Tryd.ntmps40
  go_wp2_with fail
  refine (bits_prog m hm2 _).mono ?_
  rintro e w1 ⟨v1, rfl, o1, b1⟩
  rw [← HBS.out] at o1
  have R1 := Lib.hid (show RowAt (fun (x : Nat) => Value.int .i64 (x : Int)) w1 v1 bs from rowAt_own o1)
  have hbz := b1.size
  clear o1
  obtain ⟨a1, c1, rfl⟩ := R1.out.form
  go_wp2_with fail
  go_loopw [5, 11] (fun out i wr => ∃ k : Nat, k ≤ bs.length ∧ i = .int .i64 k ∧ wr.ownsRow w1.heap.size 9 1 out ((bs.take k).map typeN).length (((bs.take k).map typeN).map Value.string) ∧ Below w1.heap.size w1 wr) (fun _ i _ => bs.length - (intOf i).toNat)
  case atStart => exact ⟨0, by omega, rfl, World.ownsRow_nil _ _ _ _, Below.refl _ _⟩
  case round =>
    obtain ⟨k, hk, rfl, hown, hnx⟩ := hrel
    by_cases hlt : k < bs.length
    · obtain ⟨ao, cap, he, hcap, hx⟩ := R1.out
      simp only [Value.slice.injEq, true_and] at he
      obtain ⟨rfl, rfl⟩ := he
      rcases hx with e | ⟨b, o, rfl, hb, hc⟩
      · rw [e] at hlt; simp at hlt
      have hcell := (hnx.cell (p := ⟨b, o + k, none⟩) hb).trans (hc k bs[k] (by simp))
      have HS := Lib.hid (show (bs.take (k + 1)).map typeN = (bs.take k).map typeN ++ [typeN bs[k]] by rw [List.take_succ_eq_append_getElem hlt, List.map_append]; rfl)
      have hxl := HLT.out bs[k] (List.getElem_mem _)
      have hll : ((bs.take k).map typeN).length ≤ 31 := by rw [List.length_map, List.length_take]; omega
      obtain ⟨x, hxx⟩ : ∃ x, x = bs[k] := ⟨_, rfl⟩
      rw [← hxx] at hcell HS hxl
      clear hc hxx hcap
      go_wp2_with fail
      refine (typeN_any x hxl _).mono ?_
      rintro e w2 ⟨rfl, rfl⟩
      go_wp2_with (at_builtin; refine wpList_append_new rfl (.tmp 15) (.tmp 19) 22 rfl w1.heap.size stringsElem _ _ _ rfl hown [.string (typeN x)] rfl rfl rfl (by omega) (by omega) hnx.size ?_; intro v' w3 hown' hbel _)
      go_roundw
      case rel => exact ⟨k + 1, by omega, by go_num, by rw [HS.out]; simpa using hown', hnx.trans hbel⟩
      case measure => simp [intOf]; omega
    · obtain rfl : k = bs.length := by omega
      rw [List.take_length] at hown
      go_wp2_with fail
      go_ret
      exact ⟨_, rfl, own_low hown hbz, b1.trans (hnx.mono hbz)⟩
/-- The elements below k whose bit is set. -/
def pk (xs : List ByteArray) (m : Nat) : Nat → List ByteArray
  | 0 => []
  | k + 1 => if m / 2 ^ k % 2 = 1 then pk xs m k ++ [xs.getD k ByteArray.empty] else pk xs m k
theorem pk_hit (xs : List ByteArray) (m k : Nat) (h : m / 2 ^ k % 2 = 1) : pk xs m (k + 1) = pk xs m k ++ [xs.getD k ByteArray.empty] := by rw [pk, if_pos h]
theorem pk_miss (xs : List ByteArray) (m k : Nat) (h : ¬ m / 2 ^ k % 2 = 1) : pk xs m (k + 1) = pk xs m k := by rw [pk, if_neg h]
theorem pk_len (xs : List ByteArray) (m : Nat) : ∀ k, (pk xs m k).length ≤ k
  | 0 => Nat.le_refl _
  | k + 1 => by
    have := pk_len xs m k
    rw [pk]
    split <;> simp <;> omega
theorem pk_mem (xs : List ByteArray) (m : Nat) : ∀ k, k ≤ xs.length → ∀ x ∈ pk xs m k, x ∈ xs
  | 0, _, x, hx => by simp [pk] at hx
  | k + 1, hk, x, hx => by
    rw [pk] at hx
    split at hx
    · rcases List.mem_append.1 hx with hx | hx
      · exact pk_mem xs m k (by omega) x hx
      · rw [List.mem_singleton.1 hx, getS_at xs k (by omega)]
        exact List.getElem_mem _
    · exact pk_mem xs m k (by omega) x hx
set_option maxHeartbeats 1000000 in
theorem joined_ref (v : Value) (xs : List ByteArray) (m : Nat) (by_ : ByteArray) (w : World) (h : RowAt Value.string w v xs) (hn : xs.length ≤ 100) (hm : m ≤ 1000000) (hb : by_.size ≤ 100) (hx : ∀ x ∈ xs, 0 < x.size ∧ x.size ≤ 100) :
    Calls Tryd.prog 42 #[v, .int .i64 m, .string by_] w fun e w' => e = .returned (.string (jo (pk xs m xs.length) by_)) ∧ w = w' := by
  have HSZ := Lib.hid (fun k (hk : k ≤ xs.length) => jo_size (pk xs m k) by_ hb (fun x hm => (hx x (pk_mem xs m k hk x hm)).2))
  have HEM := Lib.hid (fun k (hk : k ≤ xs.length) => jo_empty (pk xs m k) by_ (fun x hm => (hx x (pk_mem xs m k hk x hm)).1))
  have HX1 := Lib.hid hx
  obtain ⟨ao, cap, rfl, hcap, hrow⟩ := h
  have HX := Lib.hid hrow
  clear hrow hx
  go_enter Tryd.func42, Tryd.ntmps42
  go_wp2_with fail
  go_loop [7, 8] (fun s i => ∃ k : Nat, k ≤ xs.length ∧ i = .int .i64 k ∧ s = .string (jo (pk xs m k) by_)) (fun _ i => xs.length - (intOf i).toNat)
  case atStart => exact ⟨0, by omega, rfl, rfl⟩
  case round =>
    obtain ⟨k, hk, rfl, rfl⟩ := hrel
    have hsz := HSZ.out k hk
    have hpl := pk_len xs m k
    by_cases hlt : k < xs.length
    · rcases HX.out with e | ⟨b, o, rfl, hbl, hc⟩
      · rw [e] at hlt; simp at hlt
      have hcell := hc k xs[k] (by simp)
      have hxs := HX1.out xs[k] (List.getElem_mem _)
      have hg := getS_at xs k hlt
      have HE := Lib.hid (HEM.out k hk)
      have H1 := Lib.hid (pk_hit xs m k)
      have H2 := Lib.hid (pk_miss xs m k)
      obtain ⟨x, hxx⟩ : ∃ x, x = xs[k] := ⟨_, rfl⟩
      obtain ⟨l, hl⟩ : ∃ l, l = pk xs m k := ⟨_, rfl⟩
      rw [hg] at H1
      rw [← hxx] at H1 hcell hxs
      rw [← hl] at H1 H2 HE hsz hpl ⊢
      clear hc hxx hl hg
      by_cases hb1 : m / 2 ^ k % 2 = 1
      · have HB := Lib.hid (show decide (m / 2 ^ k % 2 = 1) = true from decide_eq_true hb1)
        by_cases hle : l = []
        · have HJ := Lib.hid (show jo (pk xs m (k + 1)) by_ = ⟨#[]⟩ ++ x by rw [H1.out hb1, hle]; exact jo_one by_ x)
          have HS0 := Lib.hid (show jo l by_ = ⟨#[]⟩ by rw [hle]; rfl)
          rw [HS0.out]
          have hxs2 := hxs.2
          clear hb1 hle hxs hsz H1 H2 HE
          go_wp2_with fail
          refine (bit_ref m k hm (by omega) _).mono ?_
          rintro e w1 ⟨rfl, rfl⟩
          rw [HB.out]
          go_wp2_with fail
          go_round
          case rel => exact ⟨k + 1, by omega, by go_num, by rw [HJ.out]⟩
          case measure => simp [intOf]; omega
        · have HJ := Lib.hid (show jo (pk xs m (k + 1)) by_ = jo l by_ ++ by_ ++ x by rw [H1.out hb1]; exact jo_more l by_ x hle)
          have hemp : (jo l by_).toList.isEmpty = false := by rw [Bool.eq_false_iff]; exact fun e => hle (HE.out.1 e)
          obtain ⟨s, hs⟩ : ∃ s, s = jo l by_ := ⟨_, rfl⟩
          rw [← hs] at HJ hemp hsz ⊢
          have hxs2 := hxs.2
          clear hb1 hle hs hxs H1 H2 HE
          go_wp2_with fail
          refine (bit_ref m k hm (by omega) _).mono ?_
          rintro e w1 ⟨rfl, rfl⟩
          rw [HB.out]
          go_wp2_with fail
          go_round
          case rel => exact ⟨k + 1, by omega, by go_num, by rw [HJ.out]⟩
          case measure => simp [intOf]; omega
      · have HB := Lib.hid (show decide (m / 2 ^ k % 2 = 1) = false from decide_eq_false hb1)
        have HJ := Lib.hid (show jo (pk xs m (k + 1)) by_ = jo l by_ by rw [H2.out hb1])
        obtain ⟨s, hs⟩ : ∃ s, s = jo l by_ := ⟨_, rfl⟩
        rw [← hs] at HJ hsz ⊢
        clear hb1 hs H1 H2 HE
        go_wp2_with fail
        refine (bit_ref m k hm (by omega) _).mono ?_
        rintro e w1 ⟨rfl, rfl⟩
        rw [HB.out]
        go_wp2_with fail
        go_round
        case rel => exact ⟨k + 1, by omega, by go_num, by rw [HJ.out]⟩
        case measure => simp [intOf]; omega
    · obtain rfl : k = xs.length := by omega
      go_wp2_with fail
      go_ret
      exact ⟨rfl, rfl⟩
def comb (m : Nat) : Bool := decide (m / 2 % 4 = 0 ∨ m = 2 ∨ m = 4)
theorem comb_all (w : World) : ∀ m, m < 64 → Calls Tryd.prog 43 #[.int .i64 (m : Nat)] w fun e w' => e = .returned (.bool (comb m)) ∧ w = w' := by
  intro m hm
  have hand : bits .and .i64 (m : Int) 6 = ((m &&& 6 : Nat) : Int) := i64_and_nat m 6 (by omega) (by decide)
  have h6 : m &&& 6 = 2 * (m / 2 % 4) := by
    have : ∀ k, k < 64 → k &&& 6 = 2 * (k / 2 % 4) := by decide
    exact this m hm
  have HC := Lib.hid (show comb m = (((2 * (m / 2 % 4) : Nat) : Int) == 0 || (((m : Int) == 2) || ((m : Int) == 4))) by
    rw [comb, Bool.eq_iff_iff, decide_eq_true_eq, Bool.or_eq_true, Bool.or_eq_true, beq_iff_eq, beq_iff_eq, beq_iff_eq]; omega)
  rw [h6] at hand
  obtain ⟨q, hq⟩ : ∃ q, q = 2 * (m / 2 % 4) := ⟨_, rfl⟩
  rw [← hq] at hand HC
  clear hq h6
  cases t1 : ((q : Int) == 0)
  · cases t2 : ((m : Int) == 2)
    · cases t3 : ((m : Int) == 4)
      · rw [t1, t2, t3] at HC
        go_enter Tryd.func43, Tryd.ntmps43
        go_wp2_with fail
        go_ret
        exact ⟨ret_bool HC.out.symm, rfl⟩
      · rw [t1, t2, t3] at HC
        go_enter Tryd.func43, Tryd.ntmps43
        go_wp2_with fail
        go_ret
        exact ⟨ret_bool HC.out.symm, rfl⟩
    · rw [t1, t2] at HC
      go_enter Tryd.func43, Tryd.ntmps43
      go_wp2_with fail
      go_ret
      exact ⟨ret_bool HC.out.symm, rfl⟩
  · rw [t1] at HC
    go_enter Tryd.func43, Tryd.ntmps43
    go_wp2_with fail
    go_ret
    exact ⟨ret_bool HC.out.symm, rfl⟩
end Go.Proofs.YtgnffmlcjnnneaaDoor
