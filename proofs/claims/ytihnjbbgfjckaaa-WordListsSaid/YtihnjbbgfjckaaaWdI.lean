/- Chapter 02: joining the parts of a text gives the text, no part has further parts; the walk of the law WordJoins. -/
import Derived.Test.YtihnjbbgfjckaaaWdG
import Derived.Test.YtihnjbbgfjckaaaKwC
namespace Go.Proofs.Ytihnjbbgfjckaaa
open Go Go.RowKit Cg
theorem join_snoc (xs : List (List UInt8)) (sep x y : List UInt8) : Lib.join (xs ++ [x ++ y]) sep = Lib.join (xs ++ [x]) sep ++ y := by
  cases xs with
  | nil => simp [Lib.join_one]
  | cons a r =>
    simp only [List.cons_append, Lib.join_cons]
    rw [joinTail_snoc, joinTail_snoc]
    simp
theorem join_nil_snoc (xs : List (List UInt8)) (sep x : List UInt8) : Lib.join ((xs ++ [x]) ++ [[]]) sep = Lib.join (xs ++ [x]) sep ++ sep := by
  cases xs with
  | nil => simp [Lib.join_cons, Lib.joinTail]
  | cons a r =>
    simp only [List.cons_append, Lib.join_cons]
    rw [joinTail_snoc]
    simp
theorem spl_join (s : ByteArray) (b : UInt8) : ∀ i, i ≤ s.size → Lib.join ((spl s b i).1.map (·.data.toList) ++ [(s.extract (spl s b i).2 i).data.toList]) [b] = s.data.toList.take i
  | 0, _ => by
    simp [spl, Lib.join_one]
  | i + 1, hi => by
    have ih := spl_join s b i (by omega)
    have hle := (spl_le s b i).1
    have hl : i < s.data.toList.length := by rw [← Lib.size_eq]; omega
    have hb : s.data.toList[i] = bt s i := by rw [bt, List.getD_eq_getElem?_getD, List.getElem?_eq_getElem hl]; rfl
    rw [List.take_succ_eq_append_getElem hl, hb]
    by_cases he : bt s i = b ∧ depth s i = 0
    · rw [spl_hit s b i he.1 he.2]
      have e2 : (s.extract (i + 1) (i + 1)).data.toList = [] := by rw [Lib.extract_data]; simp
      dsimp only
      rw [e2, List.map_append, List.map_cons, List.map_nil, join_nil_snoc, ih, he.1]
    · rw [spl_miss s b i he]
      have e2 : (s.extract (spl s b i).2 (i + 1)).data.toList = (s.extract (spl s b i).2 i).data.toList ++ [bt s i] := by
        rw [Lib.extract_data, Lib.extract_data, show i + 1 - (spl s b i).2 = (i - (spl s b i).2) + 1 by omega, List.take_succ_eq_append_getElem (by rw [List.length_drop]; omega)]
        congr 1
        rw [List.getElem_drop, ← hb]
        congr 2
        omega
      rw [e2, join_snoc, ih]
theorem split_join (s : ByteArray) (b : UInt8) : (⟨(Lib.join ((split s b).map (·.data.toList)) [b]).toArray⟩ : ByteArray) = s := by
  apply bytes_ext
  show (Lib.join ((split s b).map (·.data.toList)) [b]).toArray.toList = _
  rw [List.toList_toArray, split]
  split
  · simp [Lib.join_one]
  · rw [List.map_append, List.map_cons, List.map_nil, spl_join s b s.size (Nat.le_refl _), List.take_of_length_le (by rw [← Lib.size_eq]; exact Nat.le_refl _)]
/-- A stretch that begins at depth 0 and holds no separator at depth 0. -/
def Clean (s : ByteArray) (b : UInt8) (f t : Nat) : Prop := depth s f = 0 ∧ f ≤ t ∧ t ≤ s.size ∧ ∀ j, f ≤ j → j < t → ¬ (bt s j = b ∧ depth s j = 0)
theorem brack_step {b : UInt8} (hb : brack b = false) (d : Nat) : dstep d b = d := by
  have : ¬ (b.toNat = 40 ∨ b.toNat = 41 ∨ b.toNat = 91 ∨ b.toNat = 93) := of_decide_eq_false hb
  exact dstep_same _ _ (by omega) (by omega)
theorem spl_clean (s : ByteArray) (b : UInt8) (hb : brack b = false) : ∀ i, i ≤ s.size → Clean s b (spl s b i).2 i ∧ ∀ x ∈ (spl s b i).1, ∃ f t, x = s.extract f t ∧ Clean s b f t
  | 0, _ => ⟨⟨rfl, Nat.le_refl _, Nat.zero_le _, fun j h1 h2 => by omega⟩, fun x hx => by simp [spl] at hx⟩
  | i + 1, hi => by
    obtain ⟨h1, h2⟩ := spl_clean s b hb i (by omega)
    by_cases he : bt s i = b ∧ depth s i = 0
    · rw [spl_hit s b i he.1 he.2]
      refine ⟨⟨?_, Nat.le_refl _, hi, fun j h3 h4 => by omega⟩, fun x hx => ?_⟩
      · show depth s (i + 1) = 0
        rw [depth, he.1, brack_step hb, he.2]
      · rcases List.mem_append.1 hx with hx | hx
        · exact h2 x hx
        · exact ⟨_, _, List.mem_singleton.1 hx, h1⟩
    · rw [spl_miss s b i he]
      refine ⟨⟨h1.1, by have := h1.2.1; omega, hi, fun j h3 h4 => ?_⟩, h2⟩
      by_cases e : j = i
      · rw [e]; exact he
      · exact h1.2.2.2 j h3 (by omega)
theorem bt_extract (s : ByteArray) (f t j : Nat) (h : f + j < t) : bt (s.extract f t) j = bt s (f + j) := by
  unfold bt
  rw [Lib.extract_data, List.getD_eq_getElem?_getD, List.getD_eq_getElem?_getD, List.getElem?_take_of_lt (by omega), List.getElem?_drop]
theorem depth_extract (s : ByteArray) (f t : Nat) (h0 : depth s f = 0) (ht : t ≤ s.size) : ∀ j, f + j ≤ t → depth (s.extract f t) j = depth s (f + j)
  | 0, _ => h0.symm
  | j + 1, h => by
    rw [depth, depth_extract s f t h0 ht j (by omega), bt_extract s f t j (by omega)]
    rfl
theorem spl_none (s : ByteArray) (b : UInt8) (f t : Nat) (h : Clean s b f t) : ∀ j, f + j ≤ t → (spl (s.extract f t) b j).1 = []
  | 0, _ => rfl
  | j + 1, hj => by
    rw [spl_miss]
    · exact spl_none s b f t h j (by omega)
    · rw [bt_extract s f t j (by omega), depth_extract s f t h.1 h.2.2.1 j (by omega)]
      exact h.2.2.2 (f + j) (by omega) (by omega)
theorem split_part (s : ByteArray) (b : UInt8) : ∀ x ∈ split s b, (split x b).length = 1 ∧ x.size ≤ s.size := by
  intro x hx
  cases hb : brack b
  · have hone : ∀ f t, Clean s b f t → (split (s.extract f t) b).length = 1 ∧ (s.extract f t).size ≤ s.size := fun f t h => by
      refine ⟨?_, by rw [ByteArray.size_extract]; omega⟩
      have e : (s.extract f t).size = t - f := by rw [ByteArray.size_extract]; have := h.2.2.1; omega
      rw [split, hb, if_neg (by decide), List.length_append, spl_none s b f t h _ (by have := h.2.1; omega)]
      rfl
    obtain ⟨h1, h2⟩ := spl_clean s b hb s.size (Nat.le_refl _)
    rw [split, hb, if_neg (by decide)] at hx
    rcases List.mem_append.1 hx with hx | hx
    · obtain ⟨f, t, rfl, hc⟩ := h2 x hx
      exact hone f t hc
    · rw [List.mem_singleton.1 hx]
      exact hone _ _ h1
  · rw [split, if_pos hb] at hx
    rw [List.mem_singleton.1 hx]
    exact ⟨by rw [split, if_pos hb]; rfl, Nat.le_refl _⟩
theorem split_pos (s : ByteArray) (b : UInt8) : 1 ≤ (split s b).length := by
  unfold split
  split
  · simp
  · simp
theorem law_wordJoins (s : ByteArray) (b : UInt8) (w : World) (hm : Mx w) : Calls Try.prog 12 #[.string s, .int .u8 b.toNat] w fun e w' => e = .returned (.bool true) ∧ Below w.heap.size w w' := by
  have G0 := Lib.hid (show Gd w w from ⟨hm, Below.refl _ _⟩)
  clear hm
  by_cases hs : s.size ≤ 500
  · have hl := split_len s b
    have HJ := Lib.hid (split_join s b)
    have HP := Lib.hid (split_part s b)
    have hpos := split_pos s b
    go_enter Try.func12, Try.ntmps12
    go_wp2_with fail
    refine (split_prog s b (by omega) _).mono ?_
    rintro e w1 ⟨v1, rfl, o1, b1⟩
    have G1 := Lib.hid (G0.out.step b1)
    have S1 := Lib.hid (strsAt_own o1)
    clear o1 b1
    obtain ⟨xs, hxs⟩ : ∃ xs, xs = split s b := ⟨_, rfl⟩
    rw [← hxs] at hl S1 HJ HP hpos
    clear hxs
    have hconv : (convert 40 9 (.slice (some ⟨w1.heap.size, 0, none⟩) 1 1)).run Try.prog (w1.alloc (.cells #[.int .u8 (b.toNat : Int)] 5)) = .ok (.string ⟨#[b]⟩) (w1.alloc (.cells #[.int .u8 (b.toNat : Int)] 5)) := by
      refine run_convert_bytes_back _ _ _ 5 ⟨w1.heap.size, 0, none⟩ 1 [b] Try.underlying40 Try.underlying5 Try.underlying9 (fun j hj => ?_)
      have hj0 : j = 0 := by simpa using hj
      subst hj0
      exact cells_new w1 [.int .u8 (b.toNat : Int)] 5 0 _ rfl
    have hal := (Below.refl w1.heap.size w1).alloc (Nat.le_refl _) (.cells #[.int .u8 (b.toNat : Int)] 5)
    go_wp2_with fail
    refine (join_prog v1 xs ⟨#[b]⟩ _ (S1.out.below hal) (by omega) ?_).mono ?_
    · have e := congrArg ByteArray.size HJ.out
      rw [Lib.size_eq, List.toList_toArray] at e
      show (Lib.join (xs.map (·.data.toList)) [b]).length ≤ _
      omega
    rintro e w2 ⟨rfl, b2⟩
    rw [show (⟨(Lib.join (xs.map (·.data.toList)) (⟨#[b]⟩ : ByteArray).data.toList).toArray⟩ : ByteArray) = s from HJ.out]
    have G2 := Lib.hid ((G1.out.step hal).step b2)
    have S2 := Lib.hid ((S1.out.below hal).below b2)
    clear hconv b2 G1 S1 HJ
    have hself : (s.toList == s.toList) = true := by simp
    have s2 := S2.out
    obtain ⟨ao, cap, rfl, _⟩ := s2
    clear hal
    go_wp2_with fail
    go_loopw [29] (fun i wr => ∃ j : Nat, j ≤ xs.length ∧ i = .int .i64 j ∧ Gd w wr ∧ Below w2.heap.size w2 wr) (fun i _ => xs.length - (intOf i).toNat)
    case atStart => exact ⟨0, by omega, rfl, G2.out, Below.refl _ _⟩
    case round =>
      obtain ⟨j, hj, rfl, hg, hnx⟩ := hrel
      have HG := Lib.hid hg
      have HN := Lib.hid hnx
      clear hg
      by_cases hlt : j < xs.length
      · obtain ⟨ao', cap', he, hc⟩ := S2.out
        rcases hc with hc | ⟨bb, oo, hao, hlt2, hcc, hcell⟩
        · rw [hc] at hlt; simp at hlt
        have q := (hnx.cell (p := ⟨bb, oo + j, none⟩) hlt2).trans (hcell j xs[j] (by simp))
        have hx := HP.out xs[j] (List.getElem_mem _)
        simp only [Value.slice.injEq] at he
        obtain ⟨rfl, _, rfl⟩ := he
        subst hao
        obtain ⟨x, hxx⟩ : ∃ x, x = xs[j] := ⟨_, rfl⟩
        rw [← hxx] at q hx
        clear hxx hcell hnx
        have hxs := hx.2
        have HX := Lib.hid hx.1
        clear hx
        go_wp2_with fail
        refine (split_prog x b (by omega) _).mono ?_
        rintro e w3 ⟨v3, rfl, o3, b3⟩
        rw [HX.out] at o3
        obtain ⟨g3, c3, rfl, _⟩ := own_nil_or o3 (by decide)
        clear o3
        go_wp2_with fail
        go_roundw
        case rel => exact ⟨j + 1, by omega, by go_num, HG.out.step b3, HN.out.trans (b3.mono HN.out.size)⟩
        case measure => simp [intOf]; omega
      · clear hnx
        go_wp2_with fail
        refine (alive02 w _ HG.out).mono ?_
        rintro e w3 ⟨rfl, g3⟩
        have G3 := Lib.hid g3
        clear g3
        go_wp2_with fail
        go_ret
        exact ⟨rfl, G3.out.2⟩
  · go_enter Try.func12, Try.ntmps12
    go_wp2_with fail
    refine (alive02 w _ G0.out).mono ?_
    rintro e w3 ⟨rfl, g3⟩
    have G3 := Lib.hid g3
    clear g3
    go_wp2_with fail
    go_ret
    exact ⟨rfl, G3.out.2⟩
end Go.Proofs.Ytihnjbbgfjckaaa
