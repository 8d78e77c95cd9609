/- Chapter 02: sorted lists of strings; Join, Sort, Index, the program's and the reference's. -/
import Derived.Test.YtihnjbbgfjckaaaWdI
import Derived.Test.YtihnjbbgfjckaaaRow
import Derived.Test.YtihnjbbgfjckaaaSet
import Derived.Sort.Walk0
import Derived.Deep.QuietTactic
import Derived.BigQuiet
namespace Go.Proofs.Ytihnjbbgfjckaaa
open Go Go.RowKit Go.Sort Cg
def ltL (a b : List UInt8) : Bool := Op.bytesLess a b
def leL (a b : List UInt8) : Bool := decide (a ≤ b)
theorem ltL_dec (a b : List UInt8) : ltL a b = decide (a < b) := bytesLess_eq a b
theorem ltL_ord : Ord ltL where
  irrefl := fun a => by rw [ltL_dec]; exact decide_eq_false (List.lt_irrefl a)
  trans := fun a b c h1 h2 => by
    rw [ltL_dec, decide_eq_true_eq] at *
    exact List.lt_trans h1 h2
  conn := fun a b h1 h2 => by
    rw [ltL_dec, decide_eq_false_iff_not] at *
    exact List.le_antisymm (List.not_lt.1 h2) (List.not_lt.1 h1)
theorem leL_ltL (a b : List UInt8) : leL a b = !ltL b a := by
  rw [ltL_dec, leL]
  by_cases h : b < a
  · rw [decide_eq_true h, decide_eq_false (fun e => List.not_lt.2 e h)]; rfl
  · rw [decide_eq_false h, decide_eq_true (List.not_lt.1 h)]; rfl
def ltS (a b : ByteArray) : Bool := Op.bytesLess a.toList b.toList
theorem ltS_ltL (a b : ByteArray) : ltS a b = ltL a.data.toList b.data.toList := by rw [ltS, ByteArray.toList_eq, ByteArray.toList_eq]; rfl
theorem ltS_ord : Ord ltS where
  irrefl := fun a => by rw [ltS_ltL]; exact ltL_ord.irrefl _
  trans := fun a b c h1 h2 => by rw [ltS_ltL] at *; exact ltL_ord.trans _ _ _ h1 h2
  conn := fun a b h1 h2 => by rw [ltS_ltL] at *; exact bytes_ext (ltL_ord.conn _ _ h1 h2)
def wsort (xs : List ByteArray) : List ByteArray := (Lib.compact ((xs.map (·.data.toList)).mergeSort leL)).map fun l => ⟨l.toArray⟩
theorem wsort_si (xs : List ByteArray) : SI ltS (wsort xs) ∧ ∀ x, x ∈ wsort xs ↔ x ∈ xs := by
  obtain ⟨h1, h2⟩ := sort_compact_si ltL_ord leL leL_ltL (xs.map (·.data.toList))
  refine ⟨List.pairwise_map.2 (h1.imp fun {a b} h => by rw [ltS_ltL]; simpa using h), fun x => ?_⟩
  unfold wsort
  rw [List.mem_map]
  constructor
  · rintro ⟨l, hl, rfl⟩
    obtain ⟨y, hy, e⟩ := List.mem_map.1 ((h2 l).1 hl)
    have : (⟨l.toArray⟩ : ByteArray) = y := bytes_ext (by simpa using e.symm)
    rw [this]; exact hy
  · intro hx
    exact ⟨x.data.toList, (h2 _).2 (List.mem_map.2 ⟨x, hx, rfl⟩), bytes_ext (by simp)⟩
theorem wsort_len (xs : List ByteArray) : (wsort xs).length ≤ xs.length := by
  have h := Lib.compact_length_le ((xs.map (·.data.toList)).mergeSort leL)
  rw [List.length_mergeSort, List.length_map] at h
  unfold wsort
  rw [List.length_map]
  exact h
theorem wsort_ins (xs : List ByteArray) : wsort xs = insAll ltS [] xs :=
  (wsort_si xs).1.ext ltS_ord (insAll_si ltS_ord xs List.Pairwise.nil) fun x => by rw [(wsort_si xs).2, mem_insAll]; simp
theorem strs_row {w : World} {v : Value} {xs : List ByteArray} (h : RowAt Value.string w v xs) : StrsAt w v xs := by
  obtain ⟨ao, cap, rfl, hc, h⟩ := h
  refine ⟨ao, cap, rfl, ?_⟩
  rcases h with h | ⟨b, o, rfl, hlt, hx⟩
  · exact .inl h
  · exact .inr ⟨b, o, rfl, hlt, hc.1, hx⟩
theorem index_s (v : Value) (xs : List ByteArray) (x : ByteArray) (w : World) (h : RowAt Value.string w v xs) (hn : xs.length ≤ 1000000) :
    Calls Try.prog 56 #[v, .string x] w fun e w' => e = .returned (.int .i64 (Lib.idxOfS xs x)) ∧ w = w' := by
  rcases h.cases with ⟨rfl, ao, cap, rfl⟩ | ⟨_, b, o, cap, rfl, _, _, hc⟩
  · exact (Try.slices_Index_string_empty ao cap x w).mono fun e w' ⟨h1, h2⟩ => ⟨h1, h2.symm⟩
  · exact (Try.slices_Index_string b o xs.length cap xs x w (Nat.le_refl _) (by omega) (cells_getD ByteArray.empty hc)).mono fun e w' ⟨h1, h2⟩ => ⟨by rw [List.take_length] at h1; exact h1, h2.symm⟩
theorem clone_s (v : Value) (xs : List ByteArray) (w : World) (h : RowAt Value.string w v xs) (hn : xs.length ≤ 1000000) :
    Calls Try.prog 53 #[v] w fun e w' => ∃ v', e = .returned v' ∧ w'.ownsRow w.heap.size 9 1 v' xs.length (xs.map Value.string) ∧ Below w.heap.size w w' := by
  rcases h.cases with ⟨rfl, ao, cap, rfl⟩ | ⟨_, b, o, cap, rfl, _, _, hc⟩
  · cases ao with
    | none => exact (Try.slices_Clone_string_nil _ _ _).mono fun e w' ⟨h1, h2⟩ => ⟨_, h1, World.ownsRow_nil _ _ _ _, h2 ▸ Below.refl _ _⟩
    | some a => exact (Try.slices_Clone_string_zero a _ _).mono fun e w' ⟨v', h1, h2, _, h4⟩ => ⟨v', h1, h2, h4⟩
  · exact (Try.slices_Clone_string b o xs.length cap xs w (Nat.le_refl _) (by omega) (cells_getD ByteArray.empty hc)).mono fun e w' ⟨v', h1, h2, _, h4⟩ => ⟨v', h1, by rw [List.take_length] at h2; exact h2, h4⟩
theorem sort_s (B : Nat) (v : Value) (xs : List (List UInt8)) (w : World) (h : w.ownsRow B 9 1 v xs.length (xs.map encStr)) (hB : B ≤ w.heap.size) (hn : xs.length ≤ 1000000) :
    Calls Try.prog 54 #[v] w fun e w' => e = .returned (.tuple #[]) ∧ w'.ownsRow B 9 1 v xs.length ((xs.mergeSort leL).map encStr) ∧ Below B w w' := by
  by_cases hv : v = .slice none 0 0
  · subst hv
    have h0 : xs.length = 0 := by
      rcases h.2 with ⟨_, h0⟩ | ⟨g, cap, cur, he, _⟩
      · exact h0
      · cases he
    have : xs = [] := List.eq_nil_of_length_eq_zero h0
    subst this
    exact (Try.slices_Sort_string_none none 0 w).mono fun e w' ⟨h1, h2⟩ => ⟨h1, by rw [h2, List.mergeSort_nil]; exact World.ownsRow_nil _ _ _ _, by rw [h2]; exact Below.refl _ _⟩
  · obtain ⟨g, cap, rfl, hbg, hlt, _, _, _, hH⟩ := Lib.holds_of_ownsRow h hv
    refine (Try.slices_Sort_string g 0 cap xs w hH hlt (by omega)).mono fun e w' ⟨h1, n, os, h2⟩ => ⟨h1, ?_, ?_⟩
    · rw [h2]
      have h3 := Lib.ownsRow_putRow (q := n) (ys := xs.mergeSort leL) h (List.length_mergeSort xs) (Nat.le_refl _)
      rw [List.take_of_length_le (Nat.le_of_eq (List.length_mergeSort xs))] at h3
      refine own_block h3 ?_
      exact below_grow (Below.refl _ _) (Nat.le_refl _) os
    · rw [h2]
      exact below_grow (Lib.below_putRow (Below.refl _ _) hbg) (by rw [size_putRow]; exact hB) os
theorem compact_s (B : Nat) (v : Value) (xs : List (List UInt8)) (w : World) (h : w.ownsRow B 9 1 v xs.length (xs.map encStr)) (hn : xs.length ≤ 1000000) :
    Calls Try.prog 55 #[v] w fun e w' => ∃ v', e = .returned v' ∧ w'.ownsRow B 9 1 v' (Lib.compact xs).length ((Lib.compact xs).map encStr) ∧ Below B w w' := by
  by_cases hv : v = .slice none 0 0
  · subst hv
    have h0 : xs.length = 0 := by
      rcases h.2 with ⟨_, h0⟩ | ⟨g, cap, cur, he, _⟩
      · exact h0
      · cases he
    have : xs = [] := List.eq_nil_of_length_eq_zero h0
    subst this
    exact (Try.slices_Compact_string_empty none 0 w).mono fun e w' ⟨h1, h2⟩ => ⟨_, h1, by rw [h2]; exact World.ownsRow_nil _ _ _ _, by rw [h2]; exact Below.refl _ _⟩
  · obtain ⟨g, cap, rfl, hbg, hlt, hcap, _, _, hH⟩ := Lib.holds_of_ownsRow h hv
    have hl := Lib.compact_length_le xs
    refine (Try.slices_Compact_string g 0 cap xs w hH (by omega) hcap).mono fun e w' ⟨h1, n, h2⟩ => ⟨_, h1, ?_, ?_⟩
    · rw [h2]
      have h3 := Lib.ownsRow_putRow (q := n) (ys := Lib.compact xs ++ List.replicate (xs.length - (Lib.compact xs).length) []) h (by rw [List.length_append, List.length_replicate]; omega) hl
      rw [List.take_left] at h3
      exact h3
    · rw [h2]
      exact Lib.below_putRow (Below.refl _ _) hbg
theorem wsort_prog (v : Value) (xs : List ByteArray) (w : World) (h : RowAt Value.string w v xs) (hn : xs.length ≤ 1000000) :
    Calls Try.prog 38 #[v] w fun e w' => ∃ v', e = .returned v' ∧ w'.ownsRow w.heap.size 9 1 v' (wsort xs).length ((wsort xs).map Value.string) ∧ Below w.heap.size w w' := by
  have H := Lib.hid h
  have HW := Lib.hid (show (wsort xs).map Value.string = (Lib.compact ((xs.map (·.data.toList)).mergeSort leL)).map encStr by rw [wsort, List.map_map]; rfl)
  have HWL := Lib.hid (show (wsort xs).length = (Lib.compact ((xs.map (·.data.toList)).mergeSort leL)).length by rw [wsort, List.length_map])
  clear h
  go_enter Try.func38, Try.ntmps38
  go_wp2_with fail
  refine (clone_s v xs _ H.out hn).mono ?_
  rintro e w1 ⟨v1, rfl, o1, b1⟩
  go_wp2_with fail
  have hl0 : (xs.map (·.data.toList)).length = xs.length := List.length_map _
  rw [← Lib.map_encStr, ← hl0] at o1
  refine (sort_s w.heap.size v1 (xs.map (·.data.toList)) _ o1 b1.size (by omega)).mono ?_
  rintro e w2 ⟨rfl, o2, b2⟩
  go_wp2_with fail
  have hl : ((xs.map (·.data.toList)).mergeSort leL).length = (xs.map (·.data.toList)).length := List.length_mergeSort _
  rw [← hl] at o2
  refine (compact_s w.heap.size v1 ((xs.map (·.data.toList)).mergeSort leL) _ o2 (by omega)).mono ?_
  rintro e w3 ⟨v3, rfl, o3, b3⟩
  clear hl hl0
  go_wp2_with fail
  go_ret
  exact ⟨_, rfl, by rw [HWL.out, HW.out]; exact o3, (b1.trans b2).trans b3⟩
theorem windex_prog (v : Value) (xs : List ByteArray) (x : ByteArray) (w : World) (h : RowAt Value.string w v xs) (hn : xs.length ≤ 1000000) :
    Calls Try.prog 39 #[v, .string x] w fun e w' => e = .returned (.int .i64 (Lib.idxOfS xs x)) ∧ w = w' := by
  have H := Lib.hid h
  clear h
  go_enter Try.func39, Try.ntmps39
  go_wp2_with fail
  refine (index_s v xs x _ H.out hn).mono ?_
  rintro e w1 ⟨rfl, rfl⟩
  go_wp2_with fail
  go_ret
  exact ⟨rfl, rfl⟩
theorem getS_at (xs : List ByteArray) (k : Nat) (h : k < xs.length) : xs.getD k ByteArray.empty = xs[k] := by rw [List.getD_eq_getElem?_getD, List.getElem?_eq_getElem h]; rfl
theorem windex_ref (v : Value) (xs : List ByteArray) (x : ByteArray) (w : World) (h : RowAt Value.string w v xs) (hn : xs.length ≤ 1000000) :
    Calls Try.prog 42 #[v, .string x] w fun e w' => e = .returned (.int .i64 (Lib.idxOfS xs x)) ∧ w = w' := by
  obtain ⟨ao, cap, rfl, hcap, hx⟩ := h
  have HX := Lib.hid hx
  clear hx
  go_enter Try.func42, Try.ntmps42
  go_wp2_with fail
  go_loop [5] (fun i => ∃ k : Nat, k ≤ xs.length ∧ i = .int .i64 k ∧ Hid (∀ j, j < k → xs.getD j ByteArray.empty ≠ x)) (fun i => xs.length - (intOf i).toNat)
  case atStart => exact ⟨0, by omega, rfl, Lib.hid fun j hj => by omega⟩
  case round =>
    obtain ⟨k, hk, rfl, H⟩ := hrel
    by_cases hlt : k < xs.length
    · rcases HX.out with e | ⟨b, o, rfl, hb, hc⟩
      · rw [e] at hlt; simp at hlt
      have hcell := hc k xs[k] (by simp)
      have hg := getS_at xs k hlt
      obtain ⟨y, hy⟩ : ∃ y, y = xs[k] := ⟨_, rfl⟩
      rw [← hy] at hcell hg
      have HG := Lib.hid hg
      clear hc hy hg
      by_cases he : y = x
      · have ht : (y.toList == x.toList) = true := same_true he
        have HR := Lib.hid (Lib.idxOfS_hit xs xs.length k x hlt (Nat.le_refl _) (by rw [HG.out]; exact he) H.out)
        rw [List.take_length] at HR
        clear he
        go_wp2_with fail
        go_ret
        exact ⟨ret_int HR.out.symm, rfl⟩
      · have ht : (y.toList == x.toList) = false := same_false he
        have H2 : Hid (∀ j, j < k + 1 → xs.getD j ByteArray.empty ≠ x) := Lib.hid fun j hj => by
          by_cases e : j = k
          · rw [e, HG.out]; exact he
          · exact H.out j (by omega)
        clear he H
        go_wp2_with fail
        go_round
        case rel => exact ⟨k + 1, by omega, by go_num, H2⟩
        case measure => simp [intOf]; omega
    · obtain rfl : k = xs.length := by omega
      have HR := Lib.hid (Lib.idxOfS_miss xs xs.length x H.out)
      rw [List.take_length] at HR
      go_wp2_with fail
      go_ret
      exact ⟨ret_int HR.out.symm, rfl⟩
end Go.Proofs.Ytihnjbbgfjckaaa
