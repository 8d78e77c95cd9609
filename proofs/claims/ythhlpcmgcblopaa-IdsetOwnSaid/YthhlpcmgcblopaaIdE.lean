/- Chapter 03: walks of the program's Meet, Minus, Union. -/
import Derived.Test.YthhlpcmgcblopaaIdD
namespace Go.Proofs.Ythhlpcmgcblopaa
open Go Go.RowKit Go.Sort Cg
theorem rowAt_sort {α β : Type} [Inhabited β] {enc' : α → Value} {enc : β → Value} {w0 w : World} {u : Value} {ys : List α} {blk off n : Nat} {d : Array β} {os : Array Obj} (h : RowAt enc' w0 u ys) (hb : Below w0.heap.size w0 w) (hblk : w0.heap.size ≤ blk) : RowAt enc' (sortWorld enc w blk off n d os) u ys := by
  obtain ⟨ao, cap, rfl, hc, h⟩ := h
  refine ⟨ao, cap, rfl, hc, ?_⟩
  by_cases hy : ys = []
  · exact .inl hy
  · rcases h with h | ⟨b, o, rfl, hlt, hx⟩
    · exact .inl h
    · have hs := hb.size
      have hcell : ∀ (j : Nat) x, ys[j]? = some x → (sortWorld enc w blk off n d os).cell? ⟨b, o + j, none⟩ = some (enc' x) := fun j x hj => by
        rw [cell_sortWorld _ _ _ _ _ _ _ _ _ (by omega) (by omega), hb.cell (p := ⟨b, o + j, none⟩) hlt]
        exact hx j x hj
      obtain ⟨y, r, hyr⟩ := List.exists_cons_of_ne_nil hy
      exact .inr ⟨b, o, rfl, block_lt_of_cell (hcell 0 y (by rw [hyr]; rfl)), hcell⟩
/-- The closure Meet$1, in whatever world holds the slice in its box. -/
theorem fmeet_gives (u : Value) (ys : List Int) (x : Int) (b : Nat) (w : World) (hr : RowAt (Value.int .i64) w u ys) (hm : ys.length ≤ 1000000) (hc : w.cell? ⟨b, 0, none⟩ = some u) :
    FnGives Try.prog 48 #[.pointer (some ⟨b, 0, none⟩)] #[.int .i64 x] (.bool (decide (x ∈ ys))) w := by
  show Calls Try.prog 48 #[.int .i64 x, .pointer (some ⟨b, 0, none⟩)] w _
  have H := Lib.hid hr
  obtain ⟨ao, cap, rfl⟩ := hr.form
  clear hr
  obtain ⟨r, hrr⟩ : ∃ r, decide (x ∈ ys) = r := ⟨_, rfl⟩
  have HR := Lib.hid hrr
  rw [hrr]
  clear hrr
  go_enter Try.func48, Try.ntmps48
  go_wp2_with fail
  refine (has_prog _ ys x _ H.out hm).mono ?_
  rintro e w1 ⟨rfl, rfl⟩
  rw [HR.out]
  go_wp2_with fail
  go_ret
  exact ⟨rfl, 0, rfl⟩
theorem fmeet_keep1 (u : Value) (ys : List Int) (x : Int) (b c : Nat) (w : World) (hr : RowAt (Value.int .i64) w u ys) (hm : ys.length ≤ 1000000) (hc : w.cell? ⟨b, 0, none⟩ = some u)
    (hf : w.cell? ⟨c, 0, none⟩ = some (.func (.func 48) #[] #[.pointer (some ⟨b, 0, none⟩)])) :
    FnGives Try.prog 72 #[.pointer (some ⟨c, 0, none⟩)] #[.int .i64 x] (.bool (!(decide (x ∈ ys)))) w := by
  show Calls Try.prog 72 #[.int .i64 x, .pointer (some ⟨c, 0, none⟩)] w _
  have HG := Lib.hid (show Calls Try.prog 48 #[.int .i64 x, .pointer (some ⟨b, 0, none⟩)] w _ from fmeet_gives u ys x b w hr hm hc)
  have eg : ∀ args w, (callFunc 48 args).run Try.prog w = .ok (.enter 48 args) w := enters_of Try.func48 (by kernel_rfl) rfl
  clear hr hc
  obtain ⟨r, hrr⟩ : ∃ r, (decide (x ∈ ys)) = r := ⟨_, rfl⟩
  rw [hrr] at HG ⊢
  clear hrr
  go_enter Try.func72, Try.ntmps72
  go_wp2_with fail
  refine HG.out.mono ?_
  rintro e w1 ⟨rfl, n, rfl⟩
  go_wp2_with fail
  go_ret
  exact ⟨rfl, n, rfl⟩
set_option maxHeartbeats 400000 in
theorem fmeet_keep (v u : Value) (xs ys : List Int) (b : Nat) (w : World) (h : RowAt (Value.int .i64) w v xs) (k : RowAt (Value.int .i64) w u ys) (hn : xs.length ≤ 1000000) (hm : ys.length ≤ 1000000) (hb : b < w.heap.size) (hc : w.cell? ⟨b, 0, none⟩ = some u) :
    Calls Try.prog 47 #[v, .func (.func 48) #[] #[.pointer (some ⟨b, 0, none⟩)]] w fun e w' => ∃ v', e = .returned v' ∧ w'.ownsRow w.heap.size 3 1 v' (osort (xs.filter fun x => decide (x ∈ ys))).length ((osort (xs.filter fun x => decide (x ∈ ys))).map (Value.int .i64)) ∧ Below w.heap.size w w' := by
  obtain ⟨zs, hz⟩ : ∃ zs, zs = xs.filter fun x => decide (x ∈ ys) := ⟨_, rfl⟩
  have HZ := Lib.hid hz
  rw [← hz]
  clear hz
  have hal := (Below.refl w.heap.size w).alloc (Nat.le_refl _) (.cells #[.func (.func 48) #[] #[.pointer (some ⟨b, 0, none⟩)]] 44)
  have H := Lib.hid (h.below hal)
  have HB := Lib.hid hal
  have HC := Lib.hid (cells_new w [.func (.func 48) #[] #[.pointer (some ⟨b, 0, none⟩)]] 44 0 _ rfl)
  have eg : ∀ args w, (callFunc 72 args).run Try.prog w = .ok (.enter 72 args) w := enters_of Try.func72 (by kernel_rfl) rfl
  have EG := Lib.hid eg
  have K := Lib.hid k
  have HCB := Lib.hid hc
  clear h hal eg k hc
  go_enter Try.func47, Try.ntmps47
  go_wp2_with fail
  refine (clone_i v xs _ H.out hn).mono ?_
  rintro e w1 ⟨v1, rfl, o1, b1⟩
  have hlt : w.heap.size < (w.alloc (.cells #[.func (.func 48) #[] #[.pointer (some ⟨b, 0, none⟩)]] 44)).heap.size := by show w.heap.size < (w.heap.push _).size; simp
  have hc1 := (b1.cell (p := ⟨w.heap.size, 0, none⟩) hlt).trans HC.out
  have hlt1 := Nat.lt_of_lt_of_le hlt b1.size
  have hbw : Below w.heap.size w w1 := HB.out.trans (b1.mono (Nat.le_of_lt hlt))
  have hcb1 := (hbw.cell (p := ⟨b, 0, none⟩) hb).trans HCB.out
  have K1 := K.out.below hbw
  have HL := Lib.hid hlt
  have hp : PredAt Try.prog 72 #[.pointer (some ⟨w.heap.size, 0, none⟩)] (Value.int .i64) (fun x => !(decide (x ∈ ys))) w1 :=
    fun W x hb2 => fmeet_keep1 u ys x b w.heap.size W (K1.below hb2) hm ((hb2.cell (p := ⟨b, 0, none⟩) (Nat.lt_of_lt_of_le hb hbw.size)).trans hcb1) ((hb2.cell (p := ⟨w.heap.size, 0, none⟩) hlt1).trans hc1)
  have hpo : ∀ blk, (w.alloc (.cells #[.func (.func 48) #[] #[.pointer (some ⟨b, 0, none⟩)]] 44)).heap.size ≤ blk → PredOver Try.prog 72 #[.pointer (some ⟨w.heap.size, 0, none⟩)] (Value.int .i64) (fun x => !(decide (x ∈ ys))) blk 0 xs.length w1 :=
    fun blk hblk q os dk x _ => fmeet_keep1 u ys x b w.heap.size _ (rowAt_sort K.out hbw (by omega)) hm (by rw [cell_sortWorld _ _ _ _ _ _ _ _ _ (by have := hbw.size; omega) (by omega)]; exact hcb1) (by rw [cell_sortWorld _ _ _ _ _ _ _ _ _ hlt1 (by omega)]; exact hc1)
  have HD := Lib.hid (delete_i (w.alloc (.cells #[.func (.func 48) #[] #[.pointer (some ⟨b, 0, none⟩)]] 44)).heap.size v1 xs (fun x => !(decide (x ∈ ys))) 72 #[.pointer (some ⟨w.heap.size, 0, none⟩)] EG.out w1 o1 hp hpo hn)
  have HF := Lib.hid (show (xs.filter fun x => !(!(decide (x ∈ ys)))) = zs by rw [HZ.out]; simp)
  have HN := Lib.hid (show zs.length ≤ 1000000 by rw [HZ.out]; exact Nat.le_trans (List.length_filter_le (fun x => decide (x ∈ ys)) xs) hn)
  have HBW := Lib.hid hbw
  clear hp hpo hc1 hlt hlt1 o1 hcb1 K1 hbw
  go_wp2_with fail
  refine HD.out.mono ?_
  rintro e w2 ⟨v2, rfl, o2, b2⟩
  rw [HF.out] at o2
  have R2 := Lib.hid (rowAt_own o2)
  clear o2
  go_wp2_with fail
  refine (distinct_prog v2 zs _ R2.out HN.out).mono ?_
  rintro e w3 ⟨v3, rfl, o3, b3⟩
  go_wp2_with fail
  go_ret
  have hs : w.heap.size ≤ w2.heap.size := by have h1 := HBW.out.size; have h2 := b2.size; omega
  exact ⟨_, rfl, own_low o3 hs, (HBW.out.trans (b2.mono (Nat.le_of_lt HL.out))).trans (b3.mono hs)⟩
theorem fmeet_eq (xs ys : List Int) : osort (xs.filter fun x => decide (x ∈ ys)) = fmeet xs ys := by rw [osort_ins, fmeet]
theorem fmeet_prog (v u : Value) (xs ys : List Int) (w : World) (h : RowAt (Value.int .i64) w v xs) (k : RowAt (Value.int .i64) w u ys) (hn : xs.length ≤ 1000000) (hm : ys.length ≤ 1000000) :
    Calls Try.prog 24 #[v, u] w fun e w' => ∃ v', e = .returned v' ∧ w'.ownsRow w.heap.size 3 1 v' (fmeet xs ys).length ((fmeet xs ys).map (Value.int .i64)) ∧ Below w.heap.size w w' := by
  have hal := (Below.refl w.heap.size w).alloc (Nat.le_refl _) (.cells #[u] 22)
  have hlt : w.heap.size < (w.alloc (.cells #[u] 22)).heap.size := by show w.heap.size < (w.heap.push _).size; simp
  have HK := Lib.hid (fmeet_keep v u xs ys w.heap.size (w.alloc (.cells #[u] 22)) (h.below hal) (k.below hal) hn hm hlt (cells_new w [u] 22 0 _ rfl))
  rw [fmeet_eq] at HK
  have HB := Lib.hid hal
  have HL := Lib.hid hlt
  obtain ⟨ao, cap, rfl⟩ := k.form
  clear h k hal hlt
  go_enter Try.func24, Try.ntmps24
  go_wp2_with fail
  refine HK.out.mono ?_
  rintro e w1 ⟨v1, rfl, o1, b1⟩
  go_wp2_with fail
  go_ret
  exact ⟨_, rfl, own_low o1 (Nat.le_of_lt HL.out), HB.out.trans (b1.mono (Nat.le_of_lt HL.out))⟩
/-- The closure Minus$1, in whatever world holds the slice in its box. -/
theorem fminus_gives (u : Value) (ys : List Int) (x : Int) (b : Nat) (w : World) (hr : RowAt (Value.int .i64) w u ys) (hm : ys.length ≤ 1000000) (hc : w.cell? ⟨b, 0, none⟩ = some u) :
    FnGives Try.prog 49 #[.pointer (some ⟨b, 0, none⟩)] #[.int .i64 x] (.bool (!decide (x ∈ ys))) w := by
  show Calls Try.prog 49 #[.int .i64 x, .pointer (some ⟨b, 0, none⟩)] w _
  have H := Lib.hid hr
  obtain ⟨ao, cap, rfl⟩ := hr.form
  clear hr
  obtain ⟨r, hrr⟩ : ∃ r, decide (x ∈ ys) = r := ⟨_, rfl⟩
  have HR := Lib.hid hrr
  rw [hrr]
  clear hrr
  go_enter Try.func49, Try.ntmps49
  go_wp2_with fail
  refine (has_prog _ ys x _ H.out hm).mono ?_
  rintro e w1 ⟨rfl, rfl⟩
  rw [HR.out]
  go_wp2_with fail
  go_ret
  exact ⟨rfl, 0, rfl⟩
theorem fminus_keep1 (u : Value) (ys : List Int) (x : Int) (b c : Nat) (w : World) (hr : RowAt (Value.int .i64) w u ys) (hm : ys.length ≤ 1000000) (hc : w.cell? ⟨b, 0, none⟩ = some u)
    (hf : w.cell? ⟨c, 0, none⟩ = some (.func (.func 49) #[] #[.pointer (some ⟨b, 0, none⟩)])) :
    FnGives Try.prog 72 #[.pointer (some ⟨c, 0, none⟩)] #[.int .i64 x] (.bool (!(!decide (x ∈ ys)))) w := by
  show Calls Try.prog 72 #[.int .i64 x, .pointer (some ⟨c, 0, none⟩)] w _
  have HG := Lib.hid (show Calls Try.prog 49 #[.int .i64 x, .pointer (some ⟨b, 0, none⟩)] w _ from fminus_gives u ys x b w hr hm hc)
  have eg : ∀ args w, (callFunc 49 args).run Try.prog w = .ok (.enter 49 args) w := enters_of Try.func49 (by kernel_rfl) rfl
  clear hr hc
  obtain ⟨r, hrr⟩ : ∃ r, (!decide (x ∈ ys)) = r := ⟨_, rfl⟩
  rw [hrr] at HG ⊢
  clear hrr
  go_enter Try.func72, Try.ntmps72
  go_wp2_with fail
  refine HG.out.mono ?_
  rintro e w1 ⟨rfl, n, rfl⟩
  go_wp2_with fail
  go_ret
  exact ⟨rfl, n, rfl⟩
set_option maxHeartbeats 400000 in
theorem fminus_keep (v u : Value) (xs ys : List Int) (b : Nat) (w : World) (h : RowAt (Value.int .i64) w v xs) (k : RowAt (Value.int .i64) w u ys) (hn : xs.length ≤ 1000000) (hm : ys.length ≤ 1000000) (hb : b < w.heap.size) (hc : w.cell? ⟨b, 0, none⟩ = some u) :
    Calls Try.prog 47 #[v, .func (.func 49) #[] #[.pointer (some ⟨b, 0, none⟩)]] w fun e w' => ∃ v', e = .returned v' ∧ w'.ownsRow w.heap.size 3 1 v' (osort (xs.filter fun x => !decide (x ∈ ys))).length ((osort (xs.filter fun x => !decide (x ∈ ys))).map (Value.int .i64)) ∧ Below w.heap.size w w' := by
  obtain ⟨zs, hz⟩ : ∃ zs, zs = xs.filter fun x => !decide (x ∈ ys) := ⟨_, rfl⟩
  have HZ := Lib.hid hz
  rw [← hz]
  clear hz
  have hal := (Below.refl w.heap.size w).alloc (Nat.le_refl _) (.cells #[.func (.func 49) #[] #[.pointer (some ⟨b, 0, none⟩)]] 44)
  have H := Lib.hid (h.below hal)
  have HB := Lib.hid hal
  have HC := Lib.hid (cells_new w [.func (.func 49) #[] #[.pointer (some ⟨b, 0, none⟩)]] 44 0 _ rfl)
  have eg : ∀ args w, (callFunc 72 args).run Try.prog w = .ok (.enter 72 args) w := enters_of Try.func72 (by kernel_rfl) rfl
  have EG := Lib.hid eg
  have K := Lib.hid k
  have HCB := Lib.hid hc
  clear h hal eg k hc
  go_enter Try.func47, Try.ntmps47
  go_wp2_with fail
  refine (clone_i v xs _ H.out hn).mono ?_
  rintro e w1 ⟨v1, rfl, o1, b1⟩
  have hlt : w.heap.size < (w.alloc (.cells #[.func (.func 49) #[] #[.pointer (some ⟨b, 0, none⟩)]] 44)).heap.size := by show w.heap.size < (w.heap.push _).size; simp
  have hc1 := (b1.cell (p := ⟨w.heap.size, 0, none⟩) hlt).trans HC.out
  have hlt1 := Nat.lt_of_lt_of_le hlt b1.size
  have hbw : Below w.heap.size w w1 := HB.out.trans (b1.mono (Nat.le_of_lt hlt))
  have hcb1 := (hbw.cell (p := ⟨b, 0, none⟩) hb).trans HCB.out
  have K1 := K.out.below hbw
  have HL := Lib.hid hlt
  have hp : PredAt Try.prog 72 #[.pointer (some ⟨w.heap.size, 0, none⟩)] (Value.int .i64) (fun x => !(!decide (x ∈ ys))) w1 :=
    fun W x hb2 => fminus_keep1 u ys x b w.heap.size W (K1.below hb2) hm ((hb2.cell (p := ⟨b, 0, none⟩) (Nat.lt_of_lt_of_le hb hbw.size)).trans hcb1) ((hb2.cell (p := ⟨w.heap.size, 0, none⟩) hlt1).trans hc1)
  have hpo : ∀ blk, (w.alloc (.cells #[.func (.func 49) #[] #[.pointer (some ⟨b, 0, none⟩)]] 44)).heap.size ≤ blk → PredOver Try.prog 72 #[.pointer (some ⟨w.heap.size, 0, none⟩)] (Value.int .i64) (fun x => !(!decide (x ∈ ys))) blk 0 xs.length w1 :=
    fun blk hblk q os dk x _ => fminus_keep1 u ys x b w.heap.size _ (rowAt_sort K.out hbw (by omega)) hm (by rw [cell_sortWorld _ _ _ _ _ _ _ _ _ (by have := hbw.size; omega) (by omega)]; exact hcb1) (by rw [cell_sortWorld _ _ _ _ _ _ _ _ _ hlt1 (by omega)]; exact hc1)
  have HD := Lib.hid (delete_i (w.alloc (.cells #[.func (.func 49) #[] #[.pointer (some ⟨b, 0, none⟩)]] 44)).heap.size v1 xs (fun x => !(!decide (x ∈ ys))) 72 #[.pointer (some ⟨w.heap.size, 0, none⟩)] EG.out w1 o1 hp hpo hn)
  have HF := Lib.hid (show (xs.filter fun x => !(!(!decide (x ∈ ys)))) = zs by rw [HZ.out]; simp)
  have HN := Lib.hid (show zs.length ≤ 1000000 by rw [HZ.out]; exact Nat.le_trans (List.length_filter_le (fun x => !decide (x ∈ ys)) xs) hn)
  have HBW := Lib.hid hbw
  clear hp hpo hc1 hlt hlt1 o1 hcb1 K1 hbw
  go_wp2_with fail
  refine HD.out.mono ?_
  rintro e w2 ⟨v2, rfl, o2, b2⟩
  rw [HF.out] at o2
  have R2 := Lib.hid (rowAt_own o2)
  clear o2
  go_wp2_with fail
  refine (distinct_prog v2 zs _ R2.out HN.out).mono ?_
  rintro e w3 ⟨v3, rfl, o3, b3⟩
  go_wp2_with fail
  go_ret
  have hs : w.heap.size ≤ w2.heap.size := by have h1 := HBW.out.size; have h2 := b2.size; omega
  exact ⟨_, rfl, own_low o3 hs, (HBW.out.trans (b2.mono (Nat.le_of_lt HL.out))).trans (b3.mono hs)⟩
theorem fminus_eq (xs ys : List Int) : osort (xs.filter fun x => !decide (x ∈ ys)) = fminus xs ys := by rw [osort_ins, fminus]; congr 1; simp
theorem fminus_prog (v u : Value) (xs ys : List Int) (w : World) (h : RowAt (Value.int .i64) w v xs) (k : RowAt (Value.int .i64) w u ys) (hn : xs.length ≤ 1000000) (hm : ys.length ≤ 1000000) :
    Calls Try.prog 26 #[v, u] w fun e w' => ∃ v', e = .returned v' ∧ w'.ownsRow w.heap.size 3 1 v' (fminus xs ys).length ((fminus xs ys).map (Value.int .i64)) ∧ Below w.heap.size w w' := by
  have hal := (Below.refl w.heap.size w).alloc (Nat.le_refl _) (.cells #[u] 22)
  have hlt : w.heap.size < (w.alloc (.cells #[u] 22)).heap.size := by show w.heap.size < (w.heap.push _).size; simp
  have HK := Lib.hid (fminus_keep v u xs ys w.heap.size (w.alloc (.cells #[u] 22)) (h.below hal) (k.below hal) hn hm hlt (cells_new w [u] 22 0 _ rfl))
  rw [fminus_eq] at HK
  have HB := Lib.hid hal
  have HL := Lib.hid hlt
  obtain ⟨ao, cap, rfl⟩ := k.form
  clear h k hal hlt
  go_enter Try.func26, Try.ntmps26
  go_wp2_with fail
  refine HK.out.mono ?_
  rintro e w1 ⟨v1, rfl, o1, b1⟩
  go_wp2_with fail
  go_ret
  exact ⟨_, rfl, own_low o1 (Nat.le_of_lt HL.out), HB.out.trans (b1.mono (Nat.le_of_lt HL.out))⟩
set_option maxRecDepth 100000 in
theorem grow_nil (n : Nat) (hn : n ≤ 1000000) (w : World) : Calls Try.prog 71 #[.slice none 0 0, .int .i64 n] w fun e w' => ∃ v', e = .returned v' ∧ w'.ownsRow w.heap.size 3 1 v' 0 [] ∧ Below w.heap.size w w' := by
  by_cases h0 : n = 0
  · subst h0
    go_enter Try.func71, Try.ntmps71
    go_wp2_with fail
    go_ret
    exact ⟨_, rfl, World.ownsRow_nil _ _ _ _, Below.refl _ _⟩
  · have hp : 0 < n := by omega
    have h1 : (0 : Int) < (n : Int) := by omega
    obtain ⟨ht, hzs, hsz, i, hi, hz, hsize, hby⟩ := intsElem
    have hrun := fun ty => Lib.run_append_nil_zeros (P := Try.prog) w 22 3 ty 3 i (.int .i64 0) .i64 .i64 Try.underlying22 Try.underlying3 hi hz n hp (by omega) (by omega) (by rw [hby]; omega)
    have HR := Lib.hid hrun
    have hcap := grownCap_ge w n 0 3
    have hcm := grownCap_le_maxLen w n 0 3 (by unfold maxLen; omega)
    obtain ⟨G, hG⟩ : ∃ G, G = grownCap w n 0 3 := ⟨_, rfl⟩
    rw [← hG] at HR hcap hcm
    have HCM := Lib.hid hcm
    unfold maxLen at hcm
    clear hrun hG hi hz hsize hby hzs hsz ht h0
    have hzl : ∀ k, (Builtin.zeroCells (#[.int .i64 0] : Array Value) k).size = k := fun k => by simp [Builtin.zeroCells]
    have HZ := Lib.hid (show (Builtin.zeroCells (#[.int .i64 0] : Array Value) n ++ Builtin.zeroCells (#[.int .i64 0] : Array Value) (G - n)).size = G by rw [Array.size_append, hzl, hzl]; omega)
    clear hzl
    go_enter Try.func71, Try.ntmps71
    go_wp2_with (at_builtin; refine Lib.wpList_append_run _ rfl _ _ _ _ rfl _ _ rfl rfl _ _ (HR.out _) ?_)
    go_ret
    refine ⟨_, rfl, ⟨rfl, .inr ⟨w.heap.size, G, _, rfl, Nat.le_refl _, heap_alloc_new w.drew _, Nat.zero_le _, HCM.out, ?_, by simp⟩⟩, ((Below.refl _ _).drew).alloc (Nat.le_refl _) _⟩
    rw [Nat.mul_one]
    exact HZ.out
set_option maxHeartbeats 1000000 in
theorem concat_two (b : Nat) (v u : Value) (xs ys : List Int) (w : World) (hb : b < w.heap.size) (c0 : w.cell? ⟨b, 0, none⟩ = some v) (c1 : w.cell? ⟨b, 1, none⟩ = some u) (h : RowAt (Value.int .i64) w v xs) (k : RowAt (Value.int .i64) w u ys) (hn : xs.length ≤ 400000) (hm : ys.length ≤ 400000) :
    Calls Try.prog 46 #[.slice (some ⟨b, 0, none⟩) 2 2] w fun e w' => ∃ v', e = .returned v' ∧ w'.ownsRow w.heap.size 3 1 v' (xs ++ ys).length ((xs ++ ys).map (Value.int .i64)) ∧ Below w.heap.size w w' := by
  have H := Lib.hid h
  have K := Lib.hid k
  obtain ⟨av, cv, rfl⟩ := h.form
  obtain ⟨au, cu, rfl⟩ := k.form
  clear h k
  go_enter Try.func46, Try.ntmps46
  go_wp2_with fail
  go_loop [3, 11] (fun s i => (i = .int .i64 0 ∧ s = .int .i64 0) ∨ (i = .int .i64 1 ∧ s = .int .i64 (xs.length : Int)) ∨ (i = .int .i64 2 ∧ s = .int .i64 ((xs.length + ys.length : Nat) : Int))) (fun _ i => 2 - (intOf i).toNat)
  case atStart => exact .inl ⟨rfl, rfl⟩
  case round =>
    rcases hrel with ⟨rfl, rfl⟩ | ⟨rfl, rfl⟩ | ⟨rfl, rfl⟩
    · go_wp2_with fail
      go_round
      case rel => exact .inr (.inl ⟨by go_num, by go_num⟩)
      case measure => simp [intOf]
    · go_wp2_with fail
      go_round
      case rel => exact .inr (.inr ⟨by go_num, by go_num⟩)
      case measure => simp [intOf]
    · go_wp2_with fail
      refine (grow_nil (xs.length + ys.length) (by omega) _).mono ?_
      rintro e w1 ⟨v1, rfl, o1, b1⟩
      have C0 := Lib.hid ((b1.cell (p := ⟨b, 0, none⟩) hb).trans c0)
      have C1 := Lib.hid ((b1.cell (p := ⟨b, 1, none⟩) hb).trans c1)
      have H1 := Lib.hid (H.out.below b1)
      have K1 := Lib.hid (K.out.below b1)
      have hb1 := Nat.lt_of_lt_of_le hb b1.size
      clear c0 c1
      go_wp2_with fail
      go_loopw [6, 27] (fun out i wr => ((i = .int .i64 0 ∧ wr.ownsRow w.heap.size 3 1 out 0 []) ∨ (i = .int .i64 1 ∧ wr.ownsRow w.heap.size 3 1 out xs.length (xs.map (Value.int .i64))) ∨ (i = .int .i64 2 ∧ wr.ownsRow w.heap.size 3 1 out (xs.length + ys.length) (xs.map (Value.int .i64) ++ ys.map (Value.int .i64)))) ∧ Below w.heap.size w wr) (fun _ i _ => 2 - (intOf i).toNat)
      case atStart => exact ⟨.inl ⟨rfl, o1⟩, b1⟩
      case round =>
        obtain ⟨hrel, hnx⟩ := hrel
        clear o1
        rcases hrel with ⟨rfl, hown⟩ | ⟨rfl, hown⟩ | ⟨rfl, hown⟩
        · have c0 := (hnx.cell (p := ⟨b, 0, none⟩) hb).trans ((b1.cell (p := ⟨b, 0, none⟩) hb).symm.trans C0.out)
          have HX := Lib.hid (H.out.below hnx)
          clear b1
          go_wp2_with (at_builtin; refine wpList_append_row rfl (.tmp 31) (.tmp 32) 22 rfl w.heap.size intsElem _ _ _ rfl hown (Value.int .i64) (fun _ => rfl) xs _ rfl HX.out (by omega) (by omega) hnx.size ?_; intro v' w2 hown' hbel)
          go_roundw
          case rel => exact ⟨.inr (.inl ⟨by go_num, by simpa using hown'⟩), hnx.trans hbel⟩
          case measure => simp [intOf]
        · have c1 := (hnx.cell (p := ⟨b, 1, none⟩) hb).trans ((b1.cell (p := ⟨b, 1, none⟩) hb).symm.trans C1.out)
          have HX := Lib.hid (K.out.below hnx)
          clear b1
          go_wp2_with (at_builtin; refine wpList_append_row rfl (.tmp 31) (.tmp 32) 22 rfl w.heap.size intsElem _ _ _ rfl hown (Value.int .i64) (fun _ => rfl) ys _ rfl HX.out (by omega) (by omega) hnx.size ?_; intro v' w2 hown' hbel)
          go_roundw
          case rel => exact ⟨.inr (.inr ⟨by go_num, hown'⟩), hnx.trans hbel⟩
          case measure => simp [intOf]
        · clear b1
          go_wp2_with fail
          go_ret
          exact ⟨_, rfl, by rw [List.length_append, List.map_append]; exact hown, hnx⟩
theorem union_prog (v u : Value) (xs ys : List Int) (w : World) (h : RowAt (Value.int .i64) w v xs) (k : RowAt (Value.int .i64) w u ys) (hn : xs.length ≤ 400000) (hm : ys.length ≤ 400000) :
    Calls Try.prog 22 #[v, u] w fun e w' => ∃ v', e = .returned v' ∧ w'.ownsRow w.heap.size 3 1 v' (osort (xs ++ ys)).length ((osort (xs ++ ys)).map (Value.int .i64)) ∧ Below w.heap.size w w' := by
  obtain ⟨zs, hz⟩ : ∃ zs, zs = xs ++ ys := ⟨_, rfl⟩
  have HZ := Lib.hid hz
  rw [← hz]
  clear hz
  have hal := (Below.refl w.heap.size w).alloc (Nat.le_refl _) (.cells #[v, u] 22)
  have hlt : w.heap.size < (w.alloc (.cells #[v, u] 22)).heap.size := by show w.heap.size < (w.heap.push _).size; simp
  have HC := Lib.hid (concat_two w.heap.size v u xs ys (w.alloc (.cells #[v, u] 22)) hlt (cells_new w [v, u] 22 0 _ rfl) (cells_new w [v, u] 22 1 _ rfl) (h.below hal) (k.below hal) hn hm)
  have HB := Lib.hid hal
  have HL := Lib.hid hlt
  have HN := Lib.hid (show zs.length ≤ 1000000 by rw [HZ.out, List.length_append]; omega)
  obtain ⟨av, cv, rfl⟩ := h.form
  obtain ⟨au, cu, rfl⟩ := k.form
  clear h k hal hlt
  go_enter Try.func22, Try.ntmps22
  go_wp2_with fail
  refine HC.out.mono ?_
  rintro e w1 ⟨v1, rfl, o1, b1⟩
  rw [← HZ.out] at o1
  have R1 := Lib.hid (rowAt_own o1)
  clear o1 HC
  go_wp2_with fail
  refine (distinct_prog v1 zs _ R1.out HN.out).mono ?_
  rintro e w2 ⟨v2, rfl, o2, b2⟩
  go_wp2_with fail
  go_ret
  have hs : w.heap.size ≤ w1.heap.size := by have h1 := HL.out; have h2 := b1.size; omega
  exact ⟨_, rfl, own_low o2 hs, (HB.out.trans (b1.mono (Nat.le_of_lt HL.out))).trans (b2.mono hs)⟩
end Go.Proofs.Ythhlpcmgcblopaa
