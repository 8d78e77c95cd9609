/- Chapter 56: Index, Has, Same of the reference of chapter 3. -/
import Derived.Test.YtfjnnbhijajhoaaRow
import Derived.Deep.QuietTactic
import Derived.BigQuiet
import Derived.Lib.Hide
import Derived.Test.YtfjnnbhijajhoaaProg
import Derived.Lib.Slices
namespace Go.Proofs.Ytfjnnbhijajhoaa
open Go Go.RowKit Cg
theorem getD_at (xs : List Int) (k : Nat) (h : k < xs.length) : xs.getD k 0 = xs[k] := by rw [List.getD_eq_getElem?_getD, List.getElem?_eq_getElem h]; rfl
def QZ (w w' : World) : Prop := ∃ n, w' = w.drewN n
theorem QZ.refl (w : World) : QZ w w := ⟨0, rfl⟩
theorem QZ.more {w w' : World} (h : QZ w w') (n : Nat) : QZ w (w'.drewN n) := by
  obtain ⟨m, rfl⟩ := h
  exact ⟨m + n, by simp [World.drewN, Nat.add_assoc]⟩
theorem QZ.below {w w' : World} (h : QZ w w') : Below w.heap.size w w' := by
  obtain ⟨m, rfl⟩ := h
  exact drewN_grow w m
theorem index_ref (v : Value) (xs : List Int) (x : Int) (w : World) (h : RowAt (Value.int .i64) w v xs) (hn : xs.length ≤ 1000000) :
    Calls Try.prog 33 #[v, .int .i64 x] w fun e w' => e = .returned (.int .i64 (Lib.idxOf xs x)) ∧ w = w' := by
  obtain ⟨ao, cap, rfl, hcap, hx⟩ := h
  have HX := Lib.hid hx
  clear hx
  go_enter Try.func33, Try.ntmps33
  go_wp2_with fail
  go_loop [5] (fun i => ∃ k : Nat, k ≤ xs.length ∧ i = .int .i64 k ∧ Hid (∀ j, j < k → xs.getD j 0 ≠ x)) (fun i => xs.length - (intOf i).toNat)
  case atStart => exact ⟨0, by omega, rfl, Lib.hid fun j hj => by omega⟩
  case round =>
    obtain ⟨k, hk, rfl, H⟩ := hrel
    by_cases hlt : k < xs.length
    · rcases HX.out with e | ⟨b, o, rfl, hb, hc⟩
      · rw [e] at hlt; simp at hlt
      have hcell := hc k xs[k] (by simp)
      have hg := getD_at xs k hlt
      obtain ⟨y, hy⟩ : ∃ y, y = xs[k] := ⟨_, rfl⟩
      rw [← hy] at hcell hg
      have HG := Lib.hid hg
      clear hc hy hg
      by_cases he : y = x
      · have ht : (y == x) = true := by rw [he]; simp
        have HR := Lib.hid (Lib.idxOf_hit xs xs.length k x hlt (Nat.le_refl _) (by rw [HG.out]; exact he) H.out)
        rw [List.take_length] at HR
        clear he
        go_wp2_with fail
        go_ret
        exact ⟨ret_int HR.out.symm, rfl⟩
      · have ht : (y == x) = false := beq_eq_false_iff_ne.2 he
        have H2 : Hid (∀ j, j < k + 1 → xs.getD j 0 ≠ x) := Lib.hid fun j hj => by
          by_cases e : j = k
          · rw [e, HG.out]; exact he
          · exact H.out j (by omega)
        clear he H
        go_wp2_with fail
        go_round
        case rel => exact ⟨k + 1, by omega, by go_num, H2⟩
        case measure => simp [intOf]; omega
    · obtain rfl : k = xs.length := by omega
      have HR := Lib.hid (Lib.idxOf_miss xs xs.length x H.out)
      rw [List.take_length] at HR
      go_wp2_with fail
      go_ret
      exact ⟨ret_int HR.out.symm, rfl⟩
theorem idxOf_mem (xs : List Int) (x : Int) : decide (0 ≤ Lib.idxOf xs x) = decide (x ∈ xs) := by
  have h := Lib.idxOf_nonneg_iff xs x
  rw [List.contains_iff_mem] at h
  exact decide_eq_decide.2 (by rw [h])
theorem has_ref (v : Value) (xs : List Int) (x : Int) (w : World) (h : RowAt (Value.int .i64) w v xs) (hn : xs.length ≤ 1000000) :
    Calls Try.prog 18 #[v, .int .i64 x] w fun e w' => e = .returned (.bool (decide (x ∈ xs))) ∧ w = w' := by
  have HM := Lib.hid (idxOf_mem xs x)
  have HC := Lib.hid (index_ref v xs x w h hn)
  clear h
  go_enter Try.func18, Try.ntmps18
  go_wp2_with fail
  refine HC.out.mono ?_
  rintro e w' ⟨rfl, rfl⟩
  obtain ⟨r, hr⟩ : ∃ r, Lib.idxOf xs x = r := ⟨_, rfl⟩
  rw [hr] at HM ⊢
  clear hr
  go_wp2_with fail
  go_ret
  exact ⟨ret_bool HM.out, rfl⟩
theorem list_ext_getD {xs ys : List Int} (hl : xs.length = ys.length) (h : ∀ j, j < xs.length → xs.getD j 0 = ys.getD j 0) : xs = ys := by
  apply List.ext_getElem hl
  intro j h1 h2
  have := h j h1
  rwa [getD_at _ _ h1, getD_at _ _ h2] at this
theorem same_ref (v u : Value) (xs ys : List Int) (w : World) (h : RowAt (Value.int .i64) w v xs) (k : RowAt (Value.int .i64) w u ys) (hn : xs.length ≤ 1000000) :
    Calls Try.prog 19 #[v, u] w fun e w' => e = .returned (.bool (decide (xs = ys))) ∧ QZ w w' := by
  obtain ⟨ao, cap, rfl, hcap, hx⟩ := h
  obtain ⟨au, cap2, rfl, hcap2, hy⟩ := k
  have HX := Lib.hid hx
  have HY := Lib.hid hy
  clear hx hy
  by_cases hl : xs.length = ys.length
  · obtain ⟨n, hnn⟩ : ∃ n, xs.length = n := ⟨_, rfl⟩
    have hmm := hl.symm.trans hnn
    have HL := Lib.hid hnn
    have HM := Lib.hid hmm
    rw [hnn, hmm]
    rw [hnn] at hn
    clear hl hnn hmm hcap hcap2
    go_enter Try.func19, Try.ntmps19
    go_wp2_with fail
    go_loopw [5] (fun i wr => ∃ k : Nat, k ≤ n ∧ i = .int .i64 k ∧ Hid (∀ j, j < k → xs.getD j 0 = ys.getD j 0) ∧ Hid (QZ w wr)) (fun i _ => n - (intOf i).toNat)
    case atStart => exact ⟨0, by omega, rfl, Lib.hid fun j hj => by omega, Lib.hid (QZ.refl w)⟩
    case round =>
      obtain ⟨k, hk, rfl, H, HQ⟩ := hrel
      by_cases hlt : k < n
      · have hk1 : k < xs.length := by rw [HL.out]; exact hlt
        have hk2 : k < ys.length := by rw [HM.out]; exact hlt
        rcases HX.out with e | ⟨b, o, rfl, hb, hc⟩
        · rw [e] at hk1; simp at hk1
        rcases HY.out with e | ⟨b2, o2, rfl, hb2, hc2⟩
        · rw [e] at hk2; simp at hk2
        have g0 := (HQ.out.below.cell (p := ⟨b, o + k, none⟩) hb).trans (hc k xs[k] (by simp))
        have g1 := (HQ.out.below.cell (p := ⟨b2, o2 + k, none⟩) hb2).trans (hc2 k ys[k] (by simp))
        have h0 := getD_at xs k hk1
        have h1 := getD_at ys k hk2
        obtain ⟨y, hy⟩ : ∃ y, y = xs[k] := ⟨_, rfl⟩
        obtain ⟨z, hz⟩ : ∃ z, z = ys[k] := ⟨_, rfl⟩
        rw [← hy] at g0 h0
        rw [← hz] at g1 h1
        have H0 := Lib.hid h0
        have H1 := Lib.hid h1
        clear h0 h1 hc hc2 hy hz hk1 hk2
        have i0 : (0 : Int) ≤ (k : Int) := by omega
        have i1 : (k : Int) < (n : Int) := by omega
        by_cases he : y = z
        · have ht : (y == z) = true := by rw [he]; simp
          have H2 : Hid (∀ j, j < k + 1 → xs.getD j 0 = ys.getD j 0) := Lib.hid fun j hj => by
            by_cases e : j = k
            · rw [e, H0.out, H1.out]; exact he
            · exact H.out j (by omega)
          clear he
          go_wp2_with fail
          go_quiet (fail)
          go_wp2_with fail
          go_roundw
          case rel => exact ⟨k + 1, by omega, by go_num, H2, Lib.hid (HQ.out.more _)⟩
          case measure => simp [intOf]; omega
        · have ht : (y == z) = false := beq_eq_false_iff_ne.2 he
          have HR := Lib.hid (show decide (xs = ys) = false from decide_eq_false fun e => he (by rw [← H0.out, ← H1.out, e]))
          clear he
          go_wp2_with fail
          go_quiet (fail)
          go_wp2_with fail
          go_ret
          exact ⟨ret_bool HR.out.symm, HQ.out.more _⟩
      · obtain rfl : k = n := by omega
        have HR := Lib.hid (show decide (xs = ys) = true from decide_eq_true (list_ext_getD (by rw [HL.out, HM.out]) (by rw [HL.out]; exact H.out)))
        go_wp2_with fail
        go_ret
        exact ⟨ret_bool HR.out.symm, HQ.out⟩
  · have ht : ((xs.length : Int) == (ys.length : Int)) = false := beq_eq_false_iff_ne.2 (by omega)
    have HR := Lib.hid (show decide (xs = ys) = false from decide_eq_false fun e => hl (by rw [e]))
    go_enter Try.func19, Try.ntmps19
    go_wp2_with fail
    go_ret
    exact ⟨ret_bool HR.out.symm, QZ.refl w⟩
theorem same_b (v u : Value) (xs ys : List Int) (w : World) (h : RowAt (Value.int .i64) w v xs) (k : RowAt (Value.int .i64) w u ys) (hn : xs.length ≤ 1000000) : Calls Try.prog 19 #[v, u] w fun e w' => e = .returned (.bool (decide (xs = ys))) ∧ Below w.heap.size w w' :=
  (same_ref v u xs ys w h k hn).mono fun _ _ ⟨h1, h2⟩ => ⟨h1, h2.below⟩
theorem has_b (v : Value) (xs : List Int) (x : Int) (w : World) (h : RowAt (Value.int .i64) w v xs) (hn : xs.length ≤ 1000000) : Calls Try.prog 18 #[v, .int .i64 x] w fun e w' => e = .returned (.bool (decide (x ∈ xs))) ∧ Below w.heap.size w w' :=
  (has_ref v xs x w h hn).mono fun _ _ ⟨h1, h2⟩ => ⟨h1, h2 ▸ Below.refl _ _⟩
end Go.Proofs.Ytfjnnbhijajhoaa
