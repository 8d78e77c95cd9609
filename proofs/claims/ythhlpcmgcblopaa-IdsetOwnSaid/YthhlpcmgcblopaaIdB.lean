/- Chapter 03: walks of the references, and of Is. -/
import Derived.Test.YthhlpcmgcblopaaIdA
import Derived.Deep.QuietTactic
import Derived.BigQuiet
namespace Go.Proofs.Ythhlpcmgcblopaa
open Go Go.RowKit Cg
theorem intsElem : ElemIs Try.prog 22 3 (.int .i64 0) 1 8 := elemIs_mk Try.underlying22 (by kernel_rfl) rfl (by decide)
def ltZ (x y : Int) : Bool := decide (x < y)
theorem ltZ_ord : Ord ltZ where
  irrefl := fun a => by simp [ltZ]
  trans := fun a b c h1 h2 => by simp [ltZ] at *; omega
  conn := fun a b h1 h2 => by simp [ltZ] at *; omega
theorem leZ_ltZ (a b : Int) : leZ a b = !ltZ b a := by
  unfold leZ ltZ
  by_cases h : a ≤ b
  · rw [decide_eq_true h, decide_eq_false (by omega)]; rfl
  · rw [decide_eq_false h, decide_eq_true (by omega)]; rfl
/-- Each of the first k is greater than the one before it. -/
def Rise (xs : List Int) (k : Nat) : Prop := ∀ j, j < k → 0 < j → xs.getD (j - 1) 0 < xs.getD j 0
instance (xs : List Int) (k : Nat) : Decidable (Rise xs k) := by unfold Rise; infer_instance
def isZ (xs : List Int) : Bool := decide (Rise xs xs.length)
theorem Rise.step {xs : List Int} {k : Nat} (h : Rise xs k) (h2 : xs.getD (k - 1) 0 < xs.getD k 0) : Rise xs (k + 1) := fun j hj h0 => by
  by_cases e : j = k
  · rw [e]; exact h2
  · exact h j (by omega) h0
theorem isZ_true {xs : List Int} (h : Rise xs xs.length) : isZ xs = true := decide_eq_true h
theorem isZ_false {xs : List Int} {k : Nat} (hk : k < xs.length) (h0 : 0 < k) (h : ¬ xs.getD (k - 1) 0 < xs.getD k 0) : isZ xs = false := decide_eq_false fun e => h (e k hk h0)
theorem isZ_si {xs : List Int} (h : SI ltZ xs) : isZ xs = true := isZ_true fun j hj h0 => by
  have := List.pairwise_iff_getElem.1 h (j - 1) j (by omega) hj (by omega)
  rw [List.getD_eq_getElem?_getD, List.getElem?_eq_getElem (by omega), List.getD_eq_getElem?_getD, List.getElem?_eq_getElem hj]
  simpa [ltZ] using this
theorem getD_at (xs : List Int) (k : Nat) (h : k < xs.length) : xs.getD k 0 = xs[k] := by rw [List.getD_eq_getElem?_getD, List.getElem?_eq_getElem h]; rfl
def QZ (w w' : World) : Prop := ∃ n, w' = w.drewN n
theorem QZ.refl (w : World) : QZ w w := ⟨0, rfl⟩
theorem QZ.more {w w' : World} (h : QZ w w') (n : Nat) : QZ w (w'.drewN n) := by
  obtain ⟨m, rfl⟩ := h
  exact ⟨m + n, by simp [World.drewN, Nat.add_assoc]⟩
theorem QZ.below {w w' : World} (h : QZ w w') : Below w.heap.size w w' := by
  obtain ⟨m, rfl⟩ := h
  exact drewN_grow w m
theorem index_ref (v : Value) (xs : List Int) (x : Int) (w : World) (h : RowAt (Value.int .i64) w v xs) (hn : xs.length ≤ 1000000) :
    Calls Try.prog 31 #[v, .int .i64 x] w fun e w' => e = .returned (.int .i64 (Lib.idxOf xs x)) ∧ w = w' := by
  obtain ⟨ao, cap, rfl, hcap, hx⟩ := h
  have HX := Lib.hid hx
  clear hx
  go_enter Try.func31, Try.ntmps31
  go_wp2_with fail
  go_loop [5] (fun i => ∃ k : Nat, k ≤ xs.length ∧ i = .int .i64 k ∧ Hid (∀ j, j < k → xs.getD j 0 ≠ x)) (fun i => xs.length - (intOf i).toNat)
  case atStart => exact ⟨0, by omega, rfl, Lib.hid fun j hj => by omega⟩
  case round =>
    obtain ⟨k, hk, rfl, H⟩ := hrel
    by_cases hlt : k < xs.length
    · rcases HX.out with e | ⟨b, o, rfl, hb, hc⟩
      · rw [e] at hlt; simp at hlt
      have hcell := hc k xs[k] (by simp)
      have hg := getD_at xs k hlt
      obtain ⟨y, hy⟩ : ∃ y, y = xs[k] := ⟨_, rfl⟩
      rw [← hy] at hcell hg
      have HG := Lib.hid hg
      clear hc hy hg
      by_cases he : y = x
      · have ht : (y == x) = true := by rw [he]; simp
        have HR := Lib.hid (Lib.idxOf_hit xs xs.length k x hlt (Nat.le_refl _) (by rw [HG.out]; exact he) H.out)
        rw [List.take_length] at HR
        clear he
        go_wp2_with fail
        go_ret
        exact ⟨ret_int HR.out.symm, rfl⟩
      · have ht : (y == x) = false := beq_eq_false_iff_ne.2 he
        have H2 : Hid (∀ j, j < k + 1 → xs.getD j 0 ≠ x) := Lib.hid fun j hj => by
          by_cases e : j = k
          · rw [e, HG.out]; exact he
          · exact H.out j (by omega)
        clear he H
        go_wp2_with fail
        go_round
        case rel => exact ⟨k + 1, by omega, by go_num, H2⟩
        case measure => simp [intOf]; omega
    · obtain rfl : k = xs.length := by omega
      have HR := Lib.hid (Lib.idxOf_miss xs xs.length x H.out)
      rw [List.take_length] at HR
      go_wp2_with fail
      go_ret
      exact ⟨ret_int HR.out.symm, rfl⟩
theorem idxOf_mem (xs : List Int) (x : Int) : decide (0 ≤ Lib.idxOf xs x) = decide (x ∈ xs) := by
  have h := Lib.idxOf_nonneg_iff xs x
  rw [List.contains_iff_mem] at h
  exact decide_eq_decide.2 (by rw [h])
theorem has_ref (v : Value) (xs : List Int) (x : Int) (w : World) (h : RowAt (Value.int .i64) w v xs) (hn : xs.length ≤ 1000000) :
    Calls Try.prog 28 #[v, .int .i64 x] w fun e w' => e = .returned (.bool (decide (x ∈ xs))) ∧ w = w' := by
  have HM := Lib.hid (idxOf_mem xs x)
  have HC := Lib.hid (index_ref v xs x w h hn)
  clear h
  go_enter Try.func28, Try.ntmps28
  go_wp2_with fail
  refine HC.out.mono ?_
  rintro e w' ⟨rfl, rfl⟩
  obtain ⟨r, hr⟩ : ∃ r, Lib.idxOf xs x = r := ⟨_, rfl⟩
  rw [hr] at HM ⊢
  clear hr
  go_wp2_with fail
  go_ret
  exact ⟨ret_bool HM.out, rfl⟩
set_option maxHeartbeats 400000 in
theorem is_ref (v : Value) (xs : List Int) (w : World) (h : RowAt (Value.int .i64) w v xs) (hn : xs.length ≤ 1000000) :
    Calls Try.prog 18 #[v] w fun e w' => e = .returned (.bool (isZ xs)) ∧ QZ w w' := by
  obtain ⟨ao, cap, rfl, hcap, hx⟩ := h
  have HX := Lib.hid hx
  clear hx
  go_enter Try.func18, Try.ntmps18
  go_wp2_with fail
  go_loopw [3] (fun i wr => ∃ k : Nat, 1 ≤ k ∧ i = .int .i64 k ∧ Hid (k ≤ xs.length ∨ k = 1) ∧ Hid (Rise xs k) ∧ Hid (QZ w wr)) (fun i _ => xs.length - (intOf i).toNat)
  case atStart => exact ⟨1, by omega, rfl, Lib.hid (.inr rfl), Lib.hid fun j hj h0 => by omega, Lib.hid (QZ.refl w)⟩
  case round =>
    obtain ⟨k, hk, rfl, HK, H, HQ⟩ := hrel
    by_cases hlt : k < xs.length
    · rcases HX.out with e | ⟨b, o, rfl, hb, hc⟩
      · rw [e] at hlt; simp at hlt
      have g0 := (HQ.out.below.cell (p := ⟨b, o + k, none⟩) hb).trans (hc k xs[k] (by simp))
      have g1 := (HQ.out.below.cell (p := ⟨b, o + (k - 1), none⟩) hb).trans (hc (k - 1) xs[k - 1] (by simp))
      have h0 := getD_at xs k hlt
      have h1 := getD_at xs (k - 1) (by omega)
      obtain ⟨y, hy⟩ : ∃ y, y = xs[k] := ⟨_, rfl⟩
      obtain ⟨z, hz⟩ : ∃ z, z = xs[k - 1] := ⟨_, rfl⟩
      rw [← hy] at g0 h0
      rw [← hz] at g1 h1
      have H0 := Lib.hid h0
      have H1 := Lib.hid h1
      clear h0 h1 hc hy hz
      obtain ⟨m, rfl⟩ : ∃ m, k = m + 1 := ⟨k - 1, by omega⟩
      rw [show m + 1 - 1 = m by omega] at g1 H1
      have i0 : (0 : Int) ≤ (m : Int) := by omega
      have i1 : (m : Int) < (xs.length : Int) := by omega
      have i2 : ((m : Int) + 1) < (xs.length : Int) := by omega
      by_cases hle : z < y
      · have H2 := Lib.hid (H.out.step (by rw [show m + 1 - 1 = m by omega, H0.out, H1.out]; exact hle))
        go_wp2_with fail
        go_quiet (fail)
        go_wp2_with fail
        go_roundw
        case rel => exact ⟨m + 1 + 1, by omega, by go_num, Lib.hid (.inl (by omega)), H2, Lib.hid (HQ.out.more _)⟩
        case measure => simp [intOf]; omega
      · have HR := Lib.hid (isZ_false hlt hk (by rw [show m + 1 - 1 = m by omega, H0.out, H1.out]; exact hle))
        go_wp2_with fail
        go_quiet (fail)
        go_wp2_with fail
        go_ret
        exact ⟨ret_bool HR.out.symm, HQ.out.more _⟩
    · have HR := Lib.hid (show isZ xs = true from isZ_true fun j hj h0 => H.out j (by omega) h0)
      go_wp2_with fail
      go_ret
      exact ⟨ret_bool HR.out.symm, HQ.out⟩
end Go.Proofs.Ythhlpcmgcblopaa
