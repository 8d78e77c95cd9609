/- Walks of chapter 11: Is, Name, Bits, Text, Has (the program's and the reference's). -/
import Derived.Test.YtihnjbbgfjckaaaShelf
import Derived.Test.YtihnjbbgfjckaaaKwA
import Derived.Test.YtihnjbbgfjckaaaSw
import Derived.WalkLawsBesides
import Derived.WalkSpells
import Derived.WalkSmall
namespace Go.Proofs.Ytihnjbbgfjckaaa
open Go Go.RowKit Cg
theorem kis_prog (n : Int) (w : World) : Calls Try.prog 25 #[.int .i64 n] w fun e w' => e = .returned (.bool (okK n)) ∧ w = w' := by
  by_cases h : 0 ≤ n
  · by_cases h2 : n ≤ 131071
    · rw [show okK n = true from (okK_iff n).2 ⟨h, h2⟩]
      go_enter Try.func25, Try.ntmps25
      go_wp2
      go_ret
      exact ⟨rfl, rfl⟩
    · rw [show okK n = false by rw [Bool.eq_false_iff]; exact fun e => h2 ((okK_iff n).1 e).2]
      go_enter Try.func25, Try.ntmps25
      go_wp2
      go_ret
      exact ⟨rfl, rfl⟩
  · rw [show okK n = false by rw [Bool.eq_false_iff]; exact fun e => h ((okK_iff n).1 e).1]
    go_enter Try.func25, Try.ntmps25
    go_wp2
    go_ret
    exact ⟨rfl, rfl⟩
theorem kis_ref (n : Int) (w : World) : Calls Try.prog 26 #[.int .i64 n] w fun e w' => e = .returned (.bool (okK n)) ∧ w = w' := by
  by_cases h : 0 ≤ n
  · by_cases h2 : n ≤ 131071
    · rw [show okK n = true from (okK_iff n).2 ⟨h, h2⟩]
      go_enter Try.func26, Try.ntmps26
      go_wp2
      go_ret
      exact ⟨rfl, rfl⟩
    · rw [show okK n = false by rw [Bool.eq_false_iff]; exact fun e => h2 ((okK_iff n).1 e).2]
      go_enter Try.func26, Try.ntmps26
      go_wp2
      go_ret
      exact ⟨rfl, rfl⟩
  · rw [show okK n = false by rw [Bool.eq_false_iff]; exact fun e => h ((okK_iff n).1 e).1]
    go_enter Try.func26, Try.ntmps26
    go_wp2
    go_ret
    exact ⟨rfl, rfl⟩
theorem cmp_or (a b : ByteArray) (hb : 0 < b.size) (w : World) (g : Nat) (h0 : w.cell? ⟨g, 0, none⟩ = some (.string a)) (h1 : w.cell? ⟨g, 1, none⟩ = some (.string b)) :
    Calls Try.prog 49 #[.slice (some ⟨g, 0, none⟩) 2 2] w fun e w' => e = .returned (.string (if a.size = 0 then b else a)) ∧ w = w' := by
  have eb : b.toList.isEmpty = false := by
    rw [Bool.eq_false_iff, ByteArray.toList_eq]
    intro e
    rw [List.isEmpty_iff] at e
    have h : b.size = 0 := by rw [Lib.size_eq, e]; rfl
    omega
  by_cases ha : a.size = 0
  · have ea : a.toList.isEmpty = true := by
      rw [ByteArray.toList_eq, List.isEmpty_iff]
      have := Lib.size_eq a
      exact List.eq_nil_of_length_eq_zero (by omega)
    rw [if_pos ha]
    clear ha
    go_enter Try.func49, Try.ntmps49
    go_wp2
    refine wp_loop_rounds 2 ?_
    rw [rounds_succ]
    go_wp2
    rw [rounds_succ]
    go_wp2
    go_ret
    exact ⟨rfl, rfl⟩
  · have ea : a.toList.isEmpty = false := by
      rw [Bool.eq_false_iff, ByteArray.toList_eq]
      intro e
      rw [List.isEmpty_iff] at e
      exact ha (by rw [Lib.size_eq, e]; rfl)
    rw [if_neg ha]
    clear ha
    go_enter Try.func49, Try.ntmps49
    go_wp2
    refine wp_loop_rounds 1 ?_
    rw [rounds_succ]
    go_wp2
    go_ret
    exact ⟨rfl, rfl⟩
theorem two_cells (w : World) (a b : Value) (t : TypeId) : (w.alloc (.cells #[a, b] t)).cell? ⟨w.heap.size, 0, none⟩ = some a ∧ (w.alloc (.cells #[a, b] t)).cell? ⟨w.heap.size, 1, none⟩ = some b := by
  rw [cell_of_row _ _ 0 _ t (0, 0) (heap_alloc_new w _), cell_of_row _ _ 1 _ t (0, 0) (heap_alloc_new w _)]
  exact ⟨rfl, rfl⟩
theorem kname_0 (w : World) : Calls Try.prog 27 #[.int .i64 0] w fun e w' => e = .returned (.string (kn 0)) ∧ Below w.heap.size w w' := by
  go_enter Try.func27, Try.ntmps27
  repeat (first | (with_reducible refine x_in_eq ?_) | ((with_reducible refine x_in_ne ?_ ?_); rfl) | (with_reducible refine x_then_exit ?_) | (with_reducible refine x_in_ret ?_) | (with_reducible refine x_then_ret ?_) | (with_reducible refine x_in_normal ?_) | (with_reducible refine x_then_normal ?_) | go_values | go_skip | go_guarded |  go_step)
  go_ret
  exact ⟨rfl, Below.refl _ _⟩
theorem kname_1 (w : World) : Calls Try.prog 27 #[.int .i64 1] w fun e w' => e = .returned (.string (kn 1)) ∧ Below w.heap.size w w' := by
  go_enter Try.func27, Try.ntmps27
  repeat (first | (with_reducible refine x_in_eq ?_) | ((with_reducible refine x_in_ne ?_ ?_); rfl) | (with_reducible refine x_then_exit ?_) | (with_reducible refine x_in_ret ?_) | (with_reducible refine x_then_ret ?_) | (with_reducible refine x_in_normal ?_) | (with_reducible refine x_then_normal ?_) | go_values | go_skip | go_guarded |  go_step)
  go_ret
  exact ⟨rfl, Below.refl _ _⟩
theorem kname_2 (w : World) : Calls Try.prog 27 #[.int .i64 2] w fun e w' => e = .returned (.string (kn 2)) ∧ Below w.heap.size w w' := by
  go_enter Try.func27, Try.ntmps27
  repeat (first | (with_reducible refine x_in_eq ?_) | ((with_reducible refine x_in_ne ?_ ?_); rfl) | (with_reducible refine x_then_exit ?_) | (with_reducible refine x_in_ret ?_) | (with_reducible refine x_then_ret ?_) | (with_reducible refine x_in_normal ?_) | (with_reducible refine x_then_normal ?_) | go_values | go_skip | go_guarded |  go_step)
  go_ret
  exact ⟨rfl, Below.refl _ _⟩
theorem kname_3 (w : World) : Calls Try.prog 27 #[.int .i64 3] w fun e w' => e = .returned (.string (kn 3)) ∧ Below w.heap.size w w' := by
  go_enter Try.func27, Try.ntmps27
  repeat (first | (with_reducible refine x_in_eq ?_) | ((with_reducible refine x_in_ne ?_ ?_); rfl) | (with_reducible refine x_then_exit ?_) | (with_reducible refine x_in_ret ?_) | (with_reducible refine x_then_ret ?_) | (with_reducible refine x_in_normal ?_) | (with_reducible refine x_then_normal ?_) | go_values | go_skip | go_guarded |  go_step)
  go_ret
  exact ⟨rfl, Below.refl _ _⟩
theorem kname_4 (w : World) : Calls Try.prog 27 #[.int .i64 4] w fun e w' => e = .returned (.string (kn 4)) ∧ Below w.heap.size w w' := by
  go_enter Try.func27, Try.ntmps27
  repeat (first | (with_reducible refine x_in_eq ?_) | ((with_reducible refine x_in_ne ?_ ?_); rfl) | (with_reducible refine x_then_exit ?_) | (with_reducible refine x_in_ret ?_) | (with_reducible refine x_then_ret ?_) | (with_reducible refine x_in_normal ?_) | (with_reducible refine x_then_normal ?_) | go_values | go_skip | go_guarded |  go_step)
  go_ret
  exact ⟨rfl, Below.refl _ _⟩
theorem kname_5 (w : World) : Calls Try.prog 27 #[.int .i64 5] w fun e w' => e = .returned (.string (kn 5)) ∧ Below w.heap.size w w' := by
  obtain ⟨c0, c1⟩ := two_cells w (.string ⟨#[102, 105, 114, 115, 116]⟩) (.string ⟨#[100, 111, 117, 98, 108, 101]⟩) 9
  go_enter Try.func27, Try.ntmps27
  repeat (first | (with_reducible refine x_in_eq ?_) | ((with_reducible refine x_in_ne ?_ ?_); rfl) | (with_reducible refine x_then_exit ?_) | (with_reducible refine x_in_ret ?_) | (with_reducible refine x_then_ret ?_) | (with_reducible refine x_in_normal ?_) | (with_reducible refine x_then_normal ?_) | go_values | go_skip | go_guarded | (go_at_call 49; refine (cmp_or ⟨#[102, 105, 114, 115, 116]⟩ ⟨#[100, 111, 117, 98, 108, 101]⟩ (by decide) _ _ c0 c1).mono ?_; rintro e w' ⟨rfl, rfl⟩; rw [show (if (ByteArray.mk #[102, 105, 114, 115, 116]).size = 0 then (⟨#[100, 111, 117, 98, 108, 101]⟩ : ByteArray) else ⟨#[102, 105, 114, 115, 116]⟩) = ⟨#[102, 105, 114, 115, 116]⟩ from by decide]; dsimp only) | go_step)
  go_ret
  exact ⟨rfl, (Below.refl _ _).alloc (Nat.le_refl _) _⟩
theorem kname_6 (w : World) : Calls Try.prog 27 #[.int .i64 6] w fun e w' => e = .returned (.string (kn 6)) ∧ Below w.heap.size w w' := by
  obtain ⟨c0, c1⟩ := two_cells w (.string ⟨#[]⟩) (.string ⟨#[100, 111, 117, 98, 108, 101]⟩) 9
  go_enter Try.func27, Try.ntmps27
  repeat (first | (with_reducible refine x_in_eq ?_) | ((with_reducible refine x_in_ne ?_ ?_); rfl) | (with_reducible refine x_then_exit ?_) | (with_reducible refine x_in_ret ?_) | (with_reducible refine x_then_ret ?_) | (with_reducible refine x_in_normal ?_) | (with_reducible refine x_then_normal ?_) | go_values | go_skip | go_guarded | (go_at_call 49; refine (cmp_or ⟨#[]⟩ ⟨#[100, 111, 117, 98, 108, 101]⟩ (by decide) _ _ c0 c1).mono ?_; rintro e w' ⟨rfl, rfl⟩; rw [show (if (ByteArray.mk #[]).size = 0 then (⟨#[100, 111, 117, 98, 108, 101]⟩ : ByteArray) else ⟨#[]⟩) = ⟨#[100, 111, 117, 98, 108, 101]⟩ from by decide]; dsimp only) | go_step)
  go_ret
  exact ⟨rfl, (Below.refl _ _).alloc (Nat.le_refl _) _⟩
theorem kname_7 (w : World) : Calls Try.prog 27 #[.int .i64 7] w fun e w' => e = .returned (.string (kn 7)) ∧ Below w.heap.size w w' := by
  go_enter Try.func27, Try.ntmps27
  repeat (first | (with_reducible refine x_in_eq ?_) | ((with_reducible refine x_in_ne ?_ ?_); rfl) | (with_reducible refine x_then_exit ?_) | (with_reducible refine x_in_ret ?_) | (with_reducible refine x_then_ret ?_) | (with_reducible refine x_in_normal ?_) | (with_reducible refine x_then_normal ?_) | go_values | go_skip | go_guarded |  go_step)
  go_ret
  exact ⟨rfl, Below.refl _ _⟩
theorem kname_8 (w : World) : Calls Try.prog 27 #[.int .i64 8] w fun e w' => e = .returned (.string (kn 8)) ∧ Below w.heap.size w w' := by
  go_enter Try.func27, Try.ntmps27
  repeat (first | (with_reducible refine x_in_eq ?_) | ((with_reducible refine x_in_ne ?_ ?_); rfl) | (with_reducible refine x_then_exit ?_) | (with_reducible refine x_in_ret ?_) | (with_reducible refine x_then_ret ?_) | (with_reducible refine x_in_normal ?_) | (with_reducible refine x_then_normal ?_) | go_values | go_skip | go_guarded |  go_step)
  go_ret
  exact ⟨rfl, Below.refl _ _⟩
theorem kname_9 (w : World) : Calls Try.prog 27 #[.int .i64 9] w fun e w' => e = .returned (.string (kn 9)) ∧ Below w.heap.size w w' := by
  go_enter Try.func27, Try.ntmps27
  repeat (first | (with_reducible refine x_in_eq ?_) | ((with_reducible refine x_in_ne ?_ ?_); rfl) | (with_reducible refine x_then_exit ?_) | (with_reducible refine x_in_ret ?_) | (with_reducible refine x_then_ret ?_) | (with_reducible refine x_in_normal ?_) | (with_reducible refine x_then_normal ?_) | go_values | go_skip | go_guarded |  go_step)
  go_ret
  exact ⟨rfl, Below.refl _ _⟩
theorem kname_10 (w : World) : Calls Try.prog 27 #[.int .i64 10] w fun e w' => e = .returned (.string (kn 10)) ∧ Below w.heap.size w w' := by
  go_enter Try.func27, Try.ntmps27
  repeat (first | (with_reducible refine x_in_eq ?_) | ((with_reducible refine x_in_ne ?_ ?_); rfl) | (with_reducible refine x_then_exit ?_) | (with_reducible refine x_in_ret ?_) | (with_reducible refine x_then_ret ?_) | (with_reducible refine x_in_normal ?_) | (with_reducible refine x_then_normal ?_) | go_values | go_skip | go_guarded |  go_step)
  go_ret
  exact ⟨rfl, Below.refl _ _⟩
theorem kname_11 (w : World) : Calls Try.prog 27 #[.int .i64 11] w fun e w' => e = .returned (.string (kn 11)) ∧ Below w.heap.size w w' := by
  go_enter Try.func27, Try.ntmps27
  repeat (first | (with_reducible refine x_in_eq ?_) | ((with_reducible refine x_in_ne ?_ ?_); rfl) | (with_reducible refine x_then_exit ?_) | (with_reducible refine x_in_ret ?_) | (with_reducible refine x_then_ret ?_) | (with_reducible refine x_in_normal ?_) | (with_reducible refine x_then_normal ?_) | go_values | go_skip | go_guarded |  go_step)
  go_ret
  exact ⟨rfl, Below.refl _ _⟩
theorem kname_12 (w : World) : Calls Try.prog 27 #[.int .i64 12] w fun e w' => e = .returned (.string (kn 12)) ∧ Below w.heap.size w w' := by
  go_enter Try.func27, Try.ntmps27
  repeat (first | (with_reducible refine x_in_eq ?_) | ((with_reducible refine x_in_ne ?_ ?_); rfl) | (with_reducible refine x_then_exit ?_) | (with_reducible refine x_in_ret ?_) | (with_reducible refine x_then_ret ?_) | (with_reducible refine x_in_normal ?_) | (with_reducible refine x_then_normal ?_) | go_values | go_skip | go_guarded |  go_step)
  go_ret
  exact ⟨rfl, Below.refl _ _⟩
theorem kname_13 (w : World) : Calls Try.prog 27 #[.int .i64 13] w fun e w' => e = .returned (.string (kn 13)) ∧ Below w.heap.size w w' := by
  go_enter Try.func27, Try.ntmps27
  repeat (first | (with_reducible refine x_in_eq ?_) | ((with_reducible refine x_in_ne ?_ ?_); rfl) | (with_reducible refine x_then_exit ?_) | (with_reducible refine x_in_ret ?_) | (with_reducible refine x_then_ret ?_) | (with_reducible refine x_in_normal ?_) | (with_reducible refine x_then_normal ?_) | go_values | go_skip | go_guarded |  go_step)
  go_ret
  exact ⟨rfl, Below.refl _ _⟩
theorem kname_14 (w : World) : Calls Try.prog 27 #[.int .i64 14] w fun e w' => e = .returned (.string (kn 14)) ∧ Below w.heap.size w w' := by
  obtain ⟨c0, c1⟩ := two_cells w (.string ⟨#[110, 111]⟩) (.string ⟨#[109, 117, 115, 116]⟩) 9
  go_enter Try.func27, Try.ntmps27
  repeat (first | (with_reducible refine x_in_eq ?_) | ((with_reducible refine x_in_ne ?_ ?_); rfl) | (with_reducible refine x_then_exit ?_) | (with_reducible refine x_in_ret ?_) | (with_reducible refine x_then_ret ?_) | (with_reducible refine x_in_normal ?_) | (with_reducible refine x_then_normal ?_) | go_values | go_skip | go_guarded | (go_at_call 49; refine (cmp_or ⟨#[110, 111]⟩ ⟨#[109, 117, 115, 116]⟩ (by decide) _ _ c0 c1).mono ?_; rintro e w' ⟨rfl, rfl⟩; rw [show (if (ByteArray.mk #[110, 111]).size = 0 then (⟨#[109, 117, 115, 116]⟩ : ByteArray) else ⟨#[110, 111]⟩) = ⟨#[110, 111]⟩ from by decide]; dsimp only) | go_step)
  go_ret
  exact ⟨rfl, (Below.refl _ _).alloc (Nat.le_refl _) _⟩
theorem kname_15 (w : World) : Calls Try.prog 27 #[.int .i64 15] w fun e w' => e = .returned (.string (kn 15)) ∧ Below w.heap.size w w' := by
  go_enter Try.func27, Try.ntmps27
  repeat (first | (with_reducible refine x_in_eq ?_) | ((with_reducible refine x_in_ne ?_ ?_); rfl) | (with_reducible refine x_then_exit ?_) | (with_reducible refine x_in_ret ?_) | (with_reducible refine x_then_ret ?_) | (with_reducible refine x_in_normal ?_) | (with_reducible refine x_then_normal ?_) | go_values | go_skip | go_guarded |  go_step)
  go_ret
  exact ⟨rfl, Below.refl _ _⟩
theorem kname_16 (w : World) : Calls Try.prog 27 #[.int .i64 16] w fun e w' => e = .returned (.string (kn 16)) ∧ Below w.heap.size w w' := by
  obtain ⟨c0, c1⟩ := two_cells w (.string ⟨#[]⟩) (.string ⟨#[109, 117, 115, 116]⟩) 9
  go_enter Try.func27, Try.ntmps27
  repeat (first | (with_reducible refine x_in_eq ?_) | ((with_reducible refine x_in_ne ?_ ?_); rfl) | (with_reducible refine x_then_exit ?_) | (with_reducible refine x_in_ret ?_) | (with_reducible refine x_then_ret ?_) | (with_reducible refine x_in_normal ?_) | (with_reducible refine x_then_normal ?_) | go_values | go_skip | go_guarded | (go_at_call 49; refine (cmp_or ⟨#[]⟩ ⟨#[109, 117, 115, 116]⟩ (by decide) _ _ c0 c1).mono ?_; rintro e w' ⟨rfl, rfl⟩; rw [show (if (ByteArray.mk #[]).size = 0 then (⟨#[109, 117, 115, 116]⟩ : ByteArray) else ⟨#[]⟩) = ⟨#[109, 117, 115, 116]⟩ from by decide]; dsimp only) | go_step)
  go_ret
  exact ⟨rfl, (Below.refl _ _).alloc (Nat.le_refl _) _⟩
theorem kname_prog (n : Int) (w : World) : Calls Try.prog 27 #[.int .i64 n] w fun e w' => e = .returned (.string (knI n)) ∧ Below w.heap.size w w' := by
  by_cases h0 : n < 0
  · rw [knI_out n (.inl h0)]
    go_enter Try.func27, Try.ntmps27
    repeat (first | (with_reducible refine x_in_eq ?_) | ((with_reducible refine x_in_ne ?_ ?_); rfl) | (with_reducible refine x_then_exit ?_) | (with_reducible refine x_in_ret ?_) | (with_reducible refine x_then_ret ?_) | (with_reducible refine x_in_normal ?_) | (with_reducible refine x_then_normal ?_) | go_values | go_skip | go_guarded |  go_step)
    go_ret
    exact ⟨rfl, Below.refl _ _⟩
  by_cases h17 : 17 ≤ n
  · rw [knI_out n (.inr h17)]
    go_enter Try.func27, Try.ntmps27
    repeat (first | (with_reducible refine x_in_eq ?_) | ((with_reducible refine x_in_ne ?_ ?_); rfl) | (with_reducible refine x_then_exit ?_) | (with_reducible refine x_in_ret ?_) | (with_reducible refine x_then_ret ?_) | (with_reducible refine x_in_normal ?_) | (with_reducible refine x_then_normal ?_) | go_values | go_skip | go_guarded |  go_step)
    go_ret
    exact ⟨rfl, Below.refl _ _⟩
  rcases (show n = 0 ∨ n = 1 ∨ n = 2 ∨ n = 3 ∨ n = 4 ∨ n = 5 ∨ n = 6 ∨ n = 7 ∨ n = 8 ∨ n = 9 ∨ n = 10 ∨ n = 11 ∨ n = 12 ∨ n = 13 ∨ n = 14 ∨ n = 15 ∨ n = 16 by omega) with rfl | rfl | rfl | rfl | rfl | rfl | rfl | rfl | rfl | rfl | rfl | rfl | rfl | rfl | rfl | rfl | rfl
  · exact kname_0 w
  · exact kname_1 w
  · exact kname_2 w
  · exact kname_3 w
  · exact kname_4 w
  · exact kname_5 w
  · exact kname_6 w
  · exact kname_7 w
  · exact kname_8 w
  · exact kname_9 w
  · exact kname_10 w
  · exact kname_11 w
  · exact kname_12 w
  · exact kname_13 w
  · exact kname_14 w
  · exact kname_15 w
  · exact kname_16 w
theorem names_cells (w : World) (t : TypeId) : ∀ k, k < 17 → (w.alloc (.cells #[.string ⟨#[102, 108, 121, 105, 110, 103]⟩, .string ⟨#[114, 101, 97, 99, 104]⟩, .string ⟨#[104, 97, 115, 116, 101]⟩, .string ⟨#[118, 105, 103, 105, 108, 97, 110, 116]⟩, .string ⟨#[116, 114, 97, 109, 112, 108, 101]⟩, .string ⟨#[102, 105, 114, 115, 116, 45, 115, 116, 114, 105, 107, 101]⟩, .string ⟨#[100, 111, 117, 98, 108, 101, 45, 115, 116, 114, 105, 107, 101]⟩, .string ⟨#[100, 101, 97, 100, 108, 121]⟩, .string ⟨#[108, 105, 102, 101, 108, 105, 110, 107]⟩, .string ⟨#[109, 101, 110, 97, 99, 101]⟩, .string ⟨#[100, 101, 102, 101, 110, 100, 101, 114]⟩, .string ⟨#[119, 97, 114, 100, 101, 100]⟩, .string ⟨#[115, 116, 117, 114, 100, 121]⟩, .string ⟨#[101, 108, 117, 115, 105, 118, 101]⟩, .string ⟨#[110, 111, 45, 97, 116, 116, 97, 99, 107]⟩, .string ⟨#[110, 111, 45, 98, 108, 111, 99, 107]⟩, .string ⟨#[109, 117, 115, 116, 45, 97, 116, 116, 97, 99, 107]⟩] t)).cell? ⟨w.heap.size, k, none⟩ = some (.string (kn k)) := by
  intro k hk
  rw [cell_of_row _ _ k _ t (0, 0) (heap_alloc_new w _)]
  rcases (show k = 0 ∨ k = 1 ∨ k = 2 ∨ k = 3 ∨ k = 4 ∨ k = 5 ∨ k = 6 ∨ k = 7 ∨ k = 8 ∨ k = 9 ∨ k = 10 ∨ k = 11 ∨ k = 12 ∨ k = 13 ∨ k = 14 ∨ k = 15 ∨ k = 16 by omega) with rfl | rfl | rfl | rfl | rfl | rfl | rfl | rfl | rfl | rfl | rfl | rfl | rfl | rfl | rfl | rfl | rfl
  all_goals rfl
theorem names_ref (w : World) : Calls Try.prog 50 #[] w fun e w' => e = .returned (.slice (some ⟨w.heap.size, 0, none⟩) 17 17) ∧ Below w.heap.size w w' ∧ ∀ k, k < 17 → w'.cell? ⟨w.heap.size, k, none⟩ = some (.string (kn k)) := by
  have HC := Lib.hid (names_cells w 9)
  go_enter Try.func50, Try.ntmps50
  go_wp2
  go_ret
  exact ⟨rfl, (Below.refl _ _).alloc (Nat.le_refl _) _, HC.out⟩
theorem kname_ref (n : Int) (w : World) : Calls Try.prog 28 #[.int .i64 n] w fun e w' => e = .returned (.string (knI n)) ∧ Below w.heap.size w w' := by
  by_cases h0 : n < 0
  · rw [knI_out n (.inl h0)]
    go_enter Try.func28, Try.ntmps28
    go_wp2
    go_ret
    exact ⟨rfl, Below.refl _ _⟩
  by_cases h17 : 17 ≤ n
  · rw [knI_out n (.inr h17)]
    go_enter Try.func28, Try.ntmps28
    go_wp2
    go_ret
    exact ⟨rfl, Below.refl _ _⟩
  obtain ⟨k, rfl⟩ := Int.eq_ofNat_of_zero_le (show 0 ≤ n by omega)
  rw [knI_nat]
  have hk : k < 17 := by omega
  have i0 : (0 : Int) ≤ (k : Int) := by omega
  have i1 : (k : Int) < 17 := by omega
  clear h0 h17
  go_enter Try.func28, Try.ntmps28
  go_wp2_with fail
  refine (names_ref _).mono ?_
  rintro e w1 ⟨rfl, b1, hc⟩
  have c := hc k hk
  clear hc
  go_wp2
  go_ret
  exact ⟨rfl, b1⟩
theorem khas_prog (m k : Int) (w : World) : Calls Try.prog 34 #[.int .i64 m, .int .i64 k] w fun e w' => e = .returned (.bool (bits .and .i64 m k == k)) ∧ w = w' := by
  go_enter Try.func34, Try.ntmps34
  go_wp2
  go_ret
  exact ⟨rfl, rfl⟩
theorem khas_ref (m k : Int) (w : World) : Calls Try.prog 35 #[.int .i64 m, .int .i64 k] w fun e w' => e = .returned (.bool (bits .and .i64 m k == k)) ∧ w = w' := by
  go_enter Try.func35, Try.ntmps35
  go_wp2
  go_ret
  exact ⟨rfl, rfl⟩
end Go.Proofs.Ytihnjbbgfjckaaa
