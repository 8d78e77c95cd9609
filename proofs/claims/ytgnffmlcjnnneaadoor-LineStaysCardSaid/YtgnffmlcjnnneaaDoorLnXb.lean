/- Chapter 10: AddSub of the program. -/
import Derived.Test.YtgnffmlcjnnneaaDoorLnXa
namespace Go.Proofs.YtgnffmlcjnnneaaDoor
open Go Go.RowKit Go.Sort Cg
/-- The first place whose string is not less. -/
def geIdx (xs : List ByteArray) (s : ByteArray) : Nat := (xs.takeWhile fun x => ltS x s).length
theorem geIdx_le (xs : List ByteArray) (s : ByteArray) : geIdx xs s ≤ xs.length := by unfold geIdx; exact (List.takeWhile_sublist _).length_le
theorem geIdx_cons (x : ByteArray) (xs : List ByteArray) (s : ByteArray) : geIdx (x :: xs) s = if ltS x s = true then geIdx xs s + 1 else 0 := by
  unfold geIdx
  rw [List.takeWhile_cons]
  split <;> simp
theorem geIdx_of : ∀ (xs : List ByteArray) (s : ByteArray) (k : Nat), k ≤ xs.length → (∀ j, j < k → ltS (xs.getD j ByteArray.empty) s = true) → (k < xs.length → ltS (xs.getD k ByteArray.empty) s = false) → geIdx xs s = k
  | [], s, k, h, _, _ => by simp at h; subst h; rfl
  | x :: xs, s, 0, _, _, h2 => by rw [geIdx_cons, if_neg (by have := h2 (by simp); simpa using this)]
  | x :: xs, s, k + 1, h, h1, h2 => by
    rw [geIdx_cons, if_pos (by simpa using h1 0 (by omega)), geIdx_of xs s k (by simpa using h) (fun j hj => by simpa using h1 (j + 1) (by omega)) (fun hk => by simpa using h2 (by simpa using hk))]
def idxRes (xs : List ByteArray) (s : ByteArray) : Int := if geIdx xs s < xs.length then (geIdx xs s : Int) else -1
def addL (xs : List ByteArray) (s : ByteArray) : List ByteArray := if isSub s = true ∧ Lib.containsS xs s = false ∧ xs.length < 4 then insAt xs (geIdx xs s) s else xs
theorem clone_s (v : Value) (xs : List ByteArray) (w : World) (h : RowAt Value.string w v xs) (hn : xs.length ≤ 1000000) :
    Calls Tryd.prog 48 #[v] w fun e w' => ∃ v', e = .returned v' ∧ w'.ownsRow w.heap.size 9 1 v' xs.length (xs.map Value.string) ∧ Below w.heap.size w w' := by
  obtain ⟨ao, cap, rfl, ⟨hc, hnil⟩, hr⟩ := h
  cases ao with
  | none =>
    have hx : xs = [] := List.eq_nil_of_length_eq_zero (by have := hnil rfl; omega)
    subst hx
    refine (Tryd.slices_Clone_string_nil _ _ w).mono ?_
    rintro e w' ⟨rfl, rfl⟩
    exact ⟨_, rfl, World.ownsRow_nil _ _ _ _, Below.refl _ _⟩
  | some ad =>
    by_cases hx : xs = []
    · subst hx
      refine (Tryd.slices_Clone_string_zero ad cap w).mono ?_
      rintro e w' ⟨v', rfl, h1, _, h2⟩
      exact ⟨_, rfl, h1, h2⟩
    · rcases hr with hr | ⟨b, o, hao, _, hcell⟩
      · exact absurd hr hx
      · cases hao
        refine (Tryd.slices_Clone_string b o xs.length cap xs w (Nat.le_refl _) (by omega) (cells_getD ByteArray.empty hcell)).mono ?_
        rintro e w' ⟨v', rfl, h1, _, h2⟩
        rw [List.take_length] at h1
        exact ⟨_, rfl, h1, h2⟩
theorem closure_s (x s : ByteArray) (b : Nat) (w : World) (hc : w.cell? ⟨b, 0, none⟩ = some (.string s)) : Calls Tryd.prog 50 #[.string x, .pointer (some ⟨b, 0, none⟩)] w fun e w' => e = .returned (.bool (!ltS x s)) ∧ w = w' := by
  go_enter Tryd.func50, Tryd.ntmps50
  go_wp2_with fail
  go_ret
  exact ⟨rfl, rfl⟩
set_option maxHeartbeats 1000000 in
theorem indexFunc_s (v : Value) (xs : List ByteArray) (s : ByteArray) (b : Nat) (w : World) (h : RowAt Value.string w v xs) (hn : xs.length ≤ 1000000) (hc : w.cell? ⟨b, 0, none⟩ = some (.string s)) :
    Calls Tryd.prog 49 #[v, .func (.func 50) #[] #[.pointer (some ⟨b, 0, none⟩)]] w fun e w' => e = .returned (.int .i64 (idxRes xs s)) ∧ w = w' := by
  have eg : ∀ args w, (callFunc 50 args).run Tryd.prog w = .ok (.enter 50 args) w := enters_of Tryd.func50 (by kernel_rfl) rfl
  have HC := Lib.hid hc
  obtain ⟨ao, cap, rfl, _, hx⟩ := h
  have HX := Lib.hid hx
  clear hx hc
  go_enter Tryd.func49, Tryd.ntmps49
  go_wp2_with fail
  go_loop [8] (fun i => ∃ k : Nat, k ≤ xs.length ∧ i = .int .i64 k ∧ Hid (∀ j, j < k → ltS (xs.getD j ByteArray.empty) s = true)) (fun i => xs.length - (intOf i).toNat)
  case atStart => exact ⟨0, by omega, rfl, Lib.hid fun j hj => by omega⟩
  case round =>
    obtain ⟨k, hk, rfl, HK⟩ := hrel
    by_cases hlt : k < xs.length
    · rcases HX.out with hh | ⟨g, o, rfl, hg, hcell⟩
      · rw [hh] at hlt; simp at hlt
      have q := cells_getD ByteArray.empty hcell k hlt
      obtain ⟨x, hx⟩ : ∃ x, x = xs.getD k ByteArray.empty := ⟨_, rfl⟩
      rw [← hx] at q
      have HXE := Lib.hid hx
      clear hcell hx
      cases hl : ltS x s
      · have HE := Lib.hid (show idxRes xs s = (k : Int) by rw [idxRes, geIdx_of xs s k hk HK.out (fun _ => by rw [← HXE.out]; exact hl), if_pos hlt])
        have HCL := Lib.hid (closure_s x s b w HC.out)
        rw [hl] at HCL
        clear hl
        go_wp2_with (go_at_fn 50; refine HCL.out.mono ?_; rintro e w' ⟨rfl, rfl⟩)
        go_ret
        exact ⟨by rw [HE.out] <;> rfl, rfl⟩
      · have HCL := Lib.hid (closure_s x s b w HC.out)
        rw [hl] at HCL
        have HL := Lib.hid hl
        clear hl
        go_wp2_with (go_at_fn 50; refine HCL.out.mono ?_; rintro e w' ⟨rfl, rfl⟩)
        go_round
        case rel => exact ⟨k + 1, by omega, by go_num, Lib.hid fun j hj => by
          by_cases e : j = k
          · rw [e, ← HXE.out]; exact HL.out
          · exact HK.out j (by omega)⟩
        case measure => simp [intOf]; omega
    · obtain rfl : k = xs.length := by omega
      have HE := Lib.hid (show idxRes xs s = -1 by rw [idxRes, geIdx_of xs s xs.length hk HK.out (fun h => by omega), if_neg (by omega)])
      go_wp2_with fail
      go_ret
      exact ⟨by rw [HE.out] <;> rfl, rfl⟩
end Go.Proofs.YtgnffmlcjnnneaaDoor
