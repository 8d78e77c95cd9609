/- Walks of chapter 10: the reference's IsSub and joined; combines; words. -/
import Derived.Test.YtgnffmlcjnnneaaDoorLnC
import Derived.Lib.Join
namespace Go.Proofs.YtgnffmlcjnnneaaDoor
open Go Go.RowKit Cg
theorem idxS_eq (s : ByteArray) : decide (Lib.idxOfS supers s < 0) = decide (bitW superN s 2 = 0) := idx_superN s
theorem idxT_eq (s : ByteArray) : decide (Lib.idxOfS types s < 0) = decide (bitW typeN s 6 = 0) := idx_typeN s
theorem isSub_ref (s : ByteArray) (w : World) : Calls Tryd.prog 26 #[.string s] w fun e w' => e = .returned (.bool (isSub s)) ∧ Below w.heap.size w w' := by
  have HI := Lib.hid (isr_any s w)
  cases hw : isW s
  · have HR := Lib.hid (show isSub s = false by rw [isSub, hw]; rfl)
    rw [hw] at HI
    clear hw
    go_enter Tryd.func26, Tryd.ntmps26
    go_wp2_with fail
    refine HI.out.mono ?_
    rintro e w1 ⟨rfl, b1⟩
    go_wp2_with fail
    go_ret
    exact ⟨ret_bool HR.out.symm, b1⟩
  · rw [hw] at HI
    obtain ⟨p, hp⟩ : ∃ p, Lib.idxOfS supers s = p := ⟨_, rfl⟩
    obtain ⟨q, hq⟩ : ∃ q, Lib.idxOfS types s = q := ⟨_, rfl⟩
    have e1 := idxS_eq s
    have e2 := idxT_eq s
    rw [hp] at e1
    rw [hq] at e2
    have HP := Lib.hid hp
    have HQ := Lib.hid hq
    cases h1 : decide (bitW superN s 2 = 0)
    · have HR := Lib.hid (show isSub s = false by rw [isSub, hw, h1]; rfl)
      rw [h1] at e1
      have t1 : ¬ p < 0 := of_decide_eq_false e1
      clear hw h1 e1 e2 hp hq
      go_enter Tryd.func26, Tryd.ntmps26
      go_wp2_with fail
      refine HI.out.mono ?_
      rintro e w1 ⟨rfl, b1⟩
      go_wp2_with fail
      refine (superWords_ref _).mono ?_
      rintro e w2 ⟨v2, rfl, r2, b2⟩
      have B2 := Lib.hid (b1.trans (b2.mono b1.size))
      have R2 := Lib.hid r2
      clear r2 b1 b2
      go_wp2_with fail
      refine (index_ref v2 supers s _ R2.out (by decide)).mono ?_
      rintro e w3 ⟨rfl, rfl⟩
      rw [HP.out]
      go_wp2_with fail
      go_ret
      exact ⟨ret_bool HR.out.symm, B2.out⟩
    · rw [h1] at e1
      have t1 : p < 0 := of_decide_eq_true e1
      have HR := Lib.hid (show isSub s = decide (q < 0) by rw [isSub, hw, h1, e2]; rfl)
      clear hw h1 e1 e2 hp hq
      go_enter Tryd.func26, Tryd.ntmps26
      go_wp2_with fail
      refine HI.out.mono ?_
      rintro e w1 ⟨rfl, b1⟩
      go_wp2_with fail
      refine (superWords_ref _).mono ?_
      rintro e w2 ⟨v2, rfl, r2, b2⟩
      have B2 := Lib.hid (b1.trans (b2.mono b1.size))
      have R2 := Lib.hid r2
      clear r2 b1 b2
      go_wp2_with fail
      refine (index_ref v2 supers s _ R2.out (by decide)).mono ?_
      rintro e w3 ⟨rfl, rfl⟩
      rw [HP.out]
      go_wp2_with fail
      refine (typeWords_ref _).mono ?_
      rintro e w4 ⟨v4, rfl, r4, b4⟩
      have B4 := Lib.hid (B2.out.trans (b4.mono B2.out.size))
      have R4 := Lib.hid r4
      clear r4 b4
      go_wp2_with fail
      refine (index_ref v4 types s _ R4.out (by decide)).mono ?_
      rintro e w5 ⟨rfl, rfl⟩
      rw [HQ.out]
      go_wp2_with fail
      go_ret
      exact ⟨ret_bool HR.out.symm, B4.out⟩
theorem joinTail_snoc (sep : List UInt8) (r : List (List UInt8)) (x : List UInt8) : Lib.joinTail sep (r ++ [x]) = Lib.joinTail sep r ++ (sep ++ x) := by simp [Lib.joinTail]
def jo (xs : List ByteArray) (by_ : ByteArray) : ByteArray := ⟨(Lib.join (xs.map (·.data.toList)) by_.data.toList).toArray⟩
theorem jo_data (xs : List ByteArray) (by_ : ByteArray) : (jo xs by_).data.toList = Lib.join (xs.map (·.data.toList)) by_.data.toList := by simp [jo]
theorem jo_one (by_ x : ByteArray) : jo [x] by_ = ⟨#[]⟩ ++ x := by
  apply bytes_ext
  rw [jo_data]
  simp [Lib.join_one]
theorem jo_more (xs : List ByteArray) (by_ x : ByteArray) (h : ¬ xs = []) : jo (xs ++ [x]) by_ = jo xs by_ ++ by_ ++ x := by
  apply bytes_ext
  have hd := jo_data xs by_
  rw [jo_data]
  obtain ⟨a, r, rfl⟩ := List.exists_cons_of_ne_nil h
  rw [List.map_append, List.map_cons, List.map_cons, List.map_nil, List.cons_append, Lib.join_cons, joinTail_snoc]
  rw [List.map_cons, Lib.join_cons] at hd
  simp only [ByteArray.data_append, Array.toList_append, hd, List.append_assoc]
theorem joinTail_len (sep : List UInt8) (hs : sep.length ≤ 100) : ∀ (r : List (List UInt8)), (∀ x ∈ r, x.length ≤ 100) → (Lib.joinTail sep r).length ≤ 200 * r.length
  | [], _ => by simp [Lib.joinTail]
  | x :: r, h => by
    have ih := joinTail_len sep hs r (fun y hy => h y (by simp [hy]))
    have hx := h x (by simp)
    have e : Lib.joinTail sep (x :: r) = (sep ++ x) ++ Lib.joinTail sep r := by simp [Lib.joinTail]
    rw [e, List.length_append, List.length_append, List.length_cons]
    omega
theorem jo_size (xs : List ByteArray) (by_ : ByteArray) (hb : by_.size ≤ 100) (hx : ∀ x ∈ xs, x.size ≤ 100) : (jo xs by_).size ≤ 200 * xs.length := by
  rw [Lib.size_eq, jo_data]
  cases xs with
  | nil => exact Nat.zero_le _
  | cons a r =>
    have h1 := joinTail_len by_.data.toList (by rw [← Lib.size_eq]; exact hb) (r.map (·.data.toList)) (fun x hm => by
      obtain ⟨y, hy, rfl⟩ := List.mem_map.1 hm
      rw [← Lib.size_eq]; exact hx y (by simp [hy]))
    have h2 := hx a (by simp)
    rw [Lib.size_eq] at h2
    rw [List.map_cons, Lib.join_cons, List.length_append, List.length_cons]
    rw [List.length_map] at h1
    omega
theorem jo_empty (xs : List ByteArray) (by_ : ByteArray) (hx : ∀ x ∈ xs, 0 < x.size) : (jo xs by_).toList.isEmpty = true ↔ xs = [] := by
  rw [ByteArray.toList_eq, jo_data, List.isEmpty_iff]
  constructor
  · intro h
    cases xs with
    | nil => rfl
    | cons a r =>
      rw [List.map_cons, Lib.join_cons] at h
      have h1 := hx a (by simp)
      rw [Lib.size_eq] at h1
      have := congrArg List.length h
      rw [List.length_append, List.length_nil] at this
      omega
  · rintro rfl; rfl
end Go.Proofs.YtgnffmlcjnnneaaDoor
