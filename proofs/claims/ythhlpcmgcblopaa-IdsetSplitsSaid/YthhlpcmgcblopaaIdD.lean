/- Chapter 03: walks of the program's functions. -/
import Derived.Test.YthhlpcmgcblopaaIdC
import Derived.Lib.AppendZeros
namespace Go.Proofs.Ythhlpcmgcblopaa
open Go Go.RowKit Go.Sort Cg
def osort (xs : List Int) : List Int := Lib.compact (xs.mergeSort leZ)
theorem osort_si (xs : List Int) : SI ltZ (osort xs) ∧ ∀ x, x ∈ osort xs ↔ x ∈ xs := sort_compact_si ltZ_ord leZ leZ_ltZ xs
theorem osort_len (xs : List Int) : (osort xs).length ≤ xs.length := by
  have h := Lib.compact_length_le (xs.mergeSort leZ)
  rw [List.length_mergeSort] at h
  exact h
/-- The program's set is the references'. -/
theorem osort_ins (xs : List Int) : osort xs = insAll ltZ [] xs :=
  (osort_si xs).1.ext ltZ_ord (insAll_si ltZ_ord xs List.Pairwise.nil) fun x => by rw [(osort_si xs).2, mem_insAll]; simp
theorem distinct_prog (v : Value) (xs : List Int) (w : World) (h : RowAt (Value.int .i64) w v xs) (hn : xs.length ≤ 1000000) :
    Calls Try.prog 44 #[v] w fun e w' => ∃ v', e = .returned v' ∧ w'.ownsRow w.heap.size 3 1 v' (osort xs).length ((osort xs).map (Value.int .i64)) ∧ Below w.heap.size w w' := by
  have H := Lib.hid h
  clear h
  go_enter Try.func44, Try.ntmps44
  go_wp2_with fail
  refine (clone_i v xs _ H.out hn).mono ?_
  rintro e w1 ⟨v1, rfl, o1, b1⟩
  go_wp2_with fail
  refine (sort_i w.heap.size v1 xs _ o1 b1.size hn).mono ?_
  rintro e w2 ⟨rfl, o2, b2⟩
  go_wp2_with fail
  have hl : (xs.mergeSort leZ).length = xs.length := List.length_mergeSort xs
  rw [← hl] at o2
  refine (compact_i w.heap.size v1 (xs.mergeSort leZ) _ o2 (by omega)).mono ?_
  rintro e w3 ⟨v3, rfl, o3, b3⟩
  go_wp2_with fail
  go_ret
  exact ⟨_, rfl, o3, (b1.trans b2).trans b3⟩
theorem of_prog (v : Value) (xs : List Int) (w : World) (h : RowAt (Value.int .i64) w v xs) (hn : xs.length ≤ 1000000) :
    Calls Try.prog 20 #[v] w fun e w' => ∃ v', e = .returned v' ∧ w'.ownsRow w.heap.size 3 1 v' (osort xs).length ((osort xs).map (Value.int .i64)) ∧ Below w.heap.size w w' := by
  have H := Lib.hid h
  clear h
  go_enter Try.func20, Try.ntmps20
  go_wp2_with fail
  refine (distinct_prog v xs _ H.out hn).mono ?_
  rintro e w1 ⟨v1, rfl, o1, b1⟩
  go_wp2_with fail
  go_ret
  exact ⟨_, rfl, o1, b1⟩
theorem has_prog (v : Value) (xs : List Int) (x : Int) (w : World) (h : RowAt (Value.int .i64) w v xs) (hn : xs.length ≤ 1000000) :
    Calls Try.prog 29 #[v, .int .i64 x] w fun e w' => e = .returned (.bool (decide (x ∈ xs))) ∧ w = w' := by
  have H := Lib.hid h
  clear h
  obtain ⟨r, hr⟩ : ∃ r, decide (x ∈ xs) = r := ⟨_, rfl⟩
  have HR := Lib.hid hr
  rw [hr]
  clear hr
  go_enter Try.func29, Try.ntmps29
  go_wp2_with fail
  refine (contains_i v xs x _ H.out hn).mono ?_
  rintro e w1 ⟨rfl, rfl⟩
  rw [HR.out]
  go_wp2_with fail
  go_ret
  exact ⟨rfl, rfl⟩
theorem index_prog (v : Value) (xs : List Int) (x : Int) (w : World) (h : RowAt (Value.int .i64) w v xs) (hn : xs.length ≤ 1000000) :
    Calls Try.prog 30 #[v, .int .i64 x] w fun e w' => e = .returned (.int .i64 (Lib.idxOf xs x)) ∧ w = w' := by
  have H := Lib.hid h
  clear h
  go_enter Try.func30, Try.ntmps30
  go_wp2_with fail
  refine (index_i v xs x _ H.out hn).mono ?_
  rintro e w1 ⟨rfl, rfl⟩
  go_wp2_with fail
  go_ret
  exact ⟨rfl, rfl⟩
theorem same_prog (v u : Value) (xs ys : List Int) (w : World) (h : RowAt (Value.int .i64) w v xs) (k : RowAt (Value.int .i64) w u ys) (hn : xs.length ≤ 1000000) (hm : ys.length ≤ 1000000) :
    Calls Try.prog 34 #[v, u] w fun e w' => e = .returned (.bool (decide (xs = ys))) ∧ QZ w w' := by
  have H := Lib.hid h
  have K := Lib.hid k
  clear h k
  go_enter Try.func34, Try.ntmps34
  go_wp2_with fail
  refine (equal_i v u xs ys _ H.out K.out hn hm).mono ?_
  rintro e w1 ⟨rfl, hq⟩
  go_wp2_with fail
  go_ret
  exact ⟨rfl, hq⟩
/-- The closure of Without, in whatever world holds the number in its box. -/
theorem wout_gives (n x : Int) (b : Nat) (w : World) (hc : w.cell? ⟨b, 0, none⟩ = some (.int .i64 n)) : FnGives Try.prog 54 #[.pointer (some ⟨b, 0, none⟩)] #[.int .i64 x] (.bool (decide (x = n))) w := by
  show Calls Try.prog 54 #[.int .i64 x, .pointer (some ⟨b, 0, none⟩)] w _
  have HE := Lib.hid (show (x == n) = decide (x = n) by rw [Bool.eq_iff_iff, beq_iff_eq, decide_eq_true_eq])
  go_enter Try.func54, Try.ntmps54
  go_wp2_with fail
  go_ret
  exact ⟨ret_bool HE.out, 0, rfl⟩
theorem cell_sortWorld {α : Type} [Inhabited α] (enc : α → Value) (w : World) (blk off n : Nat) (d : Array α) (os : Array Obj) (b o : Nat) (hb : b < w.heap.size) (hne : b ≠ blk) : (sortWorld enc w blk off n d os).cell? ⟨b, o, none⟩ = w.cell? ⟨b, o, none⟩ := by
  unfold sortWorld
  rw [cell?_grow _ _ _ (by show b < (putRow _ _ _ _ _).heap.size; rw [size_putRow]; exact hb), cell?_putRow_other _ _ blk off _ _ (Or.inl hne)]
  rfl
theorem without_prog (v : Value) (xs : List Int) (n : Int) (w : World) (h : RowAt (Value.int .i64) w v xs) (hn : xs.length ≤ 1000000) :
    Calls Try.prog 32 #[v, .int .i64 n] w fun e w' => ∃ v', e = .returned v' ∧ w'.ownsRow w.heap.size 3 1 v' (wout xs n).length ((wout xs n).map (Value.int .i64)) ∧ Below w.heap.size w w' := by
  have hal := (Below.refl w.heap.size w).alloc (Nat.le_refl _) (.cells #[.int .i64 n] 3)
  have H := Lib.hid (h.below hal)
  have HB := Lib.hid hal
  have HC := Lib.hid (cells_new w [.int .i64 n] 3 0 _ rfl)
  have eg : ∀ args w, (callFunc 54 args).run Try.prog w = .ok (.enter 54 args) w := enters_of Try.func54 (by kernel_rfl) rfl
  have EG := Lib.hid eg
  clear h hal eg
  go_enter Try.func32, Try.ntmps32
  go_wp2_with fail
  refine (clone_i v xs _ H.out hn).mono ?_
  rintro e w1 ⟨v1, rfl, o1, b1⟩
  have hlt : w.heap.size < (w.alloc (.cells #[.int .i64 n] 3)).heap.size := by show w.heap.size < (w.heap.push _).size; simp
  have hc1 : w1.cell? ⟨w.heap.size, 0, none⟩ = some (.int .i64 n) := (b1.cell (p := ⟨w.heap.size, 0, none⟩) hlt).trans HC.out
  have hlt1 := Nat.lt_of_lt_of_le hlt b1.size
  have HC1 := Lib.hid hc1
  have HL := Lib.hid hlt
  have HL1 := Lib.hid hlt1
  have hp : PredAt Try.prog 54 #[.pointer (some ⟨w.heap.size, 0, none⟩)] (Value.int .i64) (fun x => decide (x = n)) w1 :=
    fun W x hb => wout_gives n x w.heap.size W ((hb.cell (p := ⟨w.heap.size, 0, none⟩) hlt1).trans hc1)
  have hpo : ∀ blk, (w.alloc (.cells #[.int .i64 n] 3)).heap.size ≤ blk → PredOver Try.prog 54 #[.pointer (some ⟨w.heap.size, 0, none⟩)] (Value.int .i64) (fun x => decide (x = n)) blk 0 xs.length w1 :=
    fun blk hblk k os dk x _ => wout_gives n x w.heap.size _ (by rw [cell_sortWorld _ _ _ _ _ _ _ _ _ hlt1 (by omega)]; exact hc1)
  have HD := Lib.hid (delete_i (w.alloc (.cells #[.int .i64 n] 3)).heap.size v1 xs (fun x => decide (x = n)) 54 #[.pointer (some ⟨w.heap.size, 0, none⟩)] EG.out w1 o1 hp hpo hn)
  have HF := Lib.hid (show (xs.filter fun x => !decide (x = n)) = wout xs n by simp [wout])
  clear hp hpo hc1 hlt hlt1 o1
  go_wp2_with fail
  refine HD.out.mono ?_
  rintro e w2 ⟨v2, rfl, o2, b2⟩
  rw [HF.out] at o2
  go_wp2_with fail
  go_ret
  refine ⟨_, rfl, own_low o2 (Nat.le_of_lt HL.out), HB.out.trans ((b1.trans b2).mono (Nat.le_of_lt HL.out))⟩
end Go.Proofs.Ythhlpcmgcblopaa
