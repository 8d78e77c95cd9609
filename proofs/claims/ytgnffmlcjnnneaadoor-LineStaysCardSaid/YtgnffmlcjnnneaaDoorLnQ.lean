/- Chapter 10, plain: strings.Split at one byte and the reference's split as one function on lists; the texts of lines and of types read back. -/
import Derived.Test.YtgnffmlcjnnneaaDoorLnM
namespace Go.Proofs.YtgnffmlcjnnneaaDoor
open Go Go.RowKit Go.Sort Cg
/-- The parts of a list between the occurrences of a byte. -/
def lsp (c : UInt8) : List UInt8 → List (List UInt8)
  | [] => [[]]
  | x :: l => if x = c then [] :: lsp c l else (x :: (lsp c l).headD []) :: (lsp c l).tail
theorem lsp_ne (c : UInt8) (l : List UInt8) : ¬ lsp c l = [] := by
  cases l with
  | nil => simp [lsp]
  | cons x l => rw [lsp]; split <;> simp
theorem lsp_hit (c : UInt8) (l : List UInt8) : lsp c (c :: l) = [] :: lsp c l := by rw [lsp, if_pos rfl]
theorem lsp_miss (c x : UInt8) (l : List UInt8) (h : ¬ x = c) : lsp c (x :: l) = (x :: (lsp c l).headD []) :: (lsp c l).tail := by rw [lsp, if_neg h]
theorem lsp_word (c : UInt8) : ∀ a : List UInt8, c ∉ a → lsp c a = [a]
  | [], _ => rfl
  | x :: a, h => by
    rw [lsp_miss c x a (fun e => h (by rw [e]; exact List.mem_cons_self)), lsp_word c a (fun e => h (List.mem_cons_of_mem _ e))]
    rfl
theorem lsp_cut (c : UInt8) (b : List UInt8) : ∀ a : List UInt8, c ∉ a → lsp c (a ++ c :: b) = a :: lsp c b
  | [], _ => lsp_hit c b
  | x :: a, h => by
    rw [List.cons_append, lsp_miss c x _ (fun e => h (by rw [e]; exact List.mem_cons_self)), lsp_cut c b a (fun e => h (List.mem_cons_of_mem _ e))]
    rfl
theorem lsp_join (c : UInt8) : ∀ ws : List (List UInt8), ws ≠ [] → (∀ x ∈ ws, c ∉ x) → lsp c (Lib.join ws [c]) = ws
  | [], h, _ => absurd rfl h
  | [x], _, h => by rw [Lib.join_one]; exact lsp_word c x (h x List.mem_cons_self)
  | x :: y :: r, _, h => by
    have ih := lsp_join c (y :: r) (by simp) (fun z hz => h z (List.mem_cons_of_mem _ hz))
    have e : Lib.join (x :: y :: r) [c] = x ++ c :: Lib.join (y :: r) [c] := by rw [Lib.join_cons, Lib.join_cons]; simp [Lib.joinTail]
    rw [e, lsp_cut c _ x (h x List.mem_cons_self), ih]
theorem lsp_snoc_hit (c : UInt8) : ∀ l : List UInt8, lsp c (l ++ [c]) = lsp c l ++ [[]]
  | [] => by simp [lsp]
  | x :: l => by
    have ih := lsp_snoc_hit c l
    by_cases h : x = c
    · subst h
      rw [List.cons_append, lsp_hit, lsp_hit, ih]
      rfl
    · rw [List.cons_append, lsp_miss c x _ h, lsp_miss c x _ h, ih]
      cases hh : lsp c l with
      | nil => exact absurd hh (lsp_ne c l)
      | cons p ps => rfl
theorem lsp_snoc_miss (c x : UInt8) (hx : ¬ x = c) : ∀ (l : List UInt8) (ps : List (List UInt8)) (p : List UInt8), lsp c l = ps ++ [p] → lsp c (l ++ [x]) = ps ++ [p ++ [x]]
  | [], ps, p, h => by
    simp [lsp] at h
    cases ps with
    | nil => simp at h; subst h; simp [lsp, hx]
    | cons q ps => simp at h
  | y :: l, ps, p, h => by
    by_cases hy : y = c
    · subst hy
      rw [lsp_hit] at h
      rw [List.cons_append, lsp_hit]
      cases ps with
      | nil => simp at h; exact absurd h.2 (lsp_ne y l)
      | cons q ps =>
        simp at h
        rw [lsp_snoc_miss y x hx l ps p h.2, ← h.1]
        rfl
    · rw [lsp_miss c y _ hy] at h
      rw [List.cons_append, lsp_miss c y _ hy]
      cases hh : lsp c l with
      | nil => exact absurd hh (lsp_ne c l)
      | cons q qs =>
        rw [hh] at h
        simp only [List.headD_cons, List.tail_cons] at h
        cases ps with
        | nil =>
          simp at h
          rw [h.2] at hh
          rw [lsp_snoc_miss c x hx l [] q (by rw [hh]; rfl), ← h.1]
          rfl
        | cons r ps =>
          simp at h
          rw [h.2] at hh
          rw [lsp_snoc_miss c x hx l (q :: ps) p (by rw [hh]; rfl), ← h.1]
          rfl
theorem splitK_hit (c : UInt8) (k : Nat) (l : List UInt8) : Lib.splitK [c] 0 (k + 1) (c :: l) = [] :: Lib.splitK [c] 0 k l := by
  have hi : Lib.index (c :: l) [c] = 0 := by rw [Lib.index, if_pos (by simp [List.isPrefixOf])]
  rw [Lib.splitK, hi]
  simp
theorem splitK_miss (c x : UInt8) (h : ¬ x = c) (k : Nat) (l : List UInt8) : Lib.splitK [c] 0 k (x :: l) = (x :: (Lib.splitK [c] 0 k l).headD []) :: (Lib.splitK [c] 0 k l).tail := by
  cases k with
  | zero => rfl
  | succ k =>
    have hp : ¬ ([c] : List UInt8).isPrefixOf (x :: l) = true := by simp [List.isPrefixOf]; exact fun e => h e.symm
    have hge := Lib.index_ge l [c]
    by_cases hm : (Lib.index l [c] == -1) = true
    · have hi : Lib.index (x :: l) [c] = -1 := by rw [Lib.index, if_neg hp, if_pos hm]
      rw [Lib.splitK, hi, if_pos (by decide : ((-1 : Int) == -1) = true), Lib.splitK, if_pos hm]
      rfl
    · have hne : ¬ Lib.index l [c] = -1 := fun e => hm (beq_iff_eq.2 e)
      obtain ⟨i, hi⟩ : ∃ i : Nat, Lib.index l [c] = i := ⟨(Lib.index l [c]).toNat, by omega⟩
      have hi2 : Lib.index (x :: l) [c] = ((i + 1 : Nat) : Int) := by rw [Lib.index, if_neg hp, if_neg hm, hi]; omega
      have hm2 : ¬ (((i + 1 : Nat) : Int) == -1) = true := fun e => by have := beq_iff_eq.1 e; omega
      rw [Lib.splitK, hi2, if_neg hm2, Lib.splitK, if_neg hm, hi]
      simp only [Int.toNat_natCast, List.length_singleton, Nat.add_zero, List.take_succ_cons, List.drop_succ_cons, List.headD_cons, List.tail_cons]
theorem splitK_lsp (c : UInt8) : ∀ (l : List UInt8) (k : Nat), l.count c = k → Lib.splitK [c] 0 k l = lsp c l
  | [], k, h => by simp at h; subst h; rfl
  | x :: l, k, h => by
    by_cases hx : x = c
    · subst hx
      rw [List.count_cons_self] at h
      subst h
      rw [splitK_hit, lsp_hit, splitK_lsp x l _ rfl]
    · rw [List.count_cons_of_ne (by simpa using hx)] at h
      rw [splitK_miss c x hx, lsp_miss c x l hx, splitK_lsp c l k h]
theorem splS_lsp (s : ByteArray) (c : UInt8) : (splS s c).map (·.data.toList) = lsp c s.data.toList := by
  rw [splS, Lib.splitB_data]
  exact splitK_lsp c _ _ (Lib.count_one c _).symm
/-- The reference's split of a text without brackets. -/
theorem depth_zero (s : ByteArray) (h : ∀ b ∈ s.data.toList, brack b = false) : ∀ i, i ≤ s.size → depth s i = 0
  | 0, _ => rfl
  | i + 1, hi => by
    have hlt : i < s.data.toList.length := by rw [← Lib.size_eq]; omega
    have hb : brack (bt s i) = false := by
      rw [bt_eq s i (by omega)]
      exact h (s.data.toList[i]'hlt) (List.getElem_mem hlt)
    rw [depth, depth_zero s h i (by omega), brack_step hb]
theorem spl_lsp (s : ByteArray) (c : UInt8) (h : ∀ b ∈ s.data.toList, brack b = false) : ∀ i, i ≤ s.size → lsp c (s.data.toList.take i) = (spl s c i).1.map (·.data.toList) ++ [(s.data.toList.take i).drop (spl s c i).2]
  | 0, _ => by simp [lsp, spl]
  | i + 1, hi => by
    have hlt : i < s.data.toList.length := by rw [← Lib.size_eq]; omega
    have hle := (spl_le s c i).1
    have ih := spl_lsp s c h i (by omega)
    have hd := depth_zero s h i (by omega)
    have ht : s.data.toList.take (i + 1) = s.data.toList.take i ++ [bt s i] := by
      rw [List.take_succ_eq_append_getElem hlt, bt, List.getD_eq_getElem?_getD, List.getElem?_eq_getElem hlt]
      rfl
    by_cases hb : bt s i = c
    · rw [spl_hit s c i hb hd, ht, hb, lsp_snoc_hit, ih]
      simp only [List.map_append, List.map_cons, List.map_nil, List.append_assoc]
      have hA : (s.data.toList.take i ++ [c]).drop (i + 1) = [] := List.drop_of_length_le (by rw [List.length_append, List.length_take, List.length_singleton]; omega)
      rw [Lib.extract_data, hA, List.drop_take]
    · rw [spl_miss s c i (fun e => hb e.1), ht, lsp_snoc_miss c _ hb _ _ _ ih, List.drop_append_of_le_length (by rw [List.length_take]; omega)]
theorem split_lsp (s : ByteArray) (c : UInt8) (hc : brack c = false) (h : ∀ b ∈ s.data.toList, brack b = false) : (split s c).map (·.data.toList) = lsp c s.data.toList := by
  have := spl_lsp s c h s.size (Nat.le_refl _)
  rw [show s.data.toList.take s.size = s.data.toList from List.take_of_length_le (by rw [← Lib.size_eq]; omega)] at this
  rw [this, split, if_neg (by rw [hc]; decide), List.map_append, List.map_cons, List.map_nil, Lib.extract_to_end]
theorem map_data_inj {xs ys : List ByteArray} (h : xs.map (·.data.toList) = ys.map (·.data.toList)) : xs = ys := by
  induction xs generalizing ys with
  | nil => cases ys with
    | nil => rfl
    | cons y ys => simp at h
  | cons x xs ih => cases ys with
    | nil => simp at h
    | cons y ys =>
      simp only [List.map_cons, List.cons.injEq] at h
      rw [bytes_ext h.1, ih h.2]
theorem split_splS (s : ByteArray) (c : UInt8) (hc : brack c = false) (h : ∀ b ∈ s.data.toList, brack b = false) : split s c = splS s c :=
  map_data_inj ((split_lsp s c hc h).trans (splS_lsp s c).symm)
theorem splS_jo (ws : List ByteArray) (c : UInt8) (hne : ¬ ws = []) (h : ∀ x ∈ ws, c ∉ x.data.toList) : splS (jo ws ⟨#[c]⟩) c = ws := by
  refine map_data_inj ?_
  rw [splS_lsp, jo_data]
  refine lsp_join c _ (by simpa using hne) (fun x hx => ?_)
  obtain ⟨y, hy, rfl⟩ := List.mem_map.1 hx
  exact h y hy
end Go.Proofs.YtgnffmlcjnnneaaDoor
