/- Chapter 10, plain: a line's text is read back; what the two Parse answer; one more blank. -/
import Derived.Test.YtgnffmlcjnnneaaDoorLnQ
namespace Go.Proofs.YtgnffmlcjnnneaaDoor
open Go Go.RowKit Go.Sort Cg
theorem goodB_ok {c : UInt8} (h : goodB c = true) : brack c = false ∧ ¬ c = 32 := by
  unfold goodB at h
  have h := of_decide_eq_true h
  refine ⟨decide_eq_false (by omega), fun e => ?_⟩
  subst e
  revert h
  decide
/-- Not empty, without blanks and brackets. -/
def cleanB (x : ByteArray) : Bool := decide (0 < x.size) && x.data.toList.all fun c => !brack c && !(c == 32)
theorem cleanB_mem {x : ByteArray} (h : cleanB x = true) : 0 < x.size ∧ ∀ c ∈ x.data.toList, brack c = false ∧ ¬ c = 32 := by
  unfold cleanB at h
  rw [Bool.and_eq_true] at h
  refine ⟨of_decide_eq_true h.1, fun c hc => ?_⟩
  have := List.all_eq_true.1 h.2 c hc
  simpa using this
theorem isSub_clean {x : ByteArray} (h : isSub x = true) : cleanB x = true := by
  have hz := isSub_size h
  unfold isSub at h
  rw [Bool.and_eq_true] at h
  have hw : IsW x := of_decide_eq_true h.1
  obtain ⟨_, _, _, _, hg, _⟩ := hw
  unfold cleanB
  rw [Bool.and_eq_true]
  refine ⟨decide_eq_true hz.1, List.all_eq_true.2 fun c hc => ?_⟩
  obtain ⟨i, hi, rfl⟩ := List.getElem_of_mem hc
  have hi' : i < x.size := by rw [Lib.size_eq]; exact hi
  have := hg i hi'
  rw [bt_eq x i hi'] at this
  have := goodB_ok this
  have e : x[i]'hi' = x.data.toList[i] := by rfl
  rw [e] at this
  simpa using this
theorem supers_clean : ∀ x ∈ supers, cleanB x = true := by decide
theorem types_clean : ∀ x ∈ types, cleanB x = true := by decide
theorem lineWords_clean {su ty : Int} {xs : List ByteArray} (h : ∀ x ∈ xs, isSub x = true) : ∀ x ∈ lineWords su ty xs, cleanB x = true := by
  intro x hx
  unfold lineWords at hx
  rcases List.mem_append.1 hx with hx | hx
  · rcases List.mem_append.1 hx with hx | hx
    · exact supers_clean x (pk_mem supers su.toNat 2 (by decide) x hx)
    · exact types_clean x (pk_mem types ty.toNat 6 (by decide) x hx)
  · exact isSub_clean (h x hx)
theorem lineWords_some {su ty : Int} {xs : List ByteArray} (h : headOk su ty xs.length) : ¬ lineWords su ty xs = [] := by
  obtain ⟨_, _, h1, h2, _⟩ := h
  intro e
  unfold lineWords at e
  have e := List.append_eq_nil_iff.1 e
  exact pk_some ty.toNat (by omega) (by omega) (List.append_eq_nil_iff.1 e.1).2
theorem text_read {su ty : Int} {xs : List ByteArray} (h : isL su ty xs = true) : splS (lineText su ty xs) 32 = lineWords su ty xs := by
  obtain ⟨h1, h2⟩ := isL_parts h
  rw [lineText, h, if_pos rfl]
  exact splS_jo _ 32 (lineWords_some h1) (fun x hx hc => ((cleanB_mem (lineWords_clean h2 x hx)).2 32 hc).2 rfl)
theorem getS_left (xs ys : List ByteArray) (k : Nat) (h : k < xs.length) : (xs ++ ys).getD k ByteArray.empty = xs.getD k ByteArray.empty := by
  rw [List.getD_eq_getElem?_getD, List.getD_eq_getElem?_getD, List.getElem?_append_left h]
theorem getS_right (xs ys : List ByteArray) (k : Nat) : (xs ++ ys).getD (xs.length + k) ByteArray.empty = ys.getD k ByteArray.empty := by
  rw [List.getD_eq_getElem?_getD, List.getD_eq_getElem?_getD, List.getElem?_append_right (by omega)]
  congr 2
  omega
theorem orW_left (nm : Nat → ByteArray) (n : Nat) (xs ys : List ByteArray) : ∀ k, k ≤ xs.length → orW nm n (xs ++ ys) k = orW nm n xs k
  | 0, _ => rfl
  | k + 1, h => by rw [orW, orW, orW_left nm n xs ys k (by omega), getS_left xs ys k (by omega)]
theorem orW_app (nm : Nat → ByteArray) (n : Nat) (xs ys : List ByteArray) (hy : ∀ y ∈ ys, bitW nm y n = 0) : ∀ k, k ≤ ys.length → orW nm n (xs ++ ys) (xs.length + k) = orW nm n xs xs.length
  | 0, _ => orW_left nm n xs ys _ (Nat.le_refl _)
  | k + 1, h => by
    have hm : ys.getD k ByteArray.empty ∈ ys := by rw [List.getD_eq_getElem?_getD, List.getElem?_eq_getElem (by omega)]; exact List.getElem_mem _
    rw [← Nat.add_assoc, orW, orW_app nm n xs ys hy k (by omega), getS_right, hy _ hm, Nat.or_zero]
theorem subsW_left (xs ys : List ByteArray) : ∀ k, k ≤ xs.length → subsW (xs ++ ys) k = subsW xs k
  | 0, _ => rfl
  | k + 1, h => by rw [subsW, subsW, subsW_left xs ys k (by omega), getS_left xs ys k (by omega)]
theorem subsW_app (xs ys : List ByteArray) (hy : ∀ y ∈ ys, bitW superN y 2 = 0 ∧ bitW typeN y 6 = 0) : ∀ k, k ≤ ys.length → subsW (xs ++ ys) (xs.length + k) = subsW xs xs.length ++ ys.take k
  | 0, _ => by rw [List.take_zero, List.append_nil]; exact subsW_left xs ys _ (Nat.le_refl _)
  | k + 1, h => by
    have hg : ys.getD k ByteArray.empty = ys[k] := by rw [List.getD_eq_getElem?_getD, List.getElem?_eq_getElem (by omega)]; rfl
    have hm : ys.getD k ByteArray.empty ∈ ys := by rw [hg]; exact List.getElem_mem _
    rw [← Nat.add_assoc, subsW, subsW_app xs ys hy k (by omega), getS_right, if_pos (hy _ hm), hg, List.append_assoc, List.take_succ_eq_append_getElem (by omega)]
theorem head_read : ∀ su, su < 4 → ∀ ty, ty < 64 → orW superN 2 (pk supers su 2 ++ pk types ty 6) (pk supers su 2 ++ pk types ty 6).length = su ∧ orW typeN 6 (pk supers su 2 ++ pk types ty 6) (pk supers su 2 ++ pk types ty 6).length = ty ∧ subsW (pk supers su 2 ++ pk types ty 6) (pk supers su 2 ++ pk types ty 6).length = [] := by decide +kernel
theorem isSub_zero {x : ByteArray} (h : isSub x = true) : bitW superN x 2 = 0 ∧ bitW typeN x 6 = 0 := by
  unfold isSub at h
  simp only [Bool.and_eq_true, decide_eq_true_eq] at h
  exact h.2
/-- What Parse finds in a list of words. -/
def wSu (ws : List ByteArray) : Nat := orW superN 2 ws ws.length
def wTy (ws : List ByteArray) : Nat := orW typeN 6 ws ws.length
def wSubs (ws : List ByteArray) : List ByteArray := subsW ws ws.length
def wOk (ws : List ByteArray) (s : ByteArray) : Prop := isL (wSu ws) (wTy ws) (wSubs ws) = true ∧ lineText (wSu ws) (wTy ws) (wSubs ws) = s
instance (ws : List ByteArray) (s : ByteArray) : Decidable (wOk ws s) := by unfold wOk; infer_instance
def parseW (ws : List ByteArray) (s : ByteArray) : Nat × Nat × List ByteArray × Nat := if wOk ws s then (wSu ws, wTy ws, wSubs ws, 0) else (0, 0, [], 3)
theorem parseW_splS (s : ByteArray) : parseW (splS s 32) s = parseL s := by
  by_cases h : pOk s
  · have h' : wOk (splS s 32) s := h
    rw [parseL, if_pos h, parseW, if_pos h']
    rfl
  · have h' : ¬ wOk (splS s 32) s := h
    rw [parseL, if_neg h, parseW, if_neg h']
theorem mem_join (sep : List UInt8) (c : UInt8) : ∀ ws : List (List UInt8), c ∈ Lib.join ws sep → c ∈ sep ∨ ∃ x ∈ ws, c ∈ x
  | [], h => by simp [Lib.join_nil] at h
  | [x], h => by rw [Lib.join_one] at h; exact .inr ⟨x, List.mem_cons_self, h⟩
  | x :: y :: r, h => by
    have e : Lib.join (x :: y :: r) sep = x ++ (sep ++ Lib.join (y :: r) sep) := by rw [Lib.join_cons, Lib.join_cons]; simp [Lib.joinTail]
    rw [e] at h
    rcases List.mem_append.1 h with h | h
    · exact .inr ⟨x, List.mem_cons_self, h⟩
    rcases List.mem_append.1 h with h | h
    · exact .inl h
    rcases mem_join sep c (y :: r) h with h | ⟨z, hz, h⟩
    · exact .inl h
    · exact .inr ⟨z, List.mem_cons_of_mem _ hz, h⟩
theorem text_clean {su ty : Int} {xs : List ByteArray} (h : isL su ty xs = true) : ∀ c ∈ (lineText su ty xs).data.toList, brack c = false := by
  obtain ⟨_, h2⟩ := isL_parts h
  intro c hc
  rw [lineText, h, if_pos rfl, jo_data] at hc
  rcases mem_join _ _ _ hc with hc | ⟨x, hx, hc⟩
  · have : c = 32 := by simpa using hc
    rw [this]; decide
  · obtain ⟨y, hy, rfl⟩ := List.mem_map.1 hx
    exact ((cleanB_mem (lineWords_clean h2 y hy)).2 c hc).1
theorem parse_same (s : ByteArray) : parseW (split s 32) s = parseL s := by
  by_cases hb : ∀ c ∈ s.data.toList, brack c = false
  · rw [split_splS s 32 (by decide) hb]; exact parseW_splS s
  · have hno : ∀ ws, ¬ wOk ws s := fun ws h => hb (by rw [← h.2]; exact text_clean h.1)
    rw [← parseW_splS, parseW, parseW, if_neg (hno _), if_neg (hno _)]
theorem words_read {su ty : Int} {xs : List ByteArray} (h : isL su ty xs = true) : wSu (lineWords su ty xs) = su.toNat ∧ wTy (lineWords su ty xs) = ty.toNat ∧ wSubs (lineWords su ty xs) = xs := by
  obtain ⟨⟨a, b, c, d, _, _⟩, h2⟩ := isL_parts h
  have hr := head_read su.toNat (by omega) ty.toNat (by omega)
  have hl : (lineWords su ty xs).length = (pk supers su.toNat 2 ++ pk types ty.toNat 6).length + xs.length := by unfold lineWords; rw [List.length_append]
  refine ⟨?_, ?_, ?_⟩
  · rw [wSu, hl]
    exact (orW_app superN 2 _ xs (fun y hy => (isSub_zero (h2 y hy)).1) xs.length (Nat.le_refl _)).trans hr.1
  · rw [wTy, hl]
    exact (orW_app typeN 6 _ xs (fun y hy => (isSub_zero (h2 y hy)).2) xs.length (Nat.le_refl _)).trans hr.2.1
  · rw [wSubs, hl]
    have := subsW_app (pk supers su.toNat 2 ++ pk types ty.toNat 6) xs (fun y hy => isSub_zero (h2 y hy)) xs.length (Nat.le_refl _)
    rw [hr.2.2, List.nil_append, List.take_length] at this
    exact this
theorem parse_text {su ty : Int} {xs : List ByteArray} (h : isL su ty xs = true) : parseL (lineText su ty xs) = (su.toNat, ty.toNat, xs, 0) := by
  obtain ⟨⟨a, b, c, d, _, _⟩, _⟩ := isL_parts h
  obtain ⟨r1, r2, r3⟩ := words_read h
  have e1 : ((su.toNat : Nat) : Int) = su := by omega
  have e2 : ((ty.toNat : Nat) : Int) = ty := by omega
  have hok : wOk (lineWords su ty xs) (lineText su ty xs) := by
    unfold wOk
    rw [r1, r2, r3, e1, e2]
    exact ⟨h, rfl⟩
  rw [← parseW_splS, text_read h, parseW, if_pos hok, r1, r2, r3]
theorem parse_empty : parseL ⟨#[]⟩ = (0, 0, [], 3) := by decide +kernel
theorem parse_ok {s : ByteArray} (h : (parseL s).2.2.2 = 0) : isL ((parseL s).1 : Nat) ((parseL s).2.1 : Nat) (parseL s).2.2.1 = true ∧ lineText ((parseL s).1 : Nat) ((parseL s).2.1 : Nat) (parseL s).2.2.1 = s := by
  by_cases hp : pOk s
  · rw [parseL, if_pos hp]; exact hp
  · rw [parseL, if_neg hp] at h; simp at h
theorem parse_code (s : ByteArray) : (parseL s).2.2.2 = 0 ∨ (parseL s).2.2.2 = 3 := by
  rw [parseL]
  split
  · exact .inl rfl
  · exact .inr rfl
theorem parse_part {s : ByteArray} (h : pOk s) : ∀ p ∈ lsp 32 s.data.toList, ¬ p = [] := by
  intro p hp
  have h1 : lsp 32 s.data.toList = (lineWords (pSu s) (pTy s) (pSubs s)).map (·.data.toList) := by
    rw [← text_read h.1, h.2, splS_lsp]
  rw [h1] at hp
  obtain ⟨y, hy, rfl⟩ := List.mem_map.1 hp
  have hz := (cleanB_mem (lineWords_clean (isL_parts h.1).2 y hy)).1
  intro e
  rw [Lib.size_eq, e] at hz
  simp at hz
theorem space_behind (t : ByteArray) : parseL (t ++ ⟨#[32]⟩) = (0, 0, [], 3) := by
  refine if_neg fun h => ?_
  refine parse_part h [] ?_ rfl
  have e : (t ++ ⟨#[32]⟩ : ByteArray).data.toList = t.data.toList ++ [32] := by simp
  rw [e, lsp_snoc_hit]
  simp
theorem space_ahead (t : ByteArray) : parseL (⟨#[32]⟩ ++ t) = (0, 0, [], 3) := by
  refine if_neg fun h => ?_
  refine parse_part h [] ?_ rfl
  have e : (⟨#[32]⟩ ++ t : ByteArray).data.toList = 32 :: t.data.toList := by simp
  rw [e, lsp_hit]
  simp
theorem text_some (su ty : Int) (xs : List ByteArray) : (lineText su ty xs).toList.isEmpty = !isL su ty xs := by
  cases h : isL su ty xs
  · rw [lineText, h, if_neg (by decide)]
    exact empty_iff.2 rfl
  · obtain ⟨h1, h2⟩ := isL_parts h
    rw [lineText, h, if_pos rfl, Bool.not_true, Bool.eq_false_iff]
    intro e
    exact lineWords_some h1 ((jo_empty _ _ (fun x hx => (words_size h2 x hx).1)).1 e)
theorem text_size {su ty : Int} {xs : List ByteArray} : (lineText su ty xs).size ≤ 20000 := by
  cases h : isL su ty xs
  · rw [lineText, h, if_neg (by decide)]; decide
  · obtain ⟨h1, h2⟩ := isL_parts h
    obtain ⟨_, _, _, _, _, h6⟩ := h1
    rw [lineText, h, if_pos rfl]
    have h3 := jo_size (lineWords su ty xs) ⟨#[32]⟩ (by decide) (fun x hx => (words_size h2 x hx).2)
    have h4 := words_len su ty xs
    omega
end Go.Proofs.YtgnffmlcjnnneaaDoor
