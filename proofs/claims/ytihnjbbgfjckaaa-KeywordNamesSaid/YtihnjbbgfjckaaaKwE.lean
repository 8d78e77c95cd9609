/- Plain law of chapter 11: what the two parsers read out of a text is the mask of the text; no program in sight. -/
import Derived.Test.YtihnjbbgfjckaaaKwD
namespace Go.Proofs.Ytihnjbbgfjckaaa
open Go Go.RowKit Cg
theorem kn_inj : ∀ i, i < 17 → ∀ j, j < 17 → kn i = kn j → i = j := by decide +kernel
theorem kn_clean : ∀ i, i < 17 → ∀ c ∈ (kn i).data.toList, ¬ c = 43 ∧ ¬ (c.toNat = 40 ∨ c.toNat = 91) ∧ ¬ (c.toNat = 41 ∨ c.toNat = 93) := by decide +kernel
/-- The program's mask after the names below k were held against a part. -/
def por (p : ByteArray) (m : Nat) : Nat → Nat
  | 0 => m
  | k + 1 => if kn k = p then por p m k ||| 2 ^ k else por p m k
theorem por_hit (p : ByteArray) (m k : Nat) (h : kn k = p) : por p m (k + 1) = por p m k ||| 2 ^ k := by rw [por, if_pos h]
theorem por_miss (p : ByteArray) (m k : Nat) (h : ¬ kn k = p) : por p m (k + 1) = por p m k := by rw [por, if_neg h]
theorem por_lt (p : ByteArray) (m : Nat) (hm : m < 2 ^ 17) : ∀ k, k ≤ 17 → por p m k < 2 ^ 17
  | 0, _ => hm
  | k + 1, hk => by
    have ih := por_lt p m hm k (by omega)
    rw [por]
    split
    · exact Nat.or_lt_two_pow ih (Nat.pow_lt_pow_right (by omega) (by omega))
    · exact ih
theorem por_name (j : Nat) (hj : j < 17) (m : Nat) : ∀ k, k ≤ 17 → por (kn j) m k = if j < k then m ||| 2 ^ j else m
  | 0, _ => by rw [if_neg (by omega)]; rfl
  | k + 1, hk => by
    have ih := por_name j hj m k (by omega)
    by_cases he : kn k = kn j
    · have := kn_inj k (by omega) j hj he
      subst this
      rw [por_hit _ _ _ rfl, ih, if_neg (by omega), if_pos (by omega)]
    · rw [por_miss _ _ _ he, ih]
      have : ¬ k = j := fun e => he (by rw [e])
      by_cases hl : j < k
      · rw [if_pos hl, if_pos (by omega)]
      · rw [if_neg hl, if_neg (by omega)]
def pl (ps : List ByteArray) : Nat := ps.foldl (fun m p => por p m 17) 0
theorem pl_snoc (ps : List ByteArray) (p : ByteArray) : pl (ps ++ [p]) = por p (pl ps) 17 := by rw [pl, List.foldl_append]; rfl
theorem foldl_lt (ps : List ByteArray) : ∀ m, m < 2 ^ 17 → ps.foldl (fun m p => por p m 17) m < 2 ^ 17 := by
  induction ps with
  | nil => exact fun m h => h
  | cons p ps ih => exact fun m h => ih _ (por_lt p m h 17 (by omega))
theorem pl_lt (ps : List ByteArray) : pl ps < 2 ^ 17 := foldl_lt ps 0 (by decide)
theorem mod_step (n k : Nat) : n % 2 ^ (k + 1) = n % 2 ^ k + 2 ^ k * (n / 2 ^ k % 2) := Nat.mod_pow_succ
theorem mod_hit (n k : Nat) (h : n / 2 ^ k % 2 = 1) : n % 2 ^ (k + 1) = n % 2 ^ k + 2 ^ k := by rw [mod_step, h, Nat.mul_one]
theorem mod_miss (n k : Nat) (h : ¬ n / 2 ^ k % 2 = 1) : n % 2 ^ (k + 1) = n % 2 ^ k := by rw [mod_step, show n / 2 ^ k % 2 = 0 by omega]; omega
theorem or_add (a k : Nat) (h : a < 2 ^ k) : a ||| 2 ^ k = a + 2 ^ k := by
  have := Nat.two_pow_add_eq_or_of_lt h 1
  rw [Nat.mul_one] at this
  rw [Nat.or_comm, ← this, Nat.add_comm]
theorem pl_ksel (n : Nat) : ∀ k, k ≤ 17 → pl (ksel n k) = n % 2 ^ k
  | 0, _ => by rw [Nat.pow_zero, Nat.mod_one]; rfl
  | k + 1, hk => by
    have ih := pl_ksel n k (by omega)
    by_cases h : n / 2 ^ k % 2 = 1
    · rw [ksel_hit n k h, pl_snoc, por_name k (by omega) _ 17 (Nat.le_refl _), if_pos (by omega), ih, mod_hit n k h, or_add _ _ (Nat.mod_lt _ (Nat.two_pow_pos k))]
    · rw [ksel_miss n k h, ih, mod_miss n k h]
/-- A text's bytes, split at '+': the parts that are done, and the one that is not. -/
def stp (st : List (List UInt8) × List UInt8) (c : UInt8) : List (List UInt8) × List UInt8 := if c = 43 then (st.1 ++ [st.2], []) else (st.1, st.2 ++ [c])
def fp (l : List UInt8) : List (List UInt8) × List UInt8 := l.foldl stp ([], [])
theorem fp_clean (x : List UInt8) (h : ∀ c ∈ x, ¬ c = 43) : ∀ d cur, x.foldl stp (d, cur) = (d, cur ++ x) := by
  induction x with
  | nil => intro d cur; simp
  | cons c x ih =>
    intro d cur
    rw [List.foldl_cons, stp, if_neg (h c (by simp)), ih (fun e he => h e (by simp [he]))]
    simp
theorem fp_jn (n : Nat) : ∀ k, k ≤ 17 → ¬ ksel n k = [] → (fp (jn (ksel n k))).1 ++ [(fp (jn (ksel n k))).2] = (ksel n k).map (·.data.toList)
  | 0, _, h => absurd rfl h
  | k + 1, hk, hne => by
    by_cases h : n / 2 ^ k % 2 = 1
    · rw [ksel_hit n k h]
      have hc : ∀ c ∈ (kn k).data.toList, ¬ c = 43 := fun c hc => (kn_clean k (by omega) c hc).1
      by_cases he : ksel n k = []
      · rw [he, List.nil_append, jn_one, fp, fp_clean _ hc]
        simp
      · have ih := fp_jn n k (by omega) he
        rw [jn_snoc _ _ he, fp, List.foldl_append, List.foldl_cons]
        rw [show (jn (ksel n k)).foldl stp ([], []) = fp (jn (ksel n k)) from rfl, stp, if_pos rfl, fp_clean _ hc, ih]
        simp
    · rw [ksel_miss n k h] at hne ⊢
      exact fp_jn n k (by omega) hne
theorem depth_zero (s : ByteArray) (h : ∀ c ∈ s.data.toList, ¬ (c.toNat = 40 ∨ c.toNat = 91) ∧ ¬ (c.toNat = 41 ∨ c.toNat = 93)) : ∀ i, i ≤ s.size → depth s i = 0
  | 0, _ => rfl
  | i + 1, hi => by
    rw [depth, depth_zero s h i (by omega)]
    have hl : i < s.data.toList.length := by rw [← Lib.size_eq]; omega
    have hb : bt s i = s.data.toList[i] := by rw [bt, List.getD_eq_getElem?_getD, List.getElem?_eq_getElem hl]; rfl
    obtain ⟨h1, h2⟩ := h (bt s i) (by rw [hb]; exact List.getElem_mem hl)
    exact dstep_same _ _ h1 h2
theorem spl_fp (s : ByteArray) (h : ∀ i, i ≤ s.size → depth s i = 0) : ∀ i, i ≤ s.size →
    (spl s 43 i).1.map (·.data.toList) = (fp (s.data.toList.take i)).1 ∧ (s.data.toList.drop (spl s 43 i).2).take (i - (spl s 43 i).2) = (fp (s.data.toList.take i)).2
  | 0, _ => by simp [spl, fp]
  | i + 1, hi => by
    obtain ⟨h1, h2⟩ := spl_fp s h i (by omega)
    have hle := (spl_le s 43 i).1
    have hl : i < s.data.toList.length := by rw [← Lib.size_eq]; omega
    have hb : s.data.toList[i] = bt s i := by rw [bt, List.getD_eq_getElem?_getD, List.getElem?_eq_getElem hl]; rfl
    rw [List.take_succ_eq_append_getElem hl, fp, List.foldl_append, show (s.data.toList.take i).foldl stp ([], []) = fp (s.data.toList.take i) from rfl, hb]
    by_cases he : bt s i = 43
    · rw [spl_hit s 43 i he (h i (by omega))]
      simp only [List.foldl_cons, List.foldl_nil, stp, if_pos he, List.map_append, List.map_cons, List.map_nil, Lib.extract_data, h1, h2]
      simp
    · rw [spl_miss s 43 i (fun e => he e.1)]
      simp only [List.foldl_cons, List.foldl_nil, stp, if_neg he]
      refine ⟨h1, ?_⟩
      rw [← h2, show i + 1 - (spl s 43 i).2 = (i - (spl s 43 i).2) + 1 by omega, List.take_succ_eq_append_getElem (by rw [List.length_drop]; omega)]
      congr 1
      rw [List.getElem_drop, ← hb]
      congr 2
      omega
theorem jn_clean (n : Nat) : ∀ k, k ≤ 17 → ∀ c ∈ jn (ksel n k), ¬ (c.toNat = 40 ∨ c.toNat = 91) ∧ ¬ (c.toNat = 41 ∨ c.toNat = 93)
  | 0, _, c, hc => by simp [ksel, jn, Lib.join_nil] at hc
  | k + 1, hk, c, hc => by
    have ih := jn_clean n k (by omega) c
    have hkc := kn_clean k (by omega) c
    by_cases h : n / 2 ^ k % 2 = 1
    · rw [ksel_hit n k h] at hc
      by_cases he : ksel n k = []
      · rw [he, List.nil_append, jn_one] at hc
        exact (hkc hc).2
      · rw [jn_snoc _ _ he] at hc
        rcases List.mem_append.1 hc with hc | hc
        · exact ih hc
        · rcases List.mem_cons.1 hc with rfl | hc
          · decide
          · exact (hkc hc).2
    · rw [ksel_miss n k h] at hc
      exact ih hc
theorem map_data_inj : ∀ (xs ys : List ByteArray), xs.map (·.data.toList) = ys.map (·.data.toList) → xs = ys
  | [], [], _ => rfl
  | [], y :: ys, h => by simp at h
  | x :: xs, [], h => by simp at h
  | x :: xs, y :: ys, h => by
    simp only [List.map_cons, List.cons.injEq] at h
    rw [bytes_ext h.1, map_data_inj xs ys h.2]
theorem split_kacc (n : Nat) (hne : ¬ ksel n 17 = []) : split (kacc n 17) 43 = ksel n 17 := by
  have hd := depth_zero (kacc n 17) (by rw [kacc_data]; exact jn_clean n 17 (Nat.le_refl _))
  obtain ⟨h1, h2⟩ := spl_fp (kacc n 17) hd _ (Nat.le_refl _)
  apply map_data_inj
  have hs : split (kacc n 17) 43 = (spl (kacc n 17) 43 (kacc n 17).size).1 ++ [(kacc n 17).extract (spl (kacc n 17) 43 (kacc n 17).size).2 (kacc n 17).size] := by rw [split]; rfl
  have ht : (kacc n 17).data.toList.take (kacc n 17).size = jn (ksel n 17) := by rw [Lib.size_eq, List.take_length, kacc_data]
  rw [ht] at h1 h2
  rw [hs, List.map_append, h1, List.map_cons, List.map_nil, Lib.extract_data, h2]
  exact fp_jn n 17 (Nat.le_refl _) hne
def pmask (s : ByteArray) : Nat := pl (split s 43)
theorem ksel_zero (n : Nat) (hn : n < 131072) (h : ksel n 17 = []) : n = 0 := by
  have := pl_ksel n 17 (Nat.le_refl _)
  rw [h, Nat.mod_eq_of_lt (by omega)] at this
  exact this.symm
theorem pmask_ktx (n : Nat) (hn : n < 131072) : pmask (ktx n) = n := by
  by_cases h : ksel n 17 = []
  · have := ksel_zero n hn h
    subst this
    rw [ktx, if_pos h]
    decide +kernel
  · rw [ktx, if_neg h, pmask, split_kacc n h, pl_ksel n 17 (Nat.le_refl _), Nat.mod_eq_of_lt (by omega)]
/-- The reference's eating: does the rest begin with a name and end there or go on at a '+'? -/
def hitL (r l : List UInt8) : Prop := ∃ t, r = l ++ t ∧ (t = [] ∨ ∃ u, t = 43 :: u)
def hit (r : ByteArray) (k : Nat) : Bool := decide ((kn k).size ≤ r.size ∧ r.extract 0 (kn k).size = kn k ∧ (r.size = (kn k).size ∨ bt r (kn k).size = 43))
theorem hit_iff (r : ByteArray) (k : Nat) : hit r k = true ↔ hitL r.data.toList (kn k).data.toList := by
  have e1 : r.size = r.data.toList.length := Lib.size_eq r
  have e2 : (kn k).size = (kn k).data.toList.length := Lib.size_eq (kn k)
  constructor
  · intro h
    obtain ⟨h1, h2, h3⟩ := of_decide_eq_true h
    refine ⟨r.data.toList.drop (kn k).size, ?_, ?_⟩
    · have : r.data.toList.take (kn k).size = (kn k).data.toList := by
        rw [← h2, Lib.extract_data, List.drop_zero, Nat.sub_zero, h2]
      rw [← this, List.take_append_drop]
    · rcases h3 with h3 | h3
      · left; exact List.drop_eq_nil_of_le (by omega)
      · by_cases hl : (kn k).size < r.data.toList.length
        · right
          refine ⟨r.data.toList.drop ((kn k).size + 1), ?_⟩
          rw [List.drop_eq_getElem_cons hl]
          congr 1
          rw [← h3, bt, List.getD_eq_getElem?_getD, List.getElem?_eq_getElem hl]
          rfl
        · left; exact List.drop_eq_nil_of_le (by omega)
  · rintro ⟨t, ht, h⟩
    have hlen : r.size = (kn k).size + t.length := by rw [e1, e2, ht, List.length_append]
    refine decide_eq_true ⟨by omega, ?_, ?_⟩
    · apply bytes_ext
      rw [Lib.extract_data, List.drop_zero, Nat.sub_zero, ht, e2, List.take_left']
      rfl
    · rcases h with rfl | ⟨u, rfl⟩
      · left; simpa using hlen
      · right
        rw [bt, ht, e2, List.getD_eq_getElem?_getD, List.getElem?_append_right (Nat.le_refl _), Nat.sub_self]
        rfl
def next (r : ByteArray) (k : Nat) : ByteArray := if (r.extract (kn k).size r.size).size = 0 then r.extract (kn k).size r.size else (r.extract (kn k).size r.size).extract 1 (r.extract (kn k).size r.size).size
theorem next_data (r : ByteArray) (k : Nat) : (next r k).data.toList = r.data.toList.drop ((kn k).size + 1) := by
  have e : (r.extract (kn k).size r.size).data.toList = r.data.toList.drop (kn k).size := by
    rw [Lib.extract_data, Lib.size_eq r, ← List.length_drop, List.take_length]
  have e3 : (r.extract (kn k).size r.size).size = (r.data.toList.drop (kn k).size).length := by rw [Lib.size_eq, e]
  rw [next]
  split
  · rename_i h
    rw [e3] at h
    rw [e, ← List.drop_drop, List.eq_nil_of_length_eq_zero h]
    rfl
  · rw [Lib.extract_data, e, e3, ← List.length_drop, List.take_length, List.drop_drop]
def gst (s : ByteArray) : Nat → Nat × ByteArray
  | 0 => (0, s)
  | k + 1 => if hit (gst s k).2 k = true then ((gst s k).1 + 2 ^ k, next (gst s k).2 k) else gst s k
theorem gst_hit (s : ByteArray) (k : Nat) (h : hit (gst s k).2 k = true) : gst s (k + 1) = ((gst s k).1 + 2 ^ k, next (gst s k).2 k) := by rw [gst, if_pos h]
theorem gst_miss (s : ByteArray) (k : Nat) (h : hit (gst s k).2 k = false) : gst s (k + 1) = gst s k := by rw [gst, h]; rfl
theorem gst_lt (s : ByteArray) : ∀ k, (gst s k).1 < 2 ^ k
  | 0 => by simp [gst]
  | k + 1 => by
    have ih := gst_lt s k
    rw [gst, Nat.pow_succ]
    split
    · show (gst s k).1 + 2 ^ k < _; omega
    · omega
/-- The names of the f bits from k on. -/
def khi (n : Nat) : Nat → Nat → List ByteArray
  | 0, _ => []
  | f + 1, k => if n / 2 ^ k % 2 = 1 then kn k :: khi n f (k + 1) else khi n f (k + 1)
theorem ksel_khi (n : Nat) : ∀ f k, ksel n (k + f) = ksel n k ++ khi n f k
  | 0, k => by simp [khi]
  | f + 1, k => by
    have ih := ksel_khi n f (k + 1)
    rw [show k + (f + 1) = k + 1 + f by omega, ih, khi, ksel]
    split <;> simp
theorem khi_head (n : Nat) : ∀ f k, khi n f k = [] ∨ ∃ j t, k ≤ j ∧ j < k + f ∧ khi n f k = kn j :: t
  | 0, k => .inl rfl
  | f + 1, k => by
    rw [khi]
    split
    · exact .inr ⟨k, _, by omega, by omega, rfl⟩
    · rcases khi_head n f (k + 1) with h | ⟨j, t, h1, h2, h3⟩
      · exact .inl h
      · exact .inr ⟨j, t, by omega, by omega, h3⟩
theorem tail_form (t : List ByteArray) : Lib.joinTail [43] (t.map (·.data.toList)) = [] ∨ ∃ u, Lib.joinTail [43] (t.map (·.data.toList)) = 43 :: u := by
  cases t with
  | nil => exact .inl rfl
  | cons x t => exact .inr ⟨_, rfl⟩
theorem jn_cons (x : ByteArray) (t : List ByteArray) : jn (x :: t) = x.data.toList ++ Lib.joinTail [43] (t.map (·.data.toList)) := by
  unfold jn
  rw [List.map_cons, Lib.join_cons]
theorem drop_tail (t : List ByteArray) : (Lib.joinTail [43] (t.map (·.data.toList))).drop 1 = jn t := by
  cases t with
  | nil => rfl
  | cons x t =>
    rw [jn_cons]
    simp [Lib.joinTail]
theorem take_until (l t : List UInt8) (h : ∀ c ∈ l, ¬ c = 43) (ht : t = [] ∨ ∃ u, t = 43 :: u) : (l ++ t).takeWhile (fun c => !decide (c = 43)) = l := by
  induction l with
  | nil => rcases ht with rfl | ⟨u, rfl⟩ <;> simp
  | cons c l ih =>
    rw [List.cons_append, List.takeWhile_cons, if_pos (by simpa using h c (by simp)), ih (fun e he => h e (by simp [he]))]
theorem hitL_same {r a b : List UInt8} (ha : hitL r a) (hb : hitL r b) (ca : ∀ c ∈ a, ¬ c = 43) (cb : ∀ c ∈ b, ¬ c = 43) : a = b := by
  obtain ⟨t, h1, h2⟩ := ha
  obtain ⟨u, h3, h4⟩ := hb
  rw [← take_until a t ca h2, ← take_until b u cb h4, ← h1, ← h3]
theorem gst_kacc (n : Nat) : ∀ k, k ≤ 17 → (gst (kacc n 17) k).1 = n % 2 ^ k ∧ (gst (kacc n 17) k).2.data.toList = jn (khi n (17 - k) k)
  | 0, _ => by
    refine ⟨by rw [Nat.pow_zero, Nat.mod_one]; rfl, ?_⟩
    show (kacc n 17).data.toList = _
    rw [kacc_data]
    have := ksel_khi n 17 0
    rw [Nat.zero_add] at this
    rw [this]
    rfl
  | k + 1, hk => by
    obtain ⟨h1, h2⟩ := gst_kacc n k (by omega)
    obtain ⟨f, hf⟩ : ∃ f, 17 - k = f + 1 := ⟨16 - k, by omega⟩
    have hf2 : 17 - (k + 1) = f := by omega
    rw [hf] at h2
    rw [hf2]
    have ck := fun c hc => (kn_clean k (by omega) c hc).1
    by_cases h : n / 2 ^ k % 2 = 1
    · rw [khi, if_pos h, jn_cons] at h2
      have hh : hit (gst (kacc n 17) k).2 k = true := (hit_iff _ _).2 ⟨_, h2, tail_form _⟩
      rw [gst_hit _ _ hh]
      refine ⟨by rw [h1, mod_hit n k h], ?_⟩
      rw [next_data, h2, ← List.drop_drop, Lib.size_eq, List.drop_left', drop_tail]
      rfl
    · rw [khi, if_neg h] at h2
      have hh : hit (gst (kacc n 17) k).2 k = false := by
        rw [Bool.eq_false_iff]
        intro e
        have e1 := (hit_iff _ _).1 e
        rw [h2] at e1
        rcases khi_head n f (k + 1) with hz | ⟨j, t, hj1, hj2, hz⟩
        · rw [hz] at e1
          obtain ⟨t, ht, _⟩ := e1
          have := kn_pos k (by omega)
          rw [Lib.size_eq] at this
          have hz : (jn []).length = ((kn k).data.toList ++ t).length := by rw [ht]
          rw [List.length_append] at hz
          have : (jn []).length = 0 := rfl
          omega
        · rw [hz, jn_cons] at e1
          have := hitL_same ⟨_, rfl, tail_form _⟩ e1 (fun c hc => (kn_clean j (by omega) c hc).1) ck
          have := kn_inj j (by omega) k (by omega) (bytes_ext this)
          omega
      rw [gst_miss _ _ hh, mod_miss n k h]
      exact ⟨h1, h2⟩
def rmask (s : ByteArray) : Nat := (gst s 17).1
theorem rmask_lt (s : ByteArray) : rmask s < 131072 := gst_lt s 17
theorem pmask_lt (s : ByteArray) : pmask s < 131072 := pl_lt _
theorem rmask_ktx (n : Nat) (hn : n < 131072) (h : ¬ ktx n = ⟨#[110, 111, 110, 101]⟩) : rmask (ktx n) = n := by
  by_cases he : ksel n 17 = []
  · rw [ktx, if_pos he] at h
    exact absurd rfl h
  · rw [ktx, if_neg he, rmask, (gst_kacc n 17 (Nat.le_refl _)).1, Nat.mod_eq_of_lt (by omega)]
/-- The answer of both parsers. -/
def pres (s : ByteArray) : Nat × Nat := if ktx (pmask s) = s then (pmask s, 0) else (0, 3)
theorem pres_ref (s : ByteArray) : pres s = if s = ⟨#[110, 111, 110, 101]⟩ then (0, 0) else if ktx (rmask s) = s then (rmask s, 0) else (0, 3) := by
  by_cases h0 : s = ⟨#[110, 111, 110, 101]⟩
  · rw [if_pos h0, h0]
    decide +kernel
  · rw [if_neg h0, pres]
    by_cases h1 : ktx (pmask s) = s
    · have hr : rmask s = pmask s := by
        have := rmask_ktx (pmask s) (pmask_lt s) (by rw [h1]; exact h0)
        rwa [h1] at this
      rw [hr]
    · rw [if_neg h1, if_neg]
      intro h2
      have := pmask_ktx (rmask s) (rmask_lt s)
      rw [h2] at this
      exact h1 (by rw [this]; exact h2)
theorem pres_ktx (n : Nat) (hn : n < 131072) : pres (ktx n) = (n, 0) := by rw [pres, pmask_ktx n hn, if_pos rfl]
end Go.Proofs.Ytihnjbbgfjckaaa
