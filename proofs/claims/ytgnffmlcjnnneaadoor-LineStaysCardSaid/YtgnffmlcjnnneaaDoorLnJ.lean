/- Walks of chapter 10: Concat of three slices of strings; Text, the program's and the reference's. -/
import Derived.Test.YtgnffmlcjnnneaaDoorLnG
import Derived.Test.YtgnffmlcjnnneaaDoorLnI
import Derived.Lib.AppendZeros
namespace Go.Proofs.YtgnffmlcjnnneaaDoor
open Go Go.RowKit Go.Sort Cg
attribute [local go_sem ↓] Go.wp_at_zero Go.wp_at_succ
set_option maxRecDepth 100000 in
theorem grow_nil (n : Nat) (hn : n ≤ 1000000) (w : World) : Calls Tryd.prog 54 #[.slice none 0 0, .int .i64 n] w fun e w' => ∃ v', e = .returned v' ∧ w'.ownsRow w.heap.size 9 1 v' 0 [] ∧ Below w.heap.size w w' := by
  by_cases h0 : n = 0
  · subst h0
    go_enter Tryd.func54, Tryd.ntmps54
    go_wp2_with fail
    go_ret
    exact ⟨_, rfl, World.ownsRow_nil _ _ _ _, Below.refl _ _⟩
  · have hp : 0 < n := by omega
    have h1 : (0 : Int) < (n : Int) := by omega
    obtain ⟨ht, hzs, hsz, i, hi, hz, hsize, hby⟩ := stringsElem
    have hrun := fun ty => Lib.run_append_nil_zeros (P := Tryd.prog) w 22 3 ty 9 i (.string ⟨#[]⟩) .i64 .i64 Tryd.underlying22 Tryd.underlying3 hi hz n hp (by omega) (by omega) (by rw [hby]; omega)
    have HR := Lib.hid hrun
    have hcap := grownCap_ge w n 0 9
    have hcm := grownCap_le_maxLen w n 0 9 (by unfold maxLen; omega)
    obtain ⟨G, hG⟩ : ∃ G, G = grownCap w n 0 9 := ⟨_, rfl⟩
    rw [← hG] at HR hcap hcm
    have HCM := Lib.hid hcm
    unfold maxLen at hcm
    clear hrun hG hi hz hsize hby hzs hsz ht h0
    have hzl : ∀ k, (Builtin.zeroCells (#[.string ⟨#[]⟩] : Array Value) k).size = k := fun k => by simp [Builtin.zeroCells]
    have HZ := Lib.hid (show (Builtin.zeroCells (#[.string ⟨#[]⟩] : Array Value) n ++ Builtin.zeroCells (#[.string ⟨#[]⟩] : Array Value) (G - n)).size = G by rw [Array.size_append, hzl, hzl]; omega)
    clear hzl
    go_enter Tryd.func54, Tryd.ntmps54
    go_wp2_with (at_builtin; refine Lib.wpList_append_run _ rfl _ _ _ _ rfl _ _ rfl rfl _ _ (HR.out _) ?_)
    go_ret
    refine ⟨_, rfl, ⟨rfl, .inr ⟨w.heap.size, G, _, rfl, Nat.le_refl _, heap_alloc_new w.drew _, Nat.zero_le _, HCM.out, ?_, by simp⟩⟩, ((Below.refl _ _).drew).alloc (Nat.le_refl _) _⟩
    rw [Nat.mul_one]
    exact HZ.out
set_option maxHeartbeats 2000000 in
theorem concat_three (b : Nat) (v u t : Value) (xs ys zs : List ByteArray) (w : World) (hb : b < w.heap.size) (c0 : w.cell? ⟨b, 0, none⟩ = some v) (c1 : w.cell? ⟨b, 1, none⟩ = some u) (c2 : w.cell? ⟨b, 2, none⟩ = some t) (hx : RowAt Value.string w v xs) (hy : RowAt Value.string w u ys) (hz : RowAt Value.string w t zs) (ln : xs.length ≤ 1000) (lm : ys.length ≤ 1000) (lk : zs.length ≤ 1000) :
    Calls Tryd.prog 39 #[.slice (some ⟨b, 0, none⟩) 3 3] w fun e w' => ∃ v', e = .returned v' ∧ w'.ownsRow w.heap.size 9 1 v' (xs ++ ys ++ zs).length ((xs ++ ys ++ zs).map Value.string) ∧ Below w.heap.size w w' := by
  have HX := Lib.hid hx
  have HY := Lib.hid hy
  have HZ := Lib.hid hz
  obtain ⟨av, cv, rfl⟩ := hx.form
  obtain ⟨au, cu, rfl⟩ := hy.form
  obtain ⟨at_, ct, rfl⟩ := hz.form
  clear hx hy hz
  go_enter Tryd.func39, Tryd.ntmps39
  go_wp2_with fail
  go_loop [3, 11] (fun s i => (i = .int .i64 0 ∧ s = .int .i64 0) ∨ (i = .int .i64 1 ∧ s = .int .i64 (xs.length : Int)) ∨ (i = .int .i64 2 ∧ s = .int .i64 ((xs.length + ys.length : Nat) : Int)) ∨ (i = .int .i64 3 ∧ s = .int .i64 ((xs.length + ys.length + zs.length : Nat) : Int))) (fun _ i => 3 - (intOf i).toNat)
  case atStart => exact .inl ⟨rfl, rfl⟩
  case round =>
    rcases hrel with ⟨rfl, rfl⟩ | ⟨rfl, rfl⟩ | ⟨rfl, rfl⟩ | ⟨rfl, rfl⟩
    · go_wp2_with fail
      go_round
      case rel => exact .inr (.inl ⟨by go_num, by go_num⟩)
      case measure => simp [intOf]
    · go_wp2_with fail
      go_round
      case rel => exact .inr (.inr (.inl ⟨by go_num, by go_num⟩))
      case measure => simp [intOf]
    · go_wp2_with fail
      go_round
      case rel => exact .inr (.inr (.inr ⟨by go_num, by go_num⟩))
      case measure => simp [intOf]
    · go_wp2_with fail
      refine (grow_nil (xs.length + ys.length + zs.length) (by omega) _).mono ?_
      rintro e w1 ⟨v1, rfl, o1, b1⟩
      have C0 := Lib.hid c0
      have C1 := Lib.hid c1
      have C2 := Lib.hid c2
      clear c0 c1 c2
      go_wp2_with fail
      go_loopw [6, 27] (fun out i wr => ((i = .int .i64 0 ∧ wr.ownsRow w.heap.size 9 1 out 0 []) ∨ (i = .int .i64 1 ∧ wr.ownsRow w.heap.size 9 1 out xs.length (xs.map Value.string)) ∨ (i = .int .i64 2 ∧ wr.ownsRow w.heap.size 9 1 out (xs.length + ys.length) (xs.map Value.string ++ ys.map Value.string)) ∨ (i = .int .i64 3 ∧ wr.ownsRow w.heap.size 9 1 out (xs.length + ys.length + zs.length) (xs.map Value.string ++ ys.map Value.string ++ zs.map Value.string))) ∧ Below w.heap.size w wr) (fun _ i _ => 3 - (intOf i).toNat)
      case atStart => exact ⟨.inl ⟨rfl, o1⟩, b1⟩
      case round =>
        obtain ⟨hrel, hnx⟩ := hrel
        clear o1 b1
        rcases hrel with ⟨rfl, hown⟩ | ⟨rfl, hown⟩ | ⟨rfl, hown⟩ | ⟨rfl, hown⟩
        · have c0 := (hnx.cell (p := ⟨b, 0, none⟩) hb).trans C0.out
          have HR := Lib.hid (HX.out.below hnx)
          go_wp2_with (at_builtin; refine wpList_append_row rfl (.tmp 31) (.tmp 32) 22 rfl w.heap.size stringsElem _ _ _ rfl hown Value.string (fun _ => rfl) xs _ rfl HR.out (by omega) (by omega) hnx.size ?_; intro v' w2 hown' hbel)
          go_roundw
          case rel => exact ⟨.inr (.inl ⟨by go_num, by simpa using hown'⟩), hnx.trans hbel⟩
          case measure => simp [intOf]
        · have c1 := (hnx.cell (p := ⟨b, 1, none⟩) hb).trans C1.out
          have HR := Lib.hid (HY.out.below hnx)
          go_wp2_with (at_builtin; refine wpList_append_row rfl (.tmp 31) (.tmp 32) 22 rfl w.heap.size stringsElem _ _ _ rfl hown Value.string (fun _ => rfl) ys _ rfl HR.out (by omega) (by omega) hnx.size ?_; intro v' w2 hown' hbel)
          go_roundw
          case rel => exact ⟨.inr (.inr (.inl ⟨by go_num, hown'⟩)), hnx.trans hbel⟩
          case measure => simp [intOf]
        · have c2 := (hnx.cell (p := ⟨b, 2, none⟩) hb).trans C2.out
          have HR := Lib.hid (HZ.out.below hnx)
          go_wp2_with (at_builtin; refine wpList_append_row rfl (.tmp 31) (.tmp 32) 22 rfl w.heap.size stringsElem _ _ _ rfl hown Value.string (fun _ => rfl) zs _ rfl HR.out (by omega) (by omega) hnx.size ?_; intro v' w2 hown' hbel)
          go_roundw
          case rel => exact ⟨.inr (.inr (.inr ⟨by go_num, hown'⟩)), hnx.trans hbel⟩
          case measure => simp [intOf]
        · go_wp2_with fail
          go_ret
          exact ⟨_, rfl, by rw [List.length_append, List.length_append, List.map_append, List.map_append]; exact hown, hnx⟩
theorem Lx.alloc {wa w : World} (h : Lx wa w) (o : Obj) : Lx wa (w.alloc o) := Below.alloc h (Below.size h) o
/-- The words of a valid line. -/
def lineWords (su ty : Int) (xs : List ByteArray) : List ByteArray := pk supers su.toNat 2 ++ pk types ty.toNat 6 ++ xs
def lineText (su ty : Int) (xs : List ByteArray) : ByteArray := if isL su ty xs then jo (lineWords su ty xs) ⟨#[32]⟩ else ⟨#[]⟩
theorem isSub_size {s : ByteArray} (h : isSub s = true) : 1 ≤ s.size ∧ s.size ≤ 32 := by
  rw [isSub, Bool.and_eq_true] at h
  have h2 : IsW s := of_decide_eq_true h.1
  exact ⟨h2.1, h2.2.1⟩
theorem isL_parts {su ty : Int} {xs : List ByteArray} (h : isL su ty xs = true) : headOk su ty xs.length ∧ ∀ x ∈ xs, isSub x = true := by
  obtain ⟨h1, h2⟩ : headOk su ty xs.length ∧ SubsOk xs xs.length := of_decide_eq_true h
  refine ⟨h1, fun x hx => ?_⟩
  obtain ⟨j, hj, rfl⟩ := List.mem_iff_getElem.1 hx
  have := (h2 j hj).1
  rwa [getS_at xs j hj] at this
theorem words_size {su ty : Int} {xs : List ByteArray} (h : ∀ x ∈ xs, isSub x = true) : ∀ x ∈ lineWords su ty xs, 0 < x.size ∧ x.size ≤ 100 := by
  intro x hx
  unfold lineWords at hx
  rcases List.mem_append.1 hx with hx | hx
  · rcases List.mem_append.1 hx with hx | hx
    · exact supers_small x (pk_mem supers _ 2 (by decide) x hx)
    · exact types_small x (pk_mem types _ 6 (by decide) x hx)
  · have := isSub_size (h x hx); omega
theorem words_len (su ty : Int) (xs : List ByteArray) : (lineWords su ty xs).length ≤ 8 + xs.length := by
  have h1 := pk_len supers su.toNat 2
  have h2 := pk_len types ty.toNat 6
  unfold lineWords
  rw [List.length_append, List.length_append]
  omega
set_option maxRecDepth 100000 in
set_option maxHeartbeats 2000000 in
theorem text_prog (su ty : Int) (v : Value) (xs : List ByteArray) (w : World) (h : RowAt Value.string w v xs) (hn : xs.length ≤ 4611686018427387904) (hm : Mx w) :
    Calls Tryd.prog 13 #[lineV su ty v] w fun e w' => e = .returned (.string (lineText su ty xs)) ∧ Below w.heap.size w w' := by
  obtain ⟨ao, cap, rfl⟩ := h.form
  have ba := (Below.refl w.heap.size w).alloc (Nat.le_refl _) (.cells #[.int .i64 su, .int .i64 ty, .slice ao xs.length cap] 24)
  have BA := Lib.hid ba
  have hsz : w.heap.size < (w.alloc (.cells #[.int .i64 su, .int .i64 ty, .slice ao xs.length cap] 24)).heap.size := by show w.heap.size < (w.heap.push _).size; simp
  have HSZ := Lib.hid hsz
  have RX := Lib.hid (h.below ba)
  have HI := Lib.hid (isL_prog su ty (.slice ao xs.length cap) xs _ (h.below ba) hn (hm.below ba))
  have C0 := Lib.hid (cells_new w [.int .i64 su, .int .i64 ty, .slice ao xs.length cap] 24 0 _ rfl)
  have C1 := Lib.hid (cells_new w [.int .i64 su, .int .i64 ty, .slice ao xs.length cap] 24 1 _ rfl)
  have C2 := Lib.hid (cells_new w [.int .i64 su, .int .i64 ty, .slice ao xs.length cap] 24 2 _ rfl)
  clear h ba hsz hm
  cases hl : isL su ty xs
  · have HT := Lib.hid (show lineText su ty xs = ⟨#[]⟩ by rw [lineText, hl]; rfl)
    rw [hl] at HI
    clear hl
    go_enter Tryd.func13, Tryd.ntmps13
    go_wp2_with fail
    refine HI.out.mono ?_
    rintro e w1 ⟨rfl, b1⟩
    go_wp2_with fail
    go_ret
    exact ⟨by rw [HT.out] <;> rfl, BA.out.trans (b1.mono BA.out.size)⟩
  · have HT := Lib.hid (show lineText su ty xs = jo (lineWords su ty xs) ⟨#[32]⟩ by rw [lineText, hl]; rfl)
    obtain ⟨⟨h1, h2, h3, h4, _, h6⟩, hsub⟩ := isL_parts hl
    rw [hl] at HI
    obtain ⟨sn, rfl⟩ := Int.eq_ofNat_of_zero_le h1
    obtain ⟨tn, rfl⟩ := Int.eq_ofNat_of_zero_le (show 0 ≤ ty by omega)
    have HW := Lib.hid (show lineWords (sn : Int) (tn : Int) xs = pk supers sn 2 ++ pk types tn 6 ++ xs by rw [lineWords, Int.toNat_natCast, Int.toNat_natCast])
    have HJ := Lib.hid (jo_size (lineWords (sn : Int) (tn : Int) xs) ⟨#[32]⟩ (by decide) (fun x hx => (words_size hsub x hx).2))
    have HL := Lib.hid (words_len (sn : Int) (tn : Int) xs)
    have HP := Lib.hid (supers_pk sn (by omega))
    have HQ := Lib.hid (types_pk tn (by omega))
    have HL1 := Lib.hid (pk_len supers sn 2)
    have HL2 := Lib.hid (pk_len types tn 6)
    have hs4 : sn < 2 ^ 2 := by omega
    have ht6 : tn < 2 ^ 6 := by omega
    clear hl hsub h1 h2 h3 h4
    go_enter Tryd.func13, Tryd.ntmps13
    go_wp2_with fail
    refine HI.out.mono ?_
    rintro e wa ⟨rfl, b1⟩
    have RX := Lib.hid (RX.out.below b1)
    have BA := Lib.hid (BA.out.trans (b1.mono BA.out.size))
    have F0 := Lib.hid (fun w' (h : Lx wa w') => (Below.cell h (p := ⟨w.heap.size, 0, none⟩) (Nat.lt_of_lt_of_le HSZ.out b1.size)).trans ((b1.cell (p := ⟨w.heap.size, 0, none⟩) HSZ.out).trans C0.out))
    have F1 := Lib.hid (fun w' (h : Lx wa w') => (Below.cell h (p := ⟨w.heap.size, 1, none⟩) (Nat.lt_of_lt_of_le HSZ.out b1.size)).trans ((b1.cell (p := ⟨w.heap.size, 1, none⟩) HSZ.out).trans C1.out))
    have F2 := Lib.hid (fun w' (h : Lx wa w') => (Below.cell h (p := ⟨w.heap.size, 2, none⟩) (Nat.lt_of_lt_of_le HSZ.out b1.size)).trans ((b1.cell (p := ⟨w.heap.size, 2, none⟩) HSZ.out).trans C2.out))
    clear b1 HI C0 C1 C2
    have hG : Lx wa wa := Below.refl _ _
    go_wp2_with fail
    refine wp_region_noPanic ?_
    refine wp_region_held_drew (S := fun w' => Lx wa w') (by kernel_rfl) (Lx.drew (by assumption)) (fun hHeld => ?_)
    refine wpAnyH_take (i := 0) (oi := ?oiT0x) (v := ?vT0x) ?hiT0x (by kernel_rfl) (by kernel_rfl) (by kernel_rfl) ?hqT0x ?hyT0x (by assumption) ?restT0x
    case hiT0x => (simp only [List.getElem?_toArray, List.getElem?_cons_zero] <;> rfl)
    case hqT0x => exact fun _ _ _ h => h
    case hyT0x => exact Or.inl ⟨by rfl, by (intro wS hSw; have s0 := F0.out wS hSw; have s1 := F1.out wS hSw; have s2 := F2.out wS hSw; go_simp; try with_reducible rfl)⟩
    try simp only [Act.put, List.setIfInBounds_toArray, List.set_cons_zero, List.set_cons_succ]
    refine wpAnyH_take (i := 1) (oi := ?oiT1x) (v := ?vT1x) ?hiT1x (by kernel_rfl) (by kernel_rfl) (by kernel_rfl) ?hqT1x ?hyT1x (by assumption) ?restT1x
    case hiT1x => (simp only [List.getElem?_toArray, List.getElem?_cons_succ, List.getElem?_cons_zero] <;> rfl)
    case hqT1x => exact fun _ _ _ h => h
    case hyT1x => exact Or.inl ⟨by rfl, by (intro wS hSw; have s0 := F0.out wS hSw; have s1 := F1.out wS hSw; have s2 := F2.out wS hSw; go_simp; try with_reducible rfl)⟩
    try simp only [Act.put, List.setIfInBounds_toArray, List.set_cons_zero, List.set_cons_succ]
    refine wpAnyH_take (i := 3) (oi := ?oiT3x) (v := ?vT3x) ?hiT3x (by kernel_rfl) (by kernel_rfl) (by kernel_rfl) ?hqT3x ?hyT3x (by assumption) ?restT3x
    case hiT3x => (simp only [List.getElem?_toArray, List.getElem?_cons_succ, List.getElem?_cons_zero] <;> rfl)
    case hqT3x => exact fun _ _ _ h => h
    case hyT3x => exact Or.inl ⟨by rfl, by (intro wS hSw; have s0 := F0.out wS hSw; have s1 := F1.out wS hSw; have s2 := F2.out wS hSw; go_simp; try with_reducible rfl)⟩
    try simp only [Act.put, List.setIfInBounds_toArray, List.set_cons_zero, List.set_cons_succ]
    refine wpAnyH_take (i := 4) (oi := ?oiT4x) (v := ?vT4x) ?hiT4x (by kernel_rfl) (by kernel_rfl) (by kernel_rfl) ?hqT4x ?hyT4x (by assumption) ?restT4x
    case hiT4x => (simp only [List.getElem?_toArray, List.getElem?_cons_succ, List.getElem?_cons_zero] <;> rfl)
    case hqT4x => exact fun _ _ _ h => h
    case hyT4x => exact Or.inl ⟨by rfl, by (intro wS hSw; have s0 := F0.out wS hSw; have s1 := F1.out wS hSw; have s2 := F2.out wS hSw; go_simp; try with_reducible rfl)⟩
    try simp only [Act.put, List.setIfInBounds_toArray, List.set_cons_zero, List.set_cons_succ]
    refine wpAnyH_take (i := 6) (oi := ?oiT6x) (v := ?vT6x) ?hiT6x (by kernel_rfl) (by kernel_rfl) (by kernel_rfl) ?hqT6x ?hyT6x (by assumption) ?restT6x
    case hiT6x => (simp only [List.getElem?_toArray, List.getElem?_cons_succ, List.getElem?_cons_zero] <;> rfl)
    case hqT6x => exact fun _ _ _ h => h
    case hyT6x => exact Or.inl ⟨by rfl, by (intro wS hSw; have s0 := F0.out wS hSw; have s1 := F1.out wS hSw; have s2 := F2.out wS hSw; go_simp; try with_reducible rfl)⟩
    try simp only [Act.put, List.setIfInBounds_toArray, List.set_cons_zero, List.set_cons_succ]
    refine wpAnyH_take (i := 7) (oi := ?oiT7x) (v := ?vT7x) ?hiT7x (by kernel_rfl) (by kernel_rfl) (by kernel_rfl) ?hqT7x ?hyT7x (by assumption) ?restT7x
    case hiT7x => (simp only [List.getElem?_toArray, List.getElem?_cons_succ, List.getElem?_cons_zero] <;> rfl)
    case hqT7x => exact fun _ _ _ h => h
    case hyT7x => exact Or.inl ⟨by rfl, by (intro wS hSw; have s0 := F0.out wS hSw; have s1 := F1.out wS hSw; have s2 := F2.out wS hSw; go_simp; try with_reducible rfl)⟩
    try simp only [Act.put, List.setIfInBounds_toArray, List.set_cons_zero, List.set_cons_succ]
    refine wpAnyH_ready (rs := [2]) (by kernel_rfl) (by simp) ?_
    refine AllReadyH.cons (o := ?oiT2x) ?hiT2x (fun K hK => ?hsT2x) AllReadyH.nil
    case hiT2x => (simp only [List.getElem?_toArray, List.getElem?_cons_succ, List.getElem?_cons_zero] <;> rfl)
    go_simp
    refine (words_superN sn hs4 _).mono ?_
    rintro e w3 ⟨v3, rfl, o3, b3⟩
    rw [HP.out] at o3
    have hG3 : Lx wa w3 := Lx.step (by assumption) b3
    have R3 := Lib.hid (rowAt_own o3)
    obtain ⟨a3, k3, rfl⟩ := R3.out.form
    clear o3 b3
    go_wp2_with fail
    refine hK.out _ _ hG3 (fun hHeld3 => ?_)
    clear hK K
    try simp only [Act.put, List.setIfInBounds_toArray, List.set_cons_zero, List.set_cons_succ]
    refine wpAnyH_ready (rs := [5]) (by kernel_rfl) (by simp) ?_
    refine AllReadyH.cons (o := ?oiT5x) ?hiT5x (fun K hK => ?hsT5x) AllReadyH.nil
    case hiT5x => (simp only [List.getElem?_toArray, List.getElem?_cons_succ, List.getElem?_cons_zero] <;> rfl)
    go_simp
    refine (words_typeN tn ht6 _).mono ?_
    rintro e w4 ⟨v4, rfl, o4, b4⟩
    rw [HQ.out] at o4
    have hG4 : Lx wa w4 := Lx.step (by assumption) b4
    have R4 := Lib.hid (rowAt_own o4)
    obtain ⟨a4, k4, rfl⟩ := R4.out.form
    have R3 := Lib.hid (R3.out.below b4)
    clear o4 b4
    go_wp2_with fail
    refine hK.out _ _ hG4 (fun hHeld4 => ?_)
    clear hK K
    try simp only [Act.put, List.setIfInBounds_toArray, List.set_cons_zero, List.set_cons_succ]
    refine wpAnyH_ready (rs := [8]) (by kernel_rfl) (by simp) ?_
    refine AllReadyH.cons (o := ?oiT8x) ?hiT8x (fun K hK => ?hsT8x) AllReadyH.nil
    case hiT8x => (simp only [List.getElem?_toArray, List.getElem?_cons_succ, List.getElem?_cons_zero] <;> rfl)
    go_simp
    have hG8 := fun o => Lx.alloc hG4 o
    refine hK.out _ _ (hG8 _) (fun hHeld8 => ?_)
    clear hK K
    try simp only [Act.put, List.setIfInBounds_toArray, List.set_cons_zero, List.set_cons_succ]
    refine wpAnyH_ready (rs := [9]) (by kernel_rfl) (by simp) ?_
    refine AllReadyH.cons (o := ?oiT9x) ?hiT9x (fun K hK => ?hsT9x) AllReadyH.nil
    case hiT9x => (simp only [List.getElem?_toArray, List.getElem?_cons_succ, List.getElem?_cons_zero] <;> rfl)
    go_simp
    have hal := (Below.refl w4.heap.size w4).alloc (Nat.le_refl _) (.cells #[.slice a3 (pk supers sn 2).length k3, .slice a4 (pk types tn 6).length k4, .slice ao xs.length cap] 22)
    refine (concat_three w4.heap.size (.slice a3 (pk supers sn 2).length k3) (.slice a4 (pk types tn 6).length k4) (.slice ao xs.length cap) (pk supers sn 2) (pk types tn 6) xs _ (by simp) (cells_new w4 [.slice a3 (pk supers sn 2).length k3, .slice a4 (pk types tn 6).length k4, .slice ao xs.length cap] 22 0 _ rfl) (cells_new w4 [.slice a3 (pk supers sn 2).length k3, .slice a4 (pk types tn 6).length k4, .slice ao xs.length cap] 22 1 _ rfl) (cells_new w4 [.slice a3 (pk supers sn 2).length k3, .slice a4 (pk types tn 6).length k4, .slice ao xs.length cap] 22 2 _ rfl) (R3.out.below hal) (R4.out.below hal) ((RX.out.below hG4).below hal) (by have := HL1.out; omega) (by have := HL2.out; omega) (by omega)).mono ?_
    rintro e w5 ⟨v5, rfl, o5, b5⟩
    rw [← HW.out] at o5
    have hG5 : Lx wa w5 := Lx.step (by assumption) b5
    have R5 := Lib.hid (rowAt_own o5)
    clear o5 b5 hal
    go_wp2_with fail
    refine hK.out _ _ hG5 (fun hHeld5 => ?_)
    clear hK K
    try simp only [Act.put, List.setIfInBounds_toArray, List.set_cons_zero, List.set_cons_succ]
    refine wpAnyH_take (i := 10) (oi := ?oiT10x) (v := ?vT10x) ?hiT10x (by kernel_rfl) (by kernel_rfl) (by kernel_rfl) ?hqT10x ?hyT10x (by assumption) ?restT10x
    case hiT10x => (simp only [List.getElem?_toArray, List.getElem?_cons_succ, List.getElem?_cons_zero] <;> rfl)
    case hqT10x => exact fun _ _ _ h => h
    case hyT10x => exact Or.inl ⟨by rfl, by (intro wS hSw; have s0 := F0.out wS hSw; have s1 := F1.out wS hSw; have s2 := F2.out wS hSw; go_simp; try with_reducible rfl)⟩
    try simp only [Act.put, List.setIfInBounds_toArray, List.set_cons_zero, List.set_cons_succ]
    refine wpAnyH_done (by kernel_rfl) ?_ _
    refine NoPanic.normal ?_
    go_wp2_with fail
    refine (join_jo v5 _ ⟨#[32]⟩ _ R5.out (by have := HL.out; omega) (by have := HL.out; have := HJ.out; omega)).mono ?_
    rintro e w6 ⟨rfl, b6⟩
    go_wp2_with fail
    go_ret
    exact ⟨by rw [HT.out] <;> rfl, BA.out.trans ((Lx.step hG5 b6).mono BA.out.size)⟩
end Go.Proofs.YtgnffmlcjnnneaaDoor
