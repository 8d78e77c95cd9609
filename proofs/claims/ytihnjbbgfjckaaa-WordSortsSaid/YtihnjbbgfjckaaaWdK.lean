/- Chapter 02: the reference's Sort and Join, and the bound on a list of strings. -/
import Derived.Test.YtihnjbbgfjckaaaWdJ
namespace Go.Proofs.Ytihnjbbgfjckaaa
open Go Go.RowKit Go.Sort Cg
theorem strsElem : ElemIs Try.prog 25 9 (.string ⟨#[]⟩) 1 16 := elemIs_mk Try.underlying25 (by kernel_rfl) rfl (by decide)
def QW (w w' : World) : Prop := ∃ n, w' = w.drewN n
theorem QW.below {w w' : World} (h : QW w w') : Below w.heap.size w w' := by
  obtain ⟨m, rfl⟩ := h
  exact drewN_grow w m
theorem while_take {α : Type} (p : α → Bool) : ∀ (l : List α) (k : Nat), (∀ j (h : j < l.length), j < k → p l[j] = true) → k ≤ l.length → (∀ (h : k < l.length), p l[k] = false) → l.takeWhile p = l.take k ∧ l.dropWhile p = l.drop k
  | [], k, _, hk, _ => by have : k = 0 := by simpa using hk
                          subst this; simp
  | a :: l, 0, _, _, h3 => by
    have := h3 (by simp)
    rw [List.getElem_cons_zero] at this
    simp [this]
  | a :: l, k + 1, h1, hk, h3 => by
    have h0 := h1 0 (by simp) (by omega)
    rw [List.getElem_cons_zero] at h0
    obtain ⟨e1, e2⟩ := while_take p l k (fun j h hj => by have := h1 (j + 1) (by simp; omega) (by omega); rwa [List.getElem_cons_succ] at this) (by simpa using hk) (fun h => by have := h3 (by simp; omega); rwa [List.getElem_cons_succ] at this)
    rw [List.takeWhile_cons, List.dropWhile_cons, if_pos h0, if_pos h0, e1, e2]
    exact ⟨rfl, rfl⟩
/-- The reference's second loop: what it has added after the elements below k. -/
def rest (x : ByteArray) (out : List ByteArray) (k0 k : Nat) : List ByteArray := ((out.drop k0).take (k - k0)).filter fun y => decide (¬ y = x)
theorem rest_hit (x : ByteArray) (out : List ByteArray) (k0 k : Nat) (h0 : k0 ≤ k) (h : k < out.length) (hp : ¬ out[k] = x) : rest x out k0 (k + 1) = rest x out k0 k ++ [out[k]] := by
  rw [rest, show k + 1 - k0 = (k - k0) + 1 by omega, List.take_succ_eq_append_getElem (by rw [List.length_drop]; omega), List.filter_append, List.getElem_drop]
  simp only [show k0 + (k - k0) = k by omega]
  rw [List.filter_cons, if_pos (by simpa using hp), List.filter_nil]; rfl
theorem rest_miss (x : ByteArray) (out : List ByteArray) (k0 k : Nat) (h0 : k0 ≤ k) (h : k < out.length) (hp : out[k] = x) : rest x out k0 (k + 1) = rest x out k0 k := by
  rw [rest, show k + 1 - k0 = (k - k0) + 1 by omega, List.take_succ_eq_append_getElem (by rw [List.length_drop]; omega), List.filter_append, List.getElem_drop]
  simp only [show k0 + (k - k0) = k by omega]
  rw [List.filter_cons, if_neg (by simpa using hp), List.filter_nil, List.append_nil]; rfl
theorem rest_len (x : ByteArray) (out : List ByteArray) (k0 k : Nat) : (rest x out k0 k).length ≤ out.length := by
  refine Nat.le_trans (List.length_filter_le _ _) ?_
  rw [List.length_take, List.length_drop]
  omega
theorem rest_ins (x : ByteArray) (out : List ByteArray) (k0 : Nat) (h1 : ∀ j (h : j < out.length), j < k0 → ltS out[j] x = true) (hk : k0 ≤ out.length) (h3 : ∀ (h : k0 < out.length), ltS out[k0] x = false) :
    (out.take k0 ++ [x]) ++ rest x out k0 out.length = ins ltS x out := by
  obtain ⟨e1, e2⟩ := while_take (ltS · x) out k0 h1 hk h3
  rw [ins, e1, e2, rest, show (out.drop k0).take (out.length - k0) = out.drop k0 from List.take_of_length_le (by rw [List.length_drop]; exact Nat.le_refl _), List.append_assoc]
  rfl
set_option maxRecDepth 100000 in
set_option maxHeartbeats 2000000 in
theorem wsort_ref (v : Value) (xs : List ByteArray) (w : World) (h : RowAt Value.string w v xs) (hn : xs.length ≤ 1000) :
    Calls Try.prog 41 #[v] w fun e w' => ∃ v', e = .returned v' ∧ w'.ownsRow w.heap.size 9 1 v' (insAll ltS [] xs).length ((insAll ltS [] xs).map Value.string) ∧ Below w.heap.size w w' := by
  have RX := Lib.hid h
  obtain ⟨ax, cx, rfl⟩ := h.form
  clear h
  go_enter Try.func41, Try.ntmps41
  go_wp2_with fail
  go_loopw [3, 4] (fun out i wr => ∃ k : Nat, k ≤ xs.length ∧ i = .int .i64 k ∧ wr.ownsRow w.heap.size 9 1 out (insAll ltS [] (xs.take k)).length ((insAll ltS [] (xs.take k)).map Value.string) ∧ Below w.heap.size w wr) (fun _ i _ => xs.length - (intOf i).toNat)
  case atStart => exact ⟨0, by omega, rfl, World.ownsRow_nil _ _ _ _, Below.refl _ _⟩
  case round =>
    obtain ⟨i, hi, rfl, hown, hnx⟩ := hrel
    by_cases hlt : i < xs.length
    · have HS := Lib.hid (show insAll ltS [] (xs.take (i + 1)) = ins ltS xs[i] (insAll ltS [] (xs.take i)) by rw [List.take_succ_eq_append_getElem hlt, insAll_snoc])
      have hol : (insAll ltS [] (xs.take i)).length ≤ 1000 := by have := insAll_len ltS (xs.take i) []; have h4 : (xs.take i).length ≤ i := List.length_take_le _ _; simp only [List.length_nil] at this; omega
      have RX1 := RX.out.below hnx
      obtain ⟨ao, cap, he, hcap, hx⟩ := RX1
      simp only [Value.slice.injEq, true_and] at he
      obtain ⟨rfl, rfl⟩ := he
      rcases hx with e | ⟨bx, ox, rfl, hbx, hcx⟩
      · rw [e] at hlt; simp at hlt
      have CX := Lib.hid (hcx i xs[i] (by simp))
      obtain ⟨x, hxx⟩ : ∃ x, x = xs[i] := ⟨_, rfl⟩
      obtain ⟨out, hout⟩ : ∃ out, out = insAll ltS [] (xs.take i) := ⟨_, rfl⟩
      rw [← hxx] at CX HS
      rw [← hout] at hown HS hol
      clear hxx hcx hout hcap
      have RO := rowAt_own hown
      obtain ⟨ao, co, rfl⟩ := RO.form
      have RO := Lib.hid RO
      have HNX := Lib.hid hnx
      clear hown hnx
      obtain ⟨wo, rfl⟩ : ∃ wo, wo = wr := ⟨_, rfl⟩
      go_wp2_with fail
      go_loopw [5, 6] (fun nxt k w2 => ∃ j : Nat, j ≤ out.length ∧ k = .int .i64 j ∧ w2.ownsRow wo.heap.size 9 1 nxt (out.take j).length ((out.take j).map Value.string) ∧ Below wo.heap.size wo w2 ∧ Hid (∀ m (h : m < out.length), m < j → ltS out[m] x = true)) (fun _ k _ => out.length - (intOf k).toNat)
      case atStart => exact ⟨0, by omega, rfl, World.ownsRow_nil _ _ _ _, Below.refl _ _, Lib.hid fun m h hm => by omega⟩
      case round =>
        obtain ⟨j, hj, rfl, hown, hnx, HJ⟩ := hrel
        have HN2 := Lib.hid hnx
        by_cases hgo : ∃ h : j < out.length, ltS out[j] x = true
        · obtain ⟨hjl, hlts⟩ := hgo
          obtain ⟨ao', cap, he, hcap, hx⟩ := RO.out
          simp only [Value.slice.injEq, true_and] at he
          obtain ⟨rfl, rfl⟩ := he
          rcases hx with e | ⟨bo, oo, rfl, hbo, hco⟩
          · rw [e] at hjl; simp at hjl
          have co := (hnx.cell (p := ⟨bo, oo + j, none⟩) hbo).trans (hco j out[j] (by simp))
          have cxi := (hnx.cell (p := ⟨bx, ox + i, none⟩) hbx).trans CX.out
          have HT := Lib.hid (show out.take (j + 1) = out.take j ++ [out[j]] from List.take_succ_eq_append_getElem hjl)
          have H2 : Hid (∀ m (h : m < out.length), m < j + 1 → ltS out[m] x = true) := Lib.hid fun m h hm => by
            by_cases e : m = j
            · subst e; exact hlts
            · exact HJ.out m h (by omega)
          have hln : (out.take j).length ≤ 1000 := by have h4 : (out.take j).length ≤ j := List.length_take_le _ _; omega
          obtain ⟨y, hy⟩ : ∃ y, y = out[j] := ⟨_, rfl⟩
          rw [← hy] at co hlts HT
          have hbl : Op.bytesLess y.toList x.toList = true := hlts
          have i0 : (0 : Int) ≤ (j : Int) := by omega
          have i1 : (j : Int) < (out.length : Int) := by omega
          have i2 : (0 : Int) ≤ (i : Int) := by omega
          have i3 : (i : Int) < (xs.length : Int) := by omega
          clear hy hco hcap hlts HJ
          go_wp2_with fail
          go_quiet (fail)
          rename_i nq
          have hown := own_block hown (drewN_grow _ nq)
          have hnx := hnx.trans ((drewN_grow _ nq).mono hnx.size)
          go_wp2_with (at_builtin; refine wpList_append_new rfl (.tmp 28) (.tmp 33) 25 rfl wo.heap.size strsElem _ _ _ rfl hown [.string y] rfl rfl rfl (by omega) (by omega) hnx.size ?_; intro v' w3 hown' hbel _)
          go_roundw
          case rel => exact ⟨j + 1, by omega, by go_num, by rw [HT.out]; simpa using hown', hnx.trans hbel, H2⟩
          case measure => simp [intOf]; omega
        · have HST := Lib.hid (fun (h : j < out.length) => (show ltS out[j] x = false by
            cases hb : ltS out[j] x
            · rfl
            · exact absurd ⟨h, hb⟩ hgo))
          have HI := Lib.hid (rest_ins x out j HJ.out hj HST.out)
          have cxi := (hnx.cell (p := ⟨bx, ox + i, none⟩) hbx).trans CX.out
          have hln : (out.take j).length ≤ 1000 := by have h4 : (out.take j).length ≤ j := List.length_take_le _ _; omega
          have i0 : (0 : Int) ≤ (j : Int) := by omega
          have i2 : (0 : Int) ≤ (i : Int) := by omega
          have i3 : (i : Int) < (xs.length : Int) := by omega
          obtain ⟨t0, ht0⟩ : ∃ t0, t0 = out.take j := ⟨_, rfl⟩
          rw [← ht0] at hown HI hln
          clear HJ hgo ht0
          rcases Nat.lt_or_ge j out.length with hjl | hjl
          · obtain ⟨ao', cap, he, hcap, hx⟩ := RO.out
            simp only [Value.slice.injEq, true_and] at he
            obtain ⟨rfl, rfl⟩ := he
            rcases hx with e | ⟨bo, oo, rfl, hbo, hco⟩
            · rw [e] at hjl; simp at hjl
            have co := (hnx.cell (p := ⟨bo, oo + j, none⟩) hbo).trans (hco j out[j] (by simp))
            have hbl0 : ltS out[j] x = false := HST.out hjl
            obtain ⟨y, hy⟩ : ∃ y, y = out[j] := ⟨_, rfl⟩
            rw [← hy] at co hbl0
            have hbl : Op.bytesLess y.toList x.toList = false := hbl0
            have i1 : (j : Int) < (out.length : Int) := by omega
            clear hy hco hcap hbl0 HST
            go_wp2_with fail
            go_quiet (fail)
            rename_i nq
            have hown := own_block hown (drewN_grow _ nq)
            have hnx := hnx.trans ((drewN_grow _ nq).mono hnx.size)
            clear co hbl
            go_wp2_with (at_builtin; refine wpList_append_new rfl (.tmp 37) (.tmp 42) 25 rfl wo.heap.size strsElem _ _ _ rfl hown [.string x] rfl rfl rfl (by omega) (by omega) hnx.size ?_; intro v' w3 hown' hbel _)
            have hnx3 := hnx.trans hbel
            have hown3 : w3.ownsRow wo.heap.size 9 1 v' (t0 ++ [x]).length ((t0 ++ [x]).map Value.string) := by simpa using hown'
            clear hown hown' hnx hbel
            go_loopw [5, 6] (fun nxt k w2 => ∃ m : Nat, j ≤ m ∧ m ≤ out.length ∧ k = .int .i64 m ∧ w2.ownsRow wo.heap.size 9 1 nxt ((t0 ++ [x]) ++ rest x out j m).length (((t0 ++ [x]) ++ rest x out j m).map Value.string) ∧ Below wo.heap.size wo w2) (fun _ k _ => out.length - (intOf k).toNat)
            case atStart => exact ⟨j, Nat.le_refl _, hj, rfl, by rw [show rest x out j j = [] by simp [rest], List.append_nil]; exact hown3, hnx3⟩
            case round =>
              obtain ⟨m, hjm, hm, rfl, hown, hnx⟩ := hrel
              clear hown3 hnx3 cxi
              have cxi := (hnx.cell (p := ⟨bx, ox + i, none⟩) hbx).trans CX.out
              by_cases hlm : m < out.length
              · obtain ⟨ao', cap, he, hcap, hx⟩ := RO.out
                simp only [Value.slice.injEq, true_and] at he
                obtain ⟨he1, rfl⟩ := he
                rcases hx with e | ⟨bo, oo, hao, hbo, hco⟩
                · rw [e] at hlm; simp at hlm
                rw [hao] at he1
                cases he1
                have co := (hnx.cell (p := ⟨bo, oo + m, none⟩) hbo).trans (hco m out[m] (by simp))
                have H1 := Lib.hid (rest_hit x out j m hjm hlm)
                have H2 := Lib.hid (rest_miss x out j m hjm hlm)
                have hrl := rest_len x out j m
                obtain ⟨y, hy⟩ : ∃ y, y = out[m] := ⟨_, rfl⟩
                obtain ⟨l, hl⟩ : ∃ l, l = rest x out j m := ⟨_, rfl⟩
                rw [← hy] at co H1 H2
                rw [← hl] at hown H1 H2 hrl
                have j0 : (0 : Int) ≤ (m : Int) := by omega
                have j1 : (m : Int) < (out.length : Int) := by omega
                have hll : ((t0 ++ [x]) ++ l).length ≤ 3000 := by simp only [List.length_append, List.length_cons, List.length_nil]; omega
                obtain ⟨z, hz⟩ : ∃ z, z = (t0 ++ [x]) ++ l := ⟨_, rfl⟩
                rw [← hz] at hown hll
                have HZ := Lib.hid hz
                clear hy hl hz hco hcap
                by_cases hp : y = x
                · have HS2 := Lib.hid (show (t0 ++ [x]) ++ rest x out j (m + 1) = z by rw [H2.out hp, HZ.out])
                  have ht := same_true hp
                  clear hp H1 H2
                  go_wp2_with fail
                  go_quiet (fail)
                  rename_i nq
                  have hown := own_block hown (drewN_grow _ nq)
                  have hnx := hnx.trans ((drewN_grow _ nq).mono hnx.size)
                  go_wp2_with fail
                  go_roundw
                  case rel => exact ⟨m + 1, by omega, by omega, by go_num, by rw [HS2.out]; exact hown, hnx⟩
                  case measure => simp [intOf]; omega
                · have HS2 := Lib.hid (show (t0 ++ [x]) ++ rest x out j (m + 1) = z ++ [y] by rw [H1.out hp, HZ.out]; simp)
                  have ht := same_false hp
                  clear hp H1 H2
                  go_wp2_with fail
                  go_quiet (fail)
                  rename_i nq
                  have hown := own_block hown (drewN_grow _ nq)
                  have hnx := hnx.trans ((drewN_grow _ nq).mono hnx.size)
                  go_wp2_with (at_builtin; refine wpList_append_new rfl (.tmp 57) (.tmp 62) 25 rfl wo.heap.size strsElem _ _ _ rfl hown [.string y] rfl rfl rfl (by omega) (by omega) hnx.size ?_; intro v' w3 hown' hbel _)
                  go_roundw
                  case rel => exact ⟨m + 1, by omega, by omega, by go_num, by rw [HS2.out]; simpa using hown', hnx.trans hbel⟩
                  case measure => simp [intOf]; omega
              · obtain rfl : m = out.length := by omega
                rw [HI.out, ← HS.out] at hown
                clear cxi
                go_wp2_with fail
                go_roundw
                case rel => exact ⟨i + 1, by omega, by go_num, own_low hown HNX.out.size, HNX.out.trans (hnx.mono HNX.out.size)⟩
                case measure => simp [intOf]; omega
          · have hdf : decide (j < out.length) = false := decide_eq_false (by omega)
            clear HST
            go_wp2_with fail
            go_quiet (fail)
            rename_i nq
            have hown := own_block hown (drewN_grow _ nq)
            have hnx := hnx.trans ((drewN_grow _ nq).mono hnx.size)
            clear hdf
            go_wp2_with (at_builtin; refine wpList_append_new rfl (.tmp 37) (.tmp 42) 25 rfl wo.heap.size strsElem _ _ _ rfl hown [.string x] rfl rfl rfl (by omega) (by omega) hnx.size ?_; intro v' w3 hown' hbel _)
            have hnx3 := hnx.trans hbel
            have hown3 : w3.ownsRow wo.heap.size 9 1 v' (t0 ++ [x]).length ((t0 ++ [x]).map Value.string) := by simpa using hown'
            clear hown hown' hnx hbel
            go_loopw [5, 6] (fun nxt k w2 => ∃ m : Nat, j ≤ m ∧ m ≤ out.length ∧ k = .int .i64 m ∧ w2.ownsRow wo.heap.size 9 1 nxt ((t0 ++ [x]) ++ rest x out j m).length (((t0 ++ [x]) ++ rest x out j m).map Value.string) ∧ Below wo.heap.size wo w2) (fun _ k _ => out.length - (intOf k).toNat)
            case atStart => exact ⟨j, Nat.le_refl _, hj, rfl, by rw [show rest x out j j = [] by simp [rest], List.append_nil]; exact hown3, hnx3⟩
            case round =>
              obtain ⟨m, hjm, hm, rfl, hown, hnx⟩ := hrel
              clear hown3 hnx3 cxi
              have cxi := (hnx.cell (p := ⟨bx, ox + i, none⟩) hbx).trans CX.out
              by_cases hlm : m < out.length
              · exfalso; omega
              · obtain rfl : m = out.length := by omega
                rw [HI.out, ← HS.out] at hown
                clear cxi
                go_wp2_with fail
                go_roundw
                case rel => exact ⟨i + 1, by omega, by go_num, own_low hown HNX.out.size, HNX.out.trans (hnx.mono HNX.out.size)⟩
                case measure => simp [intOf]; omega
    · obtain rfl : i = xs.length := by omega
      rw [List.take_length] at hown
      go_wp2_with fail
      go_ret
      exact ⟨_, rfl, hown, hnx⟩
end Go.Proofs.Ytihnjbbgfjckaaa
