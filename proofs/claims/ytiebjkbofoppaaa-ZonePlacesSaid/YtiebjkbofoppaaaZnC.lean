/- Chapter 25: slices.Clone at every element type of the states. -/
import Derived.Test.YtiebjkbofoppaaaZnA
import Derived.Test.YtiebjkbofoppaaaCl
import Derived.Shelf.Abstract
import Derived.Lib.SliceRun
namespace Go.Proofs.Ytiebjkbofoppaaa
open Go Go.RowKit Go.Sort Cg
def elemB (P : Program) (e : TypeId) (k b : Nat) : Bool := match P.info? e with
  | some i => i.size == k && i.bytes == b && (match i.zero with
    | some z => z.cells.size == k
    | none => false)
  | none => false
theorem elemIs_of {P : Program} {t e : TypeId} {k b : Nat} (h1 : P.underlying t = some (.slice e)) (h4 : 0 < k) (h : elemB P e k b = true) : ∃ z, ElemIs P t e z k b := by
  unfold elemB at h
  cases hi : P.info? e with
  | none => rw [hi] at h; cases h
  | some i =>
    rw [hi] at h
    simp only [Bool.and_eq_true, beq_iff_eq] at h
    obtain ⟨⟨h2, h3⟩, h5⟩ := h
    cases hz : i.zero with
    | none => rw [hz] at h5; cases h5
    | some z =>
      rw [hz] at h5
      simp only [beq_iff_eq] at h5
      exact ⟨z, h1, h5, h4, i, hi, hz, h2, h3⟩
theorem empty_own (w : World) (base : Nat) (hb : base ≤ w.heap.size) (t : TypeId) (k : Nat) : (w.alloc (.cells #[] t)).ownsRow base t k (.slice (some ⟨w.heap.size, 0, none⟩) 0 0) 0 [] := World.ownsRow_made w #[] 0 hb (by simp) (by simp)
theorem elemint : ∃ z, ElemIs Try.prog 24 3 z 1 8 := elemIs_of Try.underlying24 (by decide) (by kernel_rfl)
set_option maxRecDepth 100000 in
set_option maxHeartbeats 400000 in
theorem cloneint (v : Value) (es : List (Cl 1)) (w : World) (h : RowC 1 w v es) (hb : es.length * 8 ≤ 140737488355328) : Calls Try.prog 54 #[v] w fun e w' => ∃ v', e = .returned v' ∧ w'.ownsRow w.heap.size 3 1 v' es.length (es.flatMap Subtype.val) ∧ Below w.heap.size w w' := by
  obtain ⟨z, hE⟩ := elemint
  have HR := Lib.hid (h.below ((Below.refl w.heap.size w).alloc (Nat.le_refl _) (.cells #[] 3)))
  obtain ⟨ao, cap, rfl, ⟨hc, hn⟩, _⟩ := h
  have HE := Lib.hid hE
  have HO := Lib.hid (empty_own w w.heap.size (Nat.le_refl _) 3 1)
  have HA := Lib.hid ((Below.refl w.heap.size w).alloc (Nat.le_refl _) (.cells #[] 3))
  have q0 : ∀ (w : World) (a : Option Addr) (n c n' c' : Nat), (binOp .eql 24 (.slice a n c) (.slice none n' c')).run Try.prog w = .ok (.bool a.isNone) w := fun w a n c n' c' => Lib.run_eql_slice_nil w _ _ a n c n' c' Try.underlying24
  clear hE
  cases ao with
  | none =>
    have hc0 := hn rfl
    subst hc0
    have he : es = [] := List.eq_nil_of_length_eq_zero (by omega)
    subst he
    clear HR hn
    go_enter Try.func54, Try.ntmps54
    go_wp2_with fail
    go_ret
    exact ⟨_, rfl, World.ownsRow_nil _ _ _ _, Below.refl _ _⟩
  | some ad =>
    clear hn
    go_enter Try.func54, Try.ntmps54
    go_wp2_with (at_builtin; refine wpList_append_rowK rfl (.tmp 5) (.tmp 6) 24 rfl w.heap.size HE.out _ 0 [] rfl HO.out Subtype.val Cl.len Cl.one es _ rfl HR.out (by omega) (by omega) HA.out.size ?_; intro v1 w1 own1 _ bel1; have O1 := Lib.hid own1; have B1 := Lib.hid bel1; clear own1 bel1)
    go_ret
    have := O1.out
    rw [Nat.zero_add, List.nil_append] at this
    exact ⟨_, rfl, this, HA.out.trans B1.out⟩
theorem elemObject : ∃ z, ElemIs Try.prog 23 47 z 19 128 := elemIs_of Try.underlying23 (by decide) (by kernel_rfl)
set_option maxRecDepth 100000 in
set_option maxHeartbeats 400000 in
theorem cloneObject (v : Value) (es : List (Cl 19)) (w : World) (h : RowC 19 w v es) (hb : es.length * 128 ≤ 140737488355328) : Calls Try.prog 53 #[v] w fun e w' => ∃ v', e = .returned v' ∧ w'.ownsRow w.heap.size 47 19 v' es.length (es.flatMap Subtype.val) ∧ Below w.heap.size w w' := by
  obtain ⟨z, hE⟩ := elemObject
  have HR := Lib.hid (h.below ((Below.refl w.heap.size w).alloc (Nat.le_refl _) (.cells #[] 47)))
  obtain ⟨ao, cap, rfl, ⟨hc, hn⟩, _⟩ := h
  have HE := Lib.hid hE
  have HO := Lib.hid (empty_own w w.heap.size (Nat.le_refl _) 47 19)
  have HA := Lib.hid ((Below.refl w.heap.size w).alloc (Nat.le_refl _) (.cells #[] 47))
  have q0 : ∀ (w : World) (a : Option Addr) (n c n' c' : Nat), (binOp .eql 23 (.slice a n c) (.slice none n' c')).run Try.prog w = .ok (.bool a.isNone) w := fun w a n c n' c' => Lib.run_eql_slice_nil w _ _ a n c n' c' Try.underlying23
  clear hE
  cases ao with
  | none =>
    have hc0 := hn rfl
    subst hc0
    have he : es = [] := List.eq_nil_of_length_eq_zero (by omega)
    subst he
    clear HR hn
    go_enter Try.func53, Try.ntmps53
    go_wp2_with fail
    go_ret
    exact ⟨_, rfl, World.ownsRow_nil _ _ _ _, Below.refl _ _⟩
  | some ad =>
    clear hn
    go_enter Try.func53, Try.ntmps53
    go_wp2_with (at_builtin; refine wpList_append_rowK rfl (.tmp 5) (.tmp 6) 23 rfl w.heap.size HE.out _ 0 [] rfl HO.out Subtype.val Cl.len Cl.one es _ rfl HR.out (by omega) (by omega) HA.out.size ?_; intro v1 w1 own1 _ bel1; have O1 := Lib.hid own1; have B1 := Lib.hid bel1; clear own1 bel1)
    go_ret
    have := O1.out
    rw [Nat.zero_add, List.nil_append] at this
    exact ⟨_, rfl, this, HA.out.trans B1.out⟩
theorem elemPlayer : ∃ z, ElemIs Try.prog 22 59 z 14 152 := elemIs_of Try.underlying22 (by decide) (by kernel_rfl)
set_option maxRecDepth 100000 in
set_option maxHeartbeats 400000 in
theorem clonePlayer (v : Value) (es : List (Cl 14)) (w : World) (h : RowC 14 w v es) (hb : es.length * 152 ≤ 140737488355328) : Calls Try.prog 51 #[v] w fun e w' => ∃ v', e = .returned v' ∧ w'.ownsRow w.heap.size 59 14 v' es.length (es.flatMap Subtype.val) ∧ Below w.heap.size w w' := by
  obtain ⟨z, hE⟩ := elemPlayer
  have HR := Lib.hid (h.below ((Below.refl w.heap.size w).alloc (Nat.le_refl _) (.cells #[] 59)))
  obtain ⟨ao, cap, rfl, ⟨hc, hn⟩, _⟩ := h
  have HE := Lib.hid hE
  have HO := Lib.hid (empty_own w w.heap.size (Nat.le_refl _) 59 14)
  have HA := Lib.hid ((Below.refl w.heap.size w).alloc (Nat.le_refl _) (.cells #[] 59))
  have q0 : ∀ (w : World) (a : Option Addr) (n c n' c' : Nat), (binOp .eql 22 (.slice a n c) (.slice none n' c')).run Try.prog w = .ok (.bool a.isNone) w := fun w a n c n' c' => Lib.run_eql_slice_nil w _ _ a n c n' c' Try.underlying22
  clear hE
  cases ao with
  | none =>
    have hc0 := hn rfl
    subst hc0
    have he : es = [] := List.eq_nil_of_length_eq_zero (by omega)
    subst he
    clear HR hn
    go_enter Try.func51, Try.ntmps51
    go_wp2_with fail
    go_ret
    exact ⟨_, rfl, World.ownsRow_nil _ _ _ _, Below.refl _ _⟩
  | some ad =>
    clear hn
    go_enter Try.func51, Try.ntmps51
    go_wp2_with (at_builtin; refine wpList_append_rowK rfl (.tmp 5) (.tmp 6) 22 rfl w.heap.size HE.out _ 0 [] rfl HO.out Subtype.val Cl.len Cl.one es _ rfl HR.out (by omega) (by omega) HA.out.size ?_; intro v1 w1 own1 _ bel1; have O1 := Lib.hid own1; have B1 := Lib.hid bel1; clear own1 bel1)
    go_ret
    have := O1.out
    rw [Nat.zero_add, List.nil_append] at this
    exact ⟨_, rfl, this, HA.out.trans B1.out⟩
theorem elemItem : ∃ z, ElemIs Try.prog 25 83 z 94 824 := elemIs_of Try.underlying25 (by decide) (by kernel_rfl)
set_option maxRecDepth 100000 in
set_option maxHeartbeats 400000 in
theorem cloneItem (v : Value) (es : List (Cl 94)) (w : World) (h : RowC 94 w v es) (hb : es.length * 824 ≤ 140737488355328) : Calls Try.prog 55 #[v] w fun e w' => ∃ v', e = .returned v' ∧ w'.ownsRow w.heap.size 83 94 v' es.length (es.flatMap Subtype.val) ∧ Below w.heap.size w w' := by
  obtain ⟨z, hE⟩ := elemItem
  have HR := Lib.hid (h.below ((Below.refl w.heap.size w).alloc (Nat.le_refl _) (.cells #[] 83)))
  obtain ⟨ao, cap, rfl, ⟨hc, hn⟩, _⟩ := h
  have HE := Lib.hid hE
  have HO := Lib.hid (empty_own w w.heap.size (Nat.le_refl _) 83 94)
  have HA := Lib.hid ((Below.refl w.heap.size w).alloc (Nat.le_refl _) (.cells #[] 83))
  have q0 : ∀ (w : World) (a : Option Addr) (n c n' c' : Nat), (binOp .eql 25 (.slice a n c) (.slice none n' c')).run Try.prog w = .ok (.bool a.isNone) w := fun w a n c n' c' => Lib.run_eql_slice_nil w _ _ a n c n' c' Try.underlying25
  clear hE
  cases ao with
  | none =>
    have hc0 := hn rfl
    subst hc0
    have he : es = [] := List.eq_nil_of_length_eq_zero (by omega)
    subst he
    clear HR hn
    go_enter Try.func55, Try.ntmps55
    go_wp2_with fail
    go_ret
    exact ⟨_, rfl, World.ownsRow_nil _ _ _ _, Below.refl _ _⟩
  | some ad =>
    clear hn
    go_enter Try.func55, Try.ntmps55
    go_wp2_with (at_builtin; refine wpList_append_rowK rfl (.tmp 5) (.tmp 6) 25 rfl w.heap.size HE.out _ 0 [] rfl HO.out Subtype.val Cl.len Cl.one es _ rfl HR.out (by omega) (by omega) HA.out.size ?_; intro v1 w1 own1 _ bel1; have O1 := Lib.hid own1; have B1 := Lib.hid bel1; clear own1 bel1)
    go_ret
    have := O1.out
    rw [Nat.zero_add, List.nil_append] at this
    exact ⟨_, rfl, this, HA.out.trans B1.out⟩
theorem elemTarget : ∃ z, ElemIs Try.prog 79 108 z 2 16 := elemIs_of Try.underlying79 (by decide) (by kernel_rfl)
set_option maxRecDepth 100000 in
set_option maxHeartbeats 400000 in
theorem cloneTarget (v : Value) (es : List (Cl 2)) (w : World) (h : RowC 2 w v es) (hb : es.length * 16 ≤ 140737488355328) : Calls Try.prog 57 #[v] w fun e w' => ∃ v', e = .returned v' ∧ w'.ownsRow w.heap.size 108 2 v' es.length (es.flatMap Subtype.val) ∧ Below w.heap.size w w' := by
  obtain ⟨z, hE⟩ := elemTarget
  have HR := Lib.hid (h.below ((Below.refl w.heap.size w).alloc (Nat.le_refl _) (.cells #[] 108)))
  obtain ⟨ao, cap, rfl, ⟨hc, hn⟩, _⟩ := h
  have HE := Lib.hid hE
  have HO := Lib.hid (empty_own w w.heap.size (Nat.le_refl _) 108 2)
  have HA := Lib.hid ((Below.refl w.heap.size w).alloc (Nat.le_refl _) (.cells #[] 108))
  have q0 : ∀ (w : World) (a : Option Addr) (n c n' c' : Nat), (binOp .eql 79 (.slice a n c) (.slice none n' c')).run Try.prog w = .ok (.bool a.isNone) w := fun w a n c n' c' => Lib.run_eql_slice_nil w _ _ a n c n' c' Try.underlying79
  clear hE
  cases ao with
  | none =>
    have hc0 := hn rfl
    subst hc0
    have he : es = [] := List.eq_nil_of_length_eq_zero (by omega)
    subst he
    clear HR hn
    go_enter Try.func57, Try.ntmps57
    go_wp2_with fail
    go_ret
    exact ⟨_, rfl, World.ownsRow_nil _ _ _ _, Below.refl _ _⟩
  | some ad =>
    clear hn
    go_enter Try.func57, Try.ntmps57
    go_wp2_with (at_builtin; refine wpList_append_rowK rfl (.tmp 5) (.tmp 6) 79 rfl w.heap.size HE.out _ 0 [] rfl HO.out Subtype.val Cl.len Cl.one es _ rfl HR.out (by omega) (by omega) HA.out.size ?_; intro v1 w1 own1 _ bel1; have O1 := Lib.hid own1; have B1 := Lib.hid bel1; clear own1 bel1)
    go_ret
    have := O1.out
    rw [Nat.zero_add, List.nil_append] at this
    exact ⟨_, rfl, this, HA.out.trans B1.out⟩
theorem elemWaiting : ∃ z, ElemIs Try.prog 26 92 z 89 768 := elemIs_of Try.underlying26 (by decide) (by kernel_rfl)
set_option maxRecDepth 100000 in
set_option maxHeartbeats 400000 in
theorem cloneWaiting (v : Value) (es : List (Cl 89)) (w : World) (h : RowC 89 w v es) (hb : es.length * 768 ≤ 140737488355328) : Calls Try.prog 58 #[v] w fun e w' => ∃ v', e = .returned v' ∧ w'.ownsRow w.heap.size 92 89 v' es.length (es.flatMap Subtype.val) ∧ Below w.heap.size w w' := by
  obtain ⟨z, hE⟩ := elemWaiting
  have HR := Lib.hid (h.below ((Below.refl w.heap.size w).alloc (Nat.le_refl _) (.cells #[] 92)))
  obtain ⟨ao, cap, rfl, ⟨hc, hn⟩, _⟩ := h
  have HE := Lib.hid hE
  have HO := Lib.hid (empty_own w w.heap.size (Nat.le_refl _) 92 89)
  have HA := Lib.hid ((Below.refl w.heap.size w).alloc (Nat.le_refl _) (.cells #[] 92))
  have q0 : ∀ (w : World) (a : Option Addr) (n c n' c' : Nat), (binOp .eql 26 (.slice a n c) (.slice none n' c')).run Try.prog w = .ok (.bool a.isNone) w := fun w a n c n' c' => Lib.run_eql_slice_nil w _ _ a n c n' c' Try.underlying26
  clear hE
  cases ao with
  | none =>
    have hc0 := hn rfl
    subst hc0
    have he : es = [] := List.eq_nil_of_length_eq_zero (by omega)
    subst he
    clear HR hn
    go_enter Try.func58, Try.ntmps58
    go_wp2_with fail
    go_ret
    exact ⟨_, rfl, World.ownsRow_nil _ _ _ _, Below.refl _ _⟩
  | some ad =>
    clear hn
    go_enter Try.func58, Try.ntmps58
    go_wp2_with (at_builtin; refine wpList_append_rowK rfl (.tmp 5) (.tmp 6) 26 rfl w.heap.size HE.out _ 0 [] rfl HO.out Subtype.val Cl.len Cl.one es _ rfl HR.out (by omega) (by omega) HA.out.size ?_; intro v1 w1 own1 _ bel1; have O1 := Lib.hid own1; have B1 := Lib.hid bel1; clear own1 bel1)
    go_ret
    have := O1.out
    rw [Nat.zero_add, List.nil_append] at this
    exact ⟨_, rfl, this, HA.out.trans B1.out⟩
theorem elemCont : ∃ z, ElemIs Try.prog 27 94 z 6 80 := elemIs_of Try.underlying27 (by decide) (by kernel_rfl)
set_option maxRecDepth 100000 in
set_option maxHeartbeats 400000 in
theorem cloneCont (v : Value) (es : List (Cl 6)) (w : World) (h : RowC 6 w v es) (hb : es.length * 80 ≤ 140737488355328) : Calls Try.prog 59 #[v] w fun e w' => ∃ v', e = .returned v' ∧ w'.ownsRow w.heap.size 94 6 v' es.length (es.flatMap Subtype.val) ∧ Below w.heap.size w w' := by
  obtain ⟨z, hE⟩ := elemCont
  have HR := Lib.hid (h.below ((Below.refl w.heap.size w).alloc (Nat.le_refl _) (.cells #[] 94)))
  obtain ⟨ao, cap, rfl, ⟨hc, hn⟩, _⟩ := h
  have HE := Lib.hid hE
  have HO := Lib.hid (empty_own w w.heap.size (Nat.le_refl _) 94 6)
  have HA := Lib.hid ((Below.refl w.heap.size w).alloc (Nat.le_refl _) (.cells #[] 94))
  have q0 : ∀ (w : World) (a : Option Addr) (n c n' c' : Nat), (binOp .eql 27 (.slice a n c) (.slice none n' c')).run Try.prog w = .ok (.bool a.isNone) w := fun w a n c n' c' => Lib.run_eql_slice_nil w _ _ a n c n' c' Try.underlying27
  clear hE
  cases ao with
  | none =>
    have hc0 := hn rfl
    subst hc0
    have he : es = [] := List.eq_nil_of_length_eq_zero (by omega)
    subst he
    clear HR hn
    go_enter Try.func59, Try.ntmps59
    go_wp2_with fail
    go_ret
    exact ⟨_, rfl, World.ownsRow_nil _ _ _ _, Below.refl _ _⟩
  | some ad =>
    clear hn
    go_enter Try.func59, Try.ntmps59
    go_wp2_with (at_builtin; refine wpList_append_rowK rfl (.tmp 5) (.tmp 6) 27 rfl w.heap.size HE.out _ 0 [] rfl HO.out Subtype.val Cl.len Cl.one es _ rfl HR.out (by omega) (by omega) HA.out.size ?_; intro v1 w1 own1 _ bel1; have O1 := Lib.hid own1; have B1 := Lib.hid bel1; clear own1 bel1)
    go_ret
    have := O1.out
    rw [Nat.zero_add, List.nil_append] at this
    exact ⟨_, rfl, this, HA.out.trans B1.out⟩
theorem elemMod : ∃ z, ElemIs Try.prog 65 113 z 20 176 := elemIs_of Try.underlying65 (by decide) (by kernel_rfl)
set_option maxRecDepth 100000 in
set_option maxHeartbeats 400000 in
theorem cloneMod (v : Value) (es : List (Cl 20)) (w : World) (h : RowC 20 w v es) (hb : es.length * 176 ≤ 140737488355328) : Calls Try.prog 60 #[v] w fun e w' => ∃ v', e = .returned v' ∧ w'.ownsRow w.heap.size 113 20 v' es.length (es.flatMap Subtype.val) ∧ Below w.heap.size w w' := by
  obtain ⟨z, hE⟩ := elemMod
  have HR := Lib.hid (h.below ((Below.refl w.heap.size w).alloc (Nat.le_refl _) (.cells #[] 113)))
  obtain ⟨ao, cap, rfl, ⟨hc, hn⟩, _⟩ := h
  have HE := Lib.hid hE
  have HO := Lib.hid (empty_own w w.heap.size (Nat.le_refl _) 113 20)
  have HA := Lib.hid ((Below.refl w.heap.size w).alloc (Nat.le_refl _) (.cells #[] 113))
  have q0 : ∀ (w : World) (a : Option Addr) (n c n' c' : Nat), (binOp .eql 65 (.slice a n c) (.slice none n' c')).run Try.prog w = .ok (.bool a.isNone) w := fun w a n c n' c' => Lib.run_eql_slice_nil w _ _ a n c n' c' Try.underlying65
  clear hE
  cases ao with
  | none =>
    have hc0 := hn rfl
    subst hc0
    have he : es = [] := List.eq_nil_of_length_eq_zero (by omega)
    subst he
    clear HR hn
    go_enter Try.func60, Try.ntmps60
    go_wp2_with fail
    go_ret
    exact ⟨_, rfl, World.ownsRow_nil _ _ _ _, Below.refl _ _⟩
  | some ad =>
    clear hn
    go_enter Try.func60, Try.ntmps60
    go_wp2_with (at_builtin; refine wpList_append_rowK rfl (.tmp 5) (.tmp 6) 65 rfl w.heap.size HE.out _ 0 [] rfl HO.out Subtype.val Cl.len Cl.one es _ rfl HR.out (by omega) (by omega) HA.out.size ?_; intro v1 w1 own1 _ bel1; have O1 := Lib.hid own1; have B1 := Lib.hid bel1; clear own1 bel1)
    go_ret
    have := O1.out
    rw [Nat.zero_add, List.nil_append] at this
    exact ⟨_, rfl, this, HA.out.trans B1.out⟩
theorem elemSpec : ∃ z, ElemIs Try.prog 73 133 z 18 144 := elemIs_of Try.underlying73 (by decide) (by kernel_rfl)
set_option maxRecDepth 100000 in
set_option maxHeartbeats 400000 in
theorem cloneSpec (v : Value) (es : List (Cl 18)) (w : World) (h : RowC 18 w v es) (hb : es.length * 144 ≤ 140737488355328) : Calls Try.prog 75 #[v] w fun e w' => ∃ v', e = .returned v' ∧ w'.ownsRow w.heap.size 133 18 v' es.length (es.flatMap Subtype.val) ∧ Below w.heap.size w w' := by
  obtain ⟨z, hE⟩ := elemSpec
  have HR := Lib.hid (h.below ((Below.refl w.heap.size w).alloc (Nat.le_refl _) (.cells #[] 133)))
  obtain ⟨ao, cap, rfl, ⟨hc, hn⟩, _⟩ := h
  have HE := Lib.hid hE
  have HO := Lib.hid (empty_own w w.heap.size (Nat.le_refl _) 133 18)
  have HA := Lib.hid ((Below.refl w.heap.size w).alloc (Nat.le_refl _) (.cells #[] 133))
  have q0 : ∀ (w : World) (a : Option Addr) (n c n' c' : Nat), (binOp .eql 73 (.slice a n c) (.slice none n' c')).run Try.prog w = .ok (.bool a.isNone) w := fun w a n c n' c' => Lib.run_eql_slice_nil w _ _ a n c n' c' Try.underlying73
  clear hE
  cases ao with
  | none =>
    have hc0 := hn rfl
    subst hc0
    have he : es = [] := List.eq_nil_of_length_eq_zero (by omega)
    subst he
    clear HR hn
    go_enter Try.func75, Try.ntmps75
    go_wp2_with fail
    go_ret
    exact ⟨_, rfl, World.ownsRow_nil _ _ _ _, Below.refl _ _⟩
  | some ad =>
    clear hn
    go_enter Try.func75, Try.ntmps75
    go_wp2_with (at_builtin; refine wpList_append_rowK rfl (.tmp 5) (.tmp 6) 73 rfl w.heap.size HE.out _ 0 [] rfl HO.out Subtype.val Cl.len Cl.one es _ rfl HR.out (by omega) (by omega) HA.out.size ?_; intro v1 w1 own1 _ bel1; have O1 := Lib.hid own1; have B1 := Lib.hid bel1; clear own1 bel1)
    go_ret
    have := O1.out
    rw [Nat.zero_add, List.nil_append] at this
    exact ⟨_, rfl, this, HA.out.trans B1.out⟩
theorem elemEffect : ∃ z, ElemIs Try.prog 74 121 z 64 560 := elemIs_of Try.underlying74 (by decide) (by kernel_rfl)
set_option maxRecDepth 100000 in
set_option maxHeartbeats 400000 in
theorem cloneEffect (v : Value) (es : List (Cl 64)) (w : World) (h : RowC 64 w v es) (hb : es.length * 560 ≤ 140737488355328) : Calls Try.prog 76 #[v] w fun e w' => ∃ v', e = .returned v' ∧ w'.ownsRow w.heap.size 121 64 v' es.length (es.flatMap Subtype.val) ∧ Below w.heap.size w w' := by
  obtain ⟨z, hE⟩ := elemEffect
  have HR := Lib.hid (h.below ((Below.refl w.heap.size w).alloc (Nat.le_refl _) (.cells #[] 121)))
  obtain ⟨ao, cap, rfl, ⟨hc, hn⟩, _⟩ := h
  have HE := Lib.hid hE
  have HO := Lib.hid (empty_own w w.heap.size (Nat.le_refl _) 121 64)
  have HA := Lib.hid ((Below.refl w.heap.size w).alloc (Nat.le_refl _) (.cells #[] 121))
  have q0 : ∀ (w : World) (a : Option Addr) (n c n' c' : Nat), (binOp .eql 74 (.slice a n c) (.slice none n' c')).run Try.prog w = .ok (.bool a.isNone) w := fun w a n c n' c' => Lib.run_eql_slice_nil w _ _ a n c n' c' Try.underlying74
  clear hE
  cases ao with
  | none =>
    have hc0 := hn rfl
    subst hc0
    have he : es = [] := List.eq_nil_of_length_eq_zero (by omega)
    subst he
    clear HR hn
    go_enter Try.func76, Try.ntmps76
    go_wp2_with fail
    go_ret
    exact ⟨_, rfl, World.ownsRow_nil _ _ _ _, Below.refl _ _⟩
  | some ad =>
    clear hn
    go_enter Try.func76, Try.ntmps76
    go_wp2_with (at_builtin; refine wpList_append_rowK rfl (.tmp 5) (.tmp 6) 74 rfl w.heap.size HE.out _ 0 [] rfl HO.out Subtype.val Cl.len Cl.one es _ rfl HR.out (by omega) (by omega) HA.out.size ?_; intro v1 w1 own1 _ bel1; have O1 := Lib.hid own1; have B1 := Lib.hid bel1; clear own1 bel1)
    go_ret
    have := O1.out
    rw [Nat.zero_add, List.nil_append] at this
    exact ⟨_, rfl, this, HA.out.trans B1.out⟩
end Go.Proofs.Ytiebjkbofoppaaa
