/- Parts of the proof, joined: Chapter 25, on trees: what the law Moves asks of a state; Chapter 25: the law Moves. -/
import Derived.Test.YtiebjkbofoppaaaVF
section
namespace Go.Proofs.Ytiebjkbofoppaaa
open Go Cg Go.RowKit Go.Sort
set_option maxRecDepth 100000 in
theorem old_ct (l : List Int) (n : Int) (hl : l.length * 8 ≤ limB) : Ct Try.prog 61 [.c (.t (.sl 1 (l.map encI))), .c (.t (iv n))] (AV.b (l.all fun i => decide (i < n))) [] true := by
 refine Ct.lit (b := false) ?_ rfl
 generalize hB : (l.all fun i => decide (i < n)) = B
 refine ct_of Try.func61 rfl (enters_of Try.func61 (by kernel_rfl) rfl) tabOk (by kernel_rfl) rfl rfl rfl rfl fun w0 O => Tp.run [7] ?_
 refine Tp.loop (fun k : Nat => ⟨[(1, .c (.t (iv n))), (7, .c (.t (.sl 1 (l.map encI)))), (8, .c (.t (iv (((l.map encI).length : Nat) : Int)))), (9, AV.i k)], [], [], 10000⟩) (fun k => k ≤ l.length ∧ ∀ j (h : j < l.length), j < k → l[j] < n) (fun k => l.length - k) 0 ?_ ⟨Nat.zero_le _, fun j _ h => by omega⟩ ?_
 ·refine wk_of [] rfl rfl ?_ ?_ ?_
  ·repeat' (first | refine And.intro ?_ ?_ | exact rfl | exact trivial | exact Exists.intro _ rfl | fail)
  ·repeat' (first | refine And.intro ?_ ?_ | exact rfl | exact trivial | exact Exists.intro _ rfl | fail)
  ·repeat' (first | refine And.intro ?_ ?_ | exact rfl | exact trivial | exact Exists.intro _ rfl | fail)
 rintro k ⟨hk, hno⟩
 refine Tp.run [5, 6] ?_
 refine cond_split (fun h => ?_) (fun h => ?_)
 ·have hlt := len_lt h
  refine Exists.intro k (Exists.intro (encI l[k]) (And.intro rfl (And.intro (map_get _ _ k hlt) ?_)))
  refine cond_split (fun h => ?_) (fun h => ?_)
  ·have h := of_decide_eq_true h
   refine Tp.run [] ?_
   have : B = false := by
    rw [← hB, List.all_eq_false]
    exact ⟨l[k], List.getElem_mem hlt, by simp only [decide_eq_true_eq]; omega⟩
   subst this
   refine Exists.intro [] (And.intro rfl (And.intro trivial ?_))
   repeat' (first | refine And.intro ?_ ?_ | exact rfl | exact trivial | exact Exists.intro _ rfl | fail)
  ·have h := of_decide_eq_false h
   refine Tp.run [] ?_
   refine Exists.intro (k + 1) (And.intro ⟨by omega, fun j hj hjk => ?_⟩ (And.intro (show l.length - (k + 1) < l.length - k by omega) ?_))
   ·by_cases e : j = k
    ·subst e; omega
    ·exact hno j hj (by omega)
   refine wk_of [] rfl rfl ?_ ?_ ?_
   ·repeat' (first | refine And.intro ?_ ?_ | exact rfl | exact trivial | exact Exists.intro _ rfl | fail)
    exact succ_eq k hlt 8 (by decide) hl
   ·repeat' (first | refine And.intro ?_ ?_ | exact rfl | exact trivial | exact Exists.intro _ rfl | fail)
   ·repeat' (first | refine And.intro ?_ ?_ | exact rfl | exact trivial | exact Exists.intro _ rfl | fail)
 ·have hk2 := len_ge h hk
  refine Tp.run [] ?_
  have : B = true := by
   rw [← hB, List.all_eq_true]
   intro x hx
   obtain ⟨j, hj, rfl⟩ := List.getElem_of_mem hx
   exact decide_eq_true (hno j hj (by omega))
  subst this
  refine Exists.intro [] (And.intro rfl (And.intro trivial ?_))
  repeat' (first | refine And.intro ?_ ?_ | exact rfl | exact trivial | exact Exists.intro _ rfl | fail)
open Classical in
set_option maxRecDepth 100000 in
set_option maxHeartbeats 4000000 in
theorem valid_ct (s : GState) (hs : s.ok) : Ct Try.prog 25 [.agg (s.enc.map .t)] (AV.b (decide (ValidM s))) [] true := by
 refine Ct.lit (b := false) ?_ rfl
 have hpl : s.players.length * 152 ≤ limB := hs.1
 have hob : s.objects.length * 128 ≤ limB := hs.2.2.1
 generalize hB : decide (ValidM s) = B
 refine ct_of Try.func25 rfl (enters_of Try.func25 (by kernel_rfl) rfl) tabOk (by kernel_rfl) rfl rfl rfl rfl fun w0 O => Tp.run [4,6,8,9,3,10,12,14,15,16,17,18,19,20,21] ?_
 refine Tp.loop (fun k : Nat => ⟨[(1, .ptr 0 0), (3, AV.i k)], [(0, s.enc.map .t)], [], 10000⟩) (fun k => k ≤ 5 ∧ ∀ z p : Nat, z < k → p < s.players.length → ∀ i ∈ listM s z p, i < s.nextId) (fun k => 5 - k) 0 ?_ ⟨by omega, fun _ _ h => by omega⟩ ?_
 ·refine wk_of [] rfl rfl ?_ ?_ ?_
  ·repeat' (first | refine And.intro ?_ ?_ | exact rfl | exact trivial | exact Exists.intro _ rfl | fail)
  ·repeat' (first | refine And.intro ?_ ?_ | exact rfl | exact trivial | exact Exists.intro _ rfl | fail)
  ·repeat' (first | refine And.intro ?_ ?_ | exact rfl | exact trivial | exact Exists.intro _ rfl | fail)
 rintro k ⟨hk, hl⟩
 refine Tp.run [4, 6, 8, 9, 3, 10, 12, 14, 15, 16, 17, 18, 19, 20, 21] ?_
 refine cond_split (fun h => ?_) (fun h => ?_)
 ·have hk4 := of_decide_eq_true h
  refine Tp.run [6, 8, 9, 3] ?_
  refine Tp.loop (fun q : Nat => ⟨[(1, .ptr 0 0), (3, AV.i k), (16, .c (.t (iv (((s.players.map GPlayer.enc).length : Nat) : Int)))), (17, AV.i q)], [(0, s.enc.map .t)], [], 20000⟩) (fun q => q ≤ s.players.length ∧ ∀ p : Nat, p < q → ∀ i ∈ listM s k p, i < s.nextId) (fun q => s.players.length - q) 0 ?_ ⟨by omega, fun _ h => by omega⟩ ?_
  ·refine wk_of [] rfl rfl ?_ ?_ ?_
   ·repeat' (first | refine And.intro ?_ ?_ | exact rfl | exact trivial | exact Exists.intro _ rfl | fail)
   ·repeat' (first | refine And.intro ?_ ?_ | exact rfl | exact trivial | exact Exists.intro _ rfl | fail)
   ·repeat' (first | refine And.intro ?_ ?_ | exact rfl | exact trivial | exact Exists.intro _ rfl | fail)
  rintro q ⟨hq, hlq⟩
  refine Tp.run [6, 8, 9] ?_
  refine cond_split (fun h => ?_) (fun h => ?_)
  ·have hlt := len_lt h
   have hl1 := list_ct s k q hs
   have hl2 := old_ct (listM s k q) s.nextId (listM_le hs k q)
   refine Tp.run [8, 9] ?_
   refine call_intro hl1 ⟨fitL_refl s.enc, rfl, rfl, trivial⟩ (.inr rfl) ?_
   refine call_intro hl2 ⟨rfl, rfl, trivial⟩ (.inr rfl) ?_
   refine cond_split (fun h => ?_) (fun h => ?_)
   ·refine Tp.run [] ?_
    have : B = false := by
     rw [← hB]
     refine decide_eq_false fun hv => ?_
     have h : (!((listM s k q).all fun i => decide (i < s.nextId))) = true := h
     rw [Bool.not_eq_true', List.all_eq_false] at h
     obtain ⟨x, hx, hn⟩ := h
     exact hn (decide_eq_true (hv.lists k q (by omega) hlt x hx))
    subst this
    refine Exists.intro [] (And.intro rfl (And.intro trivial ?_))
    repeat' (first | refine And.intro ?_ ?_ | exact rfl | exact trivial | exact Exists.intro _ rfl | fail)
   ·have h : (!((listM s k q).all fun i => decide (i < s.nextId))) = false := h
    rw [Bool.not_eq_false', List.all_eq_true] at h
    refine Tp.run [] ?_
    refine Exists.intro (q + 1) (And.intro ⟨by omega, fun p hp => ?_⟩ (And.intro (show s.players.length - (q + 1) < s.players.length - q by omega) ?_))
    ·by_cases e : p = q
     ·subst e
      exact fun i hi => of_decide_eq_true (h i hi)
     ·exact hlq p (by omega)
    refine wk_of [] rfl rfl ?_ ?_ ?_
    ·repeat' (first | refine And.intro ?_ ?_ | exact rfl | exact trivial | exact Exists.intro _ rfl | fail)
     exact succ_eq q hlt 152 (by decide) hpl
    ·repeat' (first | refine And.intro ?_ ?_ | exact rfl | exact trivial | exact Exists.intro _ rfl | fail)
    ·repeat' (first | refine And.intro ?_ ?_ | exact rfl | exact trivial | exact Exists.intro _ rfl | fail)
  ·have hq2 := len_ge h hq
   refine Tp.run [] ?_
   refine Exists.intro (k + 1) (And.intro ⟨by omega, fun z p hz hp => ?_⟩ (And.intro (by omega) ?_))
   ·by_cases e : z = k
    ·subst e
     exact hlq p (by omega)
    ·exact hl z p (by omega) hp
   refine wk_of [] rfl rfl ?_ ?_ ?_
   ·repeat' (first | refine And.intro ?_ ?_ | exact rfl | exact trivial | exact Exists.intro _ rfl | fail)
    exact congrArg iv (wrap_succ k (by omega))
   ·repeat' (first | refine And.intro ?_ ?_ | exact rfl | exact trivial | exact Exists.intro _ rfl | fail)
   ·repeat' (first | refine And.intro ?_ ?_ | exact rfl | exact trivial | exact Exists.intro _ rfl | fail)
 have hk4 := of_decide_eq_false h
 have hlists : ∀ z p : Nat, z ≤ 4 → p < s.players.length → ∀ i ∈ listM s z p, i < s.nextId := fun z p hz => hl z p (by omega)
 clear hl
 refine Tp.run [12, 14, 15, 16, 17, 18, 19, 20, 21] ?_
 refine Tp.loop (fun k : Nat => ⟨[(1, .ptr 0 0), (30, .c (.t (.sl 19 (s.objects.map GObject.enc)))), (31, .c (.t (iv (((s.objects.map GObject.enc).length : Nat) : Int)))), (32, AV.i k)], [(0, s.enc.map .t)], [], 20000⟩) (fun k => k ≤ s.objects.length ∧ ∀ j (h : j < s.objects.length), j < k → ObjOk s j s.objects[j]) (fun k => s.objects.length - k) 0 ?_ ⟨Nat.zero_le _, fun _ _ h => by omega⟩ ?_
 ·refine wk_of [] rfl rfl ?_ ?_ ?_
  ·repeat' (first | refine And.intro ?_ ?_ | exact rfl | exact trivial | exact Exists.intro _ rfl | fail)
  ·repeat' (first | refine And.intro ?_ ?_ | exact rfl | exact trivial | exact Exists.intro _ rfl | fail)
  ·repeat' (first | refine And.intro ?_ ?_ | exact rfl | exact trivial | exact Exists.intro _ rfl | fail)
 rintro k ⟨hk, hok⟩
 refine Tp.run [12, 14, 15, 16, 17, 18, 19, 20] ?_
 refine cond_split (fun h => ?_) (fun h => ?_)
 ·have hlt := len_lt h
  refine Tp.run [14, 15, 16, 17, 18, 19, 20] ?_
  refine Exists.intro k (Exists.intro (s.objects[k].enc) (And.intro rfl (And.intro (map_get _ _ k hlt) ?_)))
  refine cond_split (fun c1 => ?_) (fun c1 => ?_)
  ·refine Tp.run [] ?_
   have : B = false := by
    rw [← hB]
    refine decide_eq_false fun hv => ?_
    obtain ⟨g1, g2, g3, g4, g5, g6, g7, g8⟩ := hv.objs k hlt
    have := of_decide_eq_true c1; omega
   subst this
   refine Exists.intro [] (And.intro rfl (And.intro trivial ?_))
   repeat' (first | refine And.intro ?_ ?_ | exact rfl | exact trivial | exact Exists.intro _ rfl | fail)
  have c1 := of_decide_eq_false c1
  refine cond_split (fun c2 => ?_) (fun c2 => ?_)
  ·have c2 := of_decide_eq_true c2
   have hlt1 : k - 1 < s.objects.length := by omega
   have hlen : s.objects.length ≤ limB := by omega
   refine Exists.intro (k - 1) (Exists.intro (s.objects[k - 1].enc) (And.intro ?_ (And.intro (map_get _ _ (k - 1) hlt1) ?_)))
   ·rw [IntKind.wrap_i64]; unfold limB at hlen; omega
   refine cond_split (fun c9 => ?_) (fun c9 => ?_)
   ·refine Tp.run [] ?_
    have : B = false := by
     rw [← hB]
     refine decide_eq_false fun hv => ?_
     obtain ⟨g1, g2, g3, g4, g5, g6, g7, g8⟩ := hv.objs k hlt
     have c9 := of_decide_eq_true c9; obtain ⟨q, g9, g10⟩ := g2 (by omega); rw [List.getElem?_eq_getElem hlt1] at g9; cases g9; omega
    subst this
    refine Exists.intro [] (And.intro rfl (And.intro trivial ?_))
    repeat' (first | refine And.intro ?_ ?_ | exact rfl | exact trivial | exact Exists.intro _ rfl | fail)
   have c9 := of_decide_eq_false c9
   refine cond_split (fun c3 => ?_) (fun c3 => ?_)
   ·refine Tp.run [] ?_
    have : B = false := by
     rw [← hB]
     refine decide_eq_false fun hv => ?_
     obtain ⟨g1, g2, g3, g4, g5, g6, g7, g8⟩ := hv.objs k hlt
     have := of_decide_eq_true c3; omega
    subst this
    refine Exists.intro [] (And.intro rfl (And.intro trivial ?_))
    repeat' (first | refine And.intro ?_ ?_ | exact rfl | exact trivial | exact Exists.intro _ rfl | fail)
   have c3 := of_decide_eq_false c3
   refine Tp.run [17, 18, 19, 20] ?_
   refine cond_split (fun c4 => ?_) (fun c4 => ?_)
   ·refine Tp.run [] ?_
    have : B = false := by
     rw [← hB]
     refine decide_eq_false fun hv => ?_
     obtain ⟨g1, g2, g3, g4, g5, g6, g7, g8⟩ := hv.objs k hlt
     have := of_decide_eq_true c4; omega
    subst this
    refine Exists.intro [] (And.intro rfl (And.intro trivial ?_))
    repeat' (first | refine And.intro ?_ ?_ | exact rfl | exact trivial | exact Exists.intro _ rfl | fail)
   have c4 := of_decide_eq_false c4
   refine cond_split (fun c5 => ?_) (fun c5 => ?_)
   ·refine Tp.run [] ?_
    have : B = false := by
     rw [← hB]
     refine decide_eq_false fun hv => ?_
     obtain ⟨g1, g2, g3, g4, g5, g6, g7, g8⟩ := hv.objs k hlt
     have := of_decide_eq_true c5; rw [List.length_map] at this; omega
    subst this
    refine Exists.intro [] (And.intro rfl (And.intro trivial ?_))
    repeat' (first | refine And.intro ?_ ?_ | exact rfl | exact trivial | exact Exists.intro _ rfl | fail)
   have c5 := of_decide_eq_false c5
   rw [List.length_map] at c5
   refine cond_split (fun c6 => ?_) (fun c6 => ?_)
   ·refine Tp.run [] ?_
    have : B = false := by
     rw [← hB]
     refine decide_eq_false fun hv => ?_
     obtain ⟨g1, g2, g3, g4, g5, g6, g7, g8⟩ := hv.objs k hlt
     have := of_decide_eq_true c6; omega
    subst this
    refine Exists.intro [] (And.intro rfl (And.intro trivial ?_))
    repeat' (first | refine And.intro ?_ ?_ | exact rfl | exact trivial | exact Exists.intro _ rfl | fail)
   have c6 := of_decide_eq_false c6
   refine cond_split (fun c7 => ?_) (fun c7 => ?_)
   ·refine Tp.run [] ?_
    have : B = false := by
     rw [← hB]
     refine decide_eq_false fun hv => ?_
     obtain ⟨g1, g2, g3, g4, g5, g6, g7, g8⟩ := hv.objs k hlt
     have := of_decide_eq_true c7; omega
    subst this
    refine Exists.intro [] (And.intro rfl (And.intro trivial ?_))
    repeat' (first | refine And.intro ?_ ?_ | exact rfl | exact trivial | exact Exists.intro _ rfl | fail)
   have c7 := of_decide_eq_false c7
   have hw := whereP_ct s s.objects[k].id hs
   refine Tp.run [18, 19, 20] ?_
   refine call_intro hw ⟨fitL_refl s.enc, rfl, trivial⟩ (.inr rfl) ?_
   refine Tp.run [19, 20] ?_
   refine cond_split (fun c8 => ?_) (fun c8 => ?_)
   ·refine Tp.run [] ?_
    have : B = false := by
     rw [← hB]
     refine decide_eq_false fun hv => ?_
     obtain ⟨g1, g2, g3, g4, g5, g6, g7, g8⟩ := hv.objs k hlt
     have c8 : (!(whereM s s.objects[k].id).2.2) = true := c8; rw [g8] at c8; cases c8
    subst this
    refine Exists.intro [] (And.intro rfl (And.intro trivial ?_))
    repeat' (first | refine And.intro ?_ ?_ | exact rfl | exact trivial | exact Exists.intro _ rfl | fail)
   have c8 : (!(whereM s s.objects[k].id).2.2) = false := c8
   rw [Bool.not_eq_false'] at c8
   refine Tp.run [] ?_
   refine Exists.intro (k + 1) (And.intro ⟨by omega, fun j hj hjk => ?_⟩ (And.intro (show s.objects.length - (k + 1) < s.objects.length - k by omega) ?_))
   ·by_cases e : j = k
    ·subst e
     exact ⟨by omega, fun _ => ⟨_, List.getElem?_eq_getElem hlt1, by omega⟩, by omega, by omega, by omega, by omega, by omega, c8⟩
    ·exact hok j hj (by omega)
   refine wk_of [] rfl rfl ?_ ?_ ?_
   ·repeat' (first | refine And.intro ?_ ?_ | exact rfl | exact trivial | exact Exists.intro _ rfl | fail)
    exact succ_eq k hlt 128 (by decide) hob
   ·repeat' (first | refine And.intro ?_ ?_ | exact rfl | exact trivial | exact Exists.intro _ rfl | fail)
   ·repeat' (first | refine And.intro ?_ ?_ | exact rfl | exact trivial | exact Exists.intro _ rfl | fail)
  ·have c2 := of_decide_eq_false c2
   refine cond_split (fun c3 => ?_) (fun c3 => ?_)
   ·refine Tp.run [] ?_
    have : B = false := by
     rw [← hB]
     refine decide_eq_false fun hv => ?_
     obtain ⟨g1, g2, g3, g4, g5, g6, g7, g8⟩ := hv.objs k hlt
     have := of_decide_eq_true c3; omega
    subst this
    refine Exists.intro [] (And.intro rfl (And.intro trivial ?_))
    repeat' (first | refine And.intro ?_ ?_ | exact rfl | exact trivial | exact Exists.intro _ rfl | fail)
   have c3 := of_decide_eq_false c3
   refine Tp.run [17, 18, 19, 20] ?_
   refine cond_split (fun c4 => ?_) (fun c4 => ?_)
   ·refine Tp.run [] ?_
    have : B = false := by
     rw [← hB]
     refine decide_eq_false fun hv => ?_
     obtain ⟨g1, g2, g3, g4, g5, g6, g7, g8⟩ := hv.objs k hlt
     have := of_decide_eq_true c4; omega
    subst this
    refine Exists.intro [] (And.intro rfl (And.intro trivial ?_))
    repeat' (first | refine And.intro ?_ ?_ | exact rfl | exact trivial | exact Exists.intro _ rfl | fail)
   have c4 := of_decide_eq_false c4
   refine cond_split (fun c5 => ?_) (fun c5 => ?_)
   ·refine Tp.run [] ?_
    have : B = false := by
     rw [← hB]
     refine decide_eq_false fun hv => ?_
     obtain ⟨g1, g2, g3, g4, g5, g6, g7, g8⟩ := hv.objs k hlt
     have := of_decide_eq_true c5; rw [List.length_map] at this; omega
    subst this
    refine Exists.intro [] (And.intro rfl (And.intro trivial ?_))
    repeat' (first | refine And.intro ?_ ?_ | exact rfl | exact trivial | exact Exists.intro _ rfl | fail)
   have c5 := of_decide_eq_false c5
   rw [List.length_map] at c5
   refine cond_split (fun c6 => ?_) (fun c6 => ?_)
   ·refine Tp.run [] ?_
    have : B = false := by
     rw [← hB]
     refine decide_eq_false fun hv => ?_
     obtain ⟨g1, g2, g3, g4, g5, g6, g7, g8⟩ := hv.objs k hlt
     have := of_decide_eq_true c6; omega
    subst this
    refine Exists.intro [] (And.intro rfl (And.intro trivial ?_))
    repeat' (first | refine And.intro ?_ ?_ | exact rfl | exact trivial | exact Exists.intro _ rfl | fail)
   have c6 := of_decide_eq_false c6
   refine cond_split (fun c7 => ?_) (fun c7 => ?_)
   ·refine Tp.run [] ?_
    have : B = false := by
     rw [← hB]
     refine decide_eq_false fun hv => ?_
     obtain ⟨g1, g2, g3, g4, g5, g6, g7, g8⟩ := hv.objs k hlt
     have := of_decide_eq_true c7; omega
    subst this
    refine Exists.intro [] (And.intro rfl (And.intro trivial ?_))
    repeat' (first | refine And.intro ?_ ?_ | exact rfl | exact trivial | exact Exists.intro _ rfl | fail)
   have c7 := of_decide_eq_false c7
   have hw := whereP_ct s s.objects[k].id hs
   refine Tp.run [18, 19, 20] ?_
   refine call_intro hw ⟨fitL_refl s.enc, rfl, trivial⟩ (.inr rfl) ?_
   refine Tp.run [19, 20] ?_
   refine cond_split (fun c8 => ?_) (fun c8 => ?_)
   ·refine Tp.run [] ?_
    have : B = false := by
     rw [← hB]
     refine decide_eq_false fun hv => ?_
     obtain ⟨g1, g2, g3, g4, g5, g6, g7, g8⟩ := hv.objs k hlt
     have c8 : (!(whereM s s.objects[k].id).2.2) = true := c8; rw [g8] at c8; cases c8
    subst this
    refine Exists.intro [] (And.intro rfl (And.intro trivial ?_))
    repeat' (first | refine And.intro ?_ ?_ | exact rfl | exact trivial | exact Exists.intro _ rfl | fail)
   have c8 : (!(whereM s s.objects[k].id).2.2) = false := c8
   rw [Bool.not_eq_false'] at c8
   refine Tp.run [] ?_
   refine Exists.intro (k + 1) (And.intro ⟨by omega, fun j hj hjk => ?_⟩ (And.intro (show s.objects.length - (k + 1) < s.objects.length - k by omega) ?_))
   ·by_cases e : j = k
    ·subst e
     exact ⟨by omega, fun _ => by omega, by omega, by omega, by omega, by omega, by omega, c8⟩
    ·exact hok j hj (by omega)
   refine wk_of [] rfl rfl ?_ ?_ ?_
   ·repeat' (first | refine And.intro ?_ ?_ | exact rfl | exact trivial | exact Exists.intro _ rfl | fail)
    exact succ_eq k hlt 128 (by decide) hob
   ·repeat' (first | refine And.intro ?_ ?_ | exact rfl | exact trivial | exact Exists.intro _ rfl | fail)
   ·repeat' (first | refine And.intro ?_ ?_ | exact rfl | exact trivial | exact Exists.intro _ rfl | fail)
 ·have hk2 := len_ge h hk
  refine Tp.run [] ?_
  have : B = true := by
   rw [← hB]
   exact decide_eq_true ⟨hlists, fun j hj => hok j hj (by omega)⟩
  subst this
  refine Exists.intro [] (And.intro rfl (And.intro trivial ?_))
  repeat' (first | refine And.intro ?_ ?_ | exact rfl | exact trivial | exact Exists.intro _ rfl | fail)
end Go.Proofs.Ytiebjkbofoppaaa
end
section
namespace Go.Proofs.Ytiebjkbofoppaaa
open Go Cg Go.RowKit Go.Sort
set_option maxRecDepth 100000 in
set_option maxHeartbeats 4000000 in
theorem moves_none (s : GState) (id z p : Int) (bottom fb vb b : Bool) (x : GObject) (hb : ¬ (fb = true ∧ vb = true ∧ b = true)) (hf : Ct Try.prog 10 [.agg (s.enc.map .t)] (AV.b fb) [] true) (hv : Ct Try.prog 25 [.agg (s.enc.map .t)] (AV.b vb) [] true) (hd : Ct Try.prog 20 [.agg (s.enc.map .t), .c (.t (iv id))] (.tup [.agg (x.enc.map .t), AV.b b]) [] true) : Ct Try.prog 7 [.agg (s.enc.map .t), .agg ((encWay id z p bottom).map .t)] (AV.b true) [] true := by
 refine Ct.lit (b := false) ?_ rfl
 cases fb
 ·refine ct_of Try.func7 rfl (enters_of Try.func7 (by kernel_rfl) rfl) tabOk (by kernel_rfl) rfl rfl rfl rfl fun w0 O => Tp.run [2,3,4,5] ?_
  refine call_intro hd ⟨fitL_refl s.enc, rfl, trivial⟩ (.inr rfl) ?_
  refine Tp.run [3, 4, 5] ?_
  refine call_intro hf ⟨fitL_refl s.enc, trivial⟩ (.inr rfl) ?_
  refine Tp.run [] ?_
  refine call_intro alive_ct trivial (.inr rfl) ?_
  refine Exists.intro [] (And.intro rfl (And.intro ?_ ?_))
  ·repeat' (first | refine And.intro ?_ ?_ | exact rfl | exact trivial | exact Exists.intro _ rfl | fail)
  ·repeat' (first | refine And.intro ?_ ?_ | exact rfl | exact trivial | exact Exists.intro _ rfl | fail)
 cases vb
 ·refine ct_of Try.func7 rfl (enters_of Try.func7 (by kernel_rfl) rfl) tabOk (by kernel_rfl) rfl rfl rfl rfl fun w0 O => Tp.run [2,3,4,5] ?_
  refine call_intro hd ⟨fitL_refl s.enc, rfl, trivial⟩ (.inr rfl) ?_
  refine Tp.run [3, 4, 5] ?_
  refine call_intro hf ⟨fitL_refl s.enc, trivial⟩ (.inr rfl) ?_
  refine call_intro hv ⟨fitL_refl s.enc, trivial⟩ (.inr rfl) ?_
  refine Tp.run [] ?_
  refine call_intro alive_ct trivial (.inr rfl) ?_
  refine Exists.intro [] (And.intro rfl (And.intro ?_ ?_))
  ·repeat' (first | refine And.intro ?_ ?_ | exact rfl | exact trivial | exact Exists.intro _ rfl | fail)
  ·repeat' (first | refine And.intro ?_ ?_ | exact rfl | exact trivial | exact Exists.intro _ rfl | fail)
 cases b
 ·refine ct_of Try.func7 rfl (enters_of Try.func7 (by kernel_rfl) rfl) tabOk (by kernel_rfl) rfl rfl rfl rfl fun w0 O => Tp.run [2,3,4,5] ?_
  refine call_intro hd ⟨fitL_refl s.enc, rfl, trivial⟩ (.inr rfl) ?_
  refine Tp.run [3, 4, 5] ?_
  refine call_intro hf ⟨fitL_refl s.enc, trivial⟩ (.inr rfl) ?_
  refine call_intro hv ⟨fitL_refl s.enc, trivial⟩ (.inr rfl) ?_
  refine Tp.run [] ?_
  refine call_intro alive_ct trivial (.inr rfl) ?_
  refine Exists.intro [] (And.intro rfl (And.intro ?_ ?_))
  ·repeat' (first | refine And.intro ?_ ?_ | exact rfl | exact trivial | exact Exists.intro _ rfl | fail)
  ·repeat' (first | refine And.intro ?_ ?_ | exact rfl | exact trivial | exact Exists.intro _ rfl | fail)
 ·exact absurd ⟨rfl, rfl, rfl⟩ hb
set_option maxRecDepth 100000 in
set_option maxHeartbeats 4000000 in
theorem moves_some (s : GState) (z p : Int) (bottom : Bool) (i : Nat) (hs : s.ok) (ht : Tight s) (hi : i < s.objects.length) (hF : FairM s) (hV : ValidM s) (e : s.objects.findIdx? (fun o => o.id == s.objects[i].id) = some i) (hf : Ct Try.prog 10 [.agg (s.enc.map .t)] (AV.b true) [] true) (hv : Ct Try.prog 25 [.agg (s.enc.map .t)] (AV.b true) [] true) (hd : Ct Try.prog 20 [.agg (s.enc.map .t), .c (.t (iv s.objects[i].id))] (.tup [.agg (s.objects[i].enc.map .t), AV.b true]) [] true) : Ct Try.prog 7 [.agg (s.enc.map .t), .agg ((encWay s.objects[i].id z p bottom).map .t)] (AV.b true) [] true := by
 refine Ct.lit (b := false) ?_ rfl
 have hob : s.objects.length * 128 ≤ limB := hs.2.2.1
 have hm := moveP_ct s s.objects[i].id z p bottom hs hF.wrap.1 hF.wrap.2 (moveM_ok s s.objects[i].id z p bottom hs ht)
 have hok := moveM_ok s s.objects[i].id z p bottom hs ht
 have hM : 0 ≤ z → z ≤ 4 → MovedOk s s.objects[i] z bottom (moveM s s.objects[i].id z p bottom).1 (moveM s s.objects[i].id z p bottom).2 := fun h0 h4 => moved_ok s hF hV i hi z p bottom h0 h4 e
 generalize (moveM s s.objects[i].id z p bottom).1 = T at hm hok hM
 generalize (moveM s s.objects[i].id z p bottom).2 = n at hm hM
 generalize s.objects[i] = o at hd hm hM
 refine ct_of Try.func7 rfl (enters_of Try.func7 (by kernel_rfl) rfl) tabOk (by kernel_rfl) rfl rfl rfl rfl fun w0 O => Tp.run [2,3,4,5,6,7,8,9,13,14,15,16,17,18,19,20,21,22,23] ?_
 refine call_intro hd ⟨fitL_refl s.enc, rfl, trivial⟩ (.inr rfl) ?_
 refine Tp.run [3, 4, 5, 6, 7, 8, 9, 13, 14, 15, 16, 17, 18, 19, 20, 21, 22, 23] ?_
 refine call_intro hf ⟨fitL_refl s.enc, trivial⟩ (.inr rfl) ?_
 refine call_intro hv ⟨fitL_refl s.enc, trivial⟩ (.inr rfl) ?_
 refine cond_split (fun h1 => ?_) (fun h1 => ?_)
 ·refine Tp.run [] ?_
  refine call_intro alive_ct trivial (.inr rfl) ?_
  refine Exists.intro [] (And.intro rfl (And.intro ?_ ?_))
  ·repeat' (first | refine And.intro ?_ ?_ | exact rfl | exact trivial | exact Exists.intro _ rfl | fail)
  ·repeat' (first | refine And.intro ?_ ?_ | exact rfl | exact trivial | exact Exists.intro _ rfl | fail)
 refine cond_split (fun h2 => ?_) (fun h2 => ?_)
 ·refine Tp.run [] ?_
  refine call_intro alive_ct trivial (.inr rfl) ?_
  refine Exists.intro [] (And.intro rfl (And.intro ?_ ?_))
  ·repeat' (first | refine And.intro ?_ ?_ | exact rfl | exact trivial | exact Exists.intro _ rfl | fail)
  ·repeat' (first | refine And.intro ?_ ?_ | exact rfl | exact trivial | exact Exists.intro _ rfl | fail)
 have h1 := of_decide_eq_false h1
 have h2 := of_decide_eq_false h2
 have M := hM (by omega) (by omega)
 have hgo := findP_ct T o.id hok
 rw [M.gone] at hgo
 refine Tp.run [5, 6, 7, 8, 9, 13, 14, 15, 16, 17, 18, 19, 20, 21, 22, 23] ?_
 refine call_intro hm ⟨fitL_refl s.enc, rfl, rfl, rfl, rfl, trivial⟩ (.inr rfl) ?_
 refine Tp.run [6, 7, 8, 9, 13, 14, 15, 16, 17, 18, 19, 20, 21, 22, 23] ?_
 refine call_intro hgo ⟨fitL_refl T.enc, rfl, trivial⟩ (.inr rfl) ?_
 refine Tp.run [7, 8, 9, 13, 14, 15, 16, 17, 18, 19, 20, 21, 22, 23] ?_
 refine Tp.run [9, 13, 14, 15, 16, 17, 18, 19, 20, 21, 22, 23] ?_
 refine Tp.loop (fun k : Nat => ⟨[(2, .ptr 0 0), (3, .ptr 128 0), (5, .ptr 1280 0), (7, .ptr 6144 0), (8, .c (.t (iv n))), (74, .c (.t (.sl 19 (s.objects.map GObject.enc)))), (75, .c (.t (iv (((s.objects.map GObject.enc).length : Nat) : Int)))), (76, AV.i k)], [(0, s.enc.map .t), (128, (encWay o.id z p bottom).map .t), (1280, o.enc.map .t), (6144, T.enc.map .t)], [], 10000⟩) (fun k => k ≤ s.objects.length) (fun k => s.objects.length - k) 0 ?_ (Nat.zero_le _) ?_
 ·refine wk_of [] rfl rfl ?_ ?_ ?_
  ·repeat' (first | refine And.intro ?_ ?_ | exact rfl | exact trivial | exact Exists.intro _ rfl | fail)
  ·repeat' (first | refine And.intro ?_ ?_ | exact rfl | exact trivial | exact Exists.intro _ rfl | fail)
  ·repeat' (first | refine And.intro ?_ ?_ | exact rfl | exact trivial | exact Exists.intro _ rfl | fail)
 rintro k hk
 refine Tp.run [10, 11, 12, 13, 14, 15, 16, 17, 18, 19, 20, 21, 22, 23] ?_
 refine cond_split (fun h => ?_) (fun h => ?_)
 ·have hlt := len_lt h
  have hfk := findP_ct T s.objects[k].id hok
  have hrest := M.rest k hlt
  refine Tp.run [11, 12, 13, 14] ?_
  refine Exists.intro k (Exists.intro (s.objects[k].enc) (And.intro rfl (And.intro (map_get _ _ k hlt) ?_)))
  generalize findM T.objects s.objects[k].id = y at hfk hrest
  generalize hasM T.objects s.objects[k].id = b at hfk hrest
  by_cases hne : s.objects[k].id = o.id
  ·refine Tp.run [12, 13, 14] ?_
   refine call_intro hfk ⟨fitL_refl T.enc, rfl, trivial⟩ (.inr rfl) ?_
   refine Tp.run [13, 14] ?_
   refine cond_split (fun h => absurd h (by simp [hne])) (fun _ => ?_)
   refine Tp.run [] ?_
   refine Exists.intro (k + 1) (And.intro (show k + 1 ≤ _ by omega) (And.intro (show s.objects.length - (k + 1) < s.objects.length - k by omega) ?_))
   refine wk_of [] rfl rfl ?_ ?_ ?_
   ·repeat' (first | refine And.intro ?_ ?_ | exact rfl | exact trivial | exact Exists.intro _ rfl | fail)
    exact succ_eq k hlt 128 (by decide) hob
   ·repeat' (first | refine And.intro ?_ ?_ | exact rfl | exact trivial | exact Exists.intro _ rfl | fail)
   ·repeat' (first | refine And.intro ?_ ?_ | exact rfl | exact trivial | exact Exists.intro _ rfl | fail)
  ·obtain ⟨rfl, rfl⟩ := hrest hne
   refine Tp.run [12, 13, 14] ?_
   refine call_intro hfk ⟨fitL_refl T.enc, rfl, trivial⟩ (.inr rfl) ?_
   refine Tp.run [13, 14] ?_
   refine cond_split (fun _ => ?_) (fun h => absurd h (by simp [hne]))
   refine cond_split (fun h => absurd h (by simp [lksEq, lkEq])) (fun _ => ?_)
   refine Tp.run [] ?_
   refine Exists.intro (k + 1) (And.intro (show k + 1 ≤ _ by omega) (And.intro (show s.objects.length - (k + 1) < s.objects.length - k by omega) ?_))
   refine wk_of [] rfl rfl ?_ ?_ ?_
   ·repeat' (first | refine And.intro ?_ ?_ | exact rfl | exact trivial | exact Exists.intro _ rfl | fail)
    exact succ_eq k hlt 128 (by decide) hob
   ·repeat' (first | refine And.intro ?_ ?_ | exact rfl | exact trivial | exact Exists.intro _ rfl | fail)
   ·repeat' (first | refine And.intro ?_ ?_ | exact rfl | exact trivial | exact Exists.intro _ rfl | fail)
 refine Tp.run [16, 17, 18, 19, 20, 21, 22, 23] ?_
 refine cond_split (fun t1 => ?_) (fun t1 => ?_)
 ·refine cond_split (fun t2 => ?_) (fun t2 => ?_)
  ·obtain ⟨rfl, hTl, hTn⟩ := M.token t1 (by simpa using t2)
   have hlen : T.objects.length + 1 ≤ limB := by omega
   refine Tp.run [] ?_
   refine call_intro alive_ct trivial (.inr rfl) ?_
   refine cond_split (fun _ => ?_) (fun h => absurd h (by simp only [List.length_map, beq_eq_false_iff_ne, ne_eq, IntKind.wrap_i64]; unfold limB at hlen; omega))
   refine Exists.intro [] (And.intro rfl (And.intro ?_ ?_))
   ·repeat' (first | refine And.intro ?_ ?_ | exact rfl | exact trivial | exact Exists.intro _ rfl | fail)
   ·repeat' (first | refine And.intro ?_ ?_ | exact rfl | exact trivial | exact Exists.intro _ rfl | fail)
    exact congrArg bv (by rw [hTn, beq_self_eq_true])
  ·have hx : ¬ (o.token = true ∧ z ≠ 0) := fun h => by
    have t2 : (z != 0) = false := t2
    exact h.2 (by simpa using t2)
   obtain ⟨rfl, hTn, hTl, m, hm1, hm2, mc, mo, mt, mz, at_, L, hw, hL, hLp, hat⟩ := M.other hx
   have hfm := findP_ct T s.nextId hok
   rw [hm1, hm2] at hfm
   have hll := listP_ct T z o.owner hok
   rw [hL] at hll
   have hwh : Ct Try.prog 12 [.agg (T.enc.map .t), .c (.t (iv s.nextId))] (.tup [.c (.t (iv z)), .c (.t (iv at_)), AV.b true]) [] true := by
    have := whereP_ct T s.nextId hok
    rw [hw] at this
    exact this
   have hLb : L.length * 8 ≤ limB := by rw [← hL]; exact listM_le hok z o.owner
   refine Tp.run [18, 19, 20, 21, 22, 23] ?_
   refine call_intro hfm ⟨fitL_refl T.enc, rfl, trivial⟩ (.inr rfl) ?_
   refine Tp.run [19, 20, 21, 22, 23] ?_
   refine call_intro hll ⟨fitL_refl T.enc, rfl, rfl, trivial⟩ (.inr rfl) ?_
   refine Tp.run [20, 21, 22, 23] ?_
   refine Tp.run [21, 22, 23] ?_
   refine cond_split (fun c1 => ?_) (fun c1 => ?_)
   ·have c1 : (z == 2) = true := c1
    refine cond_split (fun c2 => ?_) (fun c2 => ?_)
    ·have c2 : (!bottom) = true := c2
     have hat : at_ = 0 := by rw [hat, if_pos (by rw [c1, c2]; rfl)]
     refine Tp.run [22, 23] ?_
     refine Tp.run [23] ?_
     refine call_intro hwh ⟨fitL_refl T.enc, rfl, trivial⟩ (.inr rfl) ?_
     refine Tp.run [] ?_
     refine call_intro alive_ct trivial (.inr rfl) ?_
     refine cond_split (fun _ => ?_) (fun h => absurd h (by simp))
     refine cond_split (fun _ => ?_) (fun h => absurd h (by rw [hTn]; simp))
     refine cond_split (fun _ => ?_) (fun h => absurd h (by rw [mc]; simp))
     refine cond_split (fun _ => ?_) (fun h => absurd h (by rw [mo]; simp))
     refine cond_split (fun _ => ?_) (fun h => absurd h (by rw [mt]; simp))
     refine cond_split (fun _ => ?_) (fun h => absurd h (by rw [mz]; simp))
     refine cond_split (fun _ => ?_) (fun h => absurd h (by rw [List.length_map, List.length_map, hTl]; simp))
     refine Exists.intro [] (And.intro rfl (And.intro ?_ ?_))
     ·repeat' (first | refine And.intro ?_ ?_ | exact rfl | exact trivial | exact Exists.intro _ rfl | fail)
     ·repeat' (first | refine And.intro ?_ ?_ | exact rfl | exact trivial | exact Exists.intro _ rfl | fail)
      exact congrArg bv (by rw [hat]; rfl)
    ·have c2 : (!bottom) = false := c2
     have hat : at_ = (L.length : Int) - 1 := by rw [hat, if_neg (by rw [c1, c2]; decide)]
     refine Tp.run [23] ?_
     refine call_intro hwh ⟨fitL_refl T.enc, rfl, trivial⟩ (.inr rfl) ?_
     refine Tp.run [] ?_
     refine call_intro alive_ct trivial (.inr rfl) ?_
     refine cond_split (fun _ => ?_) (fun h => absurd h (by simp))
     refine cond_split (fun _ => ?_) (fun h => absurd h (by rw [hTn]; simp))
     refine cond_split (fun _ => ?_) (fun h => absurd h (by rw [mc]; simp))
     refine cond_split (fun _ => ?_) (fun h => absurd h (by rw [mo]; simp))
     refine cond_split (fun _ => ?_) (fun h => absurd h (by rw [mt]; simp))
     refine cond_split (fun _ => ?_) (fun h => absurd h (by rw [mz]; simp))
     refine cond_split (fun _ => ?_) (fun h => absurd h (by rw [List.length_map, List.length_map, hTl]; simp))
     refine Exists.intro [] (And.intro rfl (And.intro ?_ ?_))
     ·repeat' (first | refine And.intro ?_ ?_ | exact rfl | exact trivial | exact Exists.intro _ rfl | fail)
     ·repeat' (first | refine And.intro ?_ ?_ | exact rfl | exact trivial | exact Exists.intro _ rfl | fail)
      exact congrArg bv (by rw [List.length_map, show IntKind.i64.wrap ((L.length : Int) - 1) = (L.length : Int) - 1 by rw [IntKind.wrap_i64]; unfold limB at hLb; omega, hat, beq_self_eq_true])
   ·have c1 : (z == 2) = false := c1
    have hat : at_ = (L.length : Int) - 1 := by rw [hat, if_neg (by rw [c1]; simp)]
    refine Tp.run [23] ?_
    refine call_intro hwh ⟨fitL_refl T.enc, rfl, trivial⟩ (.inr rfl) ?_
    refine Tp.run [] ?_
    refine call_intro alive_ct trivial (.inr rfl) ?_
    refine cond_split (fun _ => ?_) (fun h => absurd h (by simp))
    refine cond_split (fun _ => ?_) (fun h => absurd h (by rw [hTn]; simp))
    refine cond_split (fun _ => ?_) (fun h => absurd h (by rw [mc]; simp))
    refine cond_split (fun _ => ?_) (fun h => absurd h (by rw [mo]; simp))
    refine cond_split (fun _ => ?_) (fun h => absurd h (by rw [mt]; simp))
    refine cond_split (fun _ => ?_) (fun h => absurd h (by rw [mz]; simp))
    refine cond_split (fun _ => ?_) (fun h => absurd h (by rw [List.length_map, List.length_map, hTl]; simp))
    refine Exists.intro [] (And.intro rfl (And.intro ?_ ?_))
    ·repeat' (first | refine And.intro ?_ ?_ | exact rfl | exact trivial | exact Exists.intro _ rfl | fail)
    ·repeat' (first | refine And.intro ?_ ?_ | exact rfl | exact trivial | exact Exists.intro _ rfl | fail)
     exact congrArg bv (by rw [List.length_map, show IntKind.i64.wrap ((L.length : Int) - 1) = (L.length : Int) - 1 by rw [IntKind.wrap_i64]; unfold limB at hLb; omega, hat, beq_self_eq_true])
 ·have hx : ¬ (o.token = true ∧ z ≠ 0) := fun h => by
   have t1 : o.token = false := t1
   rw [t1] at h
   exact absurd h.1 (by decide)
  obtain ⟨rfl, hTn, hTl, m, hm1, hm2, mc, mo, mt, mz, at_, L, hw, hL, hLp, hat⟩ := M.other hx
  have hfm := findP_ct T s.nextId hok
  rw [hm1, hm2] at hfm
  have hll := listP_ct T z o.owner hok
  rw [hL] at hll
  have hwh : Ct Try.prog 12 [.agg (T.enc.map .t), .c (.t (iv s.nextId))] (.tup [.c (.t (iv z)), .c (.t (iv at_)), AV.b true]) [] true := by
   have := whereP_ct T s.nextId hok
   rw [hw] at this
   exact this
  have hLb : L.length * 8 ≤ limB := by rw [← hL]; exact listM_le hok z o.owner
  refine Tp.run [18, 19, 20, 21, 22, 23] ?_
  refine call_intro hfm ⟨fitL_refl T.enc, rfl, trivial⟩ (.inr rfl) ?_
  refine Tp.run [19, 20, 21, 22, 23] ?_
  refine call_intro hll ⟨fitL_refl T.enc, rfl, rfl, trivial⟩ (.inr rfl) ?_
  refine Tp.run [20, 21, 22, 23] ?_
  refine Tp.run [21, 22, 23] ?_
  refine cond_split (fun c1 => ?_) (fun c1 => ?_)
  ·have c1 : (z == 2) = true := c1
   refine cond_split (fun c2 => ?_) (fun c2 => ?_)
   ·have c2 : (!bottom) = true := c2
    have hat : at_ = 0 := by rw [hat, if_pos (by rw [c1, c2]; rfl)]
    refine Tp.run [22, 23] ?_
    refine Tp.run [23] ?_
    refine call_intro hwh ⟨fitL_refl T.enc, rfl, trivial⟩ (.inr rfl) ?_
    refine Tp.run [] ?_
    refine call_intro alive_ct trivial (.inr rfl) ?_
    refine cond_split (fun _ => ?_) (fun h => absurd h (by simp))
    refine cond_split (fun _ => ?_) (fun h => absurd h (by rw [hTn]; simp))
    refine cond_split (fun _ => ?_) (fun h => absurd h (by rw [mc]; simp))
    refine cond_split (fun _ => ?_) (fun h => absurd h (by rw [mo]; simp))
    refine cond_split (fun _ => ?_) (fun h => absurd h (by rw [mt]; simp))
    refine cond_split (fun _ => ?_) (fun h => absurd h (by rw [mz]; simp))
    refine cond_split (fun _ => ?_) (fun h => absurd h (by rw [List.length_map, List.length_map, hTl]; simp))
    refine Exists.intro [] (And.intro rfl (And.intro ?_ ?_))
    ·repeat' (first | refine And.intro ?_ ?_ | exact rfl | exact trivial | exact Exists.intro _ rfl | fail)
    ·repeat' (first | refine And.intro ?_ ?_ | exact rfl | exact trivial | exact Exists.intro _ rfl | fail)
     exact congrArg bv (by rw [hat]; rfl)
   ·have c2 : (!bottom) = false := c2
    have hat : at_ = (L.length : Int) - 1 := by rw [hat, if_neg (by rw [c1, c2]; decide)]
    refine Tp.run [23] ?_
    refine call_intro hwh ⟨fitL_refl T.enc, rfl, trivial⟩ (.inr rfl) ?_
    refine Tp.run [] ?_
    refine call_intro alive_ct trivial (.inr rfl) ?_
    refine cond_split (fun _ => ?_) (fun h => absurd h (by simp))
    refine cond_split (fun _ => ?_) (fun h => absurd h (by rw [hTn]; simp))
    refine cond_split (fun _ => ?_) (fun h => absurd h (by rw [mc]; simp))
    refine cond_split (fun _ => ?_) (fun h => absurd h (by rw [mo]; simp))
    refine cond_split (fun _ => ?_) (fun h => absurd h (by rw [mt]; simp))
    refine cond_split (fun _ => ?_) (fun h => absurd h (by rw [mz]; simp))
    refine cond_split (fun _ => ?_) (fun h => absurd h (by rw [List.length_map, List.length_map, hTl]; simp))
    refine Exists.intro [] (And.intro rfl (And.intro ?_ ?_))
    ·repeat' (first | refine And.intro ?_ ?_ | exact rfl | exact trivial | exact Exists.intro _ rfl | fail)
    ·repeat' (first | refine And.intro ?_ ?_ | exact rfl | exact trivial | exact Exists.intro _ rfl | fail)
     exact congrArg bv (by rw [List.length_map, show IntKind.i64.wrap ((L.length : Int) - 1) = (L.length : Int) - 1 by rw [IntKind.wrap_i64]; unfold limB at hLb; omega, hat, beq_self_eq_true])
  ·have c1 : (z == 2) = false := c1
   have hat : at_ = (L.length : Int) - 1 := by rw [hat, if_neg (by rw [c1]; simp)]
   refine Tp.run [23] ?_
   refine call_intro hwh ⟨fitL_refl T.enc, rfl, trivial⟩ (.inr rfl) ?_
   refine Tp.run [] ?_
   refine call_intro alive_ct trivial (.inr rfl) ?_
   refine cond_split (fun _ => ?_) (fun h => absurd h (by simp))
   refine cond_split (fun _ => ?_) (fun h => absurd h (by rw [hTn]; simp))
   refine cond_split (fun _ => ?_) (fun h => absurd h (by rw [mc]; simp))
   refine cond_split (fun _ => ?_) (fun h => absurd h (by rw [mo]; simp))
   refine cond_split (fun _ => ?_) (fun h => absurd h (by rw [mt]; simp))
   refine cond_split (fun _ => ?_) (fun h => absurd h (by rw [mz]; simp))
   refine cond_split (fun _ => ?_) (fun h => absurd h (by rw [List.length_map, List.length_map, hTl]; simp))
   refine Exists.intro [] (And.intro rfl (And.intro ?_ ?_))
   ·repeat' (first | refine And.intro ?_ ?_ | exact rfl | exact trivial | exact Exists.intro _ rfl | fail)
   ·repeat' (first | refine And.intro ?_ ?_ | exact rfl | exact trivial | exact Exists.intro _ rfl | fail)
    exact congrArg bv (by rw [List.length_map, show IntKind.i64.wrap ((L.length : Int) - 1) = (L.length : Int) - 1 by rw [IntKind.wrap_i64]; unfold limB at hLb; omega, hat, beq_self_eq_true])
open Classical in
theorem moves_ct (s : GState) (id z p : Int) (bottom : Bool) (hs : s.ok) (ht : Tight s) : Ct Try.prog 7 [.agg (s.enc.map .t), .agg ((encWay id z p bottom).map .t)] (AV.b true) [] true := by
 have hf := fair_ct s hs
 have hv := valid_ct s hs
 have hd := findP_ct s id hs
 by_cases hb : decide (FairM s) = true ∧ decide (ValidM s) = true ∧ hasM s.objects id = true
 ·obtain ⟨b1, b2, b3⟩ := hb
  rw [b1] at hf
  rw [b2] at hv
  rw [b3] at hd
  rcases fidx_cases (fun o : GObject => o.id == id) s.objects with ⟨_, _, e⟩ | ⟨i, hi, _, e, e2⟩
  ·unfold hasM at b3
   rw [e] at b3
   cases b3
  ·have hid : s.objects[i].id = id := by
    have := List.find?_some e2
    simpa using this
   rw [(findM_some e2).1] at hd
   subst hid
   exact moves_some s z p bottom i hs ht hi (of_decide_eq_true b1) (of_decide_eq_true b2) e hf hv hd
 ·exact moves_none s id z p bottom _ _ _ _ hb hf hv hd
theorem law_moves (cs : List Value) (es : List D) (oc : List Value) (od : List D) (w : World) (h : RdL (fun _ => True) reachBytes w kState cs es) (ho : RdL (fun _ => True) reachBytes w kWay oc od) : Calls Try.prog 7 #[.agg cs.toArray, .agg oc.toArray] w fun e w' => e = .returned (.bool true) ∧ Below w.heap.size w w' := by
 obtain ⟨s, hs, ht, hr⟩ := st_open h
 obtain ⟨id, z, p, b, hro⟩ := way_open ho
 exact law_of_ct (moves_ct s id z p b hs ht) (.cons (ag_env hr) (.cons (ag_env hro) .nil))
end Go.Proofs.Ytiebjkbofoppaaa
end
