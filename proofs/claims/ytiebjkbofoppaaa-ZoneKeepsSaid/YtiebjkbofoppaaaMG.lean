/- Parts of the proof, joined: Chapter 25, on trees: the reference's Same, of equal states; Chapter 25, on trees: the laws Makes, Moving, Lists, Finds; Chapter 25: the laws Lists, Finds, Makes, Moving, for any arguments; Chapter 25: the law Keeps. -/
import Derived.Test.YtiebjkbofoppaaaMF
section
namespace Go.Proofs.Ytiebjkbofoppaaa
open Go Cg Go.RowKit
set_option maxRecDepth 100000 in
theorem sameInts_ct (l : List Int) (hl : l.length * 8 ≤ limB) : Ct Try.prog 43 [.c (.t (.sl 1 (l.map encI))), .c (.t (.sl 1 (l.map encI)))] (AV.b true) [] true := by
 refine Ct.lit (b := false) ?_ rfl
 refine ct_of Try.func43 rfl (enters_of Try.func43 (by kernel_rfl) rfl) tabOk (by kernel_rfl) rfl rfl rfl rfl fun w0 O => Tp.run [2,3,8] ?_
 refine cond_split (fun h => absurd h (by simp)) (fun _ => ?_)
 refine Tp.run [] ?_
 refine Tp.loop (fun k : Nat => ⟨[(0, .c (.t (.sl 1 (l.map encI)))), (1, .c (.t (.sl 1 (l.map encI)))), (5, AV.i k)], [], [], 10000⟩) (fun k => k ≤ l.length) (fun k => l.length - k) 0 ?_ (Nat.zero_le _) ?_
 ·refine wk_of [] rfl rfl ?_ ?_ ?_
  ·repeat' (first | refine And.intro ?_ ?_ | exact rfl | exact trivial | exact Exists.intro _ rfl | fail)
  ·repeat' (first | refine And.intro ?_ ?_ | exact rfl | exact trivial | exact Exists.intro _ rfl | fail)
  ·repeat' (first | refine And.intro ?_ ?_ | exact rfl | exact trivial | exact Exists.intro _ rfl | fail)
 rintro k hk
 refine Tp.run [6, 7, 5] ?_
 refine cond_split (fun h => ?_) (fun h => ?_)
 ·have hlt := len_lt h
  refine Tp.run [] ?_
  refine Exists.intro k (Exists.intro (encI l[k]) (And.intro rfl (And.intro (map_get _ _ k hlt) ?_)))
  refine Exists.intro k (Exists.intro (encI l[k]) (And.intro rfl (And.intro (map_get _ _ k hlt) ?_)))
  refine cond_split (fun h => absurd h (by simp)) (fun _ => ?_)
  refine Tp.run [] ?_
  refine Exists.intro (k + 1) (And.intro (show k + 1 ≤ _ by omega) (And.intro (show l.length - (k + 1) < l.length - k by omega) ?_))
  refine wk_of [] rfl rfl ?_ ?_ ?_
  ·repeat' (first | refine And.intro ?_ ?_ | exact rfl | exact trivial | exact Exists.intro _ rfl | fail)
   exact succ_eq k hlt 8 (by decide) hl
  ·repeat' (first | refine And.intro ?_ ?_ | exact rfl | exact trivial | exact Exists.intro _ rfl | fail)
  ·repeat' (first | refine And.intro ?_ ?_ | exact rfl | exact trivial | exact Exists.intro _ rfl | fail)
 ·refine Tp.run [] ?_
  refine Exists.intro [] (And.intro rfl (And.intro trivial ?_))
  repeat' (first | refine And.intro ?_ ?_ | exact rfl | exact trivial | exact Exists.intro _ rfl | fail)
set_option maxRecDepth 100000 in
theorem sameMods_ct (l : List GMod) (hl : l.length * 176 ≤ limB) : Ct Try.prog 73 [.c (.t (.sl 20 (l.map GMod.enc))), .c (.t (.sl 20 (l.map GMod.enc)))] (AV.b true) [] true := by
 refine Ct.lit (b := false) ?_ rfl
 refine ct_of Try.func73 rfl (enters_of Try.func73 (by kernel_rfl) rfl) tabOk (by kernel_rfl) rfl rfl rfl rfl fun w0 O => Tp.run [2,3,8] ?_
 refine cond_split (fun h => absurd h (by simp)) (fun _ => ?_)
 refine Tp.run [] ?_
 refine Tp.loop (fun k : Nat => ⟨[(0, .c (.t (.sl 20 (l.map GMod.enc)))), (1, .c (.t (.sl 20 (l.map GMod.enc)))), (5, AV.i k)], [], [], 10000⟩) (fun k => k ≤ l.length) (fun k => l.length - k) 0 ?_ (Nat.zero_le _) ?_
 ·refine wk_of [] rfl rfl ?_ ?_ ?_
  ·repeat' (first | refine And.intro ?_ ?_ | exact rfl | exact trivial | exact Exists.intro _ rfl | fail)
  ·repeat' (first | refine And.intro ?_ ?_ | exact rfl | exact trivial | exact Exists.intro _ rfl | fail)
  ·repeat' (first | refine And.intro ?_ ?_ | exact rfl | exact trivial | exact Exists.intro _ rfl | fail)
 rintro k hk
 refine Tp.run [6, 7, 5] ?_
 refine cond_split (fun h => ?_) (fun h => ?_)
 ·have hlt := len_lt h
  refine Tp.run [] ?_
  refine Exists.intro k (Exists.intro (GMod.enc l[k]) (And.intro rfl (And.intro (map_get _ _ k hlt) ?_)))
  refine Exists.intro k (Exists.intro (GMod.enc l[k]) (And.intro rfl (And.intro (map_get _ _ k hlt) ?_)))
  refine cond_split (fun h => absurd h (by simp [lksEq, lkEq])) (fun _ => ?_)
  refine Tp.run [] ?_
  refine Exists.intro (k + 1) (And.intro (show k + 1 ≤ _ by omega) (And.intro (show l.length - (k + 1) < l.length - k by omega) ?_))
  refine wk_of [] rfl rfl ?_ ?_ ?_
  ·repeat' (first | refine And.intro ?_ ?_ | exact rfl | exact trivial | exact Exists.intro _ rfl | fail)
   exact succ_eq k hlt 176 (by decide) hl
  ·repeat' (first | refine And.intro ?_ ?_ | exact rfl | exact trivial | exact Exists.intro _ rfl | fail)
  ·repeat' (first | refine And.intro ?_ ?_ | exact rfl | exact trivial | exact Exists.intro _ rfl | fail)
 ·refine Tp.run [] ?_
  refine Exists.intro [] (And.intro rfl (And.intro trivial ?_))
  repeat' (first | refine And.intro ?_ ?_ | exact rfl | exact trivial | exact Exists.intro _ rfl | fail)
set_option maxRecDepth 100000 in
set_option maxHeartbeats 4000000 in
theorem sameEffect_ct (x : GEffect) (hx : x.ok) : Ct Try.prog 82 [.agg (x.enc.map .t), .agg (x.enc.map .t)] (AV.b true) [] true := by
 refine Ct.lit (b := false) ?_ rfl
 obtain ⟨_, _, _, hm, _⟩ := hx
 refine ct_of Try.func82 rfl (enters_of Try.func82 (by kernel_rfl) rfl) tabOk (by kernel_rfl) rfl rfl rfl rfl fun w0 O => Tp.run [] ?_
 refine cond_split (fun _ => ?_) (fun h => absurd h (by simp [lksEq, lkEq]))
 refine cond_split (fun _ => ?_) (fun h => absurd h (by simp [lksEq, lkEq]))
 refine cond_split (fun _ => ?_) (fun h => absurd h (by simp [lksEq, lkEq]))
 refine cond_split (fun _ => ?_) (fun h => absurd h (by simp [lksEq, lkEq]))
 refine cond_split (fun _ => ?_) (fun h => absurd h (by simp [lksEq, lkEq]))
 refine cond_split (fun _ => ?_) (fun h => absurd h (by simp [lksEq, lkEq]))
 refine cond_split (fun _ => ?_) (fun h => absurd h (by simp [lksEq, lkEq]))
 refine cond_split (fun _ => ?_) (fun h => absurd h (by simp [lksEq, lkEq]))
 refine call_intro (sameMods_ct x.mods hm) ⟨rfl, rfl, trivial⟩ (.inr rfl) ?_
 refine Exists.intro [] (And.intro rfl (And.intro trivial ?_))
 repeat' (first | refine And.intro ?_ ?_ | exact rfl | exact trivial | exact Exists.intro _ rfl | fail)
set_option maxRecDepth 100000 in
set_option maxHeartbeats 4000000 in
theorem samePlayer_ct (x : GPlayer) (hx : x.ok) : Ct Try.prog 44 [.agg (x.enc.map .t), .agg (x.enc.map .t)] (AV.b true) [] true := by
 refine Ct.lit (b := false) ?_ rfl
 obtain ⟨h1, h2, h3⟩ := hx
 refine ct_of Try.func44 rfl (enters_of Try.func44 (by kernel_rfl) rfl) tabOk (by kernel_rfl) rfl rfl rfl rfl fun w0 O => Tp.run [] ?_
 refine cond_split (fun _ => ?_) (fun h => absurd h (by simp [lksEq, lkEq]))
 refine cond_split (fun _ => ?_) (fun h => absurd h (by simp [lksEq, lkEq]))
 refine cond_split (fun _ => ?_) (fun h => absurd h (by simp [lksEq, lkEq]))
 refine cond_split (fun _ => ?_) (fun h => absurd h (by simp [lksEq, lkEq]))
 refine cond_split (fun _ => ?_) (fun h => absurd h (by simp [lksEq, lkEq]))
 refine cond_split (fun _ => ?_) (fun h => absurd h (by simp [lksEq, lkEq]))
 refine call_intro (sameInts_ct x.library h1) ⟨rfl, rfl, trivial⟩ (.inr rfl) ?_
 refine call_intro (sameInts_ct x.hand h2) ⟨rfl, rfl, trivial⟩ (.inr rfl) ?_
 refine call_intro (sameInts_ct x.graveyard h3) ⟨rfl, rfl, trivial⟩ (.inr rfl) ?_
 refine Exists.intro [] (And.intro rfl (And.intro trivial ?_))
 repeat' (first | refine And.intro ?_ ?_ | exact rfl | exact trivial | exact Exists.intro _ rfl | fail)
set_option maxRecDepth 100000 in
set_option maxHeartbeats 4000000 in
theorem sameAbility_ct (x : GAbility) (hx : x.ok) : Ct Try.prog 72 [.agg (x.enc.map .t), .agg (x.enc.map .t)] (AV.b true) [] true := by
 refine Ct.lit (b := false) ?_ rfl
 obtain ⟨_, hm, _, _, _, hs, hs2, he, he2, _⟩ := hx
 refine ct_of Try.func72 rfl (enters_of Try.func72 (by kernel_rfl) rfl) tabOk (by kernel_rfl) rfl rfl rfl rfl fun w0 O => Tp.run [2,3,8,13] ?_
 refine cond_split (fun h => absurd h (by simp [lksEq, lkEq])) (fun _ => ?_)
 refine cond_split (fun h => absurd h (by simp [lksEq, lkEq])) (fun _ => ?_)
 refine call_intro (sameMods_ct x.mods hm) ⟨rfl, rfl, trivial⟩ (.inr rfl) ?_
 refine cond_split (fun h => absurd h (by simp [lksEq, lkEq])) (fun _ => ?_)
 refine cond_split (fun h => absurd h (by simp [lksEq, lkEq])) (fun _ => ?_)
 refine cond_split (fun h => absurd h (by simp [lksEq, lkEq])) (fun _ => ?_)
 refine cond_split (fun h => absurd h (by simp [lksEq, lkEq])) (fun _ => ?_)
 refine cond_split (fun h => absurd h (by simp [lksEq, lkEq])) (fun _ => ?_)
 refine cond_split (fun h => absurd h (by simp [lksEq, lkEq])) (fun _ => ?_)
 refine cond_split (fun h => absurd h (by simp [lksEq, lkEq])) (fun _ => ?_)
 refine Tp.run [] ?_
 refine Tp.loop (fun k : Nat => ⟨[(2, .ptr 0 0), (3, .ptr 128 0), (5, AV.i k)], [(0, x.enc.map .t), (128, x.enc.map .t)], [], 10000⟩) (fun k => k ≤ x.specs.length) (fun k => x.specs.length - k) 0 ?_ (Nat.zero_le _) ?_
 ·refine wk_of [] rfl rfl ?_ ?_ ?_
  ·repeat' (first | refine And.intro ?_ ?_ | exact rfl | exact trivial | exact Exists.intro _ rfl | fail)
  ·exact ⟨cesM_refl _ rfl, cesM_refl _ rfl, trivial⟩
  ·repeat' (first | refine And.intro ?_ ?_ | exact rfl | exact trivial | exact Exists.intro _ rfl | fail)
 rintro k hk
 refine Tp.run [6, 7, 5] ?_
 refine cond_split (fun h => ?_) (fun h => ?_)
 ·have hlt := len_lt h
  refine Tp.run [] ?_
  refine Exists.intro k (Exists.intro (x.specs[k].enc) (And.intro rfl (And.intro (map_get _ _ k hlt) ?_)))
  refine Exists.intro k (Exists.intro (x.specs[k].enc) (And.intro rfl (And.intro (map_get _ _ k hlt) ?_)))
  refine cond_split (fun h => absurd h (by simp [lksEq, lkEq])) (fun _ => ?_)
  refine Tp.run [] ?_
  refine Exists.intro (k + 1) (And.intro (show k + 1 ≤ _ by omega) (And.intro (show x.specs.length - (k + 1) < x.specs.length - k by omega) ?_))
  refine wk_of [] rfl rfl ?_ ?_ ?_
  ·repeat' (first | refine And.intro ?_ ?_ | exact rfl | exact trivial | exact Exists.intro _ rfl | fail)
   exact succ_eq k hlt 144 (by decide) hs
  ·exact ⟨cesM_refl _ rfl, cesM_refl _ rfl, trivial⟩
  ·repeat' (first | refine And.intro ?_ ?_ | exact rfl | exact trivial | exact Exists.intro _ rfl | fail)
 clear hk
 refine Tp.run [] ?_
 refine Tp.loop (fun k : Nat => ⟨[(2, .ptr 0 0), (3, .ptr 128 0), (6, AV.i k)], [(0, x.enc.map .t), (128, x.enc.map .t)], [], 20000⟩) (fun k => k ≤ x.effects.length) (fun k => x.effects.length - k) 0 ?_ (Nat.zero_le _) ?_
 ·refine wk_of [] rfl rfl ?_ ?_ ?_
  ·repeat' (first | refine And.intro ?_ ?_ | exact rfl | exact trivial | exact Exists.intro _ rfl | fail)
  ·exact ⟨cesM_refl _ rfl, cesM_refl _ rfl, trivial⟩
  ·repeat' (first | refine And.intro ?_ ?_ | exact rfl | exact trivial | exact Exists.intro _ rfl | fail)
 rintro k hk
 refine Tp.run [11, 12, 10] ?_
 refine cond_split (fun h => ?_) (fun h => ?_)
 ·have hlt := len_lt h
  refine Tp.run [] ?_
  refine Exists.intro k (Exists.intro (x.effects[k].enc) (And.intro rfl (And.intro (map_get _ _ k hlt) ?_)))
  refine Exists.intro k (Exists.intro (x.effects[k].enc) (And.intro rfl (And.intro (map_get _ _ k hlt) ?_)))
  refine call_intro (sameEffect_ct x.effects[k] (he2 _ (List.getElem_mem hlt))) ⟨fitL_refl x.effects[k].enc, fitL_refl x.effects[k].enc, trivial⟩ (.inr rfl) ?_
  refine Tp.run [] ?_
  refine Exists.intro (k + 1) (And.intro (show k + 1 ≤ _ by omega) (And.intro (show x.effects.length - (k + 1) < x.effects.length - k by omega) ?_))
  refine wk_of [] rfl rfl ?_ ?_ ?_
  ·repeat' (first | refine And.intro ?_ ?_ | exact rfl | exact trivial | exact Exists.intro _ rfl | fail)
   exact succ_eq k hlt 560 (by decide) he
  ·exact ⟨cesM_refl _ rfl, cesM_refl _ rfl, trivial⟩
  ·repeat' (first | refine And.intro ?_ ?_ | exact rfl | exact trivial | exact Exists.intro _ rfl | fail)
 clear hk
 refine Tp.run [] ?_
 refine Exists.intro [] (And.intro rfl (And.intro trivial ?_))
 repeat' (first | refine And.intro ?_ ?_ | exact rfl | exact trivial | exact Exists.intro _ rfl | fail)
set_option maxRecDepth 100000 in
set_option maxHeartbeats 4000000 in
theorem sameItem_ct (x : GItem) (hx : x.ok) : Ct Try.prog 45 [.agg (x.enc.map .t), .agg (x.enc.map .t)] (AV.b true) [] true := by
 refine Ct.lit (b := false) ?_ rfl
 obtain ⟨ha, ht, _, _⟩ := hx
 refine ct_of Try.func45 rfl (enters_of Try.func45 (by kernel_rfl) rfl) tabOk (by kernel_rfl) rfl rfl rfl rfl fun w0 O => Tp.run [2,3,8] ?_
 refine cond_split (fun h => absurd h (by simp [lksEq, lkEq])) (fun _ => ?_)
 refine cond_split (fun h => absurd h (by simp [lksEq, lkEq])) (fun _ => ?_)
 refine cond_split (fun h => absurd h (by simp [lksEq, lkEq])) (fun _ => ?_)
 refine cond_split (fun h => absurd h (by simp [lksEq, lkEq])) (fun _ => ?_)
 refine cond_split (fun h => absurd h (by simp [lksEq, lkEq])) (fun _ => ?_)
 refine cond_split (fun h => absurd h (by simp [lksEq, lkEq])) (fun _ => ?_)
 refine cond_split (fun h => absurd h (by simp [lksEq, lkEq])) (fun _ => ?_)
 refine cond_split (fun h => absurd h (by simp [lksEq, lkEq])) (fun _ => ?_)
 refine call_intro (sameAbility_ct x.ability ha) ⟨fitL_refl x.ability.enc, fitL_refl x.ability.enc, trivial⟩ (.inr rfl) ?_
 refine Tp.run [] ?_
 refine Tp.loop (fun k : Nat => ⟨[(2, .ptr 0 0), (3, .ptr 128 0), (5, AV.i k)], [(0, x.enc.map .t), (128, x.enc.map .t)], [], 10000⟩) (fun k => k ≤ x.targets.length) (fun k => x.targets.length - k) 0 ?_ (Nat.zero_le _) ?_
 ·refine wk_of [] rfl rfl ?_ ?_ ?_
  ·repeat' (first | refine And.intro ?_ ?_ | exact rfl | exact trivial | exact Exists.intro _ rfl | fail)
  ·exact ⟨cesM_refl _ rfl, cesM_refl _ rfl, trivial⟩
  ·repeat' (first | refine And.intro ?_ ?_ | exact rfl | exact trivial | exact Exists.intro _ rfl | fail)
 rintro k hk
 refine Tp.run [6, 7, 5] ?_
 refine cond_split (fun h => ?_) (fun h => ?_)
 ·have hlt := len_lt h
  refine Tp.run [] ?_
  refine Exists.intro k (Exists.intro (x.targets[k].enc) (And.intro rfl (And.intro (map_get _ _ k hlt) ?_)))
  refine Exists.intro k (Exists.intro (x.targets[k].enc) (And.intro rfl (And.intro (map_get _ _ k hlt) ?_)))
  refine cond_split (fun h => absurd h (by simp [lksEq, lkEq])) (fun _ => ?_)
  refine Tp.run [] ?_
  refine Exists.intro (k + 1) (And.intro (show k + 1 ≤ _ by omega) (And.intro (show x.targets.length - (k + 1) < x.targets.length - k by omega) ?_))
  refine wk_of [] rfl rfl ?_ ?_ ?_
  ·repeat' (first | refine And.intro ?_ ?_ | exact rfl | exact trivial | exact Exists.intro _ rfl | fail)
   exact succ_eq k hlt 16 (by decide) ht
  ·exact ⟨cesM_refl _ rfl, cesM_refl _ rfl, trivial⟩
  ·repeat' (first | refine And.intro ?_ ?_ | exact rfl | exact trivial | exact Exists.intro _ rfl | fail)
 clear hk
 refine Tp.run [] ?_
 refine Exists.intro [] (And.intro rfl (And.intro trivial ?_))
 repeat' (first | refine And.intro ?_ ?_ | exact rfl | exact trivial | exact Exists.intro _ rfl | fail)
set_option maxRecDepth 100000 in
set_option maxHeartbeats 4000000 in
theorem sameRest_ct (x : GState) (hx : x.ok) : Ct Try.prog 46 [.agg (x.enc.map .t), .agg (x.enc.map .t)] (AV.b true) [] true := by
 refine Ct.lit (b := false) ?_ rfl
 have h := hx
 obtain ⟨hp, hp2, ho, ho2, hb, hex, hs, hs2, hw, hw2, hc, hc2, hxt⟩ := h
 refine ct_of Try.func46 rfl (enters_of Try.func46 (by kernel_rfl) rfl) tabOk (by kernel_rfl) rfl rfl rfl rfl fun w0 O => Tp.run [2,3,10,17] ?_
 refine cond_split (fun h => absurd h (by simp [lksEq, lkEq])) (fun _ => ?_)
 refine cond_split (fun h => absurd h (by simp [lksEq, lkEq])) (fun _ => ?_)
 refine call_intro (sameInts_ct x.extra hxt) ⟨rfl, rfl, trivial⟩ (.inr rfl) ?_
 refine Tp.run [] ?_
 refine Tp.loop (fun k : Nat => ⟨[(2, .ptr 0 0), (3, .ptr 128 0), (5, AV.i k)], [(0, x.enc.map .t), (128, x.enc.map .t)], [], 10000⟩) (fun k => k ≤ x.waiting.length) (fun k => x.waiting.length - k) 0 ?_ (Nat.zero_le _) ?_
 ·refine wk_of [] rfl rfl ?_ ?_ ?_
  ·repeat' (first | refine And.intro ?_ ?_ | exact rfl | exact trivial | exact Exists.intro _ rfl | fail)
  ·exact ⟨cesM_refl _ rfl, cesM_refl _ rfl, trivial⟩
  ·repeat' (first | refine And.intro ?_ ?_ | exact rfl | exact trivial | exact Exists.intro _ rfl | fail)
 rintro k hk
 refine Tp.run [6, 9, 5] ?_
 refine cond_split (fun h => ?_) (fun h => ?_)
 ·have hlt := len_lt h
  refine Tp.run [] ?_
  refine Exists.intro k (Exists.intro (x.waiting[k].enc) (And.intro rfl (And.intro (map_get _ _ k hlt) ?_)))
  refine Exists.intro k (Exists.intro (x.waiting[k].enc) (And.intro rfl (And.intro (map_get _ _ k hlt) ?_)))
  refine cond_split (fun h => absurd h (by simp [lksEq, lkEq])) (fun _ => ?_)
  refine cond_split (fun h => absurd h (by simp [lksEq, lkEq])) (fun _ => ?_)
  refine cond_split (fun h => absurd h (by simp [lksEq, lkEq])) (fun _ => ?_)
  refine call_intro (sameAbility_ct x.waiting[k].ability (hw2 _ (List.getElem_mem hlt)).1) ⟨fitL_refl x.waiting[k].ability.enc, fitL_refl x.waiting[k].ability.enc, trivial⟩ (.inr rfl) ?_
  refine Tp.run [] ?_
  refine Exists.intro (k + 1) (And.intro (show k + 1 ≤ _ by omega) (And.intro (show x.waiting.length - (k + 1) < x.waiting.length - k by omega) ?_))
  refine wk_of [] rfl rfl ?_ ?_ ?_
  ·repeat' (first | refine And.intro ?_ ?_ | exact rfl | exact trivial | exact Exists.intro _ rfl | fail)
   exact succ_eq k hlt 768 (by decide) hw
  ·exact ⟨cesM_refl _ rfl, cesM_refl _ rfl, trivial⟩
  ·repeat' (first | refine And.intro ?_ ?_ | exact rfl | exact trivial | exact Exists.intro _ rfl | fail)
 clear hk
 refine Tp.run [] ?_
 refine Tp.loop (fun k : Nat => ⟨[(2, .ptr 0 0), (3, .ptr 128 0), (8, AV.i k)], [(0, x.enc.map .t), (128, x.enc.map .t)], [], 20000⟩) (fun k => k ≤ x.conts.length) (fun k => x.conts.length - k) 0 ?_ (Nat.zero_le _) ?_
 ·refine wk_of [] rfl rfl ?_ ?_ ?_
  ·repeat' (first | refine And.intro ?_ ?_ | exact rfl | exact trivial | exact Exists.intro _ rfl | fail)
  ·exact ⟨cesM_refl _ rfl, cesM_refl _ rfl, trivial⟩
  ·repeat' (first | refine And.intro ?_ ?_ | exact rfl | exact trivial | exact Exists.intro _ rfl | fail)
 rintro k hk
 refine Tp.run [13, 16, 12] ?_
 refine cond_split (fun h => ?_) (fun h => ?_)
 ·have hlt := len_lt h
  refine Tp.run [] ?_
  refine Exists.intro k (Exists.intro (x.conts[k].enc) (And.intro rfl (And.intro (map_get _ _ k hlt) ?_)))
  refine Exists.intro k (Exists.intro (x.conts[k].enc) (And.intro rfl (And.intro (map_get _ _ k hlt) ?_)))
  refine cond_split (fun h => absurd h (by simp [lksEq, lkEq])) (fun _ => ?_)
  refine cond_split (fun h => absurd h (by simp [lksEq, lkEq])) (fun _ => ?_)
  refine cond_split (fun h => absurd h (by simp [lksEq, lkEq])) (fun _ => ?_)
  refine cond_split (fun h => absurd h (by simp [lksEq, lkEq])) (fun _ => ?_)
  refine call_intro (sameInts_ct x.conts[k].objects (hc2 _ (List.getElem_mem hlt)).1) ⟨rfl, rfl, trivial⟩ (.inr rfl) ?_
  refine call_intro (sameMods_ct x.conts[k].mods (hc2 _ (List.getElem_mem hlt)).2.1) ⟨rfl, rfl, trivial⟩ (.inr rfl) ?_
  refine Tp.run [] ?_
  refine Exists.intro (k + 1) (And.intro (show k + 1 ≤ _ by omega) (And.intro (show x.conts.length - (k + 1) < x.conts.length - k by omega) ?_))
  refine wk_of [] rfl rfl ?_ ?_ ?_
  ·repeat' (first | refine And.intro ?_ ?_ | exact rfl | exact trivial | exact Exists.intro _ rfl | fail)
   exact succ_eq k hlt 80 (by decide) hc
  ·exact ⟨cesM_refl _ rfl, cesM_refl _ rfl, trivial⟩
  ·repeat' (first | refine And.intro ?_ ?_ | exact rfl | exact trivial | exact Exists.intro _ rfl | fail)
 clear hk
 refine Tp.run [] ?_
 refine cond_split (fun _ => ?_) (fun h => absurd h (by simp [lksEq, lkEq]))
 refine cond_split (fun _ => ?_) (fun h => absurd h (by simp [lksEq, lkEq]))
 refine cond_split (fun _ => ?_) (fun h => absurd h (by simp [lksEq, lkEq]))
 refine cond_split (fun _ => ?_) (fun h => absurd h (by simp [lksEq, lkEq]))
 refine cond_split (fun _ => ?_) (fun h => absurd h (by simp [lksEq, lkEq]))
 refine cond_split (fun _ => ?_) (fun h => absurd h (by simp [lksEq, lkEq]))
 refine cond_split (fun _ => ?_) (fun h => absurd h (by simp [lksEq, lkEq]))
 refine cond_split (fun _ => ?_) (fun h => absurd h (by simp [lksEq, lkEq]))
 refine cond_split (fun _ => ?_) (fun h => absurd h (by simp [lksEq, lkEq]))
 refine cond_split (fun _ => ?_) (fun h => absurd h (by simp [lksEq, lkEq]))
 refine Exists.intro [] (And.intro rfl (And.intro trivial ?_))
 exact congrArg (fun b => Tr.lit (Value.bool b)) (beq_self_eq_true x.winner)
set_option maxRecDepth 100000 in
set_option maxHeartbeats 4000000 in
theorem same_ct (x : GState) (hx : x.ok) : Ct Try.prog 17 [.agg (x.enc.map .t), .agg (x.enc.map .t)] (AV.b true) [] true := by
 refine Ct.lit (b := false) ?_ rfl
 have h := hx
 obtain ⟨hp, hp2, ho, ho2, hb, hex, hs, hs2, hw, hw2, hc, hc2, hxt⟩ := h
 refine ct_of Try.func17 rfl (enters_of Try.func17 (by kernel_rfl) rfl) tabOk (by kernel_rfl) rfl rfl rfl rfl fun w0 O => Tp.run [2,3,8,13,18] ?_
 refine cond_split (fun h => absurd h (by simp [lksEq, lkEq])) (fun _ => ?_)
 refine cond_split (fun h => absurd h (by simp [lksEq, lkEq])) (fun _ => ?_)
 refine cond_split (fun h => absurd h (by simp [lksEq, lkEq])) (fun _ => ?_)
 refine call_intro (sameInts_ct x.battlefield hb) ⟨rfl, rfl, trivial⟩ (.inr rfl) ?_
 refine call_intro (sameInts_ct x.exile hex) ⟨rfl, rfl, trivial⟩ (.inr rfl) ?_
 refine Tp.run [] ?_
 refine Tp.loop (fun k : Nat => ⟨[(2, .ptr 0 0), (3, .ptr 128 0), (5, AV.i k)], [(0, x.enc.map .t), (128, x.enc.map .t)], [], 10000⟩) (fun k => k ≤ x.players.length) (fun k => x.players.length - k) 0 ?_ (Nat.zero_le _) ?_
 ·refine wk_of [] rfl rfl ?_ ?_ ?_
  ·repeat' (first | refine And.intro ?_ ?_ | exact rfl | exact trivial | exact Exists.intro _ rfl | fail)
  ·exact ⟨cesM_refl _ rfl, cesM_refl _ rfl, trivial⟩
  ·repeat' (first | refine And.intro ?_ ?_ | exact rfl | exact trivial | exact Exists.intro _ rfl | fail)
 rintro k hk
 refine Tp.run [6, 7, 5] ?_
 refine cond_split (fun h => ?_) (fun h => ?_)
 ·have hlt := len_lt h
  refine Tp.run [] ?_
  refine Exists.intro k (Exists.intro (x.players[k].enc) (And.intro rfl (And.intro (map_get _ _ k hlt) ?_)))
  refine Exists.intro k (Exists.intro (x.players[k].enc) (And.intro rfl (And.intro (map_get _ _ k hlt) ?_)))
  refine call_intro (samePlayer_ct x.players[k] (hp2 _ (List.getElem_mem hlt))) ⟨fitL_refl x.players[k].enc, fitL_refl x.players[k].enc, trivial⟩ (.inr rfl) ?_
  refine Tp.run [] ?_
  refine Exists.intro (k + 1) (And.intro (show k + 1 ≤ _ by omega) (And.intro (show x.players.length - (k + 1) < x.players.length - k by omega) ?_))
  refine wk_of [] rfl rfl ?_ ?_ ?_
  ·repeat' (first | refine And.intro ?_ ?_ | exact rfl | exact trivial | exact Exists.intro _ rfl | fail)
   exact succ_eq k hlt 152 (by decide) hp
  ·exact ⟨cesM_refl _ rfl, cesM_refl _ rfl, trivial⟩
  ·repeat' (first | refine And.intro ?_ ?_ | exact rfl | exact trivial | exact Exists.intro _ rfl | fail)
 clear hk
 refine Tp.run [] ?_
 refine Tp.loop (fun k : Nat => ⟨[(2, .ptr 0 0), (3, .ptr 128 0), (6, AV.i k)], [(0, x.enc.map .t), (128, x.enc.map .t)], [], 20000⟩) (fun k => k ≤ x.objects.length) (fun k => x.objects.length - k) 0 ?_ (Nat.zero_le _) ?_
 ·refine wk_of [] rfl rfl ?_ ?_ ?_
  ·repeat' (first | refine And.intro ?_ ?_ | exact rfl | exact trivial | exact Exists.intro _ rfl | fail)
  ·exact ⟨cesM_refl _ rfl, cesM_refl _ rfl, trivial⟩
  ·repeat' (first | refine And.intro ?_ ?_ | exact rfl | exact trivial | exact Exists.intro _ rfl | fail)
 rintro k hk
 refine Tp.run [11, 12, 10] ?_
 refine cond_split (fun h => ?_) (fun h => ?_)
 ·have hlt := len_lt h
  refine Tp.run [] ?_
  refine Exists.intro k (Exists.intro (x.objects[k].enc) (And.intro rfl (And.intro (map_get _ _ k hlt) ?_)))
  refine Exists.intro k (Exists.intro (x.objects[k].enc) (And.intro rfl (And.intro (map_get _ _ k hlt) ?_)))
  refine cond_split (fun h => absurd h (by simp [lksEq, lkEq])) (fun _ => ?_)
  refine Tp.run [] ?_
  refine Exists.intro (k + 1) (And.intro (show k + 1 ≤ _ by omega) (And.intro (show x.objects.length - (k + 1) < x.objects.length - k by omega) ?_))
  refine wk_of [] rfl rfl ?_ ?_ ?_
  ·repeat' (first | refine And.intro ?_ ?_ | exact rfl | exact trivial | exact Exists.intro _ rfl | fail)
   exact succ_eq k hlt 128 (by decide) ho
  ·exact ⟨cesM_refl _ rfl, cesM_refl _ rfl, trivial⟩
  ·repeat' (first | refine And.intro ?_ ?_ | exact rfl | exact trivial | exact Exists.intro _ rfl | fail)
 clear hk
 refine Tp.run [] ?_
 refine Tp.loop (fun k : Nat => ⟨[(2, .ptr 0 0), (3, .ptr 128 0), (7, AV.i k)], [(0, x.enc.map .t), (128, x.enc.map .t)], [], 30000⟩) (fun k => k ≤ x.stack.length) (fun k => x.stack.length - k) 0 ?_ (Nat.zero_le _) ?_
 ·refine wk_of [] rfl rfl ?_ ?_ ?_
  ·repeat' (first | refine And.intro ?_ ?_ | exact rfl | exact trivial | exact Exists.intro _ rfl | fail)
  ·exact ⟨cesM_refl _ rfl, cesM_refl _ rfl, trivial⟩
  ·repeat' (first | refine And.intro ?_ ?_ | exact rfl | exact trivial | exact Exists.intro _ rfl | fail)
 rintro k hk
 refine Tp.run [16, 17, 15] ?_
 refine cond_split (fun h => ?_) (fun h => ?_)
 ·have hlt := len_lt h
  refine Tp.run [] ?_
  refine Exists.intro k (Exists.intro (x.stack[k].enc) (And.intro rfl (And.intro (map_get _ _ k hlt) ?_)))
  refine Exists.intro k (Exists.intro (x.stack[k].enc) (And.intro rfl (And.intro (map_get _ _ k hlt) ?_)))
  refine call_intro (sameItem_ct x.stack[k] (hs2 _ (List.getElem_mem hlt))) ⟨fitL_refl x.stack[k].enc, fitL_refl x.stack[k].enc, trivial⟩ (.inr rfl) ?_
  refine Tp.run [] ?_
  refine Exists.intro (k + 1) (And.intro (show k + 1 ≤ _ by omega) (And.intro (show x.stack.length - (k + 1) < x.stack.length - k by omega) ?_))
  refine wk_of [] rfl rfl ?_ ?_ ?_
  ·repeat' (first | refine And.intro ?_ ?_ | exact rfl | exact trivial | exact Exists.intro _ rfl | fail)
   exact succ_eq k hlt 824 (by decide) hs
  ·exact ⟨cesM_refl _ rfl, cesM_refl _ rfl, trivial⟩
  ·repeat' (first | refine And.intro ?_ ?_ | exact rfl | exact trivial | exact Exists.intro _ rfl | fail)
 clear hk
 refine Tp.run [] ?_
 refine call_intro (sameRest_ct x hx) ⟨fitL_refl x.enc, fitL_refl x.enc, trivial⟩ (.inr rfl) ?_
 refine Exists.intro [] (And.intro rfl (And.intro trivial ?_))
 repeat' (first | refine And.intro ?_ ?_ | exact rfl | exact trivial | exact Exists.intro _ rfl | fail)
end Go.Proofs.Ytiebjkbofoppaaa
end
section
namespace Go.Proofs.Ytiebjkbofoppaaa
open Go Cg Go.RowKit Go.Sort
set_option maxRecDepth 100000 in
theorem ints_eq_ct (l : List Int) (hl : l.length * 8 ≤ limB) : Ct Try.prog 27 [.c (.t (.sl 1 (l.map encI))), .c (.t (.sl 1 (l.map encI)))] (AV.b true) [] true := by
 refine Ct.lit (b := false) ?_ rfl
 refine ct_of Try.func27 rfl (enters_of Try.func27 (by kernel_rfl) rfl) tabOk (by kernel_rfl) rfl rfl rfl rfl fun w0 O => Tp.run [2,3,9] ?_
 refine cond_split (fun h => absurd h (by simp)) (fun _ => ?_)
 refine Tp.run [] ?_
 refine Tp.loop (fun k : Nat => ⟨[(0, .c (.t (.sl 1 (l.map encI)))), (1, .c (.t (.sl 1 (l.map encI)))), (12, .c (.t (iv (((l.map encI).length : Nat) : Int)))), (13, AV.i k)], [], [], 10000⟩) (fun k => k ≤ l.length) (fun k => l.length - k) 0 ?_ (Nat.zero_le _) ?_
 ·refine wk_of [] rfl rfl ?_ ?_ ?_
  ·repeat' (first | refine And.intro ?_ ?_ | exact rfl | exact trivial | exact Exists.intro _ rfl | fail)
  ·repeat' (first | refine And.intro ?_ ?_ | exact rfl | exact trivial | exact Exists.intro _ rfl | fail)
  ·repeat' (first | refine And.intro ?_ ?_ | exact rfl | exact trivial | exact Exists.intro _ rfl | fail)
 rintro k hk
 refine Tp.run [5, 7, 8] ?_
 refine cond_split (fun h => ?_) (fun h => ?_)
 ·have hlt := len_lt h
  refine Tp.run [7, 8] ?_
  refine Exists.intro k (Exists.intro (encI l[k]) (And.intro rfl (And.intro (map_get _ _ k hlt) ?_)))
  refine Exists.intro k (Exists.intro (encI l[k]) (And.intro rfl (And.intro (map_get _ _ k hlt) ?_)))
  refine cond_split (fun h => absurd h (by simp)) (fun _ => ?_)
  refine Tp.run [] ?_
  refine Exists.intro (k + 1) (And.intro (show k + 1 ≤ _ by omega) (And.intro (show l.length - (k + 1) < l.length - k by omega) ?_))
  refine wk_of [] rfl rfl ?_ ?_ ?_
  ·repeat' (first | refine And.intro ?_ ?_ | exact rfl | exact trivial | exact Exists.intro _ rfl | fail)
   exact succ_eq k hlt 8 (by decide) hl
  ·repeat' (first | refine And.intro ?_ ?_ | exact rfl | exact trivial | exact Exists.intro _ rfl | fail)
  ·repeat' (first | refine And.intro ?_ ?_ | exact rfl | exact trivial | exact Exists.intro _ rfl | fail)
 ·refine Tp.run [] ?_
  refine Exists.intro [] (And.intro rfl (And.intro trivial ?_))
  repeat' (first | refine And.intro ?_ ?_ | exact rfl | exact trivial | exact Exists.intro _ rfl | fail)
set_option maxRecDepth 100000 in
set_option maxHeartbeats 4000000 in
theorem makes_ct (s : GState) (card player : Int) (hs : s.ok) (ht : Tight s) : Ct Try.prog 5 [.agg (s.enc.map .t), .c (.t (iv card)), .c (.t (iv player))] (AV.b true) [] true := by
 refine Ct.lit (b := false) ?_ rfl
 have hf := fair_ct s hs
 have hm := makeP_ct s card player hs
 have hmr := make_ct s card player hs
 have hok := makeM_ok s card player hs ht
 cases hfair : decide (FairM s)
 ·rw [hfair] at hf
  refine ct_of Try.func5 rfl (enters_of Try.func5 (by kernel_rfl) rfl) tabOk (by kernel_rfl) rfl rfl rfl rfl fun w0 O => Tp.run [2,3,4,5] ?_
  refine call_intro hf ⟨fitL_refl s.enc, trivial⟩ (.inr rfl) ?_
  refine Tp.run [] ?_
  refine call_intro alive_ct trivial (.inr rfl) ?_
  refine Exists.intro [] (And.intro rfl (And.intro ?_ ?_))
  ·repeat' (first | refine And.intro ?_ ?_ | exact rfl | exact trivial | exact Exists.intro _ rfl | fail)
  ·repeat' (first | refine And.intro ?_ ?_ | exact rfl | exact trivial | exact Exists.intro _ rfl | fail)
 ·rw [hfair] at hf
  have hF := of_decide_eq_true hfair
  have hm := hm hF.wrap.1 hF.wrap.2 (hok hF.1)
  have hok := hok hF.1
  generalize (makeM s card player).1 = M at hm hmr hok
  generalize (makeM s card player).2 = n at hm hmr
  have hsm := same_ct M hok
  refine ct_of Try.func5 rfl (enters_of Try.func5 (by kernel_rfl) rfl) tabOk (by kernel_rfl) rfl rfl rfl rfl fun w0 O => Tp.run [2,3,4,5] ?_
  refine call_intro hf ⟨fitL_refl s.enc, trivial⟩ (.inr rfl) ?_
  refine Tp.run [4, 5] ?_
  refine call_intro hm ⟨fitL_refl s.enc, rfl, rfl, trivial⟩ (.inr rfl) ?_
  refine Tp.run [5] ?_
  refine call_intro hmr ⟨fitL_refl s.enc, rfl, rfl, trivial⟩ (.inr rfl) ?_
  refine Tp.run [] ?_
  refine call_intro alive_ct trivial (.inr rfl) ?_
  refine cond_split (fun _ => ?_) (fun h => absurd h (by simp))
  refine call_intro hsm ⟨fitL_refl M.enc, fitL_refl M.enc, trivial⟩ (.inl rfl) ?_
  refine Exists.intro [] (And.intro rfl (And.intro ?_ ?_))
  ·repeat' (first | refine And.intro ?_ ?_ | exact rfl | exact trivial | exact Exists.intro _ rfl | fail)
  ·repeat' (first | refine And.intro ?_ ?_ | exact rfl | exact trivial | exact Exists.intro _ rfl | fail)
set_option maxRecDepth 100000 in
set_option maxHeartbeats 4000000 in
theorem moving_ct (s : GState) (id z p : Int) (bottom : Bool) (hs : s.ok) (ht : Tight s) : Ct Try.prog 4 [.agg (s.enc.map .t), .agg ((encWay id z p bottom).map .t)] (AV.b true) [] true := by
 refine Ct.lit (b := false) ?_ rfl
 have hf := fair_ct s hs
 have hm := moveP_ct s id z p bottom hs
 have hmr := move_ct s id z p bottom hs
 have hok := moveM_ok s id z p bottom hs ht
 have hss := same_ct s hs
 cases hfair : decide (FairM s)
 ·rw [hfair] at hf
  refine ct_of Try.func4 rfl (enters_of Try.func4 (by kernel_rfl) rfl) tabOk (by kernel_rfl) rfl rfl rfl rfl fun w0 O => Tp.run [2,3,4,5,6] ?_
  refine call_intro hf ⟨fitL_refl s.enc, trivial⟩ (.inr rfl) ?_
  refine Tp.run [] ?_
  refine call_intro alive_ct trivial (.inr rfl) ?_
  refine Exists.intro [] (And.intro rfl (And.intro ?_ ?_))
  ·repeat' (first | refine And.intro ?_ ?_ | exact rfl | exact trivial | exact Exists.intro _ rfl | fail)
  ·repeat' (first | refine And.intro ?_ ?_ | exact rfl | exact trivial | exact Exists.intro _ rfl | fail)
 ·rw [hfair] at hf
  have hF := of_decide_eq_true hfair
  have hm := hm hF.wrap.1 hF.wrap.2 hok
  generalize (moveM s id z p bottom).1 = M at hm hmr hok
  generalize (moveM s id z p bottom).2 = n at hm hmr
  have hsm := same_ct M hok
  refine ct_of Try.func4 rfl (enters_of Try.func4 (by kernel_rfl) rfl) tabOk (by kernel_rfl) rfl rfl rfl rfl fun w0 O => Tp.run [2,3,4,5,6] ?_
  refine call_intro hf ⟨fitL_refl s.enc, trivial⟩ (.inr rfl) ?_
  refine Tp.run [4, 5, 6] ?_
  refine call_intro (copy_ct s hs) ⟨fitL_refl s.enc, trivial⟩ (.inr rfl) ?_
  refine Tp.run [5, 6] ?_
  refine call_intro hm ⟨fitL_refl s.enc, rfl, rfl, rfl, rfl, trivial⟩ (.inr rfl) ?_
  refine Tp.run [6] ?_
  refine call_intro hmr ⟨fitL_refl s.enc, rfl, rfl, rfl, rfl, trivial⟩ (.inr rfl) ?_
  refine Tp.run [] ?_
  refine call_intro alive_ct trivial (.inr rfl) ?_
  refine cond_split (fun _ => ?_) (fun h => absurd h (by simp))
  refine call_intro hsm ⟨fitL_refl M.enc, fitL_refl M.enc, trivial⟩ (.inl rfl) ?_
  refine call_intro hss ⟨fitL_refl s.enc, ?_, trivial⟩ (.inl rfl) ?_
  ·repeat' (first | refine And.intro ?_ ?_ | exact rfl | exact trivial | exact Exists.intro _ rfl | fail)
  refine Exists.intro [] (And.intro rfl (And.intro ?_ ?_))
  ·repeat' (first | refine And.intro ?_ ?_ | exact rfl | exact trivial | exact Exists.intro _ rfl | fail)
  ·repeat' (first | refine And.intro ?_ ?_ | exact rfl | exact trivial | exact Exists.intro _ rfl | fail)
set_option maxRecDepth 100000 in
set_option maxHeartbeats 4000000 in
theorem lists_ct (s : GState) (z p : Int) (hs : s.ok) : Ct Try.prog 8 [.agg (s.enc.map .t), .c (.t (iv z)), .c (.t (iv p))] (AV.b true) [] true := by
 refine Ct.lit (b := false) ?_ rfl
 have hf := fair_ct s hs
 have hss := same_ct s hs
 cases hfair : decide (FairM s)
 ·rw [hfair] at hf
  refine ct_of Try.func8 rfl (enters_of Try.func8 (by kernel_rfl) rfl) tabOk (by kernel_rfl) rfl rfl rfl rfl fun w0 O => Tp.run [2,3,4,5] ?_
  refine call_intro hf ⟨fitL_refl s.enc, trivial⟩ (.inr rfl) ?_
  refine Tp.run [] ?_
  refine call_intro alive_ct trivial (.inr rfl) ?_
  refine Exists.intro [] (And.intro rfl (And.intro ?_ ?_))
  ·repeat' (first | refine And.intro ?_ ?_ | exact rfl | exact trivial | exact Exists.intro _ rfl | fail)
  ·repeat' (first | refine And.intro ?_ ?_ | exact rfl | exact trivial | exact Exists.intro _ rfl | fail)
 ·rw [hfair] at hf
  have h3 : [z, 7, p].length * 8 ≤ limB := show 3 * 8 ≤ limB by decide
  have hl := listP_ct s z p hs
  have hlr := list_ct s z p hs
  have hle := listM_le hs z p
  have hse := setP_ct s z p [z, 7, p] hs h3
  have hser := set_ct s z p [z, 7, p] hs (show 3 * 8 < 140737488355328 by decide)
  have hok := setM_ok hs z p h3
  have hi := ints_eq_ct (listM s z p) hle
  generalize (listM s z p).map encI = l at hl hlr hi
  generalize setM s z p [z, 7, p] = M at hse hser hok
  have hsm := same_ct M hok
  refine ct_of Try.func8 rfl (enters_of Try.func8 (by kernel_rfl) rfl) tabOk (by kernel_rfl) rfl rfl rfl rfl fun w0 O => Tp.run [2,3,4,5] ?_
  refine call_intro hf ⟨fitL_refl s.enc, trivial⟩ (.inr rfl) ?_
  refine Tp.run [4, 5] ?_
  refine call_intro (copy_ct s hs) ⟨fitL_refl s.enc, trivial⟩ (.inr rfl) ?_
  refine Tp.run [5] ?_
  refine Tp.frz [] (Tp.run [] ?_)
  refine call_intro alive_ct trivial (.inr rfl) ?_
  refine call_intro hl ⟨fitL_refl s.enc, rfl, rfl, trivial⟩ (.inr rfl) ?_
  refine call_intro hlr ⟨fitL_refl s.enc, rfl, rfl, trivial⟩ (.inr rfl) ?_
  refine call_intro hi ⟨rfl, rfl, trivial⟩ (.inr rfl) ?_
  refine call_intro hse ⟨fitL_refl s.enc, rfl, rfl, ?_, trivial⟩ (.inr rfl) ?_
  ·repeat' (first | refine And.intro ?_ ?_ | exact rfl | exact trivial | exact Exists.intro _ rfl | fail)
  refine call_intro hser ⟨fitL_refl s.enc, rfl, rfl, ?_, trivial⟩ (.inr rfl) ?_
  ·repeat' (first | refine And.intro ?_ ?_ | exact rfl | exact trivial | exact Exists.intro _ rfl | fail)
  refine call_intro hsm ⟨fitL_refl M.enc, fitL_refl M.enc, trivial⟩ (.inl rfl) ?_
  refine call_intro hss ⟨fitL_refl s.enc, ?_, trivial⟩ (.inl rfl) ?_
  ·repeat' (first | refine And.intro ?_ ?_ | exact rfl | exact trivial | exact Exists.intro _ rfl | fail)
  refine Exists.intro [] (And.intro rfl (And.intro ?_ ?_))
  ·repeat' (first | refine And.intro ?_ ?_ | exact rfl | exact trivial | exact Exists.intro _ rfl | fail)
  ·repeat' (first | refine And.intro ?_ ?_ | exact rfl | exact trivial | exact Exists.intro _ rfl | fail)
set_option maxRecDepth 100000 in
set_option maxHeartbeats 4000000 in
theorem finds_ct (s : GState) (id : Int) (o : GObject) (hs : s.ok) : Ct Try.prog 6 [.agg (s.enc.map .t), .c (.t (iv id)), .agg (o.enc.map .t)] (AV.b true) [] true := by
 refine Ct.lit (b := false) ?_ rfl
 have hf := fair_ct s hs
 have hss := same_ct s hs
 have hc := copyP_ct s hs
 cases hfair : decide (FairM s)
 ·rw [hfair] at hf
  refine ct_of Try.func6 rfl (enters_of Try.func6 (by kernel_rfl) rfl) tabOk (by kernel_rfl) rfl rfl rfl rfl fun w0 O => Tp.run [2,3,4,5,6] ?_
  refine call_intro hf ⟨fitL_refl s.enc, trivial⟩ (.inr rfl) ?_
  refine Tp.run [] ?_
  refine call_intro alive_ct trivial (.inr rfl) ?_
  refine Exists.intro [] (And.intro rfl (And.intro ?_ ?_))
  ·repeat' (first | refine And.intro ?_ ?_ | exact rfl | exact trivial | exact Exists.intro _ rfl | fail)
  ·repeat' (first | refine And.intro ?_ ?_ | exact rfl | exact trivial | exact Exists.intro _ rfl | fail)
 ·rw [hfair] at hf
  have hF := of_decide_eq_true hfair
  have hn : (s.objects.length + 1) * 128 ≤ limB := by have := hF.1; unfold limB; omega
  have hfi := findP_ct s id hs
  have hfir := find_ct s id hs.2.2.1
  generalize findM s.objects id = x at hfi hfir
  generalize hasM s.objects id = b at hfi hfir
  have hp := putP_ct s o hs hn
  have hpr : Ct Try.prog 23 [.agg (s.enc.map .t), .agg (o.enc.map .t)] (.agg (((putM s o).enc.map .t).set 2 (.row 0 0))) [⟨3, 1, 0, (putM s o).battlefield.map encI⟩] false := put_ct s o hs
  have hok := putM_ok hs o hn
  generalize putM s o = M at hp hpr hok
  have hsm := same_ct M hok
  refine ct_of Try.func6 rfl (enters_of Try.func6 (by kernel_rfl) rfl) tabOk (by kernel_rfl) rfl rfl rfl rfl fun w0 O => Tp.run [2,3,4,5,6] ?_
  refine call_intro hf ⟨fitL_refl s.enc, trivial⟩ (.inr rfl) ?_
  refine Tp.run [4, 5, 6] ?_
  refine call_intro (copy_ct s hs) ⟨fitL_refl s.enc, trivial⟩ (.inr rfl) ?_
  refine Tp.run [5, 6] ?_
  refine call_intro hfi ⟨fitL_refl s.enc, rfl, trivial⟩ (.inr rfl) ?_
  refine Tp.run [6] ?_
  refine call_intro hfir ⟨fitL_refl s.enc, rfl, trivial⟩ (.inr rfl) ?_
  refine Tp.run [] ?_
  refine call_intro alive_ct trivial (.inr rfl) ?_
  refine cond_split (fun _ => ?_) (fun h => absurd h (by simp [lksEq, lkEq]))
  refine cond_split (fun _ => ?_) (fun h => absurd h (by simp))
  refine call_intro hp ⟨fitL_refl s.enc, fitL_refl o.enc, trivial⟩ (.inr rfl) ?_
  refine call_intro hpr ⟨fitL_refl s.enc, fitL_refl o.enc, trivial⟩ (.inr rfl) ?_
  refine call_intro hsm ⟨fitL_refl M.enc, ?_, trivial⟩ (.inl rfl) ?_
  ·repeat' (first | refine And.intro ?_ ?_ | exact rfl | exact trivial | exact Exists.intro _ rfl | fail)
  refine call_intro hc ⟨fitL_refl s.enc, trivial⟩ (.inr rfl) ?_
  refine call_intro hss ⟨fitL_refl s.enc, fitL_refl s.enc, trivial⟩ (.inl rfl) ?_
  refine call_intro hss ⟨fitL_refl s.enc, ?_, trivial⟩ (.inl rfl) ?_
  ·repeat' (first | refine And.intro ?_ ?_ | exact rfl | exact trivial | exact Exists.intro _ rfl | fail)
  refine Exists.intro [] (And.intro rfl (And.intro ?_ ?_))
  ·repeat' (first | refine And.intro ?_ ?_ | exact rfl | exact trivial | exact Exists.intro _ rfl | fail)
  ·repeat' (first | refine And.intro ?_ ?_ | exact rfl | exact trivial | exact Exists.intro _ rfl | fail)
end Go.Proofs.Ytiebjkbofoppaaa
end
section
namespace Go.Proofs.Ytiebjkbofoppaaa
open Go Cg Go.RowKit Go.Sort
theorem law_makes (cs : List Value) (es : List D) (card player : Int) (w : World) (h : RdL (fun _ => True) reachBytes w kState cs es) : Calls Try.prog 5 #[.agg cs.toArray, .int .i64 card, .int .i64 player] w fun e w' => e = .returned (.bool true) ∧ Below w.heap.size w w' := by
 obtain ⟨s, hs, ht, hr⟩ := st_open h
 exact law_of_ct (makes_ct s card player hs ht) (.cons (ag_env hr) (.cons (int_env _ _ _) (.cons (int_env _ _ _) .nil)))
theorem law_lists (cs : List Value) (es : List D) (z p : Int) (w : World) (h : RdL (fun _ => True) reachBytes w kState cs es) : Calls Try.prog 8 #[.agg cs.toArray, .int .i64 z, .int .i64 p] w fun e w' => e = .returned (.bool true) ∧ Below w.heap.size w w' := by
 obtain ⟨s, hs, ht, hr⟩ := st_open h
 exact law_of_ct (lists_ct s z p hs) (.cons (ag_env hr) (.cons (int_env _ _ _) (.cons (int_env _ _ _) .nil)))
theorem law_finds (cs : List Value) (es : List D) (id : Int) (oc : List Value) (od : List D) (w : World) (h : RdL (fun _ => True) reachBytes w kState cs es) (ho : RdL (fun _ => True) reachBytes w kObject oc od) : Calls Try.prog 6 #[.agg cs.toArray, .int .i64 id, .agg oc.toArray] w fun e w' => e = .returned (.bool true) ∧ Below w.heap.size w w' := by
 obtain ⟨s, hs, ht, hr⟩ := st_open h
 obtain ⟨o, hro⟩ := ob_open ho
 exact law_of_ct (finds_ct s id o hs) (.cons (ag_env hr) (.cons (int_env _ _ _) (.cons (ag_env hro) .nil)))
theorem law_moving (cs : List Value) (es : List D) (oc : List Value) (od : List D) (w : World) (h : RdL (fun _ => True) reachBytes w kState cs es) (ho : RdL (fun _ => True) reachBytes w kWay oc od) : Calls Try.prog 4 #[.agg cs.toArray, .agg oc.toArray] w fun e w' => e = .returned (.bool true) ∧ Below w.heap.size w w' := by
 obtain ⟨s, hs, ht, hr⟩ := st_open h
 obtain ⟨id, z, p, b, hro⟩ := way_open ho
 exact law_of_ct (moving_ct s id z p b hs ht) (.cons (ag_env hr) (.cons (ag_env hro) .nil))
end Go.Proofs.Ytiebjkbofoppaaa
end
section
namespace Go.Proofs.Ytiebjkbofoppaaa
open Go Cg Go.RowKit Go.Sort
theorem find_putL (l : List GObject) (o : GObject) : (putL l o).find? (fun x => x.id == o.id) = some o := by
 unfold putL
 rcases fidx_cases (fun x : GObject => x.id == o.id) l with ⟨_, e, e2⟩ | ⟨i, hi, _, e, _⟩
 ·rw [e]
  show (insM l o).find? _ = _
  unfold insM
  have hn : ∀ n, (l.take n).find? (fun x => x.id == o.id) = none := fun n => List.find?_eq_none.2 fun x hx => List.find?_eq_none.1 e2 x (List.mem_of_mem_take hx)
  rw [List.append_assoc, List.find?_append, hn]
  simp
 ·rw [e]
  show (l.set i o).find? _ = _
  obtain ⟨_, _, h3⟩ := List.findIdx?_eq_some_iff_getElem.1 e
  rw [List.find?_eq_some_iff_getElem]
  refine ⟨by simp, i, by rw [List.length_set]; exact hi, by simp, fun j hj => ?_⟩
  rw [List.getElem_set_ne (by omega)]
  simpa using h3 j hj
theorem findM_put (l : List GObject) (o : GObject) : findM (putL l o) o.id = o ∧ hasM (putL l o) o.id = true := by
 unfold findM hasM
 rw [find_putL]
 exact ⟨rfl, rfl⟩
set_option maxRecDepth 100000 in
set_option maxHeartbeats 4000000 in
theorem keeps_ct (s : GState) (o : GObject) (z : Int) (hs : s.ok) : Ct Try.prog 9 [.agg (s.enc.map .t), .agg (o.enc.map .t), .c (.t (iv z))] (AV.b true) [] true := by
 refine Ct.lit (b := false) ?_ rfl
 have hf := fair_ct s hs
 cases hfair : decide (FairM s)
 ·rw [hfair] at hf
  refine ct_of Try.func9 rfl (enters_of Try.func9 (by kernel_rfl) rfl) tabOk (by kernel_rfl) rfl rfl rfl rfl fun w0 O => Tp.run [2,3,4,5,6,7,8,9,14] ?_
  refine call_intro hf ⟨fitL_refl s.enc, trivial⟩ (.inr rfl) ?_
  refine Tp.run [] ?_
  refine call_intro alive_ct trivial (.inr rfl) ?_
  refine Exists.intro [] (And.intro rfl (And.intro ?_ ?_))
  ·repeat' (first | refine And.intro ?_ ?_ | exact rfl | exact trivial | exact Exists.intro _ rfl | fail)
  ·repeat' (first | refine And.intro ?_ ?_ | exact rfl | exact trivial | exact Exists.intro _ rfl | fail)
 ·rw [hfair] at hf
  have hF := of_decide_eq_true hfair
  refine ct_of Try.func9 rfl (enters_of Try.func9 (by kernel_rfl) rfl) tabOk (by kernel_rfl) rfl rfl rfl rfl fun w0 O => Tp.run [2,3,4,5,6,7,8,9,14] ?_
  refine call_intro hf ⟨fitL_refl s.enc, trivial⟩ (.inr rfl) ?_
  refine cond_split (fun h1 => ?_) (fun h1 => ?_)
  ·refine Tp.run [] ?_
   refine call_intro alive_ct trivial (.inr rfl) ?_
   refine Exists.intro [] (And.intro rfl (And.intro ?_ ?_))
   ·repeat' (first | refine And.intro ?_ ?_ | exact rfl | exact trivial | exact Exists.intro _ rfl | fail)
   ·repeat' (first | refine And.intro ?_ ?_ | exact rfl | exact trivial | exact Exists.intro _ rfl | fail)
  refine cond_split (fun h2 => ?_) (fun h2 => ?_)
  ·refine Tp.run [] ?_
   refine call_intro alive_ct trivial (.inr rfl) ?_
   refine Exists.intro [] (And.intro rfl (And.intro ?_ ?_))
   ·repeat' (first | refine And.intro ?_ ?_ | exact rfl | exact trivial | exact Exists.intro _ rfl | fail)
   ·repeat' (first | refine And.intro ?_ ?_ | exact rfl | exact trivial | exact Exists.intro _ rfl | fail)
  refine cond_split (fun h3 => ?_) (fun h3 => ?_)
  ·refine Tp.run [] ?_
   refine call_intro alive_ct trivial (.inr rfl) ?_
   refine Exists.intro [] (And.intro rfl (And.intro ?_ ?_))
   ·repeat' (first | refine And.intro ?_ ?_ | exact rfl | exact trivial | exact Exists.intro _ rfl | fail)
   ·repeat' (first | refine And.intro ?_ ?_ | exact rfl | exact trivial | exact Exists.intro _ rfl | fail)
  have hp : 0 < s.players.length := by
   have h1 : ((((s.players.map GPlayer.enc).length : Nat) : Int) == 0) = false := h1
   rw [List.length_map, beq_eq_false_iff_ne] at h1
   omega
  have h2 := of_decide_eq_false h2
  have h3 := of_decide_eq_false h3
  have hn : (s.objects.length + 1) * 128 ≤ limB := by have := hF.1; unfold limB; omega
  have hpt := putP_ct s o hs hn
  have hok := putM_ok hs o hn
  have hfi := findP_ct (putM s o) o.id hok
  rw [show (putM s o).objects = putL s.objects o from rfl, (findM_put _ o).1, (findM_put _ o).2] at hfi
  generalize putM s o = M1 at hpt hfi
  have h5 : ([5, 1, 5] : List Int).length * 8 ≤ limB := by decide
  have hse := setP_ct s z 0 [5, 1, 5] hs h5
  have hok2 := setM_ok hs z 0 (l := [5, 1, 5]) h5
  have hls := list_setM s 0 hp z (by omega) (by omega) [5, 1, 5]
  have hob := setM_objects s z 0 [5, 1, 5]
  generalize setM s z 0 [5, 1, 5] = M2 at hse hok2 hls hob
  have hl2 := listP_ct M2 z 0 hok2
  rw [show listM M2 z 0 = [5, 1, 5] from hls.1] at hl2
  have hi := ints_eq_ct [5, 1, 5] h5
  refine Tp.run [4, 5, 6, 7, 8, 9, 14] ?_
  refine call_intro hpt ⟨fitL_refl s.enc, fitL_refl o.enc, trivial⟩ (.inr rfl) ?_
  refine Tp.run [5, 6, 7, 8, 9, 14] ?_
  refine call_intro hfi ⟨fitL_refl M1.enc, rfl, trivial⟩ (.inr rfl) ?_
  refine Tp.run [6, 7, 8, 9, 14] ?_
  refine Tp.frz [] (Tp.run [7, 8, 9, 14] ?_)
  refine call_intro hse ⟨fitL_refl s.enc, rfl, rfl, rfl, trivial⟩ (.inr rfl) ?_
  refine Tp.run [8, 9, 14] ?_
  refine cond_split (fun h => absurd h (by simp [lksEq, lkEq])) (fun _ => ?_)
  refine call_intro hl2 ⟨fitL_refl M2.enc, rfl, rfl, trivial⟩ (.inr rfl) ?_
  refine call_intro hi ⟨rfl, rfl, trivial⟩ (.inr rfl) ?_
  refine call_intro hi ⟨rfl, ?_, trivial⟩ (.inl rfl) ?_
  ·repeat' (first | refine And.intro ?_ ?_ | exact rfl | exact trivial | exact Exists.intro _ rfl | fail)
  refine Tp.run [14] ?_
  refine Tp.loop (fun k : Nat => ⟨[(2, .c (.t (iv z))), (3, .ptr 0 0), (11, .ptr 5248 0), (12, AV.i k)], [(0, s.enc.map .t), (5248, M2.enc.map .t)], [], 10000⟩) (fun k => k ≤ 5) (fun k => 5 - k) 0 ?_ (by omega) ?_
  ·refine wk_of [] rfl rfl ?_ ?_ ?_
   ·repeat' (first | refine And.intro ?_ ?_ | exact rfl | exact trivial | exact Exists.intro _ rfl | fail)
   ·repeat' (first | refine And.intro ?_ ?_ | exact rfl | exact trivial | exact Exists.intro _ rfl | fail)
   ·repeat' (first | refine And.intro ?_ ?_ | exact rfl | exact trivial | exact Exists.intro _ rfl | fail)
  rintro k hk
  refine Tp.run [12, 13, 11] ?_
  refine cond_split (fun h => ?_) (fun h => ?_)
  ·have hk4 := of_decide_eq_true h
   have hk0 : (0 : Int) ≤ k := by omega
   refine Tp.run [13, 11] ?_
   refine cond_split (fun hne => ?_) (fun hne => ?_)
   ·have hne : ((k : Int) != z) = true := hne
    have hlk := listP_ct M2 k 0 hok2
    rw [show listM M2 k 0 = listM s k 0 from hls.2 k hk0 hk4 (by simpa using hne)] at hlk
    have hlk2 := listP_ct s k 0 hs
    have hik := ints_eq_ct _ (listM_le hs k 0)
    refine call_intro hlk ⟨fitL_refl M2.enc, rfl, rfl, trivial⟩ (.inr rfl) ?_
    refine call_intro hlk2 ⟨fitL_refl s.enc, rfl, rfl, trivial⟩ (.inr rfl) ?_
    refine call_intro hik ⟨rfl, rfl, trivial⟩ (.inr rfl) ?_
    refine Tp.run [] ?_
    refine Exists.intro (k + 1) (And.intro (by omega) (And.intro (by omega) ?_))
    refine wk_of [] rfl rfl ?_ ?_ ?_
    ·repeat' (first | refine And.intro ?_ ?_ | exact rfl | exact trivial | exact Exists.intro _ rfl | fail)
     exact congrArg iv (wrap_succ k (by omega))
    ·repeat' (first | refine And.intro ?_ ?_ | exact rfl | exact trivial | exact Exists.intro _ rfl | fail)
    ·repeat' (first | refine And.intro ?_ ?_ | exact rfl | exact trivial | exact Exists.intro _ rfl | fail)
   ·refine Tp.run [] ?_
    refine Exists.intro (k + 1) (And.intro (by omega) (And.intro (by omega) ?_))
    refine wk_of [] rfl rfl ?_ ?_ ?_
    ·repeat' (first | refine And.intro ?_ ?_ | exact rfl | exact trivial | exact Exists.intro _ rfl | fail)
     exact congrArg iv (wrap_succ k (by omega))
    ·repeat' (first | refine And.intro ?_ ?_ | exact rfl | exact trivial | exact Exists.intro _ rfl | fail)
    ·repeat' (first | refine And.intro ?_ ?_ | exact rfl | exact trivial | exact Exists.intro _ rfl | fail)
  ·refine Tp.run [] ?_
   refine call_intro alive_ct trivial (.inr rfl) ?_
   refine Exists.intro [] (And.intro rfl (And.intro ?_ ?_))
   ·repeat' (first | refine And.intro ?_ ?_ | exact rfl | exact trivial | exact Exists.intro _ rfl | fail)
   ·repeat' (first | refine And.intro ?_ ?_ | exact rfl | exact trivial | exact Exists.intro _ rfl | fail)
    exact congrArg bv (by rw [hob, beq_self_eq_true])
theorem law_keeps (cs : List Value) (es : List D) (oc : List Value) (od : List D) (z : Int) (w : World) (h : RdL (fun _ => True) reachBytes w kState cs es) (ho : RdL (fun _ => True) reachBytes w kObject oc od) : Calls Try.prog 9 #[.agg cs.toArray, .agg oc.toArray, .int .i64 z] w fun e w' => e = .returned (.bool true) ∧ Below w.heap.size w w' := by
 obtain ⟨s, hs, ht, hr⟩ := st_open h
 obtain ⟨o, hro⟩ := ob_open ho
 exact law_of_ct (keeps_ct s o z hs) (.cons (ag_env hr) (.cons (ag_env hro) (.cons (int_env _ _ _) .nil)))
end Go.Proofs.Ytiebjkbofoppaaa
end
