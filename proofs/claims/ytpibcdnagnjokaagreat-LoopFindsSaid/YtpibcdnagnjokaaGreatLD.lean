/- Parts of the proof, joined: Chapter 25, on trees: Set of the reference; Chapter 25, on trees: a new object, a moved object; Chapter 25, on trees: an object removed; Functions of the reference: what is asked of a state; Functions of the reference: a valid state; Functions of the reference: they answer for every input (cards, catalogues, small states); Functions of the reference: a valid state; small states; Stable sorting by insertion in blocks and merging in place, on plain lists: what it answers is a sorted permutation. No program in sight; The stable sort of XLpA answers a sorted permutation. Plain; The stable sort keeps the order of equals: it answers what any list of the same elements, ordered by key and place, is. Plain; The stable sort is the insertion behind all that are not greater. Plain; Lists that rise strictly: an order that is total decides them by their elements; insertion and 'compact' of a sorted list give such lists. No program in sight; Contracts of library functions, laid by the shelf s tools at this dump; Chapter 03: the library on slices of ints; distinct; Chapter 50: normal forms, on records. No program in sight; Chapter 50: what bounds a state. No program in sight; Chapter 26's Small, plain: what it says of a state. No program in sight; Chapter 26's Small; Chapter 25: the shapes of the types; Chapter 25: slices.Clone at every element type of the states; The program's zones, on trees: copies of lists; Rows of literals refer to nothing else; Chapter 50, the reference: ids, ranks, st. -/
import Derived.Test.YtpibcdnagnjokaaGreatLC
import Derived.Orders
import Derived.Lib.SlicesCompact
import Derived.Shelf.Small.Bits
import Derived.Shelf.Strconv.Itoa0
import Derived.Shelf.Sort.Plain
import Derived.Ground.Names2Prog
import Derived.Shelf.Slices.Clone
import Derived.Shelf.Slices.CompactI
import Derived.Shelf.Slices.SearchI
import Derived.Shelf.Slices.Cells
import Derived.Shelf.Slices.In.SortNone
import Derived.Ground.SlgnProg
import Derived.Shelf.SlicesE.Equal
import Derived.Shelf.SlicesE.Compact
import Derived.Shelf.SlicesE.Clone
import Derived.Test.YtpibcdnagnjokaaGreatProg
import Derived.Deep.QuietTactic
import Derived.BigQuiet
import Derived.Lib.AppendZeros
import Derived.WalkLawsBesides
import Derived.WalkSpells
import Derived.WalkSmall
import Derived.Deep.MidRow
import Derived.Lib.Hide
import Derived.Shelf.Abstract
import Derived.Lib.SliceRun
set_option maxRecDepth 100000
set_option maxHeartbeats 4000000
section
namespace Go.Proofs.YtpibcdnagnjokaaGreat
open Go Cg Go.RowKit
theorem set_ct (s:GState) (z p:Int) (l:List Int) (h:s.ok) (hl:l.length*8 < 140737488355328):Ct Tryz.prog 111 [.agg (s.enc.map .t),.c (.t (iv z)),.c (.t (iv p)),.c (.t (.sl 1 (l.map eI)))] (.agg ((setM s z p l).enc.map .t)) [] false:=by
 generalize hS:setM s z p l=S
 refine ct_of Tryz.func111 rfl (enters_of Tryz.func111 (by kernel_rfl) rfl) tabOk (by kernel_rfl) rfl rfl rfl rfl fun w0 O _=>Tp.run [4,5,6,7,8,9,10,11,13,14,15,16,17,18] ?_
 refine cI (copy_ct s h) ⟨fL s.enc,trivial⟩ (.inr rfl) ?_
 refine cS (fun hz0=>?_) (fun hz0=>?_)
 ·have hl2:setM s z p l={ s with battlefield:=l }:=by unfold setM;rw [if_pos hz0]
  rw [hS] at hl2
  subst hl2
  refine Tp.run [5,8] ?_
  refine cI (ints_ct2 l hl) ⟨rfl,trivial⟩ (.inr rfl) ?_
  refine Tp.run [] ?_
  refine Ei [] (Ai rfl (Ai ?_ ?_))
  all_goals repeat' first|refine Ai ?_ ?_|exact rfl|exact trivial|exact Ei _ rfl|refine lN ?_|refine bS ?_|fail
 refine Tp.run [] ?_
 refine cS (fun hz4=>?_) (fun hz4=>?_)
 ·have hl2:setM s z p l={ s with exile:=l }:=by unfold setM;rw [if_neg (by rw [hz0];decide),if_pos hz4]
  rw [hS] at hl2
  subst hl2
  refine Tp.run [5,8] ?_
  refine cI (ints_ct2 l hl) ⟨rfl,trivial⟩ (.inr rfl) ?_
  refine Tp.run [] ?_
  refine Ei [] (Ai rfl (Ai ?_ ?_))
  all_goals repeat' first|refine Ai ?_ ?_|exact rfl|exact trivial|exact Ei _ rfl|refine lN ?_|refine bS ?_|fail
 refine Tp.run [10,11] ?_
 have hl0:setM s z p l=if p < 0∨(s.players.length:Int)≤p then s else match s.players[p.toNat]? with
  | some q=>{ s with players:=s.players.set p.toNat (setP q z l) }
  | none=>s:=by unfold setM;rw [if_neg (by rw [hz0];decide),if_neg (by rw [hz4];decide)] <;> rfl
 refine cS (fun hp0=>?_) (fun hp0=>?_)
 ·rw [if_pos (.inl (of_decide_eq_true hp0)),hS] at hl0
  subst hl0
  refine Tp.run [] ?_
  refine Ei [] (Ai rfl (Ai ?_ ?_))
  all_goals repeat' first|refine Ai ?_ ?_|exact rfl|exact trivial|exact Ei _ rfl|refine lN ?_|refine bS ?_|fail
 refine cS (fun hp1=>?_) (fun hp1=>?_)
 ·have hp1:=of_decide_eq_true hp1
  rw [Lm] at hp1
  rw [if_pos (.inr hp1),hS] at hl0
  subst hl0
  refine Tp.run [] ?_
  refine Ei [] (Ai rfl (Ai ?_ ?_))
  all_goals repeat' first|refine Ai ?_ ?_|exact rfl|exact trivial|exact Ei _ rfl|refine lN ?_|refine bS ?_|fail
 have hp0:=of_decide_eq_false hp0
 have hp1:=of_decide_eq_false hp1
 rw [Lm] at hp1
 obtain ⟨k,rfl⟩:∃ k:Nat,p=k:=⟨p.toNat,by omega⟩
 have hk:k < s.players.length:=by omega
 rw [if_neg (by omega),Int.toNat_natCast,List.getElem?_eq_getElem hk,hS] at hl0
 change S={ s with players:=s.players.set k (setP s.players[k] z l) } at hl0
 refine Tp.run [13,14] ?_
 refine cS (fun hz1=>?_) (fun hz1=>?_)
 ·have hq:setP s.players[k] z l={ s.players[k] with hand:=l }:=by unfold setP;rw [if_pos hz1]
  rw [hq] at hl0
  subst hl0
  refine Tp.run [18] ?_
  refine cI (ints_ct2 l hl) ⟨rfl,trivial⟩ (.inr rfl) ?_
  refine Ei k (Ai rfl (Ai (by rw [Lm];exact hk) ?_))
  refine Ei (s.players[k].enc) (Ai (map_get _ _ k hk) (Ai (Nb rfl) ?_))
  refine Tp.run [] ?_
  refine Ei [] (Ai rfl (Ai ?_ ?_))
  ·repeat' first|refine Ai ?_ ?_|exact rfl|exact trivial|exact Ei _ rfl|refine lN ?_|refine bS ?_|fail
  ·repeat' first|refine Ai ?_ ?_|exact rfl|exact trivial|exact Ei _ rfl|refine lN ?_|refine bS ?_|fail
   exact congrArg (Tr.sl 14) (set_map s.players GPlayer.enc k { s.players[k] with hand:=l }).symm
 refine Tp.run [] ?_
 refine cS (fun hz2=>?_) (fun hz2=>?_)
 ·have hq:setP s.players[k] z l={ s.players[k] with library:=l }:=by unfold setP;rw [if_neg (by rw [hz1];decide),if_pos hz2]
  rw [hq] at hl0
  subst hl0
  refine Tp.run [18] ?_
  refine cI (ints_ct2 l hl) ⟨rfl,trivial⟩ (.inr rfl) ?_
  refine Ei k (Ai rfl (Ai (by rw [Lm];exact hk) ?_))
  refine Ei (s.players[k].enc) (Ai (map_get _ _ k hk) (Ai (Nb rfl) ?_))
  refine Tp.run [] ?_
  refine Ei [] (Ai rfl (Ai ?_ ?_))
  ·repeat' first|refine Ai ?_ ?_|exact rfl|exact trivial|exact Ei _ rfl|refine lN ?_|refine bS ?_|fail
  ·repeat' first|refine Ai ?_ ?_|exact rfl|exact trivial|exact Ei _ rfl|refine lN ?_|refine bS ?_|fail
   exact congrArg (Tr.sl 14) (set_map s.players GPlayer.enc k { s.players[k] with library:=l }).symm
 refine Tp.run [] ?_
 refine cS (fun hz3=>?_) (fun hz3=>?_)
 ·have hq:setP s.players[k] z l={ s.players[k] with graveyard:=l }:=by unfold setP;rw [if_neg (by rw [hz1];decide),if_neg (by rw [hz2];decide),if_pos hz3]
  rw [hq] at hl0
  subst hl0
  refine Tp.run [18] ?_
  refine cI (ints_ct2 l hl) ⟨rfl,trivial⟩ (.inr rfl) ?_
  refine Ei k (Ai rfl (Ai (by rw [Lm];exact hk) ?_))
  refine Ei (s.players[k].enc) (Ai (map_get _ _ k hk) (Ai (Nb rfl) ?_))
  refine Tp.run [] ?_
  refine Ei [] (Ai rfl (Ai ?_ ?_))
  ·repeat' first|refine Ai ?_ ?_|exact rfl|exact trivial|exact Ei _ rfl|refine lN ?_|refine bS ?_|fail
  ·repeat' first|refine Ai ?_ ?_|exact rfl|exact trivial|exact Ei _ rfl|refine lN ?_|refine bS ?_|fail
   exact congrArg (Tr.sl 14) (set_map s.players GPlayer.enc k { s.players[k] with graveyard:=l }).symm
 have hq:setP s.players[k] z l=s.players[k]:=by unfold setP;rw [if_neg (by rw [hz1];decide),if_neg (by rw [hz2];decide),if_neg (by rw [hz3];decide)]
 rw [hq,List.set_getElem_self] at hl0
 subst hl0
 refine Tp.run [] ?_
 refine Ei [] (Ai rfl (Ai ?_ ?_))
 all_goals repeat' first|refine Ai ?_ ?_|exact rfl|exact trivial|exact Ei _ rfl|refine lN ?_|refine bS ?_|fail
theorem new_ct (id card player z stamp:Int):Ct Tryz.prog 150 [.c (.t (iv id)),.c (.t (iv card)),.c (.t (iv player)),.c (.t (iv z)),.c (.t (iv stamp))] (.agg ((newM id card player z stamp).enc.map .t)) [] false:=by
 refine ct_of Tryz.func150 rfl (enters_of Tryz.func150 (by kernel_rfl) rfl) tabOk (by kernel_rfl) rfl rfl rfl rfl fun w0 O _=>Tp.run [] ?_
 refine Ei [] (Ai rfl (Ai ?_ ?_))
 all_goals repeat' first|refine Ai ?_ ?_|exact rfl|exact trivial|exact Ei _ rfl|refine lN ?_|refine bS ?_|fail
def movedM (x:GObject) (id z p stamp:Int):GObject:={ newM id x.card x.owner z stamp with token:=x.token,control:=if z==0||z==5 then p else x.owner,sick:=z==0 }
theorem moved_ct (x:GObject) (id z p stamp:Int):Ct Tryz.prog 109 [.agg (x.enc.map .t),.c (.t (iv id)),.c (.t (iv z)),.c (.t (iv p)),.c (.t (iv stamp))] (.agg ((movedM x id z p stamp).enc.map .t)) [] false:=by
 generalize hM:movedM x id z p stamp=M
 refine ct_of Tryz.func109 rfl (enters_of Tryz.func109 (by kernel_rfl) rfl) tabOk (by kernel_rfl) rfl rfl rfl rfl fun w0 O _=>Tp.run [4,5] ?_
 refine cI (new_ct id x.card x.owner z stamp) ⟨rfl,rfl,rfl,rfl,rfl,trivial⟩ (.inr rfl) ?_
 refine cS (fun h0=>?_) (fun h0=>?_)
 ·have hM2:M={ newM id x.card x.owner z stamp with token:=x.token,control:=p,sick:=z==0 }:=by rw [← hM];unfold movedM;rw [if_pos (by rw [show (z==0)=true from h0];rfl)]
  subst hM2
  refine Tp.run [5] ?_
  refine Tp.run [] ?_
  refine Ei [] (Ai rfl (Ai ?_ ?_))
  all_goals repeat' first|refine Ai ?_ ?_|exact rfl|exact trivial|exact Ei _ rfl|refine lN ?_|refine bS ?_|fail
 refine cS (fun h5=>?_) (fun h5=>?_)
 ·have hM2:M={ newM id x.card x.owner z stamp with token:=x.token,control:=p,sick:=z==0 }:=by rw [← hM];unfold movedM;rw [if_pos (by rw [show (z==5)=true from h5,Bool.or_true])]
  subst hM2
  refine Tp.run [5] ?_
  refine Tp.run [] ?_
  refine Ei [] (Ai rfl (Ai ?_ ?_))
  all_goals repeat' first|refine Ai ?_ ?_|exact rfl|exact trivial|exact Ei _ rfl|refine lN ?_|refine bS ?_|fail
 have hM2:M={ newM id x.card x.owner z stamp with token:=x.token,control:=x.owner,sick:=z==0 }:=by rw [← hM];unfold movedM;rw [if_neg (by rw [show (z==5)=false from h5,show (z==0)=false from h0];decide)]
 subst hM2
 refine Tp.run [] ?_
 refine Ei [] (Ai rfl (Ai ?_ ?_))
 all_goals repeat' first|refine Ai ?_ ?_|exact rfl|exact trivial|exact Ei _ rfl|refine lN ?_|refine bS ?_|fail
theorem nil_ok:([]:List Int).length*8≤limB:=by decide
theorem listM_le {s:GState} (h:s.ok) (z p:Int):(listM s z p).length*8≤limB:=by
 unfold listM
 split
 ·exact h.2.2.2.2.1
 split
 ·exact h.2.2.2.2.2.1
 split
 ·exact nil_ok
 split
 ·rename_i q hq
  have:=plr_ok h (List.mem_of_getElem? hq)
  split
  ·exact this.1
  split
  ·exact this.2.1
  split
  ·exact this.2.2
  ·exact nil_ok
 ·exact nil_ok
theorem setM_objects (s:GState) (z p:Int) (l:List Int):(setM s z p l).objects=s.objects:=by
 unfold setM
 split
 ·rfl
 split
 ·rfl
 split
 ·rfl
 split <;> rfl
theorem setM_stack (s:GState) (z p:Int) (l:List Int):(setM s z p l).stack=s.stack:=by
 unfold setM
 split
 ·rfl
 split
 ·rfl
 split
 ·rfl
 split <;> rfl
theorem setP_ok {q:GPlayer} (h:q.ok) (z:Int) {l:List Int} (hl:l.length*8≤limB):(setP q z l).ok:=by
 unfold setP
 split
 ·exact ⟨h.1,hl,h.2.2⟩
 split
 ·exact ⟨hl,h.2.1,h.2.2⟩
 split
 ·exact ⟨h.1,h.2.1,hl⟩
 ·exact h
theorem setM_ok {s:GState} (h:s.ok) (z p:Int) {l:List Int} (hl:l.length*8≤limB):(setM s z p l).ok:=by
 obtain ⟨h1,h2,h3,h4,h5,h6,h7⟩:=h
 unfold setM
 split
 ·exact ⟨h1,h2,h3,h4,hl,h6,h7⟩
 split
 ·exact ⟨h1,h2,h3,h4,h5,hl,h7⟩
 split
 ·exact ⟨h1,h2,h3,h4,h5,h6,h7⟩
 split
 ·rename_i q hq
  refine ⟨by rw [List.length_set];exact h1,fun y hy=>?_,h3,h4,h5,h6,h7⟩
  rcases List.mem_or_eq_of_mem_set hy with hy|rfl
  ·exact h2 y hy
  ·exact setP_ok (h2 q (List.mem_of_getElem? hq)) z hl
 ·exact ⟨h1,h2,h3,h4,h5,h6,h7⟩
def keepM (id:Int) (x:GItem):Bool:=x.kind != 1||x.id != id
def remM (s:GState) (id:Int) (i:Nat) (o:GObject):GState:={ setM s o.zone o.owner ((listM s o.zone o.owner).filter fun i=>i != id) with objects:=s.objects.take i++s.objects.drop (i+1),stack:=s.stack.filter (keepM id) }
theorem removed_ct (s:GState) (id:Int) (i:Nat) (h:s.ok) (hi:i < s.objects.length) (hp:placeM s.objects id=i):Ct Tryz.prog 108 [.agg (s.enc.map .t),.c (.t (iv id))] (.agg ((remM s id i s.objects[i]).enc.map .t)) [] false:=by
 have ho:s.objects.length*128≤limB:=h.2.2.1
 have hst:s.stack.length*824≤limB:=h.2.2.2.2.2.2.1
 have hpl:=place_ct s id ho
 rw [hp] at hpl
 unfold remM
 have hlw:((listM s s.objects[i].zone s.objects[i].owner).filter fun i=>i != id).length*8≤limB:=Nat.le_trans (Nat.mul_le_mul_right _ (List.length_filter_le _ _)) (listM_le h _ _)
 have hset:=set_ct s s.objects[i].zone s.objects[i].owner ((listM s s.objects[i].zone s.objects[i].owner).filter fun i=>i != id) h (Nat.lt_of_le_of_lt hlw (by decide))
 have hSo:=setM_objects s s.objects[i].zone s.objects[i].owner ((listM s s.objects[i].zone s.objects[i].owner).filter fun i=>i != id)
 have hSs:=setM_stack s s.objects[i].zone s.objects[i].owner ((listM s s.objects[i].zone s.objects[i].owner).filter fun i=>i != id)
 generalize setM s s.objects[i].zone s.objects[i].owner ((listM s s.objects[i].zone s.objects[i].owner).filter fun i=>i != id)=S at hset hSo hSs
 have hb:∀ n,n≤s.objects.length+1→n*128≤140737488355328∧n < 140737488355328:=fun n hn=>by unfold limB at ho;omega
 refine ct_of Tryz.func108 rfl (enters_of Tryz.func108 (by kernel_rfl) rfl) tabOk (by kernel_rfl) rfl rfl rfl rfl fun w0 O _=>Tp.run [3,4,5,6,11,9,12,13] ?_
 refine cI hpl ⟨fL s.enc,rfl,trivial⟩ (.inr rfl) ?_
 refine Ei i (Ei (s.objects[i].enc) (Ai rfl (Ai (map_get _ _ i hi) ?_)))
 refine Tp.run [4] ?_
 refine cI (list_ct s s.objects[i].zone s.objects[i].owner h) ⟨fL s.enc,rfl,rfl,trivial⟩ (.inr rfl) ?_
 refine cI (without_ct _ id (listM_le h _ _)) ⟨rfl,rfl,trivial⟩ (.inr rfl) ?_
 refine cI hset ⟨fL s.enc,rfl,rfl,rfl,trivial⟩ (.inr rfl) ?_
 refine Tp.run [5] ?_
 refine Ei 0 (Ei i (Ai rfl (Ai rfl (Ai (Nat.zero_le _) (Ai ?_ ?_)))))
 ·rw [Lm,hSo];exact Nat.le_of_lt hi
 refine Ai (.inl rfl) (Ai (hb _ (by simp only [Lm,List.length_take,List.length_drop,List.length_nil,hSo];omega)).1 (Ai (hb _ (by simp only [Lm,List.length_take,List.length_drop,List.length_nil,hSo];omega)).2 ?_))
 refine Tp.run [6] ?_
 refine Ei (i+1) (Ei S.objects.length (Ai (wrap_succ i (by unfold limB at ho;omega)) (Ai ?_ (Ai ?_ (Ai ?_ ?_)))))
 ·exact (Lm _).symm
 ·rw [hSo];exact hi
 ·rw [Lm];exact Nat.le_refl _
 refine Ai (.inl rfl) (Ai (hb _ (by simp only [Lm,List.length_take,List.length_drop,List.length_append,List.length_nil,hSo];omega)).1 (Ai (hb _ (by simp only [Lm,List.length_take,List.length_drop,List.length_append,List.length_nil,hSo];omega)).2 ?_))
 refine Tp.run [] ?_
 have hst2:S.stack.length*824≤limB:=by rw [hSs];exact hst
 refine Tp.loop (fun k:Nat=>⟨[(1,.c (.t (iv id))),(4,.ptr 128 0),(7,.ptr 3456 0),(9,.c (.row 9000 0)),(10,AV.i k)],[(128,List.replicate 19 .bot),(3456,({ S with objects:=s.objects.take i++s.objects.drop (i+1) }:GState).enc.map .t)],[(9000,⟨91,94,0,((S.stack.take k).filter (keepM id)).map GItem.enc,none⟩)],10000⟩) (fun k=>k≤S.stack.length) (fun k=>S.stack.length - k) 0 ?_ (Nat.zero_le _) ?_
 ·refine wk_of [] rfl rfl ?_ ?_ ?_
  ·repeat' first|refine Ai ?_ ?_|exact rfl|exact trivial|exact Ei _ rfl|refine lN ?_|refine bS ?_|fail
  ·repeat' first|refine Ai ?_ ?_|exact rfl|exact trivial|exact Ei _ rfl|refine lN ?_|refine bS ?_|fail
   rw [hSo]
   simp only [List.map_append,List.map_take,List.map_drop,List.drop_zero,List.nil_append]
   rw [List.take_of_length_le (l:=s.objects.map GObject.enc) (i:=s.objects.length) (by rw [Lm];exact Nat.le_refl _)]
   exact rfl
  ·repeat' first|refine Ai ?_ ?_|exact rfl|exact trivial|exact Ei _ rfl|refine lN ?_|refine bS ?_|fail
 rintro k hk
 have hfl:((S.stack.take k).filter (keepM id)).length≤k:=Nat.le_trans (List.length_filter_le _ _) (by rw [List.length_take];omega)
 refine Tp.run [10,11,9] ?_
 refine cS (fun h=>?_) (fun h=>?_)
 ·have hlt:k < S.stack.length:=len_lt h
  have hts:S.stack.take (k+1)=S.stack.take k++[S.stack[k]]:=by rw [List.take_add_one,List.getElem?_eq_getElem hlt];rfl
  refine Tp.run [] ?_
  refine Ei k (Ei (S.stack[k].enc) (Ai rfl (Ai (map_get _ _ k hlt) ?_)))
  refine cS (fun h1=>?_) (fun h1=>?_)
  ·have hkeep:keepM id S.stack[k]=true:=by unfold keepM;rw [show (S.stack[k].kind != 1)=true from h1,Bool.true_or]
   refine Tp.run [] ?_
   refine Ei k (Ei (S.stack[k].enc) (Ai rfl (Ai (map_get _ _ k hlt) ?_)))
   have hbb:(((S.stack.take k).filter (keepM id)).map GItem.enc).length+[S.stack[k].enc].length≤S.stack.length+1:=by
    rw [Lm,List.length_cons,List.length_nil]
    omega
   refine Ai (.inl rfl) (Ai (app_bnd hbb (Nat.le_of_lt (one_more (by decide) hst2))) (Ai (app_bnd2 hbb (by decide) (one_more (by decide) hst2)) ?_))
   refine Tp.run [] ?_
   refine Ei (k+1) (Ai (show k+1≤_ by omega) (Ai (show S.stack.length - (k+1) < S.stack.length - k by omega) ?_))
   refine wk_of [(9000,9000)] rfl rfl ?_ ?_ ?_
   ·repeat' first|refine Ai ?_ ?_|exact rfl|exact trivial|exact Ei _ rfl|refine lN ?_|refine bS ?_|fail
    exact succ_eq k hlt 824 (by decide) hst2
   ·repeat' first|refine Ai ?_ ?_|exact rfl|exact trivial|exact Ei _ rfl|refine lN ?_|refine bS ?_|fail
   ·repeat' first|refine Ai ?_ ?_|exact rfl|exact trivial|exact Ei _ rfl|refine lN ?_|refine bS ?_|fail
    rw [hts,List.filter_append,List.map_append]
    simp only [List.filter_cons,hkeep,List.filter_nil]
    rfl
  refine Ei k (Ei (S.stack[k].enc) (Ai rfl (Ai (map_get _ _ k hlt) ?_)))
  refine cS (fun h2=>?_) (fun h2=>?_)
  ·have hkeep:keepM id S.stack[k]=true:=by unfold keepM;rw [show (S.stack[k].id != id)=true from h2,Bool.or_true]
   refine Tp.run [] ?_
   refine Ei k (Ei (S.stack[k].enc) (Ai rfl (Ai (map_get _ _ k hlt) ?_)))
   have hbb:(((S.stack.take k).filter (keepM id)).map GItem.enc).length+[S.stack[k].enc].length≤S.stack.length+1:=by
    rw [Lm,List.length_cons,List.length_nil]
    omega
   refine Ai (.inl rfl) (Ai (app_bnd hbb (Nat.le_of_lt (one_more (by decide) hst2))) (Ai (app_bnd2 hbb (by decide) (one_more (by decide) hst2)) ?_))
   refine Tp.run [] ?_
   refine Ei (k+1) (Ai (show k+1≤_ by omega) (Ai (show S.stack.length - (k+1) < S.stack.length - k by omega) ?_))
   refine wk_of [(9000,9000)] rfl rfl ?_ ?_ ?_
   ·repeat' first|refine Ai ?_ ?_|exact rfl|exact trivial|exact Ei _ rfl|refine lN ?_|refine bS ?_|fail
    exact succ_eq k hlt 824 (by decide) hst2
   ·repeat' first|refine Ai ?_ ?_|exact rfl|exact trivial|exact Ei _ rfl|refine lN ?_|refine bS ?_|fail
   ·repeat' first|refine Ai ?_ ?_|exact rfl|exact trivial|exact Ei _ rfl|refine lN ?_|refine bS ?_|fail
    rw [hts,List.filter_append,List.map_append]
    simp only [List.filter_cons,hkeep,List.filter_nil]
    rfl
  ·have hkeep:keepM id S.stack[k]=false:=by unfold keepM;rw [show (S.stack[k].kind != 1)=false from h1,show (S.stack[k].id != id)=false from h2];rfl
   refine Tp.run [] ?_
   refine Ei (k+1) (Ai (show k+1≤_ by omega) (Ai (show S.stack.length - (k+1) < S.stack.length - k by omega) ?_))
   refine wk_of [(9000,9000)] rfl rfl ?_ ?_ ?_
   ·repeat' first|refine Ai ?_ ?_|exact rfl|exact trivial|exact Ei _ rfl|refine lN ?_|refine bS ?_|fail
    exact succ_eq k hlt 824 (by decide) hst2
   ·repeat' first|refine Ai ?_ ?_|exact rfl|exact trivial|exact Ei _ rfl|refine lN ?_|refine bS ?_|fail
   ·repeat' first|refine Ai ?_ ?_|exact rfl|exact trivial|exact Ei _ rfl|refine lN ?_|refine bS ?_|fail
    rw [hts,List.filter_append,List.map_append]
    simp only [List.filter_cons,hkeep,List.filter_nil]
    simp
 ·have hk2:k=S.stack.length:=len_ge h hk
  subst hk2
  refine Tp.run [] ?_
  refine Tp.run [] ?_
  refine Ei [] (Ai rfl (Ai ?_ ?_))
  ·repeat' first|refine Ai ?_ ?_|exact rfl|exact trivial|exact Ei _ rfl|refine lN ?_|refine bS ?_|fail
  ·repeat' first|refine Ai ?_ ?_|exact rfl|exact trivial|exact Ei _ rfl|refine lN ?_|refine bS ?_|fail
   rw [List.take_length,hSs]
   exact rfl
end Go.Proofs.YtpibcdnagnjokaaGreat
end
section
namespace Go.Proofs.YtpibcdnagnjokaaGreat
open Go Cg Go.RowKit Go.Shelf
theorem r26in_ (a:Int) (b:Int) (c:Int):∃ r:Bool,(r=(inM a b c))∧Ct Tryz.prog 54 [.c (.t (iv a)),.c (.t (iv b)),.c (.t (iv c))] (AV.b r) [] true:=by
 refine ct_x (Φ:=fun (r:Bool)=>r=(inM a b c)) lit_b (ctx_of Tryz.func54 rfl (enters_of Tryz.func54 (by kernel_rfl) rfl) tabOk (by kernel_rfl) rfl rfl (TpX.runY [] [] ?_))
 repeat' (first|(apply cond_p <;> intro _)|(apply leaf_x;exact Ei [] (Ai rfl (Ai trivial rfl));exact (by simp [inM, *]);rfl)|fail)
theorem r26in (a:Int) (b:Int) (c:Int):Ct Tryz.prog 54 [.c (.t (iv a)),.c (.t (iv b)),.c (.t (iv c))] (AV.b (inM a b c)) [] true:=by
 obtain ⟨r,hr,h⟩:=r26in_ a b c
 rw [hr] at h
 exact h
theorem r26times_ (a:List Int) (b:Int) (ha:a.length*8≤limB):∃ r:Int,(r=(timesM a b))∧Ct Tryz.prog 142 [.c (.t (.sl 1 (a.map eI))),.c (.t (iv b))] (AV.i r) [] true:=by
 refine ct_x (Φ:=fun (r:Int)=>r=(timesM a b)) lit_i (ctx_of Tryz.func142 rfl (enters_of Tryz.func142 (by kernel_rfl) rfl) tabOk (by kernel_rfl) rfl rfl (TpX.runY [] [] ?_))
 repeat' (first|(apply ix_k;(first|assumption|omega|(simp only [IntKind.wrap_i64,IntKind.wrap_u64,List.length_cons,List.length_nil];omega)|(simp only [Lm] at *;omega)|decide);(first|assumption|omega|(simp only [IntKind.wrap_i64,IntKind.wrap_u64,List.length_cons,List.length_nil];omega)|(simp only [Lm] at *;omega)|decide);intro _)|(apply cond_p <;> intro _)|(apply leaf_x;exact Ei [] (Ai rfl (Ai trivial rfl));exact (times_end ‹_› ‹_›);rfl)|(apply lp_at 3 rfl;refine LpX.up (β:=Int) 3 6 ((((a.map eI).length:Nat):Int)) (by first|omega|exact len62 (by first|assumption|exact okmr ‹_› ‹_› | exact okmg _ ‹_›) rfl) (by omega) (fun p=>[(5,AV.i p)]) (fun i (p:Int)=>p=((a.take i.toNat).count b:Nat)∧p≤i) [0,1] [] 200000 rfl ?_;refine Ai ?_ (fun _ _ _ _ _=>TpX.runY [] [] ?_))|exact Ei _ (Ai (by first|exact ⟨rfl,Int.le_refl 0⟩|exact times_up1 ‹_› ‹_› ‹_› ‹_› ‹_› ‹_› | exact times_up0 ‹_› ‹_› ‹_› ‹_›) (wk_slim rfl rfl rfl rfl))|exact Ai (by first|assumption|omega) (Ei _ (Ai (by first|exact ⟨rfl,Int.le_refl 0⟩|exact times_up1 ‹_› ‹_› ‹_› ‹_› ‹_› ‹_› | exact times_up0 ‹_› ‹_› ‹_› ‹_›) (wk_slim rfl rfl rfl rfl)))|fail)
theorem r26times (a:List Int) (b:Int) (ha:a.length*8≤limB):Ct Tryz.prog 142 [.c (.t (.sl 1 (a.map eI))),.c (.t (iv b))] (AV.i (timesM a b)) [] true:=by
 obtain ⟨r,hr,h⟩:=r26times_ a b ha
 rw [hr] at h
 exact h
theorem r26object (a:GState) (b:Int) (ha:a.objects.length*128≤limB):Ct Tryz.prog 141 [.agg (a.enc.map .t),.c (.t (iv b))] (.tup [.agg ((findM a.objects b).enc.map .t),AV.b (hasM a.objects b)]) [] true:=by
 refine Ct.litT (b:=false) ?_ rfl
 refine ct_of Tryz.func141 rfl (enters_of Tryz.func141 (by kernel_rfl) rfl) tabOk (by kernel_rfl) rfl rfl rfl rfl fun w0 O _=>Tp.run [] ?_
 refine cI (find_ct a b ha) ⟨fL a.enc,rfl,trivial⟩ (.inl rfl) ?_
 refine Ei [] (Ai rfl (Ai trivial ?_))
 repeat' first|refine Ai ?_ ?_|exact rfl|exact trivial|exact Ei _ rfl|refine lN ?_|refine bS ?_|fail
theorem r26list_ (a:GState) (b:List Int) (c:Int) (d:Int) (ha:a.ok) (hb:b.length*8≤limB):∃ r:Bool,(r=(listOk a c d b))∧Ct Tryz.prog 102 [.agg (a.enc.map .t),.c (.t (.sl 1 (b.map eI))),.c (.t (iv c)),.c (.t (iv d))] (AV.b r) [] true:=by
 have ha_:=ha
 obtain ⟨oa0,oa1,oa2,oa3,oa4,oa5,oa6,oa7,oa8,oa9,oa10,oa11,oa12⟩:=ha_
 refine ct_x (Φ:=fun (r:Bool)=>r=(listOk a c d b)) lit_b (ctx_of Tryz.func102 rfl (enters_of Tryz.func102 (by kernel_rfl) rfl) tabOk (by kernel_rfl) rfl rfl (TpX.runY [] [] ?_))
 repeat' (first|(apply ix_k;(first|assumption|omega|(simp only [IntKind.wrap_i64,IntKind.wrap_u64,List.length_cons,List.length_nil];omega)|(simp only [Lm] at *;omega)|decide);(first|assumption|omega|(simp only [IntKind.wrap_i64,IntKind.wrap_u64,List.length_cons,List.length_nil];omega)|(simp only [Lm] at *;omega)|decide);intro _)|(apply cond_p <;> intro _)|(apply cond_ne <;> intro _)|apply cond_n|(apply cS <;> intro _)|(apply leaf_x;exact Ei [] (Ai rfl (Ai trivial rfl));exact (by first|exact (all_no (p:=fun id=>hasM a.objects id&&((findM a.objects id).zone==c&&((!decide (d≥0)||(findM a.objects id).owner==d)&&timesM b id==1))) ‹_› (by simp [*])).symm|exact (Up.all' (p:=fun id=>hasM a.objects id&&((findM a.objects id).zone==c&&((!decide (d≥0)||(findM a.objects id).owner==d)&&timesM b id==1))) ‹_› (by rwa [Lm] at *)).symm);rfl)|(apply lp_at 2 rfl;refine LpX.up (β:=Unit) 2 9 ((((b.map eI).length:Nat):Int)) (by first|omega|exact len62 (by first|assumption|exact okmr ‹_› ‹_› | exact okmg _ ‹_›) rfl) (by omega) (fun _=>[]) (fun i _=>Up (fun _=>fun id=>hasM a.objects id&&((findM a.objects id).zone==c&&((!decide (d≥0)||(findM a.objects id).owner==d)&&timesM b id==1))) b i) [1,2,3,4] [0] 200000 rfl ?_;refine Ai ?_ (fun _ _ _ _ _=>TpX.runY [] [] ?_))|exact Ei () (Ai (by first|exact Up.zero|exact Up.step ‹_› ‹_› ‹_› (by simp [*])) (wk_slim rfl rfl rfl rfl))|exact Ai (by first|assumption|omega) (Ei () (Ai (by first|exact Up.zero|exact Up.step ‹_› ‹_› ‹_› (by simp [*])) (wk_slim rfl rfl rfl rfl)))|(apply call_f 141;refine cI (r26object _ _ (by first|assumption|exact okmr ‹_› ‹_› | exact okmg _ ‹_›)) ⟨fL (GState.enc _),rfl,trivial⟩ (.inl rfl) ?_)|(apply call_f 142;refine cI (r26times _ _ (by first|assumption|exact okmr ‹_› ‹_› | exact okmg _ ‹_›)) ⟨rfl,rfl,trivial⟩ (.inl rfl) ?_)|fail)
theorem r26list (a:GState) (b:List Int) (c:Int) (d:Int) (ha:a.ok) (hb:b.length*8≤limB):Ct Tryz.prog 102 [.agg (a.enc.map .t),.c (.t (.sl 1 (b.map eI))),.c (.t (iv c)),.c (.t (iv d))] (AV.b (listOk a c d b)) [] true:=by
 obtain ⟨r,hr,h⟩:=r26list_ a b c d ha hb
 rw [hr] at h
 exact h
theorem r26player_ (a:GState) (b:Int) (ha:a.ok):∃ r:Bool,(r=(plM a b))∧Ct Tryz.prog 56 [.agg (a.enc.map .t),.c (.t (iv b))] (AV.b r) [] true:=by
 have ha_:=ha
 obtain ⟨oa0,oa1,oa2,oa3,oa4,oa5,oa6,oa7,oa8,oa9,oa10,oa11,oa12⟩:=ha_
 refine ct_x (Φ:=fun (r:Bool)=>r=(plM a b)) lit_b (ctx_of Tryz.func56 rfl (enters_of Tryz.func56 (by kernel_rfl) rfl) tabOk (by kernel_rfl) rfl rfl (TpX.runY [] [] ?_))
 repeat' (first|(apply leaf_x;exact Ei [] (Ai rfl (Ai trivial rfl));exact (by simp [plM,inM,wrap_sub1 oa0 rfl]);rfl)|(apply call_f 54;refine cI (r26in _ _ _) ⟨rfl,rfl,rfl,trivial⟩ (.inl rfl) ?_)|fail)
theorem r26player (a:GState) (b:Int) (ha:a.ok):Ct Tryz.prog 56 [.agg (a.enc.map .t),.c (.t (iv b))] (AV.b (plM a b)) [] true:=by
 obtain ⟨r,hr,h⟩:=r26player_ a b ha
 rw [hr] at h
 exact h
theorem r08whole_ (a0:Int) (a1:Int) (a2:Int) (a3:Int) (a4:Int) (a5:Int):∃ r:Bool,(r=(wholeM a0 a1 a2 a3 a4 a5))∧Ct Tryz.prog 101 [.agg [.t (iv a0),.t (iv a1),.t (iv a2),.t (iv a3),.t (iv a4),.t (iv a5)]] (AV.b r) [] true:=by
 refine ct_x (Φ:=fun (r:Bool)=>r=(wholeM a0 a1 a2 a3 a4 a5)) lit_b (ctx_of Tryz.func101 rfl (enters_of Tryz.func101 (by kernel_rfl) rfl) tabOk (by kernel_rfl) rfl rfl (TpX.runY [] [] ?_))
 repeat' (first|(apply cond_p <;> intro _)|(apply leaf_x;exact Ei [] (Ai rfl (Ai trivial rfl));exact (by simp [wholeM, *]);rfl)|(apply lp_at 2 rfl;refine LpX.one 2 rfl (TpX.runY [] [] ?_))|(apply ix_n;(first|assumption|omega|(simp only [IntKind.wrap_i64];omega)|(simp only [Lm] at *;omega)|decide);(first|assumption|omega|(simp only [IntKind.wrap_i64];omega)|(simp only [Lm] at *;omega)|decide);intro _)|fail)
theorem r08whole (a0:Int) (a1:Int) (a2:Int) (a3:Int) (a4:Int) (a5:Int):Ct Tryz.prog 101 [.agg [.t (iv a0),.t (iv a1),.t (iv a2),.t (iv a3),.t (iv a4),.t (iv a5)]] (AV.b (wholeM a0 a1 a2 a3 a4 a5)) [] true:=by
 obtain ⟨r,hr,h⟩:=r08whole_ a0 a1 a2 a3 a4 a5
 rw [hr] at h
 exact h
theorem r12is_ (a0:Int) (a1:Int) (a2:Int):∃ r:Bool,(r=(cntOk a0 a1 a2))∧Ct Tryz.prog 143 [.agg [.t (iv a0),.t (iv a1),.t (iv a2)]] (AV.b r) [] true:=by
 refine ct_x (Φ:=fun (r:Bool)=>r=(cntOk a0 a1 a2)) lit_b (ctx_of Tryz.func143 rfl (enters_of Tryz.func143 (by kernel_rfl) rfl) tabOk (by kernel_rfl) rfl rfl (TpX.runY [] [] ?_))
 repeat' (first|(apply cond_p <;> intro _)|(apply leaf_x;exact Ei [] (Ai rfl (Ai trivial rfl));exact (by simp [cntOk, *]);rfl)|(apply lp_at 2 rfl;refine LpX.one 2 rfl (TpX.runY [] [] ?_))|(apply ix_n;(first|assumption|omega|(simp only [IntKind.wrap_i64];omega)|(simp only [Lm] at *;omega)|decide);(first|assumption|omega|(simp only [IntKind.wrap_i64];omega)|(simp only [Lm] at *;omega)|decide);intro _)|fail)
theorem r12is (a0:Int) (a1:Int) (a2:Int):Ct Tryz.prog 143 [.agg [.t (iv a0),.t (iv a1),.t (iv a2)]] (AV.b (cntOk a0 a1 a2)) [] true:=by
 obtain ⟨r,hr,h⟩:=r12is_ a0 a1 a2
 rw [hr] at h
 exact h
theorem r26spells_ (a:GState) (b:Int) (ha:a.ok):∃ r:Int,(r=(spellsM a b))∧Ct Tryz.prog 146 [.agg (a.enc.map .t),.c (.t (iv b))] (AV.i r) [] true:=by
 have ha_:=ha
 obtain ⟨oa0,oa1,oa2,oa3,oa4,oa5,oa6,oa7,oa8,oa9,oa10,oa11,oa12⟩:=ha_
 refine ct_x (Φ:=fun (r:Int)=>r=(spellsM a b)) lit_i (ctx_of Tryz.func146 rfl (enters_of Tryz.func146 (by kernel_rfl) rfl) tabOk (by kernel_rfl) rfl rfl (TpX.runY [] [] ?_))
 repeat' (first|(apply ix_k;(first|assumption|omega|(simp only [IntKind.wrap_i64,IntKind.wrap_u64,List.length_cons,List.length_nil];omega)|(simp only [Lm] at *;omega)|decide);(first|assumption|omega|(simp only [IntKind.wrap_i64,IntKind.wrap_u64,List.length_cons,List.length_nil];omega)|(simp only [Lm] at *;omega)|decide);intro _)|(apply cond_p <;> intro _)|(apply leaf_x;exact Ei [] (Ai rfl (Ai trivial rfl));exact (cntP_end ‹_› ‹_›);rfl)|(apply lp_at 3 rfl;refine LpX.up (β:=Int) 3 6 ((((a.stack.map GItem.enc).length:Nat):Int)) (by first|omega|exact len62 (by first|assumption|exact okmr ‹_› ‹_› | exact okmg _ ‹_›) rfl) (by omega) (fun p=>[(5,AV.i p)]) (fun i (p:Int)=>p=((a.stack.take i.toNat).countP (fun x=>x.kind==1&&x.id==b):Nat)∧p≤i) [1,2] [0] 200000 rfl ?_;refine Ai ?_ (fun _ _ _ _ _=>TpX.runY [] [] ?_))|exact Ei _ (Ai (by first|exact ⟨rfl,Int.le_refl 0⟩|exact cntP_up1 ‹_› ‹_› oa6 rfl ‹_› ‹_› (by simp [*])|exact cntP_up0 ‹_› ‹_› ‹_› (by simp [*])) (wk_slim rfl rfl rfl rfl))|exact Ai (by first|assumption|omega) (Ei _ (Ai (by first|exact ⟨rfl,Int.le_refl 0⟩|exact cntP_up1 ‹_› ‹_› oa6 rfl ‹_› ‹_› (by simp [*])|exact cntP_up0 ‹_› ‹_› ‹_› (by simp [*])) (wk_slim rfl rfl rfl rfl)))|fail)
theorem r26spells (a:GState) (b:Int) (ha:a.ok):Ct Tryz.prog 146 [.agg (a.enc.map .t),.c (.t (iv b))] (AV.i (spellsM a b)) [] true:=by
 obtain ⟨r,hr,h⟩:=r26spells_ a b ha
 rw [hr] at h
 exact h
theorem r24calm_ (a:GObject):∃ r:GObject,(r=(calmM a))∧Ct Tryz.prog 144 [.agg (a.enc.map .t)] ((fun r=>.agg (r.enc.map .t)) r) [] true:=by
 refine ct_x (Φ:=fun (r:GObject)=>r=(calmM a)) (fun _=>rfl) (ctx_of Tryz.func144 rfl (enters_of Tryz.func144 (by kernel_rfl) rfl) tabOk (by kernel_rfl) rfl rfl (TpX.runY [] [] ?_))
 repeat' (first|(refine leaf_x (calmM a) (Ei [] (Ai rfl (Ai trivial ?_))) rfl rfl;(repeat' first|refine Ai ?_ ?_|exact rfl|exact trivial|exact Ei _ rfl|refine lN ?_|refine bS ?_|fail);done)|fail)
theorem r24calm (a:GObject):Ct Tryz.prog 144 [.agg (a.enc.map .t)] (.agg ((calmM a).enc.map .t)) [] true:=by
 obtain ⟨r,hr,h⟩:=r24calm_ a
 rw [hr] at h
 exact h
theorem r24ended_ (a:GObject):∃ r:GObject,(r=(endedM a))∧Ct Tryz.prog 145 [.agg (a.enc.map .t)] ((fun r=>.agg (r.enc.map .t)) r) [] true:=by
 refine ct_x (Φ:=fun (r:GObject)=>r=(endedM a)) (fun _=>rfl) (ctx_of Tryz.func145 rfl (enters_of Tryz.func145 (by kernel_rfl) rfl) tabOk (by kernel_rfl) rfl rfl (TpX.runY [] [] ?_))
 repeat' (first|(refine leaf_x (endedM a) (Ei [] (Ai rfl (Ai trivial ?_))) rfl rfl;(repeat' first|refine Ai ?_ ?_|exact rfl|exact trivial|exact Ei _ rfl|refine lN ?_|refine bS ?_|fail);done)|fail)
theorem r24ended (a:GObject):Ct Tryz.prog 145 [.agg (a.enc.map .t)] (.agg ((endedM a).enc.map .t)) [] true:=by
 obtain ⟨r,hr,h⟩:=r24ended_ a
 rw [hr] at h
 exact h
theorem r24is_ (a:GObject) (b:Int) (c:Int):∃ r:Bool,(r=(objOk a b c))∧Ct Tryz.prog 103 [.agg (a.enc.map .t),.c (.t (iv b)),.c (.t (iv c))] (AV.b r) [] true:=by
 refine ct_x (Φ:=fun (r:Bool)=>r=(objOk a b c)) lit_b (ctx_of Tryz.func103 rfl (enters_of Tryz.func103 (by kernel_rfl) rfl) tabOk (by kernel_rfl) rfl rfl (TpX.runY [] [] ?_))
 repeat' (first|(apply cond_p <;> intro _)|apply cond_n|(apply cS <;> intro _)|(apply leaf_x;exact Ei [] (Ai rfl (Ai trivial rfl));exact (by simp [objOk,restOk, *] <;> simp_all [lksEq,lkEq,calmM,endedM]);rfl)|(apply call_f 143;refine cI (r12is _ _ _) ⟨⟨rfl,rfl,rfl,trivial⟩,trivial⟩ (.inl rfl) ?_)|(apply call_f 144;refine cI (r24calm _) ⟨fL (GObject.enc _),trivial⟩ (.inl rfl) ?_)|(apply call_f 145;refine cI (r24ended _) ⟨fL (GObject.enc _),trivial⟩ (.inl rfl) ?_)|fail)
theorem r24is (a:GObject) (b:Int) (c:Int):Ct Tryz.prog 103 [.agg (a.enc.map .t),.c (.t (iv b)),.c (.t (iv c))] (AV.b (objOk a b c)) [] true:=by
 obtain ⟨r,hr,h⟩:=r24is_ a b c
 rw [hr] at h
 exact h
theorem r26placed_ (a:GState) (b:GObject) (ha:a.ok):∃ r:Bool,(r=(placedOk a b))∧Ct Tryz.prog 104 [.agg (a.enc.map .t),.agg (b.enc.map .t)] (AV.b r) [] true:=by
 have ha_:=ha
 obtain ⟨oa0,oa1,oa2,oa3,oa4,oa5,oa6,oa7,oa8,oa9,oa10,oa11,oa12⟩:=ha_
 refine ct_x (Φ:=fun (r:Bool)=>r=(placedOk a b)) lit_b (ctx_of Tryz.func104 rfl (enters_of Tryz.func104 (by kernel_rfl) rfl) tabOk (by kernel_rfl) rfl rfl (TpX.runY [] [] ?_))
 repeat' (first|(apply cond_p <;> intro _)|(apply leaf_x;exact Ei [] (Ai rfl (Ai trivial rfl));exact (by simp [placedOk, *]);rfl)|(apply call_f 146;refine cI (r26spells _ _ (by first|assumption|exact okmr ‹_› ‹_› | exact okmg _ ‹_› | exact listM_le ‹_› _ _)) ⟨fL (GState.enc _),rfl,trivial⟩ (.inl rfl) ?_)|(apply call_f 110;refine cI (list_ct _ _ _ (by first|assumption|exact okmr ‹_› ‹_› | exact okmg _ ‹_› | exact listM_le ‹_› _ _)) ⟨fL (GState.enc _),rfl,rfl,trivial⟩ (.inr rfl) ?_)|(apply call_f 142;refine cI (r26times _ _ (by first|assumption|exact okmr ‹_› ‹_› | exact okmg _ ‹_› | exact listM_le ‹_› _ _)) ⟨rfl,rfl,trivial⟩ (.inl rfl) ?_)|fail)
theorem r26placed (a:GState) (b:GObject) (ha:a.ok):Ct Tryz.prog 104 [.agg (a.enc.map .t),.agg (b.enc.map .t)] (AV.b (placedOk a b)) [] true:=by
 obtain ⟨r,hr,h⟩:=r26placed_ a b ha
 rw [hr] at h
 exact h
theorem r26objects_ (a:List GCard) (b:GState) (_ha:a.length*176≤limB) (_ma:∀ y∈a,GCard.ok y) (hb:b.ok):∃ r:Bool,(r=(objsOk ((a.length:Nat):Int) b))∧Ct Tryz.prog 57 [.c (.t (.sl 17 (a.map GCard.enc))),.agg (b.enc.map .t)] (AV.b r) [] true:=by
 have hb_:=hb
 obtain ⟨ob0,ob1,ob2,ob3,ob4,ob5,ob6,ob7,ob8,ob9,ob10,ob11,ob12⟩:=hb_
 refine ct_x (Φ:=fun (r:Bool)=>r=(objsOk ((a.length:Nat):Int) b)) lit_b (ctx_of Tryz.func57 rfl (enters_of Tryz.func57 (by kernel_rfl) rfl) tabOk (by kernel_rfl) rfl rfl (TpX.runY [] [] ?_))
 repeat' (first|(apply ix_prev zeroObj 128 ‹_› rfl ‹_› ‹_›;intro _)|(apply ix_k;(first|assumption|omega|(simp only [IntKind.wrap_i64,IntKind.wrap_u64,List.length_cons,List.length_nil];omega)|(simp only [Lm] at *;omega)|decide);(first|assumption|omega|(simp only [IntKind.wrap_i64,IntKind.wrap_u64,List.length_cons,List.length_nil];omega)|(simp only [Lm] at *;omega)|decide);intro _)|(apply cond_p <;> intro _)|apply cond_n|(apply cS <;> intro _)|(apply leaf_x;exact Ei [] (Ai rfl (Ai trivial rfl));exact (by first|(simp [objsOk, *];done)|((try simp only [Lm] at *);simp [objsOk, *];done)|exact objs_no ‹_› ‹_› (by first|exact objAt_n1 ‹_› | exact objAt_n2 ‹_› | exact objAt_n3 ‹_› | exact objAt_n4 ‹_› ‹_› | exact objAt_n5 ‹_›)|exact objs_yes ‹_› ‹_› ‹_›);rfl)|(apply lp_at 4 rfl;refine LpX.up (β:=Unit) 4 5 ((((b.objects.map GObject.enc).length:Nat):Int)) (by first|omega|exact len62 (by first|assumption|exact okmr ‹_› ‹_› | exact okmg _ ‹_›) rfl) (by omega) (fun _=>[]) (fun i _=>Up (objAt ((a.length:Nat):Int) b) b.objects i) [0,3] [0] 200000 rfl ?_;refine Ai ?_ (fun _ _ _ _ _=>TpX.runY [] [] ?_))|exact Ei () (Ai (by first|exact Up.zero|exact Up.step ‹_› ‹_› ‹_› (objAt_yes ‹_› ‹_› ‹_› (by first|exact .inl (by omega)|exact .inr ‹_›) ‹_›)) (wk_slim rfl rfl rfl rfl))|exact Ai (by first|assumption|omega) (Ei () (Ai (by first|exact Up.zero|exact Up.step ‹_› ‹_› ‹_› (objAt_yes ‹_› ‹_› ‹_› (by first|exact .inl (by omega)|exact .inr ‹_›) ‹_›)) (wk_slim rfl rfl rfl rfl)))|(apply call_f 103;refine cI (r24is _ _ _) ⟨fL (GObject.enc _),rfl,rfl,trivial⟩ (.inl rfl) ?_)|(apply call_f 104;refine cI (r26placed _ _ (by first|assumption|exact okmr ‹_› ‹_› | exact okmg _ ‹_›)) ⟨fL (GState.enc _),fL (GObject.enc _),trivial⟩ (.inl rfl) ?_)|fail)
theorem r26objects (a:List GCard) (b:GState) (ha:a.length*176≤limB) (ma:∀ y∈a,GCard.ok y) (hb:b.ok):Ct Tryz.prog 57 [.c (.t (.sl 17 (a.map GCard.enc))),.agg (b.enc.map .t)] (AV.b (objsOk ((a.length:Nat):Int) b)) [] true:=by
 obtain ⟨r,hr,h⟩:=r26objects_ a b ha ma hb
 rw [hr] at h
 exact h
theorem r26players_ (a:GState) (ha:a.ok):∃ r:Bool,(r=(playersOk a))∧Ct Tryz.prog 55 [.agg (a.enc.map .t)] (AV.b r) [] true:=by
 have ha_:=ha
 obtain ⟨oa0,oa1,oa2,oa3,oa4,oa5,oa6,oa7,oa8,oa9,oa10,oa11,oa12⟩:=ha_
 refine ct_x (Φ:=fun (r:Bool)=>r=(playersOk a)) lit_b (ctx_of Tryz.func55 rfl (enters_of Tryz.func55 (by kernel_rfl) rfl) tabOk (by kernel_rfl) rfl rfl (TpX.runY [] [] ?_))
 repeat' (first|(apply ix_k;(first|assumption|omega|(simp only [IntKind.wrap_i64,IntKind.wrap_u64,List.length_cons,List.length_nil];omega)|(simp only [Lm] at *;omega)|decide);(first|assumption|omega|(simp only [IntKind.wrap_i64,IntKind.wrap_u64,List.length_cons,List.length_nil];omega)|(simp only [Lm] at *;omega)|decide);intro _)|(apply cond_p <;> intro _)|apply cond_n|(apply cS <;> intro _)|(apply leaf_x;exact Ei [] (Ai rfl (Ai trivial rfl));exact (by first|exact plys_n1 ‹_› | exact plys_no ‹_› (by rw [plyOk_eq ‹_›];simp [*])|exact plys_yes ‹_› ‹_› ‹_› (by simp [*]));rfl)|(apply lp_at 4 rfl;refine LpX.up (β:=Unit) 4 3 ((((a.players.map GPlayer.enc).length:Nat):Int)) (by first|omega|exact len62 (by first|assumption|exact okmr ‹_› ‹_› | exact okmg _ ‹_› | exact GPlayer.ok_library (okmg _ ‹_›)|exact GPlayer.ok_hand (okmg _ ‹_›)|exact GPlayer.ok_graveyard (okmg _ ‹_›)) rfl) (by omega) (fun _=>[]) (fun i _=>Up (plyOk a) a.players i) [1] [0] 200000 rfl ?_;refine Ai ?_ (fun _ _ _ _ _=>TpX.runY [] [] ?_))|exact Ei () (Ai (by first|exact Up.zero|exact Up.step ‹_› ‹_› ‹_› (by rw [plyOk_eq ‹_›];simp [*])) (wk_slim rfl rfl rfl rfl))|exact Ai (by first|assumption|omega) (Ei () (Ai (by first|exact Up.zero|exact Up.step ‹_› ‹_› ‹_› (by rw [plyOk_eq ‹_›];simp [*])) (wk_slim rfl rfl rfl rfl)))|(apply call_f 54;refine cI (r26in _ _ _) ⟨rfl,rfl,rfl,trivial⟩ (.inl rfl) ?_)|(apply call_f 101;refine cI (r08whole _ _ _ _ _ _) ⟨⟨rfl,rfl,rfl,rfl,rfl,rfl,trivial⟩,trivial⟩ (.inl rfl) ?_)|(apply call_f 102;refine cI (r26list _ _ _ _ (by first|assumption|exact okmr ‹_› ‹_› | exact okmg _ ‹_› | exact GPlayer.ok_library (okmg _ ‹_›)|exact GPlayer.ok_hand (okmg _ ‹_›)|exact GPlayer.ok_graveyard (okmg _ ‹_›)) (by first|assumption|exact okmr ‹_› ‹_› | exact okmg _ ‹_› | exact GPlayer.ok_library (okmg _ ‹_›)|exact GPlayer.ok_hand (okmg _ ‹_›)|exact GPlayer.ok_graveyard (okmg _ ‹_›))) ⟨fL (GState.enc _),rfl,rfl,rfl,trivial⟩ (.inl rfl) ?_)|fail)
theorem r26players (a:GState) (ha:a.ok):Ct Tryz.prog 55 [.agg (a.enc.map .t)] (AV.b (playersOk a)) [] true:=by
 obtain ⟨r,hr,h⟩:=r26players_ a ha
 rw [hr] at h
 exact h
end Go.Proofs.YtpibcdnagnjokaaGreat
end
section
namespace Go.Proofs.YtpibcdnagnjokaaGreat
open Go Cg Go.RowKit Go.Shelf
open Classical in
section
noncomputable def opqB (f:FuncId) (ars:List AV):Bool:=if h:∃ b,Ct Tryz.prog f ars (AV.b b) [] true then h.choose else false
theorem opqB_ct {Φ:Bool→Prop} {f:FuncId} {ars:List AV} (h:∃ b,Φ b∧Ct Tryz.prog f ars (AV.b b) [] true):Ct Tryz.prog f ars (AV.b (opqB f ars)) [] true:=by
 obtain ⟨b,_,hb⟩:=h
 have h:∃ b,Ct Tryz.prog f ars (AV.b b) [] true:=⟨b,hb⟩
 unfold opqB
 rw [dif_pos h]
 exact h.choose_spec
open Classical in
noncomputable def opqS (f:FuncId) (ars:List AV):ByteArray:=if h:∃ b,Ct Tryz.prog f ars (AV.s b) [] true then h.choose else ⟨#[]⟩
theorem opqS_ct {Φ:ByteArray→Prop} {f:FuncId} {ars:List AV} (h:∃ b,Φ b∧Ct Tryz.prog f ars (AV.s b) [] true):Ct Tryz.prog f ars (AV.s (opqS f ars)) [] true:=by
 obtain ⟨b,_,hb⟩:=h
 have h:∃ b,Ct Tryz.prog f ars (AV.s b) [] true:=⟨b,hb⟩
 unfold opqS
 rw [dif_pos h]
 exact h.choose_spec
theorem r03is (a:List Int) (ha:a.length*8≤limB):∃ r:Bool,True∧Ct Tryz.prog 106 [.c (.t (.sl 1 (a.map eI)))] (AV.b r) [] true:=by
 refine ct_x (Φ:=fun _=>True) lit_b (ctx_of Tryz.func106 rfl (enters_of Tryz.func106 (by kernel_rfl) rfl) tabOk (by kernel_rfl) rfl rfl (TpX.runY [] [] ?_))
 repeat' (first|(apply ix_prev 0 8 ‹_› rfl (by omega) ‹_›;intro _)|(apply cond_p <;> intro _)|(apply leaf_x;exact Ei [] (Ai rfl (Ai trivial rfl));exact (trivial);rfl)|(apply ix_map;(first|assumption|omega|(simp only [IntKind.wrap_i64,IntKind.wrap_u64,List.length_cons,List.length_nil];omega)|(simp only [Lm] at *;omega)|decide);(first|assumption|omega|(simp only [IntKind.wrap_i64,IntKind.wrap_u64,List.length_cons,List.length_nil];omega)|(simp only [Lm] at *;omega)|decide);intro _ _)|(apply lp_at 2 rfl;refine LpX.at (α:=Int) 2 (fun i=>[(3,AV.i i)]) (fun i=>1≤i∧i≤17592186044416) (fun i=>(17592186044416 - i).toNat) [0] [] 200000 rfl ?_;refine Ai (Ei 1 (Ai ⟨by omega,by omega⟩ (wk_slim rfl rfl rfl rfl))) (fun i hi=>TpX.runY [] [] ?_))|exact Ei _ (Ai (Ai (by (simp only [IntKind.wrap_i64,Lm] at *;unfold limB at ha;omega)) (by (simp only [IntKind.wrap_i64,Lm] at *;unfold limB at ha;omega))) (wk_slim rfl rfl rfl rfl))|fail)
def zeroAb:GAbility:=⟨0,⟨0,0,0,0,0,0,0,⟨#[]⟩,0,0,⟨0,0⟩,⟨0,0⟩,⟨0,0⟩⟩,[],⟨⟨0,0,0,0,0,0,0⟩,false,false,0⟩,false,⟨0,0,⟨0,0,0,0,0,0,0,⟨#[]⟩,0,0,⟨0,0⟩,⟨0,0⟩,⟨0,0⟩⟩⟩,false,[],[],⟨0,0,⟨0,0,0,0,0,0,0,⟨#[]⟩,0,0,⟨0,0⟩,⟨0,0⟩,⟨0,0⟩⟩,0,0,0,0⟩⟩
theorem zeroAb_ok:zeroAb.ok:=⟨⟨trivial,trivial,trivial⟩,Nat.zero_le _,fun _ h=>(by cases h),trivial,⟨trivial,trivial,trivial⟩,Nat.zero_le _,fun _ h=>(by cases h),Nat.zero_le _,fun _ h=>(by cases h),⟨trivial,trivial,trivial⟩⟩
theorem opq_ex:∃ q:Opq,(∀ a:GAbility,a.ok→Ct Tryz.prog 98 [.agg (a.enc.map .t)] (AV.b (q.ab a)) [] true)∧(∀ a:GAbility,a.ok→Ct Tryz.prog 112 [.agg (a.enc.map .t),.agg (zeroAb.enc.map .t)] (AV.b (q.zero a)) [] true)∧(∀ l:List Int,l.length*8≤limB→Ct Tryz.prog 106 [.c (.t (.sl 1 (l.map eI)))] (AV.b (q.set l)) [] true)∧∀ l:List GMod,l.length*176≤limB→Ct Tryz.prog 107 [.c (.t (.sl 20 (l.map GMod.enc)))] (AV.s (q.txt l)) [] true:=
 ⟨⟨fun a=>opqB 98 [.agg (a.enc.map .t)],fun a=>opqB 112 [.agg (a.enc.map .t),.agg (zeroAb.enc.map .t)],fun l=>opqB 106 [.c (.t (.sl 1 (l.map eI)))],fun l=>opqS 107 [.c (.t (.sl 20 (l.map GMod.enc)))]⟩,fun a ha=>opqB_ct (r20is a ha),fun a ha=>opqB_ct (r20same a zeroAb ha zeroAb_ok),fun l hl=>opqB_ct (r03is l hl),fun l hl=>opqS_ct (r15listText l hl)⟩
noncomputable def opq:Opq:=Classical.choose opq_ex
theorem ab_ct (a:GAbility) (ha:a.ok):Ct Tryz.prog 98 [.agg (a.enc.map .t)] (AV.b (opq.ab a)) [] true:=(Classical.choose_spec opq_ex).1 a ha
theorem zero_ct (a:GAbility) (ha:a.ok):Ct Tryz.prog 112 [.agg (a.enc.map .t),.agg (zeroAb.enc.map .t)] (AV.b (opq.zero a)) [] true:=(Classical.choose_spec opq_ex).2.1 a ha
theorem set_ct' (l:List Int) (hl:l.length*8≤limB):Ct Tryz.prog 106 [.c (.t (.sl 1 (l.map eI)))] (AV.b (opq.set l)) [] true:=(Classical.choose_spec opq_ex).2.2.1 l hl
theorem mods_ct (l:List GMod) (hl:l.length*176≤limB):Ct Tryz.prog 107 [.c (.t (.sl 20 (l.map GMod.enc)))] (AV.s (opq.txt l)) [] true:=(Classical.choose_spec opq_ex).2.2.2 l hl
theorem r26item_ (a:GState) (b:GItem) (ha:a.ok) (hb:b.ok) (hn:inM a.nextId 1 1000000=true):∃ r:Bool,(r=(itemOk opq a b))∧Ct Tryz.prog 105 [.agg (a.enc.map .t),.agg (b.enc.map .t)] (AV.b r) [] true:=by
 have ha_:=ha
 obtain ⟨oa0,oa1,oa2,oa3,oa4,oa5,oa6,oa7,oa8,oa9,oa10,oa11,oa12⟩:=ha_
 have hb_:=hb
 obtain ⟨ob0,ob1,ob2,ob3⟩:=hb_
 refine ct_x (Φ:=fun (r:Bool)=>r=(itemOk opq a b)) lit_b (ctx_of Tryz.func105 rfl (enters_of Tryz.func105 (by kernel_rfl) rfl) tabOk (by kernel_rfl) rfl rfl (TpX.runY [] [] ?_))
 repeat' (first|(apply call_f 112;refine cI (zero_ct _ (by first|assumption|exact okmr ‹_› ‹_› | exact okmg _ ‹_›)) ⟨fL (GAbility.enc _),(by repeat' first|refine Ai ?_ ?_|exact rfl|exact trivial|exact Ei _ rfl|refine lN ?_|refine bS ?_|fail),trivial⟩ (.inl rfl) ?_)|(apply cond_p <;> intro _)|apply cond_n|(apply cS <;> intro _)|(apply leaf_x;exact Ei [] (Ai rfl (Ai trivial rfl));exact (by (try simp only [Lm,wrapN hn] at *);simp [itemOk, *]);rfl)|(apply call_f 54;refine cI (r26in _ _ _) ⟨rfl,rfl,rfl,trivial⟩ (.inl rfl) ?_)|(apply call_f 56;refine cI (r26player _ _ (by first|assumption|exact okmr ‹_› ‹_› | exact okmg _ ‹_›)) ⟨fL (GState.enc _),rfl,trivial⟩ (.inl rfl) ?_)|(apply call_f 141;refine cI (r26object _ _ (by first|assumption|exact okmr ‹_› ‹_› | exact okmg _ ‹_›)) ⟨fL (GState.enc _),rfl,trivial⟩ (.inl rfl) ?_)|(apply call_f 98;refine cI (ab_ct _ (by first|assumption|exact okmr ‹_› ‹_› | exact okmg _ ‹_›)) ⟨fL (GAbility.enc _),trivial⟩ (.inl rfl) ?_)|fail)
theorem r26item (a:GState) (b:GItem) (ha:a.ok) (hb:b.ok) (hn:inM a.nextId 1 1000000=true):Ct Tryz.prog 105 [.agg (a.enc.map .t),.agg (b.enc.map .t)] (AV.b (itemOk opq a b)) [] true:=by
 obtain ⟨r,hr,h⟩:=r26item_ a b ha hb hn
 rw [hr] at h
 exact h
theorem r26stack_ (a:GState) (ha:a.ok) (hn:inM a.nextId 1 1000000=true):∃ r:Bool,(r=(stackOk opq a))∧Ct Tryz.prog 58 [.agg (a.enc.map .t)] (AV.b r) [] true:=by
 have ha_:=ha
 obtain ⟨oa0,oa1,oa2,oa3,oa4,oa5,oa6,oa7,oa8,oa9,oa10,oa11,oa12⟩:=ha_
 refine ct_x (Φ:=fun (r:Bool)=>r=(stackOk opq a)) lit_b (ctx_of Tryz.func58 rfl (enters_of Tryz.func58 (by kernel_rfl) rfl) tabOk (by kernel_rfl) rfl rfl (TpX.runY [] [] ?_))
 repeat' (first|(apply ix_k;(first|assumption|omega|(simp only [IntKind.wrap_i64,IntKind.wrap_u64,List.length_cons,List.length_nil];omega)|(simp only [Lm] at *;omega)|decide);(first|assumption|omega|(simp only [IntKind.wrap_i64,IntKind.wrap_u64,List.length_cons,List.length_nil];omega)|(simp only [Lm] at *;omega)|decide);intro _)|(apply cond_p <;> intro _)|(apply cond_ne <;> intro _)|apply cond_n|(apply cS <;> intro _)|(apply leaf_x;exact Ei [] (Ai rfl (Ai trivial rfl));exact (by first|exact stk_n0 (f:=GItem.enc) (g:=GWaiting.enc) (c:=GCont.enc) (.inl ‹_›)|exact stk_n0 (f:=GItem.enc) (g:=GWaiting.enc) (c:=GCont.enc) (.inr (.inl ‹_›))|exact stk_n0 (f:=GItem.enc) (g:=GWaiting.enc) (c:=GCont.enc) (.inr (.inr ‹_›))|exact stk_n1 ‹_› (by first|exact item_n1 ‹_› | exact item_n2 ‹_› ‹_› ‹_› ‹_›)|exact stk_n2 ‹_› (by (try simp only [Lm] at *);simp [waitOk, *])|exact stk_n3 ‹_› (by first|exact cont_yes ‹_› ‹_› ‹_› ‹_› ‹_› | exact cont_n1 ‹_› | exact cont_n2 ‹_› | exact cont_n3 ‹_› | exact cont_n4 ‹_› | exact cont_n5 ‹_›)|exact stk_yes ‹_› ‹_› ‹_› ‹_› ‹_› ‹_› ‹_› ‹_› ‹_›);rfl)|(apply lp_at 4 rfl;refine LpX.up (β:=Unit) 4 3 ((((a.stack.map GItem.enc).length:Nat):Int)) (by first|omega|exact len62 (by first|assumption|exact okmr ‹_› ‹_› | exact okmg _ ‹_› | exact GWaiting.ok_ability (okmg _ ‹_›)|exact GCont.ok_objects (okmg _ ‹_›)|exact GCont.ok_mods (okmg _ ‹_›)) rfl) (by omega) (fun _=>[]) (fun i _=>Up (itemAt opq a) a.stack i) [1] [0] 200000 rfl ?_;refine Ai ?_ (fun _ _ _ _ _=>TpX.runY [] [] ?_))|(apply lp_at 9 rfl;rename_i i _ _ _ _ hi hl _;refine LpX.up (β:=Unit) 9 4 (i) (by (simp only [Lm] at *;have:=oa6;unfold limB at this;omega)) ‹_› (fun _=>[]) (fun k _=>Up (fun _ (y:GItem)=>!(y.id==a.stack[i.toNat].id)) a.stack k) [1,3] [0] 300000 rfl ?_;refine Ai ?_ (fun _ _ _ _ _=>TpX.runY [] [] ?_))|(apply lp_at 14 rfl;refine LpX.up (β:=Unit) 14 5 ((((a.waiting.map GWaiting.enc).length:Nat):Int)) (by first|omega|exact len62 (by first|assumption|exact okmr ‹_› ‹_› | exact okmg _ ‹_› | exact GWaiting.ok_ability (okmg _ ‹_›)|exact GCont.ok_objects (okmg _ ‹_›)|exact GCont.ok_mods (okmg _ ‹_›)) rfl) (by omega) (fun _=>[]) (fun i _=>Up (fun _=>waitOk opq a) a.waiting i) [1] [0] 400000 rfl ?_;refine Ai ?_ (fun _ _ _ _ _=>TpX.runY [] [] ?_))|(apply lp_at 20 rfl;refine LpX.up (β:=Unit) 20 7 ((((a.conts.map GCont.enc).length:Nat):Int)) (by first|omega|exact len62 (by first|assumption|exact okmr ‹_› ‹_› | exact okmg _ ‹_› | exact GWaiting.ok_ability (okmg _ ‹_›)|exact GCont.ok_objects (okmg _ ‹_›)|exact GCont.ok_mods (okmg _ ‹_›)) rfl) (by omega) (fun _=>[]) (fun i _=>Up (fun _=>contOk opq a) a.conts i) [1] [0] 500000 rfl ?_;refine Ai ?_ (fun _ _ _ _ _=>TpX.runY [] [] ?_))|exact Ei () (Ai (by first|exact Up.zero|exact Up.step ‹_› ‹_› ‹_› (item_yes ‹_› ‹_› ‹_› ‹_›)|exact Up.step ‹_› ‹_› ‹_› (by simp [*])|exact Up.step ‹_› ‹_› ‹_› (by (try simp only [Lm] at *);simp [waitOk, *])|exact Up.step ‹_› ‹_› ‹_› (by first|exact cont_yes ‹_› ‹_› ‹_› ‹_› ‹_› | exact cont_n1 ‹_› | exact cont_n2 ‹_› | exact cont_n3 ‹_› | exact cont_n4 ‹_› | exact cont_n5 ‹_›)) (wk_slim rfl rfl rfl rfl))|exact Ai (by first|assumption|omega) (Ei () (Ai (by first|exact Up.zero|exact Up.step ‹_› ‹_› ‹_› (item_yes ‹_› ‹_› ‹_› ‹_›)|exact Up.step ‹_› ‹_› ‹_› (by simp [*])|exact Up.step ‹_› ‹_› ‹_› (by (try simp only [Lm] at *);simp [waitOk, *])|exact Up.step ‹_› ‹_› ‹_› (by first|exact cont_yes ‹_› ‹_› ‹_› ‹_› ‹_› | exact cont_n1 ‹_› | exact cont_n2 ‹_› | exact cont_n3 ‹_› | exact cont_n4 ‹_› | exact cont_n5 ‹_›)) (wk_slim rfl rfl rfl rfl)))|(apply call_f 105;refine cI (r26item _ _ (by first|assumption|exact okmr ‹_› ‹_› | exact okmg _ ‹_› | exact GWaiting.ok_ability (okmg _ ‹_›)|exact GCont.ok_objects (okmg _ ‹_›)|exact GCont.ok_mods (okmg _ ‹_›)) (by first|assumption|exact okmr ‹_› ‹_› | exact okmg _ ‹_› | exact GWaiting.ok_ability (okmg _ ‹_›)|exact GCont.ok_objects (okmg _ ‹_›)|exact GCont.ok_mods (okmg _ ‹_›)) (by first|assumption|omega|(simp only [IntKind.wrap_i64,IntKind.wrap_u64,List.length_cons,List.length_nil];omega)|(simp only [Lm] at *;omega)|decide)) ⟨fL (GState.enc _),fL (GItem.enc _),trivial⟩ (.inl rfl) ?_)|(apply call_f 56;refine cI (r26player _ _ (by first|assumption|exact okmr ‹_› ‹_› | exact okmg _ ‹_› | exact GWaiting.ok_ability (okmg _ ‹_›)|exact GCont.ok_objects (okmg _ ‹_›)|exact GCont.ok_mods (okmg _ ‹_›))) ⟨fL (GState.enc _),rfl,trivial⟩ (.inl rfl) ?_)|(apply call_f 98;refine cI (ab_ct _ (by first|assumption|exact okmr ‹_› ‹_› | exact okmg _ ‹_› | exact GWaiting.ok_ability (okmg _ ‹_›)|exact GCont.ok_objects (okmg _ ‹_›)|exact GCont.ok_mods (okmg _ ‹_›))) ⟨fL (GAbility.enc _),trivial⟩ (.inl rfl) ?_)|(apply call_f 54;refine cI (r26in _ _ _) ⟨rfl,rfl,rfl,trivial⟩ (.inl rfl) ?_)|(apply call_f 106;refine cI (set_ct' _ (by first|assumption|exact okmr ‹_› ‹_› | exact okmg _ ‹_› | exact GWaiting.ok_ability (okmg _ ‹_›)|exact GCont.ok_objects (okmg _ ‹_›)|exact GCont.ok_mods (okmg _ ‹_›))) ⟨rfl,trivial⟩ (.inl rfl) ?_)|(apply call_f 107;refine cI (mods_ct _ (by first|assumption|exact okmr ‹_› ‹_› | exact okmg _ ‹_› | exact GWaiting.ok_ability (okmg _ ‹_›)|exact GCont.ok_objects (okmg _ ‹_›)|exact GCont.ok_mods (okmg _ ‹_›))) ⟨rfl,trivial⟩ (.inl rfl) ?_)|fail)
theorem r26stack (a:GState) (ha:a.ok) (hn:inM a.nextId 1 1000000=true):Ct Tryz.prog 58 [.agg (a.enc.map .t)] (AV.b (stackOk opq a)) [] true:=by
 obtain ⟨r,hr,h⟩:=r26stack_ a ha hn
 rw [hr] at h
 exact h
end
end Go.Proofs.YtpibcdnagnjokaaGreat
end
section
namespace Go.Proofs.YtpibcdnagnjokaaGreat
open Go Cg Go.RowKit Go.Shelf
theorem r17light (a:GEffect) (ha:a.ok):∃ r:Bool,True∧Ct Tryz.prog 131 [.agg (a.enc.map .t)] (AV.b r) [] true:=by
 have ha_:=ha
 obtain ⟨oa0,oa1,oa2,oa3,oa4⟩:=ha_
 refine ct_x (Φ:=fun _=>True) lit_b (ctx_of Tryz.func131 rfl (enters_of Tryz.func131 (by kernel_rfl) rfl) tabOk (by kernel_rfl) rfl rfl (TpX.runY [] [] ?_))
 repeat' (first|(apply cond_p <;> intro _)|(apply leaf_x;exact Ei [] (Ai rfl (Ai trivial rfl));exact (trivial);rfl)|(apply lp_at 4 rfl;refine LpX.up (β:=Unit) 4 3 ((((a.mods.map GMod.enc).length:Nat):Int)) (by first|omega|exact len62 (by first|assumption|exact okmr ‹_› ‹_› | exact okmg _ ‹_›) rfl) (by omega) (fun _=>[]) (fun _ _=>True) [1] [0] 200000 rfl ?_;refine Ai ?_ (fun _ _ _ _ _=>TpX.runY [] [] ?_))|exact Ei () (Ai (trivial) (wk_slim rfl rfl rfl rfl))|exact Ai (by first|assumption|omega) (Ei () (Ai (trivial) (wk_slim rfl rfl rfl rfl)))|(apply ix_map;(first|assumption|omega|(simp only [IntKind.wrap_i64,IntKind.wrap_u64,List.length_cons,List.length_nil];omega)|(simp only [Lm] at *;omega)|decide);(first|assumption|omega|(simp only [IntKind.wrap_i64,IntKind.wrap_u64,List.length_cons,List.length_nil];omega)|(simp only [Lm] at *;omega)|decide);intro _ _)|fail)
theorem r17lightList (a:List GEffect) (ha:a.length*560≤limB) (ma:∀ y∈a,GEffect.ok y):∃ r:Bool,True∧Ct Tryz.prog 92 [.c (.t (.sl 64 (a.map GEffect.enc)))] (AV.b r) [] true:=by
 refine ct_x (Φ:=fun _=>True) lit_b (ctx_of Tryz.func92 rfl (enters_of Tryz.func92 (by kernel_rfl) rfl) tabOk (by kernel_rfl) rfl rfl (TpX.runY [] [] ?_))
 repeat' (first|(apply cond_p <;> intro _)|apply cond_n|(apply cS <;> intro _)|(apply leaf_x;exact Ei [] (Ai rfl (Ai trivial rfl));exact (trivial);rfl)|(apply lp_at 2 rfl;refine LpX.up (β:=Unit) 2 3 ((((a.map GEffect.enc).length:Nat):Int)) (by first|omega|exact len62 (by first|assumption|exact okmr ‹_› ‹_› | exact okmg _ ‹_›) rfl) (by omega) (fun _=>[]) (fun _ _=>True) [0] [] 200000 rfl ?_;refine Ai ?_ (fun _ _ _ _ _=>TpX.runY [] [] ?_))|exact Ei () (Ai (trivial) (wk_slim rfl rfl rfl rfl))|exact Ai (by first|assumption|omega) (Ei () (Ai (trivial) (wk_slim rfl rfl rfl rfl)))|(apply ix_map;(first|assumption|omega|(simp only [IntKind.wrap_i64,IntKind.wrap_u64,List.length_cons,List.length_nil];omega)|(simp only [Lm] at *;omega)|decide);(first|assumption|omega|(simp only [IntKind.wrap_i64,IntKind.wrap_u64,List.length_cons,List.length_nil];omega)|(simp only [Lm] at *;omega)|decide);intro _ _)|(apply call_f 131;refine call_x (r17light _ (by first|assumption|exact okmr ‹_› ‹_› | exact okmg _ ‹_›)) ⟨fL (GEffect.enc _),trivial⟩ (.inl rfl) (fun _ _=>?_))|fail)
theorem r20light (a:GAbility) (ha:a.ok):∃ r:Bool,True∧Ct Tryz.prog 50 [.agg (a.enc.map .t)] (AV.b r) [] true:=by
 have ha_:=ha
 obtain ⟨oa0,oa1,oa2,oa3,oa4,oa5,oa6,oa7,oa8,oa9⟩:=ha_
 refine ct_x (Φ:=fun _=>True) lit_b (ctx_of Tryz.func50 rfl (enters_of Tryz.func50 (by kernel_rfl) rfl) tabOk (by kernel_rfl) rfl rfl (TpX.runY [] [] ?_))
 repeat' (first|(apply cond_p <;> intro _)|apply cond_n|(apply cS <;> intro _)|(apply leaf_x;exact Ei [] (Ai rfl (Ai trivial rfl));exact (trivial);rfl)|(apply lp_at 4 rfl;refine LpX.up (β:=Unit) 4 3 ((((a.mods.map GMod.enc).length:Nat):Int)) (by first|omega|exact len62 (by first|assumption|exact okmr ‹_› ‹_› | exact okmg _ ‹_›) rfl) (by omega) (fun _=>[]) (fun _ _=>True) [1] [0] 200000 rfl ?_;refine Ai ?_ (fun _ _ _ _ _=>TpX.runY [] [] ?_))|(apply lp_at 9 rfl;refine LpX.up (β:=Unit) 9 4 ((((a.specs.map GSpec.enc).length:Nat):Int)) (by first|omega|exact len62 (by first|assumption|exact okmr ‹_› ‹_› | exact okmg _ ‹_›) rfl) (by omega) (fun _=>[]) (fun _ _=>True) [1] [0] 300000 rfl ?_;refine Ai ?_ (fun _ _ _ _ _=>TpX.runY [] [] ?_))|exact Ei () (Ai (trivial) (wk_slim rfl rfl rfl rfl))|exact Ai (by first|assumption|omega) (Ei () (Ai (trivial) (wk_slim rfl rfl rfl rfl)))|(apply ix_map;(first|assumption|omega|(simp only [IntKind.wrap_i64,IntKind.wrap_u64,List.length_cons,List.length_nil];omega)|(simp only [Lm] at *;omega)|decide);(first|assumption|omega|(simp only [IntKind.wrap_i64,IntKind.wrap_u64,List.length_cons,List.length_nil];omega)|(simp only [Lm] at *;omega)|decide);intro _ _)|(apply call_f 92;refine call_x (r17lightList _ (by first|assumption|exact okmr ‹_› ‹_› | exact okmg _ ‹_›) (by first|assumption|exact okmr ‹_› ‹_› | exact okmg _ ‹_›)) ⟨rfl,trivial⟩ (.inl rfl) (fun _ _=>?_))|fail)
theorem r21creature (a:GCard) (ha:a.ok):∃ r:Bool,True∧Ct Tryz.prog 97 [.agg (a.enc.map .t)] (AV.b r) [] true:=by
 have ha_:=ha
 obtain ⟨oa0,oa1,oa2,oa3⟩:=ha_
 refine ct_x (Φ:=fun _=>True) lit_b (ctx_of Tryz.func97 rfl (enters_of Tryz.func97 (by kernel_rfl) rfl) tabOk (by kernel_rfl) rfl rfl (TpX.runY [] [] ?_))
 repeat' (first|(apply leaf_x;exact Ei [] (Ai rfl (Ai trivial rfl));exact (trivial);rfl)|fail)
theorem r21fast (a:GCard) (ha:a.ok):∃ r:Bool,True∧Ct Tryz.prog 99 [.agg (a.enc.map .t)] (AV.b r) [] true:=by
 have ha_:=ha
 obtain ⟨oa0,oa1,oa2,oa3⟩:=ha_
 refine ct_x (Φ:=fun _=>True) lit_b (ctx_of Tryz.func99 rfl (enters_of Tryz.func99 (by kernel_rfl) rfl) tabOk (by kernel_rfl) rfl rfl (TpX.runY [] [] ?_))
 repeat' (first|(apply cond_p <;> intro _)|(apply leaf_x;exact Ei [] (Ai rfl (Ai trivial rfl));exact (trivial);rfl)|fail)
theorem r21is (a:GCard) (ha:a.ok):∃ r:Bool,True∧Ct Tryz.prog 51 [.agg (a.enc.map .t)] (AV.b r) [] true:=by
 have ha_:=ha
 obtain ⟨oa0,oa1,oa2,oa3⟩:=ha_
 refine ct_x (Φ:=fun _=>True) lit_b (ctx_of Tryz.func51 rfl (enters_of Tryz.func51 (by kernel_rfl) rfl) tabOk (by kernel_rfl) rfl rfl (TpX.runY [] [1002,3,1004,5,8] ?_))
 repeat' (first|(apply cond_p <;> intro _)|(apply cond_ne <;> intro _)|apply cond_n|(apply cS <;> intro _)|(apply leaf_x;exact Ei [] (Ai rfl (Ai trivial rfl));exact (trivial);rfl)|(apply cut_at 1002 rfl;refine TpX.cut (α:=Bool) 1002 (fun p=>[(36,AV.b p)]) (fun _=>True) [1] [0] 200000 rfl ?_;refine Ai (TpX.runY [] [1002,3,1004,5,8] ?_) (fun _ _=>TpX.runY [] [1002,3,1004,5,8] ?_))|(apply cut_at 3 rfl;refine TpX.cut (α:=Unit) 3 (fun _=>[]) (fun _=>True) [1] [0] 300000 rfl ?_;refine Ai (TpX.runY [] [1002,3,1004,5,8] ?_) (fun _ _=>TpX.runY [] [1002,3,1004,5,8] ?_))|(apply cut_at 1004 rfl;refine TpX.cut (α:=Bool) 1004 (fun p=>[(75,AV.b p)]) (fun _=>True) [1] [0] 400000 rfl ?_;refine Ai (TpX.runY [] [1002,3,1004,5,8] ?_) (fun _ _=>TpX.runY [] [1002,3,1004,5,8] ?_))|(apply cut_at 5 rfl;refine TpX.cut (α:=Unit) 5 (fun _=>[]) (fun _=>True) [1] [0] 500000 rfl ?_;refine Ai (TpX.runY [] [1002,3,1004,5,8] ?_) (fun _ _=>TpX.runY [] [1002,3,1004,5,8] ?_))|(apply cut_at 8 rfl;refine TpX.cut (α:=Int) 8 (fun p=>[(3,AV.i p)]) (fun _=>True) [1,4] [0] 600000 rfl ?_;refine Ai (TpX.runY [] [1002,3,1004,5,8] ?_) (fun _ _=>TpX.runY [] [1002,3,1004,5,8] ?_))|(apply lp_at 7 rfl;refine LpX.up (β:=Int) 7 4 ((((a.abilities.map GAbility.enc).length:Nat):Int)) (by first|omega|exact len62 (by first|assumption|exact okmr ‹_› ‹_› | exact okmg _ ‹_›) rfl) (by omega) (fun p=>[(3,AV.i p)]) (fun _ _=>True) [1] [0] 700000 rfl ?_;refine Ai ?_ (fun _ _ _ _ _=>TpX.runY [] [1002,3,1004,5,8] ?_))|exact Ei () (Ai (trivial) (wk_slim rfl rfl rfl rfl))|exact Ei _ (Ai (trivial) (wk_slim rfl rfl rfl rfl))|exact Ai (by first|assumption|omega) (Ei _ (Ai (trivial) (wk_slim rfl rfl rfl rfl)))|(apply ix_map;(first|assumption|omega|(simp only [IntKind.wrap_i64,IntKind.wrap_u64,List.length_cons,List.length_nil];omega)|(simp only [Lm] at *;omega)|decide);(first|assumption|omega|(simp only [IntKind.wrap_i64,IntKind.wrap_u64,List.length_cons,List.length_nil];omega)|(simp only [Lm] at *;omega)|decide);intro _ _)|(apply call_f 93;refine call_x (r02is _) ⟨rfl,trivial⟩ (.inl rfl) (fun _ _=>?_))|(apply call_f 94;refine call_x (r08is _) ⟨fL (GCost.enc _),trivial⟩ (.inl rfl) (fun _ _=>?_))|(apply call_f 95;refine call_x (r10is _ (by first|assumption|exact okmr ‹_› ‹_› | exact okmg _ ‹_›)) ⟨fL (GLine.enc _),trivial⟩ (.inl rfl) (fun _ _=>?_))|(apply call_f 96;refine call_x (r11is _) ⟨rfl,trivial⟩ (.inl rfl) (fun _ _=>?_))|(apply call_f 97;refine call_x (r21creature _ (by first|assumption|exact okmr ‹_› ‹_› | exact okmg _ ‹_›)) ⟨fL (GCard.enc _),trivial⟩ (.inl rfl) (fun _ _=>?_))|(apply call_f 98;refine call_x (r20is _ (by first|assumption|exact okmr ‹_› ‹_› | exact okmg _ ‹_›)) ⟨fL (GAbility.enc _),trivial⟩ (.inl rfl) (fun _ _=>?_))|(apply call_f 99;refine call_x (r21fast _ (by first|assumption|exact okmr ‹_› ‹_› | exact okmg _ ‹_›)) ⟨fL (GCard.enc _),trivial⟩ (.inl rfl) (fun _ _=>?_))|fail)
theorem r22find (a:List GCard) (b:ByteArray) (ha:a.length*176≤limB) (_ma:∀ y∈a,GCard.ok y):∃ r:Int,True∧Ct Tryz.prog 52 [.c (.t (.sl 17 (a.map GCard.enc))),AV.s b] (AV.i r) [] true:=by
 refine ct_x (Φ:=fun _=>True) lit_i (ctx_of Tryz.func52 rfl (enters_of Tryz.func52 (by kernel_rfl) rfl) tabOk (by kernel_rfl) rfl rfl (TpX.runY [] [] ?_))
 repeat' (first|(apply cond_p <;> intro _)|(apply cS <;> intro _)|(apply leaf_x;exact Ei [] (Ai rfl (Ai trivial rfl));exact (trivial);rfl)|(apply lp_at 2 rfl;refine LpX.up (β:=Unit) 2 5 ((((a.map GCard.enc).length:Nat):Int)) (by first|omega|exact len62 (by first|assumption|exact okmr ‹_› ‹_› | exact okmg _ ‹_›) rfl) (by omega) (fun _=>[]) (fun _ _=>True) [0,1] [] 200000 rfl ?_;refine Ai ?_ (fun _ _ _ _ _=>TpX.runY [] [] ?_))|exact Ei () (Ai (trivial) (wk_slim rfl rfl rfl rfl))|exact Ai (by first|assumption|omega) (Ei () (Ai (trivial) (wk_slim rfl rfl rfl rfl)))|(apply ix_map;(first|assumption|omega|(simp only [IntKind.wrap_i64,IntKind.wrap_u64,List.length_cons,List.length_nil];omega)|(simp only [Lm] at *;omega)|decide);(first|assumption|omega|(simp only [IntKind.wrap_i64,IntKind.wrap_u64,List.length_cons,List.length_nil];omega)|(simp only [Lm] at *;omega)|decide);intro _ _)|fail)
theorem r22token (a:List GCard) (b:ByteArray) (ha:a.length*176≤limB) (_ma:∀ y∈a,GCard.ok y):∃ r:Bool,True∧Ct Tryz.prog 100 [.c (.t (.sl 17 (a.map GCard.enc))),AV.s b] (AV.b r) [] true:=by
 refine ct_x (Φ:=fun _=>True) lit_b (ctx_of Tryz.func100 rfl (enters_of Tryz.func100 (by kernel_rfl) rfl) tabOk (by kernel_rfl) rfl rfl (TpX.runY [] [] ?_))
 repeat' (first|(apply cond_p <;> intro _)|(apply cS <;> intro _)|(apply leaf_x;exact Ei [] (Ai rfl (Ai trivial rfl));exact (trivial);rfl)|(apply lp_at 2 rfl;refine LpX.up (β:=Unit) 2 5 ((((a.map GCard.enc).length:Nat):Int)) (by first|omega|exact len62 (by first|assumption|exact okmr ‹_› ‹_› | exact okmg _ ‹_›) rfl) (by omega) (fun _=>[]) (fun _ _=>True) [0,1] [] 200000 rfl ?_;refine Ai ?_ (fun _ _ _ _ _=>TpX.runY [] [] ?_))|exact Ei () (Ai (trivial) (wk_slim rfl rfl rfl rfl))|exact Ai (by first|assumption|omega) (Ei () (Ai (trivial) (wk_slim rfl rfl rfl rfl)))|(apply ix_map;(first|assumption|omega|(simp only [IntKind.wrap_i64,IntKind.wrap_u64,List.length_cons,List.length_nil];omega)|(simp only [Lm] at *;omega)|decide);(first|assumption|omega|(simp only [IntKind.wrap_i64,IntKind.wrap_u64,List.length_cons,List.length_nil];omega)|(simp only [Lm] at *;omega)|decide);intro _ _)|fail)
theorem r22creates (a:List GCard) (b:GCard) (ha:a.length*176≤limB) (ma:∀ y∈a,GCard.ok y) (hb:b.ok):∃ r:Bool,True∧Ct Tryz.prog 53 [.c (.t (.sl 17 (a.map GCard.enc))),.agg (b.enc.map .t)] (AV.b r) [] true:=by
 have hb_:=hb
 obtain ⟨ob0,ob1,ob2,ob3⟩:=hb_
 refine ct_x (Φ:=fun _=>True) lit_b (ctx_of Tryz.func53 rfl (enters_of Tryz.func53 (by kernel_rfl) rfl) tabOk (by kernel_rfl) rfl rfl (TpX.runY [] [] ?_))
 repeat' (first|(apply ix_k;(first|assumption|omega|(simp only [IntKind.wrap_i64,IntKind.wrap_u64,List.length_cons,List.length_nil];omega)|(simp only [Lm] at *;omega)|decide);(first|assumption|omega|(simp only [IntKind.wrap_i64,IntKind.wrap_u64,List.length_cons,List.length_nil];omega)|(simp only [Lm] at *;omega)|decide);intro _)|(apply cond_p <;> intro _)|apply cond_n|(apply cS <;> intro _)|(apply leaf_x;exact Ei [] (Ai rfl (Ai trivial rfl));exact (trivial);rfl)|(apply lp_at 2 rfl;refine LpX.up (β:=Unit) 2 5 ((((b.abilities.map GAbility.enc).length:Nat):Int)) (by first|omega|exact len62 (by first|assumption|exact okmr ‹_› ‹_› | exact okmg _ ‹_› | exact GAbility.ok_effects (okmg _ ‹_›)) rfl) (by omega) (fun _=>[]) (fun _ _=>True) [0,3] [0] 200000 rfl ?_;refine Ai ?_ (fun _ _ _ _ _=>TpX.runY [] [] ?_))|(apply lp_at 5 rfl;rename_i i _ _ _ _ hi;(have hk:i.toNat < b.abilities.length:=by (simp only [Lm] at *;omega));refine LpX.up (β:=Unit) 5 6 ((((b.abilities[i.toNat].effects.map GEffect.enc).length:Nat):Int)) (by first|omega|exact len62 (by first|assumption|exact okmr ‹_› ‹_› | exact okmg _ ‹_› | exact GAbility.ok_effects (okmg _ ‹_›)) rfl) (by omega) (fun _=>[]) (fun _ _=>True) [0,3,5] [0] 300000 rfl ?_;refine Ai ?_ (fun _ _ _ _ _=>TpX.runY [] [] ?_))|exact Ei () (Ai (trivial) (wk_slim rfl rfl rfl rfl))|exact Ai (by first|assumption|omega) (Ei () (Ai (trivial) (wk_slim rfl rfl rfl rfl)))|(apply call_f 100;refine call_x (r22token _ _ (by first|assumption|exact okmr ‹_› ‹_› | exact okmg _ ‹_› | exact GAbility.ok_effects (okmg _ ‹_›)) (by first|assumption|exact okmr ‹_› ‹_› | exact okmg _ ‹_› | exact GAbility.ok_effects (okmg _ ‹_›))) ⟨rfl,rfl,trivial⟩ (.inl rfl) (fun _ _=>?_))|fail)
theorem r22check (a:List GCard) (ha:a.length*176≤limB) (ma:∀ y∈a,GCard.ok y):∃ r:Int × Int,True∧Ct Tryz.prog 20 [.c (.t (.sl 17 (a.map GCard.enc)))] (tupE r) [] true:=by
 refine ct_x (Φ:=fun _=>True) lit_e (ctx_of Tryz.func20 rfl (enters_of Tryz.func20 (by kernel_rfl) rfl) tabOk (by kernel_rfl) rfl rfl (TpX.runY [] [] ?_))
 repeat' (first|(apply cond_p <;> intro _)|apply cond_n|(apply cS <;> intro _)|(refine leaf_x (_,_) (Ei [] (Ai rfl (Ai trivial (Ai rfl (Ai rfl trivial))))) trivial rfl)|(apply lp_at 4 rfl;refine LpX.up (β:=Unit) 4 4 ((((a.map GCard.enc).length:Nat):Int)) (by first|omega|exact len62 (by first|assumption|exact okmr ‹_› ‹_› | exact okmg _ ‹_›) rfl) (by omega) (fun _=>[]) (fun _ _=>True) [0] [] 200000 rfl ?_;refine Ai ?_ (fun _ _ _ _ _=>TpX.runY [] [] ?_))|exact Ei () (Ai (trivial) (wk_slim rfl rfl rfl rfl))|exact Ai (by first|assumption|omega) (Ei () (Ai (trivial) (wk_slim rfl rfl rfl rfl)))|(apply ix_map;(first|assumption|omega|(simp only [IntKind.wrap_i64,IntKind.wrap_u64,List.length_cons,List.length_nil];omega)|(simp only [Lm] at *;omega)|decide);(first|assumption|omega|(simp only [IntKind.wrap_i64,IntKind.wrap_u64,List.length_cons,List.length_nil];omega)|(simp only [Lm] at *;omega)|decide);intro _ _)|(apply call_f 51;refine call_x (r21is _ (by first|assumption|exact okmr ‹_› ‹_› | exact okmg _ ‹_›)) ⟨fL (GCard.enc _),trivial⟩ (.inl rfl) (fun _ _=>?_))|(apply call_f 52;refine call_x (r22find _ _ (by first|assumption|exact okmr ‹_› ‹_› | exact okmg _ ‹_›) (by first|assumption|exact okmr ‹_› ‹_› | exact okmg _ ‹_›)) ⟨rfl,rfl,trivial⟩ (.inl rfl) (fun _ _=>?_))|(apply call_f 53;refine call_x (r22creates _ _ (by first|assumption|exact okmr ‹_› ‹_› | exact okmg _ ‹_›) (by first|assumption|exact okmr ‹_› ‹_› | exact okmg _ ‹_›) (by first|assumption|exact okmr ‹_› ‹_› | exact okmg _ ‹_›)) ⟨rfl,fL (GCard.enc _),trivial⟩ (.inl rfl) (fun _ _=>?_))|fail)
theorem r26is_ (a:List GCard) (b:GState) (ha:a.length*176≤limB) (ma:∀ y∈a,GCard.ok y) (hb:b.ok):∃ r:Bool,(r=(isM opq ((a.length:Nat):Int) b))∧Ct Tryz.prog 21 [.c (.t (.sl 17 (a.map GCard.enc))),.agg (b.enc.map .t)] (AV.b r) [] true:=by
 have hb_:=hb
 obtain ⟨ob0,ob1,ob2,ob3,ob4,ob5,ob6,ob7,ob8,ob9,ob10,ob11,ob12⟩:=hb_
 refine ct_x (Φ:=fun (r:Bool)=>r=(isM opq ((a.length:Nat):Int) b)) lit_b (ctx_of Tryz.func21 rfl (enters_of Tryz.func21 (by kernel_rfl) rfl) tabOk (by kernel_rfl) rfl rfl (TpX.runY [] [] ?_))
 repeat' (first|(apply ix_k;(first|assumption|omega|(simp only [IntKind.wrap_i64,IntKind.wrap_u64,List.length_cons,List.length_nil];omega)|(simp only [Lm] at *;omega)|decide);(first|assumption|omega|(simp only [IntKind.wrap_i64,IntKind.wrap_u64,List.length_cons,List.length_nil];omega)|(simp only [Lm] at *;omega)|decide);intro _)|(apply cond_p <;> intro _)|(apply cond_ne <;> intro _)|apply cond_n|(apply cS <;> intro _)|(apply leaf_x;exact Ei [] (Ai rfl (Ai trivial rfl));exact (by first|contradiction|exact is_nE ‹_› ‹_› | exact is_nW (by first|exact isW_f1 ‹_› ‹_› | exact isW_f2 ‹_› ‹_›)|exact is_yes (isA_t ‹_› ‹_› ‹_› ‹_› ‹_›) (isB_t ‹_› ‹_› ‹_› ‹_› ‹_› ‹_›) ‹_› ‹_› (by first|exact isW_t1 ‹_› ‹_› | exact isW_t2 ‹_› ‹_›) (by simp [*])|exact is_nA (by first|exact isA_f1 ‹_› | exact isA_f2 ‹_› | exact isA_f3 ‹_› | exact isA_f4 ‹_› | exact isA_f5 ‹_›)|exact is_nB (by first|exact isB_f1 ‹_› | exact isB_f2 ‹_› | exact isB_f3 ‹_› | exact isB_f4 ‹_› | exact isB_f5 ‹_› | exact isB_f6 ‹_›));rfl)|(apply lp_at 6 rfl;refine LpX.up (β:=Unit) 6 5 ((((b.extra.map eI).length:Nat):Int)) (by first|omega|exact len62 (by first|assumption|exact okmr ‹_› ‹_› | exact okmg _ ‹_›) rfl) (by omega) (fun _=>[]) (fun i _=>Up (fun _=>plM b) b.extra i) [0,3] [0] 200000 rfl ?_;refine Ai ?_ (fun _ _ _ _ _=>TpX.runY [] [] ?_))|exact Ei () (Ai (by first|exact Up.zero|exact Up.step ‹_› ‹_› ‹_› (by simp [*])) (wk_slim rfl rfl rfl rfl))|exact Ai (by first|assumption|omega) (Ei () (Ai (by first|exact Up.zero|exact Up.step ‹_› ‹_› ‹_› (by simp [*])) (wk_slim rfl rfl rfl rfl)))|(apply call_f 54;refine cI (r26in _ _ _) ⟨rfl,rfl,rfl,trivial⟩ (.inl rfl) ?_)|(apply call_f 55;refine cI (r26players _ (by first|assumption|exact okmr ‹_› ‹_› | exact okmg _ ‹_›)) ⟨fL (GState.enc _),trivial⟩ (.inl rfl) ?_)|(apply call_f 56;refine cI (r26player _ _ (by first|assumption|exact okmr ‹_› ‹_› | exact okmg _ ‹_›)) ⟨fL (GState.enc _),rfl,trivial⟩ (.inl rfl) ?_)|(apply call_f 57;refine cI (r26objects _ _ (by first|assumption|exact okmr ‹_› ‹_› | exact okmg _ ‹_›) (by first|assumption|exact okmr ‹_› ‹_› | exact okmg _ ‹_›) (by first|assumption|exact okmr ‹_› ‹_› | exact okmg _ ‹_›)) ⟨rfl,fL (GState.enc _),trivial⟩ (.inl rfl) ?_)|(apply call_f 58;refine cI (r26stack _ ‹_› ‹_›) ⟨fL (GState.enc _),trivial⟩ (.inl rfl) ?_)|fail)
theorem r26is (a:List GCard) (b:GState) (ha:a.length*176≤limB) (ma:∀ y∈a,GCard.ok y) (hb:b.ok):Ct Tryz.prog 21 [.c (.t (.sl 17 (a.map GCard.enc))),.agg (b.enc.map .t)] (AV.b (isM opq ((a.length:Nat):Int) b)) [] true:=by
 obtain ⟨r,hr,h⟩:=r26is_ a b ha ma hb
 rw [hr] at h
 exact h
end Go.Proofs.YtpibcdnagnjokaaGreat
end
section
namespace Cg
section
variable {α:Type} [Inhabited α]
def swL (l:List α) (i j:Nat):List α:=(l.set i l[j]!).set j l[i]!
theorem swL_len (l:List α) (i j:Nat):(swL l i j).length=l.length:=by simp [swL]
theorem get_mid (A B:List α) (x:α):(A++x :: B)[A.length]! = x:=by
 rw [getElem!_pos (A++x :: B) A.length (by simp)]
 simp
theorem get_at {A B:List α} {x:α} {i:Nat} (h:i=A.length):(A++x :: B)[i]! = x:=by rw [h];exact get_mid A B x
omit [Inhabited α] in
theorem set_at {A B:List α} {x y:α} {i:Nat} (h:i=A.length):(A++x :: B).set i y=A++y :: B:=by subst h;simp
theorem swL_mid {A M B:List α} {x y:α} {i j:Nat} (hi:i=A.length) (hj:j=A.length+1+M.length):swL (A++x :: (M++y :: B)) i j=A++y :: (M++x :: B):=by
 unfold swL
 have e:∀ z:α,A++z :: (M++y :: B)=(A++z :: M)++y :: B:=fun z=>by simp
 have hj2:∀ z:α,j=(A++z :: M).length:=fun z=>by simp;omega
 rw [get_at hi,e x,get_at (hj2 x),← e x,set_at hi,e y,set_at (hj2 y)]
 simp
theorem swL_comm (l:List α) {i j:Nat} (h:i≠j):swL l i j=swL l j i:=by
 unfold swL
 rw [List.set_comm _ _ h]
theorem swL_mid2 {A M B:List α} {x y:α} {i j:Nat} (hi:i=A.length) (hj:j=A.length+1+M.length):swL (A++x :: (M++y :: B)) j i=A++y :: (M++x :: B):=by
 rw [swL_comm _ (by omega),swL_mid hi hj]
def insD (lt:α→α→Bool) (a:Nat):Nat→List α→List α
 | 0,l=>l
 | j+1,l=>if a < j+1 then (if lt l[j+1]! l[j]! = true then insD lt a j (swL l (j+1) j) else l) else l
def insS (lt:α→α→Bool) (a:Nat):Nat→Nat→List α→List α
 | 0,_,l=>l
 | n+1,i,l=>insS lt a n (i+1) (insD lt a i l)
def swR:Nat→Nat→Nat→List α→List α
 | 0,_,_,l=>l
 | n+1,a,b,l=>swR n (a+1) (b+1) (swL l a b)
def rot (m:Nat):Nat→Nat→Nat→List α→List α
 | 0,i,_,l=>swR i (m - i) m l
 | f+1,i,j,l=>if i=j then swR i (m - i) m l else if j < i then rot m f (i - j) j (swR j (m - i) m l) else rot m f i (j - i) (swR i (m - i) (m+j - i) l)
def bsr (p:Nat→Bool):Nat→Nat→Nat→Nat
 | 0,i,_=>i
 | f+1,i,j=>if i < j then (if p ((i+j) / 2)=true then bsr p f ((i+j) / 2+1) j else bsr p f i ((i+j) / 2)) else i
def up:Nat→Nat→List α→List α
 | 0,_,l=>l
 | n+1,k,l=>up n (k+1) (swL l k (k+1))
def dn:Nat→Nat→List α→List α
 | 0,_,l=>l
 | n+1,k,l=>dn n (k - 1) (swL l k (k - 1))
def prt (lt:α→α→Bool) (a m b:Nat) (l:List α):Nat:=
 if m > (a+b) / 2 then bsr (fun c=>!lt l[(a+b) / 2+m - 1 - c]! l[c]!) (b - a) ((a+b) / 2+m - b) ((a+b) / 2)
 else bsr (fun c=>!lt l[(a+b) / 2+m - 1 - c]! l[c]!) (b - a) a m
def symM (lt:α→α→Bool):Nat→Nat→Nat→Nat→List α→List α
 | 0,_,_,_,l=>l
 | f+1,a,m,b,l=>
  if m - a=1 then up (bsr (fun h=>lt l[h]! l[a]!) (b - a) m b - 1 - a) a l
  else if b - m=1 then dn (m - bsr (fun h=>!lt l[m]! l[h]!) (b - a) a m) m l
  else
   (fun l2=>if (a+b) / 2 < (a+b) / 2+m - prt lt a m b l∧(a+b) / 2+m - prt lt a m b l < b then symM lt f ((a+b) / 2) ((a+b) / 2+m - prt lt a m b l) b l2 else l2)
   ((fun l1=>if a < prt lt a m b l∧prt lt a m b l < (a+b) / 2 then symM lt f a (prt lt a m b l) ((a+b) / 2) l1 else l1)
   (if prt lt a m b l < m∧m < (a+b) / 2+m - prt lt a m b l then rot m (b - a) (m - prt lt a m b l) ((a+b) / 2+m - prt lt a m b l - m) l else l))
def blk1 (lt:α→α→Bool) (s n:Nat):Nat→Nat→List α→List α
 | 0,_,l=>l
 | f+1,a,l=>if a+s≤n then blk1 lt s n f (a+s) (insS lt a (s - 1) (a+1) l) else insS lt a (n - (a+1)) (a+1) l
def blk2 (lt:α→α→Bool) (s n:Nat):Nat→Nat→List α→List α
 | 0,_,l=>l
 | f+1,a,l=>if a+2*s≤n then blk2 lt s n f (a+2*s) (symM lt (2*s) a (a+s) (a+2*s) l) else if a+s < n then symM lt (n - a) a (a+s) n l else l
def blk3 (lt:α→α→Bool) (n:Nat):Nat→Nat→List α→List α
 | 0,_,l=>l
 | f+1,s,l=>if s < n then blk3 lt n f (2*s) (blk2 lt s n (n+1) 0 l) else l
def stab (lt:α→α→Bool) (l:List α):List α:=blk3 lt l.length (l.length+1) 20 (blk1 lt 20 l.length (l.length+1) 0 l)
theorem insD_len (lt:α→α→Bool) (a:Nat):∀ (j:Nat) (l:List α),(insD lt a j l).length=l.length
 | 0,_=>rfl
 | j+1,l=>by
  unfold insD
  split
  ·split
   ·rw [insD_len lt a j,swL_len]
   ·rfl
  ·rfl
theorem insS_len (lt:α→α→Bool) (a:Nat):∀ (n i:Nat) (l:List α),(insS lt a n i l).length=l.length
 | 0,_,_=>rfl
 | n+1,i,l=>by unfold insS;rw [insS_len lt a n,insD_len]
theorem swR_len:∀ (n a b:Nat) (l:List α),(swR n a b l).length=l.length
 | 0,_,_,_=>rfl
 | n+1,a,b,l=>by unfold swR;rw [swR_len n,swL_len]
theorem rot_len (m:Nat):∀ (f i j:Nat) (l:List α),(rot m f i j l).length=l.length
 | 0,i,j,l=>swR_len ..
 | f+1,i,j,l=>by
  unfold rot
  split
  ·exact swR_len ..
  ·split
   ·rw [rot_len m f,swR_len]
   ·rw [rot_len m f,swR_len]
theorem up_len:∀ (n k:Nat) (l:List α),(up n k l).length=l.length
 | 0,_,_=>rfl
 | n+1,k,l=>by unfold up;rw [up_len n,swL_len]
theorem dn_len:∀ (n k:Nat) (l:List α),(dn n k l).length=l.length
 | 0,_,_=>rfl
 | n+1,k,l=>by unfold dn;rw [dn_len n,swL_len]
theorem symM_len (lt:α→α→Bool):∀ (f a m b:Nat) (l:List α),(symM lt f a m b l).length=l.length
 | 0,_,_,_,_=>rfl
 | f+1,a,m,b,l=>by
  unfold symM
  split
  ·exact up_len ..
  split
  ·exact dn_len ..
  have h1:∀ l:List α,(if prt lt a m b l < m∧m < (a+b) / 2+m - prt lt a m b l then rot m (b - a) (m - prt lt a m b l) ((a+b) / 2+m - prt lt a m b l - m) l else l).length=l.length:=fun l=>by
   split
   ·exact rot_len ..
   ·rfl
  have h2:∀ (q:Nat) (x:List α),(if a < q∧q < (a+b) / 2 then symM lt f a q ((a+b) / 2) x else x).length=x.length:=fun q x=>by
   split
   ·exact symM_len lt f ..
   ·rfl
  have h3:∀ (q:Nat) (x:List α),(if (a+b) / 2 < (a+b) / 2+m - q∧(a+b) / 2+m - q < b then symM lt f ((a+b) / 2) ((a+b) / 2+m - q) b x else x).length=x.length:=fun q x=>by
   split
   ·exact symM_len lt f ..
   ·rfl
  exact (h3 _ _).trans ((h2 _ _).trans (h1 l))
theorem blk2_len (lt:α→α→Bool) (s n:Nat):∀ (f a:Nat) (l:List α),(blk2 lt s n f a l).length=l.length
 | 0,_,_=>rfl
 | f+1,a,l=>by
  unfold blk2
  split
  ·rw [blk2_len lt s n f,symM_len]
  ·split
   ·exact symM_len ..
   ·rfl
theorem swR_mid:∀ {n a b:Nat} {A X M Y B:List α},a=A.length→X.length=n→Y.length=n→b=a+n+M.length→swR n a b (A++(X++(M++(Y++B))))=A++(Y++(M++(X++B)))
 | 0,a,b,A,X,M,Y,B,ha,hx,hy,hb=>by
  rw [List.length_eq_zero_iff.1 hx,List.length_eq_zero_iff.1 hy];rfl
 | n+1,a,b,A,x :: X,M,y :: Y,B,ha,hx,hy,hb=>by
  simp only [List.length_cons] at hx hy
  unfold swR
  have e:A++(x :: X++(M++(y :: Y++B)))=A++x :: ((X++M)++y :: (Y++B)):=by simp
  rw [e,swL_mid ha (by rw [List.length_append];omega)]
  have e2:A++y :: ((X++M)++x :: (Y++B))=(A++[y])++(X++((M++[x])++(Y++B))):=by simp
  rw [e2,swR_mid (by simp;omega) (by omega) (by omega) (by simp;omega)]
  simp
theorem rot_mid:∀ {m f i j:Nat} {A U V B:List α},m=A.length+i→U.length=i→V.length=j→0 < i→0 < j→i+j≤f→rot m f i j (A++(U++(V++B)))=A++(V++(U++B))
 | m,0,i,j,A,U,V,B,hm,hu,hv,hi,hj,hf=>absurd hf (by omega)
 | m,f+1,i,j,A,U,V,B,hm,hu,hv,hi,hj,hf=>by
  unfold rot
  split
  ·rename_i e
   have:=swR_mid (n:=i) (a:=m - i) (b:=m) (A:=A) (X:=U) (M:=[]) (Y:=V) (B:=B) (by omega) hu (by omega) (by simp;omega)
   simpa using this
  ·split
   ·rename_i h1 h2
    have hs:U=U.take j++U.drop j:=(List.take_append_drop ..).symm
    have h3:(U.take j).length=j:=by rw [List.length_take];omega
    have h4:(U.drop j).length=i - j:=by rw [List.length_drop];omega
    generalize U.take j=U1 at hs h3
    generalize U.drop j=U2 at hs h4
    subst hs
    have e:A++(U1++U2++(V++B))=A++(U1++(U2++(V++B))):=by simp
    rw [e,swR_mid (by omega) h3 hv (by omega)]
    have e2:A++(V++(U2++(U1++B)))=(A++V)++(U2++(U1++B)):=by simp
    rw [e2,rot_mid (by simp;omega) h4 h3 (by omega) hj (by omega)]
    simp
   ·rename_i h1 h2
    have hs:V=V.take (j - i)++V.drop (j - i):=(List.take_append_drop ..).symm
    have h3:(V.take (j - i)).length=j - i:=by rw [List.length_take];omega
    have h4:(V.drop (j - i)).length=i:=by rw [List.length_drop];omega
    generalize V.take (j - i)=V1 at hs h3
    generalize V.drop (j - i)=V2 at hs h4
    subst hs
    have e:A++(U++(V1++V2++B))=A++(U++(V1++(V2++B))):=by simp
    rw [e,swR_mid (by omega) hu h4 (by omega)]
    rw [rot_mid hm h4 h3 hi (by omega) (by omega)]
    simp
theorem up_mid:∀ {n k:Nat} {A Y B:List α} {x:α},k=A.length→Y.length=n→up n k (A++x :: (Y++B))=A++(Y++x :: B)
 | 0,k,A,Y,B,x,ha,hy=>by rw [List.length_eq_zero_iff.1 hy];rfl
 | n+1,k,A,y :: Y,B,x,ha,hy=>by
  unfold up
  have:=swL_mid (A:=A) (M:=[]) (B:=Y++B) (x:=x) (y:=y) (i:=k) (j:=k+1) ha (by simp;omega)
  simp only [List.nil_append,List.cons_append] at this ⊢
  rw [this]
  have e:A++y :: x :: (Y++B)=(A++[y])++x :: (Y++B):=by simp
  rw [e,up_mid (by simp;omega) (by simpa using hy)]
  simp
theorem dn_mid:∀ {n k:Nat} {A Y B:List α} {x:α},k=A.length+n→Y.length=n→dn n k (A++(Y++x :: B))=A++x :: (Y++B)
 | 0,k,A,Y,B,x,ha,hy=>by rw [List.length_eq_zero_iff.1 hy];rfl
 | n+1,k,A,Y,B,x,ha,hy=>by
  unfold dn
  obtain ⟨Z,y,rfl⟩:∃ Z y,Y=Z++[y]:=⟨Y.dropLast,Y.getLast (by intro h;simp [h] at hy),(List.dropLast_concat_getLast _).symm⟩
  have hz:Z.length=n:=by simpa using hy
  have:=swL_mid2 (A:=A++Z) (M:=[]) (B:=B) (x:=y) (y:=x) (i:=k - 1) (j:=k) (by simp;omega) (by simp;omega)
  simp only [List.nil_append,List.append_assoc] at this
  have e:A++(Z++[y]++x :: B)=A++(Z++y :: x :: B):=by simp
  rw [e,this,dn_mid (by omega) hz]
  simp
theorem bsr_ok (p:Nat→Bool):∀ (f i j:Nat),i≤j→j - i≤f→i≤bsr p f i j∧bsr p f i j≤j∧(bsr p f i j=i∨p (bsr p f i j - 1)=true)∧(bsr p f i j=j∨p (bsr p f i j)=false)
 | 0,i,j,h1,h2=>by
  have:i=j:=by omega
  subst this
  exact ⟨Nat.le_refl i,Nat.le_refl i,.inl rfl,.inl rfl⟩
 | f+1,i,j,h1,h2=>by
  unfold bsr
  split
  ·rename_i h
   split
   ·rename_i hp
    obtain ⟨q1,q2,q3,q4⟩:=bsr_ok p f ((i+j) / 2+1) j (by omega) (by omega)
    refine ⟨by omega,q2,?_,q4⟩
    rcases q3 with q3|q3
    ·right;rw [q3];simpa using hp
    ·exact .inr q3
   ·rename_i hp
    obtain ⟨q1,q2,q3,q4⟩:=bsr_ok p f i ((i+j) / 2) (by omega) (by omega)
    refine ⟨q1,by omega,q3,?_⟩
    rcases q4 with q4|q4
    ·right;rw [q4];simpa using hp
    ·exact .inr q4
  ·have:i=j:=by omega
   subst this
   exact ⟨Nat.le_refl i,Nat.le_refl i,.inl rfl,.inl rfl⟩
end
section
variable {α:Type} [Inhabited α]
abbrev Srd (le:α→α→Prop) (l:List α):Prop:=l.Pairwise le
omit [Inhabited α] in
theorem srd_cross {le:α→α→Prop} {X Y:List α} (hX:Srd le X) (hY:Srd le Y) (h:∀ x∈X,∀ y∈Y,le x y):Srd le (X++Y):=List.pairwise_append.2 ⟨hX,hY,h⟩
theorem srd_last {le:α→α→Prop} (rf:∀ x,le x x) {X:List α} {i:Nat} (hX:Srd le X) (hi:i+1=X.length):∀ x∈X,le x X[i]!:=fun x hx=>by
 obtain ⟨j,hj,rfl⟩:=List.mem_iff_getElem.1 hx
 rw [getElem!_pos X i (by omega)]
 rcases Nat.lt_or_ge j i with h|h
 ·exact List.pairwise_iff_getElem.1 hX j i hj (by omega) h
 ·have:j=i:=by omega
  subst this
  exact rf _
theorem srd_first {le:α→α→Prop} (rf:∀ x,le x x) {X:List α} (hX:Srd le X):∀ x∈X,le X[0]! x:=fun x hx=>by
 obtain ⟨j,hj,rfl⟩:=List.mem_iff_getElem.1 hx
 rw [getElem!_pos X 0 (by omega)]
 rcases Nat.eq_zero_or_pos j with h|h
 ·subst h;exact rf _
 ·exact List.pairwise_iff_getElem.1 hX 0 j (by omega) hj h
theorem get_in {A X B:List α} {i:Nat} (h1:A.length≤i) (h2:i < A.length+X.length):(A++(X++B))[i]! = X[i - A.length]!:=by
 rw [getElem!_pos (A++(X++B)) i (by simp;omega),getElem!_pos X (i - A.length) (by omega),List.getElem_append_right h1,List.getElem_append_left (by omega)]
theorem symM_ok {lt:α→α→Bool} {le:α→α→Prop} (tr:∀ x y z,le x y→le y z→le x z) (to:∀ x y,le x y∨le y x):∀ (f a m b:Nat) {A L R B:List α},a=A.length→m=a+L.length→b=m+R.length→0 < L.length→0 < R.length→b - a≤f→
  Srd le L→Srd le R→(∀ x∈L,∀ y∈R,(lt y x=true↔¬ le x y))→∃ M,symM lt f a m b (A++(L++(R++B)))=A++(M++B)∧M.Perm (L++R)∧Srd le M
 | 0,a,m,b,A,L,R,B,ha,hm,hb,hL,hR,hf,_,_,_=>absurd hf (by omega)
 | f+1,a,m,b,A,L,R,B,ha,hm,hb,hL,hR,hf,sL,sR,hc=>by
  have rf:∀ x,le x x:=fun x=>(to x x).elim id id
  unfold symM
  split
  ·rename_i h1
   obtain ⟨x,rfl⟩:=List.length_eq_one_iff.1 (show L.length=1 by omega)
   have ga:(A++([x]++(R++B)))[a]! = x:=get_at ha
   obtain ⟨q1,q2,q3,q4⟩:=bsr_ok (fun h=>lt (A++([x]++(R++B)))[h]! (A++([x]++(R++B)))[a]!) (b - a) m b (by omega) (by omega)
   generalize bsr (fun h=>lt (A++([x]++(R++B)))[h]! (A++([x]++(R++B)))[a]!) (b - a) m b=i at q1 q2 q3 q4 ⊢
   simp only [ga] at q3 q4
   have hs:R=R.take (i - m)++R.drop (i - m):=(List.take_append_drop ..).symm
   have h3:(R.take (i - m)).length=i - m:=by rw [List.length_take];omega
   have h4:(R.drop (i - m)).length=b - i:=by rw [List.length_drop];omega
   generalize R.take (i - m)=R1 at hs h3
   generalize R.drop (i - m)=R2 at hs h4
   subst hs
   have e:A++([x]++(R1++R2++B))=A++x :: (R1++(R2++B)):=by simp
   simp only [List.length_singleton] at hm
   rw [e,up_mid ha (by omega)]
   obtain ⟨sR1,sR2,_⟩:=List.pairwise_append.1 sR
   refine ⟨R1++x :: R2,by simp,?_,?_⟩
   ·exact List.perm_middle (a:=x) (l₁:=R1) (l₂:=R2)
   ·have hx1:∀ y∈R1,le y x:=fun y hy=>by
     have hp:0 < R1.length:=List.length_pos_of_mem hy
     rcases q3 with q3|q3
     ·omega
     ·have e2:A++([x]++(R1++R2++B))=(A++[x])++(R1++(R2++B)):=by simp
      rw [e2,get_in (by simp;omega) (by simp;omega)] at q3
      have hl:=srd_last rf (i:=i - 1 - (A++[x]).length) sR1 (by simp;omega) y hy
      have hin:R1[i - 1 - (A++[x]).length]!∈R1++R2:=by
       rw [getElem!_pos R1 _ (by simp;omega)];exact List.mem_append_left _ (List.getElem_mem _)
      have:=(hc x (List.mem_singleton.2 rfl) _ hin).1 q3
      rcases to x (R1[i - 1 - (A++[x]).length]!) with h|h
      ·exact absurd h this
      ·exact tr _ _ _ hl h
    have hx2:∀ y∈R2,le x y:=fun y hy=>by
     have hp:0 < R2.length:=List.length_pos_of_mem hy
     rcases q4 with q4|q4
     ·omega
     ·have e2:A++([x]++(R1++R2++B))=(A++([x]++R1))++(R2++B):=by simp
      rw [e2,get_in (by simp;omega) (by simp;omega)] at q4
      have hz:i - (A++([x]++R1)).length=0:=by simp;omega
      rw [hz] at q4
      have hin:R2[0]!∈R1++R2:=by
       rw [getElem!_pos R2 _ hp];exact List.mem_append_right _ (List.getElem_mem _)
      have h5:le x R2[0]!:=by
       have:=mt (hc x (List.mem_singleton.2 rfl) _ hin).2 (by rw [q4];simp)
       exact Classical.not_not.1 this
      exact tr _ _ _ h5 (srd_first rf sR2 y hy)
    refine srd_cross sR1 (List.pairwise_cons.2 ⟨hx2,sR2⟩) fun y hy z hz=>?_
    rcases List.mem_cons.1 hz with rfl|hz
    ·exact hx1 y hy
    ·exact tr _ _ _ (hx1 y hy) (hx2 z hz)
  split
  ·rename_i h0 h1
   obtain ⟨x,rfl⟩:=List.length_eq_one_iff.1 (show R.length=1 by omega)
   have ga:(A++(L++([x]++B)))[m]! = x:=by
    have e:A++(L++([x]++B))=(A++L)++x :: B:=by simp
    rw [e];exact get_at (by simp;omega)
   obtain ⟨q1,q2,q3,q4⟩:=bsr_ok (fun h=>!lt (A++(L++([x]++B)))[m]! (A++(L++([x]++B)))[h]!) (b - a) a m (by omega) (by omega)
   generalize bsr (fun h=>!lt (A++(L++([x]++B)))[m]! (A++(L++([x]++B)))[h]!) (b - a) a m=i at q1 q2 q3 q4 ⊢
   simp only [ga] at q3 q4
   have hs:L=L.take (i - a)++L.drop (i - a):=(List.take_append_drop ..).symm
   have h3:(L.take (i - a)).length=i - a:=by rw [List.length_take];omega
   have h4:(L.drop (i - a)).length=m - i:=by rw [List.length_drop];omega
   generalize L.take (i - a)=L1 at hs h3
   generalize L.drop (i - a)=L2 at hs h4
   subst hs
   have e:A++(L1++L2++([x]++B))=(A++L1)++(L2++x :: B):=by simp
   rw [e,dn_mid (by simp;omega) h4]
   obtain ⟨sL1,sL2,hLL⟩:=List.pairwise_append.1 sL
   refine ⟨L1++x :: L2,by simp,?_,?_⟩
   ·have:=List.perm_middle (a:=x) (l₁:=L1) (l₂:=L2)
    refine this.trans ?_
    have h:=(List.perm_append_comm (l₁:=[x]) (l₂:=L1++L2))
    simpa using h
   ·have hx1:∀ y∈L1,le y x:=fun y hy=>by
     have hp:0 < L1.length:=List.length_pos_of_mem hy
     rcases q3 with q3|q3
     ·omega
     ·have e2:A++(L1++L2++([x]++B))=A++(L1++(L2++([x]++B))):=by simp
      rw [e2,get_in (by omega) (by omega)] at q3
      have hl:=srd_last rf (i:=i - 1 - A.length) sL1 (by omega) y hy
      have hin:L1[i - 1 - A.length]!∈L1++L2:=by
       rw [getElem!_pos L1 _ (by omega)];exact List.mem_append_left _ (List.getElem_mem _)
      have q3:lt x L1[i - 1 - A.length]! = false:=by simpa using q3
      have:=mt (hc _ hin x (List.mem_singleton.2 rfl)).2 (by rw [q3];simp)
      exact tr _ _ _ hl (Classical.not_not.1 this)
    have hx2:∀ y∈L2,le x y:=fun y hy=>by
     have hp:0 < L2.length:=List.length_pos_of_mem hy
     rcases q4 with q4|q4
     ·omega
     ·have e2:A++(L1++L2++([x]++B))=(A++L1)++(L2++([x]++B)):=by simp
      rw [e2,get_in (by simp;omega) (by simp;omega)] at q4
      have hz:i - (A++L1).length=0:=by simp;omega
      rw [hz] at q4
      have hin:L2[0]!∈L1++L2:=by
       rw [getElem!_pos L2 _ hp];exact List.mem_append_right _ (List.getElem_mem _)
      have q4:lt x L2[0]! = true:=by simpa using q4
      have h5:=(hc _ hin x (List.mem_singleton.2 rfl)).1 q4
      rcases to x L2[0]! with h|h
      ·exact tr _ _ _ h (srd_first rf sL2 y hy)
      ·exact absurd h h5
    refine srd_cross sL1 (List.pairwise_cons.2 ⟨hx2,sL2⟩) fun y hy z hz=>?_
    rcases List.mem_cons.1 hz with rfl|hz
    ·exact hx1 y hy
    ·exact hLL y hy z hz
  rename_i n1 n2
  -- where the lists are parted
  have hP:a≤prt lt a m b (A++(L++(R++B)))∧prt lt a m b (A++(L++(R++B)))≤m∧m≤(a+b) / 2+m - prt lt a m b (A++(L++(R++B)))∧(a+b) / 2+m - prt lt a m b (A++(L++(R++B)))≤b∧prt lt a m b (A++(L++(R++B)))≤(a+b) / 2∧
    (prt lt a m b (A++(L++(R++B)))=a∨(a+b) / 2+m - prt lt a m b (A++(L++(R++B)))=b∨lt (A++(L++(R++B)))[(a+b) / 2+m - prt lt a m b (A++(L++(R++B)))]! (A++(L++(R++B)))[prt lt a m b (A++(L++(R++B))) - 1]! = false)∧
    (prt lt a m b (A++(L++(R++B)))=m∨(a+b) / 2+m - prt lt a m b (A++(L++(R++B)))=m∨lt (A++(L++(R++B)))[(a+b) / 2+m - prt lt a m b (A++(L++(R++B))) - 1]! (A++(L++(R++B)))[prt lt a m b (A++(L++(R++B)))]! = true):=by
   generalize A++(L++(R++B))=l
   unfold prt
   split
   ·rename_i h
    obtain ⟨q1,q2,q3,q4⟩:=bsr_ok (fun c=>!lt l[(a+b) / 2+m - 1 - c]! l[c]!) (b - a) ((a+b) / 2+m - b) ((a+b) / 2) (by omega) (by omega)
    generalize bsr (fun c=>!lt l[(a+b) / 2+m - 1 - c]! l[c]!) (b - a) ((a+b) / 2+m - b) ((a+b) / 2)=s at q1 q2 q3 q4 ⊢
    refine ⟨by omega,by omega,by omega,by omega,by omega,?_,?_⟩
    ·rcases q3 with q3|q3
     ·right;left;omega
     ·by_cases hs:s=0
      ·left;omega
      have e:(a+b) / 2+m - 1 - (s - 1)=(a+b) / 2+m - s:=by omega
      rw [e] at q3
      right;right;simpa using q3
    ·rcases q4 with q4|q4
     ·right;left;omega
     ·have e:(a+b) / 2+m - 1 - s=(a+b) / 2+m - s - 1:=by omega
      rw [e] at q4
      right;right;simpa using q4
   ·rename_i h
    obtain ⟨q1,q2,q3,q4⟩:=bsr_ok (fun c=>!lt l[(a+b) / 2+m - 1 - c]! l[c]!) (b - a) a m (by omega) (by omega)
    generalize bsr (fun c=>!lt l[(a+b) / 2+m - 1 - c]! l[c]!) (b - a) a m=s at q1 q2 q3 q4 ⊢
    refine ⟨by omega,by omega,by omega,by omega,by omega,?_,?_⟩
    ·rcases q3 with q3|q3
     ·left;omega
     ·by_cases hs:s=0
      ·left;omega
      have e:(a+b) / 2+m - 1 - (s - 1)=(a+b) / 2+m - s:=by omega
      rw [e] at q3
      right;right;simpa using q3
    ·rcases q4 with q4|q4
     ·left;omega
     ·have e:(a+b) / 2+m - 1 - s=(a+b) / 2+m - s - 1:=by omega
      rw [e] at q4
      right;right;simpa using q4
  generalize prt lt a m b (A++(L++(R++B)))=s at hP ⊢
  obtain ⟨p1,p2,p3,p4,p5,p6,p7⟩:=hP
  have hsL:L=L.take (s - a)++L.drop (s - a):=(List.take_append_drop ..).symm
  have hL1:(L.take (s - a)).length=s - a:=by rw [List.length_take];omega
  have hL2:(L.drop (s - a)).length=m - s:=by rw [List.length_drop];omega
  generalize L.take (s - a)=L1 at hsL hL1
  generalize L.drop (s - a)=L2 at hsL hL2
  subst hsL
  have hsR:R=R.take ((a+b) / 2 - s)++R.drop ((a+b) / 2 - s):=(List.take_append_drop ..).symm
  have hR1:(R.take ((a+b) / 2 - s)).length=(a+b) / 2 - s:=by rw [List.length_take];omega
  have hR2:(R.drop ((a+b) / 2 - s)).length=b - ((a+b) / 2+m - s):=by rw [List.length_drop];omega
  generalize R.take ((a+b) / 2 - s)=R1 at hsR hR1
  generalize R.drop ((a+b) / 2 - s)=R2 at hsR hR2
  subst hsR
  simp only [List.length_append] at hm hb hL hR
  obtain ⟨sL1,sL2,hLL⟩:=List.pairwise_append.1 sL
  obtain ⟨sR1,sR2,hRR⟩:=List.pairwise_append.1 sR
  -- what is left stays below
  have c1:∀ x∈L1,∀ y∈R2,le x y:=fun x hx y hy=>by
   have z1:0 < L1.length:=List.length_pos_of_mem hx
   have z2:0 < R2.length:=List.length_pos_of_mem hy
   rcases p6 with p6|p6|p6
   ·omega
   ·omega
   ·have e2:A++(L1++L2++(R1++R2++B))=(A++(L1++(L2++R1)))++(R2++B):=by simp
    have e3:A++(L1++L2++(R1++R2++B))=A++(L1++(L2++(R1++R2++B))):=by simp
    have g1:(A++(L1++L2++(R1++R2++B)))[(a+b) / 2+m - s]! = R2[0]!:=by
     rw [e2,get_in (by simp;omega) (by simp;omega)]
     congr 1
     simp;omega
    have g2:(A++(L1++L2++(R1++R2++B)))[s - 1]! = L1[s - 1 - A.length]!:=by
     rw [e3,get_in (by omega) (by omega)]
    rw [g1,g2] at p6
    have i1:L1[s - 1 - A.length]!∈L1++L2:=by
     rw [getElem!_pos L1 _ (by omega)];exact List.mem_append_left _ (List.getElem_mem _)
    have i2:R2[0]!∈R1++R2:=by
     rw [getElem!_pos R2 _ z2];exact List.mem_append_right _ (List.getElem_mem _)
    have:=Classical.not_not.1 (mt (hc _ i1 _ i2).2 (by rw [p6];simp))
    exact tr _ _ _ (srd_last rf sL1 (by omega) x hx) (tr _ _ _ this (srd_first rf sR2 y hy))
  have c2:∀ y∈R1,∀ x∈L2,le y x:=fun y hy x hx=>by
   have z1:0 < L2.length:=List.length_pos_of_mem hx
   have z2:0 < R1.length:=List.length_pos_of_mem hy
   rcases p7 with p7|p7|p7
   ·omega
   ·omega
   ·have e2:A++(L1++L2++(R1++R2++B))=(A++(L1++L2))++(R1++(R2++B)):=by simp
    have e3:A++(L1++L2++(R1++R2++B))=(A++L1)++(L2++(R1++R2++B)):=by simp
    have g1:(A++(L1++L2++(R1++R2++B)))[(a+b) / 2+m - s - 1]! = R1[(a+b) / 2+m - s - 1 - (A++(L1++L2)).length]!:=by
     rw [e2,get_in (by simp;omega) (by simp;omega)]
    have g2:(A++(L1++L2++(R1++R2++B)))[s]! = L2[0]!:=by
     rw [e3,get_in (by simp;omega) (by simp;omega)]
     congr 1
     simp;omega
    rw [g1,g2] at p7
    have i1:L2[0]!∈L1++L2:=by
     rw [getElem!_pos L2 _ z1];exact List.mem_append_right _ (List.getElem_mem _)
    have i2:R1[(a+b) / 2+m - s - 1 - (A++(L1++L2)).length]!∈R1++R2:=by
     rw [getElem!_pos R1 _ (by simp;omega)];exact List.mem_append_left _ (List.getElem_mem _)
    have h5:=(hc _ i1 _ i2).1 p7
    have h6:=(to _ _).resolve_left h5
    exact tr _ _ _ (srd_last rf sR1 (by simp;omega) y hy) (tr _ _ _ h6 (srd_first rf sL2 x hx))
  have e0:(if s < m∧m < (a+b) / 2+m - s then rot m (b - a) (m - s) ((a+b) / 2+m - s - m) (A++(L1++L2++(R1++R2++B))) else A++(L1++L2++(R1++R2++B)))=A++(L1++(R1++(L2++(R2++B)))):=by
   split
   ·have e:A++(L1++L2++(R1++R2++B))=(A++L1)++(L2++(R1++(R2++B))):=by simp
    rw [e,rot_mid (by simp;omega) hL2 (by omega) (by omega) (by omega) (by omega)]
    simp
   ·rename_i h
    by_cases h2:L2.length=0
    ·rw [List.length_eq_zero_iff.1 h2];simp
    ·have h3:R1.length=0:=by omega
     rw [List.length_eq_zero_iff.1 h3];simp
  rw [e0]
  show ∃ M,(if (a+b) / 2 < (a+b) / 2+m - s∧(a+b) / 2+m - s < b then symM lt f ((a+b) / 2) ((a+b) / 2+m - s) b (if a < s∧s < (a+b) / 2 then symM lt f a s ((a+b) / 2) (A++(L1++(R1++(L2++(R2++B))))) else A++(L1++(R1++(L2++(R2++B))))) else (if a < s∧s < (a+b) / 2 then symM lt f a s ((a+b) / 2) (A++(L1++(R1++(L2++(R2++B))))) else A++(L1++(R1++(L2++(R2++B))))))=A++(M++B)∧M.Perm (L1++L2++(R1++R2))∧Srd le M
  obtain ⟨M1,e1,pm1,sm1⟩:∃ M1,(if a < s∧s < (a+b) / 2 then symM lt f a s ((a+b) / 2) (A++(L1++(R1++(L2++(R2++B))))) else A++(L1++(R1++(L2++(R2++B)))))=A++(M1++(L2++(R2++B)))∧M1.Perm (L1++R1)∧Srd le M1:=by
   split
   ·exact symM_ok tr to f a s ((a+b) / 2) ha (by omega) (by omega) (by omega) (by omega) (by omega) sL1 sR1 fun x hx y hy=>hc x (List.mem_append_left _ hx) y (List.mem_append_left _ hy)
   ·rename_i h
    refine ⟨L1++R1,by simp,.refl _,?_⟩
    by_cases h2:L1.length=0
    ·rw [List.length_eq_zero_iff.1 h2];exact sR1
    ·have h3:R1.length=0:=by omega
     rw [List.length_eq_zero_iff.1 h3,List.append_nil];exact sL1
  rw [e1]
  have lm1:=pm1.length_eq
  rw [List.length_append] at lm1
  obtain ⟨M2,e2,pm2,sm2⟩:∃ M2,(if (a+b) / 2 < (a+b) / 2+m - s∧(a+b) / 2+m - s < b then symM lt f ((a+b) / 2) ((a+b) / 2+m - s) b (A++(M1++(L2++(R2++B)))) else A++(M1++(L2++(R2++B))))=A++(M1++(M2++B))∧M2.Perm (L2++R2)∧Srd le M2:=by
   split
   ·have e:A++(M1++(L2++(R2++B)))=(A++M1)++(L2++(R2++B)):=by simp
    obtain ⟨M2,q1,q2,q3⟩:=symM_ok (A:=A++M1) (L:=L2) (R:=R2) (B:=B) tr to f ((a+b) / 2) ((a+b) / 2+m - s) b (by simp;omega) (by omega) (by omega) (by omega) (by omega) (by omega) sL2 sR2 fun x hx y hy=>hc x (List.mem_append_right _ hx) y (List.mem_append_right _ hy)
    exact ⟨M2,by rw [e,q1];simp,q2,q3⟩
   ·rename_i h
    refine ⟨L2++R2,by simp,.refl _,?_⟩
    by_cases h2:L2.length=0
    ·rw [List.length_eq_zero_iff.1 h2];exact sR2
    ·have h3:R2.length=0:=by omega
     rw [List.length_eq_zero_iff.1 h3,List.append_nil];exact sL2
  rw [e2]
  refine ⟨M1++M2,by simp,?_,?_⟩
  ·refine (pm1.append pm2).trans ?_
   have h:=(List.perm_append_comm (l₁:=R1) (l₂:=L2)).append_left L1
   have h2:=h.append_right R2
   simpa using h2
  ·refine srd_cross sm1 sm2 fun x hx y hy=>?_
   rcases List.mem_append.1 (pm1.mem_iff.1 hx) with hx|hx <;> rcases List.mem_append.1 (pm2.mem_iff.1 hy) with hy|hy
   ·exact hLL x hx y hy
   ·exact c1 x hx y hy
   ·exact c2 x hx y hy
   ·exact hRR x hx y hy
theorem insD_ok {lt:α→α→Bool} {le:α→α→Prop} (tr:∀ x y z,le x y→le y z→le x z) (to:∀ x y,le x y∨le y x) (a:Nat):∀ (j:Nat) {A L B:List α} {x:α},a=A.length→j=a+L.length→Srd le L→(∀ y∈L,(lt x y=true↔¬ le y x))→∃ M,insD lt a j (A++(L++x :: B))=A++(M++B)∧M.Perm (L++[x])∧Srd le M
 | 0,A,L,B,x,ha,hj,sL,hc=>by
  have:L=[]:=List.length_eq_zero_iff.1 (by omega)
  subst this
  exact ⟨[x],rfl,.refl _,List.pairwise_singleton ..⟩
 | j+1,A,L,B,x,ha,hj,sL,hc=>by
  unfold insD
  split
  ·rename_i h
   obtain ⟨Z,y,rfl⟩:∃ Z y,L=Z++[y]:=⟨L.dropLast,L.getLast (by intro h;simp [h] at hj;omega),(List.dropLast_concat_getLast _).symm⟩
   have hz:j=a+Z.length:=by simp at hj;omega
   have e:A++(Z++[y]++x :: B)=(A++Z)++y :: x :: B:=by simp
   have e2:A++(Z++[y]++x :: B)=(A++(Z++[y]))++x :: B:=by simp
   have g1:(A++(Z++[y]++x :: B))[j+1]! = x:=by rw [e2];exact get_at (by simp;omega)
   have g2:(A++(Z++[y]++x :: B))[j]! = y:=by rw [e];exact get_at (by simp;omega)
   rw [g1,g2]
   obtain ⟨sZ,_,hZ⟩:=List.pairwise_append.1 sL
   have hy:∀ z∈Z,le z y:=fun z hz=>hZ z hz y (List.mem_singleton.2 rfl)
   split
   ·rename_i hlt
    have hxy:le x y:=(to x y).resolve_right ((hc y (List.mem_append_right _ (List.mem_singleton.2 rfl))).1 hlt)
    have es:=swL_mid2 (A:=A++Z) (M:=[]) (B:=B) (x:=y) (y:=x) (i:=j) (j:=j+1) (by simp;omega) (by simp;omega)
    simp only [List.nil_append,List.append_assoc] at es
    have e3:A++(Z++[y]++x :: B)=A++(Z++y :: x :: B):=by simp
    rw [e3,es]
    obtain ⟨M,q1,q2,q3⟩:=insD_ok (A:=A) (L:=Z) (B:=y :: B) (x:=x) tr to a j ha hz sZ fun z hz=>hc z (List.mem_append_left _ hz)
    refine ⟨M++[y],by rw [q1];simp,?_,?_⟩
    ·refine (q2.append_right [y]).trans ?_
     have h:=(List.perm_append_comm (l₁:=[x]) (l₂:=[y])).append_left Z
     simpa using h
    ·refine srd_cross q3 (List.pairwise_singleton ..) fun z hz w hw=>?_
     rw [List.mem_singleton.1 hw]
     rcases List.mem_append.1 (q2.mem_iff.1 hz) with hz|hz
     ·exact hy z hz
     ·rw [List.mem_singleton.1 hz];exact hxy
   ·rename_i hlt
    have hyx:le y x:=Classical.not_not.1 (mt (hc y (List.mem_append_right _ (List.mem_singleton.2 rfl))).2 hlt)
    refine ⟨Z++[y]++[x],by simp,.refl _,?_⟩
    refine srd_cross sL (List.pairwise_singleton ..) fun z hz w hw=>?_
    rw [List.mem_singleton.1 hw]
    rcases List.mem_append.1 hz with hz|hz
    ·exact tr _ _ _ (hy z hz) hyx
    ·rw [List.mem_singleton.1 hz];exact hyx
  ·have:L=[]:=List.length_eq_zero_iff.1 (by omega)
   subst this
   exact ⟨[x],rfl,.refl _,List.pairwise_singleton ..⟩
theorem insS_ok {lt:α→α→Bool} {le:α→α→Prop} (tr:∀ x y z,le x y→le y z→le x z) (to:∀ x y,le x y∨le y x) (a:Nat):∀ (n i:Nat) {A L R B:List α},a=A.length→i=a+L.length→R.length=n→Srd le L→(∀ x∈L,∀ y∈R,(lt y x=true↔¬ le x y))→R.Pairwise (fun x y=>lt y x=true↔¬ le x y)→∃ M,insS lt a n i (A++(L++(R++B)))=A++(M++B)∧M.Perm (L++R)∧Srd le M
 | 0,i,A,L,R,B,ha,hi,hr,sL,hc,hR=>by
  have:R=[]:=List.length_eq_zero_iff.1 hr
  subst this
  exact ⟨L,by simp [insS],by simp,sL⟩
 | n+1,i,A,L,x :: R,B,ha,hi,hr,sL,hc,hR=>by
  unfold insS
  have e:A++(L++(x :: R++B))=A++(L++x :: (R++B)):=by simp
  obtain ⟨M,q1,q2,q3⟩:=insD_ok (A:=A) (L:=L) (B:=R++B) (x:=x) tr to a i ha hi sL fun y hy=>hc y hy x (List.mem_cons_self ..)
  rw [e,q1]
  have hl:=q2.length_eq
  simp only [List.length_append,List.length_singleton] at hl
  obtain ⟨hx,hR⟩:=List.pairwise_cons.1 hR
  obtain ⟨M2,p1,p2,p3⟩:=insS_ok (A:=A) (L:=M) (R:=R) (B:=B) tr to a n (i+1) ha (by omega) (by simpa using hr) q3 (fun y hy z hz=>by
   rcases List.mem_append.1 (q2.mem_iff.1 hy) with hy|hy
   ·exact hc y hy z (List.mem_cons_of_mem _ hz)
   ·rw [List.mem_singleton.1 hy];exact hx z hz) hR
  refine ⟨M2,p1,p2.trans ((q2.append_right R).trans ?_),p3⟩
  simp
inductive Bks (lt:α→α→Bool) (le:α→α→Prop) (s:Nat):List α→Prop
 | last {X}:X.length≤s→Srd le X→Bks lt le s X
 | cons {X Y}:X.length=s→Srd le X→(∀ x∈X,∀ y∈Y,(lt y x=true↔¬ le x y))→Bks lt le s Y→Bks lt le s (X++Y)
theorem insS_one {lt:α→α→Bool} {le:α→α→Prop} (tr:∀ x y z,le x y→le y z→le x z) (to:∀ x y,le x y∨le y x) {a n:Nat} {A R B:List α} (ha:a=A.length) (hr:R.length=n+1) (hR:R.Pairwise (fun x y=>lt y x=true↔¬ le x y)):∃ M,insS lt a n (a+1) (A++(R++B))=A++(M++B)∧M.Perm R∧Srd le M:=by
 cases R with
 | nil=>simp at hr
 | cons x R=>
  obtain ⟨hx,hR⟩:=List.pairwise_cons.1 hR
  obtain ⟨M,q1,q2,q3⟩:=insS_ok (A:=A) (L:=[x]) (R:=R) (B:=B) tr to a n (a+1) ha rfl (by simpa using hr) (List.pairwise_singleton ..) (fun y hy z hz=>by rw [List.mem_singleton.1 hy];exact hx z hz) hR
  exact ⟨M,q1,q2,q3⟩
theorem blk1_ok {lt:α→α→Bool} {le:α→α→Prop} (tr:∀ x y z,le x y→le y z→le x z) (to:∀ x y,le x y∨le y x) {s n:Nat} (hs:0 < s):∀ (f a:Nat) {A R:List α},a=A.length→n=a+R.length→R.length < f→R.Pairwise (fun x y=>lt y x=true↔¬ le x y)→∃ M,blk1 lt s n f a (A++R)=A++M∧M.Perm R∧Bks lt le s M
 | 0,a,A,R,ha,hn,hf,_=>absurd hf (by omega)
 | f+1,a,A,R,ha,hn,hf,hR=>by
  unfold blk1
  split
  ·rename_i h
   have hs2:R=R.take s++R.drop s:=(List.take_append_drop ..).symm
   have h3:(R.take s).length=s:=by rw [List.length_take];omega
   have h4:(R.drop s).length=R.length - s:=List.length_drop ..
   generalize R.take s=R1 at hs2 h3
   generalize R.drop s=R2 at hs2 h4
   subst hs2
   rw [List.length_append] at hn hf
   obtain ⟨hR1,hR2,hx⟩:=List.pairwise_append.1 hR
   obtain ⟨M,q1,q2,q3⟩:=insS_one (lt:=lt) (le:=le) (A:=A) (R:=R1) (B:=R2) (n:=s - 1) tr to ha (by omega) hR1
   rw [q1]
   have hl:=q2.length_eq
   obtain ⟨M2,p1,p2,p3⟩:=blk1_ok (lt:=lt) (le:=le) (n:=n) (s:=s) (A:=A++M) (R:=R2) tr to hs f (a+s) (by rw [List.length_append];omega) (by omega) (by omega) hR2
   have e:A++(M++R2)=A++M++R2:=by simp
   refine ⟨M++M2,by rw [e,p1];simp,q2.append p2,.cons (by omega) q3 (fun x hx1 y hy=>hx x (q2.mem_iff.1 hx1) y (p2.mem_iff.1 hy)) p3⟩
  ·rename_i h
   by_cases h0:R.length=0
   ·have:R=[]:=List.length_eq_zero_iff.1 h0
    subst this
    have e:n - (a+1)=0:=by simp at hn;omega
    rw [e]
    exact ⟨[],rfl,.refl _,.last (Nat.zero_le _) .nil⟩
   ·obtain ⟨M,q1,q2,q3⟩:=insS_one (B:=[]) (n:=n - (a+1)) tr to ha (by omega) hR
    simp only [List.append_nil] at q1
    exact ⟨M,q1,q2,.last (by have:=q2.length_eq;omega) q3⟩
theorem blk2_ok {lt:α→α→Bool} {le:α→α→Prop} (tr:∀ x y z,le x y→le y z→le x z) (to:∀ x y,le x y∨le y x) {s n:Nat} (hs:0 < s):∀ (f a:Nat) {A R:List α},a=A.length→n=a+R.length→R.length < f→Bks lt le s R→∃ M,blk2 lt s n f a (A++R)=A++M∧M.Perm R∧Bks lt le (2*s) M
 | 0,a,A,R,ha,hn,hf,_=>absurd hf (by omega)
 | f+1,a,A,R,ha,hn,hf,hR=>by
  unfold blk2
  cases hR with
  | last h1 h2=>
   rw [if_neg (by omega),if_neg (by omega)]
   exact ⟨R,rfl,.refl _,.last (by omega) h2⟩
  | @cons X Y h1 h2 h3 h4=>
   rw [List.length_append] at hn hf
   cases h4 with
   | last h5 h6=>
    by_cases hy:Y.length=0
    ·have:Y=[]:=List.length_eq_zero_iff.1 hy
     subst this
     rw [if_neg (by omega),if_neg (by omega)]
     exact ⟨X++[],rfl,.refl _,.last (by simp;omega) (by rw [List.append_nil];exact h2)⟩
    ·by_cases hf2:a+2*s≤n
     ·rw [if_pos hf2]
      obtain ⟨M,q1,q2,q3⟩:=symM_ok (lt:=lt) (A:=A) (L:=X) (R:=Y) (B:=[]) tr to (2*s) a (a+s) (a+2*s) ha (by omega) (by omega) (by omega) (by omega) (by omega) h2 h6 h3
      simp only [List.append_nil] at q1
      rw [q1]
      have hl:=q2.length_eq
      rw [List.length_append] at hl
      obtain ⟨M2,p1,p2,p3⟩:=blk2_ok (lt:=lt) (le:=le) (n:=n) (s:=s) (A:=A++M) (R:=[]) tr to hs f (a+2*s) (by rw [List.length_append];omega) (by simp;omega) (by simp;omega) (.last (by simp) .nil)
      have:M2=[]:=p2.eq_nil
      subst this
      simp only [List.append_nil] at p1
      exact ⟨M,p1,q2,.last (by omega) q3⟩
     ·rw [if_neg hf2,if_pos (by omega)]
      obtain ⟨M,q1,q2,q3⟩:=symM_ok (lt:=lt) (A:=A) (L:=X) (R:=Y) (B:=[]) tr to (n - a) a (a+s) n ha (by omega) (by omega) (by omega) (by omega) (by omega) h2 h6 h3
      simp only [List.append_nil] at q1
      exact ⟨M,q1,q2,.last (by have:=q2.length_eq;rw [List.length_append] at this;omega) q3⟩
   | @cons Y1 Y2 h5 h6 h7 h8=>
    rw [List.length_append] at hn hf
    rw [if_pos (by omega)]
    obtain ⟨M,q1,q2,q3⟩:=symM_ok (lt:=lt) (A:=A) (L:=X) (R:=Y1) (B:=Y2) tr to (2*s) a (a+s) (a+2*s) ha (by omega) (by omega) (by omega) (by omega) (by omega) h2 h6 (fun x hx y hy=>h3 x hx y (List.mem_append_left _ hy))
    have hl:=q2.length_eq
    rw [List.length_append] at hl
    obtain ⟨M2,p1,p2,p3⟩:=blk2_ok (lt:=lt) (le:=le) (n:=n) (s:=s) (A:=A++M) (R:=Y2) tr to hs f (a+2*s) (by rw [List.length_append];omega) (by omega) (by omega) h8
    have e:A++(X++(Y1++Y2))=A++(X++(Y1++Y2)):=rfl
    have e2:A++(M++Y2)=A++M++Y2:=by simp
    refine ⟨M++M2,by rw [q1,e2,p1];simp,?_,.cons (by omega) q3 (fun x hx y hy=>?_) p3⟩
    ·have:=q2.append p2
     simpa using this
    ·have hy:=p2.mem_iff.1 hy
     rcases List.mem_append.1 (q2.mem_iff.1 hx) with hx|hx
     ·exact h3 x hx y (List.mem_append_right _ hy)
     ·exact h7 x hx y hy
theorem blk3_ok {lt:α→α→Bool} {le:α→α→Prop} (tr:∀ x y z,le x y→le y z→le x z) (to:∀ x y,le x y∨le y x) {n:Nat}:∀ (f s:Nat) {R:List α},0 < s→R.length=n→n < s+f→Bks lt le s R→(blk3 lt n f s R).Perm R∧Srd le (blk3 lt n f s R)
 | 0,s,R,hs,hn,hf,hR=>by
  refine ⟨.refl _,?_⟩
  cases hR with
  | last h1 h2=>exact h2
  | @cons X Y h1 h2 h3 h4=>rw [List.length_append] at hn;omega
 | f+1,s,R,hs,hn,hf,hR=>by
  unfold blk3
  split
  ·obtain ⟨M,q1,q2,q3⟩:=blk2_ok (A:=[]) tr to (n:=n) hs (n+1) 0 rfl (by omega) (by omega) hR
   simp only [List.nil_append] at q1
   rw [q1]
   obtain ⟨p1,p2⟩:=blk3_ok tr to f (2*s) (by omega) (by rw [q2.length_eq,hn]) (by omega) q3
   exact ⟨p1.trans q2,p2⟩
  ·refine ⟨.refl _,?_⟩
   cases hR with
   | last h1 h2=>exact h2
   | @cons X Y h1 h2 h3 h4=>
    rw [List.length_append] at hn
    have:Y=[]:=List.length_eq_zero_iff.1 (by omega)
    subst this
    rw [List.append_nil];exact h2
theorem stab_ok {lt:α→α→Bool} {le:α→α→Prop} (tr:∀ x y z,le x y→le y z→le x z) (to:∀ x y,le x y∨le y x) (l:List α) (h:l.Pairwise fun x y=>lt y x=true↔¬ le x y):(stab lt l).Perm l∧Srd le (stab lt l):=by
 unfold stab
 obtain ⟨M,q1,q2,q3⟩:=blk1_ok (A:=[]) (n:=l.length) tr to (show 0 < 20 by decide) (l.length+1) 0 rfl (by omega) (by omega) h
 simp only [List.nil_append] at q1
 rw [q1]
 obtain ⟨p1,p2⟩:=blk3_ok tr to (n:=l.length) (l.length+1) 20 (by decide) q2.length_eq (by omega) q3
 exact ⟨p1.trans q2,p2⟩
end
section
variable {α:Type} [Inhabited α]
theorem fst_get (l:List (α × Nat)) (i:Nat):(l.map Prod.fst)[i]! = (l[i]!).1:=by
 rcases Nat.lt_or_ge i l.length with h|h
 ·rw [getElem!_pos l i h,getElem!_pos (l.map Prod.fst) i (by rw [Lm];exact h),List.getElem_map]
 ·rw [getElem!_neg l i (by omega),getElem!_neg (l.map Prod.fst) i (by rw [Lm];omega)]
  rfl
theorem swL_fst (l:List (α × Nat)) (i j:Nat):(swL l i j).map Prod.fst=swL (l.map Prod.fst) i j:=by
 unfold swL
 rw [List.map_set,List.map_set,fst_get,fst_get]
theorem bsr_eq {p q:Nat→Bool} (h:∀ i,p i=q i) (f i j:Nat):bsr p f i j=bsr q f i j:=by rw [show p=q from funext h]
theorem insD_fst (lt:α→α→Bool) (a:Nat):∀ (j:Nat) (l:List (α × Nat)),(insD (fun x y=>lt x.1 y.1) a j l).map Prod.fst=insD lt a j (l.map Prod.fst)
 | 0,_=>rfl
 | j+1,l=>by
  unfold insD
  rw [fst_get,fst_get]
  split
  ·split
   ·rw [insD_fst lt a j,swL_fst]
   ·rfl
  ·rfl
theorem insS_fst (lt:α→α→Bool) (a:Nat):∀ (n i:Nat) (l:List (α × Nat)),(insS (fun x y=>lt x.1 y.1) a n i l).map Prod.fst=insS lt a n i (l.map Prod.fst)
 | 0,_,_=>rfl
 | n+1,i,l=>by unfold insS;rw [insS_fst lt a n,insD_fst]
theorem swR_fst:∀ (n a b:Nat) (l:List (α × Nat)),(swR n a b l).map Prod.fst=swR n a b (l.map Prod.fst)
 | 0,_,_,_=>rfl
 | n+1,a,b,l=>by unfold swR;rw [swR_fst n,swL_fst]
theorem rot_fst (m:Nat):∀ (f i j:Nat) (l:List (α × Nat)),(rot m f i j l).map Prod.fst=rot m f i j (l.map Prod.fst)
 | 0,i,j,l=>swR_fst ..
 | f+1,i,j,l=>by
  unfold rot
  split
  ·exact swR_fst ..
  ·split
   ·rw [rot_fst m f,swR_fst]
   ·rw [rot_fst m f,swR_fst]
theorem up_fst:∀ (n k:Nat) (l:List (α × Nat)),(up n k l).map Prod.fst=up n k (l.map Prod.fst)
 | 0,_,_=>rfl
 | n+1,k,l=>by unfold up;rw [up_fst n,swL_fst]
theorem dn_fst:∀ (n k:Nat) (l:List (α × Nat)),(dn n k l).map Prod.fst=dn n k (l.map Prod.fst)
 | 0,_,_=>rfl
 | n+1,k,l=>by unfold dn;rw [dn_fst n,swL_fst]
theorem prt_fst (lt:α→α→Bool) (a m b:Nat) (l:List (α × Nat)):prt (fun x y=>lt x.1 y.1) a m b l=prt lt a m b (l.map Prod.fst):=by
 unfold prt
 split
 ·exact bsr_eq (fun c=>by rw [fst_get,fst_get]) ..
 ·exact bsr_eq (fun c=>by rw [fst_get,fst_get]) ..
theorem symM_fst (lt:α→α→Bool):∀ (f a m b:Nat) (l:List (α × Nat)),(symM (fun x y=>lt x.1 y.1) f a m b l).map Prod.fst=symM lt f a m b (l.map Prod.fst)
 | 0,_,_,_,_=>rfl
 | f+1,a,m,b,l=>by
  unfold symM
  have e1:bsr (fun h=>lt (l.map Prod.fst)[h]! (l.map Prod.fst)[a]!) (b - a) m b=bsr (fun h=>lt l[h]!.1 l[a]!.1) (b - a) m b:=bsr_eq (fun c=>by rw [fst_get,fst_get]) ..
  have e2:bsr (fun h=>!lt (l.map Prod.fst)[m]! (l.map Prod.fst)[h]!) (b - a) a m=bsr (fun h=>!lt l[m]!.1 l[h]!.1) (b - a) a m:=bsr_eq (fun c=>by rw [fst_get,fst_get]) ..
  rw [e1,e2,prt_fst]
  generalize prt lt a m b (l.map Prod.fst)=s
  split
  ·exact up_fst ..
  split
  ·exact dn_fst ..
  have h1:(if s < m∧m < (a+b) / 2+m - s then rot m (b - a) (m - s) ((a+b) / 2+m - s - m) l else l).map Prod.fst=if s < m∧m < (a+b) / 2+m - s then rot m (b - a) (m - s) ((a+b) / 2+m - s - m) (l.map Prod.fst) else l.map Prod.fst:=by
   split
   ·exact rot_fst ..
   ·rfl
  have h2:∀ x:List (α × Nat),(if a < s∧s < (a+b) / 2 then symM (fun x y=>lt x.1 y.1) f a s ((a+b) / 2) x else x).map Prod.fst=if a < s∧s < (a+b) / 2 then symM lt f a s ((a+b) / 2) (x.map Prod.fst) else x.map Prod.fst:=fun x=>by
   split
   ·exact symM_fst lt f ..
   ·rfl
  have h3:∀ x:List (α × Nat),(if (a+b) / 2 < (a+b) / 2+m - s∧(a+b) / 2+m - s < b then symM (fun x y=>lt x.1 y.1) f ((a+b) / 2) ((a+b) / 2+m - s) b x else x).map Prod.fst=if (a+b) / 2 < (a+b) / 2+m - s∧(a+b) / 2+m - s < b then symM lt f ((a+b) / 2) ((a+b) / 2+m - s) b (x.map Prod.fst) else x.map Prod.fst:=fun x=>by
   split
   ·exact symM_fst lt f ..
   ·rfl
  refine (h3 _).trans ?_
  rw [h2,h1]
theorem blk1_fst (lt:α→α→Bool) (s n:Nat):∀ (f a:Nat) (l:List (α × Nat)),(blk1 (fun x y=>lt x.1 y.1) s n f a l).map Prod.fst=blk1 lt s n f a (l.map Prod.fst)
 | 0,_,_=>rfl
 | f+1,a,l=>by
  unfold blk1
  split
  ·rw [blk1_fst lt s n f,insS_fst]
  ·exact insS_fst ..
theorem blk2_fst (lt:α→α→Bool) (s n:Nat):∀ (f a:Nat) (l:List (α × Nat)),(blk2 (fun x y=>lt x.1 y.1) s n f a l).map Prod.fst=blk2 lt s n f a (l.map Prod.fst)
 | 0,_,_=>rfl
 | f+1,a,l=>by
  unfold blk2
  split
  ·rw [blk2_fst lt s n f,symM_fst]
  ·split
   ·exact symM_fst ..
   ·rfl
theorem blk3_fst (lt:α→α→Bool) (n:Nat):∀ (f s:Nat) (l:List (α × Nat)),(blk3 (fun x y=>lt x.1 y.1) n f s l).map Prod.fst=blk3 lt n f s (l.map Prod.fst)
 | 0,_,_=>rfl
 | f+1,s,l=>by
  unfold blk3
  split
  ·rw [blk3_fst lt n f,blk2_fst]
  ·rfl
theorem stab_fst (lt:α→α→Bool) (l:List (α × Nat)):(stab (fun x y=>lt x.1 y.1) l).map Prod.fst=stab lt (l.map Prod.fst):=by
 unfold stab
 rw [blk3_fst,blk1_fst,Lm]
def lexN (le:α→α→Prop) (x y:α × Nat):Prop:=le x.1 y.1∧(le y.1 x.1→x.2≤y.2)
def tagN:Nat→List α→List (α × Nat)
 | _,[]=>[]
 | i,x :: r=>(x,i) :: tagN (i+1) r
omit [Inhabited α] in
theorem tagN_fst:∀ (i:Nat) (l:List α),(tagN i l).map Prod.fst=l
 | _,[]=>rfl
 | i,x :: r=>by rw [tagN,List.map_cons,tagN_fst]
omit [Inhabited α] in
theorem tagN_ge:∀ (i:Nat) (l:List α),∀ p∈tagN i l,i≤p.2
 | _,[],_,h=>by cases h
 | i,_ :: r,p,h=>by
  rcases List.mem_cons.1 h with rfl|h
  ·exact Nat.le_refl _
  ·exact Nat.le_of_succ_le (tagN_ge (i+1) r p h)
omit [Inhabited α] in
theorem tagN_lt:∀ (i:Nat) (l:List α),(tagN i l).Pairwise fun x y=>x.2 < y.2
 | _,[]=>.nil
 | i,_ :: r=>.cons (fun p hp=>tagN_ge (i+1) r p hp) (tagN_lt (i+1) r)
theorem stab_eq {lt:α→α→Bool} {le:α→α→Prop} (tr:∀ x y z,le x y→le y z→le x z) (to:∀ x y,le x y∨le y x) (hlt:∀ x y,lt y x=true↔¬ le x y) (l:List α) (M:List (α × Nat)) (hp:M.Perm (tagN 0 l)) (hs:M.Pairwise (lexN le)):stab lt l=M.map Prod.fst:=by
 have hrf:∀ x,le x x:=fun x=>(to x x).elim id id
 have tr2:∀ x y z:α × Nat,lexN le x y→lexN le y z→lexN le x z:=fun x y z h1 h2=>⟨tr _ _ _ h1.1 h2.1,fun h=>Nat.le_trans (h1.2 (tr _ _ _ h2.1 h)) (h2.2 (tr _ _ _ h h1.1))⟩
 have to2:∀ x y:α × Nat,lexN le x y∨lexN le y x:=fun x y=>by
  by_cases h1:le x.1 y.1 <;> by_cases h2:le y.1 x.1
  ·rcases Nat.le_total x.2 y.2 with h|h
   ·exact .inl ⟨h1,fun _=>h⟩
   ·exact .inr ⟨h2,fun _=>h⟩
  ·exact .inl ⟨h1,fun h=>absurd h h2⟩
  ·exact .inr ⟨h2,fun h=>absurd h h1⟩
  ·exact ((to x.1 y.1).elim h1 h2).elim
 obtain ⟨p1,p2⟩:=stab_ok (lt:=fun x y=>lt x.1 y.1) tr2 to2 (tagN 0 l) ((tagN_lt 0 l).imp fun {x y} h=>by
  rw [hlt]
  constructor
  ·exact fun h1 h2=>h1 h2.1
  ·exact fun h1 h2=>h1 ⟨h2,fun _=>Nat.le_of_lt h⟩)
 have e:stab (fun x y:α × Nat=>lt x.1 y.1) (tagN 0 l)=M:=by
  refine List.Perm.eq_of_pairwise (le:=lexN le) (fun x y hx hy h1 h2=>?_) p2 hs (p1.trans hp.symm)
  have hx:=p1.mem_iff.1 hx
  have hy:=hp.mem_iff.1 hy
  have h3:x.2=y.2:=Nat.le_antisymm (h1.2 h2.1) (h2.2 h1.1)
  obtain ⟨i,hi,rfl⟩:=List.mem_iff_getElem.1 hx
  obtain ⟨j,hj,rfl⟩:=List.mem_iff_getElem.1 hy
  rcases Nat.lt_trichotomy i j with h|h|h
  ·have:=List.pairwise_iff_getElem.1 (tagN_lt 0 l) i j hi hj h;omega
  ·subst h;rfl
  ·have:=List.pairwise_iff_getElem.1 (tagN_lt 0 l) j i hj hi h;omega
 have:=stab_fst lt (tagN 0 l)
 rw [tagN_fst,e] at this
 exact this.symm
end
section
variable {α:Type} [Inhabited α]
def insW (leb:α→α→Bool) (x:α) (out:List α):List α:=out.takeWhile (fun y=>leb y x)++x :: out.dropWhile (fun y=>leb y x)
def insL (leb:α→α→Bool) (out:List α):List α→List α
 | []=>out
 | x :: r=>insL leb (insW leb x out) r
omit [Inhabited α] in
theorem tw_fst (p:α→Bool):∀ l:List (α × Nat),(l.takeWhile fun y=>p y.1).map Prod.fst=(l.map Prod.fst).takeWhile p
 | []=>rfl
 | x :: l=>by
  rw [List.takeWhile_cons,List.map_cons,List.takeWhile_cons]
  split
  ·rw [List.map_cons,tw_fst p l]
  ·rfl
omit [Inhabited α] in
theorem dw_fst (p:α→Bool):∀ l:List (α × Nat),(l.dropWhile fun y=>p y.1).map Prod.fst=(l.map Prod.fst).dropWhile p
 | []=>rfl
 | x :: l=>by
  rw [List.dropWhile_cons,List.map_cons,List.dropWhile_cons]
  split
  ·exact dw_fst p l
  ·rfl
omit [Inhabited α] in
theorem insW_fst (leb:α→α→Bool) (x:α × Nat) (l:List (α × Nat)):(insW (fun a b=>leb a.1 b.1) x l).map Prod.fst=insW leb x.1 (l.map Prod.fst):=by
 unfold insW
 rw [List.map_append,List.map_cons,tw_fst (fun y=>leb y x.1),dw_fst (fun y=>leb y x.1)]
omit [Inhabited α] in
theorem insL_fst (leb:α→α→Bool):∀ (r l:List (α × Nat)),(insL (fun a b=>leb a.1 b.1) l r).map Prod.fst=insL leb (l.map Prod.fst) (r.map Prod.fst)
 | [],l=>rfl
 | x :: r,l=>by rw [insL,insL_fst leb r,insW_fst,List.map_cons,insL]
omit [Inhabited α] in
theorem dw_head {p:α→Bool}:∀ {l r:List α} {z:α},l.dropWhile p=z :: r→p z=false
 | [],r,z,h=>by cases h
 | x :: l,r,z,h=>by
  rw [List.dropWhile_cons] at h
  split at h
  ·exact dw_head h
  ·rename_i hx
   injection h with h1 _
   subst h1
   simpa using hx
omit [Inhabited α] in
theorem tw_all {p:α→Bool}:∀ {l:List α},∀ x∈l.takeWhile p,p x=true
 | [],x,h=>by cases h
 | y :: l,x,h=>by
  rw [List.takeWhile_cons] at h
  split at h
  ·rename_i hy
   rcases List.mem_cons.1 h with rfl|h
   ·exact hy
   ·exact tw_all x h
  ·cases h
omit [Inhabited α] in
theorem insW_perm (leb:α→α→Bool) (x:α) (l:List α):(insW leb x l).Perm (l++[x]):=by
 unfold insW
 refine List.perm_middle.trans ?_
 rw [List.takeWhile_append_dropWhile]
 exact (List.perm_append_comm (l₁:=[x]) (l₂:=l))
omit [Inhabited α] in
theorem insL_perm (leb:α→α→Bool):∀ (r l:List α),(insL leb l r).Perm (l++r)
 | [],l=>by rw [insL,List.append_nil]
 | x :: r,l=>by
  rw [insL]
  refine (insL_perm leb r _).trans ?_
  refine ((insW_perm leb x l).append_right r).trans ?_
  simp
omit [Inhabited α] in
theorem insL_srd {leb:α→α→Bool} {le:α→α→Prop} (hb:∀ x y,leb x y=true↔le x y) (tr:∀ x y z,le x y→le y z→le x z) (to:∀ x y,le x y∨le y x):∀ (r l:List (α × Nat)),l.Pairwise (lexN le)→(∀ x∈l,∀ y∈r,x.2 < y.2)→(r.Pairwise fun x y=>x.2 < y.2)→(insL (fun a b=>leb a.1 b.1) l r).Pairwise (lexN le)
 | [],l,h,_,_=>h
 | x :: r,l,h,h1,h2=>by
  obtain ⟨h3,h4⟩:=List.pairwise_cons.1 h2
  rw [insL]
  refine insL_srd hb tr to r _ ?_ (fun y hy z hz=>?_) h4
  ·unfold insW
   have hl:l.takeWhile (fun y=>leb y.1 x.1)++l.dropWhile (fun y=>leb y.1 x.1)=l:=List.takeWhile_append_dropWhile ..
   have ht:∀ y∈l.takeWhile (fun y=>leb y.1 x.1),le y.1 x.1:=fun y hy=>(hb _ _).1 (tw_all y hy)
   have hm:∀ y∈l.takeWhile (fun y=>leb y.1 x.1),y∈l:=fun y hy=>by rw [← hl];exact List.mem_append_left _ hy
   have hd:∀ z∈l.dropWhile (fun y=>leb y.1 x.1),¬ le z.1 x.1:=by
    rw [← hl] at h
    obtain ⟨_,h5,_⟩:=List.pairwise_append.1 h
    cases e:l.dropWhile (fun y=>leb y.1 x.1) with
    | nil=>exact fun z hz=>by cases hz
    | cons z0 q=>
     have h6:¬ le z0.1 x.1:=fun hc=>by
      have:=dw_head e
      rw [(hb _ _).2 hc] at this
      cases this
     rw [e] at h5
     obtain ⟨h7,_⟩:=List.pairwise_cons.1 h5
     intro z hz hc
     rcases List.mem_cons.1 hz with rfl|hz
     ·exact h6 hc
     ·exact h6 (tr _ _ _ (h7 z hz).1 hc)
   rw [← hl] at h
   obtain ⟨h5,h6,h7⟩:=List.pairwise_append.1 h
   refine List.pairwise_append.2 ⟨h5,List.pairwise_cons.2 ⟨fun z hz=>⟨(to x.1 z.1).resolve_right (hd z hz),fun hc=>absurd hc (hd z hz)⟩,h6⟩,fun y hy z hz=>?_⟩
   rcases List.mem_cons.1 hz with rfl|hz
   ·exact ⟨ht y hy,fun _=>Nat.le_of_lt (h1 y (hm y hy) z (List.mem_cons_self ..))⟩
   ·exact h7 y hy z hz
  ·rcases List.mem_append.1 ((insW_perm _ x l).mem_iff.1 hy) with hy|hy
   ·exact h1 y hy z (List.mem_cons_of_mem _ hz)
   ·rw [List.mem_singleton.1 hy];exact h3 z hz
theorem stab_ins {lt leb:α→α→Bool} {le:α→α→Prop} (hb:∀ x y,leb x y=true↔le x y) (tr:∀ x y z,le x y→le y z→le x z) (to:∀ x y,le x y∨le y x) (hlt:∀ x y,lt y x=true↔¬ le x y) (l:List α):stab lt l=insL leb [] l:=by
 have h:=stab_eq (lt:=lt) (le:=le) tr to hlt l (insL (fun a b=>leb a.1 b.1) [] (tagN 0 l)) (insL_perm _ _ []) (insL_srd hb tr to _ [] .nil (fun _ h=>by cases h) (tagN_lt 0 l))
 rw [h,insL_fst,tagN_fst]
 rfl
end
section
variable {α:Type}
structure Ord (lt:α→α→Bool):Prop where
 irrefl:∀ a,lt a a=false
 trans:∀ a b c,lt a b=true→lt b c=true→lt a c=true
 conn:∀ a b,lt a b=false→lt b a=false→a=b
def SI (lt:α→α→Bool) (l:List α):Prop:=l.Pairwise (fun a b=>lt a b=true)
theorem SI.ext {lt:α→α→Bool} (O:Ord lt):∀ {a b:List α},SI lt a→SI lt b→(∀ x,x∈a↔x∈b)→a=b
 | [],[],_,_,_=>rfl
 | [],y :: b,_,_,h=>by have:=(h y).2 (by simp);simp at this
 | x :: a,[],_,_,h=>by have:=(h x).1 (by simp);simp at this
 | x :: a,y :: b,ha,hb,h=>by
  have ha':=List.pairwise_cons.1 ha
  have hb':=List.pairwise_cons.1 hb
  have asym:∀ u v,lt u v=true→lt v u=true→False:=fun u v h1 h2=>by
   have:=O.trans u v u h1 h2
   rw [O.irrefl] at this
   cases this
  have hxy:x=y:=by
   have h1:=(h x).1 (by simp)
   have h2:=(h y).2 (by simp)
   rcases List.mem_cons.1 h1 with e|h1
   ·exact e
   ·rcases List.mem_cons.1 h2 with e|h2
    ·exact e.symm
    ·exact (asym _ _ (hb'.1 x h1) (ha'.1 y h2)).elim
  subst hxy
  congr 1
  refine SI.ext O ha'.2 hb'.2 fun z=>⟨fun hz=>?_,fun hz=>?_⟩
  ·rcases List.mem_cons.1 ((h z).1 (by simp [hz])) with e|h1
   ·have:=ha'.1 z hz
    rw [e,O.irrefl] at this
    cases this
   ·exact h1
  ·rcases List.mem_cons.1 ((h z).2 (by simp [hz])) with e|h1
   ·have:=hb'.1 z hz
    rw [e,O.irrefl] at this
    cases this
   ·exact h1
section insert
variable [DecidableEq α]
def ins (lt:α→α→Bool) (n:α) (l:List α):List α:=l.takeWhile (lt · n)++n :: (l.dropWhile (lt · n)).filter (fun x=>decide (¬ x=n))
theorem mem_ins (lt:α→α→Bool) (n:α) (l:List α) (x:α):x∈ins lt n l↔x=n∨x∈l:=by
 have hs:x∈l↔x∈l.takeWhile (lt · n)∨x∈l.dropWhile (lt · n):=by
  rw [← List.mem_append,List.takeWhile_append_dropWhile]
 unfold ins
 rw [List.mem_append,List.mem_cons,List.mem_filter,hs,decide_eq_true_eq]
 by_cases e:x=n <;> simp [e]
omit [DecidableEq α] in
theorem takeWhile_all {p:α→Bool}:∀ {l:List α},∀ x∈l.takeWhile p,p x=true
 | [],x,h=>by simp at h
 | a :: l,x,h=>by
  rw [List.takeWhile_cons] at h
  split at h
  ·rcases List.mem_cons.1 h with e|h
   ·rw [e];assumption
   ·exact takeWhile_all x h
  ·simp at h
omit [DecidableEq α] in
theorem SI.drop_ge {lt:α→α→Bool} (O:Ord lt) {n:α}:∀ {l:List α},SI lt l→∀ x∈l.dropWhile (lt · n),lt x n=false
 | [],_,x,h=>by simp at h
 | a :: l,hs,x,h=>by
  rw [List.dropWhile_cons] at h
  split at h
  ·exact SI.drop_ge O (List.pairwise_cons.1 hs).2 x h
  ·rename_i hn
   have hn:lt a n=false:=by simpa using hn
   rcases List.mem_cons.1 h with e|h
   ·rw [e];exact hn
   ·cases hx:lt x n
    ·rfl
    ·have:=O.trans a x n ((List.pairwise_cons.1 hs).1 x h) hx
     rw [hn] at this
     cases this
theorem SI.ins {lt:α→α→Bool} (O:Ord lt) {n:α} {l:List α} (h:SI lt l):SI lt (ins lt n l):=by
 have hp:SI lt (l.takeWhile (lt · n)++l.dropWhile (lt · n)):=by rw [List.takeWhile_append_dropWhile];exact h
 obtain ⟨h1,h2,h3⟩:=List.pairwise_append.1 hp
 unfold Cg.ins
 refine List.pairwise_append.2 ⟨h1,List.pairwise_cons.2 ⟨fun x hx=>?_,h2.filter _⟩,fun x hx y hy=>?_⟩
 ·obtain ⟨hx,hn⟩:=List.mem_filter.1 hx
  have hn:¬ x=n:=by simpa using hn
  have hge:=SI.drop_ge O h x hx
  cases hnx:lt n x
  ·exact absurd (O.conn x n hge hnx) hn
  ·rfl
 ·rcases List.mem_cons.1 hy with e|hy
  ·rw [e];exact takeWhile_all x hx
  ·exact h3 x hx y (List.mem_filter.1 hy).1
def insAll (lt:α→α→Bool) (o:List α) (l:List α):List α:=l.foldl (fun o x=>ins lt x o) o
theorem insAll_snoc (lt:α→α→Bool) (o l:List α) (x:α):insAll lt o (l++[x])=ins lt x (insAll lt o l):=by rw [insAll,List.foldl_append];rfl
theorem insAll_si {lt:α→α→Bool} (O:Ord lt) (l:List α):∀ {o:List α},SI lt o→SI lt (insAll lt o l):=by
 induction l with
 | nil=>exact fun h=>h
 | cons a l ih=>exact fun h=>ih (h.ins O)
theorem mem_insAll (lt:α→α→Bool) (l:List α):∀ (o:List α) (x:α),x∈insAll lt o l↔x∈o∨x∈l:=by
 induction l with
 | nil=>intro o x;simp [insAll]
 | cons a l ih=>
  intro o x
  show x∈insAll lt (ins lt a o) l↔_
  rw [ih,mem_ins,List.mem_cons]
  constructor
  ·rintro ((h|h)|h)
   ·exact .inr (.inl h)
   ·exact .inl h
   ·exact .inr (.inr h)
  ·rintro (h|h|h)
   ·exact .inl (.inr h)
   ·exact .inl (.inl h)
   ·exact .inr h
theorem ins_len (lt:α→α→Bool) (n:α) (l:List α):(ins lt n l).length≤l.length+1:=by
 have h1:(l.takeWhile (lt · n)).length+(l.dropWhile (lt · n)).length=l.length:=by rw [← List.length_append,List.takeWhile_append_dropWhile]
 have h2:=List.length_filter_le (fun x=>decide (¬ x=n)) (l.dropWhile (lt · n))
 unfold ins
 rw [List.length_append,List.length_cons]
 omega
theorem insAll_len (lt:α→α→Bool) (l:List α):∀ o:List α,(insAll lt o l).length≤o.length+l.length:=by
 induction l with
 | nil=>exact fun o=>Nat.le_refl _
 | cons a l ih=>
  intro o
  have h1:=ih (ins lt a o)
  have h2:=ins_len lt a o
  show (insAll lt (ins lt a o) l).length≤_
  rw [List.length_cons]
  omega
def insStep (lt:α→α→Bool) (n:α) (s:List α × Bool) (x:α):List α × Bool:=
 if s.2=false∧lt x n=false then (if x=n then s.1++[n] else s.1++[n]++[x],true) else (if x=n then s.1 else s.1++[x],s.2)
theorem insStep_done (lt:α→α→Bool) (n:α):∀ (l:List α) (o:List α),l.foldl (insStep lt n) (o,true)=(o++l.filter (fun x=>decide (¬ x=n)),true)
 | [],o=>by simp
 | a :: l,o=>by
  rw [List.foldl_cons]
  have:insStep lt n (o,true) a=(if a=n then o else o++[a],true):=by simp [insStep]
  rw [this,insStep_done lt n l]
  by_cases e:a=n <;> simp [e]
theorem insStep_open (lt:α→α→Bool) (O:Ord lt) (n:α):∀ (l:List α) (o:List α),(if (l.foldl (insStep lt n) (o,false)).2 then (l.foldl (insStep lt n) (o,false)).1 else (l.foldl (insStep lt n) (o,false)).1++[n])=o++ins lt n l
 | [],o=>by simp [ins]
 | a :: l,o=>by
  rw [List.foldl_cons]
  cases h:lt a n
  ·have:insStep lt n (o,false) a=(if a=n then o++[n] else o++[n]++[a],true):=by simp [insStep,h]
   rw [this,insStep_done lt n l]
   by_cases e:a=n <;> simp [e,ins,h,O.irrefl]
  ·have ne:¬ a=n:=fun e=>by rw [e,O.irrefl] at h;cases h
   have:insStep lt n (o,false) a=(o++[a],false):=by simp [insStep,h,ne]
   rw [this,insStep_open lt O n l]
   simp [ins,h]
end insert
section compact
variable [Inhabited α] [DecidableEq α]
open Go.Lib
theorem compactUpTo_si {lt:α→α→Bool} (O:Ord lt) (d:Array α) (hs:∀ j k,j < k→k < d.size→lt d[k]! d[j]! = false):∀ m,m≤d.size→SI lt (compactUpTo d m)∧(∀ x,x∈compactUpTo d m↔∃ j,j < m∧d[j]! = x)
 | 0,_=>⟨List.Pairwise.nil,fun x=>by simp [compactUpTo]⟩
 | m+1,hm=>by
  obtain ⟨h1,h2⟩:=compactUpTo_si O d hs m (by omega)
  rw [compactUpTo_succ]
  cases hk:keeps d m
  ·have hk:¬ (m=0∨d[m]!≠d[m - 1]!):=of_decide_eq_false hk
   have hm0:¬ m=0:=fun e=>hk (.inl e)
   have he:d[m]! = d[m - 1]!:=Decidable.byContradiction fun e=>hk (.inr e)
   rw [if_neg (by decide),List.append_nil]
   refine ⟨h1,fun x=>?_⟩
   rw [h2]
   constructor
   ·rintro ⟨j,hj,e⟩;exact ⟨j,by omega,e⟩
   ·rintro ⟨j,hj,e⟩
    by_cases hjm:j=m
    ·exact ⟨m - 1,by omega,by rw [← he,← hjm];exact e⟩
    ·exact ⟨j,by omega,e⟩
  ·have hk:m=0∨d[m]!≠d[m - 1]!:=of_decide_eq_true hk
   rw [if_pos rfl]
   refine ⟨List.pairwise_append.2 ⟨h1,List.pairwise_singleton _ _,fun x hx y hy=>?_⟩,fun x=>?_⟩
   ·rw [List.mem_singleton.1 hy]
    obtain ⟨j,hj,rfl⟩:=(h2 x).1 hx
    have g1:=hs j m hj (by omega)
    cases g:lt d[j]! d[m]!
    ·have e1:d[j]! = d[m]!:=O.conn _ _ g g1
     rcases hk with hk|hk
     ·omega
     ·exfalso
      apply hk
      by_cases hjm:j=m - 1
      ·rw [← hjm];exact e1.symm
      ·have g2:=hs j (m - 1) (by omega) (by omega)
       have g3:=hs (m - 1) m (by omega) (by omega)
       rw [e1] at g2
       exact O.conn _ _ g3 g2
    ·rfl
   ·rw [List.mem_append,h2,List.mem_singleton]
    constructor
    ·rintro (⟨j,hj,e⟩|e)
     ·exact ⟨j,by omega,e⟩
     ·exact ⟨m,by omega,e.symm⟩
    ·rintro ⟨j,hj,e⟩
     by_cases hjm:j=m
     ·right;rw [← e,hjm]
     ·left;exact ⟨j,by omega,e⟩
theorem compact_si {lt:α→α→Bool} (O:Ord lt) (l:List α) (hs:l.Pairwise (fun a b=>lt b a=false)):SI lt (compact l)∧∀ x,x∈compact l↔x∈l:=by
 have hg:∀ j (hj:j < l.length),l.toArray[j]! = l[j]:=fun j hj=>by simp [getElem!_pos,hj]
 obtain ⟨h1,h2⟩:=compactUpTo_si O l.toArray (fun j k hjk hk=>by
  have hk':k < l.length:=by simpa using hk
  rw [hg k hk',hg j (by omega)]
  exact List.pairwise_iff_getElem.1 hs j k (by omega) hk' hjk) l.length (by simp)
 refine ⟨h1,fun x=>?_⟩
 show x∈compactUpTo l.toArray l.length↔_
 rw [h2,List.mem_iff_getElem]
 constructor
 ·rintro ⟨j,hj,e⟩;exact ⟨j,hj,by rw [← hg j hj];exact e⟩
 ·rintro ⟨j,hj,e⟩;exact ⟨j,hj,by rw [hg j hj];exact e⟩
theorem sort_compact_si {lt:α→α→Bool} (O:Ord lt) (le:α→α→Bool) (hle:∀ a b,le a b=!lt b a) (l:List α):SI lt (compact (l.mergeSort le))∧∀ x,x∈compact (l.mergeSort le)↔x∈l:=by
 have asym:∀ u v,lt u v=true→lt v u=false:=fun u v h1=>by
  cases h2:lt v u
  ·rfl
  ·have:=O.trans u v u h1 h2
   rw [O.irrefl] at this
   cases this
 have hp:=List.pairwise_mergeSort (le:=le) (fun a b c h1 h2=>by
  rw [hle,Bool.not_eq_true'] at *
  cases h:lt c a
  ·rfl
  ·cases hb:lt b c
   ·have e:b=c:=O.conn b c hb h2
    rw [e,h] at h1
    cases h1
   ·have:=O.trans b c a hb h
    rw [this] at h1
    cases h1) (fun a b=>by
  rw [hle,hle,Bool.or_eq_true,Bool.not_eq_true',Bool.not_eq_true']
  cases h:lt b a
  ·exact .inl rfl
  ·exact .inr (asym _ _ h)) l
 obtain ⟨h1,h2⟩:=compact_si O (l.mergeSort le) (hp.imp fun {a b} h=>by
  have h:le a b=true:=h
  rw [hle,Bool.not_eq_true'] at h
  exact h)
 exact ⟨h1,fun x=>(h2 x).trans (List.mergeSort_perm l le).mem_iff⟩
end compact
end
end Cg
end
section
namespace Go.Proofs
open Go.Shelf
section
def Tryz.lays189_ren:Go.Shelf.Ren:=⟨fun|189=>118|125=>155|257=>154|128=>193|129=>194|294=>184|295=>185|296=>186|297=>187|298=>188|299=>189|216=>190|300=>191|301=>192|328=>219|329=>220|330=>221|331=>222|332=>223|215=>77|343=>230|n=>n,fun|28=>25|3=>3|46=>199|0=>0|51=>222|53=>29|4=>4|183=>216|182=>215|131=>138|5=>5|9=>9|218=>235|222=>239|228=>244|229=>245|n=>n,fun|n=>n⟩
theorem Tryz.lays189:Go.Proofs.Lays.n189 Tryz.prog Tryz.lays189_ren:={
 mixed:=by kernel_rfl
 f125:=Tryz.func155.trans (congrArg some (by kernel_rfl))
 f128:=Tryz.func193.trans (congrArg some (by kernel_rfl))
 f129:=Tryz.func194.trans (congrArg some (by kernel_rfl))
 f189:=Tryz.func118.trans (congrArg some (by kernel_rfl))
 f215:=Tryz.func77.trans (congrArg some (by kernel_rfl))
 f216:=Tryz.func190.trans (congrArg some (by kernel_rfl))
 f257:=Tryz.func154.trans (congrArg some (by kernel_rfl))
 f294:=Tryz.func184.trans (congrArg some (by kernel_rfl))
 f295:=Tryz.func185.trans (congrArg some (by kernel_rfl))
 f296:=Tryz.func186.trans (congrArg some (by kernel_rfl))
 f297:=Tryz.func187.trans (congrArg some (by kernel_rfl))
 f298:=Tryz.func188.trans (congrArg some (by kernel_rfl))
 f299:=Tryz.func189.trans (congrArg some (by kernel_rfl))
 f300:=Tryz.func191.trans (congrArg some (by kernel_rfl))
 f301:=Tryz.func192.trans (congrArg some (by kernel_rfl))
 f328:=Tryz.func219.trans (congrArg some (by kernel_rfl))
 f329:=Tryz.func220.trans (congrArg some (by kernel_rfl))
 f330:=Tryz.func221.trans (congrArg some (by kernel_rfl))
 f331:=Tryz.func222.trans (congrArg some (by kernel_rfl))
 f332:=Tryz.func223.trans (congrArg some (by kernel_rfl))
 f343:=Tryz.func230.trans (congrArg some (by kernel_rfl))
 t0:=Tryz.underlying0
 a0:=Tryz.isAgg0
 z0:=Tryz.sizeOf0
 v0:=Tryz.zeroValue0
 t3:=Tryz.underlying3
 a3:=Tryz.isAgg3
 z3:=Tryz.sizeOf3
 v3:=Tryz.zeroValue3
 t4:=Tryz.underlying4
 a4:=Tryz.isAgg4
 z4:=Tryz.sizeOf4
 v4:=Tryz.zeroValue4
 t5:=Tryz.underlying5
 a5:=Tryz.isAgg5
 z5:=Tryz.sizeOf5
 v5:=Tryz.zeroValue5
 t9:=Tryz.underlying9
 a9:=Tryz.isAgg9
 z9:=Tryz.sizeOf9
 v9:=Tryz.zeroValue9
 t28:=Tryz.underlying25
 a28:=Tryz.isAgg25
 z28:=Tryz.sizeOf25
 v28:=Tryz.zeroValue25
 t46:=Tryz.underlying199
 a46:=Tryz.isAgg199
 z46:=Tryz.sizeOf199
 v46:=Tryz.zeroValue199
 t51:=Tryz.underlying222
 a51:=Tryz.isAgg222
 z51:=Tryz.sizeOf222
 v51:=Tryz.zeroValue222
 t53:=Tryz.underlying29
 a53:=Tryz.isAgg29
 z53:=Tryz.sizeOf29
 v53:=Tryz.zeroValue29
 t131:=Tryz.underlying138
 a131:=Tryz.isAgg138
 z131:=Tryz.sizeOf138
 v131:=Tryz.zeroValue138
 t182:=Tryz.underlying215
 a182:=Tryz.isAgg215
 z182:=Tryz.sizeOf215
 v182:=Tryz.zeroValue215
 t183:=Tryz.underlying216
 a183:=Tryz.isAgg216
 z183:=Tryz.sizeOf216
 v183:=Tryz.zeroValue216
 t218:=Tryz.underlying235
 a218:=Tryz.isAgg235
 z218:=Tryz.sizeOf235
 v218:=Tryz.zeroValue235
 t222:=Tryz.underlying239
 a222:=Tryz.isAgg239
 z222:=Tryz.sizeOf239
 v222:=Tryz.zeroValue239
 t228:=Tryz.underlying244
 a228:=Tryz.isAgg244
 z228:=Tryz.sizeOf244
 v228:=Tryz.zeroValue244
 t229:=Tryz.underlying245
 a229:=Tryz.isAgg245
 z229:=Tryz.sizeOf245
 v229:=Tryz.zeroValue245 }
open Go.Sort Go.RowKit in
theorem Tryz.slices_Sort_int (blk off cap:Nat) (zs:List Int) (w:World) (hH:Holds (Value.int .i64) w blk off zs.toArray) (hblk:blk < w.heap.size) (hsz:zs.length < 4611686018427387904) :
  Calls Tryz.prog 118 #[.slice (some ⟨blk,off,none⟩) zs.length cap] w fun e w'=>
   e=.returned (.tuple #[])∧∃ n os,w'=grow (putRow (Value.int .i64) (Sort.ahead w n) blk off (zs.mergeSort fun x y=>decide (x≤y)).toArray) os:=Any.slices_Sort_int Tryz.lays189 blk off cap zs w hH hblk hsz
def Tryz.laysNm215_ren:Go.Shelf.Ren:=⟨fun|15=>68|n=>n,fun|22=>25|3=>3|4=>4|n=>n,fun|n=>n⟩
theorem Tryz.laysNm215:Go.Proofs.Lays2.n15 Tryz.prog Tryz.laysNm215_ren:={
 mixed:=by kernel_rfl
 f15:=Tryz.func68.trans (congrArg some (by kernel_rfl))
 t3:=Tryz.underlying3
 a3:=Tryz.isAgg3
 z3:=Tryz.sizeOf3
 v3:=Tryz.zeroValue3
 t4:=Tryz.underlying4
 a4:=Tryz.isAgg4
 z4:=Tryz.sizeOf4
 v4:=Tryz.zeroValue4
 t22:=Tryz.underlying25
 a22:=Tryz.isAgg25
 z22:=Tryz.sizeOf25
 v22:=Tryz.zeroValue25
 i3:=by kernel_rfl }
open Go.RowKit Go.Lib in
theorem Tryz.slices_Clone_int (b off n c:Nat) (zs:List Int) (w:World) (hz:n≤zs.length) (hbig:n*8≤140737488355328) (hc:∀ j,j < zs.length→w.cell? ⟨b,off+j,none⟩=some (.int .i64 (zs.getD j 0))) :
  Calls Tryz.prog 68 #[.slice (some ⟨b,off,none⟩) n c] w fun e w'=>∃ v',e=.returned v'∧w'.ownsRow w.heap.size 3 1 v' n ((zs.take n).map (Value.int .i64))∧v'≠.slice none 0 0∧Below w.heap.size w w':=Any.slices_Clone_int Tryz.laysNm215 b off n c zs w hz hbig hc
open Go.RowKit Go.Lib in
theorem Tryz.slices_Clone_int_nil (n c:Nat) (w:World) :
  Calls Tryz.prog 68 #[.slice none n c] w fun e w'=>e=.returned (.slice none 0 0)∧w'=w:=Any.slices_Clone_int_nil Tryz.laysNm215 n c w
open Go.RowKit Go.Lib in
theorem Tryz.slices_Clone_int_zero (a:Addr) (c:Nat) (w:World) :
  Calls Tryz.prog 68 #[.slice (some a) 0 c] w fun e w'=>∃ v',e=.returned v'∧w'.ownsRow w.heap.size 3 1 v' 0 []∧v'≠.slice none 0 0∧Below w.heap.size w w':=Any.slices_Clone_int_zero Tryz.laysNm215 a c w
def Tryz.laysNm220_ren:Go.Shelf.Ren:=⟨fun|20=>119|n=>n,fun|22=>25|3=>3|4=>4|0=>0|n=>n,fun|n=>n⟩
theorem Tryz.laysNm220:Go.Proofs.Lays2.n20 Tryz.prog Tryz.laysNm220_ren:={
 mixed:=by kernel_rfl
 f20:=Tryz.func119.trans (congrArg some (by kernel_rfl))
 t0:=Tryz.underlying0
 a0:=Tryz.isAgg0
 z0:=Tryz.sizeOf0
 v0:=Tryz.zeroValue0
 t3:=Tryz.underlying3
 a3:=Tryz.isAgg3
 z3:=Tryz.sizeOf3
 v3:=Tryz.zeroValue3
 t4:=Tryz.underlying4
 a4:=Tryz.isAgg4
 z4:=Tryz.sizeOf4
 v4:=Tryz.zeroValue4
 t22:=Tryz.underlying25
 a22:=Tryz.isAgg25
 z22:=Tryz.sizeOf25
 v22:=Tryz.zeroValue25
 i3:=by kernel_rfl }
open Go.RowKit Go.Lib Go.Sort in
theorem Tryz.slices_Compact_int (blk off cap:Nat) (zs:List Int) (w:World) (hH:Holds (Value.int .i64) w blk off zs.toArray) (hsz:zs.length≤9223372036854775807) (hcap:zs.length≤cap) :
  Calls Tryz.prog 119 #[.slice (some ⟨blk,off,none⟩) zs.length cap] w fun e w'=>e=.returned (.slice (some ⟨blk,off,none⟩) (Lib.compact zs).length cap)∧∃ q,w'=putRow (Value.int .i64) (Sort.ahead w q) blk off (Lib.compact zs++List.replicate (zs.length - (Lib.compact zs).length) 0).toArray:=Any.slices_Compact_int Tryz.laysNm220 blk off cap zs w hH hsz hcap
open Go.RowKit Go.Lib Go.Sort in
theorem Tryz.slices_Compact_int_empty (a:Option Addr) (cap:Nat) (w:World) :
  Calls Tryz.prog 119 #[.slice a 0 cap] w fun e w'=>e=.returned (.slice a 0 cap)∧w'=w:=Any.slices_Compact_int_empty Tryz.laysNm220 a cap w
open Go.RowKit Go.Sort in
theorem Tryz.slices_Sort_int_none (p:Option Addr) (cap:Nat) (w:World) :
  Calls Tryz.prog 118 #[.slice p 0 cap] w fun e w'=>e=.returned (.tuple #[])∧w'=w:=Any.slices_Sort_int_none Tryz.lays189 p cap w
end
end Go.Proofs
end
section
namespace Go.Proofs.YtpibcdnagnjokaaGreat
open Go Go.RowKit Go.Sort Go.Lib Cg
def leZ (x y:Int):Bool:=decide (x≤y)
theorem clone_i (v:Value) (xs:List Int) (w:World) (h:RowAt (Value.int .i64) w v xs) (hn:xs.length≤1000000) :
  Calls Tryz.prog 68 #[v] w fun e w'=>∃ v',e=.returned v'∧w'.ownsRow w.heap.size 3 1 v' xs.length (xs.map (Value.int .i64))∧Below w.heap.size w w':=by
 rcases h.cases with ⟨rfl,ao,cap,rfl⟩|⟨_,b,o,cap,rfl,_,_,hc⟩
 ·cases ao with
  | none=>exact (Tryz.slices_Clone_int_nil _ _ _).mono fun e w' ⟨h1,h2⟩=>⟨_,h1,World.ownsRow_nil _ _ _ _,h2▸Below.refl _ _⟩
  | some a=>exact (Tryz.slices_Clone_int_zero a _ _).mono fun e w' ⟨v',h1,h2,_,h4⟩=>⟨v',h1,h2,h4⟩
 ·exact (Tryz.slices_Clone_int b o xs.length cap xs w (Nat.le_refl _) (by omega) (cells_getD 0 hc)).mono fun e w' ⟨v',h1,h2,_,h4⟩=>⟨v',h1,by rw [List.take_length] at h2;exact h2,h4⟩
theorem sort_i (B:Nat) (v:Value) (xs:List Int) (w:World) (h:w.ownsRow B 3 1 v xs.length (xs.map (Value.int .i64))) (hB:B≤w.heap.size) (hn:xs.length≤1000000) :
  Calls Tryz.prog 118 #[v] w fun e w'=>e=.returned (.tuple #[])∧w'.ownsRow B 3 1 v xs.length ((xs.mergeSort leZ).map (Value.int .i64))∧Below B w w':=by
 by_cases hv:v=.slice none 0 0
 ·subst hv
  have h0:xs.length=0:=by
   rcases h.2 with ⟨_,h0⟩|⟨g,cap,cur,he,_⟩
   ·exact h0
   ·cases he
  have:xs=[]:=List.eq_nil_of_length_eq_zero h0
  subst this
  exact (Tryz.slices_Sort_int_none none 0 w).mono fun e w' ⟨h1,h2⟩=>⟨h1,by rw [h2,List.mergeSort_nil];exact World.ownsRow_nil _ _ _ _,by rw [h2];exact Below.refl _ _⟩
 ·obtain ⟨g,cap,rfl,hbg,hlt,_,_,_,hH⟩:=holds_of_ownsRow h hv
  refine (Tryz.slices_Sort_int g 0 cap xs w hH hlt (by omega)).mono fun e w' ⟨h1,n,os,h2⟩=>⟨h1,?_,?_⟩
  ·rw [h2]
   have h3:=ownsRow_putRow (q:=n) (ys:=xs.mergeSort leZ) h (List.length_mergeSort xs) (Nat.le_refl _)
   rw [List.take_of_length_le (Nat.le_of_eq (List.length_mergeSort xs))] at h3
   refine own_block h3 ?_
   exact below_grow (Below.refl _ _) (Nat.le_refl _) os
  ·rw [h2]
   exact below_grow (below_putRow (Below.refl _ _) hbg) (by rw [size_putRow];exact hB) os
theorem compact_i (B:Nat) (v:Value) (xs:List Int) (w:World) (h:w.ownsRow B 3 1 v xs.length (xs.map (Value.int .i64))) (hn:xs.length≤1000000) :
  Calls Tryz.prog 119 #[v] w fun e w'=>∃ v',e=.returned v'∧w'.ownsRow B 3 1 v' (Lib.compact xs).length ((Lib.compact xs).map (Value.int .i64))∧Below B w w':=by
 by_cases hv:v=.slice none 0 0
 ·subst hv
  have h0:xs.length=0:=by
   rcases h.2 with ⟨_,h0⟩|⟨g,cap,cur,he,_⟩
   ·exact h0
   ·cases he
  have:xs=[]:=List.eq_nil_of_length_eq_zero h0
  subst this
  exact (Tryz.slices_Compact_int_empty none 0 w).mono fun e w' ⟨h1,h2⟩=>⟨_,h1,by rw [h2];exact World.ownsRow_nil _ _ _ _,by rw [h2];exact Below.refl _ _⟩
 ·obtain ⟨g,cap,rfl,hbg,hlt,hcap,_,_,hH⟩:=holds_of_ownsRow h hv
  have hl:=compact_length_le xs
  refine (Tryz.slices_Compact_int g 0 cap xs w hH (by omega) hcap).mono fun e w' ⟨h1,n,h2⟩=>⟨_,h1,?_,?_⟩
  ·rw [h2]
   have h3:=ownsRow_putRow (q:=n) (ys:=Lib.compact xs++List.replicate (xs.length - (Lib.compact xs).length) 0) h (by rw [List.length_append,List.length_replicate];omega) hl
   rw [List.take_left] at h3
   exact h3
  ·rw [h2]
   exact below_putRow (Below.refl _ _) hbg
def ltZ (x y:Int):Bool:=decide (x < y)
theorem ltZ_ord:Ord ltZ where
 irrefl:=fun a=>by simp [ltZ]
 trans:=fun a b c h1 h2=>by simp [ltZ] at *;omega
 conn:=fun a b h1 h2=>by simp [ltZ] at *;omega
theorem leZ_ltZ (a b:Int):leZ a b=!ltZ b a:=by
 unfold leZ ltZ
 by_cases h:a≤b
 ·rw [decide_eq_true h,decide_eq_false (by omega)];rfl
 ·rw [decide_eq_false h,decide_eq_true (by omega)];rfl
def osort (xs:List Int):List Int:=Lib.compact (xs.mergeSort leZ)
theorem osort_si (xs:List Int):SI ltZ (osort xs)∧∀ x,x∈osort xs↔x∈xs:=sort_compact_si ltZ_ord leZ leZ_ltZ xs
theorem osort_len (xs:List Int):(osort xs).length≤xs.length:=by
 have h:=Lib.compact_length_le (xs.mergeSort leZ)
 rw [List.length_mergeSort] at h
 exact h
theorem osort_ins (xs:List Int):osort xs=insAll ltZ [] xs:=
 (osort_si xs).1.ext ltZ_ord (insAll_si ltZ_ord xs List.Pairwise.nil) fun x=>by rw [(osort_si xs).2,mem_insAll];simp
theorem distinct_prog (v:Value) (xs:List Int) (w:World) (h:RowAt (Value.int .i64) w v xs) (hn:xs.length≤1000000) :
  Calls Tryz.prog 78 #[v] w fun e w'=>∃ v',e=.returned v'∧w'.ownsRow w.heap.size 3 1 v' (osort xs).length ((osort xs).map (Value.int .i64))∧Below w.heap.size w w':=by
 have H:=Lib.hid h
 clear h
 go_enter Tryz.func78,Tryz.ntmps78
 go_wp2_with fail
 refine (clone_i v xs _ H.out hn).mono ?_
 rintro e w1 ⟨v1,rfl,o1,b1⟩
 go_wp2_with fail
 refine (sort_i w.heap.size v1 xs _ o1 b1.size hn).mono ?_
 rintro e w2 ⟨rfl,o2,b2⟩
 go_wp2_with fail
 have hl:(xs.mergeSort leZ).length=xs.length:=List.length_mergeSort xs
 rw [← hl] at o2
 refine (compact_i w.heap.size v1 (xs.mergeSort leZ) _ o2 (by omega)).mono ?_
 rintro e w3 ⟨v3,rfl,o3,b3⟩
 go_wp2_with fail
 go_ret
 exact ⟨_,rfl,o3,(b1.trans b2).trans b3⟩
end Go.Proofs.YtpibcdnagnjokaaGreat
end
section
namespace Go.Proofs.YtpibcdnagnjokaaGreat
open Go Cg
def ixI (l:List Int) (n:Int):Int:=fidx (fun m=>m==n) l
def hasI (l:List Int) (n:Int):Bool:=decide (ixI l n≥0)
def onceM:List Int→List Int→List Int
 | l,[]=>l
 | l,x :: r=>onceM (if hasI l x=true then l else l++[x]) r
def plIds (o:List Int) (p:GPlayer):List Int:=onceM (onceM (onceM o p.library) p.hand) p.graveyard
def stIds (o:List Int) (x:GItem):List Int:=onceM o [x.id]
def idsM (s:GState):List Int:=s.stack.foldl stIds (s.players.foldl plIds (onceM (onceM [] s.battlefield) s.exile))
def rankM (l:List Int) (id:Int):Int:=if id≤0 then id else ixI l id+1
def timeM (l:List Int) (n:Int):Int:=ixI l n+1
def stampsM (s:GState):List Int:=insAll ltZ [] (s.objects.map (fun o=>o.stamp)++s.conts.map fun c=>c.stamp)
def evN (ρ:Int→Int) (e:GEvent):GEvent:={ e with source:=ρ e.source,object:=ρ e.object }
def obN (ρ τ:Int→Int) (o:GObject):GObject:={ o with id:=ρ o.id,blocks:=ρ o.blocks,stamp:=τ o.stamp }
def plN (ρ:Int→Int) (p:GPlayer):GPlayer:={ p with library:=p.library.map ρ,hand:=p.hand.map ρ,graveyard:=p.graveyard.map ρ }
def tgN (ρ:Int→Int) (t:GTarget):GTarget:={ t with object:=ρ t.object }
def itN (ρ:Int→Int) (x:GItem):GItem:={ x with id:=ρ x.id,source:=ρ x.source,event:=evN ρ x.event,targets:=x.targets.map (tgN ρ) }
def waN (ρ:Int→Int) (w:GWaiting):GWaiting:={ w with source:=ρ w.source,event:=evN ρ w.event }
def coN (ρ τ:Int→Int) (c:GCont):GCont:={ c with source:=ρ c.source,stamp:=τ c.stamp,objects:=insAll ltZ [] (c.objects.map ρ) }
def leO (a b:GObject):Bool:=decide (a.id≤b.id)
def normW (ρ τ:Int→Int) (s:GState):GState:={ s with players:=s.players.map (plN ρ),objects:=insL leO [] (s.objects.map (obN ρ τ)),battlefield:=s.battlefield.map ρ,exile:=s.exile.map ρ,stack:=s.stack.map (itN ρ),waiting:=s.waiting.map (waN ρ),conts:=s.conts.map (coN ρ τ),nextId:=1,nextStamp:=1,seed:=0,turn:=0 }
def normM (s:GState):GState:=normW (rankM (idsM s)) (timeM (stampsM s)) s
def tagI:Int→List Int→List (Int × Int)
 | _,[]=>[]
 | i,x :: r=>(x,i) :: tagI (i+1) r
def idP (m:List (Int × Int)) (n:Int):Int:=match mpGet m n with
 | some k=>k
 | none=>min n 0
theorem ixI_nil (n:Int):ixI [] n = -1:=rfl
theorem ixI_cons (x n:Int) (l:List Int):ixI (x :: l) n=if x=n then 0 else if ixI l n = -1 then -1 else ixI l n+1:=by
 unfold ixI fidx
 rw [List.findIdx?_cons]
 by_cases h:x=n
 ·subst h;simp
 ·have h2:(x==n)=false:=by simpa using h
  rw [h2,if_neg h]
  cases e:List.findIdx? (fun m=>m==n) l with
  | none=>simp
  | some i=>
   simp
   try omega
theorem ixI_ge (l:List Int) (n:Int):-1≤ixI l n:=by
 unfold ixI fidx
 split <;> omega
theorem ixI_lt (l:List Int) (n:Int):ixI l n < l.length:=by
 induction l with
 | nil=>rw [ixI_nil];simp
 | cons x l ih=>
  rw [ixI_cons,List.length_cons]
  split
  ·omega
  ·split <;> omega
theorem hasI_iff (l:List Int) (n:Int):hasI l n=true↔n∈l:=by
 induction l with
 | nil=>simp [hasI,ixI_nil]
 | cons x l ih=>
  have hg:=ixI_ge l n
  unfold hasI at ih ⊢
  rw [decide_eq_true_eq] at ih ⊢
  rw [ixI_cons,List.mem_cons,← ih]
  by_cases h:x=n
  ·rw [if_pos h];constructor
   ·exact fun _=>.inl h.symm
   ·exact fun _=>Int.le_refl 0
  ·rw [if_neg h]
   split
   ·constructor
    ·intro h2;omega
    ·rintro (h2|h2)
     ·exact absurd h2.symm h
     ·omega
   ·constructor
    ·intro h2;right;omega
    ·rintro (h2|h2)
     ·exact absurd h2.symm h
     ·omega
theorem mpGet_tag:∀ (l:List Int) (i n:Int),mpGet (tagI i l) n=if hasI l n=true then some (ixI l n+i) else none
 | [],i,n=>by simp [tagI,mpGet,hasI,ixI_nil]
 | x :: l,i,n=>by
  have hg:=ixI_ge l n
  rw [tagI,mpGet,mpGet_tag l (i+1) n]
  unfold hasI
  rw [ixI_cons]
  by_cases h:x=n
  ·subst h
   simp
  ·rw [if_neg (fun e=>h e.symm),if_neg h]
   by_cases h2:ixI l n = -1
   ·rw [if_pos h2,h2];simp
   ·rw [if_neg h2]
    have h3:ixI l n≥0:=by omega
    have h4:ixI l n+1≥0:=by omega
    rw [decide_eq_true h3,decide_eq_true h4]
    simp
    omega
theorem tagI_len:∀ (i:Int) (l:List Int),(tagI i l).length=l.length
 | _,[]=>rfl
 | i,x :: l=>by rw [tagI,List.length_cons,tagI_len,List.length_cons]
theorem tagI_snoc:∀ (i:Int) (l:List Int) (x:Int),tagI i (l++[x])=tagI i l++[(x,i+l.length)]
 | i,[],x=>by simp [tagI]
 | i,y :: l,x=>by
  rw [List.cons_append,tagI,tagI_snoc (i+1) l x,tagI,List.cons_append,List.length_cons]
  congr 4
  omega
theorem mpPut_new {m:List (Int × Int)} {n v:Int}:mpGet m n=none→mpPut m n v=m++[(n,v)]:=by
 induction m with
 | nil=>exact fun _=>rfl
 | cons p r ih=>
  intro h
  rw [mpGet] at h
  split at h
  ·cases h
  ·rename_i h2
   rw [mpPut,if_neg h2,ih h,List.cons_append]
theorem idP_rank {l:List Int} (h:∀ x∈l,0 < x) (n:Int):idP (tagI 1 l) n=rankM l n:=by
 unfold idP rankM
 rw [mpGet_tag]
 by_cases hn:hasI l n=true
 ·rw [if_pos hn]
  have:=h n ((hasI_iff l n).1 hn)
  rw [if_neg (by omega)]
 ·rw [if_neg hn]
  have h1:=ixI_ge l n
  have h2:¬ ixI l n≥0:=by simpa [hasI] using hn
  show min n 0=_
  split <;> omega
theorem time_tag (l:List Int) (n:Int):(mpGet (tagI 1 l) n).getD 0=timeM l n:=by
 unfold timeM
 rw [mpGet_tag]
 have h1:=ixI_ge l n
 by_cases hn:hasI l n=true
 ·rw [if_pos hn];rfl
 ·rw [if_neg hn]
  have h2:¬ ixI l n≥0:=by simpa [hasI] using hn
  show (0:Int)=_
  omega
theorem onceM_pos:∀ (l o:List Int),(∀ x∈o,0 < x)→(∀ x∈l,0 < x)→∀ x∈onceM o l,0 < x
 | [],o,h,_=>h
 | y :: l,o,h,h2=>by
  rw [onceM]
  refine onceM_pos l _ ?_ fun x hx=>h2 x (List.mem_cons_of_mem _ hx)
  split
  ·exact h
  ·intro x hx
   rcases List.mem_append.1 hx with hx|hx
   ·exact h x hx
   ·rw [List.mem_singleton.1 hx];exact h2 y (List.mem_cons_self ..)
theorem foldl_posm {α:Type} {f:List Int→α→List Int}:∀ (l:List α) (o:List Int),(∀ a∈l,∀ o,(∀ x∈o,(0:Int) < x)→∀ x∈f o a,(0:Int) < x)→(∀ x∈o,(0:Int) < x)→∀ x∈l.foldl f o,(0:Int) < x
 | [],_,_,h=>h
 | a :: l,o,hf,h=>by rw [List.foldl_cons];exact foldl_posm l _ (fun b hb=>hf b (List.mem_cons_of_mem _ hb)) (hf a (List.mem_cons_self ..) o h)
theorem onceM_len:∀ (l o:List Int),(onceM o l).length≤o.length+l.length
 | [],o=>by simp [onceM]
 | y :: l,o=>by
  rw [onceM]
  refine Nat.le_trans (onceM_len l _) ?_
  split
  ·simp;try omega
  ·simp;try omega
def pmF {α:Type} (f:α→α) (k:Nat) (l:List α):List α:=(l.take k).map f++l.drop k
theorem pm_len {α:Type} (f:α→α) (k:Nat) (l:List α):(pmF f k l).length=l.length:=by
 unfold pmF
 rw [List.length_append,Lm,List.length_take,List.length_drop]
 omega
theorem pm_all {α:Type} (f:α→α) (l:List α):pmF f l.length l=l.map f:=by simp [pmF]
theorem pm_get {α:Type} (f:α→α) {k:Nat} {l:List α} (h:k < l.length):(pmF f k l)[k]? = some l[k]:=by
 unfold pmF
 rw [List.getElem?_append_right (by rw [Lm,List.length_take];omega),Lm,List.length_take,List.getElem?_drop]
 rw [show k+(k - min k l.length)=k by omega,List.getElem?_eq_getElem h]
theorem pm_set {α:Type} (f:α→α) {k:Nat} {l:List α} (h:k < l.length):(pmF f k l).set k (f l[k])=pmF f (k+1) l:=by
 unfold pmF
 rw [List.set_append_right _ _ (by rw [Lm,List.length_take];omega),Lm,List.length_take,show k - min k l.length=0 by omega,List.drop_eq_getElem_cons h,List.set_cons_zero,List.take_succ_eq_append_getElem h,List.map_append,List.append_assoc]
 rfl
theorem pmm_len {α:Type} (f:α→α) (e:α→List Tr) {k:Nat} {l:List α} (h:k < l.length):k < ((pmF f k l).map e).length:=by rw [Lm,pm_len];exact h
theorem pmm_get {α:Type} (f:α→α) (e:α→List Tr) {k:Nat} {l:List α} (h:k < l.length):((pmF f k l).map e)[k]? = some (e l[k]):=by
 rw [List.getElem?_map,pm_get f h]
 rfl
theorem pmm_set {α:Type} (f:α→α) (e:α→List Tr) {k:Nat} {l:List α} (h:k < l.length):((pmF f k l).map e).set k (e (f l[k]))=(pmF f (k+1) l).map e:=by rw [← List.map_set,pm_set f h]
theorem pmm_all {α:Type} (f:α→α) (e:α→List Tr) {k:Nat} {l:List α} (h:k=l.length):(pmF f k l).map e=(l.map f).map e:=by rw [h,pm_all]
structure SmL (s:GState):Prop where
 ob:s.objects.length≤300
 bf:s.battlefield.length≤300
 ex:s.exile.length≤300
 np:s.players.length≤10
 pl:∀ p∈s.players,p.library.length≤300∧p.hand.length≤300∧p.graveyard.length≤300
 st:s.stack.length≤300
 co:s.conts.length≤300
theorem lim8 {n:Nat} (h:n≤100000):n*8≤limB:=by unfold limB;omega
theorem stm_step {α:Type} (f:α→Int) (l:List α) (k:Nat) (hk:k < l.length):(l.take (k+1)).map f=(l.take k).map f++[f l[k]]:=by
 rw [List.take_succ_eq_append_getElem hk,List.map_append]
 rfl
structure SnI (s:GState) (i p:Int):Prop where
 up:p≤(i+1)*200000000000000
 ob:(s.objects.length:Int)≤p
 bf:(s.battlefield.length:Int)≤p
 ex:(s.exile.length:Int)≤p
 st:(s.stack.length:Int)≤p
 co:(s.conts.length:Int)≤p
 pl:∀ (j:Nat) (h:j < s.players.length),(j:Int) < i→(s.players[j].library.length:Int)≤p∧(s.players[j].hand.length:Int)≤p∧(s.players[j].graveyard.length:Int)≤p
theorem sm_wrap {n:Int} (h0:0≤n) (h1:n≤9000000000000000000):IntKind.i64.wrap n=n:=by
 rw [IntKind.wrap_i64]
 omega
theorem SnI.zero {s:GState} {f1:GObject→List Tr} {f2 f3 f4:Int→List Tr} {f5:GItem→List Tr} {f6:GWaiting→List Tr} {f7:GCont→List Tr} (h:s.ok):SnI s 0 (IntKind.i64.wrap (IntKind.i64.wrap (IntKind.i64.wrap (IntKind.i64.wrap (IntKind.i64.wrap (IntKind.i64.wrap ((((s.objects.map f1).length:Nat):Int)+(((s.battlefield.map f2).length:Nat):Int))+(((s.exile.map f3).length:Nat):Int))+(((s.extra.map f4).length:Nat):Int))+IntKind.i64.wrap (8*(((s.stack.map f5).length:Nat):Int)))+IntKind.i64.wrap (8*(((s.waiting.map f6).length:Nat):Int)))+IntKind.i64.wrap (4*(((s.conts.map f7).length:Nat):Int)))):=by
 obtain ⟨_,_,h3,_,h5,h6,h7,_,h9,_,h11,_,h13⟩:=h
 simp only [Lm]
 unfold limB at *
 have e8:IntKind.i64.wrap (8*(s.stack.length:Int))=8*s.stack.length:=sm_wrap (by omega) (by omega)
 have e9:IntKind.i64.wrap (8*(s.waiting.length:Int))=8*s.waiting.length:=sm_wrap (by omega) (by omega)
 have e10:IntKind.i64.wrap (4*(s.conts.length:Int))=4*s.conts.length:=sm_wrap (by omega) (by omega)
 rw [e8,e9,e10,sm_wrap (n:=(s.objects.length:Int)+s.battlefield.length) (by omega) (by omega),sm_wrap (n:=(s.objects.length:Int)+s.battlefield.length+s.exile.length) (by omega) (by omega),sm_wrap (n:=(s.objects.length:Int)+s.battlefield.length+s.exile.length+s.extra.length) (by omega) (by omega),
  sm_wrap (n:=(s.objects.length:Int)+s.battlefield.length+s.exile.length+s.extra.length+8*s.stack.length) (by omega) (by omega),sm_wrap (n:=(s.objects.length:Int)+s.battlefield.length+s.exile.length+s.extra.length+8*s.stack.length+8*s.waiting.length) (by omega) (by omega),sm_wrap (by omega) (by omega)]
 exact ⟨by omega,by omega,by omega,by omega,by omega,by omega,fun j h hj=>by omega⟩
theorem SnI.step {s:GState} {i p:Int} {f1 f2 f3:Int→List Tr} (h0:0≤i) (hi:i < 10) (h:SnI s i p) (hok:s.ok) (hl:i.toNat < s.players.length):SnI s (i+1) (IntKind.i64.wrap (IntKind.i64.wrap (IntKind.i64.wrap (p+(((s.players[i.toNat].library.map f1).length:Nat):Int))+(((s.players[i.toNat].hand.map f2).length:Nat):Int))+(((s.players[i.toNat].graveyard.map f3).length:Nat):Int))):=by
 obtain ⟨g1,g2,g3⟩:=hok.2.1 _ (List.getElem_mem hl)
 obtain ⟨k1,k2,k3,k4,k6,k7,k5⟩:=h
 simp only [Lm]
 unfold limB at *
 rw [sm_wrap (n:=p+s.players[i.toNat].library.length) (by omega) (by omega),sm_wrap (n:=p+s.players[i.toNat].library.length+s.players[i.toNat].hand.length) (by omega) (by omega),sm_wrap (by omega) (by omega)]
 refine ⟨by omega,by omega,by omega,by omega,by omega,by omega,fun j hj hji=>?_⟩
 by_cases e:j=i.toNat
 ·subst e
  exact ⟨by omega,by omega,by omega⟩
 ·obtain ⟨a1,a2,a3⟩:=k5 j hj (by omega)
  exact ⟨by omega,by omega,by omega⟩
def SnE (s:GState) (p:Int):Prop:=∃ i:Int,SnI s i p∧(¬ i < (s.players.length:Int)∨¬ i < 10)
theorem SnE.a {s:GState} {i p:Int} {f:GPlayer→List Tr} (h:SnI s i p) (h1:¬ i < (((s.players.map f).length:Nat):Int)):SnE s p:=⟨i,h,.inl (by rwa [Lm] at h1)⟩
theorem SnE.b {s:GState} {i p:Int} (h:SnI s i p) (h1:¬ i < 10):SnE s p:=⟨i,h,.inr h1⟩
theorem SnE.fin {s:GState} {p:Int} {g:GPlayer→List Tr} (h:SnE s p) (h2:¬ p > 300) (h3:¬ (((s.players.map g).length:Nat):Int) > 10):SmL s:=by
 obtain ⟨i,h,h1⟩:=h
 rw [Lm] at h3
 obtain ⟨_,k2,k3,k4,k6,k7,k5⟩:=h
 refine ⟨by omega,by omega,by omega,by omega,fun q hq=>?_,by omega,by omega⟩
 obtain ⟨j,hj,rfl⟩:=List.mem_iff_getElem.1 hq
 obtain ⟨a1,a2,a3⟩:=k5 j hj (by omega)
 exact ⟨by omega,by omega,by omega⟩
structure SmB (s:GState):Prop where
 sml:SmL s
 con:∀ c∈s.conts,c.objects.length≤300
def cOk (_:Nat) (c:GCont):Bool:=decide (c.objects.length≤300)
theorem cOk_of {n:Nat} {c:GCont} {f:Int→List Tr} (h:¬ (((c.objects.map f).length:Nat):Int) > 300):cOk n c=true:=by
 rw [Lm] at h
 exact decide_eq_true (by omega)
theorem SmB.fin {s:GState} {p i:Int} {g:GPlayer→List Tr} {f:GCont→List Tr} (h:SnE s p) (h2:¬ p > 300) (h3:¬ (((s.players.map g).length:Nat):Int) > 10) (hu:Up cOk s.conts i) (h4:¬ i < (((s.conts.map f).length:Nat):Int)):SmB s:=by
 refine ⟨h.fin h2 h3,fun c hc=>?_⟩
 rw [Lm] at h4
 obtain ⟨j,hj,rfl⟩:=List.mem_iff_getElem.1 hc
 exact of_decide_eq_true (hu j hj (by omega))
end Go.Proofs.YtpibcdnagnjokaaGreat
end
section
namespace Go.Proofs.YtpibcdnagnjokaaGreat
open Go Cg Go.RowKit Go.Shelf
theorem zab_ok {m:List GMod} (h1:m.length*176≤limB) (h2:∀ y∈m,GMod.ok y):({ zeroAb with mods:=m }:GAbility).ok:=⟨⟨trivial,trivial,trivial⟩,h1,h2,trivial,⟨trivial,trivial,trivial⟩,Nat.zero_le _,fun _ h=>(by cases h),Nat.zero_le _,fun _ h=>(by cases h),⟨trivial,trivial,trivial⟩⟩
theorem zab_fit {st:St} (m:List GMod):FitL st [.t (.lit (.int .i64 0)),.t (.lit (.int .i64 0)),.t (.lit (.int .i64 0)),.t (.lit (.int .i64 0)),.t (.lit (.int .i64 0)),.t (.lit (.int .i64 0)),.t (.lit (.int .i64 0)),.t (.lit (.int .i64 0)),.t (.lit (.string ⟨#[]⟩)),.t (.lit (.int .i64 0)),.t (.lit (.int .i64 0)),.t (.lit (.int .i64 0)),.t (.lit (.int .i64 0)),.t (.lit (.int .i64 0)),.t (.lit (.int .i64 0)),.t (.lit (.int .i64 0)),.t (.lit (.int .i64 0)),.t (.sl 20 (m.map GMod.enc)),.t (.lit (.int .i64 0)),.t (.lit (.int .i64 0)),.t (.lit (.int .i64 0)),.t (.lit (.int .i64 0)),.t (.lit (.int .i64 0)),.t (.lit (.int .i64 0)),.t (.lit (.int .i64 0)),.t (.lit (.bool false)),.t (.lit (.bool false)),.t (.lit (.int .i64 0)),.t (.lit (.bool false)),.t (.lit (.int .i64 0)),.t (.lit (.int .i64 0)),.t (.lit (.int .i64 0)),.t (.lit (.int .i64 0)),.t (.lit (.int .i64 0)),.t (.lit (.int .i64 0)),.t (.lit (.int .i64 0)),.t (.lit (.int .i64 0)),.t (.lit (.int .i64 0)),.t (.lit (.string ⟨#[]⟩)),.t (.lit (.int .i64 0)),.t (.lit (.int .i64 0)),.t (.lit (.int .i64 0)),.t (.lit (.int .i64 0)),.t (.lit (.int .i64 0)),.t (.lit (.int .i64 0)),.t (.lit (.int .i64 0)),.t (.lit (.int .i64 0)),.t (.lit (.bool false)),.nil,.nil,.t (.lit (.int .i64 0)),.t (.lit (.int .i64 0)),.t (.lit (.int .i64 0)),.t (.lit (.int .i64 0)),.t (.lit (.int .i64 0)),.t (.lit (.int .i64 0)),.t (.lit (.int .i64 0)),.t (.lit (.int .i64 0)),.t (.lit (.int .i64 0)),.t (.lit (.string ⟨#[]⟩)),.t (.lit (.int .i64 0)),.t (.lit (.int .i64 0)),.t (.lit (.int .i64 0)),.t (.lit (.int .i64 0)),.t (.lit (.int .i64 0)),.t (.lit (.int .i64 0)),.t (.lit (.int .i64 0)),.t (.lit (.int .i64 0)),.t (.lit (.int .i64 0)),.t (.lit (.int .i64 0)),.t (.lit (.int .i64 0)),.t (.lit (.int .i64 0))] (({ zeroAb with mods:=m }:GAbility).enc.map .t):=by
 repeat' first|refine Ai ?_ ?_|exact rfl|exact trivial|exact Ei _ rfl|refine lN ?_|refine bS ?_|fail
theorem r26smB (a:GState) (ha:a.ok):∃ r:Bool,(r=true→SmB a)∧Ct Tryz.prog 19 [.agg (a.enc.map .t)] (AV.b r) [] true:=by
 have ha_:=ha
 obtain ⟨oa0,oa1,oa2,oa3,oa4,oa5,oa6,oa7,oa8,oa9,oa10,oa11,oa12⟩:=ha_
 refine ct_x (Φ:=fun (r:Bool)=>r=true→SmB a) lit_b (ctx_of Tryz.func19 rfl (enters_of Tryz.func19 (by kernel_rfl) rfl) tabOk (by kernel_rfl) rfl rfl (TpX.runY [] [6] ?_))
 repeat' (first|(apply ix_k;(first|assumption|omega|(simp only [IntKind.wrap_i64,IntKind.wrap_u64,List.length_cons,List.length_nil];omega)|(simp only [Lm] at *;omega)|decide);(first|assumption|omega|(simp only [IntKind.wrap_i64,IntKind.wrap_u64,List.length_cons,List.length_nil];omega)|(simp only [Lm] at *;omega)|decide);intro _)|(apply cond_p <;> intro _)|(apply leaf_x;exact Ei [] (Ai rfl (Ai trivial rfl));exact (by first|(intro hh;cases hh;done)|exact fun _=>SmB.fin ‹_› ‹_› ‹_› ‹_› ‹_›);rfl)|(apply cut_at 6 rfl;refine TpX.cut (α:=Int) 6 (fun p=>[(3,AV.i p)]) (fun (p:Int)=>SnE a p) [1] [0] 200000 rfl ?_;refine Ai (TpX.runY [] [6] ?_) (fun _ _=>TpX.runY [] [6] ?_))|(apply lp_at 3 rfl;refine LpX.up (β:=Int) 3 4 ((((a.players.map GPlayer.enc).length:Nat):Int)) (by first|omega|exact len62 (by first|assumption|exact okmr ‹_› ‹_› | exact okmg _ ‹_› | exact GPlayer.ok_library (okmg _ ‹_›)|exact GPlayer.ok_hand (okmg _ ‹_›)|exact GPlayer.ok_graveyard (okmg _ ‹_›)|exact GItem.ok_ability (okmg _ ‹_›)|exact GWaiting.ok_ability (okmg _ ‹_›)|exact GCont.ok_mods (okmg _ ‹_›)|exact GCont.okm_mods (okmg _ ‹_›)|exact (fun _ _=>trivial)) rfl) (by omega) (fun p=>[(3,AV.i p)]) (fun i (p:Int)=>SnI a i p) [1] [0] 300000 rfl ?_;refine Ai ?_ (fun _ _ _ _ _=>TpX.runY [] [6] ?_))|(apply lp_at 9 rfl;refine LpX.up (β:=Unit) 9 5 ((((a.stack.map GItem.enc).length:Nat):Int)) (by first|omega|exact len62 (by first|assumption|exact okmr ‹_› ‹_› | exact okmg _ ‹_› | exact GPlayer.ok_library (okmg _ ‹_›)|exact GPlayer.ok_hand (okmg _ ‹_›)|exact GPlayer.ok_graveyard (okmg _ ‹_›)|exact GItem.ok_ability (okmg _ ‹_›)|exact GWaiting.ok_ability (okmg _ ‹_›)|exact GCont.ok_mods (okmg _ ‹_›)|exact GCont.okm_mods (okmg _ ‹_›)|exact (fun _ _=>trivial)) rfl) (by omega) (fun _=>[]) (fun _ _=>True) [1] [0] 400000 rfl ?_;refine Ai ?_ (fun _ _ _ _ _=>TpX.runY [] [6] ?_))|(apply lp_at 14 rfl;refine LpX.up (β:=Unit) 14 6 ((((a.waiting.map GWaiting.enc).length:Nat):Int)) (by first|omega|exact len62 (by first|assumption|exact okmr ‹_› ‹_› | exact okmg _ ‹_› | exact GPlayer.ok_library (okmg _ ‹_›)|exact GPlayer.ok_hand (okmg _ ‹_›)|exact GPlayer.ok_graveyard (okmg _ ‹_›)|exact GItem.ok_ability (okmg _ ‹_›)|exact GWaiting.ok_ability (okmg _ ‹_›)|exact GCont.ok_mods (okmg _ ‹_›)|exact GCont.okm_mods (okmg _ ‹_›)|exact (fun _ _=>trivial)) rfl) (by omega) (fun _=>[]) (fun _ _=>True) [1] [0] 500000 rfl ?_;refine Ai ?_ (fun _ _ _ _ _=>TpX.runY [] [6] ?_))|(apply lp_at 19 rfl;refine LpX.up (β:=Unit) 19 7 ((((a.conts.map GCont.enc).length:Nat):Int)) (by first|omega|exact len62 (by first|assumption|exact okmr ‹_› ‹_› | exact okmg _ ‹_› | exact GPlayer.ok_library (okmg _ ‹_›)|exact GPlayer.ok_hand (okmg _ ‹_›)|exact GPlayer.ok_graveyard (okmg _ ‹_›)|exact GItem.ok_ability (okmg _ ‹_›)|exact GWaiting.ok_ability (okmg _ ‹_›)|exact GCont.ok_mods (okmg _ ‹_›)|exact GCont.okm_mods (okmg _ ‹_›)|exact (fun _ _=>trivial)) rfl) (by omega) (fun _=>[]) (fun i _=>Up cOk a.conts i) [1] [0] 600000 rfl ?_;refine Ai ?_ (fun _ _ _ _ _=>TpX.runY [] [6] ?_))|exact Ei () (Ai (by first|exact True.intro|exact SnE.a (f:=GPlayer.enc) ‹_› ‹_› | exact SnE.b ‹_› ‹_› | exact SnI.zero ‹_› | exact Up.zero|exact Up.step ‹_› ‹_› ‹_› (cOk_of ‹_›)|exact SnI.step ‹_› ‹_› ‹_› ‹_› ‹_›) (wk_slim rfl rfl rfl rfl))|exact Ei _ (Ai (by first|exact True.intro|exact SnE.a (f:=GPlayer.enc) ‹_› ‹_› | exact SnE.b ‹_› ‹_› | exact SnI.zero ‹_› | exact Up.zero|exact Up.step ‹_› ‹_› ‹_› (cOk_of ‹_›)|exact SnI.step ‹_› ‹_› ‹_› ‹_› ‹_›) (wk_slim rfl rfl rfl rfl))|exact Ai (by first|assumption|omega) (Ei _ (Ai (by first|exact True.intro|exact SnE.a (f:=GPlayer.enc) ‹_› ‹_› | exact SnE.b ‹_› ‹_› | exact SnI.zero ‹_› | exact Up.zero|exact Up.step ‹_› ‹_› ‹_› (cOk_of ‹_›)|exact SnI.step ‹_› ‹_› ‹_› ‹_› ‹_›) (wk_slim rfl rfl rfl rfl)))|fail)
 ·refine call_x (r20light _ (GItem.ok_ability (okmg ‹_› oa7))) ⟨fL (GAbility.enc _),trivial⟩ (.inl rfl) (fun _ _=>?_)
  repeat' (first|apply cond_n|(apply cS <;> intro _)|(apply leaf_x;exact Ei [] (Ai rfl (Ai trivial rfl));exact (by first|(intro hh;cases hh;done)|exact fun _=>SmB.fin ‹_› ‹_› ‹_› ‹_› ‹_›);rfl)|exact Ai (by first|assumption|omega) (Ei () (Ai (by first|exact True.intro|exact SnE.a (f:=GPlayer.enc) ‹_› ‹_› | exact SnE.b ‹_› ‹_› | exact SnI.zero ‹_› | exact Up.zero|exact Up.step ‹_› ‹_› ‹_› (cOk_of ‹_›)|exact SnI.step ‹_› ‹_› ‹_› ‹_› ‹_›) (wk_slim rfl rfl rfl rfl)))|fail)
 ·refine call_x (r20light _ (GWaiting.ok_ability (okmg ‹_› oa9))) ⟨fL (GAbility.enc _),trivial⟩ (.inl rfl) (fun _ _=>?_)
  repeat' (first|apply cond_n|(apply cS <;> intro _)|(apply leaf_x;exact Ei [] (Ai rfl (Ai trivial rfl));exact (by first|(intro hh;cases hh;done)|exact fun _=>SmB.fin ‹_› ‹_› ‹_› ‹_› ‹_›);rfl)|exact Ai (by first|assumption|omega) (Ei () (Ai (by first|exact True.intro|exact SnE.a (f:=GPlayer.enc) ‹_› ‹_› | exact SnE.b ‹_› ‹_› | exact SnI.zero ‹_› | exact Up.zero|exact Up.step ‹_› ‹_› ‹_› (cOk_of ‹_›)|exact SnI.step ‹_› ‹_› ‹_› ‹_› ‹_›) (wk_slim rfl rfl rfl rfl)))|fail)
 ·refine call_x (r20light _ (zab_ok (GCont.ok_mods (okmg ‹_› oa11)) (GCont.okm_mods (okmg ‹_› oa11)))) ⟨zab_fit _,trivial⟩ (.inl rfl) (fun _ _=>?_)
  repeat' (first|apply cond_n|(apply cS <;> intro _)|(apply leaf_x;exact Ei [] (Ai rfl (Ai trivial rfl));exact (by first|(intro hh;cases hh;done)|exact fun _=>SmB.fin ‹_› ‹_› ‹_› ‹_› ‹_›);rfl)|exact Ai (by first|assumption|omega) (Ei () (Ai (by first|exact True.intro|exact SnE.a (f:=GPlayer.enc) ‹_› ‹_› | exact SnE.b ‹_› ‹_› | exact SnI.zero ‹_› | exact Up.zero|exact Up.step ‹_› ‹_› ‹_› (cOk_of ‹_›)|exact SnI.step ‹_› ‹_› ‹_› ‹_› ‹_›) (wk_slim rfl rfl rfl rfl)))|fail)
end Go.Proofs.YtpibcdnagnjokaaGreat
end
section
namespace Go.Proofs.YtpibcdnagnjokaaGreat
open Go Go.RowKit Go.Sort Cg
def kI (n:Nat):List K:=List.replicate n (.lit .int)
def kB:K:=.lit .bool
def kFilter:List K:=kI 7++[.lit .str]++kI 8
def kMod:List K:=kI 3++[.lit .str]++kFilter
def kSpec:List K:=[kB,kB]++kFilter
def kRef:List K:=kI 2++kFilter
def kAmount:List K:=kI 3++kFilter
def kEffect:List K:=kI 1++kRef++kAmount++kI 2++[.lit .str]++kFilter++kI 6++[.sl kMod 176]
def kPrice:List K:=kI 7++[kB,kB]++kI 1
def kAbility:List K:=kI 1++kFilter++[.sl kMod 176]++kPrice++[kB]++(kI 2++kFilter)++[kB]++[.sl kSpec 144]++[.sl kEffect 560]++(kI 2++kFilter++kI 4)
def kTarget:List K:=kI 2
def kEvent:List K:=kI 10++[kB,kB]++kI 3
def kItem:List K:=kI 5++[kB]++kAbility++[.sl kTarget 16]++kEvent
def kWaiting:List K:=kI 2++kAbility++kEvent
def kInts:K:=.sl (kI 1) 8
def kCont:List K:=kI 4++[kInts]++[.sl kMod 176]
def kPlayer:List K:=kI 9++[kB,kB]++[kInts,kInts,kInts]
def kObject:List K:=kI 5++[kB,kB,kB,kB]++kI 7++[kB]++kI 2
def kState:List K:=[.sl kPlayer 152,.sl kObject 128,kInts,kInts,.sl kItem 824,.sl kWaiting 768,.sl kCont 80]++kI 3++[kB]++kI 4++[.lit .u64]++[kInts]++kI 2
theorem shState:shapeOf Tryz.prog 12 31=some kState:=by kernel_rfl
def elemB (P:Program) (e:TypeId) (k b:Nat):Bool:=match P.info? e with
 | some i=>i.size==k&&i.bytes==b&&(match i.zero with
  | some z=>z.cells.size==k
  | none=>false)
 | none=>false
theorem elemIs_of {P:Program} {t e:TypeId} {k b:Nat} (h1:P.underlying t=some (.slice e)) (h4:0 < k) (h:elemB P e k b=true):∃ z,ElemIs P t e z k b:=by
 unfold elemB at h
 cases hi:P.info? e with
 | none=>rw [hi] at h;cases h
 | some i=>
  rw [hi] at h
  simp only [Bool.and_eq_true,beq_iff_eq] at h
  obtain ⟨⟨h2,h3⟩,h5⟩:=h
  cases hz:i.zero with
  | none=>rw [hz] at h5;cases h5
  | some z=>
   rw [hz] at h5
   simp only [beq_iff_eq] at h5
   exact ⟨z,h1,h5,h4,i,hi,hz,h2,h3⟩
theorem empty_own (w:World) (base:Nat) (hb:base≤w.heap.size) (t:TypeId) (k:Nat):(w.alloc (.cells #[] t)).ownsRow base t k (.slice (some ⟨w.heap.size,0,none⟩) 0 0) 0 []:=World.ownsRow_made w #[] 0 hb (by simp) (by simp)
theorem elemint:∃ z,ElemIs Tryz.prog 25 3 z 1 8:=elemIs_of Tryz.underlying25 (by decide) (by kernel_rfl)
theorem cloneint (v:Value) (es:List (Cl 1)) (w:World) (h:RowC 1 w v es) (hb:es.length*8≤140737488355328):Calls Tryz.prog 68 #[v] w fun e w'=>∃ v',e=.returned v'∧w'.ownsRow w.heap.size 3 1 v' es.length (es.flatMap Subtype.val)∧Below w.heap.size w w':=by
 obtain ⟨z,hE⟩:=elemint
 have HR:=Lib.hid (h.below ((Below.refl w.heap.size w).alloc (Nat.le_refl _) (.cells #[] 3)))
 obtain ⟨ao,cap,rfl,⟨hc,hn⟩,_⟩:=h
 have HE:=Lib.hid hE
 have HO:=Lib.hid (empty_own w w.heap.size (Nat.le_refl _) 3 1)
 have HA:=Lib.hid ((Below.refl w.heap.size w).alloc (Nat.le_refl _) (.cells #[] 3))
 have q0:∀ (w:World) (a:Option Addr) (n c n' c':Nat),(binOp .eql 25 (.slice a n c) (.slice none n' c')).run Tryz.prog w=.ok (.bool a.isNone) w:=fun w a n c n' c'=>Lib.run_eql_slice_nil w _ _ a n c n' c' Tryz.underlying25
 clear hE
 cases ao with
 | none=>
  have hc0:=hn rfl
  subst hc0
  have he:es=[]:=List.eq_nil_of_length_eq_zero (by omega)
  subst he
  clear HR hn
  go_enter Tryz.func68,Tryz.ntmps68
  go_wp2_with fail
  go_ret
  exact ⟨_,rfl,World.ownsRow_nil _ _ _ _,Below.refl _ _⟩
 | some ad=>
  clear hn
  go_enter Tryz.func68,Tryz.ntmps68
  go_wp2_with (at_builtin;refine wpList_append_rowK rfl (.tmp 5) (.tmp 6) 25 rfl w.heap.size HE.out _ 0 [] rfl HO.out Subtype.val Cl.len Cl.one es _ rfl HR.out (by omega) (by omega) HA.out.size ?_;intro v1 w1 own1 _ bel1;have O1:=Lib.hid own1;have B1:=Lib.hid bel1;clear own1 bel1)
  go_ret
  have:=O1.out
  rw [Nat.zero_add,List.nil_append] at this
  exact ⟨_,rfl,this,HA.out.trans B1.out⟩
theorem elemObject:∃ z,ElemIs Tryz.prog 24 47 z 19 128:=elemIs_of Tryz.underlying24 (by decide) (by kernel_rfl)
theorem cloneObject (v:Value) (es:List (Cl 19)) (w:World) (h:RowC 19 w v es) (hb:es.length*128≤140737488355328):Calls Tryz.prog 67 #[v] w fun e w'=>∃ v',e=.returned v'∧w'.ownsRow w.heap.size 47 19 v' es.length (es.flatMap Subtype.val)∧Below w.heap.size w w':=by
 obtain ⟨z,hE⟩:=elemObject
 have HR:=Lib.hid (h.below ((Below.refl w.heap.size w).alloc (Nat.le_refl _) (.cells #[] 47)))
 obtain ⟨ao,cap,rfl,⟨hc,hn⟩,_⟩:=h
 have HE:=Lib.hid hE
 have HO:=Lib.hid (empty_own w w.heap.size (Nat.le_refl _) 47 19)
 have HA:=Lib.hid ((Below.refl w.heap.size w).alloc (Nat.le_refl _) (.cells #[] 47))
 have q0:∀ (w:World) (a:Option Addr) (n c n' c':Nat),(binOp .eql 24 (.slice a n c) (.slice none n' c')).run Tryz.prog w=.ok (.bool a.isNone) w:=fun w a n c n' c'=>Lib.run_eql_slice_nil w _ _ a n c n' c' Tryz.underlying24
 clear hE
 cases ao with
 | none=>
  have hc0:=hn rfl
  subst hc0
  have he:es=[]:=List.eq_nil_of_length_eq_zero (by omega)
  subst he
  clear HR hn
  go_enter Tryz.func67,Tryz.ntmps67
  go_wp2_with fail
  go_ret
  exact ⟨_,rfl,World.ownsRow_nil _ _ _ _,Below.refl _ _⟩
 | some ad=>
  clear hn
  go_enter Tryz.func67,Tryz.ntmps67
  go_wp2_with (at_builtin;refine wpList_append_rowK rfl (.tmp 5) (.tmp 6) 24 rfl w.heap.size HE.out _ 0 [] rfl HO.out Subtype.val Cl.len Cl.one es _ rfl HR.out (by omega) (by omega) HA.out.size ?_;intro v1 w1 own1 _ bel1;have O1:=Lib.hid own1;have B1:=Lib.hid bel1;clear own1 bel1)
  go_ret
  have:=O1.out
  rw [Nat.zero_add,List.nil_append] at this
  exact ⟨_,rfl,this,HA.out.trans B1.out⟩
theorem elemPlayer:∃ z,ElemIs Tryz.prog 23 44 z 14 152:=elemIs_of Tryz.underlying23 (by decide) (by kernel_rfl)
theorem clonePlayer (v:Value) (es:List (Cl 14)) (w:World) (h:RowC 14 w v es) (hb:es.length*152≤140737488355328):Calls Tryz.prog 65 #[v] w fun e w'=>∃ v',e=.returned v'∧w'.ownsRow w.heap.size 44 14 v' es.length (es.flatMap Subtype.val)∧Below w.heap.size w w':=by
 obtain ⟨z,hE⟩:=elemPlayer
 have HR:=Lib.hid (h.below ((Below.refl w.heap.size w).alloc (Nat.le_refl _) (.cells #[] 44)))
 obtain ⟨ao,cap,rfl,⟨hc,hn⟩,_⟩:=h
 have HE:=Lib.hid hE
 have HO:=Lib.hid (empty_own w w.heap.size (Nat.le_refl _) 44 14)
 have HA:=Lib.hid ((Below.refl w.heap.size w).alloc (Nat.le_refl _) (.cells #[] 44))
 have q0:∀ (w:World) (a:Option Addr) (n c n' c':Nat),(binOp .eql 23 (.slice a n c) (.slice none n' c')).run Tryz.prog w=.ok (.bool a.isNone) w:=fun w a n c n' c'=>Lib.run_eql_slice_nil w _ _ a n c n' c' Tryz.underlying23
 clear hE
 cases ao with
 | none=>
  have hc0:=hn rfl
  subst hc0
  have he:es=[]:=List.eq_nil_of_length_eq_zero (by omega)
  subst he
  clear HR hn
  go_enter Tryz.func65,Tryz.ntmps65
  go_wp2_with fail
  go_ret
  exact ⟨_,rfl,World.ownsRow_nil _ _ _ _,Below.refl _ _⟩
 | some ad=>
  clear hn
  go_enter Tryz.func65,Tryz.ntmps65
  go_wp2_with (at_builtin;refine wpList_append_rowK rfl (.tmp 5) (.tmp 6) 23 rfl w.heap.size HE.out _ 0 [] rfl HO.out Subtype.val Cl.len Cl.one es _ rfl HR.out (by omega) (by omega) HA.out.size ?_;intro v1 w1 own1 _ bel1;have O1:=Lib.hid own1;have B1:=Lib.hid bel1;clear own1 bel1)
  go_ret
  have:=O1.out
  rw [Nat.zero_add,List.nil_append] at this
  exact ⟨_,rfl,this,HA.out.trans B1.out⟩
theorem elemItem:∃ z,ElemIs Tryz.prog 26 91 z 94 824:=elemIs_of Tryz.underlying26 (by decide) (by kernel_rfl)
theorem cloneItem (v:Value) (es:List (Cl 94)) (w:World) (h:RowC 94 w v es) (hb:es.length*824≤140737488355328):Calls Tryz.prog 69 #[v] w fun e w'=>∃ v',e=.returned v'∧w'.ownsRow w.heap.size 91 94 v' es.length (es.flatMap Subtype.val)∧Below w.heap.size w w':=by
 obtain ⟨z,hE⟩:=elemItem
 have HR:=Lib.hid (h.below ((Below.refl w.heap.size w).alloc (Nat.le_refl _) (.cells #[] 91)))
 obtain ⟨ao,cap,rfl,⟨hc,hn⟩,_⟩:=h
 have HE:=Lib.hid hE
 have HO:=Lib.hid (empty_own w w.heap.size (Nat.le_refl _) 91 94)
 have HA:=Lib.hid ((Below.refl w.heap.size w).alloc (Nat.le_refl _) (.cells #[] 91))
 have q0:∀ (w:World) (a:Option Addr) (n c n' c':Nat),(binOp .eql 26 (.slice a n c) (.slice none n' c')).run Tryz.prog w=.ok (.bool a.isNone) w:=fun w a n c n' c'=>Lib.run_eql_slice_nil w _ _ a n c n' c' Tryz.underlying26
 clear hE
 cases ao with
 | none=>
  have hc0:=hn rfl
  subst hc0
  have he:es=[]:=List.eq_nil_of_length_eq_zero (by omega)
  subst he
  clear HR hn
  go_enter Tryz.func69,Tryz.ntmps69
  go_wp2_with fail
  go_ret
  exact ⟨_,rfl,World.ownsRow_nil _ _ _ _,Below.refl _ _⟩
 | some ad=>
  clear hn
  go_enter Tryz.func69,Tryz.ntmps69
  go_wp2_with (at_builtin;refine wpList_append_rowK rfl (.tmp 5) (.tmp 6) 26 rfl w.heap.size HE.out _ 0 [] rfl HO.out Subtype.val Cl.len Cl.one es _ rfl HR.out (by omega) (by omega) HA.out.size ?_;intro v1 w1 own1 _ bel1;have O1:=Lib.hid own1;have B1:=Lib.hid bel1;clear own1 bel1)
  go_ret
  have:=O1.out
  rw [Nat.zero_add,List.nil_append] at this
  exact ⟨_,rfl,this,HA.out.trans B1.out⟩
theorem elemTarget:∃ z,ElemIs Tryz.prog 87 94 z 2 16:=elemIs_of Tryz.underlying87 (by decide) (by kernel_rfl)
theorem cloneTarget (v:Value) (es:List (Cl 2)) (w:World) (h:RowC 2 w v es) (hb:es.length*16≤140737488355328):Calls Tryz.prog 71 #[v] w fun e w'=>∃ v',e=.returned v'∧w'.ownsRow w.heap.size 94 2 v' es.length (es.flatMap Subtype.val)∧Below w.heap.size w w':=by
 obtain ⟨z,hE⟩:=elemTarget
 have HR:=Lib.hid (h.below ((Below.refl w.heap.size w).alloc (Nat.le_refl _) (.cells #[] 94)))
 obtain ⟨ao,cap,rfl,⟨hc,hn⟩,_⟩:=h
 have HE:=Lib.hid hE
 have HO:=Lib.hid (empty_own w w.heap.size (Nat.le_refl _) 94 2)
 have HA:=Lib.hid ((Below.refl w.heap.size w).alloc (Nat.le_refl _) (.cells #[] 94))
 have q0:∀ (w:World) (a:Option Addr) (n c n' c':Nat),(binOp .eql 87 (.slice a n c) (.slice none n' c')).run Tryz.prog w=.ok (.bool a.isNone) w:=fun w a n c n' c'=>Lib.run_eql_slice_nil w _ _ a n c n' c' Tryz.underlying87
 clear hE
 cases ao with
 | none=>
  have hc0:=hn rfl
  subst hc0
  have he:es=[]:=List.eq_nil_of_length_eq_zero (by omega)
  subst he
  clear HR hn
  go_enter Tryz.func71,Tryz.ntmps71
  go_wp2_with fail
  go_ret
  exact ⟨_,rfl,World.ownsRow_nil _ _ _ _,Below.refl _ _⟩
 | some ad=>
  clear hn
  go_enter Tryz.func71,Tryz.ntmps71
  go_wp2_with (at_builtin;refine wpList_append_rowK rfl (.tmp 5) (.tmp 6) 87 rfl w.heap.size HE.out _ 0 [] rfl HO.out Subtype.val Cl.len Cl.one es _ rfl HR.out (by omega) (by omega) HA.out.size ?_;intro v1 w1 own1 _ bel1;have O1:=Lib.hid own1;have B1:=Lib.hid bel1;clear own1 bel1)
  go_ret
  have:=O1.out
  rw [Nat.zero_add,List.nil_append] at this
  exact ⟨_,rfl,this,HA.out.trans B1.out⟩
theorem elemWaiting:∃ z,ElemIs Tryz.prog 27 97 z 89 768:=elemIs_of Tryz.underlying27 (by decide) (by kernel_rfl)
theorem cloneWaiting (v:Value) (es:List (Cl 89)) (w:World) (h:RowC 89 w v es) (hb:es.length*768≤140737488355328):Calls Tryz.prog 72 #[v] w fun e w'=>∃ v',e=.returned v'∧w'.ownsRow w.heap.size 97 89 v' es.length (es.flatMap Subtype.val)∧Below w.heap.size w w':=by
 obtain ⟨z,hE⟩:=elemWaiting
 have HR:=Lib.hid (h.below ((Below.refl w.heap.size w).alloc (Nat.le_refl _) (.cells #[] 97)))
 obtain ⟨ao,cap,rfl,⟨hc,hn⟩,_⟩:=h
 have HE:=Lib.hid hE
 have HO:=Lib.hid (empty_own w w.heap.size (Nat.le_refl _) 97 89)
 have HA:=Lib.hid ((Below.refl w.heap.size w).alloc (Nat.le_refl _) (.cells #[] 97))
 have q0:∀ (w:World) (a:Option Addr) (n c n' c':Nat),(binOp .eql 27 (.slice a n c) (.slice none n' c')).run Tryz.prog w=.ok (.bool a.isNone) w:=fun w a n c n' c'=>Lib.run_eql_slice_nil w _ _ a n c n' c' Tryz.underlying27
 clear hE
 cases ao with
 | none=>
  have hc0:=hn rfl
  subst hc0
  have he:es=[]:=List.eq_nil_of_length_eq_zero (by omega)
  subst he
  clear HR hn
  go_enter Tryz.func72,Tryz.ntmps72
  go_wp2_with fail
  go_ret
  exact ⟨_,rfl,World.ownsRow_nil _ _ _ _,Below.refl _ _⟩
 | some ad=>
  clear hn
  go_enter Tryz.func72,Tryz.ntmps72
  go_wp2_with (at_builtin;refine wpList_append_rowK rfl (.tmp 5) (.tmp 6) 27 rfl w.heap.size HE.out _ 0 [] rfl HO.out Subtype.val Cl.len Cl.one es _ rfl HR.out (by omega) (by omega) HA.out.size ?_;intro v1 w1 own1 _ bel1;have O1:=Lib.hid own1;have B1:=Lib.hid bel1;clear own1 bel1)
  go_ret
  have:=O1.out
  rw [Nat.zero_add,List.nil_append] at this
  exact ⟨_,rfl,this,HA.out.trans B1.out⟩
theorem elemCont:∃ z,ElemIs Tryz.prog 28 100 z 6 80:=elemIs_of Tryz.underlying28 (by decide) (by kernel_rfl)
theorem cloneCont (v:Value) (es:List (Cl 6)) (w:World) (h:RowC 6 w v es) (hb:es.length*80≤140737488355328):Calls Tryz.prog 73 #[v] w fun e w'=>∃ v',e=.returned v'∧w'.ownsRow w.heap.size 100 6 v' es.length (es.flatMap Subtype.val)∧Below w.heap.size w w':=by
 obtain ⟨z,hE⟩:=elemCont
 have HR:=Lib.hid (h.below ((Below.refl w.heap.size w).alloc (Nat.le_refl _) (.cells #[] 100)))
 obtain ⟨ao,cap,rfl,⟨hc,hn⟩,_⟩:=h
 have HE:=Lib.hid hE
 have HO:=Lib.hid (empty_own w w.heap.size (Nat.le_refl _) 100 6)
 have HA:=Lib.hid ((Below.refl w.heap.size w).alloc (Nat.le_refl _) (.cells #[] 100))
 have q0:∀ (w:World) (a:Option Addr) (n c n' c':Nat),(binOp .eql 28 (.slice a n c) (.slice none n' c')).run Tryz.prog w=.ok (.bool a.isNone) w:=fun w a n c n' c'=>Lib.run_eql_slice_nil w _ _ a n c n' c' Tryz.underlying28
 clear hE
 cases ao with
 | none=>
  have hc0:=hn rfl
  subst hc0
  have he:es=[]:=List.eq_nil_of_length_eq_zero (by omega)
  subst he
  clear HR hn
  go_enter Tryz.func73,Tryz.ntmps73
  go_wp2_with fail
  go_ret
  exact ⟨_,rfl,World.ownsRow_nil _ _ _ _,Below.refl _ _⟩
 | some ad=>
  clear hn
  go_enter Tryz.func73,Tryz.ntmps73
  go_wp2_with (at_builtin;refine wpList_append_rowK rfl (.tmp 5) (.tmp 6) 28 rfl w.heap.size HE.out _ 0 [] rfl HO.out Subtype.val Cl.len Cl.one es _ rfl HR.out (by omega) (by omega) HA.out.size ?_;intro v1 w1 own1 _ bel1;have O1:=Lib.hid own1;have B1:=Lib.hid bel1;clear own1 bel1)
  go_ret
  have:=O1.out
  rw [Nat.zero_add,List.nil_append] at this
  exact ⟨_,rfl,this,HA.out.trans B1.out⟩
theorem elemMod:∃ z,ElemIs Tryz.prog 73 137 z 20 176:=elemIs_of Tryz.underlying73 (by decide) (by kernel_rfl)
theorem cloneMod (v:Value) (es:List (Cl 20)) (w:World) (h:RowC 20 w v es) (hb:es.length*176≤140737488355328):Calls Tryz.prog 74 #[v] w fun e w'=>∃ v',e=.returned v'∧w'.ownsRow w.heap.size 137 20 v' es.length (es.flatMap Subtype.val)∧Below w.heap.size w w':=by
 obtain ⟨z,hE⟩:=elemMod
 have HR:=Lib.hid (h.below ((Below.refl w.heap.size w).alloc (Nat.le_refl _) (.cells #[] 137)))
 obtain ⟨ao,cap,rfl,⟨hc,hn⟩,_⟩:=h
 have HE:=Lib.hid hE
 have HO:=Lib.hid (empty_own w w.heap.size (Nat.le_refl _) 137 20)
 have HA:=Lib.hid ((Below.refl w.heap.size w).alloc (Nat.le_refl _) (.cells #[] 137))
 have q0:∀ (w:World) (a:Option Addr) (n c n' c':Nat),(binOp .eql 73 (.slice a n c) (.slice none n' c')).run Tryz.prog w=.ok (.bool a.isNone) w:=fun w a n c n' c'=>Lib.run_eql_slice_nil w _ _ a n c n' c' Tryz.underlying73
 clear hE
 cases ao with
 | none=>
  have hc0:=hn rfl
  subst hc0
  have he:es=[]:=List.eq_nil_of_length_eq_zero (by omega)
  subst he
  clear HR hn
  go_enter Tryz.func74,Tryz.ntmps74
  go_wp2_with fail
  go_ret
  exact ⟨_,rfl,World.ownsRow_nil _ _ _ _,Below.refl _ _⟩
 | some ad=>
  clear hn
  go_enter Tryz.func74,Tryz.ntmps74
  go_wp2_with (at_builtin;refine wpList_append_rowK rfl (.tmp 5) (.tmp 6) 73 rfl w.heap.size HE.out _ 0 [] rfl HO.out Subtype.val Cl.len Cl.one es _ rfl HR.out (by omega) (by omega) HA.out.size ?_;intro v1 w1 own1 _ bel1;have O1:=Lib.hid own1;have B1:=Lib.hid bel1;clear own1 bel1)
  go_ret
  have:=O1.out
  rw [Nat.zero_add,List.nil_append] at this
  exact ⟨_,rfl,this,HA.out.trans B1.out⟩
theorem elemSpec:∃ z,ElemIs Tryz.prog 81 157 z 18 144:=elemIs_of Tryz.underlying81 (by decide) (by kernel_rfl)
theorem cloneSpec (v:Value) (es:List (Cl 18)) (w:World) (h:RowC 18 w v es) (hb:es.length*144≤140737488355328):Calls Tryz.prog 114 #[v] w fun e w'=>∃ v',e=.returned v'∧w'.ownsRow w.heap.size 157 18 v' es.length (es.flatMap Subtype.val)∧Below w.heap.size w w':=by
 obtain ⟨z,hE⟩:=elemSpec
 have HR:=Lib.hid (h.below ((Below.refl w.heap.size w).alloc (Nat.le_refl _) (.cells #[] 157)))
 obtain ⟨ao,cap,rfl,⟨hc,hn⟩,_⟩:=h
 have HE:=Lib.hid hE
 have HO:=Lib.hid (empty_own w w.heap.size (Nat.le_refl _) 157 18)
 have HA:=Lib.hid ((Below.refl w.heap.size w).alloc (Nat.le_refl _) (.cells #[] 157))
 have q0:∀ (w:World) (a:Option Addr) (n c n' c':Nat),(binOp .eql 81 (.slice a n c) (.slice none n' c')).run Tryz.prog w=.ok (.bool a.isNone) w:=fun w a n c n' c'=>Lib.run_eql_slice_nil w _ _ a n c n' c' Tryz.underlying81
 clear hE
 cases ao with
 | none=>
  have hc0:=hn rfl
  subst hc0
  have he:es=[]:=List.eq_nil_of_length_eq_zero (by omega)
  subst he
  clear HR hn
  go_enter Tryz.func114,Tryz.ntmps114
  go_wp2_with fail
  go_ret
  exact ⟨_,rfl,World.ownsRow_nil _ _ _ _,Below.refl _ _⟩
 | some ad=>
  clear hn
  go_enter Tryz.func114,Tryz.ntmps114
  go_wp2_with (at_builtin;refine wpList_append_rowK rfl (.tmp 5) (.tmp 6) 81 rfl w.heap.size HE.out _ 0 [] rfl HO.out Subtype.val Cl.len Cl.one es _ rfl HR.out (by omega) (by omega) HA.out.size ?_;intro v1 w1 own1 _ bel1;have O1:=Lib.hid own1;have B1:=Lib.hid bel1;clear own1 bel1)
  go_ret
  have:=O1.out
  rw [Nat.zero_add,List.nil_append] at this
  exact ⟨_,rfl,this,HA.out.trans B1.out⟩
theorem elemEffect:∃ z,ElemIs Tryz.prog 82 154 z 64 560:=elemIs_of Tryz.underlying82 (by decide) (by kernel_rfl)
theorem cloneEffect (v:Value) (es:List (Cl 64)) (w:World) (h:RowC 64 w v es) (hb:es.length*560≤140737488355328):Calls Tryz.prog 115 #[v] w fun e w'=>∃ v',e=.returned v'∧w'.ownsRow w.heap.size 154 64 v' es.length (es.flatMap Subtype.val)∧Below w.heap.size w w':=by
 obtain ⟨z,hE⟩:=elemEffect
 have HR:=Lib.hid (h.below ((Below.refl w.heap.size w).alloc (Nat.le_refl _) (.cells #[] 154)))
 obtain ⟨ao,cap,rfl,⟨hc,hn⟩,_⟩:=h
 have HE:=Lib.hid hE
 have HO:=Lib.hid (empty_own w w.heap.size (Nat.le_refl _) 154 64)
 have HA:=Lib.hid ((Below.refl w.heap.size w).alloc (Nat.le_refl _) (.cells #[] 154))
 have q0:∀ (w:World) (a:Option Addr) (n c n' c':Nat),(binOp .eql 82 (.slice a n c) (.slice none n' c')).run Tryz.prog w=.ok (.bool a.isNone) w:=fun w a n c n' c'=>Lib.run_eql_slice_nil w _ _ a n c n' c' Tryz.underlying82
 clear hE
 cases ao with
 | none=>
  have hc0:=hn rfl
  subst hc0
  have he:es=[]:=List.eq_nil_of_length_eq_zero (by omega)
  subst he
  clear HR hn
  go_enter Tryz.func115,Tryz.ntmps115
  go_wp2_with fail
  go_ret
  exact ⟨_,rfl,World.ownsRow_nil _ _ _ _,Below.refl _ _⟩
 | some ad=>
  clear hn
  go_enter Tryz.func115,Tryz.ntmps115
  go_wp2_with (at_builtin;refine wpList_append_rowK rfl (.tmp 5) (.tmp 6) 82 rfl w.heap.size HE.out _ 0 [] rfl HO.out Subtype.val Cl.len Cl.one es _ rfl HR.out (by omega) (by omega) HA.out.size ?_;intro v1 w1 own1 _ bel1;have O1:=Lib.hid own1;have B1:=Lib.hid bel1;clear own1 bel1)
  go_ret
  have:=O1.out
  rw [Nat.zero_add,List.nil_append] at this
  exact ⟨_,rfl,this,HA.out.trans B1.out⟩
end Go.Proofs.YtpibcdnagnjokaaGreat
end
section
namespace Go.Proofs.YtpibcdnagnjokaaGreat
open Go Cg Go.RowKit Go.Sort
theorem clone_of {P:Program} {f:FuncId} {ty k b:Nat} (he:Ent P f) (hr:∀ (v:Value) (es:List (Cl k)) (w:World),RowC k w v es→es.length*b≤140737488355328→Calls P f #[v] w fun e w'=>∃ v',e=.returned v'∧w'.ownsRow w.heap.size ty k v' es.length (es.flatMap Subtype.val)∧Below w.heap.size w w') (xs:List (List Tr)) (hb:xs.length*b≤140737488355328) :
  Ct P f [.c (.t (.sl k xs))] (.c (.row 0 0)) [⟨ty,k,0,xs,none⟩] false:=by
 refine ⟨he,Nb rfl,fun R hR=>?_,rfl,fun x hx=>(by cases hx),fun x hx=>?_,fun w vs E0 ha=>?_⟩
 ·obtain rfl:R=_:=List.mem_singleton.1 hR
  rfl
 ·obtain rfl:x=(0,0):=by simpa [AV.rids,AV.rid1,Ce.rids] using hx
  exact ⟨_,rfl,Nat.le_refl _⟩
 cases ha with
 | cons hv hnil=>
  cases hnil
  rename_i v
  have hv:RT E0.F w v (.sl k xs):=hv
  obtain ⟨es,hes,hrow⟩:∃ es:List (Cl k),Ets E0.F w es xs∧RowC k w v es:=by
   obtain ⟨ao,cap,h1,h2,h3⟩:=RT.len hv
   rcases hv.cases' with h0|⟨g,o,cap',h4,h5,h6,h7,h8⟩
   ·subst h0
    exact ⟨[],⟨rfl,fun j vs ts h=>by simp at h⟩,ao,cap,h1,⟨Nat.zero_le _,h3⟩,.inl rfl⟩
   ·obtain ⟨es,h9,h10⟩:=h8.raw
    refine ⟨es,h9,_,cap',by rw [h4,h9.len],⟨by rw [h9.len];exact h5,fun h=>by cases h⟩,.inr ⟨g,o,rfl,h7,fun j x hx i u hu=>?_⟩⟩
    have hi:i < k:=by have:=(List.getElem?_eq_some_iff.1 hu).1;rwa [Cl.len] at this
    have:=h10 (j*k+i) u (by rw [flat_get (enc:=Subtype.val) Cl.len es j x hx i hi];exact hu)
    rwa [← Nat.add_assoc] at this
  refine (hr v es w hrow (by rw [hes.len];exact hb)).mono ?_
  rintro e w' ⟨v',rfl,hown,hbel⟩
  refine ⟨v',rfl,hbel,⟨fun b=>if b < w.heap.size then (if E0.rl b=.cold then .cold else .non) else .rw 0,fun _=>0,fun _ _=>v'⟩,⟨rfl,own_one hown⟩,fun j R hj=>?_,fun b hlt hc=>⟨rfl,?_⟩⟩
  ·cases j with
   | succ j=>simp at hj
   | zero=>
    obtain rfl:=Option.some.inj hj
    refine Ow.rr rfl ⟨es,hown,hes.fr hbel.size (fun b _ hlt=>hbel.block b hlt) (fun b hb hlt=>?_),fun g hg=>?_⟩
    ·show (if b < w.heap.size then (if E0.rl b=.cold then .cold else .non) else BRole.rw 0)=.cold
     rw [if_pos hlt,if_pos (show E0.rl b=.cold from hb)]
    ·show (if g < w.heap.size then (if E0.rl g=.cold then .cold else .non) else BRole.rw 0)=.rw 0
     rw [if_neg (Nat.not_lt.2 (hown.lt g hg).1)]
  ·have hc:(if b < w.heap.size then (if E0.rl b=.cold then .cold else .non) else BRole.rw 0)=.cold:=hc
   rw [if_pos hlt] at hc
   split at hc
   ·rename_i h
    exact h
   ·cases hc
theorem ct_tree {P:Program} {f:FuncId} {ars:List AV} {ty k:Nat} {xs:List (List Tr)} (h:Ct P f ars (.c (.row 0 0)) [⟨ty,k,0,xs,none⟩] false):Ct P f ars (.c (.t (.sl k xs))) [] false:=by
 refine ⟨h.ent,Nat.zero_le _,fun R hR=>(by cases hR),h.plain,fun x hx=>(by cases hx),fun x hx=>(by cases hx),fun w vs E0 ha=>(h.run w vs E0 ha).mono ?_⟩
 rintro e w' ⟨v,rfl,hbel,E,hr,hrow,hcold⟩
 refine ⟨v,rfl,hbel,⟨fun b=>if b < w.heap.size then E.rl b else .cold,fun _=>0,fun _ _=>v⟩,?_,fun j R hj=>(by simp at hj),fun b hlt hc=>hcold b hlt ?_⟩
 ·have hr:RC E w' v (.row 0 0):=hr
  show RT _ w' v (.sl k xs)
  obtain ⟨es,h1,h2,h3⟩:=(hrow 0 _ rfl).ow rfl
  rw [hr.1]
  refine own_rt h1 h2.len (fun g hg _=>?_) fun j x ts q1 q2=>(h2.at_ j x ts q1 q2).frame (Nat.le_refl _) (fun _ _ _=>rfl) fun b hb _=>?_
  ·show (if g < w.heap.size then E.rl g else BRole.cold)=.cold
   rw [if_neg (Nat.not_lt.2 (h1.lt g hg).1)]
  ·show (if b < w.heap.size then E.rl b else BRole.cold)=.cold
   split
   ·exact hb
   ·rfl
 ·have hc:(if b < w.heap.size then E.rl b else BRole.cold)=.cold:=hc
  rwa [if_pos hlt] at hc
theorem cloneInt_ct (xs:List (List Tr)) (h:xs.length*8≤limB):Ct Tryz.prog 68 [.c (.t (.sl 1 xs))] (.c (.row 0 0)) [⟨3,1,0,xs,none⟩] false:=
 clone_of (enters_of Tryz.func68 (by kernel_rfl) rfl) cloneint xs (Nat.le_trans h (Nb rfl))
theorem cloneObject_ct (xs:List (List Tr)) (h:xs.length*128≤limB):Ct Tryz.prog 67 [.c (.t (.sl 19 xs))] (.c (.row 0 0)) [⟨47,19,0,xs,none⟩] false:=
 clone_of (enters_of Tryz.func67 (by kernel_rfl) rfl) cloneObject xs (Nat.le_trans h (Nb rfl))
theorem clonePlayer_ct (xs:List (List Tr)) (h:xs.length*152≤limB):Ct Tryz.prog 65 [.c (.t (.sl 14 xs))] (.c (.row 0 0)) [⟨44,14,0,xs,none⟩] false:=
 clone_of (enters_of Tryz.func65 (by kernel_rfl) rfl) clonePlayer xs (Nat.le_trans h (Nb rfl))
theorem cloneItem_ct (xs:List (List Tr)) (h:xs.length*824≤limB):Ct Tryz.prog 69 [.c (.t (.sl 94 xs))] (.c (.row 0 0)) [⟨91,94,0,xs,none⟩] false:=
 clone_of (enters_of Tryz.func69 (by kernel_rfl) rfl) cloneItem xs (Nat.le_trans h (Nb rfl))
theorem cloneTarget_ct (xs:List (List Tr)) (h:xs.length*16≤limB):Ct Tryz.prog 71 [.c (.t (.sl 2 xs))] (.c (.row 0 0)) [⟨94,2,0,xs,none⟩] false:=
 clone_of (enters_of Tryz.func71 (by kernel_rfl) rfl) cloneTarget xs (Nat.le_trans h (Nb rfl))
theorem cloneWaiting_ct (xs:List (List Tr)) (h:xs.length*768≤limB):Ct Tryz.prog 72 [.c (.t (.sl 89 xs))] (.c (.row 0 0)) [⟨97,89,0,xs,none⟩] false:=
 clone_of (enters_of Tryz.func72 (by kernel_rfl) rfl) cloneWaiting xs (Nat.le_trans h (Nb rfl))
theorem cloneCont_ct (xs:List (List Tr)) (h:xs.length*80≤limB):Ct Tryz.prog 73 [.c (.t (.sl 6 xs))] (.c (.row 0 0)) [⟨100,6,0,xs,none⟩] false:=
 clone_of (enters_of Tryz.func73 (by kernel_rfl) rfl) cloneCont xs (Nat.le_trans h (Nb rfl))
theorem cloneMod_ct (xs:List (List Tr)) (h:xs.length*176≤limB):Ct Tryz.prog 74 [.c (.t (.sl 20 xs))] (.c (.row 0 0)) [⟨137,20,0,xs,none⟩] false:=
 clone_of (enters_of Tryz.func74 (by kernel_rfl) rfl) cloneMod xs (Nat.le_trans h (Nb rfl))
theorem cloneSpec_ct (xs:List (List Tr)) (h:xs.length*144≤limB):Ct Tryz.prog 114 [.c (.t (.sl 18 xs))] (.c (.row 0 0)) [⟨157,18,0,xs,none⟩] false:=
 clone_of (enters_of Tryz.func114 (by kernel_rfl) rfl) cloneSpec xs (Nat.le_trans h (Nb rfl))
theorem cloneEffect_ct (xs:List (List Tr)) (h:xs.length*560≤limB):Ct Tryz.prog 115 [.c (.t (.sl 64 xs))] (.c (.row 0 0)) [⟨154,64,0,xs,none⟩] false:=
 clone_of (enters_of Tryz.func115 (by kernel_rfl) rfl) cloneEffect xs (Nat.le_trans h (Nb rfl))
theorem copyPlayer_ct (p:GPlayer) (h:p.ok):Ct Tryz.prog 66 [.agg (p.enc.map .t)] (.agg ((p.enc.map .t).take 11++[.row 0 0,.row 1 0,.row 2 0])) [⟨3,1,0,p.library.map eI,none⟩,⟨3,1,0,p.hand.map eI,none⟩,⟨3,1,0,p.graveyard.map eI,none⟩] false:=by
 refine ct_of Tryz.func66 rfl (enters_of Tryz.func66 (by kernel_rfl) rfl) tabOk (by kernel_rfl) rfl rfl rfl rfl fun w0 O _=>Tp.run [] ?_
 obtain ⟨h1,h2,h3⟩:=h
 refine cI (cloneInt_ct _ (map_bound _ _ _ h1)) ⟨rfl,trivial⟩ (.inr rfl) ?_
 refine cI (cloneInt_ct _ (map_bound _ _ _ h2)) ⟨rfl,trivial⟩ (.inr rfl) ?_
 refine cI (cloneInt_ct _ (map_bound _ _ _ h3)) ⟨rfl,trivial⟩ (.inr rfl) ?_
 exact Ei [(0,512),(1,1152),(2,1792)] (Ai rfl (Ai (Ai ⟨rfl,rfl,rfl⟩ (Ai ⟨rfl,rfl,rfl⟩ (Ai ⟨rfl,rfl,rfl⟩ trivial))) (by repeat' first|refine Ai ?_ ?_|exact rfl|exact trivial|exact Ei _ rfl|refine lN ?_|refine bS ?_|fail)))
theorem set_same {α:Type} {xs:List α} {i:Nat} {t:α} (h:xs[i]? = some t):xs.set i t=xs:=by
 refine List.ext_getElem? fun j=>?_
 by_cases e:i=j
 ·subst e
  rw [List.getElem?_set_self (List.getElem?_eq_some_iff.1 h).1,h]
 ·rw [List.getElem?_set_ne e]
theorem copyAbility_ct (a:GAbility) (h:a.ok):Ct Tryz.prog 70 [.agg (a.enc.map .t)] (.agg (a.enc.map .t)) [] false:=by
 obtain ⟨_,hm,hm2,_,_,hs,hs2,he,he2,_⟩:=h
 refine ct_of Tryz.func70 rfl (enters_of Tryz.func70 (by kernel_rfl) rfl) tabOk (by kernel_rfl) rfl rfl rfl rfl fun w0 O _=>Tp.run [9] ?_
 refine cI (ct_tree (cloneMod_ct _ (map_bound _ _ _ hm))) ⟨rfl,trivial⟩ (.inr rfl) ?_
 refine cI (ct_tree (cloneSpec_ct _ (map_bound _ _ _ hs))) ⟨rfl,trivial⟩ (.inr rfl) ?_
 refine cI (cloneEffect_ct _ (map_bound _ _ _ he)) ⟨rfl,trivial⟩ (.inr rfl) ?_
 refine Tp.loop (fun k:Nat=>⟨[(1,.ptr 0 0),(2,.ptr 128 0),(18,AV.i (a.effects.map GEffect.enc).length),(19,AV.i k)],[(0,(a.enc.map .t).set 49 (.row 9000 0)),(128,List.replicate 72 .bot)],[(9000,⟨154,64,0,a.effects.map GEffect.enc,none⟩)],10000⟩) (fun k=>k≤a.effects.length) (fun k=>a.effects.length - k) 0 ?_ (Nat.zero_le _) ?_
 ·refine wk_of [(9000,1792)] rfl rfl ?_ ?_ ?_
  all_goals repeat' first|refine Ai ?_ ?_|exact rfl|exact trivial|exact Ei _ rfl|refine lN ?_|refine bS ?_|fail
 rintro k hk
 refine Tp.run [9] ?_
 refine cS (fun h=>?_) (fun h=>?_)
 ·have hlt:=len_lt h
  obtain ⟨_,_,_,hem,hem2⟩:=he2 a.effects[k] (List.getElem_mem hlt)
  have hkl:k < (a.effects.map GEffect.enc).length:=by rw [Lm];exact hlt
  refine Ei k (Ai rfl (Ai hkl ?_))
  refine Ei (a.effects[k].enc) (Ei _ (Ai (map_get _ _ k hlt) (Ai rfl ?_)))
  refine cI (ct_tree (cloneMod_ct _ (map_bound _ _ _ hem))) ⟨rfl,trivial⟩ (.inr rfl) ?_
  refine Ei k (Ai rfl (Ai hkl ?_))
  refine Ei (a.effects[k].enc) (Ai (map_get _ _ k hlt) (Ai (Nb rfl) ?_))
  refine Ei (k+1) (Ai (show k+1≤_ by omega) (Ai (show a.effects.length - (k+1) < a.effects.length - k by omega) ?_))
  refine wk_of [(9000,9000)] rfl rfl ?_ ?_ ?_
  ·repeat' first|refine Ai ?_ ?_|exact rfl|exact trivial|exact Ei _ rfl|refine lN ?_|refine bS ?_|fail
   exact succ_eq k hlt 560 (by decide) he
  ·repeat' first|refine Ai ?_ ?_|exact rfl|exact trivial|exact Ei _ rfl|refine lN ?_|refine bS ?_|fail
  ·repeat' first|refine Ai ?_ ?_|exact rfl|exact trivial|exact Ei _ rfl|refine lN ?_|refine bS ?_|fail
   exact set_same (map_get _ _ k hlt)
 ·have hk2:=len_ge h hk
  subst hk2
  refine Tp.run [] ?_
  refine Ei [] (Ai rfl (Ai trivial ?_))
  repeat' first|refine Ai ?_ ?_|exact rfl|exact trivial|exact Ei _ rfl|refine lN ?_|refine bS ?_|fail
end Go.Proofs.YtpibcdnagnjokaaGreat
end
section
namespace Cg
open Go Go.RowKit Go.Sort
theorem rtl_lits {F F':Nat→Prop} {w:World}:∀ {vs:List Value} {ts:List Tr},RTL F w vs ts→(∀ t∈ts,∃ x,t=Tr.lit x)→RTL F' w vs ts
 | _,_,.nil,_=>.nil
 | _,_,.cons h1 h2,h=>by
  obtain ⟨x,rfl⟩:=h _ (List.mem_cons_self ..)
  refine .cons ?_ (rtl_lits h2 fun t ht=>h t (List.mem_cons_of_mem _ ht))
  cases h1 with
  | lit q=>exact .lit q
theorem ct_free {P:Program} {f:FuncId} {ars:List AV} {ty k:Nat} {xs:List (List Tr)} {b:Bool} (h:Ct P f ars (.c (.row 0 0)) [⟨ty,k,0,xs,none⟩] b) (hx:∀ ts∈xs,∀ t∈ts,∃ v,t=Tr.lit v):Ct P f ars (.c (.row 0 0)) [⟨ty,k,0,xs,none⟩] true:=by
 refine ⟨h.ent,h.few,h.shut,h.plain,h.nob,h.rid,fun w vs E0 ha=>(h.run w vs E0 ha).mono ?_⟩
 rintro e w' ⟨v,rfl,hbel,E,hr,hrow,hcold⟩
 refine ⟨v,rfl,hbel,⟨fun b=>if b < w.heap.size then .non else E.rl b,E.bk,E.vl⟩,hr,fun j R hj=>?_,fun b hlt hc=>?_⟩
 ·cases j with
  | succ j=>simp at hj
  | zero=>
   injection hj with hj
   subst hj
   obtain ⟨es,h1,h2,h3⟩:=(hrow 0 _ rfl).ow rfl
   refine Ow.rr rfl ⟨es,h1,⟨h2.len,fun j x ts q1 q2=>rtl_lits (h2.at_ j x ts q1 q2) (hx ts (List.mem_of_getElem? q2))⟩,fun g hg=>?_⟩
   show (if g < w.heap.size then BRole.non else E.rl g)=_
   rw [if_neg (Nat.not_lt.2 (h1.lt g hg).1)]
   exact h3 g hg
 ·have hc:(if b < w.heap.size then BRole.non else E.rl b)=.cold:=hc
  rw [if_pos hlt] at hc
  cases hc
theorem encI_lits (l:List Int):∀ ts∈l.map eI,∀ t∈ts,∃ v,t=Tr.lit v:=fun ts h t ht=>by
 obtain ⟨n,_,rfl⟩:=List.mem_map.1 h
 have:t=iv n:=List.mem_singleton.1 ht
 exact ⟨_,this⟩
theorem encO_lits (l:List GObject):∀ ts∈l.map GObject.enc,∀ t∈ts,∃ v,t=Tr.lit v:=fun ts h t ht=>by
 obtain ⟨o,_,rfl⟩:=List.mem_map.1 h
 revert t
 repeat' (first|refine List.forall_mem_cons.2 ⟨⟨_,rfl⟩,?_⟩|exact fun _ h=>by cases h)
end Cg
end
section
namespace Go.Proofs.YtpibcdnagnjokaaGreat
open Go Cg Go.RowKit Go.Sort
theorem joinK' {P:Program} {T:Nat→Option Ty} {N:Nat} {w0:World} {O:Gst} {c:Code} {Q:Ex→St→Prop} {B:Prop} (st:St) (h:Tp P T N w0 O c st Q→B) (key:Tp P T N w0 O c st Q):B:=h key
theorem lim8' {n:Nat} (h:n≤1000000):n*8≤limB:=by unfold limB;omega
theorem ap8 {X:List Int} (h:X.length≤1000000):((X.map eI).length+1)*8≤140737488355328:=by rw [Lm];omega
theorem ap8' {X:List Int} (h:X.length≤1000000):(X.map eI).length+1 < 140737488355328:=by rw [Lm];omega
theorem ap0 {X:List Int} (h:X.length≤1000000):(X.map eI).length*8≤140737488355328:=by rw [Lm];omega
theorem ap0' {X:List Int} (h:X.length≤1000000):(X.map eI).length < 140737488355328:=by rw [Lm];omega
theorem apI (X:List Int) (n:Int):X.map eI++[eI n]=(X++[n]).map eI:=by rw [List.map_append];rfl
theorem index_ct (l:List Int) (n:Int) (hl:l.length≤1000000):Ct Tryz.prog 42 [.c (.t (.sl 1 (l.map eI))),.c (.t (iv n))] (AV.i (ixI l n)) [] true:=by
 refine Ct.lit (b:=false) ?_ rfl
 have hl:=lim8' hl
 refine ct_of Tryz.func42 rfl (enters_of Tryz.func42 (by kernel_rfl) rfl) tabOk (by kernel_rfl) rfl rfl rfl rfl fun w0 O _=>Tp.run [] ?_
 refine Tp.loop (fun k:Nat=>⟨[(0,.c (.t (.sl 1 (l.map eI)))),(1,.c (.t (iv n))),(5,AV.i k)],[],[],10000⟩) (fun k=>k≤l.length∧∀ j (h:j < l.length),j < k→(fun m=>m==n) l[j]=false) (fun k=>l.length - k) 0 ?_ ⟨Nat.zero_le _,fun j _ hj=>by omega⟩ ?_
 ·refine wk_of [] rfl rfl ?_ ?_ ?_
  all_goals repeat' first|refine Ai ?_ ?_|exact rfl|exact trivial|exact Ei _ rfl|refine lN ?_|refine bS ?_|fail
 rintro k ⟨hk,hno⟩
 refine Tp.run [4,5,3] ?_
 refine cS (fun h=>?_) (fun h=>?_)
 ·have hlt:=len_lt h
  refine Tp.run [] ?_
  refine Ei k (Ei (eI l[k]) (Ai rfl (Ai (map_get _ _ k hlt) ?_)))
  refine cS (fun h=>?_) (fun h=>?_)
  ·refine Tp.run [] ?_
   refine Ei [] (Ai rfl (Ai trivial ?_))
   rw [ixI,fidx_hit _ _ k hlt h hno]
   exact rfl
  ·refine Tp.run [] ?_
   refine Ei (k+1) (Ai ⟨by omega,fun j hj hjk=>?_⟩ (Ai (show l.length - (k+1) < l.length - k by omega) ?_))
   ·by_cases e:j=k
    ·subst e;exact h
    ·exact hno j hj (by omega)
   refine wk_of [] rfl rfl ?_ ?_ ?_
   ·repeat' first|refine Ai ?_ ?_|exact rfl|exact trivial|exact Ei _ rfl|refine lN ?_|refine bS ?_|fail
    exact succ_eq k hlt 8 (by decide) hl
   all_goals repeat' first|refine Ai ?_ ?_|exact rfl|exact trivial|exact Ei _ rfl|refine lN ?_|refine bS ?_|fail
 ·have hk2:=len_ge h hk
  refine Ei [] (Ai rfl (Ai trivial ?_))
  rw [ixI,fidx_miss _ _ (fun j hj=>hno j hj (by omega))]
  exact rfl
theorem has_ct (l:List Int) (n:Int) (hl:l.length≤1000000):Ct Tryz.prog 120 [.c (.t (.sl 1 (l.map eI))),.c (.t (iv n))] (AV.b (hasI l n)) [] true:=by
 refine Ct.lit (b:=false) ?_ rfl
 refine ct_of Tryz.func120 rfl (enters_of Tryz.func120 (by kernel_rfl) rfl) tabOk (by kernel_rfl) rfl rfl rfl rfl fun w0 O _=>Tp.run [] ?_
 refine cI (index_ct l n hl) ⟨rfl,rfl,trivial⟩ (.inl rfl) ?_
 refine Ei [] (Ai rfl (Ai ?_ ?_))
 all_goals repeat' first|refine Ai ?_ ?_|exact rfl|exact trivial|exact Ei _ rfl|refine lN ?_|refine bS ?_|fail
theorem wrapix {l:List Int} {n:Int} (hl:l.length≤1000000):IntKind.i64.wrap (ixI l n+1)=ixI l n+1:=by
 have h1:=ixI_ge l n
 have h2:=ixI_lt l n
 rw [IntKind.wrap_i64]
 omega
theorem rank_ct (l:List Int) (n:Int) (hl:l.length≤1000000):Ct Tryz.prog 40 [.c (.t (.sl 1 (l.map eI))),.c (.t (iv n))] (AV.i (rankM l n)) [] true:=by
 refine Ct.lit (b:=false) ?_ rfl
 generalize hM:rankM l n=M
 refine ct_of Tryz.func40 rfl (enters_of Tryz.func40 (by kernel_rfl) rfl) tabOk (by kernel_rfl) rfl rfl rfl rfl fun w0 O _=>Tp.run [2,3] ?_
 refine cS (fun h=>?_) (fun h=>?_)
 ·have:M=n:=by rw [← hM,rankM,if_pos (of_decide_eq_true h)]
  subst this
  refine Tp.run [] ?_
  refine Ei [] (Ai rfl (Ai ?_ ?_))
  all_goals repeat' first|refine Ai ?_ ?_|exact rfl|exact trivial|exact Ei _ rfl|refine lN ?_|refine bS ?_|fail
 ·have:M=IntKind.i64.wrap (ixI l n+1):=by rw [← hM,rankM,if_neg (of_decide_eq_false h),wrapix hl]
  subst this
  refine Tp.run [] ?_
  refine cI (index_ct l n hl) ⟨rfl,rfl,trivial⟩ (.inl rfl) ?_
  refine Ei [] (Ai rfl (Ai ?_ ?_))
  all_goals repeat' first|refine Ai ?_ ?_|exact rfl|exact trivial|exact Ei _ rfl|refine lN ?_|refine bS ?_|fail
theorem eventR_ct (l:List Int) (e:GEvent) (hl:l.length≤1000000):Ct Tryz.prog 41 [.c (.t (.sl 1 (l.map eI))),.agg (e.enc.map .t)] (.agg ((evN (rankM l) e).enc.map .t)) [] true:=by
 refine Ct.litT (b:=false) ?_ rfl
 refine ct_of Tryz.func41 rfl (enters_of Tryz.func41 (by kernel_rfl) rfl) tabOk (by kernel_rfl) rfl rfl rfl rfl fun w0 O _=>Tp.run [] ?_
 refine cI (rank_ct l e.source hl) ⟨rfl,rfl,trivial⟩ (.inl rfl) ?_
 refine cI (rank_ct l e.object hl) ⟨rfl,rfl,trivial⟩ (.inl rfl) ?_
 refine Ei [] (Ai rfl (Ai ?_ ?_))
 all_goals repeat' first|refine Ai ?_ ?_|exact rfl|exact trivial|exact Ei _ rfl|refine lN ?_|refine bS ?_|fail
theorem ranksR_ct (l x:List Int) (hl:l.length≤1000000) (hx:x.length≤1000000):Ct Tryz.prog 39 [.c (.t (.sl 1 (l.map eI))),.c (.t (.sl 1 (x.map eI)))] (.c (.row 0 0)) [⟨3,1,0,(x.map (rankM l)).map eI,none⟩] true:=by
 refine ct_free (b:=false) ?_ (encI_lits _)
 have hx8:=lim8' hx
 refine ct_of Tryz.func39 rfl (enters_of Tryz.func39 (by kernel_rfl) rfl) tabOk (by kernel_rfl) rfl rfl rfl rfl fun w0 O _=>Tp.run [] ?_
 refine Tp.loop (fun k:Nat=>⟨[(0,.c (.t (.sl 1 (l.map eI)))),(1,.c (.t (.sl 1 (x.map eI)))),(5,.c (.row 9000 0)),(6,AV.i k)],[],[(9000,⟨3,1,0,((x.take k).map (rankM l)).map eI,none⟩)],10000⟩) (fun k=>k≤x.length) (fun k=>x.length - k) 0 ?_ (Nat.zero_le _) ?_
 ·refine wk_of [] rfl rfl ?_ ?_ ?_
  all_goals repeat' first|refine Ai ?_ ?_|exact rfl|exact trivial|exact Ei _ rfl|refine lN ?_|refine bS ?_|fail
 rintro k hk
 refine Tp.run [5,6] ?_
 refine cS (fun h=>?_) (fun h=>?_)
 ·have hlt:=len_lt h
  refine Tp.run [] ?_
  refine Ei k (Ei (eI x[k]) (Ai rfl (Ai (map_get _ _ k hlt) ?_)))
  refine cI (rank_ct l x[k] hl) ⟨rfl,rfl,trivial⟩ (.inl rfl) ?_
  have hb:((x.take k).map (rankM l)).length≤1000000:=by rw [Lm,List.length_take];omega
  refine Ai (.inl rfl) (Ai (ap8 hb) (Ai (ap8' hb) ?_))
  refine Ei (k+1) (Ai (show k+1≤_ by omega) (Ai (show x.length - (k+1) < x.length - k by omega) ?_))
  refine wk_of [(9000,9000)] rfl rfl ?_ ?_ ?_
  ·repeat' first|refine Ai ?_ ?_|exact rfl|exact trivial|exact Ei _ rfl|refine lN ?_|refine bS ?_|fail
   exact succ_eq k hlt 8 (by decide) hx8
  ·repeat' first|refine Ai ?_ ?_|exact rfl|exact trivial|exact Ei _ rfl|refine lN ?_|refine bS ?_|fail
  ·repeat' first|refine Ai ?_ ?_|exact rfl|exact trivial|exact Ei _ rfl|refine lN ?_|refine bS ?_|fail
   rw [List.take_succ_eq_append_getElem hlt,List.map_append]
   exact apI _ _
 ·have hk0:=len_ge h hk
  subst hk0
  rw [show x.take x.length=x from List.take_length]
  refine Ei [(0,9000)] (Ai rfl (Ai ?_ ?_))
  all_goals repeat' first|refine Ai ?_ ?_|exact rfl|exact trivial|exact Ei _ rfl|refine lN ?_|refine bS ?_|fail
theorem once_ct (o l:List Int) (ho:o.length≤500000) (hl:l.length≤500000):Ct Tryz.prog 79 [.c (.t (.sl 1 (o.map eI))),.c (.t (.sl 1 (l.map eI)))] (.c (.row 0 0)) [⟨3,1,0,(onceM o l).map eI,none⟩] true:=by
 refine ct_free (b:=false) ?_ (encI_lits _)
 have hl8:l.length*8≤limB:=lim8' (by omega)
 refine ct_of Tryz.func79 rfl (enters_of Tryz.func79 (by kernel_rfl) rfl) tabOk (by kernel_rfl) rfl rfl rfl rfl fun w0 O _=>Tp.run [] ?_
 refine Ai (.inl rfl) (Ai (ap0 (by omega)) (Ai (ap0' (by omega)) ?_))
 refine Tp.loop (fun x:Nat × List Int=>⟨[(1,.c (.t (.sl 1 (l.map eI)))),(5,.c (.row 9000 0)),(6,AV.i x.1)],[],[(9000,⟨3,1,0,x.2.map eI,none⟩)],10000⟩) (fun x=>x.1≤l.length∧x.2.length≤o.length+x.1∧onceM x.2 (l.drop x.1)=onceM o l) (fun x=>l.length - x.1) (0,o) ?_ ⟨Nat.zero_le _,Nat.le_refl _,rfl⟩ ?_
 ·refine wk_of [(9000,512)] rfl rfl ?_ ?_ ?_
  all_goals repeat' first|refine Ai ?_ ?_|exact rfl|exact trivial|exact Ei _ rfl|refine lN ?_|refine bS ?_|fail
 rintro ⟨k,q⟩ ⟨hk,hq,he⟩
 simp only at hk hq he
 refine Tp.run [6,7,5,8] ?_
 refine cS (fun h=>?_) (fun h=>?_)
 ·have hlt:k < l.length:=len_lt h
  have hqb:q.length≤1000000:=by omega
  rw [List.drop_eq_getElem_cons hlt,onceM] at he
  refine Tp.run [] ?_
  refine Ei k (Ei (eI l[k]) (Ai rfl (Ai (map_get _ _ k hlt) ?_)))
  refine cI (has_ct q l[k] hqb) ⟨?_,rfl,trivial⟩ (.inl rfl) ?_
  ·repeat' first|refine Ai ?_ ?_|exact rfl|exact trivial|exact Ei _ rfl|refine lN ?_|refine bS ?_|fail
  refine cond_n (cS (fun h2=>?_) (fun h2=>?_))
  ·rw [if_pos h2] at he
   refine Tp.run [] ?_
   refine Ei (k+1,q) (Ai ⟨show k+1≤_ by omega,show q.length≤o.length+(k+1) by omega,he⟩ (Ai (show l.length - (k+1) < l.length - k by omega) ?_))
   refine wk_of [(9000,9000)] rfl rfl ?_ ?_ ?_
   ·repeat' first|refine Ai ?_ ?_|exact rfl|exact trivial|exact Ei _ rfl|refine lN ?_|refine bS ?_|fail
    exact succ_eq k hlt 8 (by decide) hl8
   all_goals repeat' first|refine Ai ?_ ?_|exact rfl|exact trivial|exact Ei _ rfl|refine lN ?_|refine bS ?_|fail
  ·rw [h2,if_neg (by decide)] at he
   refine Tp.run [] ?_
   refine Ei k (Ei (eI l[k]) (Ai rfl (Ai (map_get _ _ k hlt) ?_)))
   refine Ai (.inl rfl) (Ai (ap8 hqb) (Ai (ap8' hqb) ?_))
   refine Tp.run [] ?_
   refine Ei (k+1,q++[l[k]]) (Ai ⟨show k+1≤_ by omega,by simp only [List.length_append,List.length_singleton];omega,he⟩ (Ai (show l.length - (k+1) < l.length - k by omega) ?_))
   refine wk_of [(9000,9000)] rfl rfl ?_ ?_ ?_
   ·repeat' first|refine Ai ?_ ?_|exact rfl|exact trivial|exact Ei _ rfl|refine lN ?_|refine bS ?_|fail
    exact succ_eq k hlt 8 (by decide) hl8
   ·repeat' first|refine Ai ?_ ?_|exact rfl|exact trivial|exact Ei _ rfl|refine lN ?_|refine bS ?_|fail
   ·repeat' first|refine Ai ?_ ?_|exact rfl|exact trivial|exact Ei _ rfl|refine lN ?_|refine bS ?_|fail
    exact apI _ _
 ·have hk0:k=l.length:=len_ge h hk
  rw [hk0,List.drop_length,onceM] at he
  refine Ei [(0,9000)] (Ai rfl (Ai ?_ ?_))
  ·repeat' first|refine Ai ?_ ?_|exact rfl|exact trivial|exact Ei _ rfl|refine lN ?_|refine bS ?_|fail
   all_goals exact congrArg (List.map eI) he
  ·repeat' first|refine Ai ?_ ?_|exact rfl|exact trivial|exact Ei _ rfl|refine lN ?_|refine bS ?_|fail
theorem insert_ct (l:List Int) (n:Int) (hl:l.length≤500000):Ct Tryz.prog 80 [.c (.t (.sl 1 (l.map eI))),.c (.t (iv n))] (.c (.row 0 0)) [⟨3,1,0,(ins ltZ n l).map eI,none⟩] true:=by
 refine ct_free (b:=false) ?_ (encI_lits _)
 have hl8:l.length*8≤limB:=lim8' (by omega)
 refine ct_of Tryz.func80 rfl (enters_of Tryz.func80 (by kernel_rfl) rfl) tabOk (by kernel_rfl) rfl rfl rfl rfl fun w0 O _=>Tp.run [12,13] ?_
 refine Tp.loop (fun x:Nat × List Int × Bool=>⟨[(0,.c (.t (.sl 1 (l.map eI)))),(1,.c (.t (iv n))),(5,.c (.row 9000 0)),(6,AV.b x.2.2),(7,AV.i x.1)],[],[(9000,⟨3,1,0,x.2.1.map eI,none⟩)],10000⟩) (fun x=>x.1≤l.length∧x.2.1.length≤2*x.1∧(l.drop x.1).foldl (insStep ltZ n) (x.2.1,x.2.2)=l.foldl (insStep ltZ n) ([],false)) (fun x=>l.length - x.1) (0,[],false) ?_ ⟨Nat.zero_le _,Nat.le_refl _,rfl⟩ ?_
 ·refine wk_of [] rfl rfl ?_ ?_ ?_
  all_goals repeat' first|refine Ai ?_ ?_|exact rfl|exact trivial|exact Ei _ rfl|refine lN ?_|refine bS ?_|fail
 rintro ⟨k,q,d⟩ ⟨hk,hq,he⟩
 simp only at hk hq he
 refine Tp.run [6,7,9,10,5] ?_
 refine cS (fun h=>?_) (fun h=>?_)
 ·have hlt:k < l.length:=len_lt h
  rw [List.drop_eq_getElem_cons hlt,List.foldl_cons] at he
  have hqb:q.length≤1000000:=by omega
  refine Tp.run [] ?_
  -- what is out behind the first test
  obtain ⟨q1,d1,hq1,hc1,hc0⟩:∃ (q1:List Int) (d1:Bool),q1.length≤q.length+1∧(d=false∧decide (n≤l[k])=true→q1=q++[n]∧d1=true)∧(¬ (d=false∧decide (n≤l[k])=true)→q1=q∧d1=d):=by
   by_cases hc:d=false∧decide (n≤l[k])=true
   ·exact ⟨q++[n],true,by simp,fun _=>⟨rfl,rfl⟩,fun h=>absurd hc h⟩
   ·exact ⟨q,d,by omega,fun h=>absurd h hc,fun _=>⟨rfl,rfl⟩⟩
  have hqb1:q1.length≤1000000:=by omega
  have hst:insStep ltZ n (q,d) l[k]=(if l[k]=n then q1 else q1++[l[k]],d1):=by
   unfold insStep
   by_cases hc:d=false∧decide (n≤l[k])=true
   ·obtain ⟨e1,e2⟩:=hc1 hc
    rw [if_pos ⟨hc.1,by have:=of_decide_eq_true hc.2;simp [ltZ];omega⟩,e1,e2]
   ·obtain ⟨e1,e2⟩:=hc0 hc
    rw [if_neg (fun h=>hc ⟨h.1,by have:=h.2;simp [ltZ] at this;exact decide_eq_true this⟩),e1,e2]
  rw [hst] at he
  apply joinK' (P:=Tryz.prog) (T:=T) (N:=Tryz.f80.ntmps) (w0:=w0) (O:=O) ⟨[(0,.c (.t (.sl 1 (l.map eI)))),(1,.c (.t (iv n))),(5,.c (.row 9000 0)),(6,AV.b d1),(7,AV.i k)],[],[(9000,⟨3,1,0,q1.map eI,none⟩)],15000⟩
  case h=>
   intro K
   refine cond_n (cS (fun hd=>?_) (fun hd=>?_))
   ·have hd:d=true:=hd
    obtain ⟨rfl,rfl⟩:=hc0 (fun h=>by rw [hd] at h;cases h.1)
    refine Tp.wk (wk_of [(9000,9000)] rfl rfl ?_ ?_ ?_) K
    all_goals repeat' first|refine Ai ?_ ?_|exact rfl|exact trivial|exact Ei _ rfl|refine lN ?_|refine bS ?_|fail
   ·have hd:d=false:=hd
    refine Ei k (Ei (eI l[k]) (Ai rfl (Ai (map_get _ _ k hlt) ?_)))
    refine cS (fun hn=>?_) (fun hn=>?_)
    ·obtain ⟨rfl,rfl⟩:=hc1 ⟨hd,hn⟩
     refine Tp.run [] ?_
     refine Ai (.inl rfl) (Ai (ap8 hqb) (Ai (ap8' hqb) ?_))
     refine Tp.wk (wk_of [(9000,9000)] rfl rfl ?_ ?_ ?_) K
     ·repeat' first|refine Ai ?_ ?_|exact rfl|exact trivial|exact Ei _ rfl|refine lN ?_|refine bS ?_|fail
     ·repeat' first|refine Ai ?_ ?_|exact rfl|exact trivial|exact Ei _ rfl|refine lN ?_|refine bS ?_|fail
     ·repeat' first|refine Ai ?_ ?_|exact rfl|exact trivial|exact Ei _ rfl|refine lN ?_|refine bS ?_|fail
      exact apI _ _
    ·obtain ⟨rfl,rfl⟩:=hc0 (fun h=>by rw [h.2] at hn;cases hn)
     refine Tp.wk (wk_of [(9000,9000)] rfl rfl ?_ ?_ ?_) K
     all_goals repeat' first|refine Ai ?_ ?_|exact rfl|exact trivial|exact Ei _ rfl|refine lN ?_|refine bS ?_|fail
  case key=>
   refine Tp.run [] ?_
   refine Ei k (Ei (eI l[k]) (Ai rfl (Ai (map_get _ _ k hlt) ?_)))
   refine cS (fun hn=>?_) (fun hn=>?_)
   ·have hn:¬ l[k]=n:=by
     have:(l[k] != n)=true:=hn
     simpa using this
    rw [if_neg hn] at he
    refine Tp.run [] ?_
    refine Ei k (Ei (eI l[k]) (Ai rfl (Ai (map_get _ _ k hlt) ?_)))
    refine Ai (.inl rfl) (Ai (ap8 hqb1) (Ai (ap8' hqb1) ?_))
    refine Tp.run [] ?_
    refine Ei (k+1,q1++[l[k]],d1) (Ai ⟨show k+1≤_ by omega,by simp only [List.length_append,List.length_singleton];omega,he⟩ (Ai (show l.length - (k+1) < l.length - k by omega) ?_))
    refine wk_of [(9000,9000)] rfl rfl ?_ ?_ ?_
    ·repeat' first|refine Ai ?_ ?_|exact rfl|exact trivial|exact Ei _ rfl|refine lN ?_|refine bS ?_|fail
     exact succ_eq k hlt 8 (by decide) hl8
    ·repeat' first|refine Ai ?_ ?_|exact rfl|exact trivial|exact Ei _ rfl|refine lN ?_|refine bS ?_|fail
    ·repeat' first|refine Ai ?_ ?_|exact rfl|exact trivial|exact Ei _ rfl|refine lN ?_|refine bS ?_|fail
     exact apI _ _
   ·have hn:l[k]=n:=by
     have:(l[k] != n)=false:=hn
     simpa using this
    rw [if_pos hn] at he
    refine Tp.run [] ?_
    refine Ei (k+1,q1,d1) (Ai ⟨show k+1≤_ by omega,show q1.length≤2*(k+1) by omega,he⟩ (Ai (show l.length - (k+1) < l.length - k by omega) ?_))
    refine wk_of [(9000,9000)] rfl rfl ?_ ?_ ?_
    ·repeat' first|refine Ai ?_ ?_|exact rfl|exact trivial|exact Ei _ rfl|refine lN ?_|refine bS ?_|fail
     exact succ_eq k hlt 8 (by decide) hl8
    all_goals repeat' first|refine Ai ?_ ?_|exact rfl|exact trivial|exact Ei _ rfl|refine lN ?_|refine bS ?_|fail
 ·have hk0:k=l.length:=len_ge h hk
  rw [hk0,List.drop_length,List.foldl_nil] at he
  have hf:=insStep_open ltZ ltZ_ord n l []
  rw [← he,List.nil_append] at hf
  simp only at hf
  have hqb:q.length≤1000000:=by omega
  refine cond_n (cS (fun hd=>?_) (fun hd=>?_))
  ·have hd:d=true:=hd
   rw [if_pos hd] at hf
   refine Tp.run [] ?_
   refine Ei [(0,9000)] (Ai rfl (Ai ?_ ?_))
   ·repeat' first|refine Ai ?_ ?_|exact rfl|exact trivial|exact Ei _ rfl|refine lN ?_|refine bS ?_|fail
    all_goals exact congrArg (List.map eI) hf
   ·repeat' first|refine Ai ?_ ?_|exact rfl|exact trivial|exact Ei _ rfl|refine lN ?_|refine bS ?_|fail
  ·have hd:d=false:=hd
   rw [hd,if_neg (by decide)] at hf
   refine Tp.run [] ?_
   refine Ai (.inl rfl) (Ai (ap8 hqb) (Ai (ap8' hqb) ?_))
   refine Tp.run [] ?_
   refine Ei [(0,9000)] (Ai rfl (Ai ?_ ?_))
   ·repeat' first|refine Ai ?_ ?_|exact rfl|exact trivial|exact Ei _ rfl|refine lN ?_|refine bS ?_|fail
    all_goals exact (apI _ _).trans (congrArg (List.map eI) hf)
   ·repeat' first|refine Ai ?_ ?_|exact rfl|exact trivial|exact Ei _ rfl|refine lN ?_|refine bS ?_|fail
theorem ofR_ct (l:List Int) (hl:l.length≤500000):Ct Tryz.prog 43 [.c (.t (.sl 1 (l.map eI)))] (.c (.row 0 0)) [⟨3,1,0,(insAll ltZ [] l).map eI,none⟩] true:=by
 refine ct_free (b:=false) ?_ (encI_lits _)
 have hl8:l.length*8≤limB:=lim8' (by omega)
 refine ct_of Tryz.func43 rfl (enters_of Tryz.func43 (by kernel_rfl) rfl) tabOk (by kernel_rfl) rfl rfl rfl rfl fun w0 O _=>Tp.run [] ?_
 refine Tp.loop (fun k:Nat=>⟨[(0,.c (.t (.sl 1 (l.map eI)))),(3,.c (.row 9000 0)),(4,AV.i k)],[],[(9000,⟨3,1,0,(insAll ltZ [] (l.take k)).map eI,none⟩)],10000⟩) (fun k=>k≤l.length) (fun k=>l.length - k) 0 ?_ (Nat.zero_le _) ?_
 ·refine wk_of [] rfl rfl ?_ ?_ ?_
  all_goals repeat' first|refine Ai ?_ ?_|exact rfl|exact trivial|exact Ei _ rfl|refine lN ?_|refine bS ?_|fail
 rintro k hk
 refine Tp.run [5,6] ?_
 refine cS (fun h=>?_) (fun h=>?_)
 ·have hlt:=len_lt h
  have hb:(insAll ltZ [] (l.take k)).length≤500000:=by
   have:=insAll_len ltZ (l.take k) []
   rw [List.length_take] at this
   simp only [List.length_nil] at this
   omega
  refine Tp.run [] ?_
  refine Ei k (Ei (eI l[k]) (Ai rfl (Ai (map_get _ _ k hlt) ?_)))
  refine cI (insert_ct _ l[k] hb) ⟨?_,rfl,trivial⟩ (.inl rfl) ?_
  ·repeat' first|refine Ai ?_ ?_|exact rfl|exact trivial|exact Ei _ rfl|refine lN ?_|refine bS ?_|fail
  refine Ei (k+1) (Ai (show k+1≤_ by omega) (Ai (show l.length - (k+1) < l.length - k by omega) ?_))
  refine wk_of [(9000,11152)] rfl rfl ?_ ?_ ?_
  ·repeat' first|refine Ai ?_ ?_|exact rfl|exact trivial|exact Ei _ rfl|refine lN ?_|refine bS ?_|fail
   exact succ_eq k hlt 8 (by decide) hl8
  ·repeat' first|refine Ai ?_ ?_|exact rfl|exact trivial|exact Ei _ rfl|refine lN ?_|refine bS ?_|fail
  ·repeat' first|refine Ai ?_ ?_|exact rfl|exact trivial|exact Ei _ rfl|refine lN ?_|refine bS ?_|fail
   rw [List.take_succ_eq_append_getElem hlt,insAll_snoc]
 ·have hk0:=len_ge h hk
  subst hk0
  rw [show l.take l.length=l from List.take_length]
  refine Ei [(0,9000)] (Ai rfl (Ai ?_ ?_))
  all_goals repeat' first|refine Ai ?_ ?_|exact rfl|exact trivial|exact Ei _ rfl|refine lN ?_|refine bS ?_|fail
theorem idsR_ct (s:GState) (hs:SmL s) (hok:s.ok):Ct Tryz.prog 36 [.agg (s.enc.map .t)] (.c (.row 0 0)) [⟨3,1,0,(idsM s).map eI,none⟩] true:=by
 refine ct_free (b:=false) ?_ (encI_lits _)
 obtain ⟨h1,h2,h3,h4,h5,h6,h7⟩:=hs
 have hp:=GState.ok_players hok
 have hst:=GState.ok_stack hok
 have l1:=onceM_len s.battlefield []
 have l2:=onceM_len s.exile (onceM [] s.battlefield)
 simp only [List.length_nil] at l1
 have hids:idsM s=s.stack.foldl stIds (s.players.foldl plIds (onceM (onceM [] s.battlefield) s.exile)):=rfl
 refine ct_of Tryz.func36 rfl (enters_of Tryz.func36 (by kernel_rfl) rfl) tabOk (by kernel_rfl) rfl rfl rfl rfl fun w0 O _=>Tp.run [9,13] ?_
 refine cI (once_ct [] s.battlefield (by simp) (by omega)) ⟨⟨1,rfl⟩,rfl,trivial⟩ (.inl rfl) ?_
 refine cI (once_ct (onceM [] s.battlefield) s.exile (by omega) (by omega)) ⟨?_,rfl,trivial⟩ (.inl rfl) ?_
 ·repeat' first|refine Ai ?_ ?_|exact rfl|exact trivial|exact Ei _ rfl|refine lN ?_|refine bS ?_|fail
 generalize onceM (onceM [] s.battlefield) s.exile=I at l2 hids ⊢
 refine Tp.loop (fun x:Nat × List Int=>⟨[(1,.ptr 0 0),(3,.c (.row 9000 0)),(4,AV.i x.1)],[(0,s.enc.map .t)],[(9000,⟨3,1,0,x.2.map eI,none⟩)],10000⟩) (fun x=>x.1≤s.players.length∧x.2.length≤600+900*x.1∧(s.players.drop x.1).foldl plIds x.2=s.players.foldl plIds I) (fun x=>s.players.length - x.1) (0,I) ?_ ⟨Nat.zero_le _,by simp only;omega,rfl⟩ ?_
 ·refine wk_of [(9000,1152)] rfl rfl ?_ ?_ ?_
  all_goals repeat' first|refine Ai ?_ ?_|exact rfl|exact trivial|exact Ei _ rfl|refine lN ?_|refine bS ?_|fail
 rintro ⟨k,q⟩ ⟨hk,hq,he⟩
 simp only at hk hq he
 refine Tp.run [6,9,13] ?_
 refine cS (fun h=>?_) (fun h=>?_)
 ·have hlt:k < s.players.length:=len_lt h
  obtain ⟨g1,g2,g3⟩:=h5 _ (List.getElem_mem hlt)
  rw [List.drop_eq_getElem_cons hlt,List.foldl_cons] at he
  have m1:=onceM_len s.players[k].library q
  have m2:=onceM_len s.players[k].hand (onceM q s.players[k].library)
  have m3:=onceM_len s.players[k].graveyard (onceM (onceM q s.players[k].library) s.players[k].hand)
  refine Tp.run [] ?_
  refine Ei k (Ei (s.players[k].enc) (Ai rfl (Ai (map_get _ _ k hlt) ?_)))
  refine cI (once_ct (q) s.players[k].library (by omega) (by omega)) ⟨?_,rfl,trivial⟩ (.inl rfl) ?_
  ·repeat' first|refine Ai ?_ ?_|exact rfl|exact trivial|exact Ei _ rfl|refine lN ?_|refine bS ?_|fail
  refine Ei k (Ei (s.players[k].enc) (Ai rfl (Ai (map_get _ _ k hlt) ?_)))
  refine cI (once_ct (onceM q s.players[k].library) s.players[k].hand (by omega) (by omega)) ⟨?_,rfl,trivial⟩ (.inl rfl) ?_
  ·repeat' first|refine Ai ?_ ?_|exact rfl|exact trivial|exact Ei _ rfl|refine lN ?_|refine bS ?_|fail
  refine Ei k (Ei (s.players[k].enc) (Ai rfl (Ai (map_get _ _ k hlt) ?_)))
  refine cI (once_ct (onceM (onceM q s.players[k].library) s.players[k].hand) s.players[k].graveyard (by omega) (by omega)) ⟨?_,rfl,trivial⟩ (.inl rfl) ?_
  ·repeat' first|refine Ai ?_ ?_|exact rfl|exact trivial|exact Ei _ rfl|refine lN ?_|refine bS ?_|fail
  refine Ei (k+1,plIds q s.players[k]) (Ai ⟨show k+1≤_ by omega,show (onceM (onceM (onceM q s.players[k].library) s.players[k].hand) s.players[k].graveyard).length≤600+900*(k+1) by omega,he⟩ (Ai (show s.players.length - (k+1) < s.players.length - k by omega) ?_))
  refine wk_of [(9000,13840)] rfl rfl ?_ ?_ ?_
  ·repeat' first|refine Ai ?_ ?_|exact rfl|exact trivial|exact Ei _ rfl|refine lN ?_|refine bS ?_|fail
   exact succ_eq k hlt 152 (by decide) hp
  all_goals repeat' first|refine Ai ?_ ?_|exact rfl|exact trivial|exact Ei _ rfl|refine lN ?_|refine bS ?_|fail
 have hk0:k=s.players.length:=len_ge h hk
 rw [hk0,List.drop_length,List.foldl_nil] at he
 rw [← he] at hids
 clear he h l1 l2 hk0
 refine Tp.run [13] ?_
 refine Tp.loop (fun x:Nat × List Int=>⟨[(1,.ptr 0 0),(3,.c (.row 9000 0)),(5,AV.i x.1)],[(0,s.enc.map .t)],[(9000,⟨3,1,0,x.2.map eI,none⟩)],20000⟩) (fun x=>x.1≤s.stack.length∧x.2.length≤9600+x.1∧(s.stack.drop x.1).foldl stIds x.2=s.stack.foldl stIds q) (fun x=>s.stack.length - x.1) (0,q) ?_ ⟨Nat.zero_le _,by simp only;omega,rfl⟩ ?_
 ·refine wk_of [(9000,9000)] rfl rfl ?_ ?_ ?_
  all_goals repeat' first|refine Ai ?_ ?_|exact rfl|exact trivial|exact Ei _ rfl|refine lN ?_|refine bS ?_|fail
 rintro ⟨j,p⟩ ⟨hj,hp2,he⟩
 simp only at hj hp2 he
 refine Tp.run [12,13] ?_
 refine cS (fun h=>?_) (fun h=>?_)
 ·have hlt:j < s.stack.length:=len_lt h
  rw [List.drop_eq_getElem_cons hlt,List.foldl_cons] at he
  have m1:=onceM_len [s.stack[j].id] p
  simp only [List.length_singleton] at m1
  refine Tp.run [] ?_
  refine Ei j (Ei (s.stack[j].enc) (Ai rfl (Ai (map_get _ _ j hlt) ?_)))
  refine cI (once_ct p [s.stack[j].id] (by omega) (by simp)) ⟨?_,?_,trivial⟩ (.inl rfl) ?_
  ·repeat' first|refine Ai ?_ ?_|exact rfl|exact trivial|exact Ei _ rfl|refine lN ?_|refine bS ?_|fail
  ·repeat' first|refine Ai ?_ ?_|exact rfl|exact trivial|exact Ei _ rfl|refine lN ?_|refine bS ?_|fail
  refine Ei (j+1,stIds p s.stack[j]) (Ai ⟨show j+1≤_ by omega,show (onceM p [s.stack[j].id]).length≤9600+(j+1) by omega,he⟩ (Ai (show s.stack.length - (j+1) < s.stack.length - j by omega) ?_))
  refine wk_of [(9000,21664)] rfl rfl ?_ ?_ ?_
  ·repeat' first|refine Ai ?_ ?_|exact rfl|exact trivial|exact Ei _ rfl|refine lN ?_|refine bS ?_|fail
   exact succ_eq j hlt 824 (by decide) hst
  all_goals repeat' first|refine Ai ?_ ?_|exact rfl|exact trivial|exact Ei _ rfl|refine lN ?_|refine bS ?_|fail
 have hk0:j=s.stack.length:=len_ge h hj
 rw [hk0,List.drop_length,List.foldl_nil] at he
 have hids:idsM s=p:=hids.trans he.symm
 refine Tp.run [] ?_
 refine Ei [(0,9000)] (Ai rfl (Ai ?_ ?_))
 ·repeat' first|refine Ai ?_ ?_|exact rfl|exact trivial|exact Ei _ rfl|refine lN ?_|refine bS ?_|fail
  all_goals exact congrArg (List.map eI) hids.symm
 ·repeat' first|refine Ai ?_ ?_|exact rfl|exact trivial|exact Ei _ rfl|refine lN ?_|refine bS ?_|fail
theorem stampsR_ct (s:GState) (hs:SmL s) (hok:s.ok):Ct Tryz.prog 37 [.agg (s.enc.map .t)] (.c (.row 0 0)) [⟨3,1,0,(stampsM s).map eI,none⟩] true:=by
 refine ct_free (b:=false) ?_ (encI_lits _)
 have ho:=GState.ok_objects hok
 have hc:=GState.ok_conts hok
 have n1:=hs.ob
 have n2:=hs.co
 refine ct_of Tryz.func37 rfl (enters_of Tryz.func37 (by kernel_rfl) rfl) tabOk (by kernel_rfl) rfl rfl rfl rfl fun w0 O _=>Tp.run [6,10] ?_
 refine Tp.loop (fun k:Nat=>⟨[(1,.ptr 0 0),(3,.c (.row 9000 0)),(4,AV.i k)],[(0,s.enc.map .t)],[(9000,⟨3,1,0,((s.objects.take k).map fun o=>o.stamp).map eI,none⟩)],10000⟩) (fun k=>k≤s.objects.length) (fun k=>s.objects.length - k) 0 ?_ (Nat.zero_le _) ?_
 ·refine wk_of [] rfl rfl ?_ ?_ ?_
  all_goals repeat' first|refine Ai ?_ ?_|exact rfl|exact trivial|exact Ei _ rfl|refine lN ?_|refine bS ?_|fail
 rintro k hk
 refine Tp.run [5,6,10] ?_
 refine cS (fun h=>?_) (fun h=>?_)
 ·have hlt:=len_lt h
  have hb:((s.objects.take k).map fun o=>o.stamp).length≤1000000:=by simp only [Lm,List.length_take];omega
  refine Tp.run [] ?_
  refine Ei k (Ei _ (Ai rfl (Ai (map_get _ _ k hlt) ?_)))
  refine Ai (.inl rfl) (Ai (ap8 hb) (Ai (ap8' hb) ?_))
  refine Ei (k+1) (Ai (show k+1≤_ by omega) (Ai (show s.objects.length - (k+1) < s.objects.length - k by omega) ?_))
  refine wk_of [(9000,9000)] rfl rfl ?_ ?_ ?_
  ·repeat' first|refine Ai ?_ ?_|exact rfl|exact trivial|exact Ei _ rfl|refine lN ?_|refine bS ?_|fail
   exact succ_eq k hlt 128 (by decide) ho
  ·repeat' first|refine Ai ?_ ?_|exact rfl|exact trivial|exact Ei _ rfl|refine lN ?_|refine bS ?_|fail
  ·repeat' first|refine Ai ?_ ?_|exact rfl|exact trivial|exact Ei _ rfl|refine lN ?_|refine bS ?_|fail
   rw [stm_step _ _ _ hlt]
   exact apI _ _
 have hk0:=len_ge h hk
 subst hk0
 clear h hk
 rw [show (s.objects.take s.objects.length)=s.objects from List.take_length]
 refine Tp.run [10] ?_
 refine Tp.loop (fun k:Nat=>⟨[(1,.ptr 0 0),(3,.c (.row 9000 0)),(5,AV.i k)],[(0,s.enc.map .t)],[(9000,⟨3,1,0,(s.objects.map (fun o=>o.stamp)++(s.conts.take k).map fun c=>c.stamp).map eI,none⟩)],20000⟩) (fun k=>k≤s.conts.length) (fun k=>s.conts.length - k) 0 ?_ (Nat.zero_le _) ?_
 ·refine wk_of [(9000,9000)] rfl rfl ?_ ?_ ?_
  ·repeat' first|refine Ai ?_ ?_|exact rfl|exact trivial|exact Ei _ rfl|refine lN ?_|refine bS ?_|fail
  ·repeat' first|refine Ai ?_ ?_|exact rfl|exact trivial|exact Ei _ rfl|refine lN ?_|refine bS ?_|fail
  ·repeat' first|refine Ai ?_ ?_|exact rfl|exact trivial|exact Ei _ rfl|refine lN ?_|refine bS ?_|fail
   simp
 rintro k hk
 refine Tp.run [9,10,10] ?_
 refine cS (fun h=>?_) (fun h=>?_)
 ·have hlt:=len_lt h
  have hb:(s.objects.map (fun o=>o.stamp)++(s.conts.take k).map fun c=>c.stamp).length≤1000000:=by simp only [List.length_append,Lm,List.length_take];omega
  refine Tp.run [] ?_
  refine Ei k (Ei _ (Ai rfl (Ai (map_get _ _ k hlt) ?_)))
  refine Ai (.inl rfl) (Ai (ap8 hb) (Ai (ap8' hb) ?_))
  refine Ei (k+1) (Ai (show k+1≤_ by omega) (Ai (show s.conts.length - (k+1) < s.conts.length - k by omega) ?_))
  refine wk_of [(9000,9000)] rfl rfl ?_ ?_ ?_
  ·repeat' first|refine Ai ?_ ?_|exact rfl|exact trivial|exact Ei _ rfl|refine lN ?_|refine bS ?_|fail
   exact succ_eq k hlt 80 (by decide) hc
  ·repeat' first|refine Ai ?_ ?_|exact rfl|exact trivial|exact Ei _ rfl|refine lN ?_|refine bS ?_|fail
  ·repeat' first|refine Ai ?_ ?_|exact rfl|exact trivial|exact Ei _ rfl|refine lN ?_|refine bS ?_|fail
   rw [stm_step _ _ _ hlt,← List.append_assoc]
   exact apI _ _
 have hk0:=len_ge h hk
 subst hk0
 clear h hk
 rw [show (s.conts.take s.conts.length)=s.conts from List.take_length]
 refine Tp.run [] ?_
 have hL:(s.objects.map (fun o=>o.stamp)++s.conts.map fun c=>c.stamp).length≤500000:=by
  rw [List.length_append,Lm,Lm]
  omega
 refine cI (ofR_ct _ hL) ⟨?_,trivial⟩ (.inl rfl) ?_
 ·repeat' first|refine Ai ?_ ?_|exact rfl|exact trivial|exact Ei _ rfl|refine lN ?_|refine bS ?_|fail
 refine Ei [(0,20768)] (Ai rfl (Ai ?_ ?_))
 all_goals repeat' first|refine Ai ?_ ?_|exact rfl|exact trivial|exact Ei _ rfl|refine lN ?_|refine bS ?_|fail
theorem insL_snoc {α:Type} (leb:α→α→Bool) (x:α):∀ (r l:List α),insL leb l (r++[x])=insW leb x (insL leb l r)
 | [],_=>rfl
 | y :: r,l=>by rw [List.cons_append,insL,insL_snoc leb x r,insL]
theorem insW_len {α:Type} (leb:α→α→Bool) (x:α) (l:List α):(insW leb x l).length=l.length+1:=by
 have:=(insW_perm leb x l).length_eq
 rw [this,List.length_append,List.length_singleton]
theorem insL_len {α:Type} (leb:α→α→Bool):∀ (r l:List α),(insL leb l r).length=l.length+r.length
 | [],l=>rfl
 | x :: r,l=>by
  rw [insL,insL_len leb r,insW_len,List.length_cons]
  omega
theorem tw_take {α:Type} {p:α→Bool}:∀ {l:List α} {j:Nat},j≤l.length→(∀ i (h:i < l.length),i < j→p l[i]=true)→(∀ h:j < l.length,p l[j]=false)→l.takeWhile p=l.take j∧l.dropWhile p=l.drop j
 | [],j,hj,_,_=>by
  have:j=0:=by simpa using hj
  subst this
  exact ⟨rfl,rfl⟩
 | x :: l,0,_,_,h=>by
  have:=h (by simp)
  simp only [List.getElem_cons_zero] at this
  rw [List.takeWhile_cons,List.dropWhile_cons,this]
  exact ⟨rfl,rfl⟩
 | x :: l,j+1,hj,h1,h2=>by
  have hx:=h1 0 (by simp) (by omega)
  simp only [List.getElem_cons_zero] at hx
  obtain ⟨e1,e2⟩:=tw_take (l:=l) (j:=j) (by simpa using hj) (fun i hi hij=>by
   have:=h1 (i+1) (by simpa using hi) (by omega)
   simpa using this) (fun h=>by
   have:=h2 (by simpa using h)
   simpa using this)
  rw [List.takeWhile_cons,List.dropWhile_cons,hx,e1,e2]
  exact ⟨rfl,rfl⟩
theorem ap128 {X:List GObject} {n:Nat} (h:X.length+n≤1000):((X.map GObject.enc).length+n)*128≤140737488355328:=by rw [Lm];omega
theorem ap128' {X:List GObject} {n:Nat} (h:X.length+n≤1000):(X.map GObject.enc).length+n < 140737488355328:=by rw [Lm];omega
theorem apO (X:List GObject) (o:GObject):X.map GObject.enc++[o.enc]=(X++[o]).map GObject.enc:=by rw [List.map_append];rfl
theorem hb1 (X:List GObject) (j:Nat) (o:GObject) (hj:j≤X.length) (h:X.length≤900):(((X.take j).map GObject.enc++[o.enc]).length+((X.map GObject.enc).drop j).length)*128≤140737488355328:=by
 simp only [List.length_append,Lm,List.length_take,List.length_drop,List.length_singleton]
 omega
theorem hb2 (X:List GObject) (j:Nat) (o:GObject) (hj:j≤X.length) (h:X.length≤900):((X.take j).map GObject.enc++[o.enc]).length+((X.map GObject.enc).drop j).length < 140737488355328:=by
 simp only [List.length_append,Lm,List.length_take,List.length_drop,List.length_singleton]
 omega
theorem cat3 (X:List GObject) (j:Nat) (o:GObject):(X.take j).map GObject.enc++[o.enc]++(X.map GObject.enc).drop j=(X.take j++[o]++X.drop j).map GObject.enc:=by
 rw [List.map_append,List.map_append,List.map_drop]
 rfl
def tmR (st:List Int) (n:Int):Int:=IntKind.i64.wrap (ixI st n+1)
theorem objectsR_ct (s:GState) (l st:List Int) (hs:SmL s) (hok:s.ok) (hl:l.length≤1000000) (ht:st.length≤1000000):Ct Tryz.prog 38 [.agg (s.enc.map .t),.c (.t (.sl 1 (l.map eI))),.c (.t (.sl 1 (st.map eI)))] (.c (.row 0 0)) [⟨47,19,0,(insL leO [] (s.objects.map (obN (rankM l) (timeM st)))).map GObject.enc,none⟩] true:=by
 have ho:=GState.ok_objects hok
 have hob:=hs.ob
 rw [show timeM st=tmR st from funext fun n=>(wrapix ht).symm]
 refine ct_free (b:=false) ?_ (encO_lits _)
 refine ct_of Tryz.func38 rfl (enters_of Tryz.func38 (by kernel_rfl) rfl) tabOk (by kernel_rfl) rfl rfl rfl rfl fun w0 O _=>Tp.run [16] ?_
 refine Tp.loop (fun k:Nat=>⟨[(1,.c (.t (.sl 1 (l.map eI)))),(2,.c (.t (.sl 1 (st.map eI)))),(3,.ptr 0 0),(7,.c (.row 9000 0)),(8,AV.i k)],[(0,s.enc.map .t)],[(9000,⟨47,19,0,(insL leO [] ((s.objects.take k).map (obN (rankM l) (tmR st)))).map GObject.enc,none⟩)],10000⟩) (fun k=>k≤s.objects.length) (fun k=>s.objects.length - k) 0 ?_ (Nat.zero_le _) ?_
 ·refine wk_of [] rfl rfl ?_ ?_ ?_
  all_goals repeat' first|refine Ai ?_ ?_|exact rfl|exact trivial|exact Ei _ rfl|refine lN ?_|refine bS ?_|fail
 rintro k hk
 refine Tp.run [5,14,16] ?_
 refine cS (fun h=>?_) (fun h=>?_)
 ·have hlt:=len_lt h
  have hst:insL leO [] ((s.objects.take (k+1)).map (obN (rankM l) (tmR st)))=insW leO (obN (rankM l) (tmR st) s.objects[k]) (insL leO [] ((s.objects.take k).map (obN (rankM l) (tmR st)))):=by
   rw [List.take_succ_eq_append_getElem hlt,List.map_append]
   exact insL_snoc ..
  have hle:(insL leO [] ((s.objects.take k).map (obN (rankM l) (tmR st)))).length=k:=by
   rw [insL_len,Lm,List.length_take]
   simp only [List.length_nil]
   omega
  refine Tp.run [14] ?_
  refine Ei k (Ei (s.objects[k].enc) (Ai rfl (Ai (map_get _ _ k hlt) ?_)))
  refine cI (rank_ct l s.objects[k].id hl) ⟨rfl,rfl,trivial⟩ (.inl rfl) ?_
  refine cI (rank_ct l s.objects[k].blocks hl) ⟨rfl,rfl,trivial⟩ (.inl rfl) ?_
  refine cI (index_ct st s.objects[k].stamp ht) ⟨rfl,rfl,trivial⟩ (.inl rfl) ?_
  generalize insL leO [] ((s.objects.take k).map (obN (rankM l) (tmR st)))=X at hst hle ⊢
  refine Tp.loop (fun j:Nat=>⟨[(1,.c (.t (.sl 1 (l.map eI)))),(2,.c (.t (.sl 1 (st.map eI)))),(3,.ptr 0 0),(7,.c (.row 9000 0)),(8,AV.i k),(9,.ptr 11280 0),(10,.c (.row 9001 0)),(11,AV.i j)],[(0,s.enc.map .t),(11280,(obN (rankM l) (tmR st) s.objects[k]).enc.map .t)],[(9000,⟨47,19,0,X.map GObject.enc,none⟩),(9001,⟨47,19,0,(X.take j).map GObject.enc,none⟩)],20000⟩) (fun j=>j≤X.length∧∀ i (h:i < X.length),i < j→leO X[i] (obN (rankM l) (tmR st) s.objects[k])=true) (fun j=>X.length - j) 0 ?_ ⟨Nat.zero_le _,fun i _ hi=>by omega⟩ ?_
  ·refine wk_of [(9000,9000)] rfl rfl ?_ ?_ ?_
   all_goals repeat' first|refine Ai ?_ ?_|exact rfl|exact trivial|exact Ei _ rfl|refine lN ?_|refine bS ?_|fail
  rintro j ⟨hj,hall⟩
  refine Tp.run [12,14,15,4] ?_
  have fin:X.takeWhile (fun y=>leO y (obN (rankM l) (tmR st) s.objects[k]))=X.take j∧X.dropWhile (fun y=>leO y (obN (rankM l) (tmR st) s.objects[k]))=X.drop j→X.take j++[obN (rankM l) (tmR st) s.objects[k]]++X.drop j=insL leO [] ((s.objects.take (k+1)).map (obN (rankM l) (tmR st))):=fun ⟨e1,e2⟩=>by
   rw [hst,insW,e1,e2]
   simp
  have hb0:(X.take j).length+1≤1000:=by rw [List.length_take];omega
  refine cS (fun h=>?_) (fun h=>?_)
  ·have hjl:j < X.length:=len_lt h
   refine Ei j (Ai rfl (Ai (by rw [Lm];exact hjl) ?_))
   refine Ei (GObject.enc X[j]) (Ei _ (Ai (map_get _ _ j hjl) (Ai rfl ?_)))
   refine cS (fun h2=>?_) (fun h2=>?_)
   ·refine Tp.run [] ?_
    refine Ei j (Ai rfl (Ai (by rw [Lm];exact hjl) ?_))
    refine Ei (GObject.enc X[j]) (Ei _ (Ai (map_get _ _ j hjl) (Ai rfl ?_)))
    refine Ai (.inl rfl) (Ai (ap128 hb0) (Ai (ap128' hb0) ?_))
    refine Ei (j+1) (Ai ⟨by omega,fun i hi hij=>?_⟩ (Ai (show X.length - (j+1) < X.length - j by omega) ?_))
    ·by_cases e:i=j
     ·subst e;exact h2
     ·exact hall i hi (by omega)
    refine wk_of [(9000,9000),(9001,9001)] rfl rfl ?_ ?_ ?_
    ·repeat' first|refine Ai ?_ ?_|exact rfl|exact trivial|exact Ei _ rfl|refine lN ?_|refine bS ?_|fail
     exact succ_eq j hjl 128 (by decide) (by unfold limB;omega)
    ·repeat' first|refine Ai ?_ ?_|exact rfl|exact trivial|exact Ei _ rfl|refine lN ?_|refine bS ?_|fail
    ·repeat' first|refine Ai ?_ ?_|exact rfl|exact trivial|exact Ei _ rfl|refine lN ?_|refine bS ?_|fail
     rw [List.take_succ_eq_append_getElem hjl]
     exact apO _ _
   ·have hf:=fin (tw_take hj hall fun _=>h2)
    refine Tp.frz [9001] (Tp.run [] ?_)
    refine Ai (.inl rfl) (Ai (ap128 hb0) (Ai (ap128' hb0) ?_))
    refine Ei j (Ei (X.map GObject.enc).length (Ai rfl (Ai rfl (Ai (by rw [Lm];exact hj) (Ai (Nat.le_refl _) ?_)))))
    rw [List.take_length]
    refine Ai (.inl rfl) (Ai (hb1 X j _ hj (by omega)) (Ai (hb2 X j _ hj (by omega)) ?_))
    refine Ei (k+1) (Ai (show k+1≤_ by omega) (Ai (show s.objects.length - (k+1) < s.objects.length - k by omega) ?_))
    refine wk_of [(9000,9001)] rfl rfl ?_ ?_ ?_
    ·repeat' first|refine Ai ?_ ?_|exact rfl|exact trivial|exact Ei _ rfl|refine lN ?_|refine bS ?_|fail
     exact succ_eq k hlt 128 (by decide) ho
    ·repeat' first|refine Ai ?_ ?_|exact rfl|exact trivial|exact Ei _ rfl|refine lN ?_|refine bS ?_|fail
    ·repeat' first|refine Ai ?_ ?_|exact rfl|exact trivial|exact Ei _ rfl|refine lN ?_|refine bS ?_|fail
     rw [← hf]
     exact cat3 X j _
  ·have hjl:¬ j < X.length:=fun hc=>by
    have:decide ((j:Int) < (((X.map GObject.enc).length:Nat):Int))=false:=h
    rw [Lm] at this
    have:=of_decide_eq_false this
    omega
   have hf:=fin (tw_take hj hall fun hc=>absurd hc hjl)
   refine Tp.frz [9001] (Tp.run [] ?_)
   refine Ai (.inl rfl) (Ai (ap128 hb0) (Ai (ap128' hb0) ?_))
   refine Ei j (Ei (X.map GObject.enc).length (Ai rfl (Ai rfl (Ai (by rw [Lm];exact hj) (Ai (Nat.le_refl _) ?_)))))
   rw [List.take_length]
   refine Ai (.inl rfl) (Ai (hb1 X j _ hj (by omega)) (Ai (hb2 X j _ hj (by omega)) ?_))
   refine Ei (k+1) (Ai (show k+1≤_ by omega) (Ai (show s.objects.length - (k+1) < s.objects.length - k by omega) ?_))
   refine wk_of [(9000,9001)] rfl rfl ?_ ?_ ?_
   ·repeat' first|refine Ai ?_ ?_|exact rfl|exact trivial|exact Ei _ rfl|refine lN ?_|refine bS ?_|fail
    exact succ_eq k hlt 128 (by decide) ho
   ·repeat' first|refine Ai ?_ ?_|exact rfl|exact trivial|exact Ei _ rfl|refine lN ?_|refine bS ?_|fail
   ·repeat' first|refine Ai ?_ ?_|exact rfl|exact trivial|exact Ei _ rfl|refine lN ?_|refine bS ?_|fail
    rw [← hf]
    exact cat3 X j _
 have hk0:=len_ge h hk
 subst hk0
 rw [show s.objects.take s.objects.length=s.objects from List.take_length]
 refine Tp.run [] ?_
 refine Ei [(0,9000)] (Ai rfl (Ai ?_ ?_))
 all_goals repeat' first|refine Ai ?_ ?_|exact rfl|exact trivial|exact Ei _ rfl|refine lN ?_|refine bS ?_|fail
end Go.Proofs.YtpibcdnagnjokaaGreat
end
section
namespace Go.Proofs.YtpibcdnagnjokaaGreat
open Go Cg Go.RowKit
theorem copyR_ct (s:GState) (h:s.ok):Ct Tryz.prog 16 [.agg (s.enc.map .t)] (.agg [.row 0 0,.t (.sl 19 (s.objects.map GObject.enc)),.t (.sl 1 (s.battlefield.map eI)),.t (.sl 1 (s.exile.map eI)),.row 1 0,.row 2 0,.row 3 0,.t (iv s.turn),.t (iv s.active),.t (iv s.step),.t (bv s.begun),.t (iv s.priority),.t (iv s.passes),.t (iv s.nextId),.t (iv s.nextStamp),.t (.lit (.int .u64 s.seed)),.t (.sl 1 (s.extra.map eI)),.t (iv s.over),.t (iv s.winner)]) [⟨44,14,0,s.players.map GPlayer.enc,none⟩,⟨91,94,0,s.stack.map GItem.enc,none⟩,⟨97,89,0,s.waiting.map GWaiting.enc,none⟩,⟨100,6,0,s.conts.map GCont.enc,none⟩] false:=by
 obtain ⟨hp,hp2,ho,ho2,hb,hx,hs,hs2,hw,hw2,hc,hc2,hxt⟩:=h
 refine ct_of Tryz.func16 rfl (enters_of Tryz.func16 (by kernel_rfl) rfl) tabOk (by kernel_rfl) rfl rfl rfl rfl fun w0 O _=>Tp.run [] ?_
 refine Tp.loop (fun k:Nat=>⟨[(1,.ptr 0 0),(2,.ptr 128 0),(3,.ptr 384 0),(4,AV.i k)],[(0,s.enc.map .t),(128,List.replicate 19 .bot),(384,((s.enc.map .t).set 0 (.row 9000 0)))],[(9000,⟨44,14,0,(s.players.take k).map GPlayer.enc,none⟩)],10000⟩) (fun k=>k≤s.players.length) (fun k=>s.players.length - k) 0 ?_ (Nat.zero_le _) ?_
 ·refine wk_of [] rfl rfl ?_ ?_ ?_
  all_goals repeat' first|refine Ai ?_ ?_|exact rfl|exact trivial|exact Ei _ rfl|refine lN ?_|refine bS ?_|fail
 rintro k hk
 refine Tp.run [10] ?_
 refine cS (fun h=>?_) (fun h=>?_)
 ·have hlt:=len_lt h
  obtain ⟨e1,e2,e3⟩:=hp2 s.players[k] (List.getElem_mem hlt)
  refine Ei k (Ei (s.players[k].enc) (Ai rfl (Ai (map_get _ _ k hlt) ?_)))
  refine cI (ints_ct _ (map_bound _ _ _ e1)) ⟨rfl,trivial⟩ (.inr rfl) ?_
  refine cI (ints_ct _ (map_bound _ _ _ e2)) ⟨rfl,trivial⟩ (.inr rfl) ?_
  refine cI (ints_ct _ (map_bound _ _ _ e3)) ⟨rfl,trivial⟩ (.inr rfl) ?_
  refine Tp.frz [9000] (Tp.run [] ?_)
  refine Ai (.inl rfl) (Ai (take_bound s.players GPlayer.enc k hlt _ 152 (by decide) hp) (Ai (take_bound2 s.players GPlayer.enc k hlt _ 152 (by decide) hp) ?_))
  refine Ei (k+1) (Ai (show k+1≤_ by omega) (Ai (show s.players.length - (k+1) < s.players.length - k by omega) ?_))
  refine wk_of [(9000,9000)] rfl rfl ?_ ?_ ?_
  ·repeat' first|refine Ai ?_ ?_|exact rfl|exact trivial|exact Ei _ rfl|refine lN ?_|refine bS ?_|fail
   exact succ_eq k hlt 152 (by decide) hp
  ·repeat' first|refine Ai ?_ ?_|exact rfl|exact trivial|exact Ei _ rfl|refine lN ?_|refine bS ?_|fail
  ·repeat' first|refine Ai ?_ ?_|exact rfl|exact trivial|exact Ei _ rfl|refine lN ?_|refine bS ?_|fail
   exact take_succ_map s.players GPlayer.enc k hlt
 have hk0:=len_ge h hk
 subst hk0
 clear h hk
 refine Ai (.inl rfl) (Ai (all_bound _ 128 (map_bound _ _ _ ho)) (Ai (all_bound2 _ 128 (by decide) (map_bound _ _ _ ho)) ?_))
 refine cI (ints_row _ (map_bound _ _ _ hb)) ⟨rfl,trivial⟩ (.inr rfl) ?_
 refine cI (ints_ct _ (map_bound _ _ _ hx)) ⟨rfl,trivial⟩ (.inr rfl) ?_
 refine Tp.loop (fun k:Nat=>⟨[(1,.ptr 0 0),(2,.ptr 128 0),(3,.ptr 384 0),(6,AV.i k)],[(0,s.enc.map .t),(128,List.replicate 19 .bot),(384,(((((s.enc.map .t).set 0 (.row 9000 0)).set 1 (.row 9001 0)).set 2 (.row 9002 0)).set 4 (.row 9003 0)))],[(9000,⟨44,14,0,s.players.map GPlayer.enc,none⟩),(9001,⟨47,19,0,s.objects.map GObject.enc,none⟩),(9002,⟨3,1,0,s.battlefield.map eI,none⟩),(9003,⟨91,94,0,(s.stack.take k).map GItem.enc,none⟩)],20000⟩) (fun k=>k≤s.stack.length) (fun k=>s.stack.length - k) 0 ?_ (Nat.zero_le _) ?_
 ·refine wk_of [(9000,9000),(9001,10640),(9002,11664)] rfl rfl ?_ ?_ ?_
  ·repeat' first|refine Ai ?_ ?_|exact rfl|exact trivial|exact Ei _ rfl|refine lN ?_|refine bS ?_|fail
   all_goals exact take_m s.players GPlayer.enc
  ·repeat' first|refine Ai ?_ ?_|exact rfl|exact trivial|exact Ei _ rfl|refine lN ?_|refine bS ?_|fail
   all_goals exact take_m s.players GPlayer.enc
  ·repeat' first|refine Ai ?_ ?_|exact rfl|exact trivial|exact Ei _ rfl|refine lN ?_|refine bS ?_|fail
   all_goals exact take_m s.players GPlayer.enc
 rintro k hk
 refine Tp.run [21] ?_
 refine cS (fun h=>?_) (fun h=>?_)
 ·have hlt:=len_lt h
  obtain ⟨e1,e2,_⟩:=hs2 s.stack[k] (List.getElem_mem hlt)
  refine Ei k (Ei (s.stack[k].enc) (Ai rfl (Ai (map_get _ _ k hlt) ?_)))
  refine cI (ability_ct s.stack[k].ability e1) ⟨fL s.stack[k].ability.enc,trivial⟩ (.inr rfl) ?_
  refine Ai (.inl rfl) (Ai (all_bound _ 16 (map_bound _ _ _ e2)) (Ai (all_bound2 _ 16 (by decide) (map_bound _ _ _ e2)) ?_))
  refine Tp.frz [9000,9001,9002,9003] (Tp.run [] ?_)
  refine Ai (.inl rfl) (Ai (take_bound s.stack GItem.enc k hlt _ 824 (by decide) hs) (Ai (take_bound2 s.stack GItem.enc k hlt _ 824 (by decide) hs) ?_))
  refine Ei (k+1) (Ai (show k+1≤_ by omega) (Ai (show s.stack.length - (k+1) < s.stack.length - k by omega) ?_))
  refine wk_of [(9000,9000),(9001,9001),(9002,9002),(9003,9003)] rfl rfl ?_ ?_ ?_
  ·repeat' first|refine Ai ?_ ?_|exact rfl|exact trivial|exact Ei _ rfl|refine lN ?_|refine bS ?_|fail
   exact succ_eq k hlt 824 (by decide) hs
  ·repeat' first|refine Ai ?_ ?_|exact rfl|exact trivial|exact Ei _ rfl|refine lN ?_|refine bS ?_|fail
  ·repeat' first|refine Ai ?_ ?_|exact rfl|exact trivial|exact Ei _ rfl|refine lN ?_|refine bS ?_|fail
   exact take_succ_map s.stack GItem.enc k hlt
 have hk1:=len_ge h hk
 subst hk1
 clear h hk
 refine Tp.loop (fun k:Nat=>⟨[(1,.ptr 0 0),(2,.ptr 128 0),(3,.ptr 384 0),(8,AV.i k)],[(0,s.enc.map .t),(128,List.replicate 19 .bot),(384,((((((s.enc.map .t).set 0 (.row 9000 0)).set 1 (.row 9001 0)).set 2 (.row 9002 0)).set 4 (.row 9003 0)).set 5 (.row 9004 0)))],[(9000,⟨44,14,0,s.players.map GPlayer.enc,none⟩),(9001,⟨47,19,0,s.objects.map GObject.enc,none⟩),(9002,⟨3,1,0,s.battlefield.map eI,none⟩),(9003,⟨91,94,0,s.stack.map GItem.enc,none⟩),(9004,⟨97,89,0,(s.waiting.take k).map GWaiting.enc,none⟩)],30000⟩) (fun k=>k≤s.waiting.length) (fun k=>s.waiting.length - k) 0 ?_ (Nat.zero_le _) ?_
 ·refine wk_of [(9000,9000),(9001,9001),(9002,9002),(9003,9003)] rfl rfl ?_ ?_ ?_
  ·repeat' first|refine Ai ?_ ?_|exact rfl|exact trivial|exact Ei _ rfl|refine lN ?_|refine bS ?_|fail
   all_goals exact take_m s.stack GItem.enc
  ·repeat' first|refine Ai ?_ ?_|exact rfl|exact trivial|exact Ei _ rfl|refine lN ?_|refine bS ?_|fail
   all_goals exact take_m s.stack GItem.enc
  ·repeat' first|refine Ai ?_ ?_|exact rfl|exact trivial|exact Ei _ rfl|refine lN ?_|refine bS ?_|fail
   all_goals exact take_m s.stack GItem.enc
 rintro k hk
 refine Tp.run [28] ?_
 refine cS (fun h=>?_) (fun h=>?_)
 ·have hlt:=len_lt h
  obtain ⟨e1,_⟩:=hw2 s.waiting[k] (List.getElem_mem hlt)
  refine Ei k (Ei (s.waiting[k].enc) (Ai rfl (Ai (map_get _ _ k hlt) ?_)))
  refine cI (ability_ct s.waiting[k].ability e1) ⟨fL s.waiting[k].ability.enc,trivial⟩ (.inr rfl) ?_
  refine Tp.frz [9000,9001,9002,9003,9004] (Tp.run [] ?_)
  refine Ai (.inl rfl) (Ai (take_bound s.waiting GWaiting.enc k hlt _ 768 (by decide) hw) (Ai (take_bound2 s.waiting GWaiting.enc k hlt _ 768 (by decide) hw) ?_))
  refine Ei (k+1) (Ai (show k+1≤_ by omega) (Ai (show s.waiting.length - (k+1) < s.waiting.length - k by omega) ?_))
  refine wk_of [(9000,9000),(9001,9001),(9002,9002),(9003,9003),(9004,9004)] rfl rfl ?_ ?_ ?_
  ·repeat' first|refine Ai ?_ ?_|exact rfl|exact trivial|exact Ei _ rfl|refine lN ?_|refine bS ?_|fail
   exact succ_eq k hlt 768 (by decide) hw
  ·repeat' first|refine Ai ?_ ?_|exact rfl|exact trivial|exact Ei _ rfl|refine lN ?_|refine bS ?_|fail
  ·repeat' first|refine Ai ?_ ?_|exact rfl|exact trivial|exact Ei _ rfl|refine lN ?_|refine bS ?_|fail
   exact take_succ_map s.waiting GWaiting.enc k hlt
 have hk2:=len_ge h hk
 subst hk2
 clear h hk
 refine Tp.loop (fun k:Nat=>⟨[(1,.ptr 0 0),(2,.ptr 128 0),(3,.ptr 384 0),(10,AV.i k)],[(0,s.enc.map .t),(128,List.replicate 19 .bot),(384,(((((((s.enc.map .t).set 0 (.row 9000 0)).set 1 (.row 9001 0)).set 2 (.row 9002 0)).set 4 (.row 9003 0)).set 5 (.row 9004 0)).set 6 (.row 9005 0)))],[(9000,⟨44,14,0,s.players.map GPlayer.enc,none⟩),(9001,⟨47,19,0,s.objects.map GObject.enc,none⟩),(9002,⟨3,1,0,s.battlefield.map eI,none⟩),(9003,⟨91,94,0,s.stack.map GItem.enc,none⟩),(9004,⟨97,89,0,s.waiting.map GWaiting.enc,none⟩),(9005,⟨100,6,0,(s.conts.take k).map GCont.enc,none⟩)],40000⟩) (fun k=>k≤s.conts.length) (fun k=>s.conts.length - k) 0 ?_ (Nat.zero_le _) ?_
 ·refine wk_of [(9000,9000),(9001,9001),(9002,9002),(9003,9003),(9004,9004)] rfl rfl ?_ ?_ ?_
  ·repeat' first|refine Ai ?_ ?_|exact rfl|exact trivial|exact Ei _ rfl|refine lN ?_|refine bS ?_|fail
   all_goals exact take_m s.waiting GWaiting.enc
  ·repeat' first|refine Ai ?_ ?_|exact rfl|exact trivial|exact Ei _ rfl|refine lN ?_|refine bS ?_|fail
   all_goals exact take_m s.waiting GWaiting.enc
  ·repeat' first|refine Ai ?_ ?_|exact rfl|exact trivial|exact Ei _ rfl|refine lN ?_|refine bS ?_|fail
   all_goals exact take_m s.waiting GWaiting.enc
 rintro k hk
 refine Tp.run [36] ?_
 refine cS (fun h=>?_) (fun h=>?_)
 ·have hlt:=len_lt h
  obtain ⟨e1,e2,_⟩:=hc2 s.conts[k] (List.getElem_mem hlt)
  refine Ei k (Ei (s.conts[k].enc) (Ai rfl (Ai (map_get _ _ k hlt) ?_)))
  refine cI (ints_ct _ (map_bound _ _ _ e1)) ⟨rfl,trivial⟩ (.inr rfl) ?_
  refine Ai (.inl rfl) (Ai (all_bound _ 176 (map_bound _ _ _ e2)) (Ai (all_bound2 _ 176 (by decide) (map_bound _ _ _ e2)) ?_))
  refine Tp.frz [9000,9001,9002,9003,9004,9005] (Tp.run [] ?_)
  refine Ai (.inl rfl) (Ai (take_bound s.conts GCont.enc k hlt _ 80 (by decide) hc) (Ai (take_bound2 s.conts GCont.enc k hlt _ 80 (by decide) hc) ?_))
  refine Ei (k+1) (Ai (show k+1≤_ by omega) (Ai (show s.conts.length - (k+1) < s.conts.length - k by omega) ?_))
  refine wk_of [(9000,9000),(9001,9001),(9002,9002),(9003,9003),(9004,9004),(9005,9005)] rfl rfl ?_ ?_ ?_
  ·repeat' first|refine Ai ?_ ?_|exact rfl|exact trivial|exact Ei _ rfl|refine lN ?_|refine bS ?_|fail
   exact succ_eq k hlt 80 (by decide) hc
  ·repeat' first|refine Ai ?_ ?_|exact rfl|exact trivial|exact Ei _ rfl|refine lN ?_|refine bS ?_|fail
  ·repeat' first|refine Ai ?_ ?_|exact rfl|exact trivial|exact Ei _ rfl|refine lN ?_|refine bS ?_|fail
   exact take_succ_map s.conts GCont.enc k hlt
 have hk3:=len_ge h hk
 subst hk3
 clear h hk
 refine cI (ints_ct _ (map_bound _ _ _ hxt)) ⟨rfl,trivial⟩ (.inr rfl) ?_
 refine Ei [(0,9000),(1,9003),(2,9004),(3,9005)] (Ai rfl (Ai ?_ ?_))
 ·repeat' first|refine Ai ?_ ?_|exact rfl|exact trivial|exact Ei _ rfl|refine lN ?_|refine bS ?_|fail
  all_goals exact take_m s.conts GCont.enc
 ·repeat' first|refine Ai ?_ ?_|exact rfl|exact trivial|exact Ei _ rfl|refine lN ?_|refine bS ?_|fail
  all_goals exact take_m s.conts GCont.enc
end Go.Proofs.YtpibcdnagnjokaaGreat
end
section
namespace Go.Proofs.YtpibcdnagnjokaaGreat
open Go Cg Go.RowKit Go.Sort
def itK (ρ:Int→Int) (x:GItem):GItem:=⟨ρ x.id,x.kind,ρ x.source,x.control,x.x,x.copy,x.ability,x.targets,evN ρ x.event⟩
theorem pm_lt {α:Type} {f:α→α} {e:α→List Tr} {k:Nat} {l:List α} (h:decide ((k:Int) < ((((pmF f k l).map e).length:Nat):Int))=true):k < l.length:=by
 have:=of_decide_eq_true h
 rw [Lm,pm_len] at this
 omega
theorem pm_ge {α:Type} {f:α→α} {e:α→List Tr} {k:Nat} {l:List α} (h:decide ((k:Int) < ((((pmF f k l).map e).length:Nat):Int))=false) (hk:k≤l.length):k=l.length:=by
 have:=of_decide_eq_false h
 rw [Lm,pm_len] at this
 omega
theorem le1 {n:Nat} (h:n≤300):n≤1000000:=by omega
theorem tb1 (ρ:Int→Int) {L:List GTarget} {j:Nat} (hj:j < L.length) (h:L.length*16≤limB):((((L.take j).map (tgN ρ)).map GTarget.enc).length+1)*16≤140737488355328:=by
 rw [Lm,Lm,List.length_take]
 unfold limB at h
 omega
theorem tb2 (ρ:Int→Int) {L:List GTarget} {j:Nat} (hj:j < L.length) (h:L.length*16≤limB):(((L.take j).map (tgN ρ)).map GTarget.enc).length+1 < 140737488355328:=by
 rw [Lm,Lm,List.length_take]
 unfold limB at h
 omega
theorem tg_snoc (ρ:Int→Int) {L:List GTarget} {j:Nat} (hj:j < L.length):((L.take j).map (tgN ρ)).map GTarget.enc++[GTarget.enc (tgN ρ L[j])]=((L.take (j+1)).map (tgN ρ)).map GTarget.enc:=by
 rw [List.take_succ_eq_append_getElem hj,List.map_append,List.map_append]
 rfl
def cellsK (l st:List Int) (s:GState):List Ce:=[.row 9000 0,.t (.sl 19 ((insL leO [] (s.objects.map (obN (rankM l) (tmR st)))).map GObject.enc)),.t (.sl 1 ((s.battlefield.map (rankM l)).map eI)),.t (.sl 1 ((s.exile.map (rankM l)).map eI)),.row 9001 0,.row 9002 0,.row 9003 0]++(s.enc.drop 7).map .t
theorem normR_ct (s:GState) (h:s.ok) (hs:SmL s) (hl:(idsM s).length≤1000000) (hcl:∀ c∈s.conts,c.objects.length≤400000):Ct Tryz.prog 11 [.agg (s.enc.map .t)] (.agg ((normM s).enc.map .t)) [] false:=by
 have hi:=idsR_ct s hs h
 have hm:=stampsR_ct s hs h
 have ht:(stampsM s).length≤1000000:=by
  have:=insAll_len ltZ (s.objects.map (fun o=>o.stamp)++s.conts.map fun c=>c.stamp) []
  simp only [List.length_nil,List.length_append,Lm] at this
  have h1:=hs.ob
  have h2:=hs.co
  exact Nat.le_trans this (by omega)
 have hob:=objectsR_ct s (idsM s) (stampsM s) hs h hl ht
 have hcp:=copyR_ct s h
 have hN:normM s=normW (rankM (idsM s)) (tmR (stampsM s)) s:=by
  rw [normM]
  congr 1
  exact funext fun n=>(wrapix ht).symm
 rw [hN]
 rw [show timeM (stampsM s)=tmR (stampsM s) from funext fun n=>(wrapix ht).symm] at hob
 generalize idsM s=l at hi hob hl ⊢
 generalize stampsM s=st at hm hob ht ⊢
 obtain ⟨hp,hp2,ho,ho2,hb,hx,hst,hst2,hw,hw2,hc,hc2,hxt⟩:=h
 refine ct_of Tryz.func11 rfl (enters_of Tryz.func11 (by kernel_rfl) rfl) tabOk (by kernel_rfl) rfl rfl rfl rfl fun w0 O _=>Tp.run [7,15,29,36,44] ?_
 refine cI hi ⟨fL s.enc,trivial⟩ (.inl rfl) ?_
 refine cI hm ⟨fL s.enc,trivial⟩ (.inl rfl) ?_
 refine cI hcp ⟨fL s.enc,trivial⟩ (.inr rfl) ?_
 refine cI hob ⟨fL s.enc,?_,?_,trivial⟩ (.inl rfl) ?_
 ·repeat' first|refine Ai ?_ ?_|exact rfl|exact trivial|exact Ei _ rfl|refine lN ?_|refine bS ?_|fail
 ·repeat' first|refine Ai ?_ ?_|exact rfl|exact trivial|exact Ei _ rfl|refine lN ?_|refine bS ?_|fail
 refine cI (ranksR_ct l s.battlefield hl (le1 hs.bf)) ⟨?_,rfl,trivial⟩ (.inl rfl) ?_
 ·repeat' first|refine Ai ?_ ?_|exact rfl|exact trivial|exact Ei _ rfl|refine lN ?_|refine bS ?_|fail
 refine cI (ranksR_ct l s.exile hl (le1 hs.ex)) ⟨?_,rfl,trivial⟩ (.inl rfl) ?_
 ·repeat' first|refine Ai ?_ ?_|exact rfl|exact trivial|exact Ei _ rfl|refine lN ?_|refine bS ?_|fail
 refine Tp.frz [1152,1153,1154,1155] (Tp.run [] ?_)
 refine Tp.loop (fun k:Nat=>⟨[(1,.ptr 0 0),(2,.ptr 128 0),(3,.c (.t (.sl 1 (l.map eI)))),(4,.c (.t (.sl 1 (st.map eI)))),(5,.ptr 1280 0),(6,AV.i k)],[(0,s.enc.map .t),(128,List.replicate 19 .bot),(1280,cellsK l st s)],[(9000,⟨44,14,0,(pmF (plN (rankM l)) k s.players).map GPlayer.enc,none⟩),(9001,⟨91,94,0,(s.stack).map GItem.enc,none⟩),(9002,⟨97,89,0,(s.waiting).map GWaiting.enc,none⟩),(9003,⟨100,6,0,(s.conts).map GCont.enc,none⟩)],10000⟩) (fun k=>k≤s.players.length) (fun k=>s.players.length - k) 0 ?_ (Nat.zero_le _) ?_
 ·refine wk_of [(9000,1152),(9001,1153),(9002,1154),(9003,1155)] rfl rfl ?_ ?_ ?_
  all_goals repeat' first|refine Ai ?_ ?_|exact rfl|exact trivial|exact Ei _ rfl|refine lN ?_|refine bS ?_|fail
 rintro k hk
 refine Tp.run [10,14,15] ?_
 refine cS (fun h=>?_) (fun h=>?_)
 ·have hlt:k < s.players.length:=pm_lt h
  have KL:=pmm_len (plN (rankM l)) GPlayer.enc hlt
  have G0:=pmm_get (plN (rankM l)) GPlayer.enc hlt
  refine Tp.run [] ?_
  refine Ei k (Ai rfl (Ai KL ?_))
  refine Ei (s.players[k].enc) (Ei _ (Ai G0 (Ai rfl ?_)))
  obtain ⟨b1,b2,b3⟩:=hs.pl _ (List.getElem_mem hlt)
  refine cI (ranksR_ct l s.players[k].library hl (le1 b1)) ⟨rfl,rfl,trivial⟩ (.inl rfl) ?_
  refine cI (ranksR_ct l s.players[k].hand hl (le1 b2)) ⟨rfl,rfl,trivial⟩ (.inl rfl) ?_
  refine cI (ranksR_ct l s.players[k].graveyard hl (le1 b3)) ⟨rfl,rfl,trivial⟩ (.inl rfl) ?_
  refine Tp.frz [9000,9001,9002,9003] (Tp.run [] ?_)
  refine Ei k (Ai rfl (Ai KL ?_))
  refine Ei _ (Ai G0 (Ai (Nb rfl) ?_))
  refine Ei (k+1) (Ai (show k+1≤_ by omega) (Ai (show s.players.length - (k+1) < s.players.length - k by omega) ?_))
  refine wk_of [(9000,9000),(9001,9001),(9002,9002),(9003,9003)] rfl rfl ?_ ?_ ?_
  ·repeat' first|refine Ai ?_ ?_|exact rfl|exact trivial|exact Ei _ rfl|refine lN ?_|refine bS ?_|fail
   exact succ_eq k hlt 152 (by decide) hp
  ·repeat' first|refine Ai ?_ ?_|exact rfl|exact trivial|exact Ei _ rfl|refine lN ?_|refine bS ?_|fail
  ·repeat' first|refine Ai ?_ ?_|exact rfl|exact trivial|exact Ei _ rfl|refine lN ?_|refine bS ?_|fail
   exact pmm_set (plN (rankM l)) GPlayer.enc hlt
 have hk0:=pm_ge h hk
 subst hk0
 clear h hk
 refine Tp.run [] ?_
 refine Tp.loop (fun k:Nat=>⟨[(1,.ptr 0 0),(2,.ptr 128 0),(3,.c (.t (.sl 1 (l.map eI)))),(4,.c (.t (.sl 1 (st.map eI)))),(5,.ptr 1280 0),(8,AV.i k)],[(0,s.enc.map .t),(128,List.replicate 19 .bot),(1280,cellsK l st s)],[(9000,⟨44,14,0,(s.players.map (plN (rankM l))).map GPlayer.enc,none⟩),(9001,⟨91,94,0,(pmF (itN (rankM l)) k s.stack).map GItem.enc,none⟩),(9002,⟨97,89,0,(s.waiting).map GWaiting.enc,none⟩),(9003,⟨100,6,0,(s.conts).map GCont.enc,none⟩)],20000⟩) (fun k=>k≤s.stack.length) (fun k=>s.stack.length - k) 0 ?_ (Nat.zero_le _) ?_
 ·refine wk_of [(9000,9000),(9001,9001),(9002,9002),(9003,9003)] rfl rfl ?_ ?_ ?_
  ·repeat' first|refine Ai ?_ ?_|exact rfl|exact trivial|exact Ei _ rfl|refine lN ?_|refine bS ?_|fail
  ·repeat' first|refine Ai ?_ ?_|exact rfl|exact trivial|exact Ei _ rfl|refine lN ?_|refine bS ?_|fail
  ·repeat' first|refine Ai ?_ ?_|exact rfl|exact trivial|exact Ei _ rfl|refine lN ?_|refine bS ?_|fail
   all_goals exact pmm_all _ _ rfl
 rintro k hk
 refine Tp.run [18,28,29] ?_
 refine cS (fun h=>?_) (fun h=>?_)
 ·have hlt:k < s.stack.length:=pm_lt h
  have KL:=pmm_len (itN (rankM l)) GItem.enc hlt
  have G0:=pmm_get (itN (rankM l)) GItem.enc hlt
  refine Tp.run [] ?_
  refine Ei k (Ai rfl (Ai KL ?_))
  refine Ei (s.stack[k].enc) (Ei _ (Ai G0 (Ai rfl ?_)))
  refine cI (rank_ct l s.stack[k].id hl) ⟨rfl,rfl,trivial⟩ (.inl rfl) ?_
  refine cI (rank_ct l s.stack[k].source hl) ⟨rfl,rfl,trivial⟩ (.inl rfl) ?_
  refine cI (eventR_ct l s.stack[k].event hl) ⟨rfl,fL s.stack[k].event.enc,trivial⟩ (.inl rfl) ?_
  obtain ⟨e1,e2,_⟩:=hst2 _ (List.getElem_mem hlt)
  refine Tp.loop (fun j:Nat=>⟨[(1,.ptr 0 0),(2,.ptr 128 0),(3,.c (.t (.sl 1 (l.map eI)))),(4,.c (.t (.sl 1 (st.map eI)))),(5,.ptr 1280 0),(8,AV.i k),(9,.ptr 21280 0),(10,.c (.row 9100 0)),(11,AV.i j)],[(0,s.enc.map .t),(128,List.replicate 19 .bot),(1280,cellsK l st s),(21280,(itK (rankM l) s.stack[k]).enc.map .t)],[(9000,⟨44,14,0,(s.players.map (plN (rankM l))).map GPlayer.enc,none⟩),(9001,⟨91,94,0,(pmF (itN (rankM l)) k s.stack).map GItem.enc,none⟩),(9002,⟨97,89,0,(s.waiting).map GWaiting.enc,none⟩),(9003,⟨100,6,0,(s.conts).map GCont.enc,none⟩),(9100,⟨94,2,0,((s.stack[k].targets.take j).map (tgN (rankM l))).map GTarget.enc,none⟩)],30000⟩) (fun j=>j≤s.stack[k].targets.length) (fun j=>s.stack[k].targets.length - j) 0 ?_ (Nat.zero_le _) ?_
  ·refine wk_of [(9000,9000),(9001,9001),(9002,9002),(9003,9003)] rfl rfl ?_ ?_ ?_
   all_goals repeat' first|refine Ai ?_ ?_|exact rfl|exact trivial|exact Ei _ rfl|refine lN ?_|refine bS ?_|fail
  rintro j hj
  refine Tp.run [26,28,17] ?_
  refine cS (fun h2=>?_) (fun h2=>?_)
  ·have hjt:j < s.stack[k].targets.length:=len_lt h2
   refine Tp.run [] ?_
   refine Ei j (Ei (GTarget.enc s.stack[k].targets[j]) (Ai rfl (Ai (map_get _ _ j hjt) ?_)))
   refine cI (rank_ct l s.stack[k].targets[j].object hl) ⟨rfl,rfl,trivial⟩ (.inl rfl) ?_
   refine Ei j (Ei (GTarget.enc s.stack[k].targets[j]) (Ai rfl (Ai (map_get _ _ j hjt) ?_)))
   refine Ai (.inl rfl) (Ai (tb1 (rankM l) hjt e2) (Ai (tb2 (rankM l) hjt e2) ?_))
   refine Ei (j+1) (Ai (show j+1≤_ by omega) (Ai (show s.stack[k].targets.length - (j+1) < s.stack[k].targets.length - j by omega) ?_))
   refine wk_of [(9000,9000),(9001,9001),(9002,9002),(9003,9003),(9100,9100)] rfl rfl ?_ ?_ ?_
   ·repeat' first|refine Ai ?_ ?_|exact rfl|exact trivial|exact Ei _ rfl|refine lN ?_|refine bS ?_|fail
    exact succ_eq j hjt 16 (by decide) e2
   ·repeat' first|refine Ai ?_ ?_|exact rfl|exact trivial|exact Ei _ rfl|refine lN ?_|refine bS ?_|fail
   ·repeat' first|refine Ai ?_ ?_|exact rfl|exact trivial|exact Ei _ rfl|refine lN ?_|refine bS ?_|fail
    exact tg_snoc (rankM l) hjt
  have hj0:j=s.stack[k].targets.length:=len_ge h2 hj
  subst hj0
  rw [show s.stack[k].targets.take s.stack[k].targets.length=s.stack[k].targets from List.take_length]
  refine Tp.frz [9000,9001,9002,9003] (Tp.run [] ?_)
  refine Ei k (Ai rfl (Ai KL ?_))
  refine Ei _ (Ai G0 (Ai (Nb rfl) ?_))
  refine Ei (k+1) (Ai (show k+1≤_ by omega) (Ai (show s.stack.length - (k+1) < s.stack.length - k by omega) ?_))
  refine wk_of [(9000,9000),(9001,9001),(9002,9002),(9003,9003)] rfl rfl ?_ ?_ ?_
  ·repeat' first|refine Ai ?_ ?_|exact rfl|exact trivial|exact Ei _ rfl|refine lN ?_|refine bS ?_|fail
   exact succ_eq k hlt 824 (by decide) hst
  ·repeat' first|refine Ai ?_ ?_|exact rfl|exact trivial|exact Ei _ rfl|refine lN ?_|refine bS ?_|fail
  ·repeat' first|refine Ai ?_ ?_|exact rfl|exact trivial|exact Ei _ rfl|refine lN ?_|refine bS ?_|fail
   exact pmm_set (itN (rankM l)) GItem.enc hlt
 have hk0:=pm_ge h hk
 subst hk0
 clear h hk
 refine Tp.run [] ?_
 refine Tp.loop (fun k:Nat=>⟨[(1,.ptr 0 0),(2,.ptr 128 0),(3,.c (.t (.sl 1 (l.map eI)))),(4,.c (.t (.sl 1 (st.map eI)))),(5,.ptr 1280 0),(12,AV.i k)],[(0,s.enc.map .t),(128,List.replicate 19 .bot),(1280,cellsK l st s)],[(9000,⟨44,14,0,(s.players.map (plN (rankM l))).map GPlayer.enc,none⟩),(9001,⟨91,94,0,(s.stack.map (itN (rankM l))).map GItem.enc,none⟩),(9002,⟨97,89,0,(pmF (waN (rankM l)) k s.waiting).map GWaiting.enc,none⟩),(9003,⟨100,6,0,(s.conts).map GCont.enc,none⟩)],30000⟩) (fun k=>k≤s.waiting.length) (fun k=>s.waiting.length - k) 0 ?_ (Nat.zero_le _) ?_
 ·refine wk_of [(9000,9000),(9001,9001),(9002,9002),(9003,9003)] rfl rfl ?_ ?_ ?_
  ·repeat' first|refine Ai ?_ ?_|exact rfl|exact trivial|exact Ei _ rfl|refine lN ?_|refine bS ?_|fail
  ·repeat' first|refine Ai ?_ ?_|exact rfl|exact trivial|exact Ei _ rfl|refine lN ?_|refine bS ?_|fail
  ·repeat' first|refine Ai ?_ ?_|exact rfl|exact trivial|exact Ei _ rfl|refine lN ?_|refine bS ?_|fail
   all_goals exact pmm_all _ _ rfl
 rintro k hk
 refine Tp.run [32,35,36] ?_
 refine cS (fun h=>?_) (fun h=>?_)
 ·have hlt:k < s.waiting.length:=pm_lt h
  have KL:=pmm_len (waN (rankM l)) GWaiting.enc hlt
  have G0:=pmm_get (waN (rankM l)) GWaiting.enc hlt
  refine Tp.run [] ?_
  refine Ei k (Ai rfl (Ai KL ?_))
  refine Ei (s.waiting[k].enc) (Ei _ (Ai G0 (Ai rfl ?_)))
  refine cI (rank_ct l s.waiting[k].source hl) ⟨rfl,rfl,trivial⟩ (.inl rfl) ?_
  refine cI (eventR_ct l s.waiting[k].event hl) ⟨rfl,fL s.waiting[k].event.enc,trivial⟩ (.inl rfl) ?_
  refine Tp.frz [9000,9001,9002,9003] (Tp.run [] ?_)
  refine Ei k (Ai rfl (Ai KL ?_))
  refine Ei _ (Ai G0 (Ai (Nb rfl) ?_))
  refine Ei (k+1) (Ai (show k+1≤_ by omega) (Ai (show s.waiting.length - (k+1) < s.waiting.length - k by omega) ?_))
  refine wk_of [(9000,9000),(9001,9001),(9002,9002),(9003,9003)] rfl rfl ?_ ?_ ?_
  ·repeat' first|refine Ai ?_ ?_|exact rfl|exact trivial|exact Ei _ rfl|refine lN ?_|refine bS ?_|fail
   exact succ_eq k hlt 768 (by decide) hw
  ·repeat' first|refine Ai ?_ ?_|exact rfl|exact trivial|exact Ei _ rfl|refine lN ?_|refine bS ?_|fail
  ·repeat' first|refine Ai ?_ ?_|exact rfl|exact trivial|exact Ei _ rfl|refine lN ?_|refine bS ?_|fail
   exact pmm_set (waN (rankM l)) GWaiting.enc hlt
 have hk0:=pm_ge h hk
 subst hk0
 clear h hk
 refine Tp.run [] ?_
 refine Tp.loop (fun k:Nat=>⟨[(1,.ptr 0 0),(2,.ptr 128 0),(3,.c (.t (.sl 1 (l.map eI)))),(4,.c (.t (.sl 1 (st.map eI)))),(5,.ptr 1280 0),(14,AV.i k)],[(0,s.enc.map .t),(128,List.replicate 19 .bot),(1280,cellsK l st s)],[(9000,⟨44,14,0,(s.players.map (plN (rankM l))).map GPlayer.enc,none⟩),(9001,⟨91,94,0,(s.stack.map (itN (rankM l))).map GItem.enc,none⟩),(9002,⟨97,89,0,(s.waiting.map (waN (rankM l))).map GWaiting.enc,none⟩),(9003,⟨100,6,0,(pmF (coN (rankM l) (tmR st)) k s.conts).map GCont.enc,none⟩)],40000⟩) (fun k=>k≤s.conts.length) (fun k=>s.conts.length - k) 0 ?_ (Nat.zero_le _) ?_
 ·refine wk_of [(9000,9000),(9001,9001),(9002,9002),(9003,9003)] rfl rfl ?_ ?_ ?_
  ·repeat' first|refine Ai ?_ ?_|exact rfl|exact trivial|exact Ei _ rfl|refine lN ?_|refine bS ?_|fail
  ·repeat' first|refine Ai ?_ ?_|exact rfl|exact trivial|exact Ei _ rfl|refine lN ?_|refine bS ?_|fail
  ·repeat' first|refine Ai ?_ ?_|exact rfl|exact trivial|exact Ei _ rfl|refine lN ?_|refine bS ?_|fail
   all_goals exact pmm_all _ _ rfl
 rintro k hk
 refine Tp.run [39,43,44] ?_
 refine cS (fun h=>?_) (fun h=>?_)
 ·have hlt:k < s.conts.length:=pm_lt h
  have KL:=pmm_len (coN (rankM l) (tmR st)) GCont.enc hlt
  have G0:=pmm_get (coN (rankM l) (tmR st)) GCont.enc hlt
  refine Tp.run [] ?_
  refine Ei k (Ai rfl (Ai KL ?_))
  refine Ei (s.conts[k].enc) (Ei _ (Ai G0 (Ai rfl ?_)))
  refine cI (rank_ct l s.conts[k].source hl) ⟨rfl,rfl,trivial⟩ (.inl rfl) ?_
  refine cI (index_ct st s.conts[k].stamp ht) ⟨rfl,rfl,trivial⟩ (.inl rfl) ?_
  have b1:=hcl _ (List.getElem_mem hlt)
  refine cI (ranksR_ct l s.conts[k].objects hl (by omega)) ⟨rfl,rfl,trivial⟩ (.inl rfl) ?_
  refine cI (ofR_ct (s.conts[k].objects.map (rankM l)) (by rw [Lm];omega)) ⟨?_,trivial⟩ (.inl rfl) ?_
  ·repeat' first|refine Ai ?_ ?_|exact rfl|exact trivial|exact Ei _ rfl|refine lN ?_|refine bS ?_|fail
  refine Tp.frz [9000,9001,9002,9003] (Tp.run [] ?_)
  refine Ei k (Ai rfl (Ai KL ?_))
  refine Ei _ (Ai G0 (Ai (Nb rfl) ?_))
  refine Ei (k+1) (Ai (show k+1≤_ by omega) (Ai (show s.conts.length - (k+1) < s.conts.length - k by omega) ?_))
  refine wk_of [(9000,9000),(9001,9001),(9002,9002),(9003,9003)] rfl rfl ?_ ?_ ?_
  ·repeat' first|refine Ai ?_ ?_|exact rfl|exact trivial|exact Ei _ rfl|refine lN ?_|refine bS ?_|fail
   exact succ_eq k hlt 80 (by decide) hc
  ·repeat' first|refine Ai ?_ ?_|exact rfl|exact trivial|exact Ei _ rfl|refine lN ?_|refine bS ?_|fail
  ·repeat' first|refine Ai ?_ ?_|exact rfl|exact trivial|exact Ei _ rfl|refine lN ?_|refine bS ?_|fail
   exact pmm_set (coN (rankM l) (tmR st)) GCont.enc hlt
 have hk0:=pm_ge h hk
 subst hk0
 clear h hk
 refine Tp.run [] ?_
 refine Ei [] (Ai rfl (Ai ?_ ?_))
 ·repeat' first|refine Ai ?_ ?_|exact rfl|exact trivial|exact Ei _ rfl|refine lN ?_|refine bS ?_|fail
 ·repeat' first|refine Ai ?_ ?_|exact rfl|exact trivial|exact Ei _ rfl|refine lN ?_|refine bS ?_|fail
  all_goals exact congrArg (Tr.sl 6) (pmm_all _ _ rfl).symm
abbrev mpT (m:List (Int × Int)):Tr:=.mp (mpX m)
theorem id_ct (m:List (Int × Int)) (n:Int):Ct Tryz.prog 30 [.agg [.t (mpT m)],.c (.t (iv n))] (AV.i (idP m n)) [] true:=by
 refine Ct.lit (b:=false) ?_ rfl
 generalize hM:idP m n=M
 refine ct_of Tryz.func30 rfl (enters_of Tryz.func30 (by kernel_rfl) rfl) tabOk (by kernel_rfl) rfl rfl rfl rfl fun w0 O _=>Tp.run [3,4] ?_
 refine Ei m (Ai rfl ?_)
 refine cS (fun h=>?_) (fun h=>?_)
 ·have hM2:M=(mpGet m n).getD 0:=by
   have h:(mpGet m n).isSome=true:=h
   rw [← hM,idP]
   cases e:mpGet m n with
   | none=>rw [e] at h;cases h
   | some k=>rfl
  subst hM2
  refine Tp.run [] ?_
  refine Ei [] (Ai rfl (Ai ?_ ?_))
  all_goals repeat' first|refine Ai ?_ ?_|exact rfl|exact trivial|exact Ei _ rfl|refine lN ?_|refine bS ?_|fail
 ·have hM2:M=if 0 < n then 0 else n:=by
   have h:(mpGet m n).isSome=false:=h
   rw [← hM,idP]
   cases e:mpGet m n with
   | none=>
    show min n 0=_
    split <;> omega
   | some k=>rw [e] at h;cases h
  subst hM2
  refine Tp.run [] ?_
  refine Ei [] (Ai rfl (Ai ?_ ?_))
  all_goals repeat' first|refine Ai ?_ ?_|exact rfl|exact trivial|exact Ei _ rfl|refine lN ?_|refine bS ?_|fail
theorem event_ct (m:List (Int × Int)) (e:GEvent):Ct Tryz.prog 34 [.agg [.t (mpT m)],.agg (e.enc.map .t)] (.agg ((evN (idP m) e).enc.map .t)) [] true:=by
 refine Ct.litT (b:=false) ?_ rfl
 refine ct_of Tryz.func34 rfl (enters_of Tryz.func34 (by kernel_rfl) rfl) tabOk (by kernel_rfl) rfl rfl rfl rfl fun w0 O _=>Tp.run [] ?_
 refine cI (id_ct m e.source) ⟨⟨rfl,trivial⟩,rfl,trivial⟩ (.inl rfl) ?_
 refine cI (id_ct m e.object) ⟨⟨rfl,trivial⟩,rfl,trivial⟩ (.inl rfl) ?_
 refine Ei [] (Ai rfl (Ai ?_ ?_))
 all_goals repeat' first|refine Ai ?_ ?_|exact rfl|exact trivial|exact Ei _ rfl|refine lN ?_|refine bS ?_|fail
theorem list_ctm (m:List (Int × Int)) (l:List Int) (hl:l.length*8≤limB):CtM Tryz.prog 29 [.agg [.t (mpT m)],.c (.row 0 0)] [] [⟨3,1,0,l.map eI,none⟩] (.c (.row 0 0)) [] [⟨3,1,0,(l.map (idP m)).map eI,none⟩] []:=by
 refine ctm_of 1 Tryz.func29 rfl (enters_of Tryz.func29 (by kernel_rfl) rfl) tabOk (by kernel_rfl) rfl rfl rfl rfl rfl fun w0 O _=>Tp.run [] ?_
 refine Tp.loopL (fun k:Nat=>⟨[(1,.c (.row 0 0)),(2,.ptr 1 0),(7,AV.i (l.map eI).length),(8,AV.i k)],[(1,[.t (mpT m)])],[(0,⟨3,1,0,(pmF (idP m) k l).map eI,none⟩)],10000⟩) (fun k=>k≤l.length) (fun k=>l.length - k) 0 ?_ (Nat.zero_le _) ?_
 ·refine wkl_of (n1:=1) rfl rfl ?_ ?_ ?_
  all_goals repeat' first|refine Ai ?_ ?_|exact rfl|exact trivial|exact Ei _ rfl|refine lN ?_|refine bS ?_|fail
 rintro k hk
 refine Tp.run [3,5] ?_
 refine cS (fun h=>?_) (fun h=>?_)
 ·have hlt:=len_lt h
  refine Tp.run [] ?_
  refine Ei k (Ai rfl (Ai (pmm_len _ _ hlt) ?_))
  refine Ei (eI l[k]) (Ei _ (Ai (pmm_get _ _ hlt) (Ai rfl ?_)))
  refine cI (id_ct m l[k]) ⟨⟨rfl,trivial⟩,rfl,trivial⟩ (.inl rfl) ?_
  refine Ei k (Ai rfl (Ai (pmm_len _ _ hlt) ?_))
  refine Ei (eI l[k]) (Ai (pmm_get _ _ hlt) (Ai (Nb rfl) ?_))
  refine Tp.run [] ?_
  refine Ei (k+1) (Ai (show k+1≤_ by omega) (Ai (show l.length - (k+1) < l.length - k by omega) ?_))
  refine wkl_of (n1:=1) rfl rfl ?_ ?_ ?_
  ·repeat' first|refine Ai ?_ ?_|exact rfl|exact trivial|exact Ei _ rfl|refine lN ?_|refine bS ?_|fail
   exact congrArg (fun n=>AV.c (.t n)) (succ_eq k hlt 8 (by decide) hl)
  ·repeat' first|refine Ai ?_ ?_|exact rfl|exact trivial|exact Ei _ rfl|refine lN ?_|refine bS ?_|fail
  ·repeat' first|refine Ai ?_ ?_|exact rfl|exact trivial|exact Ei _ rfl|refine lN ?_|refine bS ?_|fail
   exact congrArg (fun xs=>some (⟨3,1,0,xs,none⟩:Row)) (pmm_set (idP m) eI hlt)
 ·have hk0:=len_ge h hk
  refine Ei [(0,0)] (Ai (Ai rfl (Ai ?_ (Ai ?_ ?_))) ?_)
  ·repeat' first|refine Ai ?_ ?_|exact rfl|exact trivial|exact Ei _ rfl|refine lN ?_|refine bS ?_|fail
   all_goals exact pmm_all _ _ hk0
  all_goals repeat' first|refine Ai ?_ ?_|exact rfl|exact trivial|exact Ei _ rfl|refine lN ?_|refine bS ?_|fail
end Go.Proofs.YtpibcdnagnjokaaGreat
end
section
namespace Go.Proofs.YtpibcdnagnjokaaGreat
open Go Go.RowKit Go.Sort Go.Lib Cg
theorem of_prog (v:Value) (xs:List Int) (w:World) (h:RowAt (Value.int .i64) w v xs) (hn:xs.length≤1000000) :
  Calls Tryz.prog 35 #[v] w fun e w'=>∃ v',e=.returned v'∧w'.ownsRow w.heap.size 3 1 v' (osort xs).length ((osort xs).map (Value.int .i64))∧Below w.heap.size w w':=by
 have H:=Lib.hid h
 clear h
 go_enter Tryz.func35,Tryz.ntmps35
 go_wp2_with fail
 refine (distinct_prog v xs _ H.out hn).mono ?_
 rintro e w1 ⟨v1,rfl,o1,b1⟩
 go_wp2_with fail
 go_ret
 exact ⟨_,rfl,o1,b1⟩
end Go.Proofs.YtpibcdnagnjokaaGreat
end
section
namespace Go.Proofs.YtpibcdnagnjokaaGreat
open Go Cg Go.RowKit Go.Sort
theorem rt_rowAt {F:Nat→Prop} {w:World} {v:Value} {l:List Int} (h:RT F w v (.sl 1 (l.map eI))):RowAt (Value.int .i64) w v l:=by
 obtain ⟨ao,cap,h1,h2,h3⟩:=h.len
 rw [Lm] at h1 h2
 refine ⟨ao,cap,h1,⟨h2,h3⟩,?_⟩
 rcases h.cases' with h0|⟨g,o,cap',h4,_,_,h7,h8⟩
 ·left
  simpa using h0
 ·right
  rw [h1] at h4
  injection h4 with h4 _ _
  refine ⟨g,o,h4,h7,fun j x hj=>?_⟩
  obtain ⟨vs,hl,hc,hr⟩:=h8.get j (eI x) (by rw [List.getElem?_map,hj];rfl)
  cases hr with
  | cons a b=>
   cases b
   have:=hc 0 _ rfl
   rw [Nat.mul_one,Nat.add_zero] at this
   rw [this]
   cases a with
   | lit _=>rfl
def clZ (n:Int):Cl 1:=⟨[.int .i64 n],rfl,fun u hu=>by rw [List.mem_singleton.1 hu];rfl⟩
theorem clZ_flat:∀ l:List Int,(l.map clZ).flatMap Subtype.val=l.map (Value.int .i64)
 | []=>rfl
 | x :: l=>by
  rw [List.map_cons,List.flatMap_cons,clZ_flat l]
  rfl
theorem rr_ints {E:Env} {w:World} {n0:Nat} {v:Value} {l:List Int} (hv:E.vl 0 0=v) (h:w.ownsRow n0 3 1 v l.length (l.map (Value.int .i64))) (hr:∀ g,v.ownBlock=some g→E.rl g=.rw 0):RR E w n0 0 ⟨3,1,0,l.map eI,none⟩:=by
 refine Ow.rr rfl ⟨l.map clZ,?_,⟨by rw [Lm,Lm],fun j vs ts h1 h2=>?_⟩,?_⟩
 ·show w.ownsRow n0 3 1 (E.vl 0 0) _ _
  rw [hv,clZ_flat,Lm]
  exact h
 ·rw [List.getElem?_map] at h1 h2
  cases hl:l[j]? with
  | none=>rw [hl] at h1;cases h1
  | some x=>
   rw [hl] at h1 h2
   injection h1 with h1
   injection h2 with h2
   subst h1 h2
   exact .cons (.lit rfl) .nil
 ·show ∀ g,(E.vl 0 0).ownBlock=some g→_
  rw [hv]
  exact hr
theorem one_ints {P:Program} {f:FuncId} {xs zs:List Int} (he:Ent P f) (hf:∀ v w,RowAt (Value.int .i64) w v xs→Calls P f #[v] w fun e w'=>∃ v',e=.returned v'∧w'.ownsRow w.heap.size 3 1 v' zs.length (zs.map (Value.int .i64))∧Below w.heap.size w w'):Ct P f [.c (.t (.sl 1 (xs.map eI)))] (.c (.row 0 0)) [⟨3,1,0,zs.map eI,none⟩] true:=by
 refine ⟨he,Nb rfl,fun R hR=>?_,rfl,fun x hx=>(by cases hx),fun x hx=>?_,fun w vs E0 ha=>?_⟩
 ·obtain rfl:R=_:=List.mem_singleton.1 hR
  rfl
 ·obtain rfl:x=(0,0):=by simpa [AV.rids,AV.rid1,Ce.rids] using hx
  exact ⟨_,rfl,Nat.le_refl _⟩
 cases ha with
 | cons h1 hn=>
  cases hn
  refine (hf _ w (rt_rowAt (F:=E0.F) h1)).mono ?_
  rintro e w' ⟨v',rfl,hown,hbel⟩
  refine ⟨v',rfl,hbel,⟨fun b=>if b < w.heap.size then .non else .rw 0,fun _=>0,fun _ _=>v'⟩,⟨rfl,own_one hown⟩,fun j R hj=>?_,fun b hlt hc=>?_⟩
  ·cases j with
   | succ j=>simp at hj
   | zero=>
    obtain rfl:=Option.some.inj hj
    refine rr_ints rfl hown fun g hg=>?_
    show (if g < w.heap.size then BRole.non else BRole.rw 0)=.rw 0
    rw [if_neg (Nat.not_lt.2 (hown.lt g hg).1)]
  ·have hc:(if b < w.heap.size then BRole.non else BRole.rw 0)=.cold:=hc
   rw [if_pos hlt] at hc
   cases hc
theorem ofP_ct (xs:List Int) (hx:xs.length≤1000000):Ct Tryz.prog 35 [.c (.t (.sl 1 (xs.map eI)))] (.c (.row 0 0)) [⟨3,1,0,(insAll ltZ [] xs).map eI,none⟩] true:=by
 rw [← osort_ins]
 exact one_ints (enters_of Tryz.func35 (by kernel_rfl) rfl) fun v w h=>of_prog v xs w h hx
end Go.Proofs.YtpibcdnagnjokaaGreat
end
