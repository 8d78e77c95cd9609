/- Parts of the proof, joined: Chapter 6: shuffles (program and reference); Chapter 26: the first state of a game of two; The program's zones, on trees: Copy; The program's zones: Copy, with players and objects as plain rows; The program's zones, on trees: the list of a zone; The program's zones, on trees: the place of an object; The program's zones, on trees: contracts of functions that take a list of the caller's and answer with it, changed; Chapter 25: place, Find (both); Chapter 25: structs in boxes; copyPlayer; Chapter 25: copyPlayer; Blocks of elements as lists of cells: parts of an element written; loops over elements. They hold for any program; Chapter 25: copyAbility; Chapter 25: what a state copied holds: who owns what; Chapter 25: rows of structs: elements written, copied, appended; Chapter 25: slices.Delete at one object; The program's zones, on trees: one object is deleted; The program's lists: DeleteFunc, Without, Insert (in place); The program's lists of ids (Without); objects (New, Moved); one object behind a list (Insert); slices.Insert of one int, where the one-element list may have any capacity; printed by gen_r.py; slices.Insert of one int as a contract on two rows; The program's zones: put, remove; The program's zones: remove; printed by gen_m.py; Plain: what Move takes away and adds, zone by zone; The program's zones: Move, what all its walks share; printed by gen_v.py; The program's zones: Move to zone 0; printed by gen_v.py; The program's zones: Move to zone 1; printed by gen_v.py; . -/
import Derived.Test.YtmloamomcbmfhaaGreatND
import Derived.Shelf.Abstract
import Derived.Deep.RegionHeld3
import Derived.Deep.RegionLaw
import Derived.Laws.IdiomCopy
import Derived.Lib.AppendZerosOnto
import Derived.Lib.Overlaps
import Derived.Shelf.Spec.SlicesInsertGrow
import Derived.Lib.SliceRun
set_option maxRecDepth 100000
set_option maxHeartbeats 4000000
section
namespace Go.Proofs.YtmloamomcbmfhaaGreat
open Go Cg Go.RowKit
def uvA (n:Int):AV:=.c (.t (.lit (.int .u64 n)))
theorem ne_wrap {n:Int} (h:¬ n < 1) (h2:n≤1099511627776):IntKind.u64.wrap n≠0:=by
 rw [IntKind.wrap_u64]
 omega
theorem r06next (s:Int):Ct Tryz.prog 174 [uvA s] (.tup [uvA (nextM s),uvA (seedM s)]) [] true:=by
 refine Ct.litT (b:=false) ?_ rfl
 obtain ⟨z,hz⟩:∃ z,seedM s=z:=⟨_,rfl⟩
 obtain ⟨a,ha⟩:∃ a,mix1 z=a:=⟨_,rfl⟩
 obtain ⟨b,hb⟩:∃ b,mix2 a=b:=⟨_,rfl⟩
 obtain ⟨c,hc⟩:∃ c,mix3 b=c:=⟨_,rfl⟩
 rw [show nextM s=c from by unfold nextM;rw [hz,ha,hb,hc],hz]
 refine ct_of Tryz.func174 rfl (enters_of Tryz.func174 (by kernel_rfl) rfl) tabOk (by kernel_rfl) rfl rfl rfl rfl fun w0 O _=>Tp.run [2,3,4,5,6] ?_
 refine Tp.wk (wk_of [] (sl':=[(4,uvA z)]) (bx':=[]) (rw':=[]) (nx':=10000) rfl rfl ?_ ?_ ?_) ?_
 ·repeat' first|refine Ai ?_ ?_|exact rfl|exact trivial|exact Ei _ rfl|refine lN ?_|refine bS ?_|fail
  exact congrArg (fun n=>Tr.lit (.int .u64 n)) hz
 ·repeat' first|refine Ai ?_ ?_|exact rfl|exact trivial|exact Ei _ rfl|refine lN ?_|refine bS ?_|fail
 ·repeat' first|refine Ai ?_ ?_|exact rfl|exact trivial|exact Ei _ rfl|refine lN ?_|refine bS ?_|fail
 refine Tp.run [] ?_
 refine Tp.run [] ?_
 refine Tp.wk (wk_of [] (sl':=[(4,uvA z),(5,uvA a)]) (bx':=[]) (rw':=[]) (nx':=10000) rfl rfl ?_ ?_ ?_) ?_
 ·repeat' first|refine Ai ?_ ?_|exact rfl|exact trivial|exact Ei _ rfl|refine lN ?_|refine bS ?_|fail
  exact congrArg (fun n=>Tr.lit (.int .u64 n)) ha
 ·repeat' first|refine Ai ?_ ?_|exact rfl|exact trivial|exact Ei _ rfl|refine lN ?_|refine bS ?_|fail
 ·repeat' first|refine Ai ?_ ?_|exact rfl|exact trivial|exact Ei _ rfl|refine lN ?_|refine bS ?_|fail
 refine Tp.run [] ?_
 refine Tp.wk (wk_of [] (sl':=[(4,uvA z),(5,uvA b)]) (bx':=[]) (rw':=[]) (nx':=10000) rfl rfl ?_ ?_ ?_) ?_
 ·repeat' first|refine Ai ?_ ?_|exact rfl|exact trivial|exact Ei _ rfl|refine lN ?_|refine bS ?_|fail
  exact congrArg (fun n=>Tr.lit (.int .u64 n)) hb
 ·repeat' first|refine Ai ?_ ?_|exact rfl|exact trivial|exact Ei _ rfl|refine lN ?_|refine bS ?_|fail
 ·repeat' first|refine Ai ?_ ?_|exact rfl|exact trivial|exact Ei _ rfl|refine lN ?_|refine bS ?_|fail
 refine Tp.run [] ?_
 refine Tp.wk (wk_of [] (sl':=[(4,uvA z),(5,uvA c)]) (bx':=[]) (rw':=[]) (nx':=10000) rfl rfl ?_ ?_ ?_) ?_
 ·repeat' first|refine Ai ?_ ?_|exact rfl|exact trivial|exact Ei _ rfl|refine lN ?_|refine bS ?_|fail
  exact congrArg (fun n=>Tr.lit (.int .u64 n)) hc
 ·repeat' first|refine Ai ?_ ?_|exact rfl|exact trivial|exact Ei _ rfl|refine lN ?_|refine bS ?_|fail
 ·repeat' first|refine Ai ?_ ?_|exact rfl|exact trivial|exact Ei _ rfl|refine lN ?_|refine bS ?_|fail
 refine Tp.run [] ?_
 refine Ei [] (Ai rfl (Ai ?_ ?_))
 all_goals repeat' first|refine Ai ?_ ?_|exact rfl|exact trivial|exact Ei _ rfl|refine lN ?_|refine bS ?_|fail
theorem dnext (s:Int):Ct Tryz.prog 172 [uvA s] (.tup [uvA (nextM s),uvA (seedM s)]) [] true:=by
 refine Ct.litT (b:=false) ?_ rfl
 obtain ⟨z,hz⟩:∃ z,seedM s=z:=⟨_,rfl⟩
 obtain ⟨a,ha⟩:∃ a,mix1 z=a:=⟨_,rfl⟩
 obtain ⟨b,hb⟩:∃ b,mix2 a=b:=⟨_,rfl⟩
 obtain ⟨c,hc⟩:∃ c,mix3 b=c:=⟨_,rfl⟩
 rw [show nextM s=c from by unfold nextM;rw [hz,ha,hb,hc],hz]
 refine ct_of Tryz.func172 rfl (enters_of Tryz.func172 (by kernel_rfl) rfl) tabOk (by kernel_rfl) rfl rfl rfl rfl fun w0 O _=>Tp.run [2,3,4,5] ?_
 refine Tp.wk (wk_of [] (sl':=[(0,uvA z)]) (bx':=[]) (rw':=[]) (nx':=10000) rfl rfl ?_ ?_ ?_) ?_
 ·repeat' first|refine Ai ?_ ?_|exact rfl|exact trivial|exact Ei _ rfl|refine lN ?_|refine bS ?_|fail
  exact congrArg (fun n=>Tr.lit (.int .u64 n)) hz
 ·repeat' first|refine Ai ?_ ?_|exact rfl|exact trivial|exact Ei _ rfl|refine lN ?_|refine bS ?_|fail
 ·repeat' first|refine Ai ?_ ?_|exact rfl|exact trivial|exact Ei _ rfl|refine lN ?_|refine bS ?_|fail
 refine Tp.run [] ?_
 refine Tp.run [] ?_
 refine Tp.wk (wk_of [] (sl':=[(0,uvA z),(4,uvA a)]) (bx':=[]) (rw':=[]) (nx':=10000) rfl rfl ?_ ?_ ?_) ?_
 ·repeat' first|refine Ai ?_ ?_|exact rfl|exact trivial|exact Ei _ rfl|refine lN ?_|refine bS ?_|fail
  exact congrArg (fun n=>Tr.lit (.int .u64 n)) ha
 ·repeat' first|refine Ai ?_ ?_|exact rfl|exact trivial|exact Ei _ rfl|refine lN ?_|refine bS ?_|fail
 ·repeat' first|refine Ai ?_ ?_|exact rfl|exact trivial|exact Ei _ rfl|refine lN ?_|refine bS ?_|fail
 refine Tp.run [] ?_
 refine Tp.wk (wk_of [] (sl':=[(0,uvA z),(4,uvA b)]) (bx':=[]) (rw':=[]) (nx':=10000) rfl rfl ?_ ?_ ?_) ?_
 ·repeat' first|refine Ai ?_ ?_|exact rfl|exact trivial|exact Ei _ rfl|refine lN ?_|refine bS ?_|fail
  exact congrArg (fun n=>Tr.lit (.int .u64 n)) hb
 ·repeat' first|refine Ai ?_ ?_|exact rfl|exact trivial|exact Ei _ rfl|refine lN ?_|refine bS ?_|fail
 ·repeat' first|refine Ai ?_ ?_|exact rfl|exact trivial|exact Ei _ rfl|refine lN ?_|refine bS ?_|fail
 refine Tp.run [] ?_
 refine Ei [] (Ai rfl (Ai ?_ ?_))
 ·repeat' first|refine Ai ?_ ?_|exact rfl|exact trivial|exact Ei _ rfl|refine lN ?_|refine bS ?_|fail
 ·repeat' first|refine Ai ?_ ?_|exact rfl|exact trivial|exact Ei _ rfl|refine lN ?_|refine bS ?_|fail
  exact congrArg (fun n=>Tr.lit (.int .u64 n)) hc
theorem r06below (s n:Int) (h2:n≤1099511627776):Ct Tryz.prog 135 [uvA s,.c (.t (iv n))] (.tup [AV.i (belowM s n).1,uvA (belowM s n).2]) [] true:=by
 refine Ct.litT (b:=false) ?_ rfl
 by_cases h:n < 1
 ·rw [show belowM s n=(0,s) from if_pos h]
  refine ct_of Tryz.func135 rfl (enters_of Tryz.func135 (by kernel_rfl) rfl) tabOk (by kernel_rfl) rfl rfl rfl rfl fun w0 O _=>Tp.run [2,3] ?_
  refine cond_t (decide_eq_true h) (Tp.run [] ?_)
  refine Ei [] (Ai rfl (Ai trivial ?_))
  repeat' first|refine Ai ?_ ?_|exact rfl|exact trivial|exact Ei _ rfl|refine lN ?_|refine bS ?_|fail
 ·rw [show belowM s n=_ from if_neg h]
  refine ct_of Tryz.func135 rfl (enters_of Tryz.func135 (by kernel_rfl) rfl) tabOk (by kernel_rfl) rfl rfl rfl rfl fun w0 O _=>Tp.run [2,3] ?_
  refine cond_f (decide_eq_false h) (Tp.run [] ?_)
  refine cI (r06next s) ⟨rfl,trivial⟩ (.inl rfl) ?_
  refine Ai rfl (Ai (ne_wrap h h2) ?_)
  refine Ei [] (Ai rfl (Ai trivial ?_))
  repeat' first|refine Ai ?_ ?_|exact rfl|exact trivial|exact Ei _ rfl|refine lN ?_|refine bS ?_|fail
theorem dbelow (s n:Int) (h2:n≤1099511627776):Ct Tryz.prog 127 [uvA s,.c (.t (iv n))] (.tup [AV.i (belowM s n).1,uvA (belowM s n).2]) [] true:=by
 refine Ct.litT (b:=false) ?_ rfl
 by_cases h:n < 1
 ·rw [show belowM s n=(0,s) from if_pos h]
  refine ct_of Tryz.func127 rfl (enters_of Tryz.func127 (by kernel_rfl) rfl) tabOk (by kernel_rfl) rfl rfl rfl rfl fun w0 O _=>Tp.run [2,3] ?_
  refine cond_t (decide_eq_true h) (Tp.run [] ?_)
  refine Ei [] (Ai rfl (Ai trivial ?_))
  repeat' first|refine Ai ?_ ?_|exact rfl|exact trivial|exact Ei _ rfl|refine lN ?_|refine bS ?_|fail
 ·rw [show belowM s n=_ from if_neg h]
  refine ct_of Tryz.func127 rfl (enters_of Tryz.func127 (by kernel_rfl) rfl) tabOk (by kernel_rfl) rfl rfl rfl rfl fun w0 O _=>Tp.run [2,3] ?_
  refine cond_f (decide_eq_false h) (Tp.run [] ?_)
  refine cI (dnext s) ⟨rfl,trivial⟩ (.inl rfl) ?_
  refine Ai rfl (Ai (ne_wrap h h2) ?_)
  refine Ei [] (Ai rfl (Ai trivial ?_))
  repeat' first|refine Ai ?_ ?_|exact rfl|exact trivial|exact Ei _ rfl|refine lN ?_|refine bS ?_|fail
structure ShOk (s:Int) (l:List Int) (x:Int × List Int × Int):Prop where
 lo:-1≤x.1
 hi:x.1 < (x.2.1.length:Int)
 len:x.2.1.length=l.length
 eq:shufG x.1.toNat x.2.2 x.2.1=shufM s l
theorem ShOk.start (s:Int) (l:List Int) (h:l.length*8≤limB):ShOk s l (IntKind.i64.wrap (((l.length:Nat):Int) - 1),l,s):=by
 have e:IntKind.i64.wrap ((l.length:Int) - 1)=(l.length:Int) - 1:=wrap_sub1 h rfl
 refine ⟨?_,?_,rfl,?_⟩
 ·show -1≤IntKind.i64.wrap ((l.length:Int) - 1)
  omega
 ·show IntKind.i64.wrap ((l.length:Int) - 1) < (l.length:Int)
  omega
 ·show shufG (IntKind.i64.wrap ((l.length:Int) - 1)).toNat s l=shufM s l
  unfold shufM
  rw [e]
  congr 1
  omega
theorem ShOk.step {s:Int} {l:List Int} {i:Int} {L:List Int} {S:Int} (h:ShOk s l (i,L,S)) (hi:1≤i) (hb:l.length≤1099511627776):(IntKind.i64.wrap (i+1)=i+1∧i+1≤1099511627776)∧(0≤(belowM S (i+1)).1∧(belowM S (i+1)).1 < (L.length:Int))∧(IntKind.i64.wrap (i - 1)=i - 1∧ShOk s l (i - 1,swapM L i.toNat (belowM S (i+1)).1.toNat,(belowM S (i+1)).2)):=by
 obtain ⟨h1,h2,h3,h4⟩:=h
 simp only at h1 h2 h3 h4
 have hr:=below_range (s:=S) (n:=i+1) (by omega) (by omega)
 refine ⟨⟨by rw [IntKind.wrap_i64];omega,by omega⟩,⟨hr.1,by omega⟩,by rw [IntKind.wrap_i64];omega,?_,?_,?_,?_⟩
 ·show -1≤i - 1
  omega
 ·show i - 1 < ((swapM L i.toNat (belowM S (i+1)).1.toNat).length:Int)
  rw [swap_len]
  omega
 ·show (swapM L i.toNat (belowM S (i+1)).1.toNat).length=l.length
  rw [swap_len,h3]
 ·show shufG (i - 1).toNat (belowM S (i+1)).2 (swapM L i.toNat (belowM S (i+1)).1.toNat)=shufM s l
  obtain ⟨j,rfl⟩:∃ j:Nat,i=(j:Int)+1:=⟨(i - 1).toNat,by omega⟩
  rw [show ((j:Int)+1).toNat=j+1 by omega] at h4 ⊢
  unfold shufG at h4
  rw [show ((j:Int)+1 - 1).toNat=j by omega,show (j:Int)+1+1=(j:Int)+2 by omega]
  exact h4
theorem ShOk.fin {s:Int} {l:List Int} {i:Int} {L:List Int} {S:Int} (h:ShOk s l (i,L,S)) (hi:¬ 1≤i):shufM s l=(L,S):=by
 have h4:=h.eq
 simp only at h4
 rw [show i.toNat=0 by omega] at h4
 exact h4.symm
theorem sw_get {L:List Int} {i k:Nat} {a:Int} (hk:k < L.length):((L.map eI).set i (eI a))[k]? = some (eI ((L.set i a)[k]'(by rw [List.length_set];exact hk))):=by
 rw [← List.map_set]
 exact map_get _ _ k _
theorem sw_eq {L:List Int} {i k:Nat} (hi:i < L.length) (hk:k < L.length):((L.map eI).set i (eI L[k])).set k (eI L[i])=(swapM L i k).map eI:=by
 unfold swapM
 rw [List.map_set,List.map_set,List.getD_eq_getElem?_getD,List.getD_eq_getElem?_getD,List.getElem?_eq_getElem hi,List.getElem?_eq_getElem hk]
 rfl
theorem cpy_all (xs:List (List Tr)) (y:List Tr):xs++(List.replicate xs.length y).drop xs.length=xs:=by
 rw [List.drop_eq_nil_of_le (by rw [List.length_replicate];exact Nat.le_refl _),List.append_nil]
theorem r06shuffle (s:Int) (l:List Int) (h:l.length*8≤limB) (hb:l.length≤1099511627776):Ct Tryz.prog 90 [uvA s,.c (.t (.sl 1 (l.map eI)))] (.tup [.c (.t (.sl 1 ((shufM s l).1.map eI))),uvA (shufM s l).2]) [] false:=by
 generalize hM:shufM s l=M
 refine ct_of Tryz.func90 rfl (enters_of Tryz.func90 (by kernel_rfl) rfl) tabOk (by kernel_rfl) rfl rfl rfl rfl fun w0 O _=>Tp.run [11] ?_
 refine Ei (l.map eI).length (Ei [iv 0] (Ai ⟨rfl,rfl⟩ (Ai ⟨rfl,trivial⟩ (Ai ⟨?_,?_⟩ ?_))))
 ·rw [Lm]
  exact Nat.le_trans h (Nb rfl)
 ·rw [Lm]
  unfold limB at h
  omega
 refine Ai (.inl rfl) (Ai (by rw [List.length_replicate];exact Nat.le_refl _) ?_)
 refine Tp.loop (fun x:Int × List Int × Int=>⟨[(0,uvA x.2.2),(6,.c (.row 9000 0)),(7,AV.i x.1)],[],[(9000,⟨3,1,0,x.2.1.map eI,none⟩)],10000⟩) (ShOk s l) (fun x=>(x.1+1).toNat) (IntKind.i64.wrap (((l.length:Nat):Int) - 1),l,s) ?_ (ShOk.start s l h) ?_
 ·refine wk_of [(9000,512)] rfl rfl ?_ ?_ ?_
  ·repeat' first|refine Ai ?_ ?_|exact rfl|exact trivial|exact Ei _ rfl|refine lN ?_|refine bS ?_|fail
   exact congrArg (fun n:Nat=>iv (IntKind.i64.wrap ((n:Int) - 1))) (by rw [cpy_all,Lm])
  ·repeat' first|refine Ai ?_ ?_|exact rfl|exact trivial|exact Ei _ rfl|refine lN ?_|refine bS ?_|fail
  ·repeat' first|refine Ai ?_ ?_|exact rfl|exact trivial|exact Ei _ rfl|refine lN ?_|refine bS ?_|fail
   exact cpy_all _ _
 rintro ⟨i,L,S⟩ hx
 refine Tp.run [6,11] ?_
 refine cS (fun hc=>?_) (fun hc=>?_)
 ·have hi1:1≤i:=of_decide_eq_true hc
  obtain ⟨⟨w1,w2⟩,⟨b1,b2⟩,w3,hx2⟩:=hx.step hi1 hb
  have hil:=hx.hi
  simp only at hil
  refine Tp.run [] ?_
  refine cI (r06below S (i+1) w2) ⟨rfl,congrArg iv w1,trivial⟩ (.inr rfl) ?_
  generalize hk:belowM S (i+1)=B at *
  obtain ⟨k,S2⟩:=B
  simp only at b1 b2
  obtain ⟨k,rfl⟩:∃ n:Nat,k=n:=⟨k.toNat,by omega⟩
  obtain ⟨i,rfl⟩:∃ n:Nat,i=n:=⟨i.toNat,by omega⟩
  have hi':i < L.length:=by omega
  have hk':k < L.length:=by omega
  refine Ei i (Ai rfl (Ai (by rw [Lm];exact hi') ?_))
  refine Ei (eI L[i]) (Ei _ (Ai (map_get _ _ i hi') (Ai rfl ?_)))
  refine Ei k (Ai rfl (Ai (by rw [Lm];exact hk') ?_))
  refine Ei (eI L[k]) (Ei _ (Ai (map_get _ _ k hk') (Ai rfl ?_)))
  refine Ei i (Ai rfl (Ai (by rw [Lm];exact hi') ?_))
  refine Ei (eI L[i]) (Ai (map_get _ _ i hi') (Ai (Nb rfl) ?_))
  refine Ei k (Ai rfl (Ai (by rw [List.length_set,Lm];exact hk') ?_))
  refine Ei _ (Ai (sw_get (L:=L) (i:=i) (a:=L[k]) hk') (Ai (Nb rfl) ?_))
  refine Ei (((i:Nat):Int) - 1,swapM L i k,S2) (Ai hx2 (Ai (show ((i:Int) - 1+1).toNat < ((i:Int)+1).toNat by omega) ?_))
  refine wk_of [(9000,9000)] rfl rfl ?_ ?_ ?_
  ·repeat' first|refine Ai ?_ ?_|exact rfl|exact trivial|exact Ei _ rfl|refine lN ?_|refine bS ?_|fail
   exact congrArg iv w3
  ·repeat' first|refine Ai ?_ ?_|exact rfl|exact trivial|exact Ei _ rfl|refine lN ?_|refine bS ?_|fail
  ·repeat' first|refine Ai ?_ ?_|exact rfl|exact trivial|exact Ei _ rfl|refine lN ?_|refine bS ?_|fail
   exact sw_eq hi' hk'
 ·have hf:=hx.fin (of_decide_eq_false hc)
  rw [hf] at hM
  subst hM
  refine Tp.run [] ?_
  refine Ei [] (Ai rfl (Ai ?_ ?_))
  all_goals repeat' first|refine Ai ?_ ?_|exact rfl|exact trivial|exact Ei _ rfl|refine lN ?_|refine bS ?_|fail
def p20:GPlayer:=⟨20,0,0,0,0,0,0,0,0,false,false,[],[],[]⟩
def newS (seed:Int):GState:=⟨[p20,p20],[],[],[],[],[],[],0,0,0,false,0,0,1,1,seed,[],0,-1⟩
def rp20:List Tr:=[iv 20,iv 0,iv 0,iv 0,iv 0,iv 0,iv 0,iv 0,iv 0,bv false,bv false,.sl 0 [],.sl 0 [],.sl 0 []]
theorem rp20_ts:TSL rp20 p20.enc:=by repeat' constructor
theorem r26new (seed:Int):Ct Tryz.prog 17 [.c (.t (iv 2)),.c (.t (iv 0)),uvA seed] (.agg ((newS seed).enc.map .t)) [] false:=by
 refine Ct.ts (ts:=(newS seed).enc.set 0 (.sl 14 [rp20,rp20])) ?_ ?_
 case refine_2=>
  repeat' (first|exact rp20_ts|constructor)
 refine ct_of Tryz.func17 rfl (enters_of Tryz.func17 (by kernel_rfl) rfl) tabOk (by kernel_rfl) rfl rfl rfl rfl fun w0 O _=>Tp.run [7,8,10] ?_
 refine Tp.loop (fun k:Nat=>⟨[(1,.c (.t (iv 0))),(6,.ptr 0 0),(7,.c (.t (iv 2))),(8,.ptr 896 0),(9,AV.i k)],[(0,List.replicate 19 .bot),(896,(((newS seed).enc.map .t).set 0 (.row 9000 0)))],[(9000,⟨47,14,0,List.replicate k rp20,none⟩)],10000⟩) (fun k=>k≤2) (fun k=>2 - k) 0 ?_ (Nat.zero_le _) ?_
 ·refine wk_of [] rfl rfl ?_ ?_ ?_
  all_goals repeat' first|refine Ai ?_ ?_|exact rfl|exact trivial|exact Ei _ rfl|refine lN ?_|refine bS ?_|fail
 rintro k hk
 refine Tp.run [5,6,7] ?_
 refine cS (fun hc=>?_) (fun hc=>?_)
 ·have hlt:k < 2:=by have:=of_decide_eq_true hc;omega
  refine Tp.run [] ?_
  refine Ai (.inl rfl) (Ai ?_ (Ai ?_ ?_))
  ·rw [List.length_replicate]
   show (k+1)*152≤_
   omega
  ·rw [List.length_replicate]
   show k+1 < _
   omega
  refine Tp.run [] ?_
  refine Ei (k+1) (Ai (show k+1≤2 by omega) (Ai (show 2 - (k+1) < 2 - k by omega) ?_))
  refine wk_of [(9000,9000)] rfl rfl ?_ ?_ ?_
  ·repeat' first|refine Ai ?_ ?_|exact rfl|exact trivial|exact Ei _ rfl|refine lN ?_|refine bS ?_|fail
   exact congrArg iv (wrap_succ k (by omega))
  ·repeat' first|refine Ai ?_ ?_|exact rfl|exact trivial|exact Ei _ rfl|refine lN ?_|refine bS ?_|fail
  ·repeat' first|refine Ai ?_ ?_|exact rfl|exact trivial|exact Ei _ rfl|refine lN ?_|refine bS ?_|fail
   exact (List.replicate_succ' (n:=k) (a:=rp20)).symm
 ·have:k=2:=by have:=of_decide_eq_false hc;omega
  subst this
  refine Tp.run [] ?_
  refine Tp.run [] ?_
  refine Tp.run [] ?_
  refine Ei [] (Ai rfl (Ai ?_ ?_))
  all_goals repeat' first|refine Ai ?_ ?_|exact rfl|exact trivial|exact Ei _ rfl|refine lN ?_|refine bS ?_|fail
end Go.Proofs.YtmloamomcbmfhaaGreat
end
section
namespace Go.Proofs.YtmloamomcbmfhaaGreat
open Go Cg Go.RowKit Go.Sort
def plD:List (Nat × Nat × Nat):=[(11,3,1),(12,3,1),(13,3,1)]
def plR (s:GState):Row:=⟨47,14,0,s.players.map GPlayer.enc,some ⟨plD,s.players.length,[]⟩⟩
theorem set2_same {α:Type} {xs:List α} {i:Nat} {t u:α} (h:xs[i]? = some t):(xs.set i u).set i t=xs:=by
 rw [List.set_set]
 exact set_same h
theorem copyP_ct (s:GState) (h:s.ok):Ct Tryz.prog 21 [.agg (s.enc.map .t)] (.agg ([.row 0 0,.row 1 0,.row 2 0,.row 3 0,.row 4 0]++(s.enc.drop 5).map .t)) [plR s,⟨49,19,0,s.objects.map GObject.enc,none⟩,⟨3,1,0,s.battlefield.map eI,none⟩,⟨3,1,0,s.exile.map eI,none⟩,⟨91,94,0,s.stack.map GItem.enc,none⟩] false:=by
 obtain ⟨hp,hp2,ho,ho2,hb,hx,hs,hs2,hw,hw2,hc,hc2,hxt⟩:=h
 refine ct_of Tryz.func21 rfl (enters_of Tryz.func21 (by kernel_rfl) rfl) tabOk (by kernel_rfl) rfl rfl rfl rfl fun w0 O _=>Tp.run [7,17,23,30] ?_
 refine cI (clonePlayer_ct _ (map_bound _ _ _ hp)) ⟨rfl,trivial⟩ (.inr rfl) ?_
 refine Tp.deep 512 plD rfl rfl ?_
 refine Tp.loop (fun k:Nat=>⟨[(1,.ptr 0 0),(2,.ptr 128 0),(13,AV.i (s.players.map GPlayer.enc).length),(14,AV.i k)],[(0,(s.enc.map .t).set 0 (.row 9000 0)),(128,List.replicate 19 .bot)],[(9000,⟨47,14,0,s.players.map GPlayer.enc,some ⟨plD,k,[]⟩⟩)],10000⟩) (fun k=>k≤s.players.length) (fun k=>s.players.length - k) 0 ?_ (Nat.zero_le _) ?_
 ·refine wk_of [(9000,512)] rfl rfl ?_ ?_ ?_
  all_goals repeat' first|refine Ai ?_ ?_|exact rfl|exact trivial|exact Ei _ rfl|refine lN ?_|refine bS ?_|fail
 rintro k hk
 refine Tp.run [6,7] ?_
 refine cS (fun h=>?_) (fun h=>?_)
 ·have hlt:=len_lt h
  have hkl:k < (s.players.map GPlayer.enc).length:=by rw [Lm];exact hlt
  refine Ei k (Ai rfl (Ai hkl ?_))
  refine Ei (s.players[k].enc) (Ei _ (Ai (map_get _ _ k hlt) (Ai rfl (Ai (.inr (Nat.le_refl k)) ?_))))
  refine cI (copyPlayer_ct s.players[k] (hp2 _ (List.getElem_mem hlt))) ⟨fL s.players[k].enc,trivial⟩ (.inr rfl) ?_
  refine Ei k (Ai rfl (Ai hkl ?_))
  refine Ei (s.players[k].enc) (Ai (map_get _ _ k hlt) (Ai (Nb rfl) (Ai trivial (Ai (.inr (Nat.le_refl k)) ?_))))
  refine Tp.put 9000 k (k+1) (ts:=s.players[k].enc) rfl rfl (List.getElem?_set_self hkl) rfl (Ai rfl (Ai rfl (Ai rfl trivial))) rfl (.inr (Ai rfl (Ai rfl rfl))) ?_
  refine Tp.run [] ?_
  refine Ei (k+1) (Ai (show k+1≤_ by omega) (Ai (show s.players.length - (k+1) < s.players.length - k by omega) ?_))
  refine wk_of [(9000,9000)] rfl rfl ?_ ?_ ?_
  ·repeat' first|refine Ai ?_ ?_|exact rfl|exact trivial|exact Ei _ rfl|refine lN ?_|refine bS ?_|fail
   exact succ_eq k hlt 152 (by decide) hp
  ·repeat' first|refine Ai ?_ ?_|exact rfl|exact trivial|exact Ei _ rfl|refine lN ?_|refine bS ?_|fail
  ·repeat' first|refine Ai ?_ ?_|exact rfl|exact trivial|exact Ei _ rfl|refine lN ?_|refine bS ?_|fail
   exact set2_same (map_get _ _ k hlt)
 have hk0:=len_ge h hk
 subst hk0
 clear h hk
 refine Tp.run [17,23,30] ?_
 refine cI (cloneObject_ct _ (map_bound _ _ _ ho)) ⟨rfl,trivial⟩ (.inr rfl) ?_
 refine cI (cloneInt_ct _ (map_bound _ _ _ hb)) ⟨rfl,trivial⟩ (.inr rfl) ?_
 refine cI (cloneInt_ct _ (map_bound _ _ _ hx)) ⟨rfl,trivial⟩ (.inr rfl) ?_
 refine cI (cloneItem_ct _ (map_bound _ _ _ hs)) ⟨rfl,trivial⟩ (.inr rfl) ?_
 refine Tp.loop (fun k:Nat=>⟨[(1,.ptr 0 0),(2,.ptr 128 0),(46,AV.i (s.stack.map GItem.enc).length),(47,AV.i k)],[(0,(((((s.enc.map .t).set 0 (.row 9000 0)).set 1 (.row 9001 0)).set 2 (.row 9002 0)).set 3 (.row 9003 0)).set 4 (.row 9004 0)),(128,List.replicate 19 .bot)],[(9000,plR s),(9001,⟨49,19,0,s.objects.map GObject.enc,none⟩),(9002,⟨3,1,0,s.battlefield.map eI,none⟩),(9003,⟨3,1,0,s.exile.map eI,none⟩),(9004,⟨91,94,0,s.stack.map GItem.enc,none⟩)],20000⟩) (fun k=>k≤s.stack.length) (fun k=>s.stack.length - k) 0 ?_ (Nat.zero_le _) ?_
 ·refine wk_of [(9000,9000),(9001,10384),(9002,11024),(9003,11664),(9004,12304)] rfl rfl ?_ ?_ ?_
  all_goals repeat' first|refine Ai ?_ ?_|exact rfl|exact trivial|exact Ei _ rfl|refine lN ?_|refine bS ?_|fail
 rintro k hk
 refine Tp.run [17] ?_
 refine cS (fun h=>?_) (fun h=>?_)
 ·have hlt:=len_lt h
  have hkl:k < (s.stack.map GItem.enc).length:=by rw [Lm];exact hlt
  obtain ⟨e1,e2,_⟩:=hs2 s.stack[k] (List.getElem_mem hlt)
  refine Ei k (Ai rfl (Ai hkl ?_))
  refine Ei (s.stack[k].enc) (Ei _ (Ai (map_get _ _ k hlt) (Ai rfl ?_)))
  refine cI (copyAbility_ct s.stack[k].ability e1) ⟨fL s.stack[k].ability.enc,trivial⟩ (.inr rfl) ?_
  refine Ei k (Ai rfl (Ai hkl ?_))
  refine Ei (s.stack[k].enc) (Ai (map_get _ _ k hlt) (Ai (Nb rfl) ?_))
  refine Ei k (Ai rfl (Ai (by rw [List.length_set];exact hkl) ?_))
  refine Ei (s.stack[k].enc) (Ei _ (Ai (List.getElem?_set_self hkl) (Ai rfl ?_)))
  refine cI (ct_tree (cloneTarget_ct _ (map_bound _ _ _ e2))) ⟨rfl,trivial⟩ (.inr rfl) ?_
  refine Ei k (Ai rfl (Ai (by rw [List.length_set];exact hkl) ?_))
  refine Ei (s.stack[k].enc) (Ai (List.getElem?_set_self hkl) (Ai (Nb rfl) ?_))
  refine Ei (k+1) (Ai (show k+1≤_ by omega) (Ai (show s.stack.length - (k+1) < s.stack.length - k by omega) ?_))
  refine wk_of [(9000,9000),(9001,9001),(9002,9002),(9003,9003),(9004,9004)] rfl rfl ?_ ?_ ?_
  ·repeat' first|refine Ai ?_ ?_|exact rfl|exact trivial|exact Ei _ rfl|refine lN ?_|refine bS ?_|fail
   exact succ_eq k hlt 824 (by decide) hs
  ·repeat' first|refine Ai ?_ ?_|exact rfl|exact trivial|exact Ei _ rfl|refine lN ?_|refine bS ?_|fail
  ·repeat' first|refine Ai ?_ ?_|exact rfl|exact trivial|exact Ei _ rfl|refine lN ?_|refine bS ?_|fail
   exact set2_same (map_get _ _ k hlt)
 have hk1:=len_ge h hk
 subst hk1
 clear h hk
 refine Tp.run [23,30] ?_
 refine cI (cloneWaiting_ct _ (map_bound _ _ _ hw)) ⟨rfl,trivial⟩ (.inr rfl) ?_
 refine Tp.loop (fun k:Nat=>⟨[(1,.ptr 0 0),(2,.ptr 128 0),(81,AV.i (s.waiting.map GWaiting.enc).length),(82,AV.i k)],[(0,((((((s.enc.map .t).set 0 (.row 9000 0)).set 1 (.row 9001 0)).set 2 (.row 9002 0)).set 3 (.row 9003 0)).set 4 (.row 9004 0)).set 5 (.row 9005 0)),(128,List.replicate 19 .bot)],[(9000,plR s),(9001,⟨49,19,0,s.objects.map GObject.enc,none⟩),(9002,⟨3,1,0,s.battlefield.map eI,none⟩),(9003,⟨3,1,0,s.exile.map eI,none⟩),(9004,⟨91,94,0,s.stack.map GItem.enc,none⟩),(9005,⟨94,89,0,s.waiting.map GWaiting.enc,none⟩)],30000⟩) (fun k=>k≤s.waiting.length) (fun k=>s.waiting.length - k) 0 ?_ (Nat.zero_le _) ?_
 ·refine wk_of [(9000,9000),(9001,9001),(9002,9002),(9003,9003),(9004,9004),(9005,20384)] rfl rfl ?_ ?_ ?_
  all_goals repeat' first|refine Ai ?_ ?_|exact rfl|exact trivial|exact Ei _ rfl|refine lN ?_|refine bS ?_|fail
 rintro k hk
 refine Tp.run [23] ?_
 refine cS (fun h=>?_) (fun h=>?_)
 ·have hlt:=len_lt h
  have hkl:k < (s.waiting.map GWaiting.enc).length:=by rw [Lm];exact hlt
  obtain ⟨e1,_⟩:=hw2 s.waiting[k] (List.getElem_mem hlt)
  refine Ei k (Ai rfl (Ai hkl ?_))
  refine Ei (s.waiting[k].enc) (Ei _ (Ai (map_get _ _ k hlt) (Ai rfl ?_)))
  refine cI (copyAbility_ct s.waiting[k].ability e1) ⟨fL s.waiting[k].ability.enc,trivial⟩ (.inr rfl) ?_
  refine Ei k (Ai rfl (Ai hkl ?_))
  refine Ei (s.waiting[k].enc) (Ai (map_get _ _ k hlt) (Ai (Nb rfl) ?_))
  refine Ei (k+1) (Ai (show k+1≤_ by omega) (Ai (show s.waiting.length - (k+1) < s.waiting.length - k by omega) ?_))
  refine wk_of [(9000,9000),(9001,9001),(9002,9002),(9003,9003),(9004,9004),(9005,9005)] rfl rfl ?_ ?_ ?_
  ·repeat' first|refine Ai ?_ ?_|exact rfl|exact trivial|exact Ei _ rfl|refine lN ?_|refine bS ?_|fail
   exact succ_eq k hlt 768 (by decide) hw
  ·repeat' first|refine Ai ?_ ?_|exact rfl|exact trivial|exact Ei _ rfl|refine lN ?_|refine bS ?_|fail
  ·repeat' first|refine Ai ?_ ?_|exact rfl|exact trivial|exact Ei _ rfl|refine lN ?_|refine bS ?_|fail
   exact set_same (map_get _ _ k hlt)
 have hk2:=len_ge h hk
 subst hk2
 clear h hk
 refine Tp.run [30] ?_
 refine cI (cloneCont_ct _ (map_bound _ _ _ hc)) ⟨rfl,trivial⟩ (.inr rfl) ?_
 refine Tp.loop (fun k:Nat=>⟨[(1,.ptr 0 0),(2,.ptr 128 0),(104,AV.i (s.conts.map GCont.enc).length),(105,AV.i k)],[(0,(((((((s.enc.map .t).set 0 (.row 9000 0)).set 1 (.row 9001 0)).set 2 (.row 9002 0)).set 3 (.row 9003 0)).set 4 (.row 9004 0)).set 5 (.row 9005 0)).set 6 (.row 9006 0)),(128,List.replicate 19 .bot)],[(9000,plR s),(9001,⟨49,19,0,s.objects.map GObject.enc,none⟩),(9002,⟨3,1,0,s.battlefield.map eI,none⟩),(9003,⟨3,1,0,s.exile.map eI,none⟩),(9004,⟨91,94,0,s.stack.map GItem.enc,none⟩),(9005,⟨94,89,0,s.waiting.map GWaiting.enc,none⟩),(9006,⟨96,6,0,s.conts.map GCont.enc,none⟩)],40000⟩) (fun k=>k≤s.conts.length) (fun k=>s.conts.length - k) 0 ?_ (Nat.zero_le _) ?_
 ·refine wk_of [(9000,9000),(9001,9001),(9002,9002),(9003,9003),(9004,9004),(9005,9005),(9006,30384)] rfl rfl ?_ ?_ ?_
  all_goals repeat' first|refine Ai ?_ ?_|exact rfl|exact trivial|exact Ei _ rfl|refine lN ?_|refine bS ?_|fail
 rintro k hk
 refine Tp.run [30] ?_
 refine cS (fun h=>?_) (fun h=>?_)
 ·have hlt:=len_lt h
  have hkl:k < (s.conts.map GCont.enc).length:=by rw [Lm];exact hlt
  obtain ⟨e1,e2,_⟩:=hc2 s.conts[k] (List.getElem_mem hlt)
  refine Ei k (Ai rfl (Ai hkl ?_))
  refine Ei (s.conts[k].enc) (Ei _ (Ai (map_get _ _ k hlt) (Ai rfl ?_)))
  refine cI (ct_tree (cloneInt_ct _ (map_bound _ _ _ e1))) ⟨rfl,trivial⟩ (.inr rfl) ?_
  refine Ei k (Ai rfl (Ai hkl ?_))
  refine Ei (s.conts[k].enc) (Ai (map_get _ _ k hlt) (Ai (Nb rfl) ?_))
  refine Ei k (Ai rfl (Ai (by rw [List.length_set];exact hkl) ?_))
  refine Ei (s.conts[k].enc) (Ei _ (Ai (List.getElem?_set_self hkl) (Ai rfl ?_)))
  refine cI (ct_tree (cloneMod_ct _ (map_bound _ _ _ e2))) ⟨rfl,trivial⟩ (.inr rfl) ?_
  refine Ei k (Ai rfl (Ai (by rw [List.length_set];exact hkl) ?_))
  refine Ei (s.conts[k].enc) (Ai (List.getElem?_set_self hkl) (Ai (Nb rfl) ?_))
  refine Ei (k+1) (Ai (show k+1≤_ by omega) (Ai (show s.conts.length - (k+1) < s.conts.length - k by omega) ?_))
  refine wk_of [(9000,9000),(9001,9001),(9002,9002),(9003,9003),(9004,9004),(9005,9005),(9006,9006)] rfl rfl ?_ ?_ ?_
  ·repeat' first|refine Ai ?_ ?_|exact rfl|exact trivial|exact Ei _ rfl|refine lN ?_|refine bS ?_|fail
   exact succ_eq k hlt 80 (by decide) hc
  ·repeat' first|refine Ai ?_ ?_|exact rfl|exact trivial|exact Ei _ rfl|refine lN ?_|refine bS ?_|fail
  ·repeat' first|refine Ai ?_ ?_|exact rfl|exact trivial|exact Ei _ rfl|refine lN ?_|refine bS ?_|fail
   exact set2_same (map_get _ _ k hlt)
 have hk3:=len_ge h hk
 subst hk3
 clear h hk
 refine Tp.run [] ?_
 refine cI (ct_tree (cloneInt_ct _ (map_bound _ _ _ hxt))) ⟨rfl,trivial⟩ (.inr rfl) ?_
 refine Ei [(0,9000),(1,9001),(2,9002),(3,9003),(4,9004)] (Ai rfl (Ai ?_ ?_))
 all_goals repeat' first|refine Ai ?_ ?_|exact rfl|exact trivial|exact Ei _ rfl|refine lN ?_|refine bS ?_|fail
def plS (s:GState):Row:=⟨47,14,0,s.players.map GPlayer.enc,none⟩
theorem copyPlayerT_ct (p:GPlayer) (h:p.ok):Ct Tryz.prog 53 [.agg (p.enc.map .t)] (.agg (p.enc.map .t)) [] false:=by
 refine ct_of Tryz.func53 rfl (enters_of Tryz.func53 (by kernel_rfl) rfl) tabOk (by kernel_rfl) rfl rfl rfl rfl fun w0 O _=>Tp.run [] ?_
 obtain ⟨h1,h2,h3⟩:=h
 refine cI (ct_tree (cloneInt_ct _ (map_bound _ _ _ h1))) ⟨rfl,trivial⟩ (.inr rfl) ?_
 refine cI (ct_tree (cloneInt_ct _ (map_bound _ _ _ h2))) ⟨rfl,trivial⟩ (.inr rfl) ?_
 refine cI (ct_tree (cloneInt_ct _ (map_bound _ _ _ h3))) ⟨rfl,trivial⟩ (.inr rfl) ?_
 refine Ei [] (Ai rfl (Ai ?_ ?_))
 all_goals repeat' first|refine Ai ?_ ?_|exact rfl|exact trivial|exact Ei _ rfl|refine lN ?_|refine bS ?_|fail
theorem copyP2_ct (s:GState) (h:s.ok):Ct Tryz.prog 21 [.agg (s.enc.map .t)] (.agg ([.row 0 0,.row 1 0]++(s.enc.drop 2).map .t)) [plS s,⟨49,19,0,s.objects.map GObject.enc,none⟩] false:=by
 obtain ⟨hp,hp2,ho,ho2,hb,hx,hs,hs2,hw,hw2,hc,hc2,hxt⟩:=h
 refine ct_of Tryz.func21 rfl (enters_of Tryz.func21 (by kernel_rfl) rfl) tabOk (by kernel_rfl) rfl rfl rfl rfl fun w0 O _=>Tp.run [7,17,23,30] ?_
 refine cI (clonePlayer_ct _ (map_bound _ _ _ hp)) ⟨rfl,trivial⟩ (.inr rfl) ?_
 refine Tp.loop (fun k:Nat=>⟨[(1,.ptr 0 0),(2,.ptr 128 0),(13,AV.i (s.players.map GPlayer.enc).length),(14,AV.i k)],[(0,(s.enc.map .t).set 0 (.row 9000 0)),(128,List.replicate 19 .bot)],[(9000,plS s)],10000⟩) (fun k=>k≤s.players.length) (fun k=>s.players.length - k) 0 ?_ (Nat.zero_le _) ?_
 ·refine wk_of [(9000,512)] rfl rfl ?_ ?_ ?_
  all_goals repeat' first|refine Ai ?_ ?_|exact rfl|exact trivial|exact Ei _ rfl|refine lN ?_|refine bS ?_|fail
 rintro k hk
 refine Tp.run [6,7] ?_
 refine cS (fun h=>?_) (fun h=>?_)
 ·have hlt:=len_lt h
  have hkl:k < (s.players.map GPlayer.enc).length:=by rw [Lm];exact hlt
  refine Ei k (Ai rfl (Ai hkl ?_))
  refine Ei (s.players[k].enc) (Ei _ (Ai (map_get _ _ k hlt) (Ai rfl ?_)))
  refine cI (copyPlayerT_ct s.players[k] (hp2 _ (List.getElem_mem hlt))) ⟨fL s.players[k].enc,trivial⟩ (.inr rfl) ?_
  refine Ei k (Ai rfl (Ai hkl ?_))
  refine Ei (s.players[k].enc) (Ai (map_get _ _ k hlt) (Ai (Nb rfl) ?_))
  refine Tp.run [] ?_
  refine Ei (k+1) (Ai (show k+1≤_ by omega) (Ai (show s.players.length - (k+1) < s.players.length - k by omega) ?_))
  refine wk_of [(9000,9000)] rfl rfl ?_ ?_ ?_
  ·repeat' first|refine Ai ?_ ?_|exact rfl|exact trivial|exact Ei _ rfl|refine lN ?_|refine bS ?_|fail
   exact succ_eq k hlt 152 (by decide) hp
  ·repeat' first|refine Ai ?_ ?_|exact rfl|exact trivial|exact Ei _ rfl|refine lN ?_|refine bS ?_|fail
  ·repeat' first|refine Ai ?_ ?_|exact rfl|exact trivial|exact Ei _ rfl|refine lN ?_|refine bS ?_|fail
   exact set_same (map_get _ _ k hlt)
 have hk0:=len_ge h hk
 subst hk0
 clear h hk
 refine Tp.run [17,23,30] ?_
 refine cI (cloneObject_ct _ (map_bound _ _ _ ho)) ⟨rfl,trivial⟩ (.inr rfl) ?_
 refine cI (cloneInt_ct _ (map_bound _ _ _ hb)) ⟨rfl,trivial⟩ (.inr rfl) ?_
 refine cI (cloneInt_ct _ (map_bound _ _ _ hx)) ⟨rfl,trivial⟩ (.inr rfl) ?_
 refine cI (cloneItem_ct _ (map_bound _ _ _ hs)) ⟨rfl,trivial⟩ (.inr rfl) ?_
 refine Tp.loop (fun k:Nat=>⟨[(1,.ptr 0 0),(2,.ptr 128 0),(46,AV.i (s.stack.map GItem.enc).length),(47,AV.i k)],[(0,(((((s.enc.map .t).set 0 (.row 9000 0)).set 1 (.row 9001 0)).set 2 (.row 9002 0)).set 3 (.row 9003 0)).set 4 (.row 9004 0)),(128,List.replicate 19 .bot)],[(9000,plS s),(9001,⟨49,19,0,s.objects.map GObject.enc,none⟩),(9002,⟨3,1,0,s.battlefield.map eI,none⟩),(9003,⟨3,1,0,s.exile.map eI,none⟩),(9004,⟨91,94,0,s.stack.map GItem.enc,none⟩)],20000⟩) (fun k=>k≤s.stack.length) (fun k=>s.stack.length - k) 0 ?_ (Nat.zero_le _) ?_
 ·refine wk_of [(9000,9000),(9001,10384),(9002,11024),(9003,11664),(9004,12304)] rfl rfl ?_ ?_ ?_
  all_goals repeat' first|refine Ai ?_ ?_|exact rfl|exact trivial|exact Ei _ rfl|refine lN ?_|refine bS ?_|fail
 rintro k hk
 refine Tp.run [17] ?_
 refine cS (fun h=>?_) (fun h=>?_)
 ·have hlt:=len_lt h
  have hkl:k < (s.stack.map GItem.enc).length:=by rw [Lm];exact hlt
  obtain ⟨e1,e2,_⟩:=hs2 s.stack[k] (List.getElem_mem hlt)
  refine Ei k (Ai rfl (Ai hkl ?_))
  refine Ei (s.stack[k].enc) (Ei _ (Ai (map_get _ _ k hlt) (Ai rfl ?_)))
  refine cI (copyAbility_ct s.stack[k].ability e1) ⟨fL s.stack[k].ability.enc,trivial⟩ (.inr rfl) ?_
  refine Ei k (Ai rfl (Ai hkl ?_))
  refine Ei (s.stack[k].enc) (Ai (map_get _ _ k hlt) (Ai (Nb rfl) ?_))
  refine Ei k (Ai rfl (Ai (by rw [List.length_set];exact hkl) ?_))
  refine Ei (s.stack[k].enc) (Ei _ (Ai (List.getElem?_set_self hkl) (Ai rfl ?_)))
  refine cI (ct_tree (cloneTarget_ct _ (map_bound _ _ _ e2))) ⟨rfl,trivial⟩ (.inr rfl) ?_
  refine Ei k (Ai rfl (Ai (by rw [List.length_set];exact hkl) ?_))
  refine Ei (s.stack[k].enc) (Ai (List.getElem?_set_self hkl) (Ai (Nb rfl) ?_))
  refine Ei (k+1) (Ai (show k+1≤_ by omega) (Ai (show s.stack.length - (k+1) < s.stack.length - k by omega) ?_))
  refine wk_of [(9000,9000),(9001,9001),(9002,9002),(9003,9003),(9004,9004)] rfl rfl ?_ ?_ ?_
  ·repeat' first|refine Ai ?_ ?_|exact rfl|exact trivial|exact Ei _ rfl|refine lN ?_|refine bS ?_|fail
   exact succ_eq k hlt 824 (by decide) hs
  ·repeat' first|refine Ai ?_ ?_|exact rfl|exact trivial|exact Ei _ rfl|refine lN ?_|refine bS ?_|fail
  ·repeat' first|refine Ai ?_ ?_|exact rfl|exact trivial|exact Ei _ rfl|refine lN ?_|refine bS ?_|fail
   exact set2_same (map_get _ _ k hlt)
 have hk1:=len_ge h hk
 subst hk1
 clear h hk
 refine Tp.run [23,30] ?_
 refine cI (cloneWaiting_ct _ (map_bound _ _ _ hw)) ⟨rfl,trivial⟩ (.inr rfl) ?_
 refine Tp.loop (fun k:Nat=>⟨[(1,.ptr 0 0),(2,.ptr 128 0),(81,AV.i (s.waiting.map GWaiting.enc).length),(82,AV.i k)],[(0,((((((s.enc.map .t).set 0 (.row 9000 0)).set 1 (.row 9001 0)).set 2 (.row 9002 0)).set 3 (.row 9003 0)).set 4 (.row 9004 0)).set 5 (.row 9005 0)),(128,List.replicate 19 .bot)],[(9000,plS s),(9001,⟨49,19,0,s.objects.map GObject.enc,none⟩),(9002,⟨3,1,0,s.battlefield.map eI,none⟩),(9003,⟨3,1,0,s.exile.map eI,none⟩),(9004,⟨91,94,0,s.stack.map GItem.enc,none⟩),(9005,⟨94,89,0,s.waiting.map GWaiting.enc,none⟩)],30000⟩) (fun k=>k≤s.waiting.length) (fun k=>s.waiting.length - k) 0 ?_ (Nat.zero_le _) ?_
 ·refine wk_of [(9000,9000),(9001,9001),(9002,9002),(9003,9003),(9004,9004),(9005,20384)] rfl rfl ?_ ?_ ?_
  all_goals repeat' first|refine Ai ?_ ?_|exact rfl|exact trivial|exact Ei _ rfl|refine lN ?_|refine bS ?_|fail
 rintro k hk
 refine Tp.run [23] ?_
 refine cS (fun h=>?_) (fun h=>?_)
 ·have hlt:=len_lt h
  have hkl:k < (s.waiting.map GWaiting.enc).length:=by rw [Lm];exact hlt
  obtain ⟨e1,_⟩:=hw2 s.waiting[k] (List.getElem_mem hlt)
  refine Ei k (Ai rfl (Ai hkl ?_))
  refine Ei (s.waiting[k].enc) (Ei _ (Ai (map_get _ _ k hlt) (Ai rfl ?_)))
  refine cI (copyAbility_ct s.waiting[k].ability e1) ⟨fL s.waiting[k].ability.enc,trivial⟩ (.inr rfl) ?_
  refine Ei k (Ai rfl (Ai hkl ?_))
  refine Ei (s.waiting[k].enc) (Ai (map_get _ _ k hlt) (Ai (Nb rfl) ?_))
  refine Ei (k+1) (Ai (show k+1≤_ by omega) (Ai (show s.waiting.length - (k+1) < s.waiting.length - k by omega) ?_))
  refine wk_of [(9000,9000),(9001,9001),(9002,9002),(9003,9003),(9004,9004),(9005,9005)] rfl rfl ?_ ?_ ?_
  ·repeat' first|refine Ai ?_ ?_|exact rfl|exact trivial|exact Ei _ rfl|refine lN ?_|refine bS ?_|fail
   exact succ_eq k hlt 768 (by decide) hw
  ·repeat' first|refine Ai ?_ ?_|exact rfl|exact trivial|exact Ei _ rfl|refine lN ?_|refine bS ?_|fail
  ·repeat' first|refine Ai ?_ ?_|exact rfl|exact trivial|exact Ei _ rfl|refine lN ?_|refine bS ?_|fail
   exact set_same (map_get _ _ k hlt)
 have hk2:=len_ge h hk
 subst hk2
 clear h hk
 refine Tp.run [30] ?_
 refine cI (cloneCont_ct _ (map_bound _ _ _ hc)) ⟨rfl,trivial⟩ (.inr rfl) ?_
 refine Tp.loop (fun k:Nat=>⟨[(1,.ptr 0 0),(2,.ptr 128 0),(104,AV.i (s.conts.map GCont.enc).length),(105,AV.i k)],[(0,(((((((s.enc.map .t).set 0 (.row 9000 0)).set 1 (.row 9001 0)).set 2 (.row 9002 0)).set 3 (.row 9003 0)).set 4 (.row 9004 0)).set 5 (.row 9005 0)).set 6 (.row 9006 0)),(128,List.replicate 19 .bot)],[(9000,plS s),(9001,⟨49,19,0,s.objects.map GObject.enc,none⟩),(9002,⟨3,1,0,s.battlefield.map eI,none⟩),(9003,⟨3,1,0,s.exile.map eI,none⟩),(9004,⟨91,94,0,s.stack.map GItem.enc,none⟩),(9005,⟨94,89,0,s.waiting.map GWaiting.enc,none⟩),(9006,⟨96,6,0,s.conts.map GCont.enc,none⟩)],40000⟩) (fun k=>k≤s.conts.length) (fun k=>s.conts.length - k) 0 ?_ (Nat.zero_le _) ?_
 ·refine wk_of [(9000,9000),(9001,9001),(9002,9002),(9003,9003),(9004,9004),(9005,9005),(9006,30384)] rfl rfl ?_ ?_ ?_
  all_goals repeat' first|refine Ai ?_ ?_|exact rfl|exact trivial|exact Ei _ rfl|refine lN ?_|refine bS ?_|fail
 rintro k hk
 refine Tp.run [30] ?_
 refine cS (fun h=>?_) (fun h=>?_)
 ·have hlt:=len_lt h
  have hkl:k < (s.conts.map GCont.enc).length:=by rw [Lm];exact hlt
  obtain ⟨e1,e2,_⟩:=hc2 s.conts[k] (List.getElem_mem hlt)
  refine Ei k (Ai rfl (Ai hkl ?_))
  refine Ei (s.conts[k].enc) (Ei _ (Ai (map_get _ _ k hlt) (Ai rfl ?_)))
  refine cI (ct_tree (cloneInt_ct _ (map_bound _ _ _ e1))) ⟨rfl,trivial⟩ (.inr rfl) ?_
  refine Ei k (Ai rfl (Ai hkl ?_))
  refine Ei (s.conts[k].enc) (Ai (map_get _ _ k hlt) (Ai (Nb rfl) ?_))
  refine Ei k (Ai rfl (Ai (by rw [List.length_set];exact hkl) ?_))
  refine Ei (s.conts[k].enc) (Ei _ (Ai (List.getElem?_set_self hkl) (Ai rfl ?_)))
  refine cI (ct_tree (cloneMod_ct _ (map_bound _ _ _ e2))) ⟨rfl,trivial⟩ (.inr rfl) ?_
  refine Ei k (Ai rfl (Ai (by rw [List.length_set];exact hkl) ?_))
  refine Ei (s.conts[k].enc) (Ai (List.getElem?_set_self hkl) (Ai (Nb rfl) ?_))
  refine Ei (k+1) (Ai (show k+1≤_ by omega) (Ai (show s.conts.length - (k+1) < s.conts.length - k by omega) ?_))
  refine wk_of [(9000,9000),(9001,9001),(9002,9002),(9003,9003),(9004,9004),(9005,9005),(9006,9006)] rfl rfl ?_ ?_ ?_
  ·repeat' first|refine Ai ?_ ?_|exact rfl|exact trivial|exact Ei _ rfl|refine lN ?_|refine bS ?_|fail
   exact succ_eq k hlt 80 (by decide) hc
  ·repeat' first|refine Ai ?_ ?_|exact rfl|exact trivial|exact Ei _ rfl|refine lN ?_|refine bS ?_|fail
  ·repeat' first|refine Ai ?_ ?_|exact rfl|exact trivial|exact Ei _ rfl|refine lN ?_|refine bS ?_|fail
   exact set2_same (map_get _ _ k hlt)
 have hk3:=len_ge h hk
 subst hk3
 clear h hk
 refine Tp.run [] ?_
 refine cI (ct_tree (cloneInt_ct _ (map_bound _ _ _ hxt))) ⟨rfl,trivial⟩ (.inr rfl) ?_
 refine Ei [(0,9000),(1,9001)] (Ai rfl (Ai ?_ ?_))
 all_goals repeat' first|refine Ai ?_ ?_|exact rfl|exact trivial|exact Ei _ rfl|refine lN ?_|refine bS ?_|fail
def rows5 (s:GState):List Row:=[plR s,⟨49,19,0,s.objects.map GObject.enc,none⟩,⟨3,1,0,s.battlefield.map eI,none⟩,⟨3,1,0,s.exile.map eI,none⟩,⟨91,94,0,s.stack.map GItem.enc,none⟩]
def cells5 (s:GState):List Ce:=[.row 0 0,.row 1 0,.row 2 0,.row 3 0,.row 4 0]++(s.enc.drop 5).map .t
theorem list_bf (s:GState) (p:Int):CtM Tryz.prog 122 [.ptr 0 0,.c (.t (iv 0)),.c (.t (iv p))] [cells5 s] (rows5 s) (.ptr 0 2) [cells5 s] (rows5 s) []:=by
 refine ctm_of 5 Tryz.func122 rfl (enters_of Tryz.func122 (by kernel_rfl) rfl) tabOk (by kernel_rfl) rfl rfl rfl rfl rfl fun w0 O _=>Tp.run [6] ?_
 refine Ei [(0,0),(1,1),(2,2),(3,3),(4,4)] (Ai (Ai rfl (Ai ?_ (Ai ?_ ?_))) ?_)
 all_goals repeat' first|refine Ai ?_ ?_|exact rfl|exact trivial|exact Ei _ rfl|refine lN ?_|refine bS ?_|fail
theorem list_hand (s:GState) (p:Nat) (hp:p < s.players.length):CtM Tryz.prog 122 [.ptr 0 0,.c (.t (iv 1)),.c (.t (iv p))] [cells5 s] (rows5 s) (.eptr 0 0 14 p 12) [cells5 s] (rows5 s) []:=by
 refine ctm_of 5 Tryz.func122 rfl (enters_of Tryz.func122 (by kernel_rfl) rfl) tabOk (by kernel_rfl) rfl rfl rfl rfl rfl fun w0 O _=>Tp.run [8] ?_
 refine cond_f (by simp [plR];omega) ?_
 refine Tp.run [] ?_
 refine Ei p (Ai rfl (Ai (show p < (s.players.map GPlayer.enc).length by rw [Lm];exact hp) ?_))
 refine Ei [(0,0),(1,1),(2,2),(3,3),(4,4)] (Ai (Ai rfl (Ai ?_ (Ai ?_ ?_))) ?_)
 all_goals repeat' first|refine Ai ?_ ?_|exact rfl|exact trivial|exact Ei _ rfl|refine lN ?_|refine bS ?_|fail
theorem list_ex (s:GState) (p:Int):CtM Tryz.prog 122 [.ptr 0 0,.c (.t (iv 4)),.c (.t (iv p))] [cells5 s] (rows5 s) (.ptr 0 3) [cells5 s] (rows5 s) []:=by
 refine ctm_of 5 Tryz.func122 rfl (enters_of Tryz.func122 (by kernel_rfl) rfl) tabOk (by kernel_rfl) rfl rfl rfl rfl rfl fun w0 O _=>Tp.run [6] ?_
 refine Ei [(0,0),(1,1),(2,2),(3,3),(4,4)] (Ai (Ai rfl (Ai ?_ (Ai ?_ ?_))) ?_)
 all_goals repeat' first|refine Ai ?_ ?_|exact rfl|exact trivial|exact Ei _ rfl|refine lN ?_|refine bS ?_|fail
theorem list_lib (s:GState) (p:Nat) (hp:p < s.players.length):CtM Tryz.prog 122 [.ptr 0 0,.c (.t (iv 2)),.c (.t (iv p))] [cells5 s] (rows5 s) (.eptr 0 0 14 p 11) [cells5 s] (rows5 s) []:=by
 refine ctm_of 5 Tryz.func122 rfl (enters_of Tryz.func122 (by kernel_rfl) rfl) tabOk (by kernel_rfl) rfl rfl rfl rfl rfl fun w0 O _=>Tp.run [8] ?_
 refine cond_f (by simp [plR];omega) ?_
 refine Tp.run [] ?_
 refine Ei p (Ai rfl (Ai (show p < (s.players.map GPlayer.enc).length by rw [Lm];exact hp) ?_))
 refine Ei [(0,0),(1,1),(2,2),(3,3),(4,4)] (Ai (Ai rfl (Ai ?_ (Ai ?_ ?_))) ?_)
 all_goals repeat' first|refine Ai ?_ ?_|exact rfl|exact trivial|exact Ei _ rfl|refine lN ?_|refine bS ?_|fail
theorem list_grave (s:GState) (p:Nat) (hp:p < s.players.length):CtM Tryz.prog 122 [.ptr 0 0,.c (.t (iv 3)),.c (.t (iv p))] [cells5 s] (rows5 s) (.eptr 0 0 14 p 13) [cells5 s] (rows5 s) []:=by
 refine ctm_of 5 Tryz.func122 rfl (enters_of Tryz.func122 (by kernel_rfl) rfl) tabOk (by kernel_rfl) rfl rfl rfl rfl rfl fun w0 O _=>Tp.run [8] ?_
 refine cond_f (by simp [plR];omega) ?_
 refine Tp.run [] ?_
 refine Ei p (Ai rfl (Ai (show p < (s.players.map GPlayer.enc).length by rw [Lm];exact hp) ?_))
 refine Ei [(0,0),(1,1),(2,2),(3,3),(4,4)] (Ai (Ai rfl (Ai ?_ (Ai ?_ ?_))) ?_)
 all_goals repeat' first|refine Ai ?_ ?_|exact rfl|exact trivial|exact Ei _ rfl|refine lN ?_|refine bS ?_|fail
theorem list_stk (s:GState) (p:Nat) (hp:p < s.players.length):CtM Tryz.prog 122 [.ptr 0 0,.c (.t (iv 5)),.c (.t (iv p))] [cells5 s] (rows5 s) .nilp [cells5 s] (rows5 s) []:=by
 refine ctm_of 5 Tryz.func122 rfl (enters_of Tryz.func122 (by kernel_rfl) rfl) tabOk (by kernel_rfl) rfl rfl rfl rfl rfl fun w0 O _=>Tp.run [8] ?_
 refine cond_f (by simp [plR];omega) ?_
 refine Tp.run [] ?_
 refine Ei p (Ai rfl (Ai (show p < (s.players.map GPlayer.enc).length by rw [Lm];exact hp) ?_))
 refine Ei [(0,0),(1,1),(2,2),(3,3),(4,4)] (Ai (Ai rfl (Ai ?_ (Ai ?_ ?_))) ?_)
 all_goals repeat' first|refine Ai ?_ ?_|exact rfl|exact trivial|exact Ei _ rfl|refine lN ?_|refine bS ?_|fail
theorem placeF_ct (o:GObject) (id:Int):Ct Tryz.prog 163 [.agg (o.enc.map .t),.iptr [iv id] 0] (AV.b (o.id==id)) [] true:=by
 refine Ct.lit (b:=false) ?_ rfl
 refine ct_of Tryz.func163 rfl (enters_of Tryz.func163 (by kernel_rfl) rfl) tabOk (by kernel_rfl) rfl rfl rfl rfl fun w0 O _=>Tp.run [] ?_
 refine Ei [] (Ai rfl (Ai trivial ?_))
 repeat' first|refine Ai ?_ ?_|exact rfl|exact trivial|exact Ei _ rfl|refine lN ?_|refine bS ?_|fail
theorem fits_caps {st:St}:∀ caps:List (List Tr × Nat),Fits st (caps.map fun c=>.iptr c.1 c.2) (caps.map fun c=>.iptr c.1 c.2)
 | []=>trivial
 | _ :: r=>⟨⟨rfl,rfl⟩,fits_caps r⟩
theorem indexO_ct (l:List GObject) (q:GObject→Bool) (f:Nat) (caps:List (List Tr × Nat)) (hq:∀ o:GObject,Ct Tryz.prog f ((.agg (o.enc.map .t)) :: caps.map fun c=>.iptr c.1 c.2) (AV.b (q o)) [] true) (hl:l.length*128≤limB):Ct Tryz.prog 162 [.c (.t (.sl 19 (l.map GObject.enc))),.fnI f caps] (AV.i (fidx q l)) [] true:=by
 refine Ct.lit (b:=false) ?_ rfl
 refine ct_of Tryz.func162 rfl (enters_of Tryz.func162 (by kernel_rfl) rfl) tabOk (by kernel_rfl) rfl rfl rfl rfl fun w0 O _=>Tp.run [] ?_
 refine Tp.loop (fun k:Nat=>⟨[(0,.c (.t (.sl 19 (l.map GObject.enc)))),(1,.fnI f caps),(7,AV.i (l.map GObject.enc).length),(8,AV.i k)],[],[],10000⟩) (fun k=>k≤l.length∧∀ j (h:j < l.length),j < k→q l[j]=false) (fun k=>l.length - k) 0 ?_ ⟨Nat.zero_le _,fun j _ hj=>absurd hj (Nat.not_lt_zero j)⟩ ?_
 ·refine wk_of [] rfl rfl ?_ ?_ ?_
  all_goals repeat' first|refine Ai ?_ ?_|exact rfl|exact trivial|exact Ei _ rfl|refine lN ?_|refine bS ?_|fail
 rintro k ⟨hk,hno⟩
 refine Tp.run [5,6] ?_
 refine cS (fun h=>?_) (fun h=>?_)
 ·have hlt:=len_lt h
  refine Ei k (Ei (l[k].enc) (Ai rfl (Ai (map_get _ _ k hlt) ?_)))
  refine cI (hq l[k]) ⟨fL l[k].enc,fits_caps caps⟩ (.inl rfl) ?_
  refine cS (fun h=>?_) (fun h=>?_)
  ·refine Tp.run [] ?_
   refine Ei [] (Ai rfl (Ai trivial ?_))
   rw [fidx_hit _ _ k hlt h hno]
   exact rfl
  ·refine Tp.run [] ?_
   refine Ei (k+1) (Ai ⟨by omega,fun j hj hjk=>?_⟩ (Ai (show l.length - (k+1) < l.length - k by omega) ?_))
   ·by_cases e:j=k
    ·subst e;exact h
    ·exact hno j hj (by omega)
   refine wk_of [] rfl rfl ?_ ?_ ?_
   ·repeat' first|refine Ai ?_ ?_|exact rfl|exact trivial|exact Ei _ rfl|refine lN ?_|refine bS ?_|fail
    exact succ_eq k hlt 128 (by decide) hl
   all_goals repeat' first|refine Ai ?_ ?_|exact rfl|exact trivial|exact Ei _ rfl|refine lN ?_|refine bS ?_|fail
 ·have hk2:=len_ge h hk
  refine Ei [] (Ai rfl (Ai trivial ?_))
  rw [fidx_miss _ _ (fun j hj=>hno j hj (by omega))]
  exact rfl
theorem placeP_ct (s:GState) (id:Int) (hs:s.objects.length*128≤limB):Ct Tryz.prog 118 [.agg (s.enc.map .t),.c (.t (iv id))] (AV.i (placeM s.objects id)) [] true:=by
 refine Ct.lit (b:=false) ?_ rfl
 refine ct_of Tryz.func118 rfl (enters_of Tryz.func118 (by kernel_rfl) rfl) tabOk (by kernel_rfl) rfl rfl rfl rfl fun w0 O _=>Tp.run [] ?_
 refine cI (indexO_ct s.objects (fun o=>o.id==id) 163 [([iv id],0)] (fun o=>placeF_ct o id) hs) ⟨rfl,⟨rfl,⟨⟨rfl,rfl⟩,trivial⟩⟩,trivial⟩ (.inl rfl) ?_
 refine Ei [] (Ai rfl (Ai trivial ?_))
 repeat' first|refine Ai ?_ ?_|exact rfl|exact trivial|exact Ei _ rfl|refine lN ?_|refine bS ?_|fail
theorem findP_ct (s:GState) (id:Int) (hs:s.objects.length*128≤limB):Ct Tryz.prog 69 [.agg (s.enc.map .t),.c (.t (iv id))] (.tup [.agg ((findM s.objects id).enc.map .t),AV.b (hasM s.objects id)]) [] true:=by
 refine Ct.litT (b:=false) ?_ rfl
 have hp:=placeP_ct s id hs
 unfold placeM at hp
 rcases fidx_cases (fun o:GObject=>o.id==id) s.objects with ⟨e1,_,e2⟩|⟨i,hi,e1,_,e2⟩
 ·rw [e1] at hp
  unfold findM hasM
  rw [e2]
  refine ct_of Tryz.func69 rfl (enters_of Tryz.func69 (by kernel_rfl) rfl) tabOk (by kernel_rfl) rfl rfl rfl rfl fun w0 O _=>Tp.run [] ?_
  refine cI hp ⟨fL s.enc,rfl,trivial⟩ (.inr rfl) ?_
  refine Ei [] (Ai rfl (Ai trivial ?_))
  repeat' first|refine Ai ?_ ?_|exact rfl|exact trivial|exact Ei _ rfl|refine lN ?_|refine bS ?_|fail
 ·revert hp
  generalize fidx (fun o:GObject=>o.id==id) s.objects=v at e1
  intro hp
  unfold findM hasM
  rw [e2]
  refine ct_of Tryz.func69 rfl (enters_of Tryz.func69 (by kernel_rfl) rfl) tabOk (by kernel_rfl) rfl rfl rfl rfl fun w0 O _=>Tp.run [3,4] ?_
  refine cI hp ⟨fL s.enc,rfl,trivial⟩ (.inr rfl) ?_
  refine cS (fun h=>by have:=of_decide_eq_true h;omega) (fun _=>?_)
  subst e1
  refine Tp.run [] ?_
  refine Ei i (Ei (s.objects[i].enc) (Ai rfl (Ai (map_get _ _ i hi) ?_)))
  refine Ei [] (Ai rfl (Ai trivial ?_))
  repeat' first|refine Ai ?_ ?_|exact rfl|exact trivial|exact Ei _ rfl|refine lN ?_|refine bS ?_|fail
theorem own_ctm {P:Program} {f:FuncId} {ty k:Nat} {ars:List AV} {xs xs':List (List Tr)} (he:Ent P f)
  (hr:∀ (n0:Nat) (w:World) (v:Value) (us:List Value) (es:List (Cl k)) (E0:Env),n0≤w.heap.size→w.ownsRow n0 ty k v es.length (es.flatMap Subtype.val)→Ets E0.F w es xs→(∀ g,v.ownBlock=some g→E0.rl g=.rw 0)→A2 (R1 E0 w) us ars→Calls P f (v :: us).toArray w fun e w'=>∃ (v':Value) (es':List (Cl k)),e=.returned v'∧w'.ownsRow n0 ty k v' es'.length (es'.flatMap Subtype.val)∧w.grownBy w' v.ownBlock∧(∀ g,v'.ownBlock=some g→v.ownBlock=some g∨w.heap.size≤g)∧∀ F:Nat→Prop,Ets F w es xs→(∀ b,F b→b < w.heap.size→w'.heap[b]? = w.heap[b]?)→Ets F w' es' xs') :
  CtM P f (.c (.row 0 0) :: ars) [] [⟨ty,k,0,xs,none⟩] (.c (.row 0 1)) [] [⟨ty,k,1,xs',none⟩] []:=by
 refine ⟨he,Nat.zero_le _,fun R hR=>?_,rfl,rfl,fun b hb=>(by cases hb),fun p hp=>?_,fun i cs h=>(by simp at h),fun w0 w vs E0 hb0 ha hbx hrw hrl hlow=>?_⟩
 ·obtain rfl:R=_:=List.mem_singleton.1 hR
  rfl
 ·obtain rfl:p=(0,1):=by simpa [AV.rids,AV.rid1,Ce.rids] using hp
  exact ⟨_,rfl,Nat.le_refl _⟩
 cases ha with
 | cons hv hus=>
  rename_i v us
  obtain ⟨es,h1,h2,h3⟩:=(hrw 0 _ rfl).ow rfl
  have hv0:v=E0.vl 0 0:=hv.1
  simp only at h1 h3
  rw [← hv0] at h1 h3
  refine (hr w0.heap.size w v us es E0 hb0.size h1 h2 h3 hus).mono ?_
  rintro e w' ⟨v',es',rfl,hown,hg,hob,hets⟩
  have hne:∀ b,b < w.heap.size→E0.rl b=.cold∨E0.rl b=.non→w'.heap[b]? = w.heap[b]?:=fun b hlt hc=>hg.block b hlt fun e=>by
   rw [h3 b e.symm] at hc
   rcases hc with h|h <;> cases h
  refine ⟨v',rfl,⟨hg.os.trans hb0.os,hg.tape.trans hb0.tape,hg.output.trans hb0.output,Nat.le_trans hb0.size hg.size,fun b hb=>(hne b (Nat.lt_of_lt_of_le hb hb0.size) (hlow b hb)).trans (hb0.block b hb)⟩,hg.size,⟨fun b=>if b < w.heap.size then E0.rl b else .rw 0,E0.bk,fun j u=>if j=0∧u=1 then v' else E0.vl j u⟩,⟨by simp,own_one hown⟩,fun i hi=>(by simp at hi),fun i cs h=>(by simp at h),fun j R hj=>?_,fun j hj=>?_,fun b hlt hc=>⟨hne b hlt hc,?_⟩⟩
  ·cases j with
   | succ j=>simp at hj
   | zero=>
    obtain rfl:=Option.some.inj hj
    refine Ow.rr rfl ⟨es',by simpa using hown,?_,fun g hg2=>?_⟩
    ·refine (hets (fun b=>E0.rl b=.cold∧b < w.heap.size) (h2.fr (Nat.le_refl _) (fun _ _ _=>rfl) fun b hb hlt=>⟨hb,hlt⟩) (fun b hb hlt=>hne b hlt (.inl hb.1))).fr (Nat.le_refl _) (fun _ _ _=>rfl) fun b hb _=>?_
     show (if b < w.heap.size then E0.rl b else BRole.rw 0)=.cold
     rw [if_pos hb.2]
     exact hb.1
    ·have hg2:v'.ownBlock=some g:=by simpa using hg2
     show (if g < w.heap.size then E0.rl g else BRole.rw 0)=.rw 0
     split
     ·rename_i hlt
      rcases hob g hg2 with h|h
      ·exact h3 g h
      ·omega
     ·rfl
  ·have:j=0:=by simpa using hj
   subst this
   simp
  ·show (if b < w.heap.size then E0.rl b else BRole.rw 0)=E0.rl b
   rw [if_pos hlt]
end Go.Proofs.YtmloamomcbmfhaaGreat
end
section
namespace Go.Proofs.YtmloamomcbmfhaaGreat
open Go Go.RowKit Go.Sort Cg

theorem below_setCell {B:Nat} {w wr:World} (h:Below B w wr) (a:Addr) (ha:B≤a.block) (u:Value):Below B w (wr.setCell a u):=
 ⟨h.os,h.tape,h.output,by have:=h.size;simpa [World.setCell] using this,fun k hk=>(Below.heap_setCell wr a u k (by omega)).trans (h.block k hk)⟩
theorem below_set {B:Nat} {w w':World} (h:Below B w w') (b i:Nat) (u:Value) (hb:B≤b):Below B w (w'.setCell ⟨b,i,none⟩ u):=below_setCell h _ hb _
theorem below_sets {B:Nat} {w:World}:∀ (us:List Value) (i:Nat) (w':World),Below B w w'→∀ b,B≤b→Below B w (w'.setCells b i us)
 | [],_,_,h,_,_=>h
 | _ :: r,i,_,h,b,hb=>below_sets r (i+1) _ (below_set h b i _ hb) b hb
theorem heap_sets (b:Nat):∀ (us:List Value) (o:Nat) (w:World) (k:Nat),k≠b→(w.setCells b o us).heap[k]? = w.heap[k]?
 | [],_,_,_,_=>rfl
 | u :: r,o,w,k,hk=>(heap_sets b r (o+1) _ k hk).trans (Below.heap_setCell w ⟨b,o,none⟩ u k hk)

end Go.Proofs.YtmloamomcbmfhaaGreat
end
section
namespace Cg
open Go Go.RowKit Go.Sort Go.Lib
abbrev BlkC (k:Nat) (t:TypeId) (w:World) (g:Nat) (es:List (Cl k)):=BlkK k Subtype.val t w g es
end Cg
end
section
namespace Go.Proofs.YtmloamomcbmfhaaGreat
open Go Go.RowKit Go.Sort Cg
theorem own_form {w:World} {B e k n:Nat} {v:Value} {xs:List Value} (h:w.ownsRow B e k v n xs):(∃ cap,v=.slice none n cap∧n=0)∨∃ g cap,v=.slice (some ⟨g,0,none⟩) n cap:=by
 rcases h.2 with ⟨rfl,rfl⟩|⟨g,cap,cur,rfl,_⟩
 ·exact .inl ⟨0,rfl,rfl⟩
 ·exact .inr ⟨g,cap,rfl⟩
theorem own_sl {w:World} {B e k n:Nat} {v:Value} {xs:List Value} (h:w.ownsRow B e k v n xs):∃ ao m c,v=.slice ao m c:=by
 rcases h.2 with ⟨rfl,_⟩|⟨g,cap,cur,rfl,_⟩
 ·exact ⟨_,_,_,rfl⟩
 ·exact ⟨_,_,_,rfl⟩
theorem own_blkC {k:Nat} {w:World} {base e g n cap:Nat} {es:List (Cl k)} (h:w.ownsRow base e k (.slice (some ⟨g,0,none⟩) n cap) n (es.flatMap Subtype.val)) (hn:es.length=n):BlkC k e w g es:=by
 rcases h.2 with ⟨hv,_⟩|⟨g',cap',cur,hv,_,hg,hc,_,hs,ht⟩
 ·cases hv
 ·cases hv
  refine ⟨cur,hg,by rw [hs,hn];exact Nat.mul_le_mul_right k hc,fun j x hj i u hu=>?_⟩
  have hi:=(List.getElem?_eq_some_iff.1 hu).1
  rw [Cl.len x] at hi
  have hjl:=(List.getElem?_eq_some_iff.1 hj).1
  have hjk:j*k+i < n*k:=by
   have:(j+1)*k≤n*k:=Nat.mul_le_mul_right k (by omega)
   rw [Nat.add_mul] at this
   omega
  have:=flat_get (enc:=Subtype.val) Cl.len es j x hj i hi
  rw [← ht,List.getElem?_take,if_pos hjk,hu] at this
  rw [← Array.getElem?_toList]
  exact this
theorem sets_size (b:Nat):∀ (us:List Value) (o:Nat) (w:World),(w.setCells b o us).heap.size=w.heap.size
 | [],_,_=>rfl
 | u :: r,o,w=>by rw [World.setCells,sets_size b r];simp [World.setCell]
def HdC (B:Nat) (t:TypeId) (k:Nat) (w:World) (g cap:Nat):Prop:=B≤g∧cap≤maxLen∧∃ cur,w.heap[g]? = some (.cells cur t (0,0))∧cur.size=cap*k
theorem HdC.set {B:Nat} {t:TypeId} {k:Nat} {w:World} {g cap:Nat} (h:HdC B t k w g cap) (o:Nat) (u:Value):HdC B t k (w.setCell ⟨g,o,none⟩ u) g cap:=by
 obtain ⟨h1,h2,cur,h3,h4⟩:=h
 refine ⟨h1,h2,cur.setIfInBounds o u,?_,by rw [Array.size_setIfInBounds];exact h4⟩
 simp only [World.setCell,Array.getElem?_modify]
 simp [h3]
theorem HdC.sets {B:Nat} {t:TypeId} {k g cap:Nat}:∀ (us:List Value) (o:Nat) (w:World),HdC B t k w g cap→HdC B t k (w.setCells g o us) g cap
 | [],_,_,h=>h
 | u :: r,o,_,h=>HdC.sets r (o+1) _ (h.set o u)
theorem hdC_of {B:Nat} {t:TypeId} {k n g cap:Nat} {w:World} {xs:List Value} (h:w.ownsRow B t k (.slice (some ⟨g,0,none⟩) n cap) n xs):HdC B t k w g cap:=by
 rcases h.2 with ⟨hv,_⟩|⟨g',cap',cur,hv,hB,hg,hc,hm,hs,ht⟩
 ·cases hv
 ·simp only [Value.slice.injEq,Option.some.injEq,Addr.mk.injEq] at hv
  obtain ⟨⟨rfl,_⟩,_,rfl⟩:=hv
  exact ⟨hB,hm,cur,hg,hs⟩
theorem own_of {B:Nat} {t:TypeId} {k g cap:Nat} {w:World} {es:List (Cl k)} (h:BlkC k t w g es) (hh:HdC B t k w g cap) (hc:es.length≤cap):w.ownsRow B t k (.slice (some ⟨g,0,none⟩) es.length cap) es.length (es.flatMap Subtype.val):=by
 obtain ⟨h1,h2,cur,h3,h4⟩:=hh
 obtain ⟨cur',h5,h6,h7⟩:=h
 rw [h3] at h5
 obtain rfl:cur=cur':=by simpa using h5
 refine ⟨flat_len Cl.len es,.inr ⟨g,cap,cur,rfl,h1,h3,hc,h2,h4,?_⟩⟩
 apply List.ext_getElem?
 intro i
 rw [List.getElem?_take]
 by_cases hi:i < es.length*k
 ·rw [if_pos hi]
  have hk:0 < k:=Nat.pos_of_ne_zero (fun e=>by have h0:es.length*k=0:=Nat.mul_eq_zero.2 (.inr e);omega)
  have hq:i / k < es.length:=Nat.div_lt_of_lt_mul (by rw [Nat.mul_comm];exact hi)
  have hm:i % k < k:=Nat.mod_lt _ hk
  have hij:i=i / k*k+i % k:=by rw [Nat.mul_comm];exact (Nat.div_add_mod i k).symm
  have hg:=flat_get (enc:=Subtype.val) Cl.len es (i / k) _ (List.getElem?_eq_getElem hq) (i % k) hm
  have hu:(es[i / k].1)[i % k]? = some ((es[i / k].1)[i % k]'(by rw [Cl.len];exact hm)):=List.getElem?_eq_getElem _
  have:=h7 (i / k) _ (List.getElem?_eq_getElem hq) (i % k) _ hu
  rw [← hij] at this hg
  rw [hg,hu,← this,Array.getElem?_toList]
 ·rw [if_neg hi,List.getElem?_eq_none (by rw [flat_len Cl.len];omega)]
theorem own_cap {w:World} {B e k n m c:Nat} {ao:Option Addr} {xs:List Value} (h:w.ownsRow B e k (.slice ao m c) n xs):m=n∧n≤c∧(ao=none→c=0)∧∀ g,ao=some g→g.off=0∧g.spot=none:=by
 rcases h.2 with ⟨hv,hn⟩|⟨g,cap,cur,hv,_,_,hc,_⟩
 ·simp only [Value.slice.injEq] at hv
  obtain ⟨rfl,rfl,rfl⟩:=hv
  exact ⟨hn.symm,by omega,fun _=>rfl,fun g hg=>by cases hg⟩
 ·simp only [Value.slice.injEq] at hv
  obtain ⟨rfl,rfl,rfl⟩:=hv
  exact ⟨rfl,hc,(fun h=>by cases h),(fun g hg=>by cases hg;exact ⟨rfl,rfl⟩)⟩
theorem setCells_arr {t:TypeId} {g:Nat}:∀ (vs:List Value) (o:Nat) (w:World) (cur:Array Value),w.heap[g]? = some (.cells cur t (0,0))→o+vs.length≤cur.size→
  ∃ cur',(w.setCells g o vs).heap[g]? = some (.cells cur' t (0,0))∧cur'.size=cur.size∧∀ m,cur'[m]? = if o≤m∧m < o+vs.length then vs[m - o]? else cur[m]?
 | [],o,w,cur,hg,_=>⟨cur,hg,rfl,fun m=>by rw [if_neg (by simp)]⟩
 | v :: vs,o,w,cur,hg,hl=>by
  rw [List.length_cons] at hl
  have hg2:(w.setCell ⟨g,o,none⟩ v).heap[g]? = some (.cells (cur.setIfInBounds o v) t (0,0)):=by
   simp only [World.setCell,Array.getElem?_modify]
   simp [hg]
  obtain ⟨cur',h1,h2,h3⟩:=setCells_arr vs (o+1) _ _ hg2 (by rw [Array.size_setIfInBounds];omega)
  refine ⟨cur',h1,by rw [h2,Array.size_setIfInBounds],fun m=>?_⟩
  rw [h3 m,List.length_cons]
  by_cases hm:m=o
  ·subst hm
   rw [if_neg (by omega),if_pos (by omega),Nat.sub_self,Array.getElem?_setIfInBounds,if_pos rfl,if_pos (by omega)]
   simp
  ·by_cases hr:o+1≤m∧m < o+1+vs.length
   ·rw [if_pos hr,if_pos (by omega),show m - o=m - (o+1)+1 by omega,List.getElem?_cons_succ]
   ·rw [if_neg hr,if_neg (by omega),Array.getElem?_setIfInBounds,if_neg (fun e=>hm e.symm)]
theorem BlkC.write {k:Nat} {t:TypeId} {B g cap:Nat} {w:World} {es:List (Cl k)} (h:BlkC k t w g es) (hd:HdC B t k w g cap) (j:Nat) (ys:List (Cl k)) (hj:j≤es.length) (hc:j+ys.length≤cap) :
  BlkC k t (w.setCells g (j*k) (ys.flatMap Subtype.val)) g (es.take j++ys++es.drop (j+ys.length))∧HdC B t k (w.setCells g (j*k) (ys.flatMap Subtype.val)) g cap:=by
 refine ⟨?_,hd.sets _ _ _⟩
 obtain ⟨cur,hg,hl,hcell⟩:=h
 obtain ⟨_,_,cur0,hg0,hs0⟩:=hd
 rw [hg] at hg0
 obtain rfl:cur=cur0:=by simpa using hg0
 have hyl:=flat_len (enc:=Subtype.val) Cl.len ys
 have hle:j*k+ys.length*k≤cap*k:=by rw [← Nat.add_mul];exact Nat.mul_le_mul_right k hc
 obtain ⟨cur',h1,h2,h3⟩:=setCells_arr (t:=t) (g:=g) (ys.flatMap Subtype.val) (j*k) w cur hg (by rw [hyl,hs0];exact hle)
 refine ⟨cur',h1,?_,fun q x hq i u hu=>?_⟩
 ·rw [h2]
  simp only [List.length_append,List.length_take,List.length_drop]
  by_cases hx:j+ys.length≤es.length
  ·rw [show min j es.length+ys.length+(es.length - (j+ys.length))=es.length by omega];exact hl
  ·rw [show min j es.length+ys.length+(es.length - (j+ys.length))=j+ys.length by omega,Nat.add_mul,hs0];exact hle
 ·have hik:i < k:=by have:=(List.getElem?_eq_some_iff.1 hu).1;rwa [Cl.len] at this
  have htl:(es.take j).length=j:=by rw [List.length_take];omega
  rw [h3,hyl]
  rcases Nat.lt_trichotomy q j with hlt|heq|hgt
  ·have:q*k+k≤j*k:=by rw [← Nat.succ_mul];exact Nat.mul_le_mul_right k hlt
   rw [if_neg (by omega)]
   rw [List.append_assoc,List.getElem?_append_left (by omega),List.getElem?_take,if_pos hlt] at hq
   exact hcell q x hq i u hu
  ·subst heq
   rw [List.append_assoc,List.getElem?_append_right (by omega),htl,Nat.sub_self] at hq
   by_cases hy0:0 < ys.length
   ·rw [List.getElem?_append_left hy0] at hq
    have hk1:k≤ys.length*k:=Nat.le_mul_of_pos_left k hy0
    rw [if_pos (by omega),show q*k+i - q*k=0*k+i by omega]
    exact (flat_get Cl.len ys 0 x hq i hik).trans hu
   ·have hy:ys=[]:=List.eq_nil_of_length_eq_zero (by omega)
    subst hy
    rw [if_neg (by simp)]
    simp only [List.nil_append,List.length_nil,Nat.add_zero,List.getElem?_drop] at hq
    exact hcell q x hq i u hu
  ·rw [List.append_assoc,List.getElem?_append_right (by omega),htl] at hq
   by_cases hy:q - j < ys.length
   ·rw [List.getElem?_append_left hy] at hq
    have e1:j*k+(q - j)*k=q*k:=by rw [← Nat.add_mul];congr 1;omega
    have e2:(q - j)*k+k≤ys.length*k:=by rw [← Nat.succ_mul];exact Nat.mul_le_mul_right k hy
    rw [if_pos (by omega),show q*k+i - j*k=(q - j)*k+i by omega]
    exact (flat_get Cl.len ys (q - j) x hq i hik).trans hu
   ·rw [List.getElem?_append_right (by omega),List.getElem?_drop,show j+ys.length+(q - j - ys.length)=q by omega] at hq
    have e1:(j+ys.length)*k≤q*k:=Nat.mul_le_mul_right k (by omega)
    rw [Nat.add_mul] at e1
    rw [if_neg (by omega)]
    exact hcell q x hq i u hu
theorem BlkC.take {k:Nat} {t:TypeId} {g:Nat} {w:World} {es:List (Cl k)} (h:BlkC k t w g es) (n:Nat):BlkC k t w g (es.take n):=by
 obtain ⟨cur,hg,hl,hcell⟩:=h
 refine ⟨cur,hg,Nat.le_trans (Nat.mul_le_mul_right k (by rw [List.length_take];exact Nat.min_le_right _ _)) hl,fun j x hj=>?_⟩
 rw [List.getElem?_take] at hj
 split at hj
 ·exact hcell j x hj
 ·cases hj
theorem run_copy_cellsK {P:Program} (w:World) (dT sT ty elem:TypeId) (k b o dLen dCap:Nat) (a:Addr) (sLen sCap:Nat) (cs:List Value)
  (hu:P.underlying dT=some (.slice elem)) (hs:(P.info? elem).map (·.size)=some k) (hn:cs.length=Nat.min sLen dLen*k)
  (hsrc:∀ j v,cs[j]? = some v→w.cell? (a.add j)=some v) (hc:∀ j,j < cs.length→(w.cell? ⟨b,o+j,none⟩).isSome=true) (hf:∀ j,j < cs.length→w.frozen? ⟨b,o+j,none⟩=false) (h1:∀ v∈cs,v.oneCell'=true) :
  (Builtin.copy_ #[dT,sT] ty #[.slice (some ⟨b,o,none⟩) dLen dCap,.slice (some a) sLen sCap]).run P w=.ok (goInt (Nat.min sLen dLen)) (w.setCells b o cs):=by
 have hl:=run_loadCells_list (P:=P) w a cs hsrc
 have hst:=run_storeCells_cells (P:=P) b o cs 0 w (by simpa using hc) (by simpa using hf) h1
 cases hq:P.info? elem with
 | none=>simp [hq] at hs
 | some i=>
  have hi:i.size=k:=by simpa [hq] using hs
  simp [Builtin.copy_,run_underlying hu,Builtin.lenOf,Builtin.firstCells,sizeOf,typeInfo,hq,hi,← hn,hl,hst]
theorem run_append_own2 {P:Program} (w:World) (base:Nat) (t ty e:TypeId) {z:Value} {k bytes:Nat} (hE:ElemIs P t e z k bytes)
  (v:Value) (n:Nat) (xs:List Value) (hown:w.ownsRow base e k v n xs)
  (a:Addr) (m c:Nat) (news:List Value) (hl:news.length=m*k) (hnews:∀ j u,news[j]? = some u→w.cell? (a.add j)=some u) (h1:∀ u∈news,u.oneCell'=true)
  (h63:n+m≤maxLen) (hbytes:(n+m)*bytes≤140737488355328) (hbase:base≤w.heap.size) (hm:0 < m) :
  ∃ v' w',(Builtin.append_ #[t,t] ty #[v,.slice (some a) m c]).run P w=.ok v' w'∧w'.ownsRow base e k v' (n+m) (xs++news)∧w.grownBy w' v.ownBlock∧(v'.ownBlock=v.ownBlock∨v'.ownBlock=some w.heap.size):=by
 obtain ⟨ht,hzs,hsz,i,hi,hz,hsize,hby⟩:=hE
 obtain ⟨v',w',hr,h2,h3,_⟩:=run_append_own (P:=P) w base t ty e i z k bytes ht hi hz hsize hby hzs hsz v n xs hown a m c news hl hnews h1 h63 hbytes hbase
 refine ⟨v',w',hr,h2,h3,?_⟩
 have hsmall:n+m≤9223372036854775807:=by simp only [maxLen] at h63;omega
 subst hsize
 subst hby
 rcases hown.2 with ⟨rfl,rfl⟩|⟨g,cap,cur,rfl,hbg,hg,hnc,hcm,hcs,htake⟩
 ·have hq:=run_append_nil (P:=P) w t ty e i z ht hi hz a m c news hl hnews (by omega) (by omega) (by have hb:=hbytes;simp only [Nat.zero_add] at hb;omega)
  rw [hq] at hr
  cases hr
  exact .inr rfl
 ·by_cases hroom:n+m≤cap
  ·have hfit:n*i.size+news.length≤cur.size:=by rw [hl,hcs,← Nat.add_mul];exact Nat.mul_le_mul_right _ hroom
   have hq:=run_append_room (P:=P) w t ty e i ht hi g n cap cur hg a m c news hl hnews h1 hroom hfit
   rw [hq] at hr
   cases hr
   exact .inl rfl
  ·have holds:∀ j u,xs[j]? = some u→w.cell? ((⟨g,0,none⟩:Addr).add j)=some u:=hown.cells (g:=g) rfl
   have hq:=run_append_grow (P:=P) w t ty e i z ht hi hz ⟨g,0,none⟩ n cap xs hown.1 holds a m c news hl hnews (by omega) (by omega) (growslice_fits (by omega) hbytes)
   rw [hq] at hr
   cases hr
   exact .inr rfl
theorem wpList_append_own2 {P:Program} {w:World} {ops:Array Oper} {rest:List Oper} {o:Oper} {a:Act} {Q:Exit→Act→World→Prop} (hgd:o.guard=none) (s x:Operand) (t:TypeId)
  (ho:o.op=.call { callee:=.builtin .append,args:=#[s,x],argTypes:=#[t,t] })
  (base:Nat) {e:TypeId} {z:Value} {k bytes:Nat} (hE:ElemIs P t e z k bytes)
  (v:Value) (n:Nat) (xs:List Value) (hs:a.eval s=v) (hown:w.ownsRow base e k v n xs)
  (ad:Addr) (m c:Nat) (news:List Value) (hx:a.eval x=.slice (some ad) m c) (hl:news.length=m*k) (hnews:∀ j u,news[j]? = some u→w.cell? (ad.add j)=some u) (h1:∀ u∈news,u.oneCell'=true)
  (h63:n+m≤maxLen) (hbytes:(n+m)*bytes≤140737488355328) (hbase:base≤w.heap.size) (hm:0 < m)
  (h:∀ v' w',w'.ownsRow base e k v' (n+m) (xs++news)→w.grownBy w' v.ownBlock→(v'.ownBlock=v.ownBlock∨v'.ownBlock=some w.heap.size)→wpList P ops Q rest (a.put o.dst v') w') :
  wpList P ops Q (o :: rest) a w:=by
 refine wpList_plain hgd fun K hK=>?_
 obtain ⟨v',w',hr,h2,h3,h4⟩:=run_append_own2 w base t o.type e hE v n xs hown ad m c news hl hnews h1 h63 hbytes hbase hm
 exact Lib.wp_append_run w s x t t ho v _ hs hx v' w' hr (hK _ _ (h v' w' h2 h3 h4))
end Go.Proofs.YtmloamomcbmfhaaGreat
end
section
namespace Go.Proofs.YtmloamomcbmfhaaGreat
open Go Go.RowKit Go.Sort Go.Shelf Cg
theorem run_clear_K {P:Program} (w:World) (t e ty:TypeId) (z:Value) (ht:P.underlying t=some (.slice e)) (hv:∀ w,(zeroValue e).run P w=.ok z w) (n:Nat) (hn0:n≠0) (vs:List Value) (hz:(Builtin.zeroCells z.cells n).toList=vs) (h1:∀ u∈vs,u.oneCell'=true) (b o c:Nat)
  (hc:∀ j,j < vs.length→(w.cell? ⟨b,o+j,none⟩).isSome=true) (hf:∀ j,j < vs.length→w.frozen? ⟨b,o+j,none⟩=false) :
  (Builtin.clear_ #[t] ty #[.slice (some ⟨b,o,none⟩) n c]).run P w=.ok (.tuple #[]) (w.setCells b o vs):=by
 have hst:=run_storeCells_cells (P:=P) b o vs 0 w (by simpa using hc) (by simpa using hf) h1
 simp only [Nat.add_zero] at hst
 simp [Builtin.clear_,run_underlying ht,hn0,hv,hz,hst]
def zObj:Value:=.agg #[.int .i64 0,.int .i64 0,.int .i64 0,.int .i64 0,.int .i64 0,.bool false,.bool false,.bool false,.bool false,.int .i64 0,.int .i64 0,.int .i64 0,.int .i64 0,.int .i64 0,.int .i64 0,.int .i64 0,.bool false,.int .i64 0,.int .i64 0]
def zObjC:Cl 19:=⟨[.int .i64 0,.int .i64 0,.int .i64 0,.int .i64 0,.int .i64 0,.bool false,.bool false,.bool false,.bool false,.int .i64 0,.int .i64 0,.int .i64 0,.int .i64 0,.int .i64 0,.int .i64 0,.int .i64 0,.bool false,.int .i64 0,.int .i64 0],by decide,by decide⟩
theorem zObj_cells:(Builtin.zeroCells zObj.cells 1).toList=zObjC.1:=by kernel_rfl
theorem delete_obj (base g m c i:Nat) (es:List (Cl 19)) (w:World) (hb:BlkC 19 49 w g es) (hh:HdC base 49 19 w g c) (hm:es.length=m) (hi:i < m) (hc:m≤c) :
  Calls Tryz.prog 164 #[.slice (some ⟨g,0,none⟩) m c,.int .i64 i,.int .i64 ((i+1:Nat):Int)] w fun e w'=>e=.returned (.slice (some ⟨g,0,none⟩) (m - 1) c)∧w'.ownsRow base 49 19 (.slice (some ⟨g,0,none⟩) (m - 1) c) (m - 1) ((es.take i++es.drop (i+1)).flatMap Subtype.val)∧w.grownBy w' (some g):=by
 obtain ⟨z,e1,e2,e3,ii,hi0,hz0,hs0,hby0⟩:=elemObject
 have hd:(es.drop (i+1)).length=m - (i+1):=by rw [List.length_drop,hm]
 obtain ⟨W1,hW1⟩:∃ W1,W1=w.drew.setCells g (i*19) ((es.drop (i+1)).flatMap Subtype.val):=⟨_,rfl⟩
 obtain ⟨b1,d1⟩:=BlkC.write (w:=w.drew) hb hh i (es.drop (i+1)) (by omega) (by rw [hd];omega)
 rw [← hW1] at b1 d1
 obtain ⟨es1,hes1⟩:∃ es1,es1=es.take i++es.drop (i+1)++es.drop (i+(es.drop (i+1)).length):=⟨_,rfl⟩
 rw [← hes1] at b1
 have hl1:es1.length=m:=by
  rw [hes1]
  simp only [List.length_append,List.length_take,List.length_drop,hm]
  omega
 have htk:es1.take (m - 1)=es.take i++es.drop (i+1):=by
  have hlen:(es.take i++es.drop (i+1)).length=m - 1:=by rw [List.length_append,List.length_take,hd];omega
  rw [hes1,← hlen]
  exact List.take_left
 have s1:=Lib.hid (show ((es.drop (i+1)).flatMap Subtype.val).length=(m - (i+1))*19 by rw [flat_len Cl.len,hd])
 have s2:=Lib.hid (show ∀ u∈(es.drop (i+1)).flatMap Subtype.val,u.oneCell'=true from fun u hu=>by
  obtain ⟨y,_,hy⟩:=List.mem_flatMap.1 hu
  exact Cl.one y u hy)
 have cell:∀ (j:Nat),j < m*19→∃ u,w.cell? ⟨g,j,none⟩=some u:=fun j hj=>by
  have hq:j / 19 < es.length:=by omega
  have h8:j % 19 < es[j / 19].1.length:=by rw [Cl.len];omega
  have:=hb.cell _ _ (List.getElem?_eq_getElem hq) (j % 19) _ (List.getElem?_eq_getElem h8)
  rw [show j / 19*19+j % 19=j by omega] at this
  exact ⟨_,this⟩
 have s3:=Lib.hid (show ∀ t,t < ((es.drop (i+1)).flatMap Subtype.val).length→(w.drew.cell? ⟨g,0+i*19+t,none⟩).isSome=true∧w.drew.frozen? ⟨g,0+i*19+t,none⟩=false from fun t ht=>by
  rw [s1.out] at ht
  obtain ⟨u,hu⟩:=cell (0+i*19+t) (by omega)
  refine ⟨?_,hb.frozen _⟩
  show (w.cell? _).isSome=true
  rw [hu]
  rfl)
 obtain ⟨A,hA,hsrc⟩:∃ A:Addr,(if c=i+1 then some (⟨g,0,none⟩:Addr) else some ⟨g,(i+1)*19,none⟩)=some A∧Hid (∀ t u,((es.drop (i+1)).flatMap Subtype.val)[t]? = some u→w.drew.cell? (A.add t)=some u):=by
  by_cases h:c=i+1
  ·refine ⟨⟨g,0,none⟩,by simp [h],Lib.hid fun t u hu=>?_⟩
   have h0:((es.drop (i+1)).flatMap Subtype.val)=[]:=List.eq_nil_of_length_eq_zero (by rw [s1.out];omega)
   rw [h0] at hu
   simp at hu
  ·refine ⟨⟨g,(i+1)*19,none⟩,by simp [h],Lib.hid fun t u hu=>?_⟩
   rw [Addr.add_lit]
   have ht:=(List.getElem?_eq_some_iff.1 hu).1
   rw [s1.out] at ht
   have hq:t / 19 < (es.drop (i+1)).length:=by rw [hd];omega
   have hgg:=flat_get (enc:=Subtype.val) Cl.len (es.drop (i+1)) (t / 19) _ (List.getElem?_eq_getElem hq) (t % 19) (Nat.mod_lt _ (by omega))
   rw [show t / 19*19+t % 19=t by omega,hu] at hgg
   rw [List.getElem_drop] at hgg
   have:=hb.cell (i+1+t / 19) _ (List.getElem?_eq_getElem (by omega)) (t % 19) u hgg.symm
   rw [show (i+1+t / 19)*19+t % 19=(i+1)*19+t by omega] at this
   exact this
 have hcl:=Lib.hid (show ∀ ty cc,(Builtin.clear_ #[24] ty #[.slice (some ⟨g,(m - 1)*19,none⟩) 1 cc]).run Tryz.prog W1=.ok (.tuple #[]) (W1.setCells g ((m - 1)*19) zObjC.1) from fun ty cc=>
  run_clear_K W1 _ _ ty zObj Tryz.underlying24 (fun w=>by kernel_rfl) 1 (by decide) _ zObj_cells zObjC.one g ((m - 1)*19) cc (fun t ht=>by
    rw [Cl.len] at ht
    have hlt:m - 1 < es1.length:=by rw [hl1];omega
    have h8:t < es1[m - 1].1.length:=by rw [Cl.len];omega
    have:=b1.cell _ _ (List.getElem?_eq_getElem hlt) t _ (List.getElem?_eq_getElem h8)
    rw [this]
    rfl) (fun t _=>b1.frozen _))
 have HF:=Lib.hid (show (W1.setCells g ((m - 1)*19) zObjC.1).ownsRow base 49 19 (.slice (some ⟨g,0,none⟩) (m - 1) c) (m - 1) ((es.take i++es.drop (i+1)).flatMap Subtype.val) by
  have b2:=BlkK.setCells (enc:=Subtype.val) Cl.len b1 (m - 1) (by rw [hl1];omega) zObjC
  have b3:=BlkC.take b2 (m - 1)
  rw [List.take_set_of_le (Nat.le_refl _),htk] at b3
  have hlen:(es.take i++es.drop (i+1)).length=m - 1:=by rw [List.length_append,List.length_take,hd];omega
  have:=own_of b3 (d1.sets zObjC.1 _ _) (by rw [hlen];omega)
  rw [hlen] at this
  exact this)
 have HG:=Lib.hid (show w.grownBy (W1.setCells g ((m - 1)*19) zObjC.1) (some g) by
  have key:∀ (vs:List Value) (oo:Nat) (w':World),w.grownBy w' (some g)→w.grownBy (w'.setCells g oo vs) (some g):=by
   intro vs
   induction vs with
   | nil=>intro oo w' h;exact h
   | cons v r ih=>intro oo w' h;exact ih (oo+1) _ ⟨h.os,h.tape,h.output,by have:=h.size;simpa [World.setCell] using this,fun k hk hr=>(Below.heap_setCell _ _ _ _ (fun e=>hr (by rw [e]))).trans (h.block k hk hr)⟩
  rw [hW1]
  exact key _ _ _ (key _ _ _ ⟨rfl,rfl,rfl,Nat.le_refl _,fun _ _ _=>rfl⟩))
 have EI:=Lib.hid (show _∧_∧_ from ⟨e1,hi0,hs0⟩)
 have HW1:=Lib.hid (show w.drew.setCells g (0+i*19) ((es.drop (i+1)).flatMap Subtype.val)=W1 by rw [hW1,Nat.zero_add])
 clear b1 d1 hl1 htk cell hb hh hd hW1 e1 e2 e3 hi0 hz0 hs0 hby0 hes1
 generalize hj:i+1=j at *
 have HJ:=Lib.hid hj
 have hne:((i:Int)==(j:Int))=false:=beq_eq_false_iff_ne.2 (by omega)
 have hij:i≤j:=by omega
 have hjm:j≤m:=by omega
 have him:i≤m:=by omega
 have hic:i≤c:=by omega
 have hjc:j≤c:=by omega
 have hij2:=Lib.hid (show i+(m - j)=m - 1 by omega)
 have hcl2:∀ ty,(Builtin.clear_ #[24] ty #[.slice (some ⟨g,(i+(m - j))*19,none⟩) (m - (i+(m - j))) (c - (i+(m - j)))]).run Tryz.prog W1=.ok (.tuple #[]) (W1.setCells g ((m - 1)*19) zObjC.1):=fun ty=>by
  rw [hij2.out,show m - (m - 1)=1 by omega]
  exact hcl.out ty _
 have hcq:¬ c=i+(m - j):=by omega
 clear hj hcl
 go_enter Tryz.func164,Tryz.ntmps164
 go_wp2_with fail
 go_region_law (refine step_append_room rfl (.tmp 22) (.tmp 25) 24 rfl 49 ii 19 EI.out.1 EI.out.2.1 EI.out.2.2 g 0 i c (by simp [Act.eval,Act.put]) A (m - j) (c - j) _ (by simp [Act.eval,Act.put]) s1.out hsrc.out s2.out (by have:=HJ.out;omega) s3.out ?_;rw [HW1.out])
 simp only [List.getElem_toArray,List.getElem_cons_succ,List.getElem_cons_zero,Act.put,List.setIfInBounds_toArray,List.set_cons_zero]
 go_wp2
 go_ret
 exact ⟨by rw [hij2.out] <;> rfl,HF.out,HG.out⟩
end Go.Proofs.YtmloamomcbmfhaaGreat
end
section
namespace Go.Proofs.YtmloamomcbmfhaaGreat
open Go Cg Go.RowKit Go.Sort
theorem blk_of {B t k n g cap:Nat} {w:World} {es:List (Cl k)} (h:w.ownsRow B t k (.slice (some ⟨g,0,none⟩) n cap) es.length (es.flatMap Subtype.val)) (hn:0 < es.length):BlkC k t w g es∧n=es.length∧es.length≤cap:=by
 obtain ⟨x,hx⟩:∃ x,es[0]? = some x:=⟨_,List.getElem?_eq_getElem hn⟩
 obtain ⟨g',cap',cur,e1,_,h2,h3,_,h4,h5,_⟩:=own_at h hx
 cases e1
 refine ⟨⟨cur,h2,by rw [h4];exact Nat.mul_le_mul_right _ h3,fun j x hx i u hu=>?_⟩,rfl,h3⟩
 have hi:i < k:=by have:=(List.getElem?_eq_some_iff.1 hu).1;rwa [Cl.len] at this
 have:=flat_get (enc:=Subtype.val) Cl.len es j x hx i hi
 rw [← h5,List.getElem?_take] at this
 split at this
 ·rw [← Array.getElem?_toList,this]
  exact hu
 ·rw [hu] at this
  cases this
theorem deleteO_ctm (l:List GObject) (i:Nat) (hi:i < l.length):CtM Tryz.prog 164 [.c (.row 0 0),.c (.t (iv i)),.c (.t (iv ((i+1:Nat):Int)))] [] [⟨49,19,0,l.map GObject.enc,none⟩] (.c (.row 0 1)) [] [⟨49,19,1,(l.map GObject.enc).take i++(l.map GObject.enc).drop (i+1),none⟩] []:=by
 refine own_ctm (enters_of Tryz.func164 (by kernel_rfl) rfl) fun n0 w v us es E0 hn h1 h2 h3 hus=>?_
 have hlen:es.length=l.length:=by rw [h2.len,Lm]
 cases hus with
 | cons q1 hus=>
  cases hus with
  | cons q2 hus=>
   cases hus
   rename_i u1 u2
   have q1:RT E0.F w u1 (.lit (.int .i64 i)):=q1
   have q2:RT E0.F w u2 (.lit (.int .i64 ((i+1:Nat):Int))):=q2
   cases q1
   cases q2
   obtain ⟨g,cap,cur,rfl,_⟩:=own_at h1 (List.getElem?_eq_getElem (i:=i) (by omega))
   obtain ⟨b1,_,b3⟩:=blk_of h1 (by omega)
   refine (delete_obj n0 g es.length cap i es w b1 (hdC_of h1) rfl (by omega) b3).mono ?_
   rintro e w' ⟨rfl,p1,p2⟩
   have hl2:(es.take i++es.drop (i+1)).length=es.length - 1:=by rw [List.length_append,List.length_take,List.length_drop];omega
   refine ⟨_,es.take i++es.drop (i+1),rfl,by rw [hl2];exact p1,p2,fun g' hg'=>.inl hg',fun F hF hsame=>?_⟩
   have hF2:Ets F w' es (l.map GObject.enc):=hF.fr p2.size hsame fun b hb _=>hb
   refine ⟨by rw [hl2,List.length_append,List.length_take,List.length_drop,← hF2.len];omega,fun j vs ts e1 e2=>?_⟩
   by_cases hj:j < i
   ·rw [List.getElem?_append_left (by rw [List.length_take];omega),List.getElem?_take,if_pos hj] at e1
    rw [List.getElem?_append_left (by rw [List.length_take,← hF2.len];omega),List.getElem?_take,if_pos hj] at e2
    exact hF2.at_ j vs ts e1 e2
   ·rw [List.getElem?_append_right (by rw [List.length_take];omega),List.length_take,List.getElem?_drop,Nat.min_eq_left (by omega)] at e1
    rw [List.getElem?_append_right (by rw [List.length_take,← hF2.len];omega),List.length_take,List.getElem?_drop,Nat.min_eq_left (by rw [← hF2.len];omega)] at e2
    exact hF2.at_ _ vs ts e1 e2
theorem indexI_ct (l:List GItem) (q:GItem→Bool) (f:Nat) (caps:List (List Tr × Nat)) (hq:∀ o:GItem,Ct Tryz.prog f ((.agg (o.enc.map .t)) :: caps.map fun c=>.iptr c.1 c.2) (AV.b (q o)) [] true) (hl:l.length*824≤limB):Ct Tryz.prog 201 [.c (.t (.sl 94 (l.map GItem.enc))),.fnI f caps] (AV.i (fidx q l)) [] true:=by
 refine Ct.lit (b:=false) ?_ rfl
 refine ct_of Tryz.func201 rfl (enters_of Tryz.func201 (by kernel_rfl) rfl) tabOk (by kernel_rfl) rfl rfl rfl rfl fun w0 O _=>Tp.run [] ?_
 refine Tp.loop (fun k:Nat=>⟨[(0,.c (.t (.sl 94 (l.map GItem.enc)))),(1,.fnI f caps),(7,AV.i (l.map GItem.enc).length),(8,AV.i k)],[],[],10000⟩) (fun k=>k≤l.length∧∀ j (h:j < l.length),j < k→q l[j]=false) (fun k=>l.length - k) 0 ?_ ⟨Nat.zero_le _,fun j _ hj=>by omega⟩ ?_
 ·refine wk_of [] rfl rfl ?_ ?_ ?_
  all_goals repeat' first|refine Ai ?_ ?_|exact rfl|exact trivial|exact Ei _ rfl|refine lN ?_|refine bS ?_|fail
 rintro k ⟨hk,hno⟩
 refine Tp.run [5,6] ?_
 refine cS (fun h=>?_) (fun h=>?_)
 ·have hlt:=len_lt h
  refine Ei k (Ei (l[k].enc) (Ai rfl (Ai (map_get _ _ k hlt) ?_)))
  refine cI (hq l[k]) ⟨fL l[k].enc,fits_caps caps⟩ (.inl rfl) ?_
  refine cS (fun h=>?_) (fun h=>?_)
  ·refine Tp.run [] ?_
   refine Ei [] (Ai rfl (Ai trivial ?_))
   rw [fidx_hit _ _ k hlt h hno]
   exact rfl
  ·refine Tp.run [] ?_
   refine Ei (k+1) (Ai ⟨by omega,fun j hj hjk=>?_⟩ (Ai (show l.length - (k+1) < l.length - k by omega) ?_))
   ·by_cases e:j=k
    ·subst e;exact h
    ·exact hno j hj (by omega)
   refine wk_of [] rfl rfl ?_ ?_ ?_
   ·repeat' first|refine Ai ?_ ?_|exact rfl|exact trivial|exact Ei _ rfl|refine lN ?_|refine bS ?_|fail
    exact succ_eq k hlt 824 (by decide) hl
   all_goals repeat' first|refine Ai ?_ ?_|exact rfl|exact trivial|exact Ei _ rfl|refine lN ?_|refine bS ?_|fail
 ·have hk2:=len_ge h hk
  refine Ei [] (Ai rfl (Ai trivial ?_))
  rw [fidx_miss _ _ (fun j hj=>hno j hj (by omega))]
  exact rfl
theorem indexN_ct (l:List Int) (q:Int→Bool) (f:Nat) (caps:List (List Tr × Nat)) (hq:∀ o:Int,Ct Tryz.prog f ((.c (.t (iv o))) :: caps.map fun c=>.iptr c.1 c.2) (AV.b (q o)) [] true) (hl:l.length*8≤limB):Ct Tryz.prog 197 [.c (.t (.sl 1 (l.map eI))),.fnI f caps] (AV.i (fidx q l)) [] true:=by
 refine Ct.lit (b:=false) ?_ rfl
 refine ct_of Tryz.func197 rfl (enters_of Tryz.func197 (by kernel_rfl) rfl) tabOk (by kernel_rfl) rfl rfl rfl rfl fun w0 O _=>Tp.run [] ?_
 refine Tp.loop (fun k:Nat=>⟨[(0,.c (.t (.sl 1 (l.map eI)))),(1,.fnI f caps),(7,AV.i (l.map eI).length),(8,AV.i k)],[],[],10000⟩) (fun k=>k≤l.length∧∀ j (h:j < l.length),j < k→q l[j]=false) (fun k=>l.length - k) 0 ?_ ⟨Nat.zero_le _,fun j _ hj=>by omega⟩ ?_
 ·refine wk_of [] rfl rfl ?_ ?_ ?_
  all_goals repeat' first|refine Ai ?_ ?_|exact rfl|exact trivial|exact Ei _ rfl|refine lN ?_|refine bS ?_|fail
 rintro k ⟨hk,hno⟩
 refine Tp.run [5,6] ?_
 refine cS (fun h=>?_) (fun h=>?_)
 ·have hlt:=len_lt h
  refine Ei k (Ei (eI l[k]) (Ai rfl (Ai (map_get _ _ k hlt) ?_)))
  refine cI (hq l[k]) ⟨rfl,fits_caps caps⟩ (.inl rfl) ?_
  refine cS (fun h=>?_) (fun h=>?_)
  ·refine Tp.run [] ?_
   refine Ei [] (Ai rfl (Ai trivial ?_))
   rw [fidx_hit _ _ k hlt h hno]
   exact rfl
  ·refine Tp.run [] ?_
   refine Ei (k+1) (Ai ⟨by omega,fun j hj hjk=>?_⟩ (Ai (show l.length - (k+1) < l.length - k by omega) ?_))
   ·by_cases e:j=k
    ·subst e;exact h
    ·exact hno j hj (by omega)
   refine wk_of [] rfl rfl ?_ ?_ ?_
   ·repeat' first|refine Ai ?_ ?_|exact rfl|exact trivial|exact Ei _ rfl|refine lN ?_|refine bS ?_|fail
    exact succ_eq k hlt 8 (by decide) hl
   all_goals repeat' first|refine Ai ?_ ?_|exact rfl|exact trivial|exact Ei _ rfl|refine lN ?_|refine bS ?_|fail
 ·have hk2:=len_ge h hk
  refine Ei [] (Ai rfl (Ai trivial ?_))
  rw [fidx_miss _ _ (fun j hj=>hno j hj (by omega))]
  exact rfl
structure KpD {α:Type} (q:α→Bool) (l:List α) (x:Nat × Nat × List α):Prop where
 ij:x.1 < x.2.1
 jl:x.2.1≤l.length
 len:x.2.2.length=l.length
 front:x.2.2.take x.1=(l.take x.2.1).filter fun y=>!q y
 back:x.2.2.drop x.2.1=l.drop x.2.1
theorem KpD.start {α:Type} {q:α→Bool} {l:List α} {i:Nat} (hi:i < l.length) (hq:q l[i]=true) (hno:∀ j (h:j < l.length),j < i→q l[j]=false):KpD q l (i,i+1,l):=by
 refine ⟨Nat.lt_succ_self i,hi,rfl,?_,rfl⟩
 show l.take i=(l.take (i+1)).filter fun y=>!q y
 rw [← List.take_append_getElem hi,List.filter_append]
 have e1:(l.take i).filter (fun y=>!q y)=l.take i:=List.filter_eq_self.2 fun y hy=>by
  obtain ⟨j,hj,rfl⟩:=List.mem_iff_getElem.1 hy
  rw [List.length_take] at hj
  rw [List.getElem_take,hno j (by omega) (by omega)]
  rfl
 have e2:[l[i]].filter (fun y=>!q y)=[]:=by simp [hq]
 rw [e1,e2,List.append_nil]
theorem KpD.get {α:Type} {q:α→Bool} {l:List α} {i j:Nat} {X:List α} (h:KpD q l (i,j,X)) (hj:j < l.length):X[j]? = some l[j]:=by
 have:=h.back
 simp only at this
 have e:(X.drop j)[0]? = (l.drop j)[0]?:=by rw [this]
 rw [List.getElem?_drop,List.getElem?_drop,Nat.add_zero,List.getElem?_eq_getElem hj] at e
 exact e
theorem KpD.skip {α:Type} {q:α→Bool} {l:List α} {i j:Nat} {X:List α} (h:KpD q l (i,j,X)) (hj:j < l.length) (hq:q l[j]=true):KpD q l (i,j+1,X):=by
 obtain ⟨h1,h2,h3,h4,h5⟩:=h
 simp only at h1 h2 h3 h4 h5
 refine ⟨by simp only;omega,by simp only;omega,h3,?_,?_⟩
 ·show X.take i=(l.take (j+1)).filter fun y=>!q y
  rw [← List.take_append_getElem hj,List.filter_append,← h4]
  simp [hq]
 ·show X.drop (j+1)=l.drop (j+1)
  rw [← List.drop_drop,← List.drop_drop,h5]
theorem KpD.keep {α:Type} {q:α→Bool} {l:List α} {i j:Nat} {X:List α} (h:KpD q l (i,j,X)) (hj:j < l.length) (hq:q l[j]=false):KpD q l (i+1,j+1,X.set i l[j]):=by
 obtain ⟨h1,h2,h3,h4,h5⟩:=h
 simp only at h1 h2 h3 h4 h5
 have hi:i < X.length:=by omega
 refine ⟨by simp only;omega,by simp only;omega,by simp only [List.length_set];exact h3,?_,?_⟩
 ·show (X.set i l[j]).take (i+1)=(l.take (j+1)).filter fun y=>!q y
  rw [← List.take_append_getElem hj,List.filter_append,← h4]
  have hi2:i < (X.set i l[j]).length:=by rw [List.length_set];exact hi
  rw [← List.take_append_getElem hi2,List.getElem_set_self,List.take_set_of_le (Nat.le_refl i)]
  simp [hq]
 ·show (X.set i l[j]).drop (j+1)=l.drop (j+1)
  rw [List.drop_set_of_lt (by omega),← List.drop_drop,← List.drop_drop,h5]
theorem KpD.fin {α:Type} {q:α→Bool} {l:List α} {i j:Nat} {X:List α} (h:KpD q l (i,j,X)) (hj:j=l.length):X.take i=l.filter (fun y=>!q y)∧i≤X.length:=by
 obtain ⟨h1,h2,h3,h4,_⟩:=h
 simp only at h1 h2 h3 h4
 rw [h4,hj,List.take_length]
 exact ⟨rfl,by omega⟩
theorem tk_fin {α:Type} {A B:List α} {i:Nat} (h:i≤A.length):(A.take i++B).take i=A.take i:=by
 rw [List.take_append_of_le_length (by rw [List.length_take];omega),List.take_take,Nat.min_self]
theorem withoutF_ct (id n:Int):Ct Tryz.prog 200 [.c (.t (iv n)),.iptr [iv id] 0] (AV.b (n==id)) [] true:=by
 refine Ct.lit (b:=false) ?_ rfl
 refine ct_of Tryz.func200 rfl (enters_of Tryz.func200 (by kernel_rfl) rfl) tabOk (by kernel_rfl) rfl rfl rfl rfl fun w0 O _=>Tp.run [] ?_
 refine Ei [] (Ai rfl (Ai trivial ?_))
 repeat' first|refine Ai ?_ ?_|exact rfl|exact trivial|exact Ei _ rfl|refine lN ?_|refine bS ?_|fail
theorem delN_ctm (l:List Int) (id:Int) (hl:l.length*8≤limB):CtM Tryz.prog 157 [.c (.row 0 0),.fn 200 [(0,0)]] [[iv id].map .t] [⟨3,1,0,l.map eI,none⟩] (.c (.row 0 1)) [[iv id].map .t] [⟨3,1,1,(l.filter fun x=>!(fun n=>n==id) x).map eI,none⟩] []:=by
 have hix:=indexN_ct l (fun n=>n==id) 200 [([iv id],0)] (fun o=>withoutF_ct id o) hl
 rcases fidx_cases (fun n=>n==id) l with ⟨e1,_,e2⟩|⟨i,hi,e1,e2,_⟩
 ·have e3:l.filter (fun x=>!(fun n=>n==id) x)=l:=List.filter_eq_self.2 fun x hx=>by
   have:=List.find?_eq_none.1 e2 x hx
   simpa using this
  rw [e3]
  rw [e1] at hix
  refine ctm_of 1 Tryz.func157 rfl (enters_of Tryz.func157 (by kernel_rfl) rfl) tabOk (by kernel_rfl) rfl rfl rfl rfl rfl fun w0 O _=>Tp.run [3,4] ?_
  refine cI hix ⟨⟨rfl,rfl⟩,⟨rfl,⟨⟨rfl,rfl⟩,trivial⟩⟩,trivial⟩ (.inl rfl) ?_
  refine Tp.run [] ?_
  refine Ei [(0,0)] (Ai (Ai rfl (Ai ?_ (Ai ?_ ?_))) ?_)
  all_goals repeat' first|refine Ai ?_ ?_|exact rfl|exact trivial|exact Ei _ rfl|refine lN ?_|refine bS ?_|fail
 rw [e1] at hix
 obtain ⟨h3,h4,h5⟩:=List.findIdx?_eq_some_iff_getElem.1 e2
 have hno:∀ j (h:j < l.length),j < i→(fun n=>n==id) l[j]=false:=fun j h hj=>by simpa using h5 j hj
 have hw:IntKind.i64.wrap ((i:Int)+1)=((i+1:Nat):Int):=by
  have:=succ_eq i hi 8 (by decide) hl
  injection this with this
  injection this
 refine ctm_of 1 Tryz.func157 rfl (enters_of Tryz.func157 (by kernel_rfl) rfl) tabOk (by kernel_rfl) rfl rfl rfl rfl rfl fun w0 O _=>Tp.run [3,4] ?_
 refine cI hix ⟨⟨rfl,rfl⟩,⟨rfl,⟨⟨rfl,rfl⟩,trivial⟩⟩,trivial⟩ (.inl rfl) ?_
 refine Tp.run [] ?_
 refine Tp.loopL (fun x:Nat × Nat × List Int=>⟨[(0,.c (.row 0 0)),(1,.fn 200 [(0,0)]),(5,AV.i x.1),(6,AV.i x.2.1)],[(0,[iv id].map .t)],[(0,⟨3,1,0,x.2.2.map eI,none⟩)],10000⟩) (KpD (fun n=>n==id) l) (fun x=>l.length - x.2.1) (i,i+1,l) ?_ (KpD.start hi h4 hno) ?_
 ·refine wkl_of (n1:=1) rfl rfl ?_ ?_ ?_
  ·repeat' first|refine Ai ?_ ?_|exact rfl|exact trivial|exact Ei _ rfl|refine lN ?_|refine bS ?_|fail
   all_goals exact congrArg (fun n=>AV.i n) hw
  all_goals repeat' first|refine Ai ?_ ?_|exact rfl|exact trivial|exact Ei _ rfl|refine lN ?_|refine bS ?_|fail
 rintro ⟨i,j,X⟩ hx
 have hlen:=hx.len
 have hij:=hx.ij
 have hjl:=hx.jl
 simp only at hlen hij hjl
 refine Tp.run [7,9,6] ?_
 refine cS (fun hc=>?_) (fun hc=>?_)
 ·have hjX:j < X.length:=len_lt hc
  have hj:j < l.length:=by omega
  have hXj:X[j]=l[j]:=by
   have:=hx.get hj
   rw [List.getElem?_eq_getElem hjX] at this
   exact Option.some.inj this
  refine Tp.run [] ?_
  refine Ei j (Ai rfl (Ai (by rw [Lm];exact hjX) ?_))
  refine Ei (eI X[j]) (Ei _ (Ai (map_get _ _ j hjX) (Ai rfl ?_)))
  refine cI (withoutF_ct id X[j]) ⟨rfl,⟨⟨rfl,rfl⟩,trivial⟩,trivial⟩ (.inl rfl) ?_
  refine cond_n (cS (fun hq=>?_) (fun hq=>?_))
  ·rw [hXj] at hq
   refine Tp.run [] ?_
   refine Ei (i,j+1,X) (Ai (hx.skip hj hq) (Ai (show l.length - (j+1) < l.length - j by omega) ?_))
   refine wkl_of (n1:=1) rfl rfl ?_ ?_ ?_
   ·repeat' first|refine Ai ?_ ?_|exact rfl|exact trivial|exact Ei _ rfl|refine lN ?_|refine bS ?_|fail
    all_goals exact congrArg (fun n=>AV.c (.t n)) (succ_eq j hj 8 (by decide) hl)
   all_goals repeat' first|refine Ai ?_ ?_|exact rfl|exact trivial|exact Ei _ rfl|refine lN ?_|refine bS ?_|fail
  ·have hq:(fun n=>n==id) l[j]=false:=by rw [← hXj];exact hq
   have hi:i < X.length:=by omega
   have hi2:i < l.length:=by omega
   refine Tp.run [] ?_
   refine Ei i (Ai rfl (Ai (by rw [Lm];exact hi) ?_))
   refine Ei (eI X[i]) (Ai (map_get _ _ i hi) (Ai (Nb rfl) ?_))
   refine Tp.run [] ?_
   refine Ei (i+1,j+1,X.set i l[j]) (Ai (hx.keep hj hq) (Ai (show l.length - (j+1) < l.length - j by omega) ?_))
   refine wkl_of (n1:=1) rfl rfl ?_ ?_ ?_
   ·repeat' first|refine Ai ?_ ?_|exact rfl|exact trivial|exact Ei _ rfl|refine lN ?_|refine bS ?_|fail
    ·exact congrArg (fun n=>AV.c (.t n)) (succ_eq i hi2 8 (by decide) hl)
    ·exact congrArg (fun n=>AV.c (.t n)) (succ_eq j hj 8 (by decide) hl)
   ·repeat' first|refine Ai ?_ ?_|exact rfl|exact trivial|exact Ei _ rfl|refine lN ?_|refine bS ?_|fail
   ·repeat' first|refine Ai ?_ ?_|exact rfl|exact trivial|exact Ei _ rfl|refine lN ?_|refine bS ?_|fail
    exact congrArg (fun xs=>some (⟨3,1,0,xs,none⟩:Row)) (by rw [List.map_set,← hXj];rfl)
 ·have hjj:j=l.length:=(len_ge hc (show j≤X.length by omega)).trans hlen
  obtain ⟨g1,g2⟩:=hx.fin hjj
  refine Ei i (Ai rfl (Ai (by rw [Lm];exact g2) ?_))
  refine Ei [iv 0] (Ai (show ZFit [.t (.lit (.int .i64 0))] [iv 0] from ⟨rfl,trivial⟩) (Ai (by rw [Lm];exact g2) ?_))
  refine Ei i (Ai rfl (Ai (by simp;omega) ?_))
  refine Ei [(0,0)] (Ai (Ai rfl (Ai ?_ (Ai ?_ ?_))) ?_)
  ·repeat' first|refine Ai ?_ ?_|exact rfl|exact trivial|exact Ei _ rfl|refine lN ?_|refine bS ?_|fail
   exact (tk_fin (by rw [Lm];exact g2)).trans (by rw [← List.map_take];exact congrArg (List.map eI) g1)
  all_goals repeat' first|refine Ai ?_ ?_|exact rfl|exact trivial|exact Ei _ rfl|refine lN ?_|refine bS ?_|fail
def zof:List Ce→List Tr
 | []=>[]
 | .t x :: cs=>x :: zof cs
 | _ :: cs=>.sl 0 [] :: zof cs
def zgood:List Ce→Bool
 | []=>true
 | .t _ :: cs=>zgood cs
 | .nil :: cs=>zgood cs
 | _ :: _=>false
theorem zfit_zof:∀ (cs:List Ce),zgood cs=true→ZFit cs (zof cs)
 | [],_=>trivial
 | .t _ :: cs,h=>⟨rfl,zfit_zof cs h⟩
 | .nil :: cs,h=>⟨⟨0,rfl⟩,zfit_zof cs h⟩
theorem removeF_ct (o0:GObject) (x:GItem):Ct Tryz.prog 167 [.agg (x.enc.map .t),.iptr o0.enc 0] (AV.b (x.id==o0.id&&x.kind==1)) [] true:=by
 refine Ct.lit (b:=false) ?_ rfl
 refine ct_of Tryz.func167 rfl (enters_of Tryz.func167 (by kernel_rfl) rfl) tabOk (by kernel_rfl) rfl rfl rfl rfl fun w0 O _=>Tp.run [] ?_
 refine cS (fun h=>?_) (fun h=>?_)
 ·rw [show (x.id==o0.id)=true from h]
  refine Ei [] (Ai rfl (Ai trivial ?_))
  repeat' first|refine Ai ?_ ?_|exact rfl|exact trivial|exact Ei _ rfl|refine lN ?_|refine bS ?_|fail
 ·rw [show (x.id==o0.id)=false from h]
  refine Ei [] (Ai rfl (Ai trivial ?_))
  repeat' first|refine Ai ?_ ?_|exact rfl|exact trivial|exact Ei _ rfl|refine lN ?_|refine bS ?_|fail
theorem delI_ctm (l:List GItem) (o0:GObject) (hl:l.length*824≤limB):CtM Tryz.prog 166 [.c (.row 0 0),.fn 167 [(0,0)]] [o0.enc.map .t] [⟨91,94,0,l.map GItem.enc,none⟩] (.c (.row 0 1)) [o0.enc.map .t] [⟨91,94,1,(l.filter fun x=>!(fun x:GItem=>x.id==o0.id&&x.kind==1) x).map GItem.enc,none⟩] []:=by
 have hix:=indexI_ct l (fun x:GItem=>x.id==o0.id&&x.kind==1) 167 [(o0.enc,0)] (fun o=>removeF_ct o0 o) hl
 rcases fidx_cases (fun x:GItem=>x.id==o0.id&&x.kind==1) l with ⟨e1,_,e2⟩|⟨i,hi,e1,e2,_⟩
 ·have e3:l.filter (fun x=>!(fun x:GItem=>x.id==o0.id&&x.kind==1) x)=l:=List.filter_eq_self.2 fun x hx=>by
   have:=List.find?_eq_none.1 e2 x hx
   rw [Bool.not_eq_true] at this
   exact congrArg (fun b=>!b) this
  rw [e3]
  rw [e1] at hix
  refine ctm_of 1 Tryz.func166 rfl (enters_of Tryz.func166 (by kernel_rfl) rfl) tabOk (by kernel_rfl) rfl rfl rfl rfl rfl fun w0 O _=>Tp.run [3,4] ?_
  refine cI hix ⟨⟨rfl,rfl⟩,⟨rfl,⟨⟨rfl,rfl⟩,trivial⟩⟩,trivial⟩ (.inl rfl) ?_
  refine Tp.run [] ?_
  refine Ei [(0,0)] (Ai (Ai rfl (Ai ?_ (Ai ?_ ?_))) ?_)
  all_goals repeat' first|refine Ai ?_ ?_|exact rfl|exact trivial|exact Ei _ rfl|refine lN ?_|refine bS ?_|fail
 rw [e1] at hix
 obtain ⟨h3,h4,h5⟩:=List.findIdx?_eq_some_iff_getElem.1 e2
 have hno:∀ j (h:j < l.length),j < i→(fun x:GItem=>x.id==o0.id&&x.kind==1) l[j]=false:=fun j h hj=>by simpa using h5 j hj
 have hw:IntKind.i64.wrap ((i:Int)+1)=((i+1:Nat):Int):=by
  have:=succ_eq i hi 824 (by decide) hl
  injection this with this
  injection this
 refine ctm_of 1 Tryz.func166 rfl (enters_of Tryz.func166 (by kernel_rfl) rfl) tabOk (by kernel_rfl) rfl rfl rfl rfl rfl fun w0 O _=>Tp.run [3,4] ?_
 refine cI hix ⟨⟨rfl,rfl⟩,⟨rfl,⟨⟨rfl,rfl⟩,trivial⟩⟩,trivial⟩ (.inl rfl) ?_
 refine Tp.run [] ?_
 refine Tp.loopL (fun x:Nat × Nat × List GItem=>⟨[(0,.c (.row 0 0)),(1,.fn 167 [(0,0)]),(5,AV.i x.1),(6,AV.i x.2.1)],[(0,(o0.enc.map .t))],[(0,⟨91,94,0,x.2.2.map GItem.enc,none⟩)],10000⟩) (KpD (fun x:GItem=>x.id==o0.id&&x.kind==1) l) (fun x=>l.length - x.2.1) (i,i+1,l) ?_ (KpD.start hi h4 hno) ?_
 ·refine wkl_of (n1:=1) rfl rfl ?_ ?_ ?_
  ·repeat' first|refine Ai ?_ ?_|exact rfl|exact trivial|exact Ei _ rfl|refine lN ?_|refine bS ?_|fail
   all_goals exact congrArg (fun n=>AV.i n) hw
  all_goals repeat' first|refine Ai ?_ ?_|exact rfl|exact trivial|exact Ei _ rfl|refine lN ?_|refine bS ?_|fail
 rintro ⟨i,j,X⟩ hx
 have hlen:=hx.len
 have hij:=hx.ij
 have hjl:=hx.jl
 simp only at hlen hij hjl
 refine Tp.run [7,9,6] ?_
 refine cS (fun hc=>?_) (fun hc=>?_)
 ·have hjX:j < X.length:=len_lt hc
  have hj:j < l.length:=by omega
  have hXj:X[j]=l[j]:=by
   have:=hx.get hj
   rw [List.getElem?_eq_getElem hjX] at this
   exact Option.some.inj this
  refine Tp.run [] ?_
  refine Ei j (Ai rfl (Ai (by rw [Lm];exact hjX) ?_))
  refine Ei (X[j].enc) (Ei _ (Ai (map_get _ _ j hjX) (Ai rfl ?_)))
  refine cI (removeF_ct o0 X[j]) ⟨fL X[j].enc,⟨⟨rfl,rfl⟩,trivial⟩,trivial⟩ (.inl rfl) ?_
  refine cond_n (cS (fun hq=>?_) (fun hq=>?_))
  ·rw [hXj] at hq
   refine Tp.run [] ?_
   refine Ei (i,j+1,X) (Ai (hx.skip hj hq) (Ai (show l.length - (j+1) < l.length - j by omega) ?_))
   refine wkl_of (n1:=1) rfl rfl ?_ ?_ ?_
   ·repeat' first|refine Ai ?_ ?_|exact rfl|exact trivial|exact Ei _ rfl|refine lN ?_|refine bS ?_|fail
    all_goals exact congrArg (fun n=>AV.c (.t n)) (succ_eq j hj 824 (by decide) hl)
   all_goals repeat' first|refine Ai ?_ ?_|exact rfl|exact trivial|exact Ei _ rfl|refine lN ?_|refine bS ?_|fail
  ·have hq:(fun x:GItem=>x.id==o0.id&&x.kind==1) l[j]=false:=by rw [← hXj];exact hq
   have hi:i < X.length:=by omega
   have hi2:i < l.length:=by omega
   refine Tp.run [] ?_
   refine Ei i (Ai rfl (Ai (by rw [Lm];exact hi) ?_))
   refine Ei (X[i].enc) (Ai (map_get _ _ i hi) (Ai (Nb rfl) ?_))
   refine Tp.run [] ?_
   refine Ei (i+1,j+1,X.set i l[j]) (Ai (hx.keep hj hq) (Ai (show l.length - (j+1) < l.length - j by omega) ?_))
   refine wkl_of (n1:=1) rfl rfl ?_ ?_ ?_
   ·repeat' first|refine Ai ?_ ?_|exact rfl|exact trivial|exact Ei _ rfl|refine lN ?_|refine bS ?_|fail
    ·exact congrArg (fun n=>AV.c (.t n)) (succ_eq i hi2 824 (by decide) hl)
    ·exact congrArg (fun n=>AV.c (.t n)) (succ_eq j hj 824 (by decide) hl)
   ·repeat' first|refine Ai ?_ ?_|exact rfl|exact trivial|exact Ei _ rfl|refine lN ?_|refine bS ?_|fail
   ·repeat' first|refine Ai ?_ ?_|exact rfl|exact trivial|exact Ei _ rfl|refine lN ?_|refine bS ?_|fail
    exact congrArg (fun xs=>some (⟨91,94,0,xs,none⟩:Row)) (by rw [List.map_set,← hXj];rfl)
 ·have hjj:j=l.length:=(len_ge hc (show j≤X.length by omega)).trans hlen
  obtain ⟨g1,g2⟩:=hx.fin hjj
  refine Ei i (Ai rfl (Ai (by rw [Lm];exact g2) ?_))
  refine Ei _ (Ai (zfit_zof _ rfl) (Ai (by rw [Lm];exact g2) ?_))
  refine Ei i (Ai rfl (Ai (by simp;omega) ?_))
  refine Ei [(0,0)] (Ai (Ai rfl (Ai ?_ (Ai ?_ ?_))) ?_)
  ·repeat' first|refine Ai ?_ ?_|exact rfl|exact trivial|exact Ei _ rfl|refine lN ?_|refine bS ?_|fail
   exact (tk_fin (by rw [Lm];exact g2)).trans (by rw [← List.map_take];exact congrArg (List.map GItem.enc) g1)
  all_goals repeat' first|refine Ai ?_ ?_|exact rfl|exact trivial|exact Ei _ rfl|refine lN ?_|refine bS ?_|fail
theorem rtl_lits {F F':Nat→Prop} {w:World}:∀ {vs:List Value} {ts:List Tr},RTL F w vs ts→(∀ t∈ts,∃ x,t=Tr.lit x)→RTL F' w vs ts
 | _,_,.nil,_=>.nil
 | _,_,.cons h1 h2,h=>by
  obtain ⟨x,rfl⟩:=h _ (List.mem_cons_self ..)
  refine .cons ?_ (rtl_lits h2 fun t ht=>h t (List.mem_cons_of_mem _ ht))
  cases h1 with
  | lit q=>exact .lit q
theorem ct_free {P:Program} {f:FuncId} {ars:List AV} {ty k:Nat} {xs:List (List Tr)} {b:Bool} (h:Ct P f ars (.c (.row 0 0)) [⟨ty,k,0,xs,none⟩] b) (hx:∀ ts∈xs,∀ t∈ts,∃ v,t=Tr.lit v):Ct P f ars (.c (.row 0 0)) [⟨ty,k,0,xs,none⟩] true:=by
 refine ⟨h.ent,h.few,h.shut,h.plain,h.nob,h.rid,fun w vs E0 ha=>(h.run w vs E0 ha).mono ?_⟩
 rintro e w' ⟨v,rfl,hbel,E,hr,hrow,hcold⟩
 refine ⟨v,rfl,hbel,⟨fun b=>if b < w.heap.size then .non else E.rl b,E.bk,E.vl⟩,hr,fun j R hj=>?_,fun b hlt hc=>?_⟩
 ·cases j with
  | succ j=>simp at hj
  | zero=>
   injection hj with hj
   subst hj
   obtain ⟨es,h1,h2,h3⟩:=(hrow 0 _ rfl).ow rfl
   refine Ow.rr rfl ⟨es,h1,⟨h2.len,fun j x ts q1 q2=>rtl_lits (h2.at_ j x ts q1 q2) (hx ts (List.mem_of_getElem? q2))⟩,fun g hg=>?_⟩
   show (if g < w.heap.size then BRole.non else E.rl g)=_
   rw [if_neg (Nat.not_lt.2 (h1.lt g hg).1)]
   exact h3 g hg
 ·have hc:(if b < w.heap.size then BRole.non else E.rl b)=.cold:=hc
  rw [if_pos hlt] at hc
  cases hc
theorem encI_lits (l:List Int):∀ ts∈l.map eI,∀ t∈ts,∃ v,t=Tr.lit v:=fun ts h t ht=>by
 obtain ⟨n,_,rfl⟩:=List.mem_map.1 h
 have:t=iv n:=List.mem_singleton.1 ht
 exact ⟨_,this⟩
theorem withoutP_ct (l:List Int) (id:Int) (hl:l.length*8≤limB):Ct Tryz.prog 165 [.c (.t (.sl 1 (l.map eI))),.c (.t (iv id))] (.c (.row 0 0)) [⟨3,1,0,(l.filter fun n=>!(fun n=>n==id) n).map eI,none⟩] true:=by
 refine ct_free (b:=false) ?_ (encI_lits _)
 refine ct_of Tryz.func165 rfl (enters_of Tryz.func165 (by kernel_rfl) rfl) tabOk (by kernel_rfl) rfl rfl rfl rfl fun w0 O _=>Tp.run [] ?_
 refine cI (cloneInt_ct _ (map_bound _ _ _ hl)) ⟨rfl,trivial⟩ (.inr rfl) ?_
 refine cM [0] [(384,0)] (delN_ctm l id hl) ?_ ?_ ?_
 ·repeat' first|refine Ai ?_ ?_|exact rfl|exact trivial|exact Ei _ rfl|refine lN ?_|refine bS ?_|fail
 ·exact rfl
 refine Ei [(0,384)] (Ai rfl (Ai ?_ ?_))
 all_goals repeat' first|refine Ai ?_ ?_|exact rfl|exact trivial|exact Ei _ rfl|refine lN ?_|refine bS ?_|fail
theorem newP_ct (id card player z stamp:Int):Ct Tryz.prog 125 [.c (.t (iv id)),.c (.t (iv card)),.c (.t (iv player)),.c (.t (iv z)),.c (.t (iv stamp))] (.agg ((newM id card player z stamp).enc.map .t)) [] true:=by
 refine Ct.litT (b:=false) ?_ rfl
 refine ct_of Tryz.func125 rfl (enters_of Tryz.func125 (by kernel_rfl) rfl) tabOk (by kernel_rfl) rfl rfl rfl rfl fun w0 O _=>Tp.run [] ?_
 refine Ei [] (Ai rfl (Ai ?_ ?_))
 all_goals repeat' first|refine Ai ?_ ?_|exact rfl|exact trivial|exact Ei _ rfl|refine lN ?_|refine bS ?_|fail
theorem movedP_ct (x:GObject) (id z p stamp:Int):Ct Tryz.prog 120 [.agg (x.enc.map .t),.c (.t (iv id)),.c (.t (iv z)),.c (.t (iv p)),.c (.t (iv stamp))] (.agg ((movedM x id z p stamp).enc.map .t)) [] true:=by
 refine Ct.litT (b:=false) ?_ rfl
 generalize hM:movedM x id z p stamp=M
 refine ct_of Tryz.func120 rfl (enters_of Tryz.func120 (by kernel_rfl) rfl) tabOk (by kernel_rfl) rfl rfl rfl rfl fun w0 O _=>Tp.run [4,5] ?_
 refine cI (newP_ct id x.card x.owner z stamp) ⟨rfl,rfl,rfl,rfl,rfl,trivial⟩ (.inl rfl) ?_
 refine cS (fun h0=>?_) (fun h0=>?_)
 ·have hM2:M={ newM id x.card x.owner z stamp with token:=x.token,control:=p,sick:=z==0 }:=by rw [← hM];unfold movedM;rw [if_pos (by rw [show (z==0)=true from h0];rfl)]
  subst hM2
  refine Tp.run [5] ?_
  refine Tp.run [] ?_
  refine Ei [] (Ai rfl (Ai ?_ ?_))
  all_goals repeat' first|refine Ai ?_ ?_|exact rfl|exact trivial|exact Ei _ rfl|refine lN ?_|refine bS ?_|fail
 refine cS (fun h5=>?_) (fun h5=>?_)
 ·have hM2:M={ newM id x.card x.owner z stamp with token:=x.token,control:=p,sick:=z==0 }:=by rw [← hM];unfold movedM;rw [if_pos (by rw [show (z==5)=true from h5,Bool.or_true])]
  subst hM2
  refine Tp.run [5] ?_
  refine Tp.run [] ?_
  refine Ei [] (Ai rfl (Ai ?_ ?_))
  all_goals repeat' first|refine Ai ?_ ?_|exact rfl|exact trivial|exact Ei _ rfl|refine lN ?_|refine bS ?_|fail
 have hM2:M={ newM id x.card x.owner z stamp with token:=x.token,control:=x.owner,sick:=z==0 }:=by rw [← hM];unfold movedM;rw [if_neg (by rw [show (z==5)=false from h5,show (z==0)=false from h0];decide)]
 subst hM2
 refine Tp.run [] ?_
 refine Ei [] (Ai rfl (Ai ?_ ?_))
 all_goals repeat' first|refine Ai ?_ ?_|exact rfl|exact trivial|exact Ei _ rfl|refine lN ?_|refine bS ?_|fail
theorem insO_ctm (l:List GObject) (o:GObject) (hl:l.length*128≤limB):CtM Tryz.prog 169 [.c (.row 0 0),.c (.t (iv (l.length:Int))),.c (.row 1 0)] [] [⟨49,19,0,l.map GObject.enc,none⟩,⟨49,19,0,[o.enc],none⟩] (.c (.row 0 1)) [] [⟨49,19,1,(l++[o]).map GObject.enc,none⟩,⟨49,19,0,[o.enc],none⟩] []:=by
 refine ctm_of 2 Tryz.func169 rfl (enters_of Tryz.func169 (by kernel_rfl) rfl) tabOk (by kernel_rfl) rfl rfl rfl rfl rfl fun w0 O _=>Tp.run [7,8] ?_
 refine Ei l.length (Ai rfl (Ai (by rw [Lm];exact Nat.le_refl _) ?_))
 refine cond_t (by simp) ?_
 refine Tp.run [] ?_
 refine Ai (.inl rfl) (Ai ?_ (Ai ?_ ?_))
 ·rw [Lm]
  show (l.length+1)*128≤_
  unfold limB at hl
  omega
 ·rw [Lm]
  show l.length+1 < _
  unfold limB at hl
  omega
 refine Ei [(0,0),(1,1)] (Ai (Ai rfl (Ai ?_ (Ai ?_ ?_))) ?_)
 ·repeat' first|refine Ai ?_ ?_|exact rfl|exact trivial|exact Ei _ rfl|refine lN ?_|refine bS ?_|fail
  all_goals exact (List.map_append (l₁:=l) (l₂:=[o]) (f:=GObject.enc)).symm
 all_goals repeat' first|refine Ai ?_ ?_|exact rfl|exact trivial|exact Ei _ rfl|refine lN ?_|refine bS ?_|fail
end Go.Proofs.YtmloamomcbmfhaaGreat
end
section
namespace Go.Proofs.YtmloamomcbmfhaaGreat
open Go Go.RowKit Go.Sort Go.Shelf Cg
def Bn (w:World) (b:Nat) (t:TypeId) (cs:List Value):Prop:=∃ cur:Array Value,w.heap[b]? = some (.cells cur t (0,0))∧∀ (j:Nat) (u:Value),cs[j]? = some u→cur[j]? = some u
theorem Bn.lt {w:World} {b:Nat} {t:TypeId} {cs:List Value} (h:Bn w b t cs):b < w.heap.size:=by
 obtain ⟨cur,h,_⟩:=h
 exact (Array.getElem?_eq_some_iff.1 h).1
theorem Bn.cell {w:World} {b:Nat} {t:TypeId} {cs:List Value} (h:Bn w b t cs) (i:Nat) (u:Value) (hu:cs[i]? = some u):w.cell? ⟨b,i,none⟩=some u:=by
 obtain ⟨cur,h1,h2⟩:=h
 rw [cell_of_row _ _ i _ _ _ h1]
 exact h2 i u hu
theorem Bn.frozen {w:World} {b:Nat} {t:TypeId} {cs:List Value} (h:Bn w b t cs) (i:Nat):w.frozen? ⟨b,i,none⟩=false:=by
 obtain ⟨cur,h1,h2⟩:=h
 simp [World.frozen?,h1]
def bnSize (w:World) (b:Nat):Nat:=match w.heap[b]? with
 | some (.cells cur _ _)=>cur.size
 | _=>0
theorem Bn.shape {w:World} {b:Nat} {t:TypeId} {cs:List Value} (h:Bn w b t cs):w.shape? b=some (t,bnSize w b):=by
 obtain ⟨cur,h1,h2⟩:=h
 simp [World.shape?,bnSize,h1]
theorem insNSize:(Tryz.prog.info? 3).map (·.size)=some 1:=by kernel_rfl
theorem insNOvl (w:World) (a b:Addr) (la ca lb cb:Nat) (hne:a.block≠b.block) (tA tB:TypeId) (kA kB:Nat)
  (hsa:w.shape? a.block=some (tA,kA)) (hsb:w.shape? b.block=some (tB,kB)) (hkB:kB≠0)
  (hfa:w.frozen? a=false) (hfe:w.frozen? { block:=a.block,off:=kA }=false):(callFunc 170 #[.slice (some a) la ca,.slice (some b) lb cb]).run Tryz.prog w=.ok (.value (.bool false)) w:=by
 rw [run_callFunc_extern Tryz.func170 (by kernel_rfl) (by kernel_rfl) (by kernel_rfl) (e:=Extern.SlicesOverlaps.overlaps #[25,25] #[4]) (by kernel_rfl),
  Lib.run_overlaps_apart w 25 4 3 Tryz.underlying25 1 (fun w=>by kernel_rfl) a b la ca lb cb hne tA tB kA kB hsa hsb hkB hfa hfe]
 rfl
theorem insNShift (base g n c i nb cb:Nat) (es:List (Cl 1)) (y:Cl 1) (w:World) (hb:BlkC 1 3 w g es) (hh:HdC base 3 1 w g c) (hl:es.length=n) (hi:i < n) (hroom:n+1≤c) (hnb:Bn w nb 3 y.1) (hne:nb≠g) :
  Calls Tryz.prog 123 #[.slice (some ⟨g,0,none⟩) n c,.int .i64 i,.slice (some ⟨nb,0,none⟩) 1 cb] w fun e w'=>e=.returned (.slice (some ⟨g,0,none⟩) (n+1) c)∧w'=(w.drew.setCells g ((i+1)) ((es.drop i).flatMap Subtype.val)).setCells g (i) y.1:=by
 obtain ⟨h0,hc63,cur,hg,hcs⟩:=hh
 have hdl:((es.drop i).flatMap Subtype.val).length=(n - i)*1:=by rw [flat_len Cl.len,List.length_drop,hl]
 have hin:∀ j,j < (n+1)*1→(w.cell? ⟨g,j,none⟩).isSome=true:=fun j hj=>by
  rw [cell_of_row _ _ j _ _ _ hg,Array.getElem?_eq_getElem (by rw [hcs];exact Nat.lt_of_lt_of_le hj (Nat.mul_le_mul_right _ hroom))]
  rfl
 have hfz:∀ j,w.frozen? ⟨g,j,none⟩=false:=fun j=>hb.frozen j
 have hov:∀ lb ch,(callFunc 170 #[.slice (some ⟨nb,0,none⟩) 1 cb,.slice (some ⟨g,(i+1),none⟩) lb ch]).run Tryz.prog w=.ok (.value (.bool false)) w:=fun lb ch=>
  insNOvl w ⟨nb,0,none⟩ ⟨g,(i+1),none⟩ 1 1 lb cb hne 3 3 _ (c*1) hnb.shape (by simp [World.shape?,hg,hcs]) (by omega) (hnb.frozen 0) (hnb.frozen _)
 obtain ⟨W1,hW1⟩:∃ W1,W1=w.drew.setCells g ((i+1)) ((es.drop i).flatMap Subtype.val):=⟨_,rfl⟩
 have hcp1:∀ ty dc sc,(Builtin.copy_ #[25,25] ty #[.slice (some ⟨g,(i+1),none⟩) (n - i) dc,.slice (some ⟨g,i,none⟩) (n+1 - i) sc]).run Tryz.prog w.drew=.ok (goInt (Nat.min (n+1 - i) (n - i))) W1:=fun ty dc sc=>by
  rw [hW1]
  refine run_copy_cellsK w.drew _ _ ty 3 1 g ((i+1)) (n - i) dc ⟨g,i,none⟩ (n+1 - i) sc _ Tryz.underlying25 insNSize (by rw [hdl];simp only [Nat.min_def];split <;> congr 1 <;> omega)
   (fun j v hj=>?_) (fun j hj=>hin _ (by rw [hdl] at hj;omega)) (fun j hj=>hfz _) (fun u hu=>by
    obtain ⟨x,_,hx⟩:=List.mem_flatMap.1 hu
    exact Cl.one x u hx)
  rw [Addr.add_lit]
  have hj1:=(List.getElem?_eq_some_iff.1 hj).1
  rw [hdl] at hj1
  have hq:j / 1 < (es.drop i).length:=by rw [List.length_drop,hl];omega
  have hg2:=flat_get (enc:=Subtype.val) Cl.len (es.drop i) (j / 1) _ (List.getElem?_eq_getElem hq) (j % 1) (Nat.mod_lt _ (by decide))
  rw [show j / 1*1+j % 1=j by omega,hj] at hg2
  rw [List.getElem_drop] at hg2
  have:=hb.cell (i+j / 1) _ (List.getElem?_eq_getElem (by rw [List.length_drop] at hq;omega)) (j % 1) v hg2.symm
  rw [show (i+j / 1)*1+j % 1=i*1+j by omega] at this
  rw [Nat.mul_one] at this
  exact this
 have hsp1:∀ j,j < (n+1)*1→(W1.cell? ⟨g,j,none⟩).isSome=true:=fun j hj=>by
  rw [hW1]
  exact isSome_setCells g ((es.drop i).flatMap Subtype.val) ((i+1)) w.drew (fun t ht=>hin ((i+1)+t) (by rw [hdl] at ht;omega)) j (hin j hj)
 have hcp2:∀ (W:World),(∀ x,W.cell? x=W1.cell? x)→(∀ x,W.frozen? x=W1.frozen? x)→∀ ty dc,(Builtin.copy_ #[25,25] ty #[.slice (some ⟨g,i,none⟩) (n+1 - i) dc,.slice (some ⟨nb,0,none⟩) 1 cb]).run Tryz.prog W=.ok (goInt (Nat.min 1 (n+1 - i))) (W.setCells g (i) y.1):=fun W hWc hWf ty dc=>
  run_copy_cellsK W _ _ ty 3 1 g (i) (n+1 - i) dc ⟨nb,0,none⟩ 1 cb y.1 Tryz.underlying25 insNSize (by rw [y.len,show Nat.min 1 (n+1 - i)=1 by simp only [Nat.min_def];split <;> omega])
   (fun j v hj=>by
    rw [Addr.add_lit,hWc,hW1,World.cell?_setCells_out g _ _ _ _ (fun h _=>absurd h hne),Nat.zero_add]
    exact hnb.cell j v hj)
   (fun j hj=>by rw [hWc];exact hsp1 _ (by rw [y.len] at hj;omega)) (fun j hj=>by rw [hWf,hW1,World.frozen?_setCells];exact hfz _) y.one
 rw [← hW1]
 have HCP1:=Lib.hid hcp1
 have HCP2:=Lib.hid hcp2
 have HOV:=Lib.hid hov
 have hz2:((i:Int)==(n:Int))=false:=beq_eq_false_iff_ne.2 (by omega)
 have hz2':¬ ((i:Int)=(n:Int)):=by omega
 have hcm:c≤9223372036854775807:=by have:=hc63;simp only [maxLen] at this;omega
 have hz3:¬ ((c:Int) < (n:Int)+1):=by omega
 have hw0:(0:Int)≤(i:Int)+1:=by omega
 have hw1:IntKind.i64.wrap ((i:Int)+1)=(i:Int)+1:=by rw [IntKind.wrap_i64];omega
 have hw2:IntKind.i64.wrap ((n:Int)+1)=(n:Int)+1:=by rw [IntKind.wrap_i64];omega
 have hin2:i≤n:=by omega
 have hin3:i+1≤n+1:=by omega
 have hin4:i≤n+1:=by omega
 have hnc:n≤c:=by omega
 have hb3:(i:Int)≤(n:Int)+1:=by omega
 have hb2:¬ (c=i+1):=by omega
 have hb4:¬ (c=i):=by omega
 clear hin hfz hov hcp1 hcp2 hsp1 hW1 hdl hb hg hcs h0 hc63 hnb
 go_enter Tryz.func123,Tryz.ntmps123
 go_wp2_with (simp only [HOV.out])
 go_region_law (refine step_copy_runI rfl (.tmp 73) (.tmp 76) 25 25 rfl (.slice (some ⟨g,(i+1),none⟩) (n - i) (c - (i+1))) (.slice (some ⟨g,i,none⟩) (n+1 - i) (c - i)) (by simp [Act.eval,Act.put]) (by simp [Act.eval,Act.put]) (HCP1.out _ _ _) ?_)
 have hq2:=HCP2.out W1 (fun _=>rfl) (fun _=>rfl)
 go_wp2_with fail
 go_ret
 exact ⟨rfl,rfl⟩
theorem insNGrow (base g n c i nb cb:Nat) (es:List (Cl 1)) (y:Cl 1) (w:World) (hb:BlkC 1 3 w g es) (hl:es.length=n) (hi:i < n) (hnc:n≤c) (hroom:c < n+1) (hbig:(n+1)*8≤140737488355328) (hnb:Bn w nb 3 y.1) (hbase:base≤w.heap.size) :
  Calls Tryz.prog 123 #[.slice (some ⟨g,0,none⟩) n c,.int .i64 i,.slice (some ⟨nb,0,none⟩) 1 cb] w fun e w'=>∃ G,e=.returned (.slice (some ⟨w.heap.size,0,none⟩) (n+1) G)∧w'.ownsRow base 3 1 (.slice (some ⟨w.heap.size,0,none⟩) (n+1) G) (n+1) ((es.take i++y :: es.drop i).flatMap Subtype.val)∧Below w.heap.size w w':=by
 obtain ⟨z,ht,hzs,hsz,i0,hi0,hz0,hs0,hby0⟩:=elemint
 have hgw:=hb.lt
 have hnw:=hnb.lt
 have hdl:((es.drop i).flatMap Subtype.val).length=(n - i)*1:=by rw [flat_len Cl.len,List.length_drop,hl]
 have htl:((es.take i).flatMap Subtype.val).length=i*1:=by rw [flat_len Cl.len,List.length_take,hl,Nat.min_eq_left (by omega)]
 have hkk:(n:Int)+1 - (i:Int)=((n+1 - i:Nat):Int):=by omega
 have hik:i+(n+1 - i)=n+1:=by omega
 have srcG:∀ j v,(es.flatMap Subtype.val)[j]? = some v→w.cell? ⟨g,j,none⟩=some v:=fun j v hj=>by
  have hj1:=(List.getElem?_eq_some_iff.1 hj).1
  rw [flat_len Cl.len,hl] at hj1
  have hq:j / 1 < es.length:=by rw [hl];omega
  have hg2:=flat_get (enc:=Subtype.val) Cl.len es (j / 1) _ (List.getElem?_eq_getElem hq) (j % 1) (Nat.mod_lt _ (by decide))
  rw [show j / 1*1+j % 1=j by omega,hj] at hg2
  have:=hb.cell (j / 1) _ (List.getElem?_eq_getElem hq) (j % 1) v hg2.symm
  rw [show j / 1*1+j % 1=j by omega] at this
  exact this
 have hsplit:es.flatMap Subtype.val=(es.take i).flatMap Subtype.val++(es.drop i).flatMap Subtype.val:=by rw [← List.flatMap_append,List.take_append_drop]
 have hold:(Builtin.firstCells i0.size i (.slice (some ⟨g,0,none⟩) i c)).run Tryz.prog w.drew=.ok ((es.take i).flatMap Subtype.val).toArray w.drew:=by
  rw [hs0]
  exact run_firstCells_some w.drew 1 i ⟨g,0,none⟩ i c _ htl (fun j v hj=>by
   rw [Addr.add_lit,Nat.zero_add]
   refine srcG j v ?_
   rw [hsplit,List.getElem?_append_left (List.getElem?_eq_some_iff.1 hj).1]
   exact hj)
 have hrz:∀ ty,(Builtin.append_ #[25,3] ty #[.slice (some ⟨g,0,none⟩) i c,.int .i64 ((n:Int)+1 - (i:Int))]).run Tryz.prog w =
   .ok (.slice (some ⟨w.heap.size,0,none⟩) (n+1) (grownCap w (n+1) c 3)) (w.drew.alloc (.cells (((es.take i).flatMap Subtype.val).toArray++Builtin.zeroCells z.cells (n+1 - i)++Builtin.zeroCells z.cells (grownCap w (n+1) c 3 - (n+1))) 3)):=fun ty=>by
  have h:=Lib.run_append_grow_zeros w 25 3 ty 3 i0 _ .i64 .i64 ht Tryz.underlying3 hi0 hz0 (some ⟨g,0,none⟩) i c _ hold (n+1 - i) (by omega) (by omega) (by omega) (by omega) (by rw [hby0];omega) (by rw [hby0,hik];exact growslice_fits hroom hbig)
  rw [hik] at h
  rw [hkk]
  exact h
 obtain ⟨G,hG⟩:∃ G,G=grownCap w (n+1) c 3:=⟨_,rfl⟩
 have hGn:n+1≤G:=by rw [hG];exact grownCap_ge w _ _ _
 have hGm:G≤maxLen:=by rw [hG];exact grownCap_le_maxLen w (n+1) c 3 (by unfold maxLen;omega)
 obtain ⟨ROW,hROW⟩:∃ ROW:Array Value,ROW=((es.take i).flatMap Subtype.val).toArray++Builtin.zeroCells z.cells (n+1 - i)++Builtin.zeroCells z.cells (G - (n+1)):=⟨_,rfl⟩
 rw [← hG,← hROW] at hrz
 have hRl:ROW.size=G*1:=by
  rw [hROW,Array.size_append,Array.size_append,size_zeroCells,size_zeroCells,hzs,List.size_toArray,htl]
  omega
 obtain ⟨W1,hW1⟩:∃ W1,W1=w.drew.alloc (.cells ROW 3):=⟨_,rfl⟩
 rw [← hW1] at hrz
 have hrow:W1.heap[w.heap.size]? = some (.cells ROW 3 (0,0)):=by rw [hW1];exact heap_alloc_new w.drew _
 have hN:∀ j,j < (n+1)*1→(W1.cell? ⟨w.heap.size,j,none⟩).isSome=true:=fun j hj=>by
  rw [cell_of_row _ _ j _ _ _ hrow,Array.getElem?_eq_getElem (by rw [hRl];exact Nat.lt_of_lt_of_le hj (Nat.mul_le_mul_right _ hGn))]
  rfl
 have hNf:∀ j,W1.frozen? ⟨w.heap.size,j,none⟩=false:=fun j=>by simp [World.frozen?,hrow]
 have hOld:∀ b,b < w.heap.size→W1.heap[b]? = w.heap[b]?:=fun b hlt=>by rw [hW1];exact heap_alloc_old w.drew _ hlt
 have hcpA:∀ ty dc,(Builtin.copy_ #[25,25] ty #[.slice (some ⟨w.heap.size,i,none⟩) (n+1 - i) dc,.slice (some ⟨nb,0,none⟩) 1 cb]).run Tryz.prog W1=.ok (goInt (Nat.min 1 (n+1 - i))) (W1.setCells w.heap.size (i) y.1):=fun ty dc=>
  run_copy_cellsK W1 _ _ ty 3 1 w.heap.size (i) (n+1 - i) dc ⟨nb,0,none⟩ 1 cb y.1 Tryz.underlying25 insNSize (by rw [y.len,show Nat.min 1 (n+1 - i)=1 by simp only [Nat.min_def];split <;> omega])
   (fun j v hj=>by
    rw [Addr.add_lit,Nat.zero_add]
    exact (World.cell?_of_block (a:=⟨nb,j,none⟩) (hOld nb hnw)).trans (hnb.cell j v hj))
   (fun j hj=>hN _ (by rw [y.len] at hj;omega)) (fun j hj=>hNf _) y.one
 obtain ⟨W2,hW2⟩:∃ W2,W2=W1.setCells w.heap.size (i) y.1:=⟨_,rfl⟩
 rw [← hW2] at hcpA
 have hcpB:∀ ty dc sc,(Builtin.copy_ #[25,25] ty #[.slice (some ⟨w.heap.size,(i+1),none⟩) (n - i) dc,.slice (some ⟨g,i,none⟩) (n - i) sc]).run Tryz.prog W2.drew=.ok (goInt (Nat.min (n - i) (n - i))) (W2.drew.setCells w.heap.size ((i+1)) ((es.drop i).flatMap Subtype.val)):=fun ty dc sc=>
  run_copy_cellsK W2.drew _ _ ty 3 1 w.heap.size ((i+1)) (n - i) dc ⟨g,i,none⟩ (n - i) sc _ Tryz.underlying25 insNSize (by rw [hdl,show Nat.min (n - i) (n - i)=n - i from Nat.min_self _])
   (fun j v hj=>by
    rw [Addr.add_lit]
    have e1:W2.heap[g]? = w.heap[g]?:=by rw [hW2,heap_sets _ _ _ _ g (by omega)];exact hOld g hgw
    refine (World.cell?_of_block (w:=w) (w':=W2.drew) (a:=⟨g,i+j,none⟩) e1).trans (srcG (i+j) v ?_)
    rw [hsplit,List.getElem?_append_right (by rw [htl];omega),htl,show i+j - i*1=j by omega]
    exact hj)
   (fun j hj=>by
    show (W2.cell? _).isSome=true
    rw [hW2]
    exact isSome_setCells w.heap.size y.1 (i) W1 (fun t ht=>hN (i+t) (by rw [y.len] at ht;omega)) _ (hN _ (by rw [hdl] at hj;omega)))
   (fun j hj=>by
    show W2.frozen? _=false
    rw [hW2,World.frozen?_setCells]
    exact hNf _) (fun u hu=>by
    obtain ⟨x,_,hx⟩:=List.mem_flatMap.1 hu
    exact Cl.one x u hx)
 have HF:=Lib.hid (show (W2.drew.setCells w.heap.size ((i+1)) ((es.drop i).flatMap Subtype.val)).ownsRow base 3 1 (.slice (some ⟨w.heap.size,0,none⟩) (n+1) G) (n+1) ((es.take i++y :: es.drop i).flatMap Subtype.val)∧Below w.heap.size w (W2.drew.setCells w.heap.size ((i+1)) ((es.drop i).flatMap Subtype.val)) by
  have hd:HdC base 3 1 W1 w.heap.size G:=⟨hbase,hGm,ROW,hrow,hRl⟩
  have htl2:(es.take i).length=i:=by rw [List.length_take,hl,Nat.min_eq_left (by omega)]
  have b1:BlkC 1 3 W1 w.heap.size (es.take i):=⟨ROW,hrow,by rw [hRl,htl2];exact Nat.mul_le_mul_right _ (by omega),fun j x hj q u hu=>by
   have hq:q < 1:=by have:=(List.getElem?_eq_some_iff.1 hu).1;rwa [Cl.len] at this
   have hjl:=(List.getElem?_eq_some_iff.1 hj).1
   rw [htl2] at hjl
   have:=flat_get (enc:=Subtype.val) Cl.len (es.take i) j x hj q hq
   rw [hROW,Array.append_assoc,Array.getElem?_append_left (by rw [List.size_toArray,htl];omega),List.getElem?_toArray,this]
   exact hu⟩
  obtain ⟨b2,d2⟩:=BlkC.write b1 hd i [y] (by rw [htl2];exact Nat.le_refl _) (by rw [List.length_singleton];omega)
  rw [List.flatMap_cons,List.flatMap_nil,List.append_nil] at b2 d2
  have e2:(es.take i).take i++[y]++(es.take i).drop (i+[y].length)=es.take i++[y]:=by
   rw [List.take_of_length_le (by omega),List.drop_eq_nil_of_le (by rw [htl2];omega),List.append_nil]
  rw [e2] at b2
  have hl3:(es.take i++[y]).length=i+1:=by rw [List.length_append,htl2,List.length_singleton]
  obtain ⟨b3,d3⟩:=BlkC.write (w:=W2.drew) (es:=es.take i++[y]) (by rw [hW2];rw [Nat.mul_one] at b2;exact b2) (by rw [hW2];rw [Nat.mul_one] at d2;exact d2) (i+1) (es.drop i) (by rw [hl3];exact Nat.le_refl _) (by rw [List.length_drop,hl];omega)
  have e3:(es.take i++[y]).take (i+1)++es.drop i++(es.take i++[y]).drop (i+1+(es.drop i).length)=es.take i++y :: es.drop i:=by
   rw [show (es.take i++[y]).take (i+1)=es.take i++[y] from List.take_of_length_le (by omega),show (es.take i++[y]).drop (i+1+(es.drop i).length)=[] from List.drop_eq_nil_of_le (by rw [hl3];omega),List.append_nil,List.append_assoc,List.singleton_append]
  rw [e3] at b3
  have hl4:(es.take i++y :: es.drop i).length=n+1:=by rw [List.length_append,htl2,List.length_cons,List.length_drop,hl];omega
  refine ⟨?_,?_⟩
  ·have:=own_of b3 d3 (by rw [hl4];exact hGn)
   rw [hl4] at this
   rw [Nat.mul_one] at this
   exact this
  ·refine below_sets _ _ _ ?_ _ (Nat.le_refl _)
   show Below w.heap.size w W2.drew
   rw [hW2]
   refine Below.drew (below_sets _ _ _ ?_ _ (Nat.le_refl _))
   rw [hW1]
   exact ((Below.refl w.heap.size w).drew).alloc (Nat.le_refl _) _)
 have hGi:¬ (G=i):=by omega
 have hGim:¬ (G=i+1):=by omega
 have hci:¬ (c=i):=by omega
 have hG63:G≤9223372036854775807:=by have:=hGm;simp only [maxLen] at this;omega
 have hz2:((i:Int)==(n:Int))=false:=beq_eq_false_iff_ne.2 (by omega)
 have hz2':¬ ((i:Int)=(n:Int)):=by omega
 have hz3:(c:Int) < (n:Int)+1:=by omega
 have hw0:(0:Int)≤(i:Int)+1:=by omega
 have hw1:IntKind.i64.wrap ((i:Int)+1)=(i:Int)+1:=by rw [IntKind.wrap_i64];omega
 have hw2:IntKind.i64.wrap ((n:Int)+1)=(n:Int)+1:=by rw [IntKind.wrap_i64];omega
 have hw3:IntKind.i64.wrap ((n:Int)+1 - (i:Int))=(n:Int)+1 - (i:Int):=by rw [IntKind.wrap_i64];omega
 have hin:i≤n:=by omega
 have hic:i≤c:=by omega
 have hin4:i≤n+1:=by omega
 have hin3:i+1≤n+1:=by omega
 have hb3:(i:Int)≤(n:Int)+1:=by omega
 have hb5:(i:Int)≤(n:Int):=by omega
 have HRZ:=Lib.hid hrz
 have HCPB:=Lib.hid hcpB
 clear hrz hcpB hROW hRl hrow hN hNf hOld hW1 hW2 hdl htl hkk hik srcG hsplit hold hG hGm hb hnb hz0 hi0 ht hzs hsz hs0 hby0
 go_enter Tryz.func123,Tryz.ntmps123
 go_wp2_with (at_builtin;refine Lib.wpList_append_run _ rfl _ _ _ _ rfl _ _ rfl rfl _ _ (HRZ.out _) ?_)
 go_region_law (refine step_copy_runI rfl (.tmp 50) (.tmp 53) 25 25 rfl (.slice (some ⟨w.heap.size,(i+1),none⟩) (n - i) (G - (i+1))) (.slice (some ⟨g,i,none⟩) (n - i) (c - i)) (by simp [Act.eval,Act.put]) (by simp [Act.eval,Act.put]) (HCPB.out _ _ _) ?_)
 go_wp2_with fail
 go_ret
 exact ⟨G,rfl,HF.out⟩
theorem insNAll (base:Nat) (v:Value) (es:List (Cl 1)) (i nb cb:Nat) (y:Cl 1) (w:World) (hown:w.ownsRow base 3 1 v es.length (es.flatMap Subtype.val)) (hi:i≤es.length) (hbig:(es.length+1)*8≤140737488355328) (hnb:Bn w nb 3 y.1) (hne:v.ownBlock≠some nb) (hbase:base≤w.heap.size) :
  Calls Tryz.prog 123 #[v,.int .i64 i,.slice (some ⟨nb,0,none⟩) 1 cb] w fun e w'=>∃ ao m c,e=.returned (.slice ao m c)∧w'.ownsRow base 3 1 (.slice ao m c) (es.length+1) ((es.take i++y :: es.drop i).flatMap Subtype.val)∧w.grownBy w' v.ownBlock∧((Value.slice ao m c).ownBlock=v.ownBlock∨(Value.slice ao m c).ownBlock=some w.heap.size):=by
 by_cases hend:i=es.length
 ·obtain ⟨z,hE⟩:=elemint
  have HE:=Lib.hid hE
  have HOWN:=Lib.hid hown
  have HNB:=Lib.hid hnb
  obtain ⟨n,hn⟩:∃ n,n=es.length:=⟨_,rfl⟩
  obtain ⟨p,m,c,rfl⟩:=own_sl hown
  obtain ⟨hmn,hcn,hnil,hat⟩:=own_cap hown
  subst hmn
  rw [← hn] at HOWN hcn hbig hend ⊢
  subst hend
  have hyl:y.1.length=1*1:=by rw [y.len]
  have hes:es.take i=es:=List.take_of_length_le (by omega)
  have hes2:es.drop i=[]:=List.drop_eq_nil_of_le (by omega)
  rw [hes,hes2,List.flatMap_append,List.flatMap_cons,List.flatMap_nil,List.append_nil]
  obtain ⟨fs,hfs⟩:∃ fs,fs=es.flatMap Subtype.val:=⟨_,rfl⟩
  rw [← hfs] at HOWN ⊢
  have hc63:c≤9223372036854775807:=by
   rcases hown.2 with ⟨hv,_⟩|⟨g',cap',cur,hv,_,_,_,hm,_⟩
   ·simp only [Value.slice.injEq] at hv;omega
   ·simp only [Value.slice.injEq] at hv
    have:=hm
    simp only [maxLen] at this
    omega
  rw [← hn] at hown
  obtain ⟨ob,hob⟩:∃ ob,ob=(Value.slice p i c).ownBlock:=⟨_,rfl⟩
  have HOB:=Lib.hid hob
  rw [← hob]
  clear hes hes2 hnil hat hE hown hnb hfs hn hi hob hne
  go_enter Tryz.func123,Tryz.ntmps123
  go_wp2_with (at_builtin;refine wpList_append_own2 rfl (.tmp 23) (.tmp 24) 25 rfl base HE.out (.slice p i c) i fs rfl HOWN.out ⟨nb,0,none⟩ 1 cb y.1 rfl hyl (fun j u hj=>by rw [Addr.add_lit,Nat.zero_add];exact HNB.out.cell j u hj) y.one (by simp only [maxLen];omega) hbig hbase (by decide) ?_;intro v1 w1 own1 gr1 fr1;have O1:=Lib.hid own1;have G1:=Lib.hid gr1;have F1:=Lib.hid fr1;clear own1 gr1 fr1)
  all_goals
   go_ret
   obtain ⟨p1,m1,c1,rfl⟩:=own_sl O1.out
   exact ⟨_,_,_,rfl,O1.out,by rw [HOB.out];exact G1.out,by rw [HOB.out];exact F1.out⟩
 ·have hlt:i < es.length:=by omega
  rcases own_form hown with ⟨cap,rfl,h0⟩|⟨g,c,rfl⟩
  ·omega
  ·have hgb:=(hown.lt g rfl)
   obtain ⟨_,hcn,_,_⟩:=own_cap hown
   have hne2:nb≠g:=fun e=>hne (by rw [e];rfl)
   have hb:=own_blkC hown rfl
   have hd:=hdC_of hown
   by_cases hroom:es.length+1≤c
   ·refine (insNShift base g es.length c i nb cb es y w hb hd rfl hlt hroom hnb hne2).mono ?_
    rintro e w' ⟨rfl,rfl⟩
    refine ⟨_,_,_,rfl,?_,⟨?_,?_,?_,by rw [sets_size,sets_size];exact Nat.le_refl _,fun q hq hr=>?_⟩,.inl rfl⟩
    ·obtain ⟨b1,d1⟩:=BlkC.write (w:=w.drew) hb hd (i+1) (es.drop i) (by omega) (by rw [List.length_drop];omega)
     have e1:es.take (i+1)++es.drop i++es.drop (i+1+(es.drop i).length)=es.take (i+1)++es.drop i:=by
      rw [show es.drop (i+1+(es.drop i).length)=[] from List.drop_eq_nil_of_le (by rw [List.length_drop];omega),List.append_nil]
     rw [e1] at b1
     have l1:(es.take (i+1)++es.drop i).length=es.length+1:=by rw [List.length_append,List.length_take,List.length_drop];omega
     obtain ⟨b2,d2⟩:=BlkC.write b1 d1 i [y] (by omega) (by rw [List.length_singleton];omega)
     have e2:(es.take (i+1)++es.drop i).take i++[y]++(es.take (i+1)++es.drop i).drop (i+[y].length)=es.take i++y :: es.drop i:=by
      rw [List.take_append_of_le_length (by rw [List.length_take];omega),List.take_take,Nat.min_eq_left (by omega),List.length_singleton,List.drop_left' (by rw [List.length_take];omega),List.append_assoc,List.singleton_append]
     rw [e2,List.flatMap_cons,List.flatMap_nil,List.append_nil] at b2
     rw [List.flatMap_cons,List.flatMap_nil,List.append_nil] at d2
     have l2:(es.take i++y :: es.drop i).length=es.length+1:=by rw [List.length_append,List.length_take,List.length_cons,List.length_drop];omega
     have:=own_of b2 d2 (by rw [l2];exact hroom)
     rw [l2] at this
     simp only [Nat.mul_one] at this
     exact this
    ·have:=below_sets y.1 (i) _ (below_sets ((es.drop i).flatMap Subtype.val) ((i+1)) _ ((Below.refl base w).drew) g hgb.1) g hgb.1
     exact this.os
    ·have:=below_sets y.1 (i) _ (below_sets ((es.drop i).flatMap Subtype.val) ((i+1)) _ ((Below.refl base w).drew) g hgb.1) g hgb.1
     exact this.tape
    ·have:=below_sets y.1 (i) _ (below_sets ((es.drop i).flatMap Subtype.val) ((i+1)) _ ((Below.refl base w).drew) g hgb.1) g hgb.1
     exact this.output
    ·have hqg:q≠g:=fun e=>hr (by rw [e];rfl)
     rw [heap_sets _ _ _ _ q hqg,heap_sets _ _ _ _ q hqg]
     rfl
   ·refine (insNGrow base g es.length c i nb cb es y w hb rfl hlt hcn (by omega) hbig hnb hbase).mono ?_
    rintro e w' ⟨G,rfl,own,bel⟩
    exact ⟨_,_,_,rfl,own,⟨bel.os,bel.tape,bel.output,bel.size,fun q hq _=>bel.block q hq⟩,.inr rfl⟩
end Go.Proofs.YtmloamomcbmfhaaGreat
end
section
namespace Go.Proofs.YtmloamomcbmfhaaGreat
open Go Cg Go.RowKit Go.Sort
theorem own2_ctm {P:Program} {f:FuncId} {ty k ty2 k2:Nat} {a:AV} {xs xs' xs2:List (List Tr)} (he:Ent P f)
  (hr:∀ (n0:Nat) (w:World) (v u v2:Value) (es:List (Cl k)) (es2:List (Cl k2)) (E0:Env),n0≤w.heap.size→w.ownsRow n0 ty k v es.length (es.flatMap Subtype.val)→Ets E0.F w es xs→w.ownsRow n0 ty2 k2 v2 es2.length (es2.flatMap Subtype.val)→Ets E0.F w es2 xs2→(∀ g,v.ownBlock=some g→v2.ownBlock≠some g)→R1 E0 w u a→Calls P f #[v,u,v2] w fun e w'=>∃ (v':Value) (es':List (Cl k)),e=.returned v'∧w'.ownsRow n0 ty k v' es'.length (es'.flatMap Subtype.val)∧w.grownBy w' v.ownBlock∧(∀ g,v'.ownBlock=some g→v.ownBlock=some g∨w.heap.size≤g)∧∀ F:Nat→Prop,Ets F w es xs→Ets F w es2 xs2→(∀ b,F b→b < w.heap.size→w'.heap[b]? = w.heap[b]?)→Ets F w' es' xs') :
  CtM P f [.c (.row 0 0),a,.c (.row 1 0)] [] [⟨ty,k,0,xs,none⟩,⟨ty2,k2,0,xs2,none⟩] (.c (.row 0 1)) [] [⟨ty,k,1,xs',none⟩,⟨ty2,k2,0,xs2,none⟩] []:=by
 refine ⟨he,Nat.zero_le _,fun R hR=>?_,rfl,rfl,fun b hb=>(by cases hb),fun p hp=>?_,fun i cs h=>(by simp at h),fun w0 w vs E0 hb0 ha hbx hrw hrl hlow=>?_⟩
 ·simp only [List.append_nil,List.mem_cons,List.not_mem_nil,or_false] at hR
  rcases hR with rfl|rfl <;> rfl
 ·obtain rfl:p=(0,1):=by simpa [AV.rids,AV.rid1,Ce.rids] using hp
  exact ⟨_,rfl,Nat.le_refl _⟩
 cases ha with
 | cons hv hus=>
 cases hus with
 | cons hu hus=>
 cases hus with
 | cons hv2 hus=>
  cases hus
  rename_i v u v2
  have hR2:RR E0 w w0.heap.size 1 ⟨ty2,k2,0,xs2,none⟩:=hrw 1 _ rfl
  obtain ⟨es,h1,h2,h3⟩:=(hrw 0 _ rfl).ow rfl
  obtain ⟨es2,g1,g2,g3⟩:=hR2.ow rfl
  have hv0:v=E0.vl 0 0:=hv.1
  have hv20:v2=E0.vl 1 0:=hv2.1
  simp only at h1 h3 g1 g3
  rw [← hv0] at h1 h3
  rw [← hv20] at g1 g3
  refine (hr w0.heap.size w v u v2 es es2 E0 hb0.size h1 h2 g1 g2 (fun g q1 q2=>by
   have:=(h3 g q1).symm.trans (g3 g q2)
   cases this) hu).mono ?_
  rintro e w' ⟨v',es',rfl,hown,hg,hob,hets⟩
  have hne:∀ b,b < w.heap.size→E0.rl b=.cold∨E0.rl b=.non∨E0.rl b=.rw 1→w'.heap[b]? = w.heap[b]?:=fun b hlt hc=>hg.block b hlt fun e=>by
   rw [h3 b e.symm] at hc
   rcases hc with h|h|h <;> cases h
  refine ⟨v',rfl,⟨hg.os.trans hb0.os,hg.tape.trans hb0.tape,hg.output.trans hb0.output,Nat.le_trans hb0.size hg.size,fun b hb=>(hne b (Nat.lt_of_lt_of_le hb hb0.size) (by rcases hlow b hb with h|h;exact .inl h;exact .inr (.inl h))).trans (hb0.block b hb)⟩,hg.size,⟨fun b=>if b < w.heap.size then E0.rl b else .rw 0,E0.bk,fun j u=>if j=0∧u=1 then v' else E0.vl j u⟩,⟨by simp,own_one hown⟩,fun i hi=>(by simp at hi),fun i cs h=>(by simp at h),fun j R hj=>?_,fun j hj=>?_,fun b hlt hc=>⟨hne b hlt (by rcases hc with h|h;exact .inl h;exact .inr (.inl h)),?_⟩⟩
  ·cases j with
   | succ j=>
    cases j with
    | succ j=>simp at hj
    | zero=>
     obtain rfl:=Option.some.inj hj
     refine Ow.rr rfl ((hR2.ow rfl).fr hg.size (fun b hb hlt=>⟨hne b hlt (.inl hb),?_⟩) (fun g hg2 hlt hq=>⟨hne g hlt (.inr (.inr hq)),?_⟩))
     ·show (if b < w.heap.size then E0.rl b else BRole.rw 0)=.cold
      rw [if_pos hlt]
      exact hb
     ·show (if g < w.heap.size then E0.rl g else BRole.rw 0)=.rw 1
      rw [if_pos hlt]
      exact hq
   | zero=>
    obtain rfl:=Option.some.inj hj
    refine Ow.rr rfl ⟨es',by simpa using hown,?_,fun g hg2=>?_⟩
    ·refine (hets (fun b=>E0.rl b=.cold∧b < w.heap.size) (h2.fr (Nat.le_refl _) (fun _ _ _=>rfl) fun b hb hlt=>⟨hb,hlt⟩) (g2.fr (Nat.le_refl _) (fun _ _ _=>rfl) fun b hb hlt=>⟨hb,hlt⟩) (fun b hb hlt=>hne b hlt (.inl hb.1))).fr (Nat.le_refl _) (fun _ _ _=>rfl) fun b hb _=>?_
     show (if b < w.heap.size then E0.rl b else BRole.rw 0)=.cold
     rw [if_pos hb.2]
     exact hb.1
    ·have hg2:v'.ownBlock=some g:=by simpa using hg2
     show (if g < w.heap.size then E0.rl g else BRole.rw 0)=.rw 0
     split
     ·rename_i hlt
      rcases hob g hg2 with h|h
      ·exact h3 g h
      ·omega
     ·rfl
  ·show (if j=0∧0=1 then v' else E0.vl j 0)=E0.vl j 0
   rw [if_neg (by omega)]
  ·show (if b < w.heap.size then E0.rl b else BRole.rw 0)=E0.rl b
   rw [if_pos hlt]
theorem insN_ctm (l:List Int) (n:Int) (hl:l.length*8≤limB):CtM Tryz.prog 123 [.c (.row 0 0),.c (.t (iv 0)),.c (.row 1 0)] [] [⟨3,1,0,l.map eI,none⟩,⟨3,1,0,[[iv n]],none⟩] (.c (.row 0 1)) [] [⟨3,1,1,(n :: l).map eI,none⟩,⟨3,1,0,[[iv n]],none⟩] []:=by
 refine own2_ctm (enters_of Tryz.func123 (by kernel_rfl) rfl) fun n0 w v u v2 es es2 E0 hn h1 h2 g1 g2 hno hu=>?_
 have hu:RT E0.F w u (.lit (.int .i64 0)):=hu
 cases hu
 have hlen:es.length=l.length:=by rw [h2.len,Lm]
 have hlen2:es2.length=1:=g2.len
 obtain ⟨y,rfl⟩:=List.length_eq_one_iff.1 hlen2
 obtain ⟨nb,cb,cur,rfl,q1,q2,q3,q4,q5,q6,q7⟩:=own_at g1 (i:=0) (x:=y) rfl
 have hBn:Bn w nb 3 y.1:=⟨cur,q2,fun j u hju=>by
  have hj:j < 1:=by have:=(List.getElem?_eq_some_iff.1 hju).1;rwa [Cl.len] at this
  have q:=congrArg (fun xs=>xs[j]?) q6
  simp only [List.flatMap_cons,List.flatMap_nil,List.append_nil,List.length_singleton,Nat.one_mul,List.getElem?_take] at q
  rw [if_pos hj,Array.getElem?_toList,hju] at q
  exact q⟩
 refine (insNAll n0 v es 0 nb cb y w h1 (Nat.zero_le _) (by rw [hlen];unfold limB at hl;omega) hBn (fun e=>hno nb e rfl) hn).mono ?_
 rintro e w' ⟨ao,m,c,rfl,own,grow,hob⟩
 refine ⟨_,y :: es,rfl,own,grow,fun g hg=>?_,fun F hF hF2 hsame=>?_⟩
 ·rcases hob with h|h
  ·exact .inl (h▸hg)
  ·rw [h] at hg
   injection hg with hg
   exact .inr (Nat.le_of_eq hg)
 ·have a1:Ets F w' es (l.map eI):=hF.fr grow.size hsame fun b hb _=>hb
  have a2:Ets F w' [y] [[iv n]]:=hF2.fr grow.size hsame fun b hb _=>hb
  refine ⟨by rw [List.length_cons,Lm,List.length_cons,hlen],fun j vs ts e1 e2=>?_⟩
  cases j with
  | zero=>exact a2.at_ 0 vs ts e1 e2
  | succ j=>exact a1.at_ j vs ts e1 e2
def cellsO (s:GState):List Ce:=[.row 0 0,.row 1 1,.row 2 0,.row 3 0,.row 4 0]++(s.enc.drop 5).map .t
def rowsO (s:GState):List Row:=[plR s,⟨49,19,1,s.objects.map GObject.enc,none⟩,⟨3,1,0,s.battlefield.map eI,none⟩,⟨3,1,0,s.exile.map eI,none⟩,⟨91,94,0,s.stack.map GItem.enc,none⟩]
theorem putF_ct (x o:GObject):Ct Tryz.prog 168 [.agg (x.enc.map .t),.iptr o.enc 0] (AV.b (decide (x.id > o.id))) [] true:=by
 refine Ct.lit (b:=false) ?_ rfl
 refine ct_of Tryz.func168 rfl (enters_of Tryz.func168 (by kernel_rfl) rfl) tabOk (by kernel_rfl) rfl rfl rfl rfl fun w0 O _=>Tp.run [] ?_
 refine Ei [] (Ai rfl (Ai trivial ?_))
 repeat' first|refine Ai ?_ ?_|exact rfl|exact trivial|exact Ei _ rfl|refine lN ?_|refine bS ?_|fail
theorem fidx_none {α:Type} {p:α→Bool} {l:List α} (h:∀ x∈l,p x=false):fidx p l = -1:=by
 rcases fidx_cases p l with ⟨e,_,_⟩|⟨i,hi,_,e2,_⟩
 ·exact e
 ·obtain ⟨h1,h2,_⟩:=List.findIdx?_eq_some_iff_getElem.1 e2
  rw [h _ (List.getElem_mem h1)] at h2
  cases h2
theorem put_ctm (s:GState) (o:GObject) (hs:s.objects.length*128≤limB) (hno:∀ x∈s.objects,x.id < o.id):CtM Tryz.prog 121 [.agg (cells5 s),.agg (o.enc.map .t)] [] (rows5 s) (.agg (cellsO { s with objects:=s.objects++[o] })) [] (rowsO { s with objects:=s.objects++[o] }) []:=by
 have e1:placeM s.objects o.id = -1:=fidx_none fun x hx=>beq_eq_false_iff_ne.2 (by have:=hno x hx;omega)
 have e2:fidx (fun x:GObject=>decide (x.id > o.id)) s.objects = -1:=fidx_none fun x hx=>decide_eq_false (by have:=hno x hx;omega)
 have hp:=placeP_ct s o.id hs
 have hi:=indexO_ct s.objects (fun x:GObject=>decide (x.id > o.id)) 168 [(o.enc,0)] (fun x=>putF_ct x o) hs
 rw [e1] at hp
 rw [e2] at hi
 refine ctm_of 5 Tryz.func121 rfl (enters_of Tryz.func121 (by kernel_rfl) rfl) tabOk (by kernel_rfl) rfl rfl rfl rfl rfl fun w0 O _=>Tp.run [8] ?_
 refine cI hp ⟨?_,rfl,trivial⟩ (.inl rfl) ?_
 ·repeat' first|refine Ai ?_ ?_|exact rfl|exact trivial|exact Ei _ rfl|refine lN ?_|refine bS ?_|fail
 refine cI hi ⟨?_,?_,trivial⟩ (.inl rfl) ?_
 ·repeat' first|refine Ai ?_ ?_|exact rfl|exact trivial|exact Ei _ rfl|refine lN ?_|refine bS ?_|fail
 ·repeat' first|refine Ai ?_ ?_|exact rfl|exact trivial|exact Ei _ rfl|refine lN ?_|refine bS ?_|fail
 refine Tp.run [] ?_
 refine cM [] [(1,0),(3205,0)] (insO_ctm s.objects o hs) ?_ ?_ ?_
 ·repeat' first|refine Ai ?_ ?_|exact rfl|exact trivial|exact Ei _ rfl|refine lN ?_|refine bS ?_|fail
  exact congrArg (fun n:Nat=>iv (n:Int)) (Lm GObject.enc)
 ·exact rfl
 refine Ei [(0,0),(1,1),(2,2),(3,3),(4,4)] (Ai (Ai rfl (Ai ?_ (Ai ?_ ?_))) ?_)
 all_goals repeat' first|refine Ai ?_ ?_|exact rfl|exact trivial|exact Ei _ rfl|refine lN ?_|refine bS ?_|fail
def delS (s:GState) (i:Nat):GState:={ s with objects:=s.objects.take i++s.objects.drop (i+1) }
def cutN (l:List Int) (id:Int):List Int:=l.filter fun n=>!(fun n=>n==id) n
def cutI (l:List GItem) (id:Int):List GItem:=l.filter fun x=>!(fun x:GItem=>x.id==id&&x.kind==1) x
def rowO (s:GState) (i:Nat):Row:=⟨49,19,1,(delS s i).objects.map GObject.enc,none⟩
def rowI (s:GState) (id:Int):Row:=⟨91,94,1,(cutI s.stack id).map GItem.enc,none⟩
def rowL (v:Nat) (l:List Int):Row:=⟨3,1,v,l.map eI,none⟩
def rowP (s:GState) (l:List GPlayer):Row:=⟨47,14,0,l.map GPlayer.enc,some ⟨plD,s.players.length,[]⟩⟩
theorem delS_enc (s:GState) (i:Nat):(s.objects.map GObject.enc).take i++(s.objects.map GObject.enc).drop (i+1)=(delS s i).objects.map GObject.enc:=((List.map_append (f:=GObject.enc) (l₁:=s.objects.take i) (l₂:=s.objects.drop (i+1))).trans (by rw [List.map_take,List.map_drop])).symm
theorem pl_set (l:List GPlayer) (p:Nat) (A B:List Tr) (q:GPlayer) (hB:B=q.enc):((l.map GPlayer.enc).set p A).set p B=(l.set p q).map GPlayer.enc:=by rw [List.set_set,List.map_set,hB]
theorem remove_bf (s:GState) (i:Nat) (hi:i < s.objects.length) (h:s.ok) (hp:placeM s.objects s.objects[i].id=i) (hz:s.objects[i].zone=0):CtM Tryz.prog 119 [.agg (cells5 s),.agg (s.objects[i].enc.map .t)] [] (rows5 s) (.agg ([.row 0 0,.row 1 1,.row 5 0,.row 3 0,.row 4 1]++(s.enc.drop 5).map .t)) [] [plR s,rowO s i,rowL 0 s.battlefield,rowL 0 s.exile,rowI s s.objects[i].id] [rowL 0 (cutN s.battlefield s.objects[i].id)]:=by
 generalize ho:s.objects[i]=o at *
 have hpl:=placeP_ct s o.id h.2.2.1
 rw [hp] at hpl
 have hl:=list_bf (delS s i) o.owner
 rw [← hz] at hl
 have hst:s.stack.length*824≤limB:=h.2.2.2.2.2.2.1
 have hbt:s.battlefield.length*8≤limB:=h.2.2.2.2.1
 have hxt:s.exile.length*8≤limB:=h.2.2.2.2.2.1
 refine ctm_of 5 Tryz.func119 rfl (enters_of Tryz.func119 (by kernel_rfl) rfl) tabOk (by kernel_rfl) rfl rfl rfl rfl rfl fun w0 O _=>Tp.run [5,6] ?_
 refine cI hpl ⟨?_,rfl,trivial⟩ (.inl rfl) ?_
 ·repeat' first|refine Ai ?_ ?_|exact rfl|exact trivial|exact Ei _ rfl|refine lN ?_|refine bS ?_|fail
 refine cM [] [(1,0)] (deleteO_ctm s.objects i hi) ?_ ?_ ?_
 ·repeat' first|refine Ai ?_ ?_|exact rfl|exact trivial|exact Ei _ rfl|refine lN ?_|refine bS ?_|fail
  exact succ_eq i hi 128 (by decide) h.2.2.1
 ·exact rfl
 refine cM [5] [(0,0),(1,1),(2,0),(3,0),(4,0)] hl ?_ ?_ ?_
 ·repeat' first|refine Ai ?_ ?_|exact rfl|exact trivial|exact Ei _ rfl|refine lN ?_|refine bS ?_|fail
  exact (delS_enc s i).symm
 ·exact rfl
 refine Tp.run [] ?_
 refine cI (withoutP_ct s.battlefield o.id hbt) ⟨?_,rfl,trivial⟩ (.inl rfl) ?_
 ·repeat' first|refine Ai ?_ ?_|exact rfl|exact trivial|exact Ei _ rfl|refine lN ?_|refine bS ?_|fail
 refine Tp.run [] ?_
 refine cM [133] [(4,0)] (delI_ctm s.stack o hst) ?_ ?_ ?_
 ·repeat' first|refine Ai ?_ ?_|exact rfl|exact trivial|exact Ei _ rfl|refine lN ?_|refine bS ?_|fail
 ·exact rfl
 refine Ei [(0,0),(1,1),(2,2),(3,3),(4,4),(5,3845)] (Ai (Ai rfl (Ai ?_ (Ai ?_ ?_))) ?_)
 all_goals repeat' first|refine Ai ?_ ?_|exact rfl|exact trivial|exact Ei _ rfl|refine lN ?_|refine bS ?_|fail
theorem remove_ex (s:GState) (i:Nat) (hi:i < s.objects.length) (h:s.ok) (hp:placeM s.objects s.objects[i].id=i) (hz:s.objects[i].zone=4):CtM Tryz.prog 119 [.agg (cells5 s),.agg (s.objects[i].enc.map .t)] [] (rows5 s) (.agg ([.row 0 0,.row 1 1,.row 2 0,.row 5 0,.row 4 1]++(s.enc.drop 5).map .t)) [] [plR s,rowO s i,rowL 0 s.battlefield,rowL 0 s.exile,rowI s s.objects[i].id] [rowL 0 (cutN s.exile s.objects[i].id)]:=by
 generalize ho:s.objects[i]=o at *
 have hpl:=placeP_ct s o.id h.2.2.1
 rw [hp] at hpl
 have hl:=list_ex (delS s i) o.owner
 rw [← hz] at hl
 have hst:s.stack.length*824≤limB:=h.2.2.2.2.2.2.1
 have hbt:s.battlefield.length*8≤limB:=h.2.2.2.2.1
 have hxt:s.exile.length*8≤limB:=h.2.2.2.2.2.1
 refine ctm_of 5 Tryz.func119 rfl (enters_of Tryz.func119 (by kernel_rfl) rfl) tabOk (by kernel_rfl) rfl rfl rfl rfl rfl fun w0 O _=>Tp.run [5,6] ?_
 refine cI hpl ⟨?_,rfl,trivial⟩ (.inl rfl) ?_
 ·repeat' first|refine Ai ?_ ?_|exact rfl|exact trivial|exact Ei _ rfl|refine lN ?_|refine bS ?_|fail
 refine cM [] [(1,0)] (deleteO_ctm s.objects i hi) ?_ ?_ ?_
 ·repeat' first|refine Ai ?_ ?_|exact rfl|exact trivial|exact Ei _ rfl|refine lN ?_|refine bS ?_|fail
  exact succ_eq i hi 128 (by decide) h.2.2.1
 ·exact rfl
 refine cM [5] [(0,0),(1,1),(2,0),(3,0),(4,0)] hl ?_ ?_ ?_
 ·repeat' first|refine Ai ?_ ?_|exact rfl|exact trivial|exact Ei _ rfl|refine lN ?_|refine bS ?_|fail
  exact (delS_enc s i).symm
 ·exact rfl
 refine Tp.run [] ?_
 refine cI (withoutP_ct s.exile o.id hxt) ⟨?_,rfl,trivial⟩ (.inl rfl) ?_
 ·repeat' first|refine Ai ?_ ?_|exact rfl|exact trivial|exact Ei _ rfl|refine lN ?_|refine bS ?_|fail
 refine Tp.run [] ?_
 refine cM [133] [(4,0)] (delI_ctm s.stack o hst) ?_ ?_ ?_
 ·repeat' first|refine Ai ?_ ?_|exact rfl|exact trivial|exact Ei _ rfl|refine lN ?_|refine bS ?_|fail
 ·exact rfl
 refine Ei [(0,0),(1,1),(2,2),(3,3),(4,4),(5,3845)] (Ai (Ai rfl (Ai ?_ (Ai ?_ ?_))) ?_)
 all_goals repeat' first|refine Ai ?_ ?_|exact rfl|exact trivial|exact Ei _ rfl|refine lN ?_|refine bS ?_|fail
theorem remove_hand (s:GState) (i:Nat) (hi:i < s.objects.length) (h:s.ok) (hp:placeM s.objects s.objects[i].id=i) (hz:s.objects[i].zone=1) (p:Nat) (hpo:s.objects[i].owner=(p:Int)) (hpl:p < s.players.length):CtM Tryz.prog 119 [.agg (cells5 s),.agg (s.objects[i].enc.map .t)] [] (rows5 s) (.agg ([.row 0 0,.row 1 1,.row 2 0,.row 3 0,.row 4 1]++(s.enc.drop 5).map .t)) [] [rowP s (s.players.set p { s.players[p] with hand:=cutN s.players[p].hand s.objects[i].id }),rowO s i,rowL 0 s.battlefield,rowL 0 s.exile,rowI s s.objects[i].id] []:=by
 generalize ho:s.objects[i]=o at *
 have hqo:=placeP_ct s o.id h.2.2.1
 rw [hp] at hqo
 have hl:=list_hand (delS s i) p hpl
 rw [← hz,← hpo] at hl
 have hst:s.stack.length*824≤limB:=h.2.2.2.2.2.2.1
 have hbt:s.battlefield.length*8≤limB:=h.2.2.2.2.1
 have hxt:s.exile.length*8≤limB:=h.2.2.2.2.2.1
 refine ctm_of 5 Tryz.func119 rfl (enters_of Tryz.func119 (by kernel_rfl) rfl) tabOk (by kernel_rfl) rfl rfl rfl rfl rfl fun w0 O _=>Tp.run [5,6] ?_
 refine cI hqo ⟨?_,rfl,trivial⟩ (.inl rfl) ?_
 ·repeat' first|refine Ai ?_ ?_|exact rfl|exact trivial|exact Ei _ rfl|refine lN ?_|refine bS ?_|fail
 refine cM [] [(1,0)] (deleteO_ctm s.objects i hi) ?_ ?_ ?_
 ·repeat' first|refine Ai ?_ ?_|exact rfl|exact trivial|exact Ei _ rfl|refine lN ?_|refine bS ?_|fail
  exact succ_eq i hi 128 (by decide) h.2.2.1
 ·exact rfl
 refine cM [5] [(0,0),(1,1),(2,0),(3,0),(4,0)] hl ?_ ?_ ?_
 ·repeat' first|refine Ai ?_ ?_|exact rfl|exact trivial|exact Ei _ rfl|refine lN ?_|refine bS ?_|fail
  exact (delS_enc s i).symm
 ·exact rfl
 have hplm:p < (s.players.map GPlayer.enc).length:=by rw [Lm];exact hpl
 have hll:s.players[p].hand.length*8≤limB:=(h.2.1 _ (List.getElem_mem hpl)).2.1
 refine Tp.take 0 p 12 3 1 (ts:=s.players[p].enc) (ys:=s.players[p].hand.map eI) rfl rfl rfl (by simp [plD]) hpl (map_get _ _ p hpl) rfl ?_
 refine Tp.run [] ?_
 refine Ai rfl (Ai hplm (Ai (Nb rfl) ?_))
 refine cI (withoutP_ct s.players[p].hand o.id hll) ⟨?_,rfl,trivial⟩ (.inl rfl) ?_
 ·repeat' first|refine Ai ?_ ?_|exact rfl|exact trivial|exact Ei _ rfl|refine lN ?_|refine bS ?_|fail
 refine Ei (s.players[p].enc) (Ai (map_get _ _ p hpl) (Ai (Nb rfl) (Ai (Ai rfl trivial) (Ai (.inl rfl) ?_))))
 refine Tp.put 0 p s.players.length rfl rfl (List.getElem?_set_self hplm) rfl (Ai rfl trivial) rfl (.inl (Ai rfl hpl)) ?_
 refine Tp.run [] ?_
 refine cM [133] [(4,0)] (delI_ctm s.stack o hst) ?_ ?_ ?_
 ·repeat' first|refine Ai ?_ ?_|exact rfl|exact trivial|exact Ei _ rfl|refine lN ?_|refine bS ?_|fail
 ·exact rfl
 refine Ei [(0,0),(1,1),(2,2),(3,3),(4,4)] (Ai (Ai rfl (Ai ?_ (Ai ?_ ?_))) ?_)
 ·repeat' first|refine Ai ?_ ?_|exact rfl|exact trivial|exact Ei _ rfl|refine lN ?_|refine bS ?_|fail
  exact pl_set s.players p _ _ _ rfl
 all_goals repeat' first|refine Ai ?_ ?_|exact rfl|exact trivial|exact Ei _ rfl|refine lN ?_|refine bS ?_|fail
theorem remove_lib (s:GState) (i:Nat) (hi:i < s.objects.length) (h:s.ok) (hp:placeM s.objects s.objects[i].id=i) (hz:s.objects[i].zone=2) (p:Nat) (hpo:s.objects[i].owner=(p:Int)) (hpl:p < s.players.length):CtM Tryz.prog 119 [.agg (cells5 s),.agg (s.objects[i].enc.map .t)] [] (rows5 s) (.agg ([.row 0 0,.row 1 1,.row 2 0,.row 3 0,.row 4 1]++(s.enc.drop 5).map .t)) [] [rowP s (s.players.set p { s.players[p] with library:=cutN s.players[p].library s.objects[i].id }),rowO s i,rowL 0 s.battlefield,rowL 0 s.exile,rowI s s.objects[i].id] []:=by
 generalize ho:s.objects[i]=o at *
 have hqo:=placeP_ct s o.id h.2.2.1
 rw [hp] at hqo
 have hl:=list_lib (delS s i) p hpl
 rw [← hz,← hpo] at hl
 have hst:s.stack.length*824≤limB:=h.2.2.2.2.2.2.1
 have hbt:s.battlefield.length*8≤limB:=h.2.2.2.2.1
 have hxt:s.exile.length*8≤limB:=h.2.2.2.2.2.1
 refine ctm_of 5 Tryz.func119 rfl (enters_of Tryz.func119 (by kernel_rfl) rfl) tabOk (by kernel_rfl) rfl rfl rfl rfl rfl fun w0 O _=>Tp.run [5,6] ?_
 refine cI hqo ⟨?_,rfl,trivial⟩ (.inl rfl) ?_
 ·repeat' first|refine Ai ?_ ?_|exact rfl|exact trivial|exact Ei _ rfl|refine lN ?_|refine bS ?_|fail
 refine cM [] [(1,0)] (deleteO_ctm s.objects i hi) ?_ ?_ ?_
 ·repeat' first|refine Ai ?_ ?_|exact rfl|exact trivial|exact Ei _ rfl|refine lN ?_|refine bS ?_|fail
  exact succ_eq i hi 128 (by decide) h.2.2.1
 ·exact rfl
 refine cM [5] [(0,0),(1,1),(2,0),(3,0),(4,0)] hl ?_ ?_ ?_
 ·repeat' first|refine Ai ?_ ?_|exact rfl|exact trivial|exact Ei _ rfl|refine lN ?_|refine bS ?_|fail
  exact (delS_enc s i).symm
 ·exact rfl
 have hplm:p < (s.players.map GPlayer.enc).length:=by rw [Lm];exact hpl
 have hll:s.players[p].library.length*8≤limB:=(h.2.1 _ (List.getElem_mem hpl)).1
 refine Tp.take 0 p 11 3 1 (ts:=s.players[p].enc) (ys:=s.players[p].library.map eI) rfl rfl rfl (by simp [plD]) hpl (map_get _ _ p hpl) rfl ?_
 refine Tp.run [] ?_
 refine Ai rfl (Ai hplm (Ai (Nb rfl) ?_))
 refine cI (withoutP_ct s.players[p].library o.id hll) ⟨?_,rfl,trivial⟩ (.inl rfl) ?_
 ·repeat' first|refine Ai ?_ ?_|exact rfl|exact trivial|exact Ei _ rfl|refine lN ?_|refine bS ?_|fail
 refine Ei (s.players[p].enc) (Ai (map_get _ _ p hpl) (Ai (Nb rfl) (Ai (Ai rfl trivial) (Ai (.inl rfl) ?_))))
 refine Tp.put 0 p s.players.length rfl rfl (List.getElem?_set_self hplm) rfl (Ai rfl trivial) rfl (.inl (Ai rfl hpl)) ?_
 refine Tp.run [] ?_
 refine cM [133] [(4,0)] (delI_ctm s.stack o hst) ?_ ?_ ?_
 ·repeat' first|refine Ai ?_ ?_|exact rfl|exact trivial|exact Ei _ rfl|refine lN ?_|refine bS ?_|fail
 ·exact rfl
 refine Ei [(0,0),(1,1),(2,2),(3,3),(4,4)] (Ai (Ai rfl (Ai ?_ (Ai ?_ ?_))) ?_)
 ·repeat' first|refine Ai ?_ ?_|exact rfl|exact trivial|exact Ei _ rfl|refine lN ?_|refine bS ?_|fail
  exact pl_set s.players p _ _ _ rfl
 all_goals repeat' first|refine Ai ?_ ?_|exact rfl|exact trivial|exact Ei _ rfl|refine lN ?_|refine bS ?_|fail
theorem remove_grave (s:GState) (i:Nat) (hi:i < s.objects.length) (h:s.ok) (hp:placeM s.objects s.objects[i].id=i) (hz:s.objects[i].zone=3) (p:Nat) (hpo:s.objects[i].owner=(p:Int)) (hpl:p < s.players.length):CtM Tryz.prog 119 [.agg (cells5 s),.agg (s.objects[i].enc.map .t)] [] (rows5 s) (.agg ([.row 0 0,.row 1 1,.row 2 0,.row 3 0,.row 4 1]++(s.enc.drop 5).map .t)) [] [rowP s (s.players.set p { s.players[p] with graveyard:=cutN s.players[p].graveyard s.objects[i].id }),rowO s i,rowL 0 s.battlefield,rowL 0 s.exile,rowI s s.objects[i].id] []:=by
 generalize ho:s.objects[i]=o at *
 have hqo:=placeP_ct s o.id h.2.2.1
 rw [hp] at hqo
 have hl:=list_grave (delS s i) p hpl
 rw [← hz,← hpo] at hl
 have hst:s.stack.length*824≤limB:=h.2.2.2.2.2.2.1
 have hbt:s.battlefield.length*8≤limB:=h.2.2.2.2.1
 have hxt:s.exile.length*8≤limB:=h.2.2.2.2.2.1
 refine ctm_of 5 Tryz.func119 rfl (enters_of Tryz.func119 (by kernel_rfl) rfl) tabOk (by kernel_rfl) rfl rfl rfl rfl rfl fun w0 O _=>Tp.run [5,6] ?_
 refine cI hqo ⟨?_,rfl,trivial⟩ (.inl rfl) ?_
 ·repeat' first|refine Ai ?_ ?_|exact rfl|exact trivial|exact Ei _ rfl|refine lN ?_|refine bS ?_|fail
 refine cM [] [(1,0)] (deleteO_ctm s.objects i hi) ?_ ?_ ?_
 ·repeat' first|refine Ai ?_ ?_|exact rfl|exact trivial|exact Ei _ rfl|refine lN ?_|refine bS ?_|fail
  exact succ_eq i hi 128 (by decide) h.2.2.1
 ·exact rfl
 refine cM [5] [(0,0),(1,1),(2,0),(3,0),(4,0)] hl ?_ ?_ ?_
 ·repeat' first|refine Ai ?_ ?_|exact rfl|exact trivial|exact Ei _ rfl|refine lN ?_|refine bS ?_|fail
  exact (delS_enc s i).symm
 ·exact rfl
 have hplm:p < (s.players.map GPlayer.enc).length:=by rw [Lm];exact hpl
 have hll:s.players[p].graveyard.length*8≤limB:=(h.2.1 _ (List.getElem_mem hpl)).2.2
 refine Tp.take 0 p 13 3 1 (ts:=s.players[p].enc) (ys:=s.players[p].graveyard.map eI) rfl rfl rfl (by simp [plD]) hpl (map_get _ _ p hpl) rfl ?_
 refine Tp.run [] ?_
 refine Ai rfl (Ai hplm (Ai (Nb rfl) ?_))
 refine cI (withoutP_ct s.players[p].graveyard o.id hll) ⟨?_,rfl,trivial⟩ (.inl rfl) ?_
 ·repeat' first|refine Ai ?_ ?_|exact rfl|exact trivial|exact Ei _ rfl|refine lN ?_|refine bS ?_|fail
 refine Ei (s.players[p].enc) (Ai (map_get _ _ p hpl) (Ai (Nb rfl) (Ai (Ai rfl trivial) (Ai (.inl rfl) ?_))))
 refine Tp.put 0 p s.players.length rfl rfl (List.getElem?_set_self hplm) rfl (Ai rfl trivial) rfl (.inl (Ai rfl hpl)) ?_
 refine Tp.run [] ?_
 refine cM [133] [(4,0)] (delI_ctm s.stack o hst) ?_ ?_ ?_
 ·repeat' first|refine Ai ?_ ?_|exact rfl|exact trivial|exact Ei _ rfl|refine lN ?_|refine bS ?_|fail
 ·exact rfl
 refine Ei [(0,0),(1,1),(2,2),(3,3),(4,4)] (Ai (Ai rfl (Ai ?_ (Ai ?_ ?_))) ?_)
 ·repeat' first|refine Ai ?_ ?_|exact rfl|exact trivial|exact Ei _ rfl|refine lN ?_|refine bS ?_|fail
  exact pl_set s.players p _ _ _ rfl
 all_goals repeat' first|refine Ai ?_ ?_|exact rfl|exact trivial|exact Ei _ rfl|refine lN ?_|refine bS ?_|fail
theorem remove_stk (s:GState) (i:Nat) (hi:i < s.objects.length) (h:s.ok) (hp:placeM s.objects s.objects[i].id=i) (hz:s.objects[i].zone=5) (p:Nat) (hpo:s.objects[i].owner=(p:Int)) (hpl:p < s.players.length):CtM Tryz.prog 119 [.agg (cells5 s),.agg (s.objects[i].enc.map .t)] [] (rows5 s) (.agg ([.row 0 0,.row 1 1,.row 2 0,.row 3 0,.row 4 1]++(s.enc.drop 5).map .t)) [] [plR s,rowO s i,rowL 0 s.battlefield,rowL 0 s.exile,rowI s s.objects[i].id] []:=by
 generalize ho:s.objects[i]=o at *
 have hqo:=placeP_ct s o.id h.2.2.1
 rw [hp] at hqo
 have hl:=list_stk (delS s i) p hpl
 rw [← hz,← hpo] at hl
 have hst:s.stack.length*824≤limB:=h.2.2.2.2.2.2.1
 have hbt:s.battlefield.length*8≤limB:=h.2.2.2.2.1
 have hxt:s.exile.length*8≤limB:=h.2.2.2.2.2.1
 refine ctm_of 5 Tryz.func119 rfl (enters_of Tryz.func119 (by kernel_rfl) rfl) tabOk (by kernel_rfl) rfl rfl rfl rfl rfl fun w0 O _=>Tp.run [5,6] ?_
 refine cI hqo ⟨?_,rfl,trivial⟩ (.inl rfl) ?_
 ·repeat' first|refine Ai ?_ ?_|exact rfl|exact trivial|exact Ei _ rfl|refine lN ?_|refine bS ?_|fail
 refine cM [] [(1,0)] (deleteO_ctm s.objects i hi) ?_ ?_ ?_
 ·repeat' first|refine Ai ?_ ?_|exact rfl|exact trivial|exact Ei _ rfl|refine lN ?_|refine bS ?_|fail
  exact succ_eq i hi 128 (by decide) h.2.2.1
 ·exact rfl
 refine cM [5] [(0,0),(1,1),(2,0),(3,0),(4,0)] hl ?_ ?_ ?_
 ·repeat' first|refine Ai ?_ ?_|exact rfl|exact trivial|exact Ei _ rfl|refine lN ?_|refine bS ?_|fail
  exact (delS_enc s i).symm
 ·exact rfl
 refine Tp.run [] ?_
 refine cM [133] [(4,0)] (delI_ctm s.stack o hst) ?_ ?_ ?_
 ·repeat' first|refine Ai ?_ ?_|exact rfl|exact trivial|exact Ei _ rfl|refine lN ?_|refine bS ?_|fail
 ·exact rfl
 refine Ei [(0,0),(1,1),(2,2),(3,3),(4,4)] (Ai (Ai rfl (Ai ?_ (Ai ?_ ?_))) ?_)
 all_goals repeat' first|refine Ai ?_ ?_|exact rfl|exact trivial|exact Ei _ rfl|refine lN ?_|refine bS ?_|fail
section
theorem cutI_eq (l:List GItem) (id:Int):l.filter (keepM id)=cutI l id:=by
 unfold cutI
 refine List.filter_congr fun x _=>?_
 show (!(x.kind==1)||!(x.id==id))=!(x.id==id&&x.kind==1)
 cases (x.id==id) <;> cases (x.kind==1) <;> rfl
section
variable (s:GState) (id:Int) (i:Nat) (o:GObject)
theorem remM_bf (hz:o.zone=0):remM s id i o={ delS s i with battlefield:=cutN s.battlefield id,stack:=cutI s.stack id }:=by
 unfold remM setM listM
 rw [cutI_eq,hz]
 rfl
theorem remM_ex (hz:o.zone=4):remM s id i o={ delS s i with exile:=cutN s.exile id,stack:=cutI s.stack id }:=by
 unfold remM setM listM
 rw [cutI_eq,hz]
 rfl
variable (p:Nat) (hpo:o.owner=(p:Int)) (hpl:p < s.players.length)
include hpo hpl
theorem remM_hand (hz:o.zone=1):remM s id i o={ delS s i with players:=s.players.set p { s.players[p] with hand:=cutN s.players[p].hand id },stack:=cutI s.stack id }:=by
 unfold remM setM listM
 rw [cutI_eq,hz,hpo,if_neg (by decide),if_neg (by decide),if_neg (by omega),if_neg (by decide),if_neg (by decide),if_neg (by omega),Int.toNat_natCast,List.getElem?_eq_getElem hpl]
 rfl
theorem remM_lib (hz:o.zone=2):remM s id i o={ delS s i with players:=s.players.set p { s.players[p] with library:=cutN s.players[p].library id },stack:=cutI s.stack id }:=by
 unfold remM setM listM
 rw [cutI_eq,hz,hpo,if_neg (by decide),if_neg (by decide),if_neg (by omega),if_neg (by decide),if_neg (by decide),if_neg (by omega),Int.toNat_natCast,List.getElem?_eq_getElem hpl]
 rfl
theorem remM_grave (hz:o.zone=3):remM s id i o={ delS s i with players:=s.players.set p { s.players[p] with graveyard:=cutN s.players[p].graveyard id },stack:=cutI s.stack id }:=by
 unfold remM setM listM
 rw [cutI_eq,hz,hpo,if_neg (by decide),if_neg (by decide),if_neg (by omega),if_neg (by decide),if_neg (by decide),if_neg (by omega),Int.toNat_natCast,List.getElem?_eq_getElem hpl]
 rfl
theorem remM_stk (hz:o.zone=5):remM s id i o={ delS s i with stack:=cutI s.stack id }:=by
 unfold remM setM listM
 rw [cutI_eq,hz,hpo,if_neg (by decide),if_neg (by decide),if_neg (by omega),if_neg (by decide),if_neg (by decide),if_neg (by omega),Int.toNat_natCast,List.getElem?_eq_getElem hpl]
 show ({ s with players:=s.players.set p s.players[p],objects:=s.objects.take i++s.objects.drop (i+1),stack:=cutI s.stack id }:GState)=_
 rw [List.set_getElem_self]
 rfl
end
theorem setM_pl (s:GState) (z p:Int) (l:List Int):(setM s z p l).players.length=s.players.length:=by
 unfold setM
 split
 ·rfl
 split
 ·rfl
 split
 ·rfl
 split
 ·exact List.length_set ..
 ·rfl
theorem remM_pl (s:GState) (id:Int) (i:Nat) (o:GObject):(remM s id i o).players.length=s.players.length:=setM_pl s _ _ _
def addO (R:GState) (x:GObject):GState:={ R with objects:=R.objects++[x],nextId:=IntKind.i64.wrap (R.nextId+1),nextStamp:=IntKind.i64.wrap (R.nextStamp+1) }
section
variable (R:GState) (x:GObject) (hR:∀ y∈R.objects,y.id < x.id) (b:Bool)
include hR
theorem end_bf:mvEnd (putM R x) x 0 b={ addO R x with battlefield:=R.battlefield++[x.id] }:=by
 unfold mvEnd putM setM listM mvFin
 rw [putL_end hR]
 rfl
theorem end_ex:mvEnd (putM R x) x 4 b={ addO R x with exile:=R.exile++[x.id] }:=by
 unfold mvEnd putM setM listM mvFin
 rw [putL_end hR]
 rfl
variable (p:Nat) (hpo:x.owner=(p:Int)) (hpl:p < R.players.length)
include hpo hpl
theorem end_hand:mvEnd (putM R x) x 1 b={ addO R x with players:=R.players.set p { R.players[p] with hand:=R.players[p].hand++[x.id] } }:=by
 have hlt:¬ ((p:Int) < 0∨(R.players.length:Int)≤(p:Int)):=by omega
 cases b <;>
 ·unfold mvEnd putM setM listM mvFin
  rw [putL_end hR,hpo]
  dsimp only
  simp only [if_neg hlt,Int.toNat_natCast,List.getElem?_eq_getElem hpl]
  rfl
theorem end_grave:mvEnd (putM R x) x 3 b={ addO R x with players:=R.players.set p { R.players[p] with graveyard:=R.players[p].graveyard++[x.id] } }:=by
 have hlt:¬ ((p:Int) < 0∨(R.players.length:Int)≤(p:Int)):=by omega
 cases b <;>
 ·unfold mvEnd putM setM listM mvFin
  rw [putL_end hR,hpo]
  dsimp only
  simp only [if_neg hlt,Int.toNat_natCast,List.getElem?_eq_getElem hpl]
  rfl
theorem end_lib:mvEnd (putM R x) x 2 b={ addO R x with players:=R.players.set p { R.players[p] with library:=if b=true then R.players[p].library++[x.id] else x.id :: R.players[p].library } }:=by
 have hlt:¬ ((p:Int) < 0∨(R.players.length:Int)≤(p:Int)):=by omega
 cases b <;>
 ·unfold mvEnd putM setM listM mvFin
  rw [putL_end hR,hpo]
  dsimp only
  simp only [if_neg hlt,Int.toNat_natCast,List.getElem?_eq_getElem hpl]
  rfl
end
end
theorem joinK {P:Program} {T:Nat→Option Ty} {N:Nat} {w0:World} {O:Gst} {c:Code} {Q:Ex→St→Prop} {B:Prop} (st:St) (h:Tp P T N w0 O c st Q→B) (key:Tp P T N w0 O c st Q):B:=h key
def cells9 (s:GState):List Ce:=[.row 9000 0,.row 9001 1,.row 9002 0,.row 9003 0,.row 9004 1]++(s.enc.drop 5).map .t
def rows9 (s:GState):List (Nat × Row):=[(9000,plR s),(9001,⟨49,19,1,s.objects.map GObject.enc,none⟩),(9002,rowL 0 s.battlefield),(9003,rowL 0 s.exile),(9004,⟨91,94,1,s.stack.map GItem.enc,none⟩)]
theorem remM_nos {s:GState} {id:Int} {i:Nat} {o:GObject} (hlt:∀ y∈s.objects,y.id < s.nextId):∀ y∈(remM s id i o).objects,y.id < (remM s id i o).nextId:=fun y hy=>by
 have e:(remM s id i o).nextId=s.nextId:=(setM_next s _ _ _).1
 rw [e]
 rcases List.mem_append.1 hy with hy|hy
 ·exact hlt y (List.mem_of_mem_take hy)
 ·exact hlt y (List.mem_of_mem_drop hy)
theorem pl_app_hand (l:List GPlayer) (p:Nat) (q:GPlayer) (A:List Tr) (n:Int):((l.map GPlayer.enc).set p A).set p (q.enc.set 12 (.sl 1 (q.hand.map eI++[[iv n]])))=(l.set p { q with hand:=q.hand++[n] }).map GPlayer.enc:=by
 rw [List.set_set,List.map_set,show q.hand.map eI++[[iv n]]=(q.hand++[n]).map eI from (List.map_append (f:=eI) (l₁:=q.hand) (l₂:=[n])).symm]
 rfl
theorem pl_app_lib (l:List GPlayer) (p:Nat) (q:GPlayer) (A:List Tr) (n:Int):((l.map GPlayer.enc).set p A).set p (q.enc.set 11 (.sl 1 (q.library.map eI++[[iv n]])))=(l.set p { q with library:=q.library++[n] }).map GPlayer.enc:=by
 rw [List.set_set,List.map_set,show q.library.map eI++[[iv n]]=(q.library++[n]).map eI from (List.map_append (f:=eI) (l₁:=q.library) (l₂:=[n])).symm]
 rfl
theorem pl_app_grave (l:List GPlayer) (p:Nat) (q:GPlayer) (A:List Tr) (n:Int):((l.map GPlayer.enc).set p A).set p (q.enc.set 13 (.sl 1 (q.graveyard.map eI++[[iv n]])))=(l.set p { q with graveyard:=q.graveyard++[n] }).map GPlayer.enc:=by
 rw [List.set_set,List.map_set,show q.graveyard.map eI++[[iv n]]=(q.graveyard++[n]).map eI from (List.map_append (f:=eI) (l₁:=q.graveyard) (l₂:=[n])).symm]
 rfl
theorem pl_ins (l:List GPlayer) (p:Nat) (q:GPlayer) (A:List Tr) (n:Int):((l.map GPlayer.enc).set p A).set p (q.enc.set 11 (.sl 1 ((n :: q.library).map eI)))=(l.set p { q with library:=n :: q.library }).map GPlayer.enc:=by
 rw [List.set_set,List.map_set]
 rfl
theorem moveP_bf (s:GState) (id p:Int) (b:Bool) (i:Nat) (h:s.ok) (hi:i < s.objects.length) (e0:placeM s.objects id=i) (e1:s.objects.findIdx? (fun o=>o.id==id)=some i) (e2:s.objects.find? (fun o=>o.id==id)=some s.objects[i]) (hid:s.objects[i].id=id) (q:Nat) (hq:s.objects[i].owner=(q:Int)) (hql:q < s.players.length) (hlt:∀ y∈s.objects,y.id < s.nextId) (hzz:0≤s.objects[i].zone∧s.objects[i].zone≤5) :
  Ct Tryz.prog 70 [.agg (s.enc.map .t),.c (.t (iv id)),.c (.t (iv 0)),.c (.t (iv p)),AV.b b] (.tup [.agg (((moveM s id 0 p b).1.enc.map .t).set 1 (.row 0 0)),.c (.t (iv (moveM s id 0 p b).2))]) [⟨49,19,0,(moveM s id 0 p b).1.objects.map GObject.enc,none⟩] false:=by
 subst hid
 have hf:=findP_ct s s.objects[i].id h.2.2.1
 unfold findM hasM at hf
 rw [e2] at hf
 change Ct _ _ _ (.tup [.agg (s.objects[i].enc.map .t),AV.b true]) _ _ at hf
 generalize hM:moveM s s.objects[i].id 0 p b=M
 unfold moveM at hM
 rw [e1] at hM
 simp only [List.getElem?_eq_getElem hi] at hM
 unfold mvFound at hM
 rw [if_neg (by omega)] at hM
 obtain ⟨hRok,hRn⟩:=remM_ok h s.objects[i].id i s.objects[i] hi
 have hno:=remM_nos (id:=s.objects[i].id) (i:=i) (o:=s.objects[i]) hlt
 have hRpl:(remM s s.objects[i].id i s.objects[i]).players.length=s.players.length:=remM_pl s _ i _
 refine ct_of Tryz.func70 rfl (enters_of Tryz.func70 (by kernel_rfl) rfl) tabOk (by kernel_rfl) rfl rfl rfl rfl fun w0 O _=>Tp.run [5,7,8,15,16,17] ?_
 refine cI hf ⟨fL s.enc,rfl,trivial⟩ (.inl rfl) ?_
 refine cI (copyP_ct s h) ⟨fL s.enc,trivial⟩ (.inr rfl) ?_
 obtain ⟨R,hR⟩:∃ R,remM s s.objects[i].id i s.objects[i]=R:=⟨_,rfl⟩
 rw [hR] at hM hRok hRn hno hRpl
 rw [if_neg (fun hx=>by cases hx.2.1)] at hM
 apply joinK (P:=Tryz.prog) (T:=T) (N:=Tryz.f70.ntmps) (w0:=w0) (O:=O) ⟨[(2,.c (.t (iv 0))),(3,.c (.t (iv p))),(4,AV.b b),(5,.ptr 0 0),(10,.ptr 128 0),(12,.ptr 1152 0)],[(0,cells9 R),(128,List.replicate 19 .bot),(1152,s.objects[i].enc.map .t)],rows9 R,20000⟩
 case h=>
  intro K
  rcases (show s.objects[i].zone=0∨s.objects[i].zone=1∨s.objects[i].zone=2∨s.objects[i].zone=3∨s.objects[i].zone=4∨s.objects[i].zone=5 by omega) with hz|hz|hz|hz|hz|hz
  ·have hRz:=remM_bf s s.objects[i].id i s.objects[i] hz
   rw [hR] at hRz
   refine Tp.run [] ?_
   refine cM [] [(1664,0),(1665,0),(1666,0),(1667,0),(1668,0)] (remove_bf s i hi h e0 hz) ?_ ?_ ?_
   ·repeat' first|refine Ai ?_ ?_|exact rfl|exact trivial|exact Ei _ rfl|refine lN ?_|refine bS ?_|fail
   ·exact rfl
   rw [hRz] at K
   refine cS (fun ht=>?_) (fun ht=>?_)
   ·refine Tp.wk (wk_of [(9000,1664),(9001,1665),(9002,3456),(9003,1667),(9004,1668)] rfl rfl ?_ ?_ ?_) K
    all_goals repeat' first|refine Ai ?_ ?_|exact rfl|exact trivial|exact Ei _ rfl|refine lN ?_|refine bS ?_|fail
   ·refine Tp.wk (wk_of [(9000,1664),(9001,1665),(9002,3456),(9003,1667),(9004,1668)] rfl rfl ?_ ?_ ?_) K
    all_goals repeat' first|refine Ai ?_ ?_|exact rfl|exact trivial|exact Ei _ rfl|refine lN ?_|refine bS ?_|fail
  ·have hRz:=remM_hand s s.objects[i].id i s.objects[i] q hq hql hz
   rw [hR] at hRz
   refine Tp.run [] ?_
   refine cM [] [(1664,0),(1665,0),(1666,0),(1667,0),(1668,0)] (remove_hand s i hi h e0 hz q hq hql) ?_ ?_ ?_
   ·repeat' first|refine Ai ?_ ?_|exact rfl|exact trivial|exact Ei _ rfl|refine lN ?_|refine bS ?_|fail
   ·exact rfl
   rw [hRz] at K
   refine cS (fun ht=>?_) (fun ht=>?_)
   ·refine Tp.wk (wk_of [(9000,1664),(9001,1665),(9002,1666),(9003,1667),(9004,1668)] rfl rfl ?_ ?_ ?_) K
    ·repeat' first|refine Ai ?_ ?_|exact rfl|exact trivial|exact Ei _ rfl|refine lN ?_|refine bS ?_|fail
    ·repeat' first|refine Ai ?_ ?_|exact rfl|exact trivial|exact Ei _ rfl|refine lN ?_|refine bS ?_|fail
    ·repeat' first|refine Ai ?_ ?_|exact rfl|exact trivial|exact Ei _ rfl|refine lN ?_|refine bS ?_|fail
     exact congrArg (fun n=>(⟨plD,n,[]⟩:Dp)) List.length_set.symm
   ·refine Tp.wk (wk_of [(9000,1664),(9001,1665),(9002,1666),(9003,1667),(9004,1668)] rfl rfl ?_ ?_ ?_) K
    ·repeat' first|refine Ai ?_ ?_|exact rfl|exact trivial|exact Ei _ rfl|refine lN ?_|refine bS ?_|fail
    ·repeat' first|refine Ai ?_ ?_|exact rfl|exact trivial|exact Ei _ rfl|refine lN ?_|refine bS ?_|fail
    ·repeat' first|refine Ai ?_ ?_|exact rfl|exact trivial|exact Ei _ rfl|refine lN ?_|refine bS ?_|fail
     exact congrArg (fun n=>(⟨plD,n,[]⟩:Dp)) List.length_set.symm
  ·have hRz:=remM_lib s s.objects[i].id i s.objects[i] q hq hql hz
   rw [hR] at hRz
   refine Tp.run [] ?_
   refine cM [] [(1664,0),(1665,0),(1666,0),(1667,0),(1668,0)] (remove_lib s i hi h e0 hz q hq hql) ?_ ?_ ?_
   ·repeat' first|refine Ai ?_ ?_|exact rfl|exact trivial|exact Ei _ rfl|refine lN ?_|refine bS ?_|fail
   ·exact rfl
   rw [hRz] at K
   refine cS (fun ht=>?_) (fun ht=>?_)
   ·refine Tp.wk (wk_of [(9000,1664),(9001,1665),(9002,1666),(9003,1667),(9004,1668)] rfl rfl ?_ ?_ ?_) K
    ·repeat' first|refine Ai ?_ ?_|exact rfl|exact trivial|exact Ei _ rfl|refine lN ?_|refine bS ?_|fail
    ·repeat' first|refine Ai ?_ ?_|exact rfl|exact trivial|exact Ei _ rfl|refine lN ?_|refine bS ?_|fail
    ·repeat' first|refine Ai ?_ ?_|exact rfl|exact trivial|exact Ei _ rfl|refine lN ?_|refine bS ?_|fail
     exact congrArg (fun n=>(⟨plD,n,[]⟩:Dp)) List.length_set.symm
   ·refine Tp.wk (wk_of [(9000,1664),(9001,1665),(9002,1666),(9003,1667),(9004,1668)] rfl rfl ?_ ?_ ?_) K
    ·repeat' first|refine Ai ?_ ?_|exact rfl|exact trivial|exact Ei _ rfl|refine lN ?_|refine bS ?_|fail
    ·repeat' first|refine Ai ?_ ?_|exact rfl|exact trivial|exact Ei _ rfl|refine lN ?_|refine bS ?_|fail
    ·repeat' first|refine Ai ?_ ?_|exact rfl|exact trivial|exact Ei _ rfl|refine lN ?_|refine bS ?_|fail
     exact congrArg (fun n=>(⟨plD,n,[]⟩:Dp)) List.length_set.symm
  ·have hRz:=remM_grave s s.objects[i].id i s.objects[i] q hq hql hz
   rw [hR] at hRz
   refine Tp.run [] ?_
   refine cM [] [(1664,0),(1665,0),(1666,0),(1667,0),(1668,0)] (remove_grave s i hi h e0 hz q hq hql) ?_ ?_ ?_
   ·repeat' first|refine Ai ?_ ?_|exact rfl|exact trivial|exact Ei _ rfl|refine lN ?_|refine bS ?_|fail
   ·exact rfl
   rw [hRz] at K
   refine cS (fun ht=>?_) (fun ht=>?_)
   ·refine Tp.wk (wk_of [(9000,1664),(9001,1665),(9002,1666),(9003,1667),(9004,1668)] rfl rfl ?_ ?_ ?_) K
    ·repeat' first|refine Ai ?_ ?_|exact rfl|exact trivial|exact Ei _ rfl|refine lN ?_|refine bS ?_|fail
    ·repeat' first|refine Ai ?_ ?_|exact rfl|exact trivial|exact Ei _ rfl|refine lN ?_|refine bS ?_|fail
    ·repeat' first|refine Ai ?_ ?_|exact rfl|exact trivial|exact Ei _ rfl|refine lN ?_|refine bS ?_|fail
     exact congrArg (fun n=>(⟨plD,n,[]⟩:Dp)) List.length_set.symm
   ·refine Tp.wk (wk_of [(9000,1664),(9001,1665),(9002,1666),(9003,1667),(9004,1668)] rfl rfl ?_ ?_ ?_) K
    ·repeat' first|refine Ai ?_ ?_|exact rfl|exact trivial|exact Ei _ rfl|refine lN ?_|refine bS ?_|fail
    ·repeat' first|refine Ai ?_ ?_|exact rfl|exact trivial|exact Ei _ rfl|refine lN ?_|refine bS ?_|fail
    ·repeat' first|refine Ai ?_ ?_|exact rfl|exact trivial|exact Ei _ rfl|refine lN ?_|refine bS ?_|fail
     exact congrArg (fun n=>(⟨plD,n,[]⟩:Dp)) List.length_set.symm
  ·have hRz:=remM_ex s s.objects[i].id i s.objects[i] hz
   rw [hR] at hRz
   refine Tp.run [] ?_
   refine cM [] [(1664,0),(1665,0),(1666,0),(1667,0),(1668,0)] (remove_ex s i hi h e0 hz) ?_ ?_ ?_
   ·repeat' first|refine Ai ?_ ?_|exact rfl|exact trivial|exact Ei _ rfl|refine lN ?_|refine bS ?_|fail
   ·exact rfl
   rw [hRz] at K
   refine cS (fun ht=>?_) (fun ht=>?_)
   ·refine Tp.wk (wk_of [(9000,1664),(9001,1665),(9002,1666),(9003,3456),(9004,1668)] rfl rfl ?_ ?_ ?_) K
    all_goals repeat' first|refine Ai ?_ ?_|exact rfl|exact trivial|exact Ei _ rfl|refine lN ?_|refine bS ?_|fail
   ·refine Tp.wk (wk_of [(9000,1664),(9001,1665),(9002,1666),(9003,3456),(9004,1668)] rfl rfl ?_ ?_ ?_) K
    all_goals repeat' first|refine Ai ?_ ?_|exact rfl|exact trivial|exact Ei _ rfl|refine lN ?_|refine bS ?_|fail
  ·have hRz:=remM_stk s s.objects[i].id i s.objects[i] q hq hql hz
   rw [hR] at hRz
   refine Tp.run [] ?_
   refine cM [] [(1664,0),(1665,0),(1666,0),(1667,0),(1668,0)] (remove_stk s i hi h e0 hz q hq hql) ?_ ?_ ?_
   ·repeat' first|refine Ai ?_ ?_|exact rfl|exact trivial|exact Ei _ rfl|refine lN ?_|refine bS ?_|fail
   ·exact rfl
   rw [hRz] at K
   refine cS (fun ht=>?_) (fun ht=>?_)
   ·refine Tp.wk (wk_of [(9000,1664),(9001,1665),(9002,1666),(9003,1667),(9004,1668)] rfl rfl ?_ ?_ ?_) K
    all_goals repeat' first|refine Ai ?_ ?_|exact rfl|exact trivial|exact Ei _ rfl|refine lN ?_|refine bS ?_|fail
   ·refine Tp.wk (wk_of [(9000,1664),(9001,1665),(9002,1666),(9003,1667),(9004,1668)] rfl rfl ?_ ?_ ?_) K
    all_goals repeat' first|refine Ai ?_ ?_|exact rfl|exact trivial|exact Ei _ rfl|refine lN ?_|refine bS ?_|fail
 case key=>
  have hv:=movedP_ct s.objects[i] R.nextId 0 p R.nextStamp
  unfold mvNew at hM
  obtain ⟨x,hx⟩:∃ x,movedM s.objects[i] R.nextId 0 p R.nextStamp=x:=⟨_,rfl⟩
  rw [hx] at hv hM
  have hxi:x.id=R.nextId:=by rw [← hx];rfl
  have hxo:x.owner=(q:Int):=by rw [← hx];exact hq
  rw [← hxi] at hno
  refine Tp.run [15,16,17] ?_
  refine cI hv ⟨fL s.objects[i].enc,rfl,rfl,rfl,rfl,trivial⟩ (.inl rfl) ?_
  refine cM [] [(9000,0),(9001,1),(9002,0),(9003,0),(9004,1)] (put_ctm R x hRok.2.2.1 hno) ?_ ?_ ?_
  ·repeat' first|refine Ai ?_ ?_|exact rfl|exact trivial|exact Ei _ rfl|refine lN ?_|refine bS ?_|fail
  ·exact rfl
  rw [end_bf R x hno b] at hM
  subst hM
  have hbt:R.battlefield.length*8≤limB:=hRok.2.2.2.2.1
  refine cM [0] [(9000,0),(9001,2),(9002,0),(9003,0),(9004,1)] (list_bf (addO R x) x.owner) ?_ ?_ ?_
  ·repeat' first|refine Ai ?_ ?_|exact rfl|exact trivial|exact Ei _ rfl|refine lN ?_|refine bS ?_|fail
  ·exact rfl
  refine Tp.run [] ?_
  refine Ai (.inl rfl) (Ai ?_ (Ai ?_ ?_))
  ·show ((R.battlefield.map eI).length+1)*8≤_
   rw [Lm]
   exact Nat.le_of_lt (one_more (by decide) hbt)
  ·show (R.battlefield.map eI).length+1 < _
   rw [Lm]
   have:=one_more (n:=R.battlefield.length) (b:=8) (by decide) hbt
   omega
  refine Tp.frz [9001] (Tp.run [] ?_)
  refine Ei [(0,9001)] (Ai rfl (Ai ?_ ?_))
  ·repeat' first|refine Ai ?_ ?_|exact rfl|exact trivial|exact Ei _ rfl|refine lN ?_|refine bS ?_|fail
  ·repeat' first|refine Ai ?_ ?_|exact rfl|exact trivial|exact Ei _ rfl|refine lN ?_|refine bS ?_|fail
   first
   | exact congrArg (Tr.sl 1) (List.map_append (f:=eI) (l₁:=R.battlefield) (l₂:=[x.id])).symm
   | exact congrArg (Tr.sl 1) (List.map_append (f:=eI) (l₁:=R.battlefield) (l₂:=[x.id]))
theorem moveP_hand (s:GState) (id p:Int) (b:Bool) (i:Nat) (h:s.ok) (hi:i < s.objects.length) (e0:placeM s.objects id=i) (e1:s.objects.findIdx? (fun o=>o.id==id)=some i) (e2:s.objects.find? (fun o=>o.id==id)=some s.objects[i]) (hid:s.objects[i].id=id) (q:Nat) (hq:s.objects[i].owner=(q:Int)) (hql:q < s.players.length) (hlt:∀ y∈s.objects,y.id < s.nextId) (hzz:0≤s.objects[i].zone∧s.objects[i].zone≤5) :
  Ct Tryz.prog 70 [.agg (s.enc.map .t),.c (.t (iv id)),.c (.t (iv 1)),.c (.t (iv p)),AV.b b] (.tup [.agg (((moveM s id 1 p b).1.enc.map .t).set 1 (.row 0 0)),.c (.t (iv (moveM s id 1 p b).2))]) [⟨49,19,0,(moveM s id 1 p b).1.objects.map GObject.enc,none⟩] false:=by
 subst hid
 have hf:=findP_ct s s.objects[i].id h.2.2.1
 unfold findM hasM at hf
 rw [e2] at hf
 change Ct _ _ _ (.tup [.agg (s.objects[i].enc.map .t),AV.b true]) _ _ at hf
 generalize hM:moveM s s.objects[i].id 1 p b=M
 unfold moveM at hM
 rw [e1] at hM
 simp only [List.getElem?_eq_getElem hi] at hM
 unfold mvFound at hM
 rw [if_neg (by omega)] at hM
 obtain ⟨hRok,hRn⟩:=remM_ok h s.objects[i].id i s.objects[i] hi
 have hno:=remM_nos (id:=s.objects[i].id) (i:=i) (o:=s.objects[i]) hlt
 have hRpl:(remM s s.objects[i].id i s.objects[i]).players.length=s.players.length:=remM_pl s _ i _
 refine ct_of Tryz.func70 rfl (enters_of Tryz.func70 (by kernel_rfl) rfl) tabOk (by kernel_rfl) rfl rfl rfl rfl fun w0 O _=>Tp.run [5,7,8,15,16,17] ?_
 refine cI hf ⟨fL s.enc,rfl,trivial⟩ (.inl rfl) ?_
 refine cI (copyP_ct s h) ⟨fL s.enc,trivial⟩ (.inr rfl) ?_
 obtain ⟨R,hR⟩:∃ R,remM s s.objects[i].id i s.objects[i]=R:=⟨_,rfl⟩
 rw [hR] at hM hRok hRn hno hRpl
 by_cases ht:s.objects[i].token=true
 ·rw [if_pos ⟨ht,rfl,rfl⟩] at hM
  rcases (show s.objects[i].zone=0∨s.objects[i].zone=1∨s.objects[i].zone=2∨s.objects[i].zone=3∨s.objects[i].zone=4∨s.objects[i].zone=5 by omega) with hz|hz|hz|hz|hz|hz
  ·have hRz:=remM_bf s s.objects[i].id i s.objects[i] hz
   rw [hR] at hRz
   refine Tp.run [] ?_
   refine cM [] [(1664,0),(1665,0),(1666,0),(1667,0),(1668,0)] (remove_bf s i hi h e0 hz) ?_ ?_ ?_
   ·repeat' first|refine Ai ?_ ?_|exact rfl|exact trivial|exact Ei _ rfl|refine lN ?_|refine bS ?_|fail
   ·exact rfl
   rw [hRz] at hM
   subst hM
   refine cond_t ht ?_
   refine Tp.frz [1665] (Tp.run [] ?_)
   refine Ei [(0,1665)] (Ai rfl (Ai ?_ ?_))
   all_goals repeat' first|refine Ai ?_ ?_|exact rfl|exact trivial|exact Ei _ rfl|refine lN ?_|refine bS ?_|fail
  ·have hRz:=remM_hand s s.objects[i].id i s.objects[i] q hq hql hz
   rw [hR] at hRz
   refine Tp.run [] ?_
   refine cM [] [(1664,0),(1665,0),(1666,0),(1667,0),(1668,0)] (remove_hand s i hi h e0 hz q hq hql) ?_ ?_ ?_
   ·repeat' first|refine Ai ?_ ?_|exact rfl|exact trivial|exact Ei _ rfl|refine lN ?_|refine bS ?_|fail
   ·exact rfl
   rw [hRz] at hM
   subst hM
   refine cond_t ht ?_
   refine Tp.frz [1665] (Tp.run [] ?_)
   refine Ei [(0,1665)] (Ai rfl (Ai ?_ ?_))
   all_goals repeat' first|refine Ai ?_ ?_|exact rfl|exact trivial|exact Ei _ rfl|refine lN ?_|refine bS ?_|fail
  ·have hRz:=remM_lib s s.objects[i].id i s.objects[i] q hq hql hz
   rw [hR] at hRz
   refine Tp.run [] ?_
   refine cM [] [(1664,0),(1665,0),(1666,0),(1667,0),(1668,0)] (remove_lib s i hi h e0 hz q hq hql) ?_ ?_ ?_
   ·repeat' first|refine Ai ?_ ?_|exact rfl|exact trivial|exact Ei _ rfl|refine lN ?_|refine bS ?_|fail
   ·exact rfl
   rw [hRz] at hM
   subst hM
   refine cond_t ht ?_
   refine Tp.frz [1665] (Tp.run [] ?_)
   refine Ei [(0,1665)] (Ai rfl (Ai ?_ ?_))
   all_goals repeat' first|refine Ai ?_ ?_|exact rfl|exact trivial|exact Ei _ rfl|refine lN ?_|refine bS ?_|fail
  ·have hRz:=remM_grave s s.objects[i].id i s.objects[i] q hq hql hz
   rw [hR] at hRz
   refine Tp.run [] ?_
   refine cM [] [(1664,0),(1665,0),(1666,0),(1667,0),(1668,0)] (remove_grave s i hi h e0 hz q hq hql) ?_ ?_ ?_
   ·repeat' first|refine Ai ?_ ?_|exact rfl|exact trivial|exact Ei _ rfl|refine lN ?_|refine bS ?_|fail
   ·exact rfl
   rw [hRz] at hM
   subst hM
   refine cond_t ht ?_
   refine Tp.frz [1665] (Tp.run [] ?_)
   refine Ei [(0,1665)] (Ai rfl (Ai ?_ ?_))
   all_goals repeat' first|refine Ai ?_ ?_|exact rfl|exact trivial|exact Ei _ rfl|refine lN ?_|refine bS ?_|fail
  ·have hRz:=remM_ex s s.objects[i].id i s.objects[i] hz
   rw [hR] at hRz
   refine Tp.run [] ?_
   refine cM [] [(1664,0),(1665,0),(1666,0),(1667,0),(1668,0)] (remove_ex s i hi h e0 hz) ?_ ?_ ?_
   ·repeat' first|refine Ai ?_ ?_|exact rfl|exact trivial|exact Ei _ rfl|refine lN ?_|refine bS ?_|fail
   ·exact rfl
   rw [hRz] at hM
   subst hM
   refine cond_t ht ?_
   refine Tp.frz [1665] (Tp.run [] ?_)
   refine Ei [(0,1665)] (Ai rfl (Ai ?_ ?_))
   all_goals repeat' first|refine Ai ?_ ?_|exact rfl|exact trivial|exact Ei _ rfl|refine lN ?_|refine bS ?_|fail
  ·have hRz:=remM_stk s s.objects[i].id i s.objects[i] q hq hql hz
   rw [hR] at hRz
   refine Tp.run [] ?_
   refine cM [] [(1664,0),(1665,0),(1666,0),(1667,0),(1668,0)] (remove_stk s i hi h e0 hz q hq hql) ?_ ?_ ?_
   ·repeat' first|refine Ai ?_ ?_|exact rfl|exact trivial|exact Ei _ rfl|refine lN ?_|refine bS ?_|fail
   ·exact rfl
   rw [hRz] at hM
   subst hM
   refine cond_t ht ?_
   refine Tp.frz [1665] (Tp.run [] ?_)
   refine Ei [(0,1665)] (Ai rfl (Ai ?_ ?_))
   all_goals repeat' first|refine Ai ?_ ?_|exact rfl|exact trivial|exact Ei _ rfl|refine lN ?_|refine bS ?_|fail
 have ht:s.objects[i].token=false:=by simpa using ht
 rw [if_neg (fun hx=>by rw [ht] at hx;cases hx.1)] at hM
 apply joinK (P:=Tryz.prog) (T:=T) (N:=Tryz.f70.ntmps) (w0:=w0) (O:=O) ⟨[(2,.c (.t (iv 1))),(3,.c (.t (iv p))),(4,AV.b b),(5,.ptr 0 0),(10,.ptr 128 0),(12,.ptr 1152 0)],[(0,cells9 R),(128,List.replicate 19 .bot),(1152,s.objects[i].enc.map .t)],rows9 R,20000⟩
 case h=>
  intro K
  rcases (show s.objects[i].zone=0∨s.objects[i].zone=1∨s.objects[i].zone=2∨s.objects[i].zone=3∨s.objects[i].zone=4∨s.objects[i].zone=5 by omega) with hz|hz|hz|hz|hz|hz
  ·have hRz:=remM_bf s s.objects[i].id i s.objects[i] hz
   rw [hR] at hRz
   refine Tp.run [] ?_
   refine cM [] [(1664,0),(1665,0),(1666,0),(1667,0),(1668,0)] (remove_bf s i hi h e0 hz) ?_ ?_ ?_
   ·repeat' first|refine Ai ?_ ?_|exact rfl|exact trivial|exact Ei _ rfl|refine lN ?_|refine bS ?_|fail
   ·exact rfl
   rw [hRz] at K
   refine cond_f ht ?_
   refine Tp.wk (wk_of [(9000,1664),(9001,1665),(9002,3456),(9003,1667),(9004,1668)] rfl rfl ?_ ?_ ?_) K
   all_goals repeat' first|refine Ai ?_ ?_|exact rfl|exact trivial|exact Ei _ rfl|refine lN ?_|refine bS ?_|fail
  ·have hRz:=remM_hand s s.objects[i].id i s.objects[i] q hq hql hz
   rw [hR] at hRz
   refine Tp.run [] ?_
   refine cM [] [(1664,0),(1665,0),(1666,0),(1667,0),(1668,0)] (remove_hand s i hi h e0 hz q hq hql) ?_ ?_ ?_
   ·repeat' first|refine Ai ?_ ?_|exact rfl|exact trivial|exact Ei _ rfl|refine lN ?_|refine bS ?_|fail
   ·exact rfl
   rw [hRz] at K
   refine cond_f ht ?_
   refine Tp.wk (wk_of [(9000,1664),(9001,1665),(9002,1666),(9003,1667),(9004,1668)] rfl rfl ?_ ?_ ?_) K
   ·repeat' first|refine Ai ?_ ?_|exact rfl|exact trivial|exact Ei _ rfl|refine lN ?_|refine bS ?_|fail
   ·repeat' first|refine Ai ?_ ?_|exact rfl|exact trivial|exact Ei _ rfl|refine lN ?_|refine bS ?_|fail
   ·repeat' first|refine Ai ?_ ?_|exact rfl|exact trivial|exact Ei _ rfl|refine lN ?_|refine bS ?_|fail
    exact congrArg (fun n=>(⟨plD,n,[]⟩:Dp)) List.length_set.symm
  ·have hRz:=remM_lib s s.objects[i].id i s.objects[i] q hq hql hz
   rw [hR] at hRz
   refine Tp.run [] ?_
   refine cM [] [(1664,0),(1665,0),(1666,0),(1667,0),(1668,0)] (remove_lib s i hi h e0 hz q hq hql) ?_ ?_ ?_
   ·repeat' first|refine Ai ?_ ?_|exact rfl|exact trivial|exact Ei _ rfl|refine lN ?_|refine bS ?_|fail
   ·exact rfl
   rw [hRz] at K
   refine cond_f ht ?_
   refine Tp.wk (wk_of [(9000,1664),(9001,1665),(9002,1666),(9003,1667),(9004,1668)] rfl rfl ?_ ?_ ?_) K
   ·repeat' first|refine Ai ?_ ?_|exact rfl|exact trivial|exact Ei _ rfl|refine lN ?_|refine bS ?_|fail
   ·repeat' first|refine Ai ?_ ?_|exact rfl|exact trivial|exact Ei _ rfl|refine lN ?_|refine bS ?_|fail
   ·repeat' first|refine Ai ?_ ?_|exact rfl|exact trivial|exact Ei _ rfl|refine lN ?_|refine bS ?_|fail
    exact congrArg (fun n=>(⟨plD,n,[]⟩:Dp)) List.length_set.symm
  ·have hRz:=remM_grave s s.objects[i].id i s.objects[i] q hq hql hz
   rw [hR] at hRz
   refine Tp.run [] ?_
   refine cM [] [(1664,0),(1665,0),(1666,0),(1667,0),(1668,0)] (remove_grave s i hi h e0 hz q hq hql) ?_ ?_ ?_
   ·repeat' first|refine Ai ?_ ?_|exact rfl|exact trivial|exact Ei _ rfl|refine lN ?_|refine bS ?_|fail
   ·exact rfl
   rw [hRz] at K
   refine cond_f ht ?_
   refine Tp.wk (wk_of [(9000,1664),(9001,1665),(9002,1666),(9003,1667),(9004,1668)] rfl rfl ?_ ?_ ?_) K
   ·repeat' first|refine Ai ?_ ?_|exact rfl|exact trivial|exact Ei _ rfl|refine lN ?_|refine bS ?_|fail
   ·repeat' first|refine Ai ?_ ?_|exact rfl|exact trivial|exact Ei _ rfl|refine lN ?_|refine bS ?_|fail
   ·repeat' first|refine Ai ?_ ?_|exact rfl|exact trivial|exact Ei _ rfl|refine lN ?_|refine bS ?_|fail
    exact congrArg (fun n=>(⟨plD,n,[]⟩:Dp)) List.length_set.symm
  ·have hRz:=remM_ex s s.objects[i].id i s.objects[i] hz
   rw [hR] at hRz
   refine Tp.run [] ?_
   refine cM [] [(1664,0),(1665,0),(1666,0),(1667,0),(1668,0)] (remove_ex s i hi h e0 hz) ?_ ?_ ?_
   ·repeat' first|refine Ai ?_ ?_|exact rfl|exact trivial|exact Ei _ rfl|refine lN ?_|refine bS ?_|fail
   ·exact rfl
   rw [hRz] at K
   refine cond_f ht ?_
   refine Tp.wk (wk_of [(9000,1664),(9001,1665),(9002,1666),(9003,3456),(9004,1668)] rfl rfl ?_ ?_ ?_) K
   all_goals repeat' first|refine Ai ?_ ?_|exact rfl|exact trivial|exact Ei _ rfl|refine lN ?_|refine bS ?_|fail
  ·have hRz:=remM_stk s s.objects[i].id i s.objects[i] q hq hql hz
   rw [hR] at hRz
   refine Tp.run [] ?_
   refine cM [] [(1664,0),(1665,0),(1666,0),(1667,0),(1668,0)] (remove_stk s i hi h e0 hz q hq hql) ?_ ?_ ?_
   ·repeat' first|refine Ai ?_ ?_|exact rfl|exact trivial|exact Ei _ rfl|refine lN ?_|refine bS ?_|fail
   ·exact rfl
   rw [hRz] at K
   refine cond_f ht ?_
   refine Tp.wk (wk_of [(9000,1664),(9001,1665),(9002,1666),(9003,1667),(9004,1668)] rfl rfl ?_ ?_ ?_) K
   all_goals repeat' first|refine Ai ?_ ?_|exact rfl|exact trivial|exact Ei _ rfl|refine lN ?_|refine bS ?_|fail
 case key=>
  have hv:=movedP_ct s.objects[i] R.nextId 1 p R.nextStamp
  unfold mvNew at hM
  obtain ⟨x,hx⟩:∃ x,movedM s.objects[i] R.nextId 1 p R.nextStamp=x:=⟨_,rfl⟩
  rw [hx] at hv hM
  have hxi:x.id=R.nextId:=by rw [← hx];rfl
  have hxo:x.owner=(q:Int):=by rw [← hx];exact hq
  rw [← hxi] at hno
  refine Tp.run [15,16,17] ?_
  refine cI hv ⟨fL s.objects[i].enc,rfl,rfl,rfl,rfl,trivial⟩ (.inl rfl) ?_
  refine cM [] [(9000,0),(9001,1),(9002,0),(9003,0),(9004,1)] (put_ctm R x hRok.2.2.1 hno) ?_ ?_ ?_
  ·repeat' first|refine Ai ?_ ?_|exact rfl|exact trivial|exact Ei _ rfl|refine lN ?_|refine bS ?_|fail
  ·exact rfl
  have hqR:q < R.players.length:=by rw [hRpl];exact hql
  have hqm:q < (R.players.map GPlayer.enc).length:=by rw [Lm];exact hqR
  have hll:R.players[q].hand.length*8≤limB:=(hRok.2.1 _ (List.getElem_mem hqR)).2.1
  rw [end_hand R x hno b q hxo hqR] at hM
  have hl:=list_hand (addO R x) q hqR
  rw [← hxo] at hl
  refine cM [0] [(9000,0),(9001,2),(9002,0),(9003,0),(9004,1)] hl ?_ ?_ ?_
  ·repeat' first|refine Ai ?_ ?_|exact rfl|exact trivial|exact Ei _ rfl|refine lN ?_|refine bS ?_|fail
  ·exact rfl
  subst hM
  refine Tp.take 9000 q 12 3 1 (ts:=R.players[q].enc) (ys:=R.players[q].hand.map eI) rfl rfl rfl (by simp [plD]) hqR (map_get _ _ q hqR) rfl ?_
  refine Tp.run [] ?_
  refine Ai rfl (Ai hqm (Ai (Nb rfl) ?_))
  refine Ai (.inl rfl) (Ai ?_ (Ai ?_ ?_))
  ·show ((R.players[q].hand.map eI).length+1)*8≤_
   rw [Lm]
   exact Nat.le_of_lt (one_more (by decide) hll)
  ·show (R.players[q].hand.map eI).length+1 < _
   rw [Lm]
   have:=one_more (n:=R.players[q].hand.length) (b:=8) (by decide) hll
   omega
  refine Ei (R.players[q].enc) (Ai (map_get _ _ q hqR) (Ai (Nb rfl) (Ai (Ai rfl trivial) (Ai (.inl rfl) ?_))))
  refine Tp.put 9000 q R.players.length rfl rfl (List.getElem?_set_self hqm) rfl (Ai rfl trivial) rfl (.inl (Ai rfl hqR)) ?_
  refine Tp.frz [9001] (Tp.run [] ?_)
  refine Ei [(0,9001)] (Ai rfl (Ai ?_ ?_))
  ·repeat' first|refine Ai ?_ ?_|exact rfl|exact trivial|exact Ei _ rfl|refine lN ?_|refine bS ?_|fail
  ·repeat' first|refine Ai ?_ ?_|exact rfl|exact trivial|exact Ei _ rfl|refine lN ?_|refine bS ?_|fail
   exact congrArg (Tr.sl 14) (pl_app_hand R.players q R.players[q] _ x.id)
theorem moveP_lib (s:GState) (id p:Int) (b:Bool) (i:Nat) (h:s.ok) (hi:i < s.objects.length) (e0:placeM s.objects id=i) (e1:s.objects.findIdx? (fun o=>o.id==id)=some i) (e2:s.objects.find? (fun o=>o.id==id)=some s.objects[i]) (hid:s.objects[i].id=id) (q:Nat) (hq:s.objects[i].owner=(q:Int)) (hql:q < s.players.length) (hlt:∀ y∈s.objects,y.id < s.nextId) (hzz:0≤s.objects[i].zone∧s.objects[i].zone≤5) :
  Ct Tryz.prog 70 [.agg (s.enc.map .t),.c (.t (iv id)),.c (.t (iv 2)),.c (.t (iv p)),AV.b b] (.tup [.agg (((moveM s id 2 p b).1.enc.map .t).set 1 (.row 0 0)),.c (.t (iv (moveM s id 2 p b).2))]) [⟨49,19,0,(moveM s id 2 p b).1.objects.map GObject.enc,none⟩] false:=by
 subst hid
 have hf:=findP_ct s s.objects[i].id h.2.2.1
 unfold findM hasM at hf
 rw [e2] at hf
 change Ct _ _ _ (.tup [.agg (s.objects[i].enc.map .t),AV.b true]) _ _ at hf
 generalize hM:moveM s s.objects[i].id 2 p b=M
 unfold moveM at hM
 rw [e1] at hM
 simp only [List.getElem?_eq_getElem hi] at hM
 unfold mvFound at hM
 rw [if_neg (by omega)] at hM
 obtain ⟨hRok,hRn⟩:=remM_ok h s.objects[i].id i s.objects[i] hi
 have hno:=remM_nos (id:=s.objects[i].id) (i:=i) (o:=s.objects[i]) hlt
 have hRpl:(remM s s.objects[i].id i s.objects[i]).players.length=s.players.length:=remM_pl s _ i _
 refine ct_of Tryz.func70 rfl (enters_of Tryz.func70 (by kernel_rfl) rfl) tabOk (by kernel_rfl) rfl rfl rfl rfl fun w0 O _=>Tp.run [5,7,8,15,16,17] ?_
 refine cI hf ⟨fL s.enc,rfl,trivial⟩ (.inl rfl) ?_
 refine cI (copyP_ct s h) ⟨fL s.enc,trivial⟩ (.inr rfl) ?_
 obtain ⟨R,hR⟩:∃ R,remM s s.objects[i].id i s.objects[i]=R:=⟨_,rfl⟩
 rw [hR] at hM hRok hRn hno hRpl
 by_cases ht:s.objects[i].token=true
 ·rw [if_pos ⟨ht,rfl,rfl⟩] at hM
  rcases (show s.objects[i].zone=0∨s.objects[i].zone=1∨s.objects[i].zone=2∨s.objects[i].zone=3∨s.objects[i].zone=4∨s.objects[i].zone=5 by omega) with hz|hz|hz|hz|hz|hz
  ·have hRz:=remM_bf s s.objects[i].id i s.objects[i] hz
   rw [hR] at hRz
   refine Tp.run [] ?_
   refine cM [] [(1664,0),(1665,0),(1666,0),(1667,0),(1668,0)] (remove_bf s i hi h e0 hz) ?_ ?_ ?_
   ·repeat' first|refine Ai ?_ ?_|exact rfl|exact trivial|exact Ei _ rfl|refine lN ?_|refine bS ?_|fail
   ·exact rfl
   rw [hRz] at hM
   subst hM
   refine cond_t ht ?_
   refine Tp.frz [1665] (Tp.run [] ?_)
   refine Ei [(0,1665)] (Ai rfl (Ai ?_ ?_))
   all_goals repeat' first|refine Ai ?_ ?_|exact rfl|exact trivial|exact Ei _ rfl|refine lN ?_|refine bS ?_|fail
  ·have hRz:=remM_hand s s.objects[i].id i s.objects[i] q hq hql hz
   rw [hR] at hRz
   refine Tp.run [] ?_
   refine cM [] [(1664,0),(1665,0),(1666,0),(1667,0),(1668,0)] (remove_hand s i hi h e0 hz q hq hql) ?_ ?_ ?_
   ·repeat' first|refine Ai ?_ ?_|exact rfl|exact trivial|exact Ei _ rfl|refine lN ?_|refine bS ?_|fail
   ·exact rfl
   rw [hRz] at hM
   subst hM
   refine cond_t ht ?_
   refine Tp.frz [1665] (Tp.run [] ?_)
   refine Ei [(0,1665)] (Ai rfl (Ai ?_ ?_))
   all_goals repeat' first|refine Ai ?_ ?_|exact rfl|exact trivial|exact Ei _ rfl|refine lN ?_|refine bS ?_|fail
  ·have hRz:=remM_lib s s.objects[i].id i s.objects[i] q hq hql hz
   rw [hR] at hRz
   refine Tp.run [] ?_
   refine cM [] [(1664,0),(1665,0),(1666,0),(1667,0),(1668,0)] (remove_lib s i hi h e0 hz q hq hql) ?_ ?_ ?_
   ·repeat' first|refine Ai ?_ ?_|exact rfl|exact trivial|exact Ei _ rfl|refine lN ?_|refine bS ?_|fail
   ·exact rfl
   rw [hRz] at hM
   subst hM
   refine cond_t ht ?_
   refine Tp.frz [1665] (Tp.run [] ?_)
   refine Ei [(0,1665)] (Ai rfl (Ai ?_ ?_))
   all_goals repeat' first|refine Ai ?_ ?_|exact rfl|exact trivial|exact Ei _ rfl|refine lN ?_|refine bS ?_|fail
  ·have hRz:=remM_grave s s.objects[i].id i s.objects[i] q hq hql hz
   rw [hR] at hRz
   refine Tp.run [] ?_
   refine cM [] [(1664,0),(1665,0),(1666,0),(1667,0),(1668,0)] (remove_grave s i hi h e0 hz q hq hql) ?_ ?_ ?_
   ·repeat' first|refine Ai ?_ ?_|exact rfl|exact trivial|exact Ei _ rfl|refine lN ?_|refine bS ?_|fail
   ·exact rfl
   rw [hRz] at hM
   subst hM
   refine cond_t ht ?_
   refine Tp.frz [1665] (Tp.run [] ?_)
   refine Ei [(0,1665)] (Ai rfl (Ai ?_ ?_))
   all_goals repeat' first|refine Ai ?_ ?_|exact rfl|exact trivial|exact Ei _ rfl|refine lN ?_|refine bS ?_|fail
  ·have hRz:=remM_ex s s.objects[i].id i s.objects[i] hz
   rw [hR] at hRz
   refine Tp.run [] ?_
   refine cM [] [(1664,0),(1665,0),(1666,0),(1667,0),(1668,0)] (remove_ex s i hi h e0 hz) ?_ ?_ ?_
   ·repeat' first|refine Ai ?_ ?_|exact rfl|exact trivial|exact Ei _ rfl|refine lN ?_|refine bS ?_|fail
   ·exact rfl
   rw [hRz] at hM
   subst hM
   refine cond_t ht ?_
   refine Tp.frz [1665] (Tp.run [] ?_)
   refine Ei [(0,1665)] (Ai rfl (Ai ?_ ?_))
   all_goals repeat' first|refine Ai ?_ ?_|exact rfl|exact trivial|exact Ei _ rfl|refine lN ?_|refine bS ?_|fail
  ·have hRz:=remM_stk s s.objects[i].id i s.objects[i] q hq hql hz
   rw [hR] at hRz
   refine Tp.run [] ?_
   refine cM [] [(1664,0),(1665,0),(1666,0),(1667,0),(1668,0)] (remove_stk s i hi h e0 hz q hq hql) ?_ ?_ ?_
   ·repeat' first|refine Ai ?_ ?_|exact rfl|exact trivial|exact Ei _ rfl|refine lN ?_|refine bS ?_|fail
   ·exact rfl
   rw [hRz] at hM
   subst hM
   refine cond_t ht ?_
   refine Tp.frz [1665] (Tp.run [] ?_)
   refine Ei [(0,1665)] (Ai rfl (Ai ?_ ?_))
   all_goals repeat' first|refine Ai ?_ ?_|exact rfl|exact trivial|exact Ei _ rfl|refine lN ?_|refine bS ?_|fail
 have ht:s.objects[i].token=false:=by simpa using ht
 rw [if_neg (fun hx=>by rw [ht] at hx;cases hx.1)] at hM
 apply joinK (P:=Tryz.prog) (T:=T) (N:=Tryz.f70.ntmps) (w0:=w0) (O:=O) ⟨[(2,.c (.t (iv 2))),(3,.c (.t (iv p))),(4,AV.b b),(5,.ptr 0 0),(10,.ptr 128 0),(12,.ptr 1152 0)],[(0,cells9 R),(128,List.replicate 19 .bot),(1152,s.objects[i].enc.map .t)],rows9 R,20000⟩
 case h=>
  intro K
  rcases (show s.objects[i].zone=0∨s.objects[i].zone=1∨s.objects[i].zone=2∨s.objects[i].zone=3∨s.objects[i].zone=4∨s.objects[i].zone=5 by omega) with hz|hz|hz|hz|hz|hz
  ·have hRz:=remM_bf s s.objects[i].id i s.objects[i] hz
   rw [hR] at hRz
   refine Tp.run [] ?_
   refine cM [] [(1664,0),(1665,0),(1666,0),(1667,0),(1668,0)] (remove_bf s i hi h e0 hz) ?_ ?_ ?_
   ·repeat' first|refine Ai ?_ ?_|exact rfl|exact trivial|exact Ei _ rfl|refine lN ?_|refine bS ?_|fail
   ·exact rfl
   rw [hRz] at K
   refine cond_f ht ?_
   refine Tp.wk (wk_of [(9000,1664),(9001,1665),(9002,3456),(9003,1667),(9004,1668)] rfl rfl ?_ ?_ ?_) K
   all_goals repeat' first|refine Ai ?_ ?_|exact rfl|exact trivial|exact Ei _ rfl|refine lN ?_|refine bS ?_|fail
  ·have hRz:=remM_hand s s.objects[i].id i s.objects[i] q hq hql hz
   rw [hR] at hRz
   refine Tp.run [] ?_
   refine cM [] [(1664,0),(1665,0),(1666,0),(1667,0),(1668,0)] (remove_hand s i hi h e0 hz q hq hql) ?_ ?_ ?_
   ·repeat' first|refine Ai ?_ ?_|exact rfl|exact trivial|exact Ei _ rfl|refine lN ?_|refine bS ?_|fail
   ·exact rfl
   rw [hRz] at K
   refine cond_f ht ?_
   refine Tp.wk (wk_of [(9000,1664),(9001,1665),(9002,1666),(9003,1667),(9004,1668)] rfl rfl ?_ ?_ ?_) K
   ·repeat' first|refine Ai ?_ ?_|exact rfl|exact trivial|exact Ei _ rfl|refine lN ?_|refine bS ?_|fail
   ·repeat' first|refine Ai ?_ ?_|exact rfl|exact trivial|exact Ei _ rfl|refine lN ?_|refine bS ?_|fail
   ·repeat' first|refine Ai ?_ ?_|exact rfl|exact trivial|exact Ei _ rfl|refine lN ?_|refine bS ?_|fail
    exact congrArg (fun n=>(⟨plD,n,[]⟩:Dp)) List.length_set.symm
  ·have hRz:=remM_lib s s.objects[i].id i s.objects[i] q hq hql hz
   rw [hR] at hRz
   refine Tp.run [] ?_
   refine cM [] [(1664,0),(1665,0),(1666,0),(1667,0),(1668,0)] (remove_lib s i hi h e0 hz q hq hql) ?_ ?_ ?_
   ·repeat' first|refine Ai ?_ ?_|exact rfl|exact trivial|exact Ei _ rfl|refine lN ?_|refine bS ?_|fail
   ·exact rfl
   rw [hRz] at K
   refine cond_f ht ?_
   refine Tp.wk (wk_of [(9000,1664),(9001,1665),(9002,1666),(9003,1667),(9004,1668)] rfl rfl ?_ ?_ ?_) K
   ·repeat' first|refine Ai ?_ ?_|exact rfl|exact trivial|exact Ei _ rfl|refine lN ?_|refine bS ?_|fail
   ·repeat' first|refine Ai ?_ ?_|exact rfl|exact trivial|exact Ei _ rfl|refine lN ?_|refine bS ?_|fail
   ·repeat' first|refine Ai ?_ ?_|exact rfl|exact trivial|exact Ei _ rfl|refine lN ?_|refine bS ?_|fail
    exact congrArg (fun n=>(⟨plD,n,[]⟩:Dp)) List.length_set.symm
  ·have hRz:=remM_grave s s.objects[i].id i s.objects[i] q hq hql hz
   rw [hR] at hRz
   refine Tp.run [] ?_
   refine cM [] [(1664,0),(1665,0),(1666,0),(1667,0),(1668,0)] (remove_grave s i hi h e0 hz q hq hql) ?_ ?_ ?_
   ·repeat' first|refine Ai ?_ ?_|exact rfl|exact trivial|exact Ei _ rfl|refine lN ?_|refine bS ?_|fail
   ·exact rfl
   rw [hRz] at K
   refine cond_f ht ?_
   refine Tp.wk (wk_of [(9000,1664),(9001,1665),(9002,1666),(9003,1667),(9004,1668)] rfl rfl ?_ ?_ ?_) K
   ·repeat' first|refine Ai ?_ ?_|exact rfl|exact trivial|exact Ei _ rfl|refine lN ?_|refine bS ?_|fail
   ·repeat' first|refine Ai ?_ ?_|exact rfl|exact trivial|exact Ei _ rfl|refine lN ?_|refine bS ?_|fail
   ·repeat' first|refine Ai ?_ ?_|exact rfl|exact trivial|exact Ei _ rfl|refine lN ?_|refine bS ?_|fail
    exact congrArg (fun n=>(⟨plD,n,[]⟩:Dp)) List.length_set.symm
  ·have hRz:=remM_ex s s.objects[i].id i s.objects[i] hz
   rw [hR] at hRz
   refine Tp.run [] ?_
   refine cM [] [(1664,0),(1665,0),(1666,0),(1667,0),(1668,0)] (remove_ex s i hi h e0 hz) ?_ ?_ ?_
   ·repeat' first|refine Ai ?_ ?_|exact rfl|exact trivial|exact Ei _ rfl|refine lN ?_|refine bS ?_|fail
   ·exact rfl
   rw [hRz] at K
   refine cond_f ht ?_
   refine Tp.wk (wk_of [(9000,1664),(9001,1665),(9002,1666),(9003,3456),(9004,1668)] rfl rfl ?_ ?_ ?_) K
   all_goals repeat' first|refine Ai ?_ ?_|exact rfl|exact trivial|exact Ei _ rfl|refine lN ?_|refine bS ?_|fail
  ·have hRz:=remM_stk s s.objects[i].id i s.objects[i] q hq hql hz
   rw [hR] at hRz
   refine Tp.run [] ?_
   refine cM [] [(1664,0),(1665,0),(1666,0),(1667,0),(1668,0)] (remove_stk s i hi h e0 hz q hq hql) ?_ ?_ ?_
   ·repeat' first|refine Ai ?_ ?_|exact rfl|exact trivial|exact Ei _ rfl|refine lN ?_|refine bS ?_|fail
   ·exact rfl
   rw [hRz] at K
   refine cond_f ht ?_
   refine Tp.wk (wk_of [(9000,1664),(9001,1665),(9002,1666),(9003,1667),(9004,1668)] rfl rfl ?_ ?_ ?_) K
   all_goals repeat' first|refine Ai ?_ ?_|exact rfl|exact trivial|exact Ei _ rfl|refine lN ?_|refine bS ?_|fail
 case key=>
  have hv:=movedP_ct s.objects[i] R.nextId 2 p R.nextStamp
  unfold mvNew at hM
  obtain ⟨x,hx⟩:∃ x,movedM s.objects[i] R.nextId 2 p R.nextStamp=x:=⟨_,rfl⟩
  rw [hx] at hv hM
  have hxi:x.id=R.nextId:=by rw [← hx];rfl
  have hxo:x.owner=(q:Int):=by rw [← hx];exact hq
  rw [← hxi] at hno
  refine Tp.run [15,16,17] ?_
  refine cI hv ⟨fL s.objects[i].enc,rfl,rfl,rfl,rfl,trivial⟩ (.inl rfl) ?_
  refine cM [] [(9000,0),(9001,1),(9002,0),(9003,0),(9004,1)] (put_ctm R x hRok.2.2.1 hno) ?_ ?_ ?_
  ·repeat' first|refine Ai ?_ ?_|exact rfl|exact trivial|exact Ei _ rfl|refine lN ?_|refine bS ?_|fail
  ·exact rfl
  have hqR:q < R.players.length:=by rw [hRpl];exact hql
  have hqm:q < (R.players.map GPlayer.enc).length:=by rw [Lm];exact hqR
  have hll:R.players[q].library.length*8≤limB:=(hRok.2.1 _ (List.getElem_mem hqR)).1
  rw [end_lib R x hno b q hxo hqR] at hM
  have hl:=list_lib (addO R x) q hqR
  rw [← hxo] at hl
  refine cM [0] [(9000,0),(9001,2),(9002,0),(9003,0),(9004,1)] hl ?_ ?_ ?_
  ·repeat' first|refine Ai ?_ ?_|exact rfl|exact trivial|exact Ei _ rfl|refine lN ?_|refine bS ?_|fail
  ·exact rfl
  cases b with
  | true=>
   subst hM
   refine Tp.take 9000 q 11 3 1 (ts:=R.players[q].enc) (ys:=R.players[q].library.map eI) rfl rfl rfl (by simp [plD]) hqR (map_get _ _ q hqR) rfl ?_
   refine Tp.run [] ?_
   refine Ai rfl (Ai hqm (Ai (Nb rfl) ?_))
   refine Ai (.inl rfl) (Ai ?_ (Ai ?_ ?_))
   ·show ((R.players[q].library.map eI).length+1)*8≤_
    rw [Lm]
    exact Nat.le_of_lt (one_more (by decide) hll)
   ·show (R.players[q].library.map eI).length+1 < _
    rw [Lm]
    have:=one_more (n:=R.players[q].library.length) (b:=8) (by decide) hll
    omega
   refine Ei (R.players[q].enc) (Ai (map_get _ _ q hqR) (Ai (Nb rfl) (Ai (Ai rfl trivial) (Ai (.inl rfl) ?_))))
   refine Tp.put 9000 q R.players.length rfl rfl (List.getElem?_set_self hqm) rfl (Ai rfl trivial) rfl (.inl (Ai rfl hqR)) ?_
   refine Tp.frz [9001] (Tp.run [] ?_)
   refine Ei [(0,9001)] (Ai rfl (Ai ?_ ?_))
   ·repeat' first|refine Ai ?_ ?_|exact rfl|exact trivial|exact Ei _ rfl|refine lN ?_|refine bS ?_|fail
   ·repeat' first|refine Ai ?_ ?_|exact rfl|exact trivial|exact Ei _ rfl|refine lN ?_|refine bS ?_|fail
    exact congrArg (Tr.sl 14) (pl_app_lib R.players q R.players[q] _ x.id)
  | false=>
   subst hM
   refine Tp.take 9000 q 11 3 1 (ts:=R.players[q].enc) (ys:=R.players[q].library.map eI) rfl rfl rfl (by simp [plD]) hqR (map_get _ _ q hqR) rfl ?_
   refine Tp.run [] ?_
   refine Ai rfl (Ai hqm (Ai (Nb rfl) ?_))
   refine cM [] [(24736,0),(25505,0)] (insN_ctm R.players[q].library x.id hll) ?_ ?_ ?_
   ·repeat' first|refine Ai ?_ ?_|exact rfl|exact trivial|exact Ei _ rfl|refine lN ?_|refine bS ?_|fail
   ·exact rfl
   refine Ei (R.players[q].enc) (Ai (map_get _ _ q hqR) (Ai (Nb rfl) (Ai (Ai rfl trivial) (Ai (.inl rfl) ?_))))
   refine Tp.put 9000 q R.players.length rfl rfl (List.getElem?_set_self hqm) rfl (Ai rfl trivial) rfl (.inl (Ai rfl hqR)) ?_
   refine Tp.frz [9001] (Tp.run [] ?_)
   refine Ei [(0,9001)] (Ai rfl (Ai ?_ ?_))
   ·repeat' first|refine Ai ?_ ?_|exact rfl|exact trivial|exact Ei _ rfl|refine lN ?_|refine bS ?_|fail
   ·repeat' first|refine Ai ?_ ?_|exact rfl|exact trivial|exact Ei _ rfl|refine lN ?_|refine bS ?_|fail
    exact congrArg (Tr.sl 14) (pl_ins R.players q R.players[q] _ x.id)
theorem moveP_grave (s:GState) (id p:Int) (b:Bool) (i:Nat) (h:s.ok) (hi:i < s.objects.length) (e0:placeM s.objects id=i) (e1:s.objects.findIdx? (fun o=>o.id==id)=some i) (e2:s.objects.find? (fun o=>o.id==id)=some s.objects[i]) (hid:s.objects[i].id=id) (q:Nat) (hq:s.objects[i].owner=(q:Int)) (hql:q < s.players.length) (hlt:∀ y∈s.objects,y.id < s.nextId) (hzz:0≤s.objects[i].zone∧s.objects[i].zone≤5) :
  Ct Tryz.prog 70 [.agg (s.enc.map .t),.c (.t (iv id)),.c (.t (iv 3)),.c (.t (iv p)),AV.b b] (.tup [.agg (((moveM s id 3 p b).1.enc.map .t).set 1 (.row 0 0)),.c (.t (iv (moveM s id 3 p b).2))]) [⟨49,19,0,(moveM s id 3 p b).1.objects.map GObject.enc,none⟩] false:=by
 subst hid
 have hf:=findP_ct s s.objects[i].id h.2.2.1
 unfold findM hasM at hf
 rw [e2] at hf
 change Ct _ _ _ (.tup [.agg (s.objects[i].enc.map .t),AV.b true]) _ _ at hf
 generalize hM:moveM s s.objects[i].id 3 p b=M
 unfold moveM at hM
 rw [e1] at hM
 simp only [List.getElem?_eq_getElem hi] at hM
 unfold mvFound at hM
 rw [if_neg (by omega)] at hM
 obtain ⟨hRok,hRn⟩:=remM_ok h s.objects[i].id i s.objects[i] hi
 have hno:=remM_nos (id:=s.objects[i].id) (i:=i) (o:=s.objects[i]) hlt
 have hRpl:(remM s s.objects[i].id i s.objects[i]).players.length=s.players.length:=remM_pl s _ i _
 refine ct_of Tryz.func70 rfl (enters_of Tryz.func70 (by kernel_rfl) rfl) tabOk (by kernel_rfl) rfl rfl rfl rfl fun w0 O _=>Tp.run [5,7,8,15,16,17] ?_
 refine cI hf ⟨fL s.enc,rfl,trivial⟩ (.inl rfl) ?_
 refine cI (copyP_ct s h) ⟨fL s.enc,trivial⟩ (.inr rfl) ?_
 obtain ⟨R,hR⟩:∃ R,remM s s.objects[i].id i s.objects[i]=R:=⟨_,rfl⟩
 rw [hR] at hM hRok hRn hno hRpl
 by_cases ht:s.objects[i].token=true
 ·rw [if_pos ⟨ht,rfl,rfl⟩] at hM
  rcases (show s.objects[i].zone=0∨s.objects[i].zone=1∨s.objects[i].zone=2∨s.objects[i].zone=3∨s.objects[i].zone=4∨s.objects[i].zone=5 by omega) with hz|hz|hz|hz|hz|hz
  ·have hRz:=remM_bf s s.objects[i].id i s.objects[i] hz
   rw [hR] at hRz
   refine Tp.run [] ?_
   refine cM [] [(1664,0),(1665,0),(1666,0),(1667,0),(1668,0)] (remove_bf s i hi h e0 hz) ?_ ?_ ?_
   ·repeat' first|refine Ai ?_ ?_|exact rfl|exact trivial|exact Ei _ rfl|refine lN ?_|refine bS ?_|fail
   ·exact rfl
   rw [hRz] at hM
   subst hM
   refine cond_t ht ?_
   refine Tp.frz [1665] (Tp.run [] ?_)
   refine Ei [(0,1665)] (Ai rfl (Ai ?_ ?_))
   all_goals repeat' first|refine Ai ?_ ?_|exact rfl|exact trivial|exact Ei _ rfl|refine lN ?_|refine bS ?_|fail
  ·have hRz:=remM_hand s s.objects[i].id i s.objects[i] q hq hql hz
   rw [hR] at hRz
   refine Tp.run [] ?_
   refine cM [] [(1664,0),(1665,0),(1666,0),(1667,0),(1668,0)] (remove_hand s i hi h e0 hz q hq hql) ?_ ?_ ?_
   ·repeat' first|refine Ai ?_ ?_|exact rfl|exact trivial|exact Ei _ rfl|refine lN ?_|refine bS ?_|fail
   ·exact rfl
   rw [hRz] at hM
   subst hM
   refine cond_t ht ?_
   refine Tp.frz [1665] (Tp.run [] ?_)
   refine Ei [(0,1665)] (Ai rfl (Ai ?_ ?_))
   all_goals repeat' first|refine Ai ?_ ?_|exact rfl|exact trivial|exact Ei _ rfl|refine lN ?_|refine bS ?_|fail
  ·have hRz:=remM_lib s s.objects[i].id i s.objects[i] q hq hql hz
   rw [hR] at hRz
   refine Tp.run [] ?_
   refine cM [] [(1664,0),(1665,0),(1666,0),(1667,0),(1668,0)] (remove_lib s i hi h e0 hz q hq hql) ?_ ?_ ?_
   ·repeat' first|refine Ai ?_ ?_|exact rfl|exact trivial|exact Ei _ rfl|refine lN ?_|refine bS ?_|fail
   ·exact rfl
   rw [hRz] at hM
   subst hM
   refine cond_t ht ?_
   refine Tp.frz [1665] (Tp.run [] ?_)
   refine Ei [(0,1665)] (Ai rfl (Ai ?_ ?_))
   all_goals repeat' first|refine Ai ?_ ?_|exact rfl|exact trivial|exact Ei _ rfl|refine lN ?_|refine bS ?_|fail
  ·have hRz:=remM_grave s s.objects[i].id i s.objects[i] q hq hql hz
   rw [hR] at hRz
   refine Tp.run [] ?_
   refine cM [] [(1664,0),(1665,0),(1666,0),(1667,0),(1668,0)] (remove_grave s i hi h e0 hz q hq hql) ?_ ?_ ?_
   ·repeat' first|refine Ai ?_ ?_|exact rfl|exact trivial|exact Ei _ rfl|refine lN ?_|refine bS ?_|fail
   ·exact rfl
   rw [hRz] at hM
   subst hM
   refine cond_t ht ?_
   refine Tp.frz [1665] (Tp.run [] ?_)
   refine Ei [(0,1665)] (Ai rfl (Ai ?_ ?_))
   all_goals repeat' first|refine Ai ?_ ?_|exact rfl|exact trivial|exact Ei _ rfl|refine lN ?_|refine bS ?_|fail
  ·have hRz:=remM_ex s s.objects[i].id i s.objects[i] hz
   rw [hR] at hRz
   refine Tp.run [] ?_
   refine cM [] [(1664,0),(1665,0),(1666,0),(1667,0),(1668,0)] (remove_ex s i hi h e0 hz) ?_ ?_ ?_
   ·repeat' first|refine Ai ?_ ?_|exact rfl|exact trivial|exact Ei _ rfl|refine lN ?_|refine bS ?_|fail
   ·exact rfl
   rw [hRz] at hM
   subst hM
   refine cond_t ht ?_
   refine Tp.frz [1665] (Tp.run [] ?_)
   refine Ei [(0,1665)] (Ai rfl (Ai ?_ ?_))
   all_goals repeat' first|refine Ai ?_ ?_|exact rfl|exact trivial|exact Ei _ rfl|refine lN ?_|refine bS ?_|fail
  ·have hRz:=remM_stk s s.objects[i].id i s.objects[i] q hq hql hz
   rw [hR] at hRz
   refine Tp.run [] ?_
   refine cM [] [(1664,0),(1665,0),(1666,0),(1667,0),(1668,0)] (remove_stk s i hi h e0 hz q hq hql) ?_ ?_ ?_
   ·repeat' first|refine Ai ?_ ?_|exact rfl|exact trivial|exact Ei _ rfl|refine lN ?_|refine bS ?_|fail
   ·exact rfl
   rw [hRz] at hM
   subst hM
   refine cond_t ht ?_
   refine Tp.frz [1665] (Tp.run [] ?_)
   refine Ei [(0,1665)] (Ai rfl (Ai ?_ ?_))
   all_goals repeat' first|refine Ai ?_ ?_|exact rfl|exact trivial|exact Ei _ rfl|refine lN ?_|refine bS ?_|fail
 have ht:s.objects[i].token=false:=by simpa using ht
 rw [if_neg (fun hx=>by rw [ht] at hx;cases hx.1)] at hM
 apply joinK (P:=Tryz.prog) (T:=T) (N:=Tryz.f70.ntmps) (w0:=w0) (O:=O) ⟨[(2,.c (.t (iv 3))),(3,.c (.t (iv p))),(4,AV.b b),(5,.ptr 0 0),(10,.ptr 128 0),(12,.ptr 1152 0)],[(0,cells9 R),(128,List.replicate 19 .bot),(1152,s.objects[i].enc.map .t)],rows9 R,20000⟩
 case h=>
  intro K
  rcases (show s.objects[i].zone=0∨s.objects[i].zone=1∨s.objects[i].zone=2∨s.objects[i].zone=3∨s.objects[i].zone=4∨s.objects[i].zone=5 by omega) with hz|hz|hz|hz|hz|hz
  ·have hRz:=remM_bf s s.objects[i].id i s.objects[i] hz
   rw [hR] at hRz
   refine Tp.run [] ?_
   refine cM [] [(1664,0),(1665,0),(1666,0),(1667,0),(1668,0)] (remove_bf s i hi h e0 hz) ?_ ?_ ?_
   ·repeat' first|refine Ai ?_ ?_|exact rfl|exact trivial|exact Ei _ rfl|refine lN ?_|refine bS ?_|fail
   ·exact rfl
   rw [hRz] at K
   refine cond_f ht ?_
   refine Tp.wk (wk_of [(9000,1664),(9001,1665),(9002,3456),(9003,1667),(9004,1668)] rfl rfl ?_ ?_ ?_) K
   all_goals repeat' first|refine Ai ?_ ?_|exact rfl|exact trivial|exact Ei _ rfl|refine lN ?_|refine bS ?_|fail
  ·have hRz:=remM_hand s s.objects[i].id i s.objects[i] q hq hql hz
   rw [hR] at hRz
   refine Tp.run [] ?_
   refine cM [] [(1664,0),(1665,0),(1666,0),(1667,0),(1668,0)] (remove_hand s i hi h e0 hz q hq hql) ?_ ?_ ?_
   ·repeat' first|refine Ai ?_ ?_|exact rfl|exact trivial|exact Ei _ rfl|refine lN ?_|refine bS ?_|fail
   ·exact rfl
   rw [hRz] at K
   refine cond_f ht ?_
   refine Tp.wk (wk_of [(9000,1664),(9001,1665),(9002,1666),(9003,1667),(9004,1668)] rfl rfl ?_ ?_ ?_) K
   ·repeat' first|refine Ai ?_ ?_|exact rfl|exact trivial|exact Ei _ rfl|refine lN ?_|refine bS ?_|fail
   ·repeat' first|refine Ai ?_ ?_|exact rfl|exact trivial|exact Ei _ rfl|refine lN ?_|refine bS ?_|fail
   ·repeat' first|refine Ai ?_ ?_|exact rfl|exact trivial|exact Ei _ rfl|refine lN ?_|refine bS ?_|fail
    exact congrArg (fun n=>(⟨plD,n,[]⟩:Dp)) List.length_set.symm
  ·have hRz:=remM_lib s s.objects[i].id i s.objects[i] q hq hql hz
   rw [hR] at hRz
   refine Tp.run [] ?_
   refine cM [] [(1664,0),(1665,0),(1666,0),(1667,0),(1668,0)] (remove_lib s i hi h e0 hz q hq hql) ?_ ?_ ?_
   ·repeat' first|refine Ai ?_ ?_|exact rfl|exact trivial|exact Ei _ rfl|refine lN ?_|refine bS ?_|fail
   ·exact rfl
   rw [hRz] at K
   refine cond_f ht ?_
   refine Tp.wk (wk_of [(9000,1664),(9001,1665),(9002,1666),(9003,1667),(9004,1668)] rfl rfl ?_ ?_ ?_) K
   ·repeat' first|refine Ai ?_ ?_|exact rfl|exact trivial|exact Ei _ rfl|refine lN ?_|refine bS ?_|fail
   ·repeat' first|refine Ai ?_ ?_|exact rfl|exact trivial|exact Ei _ rfl|refine lN ?_|refine bS ?_|fail
   ·repeat' first|refine Ai ?_ ?_|exact rfl|exact trivial|exact Ei _ rfl|refine lN ?_|refine bS ?_|fail
    exact congrArg (fun n=>(⟨plD,n,[]⟩:Dp)) List.length_set.symm
  ·have hRz:=remM_grave s s.objects[i].id i s.objects[i] q hq hql hz
   rw [hR] at hRz
   refine Tp.run [] ?_
   refine cM [] [(1664,0),(1665,0),(1666,0),(1667,0),(1668,0)] (remove_grave s i hi h e0 hz q hq hql) ?_ ?_ ?_
   ·repeat' first|refine Ai ?_ ?_|exact rfl|exact trivial|exact Ei _ rfl|refine lN ?_|refine bS ?_|fail
   ·exact rfl
   rw [hRz] at K
   refine cond_f ht ?_
   refine Tp.wk (wk_of [(9000,1664),(9001,1665),(9002,1666),(9003,1667),(9004,1668)] rfl rfl ?_ ?_ ?_) K
   ·repeat' first|refine Ai ?_ ?_|exact rfl|exact trivial|exact Ei _ rfl|refine lN ?_|refine bS ?_|fail
   ·repeat' first|refine Ai ?_ ?_|exact rfl|exact trivial|exact Ei _ rfl|refine lN ?_|refine bS ?_|fail
   ·repeat' first|refine Ai ?_ ?_|exact rfl|exact trivial|exact Ei _ rfl|refine lN ?_|refine bS ?_|fail
    exact congrArg (fun n=>(⟨plD,n,[]⟩:Dp)) List.length_set.symm
  ·have hRz:=remM_ex s s.objects[i].id i s.objects[i] hz
   rw [hR] at hRz
   refine Tp.run [] ?_
   refine cM [] [(1664,0),(1665,0),(1666,0),(1667,0),(1668,0)] (remove_ex s i hi h e0 hz) ?_ ?_ ?_
   ·repeat' first|refine Ai ?_ ?_|exact rfl|exact trivial|exact Ei _ rfl|refine lN ?_|refine bS ?_|fail
   ·exact rfl
   rw [hRz] at K
   refine cond_f ht ?_
   refine Tp.wk (wk_of [(9000,1664),(9001,1665),(9002,1666),(9003,3456),(9004,1668)] rfl rfl ?_ ?_ ?_) K
   all_goals repeat' first|refine Ai ?_ ?_|exact rfl|exact trivial|exact Ei _ rfl|refine lN ?_|refine bS ?_|fail
  ·have hRz:=remM_stk s s.objects[i].id i s.objects[i] q hq hql hz
   rw [hR] at hRz
   refine Tp.run [] ?_
   refine cM [] [(1664,0),(1665,0),(1666,0),(1667,0),(1668,0)] (remove_stk s i hi h e0 hz q hq hql) ?_ ?_ ?_
   ·repeat' first|refine Ai ?_ ?_|exact rfl|exact trivial|exact Ei _ rfl|refine lN ?_|refine bS ?_|fail
   ·exact rfl
   rw [hRz] at K
   refine cond_f ht ?_
   refine Tp.wk (wk_of [(9000,1664),(9001,1665),(9002,1666),(9003,1667),(9004,1668)] rfl rfl ?_ ?_ ?_) K
   all_goals repeat' first|refine Ai ?_ ?_|exact rfl|exact trivial|exact Ei _ rfl|refine lN ?_|refine bS ?_|fail
 case key=>
  have hv:=movedP_ct s.objects[i] R.nextId 3 p R.nextStamp
  unfold mvNew at hM
  obtain ⟨x,hx⟩:∃ x,movedM s.objects[i] R.nextId 3 p R.nextStamp=x:=⟨_,rfl⟩
  rw [hx] at hv hM
  have hxi:x.id=R.nextId:=by rw [← hx];rfl
  have hxo:x.owner=(q:Int):=by rw [← hx];exact hq
  rw [← hxi] at hno
  refine Tp.run [15,16,17] ?_
  refine cI hv ⟨fL s.objects[i].enc,rfl,rfl,rfl,rfl,trivial⟩ (.inl rfl) ?_
  refine cM [] [(9000,0),(9001,1),(9002,0),(9003,0),(9004,1)] (put_ctm R x hRok.2.2.1 hno) ?_ ?_ ?_
  ·repeat' first|refine Ai ?_ ?_|exact rfl|exact trivial|exact Ei _ rfl|refine lN ?_|refine bS ?_|fail
  ·exact rfl
  have hqR:q < R.players.length:=by rw [hRpl];exact hql
  have hqm:q < (R.players.map GPlayer.enc).length:=by rw [Lm];exact hqR
  have hll:R.players[q].graveyard.length*8≤limB:=(hRok.2.1 _ (List.getElem_mem hqR)).2.2
  rw [end_grave R x hno b q hxo hqR] at hM
  have hl:=list_grave (addO R x) q hqR
  rw [← hxo] at hl
  refine cM [0] [(9000,0),(9001,2),(9002,0),(9003,0),(9004,1)] hl ?_ ?_ ?_
  ·repeat' first|refine Ai ?_ ?_|exact rfl|exact trivial|exact Ei _ rfl|refine lN ?_|refine bS ?_|fail
  ·exact rfl
  subst hM
  refine Tp.take 9000 q 13 3 1 (ts:=R.players[q].enc) (ys:=R.players[q].graveyard.map eI) rfl rfl rfl (by simp [plD]) hqR (map_get _ _ q hqR) rfl ?_
  refine Tp.run [] ?_
  refine Ai rfl (Ai hqm (Ai (Nb rfl) ?_))
  refine Ai (.inl rfl) (Ai ?_ (Ai ?_ ?_))
  ·show ((R.players[q].graveyard.map eI).length+1)*8≤_
   rw [Lm]
   exact Nat.le_of_lt (one_more (by decide) hll)
  ·show (R.players[q].graveyard.map eI).length+1 < _
   rw [Lm]
   have:=one_more (n:=R.players[q].graveyard.length) (b:=8) (by decide) hll
   omega
  refine Ei (R.players[q].enc) (Ai (map_get _ _ q hqR) (Ai (Nb rfl) (Ai (Ai rfl trivial) (Ai (.inl rfl) ?_))))
  refine Tp.put 9000 q R.players.length rfl rfl (List.getElem?_set_self hqm) rfl (Ai rfl trivial) rfl (.inl (Ai rfl hqR)) ?_
  refine Tp.frz [9001] (Tp.run [] ?_)
  refine Ei [(0,9001)] (Ai rfl (Ai ?_ ?_))
  ·repeat' first|refine Ai ?_ ?_|exact rfl|exact trivial|exact Ei _ rfl|refine lN ?_|refine bS ?_|fail
  ·repeat' first|refine Ai ?_ ?_|exact rfl|exact trivial|exact Ei _ rfl|refine lN ?_|refine bS ?_|fail
   exact congrArg (Tr.sl 14) (pl_app_grave R.players q R.players[q] _ x.id)
theorem moveP_ex (s:GState) (id p:Int) (b:Bool) (i:Nat) (h:s.ok) (hi:i < s.objects.length) (e0:placeM s.objects id=i) (e1:s.objects.findIdx? (fun o=>o.id==id)=some i) (e2:s.objects.find? (fun o=>o.id==id)=some s.objects[i]) (hid:s.objects[i].id=id) (q:Nat) (hq:s.objects[i].owner=(q:Int)) (hql:q < s.players.length) (hlt:∀ y∈s.objects,y.id < s.nextId) (hzz:0≤s.objects[i].zone∧s.objects[i].zone≤5) :
  Ct Tryz.prog 70 [.agg (s.enc.map .t),.c (.t (iv id)),.c (.t (iv 4)),.c (.t (iv p)),AV.b b] (.tup [.agg (((moveM s id 4 p b).1.enc.map .t).set 1 (.row 0 0)),.c (.t (iv (moveM s id 4 p b).2))]) [⟨49,19,0,(moveM s id 4 p b).1.objects.map GObject.enc,none⟩] false:=by
 subst hid
 have hf:=findP_ct s s.objects[i].id h.2.2.1
 unfold findM hasM at hf
 rw [e2] at hf
 change Ct _ _ _ (.tup [.agg (s.objects[i].enc.map .t),AV.b true]) _ _ at hf
 generalize hM:moveM s s.objects[i].id 4 p b=M
 unfold moveM at hM
 rw [e1] at hM
 simp only [List.getElem?_eq_getElem hi] at hM
 unfold mvFound at hM
 rw [if_neg (by omega)] at hM
 obtain ⟨hRok,hRn⟩:=remM_ok h s.objects[i].id i s.objects[i] hi
 have hno:=remM_nos (id:=s.objects[i].id) (i:=i) (o:=s.objects[i]) hlt
 have hRpl:(remM s s.objects[i].id i s.objects[i]).players.length=s.players.length:=remM_pl s _ i _
 refine ct_of Tryz.func70 rfl (enters_of Tryz.func70 (by kernel_rfl) rfl) tabOk (by kernel_rfl) rfl rfl rfl rfl fun w0 O _=>Tp.run [5,7,8,15,16,17] ?_
 refine cI hf ⟨fL s.enc,rfl,trivial⟩ (.inl rfl) ?_
 refine cI (copyP_ct s h) ⟨fL s.enc,trivial⟩ (.inr rfl) ?_
 obtain ⟨R,hR⟩:∃ R,remM s s.objects[i].id i s.objects[i]=R:=⟨_,rfl⟩
 rw [hR] at hM hRok hRn hno hRpl
 by_cases ht:s.objects[i].token=true
 ·rw [if_pos ⟨ht,rfl,rfl⟩] at hM
  rcases (show s.objects[i].zone=0∨s.objects[i].zone=1∨s.objects[i].zone=2∨s.objects[i].zone=3∨s.objects[i].zone=4∨s.objects[i].zone=5 by omega) with hz|hz|hz|hz|hz|hz
  ·have hRz:=remM_bf s s.objects[i].id i s.objects[i] hz
   rw [hR] at hRz
   refine Tp.run [] ?_
   refine cM [] [(1664,0),(1665,0),(1666,0),(1667,0),(1668,0)] (remove_bf s i hi h e0 hz) ?_ ?_ ?_
   ·repeat' first|refine Ai ?_ ?_|exact rfl|exact trivial|exact Ei _ rfl|refine lN ?_|refine bS ?_|fail
   ·exact rfl
   rw [hRz] at hM
   subst hM
   refine cond_t ht ?_
   refine Tp.frz [1665] (Tp.run [] ?_)
   refine Ei [(0,1665)] (Ai rfl (Ai ?_ ?_))
   all_goals repeat' first|refine Ai ?_ ?_|exact rfl|exact trivial|exact Ei _ rfl|refine lN ?_|refine bS ?_|fail
  ·have hRz:=remM_hand s s.objects[i].id i s.objects[i] q hq hql hz
   rw [hR] at hRz
   refine Tp.run [] ?_
   refine cM [] [(1664,0),(1665,0),(1666,0),(1667,0),(1668,0)] (remove_hand s i hi h e0 hz q hq hql) ?_ ?_ ?_
   ·repeat' first|refine Ai ?_ ?_|exact rfl|exact trivial|exact Ei _ rfl|refine lN ?_|refine bS ?_|fail
   ·exact rfl
   rw [hRz] at hM
   subst hM
   refine cond_t ht ?_
   refine Tp.frz [1665] (Tp.run [] ?_)
   refine Ei [(0,1665)] (Ai rfl (Ai ?_ ?_))
   all_goals repeat' first|refine Ai ?_ ?_|exact rfl|exact trivial|exact Ei _ rfl|refine lN ?_|refine bS ?_|fail
  ·have hRz:=remM_lib s s.objects[i].id i s.objects[i] q hq hql hz
   rw [hR] at hRz
   refine Tp.run [] ?_
   refine cM [] [(1664,0),(1665,0),(1666,0),(1667,0),(1668,0)] (remove_lib s i hi h e0 hz q hq hql) ?_ ?_ ?_
   ·repeat' first|refine Ai ?_ ?_|exact rfl|exact trivial|exact Ei _ rfl|refine lN ?_|refine bS ?_|fail
   ·exact rfl
   rw [hRz] at hM
   subst hM
   refine cond_t ht ?_
   refine Tp.frz [1665] (Tp.run [] ?_)
   refine Ei [(0,1665)] (Ai rfl (Ai ?_ ?_))
   all_goals repeat' first|refine Ai ?_ ?_|exact rfl|exact trivial|exact Ei _ rfl|refine lN ?_|refine bS ?_|fail
  ·have hRz:=remM_grave s s.objects[i].id i s.objects[i] q hq hql hz
   rw [hR] at hRz
   refine Tp.run [] ?_
   refine cM [] [(1664,0),(1665,0),(1666,0),(1667,0),(1668,0)] (remove_grave s i hi h e0 hz q hq hql) ?_ ?_ ?_
   ·repeat' first|refine Ai ?_ ?_|exact rfl|exact trivial|exact Ei _ rfl|refine lN ?_|refine bS ?_|fail
   ·exact rfl
   rw [hRz] at hM
   subst hM
   refine cond_t ht ?_
   refine Tp.frz [1665] (Tp.run [] ?_)
   refine Ei [(0,1665)] (Ai rfl (Ai ?_ ?_))
   all_goals repeat' first|refine Ai ?_ ?_|exact rfl|exact trivial|exact Ei _ rfl|refine lN ?_|refine bS ?_|fail
  ·have hRz:=remM_ex s s.objects[i].id i s.objects[i] hz
   rw [hR] at hRz
   refine Tp.run [] ?_
   refine cM [] [(1664,0),(1665,0),(1666,0),(1667,0),(1668,0)] (remove_ex s i hi h e0 hz) ?_ ?_ ?_
   ·repeat' first|refine Ai ?_ ?_|exact rfl|exact trivial|exact Ei _ rfl|refine lN ?_|refine bS ?_|fail
   ·exact rfl
   rw [hRz] at hM
   subst hM
   refine cond_t ht ?_
   refine Tp.frz [1665] (Tp.run [] ?_)
   refine Ei [(0,1665)] (Ai rfl (Ai ?_ ?_))
   all_goals repeat' first|refine Ai ?_ ?_|exact rfl|exact trivial|exact Ei _ rfl|refine lN ?_|refine bS ?_|fail
  ·have hRz:=remM_stk s s.objects[i].id i s.objects[i] q hq hql hz
   rw [hR] at hRz
   refine Tp.run [] ?_
   refine cM [] [(1664,0),(1665,0),(1666,0),(1667,0),(1668,0)] (remove_stk s i hi h e0 hz q hq hql) ?_ ?_ ?_
   ·repeat' first|refine Ai ?_ ?_|exact rfl|exact trivial|exact Ei _ rfl|refine lN ?_|refine bS ?_|fail
   ·exact rfl
   rw [hRz] at hM
   subst hM
   refine cond_t ht ?_
   refine Tp.frz [1665] (Tp.run [] ?_)
   refine Ei [(0,1665)] (Ai rfl (Ai ?_ ?_))
   all_goals repeat' first|refine Ai ?_ ?_|exact rfl|exact trivial|exact Ei _ rfl|refine lN ?_|refine bS ?_|fail
 have ht:s.objects[i].token=false:=by simpa using ht
 rw [if_neg (fun hx=>by rw [ht] at hx;cases hx.1)] at hM
 apply joinK (P:=Tryz.prog) (T:=T) (N:=Tryz.f70.ntmps) (w0:=w0) (O:=O) ⟨[(2,.c (.t (iv 4))),(3,.c (.t (iv p))),(4,AV.b b),(5,.ptr 0 0),(10,.ptr 128 0),(12,.ptr 1152 0)],[(0,cells9 R),(128,List.replicate 19 .bot),(1152,s.objects[i].enc.map .t)],rows9 R,20000⟩
 case h=>
  intro K
  rcases (show s.objects[i].zone=0∨s.objects[i].zone=1∨s.objects[i].zone=2∨s.objects[i].zone=3∨s.objects[i].zone=4∨s.objects[i].zone=5 by omega) with hz|hz|hz|hz|hz|hz
  ·have hRz:=remM_bf s s.objects[i].id i s.objects[i] hz
   rw [hR] at hRz
   refine Tp.run [] ?_
   refine cM [] [(1664,0),(1665,0),(1666,0),(1667,0),(1668,0)] (remove_bf s i hi h e0 hz) ?_ ?_ ?_
   ·repeat' first|refine Ai ?_ ?_|exact rfl|exact trivial|exact Ei _ rfl|refine lN ?_|refine bS ?_|fail
   ·exact rfl
   rw [hRz] at K
   refine cond_f ht ?_
   refine Tp.wk (wk_of [(9000,1664),(9001,1665),(9002,3456),(9003,1667),(9004,1668)] rfl rfl ?_ ?_ ?_) K
   all_goals repeat' first|refine Ai ?_ ?_|exact rfl|exact trivial|exact Ei _ rfl|refine lN ?_|refine bS ?_|fail
  ·have hRz:=remM_hand s s.objects[i].id i s.objects[i] q hq hql hz
   rw [hR] at hRz
   refine Tp.run [] ?_
   refine cM [] [(1664,0),(1665,0),(1666,0),(1667,0),(1668,0)] (remove_hand s i hi h e0 hz q hq hql) ?_ ?_ ?_
   ·repeat' first|refine Ai ?_ ?_|exact rfl|exact trivial|exact Ei _ rfl|refine lN ?_|refine bS ?_|fail
   ·exact rfl
   rw [hRz] at K
   refine cond_f ht ?_
   refine Tp.wk (wk_of [(9000,1664),(9001,1665),(9002,1666),(9003,1667),(9004,1668)] rfl rfl ?_ ?_ ?_) K
   ·repeat' first|refine Ai ?_ ?_|exact rfl|exact trivial|exact Ei _ rfl|refine lN ?_|refine bS ?_|fail
   ·repeat' first|refine Ai ?_ ?_|exact rfl|exact trivial|exact Ei _ rfl|refine lN ?_|refine bS ?_|fail
   ·repeat' first|refine Ai ?_ ?_|exact rfl|exact trivial|exact Ei _ rfl|refine lN ?_|refine bS ?_|fail
    exact congrArg (fun n=>(⟨plD,n,[]⟩:Dp)) List.length_set.symm
  ·have hRz:=remM_lib s s.objects[i].id i s.objects[i] q hq hql hz
   rw [hR] at hRz
   refine Tp.run [] ?_
   refine cM [] [(1664,0),(1665,0),(1666,0),(1667,0),(1668,0)] (remove_lib s i hi h e0 hz q hq hql) ?_ ?_ ?_
   ·repeat' first|refine Ai ?_ ?_|exact rfl|exact trivial|exact Ei _ rfl|refine lN ?_|refine bS ?_|fail
   ·exact rfl
   rw [hRz] at K
   refine cond_f ht ?_
   refine Tp.wk (wk_of [(9000,1664),(9001,1665),(9002,1666),(9003,1667),(9004,1668)] rfl rfl ?_ ?_ ?_) K
   ·repeat' first|refine Ai ?_ ?_|exact rfl|exact trivial|exact Ei _ rfl|refine lN ?_|refine bS ?_|fail
   ·repeat' first|refine Ai ?_ ?_|exact rfl|exact trivial|exact Ei _ rfl|refine lN ?_|refine bS ?_|fail
   ·repeat' first|refine Ai ?_ ?_|exact rfl|exact trivial|exact Ei _ rfl|refine lN ?_|refine bS ?_|fail
    exact congrArg (fun n=>(⟨plD,n,[]⟩:Dp)) List.length_set.symm
  ·have hRz:=remM_grave s s.objects[i].id i s.objects[i] q hq hql hz
   rw [hR] at hRz
   refine Tp.run [] ?_
   refine cM [] [(1664,0),(1665,0),(1666,0),(1667,0),(1668,0)] (remove_grave s i hi h e0 hz q hq hql) ?_ ?_ ?_
   ·repeat' first|refine Ai ?_ ?_|exact rfl|exact trivial|exact Ei _ rfl|refine lN ?_|refine bS ?_|fail
   ·exact rfl
   rw [hRz] at K
   refine cond_f ht ?_
   refine Tp.wk (wk_of [(9000,1664),(9001,1665),(9002,1666),(9003,1667),(9004,1668)] rfl rfl ?_ ?_ ?_) K
   ·repeat' first|refine Ai ?_ ?_|exact rfl|exact trivial|exact Ei _ rfl|refine lN ?_|refine bS ?_|fail
   ·repeat' first|refine Ai ?_ ?_|exact rfl|exact trivial|exact Ei _ rfl|refine lN ?_|refine bS ?_|fail
   ·repeat' first|refine Ai ?_ ?_|exact rfl|exact trivial|exact Ei _ rfl|refine lN ?_|refine bS ?_|fail
    exact congrArg (fun n=>(⟨plD,n,[]⟩:Dp)) List.length_set.symm
  ·have hRz:=remM_ex s s.objects[i].id i s.objects[i] hz
   rw [hR] at hRz
   refine Tp.run [] ?_
   refine cM [] [(1664,0),(1665,0),(1666,0),(1667,0),(1668,0)] (remove_ex s i hi h e0 hz) ?_ ?_ ?_
   ·repeat' first|refine Ai ?_ ?_|exact rfl|exact trivial|exact Ei _ rfl|refine lN ?_|refine bS ?_|fail
   ·exact rfl
   rw [hRz] at K
   refine cond_f ht ?_
   refine Tp.wk (wk_of [(9000,1664),(9001,1665),(9002,1666),(9003,3456),(9004,1668)] rfl rfl ?_ ?_ ?_) K
   all_goals repeat' first|refine Ai ?_ ?_|exact rfl|exact trivial|exact Ei _ rfl|refine lN ?_|refine bS ?_|fail
  ·have hRz:=remM_stk s s.objects[i].id i s.objects[i] q hq hql hz
   rw [hR] at hRz
   refine Tp.run [] ?_
   refine cM [] [(1664,0),(1665,0),(1666,0),(1667,0),(1668,0)] (remove_stk s i hi h e0 hz q hq hql) ?_ ?_ ?_
   ·repeat' first|refine Ai ?_ ?_|exact rfl|exact trivial|exact Ei _ rfl|refine lN ?_|refine bS ?_|fail
   ·exact rfl
   rw [hRz] at K
   refine cond_f ht ?_
   refine Tp.wk (wk_of [(9000,1664),(9001,1665),(9002,1666),(9003,1667),(9004,1668)] rfl rfl ?_ ?_ ?_) K
   all_goals repeat' first|refine Ai ?_ ?_|exact rfl|exact trivial|exact Ei _ rfl|refine lN ?_|refine bS ?_|fail
 case key=>
  have hv:=movedP_ct s.objects[i] R.nextId 4 p R.nextStamp
  unfold mvNew at hM
  obtain ⟨x,hx⟩:∃ x,movedM s.objects[i] R.nextId 4 p R.nextStamp=x:=⟨_,rfl⟩
  rw [hx] at hv hM
  have hxi:x.id=R.nextId:=by rw [← hx];rfl
  have hxo:x.owner=(q:Int):=by rw [← hx];exact hq
  rw [← hxi] at hno
  refine Tp.run [15,16,17] ?_
  refine cI hv ⟨fL s.objects[i].enc,rfl,rfl,rfl,rfl,trivial⟩ (.inl rfl) ?_
  refine cM [] [(9000,0),(9001,1),(9002,0),(9003,0),(9004,1)] (put_ctm R x hRok.2.2.1 hno) ?_ ?_ ?_
  ·repeat' first|refine Ai ?_ ?_|exact rfl|exact trivial|exact Ei _ rfl|refine lN ?_|refine bS ?_|fail
  ·exact rfl
  rw [end_ex R x hno b] at hM
  subst hM
  have hbt:R.exile.length*8≤limB:=hRok.2.2.2.2.2.1
  refine cM [0] [(9000,0),(9001,2),(9002,0),(9003,0),(9004,1)] (list_ex (addO R x) x.owner) ?_ ?_ ?_
  ·repeat' first|refine Ai ?_ ?_|exact rfl|exact trivial|exact Ei _ rfl|refine lN ?_|refine bS ?_|fail
  ·exact rfl
  refine Tp.run [] ?_
  refine Ai (.inl rfl) (Ai ?_ (Ai ?_ ?_))
  ·show ((R.exile.map eI).length+1)*8≤_
   rw [Lm]
   exact Nat.le_of_lt (one_more (by decide) hbt)
  ·show (R.exile.map eI).length+1 < _
   rw [Lm]
   have:=one_more (n:=R.exile.length) (b:=8) (by decide) hbt
   omega
  refine Tp.frz [9001] (Tp.run [] ?_)
  refine Ei [(0,9001)] (Ai rfl (Ai ?_ ?_))
  ·repeat' first|refine Ai ?_ ?_|exact rfl|exact trivial|exact Ei _ rfl|refine lN ?_|refine bS ?_|fail
  ·repeat' first|refine Ai ?_ ?_|exact rfl|exact trivial|exact Ei _ rfl|refine lN ?_|refine bS ?_|fail
   first
   | exact congrArg (Tr.sl 1) (List.map_append (f:=eI) (l₁:=R.exile) (l₂:=[x.id])).symm
   | exact congrArg (Tr.sl 1) (List.map_append (f:=eI) (l₁:=R.exile) (l₂:=[x.id]))
structure MvH (s:GState):Prop where
 own:∀ o∈s.objects,0≤o.owner∧o.owner < (s.players.length:Int)
 zone:∀ o∈s.objects,0≤o.zone∧o.zone≤5
 lt:∀ y∈s.objects,y.id < s.nextId
theorem moveP_ct (s:GState) (id z p:Int) (b:Bool) (h:s.ok) (H:MvH s) (hh:hasM s.objects id=true) (hz:0≤z∧z≤4):Ct Tryz.prog 70 [.agg (s.enc.map .t),.c (.t (iv id)),.c (.t (iv z)),.c (.t (iv p)),AV.b b] (.tup [.agg (((moveM s id z p b).1.enc.map .t).set 1 (.row 0 0)),.c (.t (iv (moveM s id z p b).2))]) [⟨49,19,0,(moveM s id z p b).1.objects.map GObject.enc,none⟩] false:=by
 rcases fidx_cases (fun o:GObject=>o.id==id) s.objects with ⟨_,_,e2⟩|⟨i,hi,e0,e1,e2⟩
 ·unfold hasM at hh
  rw [e2] at hh
  cases hh
 have hid:s.objects[i].id=id:=by
  have:=List.find?_some e2
  simpa using this
 obtain ⟨o1,o2⟩:=H.own _ (List.getElem_mem hi)
 have hq:s.objects[i].owner=(s.objects[i].owner.toNat:Int):=by omega
 have hql:s.objects[i].owner.toNat < s.players.length:=by omega
 have hzz:=H.zone _ (List.getElem_mem hi)
 rcases (show z=0∨z=1∨z=2∨z=3∨z=4 by omega) with rfl|rfl|rfl|rfl|rfl
 ·exact moveP_bf s id p b i h hi e0 e1 e2 hid _ hq hql H.lt hzz
 ·exact moveP_hand s id p b i h hi e0 e1 e2 hid _ hq hql H.lt hzz
 ·exact moveP_lib s id p b i h hi e0 e1 e2 hid _ hq hql H.lt hzz
 ·exact moveP_grave s id p b i h hi e0 e1 e2 hid _ hq hql H.lt hzz
 ·exact moveP_ex s id p b i h hi e0 e1 e2 hid _ hq hql H.lt hzz
theorem makeP_ct (s:GState) (card player:Int) (h:s.ok) (hlt:∀ y∈s.objects,y.id < s.nextId):Ct Tryz.prog 72 [.agg (s.enc.map .t),.c (.t (iv card)),.c (.t (iv player))] (.tup [.agg (((makeM s card player).1.enc.map .t).set 1 (.row 0 0)),.c (.t (iv (makeM s card player).2))]) [⟨49,19,0,(makeM s card player).1.objects.map GObject.enc,none⟩] false:=by
 have hbt:s.battlefield.length*8≤limB:=h.2.2.2.2.1
 have hn:=newP_ct s.nextId card player 0 s.nextStamp
 have hM:makeM s card player=({ s with objects:=s.objects++[{ newM s.nextId card player 0 s.nextStamp with token:=true,sick:=true }],battlefield:=s.battlefield++[s.nextId],nextId:=IntKind.i64.wrap (s.nextId+1),nextStamp:=IntKind.i64.wrap (s.nextStamp+1) },s.nextId):=by
  show ({ putM s { newM s.nextId card player 0 s.nextStamp with token:=true,sick:=true } with battlefield:=s.battlefield++[s.nextId],nextId:=IntKind.i64.wrap (s.nextId+1),nextStamp:=IntKind.i64.wrap (s.nextStamp+1) },s.nextId)=_
  unfold putM
  rw [putL_end (x:={ newM s.nextId card player 0 s.nextStamp with token:=true,sick:=true }) hlt]
 rw [hM]
 refine ct_of Tryz.func72 rfl (enters_of Tryz.func72 (by kernel_rfl) rfl) tabOk (by kernel_rfl) rfl rfl rfl rfl fun w0 O _=>Tp.run [8] ?_
 refine cI (copyP_ct s h) ⟨fL s.enc,trivial⟩ (.inr rfl) ?_
 refine cI hn ⟨rfl,rfl,rfl,rfl,rfl,trivial⟩ (.inl rfl) ?_
 refine cM [] [(512,0),(513,0),(514,0),(515,0),(516,0)] (put_ctm s { newM s.nextId card player 0 s.nextStamp with token:=true,sick:=true } h.2.2.1 hlt) ?_ ?_ ?_
 ·repeat' first|refine Ai ?_ ?_|exact rfl|exact trivial|exact Ei _ rfl|refine lN ?_|refine bS ?_|fail
 ·exact rfl
 refine Ai (.inl rfl) (Ai ?_ (Ai ?_ ?_))
 ·show ((s.battlefield.map eI).length+1)*8≤_
  rw [Lm]
  exact Nat.le_of_lt (one_more (by decide) hbt)
 ·show (s.battlefield.map eI).length+1 < _
  rw [Lm]
  have:=one_more (n:=s.battlefield.length) (b:=8) (by decide) hbt
  omega
 refine Tp.frz [513] (Tp.run [] ?_)
 refine Ei [(0,513)] (Ai rfl (Ai ?_ ?_))
 ·repeat' first|refine Ai ?_ ?_|exact rfl|exact trivial|exact Ei _ rfl|refine lN ?_|refine bS ?_|fail
 ·repeat' first|refine Ai ?_ ?_|exact rfl|exact trivial|exact Ei _ rfl|refine lN ?_|refine bS ?_|fail
  first
  | exact congrArg (Tr.sl 1) (List.map_append (f:=eI) (l₁:=s.battlefield) (l₂:=[s.nextId])).symm
  | exact congrArg (Tr.sl 1) (List.map_append (f:=eI) (l₁:=s.battlefield) (l₂:=[s.nextId]))
def cellsQ (s:GState):List Ce:=(s.enc.map .t).set 1 (.row 0 0)
def rowQ (l:List GObject):Row:=⟨49,19,0,l.map GObject.enc,none⟩
theorem find_ctm (s:GState) (id:Int) (i:Nat) (hs:s.objects.length*128≤limB) (hi:i < s.objects.length) (e1:s.objects[i].id=id) (hno:∀ j (h:j < s.objects.length),j < i→s.objects[j].id≠id):CtM Tryz.prog 27 [.ptr 0 0,.c (.t (iv id))] [cellsQ s] [rowQ s.objects] (.eptr 0 0 19 i 0) [cellsQ s] [rowQ s.objects] []:=by
 refine ctm_of 1 Tryz.func27 rfl (enters_of Tryz.func27 (by kernel_rfl) rfl) tabOk (by kernel_rfl) rfl rfl rfl rfl rfl fun w0 O _=>Tp.run [] ?_
 refine Tp.loopL (fun k:Nat=>⟨[(0,.ptr 0 0),(1,.c (.t (iv id))),(10,AV.i (s.objects.map GObject.enc).length),(11,AV.i k)],[(0,cellsQ s)],[(0,rowQ s.objects)],10000⟩) (fun k=>k≤i) (fun k=>s.objects.length - k) 0 ?_ (Nat.zero_le _) ?_
 ·refine wkl_of (n1:=1) rfl rfl ?_ ?_ ?_
  all_goals repeat' first|refine Ai ?_ ?_|exact rfl|exact trivial|exact Ei _ rfl|refine lN ?_|refine bS ?_|fail
 rintro k hk
 refine Tp.run [5,6] ?_
 refine cS (fun hc=>?_) (fun hc=>?_)
 ·have hlt:=len_lt hc
  have hkl:k < (s.objects.map GObject.enc).length:=by rw [Lm];exact hlt
  refine Ei k (Ai rfl (Ai hkl ?_))
  refine Ei (s.objects[k].enc) (Ei _ (Ai (map_get _ _ k hlt) (Ai rfl ?_)))
  refine cS (fun hq=>?_) (fun hq=>?_)
  ·have hki:k=i:=by
    rcases Nat.lt_or_eq_of_le hk with h|h
    ·exact absurd (of_decide_eq_true (p:=s.objects[k].id=id) (by simpa using hq)) (hno k hlt h)
    ·exact h
   subst hki
   refine Tp.run [] ?_
   refine Ei k (Ai rfl (Ai hkl ?_))
   refine Ei [(0,0)] (Ai (Ai rfl (Ai ?_ (Ai ?_ ?_))) ?_)
   all_goals repeat' first|refine Ai ?_ ?_|exact rfl|exact trivial|exact Ei _ rfl|refine lN ?_|refine bS ?_|fail
  ·have hki:k≠i:=fun e=>by
    subst e
    rw [show (s.objects[k].id==id)=true from beq_iff_eq.2 e1] at hq
    cases hq
   refine Tp.run [] ?_
   refine Ei (k+1) (Ai (show k+1≤i by omega) (Ai (show s.objects.length - (k+1) < s.objects.length - k by omega) ?_))
   refine wkl_of (n1:=1) rfl rfl ?_ ?_ ?_
   ·repeat' first|refine Ai ?_ ?_|exact rfl|exact trivial|exact Ei _ rfl|refine lN ?_|refine bS ?_|fail
    exact congrArg (fun n=>AV.c (.t n)) (succ_eq k hlt 128 (by decide) hs)
   all_goals repeat' first|refine Ai ?_ ?_|exact rfl|exact trivial|exact Ei _ rfl|refine lN ?_|refine bS ?_|fail
 ·have:=len_ge hc (show k≤s.objects.length by omega)
  omega
theorem findN_ctm (s:GState) (id:Int) (hs:s.objects.length*128≤limB) (hno:∀ j (h:j < s.objects.length),s.objects[j].id≠id):CtM Tryz.prog 27 [.ptr 0 0,.c (.t (iv id))] [cellsQ s] [rowQ s.objects] .nilp [cellsQ s] [rowQ s.objects] []:=by
 refine ctm_of 1 Tryz.func27 rfl (enters_of Tryz.func27 (by kernel_rfl) rfl) tabOk (by kernel_rfl) rfl rfl rfl rfl rfl fun w0 O _=>Tp.run [] ?_
 refine Tp.loopL (fun k:Nat=>⟨[(0,.ptr 0 0),(1,.c (.t (iv id))),(10,AV.i (s.objects.map GObject.enc).length),(11,AV.i k)],[(0,cellsQ s)],[(0,rowQ s.objects)],10000⟩) (fun k=>k≤s.objects.length) (fun k=>s.objects.length - k) 0 ?_ (Nat.zero_le _) ?_
 ·refine wkl_of (n1:=1) rfl rfl ?_ ?_ ?_
  all_goals repeat' first|refine Ai ?_ ?_|exact rfl|exact trivial|exact Ei _ rfl|refine lN ?_|refine bS ?_|fail
 rintro k hk
 refine Tp.run [5,6] ?_
 refine cS (fun hc=>?_) (fun hc=>?_)
 ·have hlt:=len_lt hc
  have hkl:k < (s.objects.map GObject.enc).length:=by rw [Lm];exact hlt
  refine Ei k (Ai rfl (Ai hkl ?_))
  refine Ei (s.objects[k].enc) (Ei _ (Ai (map_get _ _ k hlt) (Ai rfl ?_)))
  refine cond_f (beq_eq_false_iff_ne.2 (hno k hlt)) ?_
  refine Tp.run [] ?_
  refine Ei (k+1) (Ai (show k+1≤_ by omega) (Ai (show s.objects.length - (k+1) < s.objects.length - k by omega) ?_))
  refine wkl_of (n1:=1) rfl rfl ?_ ?_ ?_
  ·repeat' first|refine Ai ?_ ?_|exact rfl|exact trivial|exact Ei _ rfl|refine lN ?_|refine bS ?_|fail
   exact congrArg (fun n=>AV.c (.t n)) (succ_eq k hlt 128 (by decide) hs)
  all_goals repeat' first|refine Ai ?_ ?_|exact rfl|exact trivial|exact Ei _ rfl|refine lN ?_|refine bS ?_|fail
 ·refine Ei [(0,0)] (Ai (Ai rfl (Ai ?_ (Ai ?_ ?_))) ?_)
  all_goals repeat' first|refine Ai ?_ ?_|exact rfl|exact trivial|exact Ei _ rfl|refine lN ?_|refine bS ?_|fail
theorem ob_set1 (l:List GObject) (i:Nat) (B:List Tr) (o:GObject) (hB:B=o.enc):(l.map GObject.enc).set i B=(l.set i o).map GObject.enc:=by rw [List.map_set,hB]
theorem ob_set2 (l:List GObject) (i:Nat) (A B:List Tr) (o:GObject) (hB:B=o.enc):((l.map GObject.enc).set i A).set i B=(l.set i o).map GObject.enc:=by rw [List.set_set,List.map_set,hB]
theorem enter_ctm (l:List GObject) (i:Nat) (hi:i < l.length) (e:GEvent):CtM Tryz.prog 71 [.eptr 0 0 19 i 0,.agg (e.enc.map .t)] [] [rowQ l] (.tup []) [] [rowQ (l.set i (entM e l[i]))] []:=by
 have hil:i < (l.map GObject.enc).length:=by rw [Lm];exact hi
 refine ctm_of 1 Tryz.func71 rfl (enters_of Tryz.func71 (by kernel_rfl) rfl) tabOk (by kernel_rfl) rfl rfl rfl rfl rfl fun w0 O _=>Tp.run [2,3] ?_
 refine Tp.run [] ?_
 refine Ei (l[i].enc) (Ai (map_get _ _ i hi) (Ai (Nb rfl) ?_))
 refine Tp.run [] ?_
 refine cI (cnt_sum 0 0 0 e.extra0 e.extra1 e.extra2) ⟨?_,?_,trivial⟩ (.inl rfl) ?_
 ·repeat' first|refine Ai ?_ ?_|exact rfl|exact trivial|exact Ei _ rfl|refine lN ?_|refine bS ?_|fail
 ·repeat' first|refine Ai ?_ ?_|exact rfl|exact trivial|exact Ei _ rfl|refine lN ?_|refine bS ?_|fail
 refine Ei _ (Ai (List.getElem?_set_self hil) (Ai (Nb rfl) ?_))
 refine Ei [(0,0)] (Ai (Ai rfl (Ai ?_ (Ai ?_ ?_))) ?_)
 ·repeat' first|refine Ai ?_ ?_|exact rfl|exact trivial|exact Ei _ rfl|refine lN ?_|refine bS ?_|fail
  exact ob_set2 l i _ _ _ rfl
 all_goals repeat' first|refine Ai ?_ ?_|exact rfl|exact trivial|exact Ei _ rfl|refine lN ?_|refine bS ?_|fail
end Go.Proofs.YtmloamomcbmfhaaGreat
end
section
namespace Go.Proofs.YtmloamomcbmfhaaGreat
open Go Cg Go.RowKit
theorem dshuffle (s:Int) (l:List Int) (h:l.length*8≤limB) (hb:l.length≤1099511627776):Ct Tryz.prog 75 [uvA s,.c (.t (.sl 1 (l.map eI)))] (.tup [.c (.t (.sl 1 ((shufM s l).1.map eI))),uvA (shufM s l).2]) [] false:=by
 generalize hM:shufM s l=M
 refine ct_of Tryz.func75 rfl (enters_of Tryz.func75 (by kernel_rfl) rfl) tabOk (by kernel_rfl) rfl rfl rfl rfl fun w0 O _=>Tp.run [7] ?_
 refine cI (cloneInt_ct _ (map_bound _ _ _ h)) ⟨rfl,trivial⟩ (.inr rfl) ?_
 refine Tp.loop (fun x:Int × List Int × Int=>⟨[(0,uvA x.2.2),(6,.c (.row 9000 0)),(7,AV.i x.1)],[],[(9000,⟨3,1,0,x.2.1.map eI,none⟩)],10000⟩) (ShOk s l) (fun x=>(x.1+1).toNat) (IntKind.i64.wrap (((l.length:Nat):Int) - 1),l,s) ?_ (ShOk.start s l h) ?_
 ·refine wk_of [(9000,384)] rfl rfl ?_ ?_ ?_
  ·repeat' first|refine Ai ?_ ?_|exact rfl|exact trivial|exact Ei _ rfl|refine lN ?_|refine bS ?_|fail
   exact congrArg (fun n:Nat=>iv (IntKind.i64.wrap ((n:Int) - 1))) (by rw [Lm])
  all_goals repeat' first|refine Ai ?_ ?_|exact rfl|exact trivial|exact Ei _ rfl|refine lN ?_|refine bS ?_|fail
 rintro ⟨i,L,S⟩ hx
 refine Tp.run [5,7] ?_
 refine cS (fun hc=>?_) (fun hc=>?_)
 ·have hi1:1≤i:=of_decide_eq_true hc
  obtain ⟨⟨w1,w2⟩,⟨b1,b2⟩,w3,hx2⟩:=hx.step hi1 hb
  have hil:=hx.hi
  simp only at hil
  refine Tp.run [] ?_
  refine cI (dbelow S (i+1) w2) ⟨rfl,congrArg iv w1,trivial⟩ (.inr rfl) ?_
  generalize hk:belowM S (i+1)=B at *
  obtain ⟨k,S2⟩:=B
  simp only at b1 b2
  obtain ⟨k,rfl⟩:∃ n:Nat,k=n:=⟨k.toNat,by omega⟩
  obtain ⟨i,rfl⟩:∃ n:Nat,i=n:=⟨i.toNat,by omega⟩
  have hi':i < L.length:=by omega
  have hk':k < L.length:=by omega
  refine Ei k (Ai rfl (Ai (by rw [Lm];exact hk') ?_))
  refine Ei (eI L[k]) (Ei _ (Ai (map_get _ _ k hk') (Ai rfl ?_)))
  refine Ei i (Ai rfl (Ai (by rw [Lm];exact hi') ?_))
  refine Ei (eI L[i]) (Ei _ (Ai (map_get _ _ i hi') (Ai rfl ?_)))
  refine Ei i (Ai rfl (Ai (by rw [Lm];exact hi') ?_))
  refine Ei (eI L[i]) (Ai (map_get _ _ i hi') (Ai (Nb rfl) ?_))
  refine Ei k (Ai rfl (Ai (by rw [List.length_set,Lm];exact hk') ?_))
  refine Ei _ (Ai (sw_get (L:=L) (i:=i) (a:=L[k]) hk') (Ai (Nb rfl) ?_))
  refine Ei (((i:Nat):Int) - 1,swapM L i k,S2) (Ai hx2 (Ai (show ((i:Int) - 1+1).toNat < ((i:Int)+1).toNat by omega) ?_))
  refine wk_of [(9000,9000)] rfl rfl ?_ ?_ ?_
  ·repeat' first|refine Ai ?_ ?_|exact rfl|exact trivial|exact Ei _ rfl|refine lN ?_|refine bS ?_|fail
   exact congrArg iv w3
  ·repeat' first|refine Ai ?_ ?_|exact rfl|exact trivial|exact Ei _ rfl|refine lN ?_|refine bS ?_|fail
  ·repeat' first|refine Ai ?_ ?_|exact rfl|exact trivial|exact Ei _ rfl|refine lN ?_|refine bS ?_|fail
   exact sw_eq hi' hk'
 ·have hf:=hx.fin (of_decide_eq_false hc)
  rw [hf] at hM
  subst hM
  refine Tp.run [] ?_
  refine Ei [] (Ai rfl (Ai ?_ ?_))
  all_goals repeat' first|refine Ai ?_ ?_|exact rfl|exact trivial|exact Ei _ rfl|refine lN ?_|refine bS ?_|fail
end Go.Proofs.YtmloamomcbmfhaaGreat
end
section
namespace Go.Proofs.YtmloamomcbmfhaaGreat
open Go Cg Go.RowKit Go.Sort
theorem mark_1 (l:List GObject) (i:Nat) (hi:i < l.length) (d:Bool) (e:GEvent) (hk:e.kind=1):CtM Tryz.prog 28 [.eptr 0 0 19 i 0,AV.b d,.agg (e.enc.map .t)] [] [rowQ l] (.tup []) [] [rowQ (l.set i (markM d e l[i]))] []:=by
 have hil:i < (l.map GObject.enc).length:=by rw [Lm];exact hi
 have hm:markM d e l[i]={ l[i] with damage:=addM l[i].damage e.amount,deadly:=l[i].deadly||d }:=by unfold markM;rw [hk];rfl
 rw [hm]
 refine ctm_of 1 Tryz.func28 rfl (enters_of Tryz.func28 (by kernel_rfl) rfl) tabOk (by kernel_rfl) rfl rfl rfl rfl rfl fun w0 O _=>Tp.run [3,4] ?_
 repeat' (first|refine cond_t (beq_t hk) ?_|refine cond_f (beq_f hk (by decide)) ?_)
 refine Tp.run [] ?_
 refine Ei (l[i].enc) (Ei _ (Ai (map_get _ _ i hi) (Ai rfl ?_)))
 refine cI (numadd l[i].damage e.amount) ⟨rfl,rfl,trivial⟩ (.inl rfl) ?_
 refine Ei (l[i].enc) (Ai (map_get _ _ i hi) (Ai (Nb rfl) ?_))
 refine Tp.run [] ?_
 refine Ei _ (Ei _ (Ai (List.getElem?_set_self hil) (Ai rfl ?_)))
 refine cS (fun hd=>?_) (fun hd=>?_)
 ·refine Ei _ (Ai (List.getElem?_set_self hil) (Ai (Nb rfl) ?_))
  refine Ei [(0,0)] (Ai (Ai rfl (Ai ?_ (Ai ?_ ?_))) ?_)
  ·repeat' first|refine Ai ?_ ?_|exact rfl|exact trivial|exact Ei _ rfl|refine lN ?_|refine bS ?_|fail
   exact ob_set2 l i _ _ _ (by rw [hd];rfl)
  all_goals repeat' first|refine Ai ?_ ?_|exact rfl|exact trivial|exact Ei _ rfl|refine lN ?_|refine bS ?_|fail
 ·refine Ei _ (Ai (List.getElem?_set_self hil) (Ai (Nb rfl) ?_))
  refine Ei [(0,0)] (Ai (Ai rfl (Ai ?_ (Ai ?_ ?_))) ?_)
  ·repeat' first|refine Ai ?_ ?_|exact rfl|exact trivial|exact Ei _ rfl|refine lN ?_|refine bS ?_|fail
   exact ob_set2 l i _ _ _ (by rw [hd];rfl)
  all_goals repeat' first|refine Ai ?_ ?_|exact rfl|exact trivial|exact Ei _ rfl|refine lN ?_|refine bS ?_|fail
theorem mark_6 (l:List GObject) (i:Nat) (hi:i < l.length) (d:Bool) (e:GEvent) (hk:e.kind=6):CtM Tryz.prog 28 [.eptr 0 0 19 i 0,AV.b d,.agg (e.enc.map .t)] [] [rowQ l] (.tup []) [] [rowQ (l.set i (markM d e l[i]))] []:=by
 have hil:i < (l.map GObject.enc).length:=by rw [Lm];exact hi
 have hm:markM d e l[i]={ l[i] with tapped:=e.kind==6 }:=by unfold markM;rw [hk];rfl
 rw [hm]
 refine ctm_of 1 Tryz.func28 rfl (enters_of Tryz.func28 (by kernel_rfl) rfl) tabOk (by kernel_rfl) rfl rfl rfl rfl rfl fun w0 O _=>Tp.run [7] ?_
 repeat' (first|refine cond_t (beq_t hk) ?_|refine cond_f (beq_f hk (by decide)) ?_)
 refine Tp.run [] ?_
 refine Ei (l[i].enc) (Ai (map_get _ _ i hi) (Ai (Nb rfl) ?_))
 refine Ei [(0,0)] (Ai (Ai rfl (Ai ?_ (Ai ?_ ?_))) ?_)
 ·repeat' first|refine Ai ?_ ?_|exact rfl|exact trivial|exact Ei _ rfl|refine lN ?_|refine bS ?_|fail
  exact ob_set1 l i _ _ rfl
 all_goals repeat' first|refine Ai ?_ ?_|exact rfl|exact trivial|exact Ei _ rfl|refine lN ?_|refine bS ?_|fail
theorem mark_7 (l:List GObject) (i:Nat) (hi:i < l.length) (d:Bool) (e:GEvent) (hk:e.kind=7):CtM Tryz.prog 28 [.eptr 0 0 19 i 0,AV.b d,.agg (e.enc.map .t)] [] [rowQ l] (.tup []) [] [rowQ (l.set i (markM d e l[i]))] []:=by
 have hil:i < (l.map GObject.enc).length:=by rw [Lm];exact hi
 have hm:markM d e l[i]={ l[i] with tapped:=e.kind==6 }:=by unfold markM;rw [hk];rfl
 rw [hm]
 refine ctm_of 1 Tryz.func28 rfl (enters_of Tryz.func28 (by kernel_rfl) rfl) tabOk (by kernel_rfl) rfl rfl rfl rfl rfl fun w0 O _=>Tp.run [7] ?_
 repeat' (first|refine cond_t (beq_t hk) ?_|refine cond_f (beq_f hk (by decide)) ?_)
 refine Tp.run [] ?_
 refine Ei (l[i].enc) (Ai (map_get _ _ i hi) (Ai (Nb rfl) ?_))
 refine Ei [(0,0)] (Ai (Ai rfl (Ai ?_ (Ai ?_ ?_))) ?_)
 ·repeat' first|refine Ai ?_ ?_|exact rfl|exact trivial|exact Ei _ rfl|refine lN ?_|refine bS ?_|fail
  exact ob_set1 l i _ _ rfl
 all_goals repeat' first|refine Ai ?_ ?_|exact rfl|exact trivial|exact Ei _ rfl|refine lN ?_|refine bS ?_|fail
theorem mark_8 (l:List GObject) (i:Nat) (hi:i < l.length) (d:Bool) (e:GEvent) (hk:e.kind=8):CtM Tryz.prog 28 [.eptr 0 0 19 i 0,AV.b d,.agg (e.enc.map .t)] [] [rowQ l] (.tup []) [] [rowQ (l.set i (markM d e l[i]))] []:=by
 have hil:i < (l.map GObject.enc).length:=by rw [Lm];exact hi
 have hm:markM d e l[i]={ l[i] with counters0:=upC 0 e.counter l[i].counters0 e.amount,counters1:=upC 1 e.counter l[i].counters1 e.amount,counters2:=upC 2 e.counter l[i].counters2 e.amount }:=by unfold markM;rw [hk];rfl
 rw [hm]
 refine ctm_of 1 Tryz.func28 rfl (enters_of Tryz.func28 (by kernel_rfl) rfl) tabOk (by kernel_rfl) rfl rfl rfl rfl rfl fun w0 O _=>Tp.run [9] ?_
 repeat' (first|refine cond_t (beq_t hk) ?_|refine cond_f (beq_f hk (by decide)) ?_)
 refine Tp.run [] ?_
 refine Ei (l[i].enc) (Ei _ (Ai (map_get _ _ i hi) (Ai rfl ?_)))
 refine cI (cnt_add l[i].counters0 l[i].counters1 l[i].counters2 e.counter e.amount) ⟨?_,?_,?_,trivial⟩ (.inl rfl) ?_
 ·repeat' first|refine Ai ?_ ?_|exact rfl|exact trivial|exact Ei _ rfl|refine lN ?_|refine bS ?_|fail
 ·repeat' first|refine Ai ?_ ?_|exact rfl|exact trivial|exact Ei _ rfl|refine lN ?_|refine bS ?_|fail
 ·repeat' first|refine Ai ?_ ?_|exact rfl|exact trivial|exact Ei _ rfl|refine lN ?_|refine bS ?_|fail
 refine Ei (l[i].enc) (Ai (map_get _ _ i hi) (Ai (Nb rfl) ?_))
 refine Ei [(0,0)] (Ai (Ai rfl (Ai ?_ (Ai ?_ ?_))) ?_)
 ·repeat' first|refine Ai ?_ ?_|exact rfl|exact trivial|exact Ei _ rfl|refine lN ?_|refine bS ?_|fail
  exact ob_set1 l i _ _ rfl
 all_goals repeat' first|refine Ai ?_ ?_|exact rfl|exact trivial|exact Ei _ rfl|refine lN ?_|refine bS ?_|fail
theorem mark_9 (l:List GObject) (i:Nat) (hi:i < l.length) (d:Bool) (e:GEvent) (hk:e.kind=9):CtM Tryz.prog 28 [.eptr 0 0 19 i 0,AV.b d,.agg (e.enc.map .t)] [] [rowQ l] (.tup []) [] [rowQ (l.set i (markM d e l[i]))] []:=by
 have hil:i < (l.map GObject.enc).length:=by rw [Lm];exact hi
 have hm:markM d e l[i]={ l[i] with counters0:=upC 0 e.counter l[i].counters0 (IntKind.i64.wrap (0 - e.amount)),counters1:=upC 1 e.counter l[i].counters1 (IntKind.i64.wrap (0 - e.amount)),counters2:=upC 2 e.counter l[i].counters2 (IntKind.i64.wrap (0 - e.amount)) }:=by unfold markM;rw [hk];rfl
 rw [hm]
 refine ctm_of 1 Tryz.func28 rfl (enters_of Tryz.func28 (by kernel_rfl) rfl) tabOk (by kernel_rfl) rfl rfl rfl rfl rfl fun w0 O _=>Tp.run [11] ?_
 repeat' (first|refine cond_t (beq_t hk) ?_|refine cond_f (beq_f hk (by decide)) ?_)
 refine Tp.run [] ?_
 refine Ei (l[i].enc) (Ei _ (Ai (map_get _ _ i hi) (Ai rfl ?_)))
 refine cI (cnt_add l[i].counters0 l[i].counters1 l[i].counters2 e.counter (IntKind.i64.wrap (0 - e.amount))) ⟨?_,?_,?_,trivial⟩ (.inl rfl) ?_
 ·repeat' first|refine Ai ?_ ?_|exact rfl|exact trivial|exact Ei _ rfl|refine lN ?_|refine bS ?_|fail
 ·repeat' first|refine Ai ?_ ?_|exact rfl|exact trivial|exact Ei _ rfl|refine lN ?_|refine bS ?_|fail
 ·repeat' first|refine Ai ?_ ?_|exact rfl|exact trivial|exact Ei _ rfl|refine lN ?_|refine bS ?_|fail
 refine Ei (l[i].enc) (Ai (map_get _ _ i hi) (Ai (Nb rfl) ?_))
 refine Ei [(0,0)] (Ai (Ai rfl (Ai ?_ (Ai ?_ ?_))) ?_)
 ·repeat' first|refine Ai ?_ ?_|exact rfl|exact trivial|exact Ei _ rfl|refine lN ?_|refine bS ?_|fail
  exact ob_set1 l i _ _ rfl
 all_goals repeat' first|refine Ai ?_ ?_|exact rfl|exact trivial|exact Ei _ rfl|refine lN ?_|refine bS ?_|fail
theorem mark_12 (l:List GObject) (i:Nat) (hi:i < l.length) (d:Bool) (e:GEvent) (hk:e.kind=12):CtM Tryz.prog 28 [.eptr 0 0 19 i 0,AV.b d,.agg (e.enc.map .t)] [] [rowQ l] (.tup []) [] [rowQ (l.set i (markM d e l[i]))] []:=by
 have hil:i < (l.map GObject.enc).length:=by rw [Lm];exact hi
 have hm:markM d e l[i]={ l[i] with attack:=e.player }:=by unfold markM;rw [hk];rfl
 rw [hm]
 refine ctm_of 1 Tryz.func28 rfl (enters_of Tryz.func28 (by kernel_rfl) rfl) tabOk (by kernel_rfl) rfl rfl rfl rfl rfl fun w0 O _=>Tp.run [13] ?_
 repeat' (first|refine cond_t (beq_t hk) ?_|refine cond_f (beq_f hk (by decide)) ?_)
 refine Tp.run [] ?_
 refine Ei (l[i].enc) (Ai (map_get _ _ i hi) (Ai (Nb rfl) ?_))
 refine Ei [(0,0)] (Ai (Ai rfl (Ai ?_ (Ai ?_ ?_))) ?_)
 ·repeat' first|refine Ai ?_ ?_|exact rfl|exact trivial|exact Ei _ rfl|refine lN ?_|refine bS ?_|fail
  exact ob_set1 l i _ _ rfl
 all_goals repeat' first|refine Ai ?_ ?_|exact rfl|exact trivial|exact Ei _ rfl|refine lN ?_|refine bS ?_|fail
theorem mark_13 (l:List GObject) (i:Nat) (hi:i < l.length) (d:Bool) (e:GEvent) (hk:e.kind=13):CtM Tryz.prog 28 [.eptr 0 0 19 i 0,AV.b d,.agg (e.enc.map .t)] [] [rowQ l] (.tup []) [] [rowQ (l.set i (markM d e l[i]))] []:=by
 have hil:i < (l.map GObject.enc).length:=by rw [Lm];exact hi
 have hm:markM d e l[i]={ l[i] with blocks:=e.source }:=by unfold markM;rw [hk];rfl
 rw [hm]
 refine ctm_of 1 Tryz.func28 rfl (enters_of Tryz.func28 (by kernel_rfl) rfl) tabOk (by kernel_rfl) rfl rfl rfl rfl rfl fun w0 O _=>Tp.run [15] ?_
 repeat' (first|refine cond_t (beq_t hk) ?_|refine cond_f (beq_f hk (by decide)) ?_)
 refine Tp.run [] ?_
 refine Ei (l[i].enc) (Ai (map_get _ _ i hi) (Ai (Nb rfl) ?_))
 refine Ei [(0,0)] (Ai (Ai rfl (Ai ?_ (Ai ?_ ?_))) ?_)
 ·repeat' first|refine Ai ?_ ?_|exact rfl|exact trivial|exact Ei _ rfl|refine lN ?_|refine bS ?_|fail
  exact ob_set1 l i _ _ rfl
 all_goals repeat' first|refine Ai ?_ ?_|exact rfl|exact trivial|exact Ei _ rfl|refine lN ?_|refine bS ?_|fail
def cellsR (s:GState):List Ce:=(s.enc.map .t).set 0 (.row 0 0)
def rowPq (l:List GPlayer):Row:=⟨47,14,0,l.map GPlayer.enc,none⟩
theorem pq_set (l:List GPlayer) (i:Nat) (B:List Tr) (o:GPlayer) (hB:B=o.enc):(l.map GPlayer.enc).set i B=(l.set i o).map GPlayer.enc:=by rw [List.map_set,hB]
theorem change_4 (s:GState) (i:Nat) (hi:i < s.players.length) (e:GEvent) (hk:e.kind=4):CtM Tryz.prog 26 [.eptr 0 0 14 i 0,.ptr 0 0,.agg (e.enc.map .t)] [cellsR s] [rowPq s.players] (.tup []) [cellsR s] [rowPq (s.players.set i (chM e s.seed s.players[i]).1)] []:=by
 have hm:(chM e s.seed s.players[i]).1={ s.players[i] with life:=addM s.players[i].life e.amount }:=by unfold chM;rw [hk];rfl
 rw [hm]
 refine ctm_of 1 Tryz.func26 rfl (enters_of Tryz.func26 (by kernel_rfl) rfl) tabOk (by kernel_rfl) rfl rfl rfl rfl rfl fun w0 O _=>Tp.run [3] ?_
 repeat' (first|refine cond_t (beq_t hk) ?_|refine cond_f (beq_f hk (by decide)) ?_)
 refine Tp.run [] ?_
 refine Ei (s.players[i].enc) (Ei _ (Ai (map_get _ _ i hi) (Ai rfl ?_)))
 refine cI (numadd s.players[i].life e.amount) ⟨rfl,rfl,trivial⟩ (.inl rfl) ?_
 refine Ei (s.players[i].enc) (Ai (map_get _ _ i hi) (Ai (Nb rfl) ?_))
 refine Ei [(0,0)] (Ai (Ai rfl (Ai ?_ (Ai ?_ ?_))) ?_)
 ·repeat' first|refine Ai ?_ ?_|exact rfl|exact trivial|exact Ei _ rfl|refine lN ?_|refine bS ?_|fail
  exact pq_set s.players i _ _ rfl
 all_goals repeat' first|refine Ai ?_ ?_|exact rfl|exact trivial|exact Ei _ rfl|refine lN ?_|refine bS ?_|fail
theorem change_5 (s:GState) (i:Nat) (hi:i < s.players.length) (e:GEvent) (hk:e.kind=5):CtM Tryz.prog 26 [.eptr 0 0 14 i 0,.ptr 0 0,.agg (e.enc.map .t)] [cellsR s] [rowPq s.players] (.tup []) [cellsR s] [rowPq (s.players.set i (chM e s.seed s.players[i]).1)] []:=by
 have hm:(chM e s.seed s.players[i]).1={ s.players[i] with life:=subM s.players[i].life e.amount }:=by unfold chM;rw [hk];rfl
 rw [hm]
 refine ctm_of 1 Tryz.func26 rfl (enters_of Tryz.func26 (by kernel_rfl) rfl) tabOk (by kernel_rfl) rfl rfl rfl rfl rfl fun w0 O _=>Tp.run [5] ?_
 repeat' (first|refine cond_t (beq_t hk) ?_|refine cond_f (beq_f hk (by decide)) ?_)
 refine Tp.run [] ?_
 refine Ei (s.players[i].enc) (Ei _ (Ai (map_get _ _ i hi) (Ai rfl ?_)))
 refine cI (numsub s.players[i].life e.amount) ⟨rfl,rfl,trivial⟩ (.inl rfl) ?_
 refine Ei (s.players[i].enc) (Ai (map_get _ _ i hi) (Ai (Nb rfl) ?_))
 refine Ei [(0,0)] (Ai (Ai rfl (Ai ?_ (Ai ?_ ?_))) ?_)
 ·repeat' first|refine Ai ?_ ?_|exact rfl|exact trivial|exact Ei _ rfl|refine lN ?_|refine bS ?_|fail
  exact pq_set s.players i _ _ rfl
 all_goals repeat' first|refine Ai ?_ ?_|exact rfl|exact trivial|exact Ei _ rfl|refine lN ?_|refine bS ?_|fail
theorem change_16 (s:GState) (i:Nat) (hi:i < s.players.length) (e:GEvent) (hk:e.kind=16):CtM Tryz.prog 26 [.eptr 0 0 14 i 0,.ptr 0 0,.agg (e.enc.map .t)] [cellsR s] [rowPq s.players] (.tup []) [cellsR s] [rowPq (s.players.set i (chM e s.seed s.players[i]).1)] []:=by
 have hm:(chM e s.seed s.players[i]).1={ s.players[i] with venom:=addM s.players[i].venom e.amount }:=by unfold chM;rw [hk];rfl
 rw [hm]
 refine ctm_of 1 Tryz.func26 rfl (enters_of Tryz.func26 (by kernel_rfl) rfl) tabOk (by kernel_rfl) rfl rfl rfl rfl rfl fun w0 O _=>Tp.run [7] ?_
 repeat' (first|refine cond_t (beq_t hk) ?_|refine cond_f (beq_f hk (by decide)) ?_)
 refine Tp.run [] ?_
 refine Ei (s.players[i].enc) (Ei _ (Ai (map_get _ _ i hi) (Ai rfl ?_)))
 refine cI (numadd s.players[i].venom e.amount) ⟨rfl,rfl,trivial⟩ (.inl rfl) ?_
 refine Ei (s.players[i].enc) (Ai (map_get _ _ i hi) (Ai (Nb rfl) ?_))
 refine Ei [(0,0)] (Ai (Ai rfl (Ai ?_ (Ai ?_ ?_))) ?_)
 ·repeat' first|refine Ai ?_ ?_|exact rfl|exact trivial|exact Ei _ rfl|refine lN ?_|refine bS ?_|fail
  exact pq_set s.players i _ _ rfl
 all_goals repeat' first|refine Ai ?_ ?_|exact rfl|exact trivial|exact Ei _ rfl|refine lN ?_|refine bS ?_|fail
theorem change_17 (s:GState) (i:Nat) (hi:i < s.players.length) (e:GEvent) (hk:e.kind=17) (h:s.players[i].library.length*8≤limB) (hb:s.players[i].library.length≤1099511627776):CtM Tryz.prog 26 [.eptr 0 0 14 i 0,.ptr 0 0,.agg (e.enc.map .t)] [cellsR s] [rowPq s.players] (.tup []) [cellsR { s with seed:=(chM e s.seed s.players[i]).2 }] [rowPq (s.players.set i (chM e s.seed s.players[i]).1)] []:=by
 have hm:chM e s.seed s.players[i]=({ s.players[i] with library:=(shufM s.seed s.players[i].library).1 },(shufM s.seed s.players[i].library).2):=by unfold chM;rw [hk];rfl
 rw [hm]
 have hsh:=dshuffle s.seed s.players[i].library h hb
 generalize shufM s.seed s.players[i].library=X at hsh ⊢
 obtain ⟨X,S⟩:=X
 refine ctm_of 1 Tryz.func26 rfl (enters_of Tryz.func26 (by kernel_rfl) rfl) tabOk (by kernel_rfl) rfl rfl rfl rfl rfl fun w0 O _=>Tp.run [9] ?_
 repeat' (first|refine cond_t (beq_t hk) ?_|refine cond_f (beq_f hk (by decide)) ?_)
 refine Tp.run [] ?_
 refine Ei (s.players[i].enc) (Ei _ (Ai (map_get _ _ i hi) (Ai rfl ?_)))
 refine cI hsh ⟨rfl,rfl,trivial⟩ (.inr rfl) ?_
 refine Ei (s.players[i].enc) (Ai (map_get _ _ i hi) (Ai (Nb rfl) ?_))
 refine Ei [(0,0)] (Ai (Ai rfl (Ai ?_ (Ai ?_ ?_))) ?_)
 ·repeat' first|refine Ai ?_ ?_|exact rfl|exact trivial|exact Ei _ rfl|refine lN ?_|refine bS ?_|fail
  exact pq_set s.players i _ _ rfl
 all_goals repeat' first|refine Ai ?_ ?_|exact rfl|exact trivial|exact Ei _ rfl|refine lN ?_|refine bS ?_|fail
theorem enterN_ctm (e:GEvent):CtM Tryz.prog 71 [.nilp,.agg (e.enc.map .t)] [] [] (.tup []) [] [] []:=by
 refine ctm_of 0 Tryz.func71 rfl (enters_of Tryz.func71 (by kernel_rfl) rfl) tabOk (by kernel_rfl) rfl rfl rfl rfl rfl fun w0 O _=>Tp.run [2,3] ?_
 refine Ei [] (Ai (Ai rfl (Ai ?_ (Ai ?_ ?_))) ?_)
 all_goals repeat' first|refine Ai ?_ ?_|exact rfl|exact trivial|exact Ei _ rfl|refine lN ?_|refine bS ?_|fail
theorem arr_set {t:GState} {id:Int} (e:GEvent) {j:Nat} (hj:j < t.objects.length) (h1:t.objects.findIdx? (fun o=>o.id==id)=some j) (h2:findM t.objects id=t.objects[j]) (h3:t.objects[j].id=id) (hh:hasM t.objects id=true):arrM t id e={ t with objects:=t.objects.set j (entM e t.objects[j]) }:=by
 unfold arrM putM putL
 rw [if_pos hh,h2,show (fun x:GObject=>x.id==(entM e t.objects[j]).id)=fun o=>o.id==id from funext fun x=>by show (x.id==t.objects[j].id)=_;rw [h3],h1]
theorem first_no {l:List GObject} {id:Int} {j:Nat} (h:l.findIdx? (fun o=>o.id==id)=some j):∀ k (hk:k < l.length),k < j→l[k].id≠id:=fun k hk hkj=>by
 obtain ⟨_,_,h5⟩:=List.findIdx?_eq_some_iff_getElem.1 h
 have:=h5 k hkj
 simpa using this
theorem has_no {l:List GObject} {id:Int} (h:hasM l id=false):∀ k (hk:k < l.length),l[k].id≠id:=fun k hk e=>by
 unfold hasM at h
 have:l.find? (fun o=>o.id==id)=none:=by simpa using h
 have:=List.find?_eq_none.1 this _ (List.getElem_mem hk)
 simp [e] at this
structure UnP (k:Int) (l:List GObject) (x:Nat × List GObject):Prop where
 le:x.1≤l.length
 len:x.2.length=l.length
 done:∀ j (h:j < l.length) (h2:j < x.2.length),j < x.1→x.2[j]=uncO k l[j]
 rest:∀ j (h:j < l.length) (h2:j < x.2.length),x.1≤j→x.2[j]=l[j]
theorem UnP.start (k:Int) (l:List GObject):UnP k l (0,l):=⟨Nat.zero_le _,rfl,fun j _ _ h=>by omega,fun j _ _ _=>rfl⟩
theorem UnP.step {k:Int} {l:List GObject} {i:Nat} {X:List GObject} (h:UnP k l (i,X)) (hi:i < l.length):UnP k l (i+1,X.set i (uncO k l[i])):=by
 obtain ⟨h1,h2,h3,h4⟩:=h
 simp only at h1 h2 h3 h4
 refine ⟨hi,by rw [List.length_set];exact h2,fun j hj hj2 hji=>?_,fun j hj hj2 hji=>?_⟩
 ·simp only at hji ⊢
  rw [List.getElem_set]
  split
  ·rename_i e
   subst e
   rfl
  ·exact h3 j hj (by omega) (by omega)
 ·simp only at hji ⊢
  rw [List.getElem_set_ne (by omega)]
  exact h4 j hj (by omega) (by omega)
theorem UnP.skip {k:Int} {l:List GObject} {i:Nat} {X:List GObject} (h:UnP k l (i,X)) (hi:i < l.length) (hn:uncO k l[i]=l[i]):UnP k l (i+1,X):=by
 obtain ⟨h1,h2,h3,h4⟩:=h
 simp only at h1 h2 h3 h4
 refine ⟨hi,h2,fun j hj hj2 hji=>?_,fun j hj hj2 hji=>h4 j hj hj2 (by simp only at hji;omega)⟩
 simp only at hji ⊢
 by_cases e:j=i
 ·subst e
  rw [hn]
  exact h4 j hj hj2 (Nat.le_refl _)
 ·exact h3 j hj hj2 (by omega)
theorem UnP.fin {k:Int} {l X:List GObject} (h:UnP k l (l.length,X)):X=l.map (uncO k):=by
 refine List.ext_getElem (by rw [Lm];exact h.len) fun j h1 h2=>?_
 rw [List.getElem_map]
 rw [Lm] at h2
 exact h.done j h2 h1 h2
theorem setM_objs (s:GState) (z p:Int) (l:List Int):(setM s z p l).objects=s.objects:=by
 unfold setM
 split
 ·rfl
 split
 ·rfl
 split
 ·rfl
 split <;> rfl
theorem mv_len (s:GState) (h:s.ok) (id z p:Int) (b:Bool):(moveM s id z p b).1.objects.length≤s.objects.length:=by
 unfold moveM
 cases s.objects.findIdx? (fun o=>o.id==id) with
 | none=>exact Nat.le_refl _
 | some i=>
  cases hi:s.objects[i]? with
  | none=>simp only [hi];exact Nat.le_refl _
  | some o=>
   simp only [hi]
   obtain ⟨hl,_⟩:=List.getElem?_eq_some_iff.1 hi
   obtain ⟨_,hr⟩:=remM_ok h id i o hl
   unfold mvFound
   split
   ·exact Nat.le_refl _
   split
   ·show (remM s id i o).objects.length≤_
    omega
   ·show (setM (putM (remM s id i o) _) z _ _).objects.length≤_
    rw [setM_objs]
    have:=putL_len (remM s id i o).objects (mvNew (remM s id i o) o z p)
    show (putL (remM s id i o).objects _).length≤_
    omega
theorem arr_len (s:GState) (id:Int) (e:GEvent):(arrM s id e).objects.length=s.objects.length:=by
 by_cases hh:hasM s.objects id=true
 ·obtain ⟨j,hj,h1,h2,h3⟩:=has_idx hh
  rw [arr_set e hj h1 h2 h3 hh]
  exact List.length_set
 ·unfold arrM
  rw [if_neg hh]
theorem actmove_ct (s:GState) (e:GEvent) (h:s.ok) (H:MvH s) (hh:hasM s.objects e.object=true) (hz:0≤e.to_∧e.to_≤4):Ct Tryz.prog 23 [.agg (s.enc.map .t),.agg (e.enc.map .t)] (.agg ((mvP s e).enc.map .t)) [] false:=by
 have hm:=moveP_ct s e.object e.to_ e.player (e.amount==1) h H hh hz
 have hml:=mv_len s h e.object e.to_ e.player (e.amount==1)
 generalize hM:mvP s e=M
 unfold mvP at hM
 generalize moveM s e.object e.to_ e.player (e.amount==1)=r at hm hM hml
 obtain ⟨r,id⟩:=r
 simp only at hM hml hm
 have hrl:r.objects.length*128≤limB:=Nat.le_trans (Nat.mul_le_mul_right _ hml) h.2.2.1
 refine ct_of Tryz.func23 rfl (enters_of Tryz.func23 (by kernel_rfl) rfl) tabOk (by kernel_rfl) rfl rfl rfl rfl fun w0 O _=>Tp.run [3,4,5,11] ?_
 refine cI hm ⟨fL s.enc,rfl,rfl,rfl,rfl,trivial⟩ (.inr rfl) ?_
 obtain ⟨t,ht⟩:∃ t,(if e.to_=0 then arrM r id e else r)=t:=⟨_,rfl⟩
 rw [ht] at hM
 have htl:t.objects.length*128≤limB:=by
  rw [← ht]
  split
  ·rw [arr_len];exact hrl
  ·exact hrl
 apply joinK (P:=Tryz.prog) (T:=T) (N:=Tryz.f23.ntmps) (w0:=w0) (O:=O) ⟨[(3,.ptr 128 0),(4,.ptr 256 0),(5,.ptr 2176 0)],[(128,e.enc.map .t),(256,List.replicate 19 .bot),(2176,(t.enc.map .t).set 1 (.row 9000 0))],[(9000,rowQ t.objects)],20000⟩
 case h=>
  intro K
  refine cS (fun h0=>?_) (fun h0=>?_)
  ·have h0:e.to_=0:=by simpa using h0
   rw [if_pos h0] at ht
   refine Tp.run [] ?_
   by_cases hh2:hasM r.objects id=true
   ·obtain ⟨j,hj,h1,h2,h3⟩:=has_idx hh2
    rw [arr_set e hj h1 h2 h3 hh2] at ht
    subst ht
    refine cM [2176] [(1664,0)] (find_ctm r id j hrl hj h3 (first_no h1)) ?_ ?_ ?_
    ·repeat' first|refine Ai ?_ ?_|exact rfl|exact trivial|exact Ei _ rfl|refine lN ?_|refine bS ?_|fail
    ·exact rfl
    refine cM [] [(1664,0)] (enter_ctm r.objects j hj e) ?_ ?_ ?_
    ·repeat' first|refine Ai ?_ ?_|exact rfl|exact trivial|exact Ei _ rfl|refine lN ?_|refine bS ?_|fail
    ·exact rfl
    refine Tp.wk (wk_of [(9000,1664)] rfl rfl ?_ ?_ ?_) K
    all_goals repeat' first|refine Ai ?_ ?_|exact rfl|exact trivial|exact Ei _ rfl|refine lN ?_|refine bS ?_|fail
   ·have hh2:hasM r.objects id=false:=by simpa using hh2
    rw [show arrM r id e=r from by unfold arrM;rw [hh2];rfl] at ht
    subst ht
    refine cM [2176] [(1664,0)] (findN_ctm r id hrl (has_no hh2)) ?_ ?_ ?_
    ·repeat' first|refine Ai ?_ ?_|exact rfl|exact trivial|exact Ei _ rfl|refine lN ?_|refine bS ?_|fail
    ·exact rfl
    refine cM [] [] (enterN_ctm e) ?_ ?_ ?_
    ·repeat' first|refine Ai ?_ ?_|exact rfl|exact trivial|exact Ei _ rfl|refine lN ?_|refine bS ?_|fail
    ·exact rfl
    refine Tp.wk (wk_of [(9000,1664)] rfl rfl ?_ ?_ ?_) K
    all_goals repeat' first|refine Ai ?_ ?_|exact rfl|exact trivial|exact Ei _ rfl|refine lN ?_|refine bS ?_|fail
  ·have h0:¬ e.to_=0:=by simpa using h0
   rw [if_neg h0] at ht
   subst ht
   refine Tp.wk (wk_of [(9000,1664)] rfl rfl ?_ ?_ ?_) K
   all_goals repeat' first|refine Ai ?_ ?_|exact rfl|exact trivial|exact Ei _ rfl|refine lN ?_|refine bS ?_|fail
 case key=>
  clear ht hm hml hrl
  refine Tp.run [5,11] ?_
  refine cS (fun hf=>?_) (fun hf=>?_)
  ·have hf:e.from_=0:=by simpa using hf
   rw [if_pos hf] at hM
   subst hM
   refine Tp.run [11] ?_
   refine Tp.loop (fun x:Nat × List GObject=>⟨[(3,.ptr 128 0),(4,.ptr 256 0),(5,.ptr 2176 0),(34,AV.i (t.objects.map GObject.enc).length),(35,AV.i x.1)],[(128,e.enc.map .t),(256,List.replicate 19 .bot),(2176,(t.enc.map .t).set 1 (.row 9000 0))],[(9000,rowQ x.2)],30000⟩) (fun x=>UnP e.object t.objects x) (fun x=>t.objects.length - x.1) (0,t.objects) ?_ (UnP.start _ _) ?_
   ·refine wk_of [(9000,9000)] rfl rfl ?_ ?_ ?_
    all_goals repeat' first|refine Ai ?_ ?_|exact rfl|exact trivial|exact Ei _ rfl|refine lN ?_|refine bS ?_|fail
   rintro ⟨k,X⟩ hk
   refine Tp.run [7,9,10,11] ?_
   refine cS (fun hc=>?_) (fun hc=>?_)
   ·have hlt:=len_lt hc
    have hX:X.length=t.objects.length:=hk.len
    have hXk:k < X.length:=by omega
    have hkl:k < (X.map GObject.enc).length:=by rw [Lm];exact hXk
    have hold:X[k]=t.objects[k]:=hk.rest k hlt hXk (Nat.le_refl _)
    refine Tp.run [9,10] ?_
    refine Ei k (Ai rfl (Ai hkl ?_))
    refine Ei (X[k].enc) (Ei _ (Ai (map_get _ _ k hXk) (Ai rfl ?_)))
    refine cS (fun hb=>?_) (fun hb=>?_)
    ·refine Tp.run [10] ?_
     refine Ei k (Ai rfl (Ai hkl ?_))
     refine Ei (X[k].enc) (Ai (map_get _ _ k hXk) (Ai (Nb rfl) ?_))
     refine Tp.run [] ?_
     refine Ei (k+1,X.set k (uncO e.object t.objects[k])) (Ai (UnP.step hk hlt) (Ai (show t.objects.length - (k+1) < t.objects.length - k by omega) ?_))
     refine wk_of [(9000,9000)] rfl rfl ?_ ?_ ?_
     ·repeat' first|refine Ai ?_ ?_|exact rfl|exact trivial|exact Ei _ rfl|refine lN ?_|refine bS ?_|fail
      exact succ_eq k hlt 128 (by decide) htl
     ·repeat' first|refine Ai ?_ ?_|exact rfl|exact trivial|exact Ei _ rfl|refine lN ?_|refine bS ?_|fail
     ·repeat' first|refine Ai ?_ ?_|exact rfl|exact trivial|exact Ei _ rfl|refine lN ?_|refine bS ?_|fail
      refine ob_set1 X k _ _ ?_
      unfold uncO
      rw [← hold,if_pos (show (X[k].blocks==e.object)=true from hb)]
      rfl
    ·refine Tp.run [] ?_
     refine Ei (k+1,X) (Ai (UnP.skip hk hlt (by
      unfold uncO
      rw [← hold,if_neg (by rw [show (X[k].blocks==e.object)=false from hb];decide)])) (Ai (show t.objects.length - (k+1) < t.objects.length - k by omega) ?_))
     refine wk_of [(9000,9000)] rfl rfl ?_ ?_ ?_
     ·repeat' first|refine Ai ?_ ?_|exact rfl|exact trivial|exact Ei _ rfl|refine lN ?_|refine bS ?_|fail
      exact succ_eq k hlt 128 (by decide) htl
     all_goals repeat' first|refine Ai ?_ ?_|exact rfl|exact trivial|exact Ei _ rfl|refine lN ?_|refine bS ?_|fail
   ·have hle:=len_ge hc hk.le
    simp only at hle
    subst hle
    have hfin:=hk.fin
    subst hfin
    refine Tp.run [] ?_
    refine Ei [] (Ai rfl (Ai ?_ ?_))
    all_goals repeat' first|refine Ai ?_ ?_|exact rfl|exact trivial|exact Ei _ rfl|refine lN ?_|refine bS ?_|fail
  ·have hf:¬ e.from_=0:=by simpa using hf
   rw [if_neg hf] at hM
   subst hM
   refine Tp.run [] ?_
   refine Ei [] (Ai rfl (Ai ?_ ?_))
   all_goals repeat' first|refine Ai ?_ ?_|exact rfl|exact trivial|exact Ei _ rfl|refine lN ?_|refine bS ?_|fail
theorem make_eq {s:GState} (card player:Int) (hlt:∀ y∈s.objects,y.id < s.nextId):makeM s card player=({ s with objects:=s.objects++[{ newM s.nextId card player 0 s.nextStamp with token:=true,sick:=true }],battlefield:=s.battlefield++[s.nextId],nextId:=IntKind.i64.wrap (s.nextId+1),nextStamp:=IntKind.i64.wrap (s.nextStamp+1) },s.nextId):=by
 show ({ putM s { newM s.nextId card player 0 s.nextStamp with token:=true,sick:=true } with battlefield:=s.battlefield++[s.nextId],nextId:=IntKind.i64.wrap (s.nextId+1),nextStamp:=IntKind.i64.wrap (s.nextStamp+1) },s.nextId)=_
 unfold putM
 rw [putL_end (x:={ newM s.nextId card player 0 s.nextStamp with token:=true,sick:=true }) hlt]
theorem arr_form (s:GState) (id:Int) (e:GEvent):∃ l,arrM s id e={ s with objects:=l }∧l.length=s.objects.length∧∀ y∈l,∃ x∈s.objects,y.id=x.id:=by
 by_cases hh:hasM s.objects id=true
 ·obtain ⟨j,hj,h1,h2,h3⟩:=has_idx hh
  refine ⟨_,arr_set e hj h1 h2 h3 hh,List.length_set,fun y hy=>?_⟩
  rcases List.mem_or_eq_of_mem_set hy with hy|rfl
  ·exact ⟨y,hy,rfl⟩
  ·exact ⟨s.objects[j],List.getElem_mem hj,rfl⟩
 ·refine ⟨s.objects,?_,rfl,fun y hy=>⟨y,hy,rfl⟩⟩
  unfold arrM
  rw [if_neg hh]
structure CrP (s:GState) (e:GEvent) (x:Nat × GState):Prop where
 ok:x.2.ok
 lt:∀ y∈x.2.objects,y.id < x.2.nextId
 le:x.1≤e.amount.toNat
 eq:mkM x.2 e (e.amount.toNat - x.1)=mkM s e e.amount.toNat
 bf:x.2.battlefield.length+(e.amount.toNat - x.1)≤2000000
 id:0≤x.2.nextId∧x.2.nextId+((e.amount.toNat - x.1:Nat):Int)≤1000000
theorem CrP.start {s:GState} {e:GEvent} (h:s.ok) (hlt:∀ y∈s.objects,y.id < s.nextId) (hb:s.battlefield.length+e.amount.toNat≤2000000) (hn:0≤s.nextId∧s.nextId+(e.amount.toNat:Int)≤1000000):CrP s e (0,s):=⟨h,hlt,Nat.zero_le _,rfl,hb,hn⟩
theorem CrP.step {s:GState} {e:GEvent} {k:Nat} {S:GState} (H:CrP s e (k,S)) (hk:k < e.amount.toNat) (hl:(S.objects.length:Int) < 2048):CrP s e (k+1,arrM (makeM S e.card e.player).1 (makeM S e.card e.player).2 e):=by
 obtain ⟨h1,h2,h3,h4,h5,h6,h7⟩:=H
 simp only at h1 h2 h3 h4 h5 h6 h7
 have hm:=make_eq e.card e.player h2
 rw [show e.amount.toNat - k=(e.amount.toNat - (k+1))+1 by omega] at h4
 have h4':mkM (arrM (makeM S e.card e.player).1 (makeM S e.card e.player).2 e) e (e.amount.toNat - (k+1))=mkM s e e.amount.toNat:=by
  rw [← h4]
  show _=if (S.objects.length:Int) < 2048 then _ else S
  rw [if_pos hl]
 rw [hm] at h4' ⊢
 obtain ⟨l,e1,e2,e3⟩:=arr_form ({ S with objects:=S.objects++[{ newM S.nextId e.card e.player 0 S.nextStamp with token:=true,sick:=true }],battlefield:=S.battlefield++[S.nextId],nextId:=IntKind.i64.wrap (S.nextId+1),nextStamp:=IntKind.i64.wrap (S.nextStamp+1) }) S.nextId e
 simp only at h4' ⊢
 have hw:IntKind.i64.wrap (S.nextId+1)=S.nextId+1:=by rw [IntKind.wrap_i64];omega
 rw [e1] at h4' ⊢
 simp only [List.length_append,List.length_singleton,hw] at e2 e3 h4' ⊢
 obtain ⟨g1,g2,g3,g4,g5,g6⟩:=h1
 refine ⟨⟨g1,g2,?_,fun y _=>obj_ok y,?_,g6⟩,fun y hy=>?_,hk,h4',?_,?_⟩
 ·show l.length*128≤limB
  rw [e2]
  unfold limB
  omega
 ·show (S.battlefield++[S.nextId]).length*8≤limB
  rw [List.length_append,List.length_singleton]
  unfold limB
  omega
 ·obtain ⟨x,hx,hxy⟩:=e3 y hy
  show y.id < S.nextId+1
  rw [hxy]
  rcases List.mem_append.1 hx with hx|hx
  ·have:=h2 x hx
   omega
  ·rw [List.mem_singleton.1 hx]
   show S.nextId < _
   omega
 ·show (S.battlefield++[S.nextId]).length+(e.amount.toNat - (k+1))≤2000000
  rw [List.length_append,List.length_singleton]
  omega
 ·show 0≤S.nextId+1∧S.nextId+1+_≤_
  omega
theorem CrP.okm {s:GState} {e:GEvent} {k:Nat} {S:GState} (H:CrP s e (k,S)) (_hk:k < e.amount.toNat) (hl:(S.objects.length:Int) < 2048):(makeM S e.card e.player).1.ok:=by
 obtain ⟨h1,h2,_,_,h5,_⟩:=H
 simp only at h1 h2 h5
 rw [make_eq e.card e.player h2]
 obtain ⟨g1,g2,g3,g4,g5,g6⟩:=h1
 have hx:∀ o:GObject,(S.objects++[o]).length*128≤limB:=fun o=>by
  rw [List.length_append,List.length_singleton]
  unfold limB
  omega
 have hy:(S.battlefield++[S.nextId]).length*8≤limB:=by
  rw [List.length_append,List.length_singleton]
  unfold limB
  omega
 exact ⟨g1,g2,hx _,fun y _=>obj_ok y,hy,g6⟩
theorem CrP.fin {s:GState} {e:GEvent} {k:Nat} {S:GState} (H:CrP s e (k,S)) (h:¬ (k:Int) < e.amount∨¬ (S.objects.length:Int) < 2048):mkM s e e.amount.toNat=S:=by
 rw [← H.eq]
 simp only
 rcases h with h|h
 ·rw [show e.amount.toNat - k=0 by omega]
  rfl
 ·cases e.amount.toNat - k with
  | zero=>rfl
  | succ n=>
   show (if (S.objects.length:Int) < 2048 then _ else S)=S
   rw [if_neg h]
theorem CrP.made {s:GState} {e:GEvent} {k:Nat} {S:GState} (H:CrP s e (k,S)) (hk:k < e.amount.toNat) (hl:(S.objects.length:Int) < 2048):∃ (r:GState) (id:Int) (j:Nat) (hj:j < r.objects.length),makeM S e.card e.player=(r,id)∧r.objects.length*128≤limB∧r.objects[j].id=id∧(∀ i (h:i < r.objects.length),i < j→r.objects[i].id≠id)∧CrP s e (k+1,{ r with objects:=r.objects.set j (entM e r.objects[j]) }):=by
 have hs:=H.step hk hl
 have hm:=make_eq e.card e.player H.lt
 simp only at hm
 rw [hm] at hs
 have hh:hasM (S.objects++[{ newM S.nextId e.card e.player 0 S.nextStamp with token:=true,sick:=true }]) S.nextId=true:=hasM_iff.2 ⟨_,List.mem_append_right _ (List.mem_singleton.2 rfl),rfl⟩
 have hl2:(S.objects++[{ newM S.nextId e.card e.player 0 S.nextStamp with token:=true,sick:=true }]).length*128≤limB:=by
  rw [List.length_append,List.length_singleton]
  unfold limB
  omega
 obtain ⟨j,hj,h1,h2,h3⟩:=has_idx hh
 refine ⟨_,_,j,hj,hm,hl2,h3,first_no h1,?_⟩
 rw [arr_set (t:={ S with objects:=S.objects++[{ newM S.nextId e.card e.player 0 S.nextStamp with token:=true,sick:=true }],battlefield:=S.battlefield++[S.nextId],nextId:=IntKind.i64.wrap (S.nextId+1),nextStamp:=IntKind.i64.wrap (S.nextStamp+1) }) e hj h1 h2 h3 hh] at hs
 exact hs
theorem actcreate_ct (s:GState) (e:GEvent) (h:s.ok) (hlt:∀ y∈s.objects,y.id < s.nextId) (hb:s.battlefield.length+e.amount.toNat≤2000000) (hn:0≤s.nextId∧s.nextId+(e.amount.toNat:Int)≤1000000):Ct Tryz.prog 24 [.agg (s.enc.map .t),.agg (e.enc.map .t)] (.agg ((mkM s e e.amount.toNat).enc.map .t)) [] false:=by
 refine ct_of Tryz.func24 rfl (enters_of Tryz.func24 (by kernel_rfl) rfl) tabOk (by kernel_rfl) rfl rfl rfl rfl fun w0 O _=>Tp.run [2,7] ?_
 refine Tp.loop (fun x:Nat × GState=>⟨[(2,.ptr 0 0),(3,.ptr 128 0),(4,.ptr 256 0),(5,AV.i x.1)],[(0,x.2.enc.map .t),(128,e.enc.map .t),(256,List.replicate 19 .bot)],[],10000⟩) (CrP s e) (fun x=>e.amount.toNat - x.1) (0,s) ?_ (CrP.start h hlt hb hn) ?_
 ·refine wk_of [] rfl rfl ?_ ?_ ?_
  all_goals repeat' first|refine Ai ?_ ?_|exact rfl|exact trivial|exact Ei _ rfl|refine lN ?_|refine bS ?_|fail
 rintro ⟨k,S⟩ hk
 refine Tp.run [3,4,5,6,7] ?_
 have hfin:=fun hh=>(hk.fin hh)
 have hmk:=makeP_ct S e.card e.player hk.ok hk.lt
 refine cS (fun hc=>?_) (fun hc=>?_)
 ·refine cS (fun hl=>?_) (fun hl=>?_)
  ·have hl:(S.objects.length:Int) < 2048:=by
    have:=of_decide_eq_true hl
    rwa [Lm] at this
   have hc:(k:Int) < e.amount:=of_decide_eq_true hc
   obtain ⟨r,id,j,hj,e1,hrl,h3,hno,hk2⟩:=hk.made (by omega) hl
   rw [e1] at hmk
   clear hfin e1
   have hkl':k+1≤e.amount.toNat:=hk2.le
   have hkl:IntKind.i64.wrap ((k:Int)+1)=((k+1:Nat):Int):=wrap_succ k (by omega)
   refine Tp.run [] ?_
   refine cI hmk ⟨fL S.enc,rfl,rfl,trivial⟩ (.inr rfl) ?_
   refine Tp.run [] ?_
   refine cM [12432] [(11920,0)] (find_ctm r id j hrl hj h3 hno) ?_ ?_ ?_
   ·repeat' first|refine Ai ?_ ?_|exact rfl|exact trivial|exact Ei _ rfl|refine lN ?_|refine bS ?_|fail
   ·exact rfl
   refine cM [] [(11920,0)] (enter_ctm r.objects j hj e) ?_ ?_ ?_
   ·repeat' first|refine Ai ?_ ?_|exact rfl|exact trivial|exact Ei _ rfl|refine lN ?_|refine bS ?_|fail
   ·exact rfl
   refine Tp.frz [] (Tp.run [] ?_)
   refine Tp.run [] ?_
   refine Ei (k+1,{ r with objects:=r.objects.set j (entM e r.objects[j]) }) (Ai hk2 (Ai (show e.amount.toNat - (k+1) < e.amount.toNat - k by omega) ?_))
   refine wk_of [] rfl rfl ?_ ?_ ?_
   ·repeat' first|refine Ai ?_ ?_|exact rfl|exact trivial|exact Ei _ rfl|refine lN ?_|refine bS ?_|fail
    exact congrArg iv hkl
   all_goals repeat' first|refine Ai ?_ ?_|exact rfl|exact trivial|exact Ei _ rfl|refine lN ?_|refine bS ?_|fail
  ·have hl:¬ (S.objects.length:Int) < 2048:=by
    have:=of_decide_eq_false hl
    rwa [Lm] at this
   rw [hfin (.inr hl)]
   refine Tp.run [] ?_
   refine Ei [] (Ai rfl (Ai ?_ ?_))
   all_goals repeat' first|refine Ai ?_ ?_|exact rfl|exact trivial|exact Ei _ rfl|refine lN ?_|refine bS ?_|fail
 ·rw [hfin (.inl (of_decide_eq_false hc))]
  refine Tp.run [] ?_
  refine Ei [] (Ai rfl (Ai ?_ ?_))
  all_goals repeat' first|refine Ai ?_ ?_|exact rfl|exact trivial|exact Ei _ rfl|refine lN ?_|refine bS ?_|fail
theorem actdraw_ct (s:GState) (p:Nat) (id:Int) (l:List Int) (h:s.ok) (H:MvH s) (hp:p < s.players.length) (hl:s.players[p].library=id :: l) (hh:hasM s.objects id=true):Ct Tryz.prog 25 [.agg (s.enc.map .t),.c (.t (iv p))] (.agg ((drawM s p).enc.map .t)) [] false:=by
 have hm:=moveP_ct s id 1 p false h H hh (by decide)
 have e:drawM s p=(moveM s id 1 p false).1:=by
  unfold drawM
  rw [Int.toNat_natCast,List.getElem?_eq_getElem hp]
  simp only [hl]
 rw [e]
 have hq:(s.players.map GPlayer.enc)[p]? = some (({ s.players[p] with library:=id :: l }:GPlayer).enc):=by
  rw [map_get _ _ p hp,← hl]
 generalize moveM s id 1 p false=r at hm
 refine ct_of Tryz.func25 rfl (enters_of Tryz.func25 (by kernel_rfl) rfl) tabOk (by kernel_rfl) rfl rfl rfl rfl fun w0 O _=>Tp.run [2,3,5] ?_
 refine Ei p (Ei _ (Ai rfl (Ai hq ?_)))
 refine Tp.run [3,5] ?_
 refine cS (fun hc=>?_) (fun hc=>?_)
 ·refine Tp.run [4] ?_
  refine Ei 0 (Ei [iv id] (Ai rfl (Ai rfl ?_)))
  refine cI hm ⟨fL s.enc,rfl,rfl,rfl,rfl,trivial⟩ (.inr rfl) ?_
  refine Ei [] (Ai rfl (Ai ?_ ?_))
  all_goals repeat' first|refine Ai ?_ ?_|exact rfl|exact trivial|exact Ei _ rfl|refine lN ?_|refine bS ?_|fail
 ·have:=of_decide_eq_false hc
  simp at this
theorem actdraw_ctm (s:GState) (p:Nat) (hp:p < s.players.length) (hl:s.players[p].library=[]):CtM Tryz.prog 25 [.agg ((s.enc.map .t).set 0 (.row 0 0)),.c (.t (iv p))] [] [rowPq s.players] (.agg ((s.enc.map .t).set 0 (.row 0 0))) [] [rowPq (s.players.set p { s.players[p] with failed:=true })] []:=by
 have hpl:p < (s.players.map GPlayer.enc).length:=by rw [Lm];exact hp
 have hq:(s.players.map GPlayer.enc)[p]? = some (({ s.players[p] with library:=[] }:GPlayer).enc):=by
  rw [map_get _ _ p hp,← hl]
 refine ctm_of 1 Tryz.func25 rfl (enters_of Tryz.func25 (by kernel_rfl) rfl) tabOk (by kernel_rfl) rfl rfl rfl rfl rfl fun w0 O _=>Tp.run [2,3,5,6] ?_
 refine Ei p (Ai rfl (Ai hpl ?_))
 refine Ei _ (Ei _ (Ai hq (Ai rfl ?_)))
 refine Tp.run [3,5,6] ?_
 refine Tp.run [] ?_
 refine Ei p (Ai rfl (Ai hpl ?_))
 refine Ei _ (Ai (map_get _ _ p hp) (Ai (Nb rfl) ?_))
 refine Tp.run [] ?_
 refine Ei [(0,0)] (Ai (Ai rfl (Ai ?_ (Ai ?_ ?_))) ?_)
 ·repeat' first|refine Ai ?_ ?_|exact rfl|exact trivial|exact Ei _ rfl|refine lN ?_|refine bS ?_|fail
  exact pq_set s.players p _ _ rfl
 all_goals repeat' first|refine Ai ?_ ?_|exact rfl|exact trivial|exact Ei _ rfl|refine lN ?_|refine bS ?_|fail
end Go.Proofs.YtmloamomcbmfhaaGreat
end
