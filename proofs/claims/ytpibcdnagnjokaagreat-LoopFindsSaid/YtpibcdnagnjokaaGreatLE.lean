/- Parts of the proof, joined: Chapter 50, the program: ranks and stamps as maps; printed by gen_b.py; Chapter 50, the program: stamps as a map; The program's zones, on trees: Copy; The program's zones: Copy, with the lists that normal forms change as rows; The library's stable sort at objects, on rows of one's own: swapping, rotating; The library's stable sort at objects, on rows of one's own: insertion in a block; The library's stable sort at objects, on rows of one's own: merging in place; printed by gen_f.py; The library's stable sort at objects, on rows of one's own; printed by gen_g.py; Chapter 50, the program: Normal; printed by gen_e.py; Lists that are equal, element by element. No program in sight; Equality of states by the reference, exact; printed by gen_n.py; Equality of states by the program, exact; printed by gen_o.py; Same of program and reference: equality of normal forms; Valid states, as facts. No program in sight; Chapter 50: fits of the laws, and what it gives; printed by gen_w.py. -/
import Derived.Test.YtpibcdnagnjokaaGreatLD
set_option maxRecDepth 100000
set_option maxHeartbeats 4000000
section
namespace Go.Proofs.YtpibcdnagnjokaaGreat
open Go Cg Go.RowKit Go.Sort
abbrev mpRow (m:List (Int × Int)):Row:=⟨58,0,0,mpX m,some mpD⟩
theorem put_tag {q:List Int} {x:Int} (h:mpGet (tagI 1 q) x=none) (hq:(q.length+1)*8≤limB):mpPut (tagI 1 q) x (IntKind.i64.wrap (((tagI 1 q).length:Int)+1))=tagI 1 (q++[x]):=by
 rw [mpPut_new h,tagI_snoc,tagI_len]
 have:IntKind.i64.wrap ((q.length:Int)+1)=1+(q.length:Int):=by
  unfold limB at hq
  rw [IntKind.wrap_i64]
  omega
 rw [this]
theorem add_ctm (o l:List Int) (hl:l.length*8≤limB) (ho:(o.length+l.length)*8≤limB):CtM Tryz.prog 75 [.c (.t (.sl 1 (l.map eI))),.ptr 0 0] [[.row 0 0]] [mpRow (tagI 1 o)] (.tup []) [[.row 0 0]] [mpRow (tagI 1 (onceM o l))] []:=by
 refine ctm_of 1 Tryz.func75 rfl (enters_of Tryz.func75 (by kernel_rfl) rfl) tabOk (by kernel_rfl) rfl rfl rfl rfl rfl fun w0 O _=>Tp.run [] ?_
 refine Tp.loopL (fun x:Nat × List Int=>⟨[(1,.ptr 0 0),(7,.c (.t (.sl 1 (l.map eI)))),(8,AV.i (l.map eI).length),(9,AV.i x.1)],[(0,[.row 0 0])],[(0,mpRow (tagI 1 x.2))],10000⟩) (fun x=>x.1≤l.length∧x.2.length≤o.length+x.1∧onceM x.2 (l.drop x.1)=onceM o l) (fun x=>l.length - x.1) (0,o) ?_ ⟨Nat.zero_le _,Nat.le_refl _,rfl⟩ ?_
 ·refine wkl_of (n1:=1) rfl rfl ?_ ?_ ?_
  all_goals repeat' first|refine Ai ?_ ?_|exact rfl|exact trivial|exact Ei _ rfl|refine lN ?_|refine bS ?_|fail
 rintro ⟨k,q⟩ ⟨hk,hq,he⟩
 simp only at hk hq he
 refine Tp.run [2,5,6] ?_
 refine cS (fun h=>?_) (fun h=>?_)
 ·have hlt:k < l.length:=len_lt h
  have ho2:(q.length+1)*8≤limB:=by unfold limB at ho ⊢;omega
  rw [List.drop_eq_getElem_cons hlt,onceM] at he
  refine Tp.run [] ?_
  refine Ei k (Ei (eI l[k]) (Ai rfl (Ai (map_get _ _ k hlt) ?_)))
  refine Ei (tagI 1 q) (Ai rfl ?_)
  have hg:=mpGet_tag q 1 l[k]
  refine cond_n (cS (fun h2=>?_) (fun h2=>?_))
  ·have h2:(mpGet (tagI 1 q) l[k]).isSome=true:=h2
   have h3:hasI q l[k]=true:=by
    cases e:hasI q l[k] with
    | true=>rfl
    | false=>rw [hg,e,if_neg (by decide)] at h2;cases h2
   rw [if_pos h3] at he
   refine Tp.run [] ?_
   refine Ei (k+1,q) (Ai ⟨show k+1≤_ by omega,show q.length≤o.length+(k+1) by omega,he⟩ (Ai (show l.length - (k+1) < l.length - k by omega) ?_))
   refine wkl_of (n1:=1) rfl rfl ?_ ?_ ?_
   ·repeat' first|refine Ai ?_ ?_|exact rfl|exact trivial|exact Ei _ rfl|refine lN ?_|refine bS ?_|fail
    exact congrArg (fun n=>AV.c (.t n)) (succ_eq k hlt 8 (by decide) hl)
   all_goals repeat' first|refine Ai ?_ ?_|exact rfl|exact trivial|exact Ei _ rfl|refine lN ?_|refine bS ?_|fail
  ·have h2:(mpGet (tagI 1 q) l[k]).isSome=false:=h2
   have h3:hasI q l[k]=false:=by
    cases e:hasI q l[k] with
    | false=>rfl
    | true=>rw [hg,e,if_pos rfl] at h2;cases h2
   have h4:mpGet (tagI 1 q) l[k]=none:=by
    cases e:mpGet (tagI 1 q) l[k] with
    | none=>rfl
    | some v=>rw [e] at h2;cases h2
   rw [h3,if_neg (by decide)] at he
   refine Tp.run [] ?_
   refine Ei (tagI 1 q) (Ai rfl ?_)
   refine Ei (tagI 1 q) (Ai rfl ?_)
   refine Tp.run [] ?_
   refine Ei (k+1,q++[l[k]]) (Ai ⟨show k+1≤_ by omega,by simp only [List.length_append,List.length_singleton];omega,he⟩ (Ai (show l.length - (k+1) < l.length - k by omega) ?_))
   refine wkl_of (n1:=1) rfl rfl ?_ ?_ ?_
   ·repeat' first|refine Ai ?_ ?_|exact rfl|exact trivial|exact Ei _ rfl|refine lN ?_|refine bS ?_|fail
    exact congrArg (fun n=>AV.c (.t n)) (succ_eq k hlt 8 (by decide) hl)
   ·repeat' first|refine Ai ?_ ?_|exact rfl|exact trivial|exact Ei _ rfl|refine lN ?_|refine bS ?_|fail
   ·repeat' first|refine Ai ?_ ?_|exact rfl|exact trivial|exact Ei _ rfl|refine lN ?_|refine bS ?_|fail
    exact congrArg (fun m=>some (mpRow m)) (put_tag h4 ho2)
 ·have hk0:k=l.length:=len_ge h hk
  rw [hk0,List.drop_length,onceM] at he
  refine Ei [(0,0)] (Ai (Ai rfl (Ai ?_ (Ai ?_ ?_))) ?_)
  ·repeat' first|refine Ai ?_ ?_|exact rfl|exact trivial|exact Ei _ rfl|refine lN ?_|refine bS ?_|fail
   all_goals exact congrArg (fun o=>mpX (tagI 1 o)) he
  all_goals repeat' first|refine Ai ?_ ?_|exact rfl|exact trivial|exact Ei _ rfl|refine lN ?_|refine bS ?_|fail
theorem add2_ctm (o l:List Int) (hl:l.length*8≤limB) (ho:(o.length+l.length)*8≤limB):CtM Tryz.prog 75 [.c (.row 1 0),.ptr 0 0] [[.row 0 0]] [mpRow (tagI 1 o),⟨3,1,0,l.map eI,none⟩] (.tup []) [[.row 0 0]] [mpRow (tagI 1 (onceM o l)),⟨3,1,0,l.map eI,none⟩] []:=by
 refine ctm_of 2 Tryz.func75 rfl (enters_of Tryz.func75 (by kernel_rfl) rfl) tabOk (by kernel_rfl) rfl rfl rfl rfl rfl fun w0 O _=>Tp.run [] ?_
 refine Tp.loopL (fun x:Nat × List Int=>⟨[(1,.ptr 0 0),(7,.c (.row 1 0)),(8,AV.i (l.map eI).length),(9,AV.i x.1)],[(0,[.row 0 0])],[(0,mpRow (tagI 1 x.2)),(1,⟨3,1,0,l.map eI,none⟩)],10000⟩) (fun x=>x.1≤l.length∧x.2.length≤o.length+x.1∧onceM x.2 (l.drop x.1)=onceM o l) (fun x=>l.length - x.1) (0,o) ?_ ⟨Nat.zero_le _,Nat.le_refl _,rfl⟩ ?_
 ·refine wkl_of (n1:=2) rfl rfl ?_ ?_ ?_
  all_goals repeat' first|refine Ai ?_ ?_|exact rfl|exact trivial|exact Ei _ rfl|refine lN ?_|refine bS ?_|fail
 rintro ⟨k,q⟩ ⟨hk,hq,he⟩
 simp only at hk hq he
 refine Tp.run [2,5,6] ?_
 refine cS (fun h=>?_) (fun h=>?_)
 ·have hlt:k < l.length:=len_lt h
  have ho2:(q.length+1)*8≤limB:=by unfold limB at ho ⊢;omega
  rw [List.drop_eq_getElem_cons hlt,onceM] at he
  refine Tp.run [] ?_
  refine Ei k (Ai rfl (Ai (by rw [Lm];exact hlt) ?_))
  refine Ei (eI l[k]) (Ei _ (Ai (map_get _ _ k hlt) (Ai rfl ?_)))
  refine Ei (tagI 1 q) (Ai rfl ?_)
  have hg:=mpGet_tag q 1 l[k]
  refine cond_n (cS (fun h2=>?_) (fun h2=>?_))
  ·have h2:(mpGet (tagI 1 q) l[k]).isSome=true:=h2
   have h3:hasI q l[k]=true:=by
    cases e:hasI q l[k] with
    | true=>rfl
    | false=>rw [hg,e,if_neg (by decide)] at h2;cases h2
   rw [if_pos h3] at he
   refine Tp.run [] ?_
   refine Ei (k+1,q) (Ai ⟨show k+1≤_ by omega,show q.length≤o.length+(k+1) by omega,he⟩ (Ai (show l.length - (k+1) < l.length - k by omega) ?_))
   refine wkl_of (n1:=2) rfl rfl ?_ ?_ ?_
   ·repeat' first|refine Ai ?_ ?_|exact rfl|exact trivial|exact Ei _ rfl|refine lN ?_|refine bS ?_|fail
    exact congrArg (fun n=>AV.c (.t n)) (succ_eq k hlt 8 (by decide) hl)
   all_goals repeat' first|refine Ai ?_ ?_|exact rfl|exact trivial|exact Ei _ rfl|refine lN ?_|refine bS ?_|fail
  ·have h2:(mpGet (tagI 1 q) l[k]).isSome=false:=h2
   have h3:hasI q l[k]=false:=by
    cases e:hasI q l[k] with
    | false=>rfl
    | true=>rw [hg,e,if_pos rfl] at h2;cases h2
   have h4:mpGet (tagI 1 q) l[k]=none:=by
    cases e:mpGet (tagI 1 q) l[k] with
    | none=>rfl
    | some v=>rw [e] at h2;cases h2
   rw [h3,if_neg (by decide)] at he
   refine Tp.run [] ?_
   refine Ei (tagI 1 q) (Ai rfl ?_)
   refine Ei (tagI 1 q) (Ai rfl ?_)
   refine Tp.run [] ?_
   refine Ei (k+1,q++[l[k]]) (Ai ⟨show k+1≤_ by omega,by simp only [List.length_append,List.length_singleton];omega,he⟩ (Ai (show l.length - (k+1) < l.length - k by omega) ?_))
   refine wkl_of (n1:=2) rfl rfl ?_ ?_ ?_
   ·repeat' first|refine Ai ?_ ?_|exact rfl|exact trivial|exact Ei _ rfl|refine lN ?_|refine bS ?_|fail
    exact congrArg (fun n=>AV.c (.t n)) (succ_eq k hlt 8 (by decide) hl)
   ·repeat' first|refine Ai ?_ ?_|exact rfl|exact trivial|exact Ei _ rfl|refine lN ?_|refine bS ?_|fail
   ·repeat' first|refine Ai ?_ ?_|exact rfl|exact trivial|exact Ei _ rfl|refine lN ?_|refine bS ?_|fail
    exact congrArg (fun m=>some (mpRow m)) (put_tag h4 ho2)
 ·have hk0:k=l.length:=len_ge h hk
  rw [hk0,List.drop_length,onceM] at he
  refine Ei [(0,0),(1,1)] (Ai (Ai rfl (Ai ?_ (Ai ?_ ?_))) ?_)
  ·repeat' first|refine Ai ?_ ?_|exact rfl|exact trivial|exact Ei _ rfl|refine lN ?_|refine bS ?_|fail
   all_goals exact congrArg (fun o=>mpX (tagI 1 o)) he
  all_goals repeat' first|refine Ai ?_ ?_|exact rfl|exact trivial|exact Ei _ rfl|refine lN ?_|refine bS ?_|fail
theorem ct_freeM {P:Program} {f:FuncId} {ars:List AV} {ty:Nat} {m:List (Int × Int)} {b:Bool} (h:Ct P f ars (.c (.row 0 0)) [⟨ty,0,0,mpX m,some mpD⟩] b):Ct P f ars (.c (.row 0 0)) [⟨ty,0,0,mpX m,some mpD⟩] true:=by
 refine ⟨h.ent,h.few,h.shut,h.plain,h.nob,h.rid,fun w vs E0 ha=>(h.run w vs E0 ha).mono ?_⟩
 rintro e w' ⟨v,rfl,hbel,E,hr,hrow,hcold⟩
 refine ⟨v,rfl,hbel,⟨fun b=>if b < w.heap.size then .non else E.rl b,E.bk,E.vl⟩,hr,fun j R hj=>?_,fun b hlt hc=>?_⟩
 ·cases j with
  | succ j=>simp at hj
  | zero=>
   injection hj with hj
   subst hj
   rcases (hrow 0 _ rfl).mp rfl with ⟨_,h0⟩|⟨g,es,clock,h1,h2,h3,h4,h5⟩
   ·cases h0
   ·refine RM.rr rfl rfl (.inr ⟨g,es,clock,h1,h2,h3,h4,?_⟩)
    show (if g < w.heap.size then BRole.non else E.rl g)=_
    rw [if_neg (Nat.not_lt.2 h2)]
    exact h5
 ·have hc:(if b < w.heap.size then BRole.non else E.rl b)=.cold:=hc
  rw [if_pos hlt] at hc
  cases hc
theorem ranks_ct (s:GState) (hs:SmL s) (hok:s.ok):Ct Tryz.prog 27 [.agg (s.enc.map .t)] (.c (.row 0 0)) [mpRow (tagI 1 (idsM s))] true:=by
 refine ct_freeM (b:=false) ?_
 obtain ⟨h1,h2,h3,h4,h5,h6,h7⟩:=hs
 have hp:=GState.ok_players hok
 have hst:=GState.ok_stack hok
 refine ct_of Tryz.func27 rfl (enters_of Tryz.func27 (by kernel_rfl) rfl) tabOk (by kernel_rfl) rfl rfl rfl rfl fun w0 O _=>Tp.run [12,17] ?_
 have l1:=onceM_len s.battlefield []
 simp only [List.length_nil] at l1
 refine cM [384] [(256,0)] (add_ctm [] s.battlefield (lim8 (by omega)) (lim8 (by simp only [List.length_nil];omega))) ?_ ?_ ?_
 ·repeat' first|refine Ai ?_ ?_|exact rfl|exact trivial|exact Ei _ rfl|refine lN ?_|refine bS ?_|fail
 ·repeat' first|refine Ai ?_ ?_|exact rfl|exact trivial|exact Ei _ rfl|refine lN ?_|refine bS ?_|fail
 have l2:=onceM_len s.exile (onceM [] s.battlefield)
 refine cM [384] [(256,0)] (add_ctm (onceM [] s.battlefield) s.exile (lim8 (by omega)) (lim8 (by omega))) ?_ ?_ ?_
 ·repeat' first|refine Ai ?_ ?_|exact rfl|exact trivial|exact Ei _ rfl|refine lN ?_|refine bS ?_|fail
 ·repeat' first|refine Ai ?_ ?_|exact rfl|exact trivial|exact Ei _ rfl|refine lN ?_|refine bS ?_|fail
 have hids:idsM s=s.stack.foldl stIds (s.players.foldl plIds (onceM (onceM [] s.battlefield) s.exile)):=rfl
 generalize onceM (onceM [] s.battlefield) s.exile=I at l2 hids
 refine Tp.loop (fun x:Nat × List Int=>⟨[(1,.ptr 0 0),(3,.ptr 384 0),(4,.fn 75 [(384,0)]),(20,.c (.t (.sl 14 (s.players.map GPlayer.enc)))),(21,AV.i (s.players.map GPlayer.enc).length),(22,AV.i x.1)],[(0,s.enc.map .t),(384,[.row 9000 0])],[(9000,mpRow (tagI 1 x.2))],10000⟩) (fun x=>x.1≤s.players.length∧x.2.length≤600+900*x.1∧(s.players.drop x.1).foldl plIds x.2=s.players.foldl plIds I) (fun x=>s.players.length - x.1) (0,I) ?_ ⟨Nat.zero_le _,by simp only;omega,rfl⟩ ?_
 ·refine wk_of [(9000,256)] rfl rfl ?_ ?_ ?_
  all_goals repeat' first|refine Ai ?_ ?_|exact rfl|exact trivial|exact Ei _ rfl|refine lN ?_|refine bS ?_|fail
 rintro ⟨k,q⟩ ⟨hk,hq,he⟩
 simp only at hk hq he
 refine Tp.run [7,12,17] ?_
 refine cS (fun h=>?_) (fun h=>?_)
 ·have hlt:k < s.players.length:=len_lt h
  obtain ⟨g1,g2,g3⟩:=h5 _ (List.getElem_mem hlt)
  rw [List.drop_eq_getElem_cons hlt,List.foldl_cons] at he
  have m1:=onceM_len s.players[k].library q
  have m2:=onceM_len s.players[k].hand (onceM q s.players[k].library)
  have m3:=onceM_len s.players[k].graveyard (onceM (onceM q s.players[k].library) s.players[k].hand)
  refine Tp.run [] ?_
  refine Ei k (Ei (s.players[k].enc) (Ai rfl (Ai (map_get _ _ k hlt) ?_)))
  refine cM [384] [(9000,0)] (add_ctm (q) s.players[k].library (lim8 (by omega)) (lim8 (by omega))) ?_ ?_ ?_
  ·repeat' first|refine Ai ?_ ?_|exact rfl|exact trivial|exact Ei _ rfl|refine lN ?_|refine bS ?_|fail
  ·repeat' first|refine Ai ?_ ?_|exact rfl|exact trivial|exact Ei _ rfl|refine lN ?_|refine bS ?_|fail
  refine cM [384] [(9000,0)] (add_ctm (onceM q s.players[k].library) s.players[k].hand (lim8 (by omega)) (lim8 (by omega))) ?_ ?_ ?_
  ·repeat' first|refine Ai ?_ ?_|exact rfl|exact trivial|exact Ei _ rfl|refine lN ?_|refine bS ?_|fail
  ·repeat' first|refine Ai ?_ ?_|exact rfl|exact trivial|exact Ei _ rfl|refine lN ?_|refine bS ?_|fail
  refine cM [384] [(9000,0)] (add_ctm (onceM (onceM q s.players[k].library) s.players[k].hand) s.players[k].graveyard (lim8 (by omega)) (lim8 (by omega))) ?_ ?_ ?_
  ·repeat' first|refine Ai ?_ ?_|exact rfl|exact trivial|exact Ei _ rfl|refine lN ?_|refine bS ?_|fail
  ·repeat' first|refine Ai ?_ ?_|exact rfl|exact trivial|exact Ei _ rfl|refine lN ?_|refine bS ?_|fail
  refine Ei (k+1,plIds q s.players[k]) (Ai ⟨show k+1≤_ by omega,show (onceM (onceM (onceM q s.players[k].library) s.players[k].hand) s.players[k].graveyard).length≤600+900*(k+1) by omega,he⟩ (Ai (show s.players.length - (k+1) < s.players.length - k by omega) ?_))
  refine wk_of [(9000,9000)] rfl rfl ?_ ?_ ?_
  ·repeat' first|refine Ai ?_ ?_|exact rfl|exact trivial|exact Ei _ rfl|refine lN ?_|refine bS ?_|fail
   exact succ_eq k hlt 152 (by decide) hp
  all_goals repeat' first|refine Ai ?_ ?_|exact rfl|exact trivial|exact Ei _ rfl|refine lN ?_|refine bS ?_|fail
 have hk0:k=s.players.length:=len_ge h hk
 rw [hk0,List.drop_length,List.foldl_nil] at he
 rw [← he] at hids
 clear he h l1 l2 hk0
 refine Tp.run [17] ?_
 refine Tp.loop (fun x:Nat × List Int=>⟨[(1,.ptr 0 0),(3,.ptr 384 0),(4,.fn 75 [(384,0)]),(40,.c (.t (.sl 94 (s.stack.map GItem.enc)))),(41,AV.i (s.stack.map GItem.enc).length),(42,AV.i x.1)],[(0,s.enc.map .t),(384,[.row 9000 0])],[(9000,mpRow (tagI 1 x.2))],20000⟩) (fun x=>x.1≤s.stack.length∧x.2.length≤9600+x.1∧(s.stack.drop x.1).foldl stIds x.2=s.stack.foldl stIds q) (fun x=>s.stack.length - x.1) (0,q) ?_ ⟨Nat.zero_le _,by simp only;omega,rfl⟩ ?_
 ·refine wk_of [(9000,9000)] rfl rfl ?_ ?_ ?_
  all_goals repeat' first|refine Ai ?_ ?_|exact rfl|exact trivial|exact Ei _ rfl|refine lN ?_|refine bS ?_|fail
 rintro ⟨j,p⟩ ⟨hj,hp2,he⟩
 simp only at hj hp2 he
 refine Tp.run [14,17] ?_
 refine cS (fun h=>?_) (fun h=>?_)
 ·have hlt:j < s.stack.length:=len_lt h
  rw [List.drop_eq_getElem_cons hlt,List.foldl_cons] at he
  have m1:=onceM_len [s.stack[j].id] p
  simp only [List.length_singleton] at m1
  refine Tp.run [] ?_
  refine Ei j (Ei (s.stack[j].enc) (Ai rfl (Ai (map_get _ _ j hlt) ?_)))
  refine cM [384] [(9000,0),(21024,0)] (add2_ctm p [s.stack[j].id] (lim8 (by simp only [List.length_singleton];omega)) (lim8 (by simp only [List.length_singleton];omega))) ?_ ?_ ?_
  ·repeat' first|refine Ai ?_ ?_|exact rfl|exact trivial|exact Ei _ rfl|refine lN ?_|refine bS ?_|fail
  ·repeat' first|refine Ai ?_ ?_|exact rfl|exact trivial|exact Ei _ rfl|refine lN ?_|refine bS ?_|fail
  refine Ei (j+1,stIds p s.stack[j]) (Ai ⟨show j+1≤_ by omega,show (onceM p [s.stack[j].id]).length≤9600+(j+1) by omega,he⟩ (Ai (show s.stack.length - (j+1) < s.stack.length - j by omega) ?_))
  refine wk_of [(9000,9000)] rfl rfl ?_ ?_ ?_
  ·repeat' first|refine Ai ?_ ?_|exact rfl|exact trivial|exact Ei _ rfl|refine lN ?_|refine bS ?_|fail
   exact succ_eq j hlt 824 (by decide) hst
  all_goals repeat' first|refine Ai ?_ ?_|exact rfl|exact trivial|exact Ei _ rfl|refine lN ?_|refine bS ?_|fail
 have hk0:j=s.stack.length:=len_ge h hj
 rw [hk0,List.drop_length,List.foldl_nil] at he
 have hids:idsM s=p:=hids.trans he.symm
 refine Tp.run [] ?_
 refine Ei [(0,9000)] (Ai rfl (Ai ?_ ?_))
 ·repeat' first|refine Ai ?_ ?_|exact rfl|exact trivial|exact Ei _ rfl|refine lN ?_|refine bS ?_|fail
  all_goals exact congrArg (fun o=>mpX (tagI 1 o)) hids.symm
 ·repeat' first|refine Ai ?_ ?_|exact rfl|exact trivial|exact Ei _ rfl|refine lN ?_|refine bS ?_|fail
theorem set_new {S:List Int} (hS:SI ltZ S) {k:Nat} (hk:k < S.length):mpGet (tagI 1 (S.take k)) S[k]=none:=by
 rw [mpGet_tag]
 have:¬ hasI (S.take k) S[k]=true:=fun h=>by
  have h:=(hasI_iff _ _).1 h
  obtain ⟨j,hj,e⟩:=List.mem_iff_getElem.1 h
  rw [List.length_take] at hj
  rw [List.getElem_take] at e
  have:=List.pairwise_iff_getElem.1 hS j k (by omega) hk (by omega)
  rw [e] at this
  simp [ltZ] at this
 rw [if_neg this]
theorem set_put {S:List Int} (hS:SI ltZ S) {k:Nat} (hk:k < S.length) (hn:S.length*8≤limB):mpPut (tagI 1 (S.take k)) S[k] (IntKind.i64.wrap ((k:Int)+1))=tagI 1 (S.take (k+1)):=by
 rw [mpPut_new (set_new hS hk),List.take_succ_eq_append_getElem hk,tagI_snoc,List.length_take]
 have:IntKind.i64.wrap ((k:Int)+1)=1+((min k S.length:Nat):Int):=by
  unfold limB at hn
  rw [IntKind.wrap_i64]
  omega
 rw [this]
theorem stamps_ct (s:GState) (hs:SmL s) (hok:s.ok):Ct Tryz.prog 28 [.agg (s.enc.map .t)] (.c (.row 0 0)) [mpRow (tagI 1 (stampsM s))] true:=by
 refine ct_freeM (b:=false) ?_
 have ho:=GState.ok_objects hok
 have hc:=GState.ok_conts hok
 have n1:=hs.ob
 have n2:=hs.co
 refine ct_of Tryz.func28 rfl (enters_of Tryz.func28 (by kernel_rfl) rfl) tabOk (by kernel_rfl) rfl rfl rfl rfl fun w0 O _=>Tp.run [7,12] ?_
 refine Tp.loop (fun k:Nat=>⟨[(1,.ptr 0 0),(3,.c (.row 9000 0)),(12,.c (.t (.sl 19 (s.objects.map GObject.enc)))),(13,AV.i (s.objects.map GObject.enc).length),(14,AV.i k)],[(0,s.enc.map .t)],[(9000,⟨3,1,0,((s.objects.take k).map fun o=>o.stamp).map eI,none⟩)],10000⟩) (fun k=>k≤s.objects.length) (fun k=>s.objects.length - k) 0 ?_ (Nat.zero_le _) ?_
 ·refine wk_of [] rfl rfl ?_ ?_ ?_
  all_goals repeat' first|refine Ai ?_ ?_|exact rfl|exact trivial|exact Ei _ rfl|refine lN ?_|refine bS ?_|fail
 rintro k hk
 refine Tp.run [4,7,12] ?_
 refine cS (fun h=>?_) (fun h=>?_)
 ·have hlt:=len_lt h
  refine Tp.run [] ?_
  refine Ei k (Ei _ (Ai rfl (Ai (map_get _ _ k hlt) ?_)))
  refine Ai (.inl rfl) (Ai ?_ (Ai ?_ ?_))
  ·rw [Lm,Lm,List.length_take]
   show (min k s.objects.length+1)*8≤_
   unfold limB at ho
   omega
  ·rw [Lm,Lm,List.length_take]
   show min k s.objects.length+1 < _
   unfold limB at ho
   omega
  refine Ei (k+1) (Ai (show k+1≤_ by omega) (Ai (show s.objects.length - (k+1) < s.objects.length - k by omega) ?_))
  refine wk_of [(9000,9000)] rfl rfl ?_ ?_ ?_
  ·repeat' first|refine Ai ?_ ?_|exact rfl|exact trivial|exact Ei _ rfl|refine lN ?_|refine bS ?_|fail
   exact succ_eq k hlt 128 (by decide) ho
  ·repeat' first|refine Ai ?_ ?_|exact rfl|exact trivial|exact Ei _ rfl|refine lN ?_|refine bS ?_|fail
  ·repeat' first|refine Ai ?_ ?_|exact rfl|exact trivial|exact Ei _ rfl|refine lN ?_|refine bS ?_|fail
   rw [stm_step _ _ _ hlt,List.map_append]
   rfl
 have hk0:=len_ge h hk
 subst hk0
 clear h hk
 rw [show (s.objects.take s.objects.length)=s.objects from List.take_length]
 refine Tp.run [12] ?_
 refine Tp.loop (fun k:Nat=>⟨[(3,.c (.row 9000 0)),(25,.c (.t (.sl 6 (s.conts.map GCont.enc)))),(26,AV.i (s.conts.map GCont.enc).length),(27,AV.i k)],[],[(9000,⟨3,1,0,(s.objects.map (fun o=>o.stamp)++(s.conts.take k).map fun c=>c.stamp).map eI,none⟩)],20000⟩) (fun k=>k≤s.conts.length) (fun k=>s.conts.length - k) 0 ?_ (Nat.zero_le _) ?_
 ·refine wk_of [(9000,9000)] rfl rfl ?_ ?_ ?_
  ·repeat' first|refine Ai ?_ ?_|exact rfl|exact trivial|exact Ei _ rfl|refine lN ?_|refine bS ?_|fail
  ·repeat' first|refine Ai ?_ ?_|exact rfl|exact trivial|exact Ei _ rfl|refine lN ?_|refine bS ?_|fail
  ·repeat' first|refine Ai ?_ ?_|exact rfl|exact trivial|exact Ei _ rfl|refine lN ?_|refine bS ?_|fail
   simp
 rintro k hk
 refine Tp.run [9,12] ?_
 refine cS (fun h=>?_) (fun h=>?_)
 ·have hlt:=len_lt h
  refine Tp.run [] ?_
  refine Ei k (Ei _ (Ai rfl (Ai (map_get _ _ k hlt) ?_)))
  refine Ai (.inl rfl) (Ai ?_ (Ai ?_ ?_))
  ·rw [Lm,List.length_append,Lm,Lm,List.length_take]
   show (s.objects.length+min k s.conts.length+1)*8≤_
   omega
  ·rw [Lm,List.length_append,Lm,Lm,List.length_take]
   show s.objects.length+min k s.conts.length+1 < _
   omega
  refine Ei (k+1) (Ai (show k+1≤_ by omega) (Ai (show s.conts.length - (k+1) < s.conts.length - k by omega) ?_))
  refine wk_of [(9000,9000)] rfl rfl ?_ ?_ ?_
  ·repeat' first|refine Ai ?_ ?_|exact rfl|exact trivial|exact Ei _ rfl|refine lN ?_|refine bS ?_|fail
   exact succ_eq k hlt 80 (by decide) hc
  ·repeat' first|refine Ai ?_ ?_|exact rfl|exact trivial|exact Ei _ rfl|refine lN ?_|refine bS ?_|fail
  ·repeat' first|refine Ai ?_ ?_|exact rfl|exact trivial|exact Ei _ rfl|refine lN ?_|refine bS ?_|fail
   rw [stm_step _ _ _ hlt,← List.append_assoc]
   exact (List.map_append (l₂:=[s.conts[k].stamp])).symm
 have hk0:=len_ge h hk
 subst hk0
 clear h hk
 rw [show (s.conts.take s.conts.length)=s.conts from List.take_length]
 refine Tp.run [] ?_
 have hL:(s.objects.map (fun o=>o.stamp)++s.conts.map fun c=>c.stamp).length≤600:=by
  rw [List.length_append,Lm,Lm]
  omega
 have hS:SI ltZ (stampsM s):=insAll_si ltZ_ord _ .nil
 have hSl:(stampsM s).length≤600:=by
  have:=osort_len (s.objects.map (fun o=>o.stamp)++s.conts.map fun c=>c.stamp)
  rw [osort_ins] at this
  exact Nat.le_trans this hL
 have hof:=ofP_ct (s.objects.map (fun o=>o.stamp)++s.conts.map fun c=>c.stamp) (by omega)
 rw [show insAll ltZ [] (s.objects.map (fun o=>o.stamp)++s.conts.map fun c=>c.stamp)=stampsM s from rfl] at hof
 generalize stampsM s=S at hS hSl hof ⊢
 refine cI hof ⟨?_,trivial⟩ (.inl rfl) ?_
 ·repeat' first|refine Ai ?_ ?_|exact rfl|exact trivial|exact Ei _ rfl|refine lN ?_|refine bS ?_|fail
 refine Tp.loop (fun k:Nat=>⟨[(8,.c (.row 9001 0)),(39,.c (.row 9000 0)),(40,AV.i (S.map eI).length),(41,AV.i k)],[],[(9000,⟨3,1,0,S.map eI,none⟩),(9001,mpRow (tagI 1 (S.take k)))],30000⟩) (fun k=>k≤S.length) (fun k=>S.length - k) 0 ?_ (Nat.zero_le _) ?_
 ·refine wk_of [(9000,20512),(9001,20128)] rfl rfl ?_ ?_ ?_
  all_goals repeat' first|refine Ai ?_ ?_|exact rfl|exact trivial|exact Ei _ rfl|refine lN ?_|refine bS ?_|fail
 rintro k hk
 refine Tp.run [15] ?_
 refine cS (fun h=>?_) (fun h=>?_)
 ·have hlt:=len_lt h
  refine Tp.run [] ?_
  refine Ei k (Ai rfl (Ai (by rw [Lm];exact hlt) ?_))
  refine Ei (eI S[k]) (Ei _ (Ai (map_get _ _ k hlt) (Ai rfl ?_)))
  refine Ei (tagI 1 (S.take k)) (Ai rfl ?_)
  refine Ei (k+1) (Ai (show k+1≤_ by omega) (Ai (show S.length - (k+1) < S.length - k by omega) ?_))
  refine wk_of [(9000,9000),(9001,9001)] rfl rfl ?_ ?_ ?_
  ·repeat' first|refine Ai ?_ ?_|exact rfl|exact trivial|exact Ei _ rfl|refine lN ?_|refine bS ?_|fail
   exact succ_eq k hlt 8 (by decide) (lim8 (by omega))
  ·repeat' first|refine Ai ?_ ?_|exact rfl|exact trivial|exact Ei _ rfl|refine lN ?_|refine bS ?_|fail
  ·repeat' first|refine Ai ?_ ?_|exact rfl|exact trivial|exact Ei _ rfl|refine lN ?_|refine bS ?_|fail
   exact congrArg mpX (set_put hS hlt (lim8 (by omega)))
 have hk0:=len_ge h hk
 subst hk0
 rw [show S.take S.length=S from List.take_length]
 refine Ei [(0,9001)] (Ai rfl (Ai ?_ ?_))
 all_goals repeat' first|refine Ai ?_ ?_|exact rfl|exact trivial|exact Ei _ rfl|refine lN ?_|refine bS ?_|fail
def plD:List (Nat × Nat × Nat):=[(11,3,1),(12,3,1),(13,3,1)]
def plR (s:GState):Row:=⟨44,14,0,s.players.map GPlayer.enc,some ⟨plD,s.players.length,[]⟩⟩
theorem set2_same {α:Type} {xs:List α} {i:Nat} {t u:α} (h:xs[i]? = some t):(xs.set i u).set i t=xs:=by
 rw [List.set_set]
 exact set_same h
def stD:List (Nat × Nat × Nat):=[(78,94,2)]
def coD:List (Nat × Nat × Nat):=[(4,3,1)]
def skR (c:Nat) (l:List GItem):Row:=⟨91,94,0,l.map GItem.enc,some ⟨stD,c,[]⟩⟩
def coR (c:Nat) (l:List GCont):Row:=⟨100,6,0,l.map GCont.enc,some ⟨coD,c,[]⟩⟩
theorem set3_same {α:Type} {xs:List α} {i:Nat} {t u v:α} (h:xs[i]? = some t):((xs.set i u).set i v).set i t=xs:=by
 rw [List.set_set]
 exact set2_same h
theorem copyN_ct (s:GState) (h:s.ok):Ct Tryz.prog 26 [.agg (s.enc.map .t)] (.agg ([.row 0 0,.row 1 0,.row 2 0,.row 3 0,.row 4 0,.row 5 0,.row 6 0]++(s.enc.drop 7).map .t)) [plR s,⟨47,19,0,s.objects.map GObject.enc,none⟩,⟨3,1,0,s.battlefield.map eI,none⟩,⟨3,1,0,s.exile.map eI,none⟩,skR s.stack.length s.stack,⟨97,89,0,s.waiting.map GWaiting.enc,none⟩,coR s.conts.length s.conts] false:=by
 obtain ⟨hp,hp2,ho,ho2,hb,hx,hs,hs2,hw,hw2,hc,hc2,hxt⟩:=h
 refine ct_of Tryz.func26 rfl (enters_of Tryz.func26 (by kernel_rfl) rfl) tabOk (by kernel_rfl) rfl rfl rfl rfl fun w0 O _=>Tp.run [7,17,23,30] ?_
 refine cI (clonePlayer_ct _ (map_bound _ _ _ hp)) ⟨rfl,trivial⟩ (.inr rfl) ?_
 refine Tp.deep 512 plD rfl rfl ?_
 refine Tp.loop (fun k:Nat=>⟨[(1,.ptr 0 0),(2,.ptr 128 0),(13,AV.i (s.players.map GPlayer.enc).length),(14,AV.i k)],[(0,(s.enc.map .t).set 0 (.row 9000 0)),(128,List.replicate 19 .bot)],[(9000,⟨44,14,0,s.players.map GPlayer.enc,some ⟨plD,k,[]⟩⟩)],10000⟩) (fun k=>k≤s.players.length) (fun k=>s.players.length - k) 0 ?_ (Nat.zero_le _) ?_
 ·refine wk_of [(9000,512)] rfl rfl ?_ ?_ ?_
  all_goals repeat' first|refine Ai ?_ ?_|exact rfl|exact trivial|exact Ei _ rfl|refine lN ?_|refine bS ?_|fail
 rintro k hk
 refine Tp.run [6,7] ?_
 refine cS (fun h=>?_) (fun h=>?_)
 ·have hlt:=len_lt h
  have hkl:k < (s.players.map GPlayer.enc).length:=by rw [Lm];exact hlt
  refine Ei k (Ai rfl (Ai hkl ?_))
  refine Ei (s.players[k].enc) (Ei _ (Ai (map_get _ _ k hlt) (Ai rfl (Ai (.inr (Nat.le_refl k)) ?_))))
  refine cI (copyPlayer_ct s.players[k] (hp2 _ (List.getElem_mem hlt))) ⟨fL s.players[k].enc,trivial⟩ (.inr rfl) ?_
  refine Ei k (Ai rfl (Ai hkl ?_))
  refine Ei (s.players[k].enc) (Ai (map_get _ _ k hlt) (Ai (Nb rfl) (Ai trivial (Ai (.inr (Nat.le_refl k)) ?_))))
  refine Tp.put 9000 k (k+1) (ts:=s.players[k].enc) rfl rfl (List.getElem?_set_self hkl) rfl (Ai rfl (Ai rfl (Ai rfl trivial))) rfl (.inr (Ai rfl (Ai rfl rfl))) ?_
  refine Tp.run [] ?_
  refine Ei (k+1) (Ai (show k+1≤_ by omega) (Ai (show s.players.length - (k+1) < s.players.length - k by omega) ?_))
  refine wk_of [(9000,9000)] rfl rfl ?_ ?_ ?_
  ·repeat' first|refine Ai ?_ ?_|exact rfl|exact trivial|exact Ei _ rfl|refine lN ?_|refine bS ?_|fail
   exact succ_eq k hlt 152 (by decide) hp
  ·repeat' first|refine Ai ?_ ?_|exact rfl|exact trivial|exact Ei _ rfl|refine lN ?_|refine bS ?_|fail
  ·repeat' first|refine Ai ?_ ?_|exact rfl|exact trivial|exact Ei _ rfl|refine lN ?_|refine bS ?_|fail
   exact set2_same (map_get _ _ k hlt)
 have hk0:=len_ge h hk
 subst hk0
 clear h hk
 refine Tp.run [17,23,30] ?_
 refine cI (cloneObject_ct _ (map_bound _ _ _ ho)) ⟨rfl,trivial⟩ (.inr rfl) ?_
 refine cI (cloneInt_ct _ (map_bound _ _ _ hb)) ⟨rfl,trivial⟩ (.inr rfl) ?_
 refine cI (cloneInt_ct _ (map_bound _ _ _ hx)) ⟨rfl,trivial⟩ (.inr rfl) ?_
 refine cI (cloneItem_ct _ (map_bound _ _ _ hs)) ⟨rfl,trivial⟩ (.inr rfl) ?_
 refine Tp.deep 12304 stD rfl rfl ?_
 refine Tp.loop (fun k:Nat=>⟨[(1,.ptr 0 0),(2,.ptr 128 0),(46,AV.i (s.stack.map GItem.enc).length),(47,AV.i k)],[(0,(((((s.enc.map .t).set 0 (.row 9000 0)).set 1 (.row 9001 0)).set 2 (.row 9002 0)).set 3 (.row 9003 0)).set 4 (.row 9004 0)),(128,List.replicate 19 .bot)],[(9000,plR s),(9001,⟨47,19,0,s.objects.map GObject.enc,none⟩),(9002,⟨3,1,0,s.battlefield.map eI,none⟩),(9003,⟨3,1,0,s.exile.map eI,none⟩),(9004,skR k s.stack)],20000⟩) (fun k=>k≤s.stack.length) (fun k=>s.stack.length - k) 0 ?_ (Nat.zero_le _) ?_
 ·refine wk_of [(9000,9000),(9001,10384),(9002,11024),(9003,11664),(9004,12304)] rfl rfl ?_ ?_ ?_
  all_goals repeat' first|refine Ai ?_ ?_|exact rfl|exact trivial|exact Ei _ rfl|refine lN ?_|refine bS ?_|fail
 rintro k hk
 refine Tp.run [16,17] ?_
 refine cS (fun h=>?_) (fun h=>?_)
 ·have hlt:=len_lt h
  have hkl:k < (s.stack.map GItem.enc).length:=by rw [Lm];exact hlt
  obtain ⟨e1,e2,_⟩:=hs2 s.stack[k] (List.getElem_mem hlt)
  refine Ei k (Ai rfl (Ai hkl ?_))
  refine Ei (s.stack[k].enc) (Ei _ (Ai (map_get _ _ k hlt) (Ai rfl (Ai (.inr (Nat.le_refl k)) ?_))))
  refine cI (copyAbility_ct s.stack[k].ability e1) ⟨fL s.stack[k].ability.enc,trivial⟩ (.inr rfl) ?_
  refine Ei k (Ai rfl (Ai hkl ?_))
  refine Ei (s.stack[k].enc) (Ai (map_get _ _ k hlt) (Ai (Nb rfl) (Ai trivial (Ai (.inr (Nat.le_refl k)) ?_))))
  refine Ei k (Ai rfl (Ai (by rw [List.length_set];exact hkl) ?_))
  refine Ei (s.stack[k].enc) (Ei _ (Ai (List.getElem?_set_self hkl) (Ai rfl (Ai (.inr (Nat.le_refl k)) ?_))))
  refine cI ((cloneTarget_ct _ (map_bound _ _ _ e2))) ⟨rfl,trivial⟩ (.inr rfl) ?_
  refine Ei k (Ai rfl (Ai (by rw [List.length_set];exact hkl) ?_))
  refine Ei (s.stack[k].enc) (Ai (List.getElem?_set_self hkl) (Ai (Nb rfl) (Ai trivial (Ai (.inr (Nat.le_refl k)) ?_))))
  refine Tp.put 9004 k (k+1) (ts:=s.stack[k].enc) rfl rfl (List.getElem?_set_self (by rw [List.length_set];exact hkl)) rfl (Ai rfl trivial) rfl (.inr (Ai rfl (Ai rfl rfl))) ?_
  refine Tp.run [] ?_
  refine Ei (k+1) (Ai (show k+1≤_ by omega) (Ai (show s.stack.length - (k+1) < s.stack.length - k by omega) ?_))
  refine wk_of [(9000,9000),(9001,9001),(9002,9002),(9003,9003),(9004,9004)] rfl rfl ?_ ?_ ?_
  ·repeat' first|refine Ai ?_ ?_|exact rfl|exact trivial|exact Ei _ rfl|refine lN ?_|refine bS ?_|fail
   exact succ_eq k hlt 824 (by decide) hs
  ·repeat' first|refine Ai ?_ ?_|exact rfl|exact trivial|exact Ei _ rfl|refine lN ?_|refine bS ?_|fail
  ·repeat' first|refine Ai ?_ ?_|exact rfl|exact trivial|exact Ei _ rfl|refine lN ?_|refine bS ?_|fail
   exact set3_same (map_get _ _ k hlt)
 have hk1:=len_ge h hk
 subst hk1
 clear h hk
 refine Tp.run [23,30] ?_
 refine cI (cloneWaiting_ct _ (map_bound _ _ _ hw)) ⟨rfl,trivial⟩ (.inr rfl) ?_
 refine Tp.loop (fun k:Nat=>⟨[(1,.ptr 0 0),(2,.ptr 128 0),(81,AV.i (s.waiting.map GWaiting.enc).length),(82,AV.i k)],[(0,((((((s.enc.map .t).set 0 (.row 9000 0)).set 1 (.row 9001 0)).set 2 (.row 9002 0)).set 3 (.row 9003 0)).set 4 (.row 9004 0)).set 5 (.row 9005 0)),(128,List.replicate 19 .bot)],[(9000,plR s),(9001,⟨47,19,0,s.objects.map GObject.enc,none⟩),(9002,⟨3,1,0,s.battlefield.map eI,none⟩),(9003,⟨3,1,0,s.exile.map eI,none⟩),(9004,skR s.stack.length s.stack),(9005,⟨97,89,0,s.waiting.map GWaiting.enc,none⟩)],30000⟩) (fun k=>k≤s.waiting.length) (fun k=>s.waiting.length - k) 0 ?_ (Nat.zero_le _) ?_
 ·refine wk_of [(9000,9000),(9001,9001),(9002,9002),(9003,9003),(9004,9004),(9005,20384)] rfl rfl ?_ ?_ ?_
  all_goals repeat' first|refine Ai ?_ ?_|exact rfl|exact trivial|exact Ei _ rfl|refine lN ?_|refine bS ?_|fail
 rintro k hk
 refine Tp.run [23] ?_
 refine cS (fun h=>?_) (fun h=>?_)
 ·have hlt:=len_lt h
  have hkl:k < (s.waiting.map GWaiting.enc).length:=by rw [Lm];exact hlt
  obtain ⟨e1,_⟩:=hw2 s.waiting[k] (List.getElem_mem hlt)
  refine Ei k (Ai rfl (Ai hkl ?_))
  refine Ei (s.waiting[k].enc) (Ei _ (Ai (map_get _ _ k hlt) (Ai rfl ?_)))
  refine cI (copyAbility_ct s.waiting[k].ability e1) ⟨fL s.waiting[k].ability.enc,trivial⟩ (.inr rfl) ?_
  refine Ei k (Ai rfl (Ai hkl ?_))
  refine Ei (s.waiting[k].enc) (Ai (map_get _ _ k hlt) (Ai (Nb rfl) ?_))
  refine Ei (k+1) (Ai (show k+1≤_ by omega) (Ai (show s.waiting.length - (k+1) < s.waiting.length - k by omega) ?_))
  refine wk_of [(9000,9000),(9001,9001),(9002,9002),(9003,9003),(9004,9004),(9005,9005)] rfl rfl ?_ ?_ ?_
  ·repeat' first|refine Ai ?_ ?_|exact rfl|exact trivial|exact Ei _ rfl|refine lN ?_|refine bS ?_|fail
   exact succ_eq k hlt 768 (by decide) hw
  ·repeat' first|refine Ai ?_ ?_|exact rfl|exact trivial|exact Ei _ rfl|refine lN ?_|refine bS ?_|fail
  ·repeat' first|refine Ai ?_ ?_|exact rfl|exact trivial|exact Ei _ rfl|refine lN ?_|refine bS ?_|fail
   exact set_same (map_get _ _ k hlt)
 have hk2:=len_ge h hk
 subst hk2
 clear h hk
 refine Tp.run [30] ?_
 refine cI (cloneCont_ct _ (map_bound _ _ _ hc)) ⟨rfl,trivial⟩ (.inr rfl) ?_
 refine Tp.deep 30384 coD rfl rfl ?_
 refine Tp.loop (fun k:Nat=>⟨[(1,.ptr 0 0),(2,.ptr 128 0),(104,AV.i (s.conts.map GCont.enc).length),(105,AV.i k)],[(0,(((((((s.enc.map .t).set 0 (.row 9000 0)).set 1 (.row 9001 0)).set 2 (.row 9002 0)).set 3 (.row 9003 0)).set 4 (.row 9004 0)).set 5 (.row 9005 0)).set 6 (.row 9006 0)),(128,List.replicate 19 .bot)],[(9000,plR s),(9001,⟨47,19,0,s.objects.map GObject.enc,none⟩),(9002,⟨3,1,0,s.battlefield.map eI,none⟩),(9003,⟨3,1,0,s.exile.map eI,none⟩),(9004,skR s.stack.length s.stack),(9005,⟨97,89,0,s.waiting.map GWaiting.enc,none⟩),(9006,coR k s.conts)],40000⟩) (fun k=>k≤s.conts.length) (fun k=>s.conts.length - k) 0 ?_ (Nat.zero_le _) ?_
 ·refine wk_of [(9000,9000),(9001,9001),(9002,9002),(9003,9003),(9004,9004),(9005,9005),(9006,30384)] rfl rfl ?_ ?_ ?_
  all_goals repeat' first|refine Ai ?_ ?_|exact rfl|exact trivial|exact Ei _ rfl|refine lN ?_|refine bS ?_|fail
 rintro k hk
 refine Tp.run [29,30] ?_
 refine cS (fun h=>?_) (fun h=>?_)
 ·have hlt:=len_lt h
  have hkl:k < (s.conts.map GCont.enc).length:=by rw [Lm];exact hlt
  obtain ⟨e1,e2,_⟩:=hc2 s.conts[k] (List.getElem_mem hlt)
  refine Ei k (Ai rfl (Ai hkl ?_))
  refine Ei (s.conts[k].enc) (Ei _ (Ai (map_get _ _ k hlt) (Ai rfl (Ai (.inr (Nat.le_refl k)) ?_))))
  refine cI ((cloneInt_ct _ (map_bound _ _ _ e1))) ⟨rfl,trivial⟩ (.inr rfl) ?_
  refine Ei k (Ai rfl (Ai hkl ?_))
  refine Ei (s.conts[k].enc) (Ai (map_get _ _ k hlt) (Ai (Nb rfl) (Ai trivial (Ai (.inr (Nat.le_refl k)) ?_))))
  refine Ei k (Ai rfl (Ai (by rw [List.length_set];exact hkl) ?_))
  refine Ei (s.conts[k].enc) (Ei _ (Ai (List.getElem?_set_self hkl) (Ai rfl (Ai (.inr (Nat.le_refl k)) ?_))))
  refine cI (ct_tree (cloneMod_ct _ (map_bound _ _ _ e2))) ⟨rfl,trivial⟩ (.inr rfl) ?_
  refine Ei k (Ai rfl (Ai (by rw [List.length_set];exact hkl) ?_))
  refine Ei (s.conts[k].enc) (Ai (List.getElem?_set_self hkl) (Ai (Nb rfl) (Ai (Ai trivial trivial) (Ai (.inr (Nat.le_refl k)) ?_))))
  refine Tp.put 9006 k (k+1) (ts:=s.conts[k].enc) rfl rfl (List.getElem?_set_self (by rw [List.length_set];exact hkl)) rfl (Ai rfl trivial) rfl (.inr (Ai rfl (Ai rfl rfl))) ?_
  refine Tp.run [] ?_
  refine Ei (k+1) (Ai (show k+1≤_ by omega) (Ai (show s.conts.length - (k+1) < s.conts.length - k by omega) ?_))
  refine wk_of [(9000,9000),(9001,9001),(9002,9002),(9003,9003),(9004,9004),(9005,9005),(9006,9006)] rfl rfl ?_ ?_ ?_
  ·repeat' first|refine Ai ?_ ?_|exact rfl|exact trivial|exact Ei _ rfl|refine lN ?_|refine bS ?_|fail
   exact succ_eq k hlt 80 (by decide) hc
  ·repeat' first|refine Ai ?_ ?_|exact rfl|exact trivial|exact Ei _ rfl|refine lN ?_|refine bS ?_|fail
  ·repeat' first|refine Ai ?_ ?_|exact rfl|exact trivial|exact Ei _ rfl|refine lN ?_|refine bS ?_|fail
   exact set3_same (map_get _ _ k hlt)
 have hk3:=len_ge h hk
 subst hk3
 clear h hk
 refine Tp.run [] ?_
 refine cI (ct_tree (cloneInt_ct _ (map_bound _ _ _ hxt))) ⟨rfl,trivial⟩ (.inr rfl) ?_
 refine Ei [(0,9000),(1,9001),(2,9002),(3,9003),(4,9004),(5,9005),(6,9006)] (Ai rfl (Ai ?_ ?_))
 all_goals repeat' first|refine Ai ?_ ?_|exact rfl|exact trivial|exact Ei _ rfl|refine lN ?_|refine bS ?_|fail
instance:Inhabited GObject:=⟨⟨0,0,0,0,0,false,false,false,false,0,0,0,0,0,0,0,false,0,0⟩⟩
theorem wadd {a b n:Nat} (h:a+b≤n) (hn:n*128≤limB):IntKind.i64.wrap ((a:Int)+(b:Int))=((a+b:Nat):Int):=by
  unfold limB at hn
  rw [IntKind.wrap_i64]
  omega
theorem wsub {a b n:Nat} (h:b≤a) (h2:a≤n) (hn:n*128≤limB):IntKind.i64.wrap ((a:Int) - (b:Int))=((a - b:Nat):Int):=by
  unfold limB at hn
  rw [IntKind.wrap_i64]
  omega
theorem wsub1 {a n:Nat} (h:1≤a) (h2:a≤n) (hn:n*128≤limB):IntKind.i64.wrap ((a:Int) - 1)=((a - 1:Nat):Int):=by
  unfold limB at hn
  rw [IntKind.wrap_i64]
  omega
theorem wadd1 {a n:Nat} (h:a≤n) (hn:n*128≤limB):IntKind.i64.wrap ((a:Int)+1)=((a+1:Nat):Int):=by
  unfold limB at hn
  rw [IntKind.wrap_i64]
  omega
theorem lmap {k:Nat} {X:List GObject} (h:k < X.length):k < (X.map GObject.enc).length:=by rw [Lm];exact h
theorem lmap1 {k j:Nat} {X:List GObject} {y:List Tr} (h:k < X.length):k < ((X.map GObject.enc).set j y).length:=by rw [List.length_set,Lm];exact h
theorem mget {k:Nat} {X:List GObject} (h:k < X.length):(X.map GObject.enc)[k]? = some (GObject.enc X[k]!):=by
  rw [List.getElem?_map,List.getElem?_eq_getElem h,getElem!_pos X k h]
  rfl
theorem mget1 {k j:Nat} {X:List GObject} {y:GObject} (h:k < X.length):∃ z,((X.map GObject.enc).set j y.enc)[k]? = some (GObject.enc z):=by
  rw [← List.map_set,mget (by rw [List.length_set];exact h)]
  exact ⟨_,rfl⟩
theorem swmap (X:List GObject) (a b:Nat):((X.map GObject.enc).set a (GObject.enc X[b]!)).set b (GObject.enc X[a]!)=(swL X a b).map GObject.enc:=by
  rw [← List.map_set,← List.map_set]
  rfl
theorem swapR_ctm (g:Nat) (l:List GObject) (a b n:Nat) (h1:a+n≤l.length) (h2:b+n≤l.length) (hl:l.length*128≤limB):CtM Tryz.prog 183 [.c (.row 0 0),.c (.t (iv (a:Int))),.c (.t (iv (b:Int))),.c (.t (iv (n:Int))),.fn g []] [] [⟨47,19,0,l.map GObject.enc,none⟩] (.tup []) [] [⟨47,19,0,(swR n a b l).map GObject.enc,none⟩] []:=by
  refine ctm_of 1 Tryz.func183 rfl (enters_of Tryz.func183 (by kernel_rfl) rfl) tabOk (by kernel_rfl) rfl rfl rfl rfl rfl fun w0 O _=>Tp.run [] ?_
  refine Tp.loopL (fun x:Nat × List GObject=>⟨[(0,.c (.row 0 0)),(1,.c (.t (iv (a:Int)))),(2,.c (.t (iv (b:Int)))),(3,.c (.t (iv (n:Int)))),(4,.fn g []),(10,AV.i x.1)],[],[(0,⟨47,19,0,x.2.map GObject.enc,none⟩)],10000⟩) (fun x=>x.1≤n∧x.2.length=l.length∧swR (n - x.1) (a+x.1) (b+x.1) x.2=swR n a b l) (fun x=>n - x.1) (0,l) ?_ ⟨Nat.zero_le _,rfl,rfl⟩ ?_
  · refine wkl_of (n1:=1) rfl rfl ?_ ?_ ?_
    · repeat' first|refine Ai ?_ ?_|exact rfl|exact trivial|exact Ei _ rfl|refine lN ?_|refine bS ?_|fail
    · repeat' first|refine Ai ?_ ?_|exact rfl|exact trivial|exact Ei _ rfl|refine lN ?_|refine bS ?_|fail
    · repeat' first|refine Ai ?_ ?_|exact rfl|exact trivial|exact Ei _ rfl|refine lN ?_|refine bS ?_|fail
  rintro ⟨i,X⟩ ⟨hi,hX,he⟩
  simp only at hi hX he
  refine Tp.run [3,2] ?_
  refine cS (fun hc=>?_) (fun hc=>?_)
  · have hlt:i < n:=by simpa using hc
    refine Tp.run [] ?_
    have ha:a+i < X.length:=by omega
    have hb:b+i < X.length:=by omega
    refine Ei (b+i) (Ai (wadd (by omega) hl) (Ai (lmap hb) ?_))
    refine Ei (GObject.enc X[b+i]!) (Ei _ (Ai (mget hb) (Ai rfl ?_)))
    refine Ei (a+i) (Ai (wadd (by omega) hl) (Ai (lmap ha) ?_))
    refine Ei (GObject.enc X[a+i]!) (Ei _ (Ai (mget ha) (Ai rfl ?_)))
    refine Ei (a+i) (Ai (wadd (by omega) hl) (Ai (lmap ha) ?_))
    refine Ei (GObject.enc X[a+i]!) (Ai (mget ha) (Ai (Nb rfl) ?_))
    refine Ei (b+i) (Ai (wadd (by omega) hl) (Ai (lmap1 hb) ?_))
    obtain ⟨z,hz⟩:=mget1 (k:=b+i) (j:=a+i) (X:=X) (y:=X[b+i]!) hb
    refine Ei (GObject.enc z) (Ai hz (Ai (Nb rfl) ?_))
    refine Tp.run [] ?_
    have hs:n - i=(n - (i+1))+1:=by omega
    rw [hs,swR] at he
    refine Ei (i+1,swL X (a+i) (b+i)) (Ai ⟨by simp only;omega,by simp only;rw [swL_len];exact hX,he⟩ (Ai (show n - (i+1) < n - i by omega) ?_))
    refine wkl_of (n1:=1) rfl rfl ?_ ?_ ?_
    · repeat' first|refine Ai ?_ ?_|exact rfl|exact trivial|exact Ei _ rfl|refine lN ?_|refine bS ?_|fail
      all_goals exact congrArg (fun n=>AV.i n) (wadd (a:=i) (b:=1) (n:=l.length) (by omega) hl)
    · repeat' first|refine Ai ?_ ?_|exact rfl|exact trivial|exact Ei _ rfl|refine lN ?_|refine bS ?_|fail
    · repeat' first|refine Ai ?_ ?_|exact rfl|exact trivial|exact Ei _ rfl|refine lN ?_|refine bS ?_|fail
      all_goals exact congrArg (fun z=>some (Row.mk 47 19 0 z none)) (swmap X (a+i) (b+i))
  · have hge:i=n:=by
      have:¬ i < n:=by simpa using hc
      omega
    subst hge
    rw [Nat.sub_self,swR] at he
    refine Ei [(0,0)] (Ai (Ai rfl (Ai ?_ (Ai ?_ ?_))) ?_)
    · repeat' first|refine Ai ?_ ?_|exact rfl|exact trivial|exact Ei _ rfl|refine lN ?_|refine bS ?_|fail
      all_goals exact congrArg (List.map GObject.enc) he
    · repeat' first|refine Ai ?_ ?_|exact rfl|exact trivial|exact Ei _ rfl|refine lN ?_|refine bS ?_|fail
    · repeat' first|refine Ai ?_ ?_|exact rfl|exact trivial|exact Ei _ rfl|refine lN ?_|refine bS ?_|fail
    · repeat' first|refine Ai ?_ ?_|exact rfl|exact trivial|exact Ei _ rfl|refine lN ?_|refine bS ?_|fail
theorem rot_ctm (g:Nat) (l:List GObject) (a m b f:Nat) (h1:a < m) (h2:m < b) (h3:b≤l.length) (hf:b - a≤f) (hl:l.length*128≤limB):CtM Tryz.prog 153 [.c (.row 0 0),.c (.t (iv (a:Int))),.c (.t (iv (m:Int))),.c (.t (iv (b:Int))),.fn g []] [] [⟨47,19,0,l.map GObject.enc,none⟩] (.tup []) [] [⟨47,19,0,(rot m f (m - a) (b - m) l).map GObject.enc,none⟩] []:=by
  refine ctm_of 1 Tryz.func153 rfl (enters_of Tryz.func153 (by kernel_rfl) rfl) tabOk (by kernel_rfl) rfl rfl rfl rfl rfl fun w0 O _=>Tp.run [8] ?_
  refine Tp.loopL (fun x:Nat × Nat × Nat × List GObject=>⟨[(0,.c (.row 0 0)),(1,.c (.t (iv (a:Int)))),(2,.c (.t (iv (m:Int)))),(3,.c (.t (iv (b:Int)))),(4,.fn g []),(10,AV.i x.2.1),(11,AV.i x.2.2.1)],[],[(0,⟨47,19,0,x.2.2.2.map GObject.enc,none⟩)],10000⟩) (fun x=>0 < x.2.1∧0 < x.2.2.1∧x.2.1+x.2.2.1≤x.1∧x.2.1≤m∧m+x.2.2.1≤l.length∧x.2.2.2.length=l.length∧rot m x.1 x.2.1 x.2.2.1 x.2.2.2=rot m f (m - a) (b - m) l) (fun x=>x.2.1+x.2.2.1) (f,m - a,b - m,l) ?_ ⟨by simp only;omega,by simp only;omega,by simp only;omega,by simp only;omega,by simp only;omega,rfl,rfl⟩ ?_
  · refine wkl_of (n1:=1) rfl rfl ?_ ?_ ?_
    · repeat' first|refine Ai ?_ ?_|exact rfl|exact trivial|exact Ei _ rfl|refine lN ?_|refine bS ?_|fail
      · exact congrArg (fun n=>AV.i n) (wsub (a:=m) (b:=a) (n:=l.length) (by omega) (by omega) hl)
      · exact congrArg (fun n=>AV.i n) (wsub (a:=b) (b:=m) (n:=l.length) (by omega) (by omega) hl)
    · repeat' first|refine Ai ?_ ?_|exact rfl|exact trivial|exact Ei _ rfl|refine lN ?_|refine bS ?_|fail
    · repeat' first|refine Ai ?_ ?_|exact rfl|exact trivial|exact Ei _ rfl|refine lN ?_|refine bS ?_|fail
  rintro ⟨q,i,j,X⟩ ⟨hi,hj,hq,him,hjm,hX,he⟩
  simp only at hi hj hq him hjm hX he
  obtain ⟨q,rfl⟩:∃ p,q=p+1:=⟨q - 1,by omega⟩
  refine Tp.run [3,4,6] ?_
  refine cS (fun hc=>?_) (fun hc=>?_)
  · have hne:¬ i=j:=fun e=>by subst e;simp at hc
    rw [rot,if_neg hne] at he
    refine Tp.run [4,6] ?_
    refine cS (fun hc=>?_) (fun hc=>?_)
    · have hlt:j < i:=by simpa using hc
      rw [if_pos hlt] at he
      refine Tp.run [] ?_
      refine cM [] [(0,0)] (swapR_ctm g X (m - i) m j (by omega) (by omega) (by rw [hX];exact hl)) ?_ ?_ ?_
      · repeat' first|refine Ai ?_ ?_|exact rfl|exact trivial|exact Ei _ rfl|refine lN ?_|refine bS ?_|fail
        exact congrArg (fun n=>iv n) (wsub (a:=m) (b:=i) (n:=l.length) (by omega) (by omega) hl)
      · exact rfl
      refine Ei (q,i - j,j,swR j (m - i) m X) (Ai ⟨by simp only;omega,hj,by simp only;omega,by simp only;omega,hjm,by simp only;rw [swR_len];exact hX,he⟩ (Ai (show i - j+j < i+j by omega) ?_))
      refine wkl_of (n1:=1) rfl rfl ?_ ?_ ?_
      · repeat' first|refine Ai ?_ ?_|exact rfl|exact trivial|exact Ei _ rfl|refine lN ?_|refine bS ?_|fail
        exact congrArg (fun n=>AV.i n) (wsub (a:=i) (b:=j) (n:=l.length) (by omega) (by omega) hl)
      · repeat' first|refine Ai ?_ ?_|exact rfl|exact trivial|exact Ei _ rfl|refine lN ?_|refine bS ?_|fail
      · repeat' first|refine Ai ?_ ?_|exact rfl|exact trivial|exact Ei _ rfl|refine lN ?_|refine bS ?_|fail
    · have hlt:¬ j < i:=by simpa using hc
      rw [if_neg hlt] at he
      refine Tp.run [] ?_
      refine cM [] [(0,0)] (swapR_ctm g X (m - i) (m+j - i) i (by omega) (by omega) (by rw [hX];exact hl)) ?_ ?_ ?_
      · repeat' first|refine Ai ?_ ?_|exact rfl|exact trivial|exact Ei _ rfl|refine lN ?_|refine bS ?_|fail
        · exact congrArg (fun n=>iv n) (wsub (a:=m) (b:=i) (n:=l.length) (by omega) (by omega) hl)
        · refine congrArg (fun n=>iv n) ?_
          show IntKind.i64.wrap (IntKind.i64.wrap ((m:Int)+(j:Int)) - (i:Int))=_
          rw [wadd (n:=l.length) (by omega) hl,wsub (n:=l.length) (by omega) (by omega) hl]
      · exact rfl
      refine Ei (q,i,j - i,swR i (m - i) (m+j - i) X) (Ai ⟨hi,by simp only;omega,by simp only;omega,him,by simp only;omega,by simp only;rw [swR_len];exact hX,he⟩ (Ai (show i+(j - i) < i+j by omega) ?_))
      refine wkl_of (n1:=1) rfl rfl ?_ ?_ ?_
      · repeat' first|refine Ai ?_ ?_|exact rfl|exact trivial|exact Ei _ rfl|refine lN ?_|refine bS ?_|fail
        exact congrArg (fun n=>AV.i n) (wsub (a:=j) (b:=i) (n:=l.length) (by omega) (by omega) hl)
      · repeat' first|refine Ai ?_ ?_|exact rfl|exact trivial|exact Ei _ rfl|refine lN ?_|refine bS ?_|fail
      · repeat' first|refine Ai ?_ ?_|exact rfl|exact trivial|exact Ei _ rfl|refine lN ?_|refine bS ?_|fail
  · have hij:i=j:=by
      have:((i:Int) != (j:Int))=false:=hc
      have:(i:Int)=(j:Int):=by simpa using this
      omega
    subst hij
    rw [rot,if_pos rfl] at he
    refine Tp.run [] ?_
    refine cM [] [(0,0)] (swapR_ctm g X (m - i) m i (by omega) (by omega) (by rw [hX];exact hl)) ?_ ?_ ?_
    · repeat' first|refine Ai ?_ ?_|exact rfl|exact trivial|exact Ei _ rfl|refine lN ?_|refine bS ?_|fail
      exact congrArg (fun n=>iv n) (wsub (a:=m) (b:=i) (n:=l.length) (by omega) (by omega) hl)
    · exact rfl
    refine Ei [(0,0)] (Ai (Ai rfl (Ai ?_ (Ai ?_ ?_))) ?_)
    · repeat' first|refine Ai ?_ ?_|exact rfl|exact trivial|exact Ei _ rfl|refine lN ?_|refine bS ?_|fail
      all_goals exact congrArg (List.map GObject.enc) he
    · repeat' first|refine Ai ?_ ?_|exact rfl|exact trivial|exact Ei _ rfl|refine lN ?_|refine bS ?_|fail
    · repeat' first|refine Ai ?_ ?_|exact rfl|exact trivial|exact Ei _ rfl|refine lN ?_|refine bS ?_|fail
    · repeat' first|refine Ai ?_ ?_|exact rfl|exact trivial|exact Ei _ rfl|refine lN ?_|refine bS ?_|fail
def ltC (cf:GObject→GObject→Int) (x y:GObject):Bool:=decide (cf x y < 0)
abbrev CmpO (g:Nat) (cf:GObject→GObject→Int):Prop:=∀ x y:GObject,Ct Tryz.prog g [.agg (x.enc.map .t),.agg (y.enc.map .t)] (AV.i (cf x y)) [] true
theorem insS_ctm (g:Nat) (cf:GObject→GObject→Int) (hg:CmpO g cf) (l:List GObject) (a b:Nat) (h1:a≤b) (h2:b≤l.length) (hl:l.length*128≤limB):CtM Tryz.prog 116 [.c (.row 0 0),.c (.t (iv (a:Int))),.c (.t (iv (b:Int))),.fn g []] [] [⟨47,19,0,l.map GObject.enc,none⟩] (.tup []) [] [⟨47,19,0,(insS (ltC cf) a (b - (a+1)) (a+1) l).map GObject.enc,none⟩] []:=by
  refine ctm_of 1 Tryz.func116 rfl (enters_of Tryz.func116 (by kernel_rfl) rfl) tabOk (by kernel_rfl) rfl rfl rfl rfl rfl fun w0 O _=>Tp.run [] ?_
  refine Tp.loopL (fun x:Nat × List GObject=>⟨[(0,.c (.row 0 0)),(1,.c (.t (iv (a:Int)))),(2,.c (.t (iv (b:Int)))),(3,.fn g []),(8,AV.i x.1)],[],[(0,⟨47,19,0,x.2.map GObject.enc,none⟩)],10000⟩) (fun x=>a+1≤x.1∧x.1≤b+1∧x.2.length=l.length∧insS (ltC cf) a (b - x.1) x.1 x.2=insS (ltC cf) a (b - (a+1)) (a+1) l) (fun x=>b+1 - x.1) (a+1,l) ?_ ⟨Nat.le_refl _,Nat.succ_le_succ h1,rfl,rfl⟩ ?_
  · refine wkl_of (n1:=1) rfl rfl ?_ ?_ ?_
    · repeat' first|refine Ai ?_ ?_|exact rfl|exact trivial|exact Ei _ rfl|refine lN ?_|refine bS ?_|fail
      exact congrArg (fun n=>AV.i n) (wadd1 (n:=l.length) (by omega) hl)
    · repeat' first|refine Ai ?_ ?_|exact rfl|exact trivial|exact Ei _ rfl|refine lN ?_|refine bS ?_|fail
    · repeat' first|refine Ai ?_ ?_|exact rfl|exact trivial|exact Ei _ rfl|refine lN ?_|refine bS ?_|fail
  rintro ⟨i,X⟩ ⟨hai,hib,hX,he⟩
  simp only at hai hib hX he
  refine Tp.run [3,2] ?_
  refine cS (fun hc=>?_) (fun hc=>?_)
  · have hlt:i < b:=by simpa using hc
    have hs:b - i=(b - (i+1))+1:=by omega
    rw [hs,insS] at he
    refine Tp.run [2] ?_
    refine Tp.loopL (fun x:Nat × List GObject=>⟨[(0,.c (.row 0 0)),(1,.c (.t (iv (a:Int)))),(2,.c (.t (iv (b:Int)))),(3,.fn g []),(8,AV.i i),(9,AV.i x.1)],[],[(0,⟨47,19,0,x.2.map GObject.enc,none⟩)],20000⟩) (fun x=>x.1≤i∧x.2.length=l.length∧insD (ltC cf) a x.1 x.2=insD (ltC cf) a i X) (fun x=>x.1) (i,X) ?_ ⟨Nat.le_refl _,hX,rfl⟩ ?_
    · refine wkl_of (n1:=1) rfl rfl ?_ ?_ ?_
      · repeat' first|refine Ai ?_ ?_|exact rfl|exact trivial|exact Ei _ rfl|refine lN ?_|refine bS ?_|fail
      · repeat' first|refine Ai ?_ ?_|exact rfl|exact trivial|exact Ei _ rfl|refine lN ?_|refine bS ?_|fail
      · repeat' first|refine Ai ?_ ?_|exact rfl|exact trivial|exact Ei _ rfl|refine lN ?_|refine bS ?_|fail
    rintro ⟨j,Y⟩ ⟨hj,hY,hd⟩
    simp only at hj hY hd
    refine Tp.run [6,5] ?_
    refine cS (fun hc2=>?_) (fun hc2=>?_)
    · have hja:a < j:=by simpa using hc2
      obtain ⟨j,rfl⟩:∃ p,j=p+1:=⟨j - 1,by omega⟩
      have k1:j+1 < Y.length:=by omega
      have k0:j < Y.length:=by omega
      rw [insD,if_pos hja] at hd
      refine Ei (j+1) (Ai rfl (Ai (lmap k1) ?_))
      refine Ei (GObject.enc Y[j+1]!) (Ei _ (Ai (mget k1) (Ai rfl ?_)))
      refine Ei j (Ai (wsub1 (a:=j+1) (n:=l.length) (by omega) (by omega) hl) (Ai (lmap k0) ?_))
      refine Ei (GObject.enc Y[j]!) (Ei _ (Ai (mget k0) (Ai rfl ?_)))
      refine cI (hg Y[j+1]! Y[j]!) ⟨fL (GObject.enc _),fL (GObject.enc _),trivial⟩ (.inl rfl) ?_
      refine cS (fun hc3=>?_) (fun hc3=>?_)
      · have hq:ltC cf Y[j+1]! Y[j]! = true:=hc3
        rw [if_pos hq] at hd
        refine Tp.run [] ?_
        refine Ei j (Ai (wsub1 (a:=j+1) (n:=l.length) (by omega) (by omega) hl) (Ai (lmap k0) ?_))
        refine Ei (GObject.enc Y[j]!) (Ei _ (Ai (mget k0) (Ai rfl ?_)))
        refine Ei (j+1) (Ai rfl (Ai (lmap k1) ?_))
        refine Ei (GObject.enc Y[j+1]!) (Ei _ (Ai (mget k1) (Ai rfl ?_)))
        refine Ei (j+1) (Ai rfl (Ai (lmap k1) ?_))
        refine Ei (GObject.enc Y[j+1]!) (Ai (mget k1) (Ai (Nb rfl) ?_))
        refine Ei j (Ai (wsub1 (a:=j+1) (n:=l.length) (by omega) (by omega) hl) (Ai (lmap1 k0) ?_))
        obtain ⟨z,hz⟩:=mget1 (k:=j) (j:=j+1) (X:=Y) (y:=Y[j]!) k0
        refine Ei (GObject.enc z) (Ai hz (Ai (Nb rfl) ?_))
        refine Tp.run [] ?_
        refine Ei (j,swL Y (j+1) j) (Ai ⟨by simp only;omega,by simp only;rw [swL_len];exact hY,hd⟩ (Ai (show j < j+1 by omega) ?_))
        refine wkl_of (n1:=1) rfl rfl ?_ ?_ ?_
        · repeat' first|refine Ai ?_ ?_|exact rfl|exact trivial|exact Ei _ rfl|refine lN ?_|refine bS ?_|fail
          exact congrArg (fun n=>AV.i n) (wsub1 (a:=j+1) (n:=l.length) (by omega) (by omega) hl)
        · repeat' first|refine Ai ?_ ?_|exact rfl|exact trivial|exact Ei _ rfl|refine lN ?_|refine bS ?_|fail
        · repeat' first|refine Ai ?_ ?_|exact rfl|exact trivial|exact Ei _ rfl|refine lN ?_|refine bS ?_|fail
          exact congrArg (fun z=>some (Row.mk 47 19 0 z none)) (swmap Y (j+1) j)
      · have hq:ltC cf Y[j+1]! Y[j]! = false:=hc3
        rw [hq,if_neg (by decide)] at hd
        refine Tp.run [] ?_
        refine Ei (i+1,Y) (Ai ⟨by simp only;omega,by simp only;omega,hY,by simp only;rw [← hd] at he;exact he⟩ (Ai (show b+1 - (i+1) < b+1 - i by omega) ?_))
        refine wkl_of (n1:=1) rfl rfl ?_ ?_ ?_
        · repeat' first|refine Ai ?_ ?_|exact rfl|exact trivial|exact Ei _ rfl|refine lN ?_|refine bS ?_|fail
          exact congrArg (fun n=>AV.i n) (wadd1 (n:=l.length) (by omega) hl)
        · repeat' first|refine Ai ?_ ?_|exact rfl|exact trivial|exact Ei _ rfl|refine lN ?_|refine bS ?_|fail
        · repeat' first|refine Ai ?_ ?_|exact rfl|exact trivial|exact Ei _ rfl|refine lN ?_|refine bS ?_|fail
    · have hja:¬ a < j:=by simpa using hc2
      have hd:Y=insD (ltC cf) a i X:=by
        rw [← hd]
        cases j with
        | zero=>rfl
        | succ j=>rw [insD,if_neg hja]
      refine Tp.run [] ?_
      refine Ei (i+1,Y) (Ai ⟨by simp only;omega,by simp only;omega,hY,by simp only;rw [← hd] at he;exact he⟩ (Ai (show b+1 - (i+1) < b+1 - i by omega) ?_))
      refine wkl_of (n1:=1) rfl rfl ?_ ?_ ?_
      · repeat' first|refine Ai ?_ ?_|exact rfl|exact trivial|exact Ei _ rfl|refine lN ?_|refine bS ?_|fail
        exact congrArg (fun n=>AV.i n) (wadd1 (n:=l.length) (by omega) hl)
      · repeat' first|refine Ai ?_ ?_|exact rfl|exact trivial|exact Ei _ rfl|refine lN ?_|refine bS ?_|fail
      · repeat' first|refine Ai ?_ ?_|exact rfl|exact trivial|exact Ei _ rfl|refine lN ?_|refine bS ?_|fail
  · have hge:b - i=0:=by
      have:¬ i < b:=by simpa using hc
      omega
    rw [hge,insS] at he
    refine Ei [(0,0)] (Ai (Ai rfl (Ai ?_ (Ai ?_ ?_))) ?_)
    · repeat' first|refine Ai ?_ ?_|exact rfl|exact trivial|exact Ei _ rfl|refine lN ?_|refine bS ?_|fail
      all_goals exact congrArg (List.map GObject.enc) he
    · repeat' first|refine Ai ?_ ?_|exact rfl|exact trivial|exact Ei _ rfl|refine lN ?_|refine bS ?_|fail
    · repeat' first|refine Ai ?_ ?_|exact rfl|exact trivial|exact Ei _ rfl|refine lN ?_|refine bS ?_|fail
    · repeat' first|refine Ai ?_ ?_|exact rfl|exact trivial|exact Ei _ rfl|refine lN ?_|refine bS ?_|fail
theorem joinL {P:Program} {T:Nat→Option Ty} {N:Nat} {w0:World} {O:Gst} {c:Code} {Q:Ex→St→Prop} {B:Prop} (st:St) (h:Tp P T N w0 O c st Q→B) (key:Tp P T N w0 O c st Q):B:=h key
theorem ne1 {n:Nat} (h:¬ n=1):((n:Int)==1)=false:=by
 have:¬ (n:Int)=1:=by omega
 simpa using this
abbrev halfI (i j:Nat):Int:=IntKind.i64.wrap ((IntKind.u64.wrap (IntKind.i64.wrap ((i:Int)+(j:Int)))).fdiv (2 ^ min (Int.toNat 1) IntKind.u64.bits))
theorem whalf {i j n:Nat} (h1:i≤n) (h2:j≤n) (hn:n*128≤limB):halfI i j=(((i+j) / 2:Nat):Int):=by
 unfold limB at hn
 unfold halfI
 have e1:IntKind.i64.wrap ((i:Int)+(j:Int))=((i+j:Nat):Int):=by rw [IntKind.wrap_i64];omega
 have e2:IntKind.u64.wrap ((i+j:Nat):Int)=((i+j:Nat):Int):=by rw [IntKind.wrap_u64];omega
 have e3:(2 ^ min (Int.toNat 1) IntKind.u64.bits:Int)=2:=rfl
 rw [e1,e2,e3,Int.fdiv_eq_ediv_of_nonneg _ (by decide),IntKind.wrap_i64]
 omega
theorem whalf1 {i j n:Nat} (h1:i < n) (h2:j≤n) (hn:n*128≤limB):IntKind.i64.wrap (halfI i j+1)=(((i+j) / 2+1:Nat):Int):=by
 rw [whalf (Nat.le_of_lt h1) h2 hn]
 exact wadd1 (by omega) hn
theorem wpc {p i j n:Nat} (h0:p≤n+n) (h1:i≤n) (h2:j≤n) (h3:(i+j) / 2≤p) (hn:n*128≤limB):IntKind.i64.wrap ((p:Int) - halfI i j)=((p - (i+j) / 2:Nat):Int):=by
 rw [whalf h1 h2 hn,IntKind.wrap_i64]
 unfold limB at hn
 omega
theorem whm {m i j n:Nat} (h0:m≤n) (h1:i≤n) (h2:j≤n) (hn:n*128≤limB):IntKind.i64.wrap (halfI i j+(m:Int))=(((i+j) / 2+m:Nat):Int):=by
 rw [whalf h1 h2 hn,IntKind.wrap_i64]
 unfold limB at hn
 omega
theorem whmb {m i j b n:Nat} (h0:m≤n) (h1:i≤n) (h2:j≤n) (h3:b≤(i+j) / 2+m) (hn:n*128≤limB):IntKind.i64.wrap (IntKind.i64.wrap (halfI i j+(m:Int)) - (b:Int))=(((i+j) / 2+m - b:Nat):Int):=by
 rw [whm h0 h1 h2 hn,IntKind.wrap_i64]
 unfold limB at hn
 omega
theorem wsub21 {p n:Nat} (h0:p≤n+n) (h1:1≤p) (hn:n*128≤limB):IntKind.i64.wrap ((p:Int) - 1)=((p - 1:Nat):Int):=by
 rw [IntKind.wrap_i64]
 unfold limB at hn
 omega
theorem wsub2 {p s n:Nat} (h0:p≤n+n) (h1:s≤p) (hn:n*128≤limB):IntKind.i64.wrap ((p:Int) - (s:Int))=((p - s:Nat):Int):=by
 rw [IntKind.wrap_i64]
 unfold limB at hn
 omega
theorem symM_ctm (g:Nat) (cf:GObject→GObject→Int) (hg:CmpO g cf):∀ (f a m b:Nat) (l:List GObject),a < m→m < b→b≤l.length→b - a≤f→l.length*128≤limB→CtM Tryz.prog 117 [.c (.row 0 0),.c (.t (iv (a:Int))),.c (.t (iv (m:Int))),.c (.t (iv (b:Int))),.fn g []] [] [⟨47,19,0,l.map GObject.enc,none⟩] (.tup []) [] [⟨47,19,0,(symM (ltC cf) f a m b l).map GObject.enc,none⟩] []
 | 0,a,m,b,l,h1,h2,h3,h4,hl=>absurd h4 (by omega)
 | f+1,a,m,b,l,h1,h2,h3,h4,hl=>by
  have ha:a < l.length:=by omega
  have hm:m < l.length:=by omega
  by_cases c1:m - a=1
  ·refine ctm_of 1 Tryz.func117 rfl (enters_of Tryz.func117 (by kernel_rfl) rfl) tabOk (by kernel_rfl) rfl rfl rfl rfl rfl fun w0 O _=>Tp.run [12] ?_
   refine cond_t (by rw [wsub (n:=l.length) (by omega) (by omega) hl];simp only [c1];rfl) ?_
   refine Tp.loopL (fun x:Nat × Nat × Nat=>⟨[(0,.c (.row 0 0)),(1,.c (.t (iv (a:Int)))),(2,.c (.t (iv (m:Int)))),(3,.c (.t (iv (b:Int)))),(4,.fn g []),(10,AV.i x.2.1),(11,AV.i x.2.2)],[],[(0,⟨47,19,0,(l).map GObject.enc,none⟩)],10000⟩) (fun x=>m≤x.2.1∧x.2.1≤x.2.2∧x.2.2≤b∧x.2.2 - x.2.1≤x.1∧bsr (fun h=>ltC cf l[h]! l[a]!) x.1 x.2.1 x.2.2=bsr (fun h=>ltC cf l[h]! l[a]!) (b - a) (m) (b)) (fun x=>x.2.2 - x.2.1) (b - a,m,b) ?_ ⟨Nat.le_refl _,by simp only;omega,Nat.le_refl _,by simp only;omega,rfl⟩ ?_
   ·refine wkl_of (n1:=1) rfl rfl ?_ ?_ ?_
    all_goals repeat' first|refine Ai ?_ ?_|exact rfl|exact trivial|exact Ei _ rfl|refine lN ?_|refine bS ?_|fail
   rintro ⟨q,i,j⟩ ⟨k1,k2,k3,k4,k5⟩
   simp only at k1 k2 k3 k4 k5
   refine Tp.run [4,6,7,8] ?_
   refine cS (fun hc=>?_) (fun hc=>?_)
   ·have hij:i < j:=by simpa using hc
    obtain ⟨q,rfl⟩:∃ p,q=p+1:=⟨q - 1,by omega⟩
    rw [bsr,if_pos hij] at k5
    have hh:(i+j) / 2 < l.length:=by omega
    have hf:=whalf (i:=i) (j:=j) (n:=l.length) (by omega) (by omega) hl
    have hf1:=whalf1 (i:=i) (j:=j) (n:=l.length) (by omega) (by omega) hl
    refine Tp.run [] ?_
    refine Ei ((i+j) / 2) (Ai (hf) (Ai (lmap hh) ?_))
    refine Ei (GObject.enc l[(i+j) / 2]!) (Ei _ (Ai (mget hh) (Ai rfl ?_)))
    refine Ei (a) (Ai (rfl) (Ai (lmap ha) ?_))
    refine Ei (GObject.enc l[a]!) (Ei _ (Ai (mget ha) (Ai rfl ?_)))
    refine cI (hg l[(i+j) / 2]! l[a]!) ⟨fL (GObject.enc _),fL (GObject.enc _),trivial⟩ (.inl rfl) ?_
    refine cS (fun hc2=>?_) (fun hc2=>?_)
    ·have hq:(fun h=>ltC cf l[h]! l[a]!) ((i+j) / 2)=true:=hc2
     rw [if_pos hq] at k5
     refine Tp.run [] ?_
     refine Ei (q,(i+j) / 2+1,j) (Ai ⟨by simp only;omega,by simp only;omega,k3,by simp only;omega,k5⟩ (Ai (show j - ((i+j) / 2+1) < j - i by omega) ?_))
     refine wkl_of (n1:=1) rfl rfl ?_ ?_ ?_
     ·repeat' first|refine Ai ?_ ?_|exact rfl|exact trivial|exact Ei _ rfl|refine lN ?_|refine bS ?_|fail
      exact congrArg (fun n=>AV.i n) hf1
     all_goals repeat' first|refine Ai ?_ ?_|exact rfl|exact trivial|exact Ei _ rfl|refine lN ?_|refine bS ?_|fail
    ·have hq:(fun h=>ltC cf l[h]! l[a]!) ((i+j) / 2)=false:=hc2
     rw [if_neg (fun e=>absurd (e.symm.trans hq) (by decide))] at k5
     refine Tp.run [] ?_
     refine Ei (q,i,(i+j) / 2) (Ai ⟨k1,by simp only;omega,by simp only;omega,by simp only;omega,k5⟩ (Ai (show (i+j) / 2 - i < j - i by omega) ?_))
     refine wkl_of (n1:=1) rfl rfl ?_ ?_ ?_
     ·repeat' first|refine Ai ?_ ?_|exact rfl|exact trivial|exact Ei _ rfl|refine lN ?_|refine bS ?_|fail
      exact congrArg (fun n=>AV.i n) hf
     all_goals repeat' first|refine Ai ?_ ?_|exact rfl|exact trivial|exact Ei _ rfl|refine lN ?_|refine bS ?_|fail
   have hij:i=j:=by
    have:¬ i < j:=by simpa using hc
    omega
   subst hij
   have k5:i=bsr (fun h=>ltC cf l[h]! l[a]!) (b - a) (m) (b):=by
    rw [← k5]
    cases q with
    | zero=>rfl
    | succ q=>rw [bsr,if_neg (Nat.lt_irrefl i)]
   refine Tp.loopL (fun x:Nat × List GObject=>⟨[(0,.c (.row 0 0)),(1,.c (.t (iv (a:Int)))),(2,.c (.t (iv (m:Int)))),(3,.c (.t (iv (b:Int)))),(4,.fn g []),(10,AV.i i),(13,AV.i x.1)],[],[(0,⟨47,19,0,(x.2).map GObject.enc,none⟩)],20000⟩) (fun x=>a≤x.1∧x.1≤i - 1∧x.2.length=l.length∧up (i - 1 - x.1) x.1 x.2=symM (ltC cf) (f+1) a m b l) (fun x=>i - x.1) (a,l) ?_ ⟨Nat.le_refl _,by simp only;omega,rfl,by rw [symM,if_pos c1,← k5]⟩ ?_
   ·refine wkl_of (n1:=1) rfl rfl ?_ ?_ ?_
    all_goals repeat' first|refine Ai ?_ ?_|exact rfl|exact trivial|exact Ei _ rfl|refine lN ?_|refine bS ?_|fail
   rintro ⟨k,X⟩ ⟨g1,g2,hX,he⟩
   simp only at g1 g2 hX he
   refine Tp.run [11,10] ?_
   refine cS (fun hc=>?_) (fun hc=>?_)
   ·have hk:k < i - 1:=by
     rw [wsub1 (n:=l.length) (by omega) (by omega) hl] at hc
     have:=of_decide_eq_true hc
     simp only at this
     omega
    have e1:k < X.length:=by omega
    have e2:k+1 < X.length:=by omega
    have hs:i - 1 - k=(i - 1 - (k+1))+1:=by omega
    rw [hs,up] at he
    refine Tp.run [] ?_
    refine Ei (k+1) (Ai (wadd1 (a:=k) (n:=l.length) (by omega) hl) (Ai (lmap e2) ?_))
    refine Ei (GObject.enc X[k+1]!) (Ei _ (Ai (mget e2) (Ai rfl ?_)))
    refine Ei (k) (Ai (rfl) (Ai (lmap e1) ?_))
    refine Ei (GObject.enc X[k]!) (Ei _ (Ai (mget e1) (Ai rfl ?_)))
    refine Ei (k) (Ai (rfl) (Ai (lmap e1) ?_))
    refine Ei (GObject.enc X[k]!) (Ai (mget e1) (Ai (Nb rfl) ?_))
    refine Ei (k+1) (Ai (wadd1 (a:=k) (n:=l.length) (by omega) hl) (Ai (lmap1 e2) ?_))
    obtain ⟨z,hz⟩:=mget1 (k:=k+1) (j:=k) (X:=X) (y:=X[k+1]!) e2
    refine Ei (GObject.enc z) (Ai hz (Ai (Nb rfl) ?_))
    refine Tp.run [] ?_
    refine Ei (k+1,swL X k (k+1)) (Ai ⟨by simp only;omega,by simp only;omega,by simp only;rw [swL_len];exact hX,he⟩ (Ai (show i - (k+1) < i - k by omega) ?_))
    refine wkl_of (n1:=1) rfl rfl ?_ ?_ ?_
    ·repeat' first|refine Ai ?_ ?_|exact rfl|exact trivial|exact Ei _ rfl|refine lN ?_|refine bS ?_|fail
     exact congrArg (fun n=>AV.i n) (wadd1 (a:=k) (n:=l.length) (by omega) hl)
    ·repeat' first|refine Ai ?_ ?_|exact rfl|exact trivial|exact Ei _ rfl|refine lN ?_|refine bS ?_|fail
    ·repeat' first|refine Ai ?_ ?_|exact rfl|exact trivial|exact Ei _ rfl|refine lN ?_|refine bS ?_|fail
     exact congrArg (fun z=>some (Row.mk 47 19 0 z none)) (swmap X k (k+1))
   ·have hk:i - 1 - k=0:=by
     rw [wsub1 (n:=l.length) (by omega) (by omega) hl] at hc
     have:=of_decide_eq_false hc
     simp only at this
     omega
    rw [hk,up] at he
    refine Ei [(0,0)] (Ai (Ai rfl (Ai ?_ (Ai ?_ ?_))) ?_)
    ·repeat' first|refine Ai ?_ ?_|exact rfl|exact trivial|exact Ei _ rfl|refine lN ?_|refine bS ?_|fail
     all_goals exact congrArg (List.map GObject.enc) he
    all_goals repeat' first|refine Ai ?_ ?_|exact rfl|exact trivial|exact Ei _ rfl|refine lN ?_|refine bS ?_|fail
  by_cases c2:b - m=1
  ·refine ctm_of 1 Tryz.func117 rfl (enters_of Tryz.func117 (by kernel_rfl) rfl) tabOk (by kernel_rfl) rfl rfl rfl rfl rfl fun w0 O _=>Tp.run [12,24] ?_
   refine cond_f (by rw [wsub (n:=l.length) (by omega) (by omega) hl];exact ne1 c1) ?_
   refine Tp.run [24] ?_
   refine cond_t (by rw [wsub (n:=l.length) (by omega) (by omega) hl];simp only [c2];rfl) ?_
   refine Tp.loopL (fun x:Nat × Nat × Nat=>⟨[(0,.c (.row 0 0)),(1,.c (.t (iv (a:Int)))),(2,.c (.t (iv (m:Int)))),(3,.c (.t (iv (b:Int)))),(4,.fn g []),(14,AV.i x.2.1),(15,AV.i x.2.2)],[],[(0,⟨47,19,0,(l).map GObject.enc,none⟩)],10000⟩) (fun x=>a≤x.2.1∧x.2.1≤x.2.2∧x.2.2≤m∧x.2.2 - x.2.1≤x.1∧bsr (fun h=>!ltC cf l[m]! l[h]!) x.1 x.2.1 x.2.2=bsr (fun h=>!ltC cf l[m]! l[h]!) (b - a) (a) (m)) (fun x=>x.2.2 - x.2.1) (b - a,a,m) ?_ ⟨Nat.le_refl _,by simp only;omega,Nat.le_refl _,by simp only;omega,rfl⟩ ?_
   ·refine wkl_of (n1:=1) rfl rfl ?_ ?_ ?_
    all_goals repeat' first|refine Ai ?_ ?_|exact rfl|exact trivial|exact Ei _ rfl|refine lN ?_|refine bS ?_|fail
   rintro ⟨q,i,j⟩ ⟨k1,k2,k3,k4,k5⟩
   simp only at k1 k2 k3 k4 k5
   refine Tp.run [16,18,19,20] ?_
   refine cS (fun hc=>?_) (fun hc=>?_)
   ·have hij:i < j:=by simpa using hc
    obtain ⟨q,rfl⟩:∃ p,q=p+1:=⟨q - 1,by omega⟩
    rw [bsr,if_pos hij] at k5
    have hh:(i+j) / 2 < l.length:=by omega
    have hf:=whalf (i:=i) (j:=j) (n:=l.length) (by omega) (by omega) hl
    have hf1:=whalf1 (i:=i) (j:=j) (n:=l.length) (by omega) (by omega) hl
    refine Tp.run [] ?_
    refine Ei (m) (Ai (rfl) (Ai (lmap hm) ?_))
    refine Ei (GObject.enc l[m]!) (Ei _ (Ai (mget hm) (Ai rfl ?_)))
    refine Ei ((i+j) / 2) (Ai (hf) (Ai (lmap hh) ?_))
    refine Ei (GObject.enc l[(i+j) / 2]!) (Ei _ (Ai (mget hh) (Ai rfl ?_)))
    refine cI (hg l[m]! l[(i+j) / 2]!) ⟨fL (GObject.enc _),fL (GObject.enc _),trivial⟩ (.inl rfl) ?_
    refine cS (fun hc2=>?_) (fun hc2=>?_)
    ·have hq:(fun h=>!ltC cf l[m]! l[h]!) ((i+j) / 2)=true:=hc2
     rw [if_pos hq] at k5
     refine Tp.run [] ?_
     refine Ei (q,(i+j) / 2+1,j) (Ai ⟨by simp only;omega,by simp only;omega,k3,by simp only;omega,k5⟩ (Ai (show j - ((i+j) / 2+1) < j - i by omega) ?_))
     refine wkl_of (n1:=1) rfl rfl ?_ ?_ ?_
     ·repeat' first|refine Ai ?_ ?_|exact rfl|exact trivial|exact Ei _ rfl|refine lN ?_|refine bS ?_|fail
      exact congrArg (fun n=>AV.i n) hf1
     all_goals repeat' first|refine Ai ?_ ?_|exact rfl|exact trivial|exact Ei _ rfl|refine lN ?_|refine bS ?_|fail
    ·have hq:(fun h=>!ltC cf l[m]! l[h]!) ((i+j) / 2)=false:=hc2
     rw [if_neg (fun e=>absurd (e.symm.trans hq) (by decide))] at k5
     refine Tp.run [] ?_
     refine Ei (q,i,(i+j) / 2) (Ai ⟨k1,by simp only;omega,by simp only;omega,by simp only;omega,k5⟩ (Ai (show (i+j) / 2 - i < j - i by omega) ?_))
     refine wkl_of (n1:=1) rfl rfl ?_ ?_ ?_
     ·repeat' first|refine Ai ?_ ?_|exact rfl|exact trivial|exact Ei _ rfl|refine lN ?_|refine bS ?_|fail
      exact congrArg (fun n=>AV.i n) hf
     all_goals repeat' first|refine Ai ?_ ?_|exact rfl|exact trivial|exact Ei _ rfl|refine lN ?_|refine bS ?_|fail
   have hij:i=j:=by
    have:¬ i < j:=by simpa using hc
    omega
   subst hij
   have k5:i=bsr (fun h=>!ltC cf l[m]! l[h]!) (b - a) (a) (m):=by
    rw [← k5]
    cases q with
    | zero=>rfl
    | succ q=>rw [bsr,if_neg (Nat.lt_irrefl i)]
   refine Tp.loopL (fun x:Nat × List GObject=>⟨[(0,.c (.row 0 0)),(1,.c (.t (iv (a:Int)))),(2,.c (.t (iv (m:Int)))),(3,.c (.t (iv (b:Int)))),(4,.fn g []),(14,AV.i i),(17,AV.i x.1)],[],[(0,⟨47,19,0,(x.2).map GObject.enc,none⟩)],20000⟩) (fun x=>i≤x.1∧x.1≤m∧x.2.length=l.length∧dn (x.1 - i) x.1 x.2=symM (ltC cf) (f+1) a m b l) (fun x=>x.1) (m,l) ?_ ⟨by simp only;omega,Nat.le_refl _,rfl,by rw [symM,if_neg c1,if_pos c2,← k5]⟩ ?_
   ·refine wkl_of (n1:=1) rfl rfl ?_ ?_ ?_
    all_goals repeat' first|refine Ai ?_ ?_|exact rfl|exact trivial|exact Ei _ rfl|refine lN ?_|refine bS ?_|fail
   rintro ⟨k,X⟩ ⟨g1,g2,hX,he⟩
   simp only at g1 g2 hX he
   refine Tp.run [23,22] ?_
   refine cS (fun hc=>?_) (fun hc=>?_)
   ·have hk:i < k:=by simpa using hc
    have e1:k < X.length:=by omega
    have e2:k - 1 < X.length:=by omega
    have hs:k - i=(k - 1 - i)+1:=by omega
    rw [hs,dn] at he
    refine Tp.run [] ?_
    refine Ei (k - 1) (Ai (wsub1 (a:=k) (n:=l.length) (by omega) (by omega) hl) (Ai (lmap e2) ?_))
    refine Ei (GObject.enc X[k - 1]!) (Ei _ (Ai (mget e2) (Ai rfl ?_)))
    refine Ei (k) (Ai (rfl) (Ai (lmap e1) ?_))
    refine Ei (GObject.enc X[k]!) (Ei _ (Ai (mget e1) (Ai rfl ?_)))
    refine Ei (k) (Ai (rfl) (Ai (lmap e1) ?_))
    refine Ei (GObject.enc X[k]!) (Ai (mget e1) (Ai (Nb rfl) ?_))
    refine Ei (k - 1) (Ai (wsub1 (a:=k) (n:=l.length) (by omega) (by omega) hl) (Ai (lmap1 e2) ?_))
    obtain ⟨z,hz⟩:=mget1 (k:=k - 1) (j:=k) (X:=X) (y:=X[k - 1]!) e2
    refine Ei (GObject.enc z) (Ai hz (Ai (Nb rfl) ?_))
    refine Tp.run [] ?_
    refine Ei (k - 1,swL X k (k - 1)) (Ai ⟨by simp only;omega,by simp only;omega,by simp only;rw [swL_len];exact hX,he⟩ (Ai (show k - 1 < k by omega) ?_))
    refine wkl_of (n1:=1) rfl rfl ?_ ?_ ?_
    ·repeat' first|refine Ai ?_ ?_|exact rfl|exact trivial|exact Ei _ rfl|refine lN ?_|refine bS ?_|fail
     exact congrArg (fun n=>AV.i n) (wsub1 (a:=k) (n:=l.length) (by omega) (by omega) hl)
    ·repeat' first|refine Ai ?_ ?_|exact rfl|exact trivial|exact Ei _ rfl|refine lN ?_|refine bS ?_|fail
    ·repeat' first|refine Ai ?_ ?_|exact rfl|exact trivial|exact Ei _ rfl|refine lN ?_|refine bS ?_|fail
     exact congrArg (fun z=>some (Row.mk 47 19 0 z none)) (swmap X k (k - 1))
   ·have hk:k - i=0:=by
     have:¬ i < k:=by simpa using hc
     omega
    rw [hk,dn] at he
    refine Ei [(0,0)] (Ai (Ai rfl (Ai ?_ (Ai ?_ ?_))) ?_)
    ·repeat' first|refine Ai ?_ ?_|exact rfl|exact trivial|exact Ei _ rfl|refine lN ?_|refine bS ?_|fail
     all_goals exact congrArg (List.map GObject.enc) he
    all_goals repeat' first|refine Ai ?_ ?_|exact rfl|exact trivial|exact Ei _ rfl|refine lN ?_|refine bS ?_|fail
  -- the general case
  have hP:∃ s0 r0,(m > (a+b) / 2→s0=(a+b) / 2+m - b∧r0=(a+b) / 2)∧(¬ m > (a+b) / 2→s0=a∧r0=m)∧bsr (fun c=>!ltC cf l[(a+b) / 2+m - 1 - c]! l[c]!) (b - a) s0 r0=prt (ltC cf) a m b l∧s0≤r0∧r0≤m∧r0≤(a+b) / 2∧a≤s0∧(a+b) / 2+m≤s0+b:=by
   by_cases h:m > (a+b) / 2
   ·exact ⟨_,_,fun _=>⟨rfl,rfl⟩,fun h2=>absurd h h2,by rw [prt,if_pos h],by omega,by omega,by omega,by omega,by omega⟩
   ·exact ⟨_,_,fun h2=>absurd h2 h,fun _=>⟨rfl,rfl⟩,by rw [prt,if_neg h],by omega,by omega,by omega,by omega,by omega⟩
  obtain ⟨s0,r0,p1,p2,p3,p4,p5,p6,p7,p8⟩:=hP
  refine ctm_of 1 Tryz.func117 rfl (enters_of Tryz.func117 (by kernel_rfl) rfl) tabOk (by kernel_rfl) rfl rfl rfl rfl rfl fun w0 O _=>Tp.run [12,24,28,30,32,40,41,42,43,44] ?_
  refine cond_f (by rw [wsub (n:=l.length) (by omega) (by omega) hl];exact ne1 c1) ?_
  refine Tp.run [24] ?_
  refine cond_f (by rw [wsub (n:=l.length) (by omega) (by omega) hl];exact ne1 c2) ?_
  refine Tp.run [28,30,32,41,43] ?_
  apply joinL (P:=Tryz.prog) (T:=T) (N:=Tryz.f117.ntmps) (w0:=w0) (O:=O) ⟨[(0,.c (.row 0 0)),(1,.c (.t (iv (a:Int)))),(2,.c (.t (iv (m:Int)))),(3,.c (.t (iv (b:Int)))),(4,.fn g []),(18,AV.i ((a+b) / 2:Nat)),(19,AV.i ((a+b) / 2+m:Nat)),(20,AV.i s0),(21,AV.i r0)],[],[(0,⟨47,19,0,(l).map GObject.enc,none⟩)],8000⟩
  case h=>
   intro K
   refine cS (fun hc=>?_) (fun hc=>?_)
   ·have hgt:m > (a+b) / 2:=by
     have hc:decide ((m:Int) > halfI a b)=true:=hc
     rw [whalf (n:=l.length) (by omega) (by omega) hl] at hc
     have:=of_decide_eq_true hc
     omega
    obtain ⟨rfl,rfl⟩:=p1 hgt
    refine Tp.run [] ?_
    refine Tp.wkL (wkl_of (n1:=1) rfl rfl ?_ ?_ ?_) K
    ·repeat' first|refine Ai ?_ ?_|exact rfl|exact trivial|exact Ei _ rfl|refine lN ?_|refine bS ?_|fail
     ·exact congrArg (fun n=>AV.i n) (whalf (n:=l.length) (by omega) (by omega) hl)
     ·exact congrArg (fun n=>AV.i n) (whm (n:=l.length) (by omega) (by omega) (by omega) hl)
     ·exact congrArg (fun n=>AV.i n) (whmb (n:=l.length) (by omega) (by omega) (by omega) (by omega) hl)
     ·exact congrArg (fun n=>AV.i n) (whalf (n:=l.length) (by omega) (by omega) hl)
    all_goals repeat' first|refine Ai ?_ ?_|exact rfl|exact trivial|exact Ei _ rfl|refine lN ?_|refine bS ?_|fail
   ·have hgt:¬ m > (a+b) / 2:=by
     have hc:decide ((m:Int) > halfI a b)=false:=hc
     rw [whalf (n:=l.length) (by omega) (by omega) hl] at hc
     have:=of_decide_eq_false hc
     omega
    obtain ⟨rfl,rfl⟩:=p2 hgt
    refine Tp.run [] ?_
    refine Tp.wkL (wkl_of (n1:=1) rfl rfl ?_ ?_ ?_) K
    ·repeat' first|refine Ai ?_ ?_|exact rfl|exact trivial|exact Ei _ rfl|refine lN ?_|refine bS ?_|fail
     ·exact congrArg (fun n=>AV.i n) (whalf (n:=l.length) (by omega) (by omega) hl)
     ·exact congrArg (fun n=>AV.i n) (whm (n:=l.length) (by omega) (by omega) (by omega) hl)
    all_goals repeat' first|refine Ai ?_ ?_|exact rfl|exact trivial|exact Ei _ rfl|refine lN ?_|refine bS ?_|fail
  case key=>
   refine Tp.run [40,41,42,43,44] ?_
   refine Tp.loopL (fun x:Nat × Nat × Nat=>⟨[(0,.c (.row 0 0)),(1,.c (.t (iv (a:Int)))),(2,.c (.t (iv (m:Int)))),(3,.c (.t (iv (b:Int)))),(4,.fn g []),(18,AV.i ((a+b) / 2:Nat)),(19,AV.i ((a+b) / 2+m:Nat)),(22,AV.i ((a+b) / 2+m - 1:Nat)),(20,AV.i x.2.1),(21,AV.i x.2.2)],[],[(0,⟨47,19,0,(l).map GObject.enc,none⟩)],10000⟩) (fun x=>s0≤x.2.1∧x.2.1≤x.2.2∧x.2.2≤r0∧x.2.2 - x.2.1≤x.1∧bsr (fun c=>!ltC cf l[(a+b) / 2+m - 1 - c]! l[c]!) x.1 x.2.1 x.2.2=bsr (fun c=>!ltC cf l[(a+b) / 2+m - 1 - c]! l[c]!) (b - a) (s0) (r0)) (fun x=>x.2.2 - x.2.1) (b - a,s0,r0) ?_ ⟨Nat.le_refl _,by simp only;omega,Nat.le_refl _,by simp only;omega,rfl⟩ ?_
   ·refine wkl_of (n1:=1) rfl rfl ?_ ?_ ?_
    ·repeat' first|refine Ai ?_ ?_|exact rfl|exact trivial|exact Ei _ rfl|refine lN ?_|refine bS ?_|fail
     exact congrArg (fun n=>AV.i n) (wsub21 (n:=l.length) (by omega) (by omega) hl)
    all_goals repeat' first|refine Ai ?_ ?_|exact rfl|exact trivial|exact Ei _ rfl|refine lN ?_|refine bS ?_|fail
   rintro ⟨q,i,j⟩ ⟨k1,k2,k3,k4,k5⟩
   simp only at k1 k2 k3 k4 k5
   refine Tp.run [34,36,37,38] ?_
   refine cS (fun hc=>?_) (fun hc=>?_)
   ·have hij:i < j:=by simpa using hc
    obtain ⟨q,rfl⟩:∃ p,q=p+1:=⟨q - 1,by omega⟩
    rw [bsr,if_pos hij] at k5
    have hh:(i+j) / 2 < l.length:=by omega
    have hf:=whalf (i:=i) (j:=j) (n:=l.length) (by omega) (by omega) hl
    have hf1:=whalf1 (i:=i) (j:=j) (n:=l.length) (by omega) (by omega) hl
    refine Tp.run [] ?_
    have hh2:(a+b) / 2+m - 1 - (i+j) / 2 < l.length:=by omega
    have hp:=wpc (p:=(a+b) / 2+m - 1) (i:=i) (j:=j) (n:=l.length) (by omega) (by omega) (by omega) (by omega) hl
    refine Ei ((a+b) / 2+m - 1 - (i+j) / 2) (Ai (hp) (Ai (lmap hh2) ?_))
    refine Ei (GObject.enc l[(a+b) / 2+m - 1 - (i+j) / 2]!) (Ei _ (Ai (mget hh2) (Ai rfl ?_)))
    refine Ei ((i+j) / 2) (Ai (hf) (Ai (lmap hh) ?_))
    refine Ei (GObject.enc l[(i+j) / 2]!) (Ei _ (Ai (mget hh) (Ai rfl ?_)))
    refine cI (hg l[(a+b) / 2+m - 1 - (i+j) / 2]! l[(i+j) / 2]!) ⟨fL (GObject.enc _),fL (GObject.enc _),trivial⟩ (.inl rfl) ?_
    refine cS (fun hc2=>?_) (fun hc2=>?_)
    ·have hq:(fun c=>!ltC cf l[(a+b) / 2+m - 1 - c]! l[c]!) ((i+j) / 2)=true:=hc2
     rw [if_pos hq] at k5
     refine Tp.run [] ?_
     refine Ei (q,(i+j) / 2+1,j) (Ai ⟨by simp only;omega,by simp only;omega,k3,by simp only;omega,k5⟩ (Ai (show j - ((i+j) / 2+1) < j - i by omega) ?_))
     refine wkl_of (n1:=1) rfl rfl ?_ ?_ ?_
     ·repeat' first|refine Ai ?_ ?_|exact rfl|exact trivial|exact Ei _ rfl|refine lN ?_|refine bS ?_|fail
      exact congrArg (fun n=>AV.i n) hf1
     all_goals repeat' first|refine Ai ?_ ?_|exact rfl|exact trivial|exact Ei _ rfl|refine lN ?_|refine bS ?_|fail
    ·have hq:(fun c=>!ltC cf l[(a+b) / 2+m - 1 - c]! l[c]!) ((i+j) / 2)=false:=hc2
     rw [if_neg (fun e=>absurd (e.symm.trans hq) (by decide))] at k5
     refine Tp.run [] ?_
     refine Ei (q,i,(i+j) / 2) (Ai ⟨k1,by simp only;omega,by simp only;omega,by simp only;omega,k5⟩ (Ai (show (i+j) / 2 - i < j - i by omega) ?_))
     refine wkl_of (n1:=1) rfl rfl ?_ ?_ ?_
     ·repeat' first|refine Ai ?_ ?_|exact rfl|exact trivial|exact Ei _ rfl|refine lN ?_|refine bS ?_|fail
      exact congrArg (fun n=>AV.i n) hf
     all_goals repeat' first|refine Ai ?_ ?_|exact rfl|exact trivial|exact Ei _ rfl|refine lN ?_|refine bS ?_|fail
   have hij:i=j:=by
    have:¬ i < j:=by simpa using hc
    omega
   subst hij
   have k5:i=bsr (fun c=>!ltC cf l[(a+b) / 2+m - 1 - c]! l[c]!) (b - a) (s0) (r0):=by
    rw [← k5]
    cases q with
    | zero=>rfl
    | succ q=>rw [bsr,if_neg (Nat.lt_irrefl i)]
   have hs:=k5.trans p3
   have hw:=wsub2 (p:=(a+b) / 2+m) (s:=i) (n:=l.length) (by omega) (by omega) hl
   have he:(fun l2=>if (a+b) / 2 < (a+b) / 2+m - i∧(a+b) / 2+m - i < b then symM (ltC cf) f ((a+b) / 2) ((a+b) / 2+m - i) b l2 else l2) ((fun l1=>if a < i∧i < (a+b) / 2 then symM (ltC cf) f a i ((a+b) / 2) l1 else l1) (if i < m∧m < (a+b) / 2+m - i then rot m (b - a) (m - i) ((a+b) / 2+m - i - m) l else l))=symM (ltC cf) (f+1) a m b l:=by
    rw [symM,if_neg c1,if_neg c2,← hs]
   have hl1:(if i < m∧m < (a+b) / 2+m - i then rot m (b - a) (m - i) ((a+b) / 2+m - i - m) l else l).length=l.length:=by
    split
    ·exact rot_len ..
    ·rfl
   generalize hL:(if i < m∧m < (a+b) / 2+m - i then rot m (b - a) (m - i) ((a+b) / 2+m - i - m) l else l)=L at he hl1
   apply joinL (P:=Tryz.prog) (T:=T) (N:=Tryz.f117.ntmps) (w0:=w0) (O:=O) ⟨[(0,.c (.row 0 0)),(1,.c (.t (iv (a:Int)))),(2,.c (.t (iv (m:Int)))),(3,.c (.t (iv (b:Int)))),(4,.fn g []),(18,AV.i ((a+b) / 2:Nat)),(20,AV.i i),(24,AV.i ((a+b) / 2+m - i:Nat))],[],[(0,⟨47,19,0,(L).map GObject.enc,none⟩)],13000⟩
   case h=>
    intro K
    refine cS (fun hc=>?_) (fun hc=>?_)
    ·have q1:i < m:=by simpa using hc
     refine cS (fun hd=>?_) (fun hd=>?_)
     ·have q2:m < (a+b) / 2+m - i:=by
       have hd:decide ((m:Int) < IntKind.i64.wrap ((((a+b) / 2+m:Nat):Int) - (i:Int)))=true:=hd
       rw [hw] at hd
       have:=of_decide_eq_true hd
       omega
      rw [if_pos ⟨q1,q2⟩] at hL
      refine Tp.run [] ?_
      refine cM [] [(0,0)] (rot_ctm g l i m ((a+b) / 2+m - i) (b - a) (by omega) (by omega) (by omega) (by omega) hl) ?_ ?_ ?_
      ·repeat' first|refine Ai ?_ ?_|exact rfl|exact trivial|exact Ei _ rfl|refine lN ?_|refine bS ?_|fail
       exact congrArg (fun n=>iv n) hw
      ·exact rfl
      refine Tp.wkL (wkl_of (n1:=1) rfl rfl ?_ ?_ ?_) K
      ·repeat' first|refine Ai ?_ ?_|exact rfl|exact trivial|exact Ei _ rfl|refine lN ?_|refine bS ?_|fail
       exact congrArg (fun n=>AV.i n) hw
      ·repeat' first|refine Ai ?_ ?_|exact rfl|exact trivial|exact Ei _ rfl|refine lN ?_|refine bS ?_|fail
      ·repeat' first|refine Ai ?_ ?_|exact rfl|exact trivial|exact Ei _ rfl|refine lN ?_|refine bS ?_|fail
       all_goals exact congrArg (fun z=>some (Row.mk 47 19 0 (z.map GObject.enc) none)) hL
     ·have q2:¬ m < (a+b) / 2+m - i:=by
       have hd:decide ((m:Int) < IntKind.i64.wrap ((((a+b) / 2+m:Nat):Int) - (i:Int)))=false:=hd
       rw [hw] at hd
       have:=of_decide_eq_false hd
       omega
      rw [if_neg (fun h=>q2 h.2)] at hL
      refine Tp.wkL (wkl_of (n1:=1) rfl rfl ?_ ?_ ?_) K
      ·repeat' first|refine Ai ?_ ?_|exact rfl|exact trivial|exact Ei _ rfl|refine lN ?_|refine bS ?_|fail
       exact congrArg (fun n=>AV.i n) hw
      ·repeat' first|refine Ai ?_ ?_|exact rfl|exact trivial|exact Ei _ rfl|refine lN ?_|refine bS ?_|fail
      ·repeat' first|refine Ai ?_ ?_|exact rfl|exact trivial|exact Ei _ rfl|refine lN ?_|refine bS ?_|fail
       all_goals exact congrArg (fun z=>some (Row.mk 47 19 0 (z.map GObject.enc) none)) hL
    ·have q1:¬ i < m:=by simpa using hc
     rw [if_neg (fun h=>q1 h.1)] at hL
     refine Tp.wkL (wkl_of (n1:=1) rfl rfl ?_ ?_ ?_) K
     ·repeat' first|refine Ai ?_ ?_|exact rfl|exact trivial|exact Ei _ rfl|refine lN ?_|refine bS ?_|fail
      exact congrArg (fun n=>AV.i n) hw
     ·repeat' first|refine Ai ?_ ?_|exact rfl|exact trivial|exact Ei _ rfl|refine lN ?_|refine bS ?_|fail
     ·repeat' first|refine Ai ?_ ?_|exact rfl|exact trivial|exact Ei _ rfl|refine lN ?_|refine bS ?_|fail
      all_goals exact congrArg (fun z=>some (Row.mk 47 19 0 (z.map GObject.enc) none)) hL
   case key=>
    refine Tp.run [42,43,44] ?_
    have he:(fun l2=>if (a+b) / 2 < (a+b) / 2+m - i∧(a+b) / 2+m - i < b then symM (ltC cf) f ((a+b) / 2) ((a+b) / 2+m - i) b l2 else l2) (if a < i∧i < (a+b) / 2 then symM (ltC cf) f a i ((a+b) / 2) L else L)=symM (ltC cf) (f+1) a m b l:=he
    have hl2:(if a < i∧i < (a+b) / 2 then symM (ltC cf) f a i ((a+b) / 2) L else L).length=l.length:=by
     split
     ·rw [symM_len];exact hl1
     ·exact hl1
    generalize hL2:(if a < i∧i < (a+b) / 2 then symM (ltC cf) f a i ((a+b) / 2) L else L)=L2 at he hl2
    apply joinL (P:=Tryz.prog) (T:=T) (N:=Tryz.f117.ntmps) (w0:=w0) (O:=O) ⟨[(0,.c (.row 0 0)),(1,.c (.t (iv (a:Int)))),(2,.c (.t (iv (m:Int)))),(3,.c (.t (iv (b:Int)))),(4,.fn g []),(18,AV.i ((a+b) / 2:Nat)),(24,AV.i ((a+b) / 2+m - i:Nat))],[],[(0,⟨47,19,0,(L2).map GObject.enc,none⟩)],16000⟩
    case h=>
     intro K
     refine cS (fun hc=>?_) (fun hc=>?_)
     ·have q1:a < i:=by simpa using hc
      refine cS (fun hd=>?_) (fun hd=>?_)
      ·have q2:i < (a+b) / 2:=by
        have:=of_decide_eq_true hd
        omega
       rw [if_pos ⟨q1,q2⟩] at hL2
       refine Tp.run [] ?_
       refine cM [] [(0,0)] (symM_ctm g cf hg f a i ((a+b) / 2) L q1 q2 (by omega) (by omega) (by rw [hl1];exact hl)) ?_ ?_ ?_
       ·repeat' first|refine Ai ?_ ?_|exact rfl|exact trivial|exact Ei _ rfl|refine lN ?_|refine bS ?_|fail
       ·exact rfl
       refine Tp.wkL (wkl_of (n1:=1) rfl rfl ?_ ?_ ?_) K
       ·repeat' first|refine Ai ?_ ?_|exact rfl|exact trivial|exact Ei _ rfl|refine lN ?_|refine bS ?_|fail
       ·repeat' first|refine Ai ?_ ?_|exact rfl|exact trivial|exact Ei _ rfl|refine lN ?_|refine bS ?_|fail
       ·repeat' first|refine Ai ?_ ?_|exact rfl|exact trivial|exact Ei _ rfl|refine lN ?_|refine bS ?_|fail
        all_goals exact congrArg (fun z=>some (Row.mk 47 19 0 (z.map GObject.enc) none)) hL2
      ·have q2:¬ i < (a+b) / 2:=by
        have:=of_decide_eq_false hd
        omega
       rw [if_neg (fun h=>q2 h.2)] at hL2
       refine Tp.wkL (wkl_of (n1:=1) rfl rfl ?_ ?_ ?_) K
       ·repeat' first|refine Ai ?_ ?_|exact rfl|exact trivial|exact Ei _ rfl|refine lN ?_|refine bS ?_|fail
       ·repeat' first|refine Ai ?_ ?_|exact rfl|exact trivial|exact Ei _ rfl|refine lN ?_|refine bS ?_|fail
       ·repeat' first|refine Ai ?_ ?_|exact rfl|exact trivial|exact Ei _ rfl|refine lN ?_|refine bS ?_|fail
        all_goals exact congrArg (fun z=>some (Row.mk 47 19 0 (z.map GObject.enc) none)) hL2
     ·have q1:¬ a < i:=by simpa using hc
      rw [if_neg (fun h=>q1 h.1)] at hL2
      refine Tp.wkL (wkl_of (n1:=1) rfl rfl ?_ ?_ ?_) K
      ·repeat' first|refine Ai ?_ ?_|exact rfl|exact trivial|exact Ei _ rfl|refine lN ?_|refine bS ?_|fail
      ·repeat' first|refine Ai ?_ ?_|exact rfl|exact trivial|exact Ei _ rfl|refine lN ?_|refine bS ?_|fail
      ·repeat' first|refine Ai ?_ ?_|exact rfl|exact trivial|exact Ei _ rfl|refine lN ?_|refine bS ?_|fail
       all_goals exact congrArg (fun z=>some (Row.mk 47 19 0 (z.map GObject.enc) none)) hL2
    case key=>
     have he:(if (a+b) / 2 < (a+b) / 2+m - i∧(a+b) / 2+m - i < b then symM (ltC cf) f ((a+b) / 2) ((a+b) / 2+m - i) b L2 else L2)=symM (ltC cf) (f+1) a m b l:=he
     refine Tp.run [44] ?_
     refine cS (fun hc=>?_) (fun hc=>?_)
     ·have q1:(a+b) / 2 < (a+b) / 2+m - i:=by
       have:=of_decide_eq_true hc
       omega
      refine cS (fun hd=>?_) (fun hd=>?_)
      ·have q2:(a+b) / 2+m - i < b:=by
        have:=of_decide_eq_true hd
        omega
       rw [if_pos ⟨q1,q2⟩] at he
       refine Tp.run [] ?_
       refine cM [] [(0,0)] (symM_ctm g cf hg f ((a+b) / 2) ((a+b) / 2+m - i) b L2 q1 q2 (by omega) (by omega) (by rw [hl2];exact hl)) ?_ ?_ ?_
       ·repeat' first|refine Ai ?_ ?_|exact rfl|exact trivial|exact Ei _ rfl|refine lN ?_|refine bS ?_|fail
       ·exact rfl
       refine Ei [(0,0)] (Ai (Ai rfl (Ai ?_ (Ai ?_ ?_))) ?_)
       ·repeat' first|refine Ai ?_ ?_|exact rfl|exact trivial|exact Ei _ rfl|refine lN ?_|refine bS ?_|fail
        all_goals exact congrArg (List.map GObject.enc) he
       all_goals repeat' first|refine Ai ?_ ?_|exact rfl|exact trivial|exact Ei _ rfl|refine lN ?_|refine bS ?_|fail
      ·have q2:¬ (a+b) / 2+m - i < b:=by
        have:=of_decide_eq_false hd
        omega
       rw [if_neg (fun h=>q2 h.2)] at he
       refine Ei [(0,0)] (Ai (Ai rfl (Ai ?_ (Ai ?_ ?_))) ?_)
       ·repeat' first|refine Ai ?_ ?_|exact rfl|exact trivial|exact Ei _ rfl|refine lN ?_|refine bS ?_|fail
        all_goals exact congrArg (List.map GObject.enc) he
       all_goals repeat' first|refine Ai ?_ ?_|exact rfl|exact trivial|exact Ei _ rfl|refine lN ?_|refine bS ?_|fail
     ·have q1:¬ (a+b) / 2 < (a+b) / 2+m - i:=by
       have:=of_decide_eq_false hc
       omega
      rw [if_neg (fun h=>q1 h.1)] at he
      refine Ei [(0,0)] (Ai (Ai rfl (Ai ?_ (Ai ?_ ?_))) ?_)
      ·repeat' first|refine Ai ?_ ?_|exact rfl|exact trivial|exact Ei _ rfl|refine lN ?_|refine bS ?_|fail
       all_goals exact congrArg (List.map GObject.enc) he
      all_goals repeat' first|refine Ai ?_ ?_|exact rfl|exact trivial|exact Ei _ rfl|refine lN ?_|refine bS ?_|fail
theorem wmul2 {s n:Nat} (h:s≤n+n) (hn:n*128≤limB):IntKind.i64.wrap (2*(s:Int))=((2*s:Nat):Int):=by
 rw [IntKind.wrap_i64]
 unfold limB at hn
 omega
theorem wmul2' {s n:Nat} (h:s≤n+n) (hn:n*128≤limB):IntKind.i64.wrap ((s:Int)*2)=((2*s:Nat):Int):=by
 rw [IntKind.wrap_i64]
 unfold limB at hn
 omega
theorem wadd4 {a b n:Nat} (h:a≤n+n+n) (h2:b≤n+n+n) (hn:n*128≤limB):IntKind.i64.wrap ((a:Int)+(b:Int))=((a+b:Nat):Int):=by
 rw [IntKind.wrap_i64]
 unfold limB at hn
 omega
theorem wadd20 {a n:Nat} (h:a≤n+20) (hn:n*128≤limB):IntKind.i64.wrap ((a:Int)+20)=((a+20:Nat):Int):=by
 rw [IntKind.wrap_i64]
 unfold limB at hn
 omega
theorem stable_ctm (g:Nat) (cf:GObject→GObject→Int) (hg:CmpO g cf) (l:List GObject) (n:Nat) (hn:n=l.length) (hl:l.length*128≤limB):CtM Tryz.prog 76 [.c (.row 0 0),.c (.t (iv (n:Int))),.fn g []] [] [⟨47,19,0,(l).map GObject.enc,none⟩] (.tup []) [] [⟨47,19,0,(stab (ltC cf) l).map GObject.enc,none⟩] []:=by
 have hl:n*128≤limB:=by rw [hn];exact hl
 refine ctm_of 1 Tryz.func76 rfl (enters_of Tryz.func76 (by kernel_rfl) rfl) tabOk (by kernel_rfl) rfl rfl rfl rfl rfl fun w0 O _=>Tp.run [6] ?_
 refine Tp.loopL (fun x:Nat × Nat × List GObject=>⟨[(0,.c (.row 0 0)),(1,.c (.t (iv (n:Int)))),(2,.fn g []),(6,AV.i 20),(7,AV.i x.2.1),(8,AV.i (x.2.1+20:Nat))],[],[(0,⟨47,19,0,(x.2.2).map GObject.enc,none⟩)],10000⟩) (fun x=>x.2.1≤n∧n - x.2.1 < x.1∧x.2.2.length=n∧blk1 (ltC cf) 20 n x.1 x.2.1 x.2.2=blk1 (ltC cf) 20 n (n+1) 0 l) (fun x=>n - x.2.1) (n+1,0,l) ?_ ⟨Nat.zero_le _,by simp only;omega,hn.symm,rfl⟩ ?_
 ·refine wkl_of (n1:=1) rfl rfl ?_ ?_ ?_
  all_goals repeat' first|refine Ai ?_ ?_|exact rfl|exact trivial|exact Ei _ rfl|refine lN ?_|refine bS ?_|fail
 rintro ⟨q,a,X⟩ ⟨g1,g2,hX,he⟩
 simp only at g1 g2 hX he
 obtain ⟨q,rfl⟩:∃ p,q=p+1:=⟨q - 1,by omega⟩
 refine Tp.run [3] ?_
 refine cS (fun hc=>?_) (fun hc=>?_)
 ·have hlt:a+20≤n:=by
   have hc:decide (((a+20:Nat):Int)≤(n:Int))=true:=hc
   have:=of_decide_eq_true hc
   omega
  rw [blk1,if_pos hlt] at he
  have hi:=insS_ctm g cf hg X a (a+20) (by omega) (by omega) (by rw [hX];exact hl)
  rw [show a+20 - (a+1)=20 - 1 by omega] at hi
  refine Tp.run [] ?_
  refine cM [] [(0,0)] hi ?_ ?_ ?_
  ·repeat' first|refine Ai ?_ ?_|exact rfl|exact trivial|exact Ei _ rfl|refine lN ?_|refine bS ?_|fail
  ·exact rfl
  refine Ei (q,a+20,insS (ltC cf) a (20 - 1) (a+1) X) (Ai ⟨hlt,by simp only;omega,by simp only;rw [insS_len];exact hX,he⟩ (Ai (show n - (a+20) < n - a by omega) ?_))
  refine wkl_of (n1:=1) rfl rfl ?_ ?_ ?_
  ·repeat' first|refine Ai ?_ ?_|exact rfl|exact trivial|exact Ei _ rfl|refine lN ?_|refine bS ?_|fail
   exact congrArg (fun n=>AV.i n) (wadd20 (a:=a+20) (n:=n) (by omega) hl)
  all_goals repeat' first|refine Ai ?_ ?_|exact rfl|exact trivial|exact Ei _ rfl|refine lN ?_|refine bS ?_|fail
 have hlt:¬ a+20≤n:=by
  have hc:decide (((a+20:Nat):Int)≤(n:Int))=false:=hc
  have:=of_decide_eq_false hc
  omega
 rw [blk1,if_neg hlt] at he
 have hi:=insS_ctm g cf hg X a n g1 (by omega) (by rw [hX];exact hl)
 refine Tp.run [] ?_
 refine cM [] [(0,0)] hi ?_ ?_ ?_
 ·repeat' first|refine Ai ?_ ?_|exact rfl|exact trivial|exact Ei _ rfl|refine lN ?_|refine bS ?_|fail
 ·exact rfl
 have hX2:(insS (ltC cf) a (n - (a+1)) (a+1) X).length=n:=by rw [insS_len];exact hX
 rw [he] at hX2
 rw [he]
 have hst:stab (ltC cf) l=blk3 (ltC cf) n (n+1) 20 (blk1 (ltC cf) 20 n (n+1) 0 l):=by rw [stab,← hn]
 generalize blk1 (ltC cf) 20 n (n+1) 0 l=Y at hX2 hst
 clear he hi g1 g2 hlt hX hc
 refine Tp.loopL (fun x:Nat × Nat × List GObject=>⟨[(0,.c (.row 0 0)),(1,.c (.t (iv (n:Int)))),(2,.fn g []),(6,AV.i x.2.1)],[],[(0,⟨47,19,0,(x.2.2).map GObject.enc,none⟩)],20000⟩) (fun x=>0 < x.2.1∧n < x.2.1+x.1∧x.2.2.length=n∧blk3 (ltC cf) n x.1 x.2.1 x.2.2=stab (ltC cf) l) (fun x=>n - x.2.1) (n+1,20,Y) ?_ ⟨by simp only;omega,by simp only;omega,hX2,hst.symm⟩ ?_
 ·refine wkl_of (n1:=1) rfl rfl ?_ ?_ ?_
  all_goals repeat' first|refine Ai ?_ ?_|exact rfl|exact trivial|exact Ei _ rfl|refine lN ?_|refine bS ?_|fail
 rintro ⟨q,s,Z⟩ ⟨hs0,hq,hZ,he⟩
 simp only at hs0 hq hZ he
 refine Tp.run [8,15,16] ?_
 refine cS (fun hc=>?_) (fun hc=>?_)
 ·have hsn:s < n:=by simpa using hc
  obtain ⟨q,rfl⟩:∃ p,q=p+1:=⟨q - 1,by omega⟩
  rw [blk3,if_pos hsn] at he
  have w2:=wmul2 (s:=s) (n:=n) (by omega) hl
  refine Tp.run [16] ?_
  refine Tp.loopL (fun x:Nat × Nat × List GObject=>⟨[(0,.c (.row 0 0)),(1,.c (.t (iv (n:Int)))),(2,.fn g []),(6,AV.i s),(7,AV.i x.2.1),(8,AV.i (x.2.1+2*s:Nat))],[],[(0,⟨47,19,0,(x.2.2).map GObject.enc,none⟩)],30000⟩) (fun x=>x.2.1≤n∧n - x.2.1 < x.1∧x.2.2.length=n∧blk2 (ltC cf) s n x.1 x.2.1 x.2.2=blk2 (ltC cf) s n (n+1) 0 Z) (fun x=>n - x.2.1) (n+1,0,Z) ?_ ⟨Nat.zero_le _,by simp only;omega,hZ,rfl⟩ ?_
  ·refine wkl_of (n1:=1) rfl rfl ?_ ?_ ?_
   ·repeat' first|refine Ai ?_ ?_|exact rfl|exact trivial|exact Ei _ rfl|refine lN ?_|refine bS ?_|fail
    exact congrArg (fun n=>AV.i n) (w2.trans (show ((2*s:Nat):Int)=((0+2*s:Nat):Int) by rw [Nat.zero_add]))
   all_goals repeat' first|refine Ai ?_ ?_|exact rfl|exact trivial|exact Ei _ rfl|refine lN ?_|refine bS ?_|fail
  rintro ⟨p,a,X⟩ ⟨g1,g2,hX,hk⟩
  simp only at g1 g2 hX hk
  obtain ⟨p,rfl⟩:∃ r,p=r+1:=⟨p - 1,by omega⟩
  refine Tp.run [10,14,15,16] ?_
  refine cS (fun hc=>?_) (fun hc=>?_)
  ·have hlt:a+2*s≤n:=by
    have hc:decide (((a+2*s:Nat):Int)≤(n:Int))=true:=hc
    have:=of_decide_eq_true hc
    omega
   rw [blk2,if_pos hlt] at hk
   have w3:=wadd4 (a:=a+2*s) (b:=2*s) (n:=n) (by omega) (by omega) hl
   refine Tp.run [] ?_
   refine cM [] [(0,0)] (symM_ctm g cf hg (2*s) a (a+s) (a+2*s) X (by omega) (by omega) (by omega) (by omega) (by rw [hX];exact hl)) ?_ ?_ ?_
   ·repeat' first|refine Ai ?_ ?_|exact rfl|exact trivial|exact Ei _ rfl|refine lN ?_|refine bS ?_|fail
    exact congrArg (fun n=>iv n) (wadd4 (a:=a) (b:=s) (n:=n) (by omega) (by omega) hl)
   ·exact rfl
   refine Ei (p,a+2*s,symM (ltC cf) (2*s) a (a+s) (a+2*s) X) (Ai ⟨hlt,by simp only;omega,by simp only;rw [symM_len];exact hX,hk⟩ (Ai (show n - (a+2*s) < n - a by omega) ?_))
   refine wkl_of (n1:=1) rfl rfl ?_ ?_ ?_
   ·repeat' first|refine Ai ?_ ?_|exact rfl|exact trivial|exact Ei _ rfl|refine lN ?_|refine bS ?_|fail
    refine congrArg (fun n=>AV.i n) ?_
    show IntKind.i64.wrap (((a+2*s:Nat):Int)+IntKind.i64.wrap (2*(s:Int)))=_
    rw [w2,w3]
   all_goals repeat' first|refine Ai ?_ ?_|exact rfl|exact trivial|exact Ei _ rfl|refine lN ?_|refine bS ?_|fail
  have hlt:¬ a+2*s≤n:=by
   have hc:decide (((a+2*s:Nat):Int)≤(n:Int))=false:=hc
   have:=of_decide_eq_false hc
   omega
  rw [blk2,if_neg hlt] at hk
  have w1:=wadd4 (a:=a) (b:=s) (n:=n) (by omega) (by omega) hl
  refine cS (fun hc=>?_) (fun hc=>?_)
  ·have hm:a+s < n:=by
    have hc:decide (IntKind.i64.wrap ((a:Int)+(s:Int)) < (n:Int))=true:=hc
    rw [w1] at hc
    have:=of_decide_eq_true hc
    omega
   rw [if_pos hm] at hk
   refine Tp.run [] ?_
   refine cM [] [(0,0)] (symM_ctm g cf hg (n - a) a (a+s) n X (by omega) hm (by omega) (Nat.le_refl _) (by rw [hX];exact hl)) ?_ ?_ ?_
   ·repeat' first|refine Ai ?_ ?_|exact rfl|exact trivial|exact Ei _ rfl|refine lN ?_|refine bS ?_|fail
    exact congrArg (fun n=>iv n) w1
   ·exact rfl
   rw [hk]
   have hX3:(blk2 (ltC cf) s n (n+1) 0 Z).length=n:=by rw [blk2_len];exact hZ
   refine Tp.run [] ?_
   refine Ei (q,2*s,blk2 (ltC cf) s n (n+1) 0 Z) (Ai ⟨by simp only;omega,by simp only;omega,hX3,he⟩ (Ai (show n - 2*s < n - s by omega) ?_))
   refine wkl_of (n1:=1) rfl rfl ?_ ?_ ?_
   ·repeat' first|refine Ai ?_ ?_|exact rfl|exact trivial|exact Ei _ rfl|refine lN ?_|refine bS ?_|fail
    exact congrArg (fun n=>AV.i n) (wmul2' (s:=s) (n:=n) (by omega) hl)
   all_goals repeat' first|refine Ai ?_ ?_|exact rfl|exact trivial|exact Ei _ rfl|refine lN ?_|refine bS ?_|fail
  ·have hm:¬ a+s < n:=by
    have hc:decide (IntKind.i64.wrap ((a:Int)+(s:Int)) < (n:Int))=false:=hc
    rw [w1] at hc
    have:=of_decide_eq_false hc
    omega
   rw [if_neg hm] at hk
   subst hk
   refine Tp.run [] ?_
   refine Ei (q,2*s,blk2 (ltC cf) s n (n+1) 0 Z) (Ai ⟨by simp only;omega,by simp only;omega,hX,he⟩ (Ai (show n - 2*s < n - s by omega) ?_))
   refine wkl_of (n1:=1) rfl rfl ?_ ?_ ?_
   ·repeat' first|refine Ai ?_ ?_|exact rfl|exact trivial|exact Ei _ rfl|refine lN ?_|refine bS ?_|fail
    exact congrArg (fun n=>AV.i n) (wmul2' (s:=s) (n:=n) (by omega) hl)
   all_goals repeat' first|refine Ai ?_ ?_|exact rfl|exact trivial|exact Ei _ rfl|refine lN ?_|refine bS ?_|fail
 ·have hsn:¬ s < n:=by simpa using hc
  have he:Z=stab (ltC cf) l:=by
   rw [← he]
   cases q with
   | zero=>rfl
   | succ q=>rw [blk3,if_neg hsn]
  refine Ei [(0,0)] (Ai (Ai rfl (Ai ?_ (Ai ?_ ?_))) ?_)
  ·repeat' first|refine Ai ?_ ?_|exact rfl|exact trivial|exact Ei _ rfl|refine lN ?_|refine bS ?_|fail
   all_goals exact congrArg (List.map GObject.enc) he
  all_goals repeat' first|refine Ai ?_ ?_|exact rfl|exact trivial|exact Ei _ rfl|refine lN ?_|refine bS ?_|fail
theorem sortStable_ctm (g:Nat) (cf:GObject→GObject→Int) (hg:CmpO g cf) (l:List GObject) (hl:l.length*128≤limB):CtM Tryz.prog 31 [.c (.row 0 0),.fn g []] [] [⟨47,19,0,(l).map GObject.enc,none⟩] (.tup []) [] [⟨47,19,0,(stab (ltC cf) l).map GObject.enc,none⟩] []:=by
 refine ctm_of 1 Tryz.func31 rfl (enters_of Tryz.func31 (by kernel_rfl) rfl) tabOk (by kernel_rfl) rfl rfl rfl rfl rfl fun w0 O _=>Tp.run [] ?_
 refine cM [] [(0,0)] (stable_ctm g cf hg l (l.map GObject.enc).length (Lm ..) hl) ?_ ?_ ?_
 ·repeat' first|refine Ai ?_ ?_|exact rfl|exact trivial|exact Ei _ rfl|refine lN ?_|refine bS ?_|fail
 ·exact rfl
 have he:stab (ltC cf) l=stab (ltC cf) l:=rfl
 refine Ei [(0,0)] (Ai (Ai rfl (Ai ?_ (Ai ?_ ?_))) ?_)
 ·repeat' first|refine Ai ?_ ?_|exact rfl|exact trivial|exact Ei _ rfl|refine lN ?_|refine bS ?_|fail
  all_goals exact congrArg (List.map GObject.enc) he
 all_goals repeat' first|refine Ai ?_ ?_|exact rfl|exact trivial|exact Ei _ rfl|refine lN ?_|refine bS ?_|fail
def cellsN (s:GState):List Ce:=[.row 9000 0,.row 9001 0,.row 9002 0,.row 9003 0,.row 9004 0,.row 9005 0,.row 9006 0]++(s.enc.drop 7).map .t
def tmP (m:List (Int × Int)) (n:Int):Int:=(mpGet m n).getD 0
def cfO (a b:GObject):Int:=if a.id < b.id then -1 else if a.id > b.id then 1 else 0
def normP (rm tm:List (Int × Int)) (s:GState):GState:={ s with players:=s.players.map (plN (idP rm)),objects:=stab (ltC cfO) (s.objects.map (obN (idP rm) (tmP tm))),battlefield:=s.battlefield.map (idP rm),exile:=s.exile.map (idP rm),stack:=s.stack.map (itN (idP rm)),waiting:=s.waiting.map (waN (idP rm)),conts:=s.conts.map (coN (idP rm) (tmP tm)),nextId:=1,nextStamp:=1,seed:=0,turn:=0 }
theorem set2_last {α:Type} {xs ys:List α} {i:Nat} {t v:α} (h:xs.set i v=ys):(xs.set i t).set i v=ys:=by
 rw [List.set_set]
 exact h
theorem set4_last {α:Type} {xs ys:List α} {i:Nat} {t u w v:α} (h:xs.set i v=ys):(((xs.set i t).set i u).set i w).set i v=ys:=by
 rw [List.set_set,List.set_set,List.set_set]
 exact h
def plA (ρ:Int→Int) (x:GPlayer):GPlayer:=⟨x.life,x.venom,x.lands,x.pool0,x.pool1,x.pool2,x.pool3,x.pool4,x.pool5,x.failed,x.lost,x.library.map ρ,x.hand,x.graveyard⟩
def plB (ρ:Int→Int) (x:GPlayer):GPlayer:=⟨x.life,x.venom,x.lands,x.pool0,x.pool1,x.pool2,x.pool3,x.pool4,x.pool5,x.failed,x.lost,x.library.map ρ,x.hand.map ρ,x.graveyard⟩
def obA (ρ:Int→Int) (x:GObject):GObject:=⟨ρ x.id,x.card,x.owner,x.control,x.zone,x.token,x.tapped,x.sick,x.deadly,x.damage,x.counters0,x.counters1,x.counters2,x.stamp,x.copy,x.attack,x.blocked,x.blocks,x.shield⟩
def obB (ρ:Int→Int) (x:GObject):GObject:=⟨ρ x.id,x.card,x.owner,x.control,x.zone,x.token,x.tapped,x.sick,x.deadly,x.damage,x.counters0,x.counters1,x.counters2,x.stamp,x.copy,x.attack,x.blocked,ρ x.blocks,x.shield⟩
def itA (ρ:Int→Int) (x:GItem):GItem:=⟨ρ x.id,x.kind,x.source,x.control,x.x,x.copy,x.ability,x.targets,x.event⟩
def itB (ρ:Int→Int) (x:GItem):GItem:=⟨ρ x.id,x.kind,ρ x.source,x.control,x.x,x.copy,x.ability,x.targets,x.event⟩
def itC (ρ:Int→Int) (x:GItem):GItem:=⟨ρ x.id,x.kind,ρ x.source,x.control,x.x,x.copy,x.ability,x.targets,evN ρ x.event⟩
def waA (ρ:Int→Int) (x:GWaiting):GWaiting:=⟨ρ x.source,x.control,x.ability,x.event⟩
def coA (ρ:Int→Int) (x:GCont):GCont:=⟨x.stamp,x.control,ρ x.source,x.until_,x.objects,x.mods⟩
def coB (ρ τ:Int→Int) (x:GCont):GCont:=⟨τ x.stamp,x.control,ρ x.source,x.until_,x.objects,x.mods⟩
theorem set3_last {α:Type} {xs ys:List α} {i:Nat} {t u v:α} (h:xs.set i v=ys):((xs.set i t).set i u).set i v=ys:=by
 rw [List.set_set,List.set_set]
 exact h
theorem nan_ct (n:Int):Ct Tryz.prog 77 [.c (.t (iv n))] (AV.b false) [] true:=by
 rw [show false=(n != n) by simp]
 refine Ct.lit (b:=false) ?_ rfl
 refine ct_of Tryz.func77 rfl (enters_of Tryz.func77 (by kernel_rfl) rfl) tabOk (by kernel_rfl) rfl rfl rfl rfl fun w0 O _=>Tp.run [] ?_
 refine Ei [] (Ai rfl (Ai ?_ ?_))
 all_goals repeat' first|refine Ai ?_ ?_|exact rfl|exact trivial|exact Ei _ rfl|refine lN ?_|refine bS ?_|fail
def cmpI (a b:Int):Int:=if a < b then -1 else if a > b then 1 else 0
theorem cmpI_ct (a b:Int):Ct Tryz.prog 33 [.c (.t (iv a)),.c (.t (iv b))] (AV.i (cmpI a b)) [] true:=by
 refine Ct.lit (b:=false) ?_ rfl
 generalize hM:cmpI a b=M
 refine ct_of Tryz.func33 rfl (enters_of Tryz.func33 (by kernel_rfl) rfl) tabOk (by kernel_rfl) rfl rfl rfl rfl fun w0 O _=>Tp.run [4,5,6,7,8,9,10,11,12,13] ?_
 refine cI (nan_ct a) ⟨rfl,trivial⟩ (.inl rfl) ?_
 refine cI (nan_ct b) ⟨rfl,trivial⟩ (.inl rfl) ?_
 refine Tp.run [] ?_
 refine Tp.run [] ?_
 refine cS (fun h1=>?_) (fun h1=>?_)
 ·have:M = -1:=by rw [← hM,cmpI,if_pos (of_decide_eq_true h1)]
  subst this
  refine Tp.run [] ?_
  refine Ei [] (Ai rfl (Ai ?_ ?_))
  all_goals repeat' first|refine Ai ?_ ?_|exact rfl|exact trivial|exact Ei _ rfl|refine lN ?_|refine bS ?_|fail
 refine Tp.run [] ?_
 refine cS (fun h2=>?_) (fun h2=>?_)
 ·have:M=1:=by rw [← hM,cmpI,if_neg (of_decide_eq_false h1),if_pos (of_decide_eq_true h2)]
  subst this
  refine Tp.run [] ?_
  refine Ei [] (Ai rfl (Ai ?_ ?_))
  all_goals repeat' first|refine Ai ?_ ?_|exact rfl|exact trivial|exact Ei _ rfl|refine lN ?_|refine bS ?_|fail
 ·have:M=0:=by rw [← hM,cmpI,if_neg (of_decide_eq_false h1),if_neg (of_decide_eq_false h2)]
  subst this
  refine Tp.run [] ?_
  refine Ei [] (Ai rfl (Ai ?_ ?_))
  all_goals repeat' first|refine Ai ?_ ?_|exact rfl|exact trivial|exact Ei _ rfl|refine lN ?_|refine bS ?_|fail
theorem cmpO_ct:CmpO 32 cfO:=fun x y=>by
 refine Ct.lit (b:=false) ?_ rfl
 refine ct_of Tryz.func32 rfl (enters_of Tryz.func32 (by kernel_rfl) rfl) tabOk (by kernel_rfl) rfl rfl rfl rfl fun w0 O _=>Tp.run [] ?_
 refine cI (cmpI_ct x.id y.id) ⟨rfl,rfl,trivial⟩ (.inl rfl) ?_
 refine Ei [] (Ai rfl (Ai ?_ ?_))
 all_goals repeat' first|refine Ai ?_ ?_|exact rfl|exact trivial|exact Ei _ rfl|refine lN ?_|refine bS ?_|fail
theorem normP_ct (s:GState) (h:s.ok) (hs:SmL s) (hcl:∀ c∈s.conts,c.objects.length≤1000000):Ct Tryz.prog 10 [.agg (s.enc.map .t)] (.agg ((normP (tagI 1 (idsM s)) (tagI 1 (stampsM s)) s).enc.map .t)) [] false:=by
 have hr:=ranks_ct s hs h
 have ht:=stamps_ct s hs h
 generalize tagI 1 (idsM s)=rm at hr ⊢
 generalize tagI 1 (stampsM s)=tm at ht ⊢
 have hcp:=copyN_ct s h
 obtain ⟨hp,hp2,ho,ho2,hb,hx,hst,hst2,hw,hw2,hc,hc2,hxt⟩:=h
 refine ct_of Tryz.func10 rfl (enters_of Tryz.func10 (by kernel_rfl) rfl) tabOk (by kernel_rfl) rfl rfl rfl rfl fun w0 O _=>Tp.run [3,12,18,30,36,42] ?_
 refine cI hcp ⟨fL s.enc,trivial⟩ (.inr rfl) ?_
 refine cI hr ⟨?_,trivial⟩ (.inl rfl) ?_
 ·repeat' first|refine Ai ?_ ?_|exact rfl|exact trivial|exact Ei _ rfl|refine lN ?_|refine bS ?_|fail
 refine cI ht ⟨?_,trivial⟩ (.inl rfl) ?_
 ·repeat' first|refine Ai ?_ ?_|exact rfl|exact trivial|exact Ei _ rfl|refine lN ?_|refine bS ?_|fail
 refine Tp.frz [384,385,386,387,388,389,390] (Tp.run [] ?_)
 refine cM [] [(386,0)] (list_ctm rm s.battlefield hb) ?_ ?_ ?_
 ·repeat' first|refine Ai ?_ ?_|exact rfl|exact trivial|exact Ei _ rfl|refine lN ?_|refine bS ?_|fail
 ·repeat' first|refine Ai ?_ ?_|exact rfl|exact trivial|exact Ei _ rfl|refine lN ?_|refine bS ?_|fail
 refine cM [] [(387,0)] (list_ctm rm s.exile hx) ?_ ?_ ?_
 ·repeat' first|refine Ai ?_ ?_|exact rfl|exact trivial|exact Ei _ rfl|refine lN ?_|refine bS ?_|fail
 ·repeat' first|refine Ai ?_ ?_|exact rfl|exact trivial|exact Ei _ rfl|refine lN ?_|refine bS ?_|fail
 refine Tp.loop (fun k:Nat=>⟨[(1,.ptr 0 0),(2,.ptr 128 0),(3,.ptr 1280 0),(4,.c (.t (mpT tm))),(32,AV.i (s.players.map GPlayer.enc).length),(33,AV.i k)],[(0,cellsN s),(128,List.replicate 19 .bot),(1280,[.t (mpT rm)])],[(9000,⟨44,14,0,(pmF (plN (idP rm)) k s.players).map GPlayer.enc,some ⟨plD,s.players.length,[]⟩⟩),(9001,⟨47,19,0,(s.objects).map GObject.enc,none⟩),(9002,⟨3,1,0,(s.battlefield.map (idP rm)).map eI,none⟩),(9003,⟨3,1,0,(s.exile.map (idP rm)).map eI,none⟩),(9004,⟨91,94,0,(s.stack).map GItem.enc,some ⟨stD,s.stack.length,[]⟩⟩),(9005,⟨97,89,0,(s.waiting).map GWaiting.enc,none⟩),(9006,⟨100,6,0,(s.conts).map GCont.enc,some ⟨coD,s.conts.length,[]⟩⟩)],10000⟩) (fun k=>k≤s.players.length) (fun k=>s.players.length - k) 0 ?_ (Nat.zero_le _) ?_
 ·refine wk_of [(9000,384),(9001,385),(9002,386),(9003,387),(9004,388),(9005,389),(9006,390)] rfl rfl ?_ ?_ ?_
  all_goals repeat' first|refine Ai ?_ ?_|exact rfl|exact trivial|exact Ei _ rfl|refine lN ?_|refine bS ?_|fail
 rintro k hk
 refine Tp.run [8,9,10,11,12] ?_
 refine cS (fun h=>?_) (fun h=>?_)
 ·have hlt:k < s.players.length:=len_lt h
  have KL:=pmm_len (plN (idP rm)) GPlayer.enc hlt
  obtain ⟨l1,l2,l3⟩:=hp2 _ (List.getElem_mem hlt)
  have G0:=pmm_get (plN (idP rm)) GPlayer.enc hlt
  have G1:(((pmF (plN (idP rm)) k s.players).map GPlayer.enc).set k (GPlayer.enc (plA (idP rm) s.players[k])))[k]? = some (GPlayer.enc (plA (idP rm) s.players[k])):=List.getElem?_set_self KL
  have G2:((((pmF (plN (idP rm)) k s.players).map GPlayer.enc).set k (GPlayer.enc (plA (idP rm) s.players[k]))).set k (GPlayer.enc (plB (idP rm) s.players[k])))[k]? = some (GPlayer.enc (plB (idP rm) s.players[k])):=List.getElem?_set_self (by rw [List.length_set];exact KL)
  refine Tp.take 9000 k 11 3 1 (ts:=GPlayer.enc s.players[k]) (ys:=s.players[k].library.map eI) rfl rfl rfl (by simp [plD]) hlt G0 rfl ?_
  refine Tp.run [] ?_
  refine Ei k (Ai rfl (Ai KL ?_))
  refine Ai rfl (Ai KL (Ai (Nb rfl) ?_))
  refine cM [] [(10384,0)] (list_ctm rm s.players[k].library l1) ?_ ?_ ?_
  ·repeat' first|refine Ai ?_ ?_|exact rfl|exact trivial|exact Ei _ rfl|refine lN ?_|refine bS ?_|fail
  ·repeat' first|refine Ai ?_ ?_|exact rfl|exact trivial|exact Ei _ rfl|refine lN ?_|refine bS ?_|fail
  refine Tp.put 9000 k s.players.length (ts:=GPlayer.enc s.players[k]) (ts':=GPlayer.enc (plA (idP rm) s.players[k])) rfl rfl G0 rfl (Ai rfl trivial) rfl (.inl (Ai rfl hlt)) ?_
  refine Tp.take 9000 k 12 3 1 (ts:=GPlayer.enc (plA (idP rm) s.players[k])) (ys:=s.players[k].hand.map eI) rfl rfl rfl (by simp [plD]) hlt G1 rfl ?_
  refine Tp.run [] ?_
  refine Ei k (Ai rfl (Ai (by rw [List.length_set];exact KL) ?_))
  refine Ai rfl (Ai (by rw [List.length_set];exact KL) (Ai (Nb rfl) ?_))
  refine cM [] [(11409,0)] (list_ctm rm s.players[k].hand l2) ?_ ?_ ?_
  ·repeat' first|refine Ai ?_ ?_|exact rfl|exact trivial|exact Ei _ rfl|refine lN ?_|refine bS ?_|fail
  ·repeat' first|refine Ai ?_ ?_|exact rfl|exact trivial|exact Ei _ rfl|refine lN ?_|refine bS ?_|fail
  refine Tp.put 9000 k s.players.length (ts:=GPlayer.enc (plA (idP rm) s.players[k])) (ts':=GPlayer.enc (plB (idP rm) s.players[k])) rfl rfl G1 rfl (Ai rfl trivial) rfl (.inl (Ai rfl hlt)) ?_
  refine Tp.take 9000 k 13 3 1 (ts:=GPlayer.enc (plB (idP rm) s.players[k])) (ys:=s.players[k].graveyard.map eI) rfl rfl rfl (by simp [plD]) hlt G2 rfl ?_
  refine Tp.run [] ?_
  refine Ei k (Ai rfl (Ai (by rw [List.length_set,List.length_set];exact KL) ?_))
  refine Ai rfl (Ai (by rw [List.length_set,List.length_set];exact KL) (Ai (Nb rfl) ?_))
  refine cM [] [(12434,0)] (list_ctm rm s.players[k].graveyard l3) ?_ ?_ ?_
  ·repeat' first|refine Ai ?_ ?_|exact rfl|exact trivial|exact Ei _ rfl|refine lN ?_|refine bS ?_|fail
  ·repeat' first|refine Ai ?_ ?_|exact rfl|exact trivial|exact Ei _ rfl|refine lN ?_|refine bS ?_|fail
  refine Tp.put 9000 k s.players.length (ts:=GPlayer.enc (plB (idP rm) s.players[k])) (ts':=GPlayer.enc (plN (idP rm) s.players[k])) rfl rfl G2 rfl (Ai rfl trivial) rfl (.inl (Ai rfl hlt)) ?_
  refine Tp.run [] ?_
  refine Ei (k+1) (Ai (show k+1≤_ by omega) (Ai (show s.players.length - (k+1) < s.players.length - k by omega) ?_))
  refine wk_of [(9000,9000),(9001,9001),(9002,9002),(9003,9003),(9004,9004),(9005,9005),(9006,9006)] rfl rfl ?_ ?_ ?_
  ·repeat' first|refine Ai ?_ ?_|exact rfl|exact trivial|exact Ei _ rfl|refine lN ?_|refine bS ?_|fail
   exact succ_eq k hlt 152 (by decide) hp
  ·repeat' first|refine Ai ?_ ?_|exact rfl|exact trivial|exact Ei _ rfl|refine lN ?_|refine bS ?_|fail
  ·repeat' first|refine Ai ?_ ?_|exact rfl|exact trivial|exact Ei _ rfl|refine lN ?_|refine bS ?_|fail
   exact set3_last (pmm_set (plN (idP rm)) GPlayer.enc hlt)
 have hk0:=len_ge h hk
 subst hk0
 clear h hk
 refine Tp.run [18] ?_
 refine Tp.loop (fun k:Nat=>⟨[(1,.ptr 0 0),(2,.ptr 128 0),(3,.ptr 1280 0),(4,.c (.t (mpT tm))),(63,AV.i (s.objects.map GObject.enc).length),(64,AV.i k)],[(0,cellsN s),(128,List.replicate 19 .bot),(1280,[.t (mpT rm)])],[(9000,⟨44,14,0,(s.players.map (plN (idP rm))).map GPlayer.enc,some ⟨plD,s.players.length,[]⟩⟩),(9001,⟨47,19,0,(pmF (obN (idP rm) (tmP tm)) k s.objects).map GObject.enc,none⟩),(9002,⟨3,1,0,(s.battlefield.map (idP rm)).map eI,none⟩),(9003,⟨3,1,0,(s.exile.map (idP rm)).map eI,none⟩),(9004,⟨91,94,0,(s.stack).map GItem.enc,some ⟨stD,s.stack.length,[]⟩⟩),(9005,⟨97,89,0,(s.waiting).map GWaiting.enc,none⟩),(9006,⟨100,6,0,(s.conts).map GCont.enc,some ⟨coD,s.conts.length,[]⟩⟩)],20000⟩) (fun k=>k≤s.objects.length) (fun k=>s.objects.length - k) 0 ?_ (Nat.zero_le _) ?_
 ·refine wk_of [(9000,9000),(9001,9001),(9002,9002),(9003,9003),(9004,9004),(9005,9005),(9006,9006)] rfl rfl ?_ ?_ ?_
  ·repeat' first|refine Ai ?_ ?_|exact rfl|exact trivial|exact Ei _ rfl|refine lN ?_|refine bS ?_|fail
  ·repeat' first|refine Ai ?_ ?_|exact rfl|exact trivial|exact Ei _ rfl|refine lN ?_|refine bS ?_|fail
  ·repeat' first|refine Ai ?_ ?_|exact rfl|exact trivial|exact Ei _ rfl|refine lN ?_|refine bS ?_|fail
   all_goals exact pmm_all _ _ rfl
 rintro k hk
 refine Tp.run [14,18] ?_
 refine cS (fun h=>?_) (fun h=>?_)
 ·have hlt:k < s.objects.length:=len_lt h
  have KL:=pmm_len (obN (idP rm) (tmP tm)) GObject.enc hlt
  have G0:=pmm_get (obN (idP rm) (tmP tm)) GObject.enc hlt
  have G1:(((pmF (obN (idP rm) (tmP tm)) k s.objects).map GObject.enc).set k (GObject.enc (obA (idP rm) s.objects[k])))[k]? = some (GObject.enc (obA (idP rm) s.objects[k])):=List.getElem?_set_self KL
  have G2:((((pmF (obN (idP rm) (tmP tm)) k s.objects).map GObject.enc).set k (GObject.enc (obA (idP rm) s.objects[k]))).set k (GObject.enc (obB (idP rm) s.objects[k])))[k]? = some (GObject.enc (obB (idP rm) s.objects[k])):=List.getElem?_set_self (by rw [List.length_set];exact KL)
  refine Tp.run [] ?_
  refine Ei k (Ai rfl (Ai KL ?_))
  refine Ei (GObject.enc s.objects[k]) (Ei _ (Ai G0 (Ai rfl ?_)))
  refine cI (id_ct rm s.objects[k].id) ⟨⟨rfl,trivial⟩,rfl,trivial⟩ (.inl rfl) ?_
  refine Ei (GObject.enc s.objects[k]) (Ei _ (Ai G0 (Ai rfl ?_)))
  refine cI (id_ct rm s.objects[k].blocks) ⟨⟨rfl,trivial⟩,rfl,trivial⟩ (.inl rfl) ?_
  refine Ei (GObject.enc s.objects[k]) (Ei _ (Ai G0 (Ai rfl ?_)))
  refine Ei tm (Ai rfl ?_)
  refine Ei _ (Ai G0 (Ai (Nb rfl) ?_))
  refine Ei _ (Ai G1 (Ai (Nb rfl) ?_))
  refine Ei _ (Ai G2 (Ai (Nb rfl) ?_))
  refine Ei (k+1) (Ai (show k+1≤_ by omega) (Ai (show s.objects.length - (k+1) < s.objects.length - k by omega) ?_))
  refine wk_of [(9000,9000),(9001,9001),(9002,9002),(9003,9003),(9004,9004),(9005,9005),(9006,9006)] rfl rfl ?_ ?_ ?_
  ·repeat' first|refine Ai ?_ ?_|exact rfl|exact trivial|exact Ei _ rfl|refine lN ?_|refine bS ?_|fail
   exact succ_eq k hlt 128 (by decide) ho
  ·repeat' first|refine Ai ?_ ?_|exact rfl|exact trivial|exact Ei _ rfl|refine lN ?_|refine bS ?_|fail
  ·repeat' first|refine Ai ?_ ?_|exact rfl|exact trivial|exact Ei _ rfl|refine lN ?_|refine bS ?_|fail
   exact set3_last (pmm_set (obN (idP rm) (tmP tm)) GObject.enc hlt)
 have hk0:=len_ge h hk
 subst hk0
 clear h hk
 refine Tp.run [] ?_
 refine cM [] [(9001,0)] (sortStable_ctm 32 cfO cmpO_ct (s.objects.map (obN (idP rm) (tmP tm))) (by rw [Lm];exact ho)) ?_ ?_ ?_
 ·repeat' first|refine Ai ?_ ?_|exact rfl|exact trivial|exact Ei _ rfl|refine lN ?_|refine bS ?_|fail
  all_goals exact (pmm_all _ _ rfl).symm
 ·repeat' first|refine Ai ?_ ?_|exact rfl|exact trivial|exact Ei _ rfl|refine lN ?_|refine bS ?_|fail
 refine Tp.loop (fun k:Nat=>⟨[(1,.ptr 0 0),(2,.ptr 128 0),(3,.ptr 1280 0),(4,.c (.t (mpT tm))),(104,AV.i (s.stack.map GItem.enc).length),(105,AV.i k)],[(0,cellsN s),(128,List.replicate 19 .bot),(1280,[.t (mpT rm)])],[(9000,⟨44,14,0,(s.players.map (plN (idP rm))).map GPlayer.enc,some ⟨plD,s.players.length,[]⟩⟩),(9001,⟨47,19,0,(stab (ltC cfO) (s.objects.map (obN (idP rm) (tmP tm)))).map GObject.enc,none⟩),(9002,⟨3,1,0,(s.battlefield.map (idP rm)).map eI,none⟩),(9003,⟨3,1,0,(s.exile.map (idP rm)).map eI,none⟩),(9004,⟨91,94,0,(pmF (itN (idP rm)) k s.stack).map GItem.enc,some ⟨stD,s.stack.length,[]⟩⟩),(9005,⟨97,89,0,(s.waiting).map GWaiting.enc,none⟩),(9006,⟨100,6,0,(s.conts).map GCont.enc,some ⟨coD,s.conts.length,[]⟩⟩)],30000⟩) (fun k=>k≤s.stack.length) (fun k=>s.stack.length - k) 0 ?_ (Nat.zero_le _) ?_
 ·refine wk_of [(9000,9000),(9001,9001),(9002,9002),(9003,9003),(9004,9004),(9005,9005),(9006,9006)] rfl rfl ?_ ?_ ?_
  all_goals repeat' first|refine Ai ?_ ?_|exact rfl|exact trivial|exact Ei _ rfl|refine lN ?_|refine bS ?_|fail
 rintro k hk
 refine Tp.run [21,24,29,30] ?_
 refine cS (fun h=>?_) (fun h=>?_)
 ·have hlt:k < s.stack.length:=len_lt h
  have KL:=pmm_len (itN (idP rm)) GItem.enc hlt
  obtain ⟨e1,e2,_⟩:=hst2 _ (List.getElem_mem hlt)
  have G0:=pmm_get (itN (idP rm)) GItem.enc hlt
  have G1:(((pmF (itN (idP rm)) k s.stack).map GItem.enc).set k (GItem.enc (itA (idP rm) s.stack[k])))[k]? = some (GItem.enc (itA (idP rm) s.stack[k])):=List.getElem?_set_self KL
  have G2:((((pmF (itN (idP rm)) k s.stack).map GItem.enc).set k (GItem.enc (itA (idP rm) s.stack[k]))).set k (GItem.enc (itB (idP rm) s.stack[k])))[k]? = some (GItem.enc (itB (idP rm) s.stack[k])):=List.getElem?_set_self (by rw [List.length_set];exact KL)
  have KL3:k < (((((pmF (itN (idP rm)) k s.stack).map GItem.enc).set k (GItem.enc (itA (idP rm) s.stack[k]))).set k (GItem.enc (itB (idP rm) s.stack[k]))).set k (GItem.enc (itC (idP rm) s.stack[k]))).length:=by rw [List.length_set,List.length_set,List.length_set];exact KL
  have G3:(((((pmF (itN (idP rm)) k s.stack).map GItem.enc).set k (GItem.enc (itA (idP rm) s.stack[k]))).set k (GItem.enc (itB (idP rm) s.stack[k]))).set k (GItem.enc (itC (idP rm) s.stack[k])))[k]? = some (GItem.enc (itC (idP rm) s.stack[k])):=List.getElem?_set_self (by rw [List.length_set,List.length_set];exact KL)
  refine Tp.run [] ?_
  refine Ei k (Ai rfl (Ai KL ?_))
  refine Ei (GItem.enc s.stack[k]) (Ei _ (Ai G0 (Ai rfl (Ai (.inl rfl) ?_))))
  refine cI (id_ct rm s.stack[k].id) ⟨⟨rfl,trivial⟩,rfl,trivial⟩ (.inl rfl) ?_
  refine Ei (GItem.enc s.stack[k]) (Ei _ (Ai G0 (Ai rfl (Ai (.inl rfl) ?_))))
  refine cI (id_ct rm s.stack[k].source) ⟨⟨rfl,trivial⟩,rfl,trivial⟩ (.inl rfl) ?_
  refine Ei (GItem.enc s.stack[k]) (Ei _ (Ai G0 (Ai rfl (Ai (.inl rfl) ?_))))
  refine cI (event_ct rm s.stack[k].event) ⟨⟨rfl,trivial⟩,fL s.stack[k].event.enc,trivial⟩ (.inl rfl) ?_
  refine Ei _ (Ai G0 (Ai (Nb rfl) (Ai trivial (Ai (.inl rfl) ?_))))
  refine Ei _ (Ai G1 (Ai (Nb rfl) (Ai trivial (Ai (.inl rfl) ?_))))
  refine Ei _ (Ai G2 (Ai (Nb rfl) (Ai trivial (Ai (.inl rfl) ?_))))
  refine Tp.take 9004 k 78 94 2 (ts:=GItem.enc (itC (idP rm) s.stack[k])) (ys:=s.stack[k].targets.map GTarget.enc) rfl rfl rfl (by simp [stD]) hlt G3 rfl ?_
  refine Tp.run [26,29] ?_
  refine Ai rfl (Ai KL3 (Ai (Nb rfl) ?_))
  refine Tp.loopL (fun j:Nat=>⟨[(1,.ptr 0 0),(2,.ptr 128 0),(3,.ptr 1280 0),(4,.c (.t (mpT tm))),(9,.eptr 9004 0 94 k 0),(104,AV.i (s.stack.map GItem.enc).length),(105,AV.i k),(143,AV.i (s.stack[k].targets.map GTarget.enc).length),(144,AV.i j)],[(0,cellsN s),(128,List.replicate 19 .bot),(1280,[.t (mpT rm)])],[(9000,⟨44,14,0,(s.players.map (plN (idP rm))).map GPlayer.enc,some ⟨plD,s.players.length,[]⟩⟩),(9001,⟨47,19,0,(stab (ltC cfO) (s.objects.map (obN (idP rm) (tmP tm)))).map GObject.enc,none⟩),(9002,⟨3,1,0,(s.battlefield.map (idP rm)).map eI,none⟩),(9003,⟨3,1,0,(s.exile.map (idP rm)).map eI,none⟩),(9004,⟨91,94,0,((((pmF (itN (idP rm)) k s.stack).map GItem.enc).set k (GItem.enc (itA (idP rm) s.stack[k]))).set k (GItem.enc (itB (idP rm) s.stack[k]))).set k (GItem.enc (itC (idP rm) s.stack[k])),some ⟨stD,s.stack.length,[(k,78,34864,0)]⟩⟩),(9005,⟨97,89,0,(s.waiting).map GWaiting.enc,none⟩),(9006,⟨100,6,0,(s.conts).map GCont.enc,some ⟨coD,s.conts.length,[]⟩⟩),(34864,⟨94,2,0,(pmF (tgN (idP rm)) j s.stack[k].targets).map GTarget.enc,none⟩)],40000⟩) (fun j=>j≤s.stack[k].targets.length) (fun j=>s.stack[k].targets.length - j) 0 ?_ (Nat.zero_le _) ?_
  ·refine wkl_of (n1:=0) rfl rfl ?_ ?_ ?_
   all_goals repeat' first|refine Ai ?_ ?_|exact rfl|exact trivial|exact Ei _ rfl|refine lN ?_|refine bS ?_|fail
  rintro j hj
  refine Tp.run [26,28,29] ?_
  refine cS (fun h2=>?_) (fun h2=>?_)
  ·have hjt:j < s.stack[k].targets.length:=len_lt h2
   have KT:=pmm_len (tgN (idP rm)) GTarget.enc hjt
   have GT:=pmm_get (tgN (idP rm)) GTarget.enc hjt
   refine Tp.run [] ?_
   refine Ai rfl (Ai KL3 (Ai (Nb rfl) ?_))
   refine Ai rfl (Ai KL3 (Ai (Nb rfl) ?_))
   refine Ei j (Ai rfl (Ai KT ?_))
   refine Ei (GTarget.enc s.stack[k].targets[j]) (Ei _ (Ai GT (Ai rfl ?_)))
   refine cI (id_ct rm s.stack[k].targets[j].object) ⟨⟨rfl,trivial⟩,rfl,trivial⟩ (.inl rfl) ?_
   refine Ei j (Ai rfl (Ai KT ?_))
   refine Ei _ (Ai GT (Ai (Nb rfl) ?_))
   refine Tp.run [] ?_
   refine Ei (j+1) (Ai (show j+1≤_ by omega) (Ai (show s.stack[k].targets.length - (j+1) < s.stack[k].targets.length - j by omega) ?_))
   refine wkl_of (n1:=0) rfl rfl ?_ ?_ ?_
   ·repeat' first|refine Ai ?_ ?_|exact rfl|exact trivial|exact Ei _ rfl|refine lN ?_|refine bS ?_|fail
    exact congrArg (fun n=>AV.c (.t n)) (succ_eq j hjt 16 (by decide) e2)
   ·repeat' first|refine Ai ?_ ?_|exact rfl|exact trivial|exact Ei _ rfl|refine lN ?_|refine bS ?_|fail
   ·repeat' first|refine Ai ?_ ?_|exact rfl|exact trivial|exact Ei _ rfl|refine lN ?_|refine bS ?_|fail
    exact congrArg (fun xs=>some (⟨94,2,0,xs,none⟩:Row)) (pmm_set (tgN (idP rm)) GTarget.enc hjt)
  ·have hj0:j=s.stack[k].targets.length:=len_ge h2 hj
   subst hj0
   rw [pm_all]
   refine Tp.put 9004 k s.stack.length (ts:=GItem.enc (itC (idP rm) s.stack[k])) (ts':=GItem.enc (itN (idP rm) s.stack[k])) rfl rfl G3 rfl (Ai rfl trivial) rfl (.inl (Ai rfl hlt)) ?_
   refine Tp.run [] ?_
   refine Ei (k+1) (Ai (show k+1≤_ by omega) (Ai (show s.stack.length - (k+1) < s.stack.length - k by omega) ?_))
   refine wk_of [(9000,9000),(9001,9001),(9002,9002),(9003,9003),(9004,9004),(9005,9005),(9006,9006)] rfl rfl ?_ ?_ ?_
   ·repeat' first|refine Ai ?_ ?_|exact rfl|exact trivial|exact Ei _ rfl|refine lN ?_|refine bS ?_|fail
    exact succ_eq k hlt 824 (by decide) hst
   ·repeat' first|refine Ai ?_ ?_|exact rfl|exact trivial|exact Ei _ rfl|refine lN ?_|refine bS ?_|fail
   ·repeat' first|refine Ai ?_ ?_|exact rfl|exact trivial|exact Ei _ rfl|refine lN ?_|refine bS ?_|fail
    exact (set4_last (pmm_set (itN (idP rm)) GItem.enc hlt))
 have hk0:=len_ge h hk
 subst hk0
 clear h hk
 refine Tp.run [36] ?_
 refine Tp.loop (fun k:Nat=>⟨[(1,.ptr 0 0),(2,.ptr 128 0),(3,.ptr 1280 0),(4,.c (.t (mpT tm))),(168,AV.i (s.waiting.map GWaiting.enc).length),(169,AV.i k)],[(0,cellsN s),(128,List.replicate 19 .bot),(1280,[.t (mpT rm)])],[(9000,⟨44,14,0,(s.players.map (plN (idP rm))).map GPlayer.enc,some ⟨plD,s.players.length,[]⟩⟩),(9001,⟨47,19,0,(stab (ltC cfO) (s.objects.map (obN (idP rm) (tmP tm)))).map GObject.enc,none⟩),(9002,⟨3,1,0,(s.battlefield.map (idP rm)).map eI,none⟩),(9003,⟨3,1,0,(s.exile.map (idP rm)).map eI,none⟩),(9004,⟨91,94,0,(s.stack.map (itN (idP rm))).map GItem.enc,some ⟨stD,s.stack.length,[]⟩⟩),(9005,⟨97,89,0,(pmF (waN (idP rm)) k s.waiting).map GWaiting.enc,none⟩),(9006,⟨100,6,0,(s.conts).map GCont.enc,some ⟨coD,s.conts.length,[]⟩⟩)],40000⟩) (fun k=>k≤s.waiting.length) (fun k=>s.waiting.length - k) 0 ?_ (Nat.zero_le _) ?_
 ·refine wk_of [(9000,9000),(9001,9001),(9002,9002),(9003,9003),(9004,9004),(9005,9005),(9006,9006)] rfl rfl ?_ ?_ ?_
  ·repeat' first|refine Ai ?_ ?_|exact rfl|exact trivial|exact Ei _ rfl|refine lN ?_|refine bS ?_|fail
  ·repeat' first|refine Ai ?_ ?_|exact rfl|exact trivial|exact Ei _ rfl|refine lN ?_|refine bS ?_|fail
  ·repeat' first|refine Ai ?_ ?_|exact rfl|exact trivial|exact Ei _ rfl|refine lN ?_|refine bS ?_|fail
   all_goals exact pmm_all _ _ rfl
 rintro k hk
 refine Tp.run [32,35,36] ?_
 refine cS (fun h=>?_) (fun h=>?_)
 ·have hlt:k < s.waiting.length:=len_lt h
  have KL:=pmm_len (waN (idP rm)) GWaiting.enc hlt
  have G0:=pmm_get (waN (idP rm)) GWaiting.enc hlt
  have G1:(((pmF (waN (idP rm)) k s.waiting).map GWaiting.enc).set k (GWaiting.enc (waA (idP rm) s.waiting[k])))[k]? = some (GWaiting.enc (waA (idP rm) s.waiting[k])):=List.getElem?_set_self KL
  refine Tp.run [] ?_
  refine Ei k (Ai rfl (Ai KL ?_))
  refine Ei (GWaiting.enc s.waiting[k]) (Ei _ (Ai G0 (Ai rfl ?_)))
  refine cI (id_ct rm s.waiting[k].source) ⟨⟨rfl,trivial⟩,rfl,trivial⟩ (.inl rfl) ?_
  refine Ei (GWaiting.enc s.waiting[k]) (Ei _ (Ai G0 (Ai rfl ?_)))
  refine cI (event_ct rm s.waiting[k].event) ⟨⟨rfl,trivial⟩,fL s.waiting[k].event.enc,trivial⟩ (.inl rfl) ?_
  refine Ei _ (Ai G0 (Ai (Nb rfl) ?_))
  refine Ei _ (Ai G1 (Ai (Nb rfl) ?_))
  refine Tp.run [] ?_
  refine Ei (k+1) (Ai (show k+1≤_ by omega) (Ai (show s.waiting.length - (k+1) < s.waiting.length - k by omega) ?_))
  refine wk_of [(9000,9000),(9001,9001),(9002,9002),(9003,9003),(9004,9004),(9005,9005),(9006,9006)] rfl rfl ?_ ?_ ?_
  ·repeat' first|refine Ai ?_ ?_|exact rfl|exact trivial|exact Ei _ rfl|refine lN ?_|refine bS ?_|fail
   exact succ_eq k hlt 768 (by decide) hw
  ·repeat' first|refine Ai ?_ ?_|exact rfl|exact trivial|exact Ei _ rfl|refine lN ?_|refine bS ?_|fail
  ·repeat' first|refine Ai ?_ ?_|exact rfl|exact trivial|exact Ei _ rfl|refine lN ?_|refine bS ?_|fail
   exact set2_last (pmm_set (waN (idP rm)) GWaiting.enc hlt)
 have hk0:=len_ge h hk
 subst hk0
 clear h hk
 refine Tp.run [] ?_
 refine Tp.loop (fun k:Nat=>⟨[(1,.ptr 0 0),(2,.ptr 128 0),(3,.ptr 1280 0),(4,.c (.t (mpT tm))),(197,AV.i (s.conts.map GCont.enc).length),(198,AV.i k)],[(0,cellsN s),(128,List.replicate 19 .bot),(1280,[.t (mpT rm)])],[(9000,⟨44,14,0,(s.players.map (plN (idP rm))).map GPlayer.enc,some ⟨plD,s.players.length,[]⟩⟩),(9001,⟨47,19,0,(stab (ltC cfO) (s.objects.map (obN (idP rm) (tmP tm)))).map GObject.enc,none⟩),(9002,⟨3,1,0,(s.battlefield.map (idP rm)).map eI,none⟩),(9003,⟨3,1,0,(s.exile.map (idP rm)).map eI,none⟩),(9004,⟨91,94,0,(s.stack.map (itN (idP rm))).map GItem.enc,some ⟨stD,s.stack.length,[]⟩⟩),(9005,⟨97,89,0,(s.waiting.map (waN (idP rm))).map GWaiting.enc,none⟩),(9006,⟨100,6,0,(pmF (coN (idP rm) (tmP tm)) k s.conts).map GCont.enc,some ⟨coD,s.conts.length,[]⟩⟩)],50000⟩) (fun k=>k≤s.conts.length) (fun k=>s.conts.length - k) 0 ?_ (Nat.zero_le _) ?_
 ·refine wk_of [(9000,9000),(9001,9001),(9002,9002),(9003,9003),(9004,9004),(9005,9005),(9006,9006)] rfl rfl ?_ ?_ ?_
  ·repeat' first|refine Ai ?_ ?_|exact rfl|exact trivial|exact Ei _ rfl|refine lN ?_|refine bS ?_|fail
  ·repeat' first|refine Ai ?_ ?_|exact rfl|exact trivial|exact Ei _ rfl|refine lN ?_|refine bS ?_|fail
  ·repeat' first|refine Ai ?_ ?_|exact rfl|exact trivial|exact Ei _ rfl|refine lN ?_|refine bS ?_|fail
   all_goals exact pmm_all _ _ rfl
 rintro k hk
 refine Tp.run [38,40,41,42] ?_
 refine cS (fun h=>?_) (fun h=>?_)
 ·have hlt:k < s.conts.length:=len_lt h
  have KL:=pmm_len (coN (idP rm) (tmP tm)) GCont.enc hlt
  obtain ⟨f1,_⟩:=hc2 _ (List.getElem_mem hlt)
  have f2:(s.conts[k].objects.map (idP rm)).length≤1000000:=by rw [Lm];exact hcl _ (List.getElem_mem hlt)
  have G0:=pmm_get (coN (idP rm) (tmP tm)) GCont.enc hlt
  have G1:(((pmF (coN (idP rm) (tmP tm)) k s.conts).map GCont.enc).set k (GCont.enc (coA (idP rm) s.conts[k])))[k]? = some (GCont.enc (coA (idP rm) s.conts[k])):=List.getElem?_set_self KL
  have G2:((((pmF (coN (idP rm) (tmP tm)) k s.conts).map GCont.enc).set k (GCont.enc (coA (idP rm) s.conts[k]))).set k (GCont.enc (coB (idP rm) (tmP tm) s.conts[k])))[k]? = some (GCont.enc (coB (idP rm) (tmP tm) s.conts[k])):=List.getElem?_set_self (by rw [List.length_set];exact KL)
  refine Tp.run [] ?_
  refine Ei k (Ai rfl (Ai KL ?_))
  refine Tp.take 9006 k 4 3 1 (ts:=GCont.enc s.conts[k]) (ys:=s.conts[k].objects.map eI) rfl rfl rfl (by simp [coD]) hlt G0 rfl ?_
  refine Tp.run [] ?_
  refine Ei (GCont.enc s.conts[k]) (Ei _ (Ai G0 (Ai rfl (Ai (.inl rfl) ?_))))
  refine cI (id_ct rm s.conts[k].source) ⟨⟨rfl,trivial⟩,rfl,trivial⟩ (.inl rfl) ?_
  refine Ei (GCont.enc s.conts[k]) (Ei _ (Ai G0 (Ai rfl (Ai (.inl rfl) ?_))))
  refine Ei tm (Ai rfl ?_)
  refine Ai rfl (Ai KL (Ai (Nb rfl) ?_))
  refine cM [] [(51024,0)] (list_ctm rm s.conts[k].objects f1) ?_ ?_ ?_
  ·repeat' first|refine Ai ?_ ?_|exact rfl|exact trivial|exact Ei _ rfl|refine lN ?_|refine bS ?_|fail
  ·repeat' first|refine Ai ?_ ?_|exact rfl|exact trivial|exact Ei _ rfl|refine lN ?_|refine bS ?_|fail
  refine cI (ofP_ct (s.conts[k].objects.map (idP rm)) f2) ⟨?_,trivial⟩ (.inl rfl) ?_
  ·repeat' first|refine Ai ?_ ?_|exact rfl|exact trivial|exact Ei _ rfl|refine lN ?_|refine bS ?_|fail
  refine Ei _ (Ai G0 (Ai (Nb rfl) (Ai (Ai trivial trivial) (Ai (.inl rfl) ?_))))
  refine Ei _ (Ai G1 (Ai (Nb rfl) (Ai (Ai trivial trivial) (Ai (.inl rfl) ?_))))
  refine Ei _ (Ai G2 (Ai (Nb rfl) (Ai (Ai rfl trivial) (Ai (.inl rfl) ?_))))
  have G3:(((((pmF (coN (idP rm) (tmP tm)) k s.conts).map GCont.enc).set k (GCont.enc (coA (idP rm) s.conts[k]))).set k (GCont.enc (coB (idP rm) (tmP tm) s.conts[k]))).set k (GCont.enc (coN (idP rm) (tmP tm) s.conts[k])))[k]? = some (GCont.enc (coN (idP rm) (tmP tm) s.conts[k])):=List.getElem?_set_self (by rw [List.length_set,List.length_set];exact KL)
  refine Tp.put 9006 k s.conts.length (ts:=GCont.enc (coN (idP rm) (tmP tm) s.conts[k])) (ts':=GCont.enc (coN (idP rm) (tmP tm) s.conts[k])) rfl rfl G3 rfl (Ai rfl trivial) rfl (.inl (Ai rfl hlt)) ?_
  refine Tp.run [] ?_
  refine Ei (k+1) (Ai (show k+1≤_ by omega) (Ai (show s.conts.length - (k+1) < s.conts.length - k by omega) ?_))
  refine wk_of [(9000,9000),(9001,9001),(9002,9002),(9003,9003),(9004,9004),(9005,9005),(9006,9006)] rfl rfl ?_ ?_ ?_
  ·repeat' first|refine Ai ?_ ?_|exact rfl|exact trivial|exact Ei _ rfl|refine lN ?_|refine bS ?_|fail
   exact succ_eq k hlt 80 (by decide) hc
  ·repeat' first|refine Ai ?_ ?_|exact rfl|exact trivial|exact Ei _ rfl|refine lN ?_|refine bS ?_|fail
  ·repeat' first|refine Ai ?_ ?_|exact rfl|exact trivial|exact Ei _ rfl|refine lN ?_|refine bS ?_|fail
   exact set4_last (pmm_set (coN (idP rm) (tmP tm)) GCont.enc hlt)
 have hk0:=len_ge h hk
 subst hk0
 clear h hk
 refine Tp.run [] ?_
 refine Ei [] (Ai rfl (Ai ?_ ?_))
 ·repeat' first|refine Ai ?_ ?_|exact rfl|exact trivial|exact Ei _ rfl|refine lN ?_|refine bS ?_|fail
 ·repeat' first|refine Ai ?_ ?_|exact rfl|exact trivial|exact Ei _ rfl|refine lN ?_|refine bS ?_|fail
  all_goals exact congrArg (Tr.sl 6) (pmm_all _ _ rfl).symm
end Go.Proofs.YtpibcdnagnjokaaGreat
end
section
namespace Cg
open Go
def EqUp {α:Type} (l m:List α) (i:Int):Prop:=∀ j:Nat,(j:Int) < i→l[j]? = m[j]?
theorem EqUp.zero {α:Type} {l m:List α}:EqUp l m 0:=fun j h=>by omega
theorem EqUp.step {α:Type} {l m:List α} {i:Int} (_:0≤i) (h:EqUp l m i) (h1:i.toNat < l.length) (h2:i.toNat < m.length) (e:l[i.toNat]=m[i.toNat]):EqUp l m (i+1):=fun j hj=>by
 by_cases hji:(j:Int) < i
 ·exact h j hji
 ·have:j=i.toNat:=by omega
  subst this
  rw [List.getElem?_eq_getElem h1,List.getElem?_eq_getElem h2,e]
theorem EqUp.all {α:Type} {l m:List α} {i:Int} (h:EqUp l m i) (hl:l.length=m.length) (hi:¬ i < (l.length:Int)):l=m:=by
 refine List.ext_getElem? fun j=>?_
 by_cases hj:(j:Int) < i
 ·exact h j hj
 ·rw [List.getElem?_eq_none (by omega),List.getElem?_eq_none (by omega)]
theorem eqUp_end {α:Type} {l m:List α} {f:α→List Tr} {i:Int} (h:EqUp l m i) (hl:(((l.map f).length:Nat):Int)=(((m.map f).length:Nat):Int)) (hi:¬ i < (((l.map f).length:Nat):Int)):true=true↔l=m:=by
 rw [Lm,Lm] at hl
 rw [Lm] at hi
 exact ⟨fun _=>h.all (by omega) hi,fun _=>rfl⟩
theorem eqUp_all {α:Type} {l m:List α} {f g:α→List Tr} {i:Int} (h:EqUp l m i) (hl:(((l.map f).length:Nat):Int)=(((m.map f).length:Nat):Int)) (hi:¬ i < (((l.map g).length:Nat):Int)):l=m:=by
 rw [Lm,Lm] at hl
 rw [Lm] at hi
 exact h.all (by omega) hi
theorem six_lks (a0 a1 a2 a3 a4 a5 b0 b1 b2 b3 b4 b5:Int):(lksEq [Value.int IntKind.i64 a0,Value.int IntKind.i64 a1,Value.int IntKind.i64 a2,Value.int IntKind.i64 a3,Value.int IntKind.i64 a4,Value.int IntKind.i64 a5] [Value.int IntKind.i64 b0,Value.int IntKind.i64 b1,Value.int IntKind.i64 b2,Value.int IntKind.i64 b3,Value.int IntKind.i64 b4,Value.int IntKind.i64 b5]=true)=(a0=b0∧a1=b1∧a2=b2∧a3=b3∧a4=b4∧a5=b5):=by simp [lksEq,lkEq]
theorem six_lksF (a0 a1 a2 a3 a4 a5 b0 b1 b2 b3 b4 b5:Int):(lksEq [Value.int IntKind.i64 a0,Value.int IntKind.i64 a1,Value.int IntKind.i64 a2,Value.int IntKind.i64 a3,Value.int IntKind.i64 a4,Value.int IntKind.i64 a5] [Value.int IntKind.i64 b0,Value.int IntKind.i64 b1,Value.int IntKind.i64 b2,Value.int IntKind.i64 b3,Value.int IntKind.i64 b4,Value.int IntKind.i64 b5]=false)=¬ (a0=b0∧a1=b1∧a2=b2∧a3=b3∧a4=b4∧a5=b5):=by rw [← six_lks,Bool.not_eq_true]
theorem txt_eqB (x y:ByteArray):(x.toList=y.toList)=(x=y):=propext ⟨fun h=>by
 have:=(lkEq_iff (k:=Lk.str) (x:=.string x) (y:=.string y) ⟨x,rfl⟩ ⟨y,rfl⟩).1 (by simp [lkEq,h])
 injection this,fun h=>by rw [h]⟩
noncomputable def eqD {α:Type} (x y:α):Bool:=@decide (x=y) (Classical.propDecidable _)
theorem eqD_iff {α:Type} {x y:α}:eqD x y=true↔x=y:=by
 unfold eqD
 exact @decide_eq_true_iff _ (Classical.propDecidable _)
theorem eqD_t {α:Type} {x y:α} (h:x=y):eqD x y=true:=eqD_iff.2 h
theorem eqD_f {α:Type} {x y:α} (h:¬ x=y):eqD x y=false:=by
 cases e:eqD x y with
 | false=>rfl
 | true=>exact absurd (eqD_iff.1 e) h
theorem eqD_true {α:Type} (x y:α):(eqD x y=true)=(x=y):=propext eqD_iff
theorem eqD_false {α:Type} (x y:α):(eqD x y=false)=¬ (x=y):=propext ⟨fun h e=>(by rw [eqD_t e] at h;cases h),fun h=>eqD_f h⟩
theorem eqD_of {α:Type} {x y:α} {r:Bool} (h:r=true↔x=y):eqD x y=r:=by
 cases r with
 | true=>exact eqD_t (h.1 rfl)
 | false=>exact eqD_f fun e=>absurd (h.2 e) (by decide)
theorem eqD_b {α:Type} {x y:α} {r:Bool} (h:(r=true)=(x=y)):eqD x y=r:=eqD_of (by rw [h])
theorem GFilter.lks (x y:GFilter):(lksEq [Value.int IntKind.i64 x.zone,Value.int IntKind.i64 x.who,Value.int IntKind.i64 x.self,Value.int IntKind.i64 x.types,Value.int IntKind.i64 x.notTypes,Value.int IntKind.i64 x.colors,Value.int IntKind.i64 x.notColors,Value.string x.sub,Value.int IntKind.i64 x.keys,Value.int IntKind.i64 x.tap,Value.int IntKind.i64 x.power.kind,Value.int IntKind.i64 x.power.n,Value.int IntKind.i64 x.tough.kind,Value.int IntKind.i64 x.tough.n,Value.int IntKind.i64 x.value.kind,Value.int IntKind.i64 x.value.n] [Value.int IntKind.i64 y.zone,Value.int IntKind.i64 y.who,Value.int IntKind.i64 y.self,Value.int IntKind.i64 y.types,Value.int IntKind.i64 y.notTypes,Value.int IntKind.i64 y.colors,Value.int IntKind.i64 y.notColors,Value.string y.sub,Value.int IntKind.i64 y.keys,Value.int IntKind.i64 y.tap,Value.int IntKind.i64 y.power.kind,Value.int IntKind.i64 y.power.n,Value.int IntKind.i64 y.tough.kind,Value.int IntKind.i64 y.tough.n,Value.int IntKind.i64 y.value.kind,Value.int IntKind.i64 y.value.n]=true)=(x=y):=by
 obtain ⟨p1,p2,p3,p4,p5,p6,p7,p8,p9,p10,⟨p11,p12⟩,⟨p13,p14⟩,⟨p15,p16⟩⟩:=x
 obtain ⟨q1,q2,q3,q4,q5,q6,q7,q8,q9,q10,⟨q11,q12⟩,⟨q13,q14⟩,⟨q15,q16⟩⟩:=y
 simp [lksEq,lkEq,ByteArray.toList_eq,ByteArray.ext_iff,and_assoc]
theorem GFilter.lksF (x y:GFilter):(lksEq [Value.int IntKind.i64 x.zone,Value.int IntKind.i64 x.who,Value.int IntKind.i64 x.self,Value.int IntKind.i64 x.types,Value.int IntKind.i64 x.notTypes,Value.int IntKind.i64 x.colors,Value.int IntKind.i64 x.notColors,Value.string x.sub,Value.int IntKind.i64 x.keys,Value.int IntKind.i64 x.tap,Value.int IntKind.i64 x.power.kind,Value.int IntKind.i64 x.power.n,Value.int IntKind.i64 x.tough.kind,Value.int IntKind.i64 x.tough.n,Value.int IntKind.i64 x.value.kind,Value.int IntKind.i64 x.value.n] [Value.int IntKind.i64 y.zone,Value.int IntKind.i64 y.who,Value.int IntKind.i64 y.self,Value.int IntKind.i64 y.types,Value.int IntKind.i64 y.notTypes,Value.int IntKind.i64 y.colors,Value.int IntKind.i64 y.notColors,Value.string y.sub,Value.int IntKind.i64 y.keys,Value.int IntKind.i64 y.tap,Value.int IntKind.i64 y.power.kind,Value.int IntKind.i64 y.power.n,Value.int IntKind.i64 y.tough.kind,Value.int IntKind.i64 y.tough.n,Value.int IntKind.i64 y.value.kind,Value.int IntKind.i64 y.value.n]=false)=¬ (x=y):=by
 rw [← GFilter.lks x y,Bool.not_eq_true]
theorem GMod.lks (x y:GMod):(lksEq [Value.int IntKind.i64 x.kind,Value.int IntKind.i64 x.n,Value.int IntKind.i64 x.m,Value.string x.sub,Value.int IntKind.i64 x.filter.zone,Value.int IntKind.i64 x.filter.who,Value.int IntKind.i64 x.filter.self,Value.int IntKind.i64 x.filter.types,Value.int IntKind.i64 x.filter.notTypes,Value.int IntKind.i64 x.filter.colors,Value.int IntKind.i64 x.filter.notColors,Value.string x.filter.sub,Value.int IntKind.i64 x.filter.keys,Value.int IntKind.i64 x.filter.tap,Value.int IntKind.i64 x.filter.power.kind,Value.int IntKind.i64 x.filter.power.n,Value.int IntKind.i64 x.filter.tough.kind,Value.int IntKind.i64 x.filter.tough.n,Value.int IntKind.i64 x.filter.value.kind,Value.int IntKind.i64 x.filter.value.n] [Value.int IntKind.i64 y.kind,Value.int IntKind.i64 y.n,Value.int IntKind.i64 y.m,Value.string y.sub,Value.int IntKind.i64 y.filter.zone,Value.int IntKind.i64 y.filter.who,Value.int IntKind.i64 y.filter.self,Value.int IntKind.i64 y.filter.types,Value.int IntKind.i64 y.filter.notTypes,Value.int IntKind.i64 y.filter.colors,Value.int IntKind.i64 y.filter.notColors,Value.string y.filter.sub,Value.int IntKind.i64 y.filter.keys,Value.int IntKind.i64 y.filter.tap,Value.int IntKind.i64 y.filter.power.kind,Value.int IntKind.i64 y.filter.power.n,Value.int IntKind.i64 y.filter.tough.kind,Value.int IntKind.i64 y.filter.tough.n,Value.int IntKind.i64 y.filter.value.kind,Value.int IntKind.i64 y.filter.value.n]=true)=(x=y):=by
 obtain ⟨p1,p2,p3,p4,⟨p5,p6,p7,p8,p9,p10,p11,p12,p13,p14,⟨p15,p16⟩,⟨p17,p18⟩,⟨p19,p20⟩⟩⟩:=x
 obtain ⟨q1,q2,q3,q4,⟨q5,q6,q7,q8,q9,q10,q11,q12,q13,q14,⟨q15,q16⟩,⟨q17,q18⟩,⟨q19,q20⟩⟩⟩:=y
 simp [lksEq,lkEq,ByteArray.toList_eq,ByteArray.ext_iff,and_assoc]
theorem GMod.lksF (x y:GMod):(lksEq [Value.int IntKind.i64 x.kind,Value.int IntKind.i64 x.n,Value.int IntKind.i64 x.m,Value.string x.sub,Value.int IntKind.i64 x.filter.zone,Value.int IntKind.i64 x.filter.who,Value.int IntKind.i64 x.filter.self,Value.int IntKind.i64 x.filter.types,Value.int IntKind.i64 x.filter.notTypes,Value.int IntKind.i64 x.filter.colors,Value.int IntKind.i64 x.filter.notColors,Value.string x.filter.sub,Value.int IntKind.i64 x.filter.keys,Value.int IntKind.i64 x.filter.tap,Value.int IntKind.i64 x.filter.power.kind,Value.int IntKind.i64 x.filter.power.n,Value.int IntKind.i64 x.filter.tough.kind,Value.int IntKind.i64 x.filter.tough.n,Value.int IntKind.i64 x.filter.value.kind,Value.int IntKind.i64 x.filter.value.n] [Value.int IntKind.i64 y.kind,Value.int IntKind.i64 y.n,Value.int IntKind.i64 y.m,Value.string y.sub,Value.int IntKind.i64 y.filter.zone,Value.int IntKind.i64 y.filter.who,Value.int IntKind.i64 y.filter.self,Value.int IntKind.i64 y.filter.types,Value.int IntKind.i64 y.filter.notTypes,Value.int IntKind.i64 y.filter.colors,Value.int IntKind.i64 y.filter.notColors,Value.string y.filter.sub,Value.int IntKind.i64 y.filter.keys,Value.int IntKind.i64 y.filter.tap,Value.int IntKind.i64 y.filter.power.kind,Value.int IntKind.i64 y.filter.power.n,Value.int IntKind.i64 y.filter.tough.kind,Value.int IntKind.i64 y.filter.tough.n,Value.int IntKind.i64 y.filter.value.kind,Value.int IntKind.i64 y.filter.value.n]=false)=¬ (x=y):=by
 rw [← GMod.lks x y,Bool.not_eq_true]
theorem GPrice.lks (x y:GPrice):(lksEq [Value.int IntKind.i64 x.mana.generic,Value.int IntKind.i64 x.mana.x,Value.int IntKind.i64 x.mana.color0,Value.int IntKind.i64 x.mana.color1,Value.int IntKind.i64 x.mana.color2,Value.int IntKind.i64 x.mana.color3,Value.int IntKind.i64 x.mana.color4,Value.bool x.tap,Value.bool x.sacrifice,Value.int IntKind.i64 x.life] [Value.int IntKind.i64 y.mana.generic,Value.int IntKind.i64 y.mana.x,Value.int IntKind.i64 y.mana.color0,Value.int IntKind.i64 y.mana.color1,Value.int IntKind.i64 y.mana.color2,Value.int IntKind.i64 y.mana.color3,Value.int IntKind.i64 y.mana.color4,Value.bool y.tap,Value.bool y.sacrifice,Value.int IntKind.i64 y.life]=true)=(x=y):=by
 obtain ⟨⟨p1,p2,p3,p4,p5,p6,p7⟩,p8,p9,p10⟩:=x
 obtain ⟨⟨q1,q2,q3,q4,q5,q6,q7⟩,q8,q9,q10⟩:=y
 simp [lksEq,lkEq,and_assoc]
theorem GPrice.lksF (x y:GPrice):(lksEq [Value.int IntKind.i64 x.mana.generic,Value.int IntKind.i64 x.mana.x,Value.int IntKind.i64 x.mana.color0,Value.int IntKind.i64 x.mana.color1,Value.int IntKind.i64 x.mana.color2,Value.int IntKind.i64 x.mana.color3,Value.int IntKind.i64 x.mana.color4,Value.bool x.tap,Value.bool x.sacrifice,Value.int IntKind.i64 x.life] [Value.int IntKind.i64 y.mana.generic,Value.int IntKind.i64 y.mana.x,Value.int IntKind.i64 y.mana.color0,Value.int IntKind.i64 y.mana.color1,Value.int IntKind.i64 y.mana.color2,Value.int IntKind.i64 y.mana.color3,Value.int IntKind.i64 y.mana.color4,Value.bool y.tap,Value.bool y.sacrifice,Value.int IntKind.i64 y.life]=false)=¬ (x=y):=by
 rw [← GPrice.lks x y,Bool.not_eq_true]
theorem GTrigger.lks (x y:GTrigger):(lksEq [Value.int IntKind.i64 x.when,Value.int IntKind.i64 x.who,Value.int IntKind.i64 x.filter.zone,Value.int IntKind.i64 x.filter.who,Value.int IntKind.i64 x.filter.self,Value.int IntKind.i64 x.filter.types,Value.int IntKind.i64 x.filter.notTypes,Value.int IntKind.i64 x.filter.colors,Value.int IntKind.i64 x.filter.notColors,Value.string x.filter.sub,Value.int IntKind.i64 x.filter.keys,Value.int IntKind.i64 x.filter.tap,Value.int IntKind.i64 x.filter.power.kind,Value.int IntKind.i64 x.filter.power.n,Value.int IntKind.i64 x.filter.tough.kind,Value.int IntKind.i64 x.filter.tough.n,Value.int IntKind.i64 x.filter.value.kind,Value.int IntKind.i64 x.filter.value.n] [Value.int IntKind.i64 y.when,Value.int IntKind.i64 y.who,Value.int IntKind.i64 y.filter.zone,Value.int IntKind.i64 y.filter.who,Value.int IntKind.i64 y.filter.self,Value.int IntKind.i64 y.filter.types,Value.int IntKind.i64 y.filter.notTypes,Value.int IntKind.i64 y.filter.colors,Value.int IntKind.i64 y.filter.notColors,Value.string y.filter.sub,Value.int IntKind.i64 y.filter.keys,Value.int IntKind.i64 y.filter.tap,Value.int IntKind.i64 y.filter.power.kind,Value.int IntKind.i64 y.filter.power.n,Value.int IntKind.i64 y.filter.tough.kind,Value.int IntKind.i64 y.filter.tough.n,Value.int IntKind.i64 y.filter.value.kind,Value.int IntKind.i64 y.filter.value.n]=true)=(x=y):=by
 obtain ⟨p1,p2,⟨p3,p4,p5,p6,p7,p8,p9,p10,p11,p12,⟨p13,p14⟩,⟨p15,p16⟩,⟨p17,p18⟩⟩⟩:=x
 obtain ⟨q1,q2,⟨q3,q4,q5,q6,q7,q8,q9,q10,q11,q12,⟨q13,q14⟩,⟨q15,q16⟩,⟨q17,q18⟩⟩⟩:=y
 simp [lksEq,lkEq,ByteArray.toList_eq,ByteArray.ext_iff,and_assoc]
theorem GTrigger.lksF (x y:GTrigger):(lksEq [Value.int IntKind.i64 x.when,Value.int IntKind.i64 x.who,Value.int IntKind.i64 x.filter.zone,Value.int IntKind.i64 x.filter.who,Value.int IntKind.i64 x.filter.self,Value.int IntKind.i64 x.filter.types,Value.int IntKind.i64 x.filter.notTypes,Value.int IntKind.i64 x.filter.colors,Value.int IntKind.i64 x.filter.notColors,Value.string x.filter.sub,Value.int IntKind.i64 x.filter.keys,Value.int IntKind.i64 x.filter.tap,Value.int IntKind.i64 x.filter.power.kind,Value.int IntKind.i64 x.filter.power.n,Value.int IntKind.i64 x.filter.tough.kind,Value.int IntKind.i64 x.filter.tough.n,Value.int IntKind.i64 x.filter.value.kind,Value.int IntKind.i64 x.filter.value.n] [Value.int IntKind.i64 y.when,Value.int IntKind.i64 y.who,Value.int IntKind.i64 y.filter.zone,Value.int IntKind.i64 y.filter.who,Value.int IntKind.i64 y.filter.self,Value.int IntKind.i64 y.filter.types,Value.int IntKind.i64 y.filter.notTypes,Value.int IntKind.i64 y.filter.colors,Value.int IntKind.i64 y.filter.notColors,Value.string y.filter.sub,Value.int IntKind.i64 y.filter.keys,Value.int IntKind.i64 y.filter.tap,Value.int IntKind.i64 y.filter.power.kind,Value.int IntKind.i64 y.filter.power.n,Value.int IntKind.i64 y.filter.tough.kind,Value.int IntKind.i64 y.filter.tough.n,Value.int IntKind.i64 y.filter.value.kind,Value.int IntKind.i64 y.filter.value.n]=false)=¬ (x=y):=by
 rw [← GTrigger.lks x y,Bool.not_eq_true]
theorem GSpec.lks (x y:GSpec):(lksEq [Value.bool x.player,Value.bool x.object,Value.int IntKind.i64 x.filter.zone,Value.int IntKind.i64 x.filter.who,Value.int IntKind.i64 x.filter.self,Value.int IntKind.i64 x.filter.types,Value.int IntKind.i64 x.filter.notTypes,Value.int IntKind.i64 x.filter.colors,Value.int IntKind.i64 x.filter.notColors,Value.string x.filter.sub,Value.int IntKind.i64 x.filter.keys,Value.int IntKind.i64 x.filter.tap,Value.int IntKind.i64 x.filter.power.kind,Value.int IntKind.i64 x.filter.power.n,Value.int IntKind.i64 x.filter.tough.kind,Value.int IntKind.i64 x.filter.tough.n,Value.int IntKind.i64 x.filter.value.kind,Value.int IntKind.i64 x.filter.value.n] [Value.bool y.player,Value.bool y.object,Value.int IntKind.i64 y.filter.zone,Value.int IntKind.i64 y.filter.who,Value.int IntKind.i64 y.filter.self,Value.int IntKind.i64 y.filter.types,Value.int IntKind.i64 y.filter.notTypes,Value.int IntKind.i64 y.filter.colors,Value.int IntKind.i64 y.filter.notColors,Value.string y.filter.sub,Value.int IntKind.i64 y.filter.keys,Value.int IntKind.i64 y.filter.tap,Value.int IntKind.i64 y.filter.power.kind,Value.int IntKind.i64 y.filter.power.n,Value.int IntKind.i64 y.filter.tough.kind,Value.int IntKind.i64 y.filter.tough.n,Value.int IntKind.i64 y.filter.value.kind,Value.int IntKind.i64 y.filter.value.n]=true)=(x=y):=by
 obtain ⟨p1,p2,⟨p3,p4,p5,p6,p7,p8,p9,p10,p11,p12,⟨p13,p14⟩,⟨p15,p16⟩,⟨p17,p18⟩⟩⟩:=x
 obtain ⟨q1,q2,⟨q3,q4,q5,q6,q7,q8,q9,q10,q11,q12,⟨q13,q14⟩,⟨q15,q16⟩,⟨q17,q18⟩⟩⟩:=y
 simp [lksEq,lkEq,ByteArray.toList_eq,ByteArray.ext_iff,and_assoc]
theorem GSpec.lksF (x y:GSpec):(lksEq [Value.bool x.player,Value.bool x.object,Value.int IntKind.i64 x.filter.zone,Value.int IntKind.i64 x.filter.who,Value.int IntKind.i64 x.filter.self,Value.int IntKind.i64 x.filter.types,Value.int IntKind.i64 x.filter.notTypes,Value.int IntKind.i64 x.filter.colors,Value.int IntKind.i64 x.filter.notColors,Value.string x.filter.sub,Value.int IntKind.i64 x.filter.keys,Value.int IntKind.i64 x.filter.tap,Value.int IntKind.i64 x.filter.power.kind,Value.int IntKind.i64 x.filter.power.n,Value.int IntKind.i64 x.filter.tough.kind,Value.int IntKind.i64 x.filter.tough.n,Value.int IntKind.i64 x.filter.value.kind,Value.int IntKind.i64 x.filter.value.n] [Value.bool y.player,Value.bool y.object,Value.int IntKind.i64 y.filter.zone,Value.int IntKind.i64 y.filter.who,Value.int IntKind.i64 y.filter.self,Value.int IntKind.i64 y.filter.types,Value.int IntKind.i64 y.filter.notTypes,Value.int IntKind.i64 y.filter.colors,Value.int IntKind.i64 y.filter.notColors,Value.string y.filter.sub,Value.int IntKind.i64 y.filter.keys,Value.int IntKind.i64 y.filter.tap,Value.int IntKind.i64 y.filter.power.kind,Value.int IntKind.i64 y.filter.power.n,Value.int IntKind.i64 y.filter.tough.kind,Value.int IntKind.i64 y.filter.tough.n,Value.int IntKind.i64 y.filter.value.kind,Value.int IntKind.i64 y.filter.value.n]=false)=¬ (x=y):=by
 rw [← GSpec.lks x y,Bool.not_eq_true]
theorem GRef.lks (x y:GRef):(lksEq [Value.int IntKind.i64 x.kind,Value.int IntKind.i64 x.n,Value.int IntKind.i64 x.filter.zone,Value.int IntKind.i64 x.filter.who,Value.int IntKind.i64 x.filter.self,Value.int IntKind.i64 x.filter.types,Value.int IntKind.i64 x.filter.notTypes,Value.int IntKind.i64 x.filter.colors,Value.int IntKind.i64 x.filter.notColors,Value.string x.filter.sub,Value.int IntKind.i64 x.filter.keys,Value.int IntKind.i64 x.filter.tap,Value.int IntKind.i64 x.filter.power.kind,Value.int IntKind.i64 x.filter.power.n,Value.int IntKind.i64 x.filter.tough.kind,Value.int IntKind.i64 x.filter.tough.n,Value.int IntKind.i64 x.filter.value.kind,Value.int IntKind.i64 x.filter.value.n] [Value.int IntKind.i64 y.kind,Value.int IntKind.i64 y.n,Value.int IntKind.i64 y.filter.zone,Value.int IntKind.i64 y.filter.who,Value.int IntKind.i64 y.filter.self,Value.int IntKind.i64 y.filter.types,Value.int IntKind.i64 y.filter.notTypes,Value.int IntKind.i64 y.filter.colors,Value.int IntKind.i64 y.filter.notColors,Value.string y.filter.sub,Value.int IntKind.i64 y.filter.keys,Value.int IntKind.i64 y.filter.tap,Value.int IntKind.i64 y.filter.power.kind,Value.int IntKind.i64 y.filter.power.n,Value.int IntKind.i64 y.filter.tough.kind,Value.int IntKind.i64 y.filter.tough.n,Value.int IntKind.i64 y.filter.value.kind,Value.int IntKind.i64 y.filter.value.n]=true)=(x=y):=by
 obtain ⟨p1,p2,⟨p3,p4,p5,p6,p7,p8,p9,p10,p11,p12,⟨p13,p14⟩,⟨p15,p16⟩,⟨p17,p18⟩⟩⟩:=x
 obtain ⟨q1,q2,⟨q3,q4,q5,q6,q7,q8,q9,q10,q11,q12,⟨q13,q14⟩,⟨q15,q16⟩,⟨q17,q18⟩⟩⟩:=y
 simp [lksEq,lkEq,ByteArray.toList_eq,ByteArray.ext_iff,and_assoc]
theorem GRef.lksF (x y:GRef):(lksEq [Value.int IntKind.i64 x.kind,Value.int IntKind.i64 x.n,Value.int IntKind.i64 x.filter.zone,Value.int IntKind.i64 x.filter.who,Value.int IntKind.i64 x.filter.self,Value.int IntKind.i64 x.filter.types,Value.int IntKind.i64 x.filter.notTypes,Value.int IntKind.i64 x.filter.colors,Value.int IntKind.i64 x.filter.notColors,Value.string x.filter.sub,Value.int IntKind.i64 x.filter.keys,Value.int IntKind.i64 x.filter.tap,Value.int IntKind.i64 x.filter.power.kind,Value.int IntKind.i64 x.filter.power.n,Value.int IntKind.i64 x.filter.tough.kind,Value.int IntKind.i64 x.filter.tough.n,Value.int IntKind.i64 x.filter.value.kind,Value.int IntKind.i64 x.filter.value.n] [Value.int IntKind.i64 y.kind,Value.int IntKind.i64 y.n,Value.int IntKind.i64 y.filter.zone,Value.int IntKind.i64 y.filter.who,Value.int IntKind.i64 y.filter.self,Value.int IntKind.i64 y.filter.types,Value.int IntKind.i64 y.filter.notTypes,Value.int IntKind.i64 y.filter.colors,Value.int IntKind.i64 y.filter.notColors,Value.string y.filter.sub,Value.int IntKind.i64 y.filter.keys,Value.int IntKind.i64 y.filter.tap,Value.int IntKind.i64 y.filter.power.kind,Value.int IntKind.i64 y.filter.power.n,Value.int IntKind.i64 y.filter.tough.kind,Value.int IntKind.i64 y.filter.tough.n,Value.int IntKind.i64 y.filter.value.kind,Value.int IntKind.i64 y.filter.value.n]=false)=¬ (x=y):=by
 rw [← GRef.lks x y,Bool.not_eq_true]
theorem GAmount.lks (x y:GAmount):(lksEq [Value.int IntKind.i64 x.kind,Value.int IntKind.i64 x.n,Value.int IntKind.i64 x.counter,Value.int IntKind.i64 x.filter.zone,Value.int IntKind.i64 x.filter.who,Value.int IntKind.i64 x.filter.self,Value.int IntKind.i64 x.filter.types,Value.int IntKind.i64 x.filter.notTypes,Value.int IntKind.i64 x.filter.colors,Value.int IntKind.i64 x.filter.notColors,Value.string x.filter.sub,Value.int IntKind.i64 x.filter.keys,Value.int IntKind.i64 x.filter.tap,Value.int IntKind.i64 x.filter.power.kind,Value.int IntKind.i64 x.filter.power.n,Value.int IntKind.i64 x.filter.tough.kind,Value.int IntKind.i64 x.filter.tough.n,Value.int IntKind.i64 x.filter.value.kind,Value.int IntKind.i64 x.filter.value.n] [Value.int IntKind.i64 y.kind,Value.int IntKind.i64 y.n,Value.int IntKind.i64 y.counter,Value.int IntKind.i64 y.filter.zone,Value.int IntKind.i64 y.filter.who,Value.int IntKind.i64 y.filter.self,Value.int IntKind.i64 y.filter.types,Value.int IntKind.i64 y.filter.notTypes,Value.int IntKind.i64 y.filter.colors,Value.int IntKind.i64 y.filter.notColors,Value.string y.filter.sub,Value.int IntKind.i64 y.filter.keys,Value.int IntKind.i64 y.filter.tap,Value.int IntKind.i64 y.filter.power.kind,Value.int IntKind.i64 y.filter.power.n,Value.int IntKind.i64 y.filter.tough.kind,Value.int IntKind.i64 y.filter.tough.n,Value.int IntKind.i64 y.filter.value.kind,Value.int IntKind.i64 y.filter.value.n]=true)=(x=y):=by
 obtain ⟨p1,p2,p3,⟨p4,p5,p6,p7,p8,p9,p10,p11,p12,p13,⟨p14,p15⟩,⟨p16,p17⟩,⟨p18,p19⟩⟩⟩:=x
 obtain ⟨q1,q2,q3,⟨q4,q5,q6,q7,q8,q9,q10,q11,q12,q13,⟨q14,q15⟩,⟨q16,q17⟩,⟨q18,q19⟩⟩⟩:=y
 simp [lksEq,lkEq,ByteArray.toList_eq,ByteArray.ext_iff,and_assoc]
theorem GAmount.lksF (x y:GAmount):(lksEq [Value.int IntKind.i64 x.kind,Value.int IntKind.i64 x.n,Value.int IntKind.i64 x.counter,Value.int IntKind.i64 x.filter.zone,Value.int IntKind.i64 x.filter.who,Value.int IntKind.i64 x.filter.self,Value.int IntKind.i64 x.filter.types,Value.int IntKind.i64 x.filter.notTypes,Value.int IntKind.i64 x.filter.colors,Value.int IntKind.i64 x.filter.notColors,Value.string x.filter.sub,Value.int IntKind.i64 x.filter.keys,Value.int IntKind.i64 x.filter.tap,Value.int IntKind.i64 x.filter.power.kind,Value.int IntKind.i64 x.filter.power.n,Value.int IntKind.i64 x.filter.tough.kind,Value.int IntKind.i64 x.filter.tough.n,Value.int IntKind.i64 x.filter.value.kind,Value.int IntKind.i64 x.filter.value.n] [Value.int IntKind.i64 y.kind,Value.int IntKind.i64 y.n,Value.int IntKind.i64 y.counter,Value.int IntKind.i64 y.filter.zone,Value.int IntKind.i64 y.filter.who,Value.int IntKind.i64 y.filter.self,Value.int IntKind.i64 y.filter.types,Value.int IntKind.i64 y.filter.notTypes,Value.int IntKind.i64 y.filter.colors,Value.int IntKind.i64 y.filter.notColors,Value.string y.filter.sub,Value.int IntKind.i64 y.filter.keys,Value.int IntKind.i64 y.filter.tap,Value.int IntKind.i64 y.filter.power.kind,Value.int IntKind.i64 y.filter.power.n,Value.int IntKind.i64 y.filter.tough.kind,Value.int IntKind.i64 y.filter.tough.n,Value.int IntKind.i64 y.filter.value.kind,Value.int IntKind.i64 y.filter.value.n]=false)=¬ (x=y):=by
 rw [← GAmount.lks x y,Bool.not_eq_true]
theorem GReplace.lks (x y:GReplace):(lksEq [Value.int IntKind.i64 x.on,Value.int IntKind.i64 x.who,Value.int IntKind.i64 x.filter.zone,Value.int IntKind.i64 x.filter.who,Value.int IntKind.i64 x.filter.self,Value.int IntKind.i64 x.filter.types,Value.int IntKind.i64 x.filter.notTypes,Value.int IntKind.i64 x.filter.colors,Value.int IntKind.i64 x.filter.notColors,Value.string x.filter.sub,Value.int IntKind.i64 x.filter.keys,Value.int IntKind.i64 x.filter.tap,Value.int IntKind.i64 x.filter.power.kind,Value.int IntKind.i64 x.filter.power.n,Value.int IntKind.i64 x.filter.tough.kind,Value.int IntKind.i64 x.filter.tough.n,Value.int IntKind.i64 x.filter.value.kind,Value.int IntKind.i64 x.filter.value.n,Value.int IntKind.i64 x.do_,Value.int IntKind.i64 x.n,Value.int IntKind.i64 x.zone,Value.int IntKind.i64 x.counter] [Value.int IntKind.i64 y.on,Value.int IntKind.i64 y.who,Value.int IntKind.i64 y.filter.zone,Value.int IntKind.i64 y.filter.who,Value.int IntKind.i64 y.filter.self,Value.int IntKind.i64 y.filter.types,Value.int IntKind.i64 y.filter.notTypes,Value.int IntKind.i64 y.filter.colors,Value.int IntKind.i64 y.filter.notColors,Value.string y.filter.sub,Value.int IntKind.i64 y.filter.keys,Value.int IntKind.i64 y.filter.tap,Value.int IntKind.i64 y.filter.power.kind,Value.int IntKind.i64 y.filter.power.n,Value.int IntKind.i64 y.filter.tough.kind,Value.int IntKind.i64 y.filter.tough.n,Value.int IntKind.i64 y.filter.value.kind,Value.int IntKind.i64 y.filter.value.n,Value.int IntKind.i64 y.do_,Value.int IntKind.i64 y.n,Value.int IntKind.i64 y.zone,Value.int IntKind.i64 y.counter]=true)=(x=y):=by
 obtain ⟨p1,p2,⟨p3,p4,p5,p6,p7,p8,p9,p10,p11,p12,⟨p13,p14⟩,⟨p15,p16⟩,⟨p17,p18⟩⟩,p19,p20,p21,p22⟩:=x
 obtain ⟨q1,q2,⟨q3,q4,q5,q6,q7,q8,q9,q10,q11,q12,⟨q13,q14⟩,⟨q15,q16⟩,⟨q17,q18⟩⟩,q19,q20,q21,q22⟩:=y
 simp [lksEq,lkEq,ByteArray.toList_eq,ByteArray.ext_iff,and_assoc]
theorem GReplace.lksF (x y:GReplace):(lksEq [Value.int IntKind.i64 x.on,Value.int IntKind.i64 x.who,Value.int IntKind.i64 x.filter.zone,Value.int IntKind.i64 x.filter.who,Value.int IntKind.i64 x.filter.self,Value.int IntKind.i64 x.filter.types,Value.int IntKind.i64 x.filter.notTypes,Value.int IntKind.i64 x.filter.colors,Value.int IntKind.i64 x.filter.notColors,Value.string x.filter.sub,Value.int IntKind.i64 x.filter.keys,Value.int IntKind.i64 x.filter.tap,Value.int IntKind.i64 x.filter.power.kind,Value.int IntKind.i64 x.filter.power.n,Value.int IntKind.i64 x.filter.tough.kind,Value.int IntKind.i64 x.filter.tough.n,Value.int IntKind.i64 x.filter.value.kind,Value.int IntKind.i64 x.filter.value.n,Value.int IntKind.i64 x.do_,Value.int IntKind.i64 x.n,Value.int IntKind.i64 x.zone,Value.int IntKind.i64 x.counter] [Value.int IntKind.i64 y.on,Value.int IntKind.i64 y.who,Value.int IntKind.i64 y.filter.zone,Value.int IntKind.i64 y.filter.who,Value.int IntKind.i64 y.filter.self,Value.int IntKind.i64 y.filter.types,Value.int IntKind.i64 y.filter.notTypes,Value.int IntKind.i64 y.filter.colors,Value.int IntKind.i64 y.filter.notColors,Value.string y.filter.sub,Value.int IntKind.i64 y.filter.keys,Value.int IntKind.i64 y.filter.tap,Value.int IntKind.i64 y.filter.power.kind,Value.int IntKind.i64 y.filter.power.n,Value.int IntKind.i64 y.filter.tough.kind,Value.int IntKind.i64 y.filter.tough.n,Value.int IntKind.i64 y.filter.value.kind,Value.int IntKind.i64 y.filter.value.n,Value.int IntKind.i64 y.do_,Value.int IntKind.i64 y.n,Value.int IntKind.i64 y.zone,Value.int IntKind.i64 y.counter]=false)=¬ (x=y):=by
 rw [← GReplace.lks x y,Bool.not_eq_true]
theorem GTarget.lks (x y:GTarget):(lksEq [Value.int IntKind.i64 x.object,Value.int IntKind.i64 x.player] [Value.int IntKind.i64 y.object,Value.int IntKind.i64 y.player]=true)=(x=y):=by
 obtain ⟨p1,p2⟩:=x
 obtain ⟨q1,q2⟩:=y
 simp [lksEq,lkEq]
theorem GTarget.lksF (x y:GTarget):(lksEq [Value.int IntKind.i64 x.object,Value.int IntKind.i64 x.player] [Value.int IntKind.i64 y.object,Value.int IntKind.i64 y.player]=false)=¬ (x=y):=by
 rw [← GTarget.lks x y,Bool.not_eq_true]
theorem GEvent.lks (x y:GEvent):(lksEq [Value.int IntKind.i64 x.kind,Value.int IntKind.i64 x.source,Value.int IntKind.i64 x.object,Value.int IntKind.i64 x.player,Value.int IntKind.i64 x.amount,Value.int IntKind.i64 x.from_,Value.int IntKind.i64 x.to_,Value.int IntKind.i64 x.cause,Value.int IntKind.i64 x.counter,Value.int IntKind.i64 x.card,Value.bool x.combat,Value.bool x.tapped,Value.int IntKind.i64 x.extra0,Value.int IntKind.i64 x.extra1,Value.int IntKind.i64 x.extra2] [Value.int IntKind.i64 y.kind,Value.int IntKind.i64 y.source,Value.int IntKind.i64 y.object,Value.int IntKind.i64 y.player,Value.int IntKind.i64 y.amount,Value.int IntKind.i64 y.from_,Value.int IntKind.i64 y.to_,Value.int IntKind.i64 y.cause,Value.int IntKind.i64 y.counter,Value.int IntKind.i64 y.card,Value.bool y.combat,Value.bool y.tapped,Value.int IntKind.i64 y.extra0,Value.int IntKind.i64 y.extra1,Value.int IntKind.i64 y.extra2]=true)=(x=y):=by
 obtain ⟨p1,p2,p3,p4,p5,p6,p7,p8,p9,p10,p11,p12,p13,p14,p15⟩:=x
 obtain ⟨q1,q2,q3,q4,q5,q6,q7,q8,q9,q10,q11,q12,q13,q14,q15⟩:=y
 simp [lksEq,lkEq]
theorem GEvent.lksF (x y:GEvent):(lksEq [Value.int IntKind.i64 x.kind,Value.int IntKind.i64 x.source,Value.int IntKind.i64 x.object,Value.int IntKind.i64 x.player,Value.int IntKind.i64 x.amount,Value.int IntKind.i64 x.from_,Value.int IntKind.i64 x.to_,Value.int IntKind.i64 x.cause,Value.int IntKind.i64 x.counter,Value.int IntKind.i64 x.card,Value.bool x.combat,Value.bool x.tapped,Value.int IntKind.i64 x.extra0,Value.int IntKind.i64 x.extra1,Value.int IntKind.i64 x.extra2] [Value.int IntKind.i64 y.kind,Value.int IntKind.i64 y.source,Value.int IntKind.i64 y.object,Value.int IntKind.i64 y.player,Value.int IntKind.i64 y.amount,Value.int IntKind.i64 y.from_,Value.int IntKind.i64 y.to_,Value.int IntKind.i64 y.cause,Value.int IntKind.i64 y.counter,Value.int IntKind.i64 y.card,Value.bool y.combat,Value.bool y.tapped,Value.int IntKind.i64 y.extra0,Value.int IntKind.i64 y.extra1,Value.int IntKind.i64 y.extra2]=false)=¬ (x=y):=by
 rw [← GEvent.lks x y,Bool.not_eq_true]
theorem GObject.lks (x y:GObject):(lksEq [Value.int IntKind.i64 x.id,Value.int IntKind.i64 x.card,Value.int IntKind.i64 x.owner,Value.int IntKind.i64 x.control,Value.int IntKind.i64 x.zone,Value.bool x.token,Value.bool x.tapped,Value.bool x.sick,Value.bool x.deadly,Value.int IntKind.i64 x.damage,Value.int IntKind.i64 x.counters0,Value.int IntKind.i64 x.counters1,Value.int IntKind.i64 x.counters2,Value.int IntKind.i64 x.stamp,Value.int IntKind.i64 x.copy,Value.int IntKind.i64 x.attack,Value.bool x.blocked,Value.int IntKind.i64 x.blocks,Value.int IntKind.i64 x.shield] [Value.int IntKind.i64 y.id,Value.int IntKind.i64 y.card,Value.int IntKind.i64 y.owner,Value.int IntKind.i64 y.control,Value.int IntKind.i64 y.zone,Value.bool y.token,Value.bool y.tapped,Value.bool y.sick,Value.bool y.deadly,Value.int IntKind.i64 y.damage,Value.int IntKind.i64 y.counters0,Value.int IntKind.i64 y.counters1,Value.int IntKind.i64 y.counters2,Value.int IntKind.i64 y.stamp,Value.int IntKind.i64 y.copy,Value.int IntKind.i64 y.attack,Value.bool y.blocked,Value.int IntKind.i64 y.blocks,Value.int IntKind.i64 y.shield]=true)=(x=y):=by
 obtain ⟨p1,p2,p3,p4,p5,p6,p7,p8,p9,p10,p11,p12,p13,p14,p15,p16,p17,p18,p19⟩:=x
 obtain ⟨q1,q2,q3,q4,q5,q6,q7,q8,q9,q10,q11,q12,q13,q14,q15,q16,q17,q18,q19⟩:=y
 simp [lksEq,lkEq]
theorem GObject.lksF (x y:GObject):(lksEq [Value.int IntKind.i64 x.id,Value.int IntKind.i64 x.card,Value.int IntKind.i64 x.owner,Value.int IntKind.i64 x.control,Value.int IntKind.i64 x.zone,Value.bool x.token,Value.bool x.tapped,Value.bool x.sick,Value.bool x.deadly,Value.int IntKind.i64 x.damage,Value.int IntKind.i64 x.counters0,Value.int IntKind.i64 x.counters1,Value.int IntKind.i64 x.counters2,Value.int IntKind.i64 x.stamp,Value.int IntKind.i64 x.copy,Value.int IntKind.i64 x.attack,Value.bool x.blocked,Value.int IntKind.i64 x.blocks,Value.int IntKind.i64 x.shield] [Value.int IntKind.i64 y.id,Value.int IntKind.i64 y.card,Value.int IntKind.i64 y.owner,Value.int IntKind.i64 y.control,Value.int IntKind.i64 y.zone,Value.bool y.token,Value.bool y.tapped,Value.bool y.sick,Value.bool y.deadly,Value.int IntKind.i64 y.damage,Value.int IntKind.i64 y.counters0,Value.int IntKind.i64 y.counters1,Value.int IntKind.i64 y.counters2,Value.int IntKind.i64 y.stamp,Value.int IntKind.i64 y.copy,Value.int IntKind.i64 y.attack,Value.bool y.blocked,Value.int IntKind.i64 y.blocks,Value.int IntKind.i64 y.shield]=false)=¬ (x=y):=by
 rw [← GObject.lks x y,Bool.not_eq_true]
end Cg
end
section
namespace Go.Proofs.YtpibcdnagnjokaaGreat
open Go Cg Go.RowKit Go.Shelf
theorem q03same (a:List Int) (b:List Int) (ha:a.length*8≤limB) (hb:b.length*8≤limB):∃ r:Bool,(r=true↔a=b)∧Ct Tryz.prog 25 [.c (.t (.sl 1 (a.map eI))),.c (.t (.sl 1 (b.map eI)))] (AV.b r) [] true:=by
 refine ct_x (Φ:=fun (r:Bool)=>r=true↔a=b) lit_b (ctx_of Tryz.func25 rfl (enters_of Tryz.func25 (by kernel_rfl) rfl) tabOk (by kernel_rfl) rfl rfl (TpX.runY [] [] ?_))
 repeat' (first|(apply ix_k;(first|assumption|omega|(simp only [IntKind.wrap_i64,IntKind.wrap_u64,List.length_cons,List.length_nil];omega)|(simp only [Lm] at *;omega)|decide);(first|assumption|omega|(simp only [IntKind.wrap_i64,IntKind.wrap_u64,List.length_cons,List.length_nil];omega)|(simp only [Lm] at *;omega)|decide);intro _)|(apply cond_p <;> intro _)|(apply cond_e <;> intro _)|(apply cond_ne <;> intro _)|apply cond_n|(apply cS <;> intro _)|(apply leaf_x;exact Ei [] (Ai rfl (Ai trivial rfl));exact (by first|(refine ⟨fun hh=>?_,fun hh=>?_⟩;(exact absurd hh (by decide));(subst hh;simp_all;done))|exact eqUp_end ‹_› ‹_› ‹_›);rfl)|(apply lp_at 4 rfl;refine LpX.up (β:=Unit) 4 5 ((((a.map eI).length:Nat):Int)) (by first|omega|exact len62 (by first|assumption|exact okmr ‹_› ‹_› | exact okmg _ ‹_›) rfl) (by omega) (fun _=>[]) (fun i _=>EqUp a b i) [0,1] [] 200000 rfl ?_;refine Ai ?_ (fun _ _ _ _ _=>TpX.runY [] [] ?_))|exact Ei () (Ai (by first|exact EqUp.zero|exact EqUp.step ‹_› ‹_› ‹_› ‹_› (by first|assumption|(simp_all [GFilter.lks,GFilter.lksF,GMod.lks,GMod.lksF,GPrice.lks,GPrice.lksF,GTrigger.lks,GTrigger.lksF,GSpec.lks,GSpec.lksF,GRef.lks,GRef.lksF,GAmount.lks,GAmount.lksF,GReplace.lks,GReplace.lksF,GTarget.lks,GTarget.lksF,GEvent.lks,GEvent.lksF,GObject.lks,GObject.lksF,six_lks,six_lksF,txt_eqB];done))) (wk_slim rfl rfl rfl rfl))|exact Ai (by first|assumption|omega) (Ei () (Ai (by first|exact EqUp.zero|exact EqUp.step ‹_› ‹_› ‹_› ‹_› (by first|assumption|(simp_all [GFilter.lks,GFilter.lksF,GMod.lks,GMod.lksF,GPrice.lks,GPrice.lksF,GTrigger.lks,GTrigger.lksF,GSpec.lks,GSpec.lksF,GRef.lks,GRef.lksF,GAmount.lks,GAmount.lksF,GReplace.lks,GReplace.lksF,GTarget.lks,GTarget.lksF,GEvent.lks,GEvent.lksF,GObject.lks,GObject.lksF,six_lks,six_lksF,txt_eqB];done))) (wk_slim rfl rfl rfl rfl)))|(apply ix_map;(first|assumption|omega|(simp only [IntKind.wrap_i64,IntKind.wrap_u64,List.length_cons,List.length_nil];omega)|(simp only [Lm] at *;omega)|decide);(first|assumption|omega|(simp only [IntKind.wrap_i64,IntKind.wrap_u64,List.length_cons,List.length_nil];omega)|(simp only [Lm] at *;omega)|decide);intro _ _)|fail)
theorem q26sameMods (a:List GMod) (b:List GMod) (ha:a.length*176≤limB) (hb:b.length*176≤limB):∃ r:Bool,(r=true↔a=b)∧Ct Tryz.prog 113 [.c (.t (.sl 20 (a.map GMod.enc))),.c (.t (.sl 20 (b.map GMod.enc)))] (AV.b r) [] true:=by
 refine ct_x (Φ:=fun (r:Bool)=>r=true↔a=b) lit_b (ctx_of Tryz.func113 rfl (enters_of Tryz.func113 (by kernel_rfl) rfl) tabOk (by kernel_rfl) rfl rfl (TpX.runY [] [] ?_))
 repeat' (first|(apply ix_k;(first|assumption|omega|(simp only [IntKind.wrap_i64,IntKind.wrap_u64,List.length_cons,List.length_nil];omega)|(simp only [Lm] at *;omega)|decide);(first|assumption|omega|(simp only [IntKind.wrap_i64,IntKind.wrap_u64,List.length_cons,List.length_nil];omega)|(simp only [Lm] at *;omega)|decide);intro _)|(apply cond_p <;> intro _)|(apply cond_e <;> intro _)|(apply cond_ne <;> intro _)|apply cond_n|(apply cS <;> intro _)|(apply leaf_x;exact Ei [] (Ai rfl (Ai trivial rfl));exact (by first|(refine ⟨fun hh=>?_,fun hh=>?_⟩;(exact absurd hh (by decide));(subst hh;simp_all [GMod.lksF];done))|exact eqUp_end ‹_› ‹_› ‹_›);rfl)|(apply lp_at 4 rfl;refine LpX.up (β:=Unit) 4 5 ((((a.map GMod.enc).length:Nat):Int)) (by first|omega|exact len62 (by first|assumption|exact okmr ‹_› ‹_› | exact okmg _ ‹_›) rfl) (by omega) (fun _=>[]) (fun i _=>EqUp a b i) [0,1] [] 200000 rfl ?_;refine Ai ?_ (fun _ _ _ _ _=>TpX.runY [] [] ?_))|exact Ei () (Ai (by first|exact EqUp.zero|exact EqUp.step ‹_› ‹_› ‹_› ‹_› (by first|assumption|(simp_all [GMod.lks];done))) (wk_slim rfl rfl rfl rfl))|exact Ai (by first|assumption|omega) (Ei () (Ai (by first|exact EqUp.zero|exact EqUp.step ‹_› ‹_› ‹_› ‹_› (by first|assumption|(simp_all [GMod.lks];done))) (wk_slim rfl rfl rfl rfl)))|(apply ix_map;(first|assumption|omega|(simp only [IntKind.wrap_i64,IntKind.wrap_u64,List.length_cons,List.length_nil];omega)|(simp only [Lm] at *;omega)|decide);(first|assumption|omega|(simp only [IntKind.wrap_i64,IntKind.wrap_u64,List.length_cons,List.length_nil];omega)|(simp only [Lm] at *;omega)|decide);intro _ _)|fail)
theorem q17sameMods (a:List GMod) (b:List GMod) (ha:a.length*176≤limB) (hb:b.length*176≤limB):∃ r:Bool,(r=true↔a=b)∧Ct Tryz.prog 151 [.c (.t (.sl 20 (a.map GMod.enc))),.c (.t (.sl 20 (b.map GMod.enc)))] (AV.b r) [] true:=by
 refine ct_x (Φ:=fun (r:Bool)=>r=true↔a=b) lit_b (ctx_of Tryz.func151 rfl (enters_of Tryz.func151 (by kernel_rfl) rfl) tabOk (by kernel_rfl) rfl rfl (TpX.runY [] [] ?_))
 repeat' (first|(apply ix_k;(first|assumption|omega|(simp only [IntKind.wrap_i64,IntKind.wrap_u64,List.length_cons,List.length_nil];omega)|(simp only [Lm] at *;omega)|decide);(first|assumption|omega|(simp only [IntKind.wrap_i64,IntKind.wrap_u64,List.length_cons,List.length_nil];omega)|(simp only [Lm] at *;omega)|decide);intro _)|(apply cond_p <;> intro _)|(apply cond_e <;> intro _)|(apply cond_ne <;> intro _)|apply cond_n|(apply cS <;> intro _)|(apply leaf_x;exact Ei [] (Ai rfl (Ai trivial rfl));exact (by first|(refine ⟨fun hh=>?_,fun hh=>?_⟩;(exact absurd hh (by decide));(subst hh;simp_all [GMod.lksF];done))|exact eqUp_end ‹_› ‹_› ‹_›);rfl)|(apply lp_at 4 rfl;refine LpX.up (β:=Unit) 4 5 ((((a.map GMod.enc).length:Nat):Int)) (by first|omega|exact len62 (by first|assumption|exact okmr ‹_› ‹_› | exact okmg _ ‹_›) rfl) (by omega) (fun _=>[]) (fun i _=>EqUp a b i) [0,1] [] 200000 rfl ?_;refine Ai ?_ (fun _ _ _ _ _=>TpX.runY [] [] ?_))|exact Ei () (Ai (by first|exact EqUp.zero|exact EqUp.step ‹_› ‹_› ‹_› ‹_› (by first|assumption|(simp_all [GMod.lks];done))) (wk_slim rfl rfl rfl rfl))|exact Ai (by first|assumption|omega) (Ei () (Ai (by first|exact EqUp.zero|exact EqUp.step ‹_› ‹_› ‹_› ‹_› (by first|assumption|(simp_all [GMod.lks];done))) (wk_slim rfl rfl rfl rfl)))|(apply ix_map;(first|assumption|omega|(simp only [IntKind.wrap_i64,IntKind.wrap_u64,List.length_cons,List.length_nil];omega)|(simp only [Lm] at *;omega)|decide);(first|assumption|omega|(simp only [IntKind.wrap_i64,IntKind.wrap_u64,List.length_cons,List.length_nil];omega)|(simp only [Lm] at *;omega)|decide);intro _ _)|fail)
theorem q17same (a:GEffect) (b:GEffect) (ha:a.ok) (hb:b.ok):∃ r:Bool,(r=true↔a=b)∧Ct Tryz.prog 182 [.agg (a.enc.map .t),.agg (b.enc.map .t)] (AV.b r) [] true:=by
 have ha_:=ha
 obtain ⟨oa0,oa1,oa2,oa3,oa4⟩:=ha_
 have hb_:=hb
 obtain ⟨ob0,ob1,ob2,ob3,ob4⟩:=hb_
 refine ct_x (Φ:=fun (r:Bool)=>r=true↔a=b) lit_b (ctx_of Tryz.func182 rfl (enters_of Tryz.func182 (by kernel_rfl) rfl) tabOk (by kernel_rfl) rfl rfl (TpX.runY [] [] ?_))
 repeat' (first|(apply ix_k;(first|assumption|omega|(simp only [IntKind.wrap_i64,IntKind.wrap_u64,List.length_cons,List.length_nil];omega)|(simp only [Lm] at *;omega)|decide);(first|assumption|omega|(simp only [IntKind.wrap_i64,IntKind.wrap_u64,List.length_cons,List.length_nil];omega)|(simp only [Lm] at *;omega)|decide);intro _)|(apply cond_p <;> intro _)|(apply cond_e <;> intro _)|(apply cond_ne <;> intro _)|apply cond_n|(apply cS <;> intro _)|(apply leaf_x;exact Ei [] (Ai rfl (Ai trivial rfl));exact (by first|(refine ⟨fun hh=>?_,fun hh=>?_⟩;(exact absurd hh (by decide));(subst hh;simp_all [GFilter.lks,GFilter.lksF,GRef.lks,GRef.lksF,GAmount.lks,GAmount.lksF,six_lksF];done))|(refine ⟨fun hh=>?_,fun hh=>?_⟩;(focus (cases a;cases b;simp_all [GFilter.lks,GRef.lks,GAmount.lks,six_lks,txt_eqB];done));(subst hh;simp_all [GFilter.lks,GRef.lks,GAmount.lks,six_lks];done)));rfl)|(apply call_f 151;refine call_x (q17sameMods _ _ (by first|assumption|exact okmr ‹_› ‹_› | exact okmg _ ‹_›) (by first|assumption|exact okmr ‹_› ‹_› | exact okmg _ ‹_›)) ⟨rfl,rfl,trivial⟩ (.inl rfl) (fun _ _=>?_))|fail)
theorem q17sameList (a:List GEffect) (b:List GEffect) (ha:a.length*560≤limB) (ma:∀ y∈a,GEffect.ok y) (hb:b.length*560≤limB) (mb:∀ y∈b,GEffect.ok y):∃ r:Bool,(r=true↔a=b)∧Ct Tryz.prog 152 [.c (.t (.sl 64 (a.map GEffect.enc))),.c (.t (.sl 64 (b.map GEffect.enc)))] (AV.b r) [] true:=by
 refine ct_x (Φ:=fun (r:Bool)=>r=true↔a=b) lit_b (ctx_of Tryz.func152 rfl (enters_of Tryz.func152 (by kernel_rfl) rfl) tabOk (by kernel_rfl) rfl rfl (TpX.runY [] [] ?_))
 repeat' (first|(apply ix_k;(first|assumption|omega|(simp only [IntKind.wrap_i64,IntKind.wrap_u64,List.length_cons,List.length_nil];omega)|(simp only [Lm] at *;omega)|decide);(first|assumption|omega|(simp only [IntKind.wrap_i64,IntKind.wrap_u64,List.length_cons,List.length_nil];omega)|(simp only [Lm] at *;omega)|decide);intro _)|(apply cond_p <;> intro _)|(apply cond_e <;> intro _)|(apply cond_ne <;> intro _)|apply cond_n|(apply cS <;> intro _)|(apply leaf_x;exact Ei [] (Ai rfl (Ai trivial rfl));exact (by first|(refine ⟨fun hh=>?_,fun hh=>?_⟩;(exact absurd hh (by decide));(subst hh;simp_all;done))|exact eqUp_end ‹_› ‹_› ‹_›);rfl)|(apply lp_at 4 rfl;refine LpX.up (β:=Unit) 4 5 ((((a.map GEffect.enc).length:Nat):Int)) (by first|omega|exact len62 (by first|assumption|exact okmr ‹_› ‹_› | exact okmg _ ‹_›) rfl) (by omega) (fun _=>[]) (fun i _=>EqUp a b i) [0,1] [] 200000 rfl ?_;refine Ai ?_ (fun _ _ _ _ _=>TpX.runY [] [] ?_))|exact Ei () (Ai (by first|exact EqUp.zero|exact EqUp.step ‹_› ‹_› ‹_› ‹_› (by first|assumption|(simp_all;done))) (wk_slim rfl rfl rfl rfl))|exact Ai (by first|assumption|omega) (Ei () (Ai (by first|exact EqUp.zero|exact EqUp.step ‹_› ‹_› ‹_› ‹_› (by first|assumption|(simp_all;done))) (wk_slim rfl rfl rfl rfl)))|(apply ix_map;(first|assumption|omega|(simp only [IntKind.wrap_i64,IntKind.wrap_u64,List.length_cons,List.length_nil];omega)|(simp only [Lm] at *;omega)|decide);(first|assumption|omega|(simp only [IntKind.wrap_i64,IntKind.wrap_u64,List.length_cons,List.length_nil];omega)|(simp only [Lm] at *;omega)|decide);intro _ _)|(apply call_f 182;refine call_x (q17same _ _ (by first|assumption|exact okmr ‹_› ‹_› | exact okmg _ ‹_›) (by first|assumption|exact okmr ‹_› ‹_› | exact okmg _ ‹_›)) ⟨fL (GEffect.enc _),fL (GEffect.enc _),trivial⟩ (.inl rfl) (fun _ _=>?_))|fail)
theorem q20same (a:GAbility) (b:GAbility) (ha:a.ok) (hb:b.ok):∃ r:Bool,(r=true↔a=b)∧Ct Tryz.prog 112 [.agg (a.enc.map .t),.agg (b.enc.map .t)] (AV.b r) [] true:=by
 have ha_:=ha
 obtain ⟨oa0,oa1,oa2,oa3,oa4,oa5,oa6,oa7,oa8,oa9⟩:=ha_
 have hb_:=hb
 obtain ⟨ob0,ob1,ob2,ob3,ob4,ob5,ob6,ob7,ob8,ob9⟩:=hb_
 refine ct_x (Φ:=fun (r:Bool)=>r=true↔a=b) lit_b (ctx_of Tryz.func112 rfl (enters_of Tryz.func112 (by kernel_rfl) rfl) tabOk (by kernel_rfl) rfl rfl (TpX.runY [] [] ?_))
 repeat' (first|(apply ix_k;(first|assumption|omega|(simp only [IntKind.wrap_i64,IntKind.wrap_u64,List.length_cons,List.length_nil];omega)|(simp only [Lm] at *;omega)|decide);(first|assumption|omega|(simp only [IntKind.wrap_i64,IntKind.wrap_u64,List.length_cons,List.length_nil];omega)|(simp only [Lm] at *;omega)|decide);intro _)|(apply cond_p <;> intro _)|(apply cond_e <;> intro _)|(apply cond_ne <;> intro _)|apply cond_n|(apply cS <;> intro _)|(apply leaf_x;exact Ei [] (Ai rfl (Ai trivial rfl));exact (by first|(refine ⟨fun hh=>?_,fun hh=>?_⟩;(exact absurd hh (by decide));(subst hh;simp_all [GFilter.lks,GFilter.lksF,GPrice.lks,GPrice.lksF,GTrigger.lks,GTrigger.lksF,GSpec.lksF];done))|(refine ⟨fun hh=>?_,fun hh=>?_⟩;(focus (have e0:a.specs=b.specs:=eqUp_all ‹_› ‹_› ‹_›;cases a;cases b;simp_all [GFilter.lks,GPrice.lks,GTrigger.lks,GReplace.lks];done));(subst hh;simp_all [GFilter.lks,GPrice.lks,GTrigger.lks,GReplace.lks];done)));rfl)|(apply lp_at 4 rfl;refine LpX.up (β:=Unit) 4 5 ((((a.specs.map GSpec.enc).length:Nat):Int)) (by first|omega|exact len62 (by first|assumption|exact okmr ‹_› ‹_› | exact okmg _ ‹_›) rfl) (by omega) (fun _=>[]) (fun i _=>EqUp a.specs b.specs i) [2,3] [0,128] 200000 rfl ?_;refine Ai ?_ (fun _ _ _ _ _=>TpX.runY [] [] ?_))|exact Ei () (Ai (by first|exact EqUp.zero|exact EqUp.step ‹_› ‹_› ‹_› ‹_› (by first|assumption|(simp_all [GSpec.lks];done))) (wk_slim rfl rfl rfl rfl))|exact Ai (by first|assumption|omega) (Ei () (Ai (by first|exact EqUp.zero|exact EqUp.step ‹_› ‹_› ‹_› ‹_› (by first|assumption|(simp_all [GSpec.lks];done))) (wk_slim rfl rfl rfl rfl)))|(apply ix_map;(first|assumption|omega|(simp only [IntKind.wrap_i64,IntKind.wrap_u64,List.length_cons,List.length_nil];omega)|(simp only [Lm] at *;omega)|decide);(first|assumption|omega|(simp only [IntKind.wrap_i64,IntKind.wrap_u64,List.length_cons,List.length_nil];omega)|(simp only [Lm] at *;omega)|decide);intro _ _)|(apply call_f 151;refine call_x (q17sameMods _ _ (by first|assumption|exact okmr ‹_› ‹_› | exact okmg _ ‹_›) (by first|assumption|exact okmr ‹_› ‹_› | exact okmg _ ‹_›)) ⟨rfl,rfl,trivial⟩ (.inl rfl) (fun _ _=>?_))|(apply call_f 152;refine call_x (q17sameList _ _ (by first|assumption|exact okmr ‹_› ‹_› | exact okmg _ ‹_›) (by first|assumption|exact okmr ‹_› ‹_› | exact okmg _ ‹_›) (by first|assumption|exact okmr ‹_› ‹_› | exact okmg _ ‹_›) (by first|assumption|exact okmr ‹_› ‹_› | exact okmg _ ‹_›)) ⟨rfl,rfl,trivial⟩ (.inl rfl) (fun _ _=>?_))|fail)
theorem q26samePlayer (a:GPlayer) (b:GPlayer) (ha:a.ok) (hb:b.ok):∃ r:Bool,(r=true↔a=b)∧Ct Tryz.prog 61 [.agg (a.enc.map .t),.agg (b.enc.map .t)] (AV.b r) [] true:=by
 have ha_:=ha
 obtain ⟨oa0,oa1,oa2⟩:=ha_
 have hb_:=hb
 obtain ⟨ob0,ob1,ob2⟩:=hb_
 refine ct_x (Φ:=fun (r:Bool)=>r=true↔a=b) lit_b (ctx_of Tryz.func61 rfl (enters_of Tryz.func61 (by kernel_rfl) rfl) tabOk (by kernel_rfl) rfl rfl (TpX.runY [] [] ?_))
 repeat' (first|(apply ix_k;(first|assumption|omega|(simp only [IntKind.wrap_i64,IntKind.wrap_u64,List.length_cons,List.length_nil];omega)|(simp only [Lm] at *;omega)|decide);(first|assumption|omega|(simp only [IntKind.wrap_i64,IntKind.wrap_u64,List.length_cons,List.length_nil];omega)|(simp only [Lm] at *;omega)|decide);intro _)|(apply cond_p <;> intro _)|(apply cond_e <;> intro _)|(apply cond_ne <;> intro _)|apply cond_n|(apply cS <;> intro _)|(apply leaf_x;exact Ei [] (Ai rfl (Ai trivial rfl));exact (by first|(refine ⟨fun hh=>?_,fun hh=>?_⟩;(exact absurd hh (by decide));(subst hh;simp_all [six_lks,six_lksF];done))|(refine ⟨fun hh=>?_,fun hh=>?_⟩;(focus (cases a;cases b;simp_all [six_lks];done));(subst hh;simp_all [six_lks];done)));rfl)|(apply call_f 25;refine call_x (q03same _ _ (by first|assumption|exact okmr ‹_› ‹_› | exact okmg _ ‹_›) (by first|assumption|exact okmr ‹_› ‹_› | exact okmg _ ‹_›)) ⟨rfl,rfl,trivial⟩ (.inl rfl) (fun _ _=>?_))|fail)
theorem q26sameItem (a:GItem) (b:GItem) (ha:a.ok) (hb:b.ok):∃ r:Bool,(r=true↔a=b)∧Ct Tryz.prog 62 [.agg (a.enc.map .t),.agg (b.enc.map .t)] (AV.b r) [] true:=by
 have ha_:=ha
 obtain ⟨oa0,oa1,oa2,oa3⟩:=ha_
 have hb_:=hb
 obtain ⟨ob0,ob1,ob2,ob3⟩:=hb_
 refine ct_x (Φ:=fun (r:Bool)=>r=true↔a=b) lit_b (ctx_of Tryz.func62 rfl (enters_of Tryz.func62 (by kernel_rfl) rfl) tabOk (by kernel_rfl) rfl rfl (TpX.runY [] [] ?_))
 repeat' (first|(apply ix_k;(first|assumption|omega|(simp only [IntKind.wrap_i64,IntKind.wrap_u64,List.length_cons,List.length_nil];omega)|(simp only [Lm] at *;omega)|decide);(first|assumption|omega|(simp only [IntKind.wrap_i64,IntKind.wrap_u64,List.length_cons,List.length_nil];omega)|(simp only [Lm] at *;omega)|decide);intro _)|(apply cond_p <;> intro _)|(apply cond_e <;> intro _)|(apply cond_ne <;> intro _)|apply cond_n|(apply cS <;> intro _)|(apply leaf_x;exact Ei [] (Ai rfl (Ai trivial rfl));exact (by first|(refine ⟨fun hh=>?_,fun hh=>?_⟩;(exact absurd hh (by decide));(subst hh;simp_all [GTarget.lksF];done))|(refine ⟨fun hh=>?_,fun hh=>?_⟩;(focus (have e0:a.targets=b.targets:=eqUp_all ‹_› ‹_› ‹_›;cases a;cases b;simp_all [GEvent.lks];done));(subst hh;simp_all [GEvent.lks];done)));rfl)|(apply lp_at 4 rfl;refine LpX.up (β:=Unit) 4 5 ((((a.targets.map GTarget.enc).length:Nat):Int)) (by first|omega|exact len62 (by first|assumption|exact okmr ‹_› ‹_› | exact okmg _ ‹_›) rfl) (by omega) (fun _=>[]) (fun i _=>EqUp a.targets b.targets i) [2,3] [0,128] 200000 rfl ?_;refine Ai ?_ (fun _ _ _ _ _=>TpX.runY [] [] ?_))|exact Ei () (Ai (by first|exact EqUp.zero|exact EqUp.step ‹_› ‹_› ‹_› ‹_› (by first|assumption|(simp_all [GTarget.lks];done))) (wk_slim rfl rfl rfl rfl))|exact Ai (by first|assumption|omega) (Ei () (Ai (by first|exact EqUp.zero|exact EqUp.step ‹_› ‹_› ‹_› ‹_› (by first|assumption|(simp_all [GTarget.lks];done))) (wk_slim rfl rfl rfl rfl)))|(apply ix_map;(first|assumption|omega|(simp only [IntKind.wrap_i64,IntKind.wrap_u64,List.length_cons,List.length_nil];omega)|(simp only [Lm] at *;omega)|decide);(first|assumption|omega|(simp only [IntKind.wrap_i64,IntKind.wrap_u64,List.length_cons,List.length_nil];omega)|(simp only [Lm] at *;omega)|decide);intro _ _)|(apply call_f 112;refine call_x (q20same _ _ (by first|assumption|exact okmr ‹_› ‹_› | exact okmg _ ‹_›) (by first|assumption|exact okmr ‹_› ‹_› | exact okmg _ ‹_›)) ⟨fL (GAbility.enc _),fL (GAbility.enc _),trivial⟩ (.inl rfl) (fun _ _=>?_))|fail)
theorem q26sameWaiting (a:GWaiting) (b:GWaiting) (ha:a.ok) (hb:b.ok):∃ r:Bool,(r=true↔a=b)∧Ct Tryz.prog 63 [.agg (a.enc.map .t),.agg (b.enc.map .t)] (AV.b r) [] true:=by
 have ha_:=ha
 obtain ⟨oa0,oa1⟩:=ha_
 have hb_:=hb
 obtain ⟨ob0,ob1⟩:=hb_
 refine ct_x (Φ:=fun (r:Bool)=>r=true↔a=b) lit_b (ctx_of Tryz.func63 rfl (enters_of Tryz.func63 (by kernel_rfl) rfl) tabOk (by kernel_rfl) rfl rfl (TpX.runY [] [] ?_))
 repeat' (first|(apply ix_k;(first|assumption|omega|(simp only [IntKind.wrap_i64,IntKind.wrap_u64,List.length_cons,List.length_nil];omega)|(simp only [Lm] at *;omega)|decide);(first|assumption|omega|(simp only [IntKind.wrap_i64,IntKind.wrap_u64,List.length_cons,List.length_nil];omega)|(simp only [Lm] at *;omega)|decide);intro _)|(apply cond_p <;> intro _)|(apply cond_e <;> intro _)|(apply cond_ne <;> intro _)|apply cond_n|(apply cS <;> intro _)|(apply leaf_x;exact Ei [] (Ai rfl (Ai trivial rfl));exact (by first|(refine ⟨fun hh=>?_,fun hh=>?_⟩;(exact absurd hh (by decide));(subst hh;simp_all;done))|(refine ⟨fun hh=>?_,fun hh=>?_⟩;(focus (cases a;cases b;simp_all [GEvent.lks];done));(subst hh;simp_all [GEvent.lks];done)));rfl)|(apply call_f 112;refine call_x (q20same _ _ (by first|assumption|exact okmr ‹_› ‹_› | exact okmg _ ‹_›) (by first|assumption|exact okmr ‹_› ‹_› | exact okmg _ ‹_›)) ⟨fL (GAbility.enc _),fL (GAbility.enc _),trivial⟩ (.inl rfl) (fun _ _=>?_))|fail)
theorem q26sameCont (a:GCont) (b:GCont) (ha:a.ok) (hb:b.ok):∃ r:Bool,(r=true↔a=b)∧Ct Tryz.prog 64 [.agg (a.enc.map .t),.agg (b.enc.map .t)] (AV.b r) [] true:=by
 have ha_:=ha
 obtain ⟨oa0,oa1,oa2⟩:=ha_
 have hb_:=hb
 obtain ⟨ob0,ob1,ob2⟩:=hb_
 refine ct_x (Φ:=fun (r:Bool)=>r=true↔a=b) lit_b (ctx_of Tryz.func64 rfl (enters_of Tryz.func64 (by kernel_rfl) rfl) tabOk (by kernel_rfl) rfl rfl (TpX.runY [] [] ?_))
 repeat' (first|(apply ix_k;(first|assumption|omega|(simp only [IntKind.wrap_i64,IntKind.wrap_u64,List.length_cons,List.length_nil];omega)|(simp only [Lm] at *;omega)|decide);(first|assumption|omega|(simp only [IntKind.wrap_i64,IntKind.wrap_u64,List.length_cons,List.length_nil];omega)|(simp only [Lm] at *;omega)|decide);intro _)|(apply cond_p <;> intro _)|(apply cond_e <;> intro _)|(apply cond_ne <;> intro _)|apply cond_n|(apply cS <;> intro _)|(apply leaf_x;exact Ei [] (Ai rfl (Ai trivial rfl));exact (by first|(refine ⟨fun hh=>?_,fun hh=>?_⟩;(exact absurd hh (by decide));(subst hh;simp_all;done))|(refine ⟨fun hh=>?_,fun hh=>?_⟩;(focus (cases a;cases b;simp_all;done));(subst hh;simp_all;done)));rfl)|(apply call_f 25;refine call_x (q03same _ _ (by first|assumption|exact okmr ‹_› ‹_› | exact okmg _ ‹_›) (by first|assumption|exact okmr ‹_› ‹_› | exact okmg _ ‹_›)) ⟨rfl,rfl,trivial⟩ (.inl rfl) (fun _ _=>?_))|(apply call_f 113;refine call_x (q26sameMods _ _ (by first|assumption|exact okmr ‹_› ‹_› | exact okmg _ ‹_›) (by first|assumption|exact okmr ‹_› ‹_› | exact okmg _ ‹_›)) ⟨rfl,rfl,trivial⟩ (.inl rfl) (fun _ _=>?_))|fail)
theorem q26lists (a:GState) (b:GState) (ha:a.ok) (hb:b.ok):∃ r:Bool,(r=true↔a.players=b.players∧a.objects=b.objects∧a.stack=b.stack∧a.waiting=b.waiting∧a.conts=b.conts)∧Ct Tryz.prog 24 [.agg (a.enc.map .t),.agg (b.enc.map .t)] (AV.b r) [] true:=by
 have ha_:=ha
 obtain ⟨oa0,oa1,oa2,oa3,oa4,oa5,oa6,oa7,oa8,oa9,oa10,oa11,oa12⟩:=ha_
 have hb_:=hb
 obtain ⟨ob0,ob1,ob2,ob3,ob4,ob5,ob6,ob7,ob8,ob9,ob10,ob11,ob12⟩:=hb_
 refine ct_x (Φ:=fun (r:Bool)=>r=true↔a.players=b.players∧a.objects=b.objects∧a.stack=b.stack∧a.waiting=b.waiting∧a.conts=b.conts) lit_b (ctx_of Tryz.func24 rfl (enters_of Tryz.func24 (by kernel_rfl) rfl) tabOk (by kernel_rfl) rfl rfl (TpX.runY [] [] ?_))
 repeat' (first|(apply ix_k;(first|assumption|omega|(simp only [IntKind.wrap_i64,IntKind.wrap_u64,List.length_cons,List.length_nil];omega)|(simp only [Lm] at *;omega)|decide);(first|assumption|omega|(simp only [IntKind.wrap_i64,IntKind.wrap_u64,List.length_cons,List.length_nil];omega)|(simp only [Lm] at *;omega)|decide);intro _)|(apply cond_p <;> intro _)|(apply cond_e <;> intro _)|(apply cond_ne <;> intro _)|apply cond_n|(apply cS <;> intro _)|(apply leaf_x;exact Ei [] (Ai rfl (Ai trivial rfl));exact (by first|(refine ⟨fun hh=>?_,fun hh=>?_⟩;(exact absurd hh (by decide));(obtain ⟨h1,h2,h3,h4,h5⟩:=hh;cases a;cases b;dsimp only at *;subst_vars;simp_all [GObject.lksF];done))|(refine ⟨fun hh=>?_,fun hh=>?_⟩;(focus (exact ⟨eqUp_all (l:=a.players) (m:=b.players) ‹_› ‹_› ‹_›,eqUp_all (l:=a.objects) (m:=b.objects) ‹_› ‹_› ‹_›,eqUp_all (l:=a.stack) (m:=b.stack) ‹_› ‹_› ‹_›,eqUp_all (l:=a.waiting) (m:=b.waiting) ‹_› ‹_› ‹_›,eqUp_all (l:=a.conts) (m:=b.conts) ‹_› ‹_› ‹_›⟩));(rfl)));rfl)|(apply lp_at 4 rfl;refine LpX.up (β:=Unit) 4 5 ((((a.players.map GPlayer.enc).length:Nat):Int)) (by first|omega|exact len62 (by first|assumption|exact okmr ‹_› ‹_› | exact okmg _ ‹_›) rfl) (by omega) (fun _=>[]) (fun i _=>EqUp a.players b.players i) [2,3] [0,128] 200000 rfl ?_;refine Ai ?_ (fun _ _ _ _ _=>TpX.runY [] [] ?_))|(apply lp_at 9 rfl;refine LpX.up (β:=Unit) 9 6 ((((a.objects.map GObject.enc).length:Nat):Int)) (by first|omega|exact len62 (by first|assumption|exact okmr ‹_› ‹_› | exact okmg _ ‹_›) rfl) (by omega) (fun _=>[]) (fun i _=>EqUp a.objects b.objects i) [2,3] [0,128] 300000 rfl ?_;refine Ai ?_ (fun _ _ _ _ _=>TpX.runY [] [] ?_))|(apply lp_at 14 rfl;refine LpX.up (β:=Unit) 14 7 ((((a.stack.map GItem.enc).length:Nat):Int)) (by first|omega|exact len62 (by first|assumption|exact okmr ‹_› ‹_› | exact okmg _ ‹_›) rfl) (by omega) (fun _=>[]) (fun i _=>EqUp a.stack b.stack i) [2,3] [0,128] 400000 rfl ?_;refine Ai ?_ (fun _ _ _ _ _=>TpX.runY [] [] ?_))|(apply lp_at 19 rfl;refine LpX.up (β:=Unit) 19 8 ((((a.waiting.map GWaiting.enc).length:Nat):Int)) (by first|omega|exact len62 (by first|assumption|exact okmr ‹_› ‹_› | exact okmg _ ‹_›) rfl) (by omega) (fun _=>[]) (fun i _=>EqUp a.waiting b.waiting i) [2,3] [0,128] 500000 rfl ?_;refine Ai ?_ (fun _ _ _ _ _=>TpX.runY [] [] ?_))|(apply lp_at 24 rfl;refine LpX.up (β:=Unit) 24 9 ((((a.conts.map GCont.enc).length:Nat):Int)) (by first|omega|exact len62 (by first|assumption|exact okmr ‹_› ‹_› | exact okmg _ ‹_›) rfl) (by omega) (fun _=>[]) (fun i _=>EqUp a.conts b.conts i) [2,3] [0,128] 600000 rfl ?_;refine Ai ?_ (fun _ _ _ _ _=>TpX.runY [] [] ?_))|exact Ei () (Ai (by first|exact EqUp.zero|exact EqUp.step ‹_› ‹_› ‹_› ‹_› (by first|assumption|(simp_all [GObject.lks];done))) (wk_slim rfl rfl rfl rfl))|exact Ai (by first|assumption|omega) (Ei () (Ai (by first|exact EqUp.zero|exact EqUp.step ‹_› ‹_› ‹_› ‹_› (by first|assumption|(simp_all [GObject.lks];done))) (wk_slim rfl rfl rfl rfl)))|(apply ix_map;(first|assumption|omega|(simp only [IntKind.wrap_i64,IntKind.wrap_u64,List.length_cons,List.length_nil];omega)|(simp only [Lm] at *;omega)|decide);(first|assumption|omega|(simp only [IntKind.wrap_i64,IntKind.wrap_u64,List.length_cons,List.length_nil];omega)|(simp only [Lm] at *;omega)|decide);intro _ _)|(apply call_f 61;refine call_x (q26samePlayer _ _ (by first|assumption|exact okmr ‹_› ‹_› | exact okmg _ ‹_›) (by first|assumption|exact okmr ‹_› ‹_› | exact okmg _ ‹_›)) ⟨fL (GPlayer.enc _),fL (GPlayer.enc _),trivial⟩ (.inl rfl) (fun _ _=>?_))|(apply call_f 62;refine call_x (q26sameItem _ _ (by first|assumption|exact okmr ‹_› ‹_› | exact okmg _ ‹_›) (by first|assumption|exact okmr ‹_› ‹_› | exact okmg _ ‹_›)) ⟨fL (GItem.enc _),fL (GItem.enc _),trivial⟩ (.inl rfl) (fun _ _=>?_))|(apply call_f 63;refine call_x (q26sameWaiting _ _ (by first|assumption|exact okmr ‹_› ‹_› | exact okmg _ ‹_›) (by first|assumption|exact okmr ‹_› ‹_› | exact okmg _ ‹_›)) ⟨fL (GWaiting.enc _),fL (GWaiting.enc _),trivial⟩ (.inl rfl) (fun _ _=>?_))|(apply call_f 64;refine call_x (q26sameCont _ _ (by first|assumption|exact okmr ‹_› ‹_› | exact okmg _ ‹_›) (by first|assumption|exact okmr ‹_› ‹_› | exact okmg _ ‹_›)) ⟨fL (GCont.enc _),fL (GCont.enc _),trivial⟩ (.inl rfl) (fun _ _=>?_))|fail)
theorem q26same (a:GState) (b:GState) (ha:a.ok) (hb:b.ok):∃ r:Bool,(r=true↔a=b)∧Ct Tryz.prog 9 [.agg (a.enc.map .t),.agg (b.enc.map .t)] (AV.b r) [] true:=by
 have ha_:=ha
 obtain ⟨oa0,oa1,oa2,oa3,oa4,oa5,oa6,oa7,oa8,oa9,oa10,oa11,oa12⟩:=ha_
 have hb_:=hb
 obtain ⟨ob0,ob1,ob2,ob3,ob4,ob5,ob6,ob7,ob8,ob9,ob10,ob11,ob12⟩:=hb_
 refine ct_x (Φ:=fun (r:Bool)=>r=true↔a=b) lit_b (ctx_of Tryz.func9 rfl (enters_of Tryz.func9 (by kernel_rfl) rfl) tabOk (by kernel_rfl) rfl rfl (TpX.runY [] [] ?_))
 repeat' (first|(apply ix_k;(first|assumption|omega|(simp only [IntKind.wrap_i64,IntKind.wrap_u64,List.length_cons,List.length_nil];omega)|(simp only [Lm] at *;omega)|decide);(first|assumption|omega|(simp only [IntKind.wrap_i64,IntKind.wrap_u64,List.length_cons,List.length_nil];omega)|(simp only [Lm] at *;omega)|decide);intro _)|(apply cond_p <;> intro _)|(apply cond_e <;> intro _)|(apply cond_ne <;> intro _)|apply cond_n|(apply cS <;> intro _)|(apply leaf_x;exact Ei [] (Ai rfl (Ai trivial rfl));exact (by first|(refine ⟨fun hh=>?_,fun hh=>?_⟩;(exact absurd hh (by decide));(subst hh;simp_all;done))|(refine ⟨fun hh=>?_,fun hh=>?_⟩;(focus (cases a;cases b;simp_all;done));(subst hh;simp_all;done)));rfl)|(apply call_f 24;refine call_x (q26lists _ _ (by first|assumption|exact okmr ‹_› ‹_› | exact okmg _ ‹_›) (by first|assumption|exact okmr ‹_› ‹_› | exact okmg _ ‹_›)) ⟨fL (GState.enc _),fL (GState.enc _),trivial⟩ (.inl rfl) (fun _ _=>?_))|(apply call_f 25;refine call_x (q03same _ _ (by first|assumption|exact okmr ‹_› ‹_› | exact okmg _ ‹_›) (by first|assumption|exact okmr ‹_› ‹_› | exact okmg _ ‹_›)) ⟨rfl,rfl,trivial⟩ (.inl rfl) (fun _ _=>?_))|fail)
end Go.Proofs.YtpibcdnagnjokaaGreat
end
section
namespace Go.Proofs.YtpibcdnagnjokaaGreat
open Go Cg Go.RowKit Go.Sort
theorem eqU {α:Type} {l m:List α} {k:Nat} (h:∀ j,j < k→l[j]? = m[j]?) (hl:l.length=m.length) (hk:k=l.length):l=m:=List.ext_getElem? fun j=>by
 by_cases hj:j < k
 ·exact h j hj
 ·rw [List.getElem?_eq_none (by omega),List.getElem?_eq_none (by omega)]
theorem len_ne {α:Type} {l m:List α} {f:α→List Tr} (h:((((l.map f).length:Nat):Int) != (((m.map f).length:Nat):Int))=true):¬ l=m:=fun e=>by
 subst e
 simp at h
theorem len_eq {α:Type} {l m:List α} {f:α→List Tr} (h:((((l.map f).length:Nat):Int) != (((m.map f).length:Nat):Int))=false):l.length=m.length:=by
 have:(((l.map f).length:Nat):Int)=(((m.map f).length:Nat):Int):=by simpa using h
 rw [Lm,Lm] at this
 omega
theorem eq_up {α:Type} {l m:List α} {k:Nat} (h:∀ j,j < k→l[j]? = m[j]?) (h1:k < l.length) (h2:k < m.length) (e:l[k]=m[k]):∀ j,j < k+1→l[j]? = m[j]?:=fun j hj=>by
 by_cases hjk:j=k
 ·subst hjk
  rw [List.getElem?_eq_getElem h1,List.getElem?_eq_getElem h2,e]
 ·exact h j (by omega)
theorem eqfTarget_ct (f:Nat) (l m:List GTarget) (hq:∀ x∈l,∀ y∈m,Ct Tryz.prog f [.agg (x.enc.map .t),.agg (y.enc.map .t)] (AV.b (eqD x y)) [] true) (hl:l.length*16≤limB):Ct Tryz.prog 160 [.c (.t (.sl 2 (l.map GTarget.enc))),.c (.t (.sl 2 (m.map GTarget.enc))),.fnI f []] (AV.b (eqD l m)) [] true:=by
 refine Ct.lit (b:=false) ?_ rfl
 generalize hM:eqD l m=M
 refine ct_of Tryz.func160 rfl (enters_of Tryz.func160 (by kernel_rfl) rfl) tabOk (by kernel_rfl) rfl rfl rfl rfl fun w0 O _=>Tp.run [2,3] ?_
 refine cS (fun h=>?_) (fun h=>?_)
 ·have:M=false:=by rw [← hM];exact eqD_f (len_ne h)
  subst this
  refine Tp.run [] ?_
  refine Ei [] (Ai rfl (Ai ?_ ?_))
  all_goals repeat' first|refine Ai ?_ ?_|exact rfl|exact trivial|exact Ei _ rfl|refine lN ?_|refine bS ?_|fail
 have hlm:=len_eq h
 refine Tp.run [] ?_
 refine Tp.loop (fun k:Nat=>⟨[(1,.c (.t (.sl 2 (m.map GTarget.enc)))),(2,.fnI f []),(15,.c (.t (.sl 2 (l.map GTarget.enc)))),(16,AV.i (l.map GTarget.enc).length),(17,AV.i k)],[],[],10000⟩) (fun k=>k≤l.length∧∀ j,j < k→l[j]? = m[j]?) (fun k=>l.length - k) 0 ?_ ⟨Nat.zero_le _,fun j hj=>by omega⟩ ?_
 ·refine wk_of [] rfl rfl ?_ ?_ ?_
  all_goals repeat' first|refine Ai ?_ ?_|exact rfl|exact trivial|exact Ei _ rfl|refine lN ?_|refine bS ?_|fail
 rintro k ⟨hk,he⟩
 refine Tp.run [5,8,9] ?_
 refine cS (fun h=>?_) (fun h=>?_)
 ·have hlt:=len_lt h
  have hlt2:k < m.length:=by omega
  refine Tp.run [] ?_
  refine Ei k (Ei (l[k].enc) (Ai rfl (Ai (map_get _ _ k hlt) ?_)))
  refine Ei k (Ei (m[k].enc) (Ai rfl (Ai (map_get _ _ k hlt2) ?_)))
  refine cI (hq l[k] (List.getElem_mem hlt) m[k] (List.getElem_mem hlt2)) ⟨fL l[k].enc,fL m[k].enc,trivial⟩ (.inl rfl) ?_
  refine cond_n (cS (fun h2=>?_) (fun h2=>?_))
  ·refine Tp.run [] ?_
   refine Ei (k+1) (Ai ⟨by omega,eq_up he hlt hlt2 (eqD_iff.1 h2)⟩ (Ai (show l.length - (k+1) < l.length - k by omega) ?_))
   refine wk_of [] rfl rfl ?_ ?_ ?_
   ·repeat' first|refine Ai ?_ ?_|exact rfl|exact trivial|exact Ei _ rfl|refine lN ?_|refine bS ?_|fail
    exact succ_eq k hlt 16 (by decide) hl
   all_goals repeat' first|refine Ai ?_ ?_|exact rfl|exact trivial|exact Ei _ rfl|refine lN ?_|refine bS ?_|fail
  ·have:M=false:=by
    rw [← hM]
    refine eqD_f fun e=>?_
    subst e
    rw [eqD_t rfl] at h2
    cases h2
   subst this
   refine Tp.run [] ?_
   refine Ei [] (Ai rfl (Ai ?_ ?_))
   all_goals repeat' first|refine Ai ?_ ?_|exact rfl|exact trivial|exact Ei _ rfl|refine lN ?_|refine bS ?_|fail
 ·have hk2:=len_ge h hk
  have:M=true:=by rw [← hM];exact eqD_t (eqU he hlm hk2)
  subst this
  refine Ei [] (Ai rfl (Ai ?_ ?_))
  all_goals repeat' first|refine Ai ?_ ?_|exact rfl|exact trivial|exact Ei _ rfl|refine lN ?_|refine bS ?_|fail
theorem eachTarget_ct (f:Nat) (l m:List GTarget) (hq:∀ x∈l,∀ y∈m,Ct Tryz.prog f [.agg (x.enc.map .t),.agg (y.enc.map .t)] (AV.b (eqD x y)) [] true) (hl:l.length*16≤limB):Ct Tryz.prog 125 [.c (.t (.sl 2 (l.map GTarget.enc))),.c (.t (.sl 2 (m.map GTarget.enc))),.fnI f []] (AV.b (eqD l m)) [] true:=by
 refine Ct.lit (b:=false) ?_ rfl
 refine ct_of Tryz.func125 rfl (enters_of Tryz.func125 (by kernel_rfl) rfl) tabOk (by kernel_rfl) rfl rfl rfl rfl fun w0 O _=>Tp.run [] ?_
 refine cI (eqfTarget_ct f l m hq hl) ⟨rfl,rfl,⟨rfl,rfl⟩,trivial⟩ (.inl rfl) ?_
 refine Ei [] (Ai rfl (Ai ?_ ?_))
 all_goals repeat' first|refine Ai ?_ ?_|exact rfl|exact trivial|exact Ei _ rfl|refine lN ?_|refine bS ?_|fail
theorem equalTarget_ct (x y:GTarget):Ct Tryz.prog 126 [.agg (x.enc.map .t),.agg (y.enc.map .t)] (AV.b (eqD x y)) [] true:=by
 rw [show eqD x y=lksEq [Value.int IntKind.i64 x.object,Value.int IntKind.i64 x.player] [Value.int IntKind.i64 y.object,Value.int IntKind.i64 y.player] from eqD_b (GTarget.lks x y)]
 refine Ct.lit (b:=false) ?_ rfl
 refine ct_of Tryz.func126 rfl (enters_of Tryz.func126 (by kernel_rfl) rfl) tabOk (by kernel_rfl) rfl rfl rfl rfl fun w0 O _=>Tp.run [] ?_
 refine Ei [] (Ai rfl (Ai ?_ ?_))
 all_goals repeat' first|refine Ai ?_ ?_|exact rfl|exact trivial|exact Ei _ rfl|refine lN ?_|refine bS ?_|fail
theorem allTarget_ct (l m:List GTarget) (hl:l.length*16≤limB):Ct Tryz.prog 125 [.c (.t (.sl 2 (l.map GTarget.enc))),.c (.t (.sl 2 (m.map GTarget.enc))),.fnI 126 []] (AV.b (eqD l m)) [] true:=eachTarget_ct _ l m (fun x _ y _=>equalTarget_ct x y) hl
theorem eqfMod_ct (f:Nat) (l m:List GMod) (hq:∀ x∈l,∀ y∈m,Ct Tryz.prog f [.agg (x.enc.map .t),.agg (y.enc.map .t)] (AV.b (eqD x y)) [] true) (hl:l.length*176≤limB):Ct Tryz.prog 161 [.c (.t (.sl 20 (l.map GMod.enc))),.c (.t (.sl 20 (m.map GMod.enc))),.fnI f []] (AV.b (eqD l m)) [] true:=by
 refine Ct.lit (b:=false) ?_ rfl
 generalize hM:eqD l m=M
 refine ct_of Tryz.func161 rfl (enters_of Tryz.func161 (by kernel_rfl) rfl) tabOk (by kernel_rfl) rfl rfl rfl rfl fun w0 O _=>Tp.run [2,3] ?_
 refine cS (fun h=>?_) (fun h=>?_)
 ·have:M=false:=by rw [← hM];exact eqD_f (len_ne h)
  subst this
  refine Tp.run [] ?_
  refine Ei [] (Ai rfl (Ai ?_ ?_))
  all_goals repeat' first|refine Ai ?_ ?_|exact rfl|exact trivial|exact Ei _ rfl|refine lN ?_|refine bS ?_|fail
 have hlm:=len_eq h
 refine Tp.run [] ?_
 refine Tp.loop (fun k:Nat=>⟨[(1,.c (.t (.sl 20 (m.map GMod.enc)))),(2,.fnI f []),(15,.c (.t (.sl 20 (l.map GMod.enc)))),(16,AV.i (l.map GMod.enc).length),(17,AV.i k)],[],[],10000⟩) (fun k=>k≤l.length∧∀ j,j < k→l[j]? = m[j]?) (fun k=>l.length - k) 0 ?_ ⟨Nat.zero_le _,fun j hj=>by omega⟩ ?_
 ·refine wk_of [] rfl rfl ?_ ?_ ?_
  all_goals repeat' first|refine Ai ?_ ?_|exact rfl|exact trivial|exact Ei _ rfl|refine lN ?_|refine bS ?_|fail
 rintro k ⟨hk,he⟩
 refine Tp.run [5,8,9] ?_
 refine cS (fun h=>?_) (fun h=>?_)
 ·have hlt:=len_lt h
  have hlt2:k < m.length:=by omega
  refine Tp.run [] ?_
  refine Ei k (Ei (l[k].enc) (Ai rfl (Ai (map_get _ _ k hlt) ?_)))
  refine Ei k (Ei (m[k].enc) (Ai rfl (Ai (map_get _ _ k hlt2) ?_)))
  refine cI (hq l[k] (List.getElem_mem hlt) m[k] (List.getElem_mem hlt2)) ⟨fL l[k].enc,fL m[k].enc,trivial⟩ (.inl rfl) ?_
  refine cond_n (cS (fun h2=>?_) (fun h2=>?_))
  ·refine Tp.run [] ?_
   refine Ei (k+1) (Ai ⟨by omega,eq_up he hlt hlt2 (eqD_iff.1 h2)⟩ (Ai (show l.length - (k+1) < l.length - k by omega) ?_))
   refine wk_of [] rfl rfl ?_ ?_ ?_
   ·repeat' first|refine Ai ?_ ?_|exact rfl|exact trivial|exact Ei _ rfl|refine lN ?_|refine bS ?_|fail
    exact succ_eq k hlt 176 (by decide) hl
   all_goals repeat' first|refine Ai ?_ ?_|exact rfl|exact trivial|exact Ei _ rfl|refine lN ?_|refine bS ?_|fail
  ·have:M=false:=by
    rw [← hM]
    refine eqD_f fun e=>?_
    subst e
    rw [eqD_t rfl] at h2
    cases h2
   subst this
   refine Tp.run [] ?_
   refine Ei [] (Ai rfl (Ai ?_ ?_))
   all_goals repeat' first|refine Ai ?_ ?_|exact rfl|exact trivial|exact Ei _ rfl|refine lN ?_|refine bS ?_|fail
 ·have hk2:=len_ge h hk
  have:M=true:=by rw [← hM];exact eqD_t (eqU he hlm hk2)
  subst this
  refine Ei [] (Ai rfl (Ai ?_ ?_))
  all_goals repeat' first|refine Ai ?_ ?_|exact rfl|exact trivial|exact Ei _ rfl|refine lN ?_|refine bS ?_|fail
theorem eachMod_ct (f:Nat) (l m:List GMod) (hq:∀ x∈l,∀ y∈m,Ct Tryz.prog f [.agg (x.enc.map .t),.agg (y.enc.map .t)] (AV.b (eqD x y)) [] true) (hl:l.length*176≤limB):Ct Tryz.prog 129 [.c (.t (.sl 20 (l.map GMod.enc))),.c (.t (.sl 20 (m.map GMod.enc))),.fnI f []] (AV.b (eqD l m)) [] true:=by
 refine Ct.lit (b:=false) ?_ rfl
 refine ct_of Tryz.func129 rfl (enters_of Tryz.func129 (by kernel_rfl) rfl) tabOk (by kernel_rfl) rfl rfl rfl rfl fun w0 O _=>Tp.run [] ?_
 refine cI (eqfMod_ct f l m hq hl) ⟨rfl,rfl,⟨rfl,rfl⟩,trivial⟩ (.inl rfl) ?_
 refine Ei [] (Ai rfl (Ai ?_ ?_))
 all_goals repeat' first|refine Ai ?_ ?_|exact rfl|exact trivial|exact Ei _ rfl|refine lN ?_|refine bS ?_|fail
theorem equalMod_ct (x y:GMod):Ct Tryz.prog 130 [.agg (x.enc.map .t),.agg (y.enc.map .t)] (AV.b (eqD x y)) [] true:=by
 rw [show eqD x y=lksEq [Value.int IntKind.i64 x.kind,Value.int IntKind.i64 x.n,Value.int IntKind.i64 x.m,Value.string x.sub,Value.int IntKind.i64 x.filter.zone,Value.int IntKind.i64 x.filter.who,Value.int IntKind.i64 x.filter.self,Value.int IntKind.i64 x.filter.types,Value.int IntKind.i64 x.filter.notTypes,Value.int IntKind.i64 x.filter.colors,Value.int IntKind.i64 x.filter.notColors,Value.string x.filter.sub,Value.int IntKind.i64 x.filter.keys,Value.int IntKind.i64 x.filter.tap,Value.int IntKind.i64 x.filter.power.kind,Value.int IntKind.i64 x.filter.power.n,Value.int IntKind.i64 x.filter.tough.kind,Value.int IntKind.i64 x.filter.tough.n,Value.int IntKind.i64 x.filter.value.kind,Value.int IntKind.i64 x.filter.value.n] [Value.int IntKind.i64 y.kind,Value.int IntKind.i64 y.n,Value.int IntKind.i64 y.m,Value.string y.sub,Value.int IntKind.i64 y.filter.zone,Value.int IntKind.i64 y.filter.who,Value.int IntKind.i64 y.filter.self,Value.int IntKind.i64 y.filter.types,Value.int IntKind.i64 y.filter.notTypes,Value.int IntKind.i64 y.filter.colors,Value.int IntKind.i64 y.filter.notColors,Value.string y.filter.sub,Value.int IntKind.i64 y.filter.keys,Value.int IntKind.i64 y.filter.tap,Value.int IntKind.i64 y.filter.power.kind,Value.int IntKind.i64 y.filter.power.n,Value.int IntKind.i64 y.filter.tough.kind,Value.int IntKind.i64 y.filter.tough.n,Value.int IntKind.i64 y.filter.value.kind,Value.int IntKind.i64 y.filter.value.n] from eqD_b (GMod.lks x y)]
 refine Ct.lit (b:=false) ?_ rfl
 refine ct_of Tryz.func130 rfl (enters_of Tryz.func130 (by kernel_rfl) rfl) tabOk (by kernel_rfl) rfl rfl rfl rfl fun w0 O _=>Tp.run [] ?_
 refine Ei [] (Ai rfl (Ai ?_ ?_))
 all_goals repeat' first|refine Ai ?_ ?_|exact rfl|exact trivial|exact Ei _ rfl|refine lN ?_|refine bS ?_|fail
theorem allMod_ct (l m:List GMod) (hl:l.length*176≤limB):Ct Tryz.prog 129 [.c (.t (.sl 20 (l.map GMod.enc))),.c (.t (.sl 20 (m.map GMod.enc))),.fnI 130 []] (AV.b (eqD l m)) [] true:=eachMod_ct _ l m (fun x _ y _=>equalMod_ct x y) hl
theorem eqfSpec_ct (f:Nat) (l m:List GSpec) (hq:∀ x∈l,∀ y∈m,Ct Tryz.prog f [.agg (x.enc.map .t),.agg (y.enc.map .t)] (AV.b (eqD x y)) [] true) (hl:l.length*144≤limB):Ct Tryz.prog 195 [.c (.t (.sl 18 (l.map GSpec.enc))),.c (.t (.sl 18 (m.map GSpec.enc))),.fnI f []] (AV.b (eqD l m)) [] true:=by
 refine Ct.lit (b:=false) ?_ rfl
 generalize hM:eqD l m=M
 refine ct_of Tryz.func195 rfl (enters_of Tryz.func195 (by kernel_rfl) rfl) tabOk (by kernel_rfl) rfl rfl rfl rfl fun w0 O _=>Tp.run [2,3] ?_
 refine cS (fun h=>?_) (fun h=>?_)
 ·have:M=false:=by rw [← hM];exact eqD_f (len_ne h)
  subst this
  refine Tp.run [] ?_
  refine Ei [] (Ai rfl (Ai ?_ ?_))
  all_goals repeat' first|refine Ai ?_ ?_|exact rfl|exact trivial|exact Ei _ rfl|refine lN ?_|refine bS ?_|fail
 have hlm:=len_eq h
 refine Tp.run [] ?_
 refine Tp.loop (fun k:Nat=>⟨[(1,.c (.t (.sl 18 (m.map GSpec.enc)))),(2,.fnI f []),(15,.c (.t (.sl 18 (l.map GSpec.enc)))),(16,AV.i (l.map GSpec.enc).length),(17,AV.i k)],[],[],10000⟩) (fun k=>k≤l.length∧∀ j,j < k→l[j]? = m[j]?) (fun k=>l.length - k) 0 ?_ ⟨Nat.zero_le _,fun j hj=>by omega⟩ ?_
 ·refine wk_of [] rfl rfl ?_ ?_ ?_
  all_goals repeat' first|refine Ai ?_ ?_|exact rfl|exact trivial|exact Ei _ rfl|refine lN ?_|refine bS ?_|fail
 rintro k ⟨hk,he⟩
 refine Tp.run [5,8,9] ?_
 refine cS (fun h=>?_) (fun h=>?_)
 ·have hlt:=len_lt h
  have hlt2:k < m.length:=by omega
  refine Tp.run [] ?_
  refine Ei k (Ei (l[k].enc) (Ai rfl (Ai (map_get _ _ k hlt) ?_)))
  refine Ei k (Ei (m[k].enc) (Ai rfl (Ai (map_get _ _ k hlt2) ?_)))
  refine cI (hq l[k] (List.getElem_mem hlt) m[k] (List.getElem_mem hlt2)) ⟨fL l[k].enc,fL m[k].enc,trivial⟩ (.inl rfl) ?_
  refine cond_n (cS (fun h2=>?_) (fun h2=>?_))
  ·refine Tp.run [] ?_
   refine Ei (k+1) (Ai ⟨by omega,eq_up he hlt hlt2 (eqD_iff.1 h2)⟩ (Ai (show l.length - (k+1) < l.length - k by omega) ?_))
   refine wk_of [] rfl rfl ?_ ?_ ?_
   ·repeat' first|refine Ai ?_ ?_|exact rfl|exact trivial|exact Ei _ rfl|refine lN ?_|refine bS ?_|fail
    exact succ_eq k hlt 144 (by decide) hl
   all_goals repeat' first|refine Ai ?_ ?_|exact rfl|exact trivial|exact Ei _ rfl|refine lN ?_|refine bS ?_|fail
  ·have:M=false:=by
    rw [← hM]
    refine eqD_f fun e=>?_
    subst e
    rw [eqD_t rfl] at h2
    cases h2
   subst this
   refine Tp.run [] ?_
   refine Ei [] (Ai rfl (Ai ?_ ?_))
   all_goals repeat' first|refine Ai ?_ ?_|exact rfl|exact trivial|exact Ei _ rfl|refine lN ?_|refine bS ?_|fail
 ·have hk2:=len_ge h hk
  have:M=true:=by rw [← hM];exact eqD_t (eqU he hlm hk2)
  subst this
  refine Ei [] (Ai rfl (Ai ?_ ?_))
  all_goals repeat' first|refine Ai ?_ ?_|exact rfl|exact trivial|exact Ei _ rfl|refine lN ?_|refine bS ?_|fail
theorem eachSpec_ct (f:Nat) (l m:List GSpec) (hq:∀ x∈l,∀ y∈m,Ct Tryz.prog f [.agg (x.enc.map .t),.agg (y.enc.map .t)] (AV.b (eqD x y)) [] true) (hl:l.length*144≤limB):Ct Tryz.prog 156 [.c (.t (.sl 18 (l.map GSpec.enc))),.c (.t (.sl 18 (m.map GSpec.enc))),.fnI f []] (AV.b (eqD l m)) [] true:=by
 refine Ct.lit (b:=false) ?_ rfl
 refine ct_of Tryz.func156 rfl (enters_of Tryz.func156 (by kernel_rfl) rfl) tabOk (by kernel_rfl) rfl rfl rfl rfl fun w0 O _=>Tp.run [] ?_
 refine cI (eqfSpec_ct f l m hq hl) ⟨rfl,rfl,⟨rfl,rfl⟩,trivial⟩ (.inl rfl) ?_
 refine Ei [] (Ai rfl (Ai ?_ ?_))
 all_goals repeat' first|refine Ai ?_ ?_|exact rfl|exact trivial|exact Ei _ rfl|refine lN ?_|refine bS ?_|fail
theorem equalSpec_ct (x y:GSpec):Ct Tryz.prog 157 [.agg (x.enc.map .t),.agg (y.enc.map .t)] (AV.b (eqD x y)) [] true:=by
 rw [show eqD x y=lksEq [Value.bool x.player,Value.bool x.object,Value.int IntKind.i64 x.filter.zone,Value.int IntKind.i64 x.filter.who,Value.int IntKind.i64 x.filter.self,Value.int IntKind.i64 x.filter.types,Value.int IntKind.i64 x.filter.notTypes,Value.int IntKind.i64 x.filter.colors,Value.int IntKind.i64 x.filter.notColors,Value.string x.filter.sub,Value.int IntKind.i64 x.filter.keys,Value.int IntKind.i64 x.filter.tap,Value.int IntKind.i64 x.filter.power.kind,Value.int IntKind.i64 x.filter.power.n,Value.int IntKind.i64 x.filter.tough.kind,Value.int IntKind.i64 x.filter.tough.n,Value.int IntKind.i64 x.filter.value.kind,Value.int IntKind.i64 x.filter.value.n] [Value.bool y.player,Value.bool y.object,Value.int IntKind.i64 y.filter.zone,Value.int IntKind.i64 y.filter.who,Value.int IntKind.i64 y.filter.self,Value.int IntKind.i64 y.filter.types,Value.int IntKind.i64 y.filter.notTypes,Value.int IntKind.i64 y.filter.colors,Value.int IntKind.i64 y.filter.notColors,Value.string y.filter.sub,Value.int IntKind.i64 y.filter.keys,Value.int IntKind.i64 y.filter.tap,Value.int IntKind.i64 y.filter.power.kind,Value.int IntKind.i64 y.filter.power.n,Value.int IntKind.i64 y.filter.tough.kind,Value.int IntKind.i64 y.filter.tough.n,Value.int IntKind.i64 y.filter.value.kind,Value.int IntKind.i64 y.filter.value.n] from eqD_b (GSpec.lks x y)]
 refine Ct.lit (b:=false) ?_ rfl
 refine ct_of Tryz.func157 rfl (enters_of Tryz.func157 (by kernel_rfl) rfl) tabOk (by kernel_rfl) rfl rfl rfl rfl fun w0 O _=>Tp.run [] ?_
 refine Ei [] (Ai rfl (Ai ?_ ?_))
 all_goals repeat' first|refine Ai ?_ ?_|exact rfl|exact trivial|exact Ei _ rfl|refine lN ?_|refine bS ?_|fail
theorem allSpec_ct (l m:List GSpec) (hl:l.length*144≤limB):Ct Tryz.prog 156 [.c (.t (.sl 18 (l.map GSpec.enc))),.c (.t (.sl 18 (m.map GSpec.enc))),.fnI 157 []] (AV.b (eqD l m)) [] true:=eachSpec_ct _ l m (fun x _ y _=>equalSpec_ct x y) hl
theorem eqfObject_ct (f:Nat) (l m:List GObject) (hq:∀ x∈l,∀ y∈m,Ct Tryz.prog f [.agg (x.enc.map .t),.agg (y.enc.map .t)] (AV.b (eqD x y)) [] true) (hl:l.length*128≤limB):Ct Tryz.prog 122 [.c (.t (.sl 19 (l.map GObject.enc))),.c (.t (.sl 19 (m.map GObject.enc))),.fnI f []] (AV.b (eqD l m)) [] true:=by
 refine Ct.lit (b:=false) ?_ rfl
 generalize hM:eqD l m=M
 refine ct_of Tryz.func122 rfl (enters_of Tryz.func122 (by kernel_rfl) rfl) tabOk (by kernel_rfl) rfl rfl rfl rfl fun w0 O _=>Tp.run [2,3] ?_
 refine cS (fun h=>?_) (fun h=>?_)
 ·have:M=false:=by rw [← hM];exact eqD_f (len_ne h)
  subst this
  refine Tp.run [] ?_
  refine Ei [] (Ai rfl (Ai ?_ ?_))
  all_goals repeat' first|refine Ai ?_ ?_|exact rfl|exact trivial|exact Ei _ rfl|refine lN ?_|refine bS ?_|fail
 have hlm:=len_eq h
 refine Tp.run [] ?_
 refine Tp.loop (fun k:Nat=>⟨[(1,.c (.t (.sl 19 (m.map GObject.enc)))),(2,.fnI f []),(15,.c (.t (.sl 19 (l.map GObject.enc)))),(16,AV.i (l.map GObject.enc).length),(17,AV.i k)],[],[],10000⟩) (fun k=>k≤l.length∧∀ j,j < k→l[j]? = m[j]?) (fun k=>l.length - k) 0 ?_ ⟨Nat.zero_le _,fun j hj=>by omega⟩ ?_
 ·refine wk_of [] rfl rfl ?_ ?_ ?_
  all_goals repeat' first|refine Ai ?_ ?_|exact rfl|exact trivial|exact Ei _ rfl|refine lN ?_|refine bS ?_|fail
 rintro k ⟨hk,he⟩
 refine Tp.run [5,8,9] ?_
 refine cS (fun h=>?_) (fun h=>?_)
 ·have hlt:=len_lt h
  have hlt2:k < m.length:=by omega
  refine Tp.run [] ?_
  refine Ei k (Ei (l[k].enc) (Ai rfl (Ai (map_get _ _ k hlt) ?_)))
  refine Ei k (Ei (m[k].enc) (Ai rfl (Ai (map_get _ _ k hlt2) ?_)))
  refine cI (hq l[k] (List.getElem_mem hlt) m[k] (List.getElem_mem hlt2)) ⟨fL l[k].enc,fL m[k].enc,trivial⟩ (.inl rfl) ?_
  refine cond_n (cS (fun h2=>?_) (fun h2=>?_))
  ·refine Tp.run [] ?_
   refine Ei (k+1) (Ai ⟨by omega,eq_up he hlt hlt2 (eqD_iff.1 h2)⟩ (Ai (show l.length - (k+1) < l.length - k by omega) ?_))
   refine wk_of [] rfl rfl ?_ ?_ ?_
   ·repeat' first|refine Ai ?_ ?_|exact rfl|exact trivial|exact Ei _ rfl|refine lN ?_|refine bS ?_|fail
    exact succ_eq k hlt 128 (by decide) hl
   all_goals repeat' first|refine Ai ?_ ?_|exact rfl|exact trivial|exact Ei _ rfl|refine lN ?_|refine bS ?_|fail
  ·have:M=false:=by
    rw [← hM]
    refine eqD_f fun e=>?_
    subst e
    rw [eqD_t rfl] at h2
    cases h2
   subst this
   refine Tp.run [] ?_
   refine Ei [] (Ai rfl (Ai ?_ ?_))
   all_goals repeat' first|refine Ai ?_ ?_|exact rfl|exact trivial|exact Ei _ rfl|refine lN ?_|refine bS ?_|fail
 ·have hk2:=len_ge h hk
  have:M=true:=by rw [← hM];exact eqD_t (eqU he hlm hk2)
  subst this
  refine Ei [] (Ai rfl (Ai ?_ ?_))
  all_goals repeat' first|refine Ai ?_ ?_|exact rfl|exact trivial|exact Ei _ rfl|refine lN ?_|refine bS ?_|fail
theorem eachObject_ct (f:Nat) (l m:List GObject) (hq:∀ x∈l,∀ y∈m,Ct Tryz.prog f [.agg (x.enc.map .t),.agg (y.enc.map .t)] (AV.b (eqD x y)) [] true) (hl:l.length*128≤limB):Ct Tryz.prog 83 [.c (.t (.sl 19 (l.map GObject.enc))),.c (.t (.sl 19 (m.map GObject.enc))),.fnI f []] (AV.b (eqD l m)) [] true:=by
 refine Ct.lit (b:=false) ?_ rfl
 refine ct_of Tryz.func83 rfl (enters_of Tryz.func83 (by kernel_rfl) rfl) tabOk (by kernel_rfl) rfl rfl rfl rfl fun w0 O _=>Tp.run [] ?_
 refine cI (eqfObject_ct f l m hq hl) ⟨rfl,rfl,⟨rfl,rfl⟩,trivial⟩ (.inl rfl) ?_
 refine Ei [] (Ai rfl (Ai ?_ ?_))
 all_goals repeat' first|refine Ai ?_ ?_|exact rfl|exact trivial|exact Ei _ rfl|refine lN ?_|refine bS ?_|fail
theorem equalObject_ct (x y:GObject):Ct Tryz.prog 84 [.agg (x.enc.map .t),.agg (y.enc.map .t)] (AV.b (eqD x y)) [] true:=by
 rw [show eqD x y=lksEq [Value.int IntKind.i64 x.id,Value.int IntKind.i64 x.card,Value.int IntKind.i64 x.owner,Value.int IntKind.i64 x.control,Value.int IntKind.i64 x.zone,Value.bool x.token,Value.bool x.tapped,Value.bool x.sick,Value.bool x.deadly,Value.int IntKind.i64 x.damage,Value.int IntKind.i64 x.counters0,Value.int IntKind.i64 x.counters1,Value.int IntKind.i64 x.counters2,Value.int IntKind.i64 x.stamp,Value.int IntKind.i64 x.copy,Value.int IntKind.i64 x.attack,Value.bool x.blocked,Value.int IntKind.i64 x.blocks,Value.int IntKind.i64 x.shield] [Value.int IntKind.i64 y.id,Value.int IntKind.i64 y.card,Value.int IntKind.i64 y.owner,Value.int IntKind.i64 y.control,Value.int IntKind.i64 y.zone,Value.bool y.token,Value.bool y.tapped,Value.bool y.sick,Value.bool y.deadly,Value.int IntKind.i64 y.damage,Value.int IntKind.i64 y.counters0,Value.int IntKind.i64 y.counters1,Value.int IntKind.i64 y.counters2,Value.int IntKind.i64 y.stamp,Value.int IntKind.i64 y.copy,Value.int IntKind.i64 y.attack,Value.bool y.blocked,Value.int IntKind.i64 y.blocks,Value.int IntKind.i64 y.shield] from eqD_b (GObject.lks x y)]
 refine Ct.lit (b:=false) ?_ rfl
 refine ct_of Tryz.func84 rfl (enters_of Tryz.func84 (by kernel_rfl) rfl) tabOk (by kernel_rfl) rfl rfl rfl rfl fun w0 O _=>Tp.run [] ?_
 refine Ei [] (Ai rfl (Ai ?_ ?_))
 all_goals repeat' first|refine Ai ?_ ?_|exact rfl|exact trivial|exact Ei _ rfl|refine lN ?_|refine bS ?_|fail
theorem allObject_ct (l m:List GObject) (hl:l.length*128≤limB):Ct Tryz.prog 83 [.c (.t (.sl 19 (l.map GObject.enc))),.c (.t (.sl 19 (m.map GObject.enc))),.fnI 84 []] (AV.b (eqD l m)) [] true:=eachObject_ct _ l m (fun x _ y _=>equalObject_ct x y) hl
theorem eqInts_ct (l m:List Int) (hl:l.length*8≤limB):Ct Tryz.prog 85 [.c (.t (.sl 1 (l.map eI))),.c (.t (.sl 1 (m.map eI)))] (AV.b (eqD l m)) [] true:=by
 refine Ct.lit (b:=false) ?_ rfl
 generalize hM:eqD l m=M
 refine ct_of Tryz.func85 rfl (enters_of Tryz.func85 (by kernel_rfl) rfl) tabOk (by kernel_rfl) rfl rfl rfl rfl fun w0 O _=>Tp.run [2,3] ?_
 refine cS (fun h=>?_) (fun h=>?_)
 ·have:M=false:=by rw [← hM];exact eqD_f (len_ne h)
  subst this
  refine Tp.run [] ?_
  refine Ei [] (Ai rfl (Ai ?_ ?_))
  all_goals repeat' first|refine Ai ?_ ?_|exact rfl|exact trivial|exact Ei _ rfl|refine lN ?_|refine bS ?_|fail
 have hlm:=len_eq h
 refine Tp.run [] ?_
 refine Tp.loop (fun k:Nat=>⟨[(0,.c (.t (.sl 1 (l.map eI)))),(1,.c (.t (.sl 1 (m.map eI)))),(12,AV.i (l.map eI).length),(13,AV.i k)],[],[],10000⟩) (fun k=>k≤l.length∧∀ j,j < k→l[j]? = m[j]?) (fun k=>l.length - k) 0 ?_ ⟨Nat.zero_le _,fun j hj=>by omega⟩ ?_
 ·refine wk_of [] rfl rfl ?_ ?_ ?_
  all_goals repeat' first|refine Ai ?_ ?_|exact rfl|exact trivial|exact Ei _ rfl|refine lN ?_|refine bS ?_|fail
 rintro k ⟨hk,he⟩
 refine Tp.run [5,7,8] ?_
 refine cS (fun h=>?_) (fun h=>?_)
 ·have hlt:=len_lt h
  have hlt2:k < m.length:=by omega
  refine Tp.run [] ?_
  refine Ei k (Ei (eI l[k]) (Ai rfl (Ai (map_get _ _ k hlt) ?_)))
  refine Ei k (Ei (eI m[k]) (Ai rfl (Ai (map_get _ _ k hlt2) ?_)))
  refine cS (fun h2=>?_) (fun h2=>?_)
  ·have:M=false:=by
    rw [← hM]
    refine eqD_f fun e=>?_
    subst e
    have h2:(l[k] != l[k])=true:=h2
    simp at h2
   subst this
   refine Tp.run [] ?_
   refine Ei [] (Ai rfl (Ai ?_ ?_))
   all_goals repeat' first|refine Ai ?_ ?_|exact rfl|exact trivial|exact Ei _ rfl|refine lN ?_|refine bS ?_|fail
  ·have h2:(l[k] != m[k])=false:=h2
   refine Tp.run [] ?_
   refine Ei (k+1) (Ai ⟨by omega,eq_up he hlt hlt2 (by simpa using h2)⟩ (Ai (show l.length - (k+1) < l.length - k by omega) ?_))
   refine wk_of [] rfl rfl ?_ ?_ ?_
   ·repeat' first|refine Ai ?_ ?_|exact rfl|exact trivial|exact Ei _ rfl|refine lN ?_|refine bS ?_|fail
    exact succ_eq k hlt 8 (by decide) hl
   all_goals repeat' first|refine Ai ?_ ?_|exact rfl|exact trivial|exact Ei _ rfl|refine lN ?_|refine bS ?_|fail
 ·have hk2:=len_ge h hk
  have:M=true:=by rw [← hM];exact eqD_t (eqU he hlm hk2)
  subst this
  refine Ei [] (Ai rfl (Ai ?_ ?_))
  all_goals repeat' first|refine Ai ?_ ?_|exact rfl|exact trivial|exact Ei _ rfl|refine lN ?_|refine bS ?_|fail
theorem sameEffect_ct_ (a:GEffect) (b:GEffect) (ha:a.ok) (hb:b.ok):∃ r:Bool,(r=true↔a=b)∧Ct Tryz.prog 159 [.agg (a.enc.map .t),.agg (b.enc.map .t)] (AV.b r) [] true:=by
 have ha_:=ha
 obtain ⟨oa0,oa1,oa2,oa3,oa4⟩:=ha_
 have hb_:=hb
 obtain ⟨ob0,ob1,ob2,ob3,ob4⟩:=hb_
 refine ct_x (Φ:=fun (r:Bool)=>r=true↔a=b) lit_b (ctx_of Tryz.func159 rfl (enters_of Tryz.func159 (by kernel_rfl) rfl) tabOk (by kernel_rfl) rfl rfl (TpX.runY [] [] ?_))
 repeat' (first|(apply cond_p <;> intro _)|(apply cond_e <;> intro _)|(apply cond_ne <;> intro _)|apply cond_n|(apply cS <;> intro _)|(apply leaf_x;exact Ei [] (Ai rfl (Ai trivial rfl));exact (by first|(refine ⟨fun hh=>?_,fun hh=>?_⟩;(exact absurd hh (by decide));(subst hh;simp_all [GFilter.lks,GFilter.lksF,GRef.lks,GRef.lksF,GAmount.lks,GAmount.lksF,six_lksF];done))|(refine ⟨fun hh=>?_,fun hh=>?_⟩;(focus (cases a;cases b;simp_all [GFilter.lks,GRef.lks,GAmount.lks,six_lks,txt_eqB,eqD_true];done));(subst hh;simp_all [GFilter.lks,GRef.lks,GAmount.lks,six_lks,eqD_true];done)));rfl)|(apply call_f 129;refine cI (allMod_ct _ _ (by first|assumption|exact okmr ‹_› ‹_› | exact okmg _ ‹_›)) ⟨rfl,rfl,⟨rfl,trivial⟩,trivial⟩ (.inl rfl) ?_)|fail)
theorem sameEffect_ct (a b:GEffect) (ha:a.ok) (hb:b.ok):Ct Tryz.prog 159 [.agg (a.enc.map .t),.agg (b.enc.map .t)] (AV.b (eqD a b)) [] true:=by
 obtain ⟨r,hr,h⟩:=sameEffect_ct_ a b ha hb
 rw [eqD_of hr]
 exact h
theorem eqfEffect_ct (f:Nat) (l m:List GEffect) (hq:∀ x∈l,∀ y∈m,Ct Tryz.prog f [.agg (x.enc.map .t),.agg (y.enc.map .t)] (AV.b (eqD x y)) [] true) (hl:l.length*560≤limB):Ct Tryz.prog 196 [.c (.t (.sl 64 (l.map GEffect.enc))),.c (.t (.sl 64 (m.map GEffect.enc))),.fnI f []] (AV.b (eqD l m)) [] true:=by
 refine Ct.lit (b:=false) ?_ rfl
 generalize hM:eqD l m=M
 refine ct_of Tryz.func196 rfl (enters_of Tryz.func196 (by kernel_rfl) rfl) tabOk (by kernel_rfl) rfl rfl rfl rfl fun w0 O _=>Tp.run [2,3] ?_
 refine cS (fun h=>?_) (fun h=>?_)
 ·have:M=false:=by rw [← hM];exact eqD_f (len_ne h)
  subst this
  refine Tp.run [] ?_
  refine Ei [] (Ai rfl (Ai ?_ ?_))
  all_goals repeat' first|refine Ai ?_ ?_|exact rfl|exact trivial|exact Ei _ rfl|refine lN ?_|refine bS ?_|fail
 have hlm:=len_eq h
 refine Tp.run [] ?_
 refine Tp.loop (fun k:Nat=>⟨[(1,.c (.t (.sl 64 (m.map GEffect.enc)))),(2,.fnI f []),(15,.c (.t (.sl 64 (l.map GEffect.enc)))),(16,AV.i (l.map GEffect.enc).length),(17,AV.i k)],[],[],10000⟩) (fun k=>k≤l.length∧∀ j,j < k→l[j]? = m[j]?) (fun k=>l.length - k) 0 ?_ ⟨Nat.zero_le _,fun j hj=>by omega⟩ ?_
 ·refine wk_of [] rfl rfl ?_ ?_ ?_
  all_goals repeat' first|refine Ai ?_ ?_|exact rfl|exact trivial|exact Ei _ rfl|refine lN ?_|refine bS ?_|fail
 rintro k ⟨hk,he⟩
 refine Tp.run [5,8,9] ?_
 refine cS (fun h=>?_) (fun h=>?_)
 ·have hlt:=len_lt h
  have hlt2:k < m.length:=by omega
  refine Tp.run [] ?_
  refine Ei k (Ei (l[k].enc) (Ai rfl (Ai (map_get _ _ k hlt) ?_)))
  refine Ei k (Ei (m[k].enc) (Ai rfl (Ai (map_get _ _ k hlt2) ?_)))
  refine cI (hq l[k] (List.getElem_mem hlt) m[k] (List.getElem_mem hlt2)) ⟨fL l[k].enc,fL m[k].enc,trivial⟩ (.inl rfl) ?_
  refine cond_n (cS (fun h2=>?_) (fun h2=>?_))
  ·refine Tp.run [] ?_
   refine Ei (k+1) (Ai ⟨by omega,eq_up he hlt hlt2 (eqD_iff.1 h2)⟩ (Ai (show l.length - (k+1) < l.length - k by omega) ?_))
   refine wk_of [] rfl rfl ?_ ?_ ?_
   ·repeat' first|refine Ai ?_ ?_|exact rfl|exact trivial|exact Ei _ rfl|refine lN ?_|refine bS ?_|fail
    exact succ_eq k hlt 560 (by decide) hl
   all_goals repeat' first|refine Ai ?_ ?_|exact rfl|exact trivial|exact Ei _ rfl|refine lN ?_|refine bS ?_|fail
  ·have:M=false:=by
    rw [← hM]
    refine eqD_f fun e=>?_
    subst e
    rw [eqD_t rfl] at h2
    cases h2
   subst this
   refine Tp.run [] ?_
   refine Ei [] (Ai rfl (Ai ?_ ?_))
   all_goals repeat' first|refine Ai ?_ ?_|exact rfl|exact trivial|exact Ei _ rfl|refine lN ?_|refine bS ?_|fail
 ·have hk2:=len_ge h hk
  have:M=true:=by rw [← hM];exact eqD_t (eqU he hlm hk2)
  subst this
  refine Ei [] (Ai rfl (Ai ?_ ?_))
  all_goals repeat' first|refine Ai ?_ ?_|exact rfl|exact trivial|exact Ei _ rfl|refine lN ?_|refine bS ?_|fail
theorem eachEffect_ct (f:Nat) (l m:List GEffect) (hq:∀ x∈l,∀ y∈m,Ct Tryz.prog f [.agg (x.enc.map .t),.agg (y.enc.map .t)] (AV.b (eqD x y)) [] true) (hl:l.length*560≤limB):Ct Tryz.prog 158 [.c (.t (.sl 64 (l.map GEffect.enc))),.c (.t (.sl 64 (m.map GEffect.enc))),.fnI f []] (AV.b (eqD l m)) [] true:=by
 refine Ct.lit (b:=false) ?_ rfl
 refine ct_of Tryz.func158 rfl (enters_of Tryz.func158 (by kernel_rfl) rfl) tabOk (by kernel_rfl) rfl rfl rfl rfl fun w0 O _=>Tp.run [] ?_
 refine cI (eqfEffect_ct f l m hq hl) ⟨rfl,rfl,⟨rfl,rfl⟩,trivial⟩ (.inl rfl) ?_
 refine Ei [] (Ai rfl (Ai ?_ ?_))
 all_goals repeat' first|refine Ai ?_ ?_|exact rfl|exact trivial|exact Ei _ rfl|refine lN ?_|refine bS ?_|fail
theorem allEffect_ct (l m:List GEffect) (hl:l.length*560≤limB) (hl2:∀ y∈l,GEffect.ok y) (hm2:∀ y∈m,GEffect.ok y):Ct Tryz.prog 158 [.c (.t (.sl 64 (l.map GEffect.enc))),.c (.t (.sl 64 (m.map GEffect.enc))),.fnI 159 []] (AV.b (eqD l m)) [] true:=eachEffect_ct _ l m (fun x hx y hy=>sameEffect_ct x y (hl2 x hx) (hm2 y hy)) hl
theorem sameAbility_ct_ (a:GAbility) (b:GAbility) (ha:a.ok) (hb:b.ok):∃ r:Bool,(r=true↔a=b)∧Ct Tryz.prog 124 [.agg (a.enc.map .t),.agg (b.enc.map .t)] (AV.b r) [] true:=by
 have ha_:=ha
 obtain ⟨oa0,oa1,oa2,oa3,oa4,oa5,oa6,oa7,oa8,oa9⟩:=ha_
 have hb_:=hb
 obtain ⟨ob0,ob1,ob2,ob3,ob4,ob5,ob6,ob7,ob8,ob9⟩:=hb_
 refine ct_x (Φ:=fun (r:Bool)=>r=true↔a=b) lit_b (ctx_of Tryz.func124 rfl (enters_of Tryz.func124 (by kernel_rfl) rfl) tabOk (by kernel_rfl) rfl rfl (TpX.runY [] [] ?_))
 repeat' (first|(apply cond_p <;> intro _)|(apply cond_e <;> intro _)|(apply cond_ne <;> intro _)|apply cond_n|(apply cS <;> intro _)|(apply leaf_x;exact Ei [] (Ai rfl (Ai trivial rfl));exact (by first|(refine ⟨fun hh=>?_,fun hh=>?_⟩;(exact absurd hh (by decide));(subst hh;simp_all [GFilter.lks,GFilter.lksF,GPrice.lks,GPrice.lksF,GTrigger.lks,GTrigger.lksF,eqD_true,eqD_false];done))|(refine ⟨fun hh=>?_,fun hh=>?_⟩;(focus (cases a;cases b;simp_all [GFilter.lks,GPrice.lks,GTrigger.lks,GReplace.lks,eqD_true];done));(subst hh;simp_all [GFilter.lks,GPrice.lks,GTrigger.lks,GReplace.lks,eqD_true];done)));rfl)|(apply call_f 129;refine cI (allMod_ct _ _ (by first|assumption|exact okmr ‹_› ‹_› | exact okmg _ ‹_›)) ⟨rfl,rfl,⟨rfl,trivial⟩,trivial⟩ (.inl rfl) ?_)|(apply call_f 156;refine cI (allSpec_ct _ _ (by first|assumption|exact okmr ‹_› ‹_› | exact okmg _ ‹_›)) ⟨rfl,rfl,⟨rfl,trivial⟩,trivial⟩ (.inl rfl) ?_)|(apply call_f 158;refine cI (allEffect_ct _ _ (by first|assumption|exact okmr ‹_› ‹_› | exact okmg _ ‹_›) (by first|assumption|exact okmr ‹_› ‹_› | exact okmg _ ‹_›) (by first|assumption|exact okmr ‹_› ‹_› | exact okmg _ ‹_›)) ⟨rfl,rfl,⟨rfl,trivial⟩,trivial⟩ (.inl rfl) ?_)|fail)
theorem sameItem_ct_ (a:GItem) (b:GItem) (ha:a.ok) (hb:b.ok):∃ r:Bool,(r=true↔a=b)∧Ct Tryz.prog 87 [.agg (a.enc.map .t),.agg (b.enc.map .t)] (AV.b r) [] true:=by
 have ha_:=ha
 obtain ⟨oa0,oa1,oa2,oa3⟩:=ha_
 have hb_:=hb
 obtain ⟨ob0,ob1,ob2,ob3⟩:=hb_
 refine ct_x (Φ:=fun (r:Bool)=>r=true↔a=b) lit_b (ctx_of Tryz.func87 rfl (enters_of Tryz.func87 (by kernel_rfl) rfl) tabOk (by kernel_rfl) rfl rfl (TpX.runY [] [] ?_))
 repeat' (first|(apply cond_p <;> intro _)|(apply cond_e <;> intro _)|(apply cond_ne <;> intro _)|apply cond_n|(apply cS <;> intro _)|(apply leaf_x;exact Ei [] (Ai rfl (Ai trivial rfl));exact (by first|(refine ⟨fun hh=>?_,fun hh=>?_⟩;(exact absurd hh (by decide));(subst hh;simp_all [eqD_false];done))|(refine ⟨fun hh=>?_,fun hh=>?_⟩;(focus (cases a;cases b;simp_all [GEvent.lks,eqD_true];done));(subst hh;simp_all [GEvent.lks,eqD_true];done)));rfl)|(apply call_f 124;refine call_x (sameAbility_ct_ _ _ (by first|assumption|exact okmr ‹_› ‹_› | exact okmg _ ‹_›) (by first|assumption|exact okmr ‹_› ‹_› | exact okmg _ ‹_›)) ⟨fL (GAbility.enc _),fL (GAbility.enc _),trivial⟩ (.inl rfl) (fun _ _=>?_))|(apply call_f 125;refine cI (allTarget_ct _ _ (by first|assumption|exact okmr ‹_› ‹_› | exact okmg _ ‹_›)) ⟨rfl,rfl,⟨rfl,trivial⟩,trivial⟩ (.inl rfl) ?_)|(apply call_f 124;refine cI (sameAbility_ct _ _ (by first|assumption|exact okmr ‹_› ‹_› | exact okmg _ ‹_›) (by first|assumption|exact okmr ‹_› ‹_› | exact okmg _ ‹_›)) ⟨fL (GAbility.enc _),fL (GAbility.enc _),trivial⟩ (.inl rfl) ?_)|fail)
theorem sameItem_ct (a b:GItem) (ha:a.ok) (hb:b.ok):Ct Tryz.prog 87 [.agg (a.enc.map .t),.agg (b.enc.map .t)] (AV.b (eqD a b)) [] true:=by
 obtain ⟨r,hr,h⟩:=sameItem_ct_ a b ha hb
 rw [eqD_of hr]
 exact h
theorem sameWaiting_ct_ (a:GWaiting) (b:GWaiting) (ha:a.ok) (hb:b.ok):∃ r:Bool,(r=true↔a=b)∧Ct Tryz.prog 89 [.agg (a.enc.map .t),.agg (b.enc.map .t)] (AV.b r) [] true:=by
 have ha_:=ha
 obtain ⟨oa0,oa1⟩:=ha_
 have hb_:=hb
 obtain ⟨ob0,ob1⟩:=hb_
 refine ct_x (Φ:=fun (r:Bool)=>r=true↔a=b) lit_b (ctx_of Tryz.func89 rfl (enters_of Tryz.func89 (by kernel_rfl) rfl) tabOk (by kernel_rfl) rfl rfl (TpX.runY [] [] ?_))
 repeat' (first|(apply cond_p <;> intro _)|(apply cond_e <;> intro _)|(apply cond_ne <;> intro _)|apply cond_n|(apply cS <;> intro _)|(apply leaf_x;exact Ei [] (Ai rfl (Ai trivial rfl));exact (by first|(refine ⟨fun hh=>?_,fun hh=>?_⟩;(exact absurd hh (by decide));(subst hh;simp_all;done))|(refine ⟨fun hh=>?_,fun hh=>?_⟩;(focus (cases a;cases b;simp_all [GEvent.lks];done));(subst hh;simp_all [GEvent.lks];done)));rfl)|(apply call_f 124;refine call_x (sameAbility_ct_ _ _ (by first|assumption|exact okmr ‹_› ‹_› | exact okmg _ ‹_›) (by first|assumption|exact okmr ‹_› ‹_› | exact okmg _ ‹_›)) ⟨fL (GAbility.enc _),fL (GAbility.enc _),trivial⟩ (.inl rfl) (fun _ _=>?_))|(apply call_f 124;refine cI (sameAbility_ct _ _ (by first|assumption|exact okmr ‹_› ‹_› | exact okmg _ ‹_›) (by first|assumption|exact okmr ‹_› ‹_› | exact okmg _ ‹_›)) ⟨fL (GAbility.enc _),fL (GAbility.enc _),trivial⟩ (.inl rfl) ?_)|fail)
theorem sameWaiting_ct (a b:GWaiting) (ha:a.ok) (hb:b.ok):Ct Tryz.prog 89 [.agg (a.enc.map .t),.agg (b.enc.map .t)] (AV.b (eqD a b)) [] true:=by
 obtain ⟨r,hr,h⟩:=sameWaiting_ct_ a b ha hb
 rw [eqD_of hr]
 exact h
theorem sameCont_ct_ (a:GCont) (b:GCont) (ha:a.ok) (hb:b.ok):∃ r:Bool,(r=true↔a=b)∧Ct Tryz.prog 91 [.agg (a.enc.map .t),.agg (b.enc.map .t)] (AV.b r) [] true:=by
 have ha_:=ha
 obtain ⟨oa0,oa1,oa2⟩:=ha_
 have hb_:=hb
 obtain ⟨ob0,ob1,ob2⟩:=hb_
 refine ct_x (Φ:=fun (r:Bool)=>r=true↔a=b) lit_b (ctx_of Tryz.func91 rfl (enters_of Tryz.func91 (by kernel_rfl) rfl) tabOk (by kernel_rfl) rfl rfl (TpX.runY [] [] ?_))
 repeat' (first|(apply cond_p <;> intro _)|(apply cond_e <;> intro _)|(apply cond_ne <;> intro _)|apply cond_n|(apply cS <;> intro _)|(apply leaf_x;exact Ei [] (Ai rfl (Ai trivial rfl));exact (by first|(refine ⟨fun hh=>?_,fun hh=>?_⟩;(exact absurd hh (by decide));(subst hh;simp_all [eqD_false];done))|(refine ⟨fun hh=>?_,fun hh=>?_⟩;(focus (cases a;cases b;simp_all [eqD_true];done));(subst hh;simp_all [eqD_true];done)));rfl)|(apply call_f 129;refine cI (allMod_ct _ _ (by first|assumption|exact okmr ‹_› ‹_› | exact okmg _ ‹_›)) ⟨rfl,rfl,⟨rfl,trivial⟩,trivial⟩ (.inl rfl) ?_)|(apply call_f 85;refine cI (eqInts_ct _ _ (by first|assumption|exact okmr ‹_› ‹_› | exact okmg _ ‹_›)) ⟨rfl,rfl,trivial⟩ (.inl rfl) ?_)|fail)
theorem sameCont_ct (a b:GCont) (ha:a.ok) (hb:b.ok):Ct Tryz.prog 91 [.agg (a.enc.map .t),.agg (b.enc.map .t)] (AV.b (eqD a b)) [] true:=by
 obtain ⟨r,hr,h⟩:=sameCont_ct_ a b ha hb
 rw [eqD_of hr]
 exact h
theorem samePlayer_ct_ (a:GPlayer) (b:GPlayer) (ha:a.ok) (hb:b.ok):∃ r:Bool,(r=true↔a=b)∧Ct Tryz.prog 82 [.agg (a.enc.map .t),.agg (b.enc.map .t)] (AV.b r) [] true:=by
 have ha_:=ha
 obtain ⟨oa0,oa1,oa2⟩:=ha_
 have hb_:=hb
 obtain ⟨ob0,ob1,ob2⟩:=hb_
 refine ct_x (Φ:=fun (r:Bool)=>r=true↔a=b) lit_b (ctx_of Tryz.func82 rfl (enters_of Tryz.func82 (by kernel_rfl) rfl) tabOk (by kernel_rfl) rfl rfl (TpX.runY [] [] ?_))
 repeat' (first|(apply cond_p <;> intro _)|(apply cond_e <;> intro _)|(apply cond_ne <;> intro _)|apply cond_n|(apply cS <;> intro _)|(apply leaf_x;exact Ei [] (Ai rfl (Ai trivial rfl));exact (by first|(refine ⟨fun hh=>?_,fun hh=>?_⟩;(exact absurd hh (by decide));(subst hh;simp_all [six_lks,six_lksF,eqD_true,eqD_false];done))|(refine ⟨fun hh=>?_,fun hh=>?_⟩;(focus (cases a;cases b;simp_all [six_lks,eqD_true];done));(subst hh;simp_all [six_lks,eqD_true];done)));rfl)|(apply call_f 85;refine cI (eqInts_ct _ _ (by first|assumption|exact okmr ‹_› ‹_› | exact okmg _ ‹_›)) ⟨rfl,rfl,trivial⟩ (.inl rfl) ?_)|fail)
theorem samePlayer_ct (a b:GPlayer) (ha:a.ok) (hb:b.ok):Ct Tryz.prog 82 [.agg (a.enc.map .t),.agg (b.enc.map .t)] (AV.b (eqD a b)) [] true:=by
 obtain ⟨r,hr,h⟩:=samePlayer_ct_ a b ha hb
 rw [eqD_of hr]
 exact h
theorem eqfItem_ct (f:Nat) (l m:List GItem) (hq:∀ x∈l,∀ y∈m,Ct Tryz.prog f [.agg (x.enc.map .t),.agg (y.enc.map .t)] (AV.b (eqD x y)) [] true) (hl:l.length*824≤limB):Ct Tryz.prog 123 [.c (.t (.sl 94 (l.map GItem.enc))),.c (.t (.sl 94 (m.map GItem.enc))),.fnI f []] (AV.b (eqD l m)) [] true:=by
 refine Ct.lit (b:=false) ?_ rfl
 generalize hM:eqD l m=M
 refine ct_of Tryz.func123 rfl (enters_of Tryz.func123 (by kernel_rfl) rfl) tabOk (by kernel_rfl) rfl rfl rfl rfl fun w0 O _=>Tp.run [2,3] ?_
 refine cS (fun h=>?_) (fun h=>?_)
 ·have:M=false:=by rw [← hM];exact eqD_f (len_ne h)
  subst this
  refine Tp.run [] ?_
  refine Ei [] (Ai rfl (Ai ?_ ?_))
  all_goals repeat' first|refine Ai ?_ ?_|exact rfl|exact trivial|exact Ei _ rfl|refine lN ?_|refine bS ?_|fail
 have hlm:=len_eq h
 refine Tp.run [] ?_
 refine Tp.loop (fun k:Nat=>⟨[(1,.c (.t (.sl 94 (m.map GItem.enc)))),(2,.fnI f []),(15,.c (.t (.sl 94 (l.map GItem.enc)))),(16,AV.i (l.map GItem.enc).length),(17,AV.i k)],[],[],10000⟩) (fun k=>k≤l.length∧∀ j,j < k→l[j]? = m[j]?) (fun k=>l.length - k) 0 ?_ ⟨Nat.zero_le _,fun j hj=>by omega⟩ ?_
 ·refine wk_of [] rfl rfl ?_ ?_ ?_
  all_goals repeat' first|refine Ai ?_ ?_|exact rfl|exact trivial|exact Ei _ rfl|refine lN ?_|refine bS ?_|fail
 rintro k ⟨hk,he⟩
 refine Tp.run [5,8,9] ?_
 refine cS (fun h=>?_) (fun h=>?_)
 ·have hlt:=len_lt h
  have hlt2:k < m.length:=by omega
  refine Tp.run [] ?_
  refine Ei k (Ei (l[k].enc) (Ai rfl (Ai (map_get _ _ k hlt) ?_)))
  refine Ei k (Ei (m[k].enc) (Ai rfl (Ai (map_get _ _ k hlt2) ?_)))
  refine cI (hq l[k] (List.getElem_mem hlt) m[k] (List.getElem_mem hlt2)) ⟨fL l[k].enc,fL m[k].enc,trivial⟩ (.inl rfl) ?_
  refine cond_n (cS (fun h2=>?_) (fun h2=>?_))
  ·refine Tp.run [] ?_
   refine Ei (k+1) (Ai ⟨by omega,eq_up he hlt hlt2 (eqD_iff.1 h2)⟩ (Ai (show l.length - (k+1) < l.length - k by omega) ?_))
   refine wk_of [] rfl rfl ?_ ?_ ?_
   ·repeat' first|refine Ai ?_ ?_|exact rfl|exact trivial|exact Ei _ rfl|refine lN ?_|refine bS ?_|fail
    exact succ_eq k hlt 824 (by decide) hl
   all_goals repeat' first|refine Ai ?_ ?_|exact rfl|exact trivial|exact Ei _ rfl|refine lN ?_|refine bS ?_|fail
  ·have:M=false:=by
    rw [← hM]
    refine eqD_f fun e=>?_
    subst e
    rw [eqD_t rfl] at h2
    cases h2
   subst this
   refine Tp.run [] ?_
   refine Ei [] (Ai rfl (Ai ?_ ?_))
   all_goals repeat' first|refine Ai ?_ ?_|exact rfl|exact trivial|exact Ei _ rfl|refine lN ?_|refine bS ?_|fail
 ·have hk2:=len_ge h hk
  have:M=true:=by rw [← hM];exact eqD_t (eqU he hlm hk2)
  subst this
  refine Ei [] (Ai rfl (Ai ?_ ?_))
  all_goals repeat' first|refine Ai ?_ ?_|exact rfl|exact trivial|exact Ei _ rfl|refine lN ?_|refine bS ?_|fail
theorem eachItem_ct (f:Nat) (l m:List GItem) (hq:∀ x∈l,∀ y∈m,Ct Tryz.prog f [.agg (x.enc.map .t),.agg (y.enc.map .t)] (AV.b (eqD x y)) [] true) (hl:l.length*824≤limB):Ct Tryz.prog 86 [.c (.t (.sl 94 (l.map GItem.enc))),.c (.t (.sl 94 (m.map GItem.enc))),.fnI f []] (AV.b (eqD l m)) [] true:=by
 refine Ct.lit (b:=false) ?_ rfl
 refine ct_of Tryz.func86 rfl (enters_of Tryz.func86 (by kernel_rfl) rfl) tabOk (by kernel_rfl) rfl rfl rfl rfl fun w0 O _=>Tp.run [] ?_
 refine cI (eqfItem_ct f l m hq hl) ⟨rfl,rfl,⟨rfl,rfl⟩,trivial⟩ (.inl rfl) ?_
 refine Ei [] (Ai rfl (Ai ?_ ?_))
 all_goals repeat' first|refine Ai ?_ ?_|exact rfl|exact trivial|exact Ei _ rfl|refine lN ?_|refine bS ?_|fail
theorem allItem_ct (l m:List GItem) (hl:l.length*824≤limB) (hl2:∀ y∈l,GItem.ok y) (hm2:∀ y∈m,GItem.ok y):Ct Tryz.prog 86 [.c (.t (.sl 94 (l.map GItem.enc))),.c (.t (.sl 94 (m.map GItem.enc))),.fnI 87 []] (AV.b (eqD l m)) [] true:=eachItem_ct _ l m (fun x hx y hy=>sameItem_ct x y (hl2 x hx) (hm2 y hy)) hl
theorem eqfWaiting_ct (f:Nat) (l m:List GWaiting) (hq:∀ x∈l,∀ y∈m,Ct Tryz.prog f [.agg (x.enc.map .t),.agg (y.enc.map .t)] (AV.b (eqD x y)) [] true) (hl:l.length*768≤limB):Ct Tryz.prog 127 [.c (.t (.sl 89 (l.map GWaiting.enc))),.c (.t (.sl 89 (m.map GWaiting.enc))),.fnI f []] (AV.b (eqD l m)) [] true:=by
 refine Ct.lit (b:=false) ?_ rfl
 generalize hM:eqD l m=M
 refine ct_of Tryz.func127 rfl (enters_of Tryz.func127 (by kernel_rfl) rfl) tabOk (by kernel_rfl) rfl rfl rfl rfl fun w0 O _=>Tp.run [2,3] ?_
 refine cS (fun h=>?_) (fun h=>?_)
 ·have:M=false:=by rw [← hM];exact eqD_f (len_ne h)
  subst this
  refine Tp.run [] ?_
  refine Ei [] (Ai rfl (Ai ?_ ?_))
  all_goals repeat' first|refine Ai ?_ ?_|exact rfl|exact trivial|exact Ei _ rfl|refine lN ?_|refine bS ?_|fail
 have hlm:=len_eq h
 refine Tp.run [] ?_
 refine Tp.loop (fun k:Nat=>⟨[(1,.c (.t (.sl 89 (m.map GWaiting.enc)))),(2,.fnI f []),(15,.c (.t (.sl 89 (l.map GWaiting.enc)))),(16,AV.i (l.map GWaiting.enc).length),(17,AV.i k)],[],[],10000⟩) (fun k=>k≤l.length∧∀ j,j < k→l[j]? = m[j]?) (fun k=>l.length - k) 0 ?_ ⟨Nat.zero_le _,fun j hj=>by omega⟩ ?_
 ·refine wk_of [] rfl rfl ?_ ?_ ?_
  all_goals repeat' first|refine Ai ?_ ?_|exact rfl|exact trivial|exact Ei _ rfl|refine lN ?_|refine bS ?_|fail
 rintro k ⟨hk,he⟩
 refine Tp.run [5,8,9] ?_
 refine cS (fun h=>?_) (fun h=>?_)
 ·have hlt:=len_lt h
  have hlt2:k < m.length:=by omega
  refine Tp.run [] ?_
  refine Ei k (Ei (l[k].enc) (Ai rfl (Ai (map_get _ _ k hlt) ?_)))
  refine Ei k (Ei (m[k].enc) (Ai rfl (Ai (map_get _ _ k hlt2) ?_)))
  refine cI (hq l[k] (List.getElem_mem hlt) m[k] (List.getElem_mem hlt2)) ⟨fL l[k].enc,fL m[k].enc,trivial⟩ (.inl rfl) ?_
  refine cond_n (cS (fun h2=>?_) (fun h2=>?_))
  ·refine Tp.run [] ?_
   refine Ei (k+1) (Ai ⟨by omega,eq_up he hlt hlt2 (eqD_iff.1 h2)⟩ (Ai (show l.length - (k+1) < l.length - k by omega) ?_))
   refine wk_of [] rfl rfl ?_ ?_ ?_
   ·repeat' first|refine Ai ?_ ?_|exact rfl|exact trivial|exact Ei _ rfl|refine lN ?_|refine bS ?_|fail
    exact succ_eq k hlt 768 (by decide) hl
   all_goals repeat' first|refine Ai ?_ ?_|exact rfl|exact trivial|exact Ei _ rfl|refine lN ?_|refine bS ?_|fail
  ·have:M=false:=by
    rw [← hM]
    refine eqD_f fun e=>?_
    subst e
    rw [eqD_t rfl] at h2
    cases h2
   subst this
   refine Tp.run [] ?_
   refine Ei [] (Ai rfl (Ai ?_ ?_))
   all_goals repeat' first|refine Ai ?_ ?_|exact rfl|exact trivial|exact Ei _ rfl|refine lN ?_|refine bS ?_|fail
 ·have hk2:=len_ge h hk
  have:M=true:=by rw [← hM];exact eqD_t (eqU he hlm hk2)
  subst this
  refine Ei [] (Ai rfl (Ai ?_ ?_))
  all_goals repeat' first|refine Ai ?_ ?_|exact rfl|exact trivial|exact Ei _ rfl|refine lN ?_|refine bS ?_|fail
theorem eachWaiting_ct (f:Nat) (l m:List GWaiting) (hq:∀ x∈l,∀ y∈m,Ct Tryz.prog f [.agg (x.enc.map .t),.agg (y.enc.map .t)] (AV.b (eqD x y)) [] true) (hl:l.length*768≤limB):Ct Tryz.prog 88 [.c (.t (.sl 89 (l.map GWaiting.enc))),.c (.t (.sl 89 (m.map GWaiting.enc))),.fnI f []] (AV.b (eqD l m)) [] true:=by
 refine Ct.lit (b:=false) ?_ rfl
 refine ct_of Tryz.func88 rfl (enters_of Tryz.func88 (by kernel_rfl) rfl) tabOk (by kernel_rfl) rfl rfl rfl rfl fun w0 O _=>Tp.run [] ?_
 refine cI (eqfWaiting_ct f l m hq hl) ⟨rfl,rfl,⟨rfl,rfl⟩,trivial⟩ (.inl rfl) ?_
 refine Ei [] (Ai rfl (Ai ?_ ?_))
 all_goals repeat' first|refine Ai ?_ ?_|exact rfl|exact trivial|exact Ei _ rfl|refine lN ?_|refine bS ?_|fail
theorem allWaiting_ct (l m:List GWaiting) (hl:l.length*768≤limB) (hl2:∀ y∈l,GWaiting.ok y) (hm2:∀ y∈m,GWaiting.ok y):Ct Tryz.prog 88 [.c (.t (.sl 89 (l.map GWaiting.enc))),.c (.t (.sl 89 (m.map GWaiting.enc))),.fnI 89 []] (AV.b (eqD l m)) [] true:=eachWaiting_ct _ l m (fun x hx y hy=>sameWaiting_ct x y (hl2 x hx) (hm2 y hy)) hl
theorem eqfCont_ct (f:Nat) (l m:List GCont) (hq:∀ x∈l,∀ y∈m,Ct Tryz.prog f [.agg (x.enc.map .t),.agg (y.enc.map .t)] (AV.b (eqD x y)) [] true) (hl:l.length*80≤limB):Ct Tryz.prog 128 [.c (.t (.sl 6 (l.map GCont.enc))),.c (.t (.sl 6 (m.map GCont.enc))),.fnI f []] (AV.b (eqD l m)) [] true:=by
 refine Ct.lit (b:=false) ?_ rfl
 generalize hM:eqD l m=M
 refine ct_of Tryz.func128 rfl (enters_of Tryz.func128 (by kernel_rfl) rfl) tabOk (by kernel_rfl) rfl rfl rfl rfl fun w0 O _=>Tp.run [2,3] ?_
 refine cS (fun h=>?_) (fun h=>?_)
 ·have:M=false:=by rw [← hM];exact eqD_f (len_ne h)
  subst this
  refine Tp.run [] ?_
  refine Ei [] (Ai rfl (Ai ?_ ?_))
  all_goals repeat' first|refine Ai ?_ ?_|exact rfl|exact trivial|exact Ei _ rfl|refine lN ?_|refine bS ?_|fail
 have hlm:=len_eq h
 refine Tp.run [] ?_
 refine Tp.loop (fun k:Nat=>⟨[(1,.c (.t (.sl 6 (m.map GCont.enc)))),(2,.fnI f []),(15,.c (.t (.sl 6 (l.map GCont.enc)))),(16,AV.i (l.map GCont.enc).length),(17,AV.i k)],[],[],10000⟩) (fun k=>k≤l.length∧∀ j,j < k→l[j]? = m[j]?) (fun k=>l.length - k) 0 ?_ ⟨Nat.zero_le _,fun j hj=>by omega⟩ ?_
 ·refine wk_of [] rfl rfl ?_ ?_ ?_
  all_goals repeat' first|refine Ai ?_ ?_|exact rfl|exact trivial|exact Ei _ rfl|refine lN ?_|refine bS ?_|fail
 rintro k ⟨hk,he⟩
 refine Tp.run [5,8,9] ?_
 refine cS (fun h=>?_) (fun h=>?_)
 ·have hlt:=len_lt h
  have hlt2:k < m.length:=by omega
  refine Tp.run [] ?_
  refine Ei k (Ei (l[k].enc) (Ai rfl (Ai (map_get _ _ k hlt) ?_)))
  refine Ei k (Ei (m[k].enc) (Ai rfl (Ai (map_get _ _ k hlt2) ?_)))
  refine cI (hq l[k] (List.getElem_mem hlt) m[k] (List.getElem_mem hlt2)) ⟨fL l[k].enc,fL m[k].enc,trivial⟩ (.inl rfl) ?_
  refine cond_n (cS (fun h2=>?_) (fun h2=>?_))
  ·refine Tp.run [] ?_
   refine Ei (k+1) (Ai ⟨by omega,eq_up he hlt hlt2 (eqD_iff.1 h2)⟩ (Ai (show l.length - (k+1) < l.length - k by omega) ?_))
   refine wk_of [] rfl rfl ?_ ?_ ?_
   ·repeat' first|refine Ai ?_ ?_|exact rfl|exact trivial|exact Ei _ rfl|refine lN ?_|refine bS ?_|fail
    exact succ_eq k hlt 80 (by decide) hl
   all_goals repeat' first|refine Ai ?_ ?_|exact rfl|exact trivial|exact Ei _ rfl|refine lN ?_|refine bS ?_|fail
  ·have:M=false:=by
    rw [← hM]
    refine eqD_f fun e=>?_
    subst e
    rw [eqD_t rfl] at h2
    cases h2
   subst this
   refine Tp.run [] ?_
   refine Ei [] (Ai rfl (Ai ?_ ?_))
   all_goals repeat' first|refine Ai ?_ ?_|exact rfl|exact trivial|exact Ei _ rfl|refine lN ?_|refine bS ?_|fail
 ·have hk2:=len_ge h hk
  have:M=true:=by rw [← hM];exact eqD_t (eqU he hlm hk2)
  subst this
  refine Ei [] (Ai rfl (Ai ?_ ?_))
  all_goals repeat' first|refine Ai ?_ ?_|exact rfl|exact trivial|exact Ei _ rfl|refine lN ?_|refine bS ?_|fail
theorem eachCont_ct (f:Nat) (l m:List GCont) (hq:∀ x∈l,∀ y∈m,Ct Tryz.prog f [.agg (x.enc.map .t),.agg (y.enc.map .t)] (AV.b (eqD x y)) [] true) (hl:l.length*80≤limB):Ct Tryz.prog 90 [.c (.t (.sl 6 (l.map GCont.enc))),.c (.t (.sl 6 (m.map GCont.enc))),.fnI f []] (AV.b (eqD l m)) [] true:=by
 refine Ct.lit (b:=false) ?_ rfl
 refine ct_of Tryz.func90 rfl (enters_of Tryz.func90 (by kernel_rfl) rfl) tabOk (by kernel_rfl) rfl rfl rfl rfl fun w0 O _=>Tp.run [] ?_
 refine cI (eqfCont_ct f l m hq hl) ⟨rfl,rfl,⟨rfl,rfl⟩,trivial⟩ (.inl rfl) ?_
 refine Ei [] (Ai rfl (Ai ?_ ?_))
 all_goals repeat' first|refine Ai ?_ ?_|exact rfl|exact trivial|exact Ei _ rfl|refine lN ?_|refine bS ?_|fail
theorem allCont_ct (l m:List GCont) (hl:l.length*80≤limB) (hl2:∀ y∈l,GCont.ok y) (hm2:∀ y∈m,GCont.ok y):Ct Tryz.prog 90 [.c (.t (.sl 6 (l.map GCont.enc))),.c (.t (.sl 6 (m.map GCont.enc))),.fnI 91 []] (AV.b (eqD l m)) [] true:=eachCont_ct _ l m (fun x hx y hy=>sameCont_ct x y (hl2 x hx) (hm2 y hy)) hl
theorem eqfPlayer_ct (f:Nat) (l m:List GPlayer) (hq:∀ x∈l,∀ y∈m,Ct Tryz.prog f [.agg (x.enc.map .t),.agg (y.enc.map .t)] (AV.b (eqD x y)) [] true) (hl:l.length*152≤limB):Ct Tryz.prog 121 [.c (.t (.sl 14 (l.map GPlayer.enc))),.c (.t (.sl 14 (m.map GPlayer.enc))),.fnI f []] (AV.b (eqD l m)) [] true:=by
 refine Ct.lit (b:=false) ?_ rfl
 generalize hM:eqD l m=M
 refine ct_of Tryz.func121 rfl (enters_of Tryz.func121 (by kernel_rfl) rfl) tabOk (by kernel_rfl) rfl rfl rfl rfl fun w0 O _=>Tp.run [2,3] ?_
 refine cS (fun h=>?_) (fun h=>?_)
 ·have:M=false:=by rw [← hM];exact eqD_f (len_ne h)
  subst this
  refine Tp.run [] ?_
  refine Ei [] (Ai rfl (Ai ?_ ?_))
  all_goals repeat' first|refine Ai ?_ ?_|exact rfl|exact trivial|exact Ei _ rfl|refine lN ?_|refine bS ?_|fail
 have hlm:=len_eq h
 refine Tp.run [] ?_
 refine Tp.loop (fun k:Nat=>⟨[(1,.c (.t (.sl 14 (m.map GPlayer.enc)))),(2,.fnI f []),(15,.c (.t (.sl 14 (l.map GPlayer.enc)))),(16,AV.i (l.map GPlayer.enc).length),(17,AV.i k)],[],[],10000⟩) (fun k=>k≤l.length∧∀ j,j < k→l[j]? = m[j]?) (fun k=>l.length - k) 0 ?_ ⟨Nat.zero_le _,fun j hj=>by omega⟩ ?_
 ·refine wk_of [] rfl rfl ?_ ?_ ?_
  all_goals repeat' first|refine Ai ?_ ?_|exact rfl|exact trivial|exact Ei _ rfl|refine lN ?_|refine bS ?_|fail
 rintro k ⟨hk,he⟩
 refine Tp.run [5,8,9] ?_
 refine cS (fun h=>?_) (fun h=>?_)
 ·have hlt:=len_lt h
  have hlt2:k < m.length:=by omega
  refine Tp.run [] ?_
  refine Ei k (Ei (l[k].enc) (Ai rfl (Ai (map_get _ _ k hlt) ?_)))
  refine Ei k (Ei (m[k].enc) (Ai rfl (Ai (map_get _ _ k hlt2) ?_)))
  refine cI (hq l[k] (List.getElem_mem hlt) m[k] (List.getElem_mem hlt2)) ⟨fL l[k].enc,fL m[k].enc,trivial⟩ (.inl rfl) ?_
  refine cond_n (cS (fun h2=>?_) (fun h2=>?_))
  ·refine Tp.run [] ?_
   refine Ei (k+1) (Ai ⟨by omega,eq_up he hlt hlt2 (eqD_iff.1 h2)⟩ (Ai (show l.length - (k+1) < l.length - k by omega) ?_))
   refine wk_of [] rfl rfl ?_ ?_ ?_
   ·repeat' first|refine Ai ?_ ?_|exact rfl|exact trivial|exact Ei _ rfl|refine lN ?_|refine bS ?_|fail
    exact succ_eq k hlt 152 (by decide) hl
   all_goals repeat' first|refine Ai ?_ ?_|exact rfl|exact trivial|exact Ei _ rfl|refine lN ?_|refine bS ?_|fail
  ·have:M=false:=by
    rw [← hM]
    refine eqD_f fun e=>?_
    subst e
    rw [eqD_t rfl] at h2
    cases h2
   subst this
   refine Tp.run [] ?_
   refine Ei [] (Ai rfl (Ai ?_ ?_))
   all_goals repeat' first|refine Ai ?_ ?_|exact rfl|exact trivial|exact Ei _ rfl|refine lN ?_|refine bS ?_|fail
 ·have hk2:=len_ge h hk
  have:M=true:=by rw [← hM];exact eqD_t (eqU he hlm hk2)
  subst this
  refine Ei [] (Ai rfl (Ai ?_ ?_))
  all_goals repeat' first|refine Ai ?_ ?_|exact rfl|exact trivial|exact Ei _ rfl|refine lN ?_|refine bS ?_|fail
theorem eachPlayer_ct (f:Nat) (l m:List GPlayer) (hq:∀ x∈l,∀ y∈m,Ct Tryz.prog f [.agg (x.enc.map .t),.agg (y.enc.map .t)] (AV.b (eqD x y)) [] true) (hl:l.length*152≤limB):Ct Tryz.prog 81 [.c (.t (.sl 14 (l.map GPlayer.enc))),.c (.t (.sl 14 (m.map GPlayer.enc))),.fnI f []] (AV.b (eqD l m)) [] true:=by
 refine Ct.lit (b:=false) ?_ rfl
 refine ct_of Tryz.func81 rfl (enters_of Tryz.func81 (by kernel_rfl) rfl) tabOk (by kernel_rfl) rfl rfl rfl rfl fun w0 O _=>Tp.run [] ?_
 refine cI (eqfPlayer_ct f l m hq hl) ⟨rfl,rfl,⟨rfl,rfl⟩,trivial⟩ (.inl rfl) ?_
 refine Ei [] (Ai rfl (Ai ?_ ?_))
 all_goals repeat' first|refine Ai ?_ ?_|exact rfl|exact trivial|exact Ei _ rfl|refine lN ?_|refine bS ?_|fail
theorem allPlayer_ct (l m:List GPlayer) (hl:l.length*152≤limB) (hl2:∀ y∈l,GPlayer.ok y) (hm2:∀ y∈m,GPlayer.ok y):Ct Tryz.prog 81 [.c (.t (.sl 14 (l.map GPlayer.enc))),.c (.t (.sl 14 (m.map GPlayer.enc))),.fnI 82 []] (AV.b (eqD l m)) [] true:=eachPlayer_ct _ l m (fun x hx y hy=>samePlayer_ct x y (hl2 x hx) (hm2 y hy)) hl
theorem sameP_ct_ (a:GState) (b:GState) (ha:a.ok) (hb:b.ok):∃ r:Bool,(r=true↔a=b)∧Ct Tryz.prog 44 [.agg (a.enc.map .t),.agg (b.enc.map .t)] (AV.b r) [] true:=by
 have ha_:=ha
 obtain ⟨oa0,oa1,oa2,oa3,oa4,oa5,oa6,oa7,oa8,oa9,oa10,oa11,oa12⟩:=ha_
 have hb_:=hb
 obtain ⟨ob0,ob1,ob2,ob3,ob4,ob5,ob6,ob7,ob8,ob9,ob10,ob11,ob12⟩:=hb_
 refine ct_x (Φ:=fun (r:Bool)=>r=true↔a=b) lit_b (ctx_of Tryz.func44 rfl (enters_of Tryz.func44 (by kernel_rfl) rfl) tabOk (by kernel_rfl) rfl rfl (TpX.runY [] [] ?_))
 repeat' (first|(apply cond_p <;> intro _)|(apply cond_e <;> intro _)|(apply cond_ne <;> intro _)|apply cond_n|(apply cS <;> intro _)|(apply leaf_x;exact Ei [] (Ai rfl (Ai trivial rfl));exact (by first|(refine ⟨fun hh=>?_,fun hh=>?_⟩;(exact absurd hh (by decide));(subst hh;simp_all [eqD_true,eqD_false];done))|(refine ⟨fun hh=>?_,fun hh=>?_⟩;(focus (cases a;cases b;simp_all [eqD_true];done));(subst hh;simp_all [eqD_true];done)));rfl)|(apply call_f 81;refine cI (allPlayer_ct _ _ (by first|assumption|exact okmr ‹_› ‹_› | exact okmg _ ‹_›) (by first|assumption|exact okmr ‹_› ‹_› | exact okmg _ ‹_›) (by first|assumption|exact okmr ‹_› ‹_› | exact okmg _ ‹_›)) ⟨rfl,rfl,⟨rfl,trivial⟩,trivial⟩ (.inl rfl) ?_)|(apply call_f 83;refine cI (allObject_ct _ _ (by first|assumption|exact okmr ‹_› ‹_› | exact okmg _ ‹_›)) ⟨rfl,rfl,⟨rfl,trivial⟩,trivial⟩ (.inl rfl) ?_)|(apply call_f 86;refine cI (allItem_ct _ _ (by first|assumption|exact okmr ‹_› ‹_› | exact okmg _ ‹_›) (by first|assumption|exact okmr ‹_› ‹_› | exact okmg _ ‹_›) (by first|assumption|exact okmr ‹_› ‹_› | exact okmg _ ‹_›)) ⟨rfl,rfl,⟨rfl,trivial⟩,trivial⟩ (.inl rfl) ?_)|(apply call_f 88;refine cI (allWaiting_ct _ _ (by first|assumption|exact okmr ‹_› ‹_› | exact okmg _ ‹_›) (by first|assumption|exact okmr ‹_› ‹_› | exact okmg _ ‹_›) (by first|assumption|exact okmr ‹_› ‹_› | exact okmg _ ‹_›)) ⟨rfl,rfl,⟨rfl,trivial⟩,trivial⟩ (.inl rfl) ?_)|(apply call_f 90;refine cI (allCont_ct _ _ (by first|assumption|exact okmr ‹_› ‹_› | exact okmg _ ‹_›) (by first|assumption|exact okmr ‹_› ‹_› | exact okmg _ ‹_›) (by first|assumption|exact okmr ‹_› ‹_› | exact okmg _ ‹_›)) ⟨rfl,rfl,⟨rfl,trivial⟩,trivial⟩ (.inl rfl) ?_)|(apply call_f 85;refine cI (eqInts_ct _ _ (by first|assumption|exact okmr ‹_› ‹_› | exact okmg _ ‹_›)) ⟨rfl,rfl,trivial⟩ (.inl rfl) ?_)|fail)
theorem sameP_ct (a b:GState) (ha:a.ok) (hb:b.ok):Ct Tryz.prog 44 [.agg (a.enc.map .t),.agg (b.enc.map .t)] (AV.b (eqD a b)) [] true:=by
 obtain ⟨r,hr,h⟩:=sameP_ct_ a b ha hb
 rw [eqD_of hr]
 exact h
structure NOk (s:GState):Prop where
 ok:s.ok
 sml:SmL s
 con:∀ c∈s.conts,c.objects.length≤400000
 pos:∀ x∈idsM s,0 < x
theorem foldl_len {α:Type} {f:List Int→α→List Int} {n:Nat}:∀ (l:List α) (o:List Int),(∀ a∈l,∀ o,(f o a).length≤o.length+n)→(l.foldl f o).length≤o.length+n*l.length
 | [],o,_=>by simp
 | a :: l,o,h=>by
  rw [List.foldl_cons,List.length_cons,Nat.mul_succ]
  have h1:=foldl_len l (f o a) fun b hb=>h b (List.mem_cons_of_mem _ hb)
  have h2:=h a (List.mem_cons_self ..) o
  omega
theorem NOk.len {s:GState} (h:NOk s):(idsM s).length≤1000000:=by
 have h1:(idsM s).length≤_:=foldl_len (n:=1) s.stack _ fun a _ o=>by
  have:=onceM_len [a.id] o
  simpa [stIds] using this
 have h2:=foldl_len (f:=plIds) (n:=900) s.players (onceM (onceM [] s.battlefield) s.exile) fun p hp o=>by
  have h3:=onceM_len p.library o
  have h4:=onceM_len p.hand (onceM o p.library)
  have h5:=onceM_len p.graveyard (onceM (onceM o p.library) p.hand)
  have h6:=h.sml.pl p hp
  show (onceM (onceM (onceM o p.library) p.hand) p.graveyard).length≤_
  omega
 have h3:=onceM_len s.battlefield []
 have h4:=onceM_len s.exile (onceM [] s.battlefield)
 have h5:=h.sml.bf
 have h6:=h.sml.ex
 have h7:=h.sml.np
 have h8:=h.sml.st
 simp only [List.length_nil] at h3
 omega
theorem normP_eq {s:GState} (h:∀ x∈idsM s,0 < x):normP (tagI 1 (idsM s)) (tagI 1 (stampsM s)) s=normM s:=by
 have h1:idP (tagI 1 (idsM s))=rankM (idsM s):=funext fun n=>idP_rank h n
 have h2:tmP (tagI 1 (stampsM s))=timeM (stampsM s):=funext fun n=>time_tag (stampsM s) n
 have h3:∀ l:List GObject,stab (ltC cfO) l=insL leO [] l:=fun l=>stab_ins (le:=fun a b=>a.id≤b.id) (fun x y=>by simp [leO]) (fun x y z a b=>Int.le_trans a b) (fun x y=>Int.le_total ..) (fun x y=>by
  unfold ltC cfO
  rw [decide_eq_true_eq]
  constructor
  ·intro hh hle
   split at hh
   ·omega
   ·split at hh <;> omega
  ·intro hh
   rw [if_pos (by omega)]
   decide) l
 unfold normP normM normW
 rw [h1,h2,h3]
theorem okMap {α β:Type} {p:β→Prop} {f:α→β} {l:List α} (h:∀ y∈l,p (f y)):∀ y∈l.map f,p y:=fun y hy=>by
 obtain ⟨x,hx,rfl⟩:=List.mem_map.1 hy
 exact h x hx
theorem normM_ok {s:GState} (h:s.ok):(normM s).ok:=by
 obtain ⟨h0,h1,h2,h3,h4,h5,h6,h7,h8,h9,h10,h11,h12⟩:=h
 refine ⟨?_,okMap fun y hy=>?_,?_,fun _ _=>trivial,?_,?_,?_,okMap fun y hy=>?_,?_,okMap fun y hy=>?_,?_,okMap fun y hy=>?_,h12⟩
 ·show (s.players.map _).length*152≤limB
  rwa [Lm]
 ·obtain ⟨a,b,c⟩:=h1 y hy
  refine ⟨?_,?_,?_⟩ <;> (show (List.map _ _).length*8≤limB;rw [Lm];assumption)
 ·show (insL leO [] (s.objects.map _)).length*128≤limB
  rw [insL_len,Lm]
  simpa using h2
 ·show (s.battlefield.map _).length*8≤limB
  rwa [Lm]
 ·show (s.exile.map _).length*8≤limB
  rwa [Lm]
 ·show (s.stack.map _).length*824≤limB
  rwa [Lm]
 ·obtain ⟨a,b,c,d⟩:=h7 y hy
  refine ⟨a,?_,fun _ _=>trivial,trivial⟩
  show (y.targets.map _).length*16≤limB
  rwa [Lm]
 ·show (s.waiting.map _).length*768≤limB
  rwa [Lm]
 ·exact h9 y hy
 ·show (s.conts.map _).length*80≤limB
  rwa [Lm]
 ·obtain ⟨a,b,c⟩:=h11 y hy
  refine ⟨?_,b,c⟩
  show (insAll ltZ [] (y.objects.map _)).length*8≤limB
  have:=insAll_len ltZ (y.objects.map (rankM (idsM s))) []
  rw [Lm,List.length_nil,Nat.zero_add] at this
  exact Nat.le_trans (Nat.mul_le_mul_right 8 this) a
theorem normL_ct (s:GState) (h:NOk s):Ct Tryz.prog 10 [.agg (s.enc.map .t)] (.agg ((normM s).enc.map .t)) [] false:=by
 have:=normP_ct s h.ok h.sml fun c hc=>Nat.le_trans (h.con c hc) (by decide)
 rwa [normP_eq h.pos] at this
theorem normQ_ct (s:GState) (h:NOk s):Ct Tryz.prog 11 [.agg (s.enc.map .t)] (.agg ((normM s).enc.map .t)) [] false:=normR_ct s h.ok h.sml h.len h.con
theorem q26eq_ct (a b:GState) (ha:a.ok) (hb:b.ok):Ct Tryz.prog 9 [.agg (a.enc.map .t),.agg (b.enc.map .t)] (AV.b (eqD a b)) [] true:=by
 obtain ⟨r,hr,h⟩:=q26same a b ha hb
 rw [eqD_of hr]
 exact h
theorem sameL_ct (a b:GState) (ha:NOk a) (hb:NOk b):Ct Tryz.prog 12 [.agg (a.enc.map .t),.agg (b.enc.map .t)] (AV.b (eqD (normM a) (normM b))) [] true:=by
 have h1:=normL_ct a ha
 have h2:=normL_ct b hb
 have h3:=sameP_ct (normM a) (normM b) (normM_ok ha.ok) (normM_ok hb.ok)
 generalize normM a=na at h1 h3 ⊢
 generalize normM b=nb at h2 h3 ⊢
 refine Ct.lit (b:=false) ?_ rfl
 refine ct_of Tryz.func12 rfl (enters_of Tryz.func12 (by kernel_rfl) rfl) tabOk (by kernel_rfl) rfl rfl rfl rfl fun w0 O _=>Tp.run [] ?_
 refine cI h1 ⟨fL a.enc,trivial⟩ (.inr rfl) ?_
 refine cI h2 ⟨fL b.enc,trivial⟩ (.inr rfl) ?_
 refine cI h3 ⟨fL na.enc,fL nb.enc,trivial⟩ (.inl rfl) ?_
 refine Ei [] (Ai rfl (Ai ?_ ?_))
 all_goals repeat' first|refine Ai ?_ ?_|exact rfl|exact trivial|exact Ei _ rfl|refine lN ?_|refine bS ?_|fail
theorem sameR_ct (a b:GState) (ha:NOk a) (hb:NOk b):Ct Tryz.prog 13 [.agg (a.enc.map .t),.agg (b.enc.map .t)] (AV.b (eqD (normM a) (normM b))) [] true:=by
 have h1:=normQ_ct a ha
 have h2:=normQ_ct b hb
 have h3:=q26eq_ct (normM a) (normM b) (normM_ok ha.ok) (normM_ok hb.ok)
 generalize normM a=na at h1 h3 ⊢
 generalize normM b=nb at h2 h3 ⊢
 refine Ct.lit (b:=false) ?_ rfl
 refine ct_of Tryz.func13 rfl (enters_of Tryz.func13 (by kernel_rfl) rfl) tabOk (by kernel_rfl) rfl rfl rfl rfl fun w0 O _=>Tp.run [] ?_
 refine cI h1 ⟨fL a.enc,trivial⟩ (.inr rfl) ?_
 refine cI h2 ⟨fL b.enc,trivial⟩ (.inr rfl) ?_
 refine cI h3 ⟨fL na.enc,fL nb.enc,trivial⟩ (.inl rfl) ?_
 refine Ei [] (Ai rfl (Ai ?_ ?_))
 all_goals repeat' first|refine Ai ?_ ?_|exact rfl|exact trivial|exact Ei _ rfl|refine lN ?_|refine bS ?_|fail
end Go.Proofs.YtpibcdnagnjokaaGreat
end
section
namespace Cg
open Go
section
theorem inM_iff {n a b:Int}:inM n a b=true↔a≤n∧n≤b:=by
 unfold inM
 rw [Bool.and_eq_true,decide_eq_true_eq,decide_eq_true_eq]
theorem uniqO {l:List GObject} (hs:l.Pairwise fun a b=>a.id < b.id) {a b:GObject} (ha:a∈l) (hb:b∈l) (e:a.id=b.id):a=b:=by
 obtain ⟨i,hi,rfl⟩:=List.mem_iff_getElem.1 ha
 obtain ⟨j,hj,rfl⟩:=List.mem_iff_getElem.1 hb
 have hp:=List.pairwise_iff_getElem.1 hs
 rcases Nat.lt_trichotomy i j with h|h|h
 ·have:=hp i j hi hj h
  omega
 ·subst h
  rfl
 ·have:=hp j i hj hi h
  omega
theorem hasM_iff {l:List GObject} {id:Int}:hasM l id=true↔∃ o∈l,o.id=id:=by
 unfold hasM
 rw [List.find?_isSome]
 simp
theorem findM_mem {l:List GObject} {id:Int} (h:hasM l id=true):findM l id∈l∧(findM l id).id=id:=by
 unfold hasM at h
 unfold findM
 cases hf:l.find? fun o=>o.id==id with
 | none=>rw [hf] at h;cases h
 | some o=>exact ⟨List.mem_of_find?_eq_some hf,by simpa using List.find?_some hf⟩
theorem findM_of {l:List GObject} {o:GObject} (hs:l.Pairwise fun a b=>a.id < b.id) (ho:o∈l):findM l o.id=o:=
 have h:=findM_mem (hasM_iff.2 ⟨o,ho,rfl⟩)
 uniqO hs h.1 ho h.2
def scM (s:GState):Bool:=inM s.turn 0 500&&(inM s.step 0 10&&(plM s s.active&&(plM s s.priority&&(inM s.passes 0 s.players.length&&(!decide ((s.extra.length:Int) > 500)&&(inM s.over 0 2&&(s.extra.all (plM s)&&isW s)))))))
def plyN (p:GPlayer):Bool:=inM p.life (-1000000) 1000000&&(inM p.venom 0 1000000&&(inM p.lands 0 1000000&&wholeM p.pool0 p.pool1 p.pool2 p.pool3 p.pool4 p.pool5))
def itemV (q:Opq) (s:GState) (x:GItem):Prop:=(1≤x.id∧x.id < s.nextId)∧(inM x.x 0 1000000=true∧(x.targets.length:Int)≤4∧plM s x.control=true)∧
 (x.kind=1∧x.source=x.id∧(∃ o∈s.objects,o.id=x.id∧o.zone=5)∧(q.zero x.ability||q.ab x.ability)=true∨x.kind=2∧(∀ o∈s.objects,o.id≠x.id)∧q.ab x.ability=true)
structure Val (q:Opq) (c:Int) (s:GState):Prop where
 nid:1≤s.nextId∧s.nextId≤1000000
 nst:1≤s.nextStamp∧s.nextStamp≤1000000
 nobj:(s.objects.length:Int)≤2048
 npl:2≤(s.players.length:Int)∧(s.players.length:Int)≤4
 sc:scM s=true
 ply:∀ p∈s.players,plyN p=true
 srt:s.objects.Pairwise fun a b=>a.id < b.id
 obj:∀ o∈s.objects,objOk o c s.players.length=true∧o.id < s.nextId∧o.stamp < s.nextStamp
 lst:∀ z p id,id∈listM s z p→∃ o∈s.objects,o.id=id∧o.zone=z∧(z=0∨z=4∨o.owner=p)
 nod:∀ z p,(listM s z p).Nodup
 plc:∀ o∈s.objects,o.zone≠5→o.id∈listM s o.zone o.owner
 plc5:∀ o∈s.objects,o.zone=5→∃ x∈s.stack,x.kind=1∧x.id=o.id
 nstk:(s.stack.length:Int)≤64
 stk:s.stack.Pairwise fun a b=>a.id≠b.id
 itm:∀ x∈s.stack,itemV q s x
 wt:(s.waiting.length:Int)≤64∧∀ w∈s.waiting,waitOk q s w=true
 cts:(s.conts.length:Int)≤64∧∀ k∈s.conts,contOk q s k=true
theorem listOk_iff {s:GState} {z w:Int} {l:List Int}:listOk s z w l=true↔∀ id∈l,(hasM s.objects id=true∧(findM s.objects id).zone=z∧(0≤w→(findM s.objects id).owner=w))∧l.count id=1:=by
 unfold listOk timesM
 rw [List.all_eq_true]
 refine ⟨fun h id hid=>?_,fun h id hid=>?_⟩
 ·have:=h id hid
  simp only [Bool.and_eq_true,Bool.or_eq_true,Bool.not_eq_true',decide_eq_false_iff_not,beq_iff_eq] at this
  obtain ⟨h1,h2,h3,h4⟩:=this
  exact ⟨⟨h1,h2,fun hw=>h3.resolve_left fun h=>h hw⟩,by omega⟩
 ·obtain ⟨⟨h1,h2,h3⟩,h4⟩:=h id hid
  simp only [Bool.and_eq_true,Bool.or_eq_true,Bool.not_eq_true',decide_eq_false_iff_not,beq_iff_eq]
  refine ⟨h1,h2,?_,by omega⟩
  by_cases hw:0≤w
  ·exact .inr (h3 hw)
  ·exact .inl hw
theorem nodup_of {l:List Int} (h:∀ a∈l,l.count a=1):l.Nodup:=List.nodup_iff_count.2 fun a=>by
 by_cases ha:a∈l
 ·rw [h a ha];exact Nat.le_refl 1
 ·rw [List.count_eq_zero.2 ha];exact Nat.zero_le 1
theorem count_of {l:List Int} (h:l.Nodup) {a:Int} (ha:a∈l):l.count a=1:=by
 rw [h.count,if_pos ha]
theorem listOk_of {s:GState} {z w p:Int} {l:List Int} (hs:s.objects.Pairwise fun a b=>a.id < b.id) (hw:0≤w↔¬ (z=0∨z=4)) (hp:0≤w→w=p) :
  listOk s z w l=true↔(∀ id∈l,∃ o∈s.objects,o.id=id∧o.zone=z∧(z=0∨z=4∨o.owner=p))∧l.Nodup:=by
 rw [listOk_iff]
 refine ⟨fun h=>⟨fun id hid=>?_,nodup_of fun a ha=>(h a ha).2⟩,fun ⟨h1,h2⟩ id hid=>?_⟩
 ·obtain ⟨⟨h1,h2,h3⟩,_⟩:=h id hid
  obtain ⟨h4,h5⟩:=findM_mem h1
  refine ⟨_,h4,h5,h2,?_⟩
  by_cases h0:0≤w
  ·exact .inr (.inr ((h3 h0).trans (hp h0)))
  ·have:=Classical.not_not.1 (fun h=>h0 (hw.2 h))
   rcases this with h|h
   ·exact .inl h
   ·exact .inr (.inl h)
 ·obtain ⟨o,ho,rfl,rfl,h3⟩:=h1 id hid
  rw [findM_of hs ho]
  refine ⟨⟨hasM_iff.2 ⟨o,ho,rfl⟩,rfl,fun h0=>?_⟩,count_of h2 hid⟩
  have:=hw.1 h0
  rw [hp h0]
  rcases h3 with h|h|h
  ·exact absurd (.inl h) this
  ·exact absurd (.inr h) this
  ·exact h
theorem listM_cases (s:GState) (z p:Int):listM s z p=[]∨z=0∧listM s z p=s.battlefield∨z=4∧listM s z p=s.exile∨∃ (i:Nat) (h:i < s.players.length),p=i∧(z=1∧listM s z p=s.players[i].hand∨z=2∧listM s z p=s.players[i].library∨z=3∧listM s z p=s.players[i].graveyard):=by
 unfold listM
 split
 ·rename_i h
  exact .inr (.inl ⟨by simpa using h,rfl⟩)
 split
 ·rename_i h
  exact .inr (.inr (.inl ⟨by simpa using h,rfl⟩))
 split
 ·exact .inl rfl
 rename_i hp
 split
 ·rename_i x hx
  obtain ⟨hi,rfl⟩:=List.getElem?_eq_some_iff.1 hx
  have hpi:p=((p.toNat:Nat):Int):=by omega
  split
  ·rename_i h
   exact .inr (.inr (.inr ⟨p.toNat,hi,hpi,.inl ⟨by simpa using h,rfl⟩⟩))
  split
  ·rename_i h
   exact .inr (.inr (.inr ⟨p.toNat,hi,hpi,.inr (.inl ⟨by simpa using h,rfl⟩)⟩))
  split
  ·rename_i h
   exact .inr (.inr (.inr ⟨p.toNat,hi,hpi,.inr (.inr ⟨by simpa using h,rfl⟩)⟩))
  ·exact .inl rfl
 ·exact .inl rfl
section
variable {s:GState} {i:Nat}
end
theorem sorted_of {cards:Int} {s:GState} (h:allI (objAt cards s) 0 s.objects=true):s.objects.Pairwise fun a b=>a.id < b.id:=by
 have h:=allI_iff.1 h
 have step:∀ (j:Nat) (hj:j+1 < s.objects.length),(s.objects[j]'(by omega)).id < s.objects[j+1].id:=fun j hj=>by
  have:=h (j+1) hj
  unfold objAt at this
  simp only [Bool.and_eq_true,Bool.or_eq_true,Bool.not_eq_true',decide_eq_false_iff_not,Nat.zero_add] at this
  obtain ⟨_,_,_,h4,_⟩:=this
  rcases h4 with h4|h4
  ·exact absurd (show (((j+1:Nat):Int)) > 0 by omega) h4
  ·rw [Nat.add_sub_cancel,List.getD_eq_getElem?_getD,List.getElem?_eq_getElem (by omega:j < s.objects.length)] at h4
   simpa using h4
 refine List.pairwise_iff_getElem.2 fun a b ha hb hab=>?_
 obtain ⟨d,rfl⟩:∃ d,b=a+1+d:=⟨b - (a+1),by omega⟩
 clear hab
 induction d with
 | zero=>exact step a hb
 | succ d ih=>exact Int.lt_trans (ih (by omega)) (step (a+1+d) hb)
theorem spells_one {l:List GItem} {id:Int} {x:GItem} (h1:x.kind=1) (h2:x.id=id):(l.Pairwise fun a b=>a.id≠b.id)→x∈l→l.countP (fun x=>x.kind==1&&x.id==id)=1:=by
 intro hs hx
 induction l with
 | nil=>cases hx
 | cons y l ih=>
  rw [List.pairwise_cons] at hs
  rcases List.mem_cons.1 hx with e|hx
  ·subst e
   rw [List.countP_cons_of_pos (by simp [h1,h2]),List.countP_eq_zero.2]
   intro z hz
   have:=hs.1 z hz
   rw [h2] at this
   simpa using fun _ e=>this (Eq.symm e)
  ·rw [List.countP_cons_of_neg,ih hs.2 hx]
   have:=hs.1 x hx
   rw [h2] at this
   simp [this]
theorem spells_of {l:List GItem} {id:Int} (hs:l.Pairwise fun a b=>a.id≠b.id):l.countP (fun x=>x.kind==1&&x.id==id)=1↔∃ x∈l,x.kind=1∧x.id=id:=by
 refine ⟨fun h=>?_,fun ⟨x,hx,h1,h2⟩=>spells_one h1 h2 hs hx⟩
 obtain ⟨x,hx,hp⟩:=List.countP_pos_iff.1 (show 0 < l.countP (fun x=>x.kind==1&&x.id==id) by omega)
 exact ⟨x,hx,by simpa using hp⟩
theorem items_of {q:Opq} {s:GState} (h:allI (itemAt q s) 0 s.stack=true):(s.stack.Pairwise fun a b=>a.id≠b.id)∧∀ x∈s.stack,itemOk q s x=true:=by
 have h:=allI_iff.1 h
 refine ⟨List.pairwise_iff_getElem.2 fun a b ha hb hab=>?_,fun x hx=>?_⟩
 ·have:=h b hb
  unfold itemAt at this
  rw [Bool.and_eq_true,List.all_eq_true,Nat.zero_add] at this
  have:=this.2 s.stack[a] (List.mem_iff_getElem.2 ⟨a,by rw [List.length_take];omega,by rw [List.getElem_take]⟩)
  simpa using this
 ·obtain ⟨j,hj,rfl⟩:=List.mem_iff_getElem.1 hx
  have:=h j hj
  unfold itemAt at this
  rw [Bool.and_eq_true] at this
  exact this.1
theorem itemV_iff {q:Opq} {s:GState} {x:GItem} (hs:s.objects.Pairwise fun a b=>a.id < b.id):itemOk q s x=true↔itemV q s x:=by
 have h5:(hasM s.objects x.id=true∧(findM s.objects x.id).zone=5)↔∃ o∈s.objects,o.id=x.id∧o.zone=5:=
  ⟨fun ⟨h1,h2⟩=>⟨_,(findM_mem h1).1,(findM_mem h1).2,h2⟩,fun ⟨o,ho,h1,h2⟩=>⟨hasM_iff.2 ⟨o,ho,h1⟩,by rw [← h1,findM_of hs ho];exact h2⟩⟩
 have hn:hasM s.objects x.id=false↔∀ o∈s.objects,o.id≠x.id:=by
  rw [← Bool.not_eq_true,hasM_iff]
  exact ⟨fun h o ho e=>h ⟨o,ho,e⟩,fun h ⟨o,ho,e⟩=>h o ho e⟩
 unfold itemOk itemV
 rw [Bool.and_eq_true,Bool.and_eq_true,Bool.and_eq_true,Bool.and_eq_true,inM_iff]
 by_cases hk:x.kind=1
 ·rw [if_pos (by simpa using hk)]
  simp only [Bool.and_eq_true,beq_iff_eq,Bool.not_eq_true',decide_eq_false_iff_not]
  refine ⟨fun ⟨⟨h1,h2,h3,h4⟩,g1,g2,g3,g4⟩=>⟨⟨by omega,by omega⟩,⟨h2,by omega,h4⟩,.inl ⟨hk,g1,h5.1 ⟨g2,g3⟩,g4⟩⟩,fun ⟨h1,⟨h2,h3,h4⟩,h⟩=>?_⟩
  rcases h with ⟨_,g1,g2,g3⟩|⟨g0,_⟩
  ·exact ⟨⟨by omega,h2,by omega,h4⟩,g1,(h5.2 g2).1,(h5.2 g2).2,g3⟩
  ·omega
 ·rw [if_neg (by simpa using hk)]
  simp only [Bool.and_eq_true,beq_iff_eq,Bool.not_eq_true',decide_eq_false_iff_not]
  refine ⟨fun ⟨⟨h1,h2,h3,h4⟩,g1,g2,g3⟩=>⟨⟨by omega,by omega⟩,⟨h2,by omega,h4⟩,.inr ⟨g1,hn.1 g2,g3⟩⟩,fun ⟨h1,⟨h2,h3,h4⟩,h⟩=>?_⟩
  rcases h with ⟨g0,_⟩|⟨g1,g2,g3⟩
  ·exact absurd g0 hk
  ·exact ⟨⟨by omega,h2,by omega,h4⟩,g1,hn.2 g2,g3⟩
theorem placed_iff {s:GState} {o:GObject} (hn:(listM s o.zone o.owner).Nodup) (hk:s.stack.Pairwise fun a b=>a.id≠b.id):placedOk s o=true↔(o.zone≠5→o.id∈listM s o.zone o.owner)∧(o.zone=5→∃ x∈s.stack,x.kind=1∧x.id=o.id):=by
 unfold placedOk spellsM timesM
 by_cases h5:o.zone=5
 ·rw [if_pos (by simpa using h5),beq_iff_eq]
  refine ⟨fun h=>⟨fun h0=>absurd h5 h0,fun _=>(spells_of hk).1 (by omega)⟩,fun ⟨_,h⟩=>?_⟩
  rw [(spells_of hk).2 (h h5)]
  rfl
 ·rw [if_neg (by simpa using h5),beq_iff_eq]
  refine ⟨fun h=>⟨fun _=>List.count_pos_iff.1 (by omega),fun h0=>absurd h0 h5⟩,fun ⟨h,_⟩=>?_⟩
  rw [count_of hn (h h5)]
  rfl
theorem plyOk_split {s:GState} {i:Nat} {p:GPlayer}:plyOk s i p=true↔plyN p=true∧listOk s 2 i p.library=true∧listOk s 1 i p.hand=true∧listOk s 3 i p.graveyard=true:=by
 unfold plyOk plyN
 simp only [Bool.and_eq_true]
 exact ⟨fun ⟨h1,h2,h3,h4,h5,h6,h7⟩=>⟨⟨h1,h2,h3,h4⟩,h5,h6,h7⟩,fun ⟨⟨h1,h2,h3,h4⟩,h5,h6,h7⟩=>⟨h1,h2,h3,h4,h5,h6,h7⟩⟩
theorem val_of {q:Opq} {c:Int} {s:GState} (h:isM q c s=true):Val q c s:=by
 unfold isM isA isB playersOk objsOk stackOk at h
 simp only [Bool.and_eq_true,Bool.not_eq_true',decide_eq_false_iff_not] at h
 obtain ⟨⟨a1,a2,a3,a4,a5⟩,⟨⟨p1,p2,p3,p4⟩,b2,b3,b4,b5,b6⟩,ex,w,⟨o1,o2⟩,⟨s1,s2,s3⟩,s4,s5,s6⟩:=h
 rw [inM_iff] at a1 a2 p1
 have hs:=sorted_of o2
 have hp:∀ (i:Nat) (hi:i < s.players.length),plyN s.players[i]=true∧listOk s 2 i s.players[i].library=true∧listOk s 1 i s.players[i].hand=true∧listOk s 3 i s.players[i].graveyard=true:=fun i hi=>by
  have:=allI_iff.1 p2 i hi
  rw [Nat.zero_add] at this
  exact plyOk_split.1 this
 obtain ⟨k1,k2⟩:=items_of s4
 have hl:∀ z p,(∀ id∈listM s z p,∃ o∈s.objects,o.id=id∧o.zone=z∧(z=0∨z=4∨o.owner=p))∧(listM s z p).Nodup:=fun z p=>by
  rcases listM_cases s z p with e|⟨rfl,e⟩|⟨rfl,e⟩|⟨i,hi,rfl,⟨rfl,e⟩|⟨rfl,e⟩|⟨rfl,e⟩⟩ <;> rw [e]
  ·exact ⟨fun id h=>(by cases h),List.nodup_nil⟩
  ·exact (listOk_of (w:=-1) hs (by omega) (by omega)).1 p3
  ·exact (listOk_of (w:=-1) hs (by omega) (by omega)).1 p4
  ·exact (listOk_of (w:=i) hs (by omega) (by omega)).1 (hp i hi).2.2.1
  ·exact (listOk_of (w:=i) hs (by omega) (by omega)).1 (hp i hi).2.1
  ·exact (listOk_of (w:=i) hs (by omega) (by omega)).1 (hp i hi).2.2.2
 have ho:∀ o∈s.objects,(objOk o c s.players.length=true∧o.id < s.nextId∧o.stamp < s.nextStamp)∧placedOk s o=true:=fun o ho=>by
  obtain ⟨i,hi,rfl⟩:=List.mem_iff_getElem.1 ho
  have:=allI_iff.1 o2 i hi
  unfold objAt at this
  simp only [Bool.and_eq_true,Bool.not_eq_true',decide_eq_false_iff_not] at this
  exact ⟨⟨this.1,by omega,by omega⟩,this.2.2.2.2⟩
 refine ⟨a1,a2,by omega,p1,?_,fun p hpp=>?_,hs,fun o h=>(ho o h).1,fun z p=>(hl z p).1,fun z p=>(hl z p).2,fun o h=>((placed_iff (hl _ _).2 k1).1 (ho o h).2).1,fun o h=>((placed_iff (hl _ _).2 k1).1 (ho o h).2).2,by omega,k1,fun x hx=>(itemV_iff hs).1 (k2 x hx),⟨by omega,List.all_eq_true.1 s5⟩,by omega,List.all_eq_true.1 s6⟩
 ·unfold scM
  simp only [Bool.and_eq_true,Bool.not_eq_true',decide_eq_false_iff_not]
  exact ⟨a3,a4,b2,b3,b4,b5,b6,ex,w⟩
 ·obtain ⟨i,hi,rfl⟩:=List.mem_iff_getElem.1 hpp
  exact (hp i hi).1
end
end Cg
end
section
namespace Go.Proofs.YtpibcdnagnjokaaGreat
open Go Cg Go.RowKit Go.Shelf
structure Fit50 (a:List GCard) (s:GState):Prop where
 sm:SmB s
 is:isM opq ((a.length:Nat):Int) s=true
theorem fit_of {a:List GCard} {s:GState} {f:GCard→List Tr} {g:GObject→List Tr} {r:Bool} (_:¬ (((a.map f).length:Nat):Int) > 12) (_:¬ (((s.objects.map g).length:Nat):Int) > 60) (h3:r=true→SmB s) (hr:r=true) (_:¬ s.nextId > 100000) (_:¬ s.nextStamp > 100000) (h6:isM opq ((a.length:Nat):Int) s=true):Fit50 a s:=⟨h3 hr,h6⟩
theorem lposV {q:Opq} {c:Int} {s:GState} (h:Val q c s) (z p:Int):∀ x∈listM s z p,(0:Int) < x:=fun x hx=>by
 obtain ⟨o,ho,e,_⟩:=h.lst z p x hx
 have:=(h.obj o ho).1
 unfold objOk at this
 simp only [Bool.and_eq_true,Bool.not_eq_true',decide_eq_false_iff_not] at this
 omega
theorem pos_ids {q:Opq} {c:Int} {s:GState} (h:Val q c s):∀ x∈idsM s,0 < x:=by
 refine foldl_posm s.stack _ (fun a ha o ho=>onceM_pos [a.id] o ho fun x hx=>?_) (foldl_posm s.players _ (fun p hp o ho=>?_) (onceM_pos s.exile _ (onceM_pos s.battlefield [] (fun x hx=>by cases hx) ?_) ?_))
 ·rw [List.mem_singleton.1 hx]
  have:=(h.itm a ha).1.1
  omega
 ·obtain ⟨i,hi,rfl⟩:=List.mem_iff_getElem.1 hp
  have e:∀ (z:Int) (f:GPlayer→List Int),(listM s z (i:Int)=f s.players[i])→∀ x∈f s.players[i],(0:Int) < x:=fun z f hf x hx=>lposV h z i x (by rw [hf];exact hx)
  exact onceM_pos _ _ (onceM_pos _ _ (onceM_pos _ _ ho (e 2 GPlayer.library (by simp [listM,hi];omega))) (e 1 GPlayer.hand (by simp [listM,hi];omega))) (e 3 GPlayer.graveyard (by simp [listM,hi];omega))
 ·exact fun x hx=>lposV h 0 0 x (by simpa [listM] using hx)
 ·exact fun x hx=>lposV h 4 0 x (by simpa [listM] using hx)
theorem Fit50.nok {a:List GCard} {s:GState} (h:Fit50 a s) (hok:s.ok):NOk s:=⟨hok,h.sm.sml,fun c hc=>Nat.le_trans (h.sm.con c hc) (by decide),pos_ids (val_of h.is)⟩
theorem fits50 (a:List GCard) (b:GState) (ha:a.length*176≤limB) (ma:∀ y∈a,GCard.ok y) (hb:b.ok):∃ r:Bool,(r=true→Fit50 a b)∧Ct Tryz.prog 7 [.c (.t (.sl 17 (a.map GCard.enc))),.agg (b.enc.map .t)] (AV.b r) [] true:=by
 have hb_:=hb
 obtain ⟨ob0,ob1,ob2,ob3,ob4,ob5,ob6,ob7,ob8,ob9,ob10,ob11,ob12⟩:=hb_
 refine ct_x (Φ:=fun (r:Bool)=>r=true→Fit50 a b) lit_b (ctx_of Tryz.func7 rfl (enters_of Tryz.func7 (by kernel_rfl) rfl) tabOk (by kernel_rfl) rfl rfl (TpX.runY [] [] ?_))
 repeat' (first|(apply cond_p <;> intro _)|(apply cond_e <;> intro _)|(apply cond_ne <;> intro _)|apply cond_n|(apply cS <;> intro _)|(apply leaf_x;exact Ei [] (Ai rfl (Ai trivial rfl));exact (by first|(intro hh;cases hh;done)|exact fun hh=>fit_of ‹_› ‹_› ‹_› ‹_› ‹_› ‹_› hh);rfl)|(apply call_f 19;refine call_x (r26smB _ (by first|assumption|exact okmr ‹_› ‹_› | exact okmg _ ‹_›)) ⟨fL (GState.enc _),trivial⟩ (.inl rfl) (fun _ _=>?_))|(apply call_f 20;refine call_x (r22check _ (by first|assumption|exact okmr ‹_› ‹_› | exact okmg _ ‹_›) (by first|assumption|exact okmr ‹_› ‹_› | exact okmg _ ‹_›)) ⟨rfl,trivial⟩ (.inl rfl) (fun _ _=>?_))|(apply call_f 21;refine cI (r26is _ _ (by first|assumption|exact okmr ‹_› ‹_› | exact okmg _ ‹_›) (by first|assumption|exact okmr ‹_› ‹_› | exact okmg _ ‹_›) (by first|assumption|exact okmr ‹_› ‹_› | exact okmg _ ‹_›)) ⟨rfl,fL (GState.enc _),trivial⟩ (.inl rfl) ?_)|fail)
end Go.Proofs.YtpibcdnagnjokaaGreat
end
