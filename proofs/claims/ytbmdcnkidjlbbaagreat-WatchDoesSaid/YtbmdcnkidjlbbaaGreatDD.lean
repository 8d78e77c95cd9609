/- Parts of the proof, joined: . -/
import Derived.Test.YtbmdcnkidjlbbaaGreatDC
import Derived.Test.YtbmdcnkidjlbbaaGreatProg
import Derived.WalkLawsBesides
import Derived.WalkSpells
import Derived.WalkSmall
import Derived.BigQuiet
import Derived.Deep.MidRow
import Derived.Lib.Hide
import Derived.Shelf.Abstract
import Derived.Lib.SliceRun
import Derived.Shelf.Small.Bits
import Derived.Shelf.Strconv.Itoa0
import Derived.Shelf.Strings.Search1
import Derived.Shelf.Strings.Search2
import Derived.Shelf.Strings.Search3
import Derived.Shelf.LaysM
import Derived.Shelf.Strings.Shaped
import Derived.Shelf.Sort.Plain
import Derived.Shelf.Slices.Turned
import Derived.Ground.Names2Prog
import Derived.Shelf.Slices.Clone
import Derived.Shelf.Slices.CompactI
import Derived.Shelf.Slices.Cells
import Derived.Shelf.Slices.In.SortNone
import Derived.Ground.SlgnProg
import Derived.Shelf.SlicesE.Compact
import Derived.Ground.SlgfProg
import Derived.Shelf.SlicesE.IndexFunc
import Derived.Shelf.SlicesE.DeleteFunc
import Derived.Lib.IndexMore
open True renaming intro->ea
open Go.Proofs.Tryz renaming prog->ae
open List renaming getElem?_eq_getElem->ag,length_append->al,getElem?_eq_some_iff->an,length_cons->aZ,length_take->au,length_nil->bM,mem_cons_self->aB,getElem_mem->aH,mem_singleton->aJ,mem_cons_of_mem->aM,all_eq_true->aN,length_drop->aO,map_append->aQ,append_nil->aW,mem_of_getElem?->bc,mem_append->bh,take_length->bj,mem_iff_getElem->bD,nil_append->bE,getElem?_map->bI,mem_map->bL,length_set->bQ,mem_append_left->bR,mem_append_right->bT,length_replicate->cz,length_filter_le->cE
open Bool renaming and_eq_true->ah,false_and->cm,true_and->cq,not_eq_true'->cu,or_eq_true->cC
open Nat renaming le_refl->ak,zero_le->aA,le_trans->aX,zero_add->bw,mul_le_mul_right->cy,le_of_lt->db
open Go.IntKind renaming wrap_i64->bp,wrap_u64->cK
open Option.some renaming inj->aY
open Cg.Tp renaming run->aEk,loop->aEm,wk->aEp,nW->aEq
open Cg.cc renaming bn->aEl,cut->aEr
open Cg.AV renaming i->aEn,b->aEo
set_option maxRecDepth 100000
set_option maxHeartbeats 4000000
namespace Go.Proofs.YtbmdcnkidjlbbaaGreat
section
open Go Cg Go.RowKit
theorem Hq {s:aq}(h:s.ok){q:bO}(hq:q∈s.aw):q.hand.length*8<=aV/\q.dt.length*8<=aV/\q.dO.length*8<=aV:=by
 obtain⟨hp,uf,_⟩:=h;obtain⟨e1,e2,e3⟩:=uf q hq;exact⟨e2,e1,e3⟩
theorem Kn (s:aq)(z p:Int)(h:s.ok):Ct ae 158 [.agg (s.enc.map .t),.c (.t (iv z)),.c (.t (iv p))] (.c (.t (.sl 1 ((bY s z p).map eI)))) [] false:=by
 have hbt:s.bu.length*8<=aV:=h.2.2.2.2.1;have hex:s.fQ.length*8<=aV:=h.2.2.2.2.2.1;generalize hL:bY s z p=L;refine cT Tryz.func158 rfl (by kernel_rfl) rfl fun w0 O _=>aEk [3,4,5,6,7,8,10,11,12,13,14,15] ?_;refine cS (fun Df=>?_) fun Df=>?_
 ·have hl:bY s z p=s.bu:=by unfold bY;rw[if_pos Df]
  refine aEk [] (cR (jD _ (cD _ _ _ hbt)) ⟨rfl,ea⟩ ?_);rw[hL] at hl;rw[hl];refine Ei [] ?_
  repeat' constructor
 refine aEk [] (cS (fun QV=>?_) fun QV=>?_)
 ·have hl:bY s z p=s.fQ:=by unfold bY;rw[if_neg (by rw[Df];decide),if_pos QV]
  refine aEk [] (cR (jD _ (cD _ _ _ hex)) ⟨rfl,ea⟩ ?_);rw[hL] at hl;rw[hl];refine Ei [] ?_
  repeat' constructor
 have oq:bY s z p=if p < 0\/(s.aw.length:Int)<=p then [] else match s.aw[p.toNat]? with
  | some q=>if z==1 then q.hand else if z==2 then q.dt else if z==3 then q.dO else []
  | none=>[]:=by unfold bY;rw[if_neg (by rw[Df];decide),if_neg (by rw[QV];decide)] <;> rfl
 refine aEk [] (cS (fun Gx=>?_) fun Gx=>?_)
 ·rw[if_pos (.inl (of_decide_eq_true Gx))] at oq;refine aEk [] ?_;rw[hL] at oq;rw[oq];refine Ei [] ?_
  repeat' constructor
 refine cS (fun qM=>?_) fun qM=>?_
 ·have qM:=of_decide_eq_true qM;rw[Lm] at qM;rw[if_pos (.inr qM)] at oq;refine aEk [] ?_;rw[hL] at oq;rw[oq];refine Ei [] ?_
  repeat' constructor
 have Gx:=of_decide_eq_false Gx;have qM:=of_decide_eq_false qM;rw[Lm] at qM;obtain⟨k,rfl⟩:∃ k:Nat,p=k:=⟨p.toNat,by omega⟩
 have hk:k < s.aw.length:=by omega
 rw[if_neg (by omega),Int.toNat_natCast,ag hk] at oq;obtain⟨e1,e2,e3⟩:=Hq h (aH hk);refine aEk [] (cS (fun Fa=>?_) fun Fa=>?_)
 ·have hl:bY s z k=s.aw[k].hand:=by rw[oq];exact(if_pos Fa)
  refine aEk [] (Ei k (Ei (s.aw[k].enc) (Ai rfl (Ai (aK _ _ k hk) ?_))));refine cR (jD _ (cD _ _ _ e1)) ⟨rfl,ea⟩ ?_;rw[hL] at hl;rw[hl];refine Ei [] ?_
  repeat' constructor
 refine aEk [] (cS (fun Gw=>?_) fun Gw=>?_)
 ·have hl:bY s z k=s.aw[k].dt:=by rw[oq];exact(if_neg (by rw[Fa];decide)).trans ((if_pos Gw))
  refine aEk [] (Ei k (Ei (s.aw[k].enc) (Ai rfl (Ai (aK _ _ k hk) ?_))));refine cR (jD _ (cD _ _ _ e2)) ⟨rfl,ea⟩ ?_;rw[hL] at hl;rw[hl];refine Ei [] ?_
  repeat' constructor
 refine aEk [] (cS (fun QW=>?_) fun QW=>?_)
 ·have hl:bY s z k=s.aw[k].dO:=by rw[oq];exact(if_neg (by rw[Fa];decide)).trans ((if_neg (by rw[Gw];decide)).trans ((if_pos QW)))
  refine aEk [] (Ei k (Ei (s.aw[k].enc) (Ai rfl (Ai (aK _ _ k hk) ?_))));refine cR (jD _ (cD _ _ _ e3)) ⟨rfl,ea⟩ ?_;rw[hL] at hl;rw[hl];refine Ei [] ?_
  repeat' constructor
 have hl:bY s z k=[]:=by rw[oq];exact(if_neg (by rw[Fa];decide)).trans ((if_neg (by rw[Gw];decide)).trans (if_neg (by rw[QW];decide)))
 refine aEk [] ?_;rw[hL] at hl;rw[hl];refine Ei [] ?_
 repeat' constructor
theorem Qq (s:aq)(z p:Int)(h:s.ok):Ct ae 158 [.agg (s.enc.map .t),.c (.t (iv z)),.c (.t (iv p))] (.c (.row 0 0)) [⟨3,1,0,(bY s z p).map eI,none⟩] false:=by
 have hbt:s.bu.length*8<=aV:=h.2.2.2.2.1;have hex:s.fQ.length*8<=aV:=h.2.2.2.2.2.1;generalize hL:bY s z p=L;refine cT Tryz.func158 rfl (by kernel_rfl) rfl fun w0 O _=>aEk [3,4,5,6,7,8,10,11,12,13,14,15] ?_;refine cS (fun Df=>?_) fun Df=>?_
 ·have hl:bY s z p=s.bu:=by unfold bY;rw[if_pos Df]
  refine aEk [] (cR (mW _ (cD _ _ _ hbt)) ⟨rfl,ea⟩ ?_);rw[hL] at hl;rw[hl];refine Ei [(0,896)] ?_
  repeat' constructor
 refine aEk [] (cS (fun QV=>?_) fun QV=>?_)
 ·have hl:bY s z p=s.fQ:=by unfold bY;rw[if_neg (by rw[Df];decide),if_pos QV]
  refine aEk [] (cR (mW _ (cD _ _ _ hex)) ⟨rfl,ea⟩ ?_);rw[hL] at hl;rw[hl];refine Ei [(0,1152)] ?_
  repeat' constructor
 have oq:bY s z p=if p < 0\/(s.aw.length:Int)<=p then [] else match s.aw[p.toNat]? with
  | some q=>if z==1 then q.hand else if z==2 then q.dt else if z==3 then q.dO else []
  | none=>[]:=by unfold bY;rw[if_neg (by rw[Df];decide),if_neg (by rw[QV];decide)] <;> rfl
 refine aEk [] (cS (fun Gx=>?_) fun Gx=>?_)
 ·rw[if_pos (.inl (of_decide_eq_true Gx))] at oq;refine aEk [] ?_;rw[hL] at oq;rw[oq];refine Ei [] ?_
  repeat' constructor
 refine cS (fun qM=>?_) fun qM=>?_
 ·have qM:=of_decide_eq_true qM;rw[Lm] at qM;rw[if_pos (.inr qM)] at oq;refine aEk [] ?_;rw[hL] at oq;rw[oq];refine Ei [] ?_
  repeat' constructor
 have Gx:=of_decide_eq_false Gx;have qM:=of_decide_eq_false qM;rw[Lm] at qM;obtain⟨k,rfl⟩:∃ k:Nat,p=k:=⟨p.toNat,by omega⟩
 have hk:k < s.aw.length:=by omega
 rw[if_neg (by omega),Int.toNat_natCast,ag hk] at oq;obtain⟨e1,e2,e3⟩:=Hq h (aH hk);refine aEk [] (cS (fun Fa=>?_) fun Fa=>?_)
 ·have hl:bY s z k=s.aw[k].hand:=by rw[oq];exact(if_pos Fa)
  refine aEk [] (Ei k (Ei (s.aw[k].enc) (Ai rfl (Ai (aK _ _ k hk) ?_))));refine cR (mW _ (cD _ _ _ e1)) ⟨rfl,ea⟩ ?_;rw[hL] at hl;rw[hl];refine Ei [(0,3200)] ?_
  repeat' constructor
 refine aEk [] (cS (fun Gw=>?_) fun Gw=>?_)
 ·have hl:bY s z k=s.aw[k].dt:=by rw[oq];exact(if_neg (by rw[Fa];decide)).trans ((if_pos Gw))
  refine aEk [] (Ei k (Ei (s.aw[k].enc) (Ai rfl (Ai (aK _ _ k hk) ?_))));refine cR (mW _ (cD _ _ _ e2)) ⟨rfl,ea⟩ ?_;rw[hL] at hl;rw[hl];refine Ei [(0,3456)] ?_
  repeat' constructor
 refine aEk [] (cS (fun QW=>?_) fun QW=>?_)
 ·have hl:bY s z k=s.aw[k].dO:=by rw[oq];exact(if_neg (by rw[Fa];decide)).trans ((if_neg (by rw[Gw];decide)).trans ((if_pos QW)))
  refine aEk [] (Ei k (Ei (s.aw[k].enc) (Ai rfl (Ai (aK _ _ k hk) ?_))));refine cR (mW _ (cD _ _ _ e3)) ⟨rfl,ea⟩ ?_;rw[hL] at hl;rw[hl];refine Ei [(0,3712)] ?_
  repeat' constructor
 have hl:bY s z k=[]:=by rw[oq];exact(if_neg (by rw[Fa];decide)).trans ((if_neg (by rw[Gw];decide)).trans (if_neg (by rw[QW];decide)))
 refine aEk [] ?_;rw[hL] at hl;rw[hl];refine Ei [] ?_
 repeat' constructor
theorem vu {α:Type}(l:List α)(f:α->List Tr)(i:Nat)(x:α):(l.map f).set i (f x)=(l.set i x).map f:=by
 induction l generalizing i with
 | nil=>rfl
 | cons y l ih=>cases i with
  | zero=>rfl
  | succ i=>exact congrArg (_ :: ·) (ih i)
theorem Uv (l:List az)(o:az)(i:Nat)(h:l.findIdx? (fun x=>x.id==o.id)=some i):ql l o=l.set i o:=by
 unfold ql;rw[h]
theorem PH (l:List az)(o:az)(k:Nat)(h:l.findIdx? (fun x=>x.id==o.id)=none)(hk:k<=l.length)(h1:∀ j (h:j < l.length),j < k->decide (l[j].id < o.id)=true)(h2:k=l.length\/∃ h:k < l.length,decide (l[k].id < o.id)=false):ql l o=l.take k++[o]++l.drop k:=by
 unfold ql;rw[h];show MJ l o=_;unfold MJ;rw[mw _ l k hk h1 h2]
theorem kn (s:aq)(o:az)(h:s.ok):Ct ae 110 [.agg (s.enc.map .t),.agg (o.enc.map .t)] (.agg (((fm s o).enc.map .t).set 2 (.row 0 0))) [⟨3,1,0,s.bu.map eI,none⟩] false:=by
 have ho:s.aa.length*128<=aV:=h.2.2.1;have hp:=wP s o.id ho;unfold qm at hp;unfold fm;generalize hL:ql s.aa o=L;rcases jb (fun x:az=>x.id==o.id) s.aa with⟨e1,e2,_⟩|⟨i,hi,e1,e2,_⟩
 ·revert hp;generalize kQ (fun x:az=>x.id==o.id) s.aa=v at e1;intro hp;refine cT Tryz.func110 rfl (by kernel_rfl) rfl fun w0 O _=>aEk [4,6,9,10,11,12] ?_;refine cR (iD s h) ⟨fL s.enc,ea⟩ ?_;refine cF hp ⟨?_,rfl,ea⟩ ?_
  ·repeat' constructor
  refine cS (fun h=>by have:=of_decide_eq_true h;omega) fun _=>?_;refine aEk [] (aEm (fun k:Nat=>⟨[(3,.ptr 128 0),(4,.ptr 256 0),(5,.ptr 640 0),(7,aEn k)],[(128,o.enc.map .t),(256,List.replicate 19 .bot),(640,(s.enc.map .t).set 2 (.row 9000 0))],[(9000,⟨3,1,0,s.bu.map eI,none⟩)],10000⟩) (fun k=>k<=s.aa.length/\∀ j (h:j < s.aa.length),j < k->decide (s.aa[j].id < o.id)=true) (fun k=>s.aa.length - k) 0 ?_ ⟨aA _,fun j _ h=>by omega⟩ ?_)
  ·refine ba [(9000,514)] rfl rfl ?_ ?_ ?_
   repeat' constructor
  rintro k ⟨hk,fk⟩;have after:(k=s.aa.length\/∃ h:k < s.aa.length,decide (s.aa[k].id < o.id)=false)->L=s.aa.take k++[o]++s.aa.drop k:=fun hx=>by rw[<- hL];exact PH _ o k e2 hk fk hx
  have hb:∀ n,n<=s.aa.length+1->n*128<=140737488355328/\n < 140737488355328:=fun n hn=>by unfold aV at ho;omega
  refine aEk [8] (cS (fun h=>?_) fun h=>?_)
  ·have aU:=cJ h;refine Ei k (Ei (s.aa[k].enc) (Ai rfl (Ai (aK _ _ k aU) ?_)));refine cS (fun h=>?_) fun h=>?_
   ·refine aEk [] (Ei (k+1) (Ai ⟨by omega,fun j hj Am=>?_⟩ (Ai (show s.aa.length - (k+1) < s.aa.length - k by omega) ?_)))
    ·by_cases e:j=k
     ·subst e;exact h
     ·exact fk j hj (by omega)
    refine ba [(9000,9000)] rfl rfl ?_ ?_ ?_
    ·repeat' constructor
     exact cZ k aU 128 (by decide) ho
    repeat' constructor
   ·have hl:=after (.inr ⟨aU,h⟩);refine aEk [10,11,12] (Ei 0 (Ei k (Ai rfl (Ai rfl (Ai (aA _) (Ai ?_ ?_))))))
    ·rw[Lm];exact hk
    refine Ai (.inl rfl) (Ai (hb _ (by simp only[Lm,au,aO,bM];omega)).1 (Ai (hb _ (by simp only[Lm,au,aO,bM];omega)).2 ?_));refine aEk [] (Ai (.inl rfl) (Ai (hb _ (by simp only[Lm,au,aO,al,bM,aZ];omega)).1 (Ai (hb _ (by simp only[Lm,au,aO,al,bM,aZ];omega)).2 ?_)));refine aEk [] (Ei k (Ei s.aa.length (Ai rfl (Ai ?_ (Ai hk (Ai ?_ ?_))))))
    ·exact(Lm _).symm
    ·rw[Lm];exact ak _
    refine Ai (.inl rfl) (Ai (hb _ (by simp only[Lm,au,aO,al,bM,aZ];omega)).1 (Ai (hb _ (by simp only[Lm,au,aO,al,bM,aZ];omega)).2 ?_));refine aEk [] (Ei [(0,9000)] ?_)
    repeat' constructor
    rw[hl,aQ,aQ,List.map_take,List.map_drop,List.drop_zero,List.take_of_length_le (l:=(s.aa.map az.enc)) (i:=s.aa.length) (by rw[Lm];exact ak _)];rfl
  ·have fp:=dM h hk;have hl:=after (.inl fp);refine aEk [10,11,12] (Ei 0 (Ei k (Ai rfl (Ai rfl (Ai (aA _) (Ai ?_ ?_))))))
   ·rw[Lm];exact hk
   refine Ai (.inl rfl) (Ai (hb _ (by simp only[Lm,au,aO,bM];omega)).1 (Ai (hb _ (by simp only[Lm,au,aO,bM];omega)).2 ?_));refine aEk [] (Ai (.inl rfl) (Ai (hb _ (by simp only[Lm,au,aO,al,bM,aZ];omega)).1 (Ai (hb _ (by simp only[Lm,au,aO,al,bM,aZ];omega)).2 ?_)));refine aEk [] (Ei k (Ei s.aa.length (Ai rfl (Ai ?_ (Ai hk (Ai ?_ ?_))))))
   ·exact(Lm _).symm
   ·rw[Lm];exact ak _
   refine Ai (.inl rfl) (Ai (hb _ (by simp only[Lm,au,aO,al,bM,aZ];omega)).1 (Ai (hb _ (by simp only[Lm,au,aO,al,bM,aZ];omega)).2 ?_));refine aEk [] (Ei [(0,9000)] ?_)
   repeat' constructor
   rw[hl,aQ,aQ,List.map_take,List.map_drop,List.drop_zero,List.take_of_length_le (l:=(s.aa.map az.enc)) (i:=s.aa.length) (by rw[Lm];exact ak _)];rfl
 ·revert hp;generalize kQ (fun x:az=>x.id==o.id) s.aa=v at e1;intro hp;rw[Uv _ _ _ e2] at hL;refine cT Tryz.func110 rfl (by kernel_rfl) rfl fun w0 O _=>aEk [4,6,9,10,11,12] ?_;refine cR (iD s h) ⟨fL s.enc,ea⟩ ?_;refine cF hp ⟨?_,rfl,ea⟩ ?_
  ·repeat' constructor
  refine cS (fun _=>?_) (fun h=>by have:=of_decide_eq_false h;omega);subst e1;refine aEk [] (Ei i (Ai rfl (Ai (by rw[Lm];exact hi) ?_)));refine Ei (s.aa[i].enc) (Ai (aK _ _ i hi) (Ai (ak _) ?_));refine Ei [(0,514)] ?_
  repeat' constructor
  rw[<- hL];exact congrArg (Tr.sl 19) (vu s.aa az.enc i o).symm
theorem GW (s:aq)(z p:Int)(l:List Int)(h:s.ok)(hl:l.length*8 < 140737488355328):Ct ae 165 [.agg (s.enc.map .t),.c (.t (iv z)),.c (.t (iv p)),.c (.t (.sl 1 (l.map eI)))] (.agg ((fA s z p l).enc.map .t)) [] false:=by
 generalize hS:fA s z p l=S;refine cT Tryz.func165 rfl (by kernel_rfl) rfl fun w0 O _=>aEk [4,5,6,7,8,9,10,11,13,14,15,16,17,18] ?_;refine cR (iD s h) ⟨fL s.enc,ea⟩ ?_;refine cS (fun Df=>?_) fun Df=>?_
 ·have qO:fA s z p l={ s with bu:=l }:=by unfold fA;rw[if_pos Df]
  rw[hS] at qO;subst qO;refine aEk [5,8] (cR (oS l hl) ⟨rfl,ea⟩ ?_);refine aEk [] (Ei [] ?_)
  repeat' constructor
 refine aEk [] (cS (fun QV=>?_) fun QV=>?_)
 ·have qO:fA s z p l={ s with fQ:=l }:=by unfold fA;rw[if_neg (by rw[Df];decide),if_pos QV]
  rw[hS] at qO;subst qO;refine aEk [5,8] (cR (oS l hl) ⟨rfl,ea⟩ ?_);refine aEk [] (Ei [] ?_)
  repeat' constructor
 refine aEk [10,11] ?_
 have oq:fA s z p l=if p < 0\/(s.aw.length:Int)<=p then s else match s.aw[p.toNat]? with
  | some q=>{ s with aw:=s.aw.set p.toNat (nE q z l) }
  | none=>s:=by unfold fA;rw[if_neg (by rw[Df];decide),if_neg (by rw[QV];decide)] <;> rfl
 refine cS (fun Gx=>?_) fun Gx=>?_
 ·rw[if_pos (.inl (of_decide_eq_true Gx)),hS] at oq;subst oq;refine aEk [] (Ei [] ?_)
  repeat' constructor
 refine cS (fun qM=>?_) fun qM=>?_
 ·have qM:=of_decide_eq_true qM;rw[Lm] at qM;rw[if_pos (.inr qM),hS] at oq;subst oq;refine aEk [] (Ei [] ?_)
  repeat' constructor
 have Gx:=of_decide_eq_false Gx;have qM:=of_decide_eq_false qM;rw[Lm] at qM;obtain⟨k,rfl⟩:∃ k:Nat,p=k:=⟨p.toNat,by omega⟩
 have hk:k < s.aw.length:=by omega
 rw[if_neg (by omega),Int.toNat_natCast,ag hk,hS] at oq;change S={ s with aw:=s.aw.set k (nE s.aw[k] z l) } at oq;refine aEk [13,14] (cS (fun Fa=>?_) fun Fa=>?_)
 ·have hq:nE s.aw[k] z l={ s.aw[k] with hand:=l }:=by unfold nE;rw[if_pos Fa]
  rw[hq] at oq;subst oq;refine aEk [18] (cR (oS l hl) ⟨rfl,ea⟩ ?_);refine Ei k (Ai rfl (Ai (by rw[Lm];exact hk) ?_));refine Ei (s.aw[k].enc) (Ai (aK _ _ k hk) (Ai (Nb rfl) ?_));refine aEk [] (Ei [] ?_)
  repeat' constructor
  exact congrArg (Tr.sl 14) (vu s.aw bO.enc k { s.aw[k] with hand:=l }).symm
 refine aEk [] (cS (fun Gw=>?_) fun Gw=>?_)
 ·have hq:nE s.aw[k] z l={ s.aw[k] with dt:=l }:=by unfold nE;rw[if_neg (by rw[Fa];decide),if_pos Gw]
  rw[hq] at oq;subst oq;refine aEk [18] (cR (oS l hl) ⟨rfl,ea⟩ ?_);refine Ei k (Ai rfl (Ai (by rw[Lm];exact hk) ?_));refine Ei (s.aw[k].enc) (Ai (aK _ _ k hk) (Ai (Nb rfl) ?_));refine aEk [] (Ei [] ?_)
  repeat' constructor
  exact congrArg (Tr.sl 14) (vu s.aw bO.enc k { s.aw[k] with dt:=l }).symm
 refine aEk [] (cS (fun QW=>?_) fun QW=>?_)
 ·have hq:nE s.aw[k] z l={ s.aw[k] with dO:=l }:=by unfold nE;rw[if_neg (by rw[Fa];decide),if_neg (by rw[Gw];decide),if_pos QW]
  rw[hq] at oq;subst oq;refine aEk [18] (cR (oS l hl) ⟨rfl,ea⟩ ?_);refine Ei k (Ai rfl (Ai (by rw[Lm];exact hk) ?_));refine Ei (s.aw[k].enc) (Ai (aK _ _ k hk) (Ai (Nb rfl) ?_));refine aEk [] (Ei [] ?_)
  repeat' constructor
  exact congrArg (Tr.sl 14) (vu s.aw bO.enc k { s.aw[k] with dO:=l }).symm
 have hq:nE s.aw[k] z l=s.aw[k]:=by unfold nE;rw[if_neg (by rw[Fa];decide),if_neg (by rw[Gw];decide),if_neg (by rw[QW];decide)]
 rw[hq,List.set_getElem_self] at oq;subst oq;refine aEk [] (Ei [] ?_)
 repeat' constructor
theorem Qa (id ee bK z dG:Int):Ct ae 169 [.c (.t (iv id)),.c (.t (iv ee)),.c (.t (iv bK)),.c (.t (iv z)),.c (.t (iv dG))] (.agg ((rM id ee bK z dG).enc.map .t)) [] false:=by
 refine cT Tryz.func169 rfl (by kernel_rfl) rfl fun w0 O _=>aEk [] ?_;refine Ei [] ?_
 repeat' constructor
def tQ (x:az)(id z p dG:Int):az:={ rM id x.ee x.dq z dG with token:=x.token,dB:=if z==0||z==5 then p else x.dq,qh:=z==0 }
theorem Qf (x:az)(id z p dG:Int):Ct ae 164 [.agg (x.enc.map .t),.c (.t (iv id)),.c (.t (iv z)),.c (.t (iv p)),.c (.t (iv dG))] (.agg ((tQ x id z p dG).enc.map .t)) [] false:=by
 generalize hM:tQ x id z p dG=M;refine cT Tryz.func164 rfl (by kernel_rfl) rfl fun w0 O _=>aEk [4,5] ?_;refine cR (Qa id x.ee x.dq z dG) ⟨rfl,rfl,rfl,rfl,rfl,ea⟩ ?_;refine cS (fun h0=>?_) fun h0=>?_
 ·have sq:M={ rM id x.ee x.dq z dG with token:=x.token,dB:=p,qh:=z==0 }:=by rw[<- hM];unfold tQ;rw[if_pos (by rw[show(z==0)=true from h0];rfl)]
  subst sq;refine aEk [5] (aEk [] (Ei [] ?_))
  repeat' constructor
 refine cS (fun h5=>?_) fun h5=>?_
 ·have sq:M={ rM id x.ee x.dq z dG with token:=x.token,dB:=p,qh:=z==0 }:=by rw[<- hM];unfold tQ;rw[if_pos (by rw[show(z==5)=true from h5,Bool.or_true])]
  subst sq;refine aEk [5] (aEk [] (Ei [] ?_))
  repeat' constructor
 have sq:M={ rM id x.ee x.dq z dG with token:=x.token,dB:=x.dq,qh:=z==0 }:=by rw[<- hM];unfold tQ;rw[if_neg (by rw[show(z==5)=false from h5,show(z==0)=false from h0];decide)]
 subst sq;refine aEk [] (Ei [] ?_)
 repeat' constructor
theorem HS:([]:List Int).length*8<=aV:=by decide
theorem lG {s:aq}(h:s.ok)(z p:Int):(bY s z p).length*8<=aV:=by
 unfold bY;split
 ·exact h.2.2.2.2.1
 split
 ·exact h.2.2.2.2.2.1
 split
 ·exact HS
 split
 ·rename_i q hq;have:=Hq h (bc hq);split
  ·exact this.1
  split
  ·exact this.2.1
  split
  ·exact this.2.2
  ·exact HS
 ·exact HS
theorem BC (s:aq)(z p:Int)(l:List Int):(fA s z p l).aa=s.aa:=by
 unfold fA;split
 ·rfl
 split
 ·rfl
 split
 ·rfl
 split <;> rfl
theorem GX (s:aq)(z p:Int)(l:List Int):(fA s z p l).stack=s.stack:=by
 unfold fA;split
 ·rfl
 split
 ·rfl
 split
 ·rfl
 split <;> rfl
theorem TF {q:bO}(h:q.ok)(z:Int){l:List Int}(hl:l.length*8<=aV):(nE q z l).ok:=by
 unfold nE;split
 ·exact⟨h.1,hl,h.2.2⟩
 split
 ·exact⟨hl,h.2.1,h.2.2⟩
 split
 ·exact⟨h.1,h.2.1,hl⟩
 ·exact h
theorem TG {s:aq}(h:s.ok)(z p:Int){l:List Int}(hl:l.length*8<=aV):(fA s z p l).ok:=by
 obtain⟨h1,h2,h3,h4,h5,h6,h7⟩:=h;unfold fA;split
 ·exact⟨h1,h2,h3,h4,hl,h6,h7⟩
 split
 ·exact⟨h1,h2,h3,h4,h5,hl,h7⟩
 split
 ·exact⟨h1,h2,h3,h4,h5,h6,h7⟩
 split
 ·rename_i q hq;refine⟨by rw[bQ];exact h1,fun y hy=>?_,h3,h4,h5,h6,h7⟩;rcases List.mem_or_eq_of_mem_set hy with hy|rfl
  ·exact h2 y hy
  ·exact TF (h2 q (bc hq)) z hl
 ·exact⟨h1,h2,h3,h4,h5,h6,h7⟩
def kG (id:Int)(x:dW):Bool:=x.kind != 1||x.id != id
def lW (s:aq)(id:Int)(i:Nat)(o:az):aq:={ fA s o.cn o.dq ((bY s o.cn o.dq).filter fun i=>i != id) with aa:=s.aa.take i++s.aa.drop (i+1),stack:=s.stack.filter (kG id) }
theorem G3 (s:aq)(id:Int)(i:Nat)(h:s.ok)(hi:i < s.aa.length)(hp:qm s.aa id=i):Ct ae 163 [.agg (s.enc.map .t),.c (.t (iv id))] (.agg ((lW s id i s.aa[i]).enc.map .t)) [] false:=by
 have ho:s.aa.length*128<=aV:=h.2.2.1;have fu:s.stack.length*824<=aV:=h.2.2.2.2.2.2.1;have om:=wP s id ho;rw[hp] at om;unfold lW;have hlw:((bY s s.aa[i].cn s.aa[i].dq).filter fun i=>i != id).length*8<=aV:=aX (cy _ (cE _ _)) (lG h _ _);have Q0:=GW s s.aa[i].cn s.aa[i].dq ((bY s s.aa[i].cn s.aa[i].dq).filter fun i=>i != id) h (Nat.lt_of_le_of_lt hlw (by decide));have XO:=BC s s.aa[i].cn s.aa[i].dq ((bY s s.aa[i].cn s.aa[i].dq).filter fun i=>i != id);have hSs:=GX s s.aa[i].cn s.aa[i].dq ((bY s s.aa[i].cn s.aa[i].dq).filter fun i=>i != id);generalize fA s s.aa[i].cn s.aa[i].dq ((bY s s.aa[i].cn s.aa[i].dq).filter fun i=>i != id)=S at Q0 XO hSs;have hb:∀ n,n<=s.aa.length+1->n*128<=140737488355328/\n < 140737488355328:=fun n hn=>by unfold aV at ho;omega
 refine cT Tryz.func163 rfl (by kernel_rfl) rfl fun w0 O _=>aEk [3,4,5,6,11,9,12,13] ?_;refine cR om ⟨fL s.enc,rfl,ea⟩ ?_;refine Ei i (Ei (s.aa[i].enc) (Ai rfl (Ai (aK _ _ i hi) ?_)));refine aEk [4] (cR (Kn s s.aa[i].cn s.aa[i].dq h) ⟨fL s.enc,rfl,rfl,ea⟩ ?_);refine cR (GC _ id (lG h _ _)) ⟨rfl,rfl,ea⟩ ?_;refine cR Q0 ⟨fL s.enc,rfl,rfl,rfl,ea⟩ ?_;refine aEk [5] (Ei 0 (Ei i (Ai rfl (Ai rfl (Ai (aA _) (Ai ?_ ?_))))))
 ·rw[Lm,XO];exact db hi
 refine Ai (.inl rfl) (Ai (hb _ (by simp only[Lm,au,aO,bM,XO];omega)).1 (Ai (hb _ (by simp only[Lm,au,aO,bM,XO];omega)).2 ?_));refine aEk [6] (Ei (i+1) (Ei S.aa.length (Ai (jQ i (by unfold aV at ho;omega)) (Ai ?_ (Ai ?_ (Ai ?_ ?_))))))
 ·exact(Lm _).symm
 ·rw[XO];exact hi
 ·rw[Lm];exact ak _
 refine Ai (.inl rfl) (Ai (hb _ (by simp only[Lm,au,aO,al,bM,XO];omega)).1 (Ai (hb _ (by simp only[Lm,au,aO,al,bM,XO];omega)).2 ?_));refine aEk [] ?_;have pQ:S.stack.length*824<=aV:=by rw[hSs];exact fu
 refine aEm (fun k:Nat=>⟨[(1,.c (.t (iv id))),(4,.ptr 128 0),(7,.ptr 3456 0),(9,.c (.row 9000 0)),(10,aEn k)],[(128,List.replicate 19 .bot),(3456,({ S with aa:=s.aa.take i++s.aa.drop (i+1) }:aq).enc.map .t)],[(9000,⟨176,94,0,((S.stack.take k).filter (kG id)).map dW.enc,none⟩)],10000⟩) (fun k=>k<=S.stack.length) (fun k=>S.stack.length - k) 0 ?_ (aA _) ?_
 ·refine ba [] rfl rfl ?_ ?_ ?_
  repeat' constructor
  rw[XO];simp only[aQ,List.map_take,List.map_drop,List.drop_zero,bE];rw[List.take_of_length_le (l:=s.aa.map az.enc) (i:=s.aa.length) (by rw[Lm];exact ak _)];exact rfl
 rintro k hk;have si:((S.stack.take k).filter (kG id)).length<=k:=aX (cE _ _) (by rw[au];omega);refine aEk [10,11,9] (cS (fun h=>?_) fun h=>?_)
 ·have aU:k < S.stack.length:=cJ h;have Dg:S.stack.take (k+1)=S.stack.take k++[S.stack[k]]:=by rw[List.take_add_one,ag aU];rfl
  refine aEk [] (Ei k (Ei (S.stack[k].enc) (Ai rfl (Ai (aK _ _ k aU) ?_))));refine cS (fun h1=>?_) fun h1=>?_
  ·have oX:kG id S.stack[k]=true:=by unfold kG;rw[show(S.stack[k].kind != 1)=true from h1,Bool.true_or]
   refine aEk [] (Ei k (Ei (S.stack[k].enc) (Ai rfl (Ai (aK _ _ k aU) ?_))))
   have hbb:(((S.stack.take k).filter (kG id)).map dW.enc).length+[S.stack[k].enc].length<=S.stack.length+1:=by
    rw[Lm,aZ,bM];omega
   refine Ai (.inl rfl) (Ai (C5 hbb (db (dJ (by decide) pQ))) (Ai (ya hbb (by decide) (dJ (by decide) pQ)) ?_));refine aEk [] (Ei (k+1) (Ai (show k+1<=_ by omega) (Ai (show S.stack.length - (k+1) < S.stack.length - k by omega) ?_)));refine ba [(9000,9000)] rfl rfl ?_ ?_ ?_
   repeat' constructor
   exact cZ k aU 824 (by decide) pQ;rw[Dg,List.filter_append,aQ];simp only[List.filter_cons,oX,List.filter_nil];rfl
  refine Ei k (Ei (S.stack[k].enc) (Ai rfl (Ai (aK _ _ k aU) ?_)));refine cS (fun h2=>?_) fun h2=>?_
  ·have oX:kG id S.stack[k]=true:=by unfold kG;rw[show(S.stack[k].id != id)=true from h2,Bool.or_true]
   refine aEk [] (Ei k (Ei (S.stack[k].enc) (Ai rfl (Ai (aK _ _ k aU) ?_))))
   have hbb:(((S.stack.take k).filter (kG id)).map dW.enc).length+[S.stack[k].enc].length<=S.stack.length+1:=by
    rw[Lm,aZ,bM];omega
   refine Ai (.inl rfl) (Ai (C5 hbb (db (dJ (by decide) pQ))) (Ai (ya hbb (by decide) (dJ (by decide) pQ)) ?_));refine aEk [] (Ei (k+1) (Ai (show k+1<=_ by omega) (Ai (show S.stack.length - (k+1) < S.stack.length - k by omega) ?_)));refine ba [(9000,9000)] rfl rfl ?_ ?_ ?_
   repeat' constructor
   exact cZ k aU 824 (by decide) pQ;rw[Dg,List.filter_append,aQ];simp only[List.filter_cons,oX,List.filter_nil];rfl
  ·have oX:kG id S.stack[k]=false:=by unfold kG;rw[show(S.stack[k].kind != 1)=false from h1,show(S.stack[k].id != id)=false from h2];rfl
   refine aEk [] (Ei (k+1) (Ai (show k+1<=_ by omega) (Ai (show S.stack.length - (k+1) < S.stack.length - k by omega) ?_)));refine ba [(9000,9000)] rfl rfl ?_ ?_ ?_
   repeat' first|refine Ai ?_ ?_|exact rfl|exact⟨⟩|exact Ei _ rfl|refine cL ?_|refine bS ?_
   exact cZ k aU 824 (by decide) pQ;rw[Dg,List.filter_append,aQ];simp only[List.filter_cons,oX,List.filter_nil];simp
 ·have fp:k=S.stack.length:=dM h hk;subst fp;refine aEk [] (aEk [] (Ei [] ?_))
  repeat' constructor
  rw[bj,hSs];exact rfl
end
section
open Go Cg Go.RowKit Go.Shelf
theorem YI (a:Int)(b:Int)(c:Int):∃ r:Bool,(r=(eR a b c))/\Ct ae 41 [.c (.t (iv a)),.c (.t (iv b)),.c (.t (iv c))] (aEo r) [] true:=by
 refine cU (Φ:=fun (r:Bool)=>r=(eR a b c)) cO (cX Tryz.func41 rfl (by kernel_rfl) rfl (aEl [] [] ?_))
 repeat' (first|(apply bN <;> intro _)|(exact bo _ (Ei [] (Ai rfl (Ai ea rfl))) (by simp[eR, *]) rfl))
theorem D8 (a:Int)(b:Int)(c:Int):Ct ae 41 [.c (.t (iv a)),.c (.t (iv b)),.c (.t (iv c))] (aEo (eR a b c)) [] true:=by
 obtain⟨r,hr,h⟩:=YI a b c;rw[hr] at h;exact h
theorem LX (a:List Int)(b:Int)(ha:a.length*8<=aV):∃ r:Int,(r=(lp a b))/\Ct ae 153 [.c (.t (.sl 1 (a.map eI))),.c (.t (iv b))] (aEn r) [] true:=by
 refine cU (Φ:=fun (r:Int)=>r=(lp a b)) kF (cX Tryz.func153 rfl (by kernel_rfl) rfl (aEl [] [] ?_))
 repeat' (first|(apply pP;(iterate 2 first|assumption|omega|(simp only[bp,cK,aZ,bM];omega)|(simp only[Lm] at *;omega)|decide);intro _)|(apply bN <;> intro _)|(exact bo _ (Ei [] (Ai rfl (Ai ea rfl))) (Lv ‹_› ‹_›) rfl)|(apply dV 3 rfl;refine fM.up (β:=Int) 3 6 ((((a.map eI).length:Nat):Int)) (by first|omega|exact eO ‹_› rfl) (by omega) (fun p=>[(5,aEn p)]) (fun i (p:Int)=>p=((a.take i.toNat).count b:Nat)/\p<=i) [0,1] [] 200000 rfl ?_;refine Ai ?_ fun _ _ _ _ _=>aEl [] [] ?_)|exact Ei _ (Ai (by first|exact⟨rfl,Int.le_refl 0⟩|exact zo ‹_› ‹_› ‹_› ‹_› ‹_› ‹_› | exact zp ‹_› ‹_› ‹_› ‹_›) (bX rfl rfl rfl rfl))|exact Ai (by first|assumption|omega) (Ei _ (Ai (by first|exact⟨rfl,Int.le_refl 0⟩|exact zo ‹_› ‹_› ‹_› ‹_› ‹_› ‹_› | exact zp ‹_› ‹_› ‹_› ‹_›) (bX rfl rfl rfl rfl))))
theorem D5 (a:List Int)(b:Int)(ha:a.length*8<=aV):Ct ae 153 [.c (.t (.sl 1 (a.map eI))),.c (.t (iv b))] (aEn (lp a b)) [] true:=by
 obtain⟨r,hr,h⟩:=LX a b ha;rw[hr] at h;exact h
theorem zN (a:aq)(b:Int)(ha:a.aa.length*128<=aV):Ct ae 152 [.agg (a.enc.map .t),.c (.t (iv b))] (.gi [.agg ((cb a.aa b).enc.map .t),aEo (eh a.aa b)]) [] true:=by
 refine Ct.tV (b:=false) ?_ rfl;refine cT Tryz.func152 rfl (by kernel_rfl) rfl fun w0 O _=>aEk [] ?_;refine cF (fP a b ha) ⟨fL a.enc,rfl,ea⟩ ?_;refine Ei [] ?_
 repeat' constructor
theorem Pg (a:aq)(b:List Int)(c:Int)(d:Int)(ha:a.ok)(hb:b.length*8<=aV):∃ r:Bool,(r=(fJ a c d b))/\Ct ae 88 [.agg (a.enc.map .t),.c (.t (.sl 1 (b.map eI))),.c (.t (iv c)),.c (.t (iv d))] (aEo r) [] true:=by
 have lZ:=ha;obtain⟨w7,yk,yj,yi,Et,J3,Es,J2,J1,J0,w6,wZ,wY⟩:=lZ;refine cU (Φ:=fun (r:Bool)=>r=(fJ a c d b)) cO (cX Tryz.func88 rfl (by kernel_rfl) rfl (aEl [] [] ?_))
 repeat' (first|(apply pP;(iterate 2 first|assumption|omega|(simp only[bp,cK,aZ,bM];omega)|(simp only[Lm] at *;omega)|decide);intro _)|(apply bN <;> intro _)|(apply cQ <;> intro _)|apply cj|(apply cS <;> intro _)|(exact bo _ (Ei [] (Ai rfl (Ai ea rfl))) (by first|exact(yd (p:=fun id=>eh a.aa id&&((cb a.aa id).cn==c&&((!decide (d>=0)||(cb a.aa id).dq==d)&&lp b id==1))) ‹_› (by simp[*])).symm|exact(Up.WO (p:=fun id=>eh a.aa id&&((cb a.aa id).cn==c&&((!decide (d>=0)||(cb a.aa id).dq==d)&&lp b id==1))) ‹_› (by rwa [Lm] at *)).symm) rfl)|(apply dV 2 rfl;refine fM.up (β:=Unit) 2 9 ((((b.map eI).length:Nat):Int)) (by first|omega|exact eO ‹_› rfl) (by omega) (fun _=>[]) (fun i _=>Up (fun _=>fun id=>eh a.aa id&&((cb a.aa id).cn==c&&((!decide (d>=0)||(cb a.aa id).dq==d)&&lp b id==1))) b i) [1,2,3,4] [0] 200000 rfl ?_;refine Ai ?_ fun _ _ _ _ _=>aEl [] [] ?_)|exact Ei () (Ai (by first|exact Up.zero|exact Up.step ‹_› ‹_› ‹_› (by simp[*])) (bX rfl rfl rfl rfl))|exact Ai (by first|assumption|omega) (Ei () (Ai (by first|exact Up.zero|exact Up.step ‹_› ‹_› ‹_› (by simp[*])) (bX rfl rfl rfl rfl)))|(apply aT 152;refine cF (zN _ _ ‹_›) ⟨fL (aq.enc _),rfl,ea⟩ ?_)|(apply aT 153;refine cF (D5 _ _ ‹_›) ⟨rfl,rfl,ea⟩ ?_))
theorem T0 (a:aq)(b:List Int)(c:Int)(d:Int)(ha:a.ok)(hb:b.length*8<=aV):Ct ae 88 [.agg (a.enc.map .t),.c (.t (.sl 1 (b.map eI))),.c (.t (iv c)),.c (.t (iv d))] (aEo (fJ a c d b)) [] true:=by
 obtain⟨r,hr,h⟩:=Pg a b c d ha hb;rw[hr] at h;exact h
theorem Hg (a:aq)(b:Int)(ha:a.ok):∃ r:Bool,(r=(qn a b))/\Ct ae 43 [.agg (a.enc.map .t),.c (.t (iv b))] (aEo r) [] true:=by
 have lZ:=ha;obtain⟨w7,yk,yj,yi,Et,J3,Es,J2,J1,J0,w6,wZ,wY⟩:=lZ;refine cU (Φ:=fun (r:Bool)=>r=(qn a b)) cO (cX Tryz.func43 rfl (by kernel_rfl) rfl (aEl [] [] ?_))
 repeat' (first|(exact bo _ (Ei [] (Ai rfl (Ai ea rfl))) (by simp[qn,eR,zk w7 rfl]) rfl)|(apply aT 41;refine cF (D8 _ _ _) ⟨rfl,rfl,rfl,ea⟩ ?_))
theorem tH (a:aq)(b:Int)(ha:a.ok):Ct ae 43 [.agg (a.enc.map .t),.c (.t (iv b))] (aEo (qn a b)) [] true:=by
 obtain⟨r,hr,h⟩:=Hg a b ha;rw[hr] at h;exact h
theorem Mc (a0:Int)(a1:Int)(a2:Int)(a3:Int)(a4:Int)(a5:Int):∃ r:Bool,(r=(oG a0 a1 a2 a3 a4 a5))/\Ct ae 87 [.agg [.t (iv a0),.t (iv a1),.t (iv a2),.t (iv a3),.t (iv a4),.t (iv a5)]] (aEo r) [] true:=by
 refine cU (Φ:=fun (r:Bool)=>r=(oG a0 a1 a2 a3 a4 a5)) cO (cX Tryz.func87 rfl (by kernel_rfl) rfl (aEl [] [] ?_))
 repeat' (first|(apply bN <;> intro _)|(exact bo _ (Ei [] (Ai rfl (Ai ea rfl))) (by simp[oG, *]) rfl)|(apply dV 2 rfl;refine fM.one 2 rfl (aEl [] [] ?_))|(apply rZ;(iterate 2 first|assumption|omega|(simp only[bp];omega)|(simp only[Lm] at *;omega)|decide);intro _))
theorem PA (a0:Int)(a1:Int)(a2:Int)(a3:Int)(a4:Int)(a5:Int):Ct ae 87 [.agg [.t (iv a0),.t (iv a1),.t (iv a2),.t (iv a3),.t (iv a4),.t (iv a5)]] (aEo (oG a0 a1 a2 a3 a4 a5)) [] true:=by
 obtain⟨r,hr,h⟩:=Mc a0 a1 a2 a3 a4 a5;rw[hr] at h;exact h
theorem YQ (a0:Int)(a1:Int)(a2:Int):∃ r:Bool,(r=(Ax a0 a1 a2))/\Ct ae 154 [.agg [.t (iv a0),.t (iv a1),.t (iv a2)]] (aEo r) [] true:=by
 refine cU (Φ:=fun (r:Bool)=>r=(Ax a0 a1 a2)) cO (cX Tryz.func154 rfl (by kernel_rfl) rfl (aEl [] [] ?_))
 repeat' (first|(apply bN <;> intro _)|(exact bo _ (Ei [] (Ai rfl (Ai ea rfl))) (by simp[Ax, *]) rfl)|(apply dV 2 rfl;refine fM.one 2 rfl (aEl [] [] ?_))|(apply rZ;(iterate 2 first|assumption|omega|(simp only[bp];omega)|(simp only[Lm] at *;omega)|decide);intro _))
theorem agT (a0:Int)(a1:Int)(a2:Int):Ct ae 154 [.agg [.t (iv a0),.t (iv a1),.t (iv a2)]] (aEo (Ax a0 a1 a2)) [] true:=by
 obtain⟨r,hr,h⟩:=YQ a0 a1 a2;rw[hr] at h;exact h
theorem He (a:aq)(b:Int)(ha:a.ok):∃ r:Int,(r=(rp a b))/\Ct ae 157 [.agg (a.enc.map .t),.c (.t (iv b))] (aEn r) [] true:=by
 have lZ:=ha;obtain⟨w7,yk,yj,yi,Et,J3,Es,J2,J1,J0,w6,wZ,wY⟩:=lZ;refine cU (Φ:=fun (r:Int)=>r=(rp a b)) kF (cX Tryz.func157 rfl (by kernel_rfl) rfl (aEl [] [] ?_))
 repeat' (first|(apply pP;(iterate 2 first|assumption|omega|(simp only[bp,cK,aZ,bM];omega)|(simp only[Lm] at *;omega)|decide);intro _)|(apply bN <;> intro _)|(exact bo _ (Ei [] (Ai rfl (Ai ea rfl))) (Sb ‹_› ‹_›) rfl)|(apply dV 3 rfl;refine fM.up (β:=Int) 3 6 ((((a.stack.map dW.enc).length:Nat):Int)) (by first|omega|exact eO ‹_› rfl) (by omega) (fun p=>[(5,aEn p)]) (fun i (p:Int)=>p=((a.stack.take i.toNat).countP (fun x=>x.kind==1&&x.id==b):Nat)/\p<=i) [1,2] [0] 200000 rfl ?_;refine Ai ?_ fun _ _ _ _ _=>aEl [] [] ?_)|exact Ei _ (Ai (by first|exact⟨rfl,Int.le_refl 0⟩|exact FR ‹_› ‹_› Es rfl ‹_› ‹_› (by simp[*])|exact FT ‹_› ‹_› ‹_› (by simp[*])) (bX rfl rfl rfl rfl))|exact Ai (by first|assumption|omega) (Ei _ (Ai (by first|exact⟨rfl,Int.le_refl 0⟩|exact FR ‹_› ‹_› Es rfl ‹_› ‹_› (by simp[*])|exact FT ‹_› ‹_› ‹_› (by simp[*])) (bX rfl rfl rfl rfl))))
theorem LZ (a:aq)(b:Int)(ha:a.ok):Ct ae 157 [.agg (a.enc.map .t),.c (.t (iv b))] (aEn (rp a b)) [] true:=by
 obtain⟨r,hr,h⟩:=He a b ha;rw[hr] at h;exact h
theorem Pk (a:az):∃ r:az,(r=(F2 a))/\Ct ae 155 [.agg (a.enc.map .t)] ((fun r=>.agg (r.enc.map .t)) r) [] true:=by
 refine cU (Φ:=fun (r:az)=>r=(F2 a)) (fun _=>rfl) (cX Tryz.func155 rfl (by kernel_rfl) rfl (aEl [] [] ?_))
 repeat' (first|(refine bo (F2 a) (Ei [] (Ai rfl (Ai ea ?_))) rfl rfl;(repeat' first|refine Ai ?_ ?_|exact rfl|exact⟨⟩|exact Ei _ rfl|refine cL ?_|refine bS ?_);done))
theorem T2 (a:az):Ct ae 155 [.agg (a.enc.map .t)] (.agg ((F2 a).enc.map .t)) [] true:=by
 obtain⟨r,hr,h⟩:=Pk a;rw[hr] at h;exact h
theorem L4 (a:az):∃ r:az,(r=(xM a))/\Ct ae 156 [.agg (a.enc.map .t)] ((fun r=>.agg (r.enc.map .t)) r) [] true:=by
 refine cU (Φ:=fun (r:az)=>r=(xM a)) (fun _=>rfl) (cX Tryz.func156 rfl (by kernel_rfl) rfl (aEl [] [] ?_))
 repeat' (first|(refine bo (xM a) (Ei [] (Ai rfl (Ai ea ?_))) rfl rfl;(repeat' first|refine Ai ?_ ?_|exact rfl|exact⟨⟩|exact Ei _ rfl|refine cL ?_|refine bS ?_);done))
theorem Pj (a:az):Ct ae 156 [.agg (a.enc.map .t)] (.agg ((xM a).enc.map .t)) [] true:=by
 obtain⟨r,hr,h⟩:=L4 a;rw[hr] at h;exact h
theorem YJ (a:az)(b:Int)(c:Int):∃ r:Bool,(r=(mh a b c))/\Ct ae 89 [.agg (a.enc.map .t),.c (.t (iv b)),.c (.t (iv c))] (aEo r) [] true:=by
 refine cU (Φ:=fun (r:Bool)=>r=(mh a b c)) cO (cX Tryz.func89 rfl (by kernel_rfl) rfl (aEl [] [] ?_))
 repeat' (first|(apply bN <;> intro _)|apply cj|(apply cS <;> intro _)|(exact bo _ (Ei [] (Ai rfl (Ai ea rfl))) (by simp[mh,wy, *] <;> simp_all[eV,rR,F2,xM]) rfl)|(apply aT 154;refine cF (agT _ _ _) ⟨⟨rfl,rfl,rfl,ea⟩,ea⟩ ?_)|(apply aT 155;refine cF (T2 _) ⟨fL (az.enc _),ea⟩ ?_)|(apply aT 156;refine cF (Pj _) ⟨fL (az.enc _),ea⟩ ?_))
theorem agL (a:az)(b:Int)(c:Int):Ct ae 89 [.agg (a.enc.map .t),.c (.t (iv b)),.c (.t (iv c))] (aEo (mh a b c)) [] true:=by
 obtain⟨r,hr,h⟩:=YJ a b c;rw[hr] at h;exact h
theorem Hh (a:aq)(b:az)(ha:a.ok):∃ r:Bool,(r=(iK a b))/\Ct ae 90 [.agg (a.enc.map .t),.agg (b.enc.map .t)] (aEo r) [] true:=by
 have lZ:=ha;obtain⟨w7,yk,yj,yi,Et,J3,Es,J2,J1,J0,w6,wZ,wY⟩:=lZ;refine cU (Φ:=fun (r:Bool)=>r=(iK a b)) cO (cX Tryz.func90 rfl (by kernel_rfl) rfl (aEl [] [] ?_))
 repeat' (first|(apply bN <;> intro _)|(exact bo _ (Ei [] (Ai rfl (Ai ea rfl))) (by simp[iK, *]) rfl)|(apply aT 157;refine cF (LZ _ _ (by first|assumption|exact ku ‹_› ‹_› | exact eF _ ‹_› | exact lG ‹_› _ _)) ⟨fL (aq.enc _),rfl,ea⟩ ?_)|(apply aT 158;refine cR (Kn _ _ _ (by first|assumption|exact ku ‹_› ‹_› | exact eF _ ‹_› | exact lG ‹_› _ _)) ⟨fL (aq.enc _),rfl,rfl,ea⟩ ?_)|(apply aT 153;refine cF (D5 _ _ (by first|assumption|exact ku ‹_› ‹_› | exact eF _ ‹_› | exact lG ‹_› _ _)) ⟨rfl,rfl,ea⟩ ?_))
theorem L3 (a:aq)(b:az)(ha:a.ok):Ct ae 90 [.agg (a.enc.map .t),.agg (b.enc.map .t)] (aEo (iK a b)) [] true:=by
 obtain⟨r,hr,h⟩:=Hh a b ha;rw[hr] at h;exact h
theorem D7 (a:List bd)(b:aq)(_ha:a.length*176<=aV)(_ma:∀ y∈a,bd.ok y)(hb:b.ok):∃ r:Bool,(r=(kv ((a.length:Nat):Int) b))/\Ct ae 44 [.c (.t (.sl 17 (a.map bd.enc))),.agg (b.enc.map .t)] (aEo r) [] true:=by
 have Fg:=hb;obtain⟨Xj,Xi,Xh,Xg,ob4,ob5,ob6,ob7,ob8,ob9,ahG,ahF,ahE⟩:=Fg;refine cU (Φ:=fun (r:Bool)=>r=(kv ((a.length:Nat):Int) b)) cO (cX Tryz.func44 rfl (by kernel_rfl) rfl (aEl [] [] ?_))
 repeat' (first|(apply Ku nz 128 ‹_› rfl ‹_› ‹_›;intro _)|(apply pP;(iterate 2 first|assumption|omega|(simp only[bp,cK,aZ,bM];omega)|(simp only[Lm] at *;omega)|decide);intro _)|(apply bN <;> intro _)|apply cj|(apply cS <;> intro _)|(exact bo _ (Ei [] (Ai rfl (Ai ea rfl))) (by first|(simp[kv, *];done)|((try simp only[Lm] at *);simp[kv, *];done)|exact UT ‹_› ‹_› (by first|exact P3 ‹_› | exact P2 ‹_› | exact P1 ‹_› | exact P0 ‹_› ‹_› | exact PZ ‹_›)|exact PX ‹_› ‹_› ‹_›) rfl)|(apply dV 4 rfl;refine fM.up (β:=Unit) 4 5 ((((b.aa.map az.enc).length:Nat):Int)) (by first|omega|exact eO ‹_› rfl) (by omega) (fun _=>[]) (fun i _=>Up (jB ((a.length:Nat):Int) b) b.aa i) [0,3] [0] 200000 rfl ?_;refine Ai ?_ fun _ _ _ _ _=>aEl [] [] ?_)|exact Ei () (Ai (by first|exact Up.zero|exact Up.step ‹_› ‹_› ‹_› (zY ‹_› ‹_› ‹_› (by first|exact .inl (by omega)|exact .inr ‹_›) ‹_›)) (bX rfl rfl rfl rfl))|exact Ai (by first|assumption|omega) (Ei () (Ai (by first|exact Up.zero|exact Up.step ‹_› ‹_› ‹_› (zY ‹_› ‹_› ‹_› (by first|exact .inl (by omega)|exact .inr ‹_›) ‹_›)) (bX rfl rfl rfl rfl)))|(apply aT 89;refine cF (agL _ _ _) ⟨fL (az.enc _),rfl,rfl,ea⟩ ?_)|(apply aT 90;refine cF (L3 _ _ ‹_›) ⟨fL (aq.enc _),fL (az.enc _),ea⟩ ?_))
theorem Hi (a:List bd)(b:aq)(ha:a.length*176<=aV)(ma:∀ y∈a,bd.ok y)(hb:b.ok):Ct ae 44 [.c (.t (.sl 17 (a.map bd.enc))),.agg (b.enc.map .t)] (aEo (kv ((a.length:Nat):Int) b)) [] true:=by
 obtain⟨r,hr,h⟩:=D7 a b ha ma hb;rw[hr] at h;exact h
theorem D6 (a:aq)(ha:a.ok):∃ r:Bool,(r=(fw a))/\Ct ae 42 [.agg (a.enc.map .t)] (aEo r) [] true:=by
 have lZ:=ha;obtain⟨w7,yk,yj,yi,Et,J3,Es,J2,J1,J0,w6,wZ,wY⟩:=lZ;refine cU (Φ:=fun (r:Bool)=>r=(fw a)) cO (cX Tryz.func42 rfl (by kernel_rfl) rfl (aEl [] [] ?_))
 repeat' (first|(apply pP;(iterate 2 first|assumption|omega|(simp only[bp,cK,aZ,bM];omega)|(simp only[Lm] at *;omega)|decide);intro _)|(apply bN <;> intro _)|apply cj|(apply cS <;> intro _)|(exact bo _ (Ei [] (Ai rfl (Ai ea rfl))) (by first|exact UD ‹_› | exact UC ‹_› (by rw[wM ‹_›];simp[*])|exact PM ‹_› ‹_› ‹_› (by simp[*])) rfl)|(apply dV 4 rfl;refine fM.up (β:=Unit) 4 3 ((((a.aw.map bO.enc).length:Nat):Int)) (by first|omega|exact eO (by first|assumption|exact ku ‹_› ‹_› | exact eF _ ‹_› | exact bO.qq (eF _ ‹_›)|exact bO.BX (eF _ ‹_›)|exact bO.nN (eF _ ‹_›)) rfl) (by omega) (fun _=>[]) (fun i _=>Up (uK a) a.aw i) [1] [0] 200000 rfl ?_;refine Ai ?_ fun _ _ _ _ _=>aEl [] [] ?_)|exact Ei () (Ai (by first|exact Up.zero|exact Up.step ‹_› ‹_› ‹_› (by rw[wM ‹_›];simp[*])) (bX rfl rfl rfl rfl))|exact Ai (by first|assumption|omega) (Ei () (Ai (by first|exact Up.zero|exact Up.step ‹_› ‹_› ‹_› (by rw[wM ‹_›];simp[*])) (bX rfl rfl rfl rfl)))|(apply aT 41;refine cF (D8 _ _ _) ⟨rfl,rfl,rfl,ea⟩ ?_)|(apply aT 87;refine cF (PA _ _ _ _ _ _) ⟨⟨rfl,rfl,rfl,rfl,rfl,rfl,ea⟩,ea⟩ ?_)|(apply aT 88;refine cF (T0 _ _ _ _ (by first|assumption|exact ku ‹_› ‹_› | exact eF _ ‹_› | exact bO.qq (eF _ ‹_›)|exact bO.BX (eF _ ‹_›)|exact bO.nN (eF _ ‹_›)) (by first|assumption|exact ku ‹_› ‹_› | exact eF _ ‹_› | exact bO.qq (eF _ ‹_›)|exact bO.BX (eF _ ‹_›)|exact bO.nN (eF _ ‹_›))) ⟨fL (aq.enc _),rfl,rfl,rfl,ea⟩ ?_))
theorem Hf (a:aq)(ha:a.ok):Ct ae 42 [.agg (a.enc.map .t)] (aEo (fw a)) [] true:=by
 obtain⟨r,hr,h⟩:=D6 a ha;rw[hr] at h;exact h
end
section
open Go Cg Go.RowKit Go.Shelf
open Classical in
noncomputable def PQ (f:FuncId)(dh:List AV):Bool:=if h:∃ b,Ct ae f dh (aEo b) [] true then h.choose else false
theorem BU {Φ:Bool->Prop}{f:FuncId}{dh:List AV}(h:∃ b,Φ b/\Ct ae f dh (aEo b) [] true):Ct ae f dh (aEo (PQ f dh)) [] true:=by
 obtain⟨b,_,hb⟩:=h;have h:∃ b,Ct ae f dh (aEo b) [] true:=⟨b,hb⟩
 unfold PQ;rw[dif_pos h];exact h.choose_spec
open Classical in
noncomputable def Y0 (f:FuncId)(dh:List AV):ByteArray:=if h:∃ b,Ct ae f dh (AV.s b) [] true then h.choose else⟨#[]⟩
theorem UJ {Φ:ByteArray->Prop}{f:FuncId}{dh:List AV}(h:∃ b,Φ b/\Ct ae f dh (AV.s b) [] true):Ct ae f dh (AV.s (Y0 f dh)) [] true:=by
 obtain⟨b,_,hb⟩:=h;have h:∃ b,Ct ae f dh (AV.s b) [] true:=⟨b,hb⟩
 unfold Y0;rw[dif_pos h];exact h.choose_spec
theorem agV (a:List Int)(ha:a.length*8<=aV):∃ r:Bool,True/\Ct ae 92 [.c (.t (.sl 1 (a.map eI)))] (aEo r) [] true:=by
 refine cU (Φ:=fun _=>True) cO (cX Tryz.func92 rfl (by kernel_rfl) rfl (aEl [] [] ?_))
 repeat' (first|(apply Ku 0 8 ‹_› rfl (by omega) ‹_›;intro _)|(apply bN <;> intro _)|(exact bo _ (Ei [] (Ai rfl (Ai ea rfl))) (trivial) rfl)|(apply fV;(iterate 2 first|assumption|omega|(simp only[bp,cK,aZ,bM];omega)|(simp only[Lm] at *;omega)|decide);intro _ _)|(apply dV 2 rfl;refine fM.at (α:=Int) 2 (fun i=>[(3,aEn i)]) (fun i=>1<=i/\i<=17592186044416) (fun i=>(17592186044416 - i).toNat) [0] [] 200000 rfl (Ai (Ei 1 (Ai ⟨by omega,by omega⟩ (bX rfl rfl rfl rfl))) fun i hi=>aEl [] [] ?_))|exact Ei _ (Ai (Ai (by(simp only[bp,Lm] at *;unfold aV at ha;omega)) (by(simp only[bp,Lm] at *;unfold aV at ha;omega))) (bX rfl rfl rfl rfl)))
def te:bJ:=⟨0,⟨0,0,0,0,0,0,0,⟨#[]⟩,0,0,⟨0,0⟩,⟨0,0⟩,⟨0,0⟩⟩,[],⟨⟨0,0,0,0,0,0,0⟩,false,false,0⟩,false,⟨0,0,⟨0,0,0,0,0,0,0,⟨#[]⟩,0,0,⟨0,0⟩,⟨0,0⟩,⟨0,0⟩⟩⟩,false,[],[],⟨0,0,⟨0,0,0,0,0,0,0,⟨#[]⟩,0,0,⟨0,0⟩,⟨0,0⟩,⟨0,0⟩⟩,0,0,0,0⟩⟩
theorem Ln:te.ok:=⟨⟨ea,ea,ea⟩,aA _,fun _ h=>(by cases h),ea,⟨ea,ea,ea⟩,aA _,fun _ h=>(by cases h),aA _,fun _ h=>(by cases h),⟨ea,ea,ea⟩⟩
theorem wU:∃ q:uA,(∀ a:bJ,a.ok->Ct ae 84 [.agg (a.enc.map .t)] (aEo (q.ab a)) [] true)/\(∀ a:bJ,a.ok->Ct ae 159 [.agg (a.enc.map .t),.agg (te.enc.map .t)] (aEo (q.zero a)) [] true)/\(∀ l:List Int,l.length*8<=aV->Ct ae 92 [.c (.t (.sl 1 (l.map eI)))] (aEo (q.set l)) [] true)/\∀ l:List dR,l.length*176<=aV->Ct ae 93 [.c (.t (.sl 20 (l.map dR.enc)))] (AV.s (q.txt l)) [] true:=
 ⟨⟨fun a=>PQ 84 [.agg (a.enc.map .t)],fun a=>PQ 159 [.agg (a.enc.map .t),.agg (te.enc.map .t)],fun l=>PQ 92 [.c (.t (.sl 1 (l.map eI)))],fun l=>Y0 93 [.c (.t (.sl 20 (l.map dR.enc)))]⟩,fun a ha=>BU (Pp a ha),fun a ha=>BU (T4 a te ha Ln),fun l hl=>BU (agV l hl),fun l hl=>UJ (oL l hl)⟩
noncomputable def tL:uA:=Classical.choose wU
theorem X1 (a:bJ)(ha:a.ok):Ct ae 84 [.agg (a.enc.map .t)] (aEo (tL.ab a)) [] true:=(Classical.choose_spec wU).1 a ha
theorem Tc (a:bJ)(ha:a.ok):Ct ae 159 [.agg (a.enc.map .t),.agg (te.enc.map .t)] (aEo (tL.zero a)) [] true:=(Classical.choose_spec wU).2.1 a ha
theorem TE (l:List Int)(hl:l.length*8<=aV):Ct ae 92 [.c (.t (.sl 1 (l.map eI)))] (aEo (tL.set l)) [] true:=(Classical.choose_spec wU).2.2.1 l hl
theorem U8 (l:List dR)(hl:l.length*176<=aV):Ct ae 93 [.c (.t (.sl 20 (l.map dR.enc)))] (AV.s (tL.txt l)) [] true:=(Classical.choose_spec wU).2.2.2 l hl
theorem Ph (a:aq)(b:dW)(ha:a.ok)(hb:b.ok)(hn:eR a.bC 1 1000000=true):∃ r:Bool,(r=(mC tL a b))/\Ct ae 91 [.agg (a.enc.map .t),.agg (b.enc.map .t)] (aEo r) [] true:=by
 have lZ:=ha;obtain⟨w7,yk,yj,yi,Et,J3,Es,J2,J1,J0,w6,wZ,wY⟩:=lZ;have Fg:=hb;obtain⟨Xj,Xi,Xh,Xg⟩:=Fg;refine cU (Φ:=fun (r:Bool)=>r=(mC tL a b)) cO (cX Tryz.func91 rfl (by kernel_rfl) rfl (aEl [] [] ?_))
 repeat' (first|(apply aT 159;refine cF (Tc _ ‹_›) ⟨fL (bJ.enc _),(by repeat' first|refine Ai ?_ ?_|exact rfl|exact⟨⟩|exact Ei _ rfl|refine cL ?_|refine bS ?_),ea⟩ ?_)|(apply bN <;> intro _)|apply cj|(apply cS <;> intro _)|(exact bo _ (Ei [] (Ai rfl (Ai ea rfl))) (by(try simp only[Lm,afD hn] at *);simp[mC, *]) rfl)|(apply aT 41;refine cF (D8 _ _ _) ⟨rfl,rfl,rfl,ea⟩ ?_)|(apply aT 43;refine cF (tH _ _ ‹_›) ⟨fL (aq.enc _),rfl,ea⟩ ?_)|(apply aT 152;refine cF (zN _ _ ‹_›) ⟨fL (aq.enc _),rfl,ea⟩ ?_)|(apply aT 84;refine cF (X1 _ ‹_›) ⟨fL (bJ.enc _),ea⟩ ?_))
theorem T1 (a:aq)(b:dW)(ha:a.ok)(hb:b.ok)(hn:eR a.bC 1 1000000=true):Ct ae 91 [.agg (a.enc.map .t),.agg (b.enc.map .t)] (aEo (mC tL a b)) [] true:=by
 obtain⟨r,hr,h⟩:=Ph a b ha hb hn;rw[hr] at h;exact h
theorem LY (a:aq)(ha:a.ok)(hn:eR a.bC 1 1000000=true):∃ r:Bool,(r=(gd tL a))/\Ct ae 45 [.agg (a.enc.map .t)] (aEo r) [] true:=by
 have lZ:=ha;obtain⟨w7,yk,yj,yi,Et,J3,Es,J2,J1,J0,w6,wZ,wY⟩:=lZ;refine cU (Φ:=fun (r:Bool)=>r=(gd tL a)) cO (cX Tryz.func45 rfl (by kernel_rfl) rfl (aEl [] [] ?_))
 repeat' (first|(apply pP;(iterate 2 first|assumption|omega|(simp only[bp,cK,aZ,bM];omega)|(simp only[Lm] at *;omega)|decide);intro _)|(apply bN <;> intro _)|(apply cQ <;> intro _)|apply cj|(apply cS <;> intro _)|(exact bo _ (Ei [] (Ai rfl (Ai ea rfl))) (by first|exact GQ (f:=dW.enc) (g:=aP.enc) (c:=dI.enc) (.inl ‹_›)|exact GQ (f:=dW.enc) (g:=aP.enc) (c:=dI.enc) (.inr (.inl ‹_›))|exact GQ (f:=dW.enc) (g:=aP.enc) (c:=dI.enc) (.inr (.inr ‹_›))|exact Yn ‹_› (by first|exact VG ‹_› | exact VF ‹_› ‹_› ‹_› ‹_›)|exact Ym ‹_› (by(try simp only[Lm] at *);simp[lj, *])|exact Yl ‹_› (by first|exact xQ ‹_› ‹_› ‹_› ‹_› ‹_› | exact CV ‹_› | exact CU ‹_› | exact CT ‹_› | exact CS ‹_› | exact CR ‹_›)|exact Tt ‹_› ‹_› ‹_› ‹_› ‹_› ‹_› ‹_› ‹_› ‹_›) rfl)|(apply dV 4 rfl;refine fM.up (β:=Unit) 4 3 ((((a.stack.map dW.enc).length:Nat):Int)) (by first|omega|exact eO (by first|assumption|exact ku ‹_› ‹_› | exact eF _ ‹_› | exact aP.gD (eF _ ‹_›)|exact dI.ff (eF _ ‹_›)|exact dI.kM (eF _ ‹_›)) rfl) (by omega) (fun _=>[]) (fun i _=>Up (jX tL a) a.stack i) [1] [0] 200000 rfl ?_;refine Ai ?_ fun _ _ _ _ _=>aEl [] [] ?_)|(apply dV 9 rfl;rename_i i _ _ _ _ hi hl _;refine fM.up (β:=Unit) 9 4 (i) (by(simp only[Lm] at *;have:=Es;unfold aV at this;omega)) ‹_› (fun _=>[]) (fun k _=>Up (fun _ (y:dW)=>!(y.id==a.stack[i.toNat].id)) a.stack k) [1,3] [0] 300000 rfl ?_;refine Ai ?_ fun _ _ _ _ _=>aEl [] [] ?_)|(apply dV 14 rfl;refine fM.up (β:=Unit) 14 5 ((((a.iM.map aP.enc).length:Nat):Int)) (by first|omega|exact eO (by first|assumption|exact ku ‹_› ‹_› | exact eF _ ‹_› | exact aP.gD (eF _ ‹_›)|exact dI.ff (eF _ ‹_›)|exact dI.kM (eF _ ‹_›)) rfl) (by omega) (fun _=>[]) (fun i _=>Up (fun _=>lj tL a) a.iM i) [1] [0] 400000 rfl ?_;refine Ai ?_ fun _ _ _ _ _=>aEl [] [] ?_)|(apply dV 20 rfl;refine fM.up (β:=Unit) 20 7 ((((a.dD.map dI.enc).length:Nat):Int)) (by first|omega|exact eO (by first|assumption|exact ku ‹_› ‹_› | exact eF _ ‹_› | exact aP.gD (eF _ ‹_›)|exact dI.ff (eF _ ‹_›)|exact dI.kM (eF _ ‹_›)) rfl) (by omega) (fun _=>[]) (fun i _=>Up (fun _=>fY tL a) a.dD i) [1] [0] 500000 rfl ?_;refine Ai ?_ fun _ _ _ _ _=>aEl [] [] ?_)|exact Ei () (Ai (by first|exact Up.zero|exact Up.step ‹_› ‹_› ‹_› (ER ‹_› ‹_› ‹_› ‹_›)|exact Up.step ‹_› ‹_› ‹_› (by simp[*])|exact Up.step ‹_› ‹_› ‹_› (by(try simp only[Lm] at *);simp[lj, *])|exact Up.step ‹_› ‹_› ‹_› (by first|exact xQ ‹_› ‹_› ‹_› ‹_› ‹_› | exact CV ‹_› | exact CU ‹_› | exact CT ‹_› | exact CS ‹_› | exact CR ‹_›)) (bX rfl rfl rfl rfl))|exact Ai (by first|assumption|omega) (Ei () (Ai (by first|exact Up.zero|exact Up.step ‹_› ‹_› ‹_› (ER ‹_› ‹_› ‹_› ‹_›)|exact Up.step ‹_› ‹_› ‹_› (by simp[*])|exact Up.step ‹_› ‹_› ‹_› (by(try simp only[Lm] at *);simp[lj, *])|exact Up.step ‹_› ‹_› ‹_› (by first|exact xQ ‹_› ‹_› ‹_› ‹_› ‹_› | exact CV ‹_› | exact CU ‹_› | exact CT ‹_› | exact CS ‹_› | exact CR ‹_›)) (bX rfl rfl rfl rfl)))|(apply aT 91;refine cF (T1 _ _ (by first|assumption|exact ku ‹_› ‹_› | exact eF _ ‹_› | exact aP.gD (eF _ ‹_›)|exact dI.ff (eF _ ‹_›)|exact dI.kM (eF _ ‹_›)) (by first|assumption|exact ku ‹_› ‹_› | exact eF _ ‹_› | exact aP.gD (eF _ ‹_›)|exact dI.ff (eF _ ‹_›)|exact dI.kM (eF _ ‹_›)) (by first|assumption|omega|(simp only[bp,cK,aZ,bM];omega)|(simp only[Lm] at *;omega)|decide)) ⟨fL (aq.enc _),fL (dW.enc _),ea⟩ ?_)|(apply aT 43;refine cF (tH _ _ (by first|assumption|exact ku ‹_› ‹_› | exact eF _ ‹_› | exact aP.gD (eF _ ‹_›)|exact dI.ff (eF _ ‹_›)|exact dI.kM (eF _ ‹_›))) ⟨fL (aq.enc _),rfl,ea⟩ ?_)|(apply aT 84;refine cF (X1 _ (by first|assumption|exact ku ‹_› ‹_› | exact eF _ ‹_› | exact aP.gD (eF _ ‹_›)|exact dI.ff (eF _ ‹_›)|exact dI.kM (eF _ ‹_›))) ⟨fL (bJ.enc _),ea⟩ ?_)|(apply aT 41;refine cF (D8 _ _ _) ⟨rfl,rfl,rfl,ea⟩ ?_)|(apply aT 92;refine cF (TE _ (by first|assumption|exact ku ‹_› ‹_› | exact eF _ ‹_› | exact aP.gD (eF _ ‹_›)|exact dI.ff (eF _ ‹_›)|exact dI.kM (eF _ ‹_›))) ⟨rfl,ea⟩ ?_)|(apply aT 93;refine cF (U8 _ (by first|assumption|exact ku ‹_› ‹_› | exact eF _ ‹_› | exact aP.gD (eF _ ‹_›)|exact dI.ff (eF _ ‹_›)|exact dI.kM (eF _ ‹_›))) ⟨rfl,ea⟩ ?_))
theorem Pf (a:aq)(ha:a.ok)(hn:eR a.bC 1 1000000=true):Ct ae 45 [.agg (a.enc.map .t)] (aEo (gd tL a)) [] true:=by
 obtain⟨r,hr,h⟩:=LY a ha hn;rw[hr] at h;exact h
end
section
open Go Cg Go.RowKit Go.Shelf
theorem uH (a:bd)(ha:a.ok):∃ r:Bool,True/\Ct ae 83 [.agg (a.enc.map .t)] (aEo r) [] true:=by
 have lZ:=ha;obtain⟨w7,yk,yj,yi⟩:=lZ;refine cU (Φ:=fun _=>True) cO (cX Tryz.func83 rfl (by kernel_rfl) rfl (aEl [] [] ?_))
 repeat' (first|(exact bo _ (Ei [] (Ai rfl (Ai ea rfl))) (trivial) rfl))
theorem JB (a:bd)(ha:a.ok):∃ r:Bool,True/\Ct ae 85 [.agg (a.enc.map .t)] (aEo r) [] true:=by
 have lZ:=ha;obtain⟨w7,yk,yj,yi⟩:=lZ;refine cU (Φ:=fun _=>True) cO (cX Tryz.func85 rfl (by kernel_rfl) rfl (aEl [] [] ?_))
 repeat' (first|(apply bN <;> intro _)|(exact bo _ (Ei [] (Ai rfl (Ai ea rfl))) (trivial) rfl))
theorem agM (a:bd)(ha:a.ok):∃ r:Bool,True/\Ct ae 38 [.agg (a.enc.map .t)] (aEo r) [] true:=by
 have lZ:=ha;obtain⟨w7,yk,yj,yi⟩:=lZ;refine cU (Φ:=fun _=>True) cO (cX Tryz.func38 rfl (by kernel_rfl) rfl (aEl [] [1002,3,1004,5,8] ?_))
 repeat' (first|(apply bN <;> intro _)|(apply cQ <;> intro _)|apply cj|(apply cS <;> intro _)|(exact bo _ (Ei [] (Ai rfl (Ai ea rfl))) (trivial) rfl)|(apply dY 1002 rfl;refine aEr (α:=Bool) 1002 (fun p=>[(36,aEo p)]) (fun _=>True) [1] [0] 200000 rfl (Ai (aEl [] [1002,3,1004,5,8] ?_) fun _ _=>aEl [] [1002,3,1004,5,8] ?_))|(apply dY 3 rfl;refine aEr (α:=Unit) 3 (fun _=>[]) (fun _=>True) [1] [0] 300000 rfl (Ai (aEl [] [1002,3,1004,5,8] ?_) fun _ _=>aEl [] [1002,3,1004,5,8] ?_))|(apply dY 1004 rfl;refine aEr (α:=Bool) 1004 (fun p=>[(75,aEo p)]) (fun _=>True) [1] [0] 400000 rfl (Ai (aEl [] [1002,3,1004,5,8] ?_) fun _ _=>aEl [] [1002,3,1004,5,8] ?_))|(apply dY 5 rfl;refine aEr (α:=Unit) 5 (fun _=>[]) (fun _=>True) [1] [0] 500000 rfl (Ai (aEl [] [1002,3,1004,5,8] ?_) fun _ _=>aEl [] [1002,3,1004,5,8] ?_))|(apply dY 8 rfl;refine aEr (α:=Int) 8 (fun p=>[(3,aEn p)]) (fun _=>True) [1,4] [0] 600000 rfl (Ai (aEl [] [1002,3,1004,5,8] ?_) fun _ _=>aEl [] [1002,3,1004,5,8] ?_))|(apply dV 7 rfl;refine fM.up (β:=Int) 7 4 ((((a.aI.map bJ.enc).length:Nat):Int)) (by first|omega|exact eO ‹_› rfl) (by omega) (fun p=>[(3,aEn p)]) (fun _ _=>True) [1] [0] 700000 rfl ?_;refine Ai ?_ fun _ _ _ _ _=>aEl [] [1002,3,1004,5,8] ?_)|exact Ei () (Ai (trivial) (bX rfl rfl rfl rfl))|exact Ei _ (Ai (trivial) (bX rfl rfl rfl rfl))|exact Ai (by first|assumption|omega) (Ei _ (Ai (trivial) (bX rfl rfl rfl rfl)))|(apply fV;(iterate 2 first|assumption|omega|(simp only[bp,cK,aZ,bM];omega)|(simp only[Lm] at *;omega)|decide);intro _ _)|(apply aT 79;refine cY (JM _) ⟨rfl,ea⟩ fun _ _=>?_)|(apply aT 80;refine cY (JL _) ⟨fL (er.enc _),ea⟩ fun _ _=>?_)|(apply aT 81;refine cY (Xa _ ‹_›) ⟨fL (gw.enc _),ea⟩ fun _ _=>?_)|(apply aT 82;refine cY (Px _) ⟨rfl,ea⟩ fun _ _=>?_)|(apply aT 83;refine cY (uH _ ‹_›) ⟨fL (bd.enc _),ea⟩ fun _ _=>?_)|(apply aT 84;refine cY (Pp _ (ku ‹_› ‹_›)) ⟨fL (bJ.enc _),ea⟩ fun _ _=>?_)|(apply aT 85;refine cY (JB _ ‹_›) ⟨fL (bd.enc _),ea⟩ fun _ _=>?_))
theorem JA (a:List bd)(b:ByteArray)(ha:a.length*176<=aV)(_ma:∀ y∈a,bd.ok y):∃ r:Int,True/\Ct ae 39 [.c (.t (.sl 17 (a.map bd.enc))),AV.s b] (aEn r) [] true:=by
 refine cU (Φ:=fun _=>True) kF (cX Tryz.func39 rfl (by kernel_rfl) rfl (aEl [] [] ?_))
 repeat' (first|(apply bN <;> intro _)|(apply cS <;> intro _)|(exact bo _ (Ei [] (Ai rfl (Ai ea rfl))) (trivial) rfl)|(apply dV 2 rfl;refine fM.up (β:=Unit) 2 5 ((((a.map bd.enc).length:Nat):Int)) (by first|omega|exact eO ‹_› rfl) (by omega) (fun _=>[]) (fun _ _=>True) [0,1] [] 200000 rfl ?_;refine Ai ?_ fun _ _ _ _ _=>aEl [] [] ?_)|exact Ei () (Ai (trivial) (bX rfl rfl rfl rfl))|exact Ai (by first|assumption|omega) (Ei () (Ai (trivial) (bX rfl rfl rfl rfl)))|(apply fV;(iterate 2 first|assumption|omega|(simp only[bp,cK,aZ,bM];omega)|(simp only[Lm] at *;omega)|decide);intro _ _))
theorem Pm (a:List bd)(b:ByteArray)(ha:a.length*176<=aV)(_ma:∀ y∈a,bd.ok y):∃ r:Bool,True/\Ct ae 86 [.c (.t (.sl 17 (a.map bd.enc))),AV.s b] (aEo r) [] true:=by
 refine cU (Φ:=fun _=>True) cO (cX Tryz.func86 rfl (by kernel_rfl) rfl (aEl [] [] ?_))
 repeat' (first|(apply bN <;> intro _)|(apply cS <;> intro _)|(exact bo _ (Ei [] (Ai rfl (Ai ea rfl))) (trivial) rfl)|(apply dV 2 rfl;refine fM.up (β:=Unit) 2 5 ((((a.map bd.enc).length:Nat):Int)) (by first|omega|exact eO ‹_› rfl) (by omega) (fun _=>[]) (fun _ _=>True) [0,1] [] 200000 rfl ?_;refine Ai ?_ fun _ _ _ _ _=>aEl [] [] ?_)|exact Ei () (Ai (trivial) (bX rfl rfl rfl rfl))|exact Ai (by first|assumption|omega) (Ei () (Ai (trivial) (bX rfl rfl rfl rfl)))|(apply fV;(iterate 2 first|assumption|omega|(simp only[bp,cK,aZ,bM];omega)|(simp only[Lm] at *;omega)|decide);intro _ _))
theorem wB (a:List bd)(b:bd)(ha:a.length*176<=aV)(ma:∀ y∈a,bd.ok y)(hb:b.ok):∃ r:Bool,True/\Ct ae 40 [.c (.t (.sl 17 (a.map bd.enc))),.agg (b.enc.map .t)] (aEo r) [] true:=by
 have Fg:=hb;obtain⟨Xj,Xi,Xh,Xg⟩:=Fg;refine cU (Φ:=fun _=>True) cO (cX Tryz.func40 rfl (by kernel_rfl) rfl (aEl [] [] ?_))
 repeat' (first|(apply pP;(iterate 2 first|assumption|omega|(simp only[bp,cK,aZ,bM];omega)|(simp only[Lm] at *;omega)|decide);intro _)|(apply bN <;> intro _)|apply cj|(apply cS <;> intro _)|(exact bo _ (Ei [] (Ai rfl (Ai ea rfl))) (trivial) rfl)|(apply dV 2 rfl;refine fM.up (β:=Unit) 2 5 ((((b.aI.map bJ.enc).length:Nat):Int)) (by first|omega|exact eO (by first|assumption|exact ku ‹_› ‹_› | exact eF _ ‹_› | exact bJ.nO (eF _ ‹_›)) rfl) (by omega) (fun _=>[]) (fun _ _=>True) [0,3] [0] 200000 rfl ?_;refine Ai ?_ fun _ _ _ _ _=>aEl [] [] ?_)|(apply dV 5 rfl;rename_i i _ _ _ _ hi;(have hk:i.toNat < b.aI.length:=by(simp only[Lm] at *;omega));refine fM.up (β:=Unit) 5 6 ((((b.aI[i.toNat].dv.map cN.enc).length:Nat):Int)) (by first|omega|exact eO (by first|assumption|exact ku ‹_› ‹_› | exact eF _ ‹_› | exact bJ.nO (eF _ ‹_›)) rfl) (by omega) (fun _=>[]) (fun _ _=>True) [0,3,5] [0] 300000 rfl ?_;refine Ai ?_ fun _ _ _ _ _=>aEl [] [] ?_)|exact Ei () (Ai (trivial) (bX rfl rfl rfl rfl))|exact Ai (by first|assumption|omega) (Ei () (Ai (trivial) (bX rfl rfl rfl rfl)))|(apply aT 86;refine cY (Pm _ _ (by first|assumption|exact ku ‹_› ‹_› | exact eF _ ‹_› | exact bJ.nO (eF _ ‹_›)) (by first|assumption|exact ku ‹_› ‹_› | exact eF _ ‹_› | exact bJ.nO (eF _ ‹_›))) ⟨rfl,rfl,ea⟩ fun _ _=>?_))
theorem YH (a:List bd)(b:aq)(ha:a.length*176<=aV)(ma:∀ y∈a,bd.ok y)(hb:b.ok):∃ r:Bool,(r=(iQ tL ((a.length:Nat):Int) b))/\Ct ae 20 [.c (.t (.sl 17 (a.map bd.enc))),.agg (b.enc.map .t)] (aEo r) [] true:=by
 have Fg:=hb;obtain⟨Xj,Xi,Xh,Xg,ob4,ob5,ob6,ob7,ob8,ob9,ahG,ahF,ahE⟩:=Fg;refine cU (Φ:=fun (r:Bool)=>r=(iQ tL ((a.length:Nat):Int) b)) cO (cX Tryz.func20 rfl (by kernel_rfl) rfl (aEl [] [] ?_))
 repeat' (first|(apply pP;(iterate 2 first|assumption|omega|(simp only[bp,cK,aZ,bM];omega)|(simp only[Lm] at *;omega)|decide);intro _)|(apply bN <;> intro _)|(apply cQ <;> intro _)|apply cj|(apply cS <;> intro _)|(exact bo _ (Ei [] (Ai rfl (Ai ea rfl))) (by first|contradiction|exact aiD ‹_› ‹_› | exact aiC (by first|exact ZQ ‹_› ‹_› | exact ZP ‹_› ‹_›)|exact ZK (aiH ‹_› ‹_› ‹_› ‹_› ‹_›) (aiG ‹_› ‹_› ‹_› ‹_› ‹_› ‹_›) ‹_› ‹_› (by first|exact ZO ‹_› ‹_› | exact ZN ‹_› ‹_›) (by simp[*])|exact aiF (by first|exact Z2 ‹_› | exact Z1 ‹_› | exact Z0 ‹_› | exact ZZ ‹_› | exact ZY ‹_›)|exact aiE (by first|exact ZW ‹_› | exact ZV ‹_› | exact ZU ‹_› | exact ZT ‹_› | exact ZS ‹_› | exact ZR ‹_›)) rfl)|(apply dV 6 rfl;refine fM.up (β:=Unit) 6 5 ((((b.extra.map eI).length:Nat):Int)) (by first|omega|exact eO ‹_› rfl) (by omega) (fun _=>[]) (fun i _=>Up (fun _=>qn b) b.extra i) [0,3] [0] 200000 rfl ?_;refine Ai ?_ fun _ _ _ _ _=>aEl [] [] ?_)|exact Ei () (Ai (by first|exact Up.zero|exact Up.step ‹_› ‹_› ‹_› (by simp[*])) (bX rfl rfl rfl rfl))|exact Ai (by first|assumption|omega) (Ei () (Ai (by first|exact Up.zero|exact Up.step ‹_› ‹_› ‹_› (by simp[*])) (bX rfl rfl rfl rfl)))|(apply aT 41;refine cF (D8 _ _ _) ⟨rfl,rfl,rfl,ea⟩ ?_)|(apply aT 42;refine cF (Hf _ ‹_›) ⟨fL (aq.enc _),ea⟩ ?_)|(apply aT 43;refine cF (tH _ _ ‹_›) ⟨fL (aq.enc _),rfl,ea⟩ ?_)|(apply aT 44;refine cF (Hi _ _ ‹_› ‹_› ‹_›) ⟨rfl,fL (aq.enc _),ea⟩ ?_)|(apply aT 45;refine cF (Pf _ ‹_› ‹_›) ⟨fL (aq.enc _),ea⟩ ?_))
theorem agK (a:List bd)(b:aq)(ha:a.length*176<=aV)(ma:∀ y∈a,bd.ok y)(hb:b.ok):Ct ae 20 [.c (.t (.sl 17 (a.map bd.enc))),.agg (b.enc.map .t)] (aEo (iQ tL ((a.length:Nat):Int) b)) [] true:=by
 obtain⟨r,hr,h⟩:=YH a b ha ma hb;rw[hr] at h;exact h
end
end Go.Proofs.YtbmdcnkidjlbbaaGreat
namespace Cg
section
open Go
section
theorem py {n a b:Int}:eR n a b=true↔a<=n/\n<=b:=by
 unfold eR;rw[ah,decide_eq_true_eq,decide_eq_true_eq]
theorem DE {l:List az}(hs:l.Pairwise fun a b=>a.id < b.id){a b:az}(ha:a∈l)(hb:b∈l)(e:a.id=b.id):a=b:=by
 obtain⟨i,hi,rfl⟩:=bD.1 ha;obtain⟨j,hj,rfl⟩:=bD.1 hb;have hp:=List.pairwise_iff_getElem.1 hs;rcases Nat.lt_trichotomy i j with h|h|h
 ·have:=hp i j hi hj h;omega
 ·subst h;rfl
 ·have:=hp j i hj hi h;omega
theorem ke {l:List az}{id:Int}:eh l id=true↔∃ o∈l,o.id=id:=by
 unfold eh;rw[List.find?_isSome];simp
theorem gL {l:List az}{id:Int}(h:eh l id=true):cb l id∈l/\(cb l id).id=id:=by
 unfold eh at h;unfold cb
 cases hf:l.find? fun o=>o.id==id with
 | none=>rw[hf] at h;cases h
 | some o=>exact⟨List.mem_of_find?_eq_some hf,by simpa using List.find?_some hf⟩
theorem xL {l:List az}{o:az}(hs:l.Pairwise fun a b=>a.id < b.id)(ho:o∈l):cb l o.id=o:=
 have h:=gL (ke.2 ⟨o,ho,rfl⟩)
 DE hs h.1 ho h.2
def Yv (s:aq):Bool:=eR s.tt 0 500&&(eR s.step 0 10&&(qn s s.lT&&(qn s s.priority&&(eR s.lC 0 s.aw.length&&(!decide ((s.extra.length:Int) > 500)&&(eR s.oy 0 2&&(s.extra.all (qn s)&&ta s)))))))
def oO (p:bO):Bool:=eR p.jC (-1000000) 1000000&&(eR p.ll 0 1000000&&(eR p.Aj 0 1000000&&oG p.wL p.wK p.wJ p.wI p.wH p.wG))
def Kv (q:uA)(s:aq)(x:dW):Prop:=(1<=x.id/\x.id < s.bC)/\(eR x.x 0 1000000=true/\(x.targets.length:Int)<=4/\qn s x.dB=true)/\
 (x.kind=1/\x.dC=x.id/\(∃ o∈s.aa,o.id=x.id/\o.cn=5)/\(q.zero x.aj||q.ab x.aj)=true\/x.kind=2/\(∀ o∈s.aa,o.id≠x.id)/\q.ab x.aj=true)
structure kj (q:uA)(c:Int)(s:aq):Prop where
 J7:1<=s.bC/\s.bC<=1000001
 jo:1<=s.bF/\s.bF<=1000001
 Ez:(s.aa.length:Int)<=2048
 npl:2<=(s.aw.length:Int)/\(s.aw.length:Int)<=4
 sc:Yv s=true
 ply:∀ p∈s.aw,oO p=true
 s8:s.aa.Pairwise fun a b=>a.id < b.id
 obj:∀ o∈s.aa,mh o c s.aw.length=true/\o.id < s.bC/\o.dG < s.bF
 Vg:∀ z p id,id∈bY s z p->∃ o∈s.aa,o.id=id/\o.cn=z/\(z=0\/z=4\/o.dq=p)
 nod:∀ z p,(bY s z p).Nodup
 plc:∀ o∈s.aa,o.cn≠5->o.id∈bY s o.cn o.dq
 UE:∀ o∈s.aa,o.cn=5->∃ x∈s.stack,x.kind=1/\x.id=o.id
 P4:(s.stack.length:Int)<=64
 Tu:s.stack.Pairwise fun a b=>a.id≠b.id
 itm:∀ x∈s.stack,Kv q s x
 wt:(s.iM.length:Int)<=64/\∀ w∈s.iM,lj q s w=true
 XW:(s.dD.length:Int)<=64/\∀ k∈s.dD,fY q s k=true
theorem Ia {s:aq}{z w:Int}{l:List Int}:fJ s z w l=true↔∀ id∈l,(eh s.aa id=true/\(cb s.aa id).cn=z/\(0<=w->(cb s.aa id).dq=w))/\l.count id=1:=by
 unfold fJ lp;rw[aN];refine⟨fun h id hid=>?_,fun h id hid=>?_⟩
 ·have:=h id hid;simp only[ah,cC,cu,decide_eq_false_iff_not,beq_iff_eq] at this;obtain⟨h1,h2,h3,h4⟩:=this;exact⟨⟨h1,h2,fun hw=>h3.resolve_left fun h=>h hw⟩,by omega⟩
 ·obtain⟨⟨h1,h2,h3⟩,h4⟩:=h id hid;simp only[ah,cC,cu,decide_eq_false_iff_not,beq_iff_eq];refine⟨h1,h2,?_,by omega⟩
  by_cases hw:0<=w
  ·exact .inr (h3 hw)
  ·exact .inl hw
theorem P5 {l:List Int}(h:∀ a∈l,l.count a=1):l.Nodup:=List.nodup_iff_count.2 fun a=>by
 by_cases ha:a∈l
 ·rw[h a ha];exact ak 1
 ·rw[List.count_eq_zero.2 ha];exact aA 1
theorem FO {l:List Int}(h:l.Nodup){a:Int}(ha:a∈l):l.count a=1:=by
 rw[h.count,if_pos ha]
theorem mU {s:aq}{z w p:Int}{l:List Int}(hs:s.aa.Pairwise fun a b=>a.id < b.id)(hw:0<=w↔¬ (z=0\/z=4))(hp:0<=w->w=p) :
  fJ s z w l=true↔(∀ id∈l,∃ o∈s.aa,o.id=id/\o.cn=z/\(z=0\/z=4\/o.dq=p))/\l.Nodup:=by
 rw[Ia];refine⟨fun h=>⟨fun id hid=>?_,P5 fun a ha=>(h a ha).2⟩,fun ⟨h1,h2⟩ id hid=>?_⟩
 ·obtain⟨⟨h1,h2,h3⟩,_⟩:=h id hid;obtain⟨h4,h5⟩:=gL h1;refine⟨_,h4,h5,h2,?_⟩
  by_cases h0:0<=w
  ·exact .inr (.inr ((h3 h0).trans (hp h0)))
  ·have:=Classical.not_not.1 fun h=>h0 (hw.2 h);rcases this with h|h
   ·exact .inl h
   ·exact .inr (.inl h)
 ·obtain⟨o,ho,rfl,rfl,h3⟩:=h1 id hid;rw[xL hs ho];refine⟨⟨ke.2 ⟨o,ho,rfl⟩,rfl,fun h0=>?_⟩,FO h2 hid⟩;have:=hw.1 h0;rw[hp h0];rcases h3 with h|h|h
  ·exact absurd (.inl h) this
  ·exact absurd (.inr h) this
  ·exact h
theorem uP (s:aq)(z p:Int):bY s z p=[]\/z=0/\bY s z p=s.bu\/z=4/\bY s z p=s.fQ\/∃ (i:Nat) (h:i < s.aw.length),p=i/\(z=1/\bY s z p=s.aw[i].hand\/z=2/\bY s z p=s.aw[i].dt\/z=3/\bY s z p=s.aw[i].dO):=by
 unfold bY;split
 ·rename_i h;exact .inr (.inl ⟨by simpa using h,rfl⟩)
 split
 ·rename_i h;exact .inr (.inr (.inl ⟨by simpa using h,rfl⟩))
 split
 ·exact .inl rfl
 rename_i hp;split
 ·rename_i x hx;obtain⟨hi,rfl⟩:=an.1 hx;have hpi:p=((p.toNat:Nat):Int):=by omega
  split
  ·rename_i h;exact .inr (.inr (.inr ⟨p.toNat,hi,hpi,.inl ⟨by simpa using h,rfl⟩⟩))
  split
  ·rename_i h;exact .inr (.inr (.inr ⟨p.toNat,hi,hpi,.inr (.inl ⟨by simpa using h,rfl⟩)⟩))
  split
  ·rename_i h;exact .inr (.inr (.inr ⟨p.toNat,hi,hpi,.inr (.inr ⟨by simpa using h,rfl⟩)⟩))
  ·exact .inl rfl
 ·exact .inl rfl
section
variable {s:aq}{i:Nat}
theorem lH (p:Int):bY s 0 p=s.bu:=by unfold bY;rfl
theorem mV (p:Int):bY s 4 p=s.fQ:=by unfold bY;rfl
theorem Qr (h:i < s.aw.length):bY s 1 i=s.aw[i].hand:=by
 unfold bY;rw[if_neg (by decide),if_neg (by decide),if_neg (by omega)];simp[h]
theorem EK (h:i < s.aw.length):bY s 2 i=s.aw[i].dt:=by
 unfold bY;rw[if_neg (by decide),if_neg (by decide),if_neg (by omega)];simp[h]
theorem Qs (h:i < s.aw.length):bY s 3 i=s.aw[i].dO:=by
 unfold bY;rw[if_neg (by decide),if_neg (by decide),if_neg (by omega)];simp[h]
end
theorem Lw {aE:Int}{s:aq}(h:allI (jB aE s) 0 s.aa=true):s.aa.Pairwise fun a b=>a.id < b.id:=by
 have h:=lQ.1 h
 have step:∀ (j:Nat) (hj:j+1 < s.aa.length),(s.aa[j]'(by omega)).id < s.aa[j+1].id:=fun j hj=>by
  have:=h (j+1) hj;unfold jB at this;simp only[ah,cC,cu,decide_eq_false_iff_not,bw] at this;obtain⟨_,_,_,h4,_⟩:=this;rcases h4 with h4|h4
  ·exact absurd (show(((j+1:Nat):Int)) > 0 by omega) h4
  ·rw[Nat.add_sub_cancel,List.getD_eq_getElem?_getD,ag (by omega:j < s.aa.length)] at h4;simpa using h4
 refine List.pairwise_iff_getElem.2 fun a b ha hb hab=>?_;obtain⟨d,rfl⟩:∃ d,b=a+1+d:=⟨b - (a+1),by omega⟩
 clear hab
 induction d with
 | zero=>exact step a hb
 | succ d ih=>exact Int.lt_trans (ih (by omega)) (step (a+1+d) hb)
theorem GU {l:List dW}{id:Int}{x:dW}(h1:x.kind=1)(h2:x.id=id):(l.Pairwise fun a b=>a.id≠b.id)->x∈l->l.countP (fun x=>x.kind==1&&x.id==id)=1:=by
 intro hs hx
 induction l with
 | nil=>cases hx
 | cons y l ih=>
  rw[List.pairwise_cons] at hs;rcases List.mem_cons.1 hx with e|hx
  ·subst e;rw[List.countP_cons_of_pos (by simp[h1,h2]),List.countP_eq_zero.2];intro z hz;have:=hs.1 z hz;rw[h2] at this;simpa using fun _ e=>this (Eq.symm e)
  ·rw[List.countP_cons_of_neg,ih hs.2 hx];have:=hs.1 x hx;rw[h2] at this;simp[this]
theorem zA {l:List dW}{id:Int}(hs:l.Pairwise fun a b=>a.id≠b.id):l.countP (fun x=>x.kind==1&&x.id==id)=1↔∃ x∈l,x.kind=1/\x.id=id:=by
 refine⟨fun h=>?_,fun ⟨x,hx,h1,h2⟩=>GU h1 h2 hs hx⟩;obtain⟨x,hx,hp⟩:=List.countP_pos_iff.1 (show 0 < l.countP (fun x=>x.kind==1&&x.id==id) by omega);exact⟨x,hx,by simpa using hp⟩
theorem QO {q:uA}{s:aq}(h:allI (jX q s) 0 s.stack=true):(s.stack.Pairwise fun a b=>a.id≠b.id)/\∀ x∈s.stack,mC q s x=true:=by
 have h:=lQ.1 h;refine⟨List.pairwise_iff_getElem.2 fun a b ha hb hab=>?_,fun x hx=>?_⟩
 ·have:=h b hb;unfold jX at this;rw[ah,aN,bw] at this;have:=this.2 s.stack[a] (bD.2 ⟨a,by rw[au];omega,by rw[List.getElem_take]⟩);simpa using this
 ·obtain⟨j,hj,rfl⟩:=bD.1 hx;have:=h j hj;unfold jX at this;rw[ah] at this;exact this.1
theorem MG {q:uA}{s:aq}{x:dW}(hs:s.aa.Pairwise fun a b=>a.id < b.id):mC q s x=true↔Kv q s x:=by
 have h5:(eh s.aa x.id=true/\(cb s.aa x.id).cn=5)↔∃ o∈s.aa,o.id=x.id/\o.cn=5:=
  ⟨fun ⟨h1,h2⟩=>⟨_,(gL h1).1,(gL h1).2,h2⟩,fun ⟨o,ho,h1,h2⟩=>⟨ke.2 ⟨o,ho,h1⟩,by rw[<- h1,xL hs ho];exact h2⟩⟩
 have hn:eh s.aa x.id=false↔∀ o∈s.aa,o.id≠x.id:=by
  rw[<- Bool.not_eq_true,ke];exact⟨fun h o ho e=>h ⟨o,ho,e⟩,fun h ⟨o,ho,e⟩=>h o ho e⟩
 unfold mC Kv;rw[ah,ah,ah,ah,py]
 by_cases hk:x.kind=1
 ·rw[if_pos (by simpa using hk)];simp only[ah,beq_iff_eq,cu,decide_eq_false_iff_not];refine⟨fun ⟨⟨h1,h2,h3,h4⟩,g1,g2,g3,g4⟩=>⟨⟨by omega,by omega⟩,⟨h2,by omega,h4⟩,.inl ⟨hk,g1,h5.1 ⟨g2,g3⟩,g4⟩⟩,fun ⟨h1,⟨h2,h3,h4⟩,h⟩=>?_⟩;rcases h with⟨_,g1,g2,g3⟩|⟨g0,_⟩
  ·exact⟨⟨by omega,h2,by omega,h4⟩,g1,(h5.2 g2).1,(h5.2 g2).2,g3⟩
  ·omega
 ·rw[if_neg (by simpa using hk)];simp only[ah,beq_iff_eq,cu,decide_eq_false_iff_not];refine⟨fun ⟨⟨h1,h2,h3,h4⟩,g1,g2,g3⟩=>⟨⟨by omega,by omega⟩,⟨h2,by omega,h4⟩,.inr ⟨g1,hn.1 g2,g3⟩⟩,fun ⟨h1,⟨h2,h3,h4⟩,h⟩=>?_⟩;rcases h with⟨g0,_⟩|⟨g1,g2,g3⟩
  ·exact absurd g0 hk
  ·exact⟨⟨by omega,h2,by omega,h4⟩,g1,hn.2 g2,g3⟩
theorem wO {s:aq}{o:az}(hn:(bY s o.cn o.dq).Nodup)(hk:s.stack.Pairwise fun a b=>a.id≠b.id):iK s o=true↔(o.cn≠5->o.id∈bY s o.cn o.dq)/\(o.cn=5->∃ x∈s.stack,x.kind=1/\x.id=o.id):=by
 unfold iK rp lp
 by_cases h5:o.cn=5
 ·rw[if_pos (by simpa using h5),beq_iff_eq];refine⟨fun h=>⟨fun h0=>absurd h5 h0,fun _=>(zA hk).1 (by omega)⟩,fun ⟨_,h⟩=>?_⟩;rw[(zA hk).2 (h h5)];rfl
 ·rw[if_neg (by simpa using h5),beq_iff_eq];refine⟨fun h=>⟨fun _=>List.count_pos_iff.1 (by omega),fun h0=>absurd h0 h5⟩,fun ⟨h,_⟩=>?_⟩;rw[FO hn (h h5)];rfl
theorem Ek {s:aq}{i:Nat}{p:bO}:uK s i p=true↔oO p=true/\fJ s 2 i p.dt=true/\fJ s 1 i p.hand=true/\fJ s 3 i p.dO=true:=by
 unfold uK oO;simp only[ah];exact⟨fun ⟨h1,h2,h3,h4,h5,h6,h7⟩=>⟨⟨h1,h2,h3,h4⟩,h5,h6,h7⟩,fun ⟨⟨h1,h2,h3,h4⟩,h5,h6,h7⟩=>⟨h1,h2,h3,h4,h5,h6,h7⟩⟩
theorem Oc {q:uA}{c:Int}{s:aq}(h:iQ q c s=true):kj q c s:=by
 unfold iQ EU uR fw kv gd at h;simp only[ah,cu,decide_eq_false_iff_not] at h;obtain⟨⟨a1,a2,a3,a4,a5⟩,⟨⟨p1,p2,p3,p4⟩,b2,b3,b4,b5,b6⟩,ex,w,⟨o1,o2⟩,⟨s1,s2,s3⟩,s4,s5,s6⟩:=h;rw[py] at a1 a2 p1;have hs:=Lw o2
 have hp:∀ (i:Nat) (hi:i < s.aw.length),oO s.aw[i]=true/\fJ s 2 i s.aw[i].dt=true/\fJ s 1 i s.aw[i].hand=true/\fJ s 3 i s.aw[i].dO=true:=fun i hi=>by
  have:=lQ.1 p2 i hi;rw[bw] at this;exact Ek.1 this
 obtain⟨k1,k2⟩:=QO s4
 have hl:∀ z p,(∀ id∈bY s z p,∃ o∈s.aa,o.id=id/\o.cn=z/\(z=0\/z=4\/o.dq=p))/\(bY s z p).Nodup:=fun z p=>by
  rcases uP s z p with e|⟨rfl,e⟩|⟨rfl,e⟩|⟨i,hi,rfl,⟨rfl,e⟩|⟨rfl,e⟩|⟨rfl,e⟩⟩ <;> rw[e]
  ·exact⟨fun id h=>(by cases h),List.nodup_nil⟩
  ·exact(mU (w:=-1) hs (by omega) (by omega)).1 p3
  ·exact(mU (w:=-1) hs (by omega) (by omega)).1 p4
  ·exact(mU (w:=i) hs (by omega) (by omega)).1 (hp i hi).2.2.1
  ·exact(mU (w:=i) hs (by omega) (by omega)).1 (hp i hi).2.1
  ·exact(mU (w:=i) hs (by omega) (by omega)).1 (hp i hi).2.2.2
 have ho:∀ o∈s.aa,(mh o c s.aw.length=true/\o.id < s.bC/\o.dG < s.bF)/\iK s o=true:=fun o ho=>by
  obtain⟨i,hi,rfl⟩:=bD.1 ho;have:=lQ.1 o2 i hi;unfold jB at this;simp only[ah,cu,decide_eq_false_iff_not] at this;exact⟨⟨this.1,by omega,by omega⟩,this.2.2.2.2⟩
 refine⟨by omega,by omega,by omega,p1,?_,fun p hpp=>?_,hs,fun o h=>(ho o h).1,fun z p=>(hl z p).1,fun z p=>(hl z p).2,fun o h=>((wO (hl _ _).2 k1).1 (ho o h).2).1,fun o h=>((wO (hl _ _).2 k1).1 (ho o h).2).2,by omega,k1,fun x hx=>(MG hs).1 (k2 x hx),⟨by omega,aN.1 s5⟩,by omega,aN.1 s6⟩
 ·unfold Yv;simp only[ah,cu,decide_eq_false_iff_not];exact⟨a3,a4,b2,b3,b4,b5,b6,ex,w⟩
 ·obtain⟨i,hi,rfl⟩:=bD.1 hpp;exact(hp i hi).1
end
end
end Cg
namespace Go.Proofs.YtbmdcnkidjlbbaaGreat
section
open Go Cg Go.RowKit
theorem TM {s:aq}(h:s.ok)(id:Int)(i:Nat)(o:az)(hi:i < s.aa.length):(lW s id i o).ok/\(lW s id i o).aa.length+1=s.aa.length:=by
 have hl:(((bY s o.cn o.dq).filter fun i=>i != id).length*8<=aV):=aX (cy _ (cE _ _)) (lG h _ _);obtain⟨h1,h2,_,_,h5,h6,_,_,h9⟩:=TG h o.cn o.dq hl;obtain⟨_,_,g3,g4,_,_,g7,g8,_⟩:=h
 have hlen:(s.aa.take i++s.aa.drop (i+1)).length+1=s.aa.length:=by
  simp only[al,au,aO];omega
 refine⟨⟨h1,h2,?_,?_,h5,h6,?_,?_,h9⟩,hlen⟩
 ·show(s.aa.take i++s.aa.drop (i+1)).length*128<=aV;omega
 ·intro y hy;rcases bh.1 hy with hy|hy
  ·exact g4 y (List.mem_of_mem_take hy)
  ·exact g4 y (List.mem_of_mem_drop hy)
 ·exact aX (cy _ (cE _ _)) g7
 ·intro y hy;exact g8 y (List.mem_filter.1 hy).1
theorem PK (l:List az)(o:az):(ql l o).length<=l.length+1:=by
 unfold ql;split
 ·rw[bQ];omega
 ·unfold MJ;simp only[al,au,aO,aZ,bM];omega
theorem wX (o:az):o.ok:=by
 unfold az.ok;exact⟨⟩
theorem Uy {s:aq}(h:s.ok)(o:az)(hn:(s.aa.length+1)*128<=aV):(fm s o).ok:=by
 obtain⟨h1,h2,_,h4,h5⟩:=h;refine⟨h1,h2,?_,fun y hy=>wX y,h5⟩;exact aX (cy _ (PK _ _)) hn
def rN (V:aq):aq:={ V with bC:=IntKind.i64.wrap (V.bC+1),bF:=IntKind.i64.wrap (V.bF+1) }
def J9 (Q:aq)(x:az)(z:Int)(eE:Bool):aq:=
 rN (fA Q z x.dq (if (z==2&&!eE)=true then x.id :: bY Q z x.dq else bY Q z x.dq++[x.id]))
def z6 (R:aq)(o:az)(z p:Int):az:=tQ o R.bC z p R.bF
def nP (s:aq)(id z p:Int)(eE:Bool)(i:Nat)(o:az):aq × Int:=
 if z < 0\/5 < z then(s,0) else
 if o.token=true/\(z != 0)=true/\(z != 5)=true then(lW s id i o,0) else
 (J9 (fm (lW s id i o) (z6 (lW s id i o) o z p)) (z6 (lW s id i o) o z p) z eE,(z6 (lW s id i o) o z p).id)
def kE (s:aq)(id z p:Int)(eE:Bool):aq × Int:=match s.aa.findIdx? fun o=>o.id==id with
 | none=>(s,0)
 | some i=>match s.aa[i]? with
  | some o=>nP s id z p eE i o
  | none=>(s,0)
theorem Mp (s:aq)(id z p:Int)(eE:Bool)(h:s.ok)(e:s.aa.find? (fun o=>o.id==id)=none):Ct ae 101 [.agg (s.enc.map .t),.c (.t (iv id)),.c (.t (iv z)),.c (.t (iv p)),aEo eE] (.gi [.agg (s.enc.map .t),aEn 0]) [] false:=by
 have hf:=fP s id h.2.2.1;unfold cb eh at hf;rw[e] at hf;refine cT Tryz.func101 rfl (by kernel_rfl) rfl fun w0 O _=>aEk [3] ?_;refine cR hf ⟨fL s.enc,rfl,ea⟩ ?_;refine aEk [] (cR (iD s h) ⟨fL s.enc,ea⟩ ?_);refine Ei [] ?_
 repeat' constructor
theorem HV (s:aq)(id z p:Int)(eE:Bool)(i:Nat)(h:s.ok)(hi:i < s.aa.length)(hp:qm s.aa id=i)(e:s.aa.find? (fun o=>o.id==id)=some s.aa[i]):Ct ae 101 [.agg (s.enc.map .t),.c (.t (iv id)),.c (.t (iv z)),.c (.t (iv p)),aEo eE] (.gi [.agg ((nP s id z p eE i s.aa[i]).1.enc.map .t),.c (.t (iv (nP s id z p eE i s.aa[i]).2))]) [] false:=by
 have hf:=fP s id h.2.2.1;unfold cb eh at hf;rw[e] at hf;have hr:=G3 s id i h hi hp;obtain⟨hR,hRn⟩:=TM h id i s.aa[i] hi;generalize hM:nP s id z p eE i s.aa[i]=M;unfold nP at hM;generalize lW s id i s.aa[i]=R at hr hR hRn hM;generalize s.aa[i]=o at hf hr hM;have hv:=Qf o R.bC z p R.bF;change Ct _ _ _ (.agg ((z6 R o z p).enc.map .t)) _ _ at hv;generalize z6 R o z p=x at hv hM;have hq:Ct ae 110 [.agg (R.enc.map .t),.agg (x.enc.map .t)] (.agg (((fm R x).enc.map .t).set 2 (.row 0 0))) [⟨3,1,0,(fm R x).bu.map eI,none⟩] false:=kn R x hR;have hQ:=Uy hR x (by rw[hRn];exact h.2.2.1);generalize fm R x=Q at hq hQ hM;have vG:=lG hQ z x.dq;have hl:=Qq Q z x.dq hQ;have qL:=GW Q z x.dq (x.id :: bY Q z x.dq) hQ (by rw[aZ];exact dJ (by decide) vG);have mX:=GW Q z x.dq (bY Q z x.dq++[x.id]) hQ (by rw[al];exact dJ (by decide) vG);unfold J9 at hM;refine cT Tryz.func101 rfl (by kernel_rfl) rfl fun w0 O _=>aEk [3,4,6,7,9,10,11,12,13,14] ?_;refine cR hf ⟨fL s.enc,rfl,ea⟩ ?_;refine cS (fun Df=>?_) fun Df=>?_
 ·rw[if_pos (.inl (of_decide_eq_true Df))] at hM;subst hM;refine aEk [] (cR (iD s h) ⟨fL s.enc,ea⟩ ?_);refine Ei [] ?_
  repeat' constructor
 refine cS (fun hz5=>?_) fun hz5=>?_
 ·rw[if_pos (.inr (of_decide_eq_true hz5))] at hM;subst hM;refine aEk [] (cR (iD s h) ⟨fL s.enc,ea⟩ ?_);refine Ei [] ?_
  repeat' constructor
 rw[if_neg (fun hx=>hx.elim (of_decide_eq_false Df) (of_decide_eq_false hz5))] at hM;refine aEk [] (cR hr ⟨fL s.enc,rfl,ea⟩ ?_);refine cS (fun ht=>?_) fun ht=>?_
 ·refine cS (fun h1=>?_) fun h1=>?_
  ·refine cS (fun h2=>?_) fun h2=>?_
   ·rw[if_pos ⟨ht,h1,h2⟩] at hM;subst hM;refine aEk [] (Ei [] ?_)
    repeat' constructor
   ·rw[if_neg (fun hx=>by rw[show(z != 5)=false from h2] at hx;exact absurd hx.2.2 (by decide))] at hM;refine aEk [] (cR hv ⟨fL o.enc,rfl,rfl,rfl,rfl,ea⟩ ?_);refine cR hq ⟨fL R.enc,fL x.enc,ea⟩ ?_;refine aEq [] (aEk [] ?_);refine cR hl ⟨?_,rfl,rfl,ea⟩ ?_
    ·repeat' constructor
    refine aEk [] (cS (fun w2=>?_) fun w2=>?_)
    ·refine cS (fun wb=>?_) fun wb=>?_
     ·rw[if_pos (show(z==2&&!eE)=true by rw[show(z==2)=true from w2,show(!eE)=true from wb];rfl)] at hM;refine aEk [] (Ai (.inl rfl) (Ai ?_ (Ai ?_ ?_)))
      ·show(1+((bY Q z x.dq).map eI).length)*8<=_;rw[Lm,Nat.add_comm];exact db (dJ (by decide) vG)
      ·show 1+((bY Q z x.dq).map eI).length < _;rw[Lm,Nat.add_comm];have:=dJ (n:=(bY Q z x.dq).length) (b:=8) (by decide) vG;omega
      generalize fA Q z x.dq _=V at qL hM;subst hM;refine aEq [] (aEk [] ?_);refine cR qL ⟨?_,rfl,rfl,?_,ea⟩ ?_
      ·repeat' constructor
      ·exact rfl
      refine aEk [] (Ei [] ?_)
      repeat' constructor
     ·rw[if_neg (show ¬ (z==2&&!eE)=true by rw[show(z==2)=true from w2,show(!eE)=false from wb];decide)] at hM;refine aEk [] (Ai (.inl rfl) (Ai ?_ (Ai ?_ ?_)))
      ·show(((bY Q z x.dq).map eI).length+1)*8<=_;rw[Lm];exact db (dJ (by decide) vG)
      ·show((bY Q z x.dq).map eI).length+1 < _;rw[Lm];have:=dJ (n:=(bY Q z x.dq).length) (b:=8) (by decide) vG;omega
      generalize fA Q z x.dq _=V at mX hM;subst hM;refine aEq [] (aEk [] ?_);refine cR mX ⟨?_,rfl,rfl,?_,ea⟩ ?_
      ·repeat' constructor
      ·exact congrArg (Tr.sl 1) (aQ (f:=eI) (l₁:=bY Q z x.dq) (l₂:=[x.id])).symm
      refine aEk [] (Ei [] ?_)
      repeat' constructor
    ·rw[if_neg (show ¬ (z==2&&!eE)=true by rw[show(z==2)=false from w2,cm];decide)] at hM;refine aEk [] (Ai (.inl rfl) (Ai ?_ (Ai ?_ ?_)))
     ·show(((bY Q z x.dq).map eI).length+1)*8<=_;rw[Lm];exact db (dJ (by decide) vG)
     ·show((bY Q z x.dq).map eI).length+1 < _;rw[Lm];have:=dJ (n:=(bY Q z x.dq).length) (b:=8) (by decide) vG;omega
     generalize fA Q z x.dq _=V at mX hM;subst hM;refine aEq [] (aEk [] ?_);refine cR mX ⟨?_,rfl,rfl,?_,ea⟩ ?_
     ·repeat' constructor
     ·exact congrArg (Tr.sl 1) (aQ (f:=eI) (l₁:=bY Q z x.dq) (l₂:=[x.id])).symm
     refine aEk [] (Ei [] ?_)
     repeat' constructor
  ·rw[if_neg (fun hx=>by rw[show(z != 0)=false from h1] at hx;exact absurd hx.2.1 (by decide))] at hM;refine aEk [] (cR hv ⟨fL o.enc,rfl,rfl,rfl,rfl,ea⟩ ?_);refine cR hq ⟨fL R.enc,fL x.enc,ea⟩ ?_;refine aEq [] (aEk [] ?_);refine cR hl ⟨?_,rfl,rfl,ea⟩ ?_
   ·repeat' constructor
   refine aEk [] (cS (fun w2=>?_) fun w2=>?_)
   ·refine cS (fun wb=>?_) fun wb=>?_
    ·rw[if_pos (show(z==2&&!eE)=true by rw[show(z==2)=true from w2,show(!eE)=true from wb];rfl)] at hM;refine aEk [] (Ai (.inl rfl) (Ai ?_ (Ai ?_ ?_)))
     ·show(1+((bY Q z x.dq).map eI).length)*8<=_;rw[Lm,Nat.add_comm];exact db (dJ (by decide) vG)
     ·show 1+((bY Q z x.dq).map eI).length < _;rw[Lm,Nat.add_comm];have:=dJ (n:=(bY Q z x.dq).length) (b:=8) (by decide) vG;omega
     generalize fA Q z x.dq _=V at qL hM;subst hM;refine aEq [] (aEk [] ?_);refine cR qL ⟨?_,rfl,rfl,?_,ea⟩ ?_
     ·repeat' constructor
     ·exact rfl
     refine aEk [] (Ei [] ?_)
     repeat' constructor
    ·rw[if_neg (show ¬ (z==2&&!eE)=true by rw[show(z==2)=true from w2,show(!eE)=false from wb];decide)] at hM;refine aEk [] (Ai (.inl rfl) (Ai ?_ (Ai ?_ ?_)))
     ·show(((bY Q z x.dq).map eI).length+1)*8<=_;rw[Lm];exact db (dJ (by decide) vG)
     ·show((bY Q z x.dq).map eI).length+1 < _;rw[Lm];have:=dJ (n:=(bY Q z x.dq).length) (b:=8) (by decide) vG;omega
     generalize fA Q z x.dq _=V at mX hM;subst hM;refine aEq [] (aEk [] ?_);refine cR mX ⟨?_,rfl,rfl,?_,ea⟩ ?_
     ·repeat' constructor
     ·exact congrArg (Tr.sl 1) (aQ (f:=eI) (l₁:=bY Q z x.dq) (l₂:=[x.id])).symm
     refine aEk [] (Ei [] ?_)
     repeat' constructor
   ·rw[if_neg (show ¬ (z==2&&!eE)=true by rw[show(z==2)=false from w2,cm];decide)] at hM;refine aEk [] (Ai (.inl rfl) (Ai ?_ (Ai ?_ ?_)))
    ·show(((bY Q z x.dq).map eI).length+1)*8<=_;rw[Lm];exact db (dJ (by decide) vG)
    ·show((bY Q z x.dq).map eI).length+1 < _;rw[Lm];have:=dJ (n:=(bY Q z x.dq).length) (b:=8) (by decide) vG;omega
    generalize fA Q z x.dq _=V at mX hM;subst hM;refine aEq [] (aEk [] ?_);refine cR mX ⟨?_,rfl,rfl,?_,ea⟩ ?_
    ·repeat' constructor
    ·exact congrArg (Tr.sl 1) (aQ (f:=eI) (l₁:=bY Q z x.dq) (l₂:=[x.id])).symm
    refine aEk [] (Ei [] ?_)
    repeat' constructor
 ·rw[if_neg (fun hx=>by rw[show o.token=false from ht] at hx;exact absurd hx.1 (by decide))] at hM;refine aEk [] (cR hv ⟨fL o.enc,rfl,rfl,rfl,rfl,ea⟩ ?_);refine cR hq ⟨fL R.enc,fL x.enc,ea⟩ ?_;refine aEq [] (aEk [] ?_);refine cR hl ⟨?_,rfl,rfl,ea⟩ ?_
  ·repeat' constructor
  refine aEk [] (cS (fun w2=>?_) fun w2=>?_)
  ·refine cS (fun wb=>?_) fun wb=>?_
   ·rw[if_pos (show(z==2&&!eE)=true by rw[show(z==2)=true from w2,show(!eE)=true from wb];rfl)] at hM;refine aEk [] (Ai (.inl rfl) (Ai ?_ (Ai ?_ ?_)))
    ·show(1+((bY Q z x.dq).map eI).length)*8<=_;rw[Lm,Nat.add_comm];exact db (dJ (by decide) vG)
    ·show 1+((bY Q z x.dq).map eI).length < _;rw[Lm,Nat.add_comm];have:=dJ (n:=(bY Q z x.dq).length) (b:=8) (by decide) vG;omega
    generalize fA Q z x.dq _=V at qL hM;subst hM;refine aEq [] (aEk [] ?_);refine cR qL ⟨?_,rfl,rfl,?_,ea⟩ ?_
    ·repeat' constructor
    ·exact rfl
    refine aEk [] (Ei [] ?_)
    repeat' constructor
   ·rw[if_neg (show ¬ (z==2&&!eE)=true by rw[show(z==2)=true from w2,show(!eE)=false from wb];decide)] at hM;refine aEk [] (Ai (.inl rfl) (Ai ?_ (Ai ?_ ?_)))
    ·show(((bY Q z x.dq).map eI).length+1)*8<=_;rw[Lm];exact db (dJ (by decide) vG)
    ·show((bY Q z x.dq).map eI).length+1 < _;rw[Lm];have:=dJ (n:=(bY Q z x.dq).length) (b:=8) (by decide) vG;omega
    generalize fA Q z x.dq _=V at mX hM;subst hM;refine aEq [] (aEk [] ?_);refine cR mX ⟨?_,rfl,rfl,?_,ea⟩ ?_
    ·repeat' constructor
    ·exact congrArg (Tr.sl 1) (aQ (f:=eI) (l₁:=bY Q z x.dq) (l₂:=[x.id])).symm
    refine aEk [] (Ei [] ?_)
    repeat' constructor
  ·rw[if_neg (show ¬ (z==2&&!eE)=true by rw[show(z==2)=false from w2,cm];decide)] at hM;refine aEk [] (Ai (.inl rfl) (Ai ?_ (Ai ?_ ?_)))
   ·show(((bY Q z x.dq).map eI).length+1)*8<=_;rw[Lm];exact db (dJ (by decide) vG)
   ·show((bY Q z x.dq).map eI).length+1 < _;rw[Lm];have:=dJ (n:=(bY Q z x.dq).length) (b:=8) (by decide) vG;omega
   generalize fA Q z x.dq _=V at mX hM;subst hM;refine aEq [] (aEk [] ?_);refine cR mX ⟨?_,rfl,rfl,?_,ea⟩ ?_
   ·repeat' constructor
   ·exact congrArg (Tr.sl 1) (aQ (f:=eI) (l₁:=bY Q z x.dq) (l₂:=[x.id])).symm
   refine aEk [] (Ei [] ?_)
   repeat' constructor
theorem B6 (s:aq)(id z p:Int)(eE:Bool)(h:s.ok):Ct ae 101 [.agg (s.enc.map .t),.c (.t (iv id)),.c (.t (iv z)),.c (.t (iv p)),aEo eE] (.gi [.agg ((kE s id z p eE).1.enc.map .t),.c (.t (iv (kE s id z p eE).2))]) [] false:=by
 rcases jb (fun o:az=>o.id==id) s.aa with⟨_,e1,e2⟩|⟨i,hi,e0,e1,e2⟩
 ·have:=Mp s id z p eE h e2;unfold kE;rw[e1];exact this
 ·have:=HV s id z p eE i h hi e0 e2;unfold kE;rw[e1];simp only[ag hi];exact this
def mi (s:aq)(ee bK:Int):aq × Int:=
 let x:az:={ rM s.bC ee bK 0 s.bF with token:=true,qh:=true }
 ({ fm s x with bu:=s.bu++[s.bC],bC:=IntKind.i64.wrap (s.bC+1),bF:=IntKind.i64.wrap (s.bF+1) },s.bC)
theorem Ve (s:aq)(ee bK:Int)(h:s.ok):Ct ae 107 [.agg (s.enc.map .t),.c (.t (iv ee)),.c (.t (iv bK))] (.gi [.agg ((mi s ee bK).1.enc.map .t),.c (.t (iv (mi s ee bK).2))]) [] false:=by
 have hbt:s.bu.length*8<=aV:=h.2.2.2.2.1;have hn:=Qa s.bC ee bK 0 s.bF;have hq:=kn s { rM s.bC ee bK 0 s.bF with token:=true,qh:=true } h;refine cT Tryz.func107 rfl (by kernel_rfl) rfl fun w0 O _=>aEk [] ?_;refine cR hn ⟨rfl,rfl,rfl,rfl,rfl,ea⟩ ?_;refine cR hq ⟨fL s.enc,?_,ea⟩ ?_
 ·repeat' constructor
 refine Ai (.inl rfl) (Ai ?_ (Ai ?_ ?_))
 ·show((s.bu.map eI).length+1)*8<=_;rw[Lm];exact db (dJ (by decide) hbt)
 ·show(s.bu.map eI).length+1 < _;rw[Lm];have:=dJ (n:=s.bu.length) (b:=8) (by decide) hbt;omega
 refine Ei [] ?_
 repeat' constructor
 exact congrArg (Tr.sl 1) (aQ (f:=eI) (l₁:=s.bu) (l₂:=[s.bC]))
end
section
open Go Cg
def dx (n:Int):Int:=if n > 1000000 then 1000000 else if n < -1000000 then -1000000 else n
def fK (a b:Int):Int:=dx (dx a+dx b)
def rj (a b:Int):Int:=dx (dx a - dx b)
def n5 (c n:Int):Int:=if fK c n > 0 then fK c n else 0
def lV (i kind c n:Int):Int:=if kind=i then n5 c n else c
def mB (s:aq)(p:Int):Bool:=match s.aw[p.toNat]? with
 | some x=>decide (p>=0)&&!x.lost
 | none=>false
def sS (n:Int):Bool:=decide (n>=1)&&decide (n<=1000000)
def jP (s:aq)(id:Int):Bool:=eh s.aa id&&(cb s.aa id).cn==0
def Bq (aE:List bd)(i:Int):Bool:=match aE[i.toNat]? with
 | some x=>decide (i>=0)&&x.token
 | none=>false
theorem Vi {s:aq}{p:Int}(h:¬ p>=0):false=mB s p:=by
 unfold mB;split
 ·rw[decide_eq_false h];rfl
 ·rfl
theorem Vh {s:aq}{p:Int}{f:bO->List Tr}(h:¬ p < (((s.aw.map f).length:Nat):Int)):false=mB s p:=by
 rw[Lm] at h;unfold mB;rw[List.getElem?_eq_none (by omega)]
theorem Zv {s:aq}{p:Int}(h:p>=0)(hl:p.toNat < s.aw.length):mB s p=!s.aw[p.toNat].lost:=by
 unfold mB;rw[ag hl,decide_eq_true h];rfl
theorem To {l:List bd}{p:Int}(h:¬ p>=0):Bq l p=false:=by
 unfold Bq;split
 ·rw[decide_eq_false h];rfl
 ·rfl
theorem Tn {l:List bd}{p:Int}{f:bd->List Tr}(h:¬ p < (((l.map f).length:Nat):Int)):Bq l p=false:=by
 rw[Lm] at h;unfold Bq;rw[List.getElem?_eq_none (by omega)]
theorem Yi {l:List bd}{p:Int}(h:p>=0)(hl:p.toNat < l.length):Bq l p=l[p.toNat].token:=by
 unfold Bq;rw[ag hl,decide_eq_true h];rfl
def qD (aE:List bd)(s:aq)(e:bG):Bool:=
 if e.kind=1 then sS e.bB&&(jP s e.aL||(e.aL==0&&mB s e.bK))
 else if e.kind=2 then eh s.aa e.aL&&(e.from_==(cb s.aa e.aL).cn&&(e.nk != e.from_&&(decide (e.nk>=0)&&(decide (e.nk<=4)&&(decide (e.bK>=0)&&decide (e.bK < s.aw.length))))))
 else if e.kind=3\/e.kind=14\/e.kind=15\/e.kind=17 then mB s e.bK
 else if e.kind=4\/e.kind=5\/e.kind=16 then mB s e.bK&&sS e.bB
 else if e.kind=6 then jP s e.aL&&!(cb s.aa e.aL).fe
 else if e.kind=7 then jP s e.aL&&(cb s.aa e.aL).fe
 else if e.kind=8\/e.kind=9 then jP s e.aL&&(decide (e.gx>=0)&&(decide (e.gx < 3)&&sS e.bB))
 else if e.kind=10 then mB s e.bK&&(Bq aE e.ee&&sS e.bB)
 else if e.kind=11 then eh s.aa e.aL&&((cb s.aa e.aL).cn==5&&mB s e.bK)
 else if e.kind=12 then jP s e.aL&&mB s e.bK
 else if e.kind=13 then jP s e.aL&&jP s e.dC
 else false
theorem RG {aE:List bd}{s:aq}{e:bG}(h:e.kind=10):qD aE s e=(mB s e.bK&&(Bq aE e.ee&&sS e.bB)):=by
 unfold qD;rw[h];rfl
def RH (e:bG)(o:az):az:={ o with fe:=e.fe,de:=n5 0 e.o8,dd:=n5 0 e.o7,dA:=n5 0 e.o6 }
def mG (s:aq)(id:Int)(e:bG):aq:=if eh s.aa id=true then fm s (RH e (cb s.aa id)) else s
def pL (k:Int)(o:az):az:=if o.blocks==k then { o with blocks:=0 } else o
def tm (s:aq)(k:Int):aq:={ s with aa:=s.aa.map (pL k) }
def J8 (s:aq)(e:bG):aq:=
 let r:=kE (if e.from_=0 then tm s e.aL else s) e.aL e.nk e.bK (e.bB==1)
 if e.nk=0 then mG r.1 r.2 e else r.1
def Og (s:aq)(p:Int)(f:bO->bO):aq:=match s.aw[p.toNat]? with
 | some x=>{ s with aw:=s.aw.set p.toNat (f x) }
 | none=>s
def nf (s:aq)(p:Int):aq:=match s.aw[p.toNat]? with
 | some x=>(match x.dt with
  | []=>Og s p fun x=>{ x with failed:=true }
  | id :: _=>(kE s id 1 p false).1)
 | none=>s
def oD (k m:Int):Bool:=IntKind.i64.wrap (BitVec.ofInt IntKind.i64.bits k &&& BitVec.ofInt IntKind.i64.bits m).toNat==m
def gH (s:aq)(all:List aD)(id:Int):Bool:=match s.aa.findIdx? fun o=>o.id==id with
 | some i=>(match all[i]? with
  | some t=>oD t.keys 128
  | none=>false)
 | none=>false
def UY (all:List aD)(id:Int)(j:Nat)(y:az):Bool:=!(y.id==id)||decide (all.length<=j)
theorem R7 {s:aq}{all:List aD}{id i:Int}(h0:0<=i)(hU:Up (UY all id) s.aa i)(hl:i.toNat < s.aa.length)(hid:s.aa[i.toNat].id=id)(ha:i.toNat < all.length):oD all[i.toNat].keys 128=gH s all id:=by
 have e:s.aa.findIdx? (fun o=>o.id==id)=some i.toNat:=by
  rw[List.findIdx?_eq_some_iff_getElem];refine⟨hl,by simpa using hid,fun j hj=>?_⟩;have:=hU j (by omega) (by omega);unfold UY at this;rw[cC,decide_eq_true_eq] at this;rcases this with h|h
  ·simpa using h
  ·omega
 unfold gH;rw[e];simp only[ag ha]
theorem FN {s:aq}{all:List aD}{id i:Int}(hU:Up (UY all id) s.aa i)(h1:∀ j:Nat,i<=j->j < s.aa.length->all.length<=j):false=gH s all id:=by
 unfold gH;split
 ·rename_i k hk;obtain⟨h2,h3,_⟩:=List.findIdx?_eq_some_iff_getElem.1 hk
  have:all.length<=k:=by
   by_cases hik:(k:Int) < i
   ·have:=hU k h2 hik;unfold UY at this;rw[h3] at this;simpa using this
   ·exact h1 k (by omega) h2
  rw[List.getElem?_eq_none this]
 ·rfl
theorem Xk {all:List aD}{id i:Int}{y:az}(h:¬ y.id=id):UY all id i.toNat y=true:=by unfold UY;simp[h]
theorem Ws {s:aq}{all:List aD}{id i:Int}{f:az->List Tr}(hU:Up (UY all id) s.aa i)(h:¬ i < (((s.aa.map f).length:Nat):Int)):false=gH s all id:=FN hU fun j h1 h2=>by
 rw[Lm] at h;omega
theorem Wr {s:aq}{all:List aD}{id i:Int}{f:aD->List Tr}(hU:Up (UY all id) s.aa i)(h:¬ i < (((all.map f).length:Nat):Int)):false=gH s all id:=FN hU fun j h1 h2=>by
 rw[Lm] at h;omega
def im (d:Bool)(e:bG)(o:az):az:=
 if e.kind=1 then { o with fX:=fK o.fX e.bB,jH:=o.jH||d }
 else if e.kind=6 then { o with fe:=true }
 else if e.kind=7 then { o with fe:=false }
 else if e.kind=8 then { o with de:=lV 0 e.gx o.de e.bB,dd:=lV 1 e.gx o.dd e.bB,dA:=lV 2 e.gx o.dA e.bB }
 else if e.kind=9 then { o with de:=lV 0 e.gx o.de (IntKind.i64.wrap (0 - e.bB)),dd:=lV 1 e.gx o.dd (IntKind.i64.wrap (0 - e.bB)),dA:=lV 2 e.gx o.dA (IntKind.i64.wrap (0 - e.bB)) }
 else if e.kind=12 then { o with j3:=e.bK }
 else if e.kind=13 then { o with blocks:=e.dC }
 else o
def il (s:aq)(all:List aD)(e:bG):aq:=
 if eh s.aa e.aL=true then
  let s1:=fm s (im (gH s all e.dC) e (cb s.aa e.aL))
  if e.kind=13 then fm s1 { cb s1.aa e.dC with blocked:=true } else s1
 else s
def EB (s:aq)(e:bG):Nat->aq
 | 0=>s
 | n+1=>if (s.aa.length:Int) < 2048 then EB (mG (mi s e.ee e.bK).1 (mi s e.ee e.bK).2 e) e n else s
def X9 (x y:Int):Int:=IntKind.u64.wrap (BitVec.ofInt IntKind.u64.bits x ^^^ BitVec.ofInt IntKind.u64.bits y).toNat
def Ys (x:Int)(n:Nat):Int:=x.fdiv (2 ^ min n IntKind.u64.bits)
def Jq (s:Int):Int:=IntKind.u64.wrap (s+11400714819323198485)
def ahS (z:Int):Int:=IntKind.u64.wrap (X9 z (Ys z 30)*13787848793156543929)
def ahR (z:Int):Int:=IntKind.u64.wrap (X9 z (Ys z 27)*10723151780598845931)
def ahQ (z:Int):Int:=X9 z (Ys z 31)
def uN (s:Int):Int:=ahQ (ahR (ahS (Jq s)))
def gG (s n:Int):Int × Int:=if n < 1 then(0,s) else(IntKind.i64.wrap ((uN s).tmod (IntKind.u64.wrap n)),Jq s)
def oc (l:List Int)(i j:Nat):List Int:=(l.set i (l.getD j 0)).set j (l.getD i 0)
def uC:Nat->Int->List Int->List Int × Int
 | 0,s,l=>(l,s)
 | i+1,s,l=>uC i (gG s ((i:Int)+2)).2 (oc l (i+1) (gG s ((i:Int)+2)).1.toNat)
def me (s:Int)(l:List Int):List Int × Int:=uC (l.length - 1) s l
theorem Dm (n:Int):0<=IntKind.u64.wrap n/\IntKind.u64.wrap n < 18446744073709551616:=by
 rw[cK];omega
theorem u7 {s n:Int}(h1:1<=n)(h2:n<=1099511627776):0<=(gG s n).1/\(gG s n).1 < n:=by
 unfold gG;rw[if_neg (by omega)];have hz:0<=uN s:=(Dm _).1;have hn:IntKind.u64.wrap n=n:=by rw[cK];omega
 simp only[hn];have h3:=Int.tmod_nonneg n hz;have h4:=Int.tmod_lt_of_pos (uN s) (b:=n) (by omega);have:IntKind.i64.wrap ((uN s).tmod n)=(uN s).tmod n:=by rw[bp];omega
 rw[this];exact⟨h3,h4⟩
theorem swap_perm (l:List Int)(i j:Nat)(hi:i < l.length)(hj:j < l.length):(oc l i j).Perm l:=by
 rw[List.perm_iff_count];intro a;unfold oc;have e1:l.getD j 0=l[j]:=by rw[List.getD_eq_getElem?_getD,ag hj];rfl
 have e2:l.getD i 0=l[i]:=by rw[List.getD_eq_getElem?_getD,ag hi];rfl
 rw[e1,e2,List.count_set (by rw[bQ];exact hj),List.count_set hi,List.getElem_set];have c1:(l[i]==a)=true->1<=l.count a:=fun h=>List.count_pos_iff.2 (by rw[<- beq_iff_eq.1 h];exact aH hi);have c2:(l[j]==a)=true->1<=l.count a:=fun h=>List.count_pos_iff.2 (by rw[<- beq_iff_eq.1 h];exact aH hj)
 by_cases nt:i=j
 ·subst nt;simp only[if_pos];split
  ·rename_i h;have:=c1 h;omega
  ·omega
 ·rw[if_neg nt]
  by_cases ha:(l[i]==a)=true <;> by_cases hb:(l[j]==a)=true
  ·rw[if_pos ha,if_pos hb];have:=c1 ha;omega
  ·rw[if_pos ha,if_neg hb];have:=c1 ha;omega
  ·rw[if_neg ha,if_pos hb];have:=c2 hb;omega
  ·rw[if_neg ha,if_neg hb];omega
theorem rb (l:List Int)(i j:Nat):(oc l i j).length=l.length:=by unfold oc;rw[bQ,bQ]
theorem wi:∀ (i:Nat) (s:Int) (l:List Int),i < l.length\/i=0->l.length<=1099511627776->(uC i s l).1.Perm l
 | 0,_,_,_,_=>.refl _
 | i+1,s,l,h,hb=>by
  unfold uC;have hr:=u7 (s:=s) (n:=(i:Int)+2) (by omega) (by omega);have hp:=swap_perm l (i+1) (gG s ((i:Int)+2)).1.toNat (by omega) (by omega);exact(wi i _ _ (by rw[rb];omega) (by rw[rb];exact hb)).trans hp
theorem GV (s:Int)(l:List Int)(hb:l.length<=1099511627776):(me s l).1.Perm l:=wi _ s l (by omega) hb
def Nw (e:bG)(sd:Int)(x:bO):bO × Int:=
 if e.kind=4 then({ x with jC:=fK x.jC e.bB },sd)
 else if e.kind=5 then({ x with jC:=rj x.jC e.bB },sd)
 else if e.kind=16 then({ x with ll:=fK x.ll e.bB },sd)
 else if e.kind=17 then({ x with dt:=(me sd x.dt).1 },(me sd x.dt).2)
 else(x,sd)
def ka (s:aq)(e:bG):aq:=match s.aw[e.bK.toNat]? with
 | some x=>{ s with aw:=s.aw.set e.bK.toNat (Nw e s.gy x).1,gy:=(Nw e s.gy x).2 }
 | none=>s
def jy (s:aq)(all:List aD)(e:bG):aq:=
 if e.kind=3 then nf s e.bK
 else if e.kind=4\/e.kind=5\/e.kind=16\/e.kind=17 then ka s e
 else if e.kind=10 then EB s e e.bB.toNat
 else if e.kind=1\/e.kind=6\/e.kind=7\/e.kind=8\/e.kind=9\/e.kind=12\/e.kind=13 then il s all e
 else s
def ym (aE:List bd)(s:aq)(all:List aD)(e:bG):aq:=if qD aE s e=true then(if e.kind=2 then J8 s e else jy s all e) else s
section
variable {q:uA}{c:Int}{s:aq}
theorem vU {s s':aq}(h:s'.aw.length=s.aw.length)(w:aP):lj q s' w=lj q s w:=by
 unfold lj qn;rw[h]
theorem xR {s s':aq}(h:s'.aw.length=s.aw.length)(hs:s.bF<=s'.bF){k:dI}(hk:fY q s k=true):fY q s' k=true:=by
 unfold fY qn at *;rw[h];simp only[ah,cu,decide_eq_false_iff_not] at *;exact⟨hk.1,by omega,hk.2.2⟩
theorem El {s s':aq}(h:s'.aw.length=s.aw.length)(p:Int):qn s' p=qn s p:=by
 unfold qn;rw[h]
theorem _root_.Cg.kj.map (h:kj q c s)(g:az->az)(hg:∀ o∈s.aa,(g o).id=o.id/\(g o).cn=o.cn/\(g o).dq=o.dq/\(g o).dG=o.dG/\mh (g o) c s.aw.length=true):kj q c { s with aa:=s.aa.map g }:=by
 refine⟨h.J7,h.jo,by rw[Lm];exact h.Ez,h.npl,h.sc,h.ply,?_,fun o ho=>?_,fun z p id hid=>?_,h.nod,fun o ho h5=>?_,fun o ho h5=>?_,h.P4,h.Tu,fun x hx=>?_,h.wt,h.XW⟩
 ·refine List.pairwise_map.2 (h.s8.imp_of_mem fun {a b} ha hb hab=>?_);rw[(hg a ha).1,(hg b hb).1];exact hab
 ·obtain⟨o,hm,rfl⟩:=bL.1 ho;obtain⟨h1,h2,h3,h4,h5⟩:=hg o hm;exact⟨h5,by rw[h1];exact(h.obj o hm).2.1,by rw[h4];exact(h.obj o hm).2.2⟩
 ·obtain⟨o,ho,h1,h2,h3⟩:=h.Vg z p id hid;obtain⟨g1,g2,g3,_⟩:=hg o ho;exact⟨g o,List.mem_map_of_mem ho,by rw[g1];exact h1,by rw[g2];exact h2,by rw[g3];exact h3⟩
 ·obtain⟨o,hm,rfl⟩:=bL.1 ho;obtain⟨h1,h2,h3,_⟩:=hg o hm;rw[h2] at h5;rw[h1,h2,h3];exact h.plc o hm h5
 ·obtain⟨o,hm,rfl⟩:=bL.1 ho;obtain⟨h1,h2,_⟩:=hg o hm;rw[h2] at h5;rw[h1];exact h.UE o hm h5
 ·obtain⟨h1,h2,h3⟩:=h.itm x hx;refine⟨h1,h2,?_⟩;rcases h3 with⟨g1,g2,⟨o,ho,g3,g4⟩,g5⟩|⟨g1,g2,g3⟩
  ·obtain⟨e1,e2,_⟩:=hg o ho;exact .inl ⟨g1,g2,⟨g o,List.mem_map_of_mem ho,by rw[e1];exact g3,by rw[e2];exact g4⟩,g5⟩
  ·refine .inr ⟨g1,fun o ho=>?_,g3⟩;obtain⟨o,hm,rfl⟩:=bL.1 ho;rw[(hg o hm).1];exact g2 o hm
theorem _root_.Cg.kj.aoQ (h:kj q c s)(l:List bO)(sd:Int)(hlen:l.length=s.aw.length)(hp:∀ p∈l,oO p=true)(hl:∀ z p,(bY { s with aw:=l,gy:=sd } z p).Perm (bY s z p)):kj q c { s with aw:=l,gy:=sd }:=by
 refine⟨h.J7,h.jo,h.Ez,by rw[hlen];exact h.npl,?_,hp,h.s8,fun o ho=>?_,fun z p id hid=>h.Vg z p id ((hl z p).mem_iff.1 hid),fun z p=>(hl z p).nodup_iff.2 (h.nod z p),fun o ho h5=>(hl _ _).mem_iff.2 (h.plc o ho h5),h.UE,h.P4,h.Tu,fun x hx=>?_,⟨h.wt.1,fun w hw=>?_⟩,h.XW.1,fun k hk=>xR (s:=s) (s':={ s with aw:=l,gy:=sd }) hlen (Int.le_refl _) (h.XW.2 k hk)⟩
 ·have:=h.sc;unfold Yv ta at *;simp only[El (s:=s) (s':={ s with aw:=l,gy:=sd }) hlen,hlen,aN,ah] at *;exact this
 ·rw[hlen];exact h.obj o ho
 ·have:=h.itm x hx;unfold Kv at *;rw[El (s:=s) hlen];exact this
 ·rw[vU (s:=s) hlen];exact h.wt.2 w hw
theorem Ej {l _l':List bO}{i:Nat}{x y:bO}(_hx:l[i]? = some x)(h:∀ p∈l,oO p=true)(hy:oO y=true):∀ p∈l.set i y,oO p=true:=fun p hp=>by
 rcases List.mem_or_eq_of_mem_set hp with hp|rfl
 ·exact h p hp
 ·exact hy
theorem MC {s:aq}{i:Nat}{x y:bO}(sd:Int)(hx:s.aw[i]? = some x)(h1:y.hand.Perm x.hand)(h2:y.dt.Perm x.dt)(h3:y.dO.Perm x.dO)(z p:Int):(bY { s with aw:=s.aw.set i y,gy:=sd } z p).Perm (bY s z p):=by
 unfold bY;simp only[bQ]
 by_cases hi:i=p.toNat
 ·subst hi;simp only[List.getElem?_set_self (an.1 hx).1,hx];split
  ·exact .refl _
  split
  ·exact .refl _
  split
  ·exact .refl _
  split
  ·exact h1
  split
  ·exact h2
  split
  ·exact h3
  ·exact .refl _
 ·simp only[List.getElem?_set_ne hi];exact .refl _
theorem _root_.Cg.kj.Mh (h:kj q c s)(i:Nat)(sd:Int){x y:bO}(hx:s.aw[i]? = some x)(hy:oO y=true)(h1:y.hand.Perm x.hand)(h2:y.dt.Perm x.dt)(h3:y.dO.Perm x.dO):kj q c { s with aw:=s.aw.set i y,gy:=sd }:=
 h.aoQ _ sd (by rw[bQ]) (Ej (_l':=[]) (x:=x) hx h.ply hy) (MC sd hx h1 h2 h3)
theorem pk (s:aq)(z p:Int)(l:List Int):∃ b x pl,fA s z p l={ s with bu:=b,fQ:=x,aw:=pl }/\pl.length=s.aw.length/\((∀ y∈s.aw,oO y=true)->∀ y∈pl,oO y=true):=by
 unfold fA;split
 ·exact⟨l,s.fQ,s.aw,rfl,rfl,id⟩
 split
 ·exact⟨s.bu,l,s.aw,rfl,rfl,id⟩
 split
 ·exact⟨s.bu,s.fQ,s.aw,rfl,rfl,id⟩
 split
 ·rename_i y hy;refine⟨s.bu,s.fQ,_,rfl,by rw[bQ],fun h=>Ej (_l':=[]) hy h ?_⟩
  have:oO (nE y z l)=oO y:=by
   unfold nE;split
   ·rfl
   split
   ·rfl
   split <;> rfl
  rw[this];exact h y (bc hy)
 ·exact⟨s.bu,s.fQ,s.aw,rfl,rfl,id⟩
theorem Jr {s:aq}{b x:List Int}{pl:List bO}{ob:List az}{st:List dW}{ni ns:Int}(hlen:pl.length=s.aw.length)(h:Yv s=true):Yv { s with bu:=b,fQ:=x,aw:=pl,aa:=ob,stack:=st,bC:=ni,bF:=ns }=true:=by
 unfold Yv ta at *;simp only[El (s:=s) (s':={ s with bu:=b,fQ:=x,aw:=pl,aa:=ob,stack:=st,bC:=ni,bF:=ns }) hlen,hlen,aN,ah] at *;exact h
theorem uD {α:Type}{xs:List α}{i:Nat}{t:α}(h:xs[i]? = some t):xs.set i t=xs:=by
 refine List.ext_getElem? fun j=>?_
 by_cases e:i=j
 ·subst e;rw[List.getElem?_set_self (an.1 h).1,h]
 ·rw[List.getElem?_set_ne e]
def zG (z w z' p':Int):Prop:=z=z'/\(z=0\/z=4\/w=p')
instance {z w z' p':Int}:Decidable (zG z w z' p'):=by unfold zG;exact inferInstance
theorem xj (s:aq)(z w:Int)(l:List Int)(z' p':Int)(h:z=0\/z=4\/(1<=z/\z<=3/\0<=w/\w < s.aw.length)):bY (fA s z w l) z' p'=if zG z w z' p' then l else bY s z' p':=by
 rcases h with rfl|rfl|⟨h1,h2,h3,h4⟩
 ·have e:fA s 0 w l={ s with bu:=l }:=by unfold fA;rfl
  rw[e]
  by_cases hz:z'=0
  ·subst hz;rw[if_pos ⟨rfl,.inl rfl⟩];exact lH p'
  ·rw[if_neg fun h=>hz h.1.symm];unfold bY;rw[if_neg (show ¬ (z'==0)=true by simpa using hz),if_neg (show ¬ (z'==0)=true by simpa using hz)]
 ·have e:fA s 4 w l={ s with fQ:=l }:=by unfold fA;rfl
  rw[e]
  by_cases hz:z'=4
  ·subst hz;rw[if_pos ⟨rfl,.inr (.inl rfl)⟩];exact mV p'
  ·rw[if_neg fun h=>hz h.1.symm];unfold bY;rw[if_neg (show ¬ (z'==4)=true by simpa using hz),if_neg (show ¬ (z'==4)=true by simpa using hz)]
 ·have aU:w.toNat < s.aw.length:=by omega
  obtain⟨x,hx⟩:∃ x,s.aw[w.toNat]? = some x:=⟨_,ag aU⟩
  have e:fA s z w l={ s with aw:=s.aw.set w.toNat (nE x z l) }:=by
   unfold fA;rw[if_neg (by simp;omega),if_neg (by simp;omega),if_neg (by omega),hx]
  rw[e]
  by_cases hs:zG z w z' p'
  ·rw[if_pos hs];obtain⟨rfl,hs⟩:=hs;obtain rfl:w=p':=hs.elim (fun h=>by omega) fun h=>h.elim (fun h=>by omega) id;unfold bY;rw[if_neg (by simp;omega),if_neg (by simp;omega),if_neg (by simp only[bQ];omega)];simp only[List.getElem?_set_self aU];unfold nE;rcases(by omega:z=1\/z=2\/z=3) with rfl|rfl|rfl <;> rfl
  ·rw[if_neg hs];unfold bY;simp only[bQ];split
   ·rfl
   split
   ·rfl
   split
   ·rfl
   rename_i h0 h4' hp
   by_cases hw:w.toNat=p'.toNat
   ·have:w=p':=by omega
    subst this;have hz:¬ z=z':=fun e=>hs ⟨e,.inr (.inr rfl)⟩;simp only[List.getElem?_set_self aU,hx];have Gw:¬ z'=z:=fun e=>hz e.symm;rcases(by omega:z=1\/z=2\/z=3) with rfl|rfl|rfl <;> simp[nE,Gw]
   ·rw[List.getElem?_set_ne hw]
theorem UH {l:List az}(hs:l.Pairwise fun a b=>a.id < b.id){i:Nat}(hi:i < l.length){x:az}:x∈l.take i++l.drop (i+1)↔x∈l/\x.id≠l[i].id:=by
 have hp:=List.pairwise_iff_getElem.1 hs;rw[bh];constructor
 ·rintro(h|h)
  ·obtain⟨j,hj,rfl⟩:=bD.1 h;rw[au] at hj;rw[List.getElem_take];have:=hp j i (by omega) hi (by omega);exact⟨aH _,by omega⟩
  ·obtain⟨j,hj,rfl⟩:=bD.1 h;rw[aO] at hj;rw[List.getElem_drop];have:=hp i (i+1+j) hi (by omega) (by omega);exact⟨aH _,by omega⟩
 ·rintro⟨h,iR⟩;obtain⟨j,hj,rfl⟩:=bD.1 h;rcases Nat.lt_trichotomy j i with h|h|h
  ·exact .inl (bD.2 ⟨j,by rw[au];omega,by rw[List.getElem_take]⟩)
  ·subst h;exact absurd rfl iR
  ·exact .inr (bD.2 ⟨j - (i+1),by rw[aO];omega,by rw[List.getElem_drop];congr 1;omega⟩)
theorem UG {l:List az}(i:Nat):(l.take i++l.drop (i+1)).Sublist l:=by
 rw[<- List.eraseIdx_eq_take_drop_succ];exact List.eraseIdx_sublist l i
theorem LF (h:kj q c s){i:Nat}(hi:i < s.aa.length)(z p:Int):bY (lW s s.aa[i].id i s.aa[i]) z p=(bY s z p).filter fun x=>x != s.aa[i].id:=by
 have hm:=aH hi;have ho:=(h.obj _ hm).1;unfold mh at ho;simp only[ah,cu,decide_eq_false_iff_not] at ho;have e:bY (lW s s.aa[i].id i s.aa[i]) z p=bY (fA s s.aa[i].cn s.aa[i].dq ((bY s s.aa[i].cn s.aa[i].dq).filter fun x=>x != s.aa[i].id)) z p:=rfl;rw[e]
 have keep:¬ zG s.aa[i].cn s.aa[i].dq z p->bY s z p=(bY s z p).filter fun x=>x != s.aa[i].id:=fun hs=>by
  refine(List.filter_eq_self.2 fun x hx=>?_).symm;obtain⟨o,ho,h1,h2,h3⟩:=h.Vg z p x hx;rw[bne_iff_ne];intro e;have:=DE h.s8 ho hm (h1.trans e);subst this;refine hs ⟨h2,?_⟩;rw[h2];rcases h3 with h3|h3|h3
  ·exact .inl h3
  ·exact .inr (.inl h3)
  ·exact .inr (.inr h3)
 by_cases h5:s.aa[i].cn=5
 ·rw[h5]
  have e5:∀ l,fA s 5 s.aa[i].dq l=s:=fun l=>by
   unfold fA;rw[if_neg (by decide),if_neg (by decide)];split
   ·rfl
   ·split
    ·rename_i x hx;have:nE x 5 l=x:=rfl;rw[this];have:s.aw.set s.aa[i].dq.toNat x=s.aw:=uD hx;rw[this]
    ·rfl
  rw[e5];refine(List.filter_eq_self.2 fun x hx=>?_).symm;obtain⟨o,ho,h1,h2,h3⟩:=h.Vg z p x hx;rw[bne_iff_ne];intro e;have:=DE h.s8 ho hm (h1.trans e);subst this;rw[h5] at h2;rcases uP s z p with e|⟨rfl,e⟩|⟨rfl,e⟩|⟨j,hj,rfl,⟨rfl,e⟩|⟨rfl,e⟩|⟨rfl,e⟩⟩
  ·rw[e] at hx;cases hx
  all_goals omega
 ·rw[xj _ _ _ _ _ _ (by omega)];split
  ·rename_i hs;obtain⟨h1,h2⟩:=hs
   have:bY s s.aa[i].cn s.aa[i].dq=bY s z p:=by
    rw[h1] at h2 ⊢;rcases h2 with rfl|rfl|rfl
    ·rw[lH,lH]
    ·rw[mV,mV]
    ·rfl
   rw[this]
  ·rename_i hs;exact keep hs
theorem _root_.Cg.kj.rem (h:kj q c s){i:Nat}(hi:i < s.aa.length):kj q c (lW s s.aa[i].id i s.aa[i]):=by
 have hl:=LF h hi;obtain⟨b,x,pl,e,hlen,om⟩:=pk s s.aa[i].cn s.aa[i].dq ((bY s s.aa[i].cn s.aa[i].dq).filter fun y=>y != s.aa[i].id)
 have hT:lW s s.aa[i].id i s.aa[i]={ s with bu:=b,fQ:=x,aw:=pl,aa:=s.aa.take i++s.aa.drop (i+1),stack:=s.stack.filter (kG s.aa[i].id) }:=by
  unfold lW;rw[e]
 rw[hT] at hl ⊢;have hm:=aH hi;have alS:=fun y=>UH h.s8 hi (x:=y);refine⟨h.J7,h.jo,?_,by rw[hlen];exact h.npl,Jr hlen h.sc,om h.ply,h.s8.sublist (UG i),fun o ho=>?_,fun z p id hid=>?_,fun z p=>by rw[hl];exact List.Pairwise.filter _ (h.nod z p),fun o ho h5=>?_,fun o ho h5=>?_,?_,List.Pairwise.filter _ h.Tu,fun y hy=>?_,⟨h.wt.1,fun y hy=>by rw[vU (s:=s) hlen];exact h.wt.2 y hy⟩,h.XW.1,fun y hy=>xR (s:=s) (by exact hlen) (by exact Int.le_refl _) (h.XW.2 y hy)⟩
 ·have:=h.Ez;simp only[al,au,aO];omega
 ·rw[hlen];exact h.obj o ((alS o).1 ho).1
 ·rw[hl] at hid;obtain⟨h1,h2⟩:=List.mem_filter.1 hid;obtain⟨o,g1,g2,g3⟩:=h.Vg z p id h1;rw[bne_iff_ne] at h2;exact⟨o,(alS o).2 ⟨g1,by rw[g2];exact h2⟩,g2,g3⟩
 ·obtain⟨h1,h2⟩:=(alS o).1 ho;rw[hl];exact List.mem_filter.2 ⟨h.plc o h1 h5,by rw[bne_iff_ne];exact h2⟩
 ·obtain⟨h1,h2⟩:=(alS o).1 ho;obtain⟨y,hy,g1,g2⟩:=h.UE o h1 h5;refine⟨y,List.mem_filter.2 ⟨hy,?_⟩,g1,g2⟩;unfold kG;rw[g2,cC];exact .inr (by rw[bne_iff_ne];exact h2)
 ·have:=h.P4;have:=cE (kG s.aa[i].id) s.stack;show((s.stack.filter (kG s.aa[i].id)).length:Int)<=64;omega
 ·obtain⟨hy,hk⟩:=List.mem_filter.1 hy;obtain⟨h1,⟨h2,h3,h4⟩,h5⟩:=h.itm y hy;refine⟨h1,⟨h2,h3,by rw[El (s:=s) hlen];exact h4⟩,?_⟩;rcases h5 with⟨g1,g2,⟨o,g3,g4,g5⟩,g6⟩|⟨g1,g2,g3⟩
  ·refine .inl ⟨g1,g2,⟨o,(alS o).2 ⟨g3,?_⟩,g4,g5⟩,g6⟩;unfold kG at hk;rw[g1] at hk;simp at hk;rw[g4];exact hk
  ·exact .inr ⟨g1,fun o ho=>g2 o ((alS o).1 ho).1,g3⟩
theorem _root_.Cg.kj.add {s':aq}(h:kj q c s)(x:az)(hn:s.bC+1<=1000001/\s.bF+1<=1000001)(e1:s'.bC=s.bC+1)(e2:s'.bF=s.bF+1)(eo:s'.aa=s.aa++[x])(hl:s.aa.length+1<=2048)(ep:s'.aw.length=s.aw.length)(hp:∀ p∈s'.aw,oO p=true)(hsc:Yv s'=true)(est:s'.stack=s.stack)(ew:s'.iM=s.iM)(ec:s'.dD=s.dD)(hx:mh x c s.aw.length=true/\x.id=s.bC/\x.dG=s.bF/\x.cn≠5)
  (hL:∀ z p,(bY s' z p).Perm (if zG x.cn x.dq z p then x.id :: bY s z p else bY s z p)):kj q c s':=by
 obtain⟨SV,NR,hx3,hx5⟩:=hx;have h0:=h.J7;have h1:=h.jo
 have hold:∀ z p id,id∈bY s z p->id < s.bC:=fun z p id hid=>by
  obtain⟨o,ho,g1,_⟩:=h.Vg z p id hid;rw[<- g1];exact(h.obj o ho).2.1
 refine⟨by omega,by omega,by rw[eo,al];simp;omega,by rw[ep];exact h.npl,hsc,hp,?_,fun o ho=>?_,fun z p id hid=>?_,fun z p=>?_,fun o ho h5=>?_,fun o ho h5=>?_,by rw[est];exact h.P4,by rw[est];exact h.Tu,fun y hy=>?_,?_,?_⟩
 ·rw[eo,List.pairwise_append];refine⟨h.s8,List.pairwise_singleton _ _,fun a ha b hb=>?_⟩;rw[aJ.1 hb,NR];exact(h.obj a ha).2.1
 ·rw[ep,e1,e2];rw[eo] at ho;rcases bh.1 ho with ho|ho
  ·have:=h.obj o ho;exact⟨this.1,by omega,by omega⟩
  ·rw[aJ.1 ho];exact⟨SV,by omega,by omega⟩
 ·rw[eo];have hid:=(hL z p).mem_iff.1 hid
  have nM:id∈bY s z p->∃ o∈s.aa++[x],o.id=id/\o.cn=z/\(z=0\/z=4\/o.dq=p):=fun hid=>by
   obtain⟨o,ho,g⟩:=h.Vg z p id hid;exact⟨o,bR _ ho,g⟩
  split at hid
  ·rename_i hs;rcases List.mem_cons.1 hid with rfl|hid
   ·refine⟨x,bT _ aB,rfl,hs.1,?_⟩;rw[<- hs.1];exact hs.2
   ·exact nM hid
  ·exact nM hid
 ·refine(hL z p).nodup_iff.2 ?_;split
  ·exact List.nodup_cons.2 ⟨fun hm=>by have:=hold z p _ hm;omega,h.nod z p⟩
  ·exact h.nod z p
 ·rw[eo] at ho;refine(hL _ _).mem_iff.2 ?_;rcases bh.1 ho with ho|ho
  ·have:=h.plc o ho h5;split
   ·exact aM _ this
   ·exact this
  ·rw[aJ.1 ho,if_pos ⟨rfl,.inr (.inr rfl)⟩];exact aB
 ·rw[est];rw[eo] at ho;rcases bh.1 ho with ho|ho
  ·exact h.UE o ho h5
  ·rw[aJ.1 ho] at h5;exact absurd h5 hx5
 ·rw[est] at hy;obtain⟨h1,⟨h2,h3,h4⟩,h5⟩:=h.itm y hy;refine⟨by rw[e1];omega,⟨h2,h3,by rw[El (s:=s) ep];exact h4⟩,?_⟩;rw[eo];rcases h5 with⟨g1,g2,⟨o,g3,g4⟩,g6⟩|⟨g1,g2,g3⟩
  ·exact .inl ⟨g1,g2,⟨o,bR _ g3,g4⟩,g6⟩
  ·refine .inr ⟨g1,fun o ho=>?_,g3⟩;rcases bh.1 ho with ho|ho
   ·exact g2 o ho
   ·rw[aJ.1 ho];omega
 ·rw[ew];exact⟨h.wt.1,fun y hy=>by rw[vU (s:=s) ep];exact h.wt.2 y hy⟩
 ·rw[ec];exact⟨h.XW.1,fun y hy=>xR (s:=s) ep (by omega) (h.XW.2 y hy)⟩
end
theorem GH (k:Int)(o:az):(pL k o).id=o.id/\(pL k o).cn=o.cn/\(pL k o).dq=o.dq/\(pL k o).dG=o.dG/\(pL k o).token=o.token/\(pL k o).ee=o.ee:=by
 unfold pL;split <;> exact⟨rfl,rfl,rfl,rfl,rfl,rfl⟩
theorem Cr (l:List az)(id:Int)(g:az->az)(hg:∀ o,(g o).id=o.id):eh (l.map g) id=eh l id:=by
 unfold eh;rw[List.find?_map,Option.isSome_map];congr 2
 funext o
 simp[hg]
theorem M9 (l:List az)(id:Int)(g:az->az)(hg:∀ o,(g o).id=o.id)(h:eh l id=true):cb (l.map g) id=g (cb l id):=by
 unfold eh at h;unfold cb;rw[List.find?_map]
 have e:((fun o:az=>o.id==id) ∘ g)=fun o=>o.id==id:=by
  funext o
  simp[hg]
 rw[e]
 cases hf:l.find? fun o=>o.id==id with
 | none=>rw[hf] at h;cases h
 | some o=>rfl
theorem vJ {l:List az}{id:Int}(h:eh l id=true):∃ (i:Nat) (hi:i < l.length),l.findIdx? (fun o=>o.id==id)=some i/\cb l id=l[i]/\l[i].id=id:=by
 have hm:=gL h;unfold eh at h;unfold cb at hm ⊢;rcases jb (fun o:az=>o.id==id) l with⟨_,_,e⟩|⟨i,hi,_,e1,e2⟩
 ·rw[e] at h;cases h
 ·rw[e2] at hm ⊢;exact⟨i,hi,e1,rfl,hm.2⟩
section
variable {q:uA}{c:Int}{s:aq}
theorem fR (n:Int):-1000000<=dx n/\dx n<=1000000:=by
 unfold dx;split
 ·omega
 split <;> omega
theorem pC (a b:Int):0<=n5 a b/\n5 a b<=1000000:=by
 have:=fR (dx a+dx b);unfold n5 fK;split <;> omega
theorem FV {n:Int}(h0:-1000000<=n)(h1:n<=1000000):dx n=n:=by
 unfold dx;rw[if_neg (by omega),if_neg (by omega)]
theorem zr:(0:Int)<=0/\(0:Int)<=1000000:=by decide
structure De (c n:Int)(o:az):Prop where
 id:1<=o.id
 ee:0<=o.ee/\o.ee < c
 own:0<=o.dq/\o.dq < n
 ctl:0<=o.dB/\o.dB < n
 cn:0<=o.cn/\o.cn<=5
 dmg:0<=o.fX/\o.fX<=1000000
 dG:0<=o.dG/\o.dG<=1000000
 blocks:0<=o.blocks/\o.blocks<=1000000
 nD:0<=o.nD/\o.nD<=1000000
 c0:0<=o.de/\o.de<=1000000
 c1:0<=o.dd/\o.dd<=1000000
 c2:0<=o.dA/\o.dA<=1000000
 copy:-1<=o.copy/\o.copy < c
 att:-1<=o.j3/\o.j3 < n
 rest:o.cn=0\/wy o=true
theorem oQ {c n:Int}{o:az}:mh o c n=true↔De c n o:=by
 unfold mh Ax;simp only[ah,cC,cu,decide_eq_false_iff_not,beq_iff_eq];refine⟨fun ⟨⟨a1,a2,a3,a4,a5,a6,a7,a8,a9⟩,⟨b1,b2,b3,b4,b5,b6,b7,b8⟩,⟨⟨⟨c1,c2⟩,⟨c3,c4⟩,c5,c6⟩,d1,d2,d3,d4⟩,r⟩=>?_,fun h=>?_⟩
 ·exact⟨by omega,by omega,by omega,by omega,by omega,by omega,by omega,by omega,by omega,by omega,by omega,by omega,by omega,by omega,r⟩
 ·obtain⟨h1,h2,h3,h4,h5,h6,h7,h8,h9,k1,k2,k3,k4,k5,k6⟩:=h;exact⟨⟨by omega,by omega,by omega,by omega,by omega,by omega,by omega,by omega,by omega⟩,⟨by omega,by omega,by omega,by omega,by omega,by omega,by omega,by omega⟩,⟨⟨⟨by omega,by omega⟩,⟨by omega,by omega⟩,by omega,by omega⟩,by omega,by omega,by omega,by omega⟩,k6⟩
theorem Eg {l:List az}(hs:l.Pairwise fun a b=>a.id < b.id){o o':az}(ho:o∈l)(e:o'.id=o.id):ql l o'=l.map fun y=>if y.id=o.id then o' else y:=by
 obtain⟨i,hi,e1,_,e3⟩:=vJ (ke.2 ⟨o,ho,rfl⟩);unfold ql;rw[e,e1];refine List.ext_getElem? fun j=>?_;rw[bI]
 by_cases hj:i=j
 ·subst hj;rw[List.getElem?_set_self hi,ag hi];simp only[Option.map_some];rw[if_pos e3]
 ·rw[List.getElem?_set_ne hj]
  cases hq:l[j]? with
  | none=>rfl
  | some y=>
   obtain⟨oY,rfl⟩:=an.1 hq
   have:¬ l[j].id=o.id:=fun e=>by
    have hp:=List.pairwise_iff_getElem.1 hs;rcases Nat.lt_or_gt_of_ne hj with h|h
    ·have:=hp i j hi oY h;omega
    ·have:=hp j i oY hi h;omega
   simp only[Option.map_some];rw[if_neg this]
theorem BR (h:kj q c s){o o':az}(ho:o∈s.aa)(e:o'.id=o.id/\o'.cn=o.cn/\o'.dq=o.dq/\o'.dG=o.dG)(mI:De c s.aw.length o'):kj q c (fm s o'):=by
 unfold fm;rw[Eg h.s8 ho e.1];refine h.map _ fun y hy=>?_;split
 ·rename_i hid;have:=DE h.s8 hy ho hid;subst this;exact⟨e.1,e.2.1,e.2.2.1,e.2.2.2,oQ.2 mI⟩
 ·exact⟨rfl,rfl,rfl,rfl,(h.obj y hy).1⟩
theorem kN {o:az}(h:kj q c s)(ho:o∈s.aa):De c s.aw.length o:=oQ.1 (h.obj o ho).1
theorem Jf (h:kj q c s)(k:Int):kj q c (tm s k):=h.map _ fun o ho=>by
 obtain⟨h1,h2,h3,h4,_⟩:=GH k o;refine⟨h1,h2,h3,h4,?_⟩;have hv:=kN h ho;unfold pL;split
 ·obtain⟨g1,g2,g3,g4,g5,g6,g7,g8,g9,k1,k2,k3,k4,k5,k6⟩:=hv;refine oQ.2 ⟨g1,g2,g3,g4,g5,g6,g7,zr,g9,k1,k2,k3,k4,k5,k6.imp id fun hr=>?_⟩;unfold wy at *;simp only[ah] at *;obtain⟨a,b,_,d⟩:=hr;exact⟨a,b,rfl,d⟩
 ·exact oQ.2 hv
theorem Wl {n:Int}{o:az}(hv:De c n o)(h0:o.cn=0)(e:bG):De c n (RH e o):=by
 obtain⟨g1,g2,g3,g4,g5,g6,g7,g8,g9,k1,k2,k3,k4,k5,k6⟩:=hv;exact⟨g1,g2,g3,g4,g5,g6,g7,g8,g9,pC _ _,pC _ _,pC _ _,k4,k5,.inl h0⟩
theorem WD (h:kj q c s)(id:Int)(e:bG)(h0:eh s.aa id=true->(cb s.aa id).cn=0):kj q c (mG s id e):=by
 unfold mG
 by_cases hh:eh s.aa id=true
 ·rw[if_pos hh];have hm:=(gL hh).1;exact BR h hm ⟨rfl,rfl,rfl,rfl⟩ (Wl (kN h hm) (h0 hh) e)
 ·rw[if_neg hh];exact h
theorem Eh {l:List az}{x:az}(h:∀ y∈l,y.id < x.id):ql l x=l++[x]:=by
 unfold ql
 have e:l.findIdx? (fun y=>y.id==x.id)=none:=List.findIdx?_eq_none_iff.2 fun y hy=>by
  have:=h y hy;simp only[beq_eq_false_iff_ne,ne_eq];omega
 rw[e];show MJ l x=_;unfold MJ;have e2:(l.takeWhile fun y=>decide (y.id < x.id)).length=l.length:=mw _ l l.length (ak _) (fun j hj _=>decide_eq_true (h _ (aH hj))) (.inl rfl);rw[e2,bj,List.drop_length,aW]
theorem U3 {n id ee p z st:Int}(h1:1<=id)(h2:0<=ee/\ee < c)(h3:0<=p/\p < n)(h4:0<=z/\z<=4)(h5:0<=st/\st<=1000000)(tk:Bool)(ct:Int)(h6:0<=ct/\ct < n):De c n { rM id ee p z st with token:=tk,dB:=ct,qh:=z==0 }:=by
 refine⟨h1,h2,h3,h6,⟨h4.1,show z<=5 by omega⟩,zr,h5,zr,zr,zr,zr,zr,⟨Int.le_refl _,show(-1:Int) < c by omega⟩,⟨Int.le_refl _,show(-1:Int) < n by omega⟩,?_⟩
 by_cases hz:z=0
 ·exact .inl hz
 ·right;have:(z==0)=false:=by simpa using hz
  unfold wy rM nz;simp only[this];rfl
theorem P8 (i:Nat)(o:az)(id:Int):(lW s id i o).bC=s.bC/\(lW s id i o).bF=s.bF/\(lW s id i o).aw.length=s.aw.length:=by
 obtain⟨b,x,pl,e,hlen,_⟩:=pk s o.cn o.dq ((bY s o.cn o.dq).filter fun y=>y != id);unfold lW;rw[e];exact⟨rfl,rfl,hlen⟩
structure alR (q:uA)(c:Int)(s:aq)(z:Int)(r:aq × Int):Prop where
 val:kj q c r.1
 J7:s.bC<=r.1.bC/\r.1.bC<=s.bC+1
 fnd:eh r.1.aa r.2=true->(cb r.1.aa r.2).cn=z
theorem rO (h:kj q c s)(id z p:Int)(b:Bool)(hid:eh s.aa id=true)(hz:0<=z/\z<=4)(hp:0<=p/\p < s.aw.length)(hn:s.bC+1<=1000001/\s.bF+1<=1000001):alR q c s z (kE s id z p b):=by
 obtain⟨i,hi,e1,_,rfl⟩:=vJ hid;have hv:=kN h (aH hi);have hR:=h.rem hi;obtain⟨n1,n2,n3⟩:=P8 (s:=s) i s.aa[i] s.aa[i].id
 have n4:(lW s s.aa[i].id i s.aa[i]).aa.length+1=s.aa.length:=by
  show(s.aa.take i++s.aa.drop (i+1)).length+1=_;simp only[al,au,aO];omega
 unfold kE;rw[e1];simp only[ag hi];unfold nP;rw[if_neg (by omega)];generalize lW s s.aa[i].id i s.aa[i]=R at *;have h1:=hR.J7;have h2:=hR.jo;split
 ·refine⟨hR,⟨by show s.bC<=R.bC;omega,by show R.bC<=s.bC+1;omega⟩,fun hh=>?_⟩;obtain⟨o,ho,e⟩:=ke.1 hh;have h3:=(kN hR ho).id;have e:o.id=0:=e;omega
 ·obtain⟨x,hx⟩:∃ x,x=z6 R s.aa[i] z p:=⟨_,rfl⟩
  rw[<- hx]
  have NQ:De c R.aw.length x:=by
   rw[hx,n3];refine U3 h1.1 hv.ee hv.own hz ⟨by omega,by omega⟩ _ _ ?_;have:=hv.own;split <;> omega
  have x1:x.id=R.bC:=by rw[hx];rfl
  have x2:x.dG=R.bF:=by rw[hx];rfl
  have x3:x.cn=z:=by rw[hx];rfl
  have x4:x.dq=s.aa[i].dq:=by rw[hx];rfl
  have iN:∀ y∈R.aa,y.id < x.id:=fun y hy=>by rw[x1];exact(hR.obj y hy).2.1
  have aqN:ql R.aa x=R.aa++[x]:=Eh iN;unfold J9;generalize hL:(if (z==2&&!b)=true then x.id :: bY (fm R x) z x.dq else bY (fm R x) z x.dq++[x.id])=L
  have hLp:L.Perm (x.id :: bY R z x.dq):=by
   rw[<- hL];split
   ·exact .refl _
   ·exact List.perm_append_singleton _ _
  obtain⟨bf,ex,pl,e,hlen,om⟩:=pk (fm R x) z x.dq L;have hw:∀ n:Int,1<=n->n<=1000001->IntKind.i64.wrap (n+1)=n+1:=fun n _ _=>by rw[bp];omega
  have hT:rN (fA (fm R x) z x.dq L)={ R with bu:=bf,fQ:=ex,aw:=pl,aa:=R.aa++[x],bC:=R.bC+1,bF:=R.bF+1 }:=by
   rw[e];unfold rN fm;simp only[aqN,hw _ h1.1 h1.2,hw _ h2.1 h2.2]
  have sg:kj q c (rN (fA (fm R x) z x.dq L)):=by
   have aaL:∀ z' p',bY (rN (fA (fm R x) z x.dq L)) z' p'=bY (fA (fm R x) z x.dq L) z' p':=fun _ _=>rfl;refine hR.add x ⟨by omega,by omega⟩ ?_ ?_ ?_ ?_ ?_ ?_ ?_ ?_ ?_ ?_ ⟨oQ.2 NQ,x1,x2,by omega⟩ fun z' p'=>?_
   ·rw[hT]
   ·rw[hT]
   ·rw[hT]
   ·have:=h.Ez;omega
   ·rw[hT];exact hlen
   ·rw[hT];exact om hR.ply
   ·rw[hT];exact Jr hlen hR.sc
   ·rw[hT]
   ·rw[hT]
   ·rw[hT]
   ·rw[aaL,xj _ _ _ _ _ _ (by have:=NQ.own;have:(fm R x).aw.length=R.aw.length:=rfl;omega),x3];split
    ·rename_i hs
     have:bY R z x.dq=bY R z' p':=by
      obtain⟨rfl,hs⟩:=hs;rcases hs with rfl|rfl|rfl
      ·rw[lH,lH]
      ·rw[mV,mV]
      ·rfl
     rw[<- this];exact hLp
    ·exact .refl _
  refine⟨sg,?_,fun hh=>?_⟩
  ·show s.bC<=(rN (fA (fm R x) z x.dq L)).bC/\(rN (fA (fm R x) z x.dq L)).bC<=s.bC+1;rw[hT];exact⟨show s.bC<=R.bC+1 by omega,show R.bC+1<=s.bC+1 by omega⟩
  ·have hm:x∈(rN (fA (fm R x) z x.dq L)).aa:=by
    rw[hT];exact bT _ aB
   show(cb (rN (fA (fm R x) z x.dq L)).aa x.id).cn=z;rw[xL sg.s8 hm];exact x3
theorem Jc (h:kj q c s):eh s.aa 0=false:=by
 rw[<- Bool.not_eq_true,ke];rintro⟨o,ho,e⟩;have:=(kN h ho).id;omega
structure ou (q:uA)(c k:Int)(s t:aq):Prop where
 val:kj q c t
 J7:s.bC<=t.bC/\t.bC<=s.bC+k
theorem ou.refl (h:kj q c s){k:Int}(hk:0<=k):ou q c k s s:=⟨h,Int.le_refl _,by omega⟩
theorem WG (id:Int)(e:bG):(mG s id e).bC=s.bC/\(mG s id e).bF=s.bF/\(mG s id e).aw=s.aw:=by
 unfold mG;split <;> exact⟨rfl,rfl,rfl⟩
theorem Zo (h:kj q c s)(e:bG)(hid:eh s.aa e.aL=true)(hz:0<=e.nk/\e.nk<=4)(hp:0<=e.bK/\e.bK < s.aw.length)(hn:s.bC+1<=1000001/\s.bF+1<=1000001):ou q c 1 s (J8 s e):=by
 obtain⟨s0,hs0⟩:∃ s0,s0=(if e.from_=0 then tm s e.aL else s):=⟨_,rfl⟩
 have h0:kj q c s0/\eh s0.aa e.aL=true/\s0.bC=s.bC/\s0.bF=s.bF/\s0.aw=s.aw:=by
  rw[hs0];split
  ·exact⟨Jf h _,by rw[show(tm s e.aL).aa=s.aa.map (pL e.aL) from rfl,Cr _ _ _ fun o=>(GH _ o).1];exact hid,rfl,rfl,rfl⟩
  ·exact⟨h,hid,rfl,rfl,rfl⟩
 obtain⟨h1,h2,h3,h4,h5⟩:=h0;have hm:=rO h1 e.aL e.nk e.bK (e.bB==1) h2 hz (by rw[h5];exact hp) (by omega);have aAd:=hm.J7;unfold J8;rw[<- hs0];simp only;split
 ·rename_i ht;refine⟨WD hm.val _ _ fun hh=>by rw[hm.fnd hh,ht],?_⟩;rw[(WG _ _).1];omega
 ·exact⟨hm.val,by omega⟩
theorem rH {p:bO}:oO p=true↔(-1000000<=p.jC/\p.jC<=1000000)/\(0<=p.ll/\p.ll<=1000000)/\(0<=p.Aj/\p.Aj<=1000000)/\oG p.wL p.wK p.wJ p.wI p.wH p.wG=true:=by
 unfold oO;rw[ah,ah,ah,py,py,py]
theorem Qu (h:kj q c s)(e:bG)(hp:0<=e.bK/\e.bK < s.aw.length)(ha:e.kind≠17->1<=e.bB)(hb:∀ p∈s.aw,p.dt.length<=1099511627776):kj q c (ka s e):=by
 have aU:e.bK.toNat < s.aw.length:=by omega
 have hx:s.aw[e.bK.toNat]? = some s.aw[e.bK.toNat]:=ag aU;unfold ka;rw[hx];simp only;generalize hxx:s.aw[e.bK.toNat]=x at *;have hm:x∈s.aw:=by rw[<- hxx];exact aH aU
 have hN:=h.ply x hm;have hN2:=rH.1 hN;unfold Nw;split
 ·exact h.Mh _ _ hx (rH.2 ⟨fR _,hN2.2⟩) (.refl _) (.refl _) (.refl _)
 split
 ·exact h.Mh _ _ hx (rH.2 ⟨fR _,hN2.2⟩) (.refl _) (.refl _) (.refl _)
 split
 ·rename_i h16;refine h.Mh _ _ hx (rH.2 ⟨hN2.1,⟨?_,(fR _).2⟩,hN2.2.2⟩) (.refl _) (.refl _) (.refl _);show 0<=dx (dx x.ll+dx e.bB);have h1:=hN2.2.1;rw[FV (n:=x.ll) (by omega) (by omega)];have h2:=ha (by omega)
  have h3:0<=dx e.bB:=by
   unfold dx;split
   ·omega
   split <;> omega
  unfold dx at h3 ⊢;split
  ·omega
  split <;> omega
 split
 ·exact h.Mh _ _ hx hN (.refl _) (GV _ _ (hb x hm)) (.refl _)
 ·exact h.Mh _ _ hx hN (.refl _) (.refl _) (.refl _)
theorem RP (h:kj q c s)(p:Int)(hp:0<=p/\p < s.aw.length)(hn:s.bC+1<=1000001/\s.bF+1<=1000001):ou q c 1 s (nf s p):=by
 have aU:p.toNat < s.aw.length:=by omega
 have hx:s.aw[p.toNat]? = some s.aw[p.toNat]:=ag aU;unfold nf;rw[hx];simp only;split
 ·unfold Og;rw[hx];exact⟨h.Mh _ s.gy hx (show oO s.aw[p.toNat]=true from h.ply _ (aH aU)) (.refl _) (.refl _) (.refl _),Int.le_refl _,show s.bC<=s.bC+1 by omega⟩
 ·rename_i id rest hl
  have hid:id∈bY s 2 p:=by
   obtain⟨n,rfl⟩:∃ n:Nat,p=n:=⟨p.toNat,by omega⟩
   rw[EK (by omega)];have:(n:Int).toNat=n:=by omega
   rw[show s.aw[n]=s.aw[(n:Int).toNat] from rfl,hl];exact aB
  obtain⟨o,ho,e1,_⟩:=h.Vg 2 p id hid;have hm:=rO h id 1 p false (ke.2 ⟨o,ho,e1⟩) (by omega) hp hn;exact⟨hm.val,hm.J7⟩
theorem mL {i k a n:Int}(h:0<=a/\a<=1000000):0<=lV i k a n/\lV i k a n<=1000000:=by
 unfold lV;split
 ·exact pC _ _
 ·exact h
theorem H4 (d:Bool)(e:bG)(o:az):(im d e o).id=o.id/\(im d e o).cn=o.cn/\(im d e o).dq=o.dq/\(im d e o).dG=o.dG:=by
 unfold im
 repeat' (first|exact⟨rfl,rfl,rfl,rfl⟩|split)
theorem Qh {n:Int}{o:az}(hv:De c n o)(h0:o.cn=0)(d:Bool)(e:bG)(ha:e.kind=1->1<=e.bB)(hp:e.kind=12->0<=e.bK/\e.bK < n)(hs:e.kind=13->0<=e.dC/\e.dC<=1000000):De c n (im d e o):=by
 obtain⟨g1,g2,g3,g4,g5,g6,g7,g8,g9,k1,k2,k3,k4,k5,k6⟩:=hv;unfold im;split
 ·rename_i hk;refine⟨g1,g2,g3,g4,g5,⟨?_,(fR _).2⟩,g7,g8,g9,k1,k2,k3,k4,k5,.inl h0⟩;show 0<=dx (dx o.fX+dx e.bB);have h2:=ha hk;rw[FV (n:=o.fX) (by omega) (by omega)]
  have h3:0<=dx e.bB:=by
   unfold dx;split
   ·omega
   split <;> omega
  unfold dx at h3 ⊢;split
  ·omega
  split <;> omega
 split
 ·exact⟨g1,g2,g3,g4,g5,g6,g7,g8,g9,k1,k2,k3,k4,k5,.inl h0⟩
 split
 ·exact⟨g1,g2,g3,g4,g5,g6,g7,g8,g9,k1,k2,k3,k4,k5,.inl h0⟩
 split
 ·exact⟨g1,g2,g3,g4,g5,g6,g7,g8,g9,mL k1,mL k2,mL k3,k4,k5,.inl h0⟩
 split
 ·exact⟨g1,g2,g3,g4,g5,g6,g7,g8,g9,mL k1,mL k2,mL k3,k4,k5,.inl h0⟩
 split
 ·rename_i hk;have:=hp hk;exact⟨g1,g2,g3,g4,g5,g6,g7,g8,g9,k1,k2,k3,k4,⟨show -1<=e.bK by omega,this.2⟩,.inl h0⟩
 split
 ·rename_i hk;exact⟨g1,g2,g3,g4,g5,g6,g7,hs hk,g9,k1,k2,k3,k4,k5,.inl h0⟩
 ·exact⟨g1,g2,g3,g4,g5,g6,g7,g8,g9,k1,k2,k3,k4,k5,k6⟩
theorem nU {id:Int}(h:jP s id=true):eh s.aa id=true/\(cb s.aa id).cn=0:=by
 unfold jP at h;rw[ah,beq_iff_eq] at h;exact h
theorem PI (h:kj q c s){o o':az}(ho:o∈s.aa)(e:o'.id=o.id)(ez:o'.cn=o.cn){id:Int}(hh:jP s id=true):jP (fm s o') id=true:=by
 obtain⟨h1,h2⟩:=nU hh
 have hg:∀ y:az,((fun y:az=>if y.id=o.id then o' else y) y).id=y.id:=fun y=>by
  simp only;split
  ·rename_i hy;rw[e,hy]
  ·rfl
 unfold jP;rw[show(fm s o').aa=s.aa.map fun y=>if y.id=o.id then o' else y from Eg h.s8 ho e,Cr _ _ _ hg,h1,M9 _ _ _ hg h1];simp only[cq,beq_iff_eq];split
 ·rename_i hy;have:=DE h.s8 (gL h1).1 ho hy;rw[ez,<- this];exact h2
 ·exact h2
theorem PY (h:kj q c s)(all:List aD)(e:bG)(h0:eh s.aa e.aL=true->(cb s.aa e.aL).cn=0)(ha:e.kind=1->1<=e.bB)(hp:e.kind=12->0<=e.bK/\e.bK < s.aw.length)(hs:e.kind=13->jP s e.dC=true):kj q c (il s all e)/\(il s all e).bC=s.bC:=by
 unfold il
 by_cases hh:eh s.aa e.aL=true
 ·rw[if_pos hh];have hm:=(gL hh).1
  have Z7:e.kind=13->0<=e.dC/\e.dC<=1000000:=fun hk=>by
   obtain⟨g1,_⟩:=nU (hs hk);obtain⟨g2,g3⟩:=gL g1;have g4:=(kN h g2).id;have g5:=(h.obj _ g2).2.1;have:=h.J7;omega
  have h1:=BR h hm (H4 (gH s all e.dC) e (cb s.aa e.aL)) (Qh (kN h hm) (h0 hh) _ e ha hp Z7);simp only;split
  ·rename_i hk;have hq:=PI h hm (H4 (gH s all e.dC) e (cb s.aa e.aL)).1 (H4 (gH s all e.dC) e (cb s.aa e.aL)).2.1 (hs hk);obtain⟨s1,qL⟩:∃ s1,s1=fm s (im (gH s all e.dC) e (cb s.aa e.aL)):=⟨_,rfl⟩
   have vF:s1.bC=s.bC:=by rw[qL];rfl
   rw[<- qL] at h1 hq ⊢;obtain⟨g1,g2⟩:=nU hq;have gm:=(gL g1).1;obtain⟨v1,v2,v3,v4,v5,v6,v7,v8,v9,w1,w2,w3,w4,w5,_⟩:=kN h1 gm;exact⟨BR (o':={ cb s1.aa e.dC with blocked:=true }) h1 gm ⟨rfl,rfl,rfl,rfl⟩ ⟨v1,v2,v3,v4,v5,v6,v7,v8,v9,w1,w2,w3,w4,w5,.inl g2⟩,vF⟩
  ·exact⟨h1,rfl⟩
 ·rw[if_neg hh];exact⟨h,rfl⟩
theorem xi {p:Int}(h:mB s p=true):0<=p/\p < s.aw.length:=by
 unfold mB at h;split at h
 ·rename_i x hx;rw[ah,decide_eq_true_eq] at h;have:=(an.1 hx).1;omega
 ·cases h
theorem I5 {n:Int}(h:sS n=true):1<=n/\n<=1000000:=by
 unfold sS at h;rw[ah,decide_eq_true_eq,decide_eq_true_eq] at h;exact h
theorem acB {aE:List bd}(h:kj q aE.length s)(all:List aD)(e:bG)(hn:s.bC<=1000000/\s.bF<=1000000)(mZ:¬ e.kind=10)(hb:∀ p∈s.aw,p.dt.length<=1099511627776):ou q aE.length 100 s (ym aE s all e):=by
 have up:∀ {t:aq} {k:Int},k<=100->ou q aE.length k s t->ou q aE.length 100 s t:=fun hk h=>⟨h.val,h.J7.1,by have:=h.J7;omega⟩
 unfold ym
 by_cases eL:qD aE s e=true
 case neg=>rw[if_neg eL];exact ou.refl h (by decide)
 rw[if_pos eL]
 have obj:(e.kind=1\/e.kind=6\/e.kind=7\/e.kind=8\/e.kind=9\/e.kind=12\/e.kind=13)->jy s all e=il s all e:=fun hk=>by
  unfold jy;rw[if_neg (by omega),if_neg (by omega),if_neg (by omega),if_pos hk]
 have jC:(e.kind=4\/e.kind=5\/e.kind=16\/e.kind=17)->jy s all e=ka s e:=fun hk=>by
  unfold jy;rw[if_neg (by omega),if_pos hk]
 have Mm:(e.kind=1\/e.kind=6\/e.kind=7\/e.kind=8\/e.kind=9\/e.kind=12\/e.kind=13)->(eh s.aa e.aL=true->(cb s.aa e.aL).cn=0)->(e.kind=1->1<=e.bB)->(e.kind=12->0<=e.bK/\e.bK < s.aw.length)->(e.kind=13->jP s e.dC=true)->ou q aE.length 100 s (jy s all e):=fun hk g1 g2 g3 g4=>by
  rw[obj hk];obtain⟨a1,a2⟩:=PY h all e g1 g2 g3 g4;exact⟨a1,by omega⟩
 have Xq:(e.kind=4\/e.kind=5\/e.kind=16\/e.kind=17)->0<=e.bK/\e.bK < s.aw.length->(e.kind≠17->1<=e.bB)->ou q aE.length 100 s (jy s all e):=fun hk g1 g2=>by
  rw[jC hk];refine⟨Qu h e g1 g2 hb,?_⟩;have:(ka s e).bC=s.bC:=by unfold ka;split <;> rfl
  omega
 unfold qD at eL
 by_cases k1:e.kind=1
 ·rw[if_neg (by omega)];rw[if_pos k1,ah,cC,ah,beq_iff_eq] at eL;refine Mm (by omega) (fun hh=>?_) (fun _=>(I5 eL.1).1) (by omega) (by omega);rcases eL.2 with h1|h1
  ·exact(nU h1).2
  ·rw[h1.1,Jc h] at hh
   cases hh
 rw[if_neg k1] at eL
 by_cases k2:e.kind=2
 ·rw[if_pos k2];rw[if_pos k2] at eL;simp only[ah,beq_iff_eq,decide_eq_true_eq] at eL;obtain⟨a1,_,_,a2,a3,a4,a5⟩:=eL;exact up (by decide) (Zo h e a1 ⟨a2,a3⟩ ⟨a4,a5⟩ (by omega))
 rw[if_neg k2];rw[if_neg k2] at eL
 by_cases k3:e.kind=3\/e.kind=14\/e.kind=15\/e.kind=17
 ·rw[if_pos k3] at eL;have hp:=xi eL
  by_cases k17:e.kind=17
  ·exact Xq (by omega) hp (by omega)
  by_cases k33:e.kind=3
  ·have:jy s all e=nf s e.bK:=by unfold jy;rw[if_pos k33]
   rw[this];exact up (by decide) (RP h e.bK hp (by omega))
  ·have:jy s all e=s:=by
    unfold jy;rw[if_neg (by omega),if_neg (by omega),if_neg (by omega),if_neg (by omega)]
   rw[this];exact ou.refl h (by decide)
 rw[if_neg k3] at eL
 by_cases k4:e.kind=4\/e.kind=5\/e.kind=16
 ·rw[if_pos k4,ah] at eL;exact Xq (by omega) (xi eL.1) fun _=>(I5 eL.2).1
 rw[if_neg k4] at eL
 by_cases k6:e.kind=6
 ·rw[if_pos k6,ah] at eL;exact Mm (by omega) (fun _=>(nU eL.1).2) (by omega) (by omega) (by omega)
 rw[if_neg k6] at eL
 by_cases k7:e.kind=7
 ·rw[if_pos k7,ah] at eL;exact Mm (by omega) (fun _=>(nU eL.1).2) (by omega) (by omega) (by omega)
 rw[if_neg k7] at eL
 by_cases k8:e.kind=8\/e.kind=9
 ·rw[if_pos k8,ah] at eL;exact Mm (by omega) (fun _=>(nU eL.1).2) (by omega) (by omega) (by omega)
 rw[if_neg k8] at eL;have ZF:=mZ;rw[if_neg ZF] at eL
 by_cases Xx:e.kind=11
 ·have:jy s all e=s:=by
   unfold jy;rw[if_neg (by omega),if_neg (by omega),if_neg (by omega),if_neg (by omega)]
  rw[this];exact ou.refl h (by decide)
 rw[if_neg Xx] at eL
 by_cases VD:e.kind=12
 ·rw[if_pos VD,ah] at eL;exact Mm (by omega) (fun _=>(nU eL.1).2) (by omega) (fun _=>xi eL.2) (by omega)
 rw[if_neg VD] at eL
 by_cases VC:e.kind=13
 ·rw[if_pos VC,ah] at eL;exact Mm (by omega) (fun _=>(nU eL.1).2) (by omega) (by omega) fun _=>eL.2
 rw[if_neg VC] at eL
 cases eL
end
end
section
open Go Cg Go.RowKit Go.Shelf
theorem wrap_add (a b:Int):IntKind.i64.wrap (dx a+dx b)=dx a+dx b:=by
 have:=fR a;have:=fR b;rw[bp];omega
theorem N6 (a b:Int):IntKind.i64.wrap (dx a - dx b)=dx a - dx b:=by
 have:=fR a;have:=fR b;rw[bp];omega
theorem Mg (a:Int):∃ r:Int,(r=(dx a))/\Ct ae 167 [.c (.t (iv a))] (aEn r) [] true:=by
 refine cU (Φ:=fun (r:Int)=>r=(dx a)) kF (cX Tryz.func167 rfl (by kernel_rfl) rfl (aEl [] [] ?_))
 repeat' (first|(apply bN <;> intro _)|(exact bo _ (Ei [] (Ai rfl (Ai ea rfl))) (by unfold dx;(repeat' split) <;> omega) rfl))
theorem oN (a:Int):Ct ae 167 [.c (.t (iv a))] (aEn (dx a)) [] true:=by
 obtain⟨r,hr,h⟩:=Mg a;rw[hr] at h;exact h
theorem Ut (a:Int)(b:Int):∃ r:Int,(r=(fK a b))/\Ct ae 104 [.c (.t (iv a)),.c (.t (iv b))] (aEn r) [] true:=by
 refine cU (Φ:=fun (r:Int)=>r=(fK a b)) kF (cX Tryz.func104 rfl (by kernel_rfl) rfl (aEl [] [] ?_))
 repeat' (first|(exact bo _ (Ei [] (Ai rfl (Ai ea rfl))) (by unfold fK;rw[wrap_add]) rfl)|(apply aT 167;refine cF (oN _) ⟨rfl,ea⟩ ?_))
theorem lz (a:Int)(b:Int):Ct ae 104 [.c (.t (iv a)),.c (.t (iv b))] (aEn (fK a b)) [] true:=by
 obtain⟨r,hr,h⟩:=Ut a b;rw[hr] at h;exact h
theorem Ur (a:Int)(b:Int):∃ r:Int,(r=(rj a b))/\Ct ae 105 [.c (.t (iv a)),.c (.t (iv b))] (aEn r) [] true:=by
 refine cU (Φ:=fun (r:Int)=>r=(rj a b)) kF (cX Tryz.func105 rfl (by kernel_rfl) rfl (aEl [] [] ?_))
 repeat' (first|(exact bo _ (Ei [] (Ai rfl (Ai ea rfl))) (by unfold rj;rw[N6]) rfl)|(apply aT 167;refine cF (oN _) ⟨rfl,ea⟩ ?_))
theorem PE (a:Int)(b:Int):Ct ae 105 [.c (.t (iv a)),.c (.t (iv b))] (aEn (rj a b)) [] true:=by
 obtain⟨r,hr,h⟩:=Ur a b;rw[hr] at h;exact h
theorem Mn (a:Int):∃ r:Int,(r=(dx a))/\Ct ae 266 [.c (.t (iv a))] (aEn r) [] true:=by
 refine cU (Φ:=fun (r:Int)=>r=(dx a)) kF (cX Tryz.func266 rfl (by kernel_rfl) rfl (aEl [] [] ?_))
 repeat' (first|(exact bo _ (Ei [] (Ai rfl (Ai ea rfl))) (by unfold dx;(repeat' split) <;> omega) rfl))
theorem Ew (a:Int):Ct ae 266 [.c (.t (iv a))] (aEn (dx a)) [] true:=by
 obtain⟨r,hr,h⟩:=Mn a;rw[hr] at h;exact h
theorem UX (a:Int)(b:Int):∃ r:Int,(r=(fK a b))/\Ct ae 231 [.c (.t (iv a)),.c (.t (iv b))] (aEn r) [] true:=by
 refine cU (Φ:=fun (r:Int)=>r=(fK a b)) kF (cX Tryz.func231 rfl (by kernel_rfl) rfl (aEl [] [] ?_))
 repeat' (first|(exact bo _ (Ei [] (Ai rfl (Ai ea rfl))) (by unfold fK;rw[wrap_add]) rfl)|(apply aT 266;refine cF (Ew _) ⟨rfl,ea⟩ ?_))
theorem Zi (a:Int)(b:Int):Ct ae 231 [.c (.t (iv a)),.c (.t (iv b))] (aEn (fK a b)) [] true:=by
 obtain⟨r,hr,h⟩:=UX a b;rw[hr] at h;exact h
theorem Hm (c0 c1 c2 k n:Int):Ct ae 109 [.agg [.t (iv c0),.t (iv c1),.t (iv c2)],.c (.t (iv k)),.c (.t (iv n))] (.agg [.t (iv (lV 0 k c0 n)),.t (iv (lV 1 k c1 n)),.t (iv (lV 2 k c2 n))]) [] true:=by
 refine Ct.tV (b:=false) ?_ rfl
 by_cases h0:k>=0
 ·by_cases h3:k < 3
  ·rcases(by omega:k=0\/k=1\/k=2) with rfl|rfl|rfl
   ·rw[show lV 0 0 c0 n=(if fK c0 n > 0 then fK c0 n else 0) from if_pos rfl,show lV 1 0 c1 n=c1 from if_neg (by decide),show lV 2 0 c2 n=c2 from if_neg (by decide)];refine cT Tryz.func109 rfl (by kernel_rfl) rfl fun w0 O _=>aEk [] ?_;refine Ei 0 (Ai rfl (Ai (by decide) ?_));refine cF (lz c0 n) ⟨rfl,rfl,ea⟩ ?_;refine Ei 0 (Ai rfl (Ai (by decide) ?_));refine Ei [] ?_
    repeat' constructor
   ·rw[show lV 0 1 c0 n=c0 from if_neg (by decide),show lV 1 1 c1 n=(if fK c1 n > 0 then fK c1 n else 0) from if_pos rfl,show lV 2 1 c2 n=c2 from if_neg (by decide)];refine cT Tryz.func109 rfl (by kernel_rfl) rfl fun w0 O _=>aEk [] ?_;refine Ei 1 (Ai rfl (Ai (by decide) ?_));refine cF (lz c1 n) ⟨rfl,rfl,ea⟩ ?_;refine Ei 1 (Ai rfl (Ai (by decide) ?_));refine Ei [] ?_
    repeat' constructor
   ·rw[show lV 0 2 c0 n=c0 from if_neg (by decide),show lV 1 2 c1 n=c1 from if_neg (by decide),show lV 2 2 c2 n=(if fK c2 n > 0 then fK c2 n else 0) from if_pos rfl];refine cT Tryz.func109 rfl (by kernel_rfl) rfl fun w0 O _=>aEk [] ?_;refine Ei 2 (Ai rfl (Ai (by decide) ?_));refine cF (lz c2 n) ⟨rfl,rfl,ea⟩ ?_;refine Ei 2 (Ai rfl (Ai (by decide) ?_));refine Ei [] ?_
    repeat' constructor
  ·rw[show lV 0 k c0 n=c0 from if_neg (by omega),show lV 1 k c1 n=c1 from if_neg (by omega),show lV 2 k c2 n=c2 from if_neg (by omega)];refine cT Tryz.func109 rfl (by kernel_rfl) rfl fun w0 O _=>aEk [] ?_;refine eX (decide_eq_true h0) (eA (decide_eq_false h3) (Ei [] ?_))
   repeat' constructor
 ·rw[show lV 0 k c0 n=c0 from if_neg (by omega),show lV 1 k c1 n=c1 from if_neg (by omega),show lV 2 k c2 n=c2 from if_neg (by omega)];refine cT Tryz.func109 rfl (by kernel_rfl) rfl fun w0 O _=>aEk [] ?_;refine eA (decide_eq_false h0) (Ei [] ?_)
  repeat' constructor
def acN (p:Int × Int × Int):AV:=.agg [.t (iv p.1),.t (iv p.2.1),.t (iv p.2.2)]
theorem ahU (p:Int × Int × Int):tV (acN p)=true:=rfl
theorem Ug (a0:Int)(a1:Int)(a2:Int)(b0:Int)(b1:Int)(b2:Int):∃ r:Int × Int × Int,(r=((n5 a0 b0,n5 a1 b1,n5 a2 b2)))/\Ct ae 166 [.agg [.t (iv a0),.t (iv a1),.t (iv a2)],.agg [.t (iv b0),.t (iv b1),.t (iv b2)]] (acN r) [] true:=by
 refine cU (Φ:=fun (r:Int × Int × Int)=>r=((n5 a0 b0,n5 a1 b1,n5 a2 b2))) ahU (cX Tryz.func166 rfl (by kernel_rfl) rfl (aEl [] [] ?_))
 repeat' (first|(refine bo (n5 a0 b0,n5 a1 b1,n5 a2 b2) (Ei [] (Ai rfl (Ai ea ?_))) rfl rfl;(repeat' first|refine Ai ?_ ?_|exact rfl|exact⟨⟩|exact Ei _ rfl|refine cL ?_|refine bS ?_);done)|(apply dV 2 rfl;refine fM.one 2 rfl (aEl [] [] ?_))|(apply rZ;(iterate 2 first|assumption|omega|(simp only[bp];omega)|(simp only[Lm] at *;omega)|decide);intro _)|(apply aT 109;refine cF (Hm _ _ _ _ _) ⟨⟨rfl,rfl,rfl,ea⟩,rfl,rfl,ea⟩ ?_))
theorem YP (a0:Int)(a1:Int)(a2:Int)(b0:Int)(b1:Int)(b2:Int):Ct ae 166 [.agg [.t (iv a0),.t (iv a1),.t (iv a2)],.agg [.t (iv b0),.t (iv b1),.t (iv b2)]] (acN ((n5 a0 b0,n5 a1 b1,n5 a2 b2))) [] true:=by
 obtain⟨r,hr,h⟩:=Ug a0 a1 a2 b0 b1 b2;rw[hr] at h;exact h
end
section
open Go Cg Go.RowKit
theorem gY {a k j:Int}(h:a=k)(hn:k≠j):(a==j)=false:=by rw[h];simpa using hn
theorem jI {a k:Int}(h:a=k):(a==k)=true:=by rw[h];simp
theorem tF (s:aq)(id:Int)(e:bG)(h:s.ok):Ct ae 102 [.agg (s.enc.map .t),.c (.t (iv id)),.agg (e.enc.map .t)] (.agg ((mG s id e).enc.map .t)) [] false:=by
 have hf:=fP s id h.2.2.1;generalize hM:mG s id e=M;unfold mG at hM;refine cT Tryz.func102 rfl (by kernel_rfl) rfl fun w0 O _=>aEk [3,4] ?_;refine cR hf ⟨fL s.enc,rfl,ea⟩ ?_;refine cj (cS (fun hh=>?_) fun hh=>?_)
 ·rw[if_pos hh] at hM;subst hM;refine aEk [] (cR (YP 0 0 0 e.o8 e.o7 e.o6) ⟨⟨rfl,rfl,rfl,ea⟩,⟨rfl,rfl,rfl,ea⟩,ea⟩ ?_);refine cR (kn s (RH e (cb s.aa id)) h) ⟨fL s.enc,?_,ea⟩ ?_
  ·repeat' constructor
  refine Ei [] ?_
  repeat' constructor
 ·rw[if_neg (by rw[show eh s.aa id=false from hh];decide)] at hM;subst hM;refine aEk [] (Ei [] ?_)
  repeat' constructor
theorem rB (s:aq)(p:Int)(x:bO)(h:s.ok)(hp:0<=p/\p < s.aw.length):Ct ae 103 [.agg (s.enc.map .t),.c (.t (iv p)),.agg (x.enc.map .t)] (.agg (({ s with aw:=s.aw.set p.toNat x }:aq).enc.map .t)) [] false:=by
 have h1:=h.1;obtain⟨n,rfl⟩:∃ n:Nat,p=n:=⟨p.toNat,by omega⟩
 have hn:n < (s.aw.map bO.enc).length:=by rw[Lm];omega
 refine cT Tryz.func103 rfl (by kernel_rfl) rfl fun w0 O _=>aEk [] ?_;refine Ai (.inl rfl) (Ai ?_ (Ai ?_ ?_))
 ·rw[Lm];exact aX h1 (Nb rfl)
 ·rw[Lm];have:=h1;unfold aV at this;omega
 refine Ei n (Ai rfl (Ai hn ?_));have aU:n < s.aw.length:=by omega
 refine Ei (s.aw[n].enc) (Ai (aK _ _ n aU) (Ai (Nb rfl) ?_));refine Ei [] ?_
 repeat' constructor
 exact congrArg (Tr.sl 14) (by rw[List.map_set];rfl)
theorem zq {α:Type}(l:List α)(f:α->List Tr)(k:Nat)(hk:k < l.length)(x:List Tr)(hx:x=f l[k]):(l.take k).map f++[x]=(l.take (k+1)).map f:=by
 rw[hx];exact fq l f k hk
theorem YD (s:aq)(k:Int)(h:s.ok):Ct ae 100 [.agg (s.enc.map .t),.c (.t (iv k))] (.agg ((tm s k).enc.map .t)) [] false:=by
 have ho:=h.2.2.1;refine cT Tryz.func100 rfl (by kernel_rfl) rfl fun w0 O _=>aEk [9] ?_;refine aEm (fun i:Nat=>⟨[(1,.c (.t (iv k))),(2,.ptr 0 0),(4,.ptr 128 0),(5,.c (.row 9000 0)),(6,aEn i)],[(0,s.enc.map .t),(128,List.replicate 19 .bot)],[(9000,⟨75,19,0,(s.aa.take i).map fun o=>(pL k o).enc,none⟩)],10000⟩) (fun i=>i<=s.aa.length) (fun i=>s.aa.length - i) 0 ?_ (aA _) ?_
 ·refine ba [] rfl rfl ?_ ?_ ?_
  repeat' constructor
 rintro i hi;refine aEk [5,7,8,9] (cS (fun hc=>?_) fun hc=>?_)
 ·have aU:=cJ hc;refine aEk [7,8] (Ei i (Ei _ (Ai rfl (Ai (aK _ _ i aU) ?_))));refine cS (fun hk=>?_) fun hk=>?_
  ·refine aEk [8] (aEk [] (Ai (.inl rfl) (Ai (gA s.aa _ i aU _ 128 (by decide) ho) (Ai (fN s.aa _ i aU _ 128 (by decide) ho) ?_))));refine Ei (i+1) (Ai (show i+1<=_ by omega) (Ai (show s.aa.length - (i+1) < s.aa.length - i by omega) ?_));refine ba [(9000,9000)] rfl rfl ?_ ?_ ?_
   repeat' constructor
   exact cZ i aU 128 (by decide) ho;refine zq s.aa (fun o=>(pL k o).enc) i aU _ ?_;unfold pL;rw[if_pos (show(s.aa[i].blocks==k)=true from hk)];rfl
  ·refine aEk [] (Ai (.inl rfl) (Ai (gA s.aa _ i aU _ 128 (by decide) ho) (Ai (fN s.aa _ i aU _ 128 (by decide) ho) ?_)));refine Ei (i+1) (Ai (show i+1<=_ by omega) (Ai (show s.aa.length - (i+1) < s.aa.length - i by omega) ?_));refine ba [(9000,9000)] rfl rfl ?_ ?_ ?_
   repeat' constructor
   exact cZ i aU 128 (by decide) ho;refine zq s.aa (fun o=>(pL k o).enc) i aU _ ?_;unfold pL;rw[if_neg (by rw[show(s.aa[i].blocks==k)=false from hk];decide)];rfl
 ·have qy:=dM hc hi;subst qy;refine aEk [] (Ei [] ?_)
  repeat' constructor
  exact congrArg (Tr.sl 19) (by rw[bj];exact(List.map_map (f:=pL k) (g:=az.enc) (l:=s.aa)))
end
section
open Go Go.RowKit Go.Sort Cg
def kI (n:Nat):List K:=List.replicate n (.lit .int)
def kB:K:=.lit .bool
def mm:List K:=kI 7++[.lit .str]++kI 8
def ZE:List K:=kI 3++[.lit .str]++mm
def ahV:List K:=[kB,kB]++mm
def apH:List K:=kI 2++mm
def VB:List K:=kI 3++mm
def VA:List K:=kI 1++apH++VB++kI 2++[.lit .str]++mm++kI 6++[.sl ZE 176]
def ZD:List K:=kI 7++[kB,kB]++kI 1
def EP:List K:=kI 1++mm++[.sl ZE 176]++ZD++[kB]++(kI 2++mm)++[kB]++[.sl ahV 144]++[.sl VA 560]++(kI 2++mm++kI 4)
def Vx:List K:=kI 2
def QI:List K:=kI 10++[kB,kB]++kI 3
def ahW:List K:=kI 5++[kB]++EP++[.sl Vx 16]++QI
def QH:List K:=kI 2++EP++QI
def xp:K:=.sl (kI 1) 8
def ahX:List K:=kI 4++[xp]++[.sl ZE 176]
def Vy:List K:=kI 9++[kB,kB]++[xp,xp,xp]
def Vz:List K:=kI 5++[kB,kB,kB,kB]++kI 7++[kB]++kI 2
def ZC:List K:=[.sl Vy 152,.sl Vz 128,xp,xp,.sl ahW 824,.sl QH 768,.sl ahX 80]++kI 3++[kB]++kI 4++[.lit .u64]++[xp]++kI 2
theorem TA:amO ae 12 31=some ZC:=by kernel_rfl
def XT (P:Program)(e:TypeId)(k b:Nat):Bool:=match P.info? e with
 | some i=>i.size==k&&i.bytes==b&&(match i.zero with
  | some z=>z.cells.size==k
  | none=>false)
 | none=>false
theorem uq {P:Program}{t e:TypeId}{k b:Nat}(h1:P.underlying t=some (.slice e))(h4:0 < k)(h:XT P e k b=true):∃ z,yg P t e z k b:=by
 unfold XT at h
 cases hi:P.info? e with
 | none=>rw[hi] at h;cases h
 | some i=>
  rw[hi] at h;simp only[ah,beq_iff_eq] at h;obtain⟨⟨h2,h3⟩,h5⟩:=h
  cases hz:i.zero with
  | none=>rw[hz] at h5;cases h5
  | some z=>
   rw[hz] at h5;simp only[beq_iff_eq] at h5;exact⟨z,h1,h5,h4,i,hi,hz,h2,h3⟩
theorem uo (w:World)(base:Nat)(hb:base<=w.heap.size)(t:TypeId)(k:Nat):(w.alloc (.cells #[] t)).ownsRow base t k (.slice (some ⟨w.heap.size,0,none⟩) 0 0) 0 []:=World.ownsRow_made w #[] 0 hb (by simp) (by simp)
theorem Wn:∃ z,yg ae 59 198 z 20 176:=uq Tryz.underlying59 (by decide) (by kernel_rfl)
theorem Sd (v:Value)(es:List (Cl 20))(w:World)(h:SH 20 w v es)(hb:es.length*176<=140737488355328):Calls ae 125 #[v] w fun e w'=>∃ v',e=.returned v'/\w'.ownsRow w.heap.size 198 20 v' es.length (es.flatMap Subtype.val)/\Below w.heap.size w w':=by
 obtain⟨z,hE⟩:=Wn;have HR:=Lib.hid (h.below ((Below.refl w.heap.size w).alloc (ak _) (.cells #[] 198)));obtain⟨ao,cap,rfl,⟨hc,hn⟩,_⟩:=h;have HE:=Lib.hid hE;have HO:=Lib.hid (uo w w.heap.size (ak _) 198 20);have HA:=Lib.hid ((Below.refl w.heap.size w).alloc (ak _) (.cells #[] 198));have q0:∀ (w:World) (a:Option Addr) (n c n' c':Nat),(binOp .eql 59 (.slice a n c) (.slice none n' c')).run ae w=.ok (.bool a.isNone) w:=fun w a n c n' c'=>Lib.run_eql_slice_nil w _ _ a n c n' c' Tryz.underlying59;clear hE
 cases ao with
 | none=>
  have Cq:=hn rfl;subst Cq;have he:es=[]:=List.eq_nil_of_length_eq_zero (by omega);subst he;clear HR hn
  go_enter Tryz.func125,Tryz.ntmps125
  go_wp2_with fail
  go_ret
  exact⟨_,rfl,World.ownsRow_nil _ _ _ _,Below.refl _ _⟩
 | some ad=>
  clear hn
  go_enter Tryz.func125,Tryz.ntmps125
  go_wp2_with (at_builtin;refine iT rfl (.tmp 5) (.tmp 6) 59 rfl w.heap.size HE.out _ 0 [] rfl HO.out Subtype.val Cl.len Cl.one es _ rfl HR.out (by omega) (by omega) HA.out.size ?_;intro v1 w1 Em _ Gd;have O1:=Lib.hid Em;have B1:=Lib.hid Gd;clear Em Gd)
  go_ret
  have:=O1.out;rw[bw,bE] at this;exact⟨_,rfl,this,HA.out.trans B1.out⟩
theorem RL:∃ z,yg ae 64 149 z 18 144:=uq Tryz.underlying64 (by decide) (by kernel_rfl)
theorem Nu (v:Value)(es:List (Cl 18))(w:World)(h:SH 18 w v es)(hb:es.length*144<=140737488355328):Calls ae 126 #[v] w fun e w'=>∃ v',e=.returned v'/\w'.ownsRow w.heap.size 149 18 v' es.length (es.flatMap Subtype.val)/\Below w.heap.size w w':=by
 obtain⟨z,hE⟩:=RL;have HR:=Lib.hid (h.below ((Below.refl w.heap.size w).alloc (ak _) (.cells #[] 149)));obtain⟨ao,cap,rfl,⟨hc,hn⟩,_⟩:=h;have HE:=Lib.hid hE;have HO:=Lib.hid (uo w w.heap.size (ak _) 149 18);have HA:=Lib.hid ((Below.refl w.heap.size w).alloc (ak _) (.cells #[] 149));have q0:∀ (w:World) (a:Option Addr) (n c n' c':Nat),(binOp .eql 64 (.slice a n c) (.slice none n' c')).run ae w=.ok (.bool a.isNone) w:=fun w a n c n' c'=>Lib.run_eql_slice_nil w _ _ a n c n' c' Tryz.underlying64;clear hE
 cases ao with
 | none=>
  have Cq:=hn rfl;subst Cq;have he:es=[]:=List.eq_nil_of_length_eq_zero (by omega);subst he;clear HR hn
  go_enter Tryz.func126,Tryz.ntmps126
  go_wp2_with fail
  go_ret
  exact⟨_,rfl,World.ownsRow_nil _ _ _ _,Below.refl _ _⟩
 | some ad=>
  clear hn
  go_enter Tryz.func126,Tryz.ntmps126
  go_wp2_with (at_builtin;refine iT rfl (.tmp 5) (.tmp 6) 64 rfl w.heap.size HE.out _ 0 [] rfl HO.out Subtype.val Cl.len Cl.one es _ rfl HR.out (by omega) (by omega) HA.out.size ?_;intro v1 w1 Em _ Gd;have O1:=Lib.hid Em;have B1:=Lib.hid Gd;clear Em Gd)
  go_ret
  have:=O1.out;rw[bw,bE] at this;exact⟨_,rfl,this,HA.out.trans B1.out⟩
theorem IS:∃ z,yg ae 65 125 z 64 560:=uq Tryz.underlying65 (by decide) (by kernel_rfl)
theorem FU (v:Value)(es:List (Cl 64))(w:World)(h:SH 64 w v es)(hb:es.length*560<=140737488355328):Calls ae 127 #[v] w fun e w'=>∃ v',e=.returned v'/\w'.ownsRow w.heap.size 125 64 v' es.length (es.flatMap Subtype.val)/\Below w.heap.size w w':=by
 obtain⟨z,hE⟩:=IS;have HR:=Lib.hid (h.below ((Below.refl w.heap.size w).alloc (ak _) (.cells #[] 125)));obtain⟨ao,cap,rfl,⟨hc,hn⟩,_⟩:=h;have HE:=Lib.hid hE;have HO:=Lib.hid (uo w w.heap.size (ak _) 125 64);have HA:=Lib.hid ((Below.refl w.heap.size w).alloc (ak _) (.cells #[] 125));have q0:∀ (w:World) (a:Option Addr) (n c n' c':Nat),(binOp .eql 65 (.slice a n c) (.slice none n' c')).run ae w=.ok (.bool a.isNone) w:=fun w a n c n' c'=>Lib.run_eql_slice_nil w _ _ a n c n' c' Tryz.underlying65;clear hE
 cases ao with
 | none=>
  have Cq:=hn rfl;subst Cq;have he:es=[]:=List.eq_nil_of_length_eq_zero (by omega);subst he;clear HR hn
  go_enter Tryz.func127,Tryz.ntmps127
  go_wp2_with fail
  go_ret
  exact⟨_,rfl,World.ownsRow_nil _ _ _ _,Below.refl _ _⟩
 | some ad=>
  clear hn
  go_enter Tryz.func127,Tryz.ntmps127
  go_wp2_with (at_builtin;refine iT rfl (.tmp 5) (.tmp 6) 65 rfl w.heap.size HE.out _ 0 [] rfl HO.out Subtype.val Cl.len Cl.one es _ rfl HR.out (by omega) (by omega) HA.out.size ?_;intro v1 w1 Em _ Gd;have O1:=Lib.hid Em;have B1:=Lib.hid Gd;clear Em Gd)
  go_ret
  have:=O1.out;rw[bw,bE] at this;exact⟨_,rfl,this,HA.out.trans B1.out⟩
end
section
open Go Cg Go.RowKit Go.Sort
theorem xU {P:Program}{f:FuncId}{ty k b:Nat}(he:N3 P f)(hr:∀ (v:Value) (es:List (Cl k)) (w:World),SH k w v es->es.length*b<=140737488355328->Calls P f #[v] w fun e w'=>∃ v',e=.returned v'/\w'.ownsRow w.heap.size ty k v' es.length (es.flatMap Subtype.val)/\Below w.heap.size w w')(xs:List (List Tr))(hb:xs.length*b<=140737488355328) :
  Ct P f [.c (.t (.sl k xs))] (.c (.row 0 0)) [⟨ty,k,0,xs,none⟩] false:=by
 refine⟨he,Nb rfl,fun R hR=>?_,rfl,fun x hx=>(by cases hx),fun x hx=>?_,fun w vs E0 _ ha=>?_⟩
 ·obtain rfl:R=_:=aJ.1 hR;rfl
 ·obtain rfl:x=(0,0):=by simpa [AV.cP,AV.ig,Ce.cP] using hx
  exact⟨_,rfl,ak _⟩
 cases ha with
 | cons hv Fb=>
  cases Fb
  rename_i v;have hv:RT E0.F w v (.sl k xs):=hv
  obtain⟨es,MV,Cn⟩:∃ es:List (Cl k),I9 E0.F w es xs/\SH k w v es:=by
   obtain⟨ao,cap,h1,h2,h3⟩:=RT.len hv;rcases hv.CZ with h0|⟨g,o,Nx,h4,h5,h6,h7,h8⟩
   ·subst h0;exact⟨[],⟨rfl,fun j vs ts h=>by simp at h⟩,ao,cap,h1,⟨aA _,h3⟩,.inl rfl⟩
   ·obtain⟨es,h9,mZ⟩:=h8.raw;refine⟨es,h9,_,Nx,by rw[h4,h9.len],⟨by rw[h9.len];exact h5,fun h=>by cases h⟩,.inr ⟨g,o,rfl,h7,fun j x hx i u hu=>?_⟩⟩;have hi:i < k:=by have:=(an.1 hu).1;rwa [Cl.len] at this
    have:=mZ (j*k+i) u (by rw[flat_get (enc:=Subtype.val) Cl.len es j x hx i hi];exact hu)
    rwa [<- Nat.add_assoc] at this
  refine(hr v es w Cn (by rw[MV.len];exact hb)).mono ?_;rintro e w' ⟨v',rfl,iB,oZ⟩;refine⟨v',rfl,oZ,⟨fun b=>if b < w.heap.size then(if E0.rl b=.bH then .bH else .eH) else .rw 0,fun _=>0,fun _ _=>v'⟩,⟨rfl,pq iB⟩,fun j R hj=>?_,fun b aU hc=>⟨rfl,?_⟩⟩
  ·cases j with
   | succ j=>simp at hj
   | zero=>
    obtain rfl:=aY hj;refine Ow.rr rfl ⟨es,iB,MV.fr oZ.size (fun b _ aU=>oZ.block b aU) fun b hb aU=>?_,fun g hg=>?_⟩
    ·show(if b < w.heap.size then(if E0.rl b=.bH then .bH else .eH) else jm.rw 0)=.bH;rw[if_pos aU,if_pos (show E0.rl b=.bH from hb)]
    ·show(if g < w.heap.size then(if E0.rl g=.bH then .bH else .eH) else jm.rw 0)=.rw 0;rw[if_neg (Nat.not_lt.2 (iB.lt g hg).1)]
  ·have hc:(if b < w.heap.size then(if E0.rl b=.bH then .bH else .eH) else jm.rw 0)=.bH:=hc;rw[if_pos aU] at hc;split at hc
   ·rename_i h;exact h
   ·cases hc
theorem sF {P:Program}{f:FuncId}{dh:List AV}{ty k:Nat}{xs:List (List Tr)}{b:Bool}(h:Ct P f dh (.c (.row 0 0)) [⟨ty,k,0,xs,none⟩] b):Ct P f dh (.c (.t (.sl k xs))) [] b:=by
 refine⟨h.RJ,aA _,fun R hR=>(by cases hR),h.plain,fun x hx=>(by cases hx),fun x hx=>(by cases hx),fun w vs E0 mY ha=>(h.run w vs E0 mY ha).mono ?_⟩;rintro e w' ⟨v,rfl,oZ,E,hr,Cn,Ao⟩;refine⟨v,rfl,oZ,⟨fun b=>if b < w.heap.size then E.rl b else .bH,fun _=>0,fun _ _=>v⟩,?_,fun j R hj=>(by simp at hj),fun b aU hc=>Ao b aU ?_⟩
 ·have hr:RC E w' v (.row 0 0):=hr;show RT _ w' v (.sl k xs);obtain⟨es,h1,h2,h3⟩:=(Cn 0 _ rfl).ow rfl;rw[hr.1];refine Hs h1 h2.len (fun g hg _=>?_) fun j x ts q1 q2=>(h2.at_ j x ts q1 q2).frame (ak _) (fun _ _ _=>rfl) fun b hb _=>?_
  ·show(if g < w.heap.size then E.rl g else jm.bH)=.bH;rw[if_neg (Nat.not_lt.2 (h1.lt g hg).1)]
  ·show(if b < w.heap.size then E.rl b else jm.bH)=.bH;split
   ·exact hb
   ·rfl
 ·have hc:(if b < w.heap.size then E.rl b else jm.bH)=.bH:=hc
  rwa [if_pos aU] at hc
theorem u6 (xs:List (List Tr))(h:xs.length*176<=aV):Ct ae 125 [.c (.t (.sl 20 xs))] (.c (.row 0 0)) [⟨198,20,0,xs,none⟩] false:=
 xU (enters_of Tryz.func125 (by kernel_rfl) rfl) Sd xs (aX h (Nb rfl))
theorem CX (xs:List (List Tr))(h:xs.length*144<=aV):Ct ae 126 [.c (.t (.sl 18 xs))] (.c (.row 0 0)) [⟨149,18,0,xs,none⟩] false:=
 xU (enters_of Tryz.func126 (by kernel_rfl) rfl) Nu xs (aX h (Nb rfl))
theorem xV (xs:List (List Tr))(h:xs.length*560<=aV):Ct ae 127 [.c (.t (.sl 64 xs))] (.c (.row 0 0)) [⟨125,64,0,xs,none⟩] false:=
 xU (enters_of Tryz.func127 (by kernel_rfl) rfl) FU xs (aX h (Nb rfl))
theorem OJ {α:Type}{xs:List α}{i:Nat}{t:α}(h:xs[i]? = some t):xs.set i t=xs:=by
 refine List.ext_getElem? fun j=>?_
 by_cases e:i=j
 ·subst e;rw[List.getElem?_set_self (an.1 h).1,h]
 ·rw[List.getElem?_set_ne e]
end
section
open Go Cg Go.RowKit
def Gu (n:Int):AV:=.c (.t (.lit (.int .u64 n)))
theorem U5 {n:Int}(h:¬ n < 1)(h2:n<=1099511627776):IntKind.u64.wrap n≠0:=by
 rw[cK];omega
theorem Uo (s:Int):Ct ae 218 [Gu s] (.gi [Gu (uN s),Gu (Jq s)]) [] true:=by
 refine Ct.tV (b:=false) ?_ rfl;obtain⟨z,hz⟩:∃ z,Jq s=z:=⟨_,rfl⟩
 obtain⟨a,ha⟩:∃ a,ahS z=a:=⟨_,rfl⟩
 obtain⟨b,hb⟩:∃ b,ahR a=b:=⟨_,rfl⟩
 obtain⟨c,hc⟩:∃ c,ahQ b=c:=⟨_,rfl⟩
 rw[show uN s=c from by unfold uN;rw[hz,ha,hb,hc],hz];refine cT Tryz.func218 rfl (by kernel_rfl) rfl fun w0 O _=>aEk [2,3,4,5,6] ?_;refine aEp (ba [] (ox:=[(4,Gu z)]) (fG:=[]) (dU:=[]) (w8:=10000) rfl rfl ?_ ?_ ?_) ?_
 ·repeat' constructor
  exact congrArg (fun n=>Tr.lit (.int .u64 n)) hz
 ·repeat' constructor
 ·repeat' constructor
 refine aEk [] (aEk [] (aEp (ba [] (ox:=[(4,Gu z),(5,Gu a)]) (fG:=[]) (dU:=[]) (w8:=10000) rfl rfl ?_ ?_ ?_) ?_))
 ·repeat' constructor
  exact congrArg (fun n=>Tr.lit (.int .u64 n)) ha
 ·repeat' constructor
 ·repeat' constructor
 refine aEk [] (aEp (ba [] (ox:=[(4,Gu z),(5,Gu b)]) (fG:=[]) (dU:=[]) (w8:=10000) rfl rfl ?_ ?_ ?_) ?_)
 ·repeat' constructor
  exact congrArg (fun n=>Tr.lit (.int .u64 n)) hb
 ·repeat' constructor
 ·repeat' constructor
 refine aEk [] (aEp (ba [] (ox:=[(4,Gu z),(5,Gu c)]) (fG:=[]) (dU:=[]) (w8:=10000) rfl rfl ?_ ?_ ?_) ?_)
 ·repeat' constructor
  exact congrArg (fun n=>Tr.lit (.int .u64 n)) hc
 ·repeat' constructor
 ·repeat' constructor
 refine aEk [] (Ei [] ?_)
 repeat' constructor
theorem PD (s n:Int)(h2:n<=1099511627776):Ct ae 168 [Gu s,.c (.t (iv n))] (.gi [aEn (gG s n).1,Gu (gG s n).2]) [] true:=by
 refine Ct.tV (b:=false) ?_ rfl
 by_cases h:n < 1
 ·rw[show gG s n=(0,s) from if_pos h];refine cT Tryz.func168 rfl (by kernel_rfl) rfl fun w0 O _=>aEk [2,3] ?_;refine eX (decide_eq_true h) (aEk [] ?_);refine Ei [] ?_
  repeat' constructor
 ·rw[show gG s n=_ from if_neg h];refine cT Tryz.func168 rfl (by kernel_rfl) rfl fun w0 O _=>aEk [2,3] ?_;refine eA (decide_eq_false h) (aEk [] ?_);refine cF (Uo s) ⟨rfl,ea⟩ ?_;refine Ai rfl (Ai (U5 h h2) ?_);refine Ei [] ?_
  repeat' constructor
structure Dd (s:Int)(l:List Int)(x:Int × List Int × Int):Prop where
 lo:-1<=x.1
 hi:x.1 < (x.2.1.length:Int)
 len:x.2.1.length=l.length
 eq:uC x.1.toNat x.2.2 x.2.1=me s l
theorem Dd.start (s:Int)(l:List Int)(h:l.length*8<=aV):Dd s l (IntKind.i64.wrap (((l.length:Nat):Int) - 1),l,s):=by
 have e:IntKind.i64.wrap ((l.length:Int) - 1)=(l.length:Int) - 1:=zk h rfl;refine⟨?_,?_,rfl,?_⟩
 ·show -1<=IntKind.i64.wrap ((l.length:Int) - 1);omega
 ·show IntKind.i64.wrap ((l.length:Int) - 1) < (l.length:Int);omega
 ·show uC (IntKind.i64.wrap ((l.length:Int) - 1)).toNat s l=me s l;unfold me;rw[e];congr 1;omega
theorem Dd.step {s:Int}{l:List Int}{i:Int}{L:List Int}{S:Int}(h:Dd s l (i,L,S))(hi:1<=i)(hb:l.length<=1099511627776):(IntKind.i64.wrap (i+1)=i+1/\i+1<=1099511627776)/\(0<=(gG S (i+1)).1/\(gG S (i+1)).1 < (L.length:Int))/\(IntKind.i64.wrap (i - 1)=i - 1/\Dd s l (i - 1,oc L i.toNat (gG S (i+1)).1.toNat,(gG S (i+1)).2)):=by
 obtain⟨h1,h2,h3,h4⟩:=h;simp only at h1 h2 h3 h4;have hr:=u7 (s:=S) (n:=i+1) (by omega) (by omega);refine⟨⟨by rw[bp];omega,by omega⟩,⟨hr.1,by omega⟩,by rw[bp];omega,?_,?_,?_,?_⟩
 ·show -1<=i - 1;omega
 ·show i - 1 < ((oc L i.toNat (gG S (i+1)).1.toNat).length:Int);rw[rb];omega
 ·show(oc L i.toNat (gG S (i+1)).1.toNat).length=l.length;rw[rb,h3]
 ·show uC (i - 1).toNat (gG S (i+1)).2 (oc L i.toNat (gG S (i+1)).1.toNat)=me s l;obtain⟨j,rfl⟩:∃ j:Nat,i=(j:Int)+1:=⟨(i - 1).toNat,by omega⟩
  rw[show((j:Int)+1).toNat=j+1 by omega] at h4 ⊢;unfold uC at h4;rw[show((j:Int)+1 - 1).toNat=j by omega,show(j:Int)+1+1=(j:Int)+2 by omega];exact h4
theorem Dd.fin {s:Int}{l:List Int}{i:Int}{L:List Int}{S:Int}(h:Dd s l (i,L,S))(hi:¬ 1<=i):me s l=(L,S):=by
 have h4:=h.eq;simp only at h4;rw[show i.toNat=0 by omega] at h4;exact h4.symm
theorem Yk {L:List Int}{i k:Nat}{a:Int}(hk:k < L.length):((L.map eI).set i (eI a))[k]? = some (eI ((L.set i a)[k]'(by rw[bQ];exact hk))):=by
 rw[<- List.map_set];exact aK _ _ k _
theorem afM {L:List Int}{i k:Nat}(hi:i < L.length)(hk:k < L.length):((L.map eI).set i (eI L[k])).set k (eI L[i])=(oc L i k).map eI:=by
 unfold oc;rw[List.map_set,List.map_set,List.getD_eq_getElem?_getD,List.getD_eq_getElem?_getD,ag hi,ag hk];rfl
theorem K3 (xs:List (List Tr))(y:List Tr):xs++(List.replicate xs.length y).drop xs.length=xs:=by
 rw[List.drop_eq_nil_of_le (by rw[cz];exact ak _),aW]
theorem Ho (s:Int)(l:List Int)(h:l.length*8<=aV)(hb:l.length<=1099511627776):Ct ae 106 [Gu s,.c (.t (.sl 1 (l.map eI)))] (.gi [.c (.t (.sl 1 ((me s l).1.map eI))),Gu (me s l).2]) [] false:=by
 generalize hM:me s l=M;refine cT Tryz.func106 rfl (by kernel_rfl) rfl fun w0 O _=>aEk [11] ?_;refine Ei (l.map eI).length (Ei [iv 0] (Ai ⟨rfl,rfl⟩ (Ai ⟨rfl,ea⟩ (Ai ⟨?_,?_⟩ ?_))))
 ·rw[Lm];exact aX h (Nb rfl)
 ·rw[Lm];unfold aV at h;omega
 refine Ai (.inl rfl) (Ai (by rw[cz];exact ak _) ?_);refine aEm (fun x:Int × List Int × Int=>⟨[(0,Gu x.2.2),(6,.c (.row 9000 0)),(7,aEn x.1)],[],[(9000,⟨3,1,0,x.2.1.map eI,none⟩)],10000⟩) (Dd s l) (fun x=>(x.1+1).toNat) (IntKind.i64.wrap (((l.length:Nat):Int) - 1),l,s) ?_ (Dd.start s l h) ?_
 ·refine ba [(9000,512)] rfl rfl ?_ ?_ ?_
  repeat' constructor
  exact congrArg (fun n:Nat=>iv (IntKind.i64.wrap ((n:Int) - 1))) (by rw[K3,Lm]);exact K3 _ _
 rintro⟨i,L,S⟩ hx;refine aEk [6,11] (cS (fun hc=>?_) fun hc=>?_)
 ·have hi1:1<=i:=of_decide_eq_true hc;obtain⟨⟨w1,w2⟩,⟨b1,b2⟩,w3,NR⟩:=hx.step hi1 hb;have oB:=hx.hi;simp only at oB;refine aEk [] (cR (PD S (i+1) w2) ⟨rfl,congrArg iv w1,ea⟩ ?_);generalize hk:gG S (i+1)=B at *;obtain⟨k,S2⟩:=B;simp only at b1 b2;obtain⟨k,rfl⟩:∃ n:Nat,k=n:=⟨k.toNat,by omega⟩
  obtain⟨i,rfl⟩:∃ n:Nat,i=n:=⟨i.toNat,by omega⟩
  have hi':i < L.length:=by omega
  have Fc:k < L.length:=by omega
  refine Ei i (Ai rfl (Ai (by rw[Lm];exact hi') ?_));refine Ei (eI L[i]) (Ei _ (Ai (aK _ _ i hi') (Ai rfl ?_)));refine Ei k (Ai rfl (Ai (by rw[Lm];exact Fc) ?_));refine Ei (eI L[k]) (Ei _ (Ai (aK _ _ k Fc) (Ai rfl ?_)));refine Ei i (Ai rfl (Ai (by rw[Lm];exact hi') ?_));refine Ei (eI L[i]) (Ai (aK _ _ i hi') (Ai (Nb rfl) ?_));refine Ei k (Ai rfl (Ai (by rw[bQ,Lm];exact Fc) ?_));refine Ei _ (Ai (Yk (L:=L) (i:=i) (a:=L[k]) Fc) (Ai (Nb rfl) ?_));refine Ei (((i:Nat):Int) - 1,oc L i k,S2) (Ai NR (Ai (show((i:Int) - 1+1).toNat < ((i:Int)+1).toNat by omega) ?_));refine ba [(9000,9000)] rfl rfl ?_ ?_ ?_
  repeat' constructor
  exact congrArg iv w3;exact afM hi' Fc
 ·have hf:=hx.fin (of_decide_eq_false hc);rw[hf] at hM;subst hM;refine aEk [] (Ei [] ?_)
  repeat' constructor
end
section
open Go Cg
section
variable {q:uA}{c:Int}
structure oE (s t:aq):Prop where
 Tu:∀ x∈t.stack,x∈s.stack
 wt:t.iM=s.iM
 ct:t.dD=s.dD
 ex:t.extra=s.extra
 tn:t.tt=s.tt
 ov:t.oy=s.oy
 pl:t.aw.length=s.aw.length
theorem oE.refl (s:aq):oE s s:=⟨fun _ h=>h,rfl,rfl,rfl,rfl,rfl,rfl⟩
theorem oE.trans {s t u:aq}(h1:oE s t)(h2:oE t u):oE s u:=⟨fun x h=>h1.Tu x (h2.Tu x h),h2.wt.trans h1.wt,h2.ct.trans h1.ct,h2.ex.trans h1.ex,h2.tn.trans h1.tn,h2.ov.trans h1.ov,h2.pl.trans h1.pl⟩
theorem QD (s:aq)(l:List az):oE s { s with aa:=l }:=⟨fun _ h=>h,rfl,rfl,rfl,rfl,rfl,rfl⟩
theorem xn (s:aq)(o:az):oE s (fm s o):=QD s _
theorem Ig (s:aq)(k:Int):oE s (tm s k):=QD s _
theorem QE (s:aq)(id:Int)(e:bG):oE s (mG s id e):=by
 unfold mG;split
 ·exact xn s _
 ·exact oE.refl s
theorem QB (s:aq)(z p:Int)(l:List Int):oE s (fA s z p l):=by
 obtain⟨b,x,pl,e,hl,_⟩:=pk s z p l;rw[e];exact⟨fun _ h=>h,rfl,rfl,rfl,rfl,rfl,hl⟩
theorem QC (s:aq)(id:Int)(i:Nat)(o:az):oE s (lW s id i o):=by
 have h:=QB s o.cn o.dq ((bY s o.cn o.dq).filter fun i=>i != id);exact⟨fun x hx=>(List.mem_filter.1 hx).1,h.wt,h.ct,h.ex,h.tn,h.ov,h.pl⟩
theorem ZA (s:aq)(x:az)(z:Int)(b:Bool):oE s (J9 s x z b):=by
 have h:=QB s z x.dq (if (z==2&&!b)=true then x.id :: bY s z x.dq else bY s z x.dq++[x.id]);exact⟨h.Tu,h.wt,h.ct,h.ex,h.tn,h.ov,h.pl⟩
theorem rY (s:aq)(id z p:Int)(b:Bool):oE s (kE s id z p b).1:=by
 unfold kE;split
 ·exact oE.refl s
 ·split
  ·unfold nP;split
   ·exact oE.refl s
   split
   ·exact QC s _ _ _
   ·exact((QC s _ _ _).trans (xn _ _)).trans (ZA _ _ _ _)
  ·exact oE.refl s
theorem Vs (s:aq)(a p:Int):oE s (mi s a p).1:=⟨fun _ h=>h,rfl,rfl,rfl,rfl,rfl,rfl⟩
theorem Xs (e:bG):∀ (n:Nat) (s:aq),oE s (EB s e n)
 | 0,s=>oE.refl s
 | n+1,s=>by
  unfold EB;split
  ·exact((Vs s _ _).trans (QE _ _ _)).trans (Xs e n _)
  ·exact oE.refl s
theorem Zy (s:aq)(p:Int)(f:bO->bO):oE s (Og s p f):=by
 unfold Og;split
 ·exact⟨fun _ h=>h,rfl,rfl,rfl,rfl,rfl,bQ⟩
 ·exact oE.refl s
theorem Vu (s:aq)(p:Int):oE s (nf s p):=by
 unfold nf;split
 ·split
  ·exact Zy s _ _
  ·exact rY s _ _ _ _
 ·exact oE.refl s
theorem Vt (s:aq)(e:bG):oE s (ka s e):=by
 unfold ka;split
 ·exact⟨fun _ h=>h,rfl,rfl,rfl,rfl,rfl,bQ⟩
 ·exact oE.refl s
theorem Vr (s:aq)(all:List aD)(e:bG):oE s (il s all e):=by
 unfold il;split
 ·dsimp only;split
  ·exact(xn s _).trans (xn _ _)
  ·exact xn s _
 ·exact oE.refl s
theorem Zz (s:aq)(e:bG):oE s (J8 s e):=by
 have h:oE s (if e.from_=0 then tm s e.aL else s):=by
  split
  ·exact Ig s _
  ·exact oE.refl s
 unfold J8;dsimp only;split
 ·exact(h.trans (rY _ _ _ _ _)).trans (QE _ _ _)
 ·exact h.trans (rY _ _ _ _ _)
theorem Xt (aE:List bd)(s:aq)(all:List aD)(e:bG):oE s (ym aE s all e):=by
 unfold ym;split
 ·split
  ·exact Zz s e
  ·unfold jy;split
   ·exact Vu s _
   split
   ·exact Vt s e
   split
   ·exact Xs e _ s
   split
   ·exact Vr s all e
   ·exact oE.refl s
 ·exact oE.refl s
theorem Kp {α:Type}[DecidableEq α]:∀ {l m:List α},l.Nodup->(∀ x∈l,x∈m)->l.length<=m.length
 | [],_,_,_=>aA _
 | x :: l,m,h,hm=>by
  obtain⟨h1,h2⟩:=List.nodup_cons.1 h;have hx:=hm x aB;have:=Kp (m:=m.erase x) h2 fun y hy=>(List.mem_erase_of_ne fun e=>h1 (by rw[<- e];exact hy)).2 (hm y (aM _ hy));rw[List.length_erase_of_mem hx] at this;have:=List.length_pos_of_mem hx;rw[aZ];omega
theorem jW {s:aq}(h:kj q c s)(z p:Int):(bY s z p).length<=2048:=by
 have:=Kp (m:=s.aa.map az.id) (h.nod z p) fun id hid=>by
  obtain⟨o,ho,e,_⟩:=h.Vg z p id hid;exact bL.2 ⟨o,ho,e⟩
 rw[Lm] at this;have:=h.Ez;omega
theorem oJ {n:Nat}(h:n<=2048):n*8<=aV:=by unfold aV;omega
theorem zV {s:aq}(h:kj q c s){p:bO}(hp:p∈s.aw):p.dt.length<=2048/\p.hand.length<=2048/\p.dO.length<=2048:=by
 obtain⟨i,hi,rfl⟩:=bD.1 hp;have h1:=jW h 2 i;have h2:=jW h 1 i;have h3:=jW h 3 i;rw[EK hi] at h1;rw[Qr hi] at h2;rw[Qs hi] at h3;exact⟨h1,h2,h3⟩
theorem eZ {s t:aq}(hs:s.ok)(hv:kj q c t)(hk:oE s t):t.ok:=by
 obtain⟨_,_,_,_,_,_,_,g8,g9,g10,g11,g12,g13⟩:=hs;have hb:=jW hv 0 0;have hx:=jW hv 4 0;rw[lH] at hb;rw[mV] at hx;have h1:=hv.npl;have h2:=hv.Ez;have h3:=hv.P4;refine⟨by unfold aV;omega,fun y hy=>?_,by unfold aV;omega,fun y _=>wX y,oJ hb,oJ hx,by unfold aV;omega,fun y hy=>g8 y (hk.Tu y hy),by rw[hk.wt];exact g9,by rw[hk.wt];exact g10,by rw[hk.ct];exact g11,by rw[hk.ct];exact g12,by rw[hk.ex];exact g13⟩;obtain⟨a1,a2,a3⟩:=zV hv hy;exact⟨oJ a1,oJ a2,oJ a3⟩
theorem YW {s:aq}{o':az}{i:Nat}{id:Int}(h1:s.aa.findIdx? (fun o=>o.id==id)=some i)(h:o'.id=id):fm s o'={ s with aa:=s.aa.set i o' }:=by
 unfold fm ql;rw[h,h1]
theorem rT {s:aq}{e:bG}{i:Nat}(hi:i < s.aw.length)(he:e.bK=i):ka s e={ s with aw:=s.aw.set i (Nw e s.gy s.aw[i]).1,gy:=(Nw e s.gy s.aw[i]).2 }:=by
 unfold ka;rw[he,Int.toNat_natCast,ag hi]
end
end
section
open Go Cg Go.RowKit Go.Sort
theorem WE {t:aq}{id:Int}(e:bG){j:Nat}(hj:j < t.aa.length)(h1:t.aa.findIdx? (fun o=>o.id==id)=some j)(h2:cb t.aa id=t.aa[j])(h3:t.aa[j].id=id)(hh:eh t.aa id=true):mG t id e={ t with aa:=t.aa.set j (RH e t.aa[j]) }:=by
 unfold mG fm ql;rw[if_pos hh,h2,show(fun x:az=>x.id==(RH e t.aa[j]).id)=fun o=>o.id==id from funext fun x=>by show(x.id==t.aa[j].id)=_;rw[h3],h1]
theorem B9 {s:aq}(ee bK:Int)(aU:∀ y∈s.aa,y.id < s.bC):mi s ee bK=({ s with aa:=s.aa++[{ rM s.bC ee bK 0 s.bF with token:=true,qh:=true }],bu:=s.bu++[s.bC],bC:=IntKind.i64.wrap (s.bC+1),bF:=IntKind.i64.wrap (s.bF+1) },s.bC):=by
 show({ fm s { rM s.bC ee bK 0 s.bF with token:=true,qh:=true } with bu:=s.bu++[s.bC],bC:=IntKind.i64.wrap (s.bC+1),bF:=IntKind.i64.wrap (s.bF+1) },s.bC)=_;unfold fm;rw[Eh (x:={ rM s.bC ee bK 0 s.bF with token:=true,qh:=true }) aU]
theorem Gf (s:aq)(id:Int)(e:bG):∃ l,mG s id e={ s with aa:=l }/\l.map az.id=s.aa.map az.id:=by
 by_cases hh:eh s.aa id=true
 ·obtain⟨j,hj,h1,h2,h3⟩:=vJ hh;refine⟨_,WE e hj h1 h2 h3 hh,?_⟩;rw[List.map_set];refine uD ?_;rw[bI,ag hj];rfl
 ·refine⟨s.aa,?_,rfl⟩;unfold mG;rw[if_neg hh]
structure Gs (s:aq)(e:bG)(x:Nat × aq):Prop where
 ok:x.2.ok
 lt:∀ y∈x.2.aa,y.id < x.2.bC
 le:x.1<=e.bB.toNat
 eq:EB x.2 e (e.bB.toNat - x.1)=EB s e e.bB.toNat
 bf:x.2.bu.length+(2048 - x.2.aa.length)<=5000
 id:0<=x.2.bC/\x.2.bC+((2048 - x.2.aa.length:Nat):Int)<=2000000
 s8:(x.2.aa.map az.id).Pairwise (· < ·)
 pos:∀ i∈x.2.aa.map az.id,0<=i
theorem Gs.start {s:aq}{e:bG}(h:s.ok)(aU:∀ y∈s.aa,y.id < s.bC)(hs:(s.aa.map az.id).Pairwise (· < ·))(hb:s.bu.length+(2048 - s.aa.length)<=5000)(hn:0<=s.bC/\s.bC+((2048 - s.aa.length:Nat):Int)<=2000000)(hp:∀ i∈s.aa.map az.id,0<=i):Gs s e (0,s):=⟨h,aU,aA _,rfl,hb,hn,hs,hp⟩
theorem Gs.step {s:aq}{e:bG}{k:Nat}{S:aq}(H:Gs s e (k,S))(hk:k < e.bB.toNat)(hl:(S.aa.length:Int) < 2048):Gs s e (k+1,mG (mi S e.ee e.bK).1 (mi S e.ee e.bK).2 e):=by
 obtain⟨h1,h2,h3,h4,h5,⟨h6,h7⟩,h8,h9⟩:=H;simp only at h1 h2 h3 h4 h5 h6 h7 h8 h9;have hm:=B9 e.ee e.bK h2;rw[show e.bB.toNat - k=(e.bB.toNat - (k+1))+1 by omega] at h4
 have h4':EB (mG (mi S e.ee e.bK).1 (mi S e.ee e.bK).2 e) e (e.bB.toNat - (k+1))=EB s e e.bB.toNat:=by
  rw[<- h4];show _=if (S.aa.length:Int) < 2048 then _ else S;rw[if_pos hl]
 rw[hm] at h4' ⊢;obtain⟨l,e1,e2⟩:=Gf ({ S with aa:=S.aa++[{ rM S.bC e.ee e.bK 0 S.bF with token:=true,qh:=true }],bu:=S.bu++[S.bC],bC:=IntKind.i64.wrap (S.bC+1),bF:=IntKind.i64.wrap (S.bF+1) }) S.bC e;simp only at h4' ⊢;have hw:IntKind.i64.wrap (S.bC+1)=S.bC+1:=by rw[bp];omega
 have e2:l.map az.id=S.aa.map az.id++[S.bC]:=by rw[e2,aQ];rfl
 have e3:l.length=S.aa.length+1:=by
  have:=congrArg List.length e2
  rwa [Lm,al,Lm,List.length_singleton] at this
 rw[e1] at h4' ⊢;simp only[hw] at h4' ⊢
 have Q7:∀ i∈S.aa.map az.id,i < S.bC:=fun i hi=>by
  obtain⟨y,hy,rfl⟩:=bL.1 hi;exact h2 y hy
 obtain⟨g1,g2,g3,g4,g5,g6⟩:=h1;refine⟨⟨g1,g2,?_,fun y _=>wX y,?_,g6⟩,fun y hy=>?_,hk,h4',?_,?_,?_,?_⟩
 ·show l.length*128<=aV;rw[e3];unfold aV;omega
 ·show(S.bu++[S.bC]).length*8<=aV;rw[al,List.length_singleton];unfold aV;omega
 ·have hy:y∈l:=hy;have hy:y.id∈l.map az.id:=bL.2 ⟨y,hy,rfl⟩;rw[e2] at hy;show y.id < S.bC+1;rcases bh.1 hy with hy|hy
  ·have:=Q7 _ hy;omega
  ·rw[aJ.1 hy];omega
 ·show(S.bu++[S.bC]).length+(2048 - l.length)<=5000;rw[al,List.length_singleton,e3];omega
 ·show 0<=S.bC+1/\S.bC+1+((2048 - l.length:Nat):Int)<=_;rw[e3];omega
 ·show(l.map az.id).Pairwise (· < ·);rw[e2,List.pairwise_append];refine⟨h8,List.pairwise_singleton _ _,fun a ha b hb=>?_⟩;rw[aJ.1 hb];exact Q7 a ha
 ·show ∀ i∈l.map az.id,0<=i;rw[e2];intro i hi;rcases bh.1 hi with hi|hi
  ·exact h9 i hi
  ·rw[aJ.1 hi];exact h6
theorem Gs.okm {s:aq}{e:bG}{k:Nat}{S:aq}(H:Gs s e (k,S))(_hk:k < e.bB.toNat)(hl:(S.aa.length:Int) < 2048):(mi S e.ee e.bK).1.ok:=by
 obtain⟨h1,h2,_,_,h5,_⟩:=H;simp only at h1 h2 h5;rw[B9 e.ee e.bK h2];obtain⟨g1,g2,g3,g4,g5,g6⟩:=h1
 have hx:∀ o:az,(S.aa++[o]).length*128<=aV:=fun o=>by
  rw[al,List.length_singleton];unfold aV;omega
 have hy:(S.bu++[S.bC]).length*8<=aV:=by
  rw[al,List.length_singleton];unfold aV;omega
 exact⟨g1,g2,hx _,fun y _=>wX y,hy,g6⟩
theorem Gs.fin {s:aq}{e:bG}{k:Nat}{S:aq}(H:Gs s e (k,S))(h:¬ (k:Int) < e.bB\/¬ (S.aa.length:Int) < 2048):EB s e e.bB.toNat=S:=by
 rw[<- H.eq];simp only;rcases h with h|h
 ·rw[show e.bB.toNat - k=0 by omega];rfl
 ·cases e.bB.toNat - k with
  | zero=>rfl
  | succ n=>
   show(if (S.aa.length:Int) < 2048 then _ else S)=S;rw[if_neg h]
theorem Gs.end_ {s:aq}{e:bG}:∀ (n k:Nat) (S:aq),e.bB.toNat - k=n->S.aa.length<=2048->Gs s e (k,S)->(EB s e e.bB.toNat).ok/\((EB s e e.bB.toNat).aa.map az.id).Pairwise (· < ·)/\(EB s e e.bB.toNat).aa.length<=2048/\∀ i∈(EB s e e.bB.toNat).aa.map az.id,0<=i
 | n,k,S,hn,hl,H=>by
  by_cases h1:(k:Int) < e.bB
  ·by_cases h2:(S.aa.length:Int) < 2048
   ·have hs:=H.step (by omega) h2
    have hlen:(mG (mi S e.ee e.bK).1 (mi S e.ee e.bK).2 e).aa.length<=2048:=by
     rw[B9 e.ee e.bK H.lt];obtain⟨l,e1,e2⟩:=Gf ({ S with aa:=S.aa++[{ rM S.bC e.ee e.bK 0 S.bF with token:=true,qh:=true }],bu:=S.bu++[S.bC],bC:=IntKind.i64.wrap (S.bC+1),bF:=IntKind.i64.wrap (S.bF+1) }) S.bC e;rw[e1];have:=congrArg List.length e2;rw[Lm,Lm,al,List.length_singleton] at this;show l.length<=2048;omega
    match n,hn with
    | 0,hn=>omega
    | n+1,hn=>exact Gs.end_ n (k+1) _ (by omega) hlen hs
   ·rw[H.fin (.inr h2)];exact⟨H.ok,H.s8,hl,H.pos⟩
  ·rw[H.fin (.inl h1)];exact⟨H.ok,H.s8,hl,H.pos⟩
end
section
open Go Cg Go.RowKit Go.Shelf
theorem G9 (a:aq)(b:Int)(ha:a.ok):∃ r:Bool,(r=(mB a b))/\Ct ae 97 [.agg (a.enc.map .t),.c (.t (iv b))] (aEo r) [] true:=by
 have lZ:=ha;obtain⟨w7,yk,yj,yi,Et,J3,Es,J2,J1,J0,w6,wZ,wY⟩:=lZ;refine cU (Φ:=fun (r:Bool)=>r=(mB a b)) cO (cX Tryz.func97 rfl (by kernel_rfl) rfl (aEl [] [] ?_))
 repeat' (first|(apply pP;(iterate 2 first|assumption|omega|(simp only[bp,cK,aZ,bM];omega)|(simp only[Lm] at *;omega)|decide);intro _)|(apply bN <;> intro _)|(exact bo _ (Ei [] (Ai rfl (Ai ea rfl))) (by first|exact Vi ‹_› | exact Vh ‹_› | exact Eq.symm (Zv ‹_› ‹_›)) rfl))
theorem LS (a:aq)(b:Int)(ha:a.ok):Ct ae 97 [.agg (a.enc.map .t),.c (.t (iv b))] (aEo (mB a b)) [] true:=by
 obtain⟨r,hr,h⟩:=G9 a b ha;rw[hr] at h;exact h
theorem Ha (a:Int):∃ r:Bool,(r=(sS a))/\Ct ae 98 [.c (.t (iv a))] (aEo r) [] true:=by
 refine cU (Φ:=fun (r:Bool)=>r=(sS a)) cO (cX Tryz.func98 rfl (by kernel_rfl) rfl (aEl [] [] ?_))
 repeat' (first|(apply bN <;> intro _)|(exact bo _ (Ei [] (Ai rfl (Ai ea rfl))) (by simp[sS, *]) rfl))
theorem LU (a:Int):Ct ae 98 [.c (.t (iv a))] (aEo (sS a)) [] true:=by
 obtain⟨r,hr,h⟩:=Ha a;rw[hr] at h;exact h
theorem YF (a:aq)(b:Int)(c:Int)(ha:a.ok):∃ r:Bool,(r=(eh a.aa b&&((cb a.aa b).cn==c)))/\Ct ae 99 [.agg (a.enc.map .t),.c (.t (iv b)),.c (.t (iv c))] (aEo r) [] true:=by
 have lZ:=ha;obtain⟨w7,yk,yj,yi,Et,J3,Es,J2,J1,J0,w6,wZ,wY⟩:=lZ;refine cU (Φ:=fun (r:Bool)=>r=(eh a.aa b&&((cb a.aa b).cn==c))) cO (cX Tryz.func99 rfl (by kernel_rfl) rfl (aEl [] [] ?_))
 repeat' (first|(apply cS <;> intro _)|(exact bo _ (Ei [] (Ai rfl (Ai ea rfl))) (by simp[*]) rfl)|(apply aT 96;refine cF (fP _ _ ‹_›) ⟨fL (aq.enc _),rfl,ea⟩ ?_))
theorem agJ (a:aq)(b:Int)(c:Int)(ha:a.ok):Ct ae 99 [.agg (a.enc.map .t),.c (.t (iv b)),.c (.t (iv c))] (aEo (eh a.aa b&&((cb a.aa b).cn==c))) [] true:=by
 obtain⟨r,hr,h⟩:=YF a b c ha;rw[hr] at h;exact h
theorem YE (a:List bd)(b:aq)(c:bG)(_ha:a.length*176<=aV)(_ma:∀ y∈a,bd.ok y)(hb:b.ok):∃ r:Bool,(r=(qD a b c))/\Ct ae 47 [.c (.t (.sl 17 (a.map bd.enc))),.agg (b.enc.map .t),.agg (c.enc.map .t)] (aEo r) [] true:=by
 have Fg:=hb;obtain⟨Xj,Xi,Xh,Xg,ob4,ob5,ob6,ob7,ob8,ob9,ahG,ahF,ahE⟩:=Fg;refine cU (Φ:=fun (r:Bool)=>r=(qD a b c)) cO (cX Tryz.func47 rfl (by kernel_rfl) rfl (aEl [] [] ?_))
 repeat' (first|(apply pP;(iterate 2 first|assumption|omega|(simp only[bp,cK,aZ,bM];omega)|(simp only[Lm] at *;omega)|decide);intro _)|(apply bN <;> intro _)|(apply cQ <;> intro _)|(apply cS <;> intro _)|(exact bo _ (Ei [] (Ai rfl (Ai ea rfl))) (by first|contradiction|(simp[qD,jP, *];done)|(simp_all[qD,jP];done)|(rw[RG ‹_›];simp[To ‹_›, *];done)|(rw[RG ‹_›];simp[Tn ‹_›, *];done)|(rw[RG ‹_›,Yi ‹_› ‹_›];simp[*];done)) rfl)|(apply aT 96;refine cF (fP _ _ ‹_›) ⟨fL (aq.enc _),rfl,ea⟩ ?_)|(apply aT 97;refine cF (LS _ _ ‹_›) ⟨fL (aq.enc _),rfl,ea⟩ ?_)|(apply aT 98;refine cF (LU _) ⟨rfl,ea⟩ ?_)|(apply aT 99;refine cF (agJ _ _ _ ‹_›) ⟨fL (aq.enc _),rfl,rfl,ea⟩ ?_))
theorem wA (a:List bd)(b:aq)(c:bG)(ha:a.length*176<=aV)(ma:∀ y∈a,bd.ok y)(hb:b.ok):Ct ae 47 [.c (.t (.sl 17 (a.map bd.enc))),.agg (b.enc.map .t),.agg (c.enc.map .t)] (aEo (qD a b c)) [] true:=by
 obtain⟨r,hr,h⟩:=YE a b c ha ma hb;rw[hr] at h;exact h
theorem Ed (a:Int)(b:Int):∃ r:Bool,(r=(oD a b))/\Ct ae 141 [.c (.t (iv a)),.c (.t (iv b))] (aEo r) [] true:=by
 refine cU (Φ:=fun (r:Bool)=>r=(oD a b)) cO (cX Tryz.func141 rfl (by kernel_rfl) rfl (aEl [] [] ?_))
 repeat' (first|(exact bo _ (Ei [] (Ai rfl (Ai ea rfl))) (rfl) rfl))
theorem Ui (a:Int)(b:Int):Ct ae 141 [.c (.t (iv a)),.c (.t (iv b))] (aEo (oD a b)) [] true:=by
 obtain⟨r,hr,h⟩:=Ed a b;rw[hr] at h;exact h
theorem QF (a:Int)(b:Int):∃ r:Bool,(r=(oD a b))/\Ct ae 185 [.c (.t (iv a)),.c (.t (iv b))] (aEo r) [] true:=by
 refine cU (Φ:=fun (r:Bool)=>r=(oD a b)) cO (cX Tryz.func185 rfl (by kernel_rfl) rfl (aEl [] [] ?_))
 repeat' (first|(exact bo _ (Ei [] (Ai rfl (Ai ea rfl))) (rfl) rfl))
theorem G8 (a:aq)(b:List aD)(c:Int)(ha:a.ok)(_hb:b.length*176<=aV)(_mb:∀ y∈b,aD.ok y):∃ r:Bool,(r=(gH a b c))/\Ct ae 108 [.agg (a.enc.map .t),.c (.t (.sl 17 (b.map aD.enc))),.c (.t (iv c))] (aEo r) [] true:=by
 have lZ:=ha;obtain⟨w7,yk,yj,yi,Et,J3,Es,J2,J1,J0,w6,wZ,wY⟩:=lZ;refine cU (Φ:=fun (r:Bool)=>r=(gH a b c)) cO (cX Tryz.func108 rfl (by kernel_rfl) rfl (aEl [] [] ?_))
 repeat' (first|(apply pP;(iterate 2 first|assumption|omega|(simp only[bp,cK,aZ,bM];omega)|(simp only[Lm] at *;omega)|decide);intro _)|(apply bN <;> intro _)|(exact bo _ (Ei [] (Ai rfl (Ai ea rfl))) (by first|exact R7 ‹_› ‹_› ‹_› ‹_› ‹_› | exact Ws ‹_› ‹_› | exact Wr ‹_› ‹_›) rfl)|(apply dV 2 rfl;refine fM.up (β:=Unit) 2 7 ((((a.aa.map az.enc).length:Nat):Int)) (by first|omega|exact eO ‹_› rfl) (by omega) (fun _=>[]) (fun i _=>Up (UY b c) a.aa i) [1,2,3] [0] 200000 rfl ?_;refine Ai ?_ fun _ _ _ _ _=>aEl [] [] ?_)|exact Ei () (Ai (by first|exact Up.zero|exact Up.step ‹_› ‹_› ‹_› (by first|exact Xk ‹_› | exact ahI ‹_› ‹_›)) (bX rfl rfl rfl rfl))|exact Ai (by first|assumption|omega) (Ei () (Ai (by first|exact Up.zero|exact Up.step ‹_› ‹_› ‹_› (by first|exact Xk ‹_› | exact ahI ‹_› ‹_›)) (bX rfl rfl rfl rfl)))|(apply aT 141;refine cF (Ui _ _) ⟨rfl,rfl,ea⟩ ?_))
theorem LQ (a:aq)(b:List aD)(c:Int)(ha:a.ok)(hb:b.length*176<=aV)(mb:∀ y∈b,aD.ok y):Ct ae 108 [.agg (a.enc.map .t),.c (.t (.sl 17 (b.map aD.enc))),.c (.t (iv c))] (aEo (gH a b c)) [] true:=by
 obtain⟨r,hr,h⟩:=G8 a b c ha hb mb;rw[hr] at h;exact h
end
section
open Go Cg Go.RowKit Go.Sort

section
variable {q:uA}{c:Int}
theorem LO (s:aq)(e:bG)(h:s.ok)(hk:e.kind=4)(i:Nat)(hi:i < s.aw.length)(he:e.bK=i):Ct ae 50 [.agg (s.enc.map .t),.agg (e.enc.map .t)] (.agg ((ka s e).enc.map .t)) [] false:=by
 rw[rT hi he];have hm:Nw e s.gy s.aw[i]=({ s.aw[i] with jC:=fK s.aw[i].jC e.bB },s.gy):=by unfold Nw;rw[hk];rfl
 rw[hm];have hw:=rB s (i:Int) { s.aw[i] with jC:=fK s.aw[i].jC e.bB } h (by omega);refine cT Tryz.func50 rfl (by kernel_rfl) rfl fun w0 O _=>aEk [3,4,6,8,10,13] ?_;refine Ei i (Ei _ (Ai he (Ai (aK _ _ i hi) ?_)));refine aEk [4,6,8,10] ?_
 repeat' (first|refine eX (jI hk) ?_|refine eA (gY hk (by decide)) ?_)
 refine aEk [] (cF (lz s.aw[i].jC e.bB) ⟨rfl,rfl,ea⟩ ?_);refine aEk [] (cR hw ⟨fL s.enc,congrArg iv he,?_,ea⟩ ?_)
 ·repeat' constructor
 refine Ei [] ?_
 repeat' constructor
theorem LN (s:aq)(e:bG)(h:s.ok)(hk:e.kind=5)(i:Nat)(hi:i < s.aw.length)(he:e.bK=i):Ct ae 50 [.agg (s.enc.map .t),.agg (e.enc.map .t)] (.agg ((ka s e).enc.map .t)) [] false:=by
 rw[rT hi he];have hm:Nw e s.gy s.aw[i]=({ s.aw[i] with jC:=rj s.aw[i].jC e.bB },s.gy):=by unfold Nw;rw[hk];rfl
 rw[hm];have hw:=rB s (i:Int) { s.aw[i] with jC:=rj s.aw[i].jC e.bB } h (by omega);refine cT Tryz.func50 rfl (by kernel_rfl) rfl fun w0 O _=>aEk [3,4,6,8,10,13] ?_;refine Ei i (Ei _ (Ai he (Ai (aK _ _ i hi) ?_)));refine aEk [4,6,8,10] ?_
 repeat' (first|refine eX (jI hk) ?_|refine eA (gY hk (by decide)) ?_)
 refine aEk [] (cF (PE s.aw[i].jC e.bB) ⟨rfl,rfl,ea⟩ ?_);refine aEk [] (cR hw ⟨fL s.enc,congrArg iv he,?_,ea⟩ ?_)
 ·repeat' constructor
 refine Ei [] ?_
 repeat' constructor
theorem G6 (s:aq)(e:bG)(h:s.ok)(hk:e.kind=16)(i:Nat)(hi:i < s.aw.length)(he:e.bK=i):Ct ae 50 [.agg (s.enc.map .t),.agg (e.enc.map .t)] (.agg ((ka s e).enc.map .t)) [] false:=by
 rw[rT hi he];have hm:Nw e s.gy s.aw[i]=({ s.aw[i] with ll:=fK s.aw[i].ll e.bB },s.gy):=by unfold Nw;rw[hk];rfl
 rw[hm];have hw:=rB s (i:Int) { s.aw[i] with ll:=fK s.aw[i].ll e.bB } h (by omega);refine cT Tryz.func50 rfl (by kernel_rfl) rfl fun w0 O _=>aEk [3,4,6,8,10,13] ?_;refine Ei i (Ei _ (Ai he (Ai (aK _ _ i hi) ?_)));refine aEk [4,6,8,10] ?_
 repeat' (first|refine eX (jI hk) ?_|refine eA (gY hk (by decide)) ?_)
 refine aEk [] (cF (lz s.aw[i].ll e.bB) ⟨rfl,rfl,ea⟩ ?_);refine aEk [] (cR hw ⟨fL s.enc,congrArg iv he,?_,ea⟩ ?_)
 ·repeat' constructor
 refine Ei [] ?_
 repeat' constructor
theorem G5 (s:aq)(e:bG)(h:s.ok)(hk:e.kind=17)(i:Nat)(hi:i < s.aw.length)(he:e.bK=i)(hb:s.aw[i].dt.length<=1099511627776):Ct ae 50 [.agg (s.enc.map .t),.agg (e.enc.map .t)] (.agg ((ka s e).enc.map .t)) [] false:=by
 rw[rT hi he];have hm:Nw e s.gy s.aw[i]=({ s.aw[i] with dt:=(me s.gy s.aw[i].dt).1 },(me s.gy s.aw[i].dt).2):=by unfold Nw;rw[hk];rfl
 rw[hm];have hs:=Ho s.gy s.aw[i].dt (h.2.1 _ (aH hi)).1 hb;generalize me s.gy s.aw[i].dt=sh at hs;have hw:=rB { s with gy:=sh.2 } (i:Int) { s.aw[i] with dt:=sh.1 } h (by show 0<=(i:Int)/\(i:Int) < s.aw.length;omega);refine cT Tryz.func50 rfl (by kernel_rfl) rfl fun w0 O _=>aEk [3,4,6,8,10,13] ?_;refine Ei i (Ei _ (Ai he (Ai (aK _ _ i hi) ?_)));refine aEk [4,6,8,10] ?_
 repeat' (first|refine eX (jI hk) ?_|refine eA (gY hk (by decide)) ?_)
 refine aEk [] (cR hs ⟨rfl,rfl,ea⟩ ?_);refine aEk [] (cR hw ⟨?_,congrArg iv he,?_,ea⟩ ?_)
 ·repeat' constructor
 ·repeat' constructor
 refine Ei [] ?_
 repeat' constructor
theorem TR (s:aq)(e:bG)(h:s.ok)(hk:e.kind=4\/e.kind=5\/e.kind=16\/e.kind=17)(i:Nat)(hi:i < s.aw.length)(he:e.bK=i)(hb:s.aw[i].dt.length<=1099511627776):Ct ae 50 [.agg (s.enc.map .t),.agg (e.enc.map .t)] (.agg ((ka s e).enc.map .t)) [] false:=by
 rcases hk with hk|hk|hk|hk
 ·exact LO s e h hk i hi he
 ·exact LN s e h hk i hi he
 ·exact G6 s e h hk i hi he
 ·exact G5 s e h hk i hi he hb
theorem TT (s:aq)(p:Nat)(h:s.ok)(hp:p < s.aw.length):Ct ae 49 [.agg (s.enc.map .t),.c (.t (iv p))] (.agg ((nf s p).enc.map .t)) [] false:=by
 cases hl:s.aw[p].dt with
 | nil=>
  have hd:nf s p={ s with aw:=s.aw.set p { s.aw[p] with failed:=true,dt:=[] } }:=by
   unfold nf Og;rw[Int.toNat_natCast,ag hp];simp only[hl]
  rw[hd]
  have hq:(s.aw.map bO.enc)[p]? = some (({ s.aw[p] with dt:=[] }:bO).enc):=by
   rw[aK _ _ p hp,<- hl]
  have hw:=rB s (p:Int) { s.aw[p] with failed:=true,dt:=[] } h (by omega);refine cT Tryz.func49 rfl (by kernel_rfl) rfl fun w0 O _=>aEk [2,3,4,5] ?_;refine Ei p (Ei _ (Ai rfl (Ai hq ?_)));refine aEk [3,5] (aEk [] (aEk [] (cR hw ⟨fL s.enc,rfl,?_,ea⟩ ?_)))
  ·repeat' constructor
  refine Ei [] ?_
  repeat' constructor
 | cons id l=>
  have hm:=B6 s id 1 p false h
  have hd:nf s p=(kE s id 1 p false).1:=by
   unfold nf;rw[Int.toNat_natCast,ag hp];simp only[hl]
  rw[hd]
  have hq:(s.aw.map bO.enc)[p]? = some (({ s.aw[p] with dt:=id :: l }:bO).enc):=by
   rw[aK _ _ p hp,<- hl]
  generalize kE s id 1 p false=r at hm;refine cT Tryz.func49 rfl (by kernel_rfl) rfl fun w0 O _=>aEk [2,3,4,5] ?_;refine Ei p (Ei _ (Ai rfl (Ai hq ?_)));refine aEk [3,5] (aEk [] (Ei 0 (Ei [iv id] (Ai rfl (Ai rfl ?_)))));refine cR hm ⟨fL s.enc,rfl,rfl,rfl,rfl,ea⟩ ?_;refine Ei [] ?_
  repeat' constructor
theorem TQ (s:aq)(e:bG)(h:s.ok)(hv:kj q c s)(hid:eh s.aa e.aL=true)(hz:0<=e.nk/\e.nk<=4)(hp:0<=e.bK/\e.bK < s.aw.length)(hn:s.bC+1<=1000001/\s.bF+1<=1000001):Ct ae 48 [.agg (s.enc.map .t),.agg (e.enc.map .t)] (.agg ((J8 s e).enc.map .t)) [] false:=by
 generalize hM:J8 s e=M;unfold J8 at hM;dsimp only at hM
 by_cases hf:e.from_=0
 ·rw[if_pos hf] at hM;have mn:=Jf hv e.aL;have Iu:(tm s e.aL).ok:=eZ h mn (Ig s _);have arK:eh (tm s e.aL).aa e.aL=true:=(Cr _ _ _ fun o=>(GH _ o).1).trans hid;have mI:(kE (tm s e.aL) e.aL e.nk e.bK (e.bB==1)).1.ok:=eZ h (rO mn e.aL e.nk e.bK (e.bB==1) arK hz hp hn).val ((Ig s _).trans (rY _ _ _ _ _));have hm:=B6 (tm s e.aL) e.aL e.nk e.bK (e.bB==1) Iu;have hu:=YD s e.aL h;generalize kE (tm s e.aL) e.aL e.nk e.bK (e.bB==1)=r at hM hm mI;generalize tm s e.aL=u at hm hu;refine cT Tryz.func48 rfl (by kernel_rfl) rfl fun w0 O _=>aEk [2,3,4,5,6] ?_;refine eX (jI hf) (aEk [] (cR hu ⟨fL s.enc,rfl,ea⟩ ?_));refine aEk [] (cR hm ⟨fL u.enc,rfl,rfl,rfl,rfl,ea⟩ ?_);refine aEk [5,6] (cS (fun h0=>?_) fun h0=>?_)
  ·have h0:e.nk=0:=by simpa using h0
   rw[if_pos h0] at hM;subst hM;refine aEk [] (cR (tF r.1 r.2 e mI) ⟨fL r.1.enc,rfl,fL e.enc,ea⟩ ?_);refine Ei [] ?_
   repeat' constructor
  ·have h0:¬ e.nk=0:=by simpa using h0
   rw[if_neg h0] at hM;subst hM;refine aEk [] (Ei [] ?_)
   repeat' constructor
 ·rw[if_neg hf] at hM;have mI:(kE s e.aL e.nk e.bK (e.bB==1)).1.ok:=eZ h (rO hv e.aL e.nk e.bK (e.bB==1) hid hz hp hn).val (rY _ _ _ _ _);have hm:=B6 s e.aL e.nk e.bK (e.bB==1) h;generalize kE s e.aL e.nk e.bK (e.bB==1)=r at hM hm mI;refine cT Tryz.func48 rfl (by kernel_rfl) rfl fun w0 O _=>aEk [2,3,4,5,6] ?_;refine cS (fun h=>absurd (by simpa using h) hf) fun _=>?_;refine aEk [] (cR hm ⟨fL s.enc,rfl,rfl,rfl,rfl,ea⟩ ?_);refine aEk [5,6] (cS (fun h0=>?_) fun h0=>?_)
  ·have h0:e.nk=0:=by simpa using h0
   rw[if_pos h0] at hM;subst hM;refine aEk [] (cR (tF r.1 r.2 e mI) ⟨fL r.1.enc,rfl,fL e.enc,ea⟩ ?_);refine Ei [] ?_
   repeat' constructor
  ·have h0:¬ e.nk=0:=by simpa using h0
   rw[if_neg h0] at hM;subst hM;refine aEk [] (Ei [] ?_)
   repeat' constructor
theorem LR (s:aq)(e:bG)(h0:Gs s e (0,s))(hm:e.bB<=1000000):Ct ae 51 [.agg (s.enc.map .t),.agg (e.enc.map .t)] (.agg ((EB s e e.bB.toNat).enc.map .t)) [] false:=by
 refine cT Tryz.func51 rfl (by kernel_rfl) rfl fun w0 O _=>aEk [2,6] ?_;refine aEm (fun x:Nat × aq=>⟨[(2,.ptr 0 0),(3,.ptr 128 0),(4,.ptr 256 0),(5,aEn x.1)],[(0,x.2.enc.map .t),(128,e.enc.map .t),(256,List.replicate 19 .bot)],[],10000⟩) (Gs s e) (fun x=>e.bB.toNat - x.1) (0,s) ?_ h0 ?_
 ·refine ba [] rfl rfl ?_ ?_ ?_
  repeat' constructor
 rintro⟨k,S⟩ hk;refine aEk [3,4,5,6] ?_;have qz:=fun hh=>(hk.fin hh)
 have hkm:=hk.step;have hmk:=Ve S e.ee e.bK hk.ok;refine cS (fun hc=>?_) fun hc=>?_
 ·refine cS (fun hl=>?_) fun hl=>?_
  ·have hl:(S.aa.length:Int) < 2048:=by
    have:=of_decide_eq_true hl
    rwa [Lm] at this
   have hc:(k:Int) < e.bB:=of_decide_eq_true hc;have fp:=hkm (by omega) hl;have mI:=hk.okm (by omega) hl;clear hkm qz;generalize mi S e.ee e.bK=r at hmk fp mI;have aAk:k+1<=e.bB.toNat:=fp.le;have S0:IntKind.i64.wrap ((k:Int)+1)=((k+1:Nat):Int):=jQ k (by omega);refine aEk [] (cR hmk ⟨fL S.enc,rfl,rfl,ea⟩ ?_);refine aEk [] (cR (tF r.1 r.2 e mI) ⟨fL r.1.enc,rfl,fL e.enc,ea⟩ ?_);refine aEk [] (Ei (k+1,mG r.1 r.2 e) (Ai fp (Ai (show e.bB.toNat - (k+1) < e.bB.toNat - k by omega) ?_)));refine ba [] rfl rfl ?_ ?_ ?_
   ·repeat' constructor
    exact congrArg iv S0
   repeat' constructor
  ·have hl:¬ (S.aa.length:Int) < 2048:=by
    have:=of_decide_eq_false hl
    rwa [Lm] at this
   rw[qz (.inr hl)];refine aEk [] (Ei [] ?_)
   repeat' constructor
 ·rw[qz (.inl (of_decide_eq_false hc))];refine aEk [] (Ei [] ?_)
  repeat' constructor
end
theorem okp {s:aq}{o:az}(h:s.ok)(hl:(fm s o).aa.length*128<=aV):(fm s o).ok:=by
 obtain⟨h1,h2,_,h4,h5⟩:=h;exact⟨h1,h2,hl,fun y hy=>wX y,h5⟩
theorem Pa (s:aq)(all:List aD)(e:bG)(h:s.ok)(ha:all.length*176<=aV)(ma:∀ y∈all,aD.ok y)(hk:e.kind=1)(hh:eh s.aa e.aL=true):Ct ae 52 [.agg (s.enc.map .t),.c (.t (.sl 17 (all.map aD.enc))),.agg (e.enc.map .t)] (.agg ((il s all e).enc.map .t)) [] false:=by
 have hf:=fP s e.aL h.2.2.1;rw[hh] at hf;have hm:im (gH s all e.dC) e (cb s.aa e.aL)={ cb s.aa e.aL with fX:=fK (cb s.aa e.aL).fX e.bB,jH:=(cb s.aa e.aL).jH||gH s all e.dC }:=by unfold im;rw[hk];rfl
 have ho:il s all e=fm s { cb s.aa e.aL with fX:=fK (cb s.aa e.aL).fX e.bB,jH:=(cb s.aa e.aL).jH||gH s all e.dC }:=by
  unfold il;rw[if_pos hh];dsimp only;rw[if_neg (show ¬ e.kind=13 from fun hx=>by omega),hm]
 rw[ho];refine cT Tryz.func52 rfl (by kernel_rfl) rfl fun w0 O _=>aEk [3,4,6,7,9,11,13,15,17,19,20,22,23,24,25] ?_;refine cR hf ⟨fL s.enc,rfl,ea⟩ ?_;refine aEk [6,9,11,13,15,17,19] ?_
 repeat' (first|refine eX (jI hk) ?_|refine eA (gY hk (by decide)) ?_)
 refine aEk [] (cF (lz (cb s.aa e.aL).fX e.bB) ⟨rfl,rfl,ea⟩ ?_);refine aEk [] (cS (fun hd=>?_) fun hd=>?_)
 ·refine aEk [] (cR (kn s { cb s.aa e.aL with fX:=fK (cb s.aa e.aL).fX e.bB,jH:=(cb s.aa e.aL).jH||gH s all e.dC } h) ⟨fL s.enc,?_,ea⟩ ?_)
  ·repeat' constructor
   first
   | exact congrArg bv (by rw[hd];rfl)
   | rfl
  refine eA (gY hk (by decide)) (aEk [] (Ei [] ?_))
  repeat' constructor
 ·refine cF (LQ s all e.dC h ha ma) ⟨fL s.enc,rfl,rfl,ea⟩ ?_;refine aEk [] (cR (kn s { cb s.aa e.aL with fX:=fK (cb s.aa e.aL).fX e.bB,jH:=(cb s.aa e.aL).jH||gH s all e.dC } h) ⟨fL s.enc,?_,ea⟩ ?_)
  ·repeat' constructor
   first
   | exact congrArg bv (by rw[hd];rfl)
   | rfl
  refine eA (gY hk (by decide)) (aEk [] (Ei [] ?_))
  repeat' constructor
theorem O9 (s:aq)(all:List aD)(e:bG)(h:s.ok)(hk:e.kind=6)(hh:eh s.aa e.aL=true):Ct ae 52 [.agg (s.enc.map .t),.c (.t (.sl 17 (all.map aD.enc))),.agg (e.enc.map .t)] (.agg ((il s all e).enc.map .t)) [] false:=by
 have hf:=fP s e.aL h.2.2.1;rw[hh] at hf;have hm:im (gH s all e.dC) e (cb s.aa e.aL)={ cb s.aa e.aL with fe:=true }:=by unfold im;rw[hk];rfl
 have ho:il s all e=fm s { cb s.aa e.aL with fe:=true }:=by
  unfold il;rw[if_pos hh];dsimp only;rw[if_neg (show ¬ e.kind=13 from fun hx=>by omega),hm]
 rw[ho];refine cT Tryz.func52 rfl (by kernel_rfl) rfl fun w0 O _=>aEk [3,4,6,7,9,11,13,15,17,19,20,22,23,24,25] ?_;refine cR hf ⟨fL s.enc,rfl,ea⟩ ?_;refine aEk [6,9,11,13,15,17,19] ?_
 repeat' (first|refine eX (jI hk) ?_|refine eA (gY hk (by decide)) ?_)
 refine aEk [] (aEk [] (cR (kn s { cb s.aa e.aL with fe:=true } h) ⟨fL s.enc,?_,ea⟩ ?_))
 ·repeat' constructor
 refine eA (gY hk (by decide)) (aEk [] (Ei [] ?_))
 repeat' constructor
theorem O8 (s:aq)(all:List aD)(e:bG)(h:s.ok)(hk:e.kind=7)(hh:eh s.aa e.aL=true):Ct ae 52 [.agg (s.enc.map .t),.c (.t (.sl 17 (all.map aD.enc))),.agg (e.enc.map .t)] (.agg ((il s all e).enc.map .t)) [] false:=by
 have hf:=fP s e.aL h.2.2.1;rw[hh] at hf;have hm:im (gH s all e.dC) e (cb s.aa e.aL)={ cb s.aa e.aL with fe:=false }:=by unfold im;rw[hk];rfl
 have ho:il s all e=fm s { cb s.aa e.aL with fe:=false }:=by
  unfold il;rw[if_pos hh];dsimp only;rw[if_neg (show ¬ e.kind=13 from fun hx=>by omega),hm]
 rw[ho];refine cT Tryz.func52 rfl (by kernel_rfl) rfl fun w0 O _=>aEk [3,4,6,7,9,11,13,15,17,19,20,22,23,24,25] ?_;refine cR hf ⟨fL s.enc,rfl,ea⟩ ?_;refine aEk [6,9,11,13,15,17,19] ?_
 repeat' (first|refine eX (jI hk) ?_|refine eA (gY hk (by decide)) ?_)
 refine aEk [] (aEk [] (cR (kn s { cb s.aa e.aL with fe:=false } h) ⟨fL s.enc,?_,ea⟩ ?_))
 ·repeat' constructor
 refine eA (gY hk (by decide)) (aEk [] (Ei [] ?_))
 repeat' constructor
theorem O7 (s:aq)(all:List aD)(e:bG)(h:s.ok)(hk:e.kind=8)(hh:eh s.aa e.aL=true):Ct ae 52 [.agg (s.enc.map .t),.c (.t (.sl 17 (all.map aD.enc))),.agg (e.enc.map .t)] (.agg ((il s all e).enc.map .t)) [] false:=by
 have hf:=fP s e.aL h.2.2.1;rw[hh] at hf;have hm:im (gH s all e.dC) e (cb s.aa e.aL)={ cb s.aa e.aL with de:=lV 0 e.gx (cb s.aa e.aL).de e.bB,dd:=lV 1 e.gx (cb s.aa e.aL).dd e.bB,dA:=lV 2 e.gx (cb s.aa e.aL).dA e.bB }:=by unfold im;rw[hk];rfl
 have ho:il s all e=fm s { cb s.aa e.aL with de:=lV 0 e.gx (cb s.aa e.aL).de e.bB,dd:=lV 1 e.gx (cb s.aa e.aL).dd e.bB,dA:=lV 2 e.gx (cb s.aa e.aL).dA e.bB }:=by
  unfold il;rw[if_pos hh];dsimp only;rw[if_neg (show ¬ e.kind=13 from fun hx=>by omega),hm]
 rw[ho];refine cT Tryz.func52 rfl (by kernel_rfl) rfl fun w0 O _=>aEk [3,4,6,7,9,11,13,15,17,19,20,22,23,24,25] ?_;refine cR hf ⟨fL s.enc,rfl,ea⟩ ?_;refine aEk [6,9,11,13,15,17,19] ?_
 repeat' (first|refine eX (jI hk) ?_|refine eA (gY hk (by decide)) ?_)
 refine aEk [] (cF (Hm (cb s.aa e.aL).de (cb s.aa e.aL).dd (cb s.aa e.aL).dA e.gx e.bB) ⟨?_,?_,?_,ea⟩ ?_)
 ·repeat' constructor
 ·repeat' constructor
 ·repeat' constructor
 refine aEk [] (cR (kn s { cb s.aa e.aL with de:=lV 0 e.gx (cb s.aa e.aL).de e.bB,dd:=lV 1 e.gx (cb s.aa e.aL).dd e.bB,dA:=lV 2 e.gx (cb s.aa e.aL).dA e.bB } h) ⟨fL s.enc,?_,ea⟩ ?_)
 ·repeat' constructor
 refine eA (gY hk (by decide)) (aEk [] (Ei [] ?_))
 repeat' constructor
theorem O6 (s:aq)(all:List aD)(e:bG)(h:s.ok)(hk:e.kind=9)(hh:eh s.aa e.aL=true):Ct ae 52 [.agg (s.enc.map .t),.c (.t (.sl 17 (all.map aD.enc))),.agg (e.enc.map .t)] (.agg ((il s all e).enc.map .t)) [] false:=by
 have hf:=fP s e.aL h.2.2.1;rw[hh] at hf;have hm:im (gH s all e.dC) e (cb s.aa e.aL)={ cb s.aa e.aL with de:=lV 0 e.gx (cb s.aa e.aL).de (IntKind.i64.wrap (0 - e.bB)),dd:=lV 1 e.gx (cb s.aa e.aL).dd (IntKind.i64.wrap (0 - e.bB)),dA:=lV 2 e.gx (cb s.aa e.aL).dA (IntKind.i64.wrap (0 - e.bB)) }:=by unfold im;rw[hk];rfl
 have ho:il s all e=fm s { cb s.aa e.aL with de:=lV 0 e.gx (cb s.aa e.aL).de (IntKind.i64.wrap (0 - e.bB)),dd:=lV 1 e.gx (cb s.aa e.aL).dd (IntKind.i64.wrap (0 - e.bB)),dA:=lV 2 e.gx (cb s.aa e.aL).dA (IntKind.i64.wrap (0 - e.bB)) }:=by
  unfold il;rw[if_pos hh];dsimp only;rw[if_neg (show ¬ e.kind=13 from fun hx=>by omega),hm]
 rw[ho];refine cT Tryz.func52 rfl (by kernel_rfl) rfl fun w0 O _=>aEk [3,4,6,7,9,11,13,15,17,19,20,22,23,24,25] ?_;refine cR hf ⟨fL s.enc,rfl,ea⟩ ?_;refine aEk [6,9,11,13,15,17,19] ?_
 repeat' (first|refine eX (jI hk) ?_|refine eA (gY hk (by decide)) ?_)
 refine aEk [] (cF (Hm (cb s.aa e.aL).de (cb s.aa e.aL).dd (cb s.aa e.aL).dA e.gx (IntKind.i64.wrap (0 - e.bB))) ⟨?_,?_,?_,ea⟩ ?_)
 ·repeat' constructor
 ·repeat' constructor
 ·repeat' constructor
 refine aEk [] (cR (kn s { cb s.aa e.aL with de:=lV 0 e.gx (cb s.aa e.aL).de (IntKind.i64.wrap (0 - e.bB)),dd:=lV 1 e.gx (cb s.aa e.aL).dd (IntKind.i64.wrap (0 - e.bB)),dA:=lV 2 e.gx (cb s.aa e.aL).dA (IntKind.i64.wrap (0 - e.bB)) } h) ⟨fL s.enc,?_,ea⟩ ?_)
 ·repeat' constructor
 refine eA (gY hk (by decide)) (aEk [] (Ei [] ?_))
 repeat' constructor
theorem LM (s:aq)(all:List aD)(e:bG)(h:s.ok)(hk:e.kind=12)(hh:eh s.aa e.aL=true):Ct ae 52 [.agg (s.enc.map .t),.c (.t (.sl 17 (all.map aD.enc))),.agg (e.enc.map .t)] (.agg ((il s all e).enc.map .t)) [] false:=by
 have hf:=fP s e.aL h.2.2.1;rw[hh] at hf;have hm:im (gH s all e.dC) e (cb s.aa e.aL)={ cb s.aa e.aL with j3:=e.bK }:=by unfold im;rw[hk];rfl
 have ho:il s all e=fm s { cb s.aa e.aL with j3:=e.bK }:=by
  unfold il;rw[if_pos hh];dsimp only;rw[if_neg (show ¬ e.kind=13 from fun hx=>by omega),hm]
 rw[ho];refine cT Tryz.func52 rfl (by kernel_rfl) rfl fun w0 O _=>aEk [3,4,6,7,9,11,13,15,17,19,20,22,23,24,25] ?_;refine cR hf ⟨fL s.enc,rfl,ea⟩ ?_;refine aEk [6,9,11,13,15,17,19] ?_
 repeat' (first|refine eX (jI hk) ?_|refine eA (gY hk (by decide)) ?_)
 refine aEk [] (aEk [] (cR (kn s { cb s.aa e.aL with j3:=e.bK } h) ⟨fL s.enc,?_,ea⟩ ?_))
 ·repeat' constructor
 refine eA (gY hk (by decide)) (aEk [] (Ei [] ?_))
 repeat' constructor
theorem LL (s:aq)(all:List aD)(e:bG)(h:s.ok)(hk:e.kind=13)(hh:eh s.aa e.aL=true):Ct ae 52 [.agg (s.enc.map .t),.c (.t (.sl 17 (all.map aD.enc))),.agg (e.enc.map .t)] (.agg ((il s all e).enc.map .t)) [] false:=by
 have hf:=fP s e.aL h.2.2.1;rw[hh] at hf;have hm:im (gH s all e.dC) e (cb s.aa e.aL)={ cb s.aa e.aL with blocks:=e.dC }:=by unfold im;rw[hk];rfl
 have ho:il s all e=fm (fm s { cb s.aa e.aL with blocks:=e.dC }) { cb (fm s { cb s.aa e.aL with blocks:=e.dC }).aa e.dC with blocked:=true }:=by
  unfold il;rw[if_pos hh];dsimp only;rw[if_pos hk,hm]
 rw[ho]
 have qO:(fm s { cb s.aa e.aL with blocks:=e.dC }).aa.length*128<=aV:=by
  obtain⟨i,hi,h1,h2,h3⟩:=vJ hh;rw[YW (s:=s) (o':={ cb s.aa e.aL with blocks:=e.dC }) h1 (h2▸h3)];show(s.aa.set i _).length*128<=aV;rw[bQ];exact h.2.2.1
 have hf2:=fP (fm s { cb s.aa e.aL with blocks:=e.dC }) e.dC qO;have uf:=kn (fm s { cb s.aa e.aL with blocks:=e.dC }) { cb (fm s { cb s.aa e.aL with blocks:=e.dC }).aa e.dC with blocked:=true } (okp h qO);refine cT Tryz.func52 rfl (by kernel_rfl) rfl fun w0 O _=>aEk [3,4,6,7,9,11,13,15,17,19,20,22,23,24,25] ?_;refine cR hf ⟨fL s.enc,rfl,ea⟩ ?_;refine aEk [6,9,11,13,15,17,19] ?_
 repeat' (first|refine eX (jI hk) ?_|refine eA (gY hk (by decide)) ?_)
 refine aEk [] (aEk [] (cR (kn s { cb s.aa e.aL with blocks:=e.dC } h) ⟨fL s.enc,?_,ea⟩ ?_))
 ·repeat' constructor
 refine eX (jI hk) (aEq [] (aEk [] ?_));refine cR hf2 ⟨?_,rfl,ea⟩ ?_
 ·repeat' constructor
 refine aEk [] (aEk [] (cR uf ⟨?_,?_,ea⟩ ?_))
 ·repeat' constructor
 ·repeat' constructor
 refine aEk [] (Ei [] ?_)
 repeat' constructor
theorem LP (aE:List bd)(s:aq)(all:List aD)(e:bG)(hc:aE.length*176<=aV)(mc:∀ y∈aE,bd.ok y)(h:s.ok)(eL:qD aE s e=false):Ct ae 21 [.c (.t (.sl 17 (aE.map bd.enc))),.agg (s.enc.map .t),.c (.t (.sl 17 (all.map aD.enc))),.agg (e.enc.map .t)] (.agg (s.enc.map .t)) [] false:=by
 have hv:=wA aE s e hc mc h;rw[eL] at hv;refine cT Tryz.func21 rfl (by kernel_rfl) rfl fun w0 O _=>aEk [3,4,6,8,13,15,23,24] ?_;refine cR (iD s h) ⟨fL s.enc,ea⟩ ?_;refine cF hv ⟨rfl,fL s.enc,fL e.enc,ea⟩ ?_;refine aEk [] (Ei [] ?_)
 repeat' constructor
theorem TV (aE:List bd)(s:aq)(all:List aD)(e:bG)(hc:aE.length*176<=aV)(mc:∀ y∈aE,bd.ok y)(h:s.ok)(eL:qD aE s e=true)(hk:e.kind=2)(hm:Ct ae 48 [.agg (s.enc.map .t),.agg (e.enc.map .t)] (.agg ((J8 s e).enc.map .t)) [] false):Ct ae 21 [.c (.t (.sl 17 (aE.map bd.enc))),.agg (s.enc.map .t),.c (.t (.sl 17 (all.map aD.enc))),.agg (e.enc.map .t)] (.agg ((J8 s e).enc.map .t)) [] false:=by
 have hv:=wA aE s e hc mc h;rw[eL] at hv;refine cT Tryz.func21 rfl (by kernel_rfl) rfl fun w0 O _=>aEk [3,4,6,8,13,15,23,24] ?_;refine cR (iD s h) ⟨fL s.enc,ea⟩ ?_;refine cF hv ⟨rfl,fL s.enc,fL e.enc,ea⟩ ?_;refine aEk [] ?_
 repeat' (first|refine eX (jI hk) ?_|refine eA (gY hk (by decide)) ?_)
 refine aEq [] (aEk [] ?_);refine cR (hm) ⟨?_,fL e.enc,ea⟩ ?_
 ·repeat' constructor
 refine Ei [] ?_
 repeat' constructor
theorem TU (aE:List bd)(s:aq)(all:List aD)(e:bG)(hc:aE.length*176<=aV)(mc:∀ y∈aE,bd.ok y)(h:s.ok)(eL:qD aE s e=true)(hk:e.kind=3)(p:Nat)(hp:p < s.aw.length)(he:e.bK=p):Ct ae 21 [.c (.t (.sl 17 (aE.map bd.enc))),.agg (s.enc.map .t),.c (.t (.sl 17 (all.map aD.enc))),.agg (e.enc.map .t)] (.agg ((nf s p).enc.map .t)) [] false:=by
 have hv:=wA aE s e hc mc h;rw[eL] at hv;refine cT Tryz.func21 rfl (by kernel_rfl) rfl fun w0 O _=>aEk [3,4,6,8,13,15,23,24] ?_;refine cR (iD s h) ⟨fL s.enc,ea⟩ ?_;refine cF hv ⟨rfl,fL s.enc,fL e.enc,ea⟩ ?_;refine aEk [] ?_
 repeat' (first|refine eX (jI hk) ?_|refine eA (gY hk (by decide)) ?_)
 refine aEq [] (aEk [] ?_);refine cR (TT s p h hp) ⟨?_,congrArg iv he,ea⟩ ?_
 ·repeat' constructor
 refine Ei [] ?_
 repeat' constructor
theorem G7 (aE:List bd)(s:aq)(all:List aD)(e:bG)(hc:aE.length*176<=aV)(mc:∀ y∈aE,bd.ok y)(h:s.ok)(eL:qD aE s e=true)(hk:e.kind=4\/e.kind=5\/e.kind=16\/e.kind=17)(i:Nat)(hi:i < s.aw.length)(he:e.bK=i)(hb:s.aw[i].dt.length<=1099511627776):Ct ae 21 [.c (.t (.sl 17 (aE.map bd.enc))),.agg (s.enc.map .t),.c (.t (.sl 17 (all.map aD.enc))),.agg (e.enc.map .t)] (.agg ((ka s e).enc.map .t)) [] false:=by
 have hq:=TR s e h hk i hi he hb;have hv:=wA aE s e hc mc h;rw[eL] at hv;refine cT Tryz.func21 rfl (by kernel_rfl) rfl fun w0 O _=>aEk [3,4,6,8,13,15,23,24] ?_;refine cR (iD s h) ⟨fL s.enc,ea⟩ ?_;refine cF hv ⟨rfl,fL s.enc,fL e.enc,ea⟩ ?_;refine aEk [] ?_;rcases hk with hk|hk|hk|hk
 all_goals
  repeat' (first|refine eX (jI hk) ?_|refine eA (gY hk (by decide)) ?_)
  refine aEq [] (aEk [] ?_);refine cR hq ⟨?_,fL e.enc,ea⟩ ?_
  ·repeat' constructor
  refine Ei [] ?_
  repeat' constructor
theorem Pd (aE:List bd)(s:aq)(all:List aD)(e:bG)(hc:aE.length*176<=aV)(mc:∀ y∈aE,bd.ok y)(h:s.ok)(eL:qD aE s e=true)(hk:e.kind=10)(hm:Ct ae 51 [.agg (s.enc.map .t),.agg (e.enc.map .t)] (.agg ((EB s e e.bB.toNat).enc.map .t)) [] false):Ct ae 21 [.c (.t (.sl 17 (aE.map bd.enc))),.agg (s.enc.map .t),.c (.t (.sl 17 (all.map aD.enc))),.agg (e.enc.map .t)] (.agg ((EB s e e.bB.toNat).enc.map .t)) [] false:=by
 have hv:=wA aE s e hc mc h;rw[eL] at hv;refine cT Tryz.func21 rfl (by kernel_rfl) rfl fun w0 O _=>aEk [3,4,6,8,13,15,23,24] ?_;refine cR (iD s h) ⟨fL s.enc,ea⟩ ?_;refine cF hv ⟨rfl,fL s.enc,fL e.enc,ea⟩ ?_;refine aEk [] ?_
 repeat' (first|refine eX (jI hk) ?_|refine eA (gY hk (by decide)) ?_)
 refine aEq [] (aEk [] ?_);refine cR (hm) ⟨?_,fL e.enc,ea⟩ ?_
 ·repeat' constructor
 refine Ei [] ?_
 repeat' constructor
theorem D1 (aE:List bd)(s:aq)(all:List aD)(e:bG)(hc:aE.length*176<=aV)(mc:∀ y∈aE,bd.ok y)(h:s.ok)(eL:qD aE s e=true)(hk:e.kind=1\/e.kind=6\/e.kind=7\/e.kind=8\/e.kind=9\/e.kind=12\/e.kind=13)(hm:Ct ae 52 [.agg (s.enc.map .t),.c (.t (.sl 17 (all.map aD.enc))),.agg (e.enc.map .t)] (.agg ((il s all e).enc.map .t)) [] false):Ct ae 21 [.c (.t (.sl 17 (aE.map bd.enc))),.agg (s.enc.map .t),.c (.t (.sl 17 (all.map aD.enc))),.agg (e.enc.map .t)] (.agg ((il s all e).enc.map .t)) [] false:=by
 have hq:=hm;have hv:=wA aE s e hc mc h;rw[eL] at hv;refine cT Tryz.func21 rfl (by kernel_rfl) rfl fun w0 O _=>aEk [3,4,6,8,13,15,23,24] ?_;refine cR (iD s h) ⟨fL s.enc,ea⟩ ?_;refine cF hv ⟨rfl,fL s.enc,fL e.enc,ea⟩ ?_;refine aEk [] ?_;rcases hk with hk|hk|hk|hk|hk|hk|hk
 all_goals
  repeat' (first|refine eX (jI hk) ?_|refine eA (gY hk (by decide)) ?_)
  refine aEq [] (aEk [] ?_);refine cR hq ⟨?_,rfl,fL e.enc,ea⟩ ?_
  ·repeat' constructor
  refine Ei [] ?_
  repeat' constructor
theorem Pc (aE:List bd)(s:aq)(all:List aD)(e:bG)(hc:aE.length*176<=aV)(mc:∀ y∈aE,bd.ok y)(h:s.ok)(eL:qD aE s e=true)(hk:e.kind=11\/e.kind=14\/e.kind=15):Ct ae 21 [.c (.t (.sl 17 (aE.map bd.enc))),.agg (s.enc.map .t),.c (.t (.sl 17 (all.map aD.enc))),.agg (e.enc.map .t)] (.agg (s.enc.map .t)) [] false:=by
 have hv:=wA aE s e hc mc h;rw[eL] at hv;refine cT Tryz.func21 rfl (by kernel_rfl) rfl fun w0 O _=>aEk [3,4,6,8,13,15,23,24] ?_;refine cR (iD s h) ⟨fL s.enc,ea⟩ ?_;refine cF hv ⟨rfl,fL s.enc,fL e.enc,ea⟩ ?_;refine aEk [] ?_;rcases hk with hk|hk|hk
 all_goals
  repeat' (first|refine eX (jI hk) ?_|refine eA (gY hk (by decide)) ?_)
  refine aEq [] (aEk [] ?_);refine Ei [] ?_
  repeat' constructor
theorem LK (s:aq)(all:List aD)(e:bG)(h:s.ok)(hh:eh s.aa e.aL=false):Ct ae 52 [.agg (s.enc.map .t),.c (.t (.sl 17 (all.map aD.enc))),.agg (e.enc.map .t)] (.agg ((il s all e).enc.map .t)) [] false:=by
 have ho:il s all e=s:=by
  unfold il;rw[if_neg (by rw[hh];decide)]
 rw[ho];have hf:=fP s e.aL h.2.2.1;rw[hh] at hf;refine cT Tryz.func52 rfl (by kernel_rfl) rfl fun w0 O _=>aEk [3,4] ?_;refine cR hf ⟨fL s.enc,rfl,ea⟩ ?_;refine aEk [] (Ei [] ?_)
 repeat' constructor
theorem Pb (s:aq)(all:List aD)(e:bG)(h:s.ok)(ha:all.length*176<=aV)(ma:∀ y∈all,aD.ok y)(hk:e.kind=1\/e.kind=6\/e.kind=7\/e.kind=8\/e.kind=9\/e.kind=12\/e.kind=13):Ct ae 52 [.agg (s.enc.map .t),.c (.t (.sl 17 (all.map aD.enc))),.agg (e.enc.map .t)] (.agg ((il s all e).enc.map .t)) [] false:=by
 by_cases hh:eh s.aa e.aL=true
 ·rcases hk with hk|hk|hk|hk|hk|hk|hk
  ·exact Pa s all e h ha ma hk hh
  ·exact O9 s all e h hk hh
  ·exact O8 s all e h hk hh
  ·exact O7 s all e h hk hh
  ·exact O6 s all e h hk hh
  ·exact LM s all e h hk hh
  ·exact LL s all e h hk hh
 ·exact LK s all e h (by simpa using hh)
end
section
open Go Cg
section
inductive X6 (aE:List bd) (s:aq) (e:bG):Prop where
 | mv:e.kind=2->eh s.aa e.aL=true->0<=e.nk/\e.nk<=4->0<=e.bK/\e.bK < s.aw.length->X6 aE s e
 | cr:e.kind=10->mB s e.bK=true->Bq aE e.ee=true->sS e.bB=true->X6 aE s e
 | dr:e.kind=3->mB s e.bK=true->X6 aE s e
 | lf:(e.kind=4\/e.kind=5\/e.kind=16\/e.kind=17)->mB s e.bK=true->(e.kind=17\/sS e.bB=true)->X6 aE s e
 | ob:(e.kind=1\/e.kind=6\/e.kind=7\/e.kind=8\/e.kind=9\/e.kind=12\/e.kind=13)->jP s e.aL=true->(e.kind=1\/e.kind=8\/e.kind=9->sS e.bB=true)->(e.kind=6->(cb s.aa e.aL).fe=false)->(e.kind=8\/e.kind=9->0<=e.gx/\e.gx < 3)->(e.kind=13->jP s e.dC=true)->X6 aE s e
 | no:e.kind=1->eh s.aa e.aL=false->X6 aE s e
 | ot:(e.kind=11\/e.kind=14\/e.kind=15)->X6 aE s e
variable {q:uA}{s:aq}
theorem RF {aE:List bd}{e:bG}(h:kj q aE.length s)(eL:qD aE s e=true):X6 aE s e:=by
 unfold qD at eL
 by_cases k1:e.kind=1
 ·rw[if_pos k1,ah,cC,ah,beq_iff_eq] at eL;rcases eL.2 with h1|h1
  ·exact .ob (by omega) h1 (fun _=>eL.1) (by omega) (by omega) (by omega)
  ·exact .no k1 (by rw[h1.1];exact Jc h)
 rw[if_neg k1] at eL
 by_cases k2:e.kind=2
 ·rw[if_pos k2] at eL;simp only[ah,beq_iff_eq,decide_eq_true_eq] at eL;obtain⟨a1,_,_,a2,a3,a4,a5⟩:=eL;exact .mv k2 a1 ⟨a2,a3⟩ ⟨a4,a5⟩
 rw[if_neg k2] at eL
 by_cases k3:e.kind=3\/e.kind=14\/e.kind=15\/e.kind=17
 ·rw[if_pos k3] at eL
  by_cases k17:e.kind=17
  ·exact .lf (by omega) eL (.inl k17)
  by_cases k33:e.kind=3
  ·exact .dr k33 eL
  ·exact .ot (by omega)
 rw[if_neg k3] at eL
 by_cases k4:e.kind=4\/e.kind=5\/e.kind=16
 ·rw[if_pos k4,ah] at eL;exact .lf (by omega) eL.1 (.inr eL.2)
 rw[if_neg k4] at eL
 by_cases k6:e.kind=6
 ·rw[if_pos k6,ah] at eL;exact .ob (by omega) eL.1 (by omega) (fun _=>by simpa using eL.2) (by omega) (by omega)
 rw[if_neg k6] at eL
 by_cases k7:e.kind=7
 ·rw[if_pos k7,ah] at eL;exact .ob (by omega) eL.1 (by omega) (by omega) (by omega) (by omega)
 rw[if_neg k7] at eL
 by_cases k8:e.kind=8\/e.kind=9
 ·rw[if_pos k8,ah,ah,ah,decide_eq_true_eq,decide_eq_true_eq] at eL;exact .ob (by omega) eL.1 (fun _=>eL.2.2.2) (by omega) (fun _=>⟨eL.2.1,eL.2.2.1⟩) (by omega)
 rw[if_neg k8] at eL
 by_cases ZF:e.kind=10
 ·rw[if_pos ZF,ah,ah] at eL;exact .cr ZF eL.1 eL.2.1 eL.2.2
 rw[if_neg ZF] at eL
 by_cases Xx:e.kind=11
 ·exact .ot (.inl Xx)
 rw[if_neg Xx] at eL
 by_cases VD:e.kind=12
 ·rw[if_pos VD,ah] at eL;exact .ob (by omega) eL.1 (by omega) (by omega) (by omega) (by omega)
 rw[if_neg VD] at eL
 by_cases VC:e.kind=13
 ·rw[if_pos VC,ah] at eL;exact .ob (by omega) eL.1 (by omega) (by omega) (by omega) fun _=>eL.2
 rw[if_neg VC] at eL
 cases eL
theorem XU {aE:List bd}{s:aq}{all:List aD}{e:bG}(h:qD aE s e=false):ym aE s all e=s:=by
 unfold ym;rw[h];rfl
theorem akQ {aE:List bd}{s:aq}{all:List aD}{e:bG}(h:qD aE s e=true)(hk:e.kind=2):ym aE s all e=J8 s e:=by
 unfold ym;rw[if_pos h,if_pos hk]
theorem asY {aE:List bd}{s:aq}{all:List aD}{e:bG}(h:qD aE s e=true)(hk:e.kind=3):ym aE s all e=nf s e.bK:=by
 unfold ym jy;rw[if_pos h,if_neg (by omega),if_pos hk]
theorem Wq {aE:List bd}{s:aq}{all:List aD}{e:bG}(h:qD aE s e=true)(hk:e.kind=4\/e.kind=5\/e.kind=16\/e.kind=17):ym aE s all e=ka s e:=by
 unfold ym jy;rw[if_pos h,if_neg (by omega),if_neg (by omega),if_pos hk]
theorem XV {aE:List bd}{s:aq}{all:List aD}{e:bG}(h:qD aE s e=true)(hk:e.kind=10):ym aE s all e=EB s e e.bB.toNat:=by
 unfold ym jy;rw[if_pos h,if_neg (by omega),if_neg (by omega),if_neg (by omega),if_pos hk]
theorem RX {aE:List bd}{s:aq}{all:List aD}{e:bG}(h:qD aE s e=true)(hk:e.kind=1\/e.kind=6\/e.kind=7\/e.kind=8\/e.kind=9\/e.kind=12\/e.kind=13):ym aE s all e=il s all e:=by
 unfold ym jy;rw[if_pos h,if_neg (by omega),if_neg (by omega),if_neg (by omega),if_neg (by omega),if_pos hk]
theorem akP {aE:List bd}{s:aq}{all:List aD}{e:bG}(h:qD aE s e=true)(hk:e.kind=11\/e.kind=14\/e.kind=15):ym aE s all e=s:=by
 unfold ym jy;rw[if_pos h,if_neg (by omega),if_neg (by omega),if_neg (by omega),if_neg (by omega),if_neg (by omega)]
theorem Gb {c:Int}(h:kj q c s):s.bu.length<=2048:=by
 have:=jW h 0 0
 rwa [lH] at this
end
end
section
open Go Cg Go.RowKit Go.Sort
section
variable {q:uA}
structure Tb (q:uA)(aE:List bd)(s:aq)(all:List aD):Prop where
 hc:aE.length*176<=aV
 mc:∀ y∈aE,bd.ok y
 h:s.ok
 ha:all.length*176<=aV
 ma:∀ y∈all,aD.ok y
 v:kj q aE.length s
 n:s.bC<=1000000/\s.bF<=1000000
theorem Qv {c:Int}{s:aq}(h:kj q c s):∀ p∈s.aw,p.dt.length<=1099511627776:=fun p hp=>by
 have:=(zV h hp).1;omega
theorem Tx {c:Int}{s:aq}(h:kj q c s):(s.aa.map az.id).Pairwise (· < ·):=List.pairwise_map.2 h.s8
theorem BT {c:Int}{s:aq}(h:kj q c s):∀ i∈s.aa.map az.id,0<=i:=fun i hi=>by
 obtain⟨o,ho,rfl⟩:=bL.1 hi;have:=(kN h ho).id;omega
theorem Tb.crp {aE:List bd}{s:aq}{all:List aD}(H:Tb q aE s all)(e:bG):Gs s e (0,s):=by
 have hb:=Gb H.v;have hn:=H.n;have h1:=H.v.J7;exact Gs.start H.h (fun y hy=>(H.v.obj y hy).2.1) (Tx H.v) (by omega) (by omega) (BT H.v)
structure DoR (s t:aq):Prop where
 ok:t.ok
 s8:t.aa.Pairwise fun a b=>a.id < b.id
 len:t.aa.length<=2048
 ct:t.dD=s.dD
 pos:∀ i∈t.aa.map az.id,0<=i
theorem Tb.res {aE:List bd}{s:aq}{all:List aD}(H:Tb q aE s all)(e:bG):DoR s (ym aE s all e):=by
 have vI:=(Xt aE s all e).ct;have hlen:∀ {t:aq},kj q aE.length t->t.aa.length<=2048:=fun h=>by have:=h.Ez;omega
 by_cases hk:e.kind=10
 ·by_cases eL:qD aE s e=true
  ·rw[XV eL hk] at vI ⊢;obtain⟨h1,h2,h3,h4⟩:=Gs.end_ _ 0 s rfl (hlen H.v) (H.crp e);exact⟨h1,List.pairwise_map.1 h2,h3,vI,h4⟩
  ·rw[XU (by simpa using eL)];exact⟨H.h,H.v.s8,hlen H.v,rfl,BT H.v⟩
 ·have hv:=(acB H.v all e H.n hk (Qv H.v)).val;exact⟨eZ H.h hv (Xt aE s all e),hv.s8,hlen hv,vI,BT hv⟩
theorem agI {aE:List bd}{s:aq}{all:List aD}{e:bG}(H:Tb q aE s all):Ct ae 21 [.c (.t (.sl 17 (aE.map bd.enc))),.agg (s.enc.map .t),.c (.t (.sl 17 (all.map aD.enc))),.agg (e.enc.map .t)] (.agg ((ym aE s all e).enc.map .t)) [] false:=by
 have hcr:=H.crp e;obtain⟨hc,mc,h,ha,ma,hv,hn⟩:=H
 cases eL:qD aE s e with
 | false=>rw[XU eL];exact LP aE s all e hc mc h eL
 | true=>
  have nn:=hv.J7;have hbf:=Gb hv;rcases RF hv eL with⟨hk,a1,a2,a3⟩|⟨hk,_,_,a4⟩|⟨hk,a1⟩|⟨hk,a1,_⟩|⟨hk,a1,_,_,_,a2⟩|⟨hk,a1⟩|hk
  ·rw[akQ eL hk];exact TV aE s all e hc mc h eL hk (TQ s e h hv a1 a2 a3 (by omega))
  ·rw[XV eL hk];exact Pd aE s all e hc mc h eL hk (LR s e hcr (I5 a4).2)
  ·rw[asY eL hk];obtain⟨p1,p2⟩:=xi a1;have he:e.bK=(e.bK.toNat:Int):=by omega
   have hd:=TU aE s all e hc mc h eL hk e.bK.toNat (by omega) he
   rwa [<- he] at hd
  ·rw[Wq eL hk];obtain⟨p1,p2⟩:=xi a1;have hi:e.bK.toNat < s.aw.length:=by omega
   have hb:=Qv hv _ (aH hi);exact G7 aE s all e hc mc h eL hk e.bK.toNat hi (by omega) hb
  ·rw[RX eL hk];exact D1 aE s all e hc mc h eL hk (Pb s all e h ha ma hk)
  ·rw[RX eL (.inl hk)];exact D1 aE s all e hc mc h eL (.inl hk) (Pb s all e h ha ma (.inl hk))
  ·rw[akP eL hk];exact Pc aE s all e hc mc h eL hk
end
end
end Go.Proofs.YtbmdcnkidjlbbaaGreat
namespace Go.Proofs
section
open Go.Shelf
def Tryz.EN:Go.Shelf.Ren:=⟨fun|144=>277|143=>281|219=>284|217=>296|225=>297|224=>298|267=>299|266=>305|314=>306|n=>n,fun|9=>9|4=>4|3=>3|5=>5|46=>245|146=>307|51=>298|n=>n,fun|1=>0|n=>n⟩
theorem Tryz.Vp:Go.Proofs.Lays.n144 ae Tryz.EN:={
 mixed:=by kernel_rfl
 f143:=Tryz.func281.trans (congrArg some (by kernel_rfl))
 f144:=Tryz.func277.trans (congrArg some (by kernel_rfl))
 f217:=Tryz.func296.trans (congrArg some (by kernel_rfl))
 f219:=Tryz.func284.trans (congrArg some (by kernel_rfl))
 f224:=Tryz.func298.trans (congrArg some (by kernel_rfl))
 f225:=Tryz.func297.trans (congrArg some (by kernel_rfl))
 f266:=Tryz.func305.trans (congrArg some (by kernel_rfl))
 f267:=Tryz.func299.trans (congrArg some (by kernel_rfl))
 f314:=Tryz.func306.trans (congrArg some (by kernel_rfl))
 t3:=Tryz.underlying3
 a3:=Tryz.isAgg3
 z3:=Tryz.sizeOf3
 v3:=Tryz.zeroValue3
 t4:=Tryz.underlying4
 a4:=Tryz.isAgg4
 z4:=Tryz.sizeOf4
 v4:=Tryz.zeroValue4
 t5:=Tryz.underlying5
 a5:=Tryz.isAgg5
 z5:=Tryz.sizeOf5
 v5:=Tryz.zeroValue5
 t9:=Tryz.underlying9
 a9:=Tryz.isAgg9
 z9:=Tryz.sizeOf9
 v9:=Tryz.zeroValue9
 t46:=Tryz.underlying245
 a46:=Tryz.isAgg245
 z46:=Tryz.sizeOf245
 v46:=Tryz.zeroValue245
 t51:=Tryz.underlying298
 a51:=Tryz.isAgg298
 z51:=Tryz.sizeOf298
 v51:=Tryz.zeroValue298
 t146:=Tryz.underlying307
 a146:=Tryz.isAgg307
 z146:=Tryz.sizeOf307
 v146:=Tryz.zeroValue307
 g1:=by kernel_rfl }
open Go.RowKit Go.Lib in
theorem Tryz.strings_Contains (s sub:ByteArray)(m:Int)(w:World)(hs:s.size < 4294967281)(hm:w.cell? ⟨0,0,none⟩=some (.int .i64 m)) :
  Calls ae 277 #[.string s,.string sub] w fun e w'=>e=.returned (.bool (Lib.contains s.data.toList sub.data.toList))/\w'=w:=Any.strings_Contains Tryz.Vp s sub m w hs hm
def Tryz.EM:Go.Shelf.Ren:=⟨fun|189=>278|125=>283|257=>282|128=>294|129=>295|294=>285|295=>286|296=>287|297=>288|298=>289|299=>290|216=>291|300=>292|301=>293|328=>300|329=>301|330=>302|331=>303|332=>304|215=>66|343=>307|n=>n,fun|28=>25|3=>3|46=>245|0=>0|51=>298|53=>29|4=>4|183=>291|182=>290|131=>295|5=>5|9=>9|218=>301|222=>305|228=>309|229=>310|n=>n,fun|n=>n⟩
theorem Tryz.Kr:Go.Proofs.Lays.n189 ae Tryz.EM:={
 mixed:=by kernel_rfl
 f125:=Tryz.func283.trans (congrArg some (by kernel_rfl))
 f128:=Tryz.func294.trans (congrArg some (by kernel_rfl))
 f129:=Tryz.func295.trans (congrArg some (by kernel_rfl))
 f189:=Tryz.func278.trans (congrArg some (by kernel_rfl))
 f215:=Tryz.func66.trans (congrArg some (by kernel_rfl))
 f216:=Tryz.func291.trans (congrArg some (by kernel_rfl))
 f257:=Tryz.func282.trans (congrArg some (by kernel_rfl))
 f294:=Tryz.func285.trans (congrArg some (by kernel_rfl))
 f295:=Tryz.func286.trans (congrArg some (by kernel_rfl))
 f296:=Tryz.func287.trans (congrArg some (by kernel_rfl))
 f297:=Tryz.func288.trans (congrArg some (by kernel_rfl))
 f298:=Tryz.func289.trans (congrArg some (by kernel_rfl))
 f299:=Tryz.func290.trans (congrArg some (by kernel_rfl))
 f300:=Tryz.func292.trans (congrArg some (by kernel_rfl))
 f301:=Tryz.func293.trans (congrArg some (by kernel_rfl))
 f328:=Tryz.func300.trans (congrArg some (by kernel_rfl))
 f329:=Tryz.func301.trans (congrArg some (by kernel_rfl))
 f330:=Tryz.func302.trans (congrArg some (by kernel_rfl))
 f331:=Tryz.func303.trans (congrArg some (by kernel_rfl))
 f332:=Tryz.func304.trans (congrArg some (by kernel_rfl))
 f343:=Tryz.func307.trans (congrArg some (by kernel_rfl))
 t0:=Tryz.underlying0
 a0:=Tryz.isAgg0
 z0:=Tryz.sizeOf0
 v0:=Tryz.zeroValue0
 t3:=Tryz.underlying3
 a3:=Tryz.isAgg3
 z3:=Tryz.sizeOf3
 v3:=Tryz.zeroValue3
 t4:=Tryz.underlying4
 a4:=Tryz.isAgg4
 z4:=Tryz.sizeOf4
 v4:=Tryz.zeroValue4
 t5:=Tryz.underlying5
 a5:=Tryz.isAgg5
 z5:=Tryz.sizeOf5
 v5:=Tryz.zeroValue5
 t9:=Tryz.underlying9
 a9:=Tryz.isAgg9
 z9:=Tryz.sizeOf9
 v9:=Tryz.zeroValue9
 t28:=Tryz.underlying25
 a28:=Tryz.isAgg25
 z28:=Tryz.sizeOf25
 v28:=Tryz.zeroValue25
 t46:=Tryz.underlying245
 a46:=Tryz.isAgg245
 z46:=Tryz.sizeOf245
 v46:=Tryz.zeroValue245
 t51:=Tryz.underlying298
 a51:=Tryz.isAgg298
 z51:=Tryz.sizeOf298
 v51:=Tryz.zeroValue298
 t53:=Tryz.underlying29
 a53:=Tryz.isAgg29
 z53:=Tryz.sizeOf29
 v53:=Tryz.zeroValue29
 t131:=Tryz.underlying295
 a131:=Tryz.isAgg295
 z131:=Tryz.sizeOf295
 v131:=Tryz.zeroValue295
 t182:=Tryz.underlying290
 a182:=Tryz.isAgg290
 z182:=Tryz.sizeOf290
 v182:=Tryz.zeroValue290
 t183:=Tryz.underlying291
 a183:=Tryz.isAgg291
 z183:=Tryz.sizeOf291
 v183:=Tryz.zeroValue291
 t218:=Tryz.underlying301
 a218:=Tryz.isAgg301
 z218:=Tryz.sizeOf301
 v218:=Tryz.zeroValue301
 t222:=Tryz.underlying305
 a222:=Tryz.isAgg305
 z222:=Tryz.sizeOf305
 v222:=Tryz.zeroValue305
 t228:=Tryz.underlying309
 a228:=Tryz.isAgg309
 z228:=Tryz.sizeOf309
 v228:=Tryz.zeroValue309
 t229:=Tryz.underlying310
 a229:=Tryz.isAgg310
 z229:=Tryz.sizeOf310
 v229:=Tryz.zeroValue310 }
open Go.Sort Go.RowKit in
theorem Tryz.slices_Sort_int (pV off cap:Nat)(zs:List Int)(w:World)(hH:Holds (Value.int .i64) w pV off zs.toArray)(abE:pV < w.heap.size)(lY:zs.length < 4611686018427387904) :
  Calls ae 278 #[.slice (some ⟨pV,off,none⟩) zs.length cap] w fun e w'=>
   e=.returned (.tuple #[])/\∃ n os,w'=grow (putRow (Value.int .i64) (Sort.ahead w n) pV off (zs.mergeSort fun x y=>decide (x<=y)).toArray) os:=Any.slices_Sort_int Tryz.Kr pV off cap zs w hH abE lY
def Tryz.EO:Go.Shelf.Ren:=⟨fun|107=>270|108=>280|n=>n,fun|28=>25|3=>3|4=>4|0=>0|n=>n,fun|n=>n⟩
theorem Tryz.Ks:Go.Proofs.Lays.n107 ae Tryz.EO:={
 mixed:=by kernel_rfl
 f107:=Tryz.func270.trans (congrArg some (by kernel_rfl))
 f108:=Tryz.func280.trans (congrArg some (by kernel_rfl))
 t0:=Tryz.underlying0
 a0:=Tryz.isAgg0
 z0:=Tryz.sizeOf0
 v0:=Tryz.zeroValue0
 t3:=Tryz.underlying3
 a3:=Tryz.isAgg3
 z3:=Tryz.sizeOf3
 v3:=Tryz.zeroValue3
 t4:=Tryz.underlying4
 a4:=Tryz.isAgg4
 z4:=Tryz.sizeOf4
 v4:=Tryz.zeroValue4
 t28:=Tryz.underlying25
 a28:=Tryz.isAgg25
 z28:=Tryz.sizeOf25
 v28:=Tryz.zeroValue25 }
open Go.Lib in
theorem Tryz.slices_Contains_int (b off n c:Nat)(zs:List Int)(x:Int)(w:World)(hz:n<=zs.length)(abF:n<=9223372036854775807)(hc:∀ j,j < zs.length->w.cell? ⟨b,off+j,none⟩=some (.int .i64 (zs.getD j 0))) :
  Calls ae 270 #[.slice (some ⟨b,off,none⟩) n c,.int .i64 x] w fun e w'=>e=.returned (.bool ((zs.take n).contains x))/\w'=w:=Any.slices_Contains_int Tryz.Ks b off n c zs x w hz abF hc
open Go.Lib in
theorem Tryz.slices_Contains_int_empty (a:Option Addr)(c:Nat)(x:Int)(w:World) :
  Calls ae 270 #[.slice a 0 c,.int .i64 x] w fun e w'=>e=.returned (.bool false)/\w'=w:=Any.slices_Contains_int_empty Tryz.Ks a c x w
def Tryz.yY:Go.Shelf.Ren:=⟨fun|15=>268|n=>n,fun|22=>25|3=>3|4=>4|n=>n,fun|n=>n⟩
theorem Tryz.tY:Go.Proofs.Lays2.n15 ae Tryz.yY:={
 mixed:=by kernel_rfl
 f15:=Tryz.func268.trans (congrArg some (by kernel_rfl))
 t3:=Tryz.underlying3
 a3:=Tryz.isAgg3
 z3:=Tryz.sizeOf3
 v3:=Tryz.zeroValue3
 t4:=Tryz.underlying4
 a4:=Tryz.isAgg4
 z4:=Tryz.sizeOf4
 v4:=Tryz.zeroValue4
 t22:=Tryz.underlying25
 a22:=Tryz.isAgg25
 z22:=Tryz.sizeOf25
 v22:=Tryz.zeroValue25
 i3:=by kernel_rfl }
open Go.RowKit Go.Lib in
theorem Tryz.slices_Clone_int (b off n c:Nat)(zs:List Int)(w:World)(hz:n<=zs.length)(abF:n*8<=140737488355328)(hc:∀ j,j < zs.length->w.cell? ⟨b,off+j,none⟩=some (.int .i64 (zs.getD j 0))) :
  Calls ae 268 #[.slice (some ⟨b,off,none⟩) n c] w fun e w'=>∃ v',e=.returned v'/\w'.ownsRow w.heap.size 3 1 v' n ((zs.take n).map (Value.int .i64))/\v'≠.slice none 0 0/\Below w.heap.size w w':=Any.slices_Clone_int Tryz.tY b off n c zs w hz abF hc
open Go.RowKit Go.Lib in
theorem Tryz.slices_Clone_int_nil (n c:Nat)(w:World) :
  Calls ae 268 #[.slice none n c] w fun e w'=>e=.returned (.slice none 0 0)/\w'=w:=Any.slices_Clone_int_nil Tryz.tY n c w
open Go.RowKit Go.Lib in
theorem Tryz.slices_Clone_int_zero (a:Addr)(c:Nat)(w:World) :
  Calls ae 268 #[.slice (some a) 0 c] w fun e w'=>∃ v',e=.returned v'/\w'.ownsRow w.heap.size 3 1 v' 0 []/\v'≠.slice none 0 0/\Below w.heap.size w w':=Any.slices_Clone_int_zero Tryz.tY a c w
def Tryz.yX:Go.Shelf.Ren:=⟨fun|20=>279|n=>n,fun|22=>25|3=>3|4=>4|0=>0|n=>n,fun|n=>n⟩
theorem Tryz.Af:Go.Proofs.Lays2.n20 ae Tryz.yX:={
 mixed:=by kernel_rfl
 f20:=Tryz.func279.trans (congrArg some (by kernel_rfl))
 t0:=Tryz.underlying0
 a0:=Tryz.isAgg0
 z0:=Tryz.sizeOf0
 v0:=Tryz.zeroValue0
 t3:=Tryz.underlying3
 a3:=Tryz.isAgg3
 z3:=Tryz.sizeOf3
 v3:=Tryz.zeroValue3
 t4:=Tryz.underlying4
 a4:=Tryz.isAgg4
 z4:=Tryz.sizeOf4
 v4:=Tryz.zeroValue4
 t22:=Tryz.underlying25
 a22:=Tryz.isAgg25
 z22:=Tryz.sizeOf25
 v22:=Tryz.zeroValue25
 i3:=by kernel_rfl }
open Go.RowKit Go.Lib Go.Sort in
theorem Tryz.slices_Compact_int (pV off cap:Nat)(zs:List Int)(w:World)(hH:Holds (Value.int .i64) w pV off zs.toArray)(lY:zs.length<=9223372036854775807)(oC:zs.length<=cap) :
  Calls ae 279 #[.slice (some ⟨pV,off,none⟩) zs.length cap] w fun e w'=>e=.returned (.slice (some ⟨pV,off,none⟩) (Lib.compact zs).length cap)/\∃ q,w'=putRow (Value.int .i64) (Sort.ahead w q) pV off (Lib.compact zs++List.replicate (zs.length - (Lib.compact zs).length) 0).toArray:=Any.slices_Compact_int Tryz.Af pV off cap zs w hH lY oC
open Go.RowKit Go.Lib Go.Sort in
theorem Tryz.slices_Compact_int_empty (a:Option Addr)(cap:Nat)(w:World) :
  Calls ae 279 #[.slice a 0 cap] w fun e w'=>e=.returned (.slice a 0 cap)/\w'=w:=Any.slices_Compact_int_empty Tryz.Af a cap w
open Go.RowKit Go.Sort in
theorem Tryz.slices_Sort_int_none (p:Option Addr)(cap:Nat)(w:World) :
  Calls ae 278 #[.slice p 0 cap] w fun e w'=>e=.returned (.tuple #[])/\w'=w:=Any.slices_Sort_int_none Tryz.Kr p cap w
def Tryz.rX:Go.Shelf.Ren:=⟨fun|6=>187|n=>n,fun|22=>25|23=>3|25=>153|3=>3|0=>0|4=>4|n=>n,fun|n=>n⟩
theorem Tryz.yW:Go.Proofs.SlLaysH.n6 ae Tryz.rX:={
 mixed:=by kernel_rfl
 f6:=⟨Tryz.f187.name,by decide,Tryz.func187.trans (congrArg some (by kernel_rfl))⟩
 t0:=Tryz.underlying0
 a0:=Tryz.isAgg0
 z0:=Tryz.sizeOf0
 v0:=Tryz.zeroValue0
 t3:=Tryz.underlying3
 a3:=Tryz.isAgg3
 z3:=Tryz.sizeOf3
 v3:=Tryz.zeroValue3
 t4:=Tryz.underlying4
 a4:=Tryz.isAgg4
 z4:=Tryz.sizeOf4
 v4:=Tryz.zeroValue4
 t22:=Tryz.underlying25
 a22:=Tryz.isAgg25
 z22:=Tryz.sizeOf25
 v22:=Tryz.zeroValue25
 a23:=Tryz.isAgg3
 z23:=Tryz.sizeOf3
 t25:=Tryz.underlying153
 a25:=Tryz.isAgg153
 z25:=Tryz.sizeOf153
 v25:=Tryz.zeroValue153 }
open Go.RowKit Go.Lib in
theorem Tryz.slices_IndexFunc_empty {α:Type}[Inhabited α](a:Option Addr)(c:Nat)(fv:Value)(w:World) :
  Calls ae 187 #[.slice a 0 c,fv] w fun e w'=>e=.returned (.int .i64 (-1))/\w'=w:=AnyE.slices_IndexFunc_empty Tryz.yW a c fv w
def Tryz.qw:Go.Shelf.Ren:=⟨fun|10=>130|6=>187|n=>n,fun|22=>25|23=>3|25=>153|3=>3|4=>4|0=>0|n=>n,fun|n=>n⟩
theorem Tryz.xk:Go.Proofs.SlLaysH.n10 ae Tryz.qw:={
 mixed:=by kernel_rfl
 f6:=⟨Tryz.f187.name,by decide,Tryz.func187.trans (congrArg some (by kernel_rfl))⟩
 f10:=⟨Tryz.f130.name,by decide,Tryz.func130.trans (congrArg some (by kernel_rfl))⟩
 t0:=Tryz.underlying0
 a0:=Tryz.isAgg0
 z0:=Tryz.sizeOf0
 v0:=Tryz.zeroValue0
 t3:=Tryz.underlying3
 a3:=Tryz.isAgg3
 z3:=Tryz.sizeOf3
 v3:=Tryz.zeroValue3
 t4:=Tryz.underlying4
 a4:=Tryz.isAgg4
 z4:=Tryz.sizeOf4
 v4:=Tryz.zeroValue4
 t22:=Tryz.underlying25
 a22:=Tryz.isAgg25
 z22:=Tryz.sizeOf25
 v22:=Tryz.zeroValue25
 a23:=Tryz.isAgg3
 z23:=Tryz.sizeOf3
 t25:=Tryz.underlying153
 a25:=Tryz.isAgg153
 z25:=Tryz.sizeOf153
 v25:=Tryz.zeroValue153 }
open Go.RowKit Go.Lib Go.Sort in
theorem Tryz.slices_DeleteFunc {α:Type}[Inhabited α](enc:α->Value)(hO:OneCell enc)(p:α->Bool)(g:Nat)(lb:Array Value)(eg:∀ args w,(callFunc g args).run ae w=.ok (.enter g args) w)(zr:α)(v23:∀ w,(zeroValue 3).run ae w=.ok (enc zr) w)(pV off cap:Nat)(d:Array α)(w:World)(hp:PredAt ae g lb enc p w)(hpo:PredOver ae g lb enc p pV off d.size w)(hH:Holds enc w pV off d)(lY:d.size<=9223372036854775807)(oC:d.size<=cap) :
  Calls ae 130 #[.slice (some ⟨pV,off,none⟩) d.size cap,.func (.func g) #[] lb] w fun e w'=>e=.returned (.slice (some ⟨pV,off,none⟩) (d.toList.filter fun x=>!p x).length cap)/\∃ q,w'=putRow enc (Sort.ahead w q) pV off ((d.toList.filter fun x=>!p x)++List.replicate (d.size - (d.toList.filter fun x=>!p x).length) zr).toArray:=AnyE.slices_DeleteFunc Tryz.xk enc hO p g lb eg zr v23 pV off cap d w hp hpo hH lY oC
end
end Go.Proofs
namespace Go.Proofs.YtbmdcnkidjlbbaaGreat
section
open Go Go.RowKit Cg
def bt (s:ByteArray)(i:Nat):UInt8:=s.data.toList.getD i 0
theorem ajM (s:ByteArray)(i:Nat)(h:i < s.size):bt s i=s[i]'h:=by
 have h':i < s.data.toList.length:=by simpa using h
 unfold bt;rw[List.getD_eq_getElem?_getD,ag h'];rfl
def EE (c:UInt8):Bool:=decide (97<=c.toNat/\c.toNat<=122)
def Fl (c:UInt8):Bool:=decide ((97<=c.toNat/\c.toNat<=122)\/(48<=c.toNat/\c.toNat<=57)\/c.toNat=45)
def IsW (s:ByteArray):Prop:=1<=s.size/\s.size<=32/\EE (bt s 0)=true/\¬ (bt s (s.size - 1)).toNat=45/\(∀ i,i < s.size->Fl (bt s i)=true)/\∀ i,i < s.size->0 < i->¬ ((bt s i).toNat=45/\(bt s (i - 1)).toNat=45)
instance (s:ByteArray):Decidable (IsW s):=by unfold IsW;infer_instance
def ta (s:ByteArray):Bool:=decide (IsW s)
theorem ES {s:ByteArray}(h:IsW s):ta s=true:=decide_eq_true h
theorem fx {s:ByteArray}(h:¬ IsW s):ta s=false:=decide_eq_false h
theorem FP (l:List UInt8):Lib.contains l [45,45]=true↔∃ i,i+1 < l.length/\l.getD i 0=45/\l.getD (i+1) 0=45:=by
 induction l with
 | nil=>simp[Lib.contains,Lib.index]
 | cons a l ih=>
  have ui:=Lib.index_ge l [45,45];unfold Lib.contains at ih ⊢;rw[decide_eq_true_eq] at ih ⊢;rw[Lib.index]
  by_cases hp:([45,45]:List UInt8).isPrefixOf (a :: l)=true
  ·rw[if_pos hp];simp only[Int.le_refl,true_iff]
   cases l with
   | nil=>simp[List.isPrefixOf] at hp
   | cons b l=>
    simp[List.isPrefixOf] at hp;exact⟨0,by simp,by simp[hp.1],by simp[hp.2]⟩
  ·rw[if_neg hp]
   have step:(∃ i,i+1 < (a :: l).length/\(a :: l).getD i 0=45/\(a :: l).getD (i+1) 0=45)↔∃ i,i+1 < l.length/\l.getD i 0=45/\l.getD (i+1) 0=45:=by
    constructor
    ·rintro⟨i,h1,h2,h3⟩
     cases i with
     | zero=>
      exfalso;apply hp
      cases l with
      | nil=>simp at h1
      | cons b l=>simp at h2 h3;simp[List.isPrefixOf,h2,h3]
     | succ i=>exact⟨i,by simpa using h1,by simpa using h2,by simpa using h3⟩
    ·rintro⟨i,h1,h2,h3⟩;exact⟨i+1,by simpa using h1,by simpa using h2,by simpa using h3⟩
   rw[step,<- ih]
   by_cases hm:(Lib.index l [45,45]==-1)=true
   ·rw[if_pos hm];have:=beq_iff_eq.1 hm;omega
   ·rw[if_neg hm];have:¬ Lib.index l [45,45] = -1:=fun e=>hm (beq_iff_eq.2 e);omega
theorem u5 (s:ByteArray):Lib.contains s.data.toList [45,45]=true↔∃ i,i+1 < s.size/\bt s i=45/\bt s (i+1)=45:=by
 rw[FP];have:s.data.toList.length=s.size:=(Lib.size_eq s).symm;rw[this];rfl
theorem Jg (c:UInt8):c=45↔c.toNat=45:=⟨fun h=>by rw[h];rfl,fun h=>UInt8.toNat_inj.1 h⟩
end
end Go.Proofs.YtbmdcnkidjlbbaaGreat
