/- Parts of the proof, joined: Chapter 25, on trees. -/
import Derived.Test.YtbmdcnkidjlbbaaGreatRC
import Derived.Test.YtbmdcnkidjlbbaaGreatProg
import Derived.WalkLawsBesides
import Derived.WalkSpells
import Derived.WalkSmall
import Derived.BigQuiet
import Derived.Deep.MidRow
import Derived.Lib.Hide
import Derived.Shelf.Abstract
import Derived.Lib.SliceRun
import Derived.Shelf.Small.Bits
import Derived.Shelf.Strconv.Itoa0
import Derived.Shelf.Strings.Search1
import Derived.Shelf.Strings.Search2
import Derived.Shelf.Strings.Search3
import Derived.Shelf.LaysM
import Derived.Shelf.Strings.Shaped
import Derived.Shelf.Sort.Plain
import Derived.Shelf.Slices.Turned
import Derived.Ground.Names2Prog
import Derived.Shelf.Slices.Clone
import Derived.Shelf.Slices.CompactI
import Derived.Shelf.Slices.Cells
import Derived.Shelf.Slices.In.SortNone
import Derived.Ground.SlgnProg
import Derived.Shelf.SlicesE.Compact
import Derived.Ground.SlgfProg
import Derived.Shelf.SlicesE.IndexFunc
import Derived.Shelf.SlicesE.DeleteFunc
import Derived.Lib.IndexMore
open Go.Proofs.Tryz renaming prog->ae
open List renaming getElem?_eq_getElem->cD,length_cons->aq,length_nil->aw,getElem?_eq_some_iff->an,length_append->au,length_take->aB,mem_cons_self->aC,getElem_mem->aI,mem_singleton->aJ,mem_cons_of_mem->aK,all_eq_true->aN,length_drop->aL,mem_of_getElem?->aU,map_append->aW,mem_append->aX,append_nil->aZ,take_length->bm,mem_iff_getElem->bB,mem_map->bA,getElem?_map->bp,mem_append_left->bH,mem_append_right->bJ,nil_append->bF,length_set->bG,length_replicate->cc,pairwise_iff_getElem->cu,length_filter_le->cx,getElem?_eq_none->dy,map_set->fF
open Bool renaming and_eq_true->ag,not_eq_true'->cb,or_eq_true->cm
open Go.IntKind renaming wrap_i64->ak,wrap_u64->dM
open Nat renaming le_refl->al,zero_le->aD,le_trans->bd,zero_add->bu,mul_le_mul_right->cw,le_of_lt->cG
open Option.some renaming inj->aR
open Cg.Tp renaming run->aBW,loop->aBY,wk->aB1,lW->aB2
open Cg.ck renaming bI->aBX,cut->aB3
open Cg.AV renaming i->aBZ,b->aB0
set_option maxRecDepth 100000
set_option maxHeartbeats 4000000
namespace Go.Proofs.YtbmdcnkidjlbbaaGreat
section
open Go Cg Go.RowKit
theorem EI {s:aA}(h:s.ok){q:cq}(hq:q∈s.az):q.hand.length*8<=ba/\q.cW.length*8<=ba/\q.dI.length*8<=ba:=by
 obtain⟨hp,sf,_⟩:=h;obtain⟨e1,e2,e3⟩:=sf q hq;exact⟨e2,e1,e3⟩
theorem Q4 (s:aA)(z p:Int)(h:s.ok):Ct ae 158 [.agg (s.enc.map .t),.c (.t (iv z)),.c (.t (iv p))] (.c (.t (.sl 1 ((bR s z p).map eI)))) [] false:=by
 have Xo:s.bw.length*8<=ba:=h.2.2.2.2.1;have hex:s.gn.length*8<=ba:=h.2.2.2.2.2.1;generalize hL:bR s z p=L;refine cT Tryz.func158 rfl (by kernel_rfl) rfl fun w0 O _=>aBW [3,4,5,6,7,8,10,11,12,13,14,15] ?_;refine cS (fun AY=>?_) (fun AY=>?_)
 ·have hl:bR s z p=s.bw:=by unfold bR;rw[if_pos AY]
  refine aBW [] ?_;refine cR (iM _ (cn _ _ _ Xo)) ⟨rfl,trivial⟩ ?_;rw[hL] at hl;rw[hl];refine Ei [] ?_
  repeat' first|refine Ai ?_ ?_|exact rfl|exact⟨⟩|exact Ei _ rfl
 refine aBW [] ?_;refine cS (fun Nl=>?_) (fun Nl=>?_)
 ·have hl:bR s z p=s.gn:=by unfold bR;rw[if_neg (by rw[AY];decide),if_pos Nl]
  refine aBW [] ?_;refine cR (iM _ (cn _ _ _ hex)) ⟨rfl,trivial⟩ ?_;rw[hL] at hl;rw[hl];refine Ei [] ?_
  repeat' first|refine Ai ?_ ?_|exact rfl|exact⟨⟩|exact Ei _ rfl
 have mO:bR s z p=if p < 0\/(s.az.length:Int)<=p then [] else match s.az[p.toNat]? with
  | some q=>if z==1 then q.hand else if z==2 then q.cW else if z==3 then q.dI else []
  | none=>[]:=by unfold bR;rw[if_neg (by rw[AY];decide),if_neg (by rw[Nl];decide)] <;> rfl
 refine aBW [] ?_;refine cS (fun DR=>?_) (fun DR=>?_)
 ·rw[if_pos (.inl (of_decide_eq_true DR))] at mO;refine aBW [] ?_;rw[hL] at mO;rw[mO];refine Ei [] ?_
  repeat' first|refine Ai ?_ ?_|exact rfl|exact⟨⟩|exact Ei _ rfl
 refine cS (fun pw=>?_) (fun pw=>?_)
 ·have pw:=of_decide_eq_true pw;rw[Lm] at pw;rw[if_pos (.inr pw)] at mO;refine aBW [] ?_;rw[hL] at mO;rw[mO];refine Ei [] ?_
  repeat' first|refine Ai ?_ ?_|exact rfl|exact⟨⟩|exact Ei _ rfl
 have DR:=of_decide_eq_false DR;have pw:=of_decide_eq_false pw;rw[Lm] at pw;obtain⟨k,rfl⟩:∃ k:Nat,p=k:=⟨p.toNat,by omega⟩
 have hk:k < s.az.length:=by omega
 rw[if_neg (by omega),Int.toNat_natCast,cD hk] at mO;obtain⟨e1,e2,e3⟩:=EI h (aI hk);refine aBW [] ?_;refine cS (fun Cx=>?_) (fun Cx=>?_)
 ·have hl:bR s z k=s.az[k].hand:=by rw[mO];exact(if_pos Cx)
  refine aBW [] ?_;refine Ei k (Ei (s.az[k].enc) (Ai rfl (Ai (aQ _ _ k hk) ?_)));refine cR (iM _ (cn _ _ _ e1)) ⟨rfl,trivial⟩ ?_;rw[hL] at hl;rw[hl];refine Ei [] ?_
  repeat' first|refine Ai ?_ ?_|exact rfl|exact⟨⟩|exact Ei _ rfl
 refine aBW [] ?_;refine cS (fun DQ=>?_) (fun DQ=>?_)
 ·have hl:bR s z k=s.az[k].cW:=by rw[mO];exact(if_neg (by rw[Cx];decide)).trans ((if_pos DQ))
  refine aBW [] ?_;refine Ei k (Ei (s.az[k].enc) (Ai rfl (Ai (aQ _ _ k hk) ?_)));refine cR (iM _ (cn _ _ _ e2)) ⟨rfl,trivial⟩ ?_;rw[hL] at hl;rw[hl];refine Ei [] ?_
  repeat' first|refine Ai ?_ ?_|exact rfl|exact⟨⟩|exact Ei _ rfl
 refine aBW [] ?_;refine cS (fun Nn=>?_) (fun Nn=>?_)
 ·have hl:bR s z k=s.az[k].dI:=by rw[mO];exact(if_neg (by rw[Cx];decide)).trans ((if_neg (by rw[DQ];decide)).trans ((if_pos Nn)))
  refine aBW [] ?_;refine Ei k (Ei (s.az[k].enc) (Ai rfl (Ai (aQ _ _ k hk) ?_)));refine cR (iM _ (cn _ _ _ e3)) ⟨rfl,trivial⟩ ?_;rw[hL] at hl;rw[hl];refine Ei [] ?_
  repeat' first|refine Ai ?_ ?_|exact rfl|exact⟨⟩|exact Ei _ rfl
 have hl:bR s z k=[]:=by rw[mO];exact(if_neg (by rw[Cx];decide)).trans ((if_neg (by rw[DQ];decide)).trans (if_neg (by rw[Nn];decide)))
 refine aBW [] ?_;rw[hL] at hl;rw[hl];refine Ei [] ?_
 repeat' first|refine Ai ?_ ?_|exact rfl|exact⟨⟩|exact Ei _ rfl
theorem MP (s:aA)(z p:Int)(h:s.ok):Ct ae 158 [.agg (s.enc.map .t),.c (.t (iv z)),.c (.t (iv p))] (.c (.row 0 0)) [⟨3,1,0,(bR s z p).map eI,none⟩] false:=by
 have Xo:s.bw.length*8<=ba:=h.2.2.2.2.1;have hex:s.gn.length*8<=ba:=h.2.2.2.2.2.1;generalize hL:bR s z p=L;refine cT Tryz.func158 rfl (by kernel_rfl) rfl fun w0 O _=>aBW [3,4,5,6,7,8,10,11,12,13,14,15] ?_;refine cS (fun AY=>?_) (fun AY=>?_)
 ·have hl:bR s z p=s.bw:=by unfold bR;rw[if_pos AY]
  refine aBW [] ?_;refine cR (lI _ (cn _ _ _ Xo)) ⟨rfl,trivial⟩ ?_;rw[hL] at hl;rw[hl];refine Ei [(0,896)] ?_
  repeat' first|refine Ai ?_ ?_|exact rfl|exact⟨⟩|exact Ei _ rfl|refine aj ?_|refine bS ?_
 refine aBW [] ?_;refine cS (fun Nl=>?_) (fun Nl=>?_)
 ·have hl:bR s z p=s.gn:=by unfold bR;rw[if_neg (by rw[AY];decide),if_pos Nl]
  refine aBW [] ?_;refine cR (lI _ (cn _ _ _ hex)) ⟨rfl,trivial⟩ ?_;rw[hL] at hl;rw[hl];refine Ei [(0,1152)] ?_
  repeat' first|refine Ai ?_ ?_|exact rfl|exact⟨⟩|exact Ei _ rfl|refine aj ?_|refine bS ?_
 have mO:bR s z p=if p < 0\/(s.az.length:Int)<=p then [] else match s.az[p.toNat]? with
  | some q=>if z==1 then q.hand else if z==2 then q.cW else if z==3 then q.dI else []
  | none=>[]:=by unfold bR;rw[if_neg (by rw[AY];decide),if_neg (by rw[Nl];decide)] <;> rfl
 refine aBW [] ?_;refine cS (fun DR=>?_) (fun DR=>?_)
 ·rw[if_pos (.inl (of_decide_eq_true DR))] at mO;refine aBW [] ?_;rw[hL] at mO;rw[mO];refine Ei [] ?_
  repeat' first|refine Ai ?_ ?_|exact rfl|exact⟨⟩|exact Ei _ rfl
 refine cS (fun pw=>?_) (fun pw=>?_)
 ·have pw:=of_decide_eq_true pw;rw[Lm] at pw;rw[if_pos (.inr pw)] at mO;refine aBW [] ?_;rw[hL] at mO;rw[mO];refine Ei [] ?_
  repeat' first|refine Ai ?_ ?_|exact rfl|exact⟨⟩|exact Ei _ rfl
 have DR:=of_decide_eq_false DR;have pw:=of_decide_eq_false pw;rw[Lm] at pw;obtain⟨k,rfl⟩:∃ k:Nat,p=k:=⟨p.toNat,by omega⟩
 have hk:k < s.az.length:=by omega
 rw[if_neg (by omega),Int.toNat_natCast,cD hk] at mO;obtain⟨e1,e2,e3⟩:=EI h (aI hk);refine aBW [] ?_;refine cS (fun Cx=>?_) (fun Cx=>?_)
 ·have hl:bR s z k=s.az[k].hand:=by rw[mO];exact(if_pos Cx)
  refine aBW [] ?_;refine Ei k (Ei (s.az[k].enc) (Ai rfl (Ai (aQ _ _ k hk) ?_)));refine cR (lI _ (cn _ _ _ e1)) ⟨rfl,trivial⟩ ?_;rw[hL] at hl;rw[hl];refine Ei [(0,3200)] ?_
  repeat' first|refine Ai ?_ ?_|exact rfl|exact⟨⟩|exact Ei _ rfl|refine aj ?_|refine bS ?_
 refine aBW [] ?_;refine cS (fun DQ=>?_) (fun DQ=>?_)
 ·have hl:bR s z k=s.az[k].cW:=by rw[mO];exact(if_neg (by rw[Cx];decide)).trans ((if_pos DQ))
  refine aBW [] ?_;refine Ei k (Ei (s.az[k].enc) (Ai rfl (Ai (aQ _ _ k hk) ?_)));refine cR (lI _ (cn _ _ _ e2)) ⟨rfl,trivial⟩ ?_;rw[hL] at hl;rw[hl];refine Ei [(0,3456)] ?_
  repeat' first|refine Ai ?_ ?_|exact rfl|exact⟨⟩|exact Ei _ rfl|refine aj ?_|refine bS ?_
 refine aBW [] ?_;refine cS (fun Nn=>?_) (fun Nn=>?_)
 ·have hl:bR s z k=s.az[k].dI:=by rw[mO];exact(if_neg (by rw[Cx];decide)).trans ((if_neg (by rw[DQ];decide)).trans ((if_pos Nn)))
  refine aBW [] ?_;refine Ei k (Ei (s.az[k].enc) (Ai rfl (Ai (aQ _ _ k hk) ?_)));refine cR (lI _ (cn _ _ _ e3)) ⟨rfl,trivial⟩ ?_;rw[hL] at hl;rw[hl];refine Ei [(0,3712)] ?_
  repeat' first|refine Ai ?_ ?_|exact rfl|exact⟨⟩|exact Ei _ rfl|refine aj ?_|refine bS ?_
 have hl:bR s z k=[]:=by rw[mO];exact(if_neg (by rw[Cx];decide)).trans ((if_neg (by rw[DQ];decide)).trans (if_neg (by rw[Nn];decide)))
 refine aBW [] ?_;rw[hL] at hl;rw[hl];refine Ei [] ?_
 repeat' first|refine Ai ?_ ?_|exact rfl|exact⟨⟩|exact Ei _ rfl
theorem uw {α:Type}(l:List α)(f:α->List Tr)(i:Nat)(x:α):(l.map f).set i (f x)=(l.set i x).map f:=by
 induction l generalizing i with
 | nil=>rfl
 | cons y l ih=>cases i with
  | zero=>rfl
  | succ i=>exact congrArg (_ :: ·) (ih i)
theorem Ql (l:List aE)(o:aE)(i:Nat)(h:l.findIdx? (fun x=>x.id==o.id)=some i):o7 l o=l.set i o:=by
 unfold o7;rw[h]
theorem Md (l:List aE)(o:aE)(k:Nat)(h:l.findIdx? (fun x=>x.id==o.id)=none)(hk:k<=l.length)(h1:∀ j (h:j < l.length),j < k->decide (l[j].id < o.id)=true)(h2:k=l.length\/∃ h:k < l.length,decide (l[k].id < o.id)=false):o7 l o=l.take k++[o]++l.drop k:=by
 unfold o7;rw[h];show JD l o=_;unfold JD;rw[kT _ l k hk h1 h2]
theorem jy (s:aA)(o:aE)(h:s.ok):Ct ae 110 [.agg (s.enc.map .t),.agg (o.enc.map .t)] (.agg (((eM s o).enc.map .t).set 2 (.row 0 0))) [⟨3,1,0,s.bw.map eI,none⟩] false:=by
 have ho:s.aa.length*128<=ba:=h.2.2.1;have hp:=vz s o.id ho;unfold o8 at hp;unfold eM;generalize hL:o7 s.aa o=L;rcases im (fun x:aE=>x.id==o.id) s.aa with⟨e1,e2,_⟩|⟨i,hi,e1,e2,_⟩
 ·revert hp;generalize jS (fun x:aE=>x.id==o.id) s.aa=v at e1;intro hp;refine cT Tryz.func110 rfl (by kernel_rfl) rfl fun w0 O _=>aBW [4,6,9,10,11,12] ?_;refine cR (gM s h) ⟨fL s.enc,trivial⟩ ?_;refine cF hp ⟨?_,rfl,trivial⟩ ?_
  ·repeat' first|refine Ai ?_ ?_|exact rfl|exact⟨⟩|exact Ei _ rfl
  refine cS (fun h=>by have:=of_decide_eq_true h;omega) (fun _=>?_);refine aBW [] ?_;refine aBY (fun k:Nat=>⟨[(3,.ptr 128 0),(4,.ptr 256 0),(5,.ptr 640 0),(7,aBZ k)],[(128,o.enc.map .t),(256,List.replicate 19 .bot),(640,(s.enc.map .t).set 2 (.row 9000 0))],[(9000,⟨3,1,0,s.bw.map eI,none⟩)],10000⟩) (fun k=>k<=s.aa.length/\∀ j (h:j < s.aa.length),j < k->decide (s.aa[j].id < o.id)=true) (fun k=>s.aa.length - k) 0 ?_ ⟨aD _,fun j _ h=>by omega⟩ ?_
  ·refine bh [(9000,514)] rfl rfl ?_ ?_ ?_
   all_goals repeat' first|refine Ai ?_ ?_|exact rfl|exact⟨⟩|exact Ei _ rfl|refine aj ?_|refine bS ?_
  rintro k ⟨hk,eZ⟩;have after:(k=s.aa.length\/∃ h:k < s.aa.length,decide (s.aa[k].id < o.id)=false)->L=s.aa.take k++[o]++s.aa.drop k:=fun hx=>by rw[<- hL];exact Md _ o k e2 hk eZ hx
  have hb:∀ n,n<=s.aa.length+1->n*128<=140737488355328/\n < 140737488355328:=fun n hn=>by unfold ba at ho;omega
  refine aBW [8] ?_;refine cS (fun h=>?_) (fun h=>?_)
  ·have aS:=cN h;refine Ei k (Ei (s.aa[k].enc) (Ai rfl (Ai (aQ _ _ k aS) ?_)));refine cS (fun h=>?_) (fun h=>?_)
   ·refine aBW [] ?_;refine Ei (k+1) (Ai ⟨by omega,fun j hj Af=>?_⟩ (Ai (show s.aa.length - (k+1) < s.aa.length - k by omega) ?_))
    ·by_cases e:j=k
     ·subst e;exact h
     ·exact eZ j hj (by omega)
    refine bh [(9000,9000)] rfl rfl ?_ ?_ ?_
    ·repeat' first|refine Ai ?_ ?_|exact rfl|exact⟨⟩|exact Ei _ rfl|refine aj ?_|refine bS ?_
     exact ed k aS 128 (by decide) ho
    all_goals repeat' first|refine Ai ?_ ?_|exact rfl|exact⟨⟩|exact Ei _ rfl|refine aj ?_|refine bS ?_
   ·have hl:=after (.inr ⟨aS,h⟩);refine aBW [10,11,12] ?_;refine Ei 0 (Ei k (Ai rfl (Ai rfl (Ai (aD _) (Ai ?_ ?_)))))
    ·rw[Lm];exact hk
    refine Ai (.inl rfl) (Ai (hb _ (by simp only[Lm,aB,aL,aw];omega)).1 (Ai (hb _ (by simp only[Lm,aB,aL,aw];omega)).2 ?_));refine aBW [] ?_;refine Ai (.inl rfl) (Ai (hb _ (by simp only[Lm,aB,aL,au,aw,aq];omega)).1 (Ai (hb _ (by simp only[Lm,aB,aL,au,aw,aq];omega)).2 ?_));refine aBW [] ?_;refine Ei k (Ei s.aa.length (Ai rfl (Ai ?_ (Ai hk (Ai ?_ ?_)))))
    ·exact(Lm _).symm
    ·rw[Lm];exact al _
    refine Ai (.inl rfl) (Ai (hb _ (by simp only[Lm,aB,aL,au,aw,aq];omega)).1 (Ai (hb _ (by simp only[Lm,aB,aL,au,aw,aq];omega)).2 ?_));refine aBW [] ?_;refine Ei [(0,9000)] ?_
    repeat' first|refine Ai ?_ ?_|exact rfl|exact⟨⟩|exact Ei _ rfl|refine aj ?_|refine bS ?_
    rw[hl,aW,aW,List.map_take,List.map_drop,List.drop_zero,List.take_of_length_le (l:=(s.aa.map aE.enc)) (i:=s.aa.length) (by rw[Lm];exact al _)];rfl
  ·have fS:=cP h hk;have hl:=after (.inl fS);refine aBW [10,11,12] ?_;refine Ei 0 (Ei k (Ai rfl (Ai rfl (Ai (aD _) (Ai ?_ ?_)))))
   ·rw[Lm];exact hk
   refine Ai (.inl rfl) (Ai (hb _ (by simp only[Lm,aB,aL,aw];omega)).1 (Ai (hb _ (by simp only[Lm,aB,aL,aw];omega)).2 ?_));refine aBW [] ?_;refine Ai (.inl rfl) (Ai (hb _ (by simp only[Lm,aB,aL,au,aw,aq];omega)).1 (Ai (hb _ (by simp only[Lm,aB,aL,au,aw,aq];omega)).2 ?_));refine aBW [] ?_;refine Ei k (Ei s.aa.length (Ai rfl (Ai ?_ (Ai hk (Ai ?_ ?_)))))
   ·exact(Lm _).symm
   ·rw[Lm];exact al _
   refine Ai (.inl rfl) (Ai (hb _ (by simp only[Lm,aB,aL,au,aw,aq];omega)).1 (Ai (hb _ (by simp only[Lm,aB,aL,au,aw,aq];omega)).2 ?_));refine aBW [] ?_;refine Ei [(0,9000)] ?_
   repeat' first|refine Ai ?_ ?_|exact rfl|exact⟨⟩|exact Ei _ rfl|refine aj ?_|refine bS ?_
   rw[hl,aW,aW,List.map_take,List.map_drop,List.drop_zero,List.take_of_length_le (l:=(s.aa.map aE.enc)) (i:=s.aa.length) (by rw[Lm];exact al _)];rfl
 ·revert hp;generalize jS (fun x:aE=>x.id==o.id) s.aa=v at e1;intro hp;rw[Ql _ _ _ e2] at hL;refine cT Tryz.func110 rfl (by kernel_rfl) rfl fun w0 O _=>aBW [4,6,9,10,11,12] ?_;refine cR (gM s h) ⟨fL s.enc,trivial⟩ ?_;refine cF hp ⟨?_,rfl,trivial⟩ ?_
  ·repeat' first|refine Ai ?_ ?_|exact rfl|exact⟨⟩|exact Ei _ rfl
  refine cS (fun _=>?_) (fun h=>by have:=of_decide_eq_false h;omega);subst e1;refine aBW [] ?_;refine Ei i (Ai rfl (Ai (by rw[Lm];exact hi) ?_));refine Ei (s.aa[i].enc) (Ai (aQ _ _ i hi) (Ai (al _) ?_));refine Ei [(0,514)] ?_
  repeat' first|refine Ai ?_ ?_|exact rfl|exact⟨⟩|exact Ei _ rfl|refine aj ?_|refine bS ?_
  rw[<- hL];exact congrArg (Tr.sl 19) (uw s.aa aE.enc i o).symm
theorem Eh (s:aA)(z p:Int)(l:List Int)(h:s.ok)(hl:l.length*8 < 140737488355328):Ct ae 165 [.agg (s.enc.map .t),.c (.t (iv z)),.c (.t (iv p)),.c (.t (.sl 1 (l.map eI)))] (.agg ((eU s z p l).enc.map .t)) [] false:=by
 generalize hS:eU s z p l=S;refine cT Tryz.func165 rfl (by kernel_rfl) rfl fun w0 O _=>aBW [4,5,6,7,8,9,10,11,13,14,15,16,17,18] ?_;refine cR (gM s h) ⟨fL s.enc,trivial⟩ ?_;refine cS (fun AY=>?_) (fun AY=>?_)
 ·have qO:eU s z p l={ s with bw:=l }:=by unfold eU;rw[if_pos AY]
  rw[hS] at qO;subst qO;refine aBW [5,8] ?_;refine cR (ny l hl) ⟨rfl,trivial⟩ ?_;refine aBW [] ?_;refine Ei [] ?_
  repeat' first|refine Ai ?_ ?_|exact rfl|exact⟨⟩|exact Ei _ rfl
 refine aBW [] ?_;refine cS (fun Nl=>?_) (fun Nl=>?_)
 ·have qO:eU s z p l={ s with gn:=l }:=by unfold eU;rw[if_neg (by rw[AY];decide),if_pos Nl]
  rw[hS] at qO;subst qO;refine aBW [5,8] ?_;refine cR (ny l hl) ⟨rfl,trivial⟩ ?_;refine aBW [] ?_;refine Ei [] ?_
  repeat' first|refine Ai ?_ ?_|exact rfl|exact⟨⟩|exact Ei _ rfl
 refine aBW [10,11] ?_
 have mO:eU s z p l=if p < 0\/(s.az.length:Int)<=p then s else match s.az[p.toNat]? with
  | some q=>{ s with az:=s.az.set p.toNat (abA q z l) }
  | none=>s:=by unfold eU;rw[if_neg (by rw[AY];decide),if_neg (by rw[Nl];decide)] <;> rfl
 refine cS (fun DR=>?_) (fun DR=>?_)
 ·rw[if_pos (.inl (of_decide_eq_true DR)),hS] at mO;subst mO;refine aBW [] ?_;refine Ei [] ?_
  repeat' first|refine Ai ?_ ?_|exact rfl|exact⟨⟩|exact Ei _ rfl
 refine cS (fun pw=>?_) (fun pw=>?_)
 ·have pw:=of_decide_eq_true pw;rw[Lm] at pw;rw[if_pos (.inr pw),hS] at mO;subst mO;refine aBW [] ?_;refine Ei [] ?_
  repeat' first|refine Ai ?_ ?_|exact rfl|exact⟨⟩|exact Ei _ rfl
 have DR:=of_decide_eq_false DR;have pw:=of_decide_eq_false pw;rw[Lm] at pw;obtain⟨k,rfl⟩:∃ k:Nat,p=k:=⟨p.toNat,by omega⟩
 have hk:k < s.az.length:=by omega
 rw[if_neg (by omega),Int.toNat_natCast,cD hk,hS] at mO;change S={ s with az:=s.az.set k (abA s.az[k] z l) } at mO;refine aBW [13,14] ?_;refine cS (fun Cx=>?_) (fun Cx=>?_)
 ·have hq:abA s.az[k] z l={ s.az[k] with hand:=l }:=by unfold abA;rw[if_pos Cx]
  rw[hq] at mO;subst mO;refine aBW [18] ?_;refine cR (ny l hl) ⟨rfl,trivial⟩ ?_;refine Ei k (Ai rfl (Ai (by rw[Lm];exact hk) ?_));refine Ei (s.az[k].enc) (Ai (aQ _ _ k hk) (Ai (Nb rfl) ?_));refine aBW [] ?_;refine Ei [] ?_
  repeat' first|refine Ai ?_ ?_|exact rfl|exact⟨⟩|exact Ei _ rfl
  exact congrArg (Tr.sl 14) (uw s.az cq.enc k { s.az[k] with hand:=l }).symm
 refine aBW [] ?_;refine cS (fun DQ=>?_) (fun DQ=>?_)
 ·have hq:abA s.az[k] z l={ s.az[k] with cW:=l }:=by unfold abA;rw[if_neg (by rw[Cx];decide),if_pos DQ]
  rw[hq] at mO;subst mO;refine aBW [18] ?_;refine cR (ny l hl) ⟨rfl,trivial⟩ ?_;refine Ei k (Ai rfl (Ai (by rw[Lm];exact hk) ?_));refine Ei (s.az[k].enc) (Ai (aQ _ _ k hk) (Ai (Nb rfl) ?_));refine aBW [] ?_;refine Ei [] ?_
  repeat' first|refine Ai ?_ ?_|exact rfl|exact⟨⟩|exact Ei _ rfl
  exact congrArg (Tr.sl 14) (uw s.az cq.enc k { s.az[k] with cW:=l }).symm
 refine aBW [] ?_;refine cS (fun Nn=>?_) (fun Nn=>?_)
 ·have hq:abA s.az[k] z l={ s.az[k] with dI:=l }:=by unfold abA;rw[if_neg (by rw[Cx];decide),if_neg (by rw[DQ];decide),if_pos Nn]
  rw[hq] at mO;subst mO;refine aBW [18] ?_;refine cR (ny l hl) ⟨rfl,trivial⟩ ?_;refine Ei k (Ai rfl (Ai (by rw[Lm];exact hk) ?_));refine Ei (s.az[k].enc) (Ai (aQ _ _ k hk) (Ai (Nb rfl) ?_));refine aBW [] ?_;refine Ei [] ?_
  repeat' first|refine Ai ?_ ?_|exact rfl|exact⟨⟩|exact Ei _ rfl
  exact congrArg (Tr.sl 14) (uw s.az cq.enc k { s.az[k] with dI:=l }).symm
 have hq:abA s.az[k] z l=s.az[k]:=by unfold abA;rw[if_neg (by rw[Cx];decide),if_neg (by rw[DQ];decide),if_neg (by rw[Nn];decide)]
 rw[hq,List.set_getElem_self] at mO;subst mO;refine aBW [] ?_;refine Ei [] ?_
 repeat' first|refine Ai ?_ ?_|exact rfl|exact⟨⟩|exact Ei _ rfl
theorem MA (id dK bC z du:Int):Ct ae 169 [.c (.t (iv id)),.c (.t (iv dK)),.c (.t (iv bC)),.c (.t (iv z)),.c (.t (iv du))] (.agg ((qc id dK bC z du).enc.map .t)) [] false:=by
 refine cT Tryz.func169 rfl (by kernel_rfl) rfl fun w0 O _=>aBW [] ?_;refine Ei [] ?_
 repeat' first|refine Ai ?_ ?_|exact rfl|exact⟨⟩|exact Ei _ rfl
def rU (x:aE)(id z p du:Int):aE:={ qc id x.dK x.fG z du with token:=x.token,aaB:=if z==0||z==5 then p else x.fG,oY:=z==0 }
theorem ME (x:aE)(id z p du:Int):Ct ae 164 [.agg (x.enc.map .t),.c (.t (iv id)),.c (.t (iv z)),.c (.t (iv p)),.c (.t (iv du))] (.agg ((rU x id z p du).enc.map .t)) [] false:=by
 generalize hM:rU x id z p du=M;refine cT Tryz.func164 rfl (by kernel_rfl) rfl fun w0 O _=>aBW [4,5] ?_;refine cR (MA id x.dK x.fG z du) ⟨rfl,rfl,rfl,rfl,rfl,trivial⟩ ?_;refine cS (fun h0=>?_) (fun h0=>?_)
 ·have qq:M={ qc id x.dK x.fG z du with token:=x.token,aaB:=p,oY:=z==0 }:=by rw[<- hM];unfold rU;rw[if_pos (by rw[show(z==0)=true from h0];rfl)]
  subst qq;refine aBW [5] ?_;refine aBW [] ?_;refine Ei [] ?_
  repeat' first|refine Ai ?_ ?_|exact rfl|exact⟨⟩|exact Ei _ rfl
 refine cS (fun h5=>?_) (fun h5=>?_)
 ·have qq:M={ qc id x.dK x.fG z du with token:=x.token,aaB:=p,oY:=z==0 }:=by rw[<- hM];unfold rU;rw[if_pos (by rw[show(z==5)=true from h5,Bool.or_true])]
  subst qq;refine aBW [5] ?_;refine aBW [] ?_;refine Ei [] ?_
  repeat' first|refine Ai ?_ ?_|exact rfl|exact⟨⟩|exact Ei _ rfl
 have qq:M={ qc id x.dK x.fG z du with token:=x.token,aaB:=x.fG,oY:=z==0 }:=by rw[<- hM];unfold rU;rw[if_neg (by rw[show(z==5)=false from h5,show(z==0)=false from h0];decide)]
 subst qq;refine aBW [] ?_;refine Ei [] ?_
 repeat' first|refine Ai ?_ ?_|exact rfl|exact⟨⟩|exact Ei _ rfl
theorem ET:([]:List Int).length*8<=ba:=by decide
theorem qi {s:aA}(h:s.ok)(z p:Int):(bR s z p).length*8<=ba:=by
 unfold bR;split
 ·exact h.2.2.2.2.1
 split
 ·exact h.2.2.2.2.2.1
 split
 ·exact ET
 split
 ·rename_i q hq;have:=EI h (aU hq);split
  ·exact this.1
  split
  ·exact this.2.1
  split
  ·exact this.2.2
  ·exact ET
 ·exact ET
theorem zf (s:aA)(z p:Int)(l:List Int):(eU s z p l).aa=s.aa:=by
 unfold eU;split
 ·rfl
 split
 ·rfl
 split
 ·rfl
 split <;> rfl
theorem Ej (s:aA)(z p:Int)(l:List Int):(eU s z p l).stack=s.stack:=by
 unfold eU;split
 ·rfl
 split
 ·rfl
 split
 ·rfl
 split <;> rfl
theorem PA {q:cq}(h:q.ok)(z:Int){l:List Int}(hl:l.length*8<=ba):(abA q z l).ok:=by
 unfold abA;split
 ·exact⟨h.1,hl,h.2.2⟩
 split
 ·exact⟨hl,h.2.1,h.2.2⟩
 split
 ·exact⟨h.1,h.2.1,hl⟩
 ·exact h
theorem PB {s:aA}(h:s.ok)(z p:Int){l:List Int}(hl:l.length*8<=ba):(eU s z p l).ok:=by
 obtain⟨h1,h2,h3,h4,h5,h6,h7⟩:=h;unfold eU;split
 ·exact⟨h1,h2,h3,h4,hl,h6,h7⟩
 split
 ·exact⟨h1,h2,h3,h4,h5,hl,h7⟩
 split
 ·exact⟨h1,h2,h3,h4,h5,h6,h7⟩
 split
 ·rename_i q hq;refine⟨by rw[bG];exact h1,fun y hy=>?_,h3,h4,h5,h6,h7⟩;rcases List.mem_or_eq_of_mem_set hy with hy|rfl
  ·exact h2 y hy
  ·exact PA (h2 q (aU hq)) z hl
 ·exact⟨h1,h2,h3,h4,h5,h6,h7⟩
def jI (id:Int)(x:fq):Bool:=x.kind != 1||x.id != id
def kC (s:aA)(id:Int)(i:Nat)(o:aE):aA:={ eU s o.cg o.fG ((bR s o.cg o.fG).filter fun i=>i != id) with aa:=s.aa.take i++s.aa.drop (i+1),stack:=s.stack.filter (jI id) }
theorem Eo (s:aA)(id:Int)(i:Nat)(h:s.ok)(hi:i < s.aa.length)(hp:o8 s.aa id=i):Ct ae 163 [.agg (s.enc.map .t),.c (.t (iv id))] (.agg ((kC s id i s.aa[i]).enc.map .t)) [] false:=by
 have ho:s.aa.length*128<=ba:=h.2.2.1;have fR:s.stack.length*824<=ba:=h.2.2.2.2.2.2.1;have mq:=vz s id ho;rw[hp] at mq;unfold kC;have hlw:((bR s s.aa[i].cg s.aa[i].fG).filter fun i=>i != id).length*8<=ba:=bd (cw _ (cx _ _)) (qi h _ _);have Nr:=Eh s s.aa[i].cg s.aa[i].fG ((bR s s.aa[i].cg s.aa[i].fG).filter fun i=>i != id) h (Nat.lt_of_le_of_lt hlw (by decide));have TF:=zf s s.aa[i].cg s.aa[i].fG ((bR s s.aa[i].cg s.aa[i].fG).filter fun i=>i != id);have hSs:=Ej s s.aa[i].cg s.aa[i].fG ((bR s s.aa[i].cg s.aa[i].fG).filter fun i=>i != id);generalize eU s s.aa[i].cg s.aa[i].fG ((bR s s.aa[i].cg s.aa[i].fG).filter fun i=>i != id)=S at Nr TF hSs;have hb:∀ n,n<=s.aa.length+1->n*128<=140737488355328/\n < 140737488355328:=fun n hn=>by unfold ba at ho;omega
 refine cT Tryz.func163 rfl (by kernel_rfl) rfl fun w0 O _=>aBW [3,4,5,6,11,9,12,13] ?_;refine cR mq ⟨fL s.enc,rfl,trivial⟩ ?_;refine Ei i (Ei (s.aa[i].enc) (Ai rfl (Ai (aQ _ _ i hi) ?_)));refine aBW [4] ?_;refine cR (Q4 s s.aa[i].cg s.aa[i].fG h) ⟨fL s.enc,rfl,rfl,trivial⟩ ?_;refine cR (DY _ id (qi h _ _)) ⟨rfl,rfl,trivial⟩ ?_;refine cR Nr ⟨fL s.enc,rfl,rfl,rfl,trivial⟩ ?_;refine aBW [5] ?_;refine Ei 0 (Ei i (Ai rfl (Ai rfl (Ai (aD _) (Ai ?_ ?_)))))
 ·rw[Lm,TF];exact cG hi
 refine Ai (.inl rfl) (Ai (hb _ (by simp only[Lm,aB,aL,aw,TF];omega)).1 (Ai (hb _ (by simp only[Lm,aB,aL,aw,TF];omega)).2 ?_));refine aBW [6] ?_;refine Ei (i+1) (Ei S.aa.length (Ai (fU i (by unfold ba at ho;omega)) (Ai ?_ (Ai ?_ (Ai ?_ ?_)))))
 ·exact(Lm _).symm
 ·rw[TF];exact hi
 ·rw[Lm];exact al _
 refine Ai (.inl rfl) (Ai (hb _ (by simp only[Lm,aB,aL,au,aw,TF];omega)).1 (Ai (hb _ (by simp only[Lm,aB,aL,au,aw,TF];omega)).2 ?_));refine aBW [] ?_;have xt:S.stack.length*824<=ba:=by rw[hSs];exact fR
 refine aBY (fun k:Nat=>⟨[(1,.c (.t (iv id))),(4,.ptr 128 0),(7,.ptr 3456 0),(9,.c (.row 9000 0)),(10,aBZ k)],[(128,List.replicate 19 .bot),(3456,({ S with aa:=s.aa.take i++s.aa.drop (i+1) }:aA).enc.map .t)],[(9000,⟨176,94,0,((S.stack.take k).filter (jI id)).map fq.enc,none⟩)],10000⟩) (fun k=>k<=S.stack.length) (fun k=>S.stack.length - k) 0 ?_ (aD _) ?_
 ·refine bh [] rfl rfl ?_ ?_ ?_
  all_goals repeat' first|refine Ai ?_ ?_|exact rfl|exact⟨⟩|exact Ei _ rfl
  rw[TF];simp only[aW,List.map_take,List.map_drop,List.drop_zero,bF];rw[List.take_of_length_le (l:=s.aa.map aE.enc) (i:=s.aa.length) (by rw[Lm];exact al _)];exact rfl
 rintro k hk;have si:((S.stack.take k).filter (jI id)).length<=k:=bd (cx _ _) (by rw[aB];omega);refine aBW [10,11,9] ?_;refine cS (fun h=>?_) (fun h=>?_)
 ·have aS:k < S.stack.length:=cN h;have A0:S.stack.take (k+1)=S.stack.take k++[S.stack[k]]:=by rw[List.take_add_one,cD aS];rfl
  refine aBW [] ?_;refine Ei k (Ei (S.stack[k].enc) (Ai rfl (Ai (aQ _ _ k aS) ?_)));refine cS (fun h1=>?_) (fun h1=>?_)
  ·have CA:jI id S.stack[k]=true:=by unfold jI;rw[show(S.stack[k].kind != 1)=true from h1,Bool.true_or]
   refine aBW [] ?_;refine Ei k (Ei (S.stack[k].enc) (Ai rfl (Ai (aQ _ _ k aS) ?_)))
   have Zy:(((S.stack.take k).filter (jI id)).map fq.enc).length+[S.stack[k].enc].length<=S.stack.length+1:=by
    rw[Lm,aq,aw];omega
   refine Ai (.inl rfl) (Ai (AN Zy (cG (dt (by decide) xt))) (Ai (wY Zy (by decide) (dt (by decide) xt)) ?_));refine aBW [] ?_;refine Ei (k+1) (Ai (show k+1<=_ by omega) (Ai (show S.stack.length - (k+1) < S.stack.length - k by omega) ?_));refine bh [(9000,9000)] rfl rfl ?_ ?_ ?_
   all_goals repeat' first|refine Ai ?_ ?_|exact rfl|exact⟨⟩|exact Ei _ rfl|refine aj ?_|refine bS ?_
   exact ed k aS 824 (by decide) xt;rw[A0,List.filter_append,aW];simp only[List.filter_cons,CA,List.filter_nil];rfl
  refine Ei k (Ei (S.stack[k].enc) (Ai rfl (Ai (aQ _ _ k aS) ?_)));refine cS (fun h2=>?_) (fun h2=>?_)
  ·have CA:jI id S.stack[k]=true:=by unfold jI;rw[show(S.stack[k].id != id)=true from h2,Bool.or_true]
   refine aBW [] ?_;refine Ei k (Ei (S.stack[k].enc) (Ai rfl (Ai (aQ _ _ k aS) ?_)))
   have Zy:(((S.stack.take k).filter (jI id)).map fq.enc).length+[S.stack[k].enc].length<=S.stack.length+1:=by
    rw[Lm,aq,aw];omega
   refine Ai (.inl rfl) (Ai (AN Zy (cG (dt (by decide) xt))) (Ai (wY Zy (by decide) (dt (by decide) xt)) ?_));refine aBW [] ?_;refine Ei (k+1) (Ai (show k+1<=_ by omega) (Ai (show S.stack.length - (k+1) < S.stack.length - k by omega) ?_));refine bh [(9000,9000)] rfl rfl ?_ ?_ ?_
   all_goals repeat' first|refine Ai ?_ ?_|exact rfl|exact⟨⟩|exact Ei _ rfl|refine aj ?_|refine bS ?_
   exact ed k aS 824 (by decide) xt;rw[A0,List.filter_append,aW];simp only[List.filter_cons,CA,List.filter_nil];rfl
  ·have CA:jI id S.stack[k]=false:=by unfold jI;rw[show(S.stack[k].kind != 1)=false from h1,show(S.stack[k].id != id)=false from h2];rfl
   refine aBW [] ?_;refine Ei (k+1) (Ai (show k+1<=_ by omega) (Ai (show S.stack.length - (k+1) < S.stack.length - k by omega) ?_));refine bh [(9000,9000)] rfl rfl ?_ ?_ ?_
   all_goals repeat' first|refine Ai ?_ ?_|exact rfl|exact⟨⟩|exact Ei _ rfl|refine aj ?_|refine bS ?_
   exact ed k aS 824 (by decide) xt;rw[A0,List.filter_append,aW];simp only[List.filter_cons,CA,List.filter_nil];simp
 ·have fS:k=S.stack.length:=cP h hk;subst fS;refine aBW [] ?_;refine aBW [] ?_;refine Ei [] ?_
  repeat' first|refine Ai ?_ ?_|exact rfl|exact⟨⟩|exact Ei _ rfl
  rw[bm,hSs];exact rfl
end
section
open Go Cg Go.RowKit Go.Shelf
theorem akL (a:Int)(b:Int)(c:Int):∃ r:Bool,(r=(fz a b c))/\Ct ae 41 [.c (.t (iv a)),.c (.t (iv b)),.c (.t (iv c))] (aB0 r) [] true:=by
 refine db (Φ:=fun (r:Bool)=>r=(fz a b c)) dc (cX Tryz.func41 rfl (by kernel_rfl) rfl (aBX [] [] ?_))
 repeat' (first|(apply bY <;> intro _)|(apply bL;exact Ei [] (Ai rfl (Ai trivial rfl));exact(by simp[fz, *]);rfl))
theorem afP (a:Int)(b:Int)(c:Int):Ct ae 41 [.c (.t (iv a)),.c (.t (iv b)),.c (.t (iv c))] (aB0 (fz a b c)) [] true:=by
 obtain⟨r,hr,h⟩:=akL a b c;rw[hr] at h;exact h
theorem ahD (a:List Int)(b:Int)(ha:a.length*8<=ba):∃ r:Int,(r=(aaT a b))/\Ct ae 153 [.c (.t (.sl 1 (a.map eI))),.c (.t (iv b))] (aBZ r) [] true:=by
 refine db (Φ:=fun (r:Int)=>r=(aaT a b)) lF (cX Tryz.func153 rfl (by kernel_rfl) rfl (aBX [] [] ?_))
 repeat' (first|(apply Ri;(first|assumption|omega|(simp only[ak,dM,aq,aw];omega)|(simp only[Lm] at *;omega)|decide);(first|assumption|omega|(simp only[ak,dM,aq,aw];omega)|(simp only[Lm] at *;omega)|decide);intro _)|(apply bY <;> intro _)|(apply bL;exact Ei [] (Ai rfl (Ai trivial rfl));exact(ahC ‹_› ‹_›);rfl)|(apply eX 3 rfl;refine gP.up (β:=Int) 3 6 ((((a.map eI).length:Nat):Int)) (by first|omega|exact gV (by first|assumption|exact eO ‹_› ‹_› | exact eV _ ‹_›) rfl) (by omega) (fun p=>[(5,aBZ p)]) (fun i (p:Int)=>p=((a.take i.toNat).count b:Nat)/\p<=i) [0,1] [] 200000 rfl ?_;refine Ai ?_ (fun _ _ _ _ _=>aBX [] [] ?_))|exact Ei _ (Ai (by first|exact⟨rfl,Int.le_refl 0⟩|exact adQ ‹_› ‹_› ‹_› ‹_› ‹_› ‹_› | exact adU ‹_› ‹_› ‹_› ‹_›) (cE rfl rfl rfl rfl))|exact Ai (by first|assumption|omega) (Ei _ (Ai (by first|exact⟨rfl,Int.le_refl 0⟩|exact adQ ‹_› ‹_› ‹_› ‹_› ‹_› ‹_› | exact adU ‹_› ‹_› ‹_› ‹_›) (cE rfl rfl rfl rfl))))
theorem afM (a:List Int)(b:Int)(ha:a.length*8<=ba):Ct ae 153 [.c (.t (.sl 1 (a.map eI))),.c (.t (iv b))] (aBZ (aaT a b)) [] true:=by
 obtain⟨r,hr,h⟩:=ahD a b ha;rw[hr] at h;exact h
theorem adX (a:aA)(b:Int)(ha:a.aa.length*128<=ba):Ct ae 152 [.agg (a.enc.map .t),.c (.t (iv b))] (.fH [.agg ((b9 a.aa b).enc.map .t),aB0 (er a.aa b)]) [] true:=by
 refine Ct.uc (b:=false) ?_ rfl;refine cT Tryz.func152 rfl (by kernel_rfl) rfl fun w0 O _=>aBW [] ?_;refine cF (gk a b ha) ⟨fL a.enc,rfl,trivial⟩ ?_;refine Ei [] ?_
 repeat' first|refine Ai ?_ ?_|exact rfl|exact⟨⟩|exact Ei _ rfl
theorem ahP (a:aA)(b:List Int)(c:Int)(d:Int)(ha:a.ok)(hb:b.length*8<=ba):∃ r:Bool,(r=(iL a c d b))/\Ct ae 88 [.agg (a.enc.map .t),.c (.t (.sl 1 (b.map eI))),.c (.t (iv c)),.c (.t (iv d))] (aB0 r) [] true:=by
 have CH:=ha;obtain⟨S8,S7,S6,S5,UX,Yz,Yy,Yx,Yw,Yv,U0,UZ,UY⟩:=CH;refine db (Φ:=fun (r:Bool)=>r=(iL a c d b)) dc (cX Tryz.func88 rfl (by kernel_rfl) rfl (aBX [] [] ?_))
 repeat' (first|(apply Ri;(first|assumption|omega|(simp only[ak,dM,aq,aw];omega)|(simp only[Lm] at *;omega)|decide);(first|assumption|omega|(simp only[ak,dM,aq,aw];omega)|(simp only[Lm] at *;omega)|decide);intro _)|(apply bY <;> intro _)|(apply dx <;> intro _)|apply cy|(apply cS <;> intro _)|(apply bL;exact Ei [] (Ai rfl (Ai trivial rfl));exact(by first|exact(adF (p:=fun id=>er a.aa id&&((b9 a.aa id).cg==c&&((!decide (d>=0)||(b9 a.aa id).fG==d)&&aaT b id==1))) ‹_› (by simp[*])).symm|exact(Up.ajU (p:=fun id=>er a.aa id&&((b9 a.aa id).cg==c&&((!decide (d>=0)||(b9 a.aa id).fG==d)&&aaT b id==1))) ‹_› (by rwa [Lm] at *)).symm);rfl)|(apply eX 2 rfl;refine gP.up (β:=Unit) 2 9 ((((b.map eI).length:Nat):Int)) (by first|omega|exact gV (by first|assumption|exact eO ‹_› ‹_› | exact eV _ ‹_›) rfl) (by omega) (fun _=>[]) (fun i _=>Up (fun _=>fun id=>er a.aa id&&((b9 a.aa id).cg==c&&((!decide (d>=0)||(b9 a.aa id).fG==d)&&aaT b id==1))) b i) [1,2,3,4] [0] 200000 rfl ?_;refine Ai ?_ (fun _ _ _ _ _=>aBX [] [] ?_))|exact Ei () (Ai (by first|exact Up.zero|exact Up.step ‹_› ‹_› ‹_› (by simp[*])) (cE rfl rfl rfl rfl))|exact Ai (by first|assumption|omega) (Ei () (Ai (by first|exact Up.zero|exact Up.step ‹_› ‹_› ‹_› (by simp[*])) (cE rfl rfl rfl rfl)))|(apply bj 152;refine cF (adX _ _ (by first|assumption|exact eO ‹_› ‹_› | exact eV _ ‹_›)) ⟨fL (aA.enc _),rfl,trivial⟩ ?_)|(apply bj 153;refine cF (afM _ _ (by first|assumption|exact eO ‹_› ‹_› | exact eV _ ‹_›)) ⟨rfl,rfl,trivial⟩ ?_))
theorem aiX (a:aA)(b:List Int)(c:Int)(d:Int)(ha:a.ok)(hb:b.length*8<=ba):Ct ae 88 [.agg (a.enc.map .t),.c (.t (.sl 1 (b.map eI))),.c (.t (iv c)),.c (.t (iv d))] (aB0 (iL a c d b)) [] true:=by
 obtain⟨r,hr,h⟩:=ahP a b c d ha hb;rw[hr] at h;exact h
theorem agO (a:aA)(b:Int)(ha:a.ok):∃ r:Bool,(r=(DO a b))/\Ct ae 43 [.agg (a.enc.map .t),.c (.t (iv b))] (aB0 r) [] true:=by
 have CH:=ha;obtain⟨S8,S7,S6,S5,UX,Yz,Yy,Yx,Yw,Yv,U0,UZ,UY⟩:=CH;refine db (Φ:=fun (r:Bool)=>r=(DO a b)) dc (cX Tryz.func43 rfl (by kernel_rfl) rfl (aBX [] [] ?_))
 repeat' (first|(apply bL;exact Ei [] (Ai rfl (Ai trivial rfl));exact(by simp[DO,fz,Iz S8 rfl]);rfl)|(apply bj 41;refine cF (afP _ _ _) ⟨rfl,rfl,rfl,trivial⟩ ?_))
theorem abM (a:aA)(b:Int)(ha:a.ok):Ct ae 43 [.agg (a.enc.map .t),.c (.t (iv b))] (aB0 (DO a b)) [] true:=by
 obtain⟨r,hr,h⟩:=agO a b ha;rw[hr] at h;exact h
theorem ahJ (a0:Int)(a1:Int)(a2:Int)(a3:Int)(a4:Int)(a5:Int):∃ r:Bool,(r=(DZ a0 a1 a2 a3 a4 a5))/\Ct ae 87 [.agg [.t (iv a0),.t (iv a1),.t (iv a2),.t (iv a3),.t (iv a4),.t (iv a5)]] (aB0 r) [] true:=by
 refine db (Φ:=fun (r:Bool)=>r=(DZ a0 a1 a2 a3 a4 a5)) dc (cX Tryz.func87 rfl (by kernel_rfl) rfl (aBX [] [] ?_))
 repeat' (first|(apply bY <;> intro _)|(apply bL;exact Ei [] (Ai rfl (Ai trivial rfl));exact(by simp[DZ, *]);rfl)|(apply eX 2 rfl;refine gP.one 2 rfl (aBX [] [] ?_))|(apply ud;(first|assumption|omega|(simp only[ak];omega)|(simp only[Lm] at *;omega)|decide);(first|assumption|omega|(simp only[ak];omega)|(simp only[Lm] at *;omega)|decide);intro _))
theorem ahU (a0:Int)(a1:Int)(a2:Int)(a3:Int)(a4:Int)(a5:Int):Ct ae 87 [.agg [.t (iv a0),.t (iv a1),.t (iv a2),.t (iv a3),.t (iv a4),.t (iv a5)]] (aB0 (DZ a0 a1 a2 a3 a4 a5)) [] true:=by
 obtain⟨r,hr,h⟩:=ahJ a0 a1 a2 a3 a4 a5;rw[hr] at h;exact h
theorem akP (a0:Int)(a1:Int)(a2:Int):∃ r:Bool,(r=(TN a0 a1 a2))/\Ct ae 154 [.agg [.t (iv a0),.t (iv a1),.t (iv a2)]] (aB0 r) [] true:=by
 refine db (Φ:=fun (r:Bool)=>r=(TN a0 a1 a2)) dc (cX Tryz.func154 rfl (by kernel_rfl) rfl (aBX [] [] ?_))
 repeat' (first|(apply bY <;> intro _)|(apply bL;exact Ei [] (Ai rfl (Ai trivial rfl));exact(by simp[TN, *]);rfl)|(apply eX 2 rfl;refine gP.one 2 rfl (aBX [] [] ?_))|(apply ud;(first|assumption|omega|(simp only[ak];omega)|(simp only[Lm] at *;omega)|decide);(first|assumption|omega|(simp only[ak];omega)|(simp only[Lm] at *;omega)|decide);intro _))
theorem amN (a0:Int)(a1:Int)(a2:Int):Ct ae 154 [.agg [.t (iv a0),.t (iv a1),.t (iv a2)]] (aB0 (TN a0 a1 a2)) [] true:=by
 obtain⟨r,hr,h⟩:=akP a0 a1 a2;rw[hr] at h;exact h
theorem agL (a:aA)(b:Int)(ha:a.ok):∃ r:Int,(r=(Gq a b))/\Ct ae 157 [.agg (a.enc.map .t),.c (.t (iv b))] (aBZ r) [] true:=by
 have CH:=ha;obtain⟨S8,S7,S6,S5,UX,Yz,Yy,Yx,Yw,Yv,U0,UZ,UY⟩:=CH;refine db (Φ:=fun (r:Int)=>r=(Gq a b)) lF (cX Tryz.func157 rfl (by kernel_rfl) rfl (aBX [] [] ?_))
 repeat' (first|(apply Ri;(first|assumption|omega|(simp only[ak,dM,aq,aw];omega)|(simp only[Lm] at *;omega)|decide);(first|assumption|omega|(simp only[ak,dM,aq,aw];omega)|(simp only[Lm] at *;omega)|decide);intro _)|(apply bY <;> intro _)|(apply bL;exact Ei [] (Ai rfl (Ai trivial rfl));exact(aiK ‹_› ‹_›);rfl)|(apply eX 3 rfl;refine gP.up (β:=Int) 3 6 ((((a.stack.map fq.enc).length:Nat):Int)) (by first|omega|exact gV (by first|assumption|exact eO ‹_› ‹_› | exact eV _ ‹_›) rfl) (by omega) (fun p=>[(5,aBZ p)]) (fun i (p:Int)=>p=((a.stack.take i.toNat).countP (fun x=>x.kind==1&&x.id==b):Nat)/\p<=i) [1,2] [0] 200000 rfl ?_;refine Ai ?_ (fun _ _ _ _ _=>aBX [] [] ?_))|exact Ei _ (Ai (by first|exact⟨rfl,Int.le_refl 0⟩|exact afZ ‹_› ‹_› Yy rfl ‹_› ‹_› (by simp[*])|exact agA ‹_› ‹_› ‹_› (by simp[*])) (cE rfl rfl rfl rfl))|exact Ai (by first|assumption|omega) (Ei _ (Ai (by first|exact⟨rfl,Int.le_refl 0⟩|exact afZ ‹_› ‹_› Yy rfl ‹_› ‹_› (by simp[*])|exact agA ‹_› ‹_› ‹_› (by simp[*])) (cE rfl rfl rfl rfl))))
theorem ahF (a:aA)(b:Int)(ha:a.ok):Ct ae 157 [.agg (a.enc.map .t),.c (.t (iv b))] (aBZ (Gq a b)) [] true:=by
 obtain⟨r,hr,h⟩:=agL a b ha;rw[hr] at h;exact h
theorem ahS (a:aE):∃ r:aE,(r=(agD a))/\Ct ae 155 [.agg (a.enc.map .t)] ((fun r=>.agg (r.enc.map .t)) r) [] true:=by
 refine db (Φ:=fun (r:aE)=>r=(agD a)) (fun _=>rfl) (cX Tryz.func155 rfl (by kernel_rfl) rfl (aBX [] [] ?_))
 repeat' (first|(refine bL (agD a) (Ei [] (Ai rfl (Ai trivial ?_))) rfl rfl;(repeat' first|refine Ai ?_ ?_|exact rfl|exact⟨⟩|exact Ei _ rfl|refine aj ?_|refine bS ?_);done))
theorem aiZ (a:aE):Ct ae 155 [.agg (a.enc.map .t)] (.agg ((agD a).enc.map .t)) [] true:=by
 obtain⟨r,hr,h⟩:=ahS a;rw[hr] at h;exact h
theorem ahI (a:aE):∃ r:aE,(r=(adC a))/\Ct ae 156 [.agg (a.enc.map .t)] ((fun r=>.agg (r.enc.map .t)) r) [] true:=by
 refine db (Φ:=fun (r:aE)=>r=(adC a)) (fun _=>rfl) (cX Tryz.func156 rfl (by kernel_rfl) rfl (aBX [] [] ?_))
 repeat' (first|(refine bL (adC a) (Ei [] (Ai rfl (Ai trivial ?_))) rfl rfl;(repeat' first|refine Ai ?_ ?_|exact rfl|exact⟨⟩|exact Ei _ rfl|refine aj ?_|refine bS ?_);done))
theorem ahR (a:aE):Ct ae 156 [.agg (a.enc.map .t)] (.agg ((adC a).enc.map .t)) [] true:=by
 obtain⟨r,hr,h⟩:=ahI a;rw[hr] at h;exact h
theorem akM (a:aE)(b:Int)(c:Int):∃ r:Bool,(r=(sW a b c))/\Ct ae 89 [.agg (a.enc.map .t),.c (.t (iv b)),.c (.t (iv c))] (aB0 r) [] true:=by
 refine db (Φ:=fun (r:Bool)=>r=(sW a b c)) dc (cX Tryz.func89 rfl (by kernel_rfl) rfl (aBX [] [] ?_))
 repeat' (first|(apply bY <;> intro _)|apply cy|(apply cS <;> intro _)|(apply bL;exact Ei [] (Ai rfl (Ai trivial rfl));exact(by simp[sW,zm, *] <;> simp_all[fy,MO,agD,adC]);rfl)|(apply bj 154;refine cF (amN _ _ _) ⟨⟨rfl,rfl,rfl,trivial⟩,trivial⟩ ?_)|(apply bj 155;refine cF (aiZ _) ⟨fL (aE.enc _),trivial⟩ ?_)|(apply bj 156;refine cF (ahR _) ⟨fL (aE.enc _),trivial⟩ ?_))
theorem amL (a:aE)(b:Int)(c:Int):Ct ae 89 [.agg (a.enc.map .t),.c (.t (iv b)),.c (.t (iv c))] (aB0 (sW a b c)) [] true:=by
 obtain⟨r,hr,h⟩:=akM a b c;rw[hr] at h;exact h
theorem agP (a:aA)(b:aE)(ha:a.ok):∃ r:Bool,(r=(pX a b))/\Ct ae 90 [.agg (a.enc.map .t),.agg (b.enc.map .t)] (aB0 r) [] true:=by
 have CH:=ha;obtain⟨S8,S7,S6,S5,UX,Yz,Yy,Yx,Yw,Yv,U0,UZ,UY⟩:=CH;refine db (Φ:=fun (r:Bool)=>r=(pX a b)) dc (cX Tryz.func90 rfl (by kernel_rfl) rfl (aBX [] [] ?_))
 repeat' (first|(apply bY <;> intro _)|(apply bL;exact Ei [] (Ai rfl (Ai trivial rfl));exact(by simp[pX, *]);rfl)|(apply bj 157;refine cF (ahF _ _ (by first|assumption|exact eO ‹_› ‹_› | exact eV _ ‹_› | exact qi ‹_› _ _)) ⟨fL (aA.enc _),rfl,trivial⟩ ?_)|(apply bj 158;refine cR (Q4 _ _ _ (by first|assumption|exact eO ‹_› ‹_› | exact eV _ ‹_› | exact qi ‹_› _ _)) ⟨fL (aA.enc _),rfl,rfl,trivial⟩ ?_)|(apply bj 153;refine cF (afM _ _ (by first|assumption|exact eO ‹_› ‹_› | exact eV _ ‹_› | exact qi ‹_› _ _)) ⟨rfl,rfl,trivial⟩ ?_))
theorem ahH (a:aA)(b:aE)(ha:a.ok):Ct ae 90 [.agg (a.enc.map .t),.agg (b.enc.map .t)] (aB0 (pX a b)) [] true:=by
 obtain⟨r,hr,h⟩:=agP a b ha;rw[hr] at h;exact h
theorem afO (a:List bX)(b:aA)(_ha:a.length*176<=ba)(_ma:∀ y∈a,bX.ok y)(hb:b.ok):∃ r:Bool,(r=(Mq ((a.length:Nat):Int) b))/\Ct ae 44 [.c (.t (.sl 17 (a.map bX.enc))),.agg (b.enc.map .t)] (aB0 r) [] true:=by
 have Rz:=hb;obtain⟨ob0,ob1,ob2,ob3,ob4,ob5,ob6,ob7,ob8,ob9,amC,amB,amA⟩:=Rz;refine db (Φ:=fun (r:Bool)=>r=(Mq ((a.length:Nat):Int) b)) dc (cX Tryz.func44 rfl (by kernel_rfl) rfl (aBX [] [] ?_))
 repeat' (first|(apply Rh uq 128 ‹_› rfl ‹_› ‹_›;intro _)|(apply Ri;(first|assumption|omega|(simp only[ak,dM,aq,aw];omega)|(simp only[Lm] at *;omega)|decide);(first|assumption|omega|(simp only[ak,dM,aq,aw];omega)|(simp only[Lm] at *;omega)|decide);intro _)|(apply bY <;> intro _)|apply cy|(apply cS <;> intro _)|(apply bL;exact Ei [] (Ai rfl (Ai trivial rfl));exact(by first|(simp[Mq, *];done)|((try simp only[Lm] at *);simp[Mq, *];done)|exact ajD ‹_› ‹_› (by first|exact aiC ‹_› | exact aiB ‹_› | exact aiA ‹_› | exact ahZ ‹_› ‹_› | exact ahY ‹_›)|exact ahX ‹_› ‹_› ‹_›);rfl)|(apply eX 4 rfl;refine gP.up (β:=Unit) 4 5 ((((b.aa.map aE.enc).length:Nat):Int)) (by first|omega|exact gV (by first|assumption|exact eO ‹_› ‹_› | exact eV _ ‹_›) rfl) (by omega) (fun _=>[]) (fun i _=>Up (GS ((a.length:Nat):Int) b) b.aa i) [0,3] [0] 200000 rfl ?_;refine Ai ?_ (fun _ _ _ _ _=>aBX [] [] ?_))|exact Ei () (Ai (by first|exact Up.zero|exact Up.step ‹_› ‹_› ‹_› (aeE ‹_› ‹_› ‹_› (by first|exact .inl (by omega)|exact .inr ‹_›) ‹_›)) (cE rfl rfl rfl rfl))|exact Ai (by first|assumption|omega) (Ei () (Ai (by first|exact Up.zero|exact Up.step ‹_› ‹_› ‹_› (aeE ‹_› ‹_› ‹_› (by first|exact .inl (by omega)|exact .inr ‹_›) ‹_›)) (cE rfl rfl rfl rfl)))|(apply bj 89;refine cF (amL _ _ _) ⟨fL (aE.enc _),rfl,rfl,trivial⟩ ?_)|(apply bj 90;refine cF (ahH _ _ (by first|assumption|exact eO ‹_› ‹_› | exact eV _ ‹_›)) ⟨fL (aA.enc _),fL (aE.enc _),trivial⟩ ?_))
theorem agS (a:List bX)(b:aA)(ha:a.length*176<=ba)(ma:∀ y∈a,bX.ok y)(hb:b.ok):Ct ae 44 [.c (.t (.sl 17 (a.map bX.enc))),.agg (b.enc.map .t)] (aB0 (Mq ((a.length:Nat):Int) b)) [] true:=by
 obtain⟨r,hr,h⟩:=afO a b ha ma hb;rw[hr] at h;exact h
theorem afN (a:aA)(ha:a.ok):∃ r:Bool,(r=(yg a))/\Ct ae 42 [.agg (a.enc.map .t)] (aB0 r) [] true:=by
 have CH:=ha;obtain⟨S8,S7,S6,S5,UX,Yz,Yy,Yx,Yw,Yv,U0,UZ,UY⟩:=CH;refine db (Φ:=fun (r:Bool)=>r=(yg a)) dc (cX Tryz.func42 rfl (by kernel_rfl) rfl (aBX [] [] ?_))
 repeat' (first|(apply Ri;(first|assumption|omega|(simp only[ak,dM,aq,aw];omega)|(simp only[Lm] at *;omega)|decide);(first|assumption|omega|(simp only[ak,dM,aq,aw];omega)|(simp only[Lm] at *;omega)|decide);intro _)|(apply bY <;> intro _)|apply cy|(apply cS <;> intro _)|(apply bL;exact Ei [] (Ai rfl (Ai trivial rfl));exact(by first|exact ajC ‹_› | exact ajB ‹_› (by rw[acP ‹_›];simp[*])|exact ahW ‹_› ‹_› ‹_› (by simp[*]));rfl)|(apply eX 4 rfl;refine gP.up (β:=Unit) 4 3 ((((a.az.map cq.enc).length:Nat):Int)) (by first|omega|exact gV (by first|assumption|exact eO ‹_› ‹_› | exact eV _ ‹_› | exact cq.abH (eV _ ‹_›)|exact cq.aeV (eV _ ‹_›)|exact cq.abC (eV _ ‹_›)) rfl) (by omega) (fun _=>[]) (fun i _=>Up (Mh a) a.az i) [1] [0] 200000 rfl ?_;refine Ai ?_ (fun _ _ _ _ _=>aBX [] [] ?_))|exact Ei () (Ai (by first|exact Up.zero|exact Up.step ‹_› ‹_› ‹_› (by rw[acP ‹_›];simp[*])) (cE rfl rfl rfl rfl))|exact Ai (by first|assumption|omega) (Ei () (Ai (by first|exact Up.zero|exact Up.step ‹_› ‹_› ‹_› (by rw[acP ‹_›];simp[*])) (cE rfl rfl rfl rfl)))|(apply bj 41;refine cF (afP _ _ _) ⟨rfl,rfl,rfl,trivial⟩ ?_)|(apply bj 87;refine cF (ahU _ _ _ _ _ _) ⟨⟨rfl,rfl,rfl,rfl,rfl,rfl,trivial⟩,trivial⟩ ?_)|(apply bj 88;refine cF (aiX _ _ _ _ (by first|assumption|exact eO ‹_› ‹_› | exact eV _ ‹_› | exact cq.abH (eV _ ‹_›)|exact cq.aeV (eV _ ‹_›)|exact cq.abC (eV _ ‹_›)) (by first|assumption|exact eO ‹_› ‹_› | exact eV _ ‹_› | exact cq.abH (eV _ ‹_›)|exact cq.aeV (eV _ ‹_›)|exact cq.abC (eV _ ‹_›))) ⟨fL (aA.enc _),rfl,rfl,rfl,trivial⟩ ?_))
theorem agN (a:aA)(ha:a.ok):Ct ae 42 [.agg (a.enc.map .t)] (aB0 (yg a)) [] true:=by
 obtain⟨r,hr,h⟩:=afN a ha;rw[hr] at h;exact h
end
section
open Go Cg Go.RowKit Go.Shelf
open Classical in
section
noncomputable def Mj (f:FuncId)(dH:List AV):Bool:=if h:∃ b,Ct ae f dH (aB0 b) [] true then h.choose else false
theorem zA {Φ:Bool->Prop}{f:FuncId}{dH:List AV}(h:∃ b,Φ b/\Ct ae f dH (aB0 b) [] true):Ct ae f dH (aB0 (Mj f dH)) [] true:=by
 obtain⟨b,_,hb⟩:=h;have h:∃ b,Ct ae f dH (aB0 b) [] true:=⟨b,hb⟩
 unfold Mj;rw[dif_pos h];exact h.choose_spec
open Classical in
noncomputable def UG (f:FuncId)(dH:List AV):ByteArray:=if h:∃ b,Ct ae f dH (AV.s b) [] true then h.choose else⟨#[]⟩
theorem Qy {Φ:ByteArray->Prop}{f:FuncId}{dH:List AV}(h:∃ b,Φ b/\Ct ae f dH (AV.s b) [] true):Ct ae f dH (AV.s (UG f dH)) [] true:=by
 obtain⟨b,_,hb⟩:=h;have h:∃ b,Ct ae f dH (AV.s b) [] true:=⟨b,hb⟩
 unfold UG;rw[dif_pos h];exact h.choose_spec
theorem Yn (a:List Int)(ha:a.length*8<=ba):∃ r:Bool,True/\Ct ae 92 [.c (.t (.sl 1 (a.map eI)))] (aB0 r) [] true:=by
 refine db (Φ:=fun _=>True) dc (cX Tryz.func92 rfl (by kernel_rfl) rfl (aBX [] [] ?_))
 repeat' (first|(apply Rh 0 8 ‹_› rfl (by omega) ‹_›;intro _)|(apply bY <;> intro _)|(apply bL;exact Ei [] (Ai rfl (Ai trivial rfl));exact(trivial);rfl)|(apply jf;(first|assumption|omega|(simp only[ak,dM,aq,aw];omega)|(simp only[Lm] at *;omega)|decide);(first|assumption|omega|(simp only[ak,dM,aq,aw];omega)|(simp only[Lm] at *;omega)|decide);intro _ _)|(apply eX 2 rfl;refine gP.at (α:=Int) 2 (fun i=>[(3,aBZ i)]) (fun i=>1<=i/\i<=17592186044416) (fun i=>(17592186044416 - i).toNat) [0] [] 200000 rfl ?_;refine Ai (Ei 1 (Ai ⟨by omega,by omega⟩ (cE rfl rfl rfl rfl))) (fun i hi=>aBX [] [] ?_))|exact Ei _ (Ai (Ai (by(simp only[ak,Lm] at *;unfold ba at ha;omega)) (by(simp only[ak,Lm] at *;unfold ba at ha;omega))) (cE rfl rfl rfl rfl)))
def uP:cz:=⟨0,⟨0,0,0,0,0,0,0,⟨#[]⟩,0,0,⟨0,0⟩,⟨0,0⟩,⟨0,0⟩⟩,[],⟨⟨0,0,0,0,0,0,0⟩,false,false,0⟩,false,⟨0,0,⟨0,0,0,0,0,0,0,⟨#[]⟩,0,0,⟨0,0⟩,⟨0,0⟩,⟨0,0⟩⟩⟩,false,[],[],⟨0,0,⟨0,0,0,0,0,0,0,⟨#[]⟩,0,0,⟨0,0⟩,⟨0,0⟩,⟨0,0⟩⟩,0,0,0,0⟩⟩
theorem Iy:uP.ok:=⟨⟨trivial,trivial,trivial⟩,aD _,fun _ h=>(by cases h),trivial,⟨trivial,trivial,trivial⟩,aD _,fun _ h=>(by cases h),aD _,fun _ h=>(by cases h),⟨trivial,trivial,trivial⟩⟩
theorem UF:∃ q:tp,(∀ a:cz,a.ok->Ct ae 84 [.agg (a.enc.map .t)] (aB0 (q.ab a)) [] true)/\(∀ a:cz,a.ok->Ct ae 159 [.agg (a.enc.map .t),.agg (uP.enc.map .t)] (aB0 (q.zero a)) [] true)/\(∀ l:List Int,l.length*8<=ba->Ct ae 92 [.c (.t (.sl 1 (l.map eI)))] (aB0 (q.set l)) [] true)/\∀ l:List eb,l.length*176<=ba->Ct ae 93 [.c (.t (.sl 20 (l.map eb.enc)))] (AV.s (q.txt l)) [] true:=
 ⟨⟨fun a=>Mj 84 [.agg (a.enc.map .t)],fun a=>Mj 159 [.agg (a.enc.map .t),.agg (uP.enc.map .t)],fun l=>Mj 92 [.c (.t (.sl 1 (l.map eI)))],fun l=>UG 93 [.c (.t (.sl 20 (l.map eb.enc)))]⟩,fun a ha=>zA (Yf a ha),fun a ha=>zA (PW a uP ha Iy),fun l hl=>zA (Yn l hl),fun l hl=>Qy (nk l hl)⟩
noncomputable def S1:tp:=Classical.choose UF
theorem akE (a:cz)(ha:a.ok):Ct ae 84 [.agg (a.enc.map .t)] (aB0 (S1.ab a)) [] true:=(Classical.choose_spec UF).1 a ha
theorem aiP (a:cz)(ha:a.ok):Ct ae 159 [.agg (a.enc.map .t),.agg (uP.enc.map .t)] (aB0 (S1.zero a)) [] true:=(Classical.choose_spec UF).2.1 a ha
theorem aiW (l:List Int)(hl:l.length*8<=ba):Ct ae 92 [.c (.t (.sl 1 (l.map eI)))] (aB0 (S1.set l)) [] true:=(Classical.choose_spec UF).2.2.1 l hl
theorem ajE (l:List eb)(hl:l.length*176<=ba):Ct ae 93 [.c (.t (.sl 20 (l.map eb.enc)))] (AV.s (S1.txt l)) [] true:=(Classical.choose_spec UF).2.2.2 l hl
theorem ahQ (a:aA)(b:fq)(ha:a.ok)(hb:b.ok)(hn:fz a.bE 1 1000000=true):∃ r:Bool,(r=(z6 S1 a b))/\Ct ae 91 [.agg (a.enc.map .t),.agg (b.enc.map .t)] (aB0 r) [] true:=by
 have CH:=ha;obtain⟨S8,S7,S6,S5,UX,Yz,Yy,Yx,Yw,Yv,U0,UZ,UY⟩:=CH;have Rz:=hb;obtain⟨ob0,ob1,ob2,ob3⟩:=Rz;refine db (Φ:=fun (r:Bool)=>r=(z6 S1 a b)) dc (cX Tryz.func91 rfl (by kernel_rfl) rfl (aBX [] [] ?_))
 repeat' (first|(apply bj 159;refine cF (aiP _ (by first|assumption|exact eO ‹_› ‹_› | exact eV _ ‹_›)) ⟨fL (cz.enc _),(by repeat' first|refine Ai ?_ ?_|exact rfl|exact⟨⟩|exact Ei _ rfl|refine aj ?_|refine bS ?_),trivial⟩ ?_)|(apply bY <;> intro _)|apply cy|(apply cS <;> intro _)|(apply bL;exact Ei [] (Ai rfl (Ai trivial rfl));exact(by(try simp only[Lm,amH hn] at *);simp[z6, *]);rfl)|(apply bj 41;refine cF (afP _ _ _) ⟨rfl,rfl,rfl,trivial⟩ ?_)|(apply bj 43;refine cF (abM _ _ (by first|assumption|exact eO ‹_› ‹_› | exact eV _ ‹_›)) ⟨fL (aA.enc _),rfl,trivial⟩ ?_)|(apply bj 152;refine cF (adX _ _ (by first|assumption|exact eO ‹_› ‹_› | exact eV _ ‹_›)) ⟨fL (aA.enc _),rfl,trivial⟩ ?_)|(apply bj 84;refine cF (akE _ (by first|assumption|exact eO ‹_› ‹_› | exact eV _ ‹_›)) ⟨fL (cz.enc _),trivial⟩ ?_))
theorem aiY (a:aA)(b:fq)(ha:a.ok)(hb:b.ok)(hn:fz a.bE 1 1000000=true):Ct ae 91 [.agg (a.enc.map .t),.agg (b.enc.map .t)] (aB0 (z6 S1 a b)) [] true:=by
 obtain⟨r,hr,h⟩:=ahQ a b ha hb hn;rw[hr] at h;exact h
theorem ahE (a:aA)(ha:a.ok)(hn:fz a.bE 1 1000000=true):∃ r:Bool,(r=(Gn S1 a))/\Ct ae 45 [.agg (a.enc.map .t)] (aB0 r) [] true:=by
 have CH:=ha;obtain⟨S8,S7,S6,S5,UX,Yz,Yy,Yx,Yw,Yv,U0,UZ,UY⟩:=CH;refine db (Φ:=fun (r:Bool)=>r=(Gn S1 a)) dc (cX Tryz.func45 rfl (by kernel_rfl) rfl (aBX [] [] ?_))
 repeat' (first|(apply Ri;(first|assumption|omega|(simp only[ak,dM,aq,aw];omega)|(simp only[Lm] at *;omega)|decide);(first|assumption|omega|(simp only[ak,dM,aq,aw];omega)|(simp only[Lm] at *;omega)|decide);intro _)|(apply bY <;> intro _)|(apply dx <;> intro _)|apply cy|(apply cS <;> intro _)|(apply bL;exact Ei [] (Ai rfl (Ai trivial rfl));exact(by first|exact agH (f:=fq.enc) (g:=bW.enc) (c:=iS.enc) (.inl ‹_›)|exact agH (f:=fq.enc) (g:=bW.enc) (c:=iS.enc) (.inr (.inl ‹_›))|exact agH (f:=fq.enc) (g:=bW.enc) (c:=iS.enc) (.inr (.inr ‹_›))|exact akJ ‹_› (by first|exact ajO ‹_› | exact ajN ‹_› ‹_› ‹_› ‹_›)|exact akI ‹_› (by(try simp only[Lm] at *);simp[u6, *])|exact akG ‹_› (by first|exact adD ‹_› ‹_› ‹_› ‹_› ‹_› | exact afF ‹_› | exact afD ‹_› | exact afB ‹_› | exact afA ‹_› | exact aeZ ‹_›)|exact aiS ‹_› ‹_› ‹_› ‹_› ‹_› ‹_› ‹_› ‹_› ‹_›);rfl)|(apply eX 4 rfl;refine gP.up (β:=Unit) 4 3 ((((a.stack.map fq.enc).length:Nat):Int)) (by first|omega|exact gV (by first|assumption|exact eO ‹_› ‹_› | exact eV _ ‹_› | exact bW.aaM (eV _ ‹_›)|exact iS.vE (eV _ ‹_›)|exact iS.aaR (eV _ ‹_›)) rfl) (by omega) (fun _=>[]) (fun i _=>Up (z7 S1 a) a.stack i) [1] [0] 200000 rfl ?_;refine Ai ?_ (fun _ _ _ _ _=>aBX [] [] ?_))|(apply eX 9 rfl;rename_i i _ _ _ _ hi hl _;refine gP.up (β:=Unit) 9 4 (i) (by(simp only[Lm] at *;have:=Yy;unfold ba at this;omega)) ‹_› (fun _=>[]) (fun k _=>Up (fun _ (y:fq)=>!(y.id==a.stack[i.toNat].id)) a.stack k) [1,3] [0] 300000 rfl ?_;refine Ai ?_ (fun _ _ _ _ _=>aBX [] [] ?_))|(apply eX 14 rfl;refine gP.up (β:=Unit) 14 5 ((((a.aaJ.map bW.enc).length:Nat):Int)) (by first|omega|exact gV (by first|assumption|exact eO ‹_› ‹_› | exact eV _ ‹_› | exact bW.aaM (eV _ ‹_›)|exact iS.vE (eV _ ‹_›)|exact iS.aaR (eV _ ‹_›)) rfl) (by omega) (fun _=>[]) (fun i _=>Up (fun _=>u6 S1 a) a.aaJ i) [1] [0] 400000 rfl ?_;refine Ai ?_ (fun _ _ _ _ _=>aBX [] [] ?_))|(apply eX 20 rfl;refine gP.up (β:=Unit) 20 7 ((((a.dG.map iS.enc).length:Nat):Int)) (by first|omega|exact gV (by first|assumption|exact eO ‹_› ‹_› | exact eV _ ‹_› | exact bW.aaM (eV _ ‹_›)|exact iS.vE (eV _ ‹_›)|exact iS.aaR (eV _ ‹_›)) rfl) (by omega) (fun _=>[]) (fun i _=>Up (fun _=>wK S1 a) a.dG i) [1] [0] 500000 rfl ?_;refine Ai ?_ (fun _ _ _ _ _=>aBX [] [] ?_))|exact Ei () (Ai (by first|exact Up.zero|exact Up.step ‹_› ‹_› ‹_› (afV ‹_› ‹_› ‹_› ‹_›)|exact Up.step ‹_› ‹_› ‹_› (by simp[*])|exact Up.step ‹_› ‹_› ‹_› (by(try simp only[Lm] at *);simp[u6, *])|exact Up.step ‹_› ‹_› ‹_› (by first|exact adD ‹_› ‹_› ‹_› ‹_› ‹_› | exact afF ‹_› | exact afD ‹_› | exact afB ‹_› | exact afA ‹_› | exact aeZ ‹_›)) (cE rfl rfl rfl rfl))|exact Ai (by first|assumption|omega) (Ei () (Ai (by first|exact Up.zero|exact Up.step ‹_› ‹_› ‹_› (afV ‹_› ‹_› ‹_› ‹_›)|exact Up.step ‹_› ‹_› ‹_› (by simp[*])|exact Up.step ‹_› ‹_› ‹_› (by(try simp only[Lm] at *);simp[u6, *])|exact Up.step ‹_› ‹_› ‹_› (by first|exact adD ‹_› ‹_› ‹_› ‹_› ‹_› | exact afF ‹_› | exact afD ‹_› | exact afB ‹_› | exact afA ‹_› | exact aeZ ‹_›)) (cE rfl rfl rfl rfl)))|(apply bj 91;refine cF (aiY _ _ (by first|assumption|exact eO ‹_› ‹_› | exact eV _ ‹_› | exact bW.aaM (eV _ ‹_›)|exact iS.vE (eV _ ‹_›)|exact iS.aaR (eV _ ‹_›)) (by first|assumption|exact eO ‹_› ‹_› | exact eV _ ‹_› | exact bW.aaM (eV _ ‹_›)|exact iS.vE (eV _ ‹_›)|exact iS.aaR (eV _ ‹_›)) (by first|assumption|omega|(simp only[ak,dM,aq,aw];omega)|(simp only[Lm] at *;omega)|decide)) ⟨fL (aA.enc _),fL (fq.enc _),trivial⟩ ?_)|(apply bj 43;refine cF (abM _ _ (by first|assumption|exact eO ‹_› ‹_› | exact eV _ ‹_› | exact bW.aaM (eV _ ‹_›)|exact iS.vE (eV _ ‹_›)|exact iS.aaR (eV _ ‹_›))) ⟨fL (aA.enc _),rfl,trivial⟩ ?_)|(apply bj 84;refine cF (akE _ (by first|assumption|exact eO ‹_› ‹_› | exact eV _ ‹_› | exact bW.aaM (eV _ ‹_›)|exact iS.vE (eV _ ‹_›)|exact iS.aaR (eV _ ‹_›))) ⟨fL (cz.enc _),trivial⟩ ?_)|(apply bj 41;refine cF (afP _ _ _) ⟨rfl,rfl,rfl,trivial⟩ ?_)|(apply bj 92;refine cF (aiW _ (by first|assumption|exact eO ‹_› ‹_› | exact eV _ ‹_› | exact bW.aaM (eV _ ‹_›)|exact iS.vE (eV _ ‹_›)|exact iS.aaR (eV _ ‹_›))) ⟨rfl,trivial⟩ ?_)|(apply bj 93;refine cF (ajE _ (by first|assumption|exact eO ‹_› ‹_› | exact eV _ ‹_› | exact bW.aaM (eV _ ‹_›)|exact iS.vE (eV _ ‹_›)|exact iS.aaR (eV _ ‹_›))) ⟨rfl,trivial⟩ ?_))
theorem ahO (a:aA)(ha:a.ok)(hn:fz a.bE 1 1000000=true):Ct ae 45 [.agg (a.enc.map .t)] (aB0 (Gn S1 a)) [] true:=by
 obtain⟨r,hr,h⟩:=ahE a ha hn;rw[hr] at h;exact h
end
end
section
open Go Cg Go.RowKit Go.Shelf
theorem abN (a:bX)(ha:a.ok):∃ r:Bool,True/\Ct ae 83 [.agg (a.enc.map .t)] (aB0 r) [] true:=by
 have CH:=ha;obtain⟨S8,S7,S6,S5⟩:=CH;refine db (Φ:=fun _=>True) dc (cX Tryz.func83 rfl (by kernel_rfl) rfl (aBX [] [] ?_))
 repeat' (first|(apply bL;exact Ei [] (Ai rfl (Ai trivial rfl));exact(trivial);rfl))
theorem ahA (a:bX)(ha:a.ok):∃ r:Bool,True/\Ct ae 85 [.agg (a.enc.map .t)] (aB0 r) [] true:=by
 have CH:=ha;obtain⟨S8,S7,S6,S5⟩:=CH;refine db (Φ:=fun _=>True) dc (cX Tryz.func85 rfl (by kernel_rfl) rfl (aBX [] [] ?_))
 repeat' (first|(apply bY <;> intro _)|(apply bL;exact Ei [] (Ai rfl (Ai trivial rfl));exact(trivial);rfl))
theorem amM (a:bX)(ha:a.ok):∃ r:Bool,True/\Ct ae 38 [.agg (a.enc.map .t)] (aB0 r) [] true:=by
 have CH:=ha;obtain⟨S8,S7,S6,S5⟩:=CH;refine db (Φ:=fun _=>True) dc (cX Tryz.func38 rfl (by kernel_rfl) rfl (aBX [] [1002,3,1004,5,8] ?_))
 repeat' (first|(apply bY <;> intro _)|(apply dx <;> intro _)|apply cy|(apply cS <;> intro _)|(apply bL;exact Ei [] (Ai rfl (Ai trivial rfl));exact(trivial);rfl)|(apply ee 1002 rfl;refine aB3 (α:=Bool) 1002 (fun p=>[(36,aB0 p)]) (fun _=>True) [1] [0] 200000 rfl ?_;refine Ai (aBX [] [1002,3,1004,5,8] ?_) (fun _ _=>aBX [] [1002,3,1004,5,8] ?_))|(apply ee 3 rfl;refine aB3 (α:=Unit) 3 (fun _=>[]) (fun _=>True) [1] [0] 300000 rfl ?_;refine Ai (aBX [] [1002,3,1004,5,8] ?_) (fun _ _=>aBX [] [1002,3,1004,5,8] ?_))|(apply ee 1004 rfl;refine aB3 (α:=Bool) 1004 (fun p=>[(75,aB0 p)]) (fun _=>True) [1] [0] 400000 rfl ?_;refine Ai (aBX [] [1002,3,1004,5,8] ?_) (fun _ _=>aBX [] [1002,3,1004,5,8] ?_))|(apply ee 5 rfl;refine aB3 (α:=Unit) 5 (fun _=>[]) (fun _=>True) [1] [0] 500000 rfl ?_;refine Ai (aBX [] [1002,3,1004,5,8] ?_) (fun _ _=>aBX [] [1002,3,1004,5,8] ?_))|(apply ee 8 rfl;refine aB3 (α:=Int) 8 (fun p=>[(3,aBZ p)]) (fun _=>True) [1,4] [0] 600000 rfl ?_;refine Ai (aBX [] [1002,3,1004,5,8] ?_) (fun _ _=>aBX [] [1002,3,1004,5,8] ?_))|(apply eX 7 rfl;refine gP.up (β:=Int) 7 4 ((((a.aT.map cz.enc).length:Nat):Int)) (by first|omega|exact gV (by first|assumption|exact eO ‹_› ‹_› | exact eV _ ‹_›) rfl) (by omega) (fun p=>[(3,aBZ p)]) (fun _ _=>True) [1] [0] 700000 rfl ?_;refine Ai ?_ (fun _ _ _ _ _=>aBX [] [1002,3,1004,5,8] ?_))|exact Ei () (Ai (trivial) (cE rfl rfl rfl rfl))|exact Ei _ (Ai (trivial) (cE rfl rfl rfl rfl))|exact Ai (by first|assumption|omega) (Ei _ (Ai (trivial) (cE rfl rfl rfl rfl)))|(apply jf;(first|assumption|omega|(simp only[ak,dM,aq,aw];omega)|(simp only[Lm] at *;omega)|decide);(first|assumption|omega|(simp only[ak,dM,aq,aw];omega)|(simp only[Lm] at *;omega)|decide);intro _ _)|(apply bj 79;refine cY (SX _) ⟨rfl,trivial⟩ (fun _ _=>?_))|(apply bj 80;refine cY (SW _) ⟨fL (eB.enc _),trivial⟩ (fun _ _=>?_))|(apply bj 81;refine cY (ajV _ (by first|assumption|exact eO ‹_› ‹_› | exact eV _ ‹_›)) ⟨fL (jv.enc _),trivial⟩ (fun _ _=>?_))|(apply bj 82;refine cY (Yl _) ⟨rfl,trivial⟩ (fun _ _=>?_))|(apply bj 83;refine cY (abN _ (by first|assumption|exact eO ‹_› ‹_› | exact eV _ ‹_›)) ⟨fL (bX.enc _),trivial⟩ (fun _ _=>?_))|(apply bj 84;refine cY (Yf _ (by first|assumption|exact eO ‹_› ‹_› | exact eV _ ‹_›)) ⟨fL (cz.enc _),trivial⟩ (fun _ _=>?_))|(apply bj 85;refine cY (ahA _ (by first|assumption|exact eO ‹_› ‹_› | exact eV _ ‹_›)) ⟨fL (bX.enc _),trivial⟩ (fun _ _=>?_)))
theorem agX (a:List bX)(b:ByteArray)(ha:a.length*176<=ba)(_ma:∀ y∈a,bX.ok y):∃ r:Int,True/\Ct ae 39 [.c (.t (.sl 17 (a.map bX.enc))),AV.s b] (aBZ r) [] true:=by
 refine db (Φ:=fun _=>True) lF (cX Tryz.func39 rfl (by kernel_rfl) rfl (aBX [] [] ?_))
 repeat' (first|(apply bY <;> intro _)|(apply cS <;> intro _)|(apply bL;exact Ei [] (Ai rfl (Ai trivial rfl));exact(trivial);rfl)|(apply eX 2 rfl;refine gP.up (β:=Unit) 2 5 ((((a.map bX.enc).length:Nat):Int)) (by first|omega|exact gV (by first|assumption|exact eO ‹_› ‹_› | exact eV _ ‹_›) rfl) (by omega) (fun _=>[]) (fun _ _=>True) [0,1] [] 200000 rfl ?_;refine Ai ?_ (fun _ _ _ _ _=>aBX [] [] ?_))|exact Ei () (Ai (trivial) (cE rfl rfl rfl rfl))|exact Ai (by first|assumption|omega) (Ei () (Ai (trivial) (cE rfl rfl rfl rfl)))|(apply jf;(first|assumption|omega|(simp only[ak,dM,aq,aw];omega)|(simp only[Lm] at *;omega)|decide);(first|assumption|omega|(simp only[ak,dM,aq,aw];omega)|(simp only[Lm] at *;omega)|decide);intro _ _))
theorem ahT (a:List bX)(b:ByteArray)(ha:a.length*176<=ba)(_ma:∀ y∈a,bX.ok y):∃ r:Bool,True/\Ct ae 86 [.c (.t (.sl 17 (a.map bX.enc))),AV.s b] (aB0 r) [] true:=by
 refine db (Φ:=fun _=>True) dc (cX Tryz.func86 rfl (by kernel_rfl) rfl (aBX [] [] ?_))
 repeat' (first|(apply bY <;> intro _)|(apply cS <;> intro _)|(apply bL;exact Ei [] (Ai rfl (Ai trivial rfl));exact(trivial);rfl)|(apply eX 2 rfl;refine gP.up (β:=Unit) 2 5 ((((a.map bX.enc).length:Nat):Int)) (by first|omega|exact gV (by first|assumption|exact eO ‹_› ‹_› | exact eV _ ‹_›) rfl) (by omega) (fun _=>[]) (fun _ _=>True) [0,1] [] 200000 rfl ?_;refine Ai ?_ (fun _ _ _ _ _=>aBX [] [] ?_))|exact Ei () (Ai (trivial) (cE rfl rfl rfl rfl))|exact Ai (by first|assumption|omega) (Ei () (Ai (trivial) (cE rfl rfl rfl rfl)))|(apply jf;(first|assumption|omega|(simp only[ak,dM,aq,aw];omega)|(simp only[Lm] at *;omega)|decide);(first|assumption|omega|(simp only[ak,dM,aq,aw];omega)|(simp only[Lm] at *;omega)|decide);intro _ _))
theorem acO (a:List bX)(b:bX)(ha:a.length*176<=ba)(ma:∀ y∈a,bX.ok y)(hb:b.ok):∃ r:Bool,True/\Ct ae 40 [.c (.t (.sl 17 (a.map bX.enc))),.agg (b.enc.map .t)] (aB0 r) [] true:=by
 have Rz:=hb;obtain⟨ob0,ob1,ob2,ob3⟩:=Rz;refine db (Φ:=fun _=>True) dc (cX Tryz.func40 rfl (by kernel_rfl) rfl (aBX [] [] ?_))
 repeat' (first|(apply Ri;(first|assumption|omega|(simp only[ak,dM,aq,aw];omega)|(simp only[Lm] at *;omega)|decide);(first|assumption|omega|(simp only[ak,dM,aq,aw];omega)|(simp only[Lm] at *;omega)|decide);intro _)|(apply bY <;> intro _)|apply cy|(apply cS <;> intro _)|(apply bL;exact Ei [] (Ai rfl (Ai trivial rfl));exact(trivial);rfl)|(apply eX 2 rfl;refine gP.up (β:=Unit) 2 5 ((((b.aT.map cz.enc).length:Nat):Int)) (by first|omega|exact gV (by first|assumption|exact eO ‹_› ‹_› | exact eV _ ‹_› | exact cz.abD (eV _ ‹_›)) rfl) (by omega) (fun _=>[]) (fun _ _=>True) [0,3] [0] 200000 rfl ?_;refine Ai ?_ (fun _ _ _ _ _=>aBX [] [] ?_))|(apply eX 5 rfl;rename_i i _ _ _ _ hi;(have hk:i.toNat < b.aT.length:=by(simp only[Lm] at *;omega));refine gP.up (β:=Unit) 5 6 ((((b.aT[i.toNat].dm.map cZ.enc).length:Nat):Int)) (by first|omega|exact gV (by first|assumption|exact eO ‹_› ‹_› | exact eV _ ‹_› | exact cz.abD (eV _ ‹_›)) rfl) (by omega) (fun _=>[]) (fun _ _=>True) [0,3,5] [0] 300000 rfl ?_;refine Ai ?_ (fun _ _ _ _ _=>aBX [] [] ?_))|exact Ei () (Ai (trivial) (cE rfl rfl rfl rfl))|exact Ai (by first|assumption|omega) (Ei () (Ai (trivial) (cE rfl rfl rfl rfl)))|(apply bj 86;refine cY (ahT _ _ (by first|assumption|exact eO ‹_› ‹_› | exact eV _ ‹_› | exact cz.abD (eV _ ‹_›)) (by first|assumption|exact eO ‹_› ‹_› | exact eV _ ‹_› | exact cz.abD (eV _ ‹_›))) ⟨rfl,rfl,trivial⟩ (fun _ _=>?_)))
theorem akK (a:List bX)(b:aA)(ha:a.length*176<=ba)(ma:∀ y∈a,bX.ok y)(hb:b.ok):∃ r:Bool,(r=(kh S1 ((a.length:Nat):Int) b))/\Ct ae 20 [.c (.t (.sl 17 (a.map bX.enc))),.agg (b.enc.map .t)] (aB0 r) [] true:=by
 have Rz:=hb;obtain⟨ob0,ob1,ob2,ob3,ob4,ob5,ob6,ob7,ob8,ob9,amC,amB,amA⟩:=Rz;refine db (Φ:=fun (r:Bool)=>r=(kh S1 ((a.length:Nat):Int) b)) dc (cX Tryz.func20 rfl (by kernel_rfl) rfl (aBX [] [] ?_))
 repeat' (first|(apply Ri;(first|assumption|omega|(simp only[ak,dM,aq,aw];omega)|(simp only[Lm] at *;omega)|decide);(first|assumption|omega|(simp only[ak,dM,aq,aw];omega)|(simp only[Lm] at *;omega)|decide);intro _)|(apply bY <;> intro _)|(apply dx <;> intro _)|apply cy|(apply cS <;> intro _)|(apply bL;exact Ei [] (Ai rfl (Ai trivial rfl));exact(by first|contradiction|exact amW ‹_› ‹_› | exact amV (by first|exact alF ‹_› ‹_› | exact alE ‹_› ‹_›)|exact alB (anA ‹_› ‹_› ‹_› ‹_› ‹_›) (amZ ‹_› ‹_› ‹_› ‹_› ‹_› ‹_›) ‹_› ‹_› (by first|exact alD ‹_› ‹_› | exact alC ‹_› ‹_›) (by simp[*])|exact amY (by first|exact alR ‹_› | exact alQ ‹_› | exact alP ‹_› | exact alO ‹_› | exact alN ‹_›)|exact amX (by first|exact alL ‹_› | exact alK ‹_› | exact alJ ‹_› | exact alI ‹_› | exact alH ‹_› | exact alG ‹_›));rfl)|(apply eX 6 rfl;refine gP.up (β:=Unit) 6 5 ((((b.extra.map eI).length:Nat):Int)) (by first|omega|exact gV (by first|assumption|exact eO ‹_› ‹_› | exact eV _ ‹_›) rfl) (by omega) (fun _=>[]) (fun i _=>Up (fun _=>DO b) b.extra i) [0,3] [0] 200000 rfl ?_;refine Ai ?_ (fun _ _ _ _ _=>aBX [] [] ?_))|exact Ei () (Ai (by first|exact Up.zero|exact Up.step ‹_› ‹_› ‹_› (by simp[*])) (cE rfl rfl rfl rfl))|exact Ai (by first|assumption|omega) (Ei () (Ai (by first|exact Up.zero|exact Up.step ‹_› ‹_› ‹_› (by simp[*])) (cE rfl rfl rfl rfl)))|(apply bj 41;refine cF (afP _ _ _) ⟨rfl,rfl,rfl,trivial⟩ ?_)|(apply bj 42;refine cF (agN _ (by first|assumption|exact eO ‹_› ‹_› | exact eV _ ‹_›)) ⟨fL (aA.enc _),trivial⟩ ?_)|(apply bj 43;refine cF (abM _ _ (by first|assumption|exact eO ‹_› ‹_› | exact eV _ ‹_›)) ⟨fL (aA.enc _),rfl,trivial⟩ ?_)|(apply bj 44;refine cF (agS _ _ (by first|assumption|exact eO ‹_› ‹_› | exact eV _ ‹_›) (by first|assumption|exact eO ‹_› ‹_› | exact eV _ ‹_›) (by first|assumption|exact eO ‹_› ‹_› | exact eV _ ‹_›)) ⟨rfl,fL (aA.enc _),trivial⟩ ?_)|(apply bj 45;refine cF (ahO _ ‹_› ‹_›) ⟨fL (aA.enc _),trivial⟩ ?_))
theorem amK (a:List bX)(b:aA)(ha:a.length*176<=ba)(ma:∀ y∈a,bX.ok y)(hb:b.ok):Ct ae 20 [.c (.t (.sl 17 (a.map bX.enc))),.agg (b.enc.map .t)] (aB0 (kh S1 ((a.length:Nat):Int) b)) [] true:=by
 obtain⟨r,hr,h⟩:=akK a b ha ma hb;rw[hr] at h;exact h
end
end Go.Proofs.YtbmdcnkidjlbbaaGreat
namespace Cg
section
open Go
section
theorem qo {n a b:Int}:fz n a b=true↔a<=n/\n<=b:=by
 unfold fz;rw[ag,decide_eq_true_eq,decide_eq_true_eq]
theorem Bf {l:List aE}(hs:l.Pairwise fun a b=>a.id < b.id){a b:aE}(ha:a∈l)(hb:b∈l)(e:a.id=b.id):a=b:=by
 obtain⟨i,hi,rfl⟩:=bB.1 ha;obtain⟨j,hj,rfl⟩:=bB.1 hb;have hp:=cu.1 hs;rcases Nat.lt_trichotomy i j with h|h|h
 ·have:=hp i j hi hj h;omega
 ·subst h;rfl
 ·have:=hp j i hj hi h;omega
theorem js {l:List aE}{id:Int}:er l id=true↔∃ o∈l,o.id=id:=by
 unfold er;rw[List.find?_isSome];simp
theorem fV {l:List aE}{id:Int}(h:er l id=true):b9 l id∈l/\(b9 l id).id=id:=by
 unfold er at h;unfold b9
 cases hf:l.find? fun o=>o.id==id with
 | none=>rw[hf] at h;cases h
 | some o=>exact⟨List.mem_of_find?_eq_some hf,by simpa using List.find?_some hf⟩
theorem wC {l:List aE}{o:aE}(hs:l.Pairwise fun a b=>a.id < b.id)(ho:o∈l):b9 l o.id=o:=
 have h:=fV (js.2 ⟨o,ho,rfl⟩)
 Bf hs h.1 ho h.2
def Uh (s:aA):Bool:=fz s.D8 0 500&&(fz s.step 0 10&&(DO s s.w7&&(DO s s.priority&&(fz s.vA 0 s.az.length&&(!decide ((s.extra.length:Int) > 500)&&(fz s.BT 0 2&&(s.extra.all (DO s)&&AX s)))))))
def nt (p:cq):Bool:=fz p.je (-1000000) 1000000&&(fz p.kH 0 1000000&&(fz p.Cm 0 1000000&&DZ p.ye p.yd p.yc p.yb p.ya p.x9))
def Hg (q:tp)(s:aA)(x:fq):Prop:=(1<=x.id/\x.id < s.bE)/\(fz x.x 0 1000000=true/\(x.targets.length:Int)<=4/\DO s x.aaB=true)/\
 (x.kind=1/\x.fp=x.id/\(∃ o∈s.aa,o.id=x.id/\o.cg=5)/\(q.zero x.ai||q.ab x.ai)=true\/x.kind=2/\(∀ o∈s.aa,o.id≠x.id)/\q.ab x.ai=true)
structure jE (q:tp)(c:Int)(s:aA):Prop where
 GX:1<=s.bE/\s.bE<=1000001
 iE:1<=s.bQ/\s.bQ<=1000001
 ER:(s.aa.length:Int)<=2048
 YA:2<=(s.az.length:Int)/\(s.az.length:Int)<=4
 sc:Uh s=true
 W8:∀ p∈s.az,nt p=true
 qN:s.aa.Pairwise fun a b=>a.id < b.id
 obj:∀ o∈s.aa,sW o c s.az.length=true/\o.id < s.bE/\o.du < s.bQ
 QZ:∀ z p id,id∈bR s z p->∃ o∈s.aa,o.id=id/\o.cg=z/\(z=0\/z=4\/o.fG=p)
 W9:∀ z p,(bR s z p).Nodup
 plc:∀ o∈s.aa,o.cg≠5->o.id∈bR s o.cg o.fG
 Qu:∀ o∈s.aa,o.cg=5->∃ x∈s.stack,x.kind=1/\x.id=o.id
 Ms:(s.stack.length:Int)<=64
 Pt:s.stack.Pairwise fun a b=>a.id≠b.id
 itm:∀ x∈s.stack,Hg q s x
 wt:(s.aaJ.length:Int)<=64/\∀ w∈s.aaJ,u6 q s w=true
 Wx:(s.dG.length:Int)<=64/\∀ k∈s.dG,wK q s k=true
theorem Fe {s:aA}{z w:Int}{l:List Int}:iL s z w l=true↔∀ id∈l,(er s.aa id=true/\(b9 s.aa id).cg=z/\(0<=w->(b9 s.aa id).fG=w))/\l.count id=1:=by
 unfold iL aaT;rw[aN];refine⟨fun h id hid=>?_,fun h id hid=>?_⟩
 ·have:=h id hid;simp only[ag,cm,cb,decide_eq_false_iff_not,beq_iff_eq] at this;obtain⟨h1,h2,h3,h4⟩:=this;exact⟨⟨h1,h2,fun hw=>h3.resolve_left fun h=>h hw⟩,by omega⟩
 ·obtain⟨⟨h1,h2,h3⟩,h4⟩:=h id hid;simp only[ag,cm,cb,decide_eq_false_iff_not,beq_iff_eq];refine⟨h1,h2,?_,by omega⟩
  by_cases hw:0<=w
  ·exact .inr (h3 hw)
  ·exact .inl hw
theorem Mt {l:List Int}(h:∀ a∈l,l.count a=1):l.Nodup:=List.nodup_iff_count.2 fun a=>by
 by_cases ha:a∈l
 ·rw[h a ha];exact al 1
 ·rw[List.count_eq_zero.2 ha];exact aD 1
theorem C9 {l:List Int}(h:l.Nodup){a:Int}(ha:a∈l):l.count a=1:=by
 rw[h.count,if_pos ha]
theorem lG {s:aA}{z w p:Int}{l:List Int}(hs:s.aa.Pairwise fun a b=>a.id < b.id)(hw:0<=w↔¬ (z=0\/z=4))(hp:0<=w->w=p) :
  iL s z w l=true↔(∀ id∈l,∃ o∈s.aa,o.id=id/\o.cg=z/\(z=0\/z=4\/o.fG=p))/\l.Nodup:=by
 rw[Fe];refine⟨fun h=>⟨fun id hid=>?_,Mt fun a ha=>(h a ha).2⟩,fun ⟨h1,h2⟩ id hid=>?_⟩
 ·obtain⟨⟨h1,h2,h3⟩,_⟩:=h id hid;obtain⟨h4,h5⟩:=fV h1;refine⟨_,h4,h5,h2,?_⟩
  by_cases h0:0<=w
  ·exact .inr (.inr ((h3 h0).trans (hp h0)))
  ·have:=Classical.not_not.1 (fun h=>h0 (hw.2 h));rcases this with h|h
   ·exact .inl h
   ·exact .inr (.inl h)
 ·obtain⟨o,ho,rfl,rfl,h3⟩:=h1 id hid;rw[wC hs ho];refine⟨⟨js.2 ⟨o,ho,rfl⟩,rfl,fun h0=>?_⟩,C9 h2 hid⟩;have:=hw.1 h0;rw[hp h0];rcases h3 with h|h|h
  ·exact absurd (.inl h) this
  ·exact absurd (.inr h) this
  ·exact h
theorem s7 (s:aA)(z p:Int):bR s z p=[]\/z=0/\bR s z p=s.bw\/z=4/\bR s z p=s.gn\/∃ (i:Nat) (h:i < s.az.length),p=i/\(z=1/\bR s z p=s.az[i].hand\/z=2/\bR s z p=s.az[i].cW\/z=3/\bR s z p=s.az[i].dI):=by
 unfold bR;split
 ·rename_i h;exact .inr (.inl ⟨by simpa using h,rfl⟩)
 split
 ·rename_i h;exact .inr (.inr (.inl ⟨by simpa using h,rfl⟩))
 split
 ·exact .inl rfl
 rename_i hp;split
 ·rename_i x hx;obtain⟨hi,rfl⟩:=an.1 hx;have hpi:p=((p.toNat:Nat):Int):=by omega
  split
  ·rename_i h;exact .inr (.inr (.inr ⟨p.toNat,hi,hpi,.inl ⟨by simpa using h,rfl⟩⟩))
  split
  ·rename_i h;exact .inr (.inr (.inr ⟨p.toNat,hi,hpi,.inr (.inl ⟨by simpa using h,rfl⟩)⟩))
  split
  ·rename_i h;exact .inr (.inr (.inr ⟨p.toNat,hi,hpi,.inr (.inr ⟨by simpa using h,rfl⟩)⟩))
  ·exact .inl rfl
 ·exact .inl rfl
section
variable {s:aA}{i:Nat}
theorem kg (p:Int):bR s 0 p=s.bw:=by unfold bR;rfl
theorem lH (p:Int):bR s 4 p=s.gn:=by unfold bR;rfl
theorem MQ (h:i < s.az.length):bR s 1 i=s.az[i].hand:=by
 unfold bR;rw[if_neg (by decide),if_neg (by decide),if_neg (by omega)];simp[h]
theorem Cc (h:i < s.az.length):bR s 2 i=s.az[i].cW:=by
 unfold bR;rw[if_neg (by decide),if_neg (by decide),if_neg (by omega)];simp[h]
theorem MR (h:i < s.az.length):bR s 3 i=s.az[i].dI:=by
 unfold bR;rw[if_neg (by decide),if_neg (by decide),if_neg (by omega)];simp[h]
end
theorem IF {cards:Int}{s:aA}(h:allI (GS cards s) 0 s.aa=true):s.aa.Pairwise fun a b=>a.id < b.id:=by
 have h:=nM.1 h
 have step:∀ (j:Nat) (hj:j+1 < s.aa.length),(s.aa[j]'(by omega)).id < s.aa[j+1].id:=fun j hj=>by
  have:=h (j+1) hj;unfold GS at this;simp only[ag,cm,cb,decide_eq_false_iff_not,bu] at this;obtain⟨_,_,_,h4,_⟩:=this;rcases h4 with h4|h4
  ·exact absurd (show(((j+1:Nat):Int)) > 0 by omega) h4
  ·rw[Nat.add_sub_cancel,List.getD_eq_getElem?_getD,cD (by omega:j < s.aa.length)] at h4;simpa using h4
 refine cu.2 fun a b ha hb Wc=>?_;obtain⟨d,rfl⟩:∃ d,b=a+1+d:=⟨b - (a+1),by omega⟩
 clear Wc
 induction d with
 | zero=>exact step a hb
 | succ d ih=>exact Int.lt_trans (ih (by omega)) (step (a+1+d) hb)
theorem Ef {l:List fq}{id:Int}{x:fq}(h1:x.kind=1)(h2:x.id=id):(l.Pairwise fun a b=>a.id≠b.id)->x∈l->l.countP (fun x=>x.kind==1&&x.id==id)=1:=by
 intro hs hx
 induction l with
 | nil=>cases hx
 | cons y l ih=>
  rw[List.pairwise_cons] at hs;rcases List.mem_cons.1 hx with e|hx
  ·subst e;rw[List.countP_cons_of_pos (by simp[h1,h2]),List.countP_eq_zero.2];intro z hz;have:=hs.1 z hz;rw[h2] at this;simpa using fun _ e=>this (Eq.symm e)
  ·rw[List.countP_cons_of_neg,ih hs.2 hx];have:=hs.1 x hx;rw[h2] at this;simp[this]
theorem xP {l:List fq}{id:Int}(hs:l.Pairwise fun a b=>a.id≠b.id):l.countP (fun x=>x.kind==1&&x.id==id)=1↔∃ x∈l,x.kind=1/\x.id=id:=by
 refine⟨fun h=>?_,fun ⟨x,hx,h1,h2⟩=>Ef h1 h2 hs hx⟩;obtain⟨x,hx,hp⟩:=List.countP_pos_iff.1 (show 0 < l.countP (fun x=>x.kind==1&&x.id==id) by omega);exact⟨x,hx,by simpa using hp⟩
theorem Nf {q:tp}{s:aA}(h:allI (z7 q s) 0 s.stack=true):(s.stack.Pairwise fun a b=>a.id≠b.id)/\∀ x∈s.stack,z6 q s x=true:=by
 have h:=nM.1 h;refine⟨cu.2 fun a b ha hb Wc=>?_,fun x hx=>?_⟩
 ·have:=h b hb;unfold z7 at this;rw[ag,aN,bu] at this;have:=this.2 s.stack[a] (bB.2 ⟨a,by rw[aB];omega,by rw[List.getElem_take]⟩);simpa using this
 ·obtain⟨j,hj,rfl⟩:=bB.1 hx;have:=h j hj;unfold z7 at this;rw[ag] at this;exact this.1
theorem JA {q:tp}{s:aA}{x:fq}(hs:s.aa.Pairwise fun a b=>a.id < b.id):z6 q s x=true↔Hg q s x:=by
 have h5:(er s.aa x.id=true/\(b9 s.aa x.id).cg=5)↔∃ o∈s.aa,o.id=x.id/\o.cg=5:=
  ⟨fun ⟨h1,h2⟩=>⟨_,(fV h1).1,(fV h1).2,h2⟩,fun ⟨o,ho,h1,h2⟩=>⟨js.2 ⟨o,ho,h1⟩,by rw[<- h1,wC hs ho];exact h2⟩⟩
 have hn:er s.aa x.id=false↔∀ o∈s.aa,o.id≠x.id:=by
  rw[<- Bool.not_eq_true,js];exact⟨fun h o ho e=>h ⟨o,ho,e⟩,fun h ⟨o,ho,e⟩=>h o ho e⟩
 unfold z6 Hg;rw[ag,ag,ag,ag,qo]
 by_cases hk:x.kind=1
 ·rw[if_pos (by simpa using hk)];simp only[ag,beq_iff_eq,cb,decide_eq_false_iff_not];refine⟨fun ⟨⟨h1,h2,h3,h4⟩,g1,g2,g3,g4⟩=>⟨⟨by omega,by omega⟩,⟨h2,by omega,h4⟩,.inl ⟨hk,g1,h5.1 ⟨g2,g3⟩,g4⟩⟩,fun ⟨h1,⟨h2,h3,h4⟩,h⟩=>?_⟩;rcases h with⟨_,g1,g2,g3⟩|⟨g0,_⟩
  ·exact⟨⟨by omega,h2,by omega,h4⟩,g1,(h5.2 g2).1,(h5.2 g2).2,g3⟩
  ·omega
 ·rw[if_neg (by simpa using hk)];simp only[ag,beq_iff_eq,cb,decide_eq_false_iff_not];refine⟨fun ⟨⟨h1,h2,h3,h4⟩,g1,g2,g3⟩=>⟨⟨by omega,by omega⟩,⟨h2,by omega,h4⟩,.inr ⟨g1,hn.1 g2,g3⟩⟩,fun ⟨h1,⟨h2,h3,h4⟩,h⟩=>?_⟩;rcases h with⟨g0,_⟩|⟨g1,g2,g3⟩
  ·exact absurd g0 hk
  ·exact⟨⟨by omega,h2,by omega,h4⟩,g1,hn.2 g2,g3⟩
theorem vy {s:aA}{o:aE}(hn:(bR s o.cg o.fG).Nodup)(hk:s.stack.Pairwise fun a b=>a.id≠b.id):pX s o=true↔(o.cg≠5->o.id∈bR s o.cg o.fG)/\(o.cg=5->∃ x∈s.stack,x.kind=1/\x.id=o.id):=by
 unfold pX Gq aaT
 by_cases h5:o.cg=5
 ·rw[if_pos (by simpa using h5),beq_iff_eq];refine⟨fun h=>⟨fun h0=>absurd h5 h0,fun _=>(xP hk).1 (by omega)⟩,fun ⟨_,h⟩=>?_⟩;rw[(xP hk).2 (h h5)];rfl
 ·rw[if_neg (by simpa using h5),beq_iff_eq];refine⟨fun h=>⟨fun _=>List.count_pos_iff.1 (by omega),fun h0=>absurd h0 h5⟩,fun ⟨h,_⟩=>?_⟩;rw[C9 hn (h h5)];rfl
theorem BQ {s:aA}{i:Nat}{p:cq}:Mh s i p=true↔nt p=true/\iL s 2 i p.cW=true/\iL s 1 i p.hand=true/\iL s 3 i p.dI=true:=by
 unfold Mh nt;simp only[ag];exact⟨fun ⟨h1,h2,h3,h4,h5,h6,h7⟩=>⟨⟨h1,h2,h3,h4⟩,h5,h6,h7⟩,fun ⟨⟨h1,h2,h3,h4⟩,h5,h6,h7⟩=>⟨h1,h2,h3,h4,h5,h6,h7⟩⟩
theorem T2 {q:tp}{c:Int}{s:aA}(h:kh q c s=true):jE q c s:=by
 unfold kh isA isB yg Mq Gn at h;simp only[ag,cb,decide_eq_false_iff_not] at h;obtain⟨⟨a1,a2,a3,a4,a5⟩,⟨⟨p1,p2,p3,p4⟩,b2,b3,b4,b5,b6⟩,ex,w,⟨o1,o2⟩,⟨s1,s2,s3⟩,s4,s5,s6⟩:=h;rw[qo] at a1 a2 p1;have hs:=IF o2
 have hp:∀ (i:Nat) (hi:i < s.az.length),nt s.az[i]=true/\iL s 2 i s.az[i].cW=true/\iL s 1 i s.az[i].hand=true/\iL s 3 i s.az[i].dI=true:=fun i hi=>by
  have:=nM.1 p2 i hi;rw[bu] at this;exact BQ.1 this
 obtain⟨k1,k2⟩:=Nf s4
 have hl:∀ z p,(∀ id∈bR s z p,∃ o∈s.aa,o.id=id/\o.cg=z/\(z=0\/z=4\/o.fG=p))/\(bR s z p).Nodup:=fun z p=>by
  rcases s7 s z p with e|⟨rfl,e⟩|⟨rfl,e⟩|⟨i,hi,rfl,⟨rfl,e⟩|⟨rfl,e⟩|⟨rfl,e⟩⟩ <;> rw[e]
  ·exact⟨fun id h=>(by cases h),List.nodup_nil⟩
  ·exact(lG (w:=-1) hs (by omega) (by omega)).1 p3
  ·exact(lG (w:=-1) hs (by omega) (by omega)).1 p4
  ·exact(lG (w:=i) hs (by omega) (by omega)).1 (hp i hi).2.2.1
  ·exact(lG (w:=i) hs (by omega) (by omega)).1 (hp i hi).2.1
  ·exact(lG (w:=i) hs (by omega) (by omega)).1 (hp i hi).2.2.2
 have ho:∀ o∈s.aa,(sW o c s.az.length=true/\o.id < s.bE/\o.du < s.bQ)/\pX s o=true:=fun o ho=>by
  obtain⟨i,hi,rfl⟩:=bB.1 ho;have:=nM.1 o2 i hi;unfold GS at this;simp only[ag,cb,decide_eq_false_iff_not] at this;exact⟨⟨this.1,by omega,by omega⟩,this.2.2.2.2⟩
 refine⟨by omega,by omega,by omega,p1,?_,fun p hpp=>?_,hs,fun o h=>(ho o h).1,fun z p=>(hl z p).1,fun z p=>(hl z p).2,fun o h=>((vy (hl _ _).2 k1).1 (ho o h).2).1,fun o h=>((vy (hl _ _).2 k1).1 (ho o h).2).2,by omega,k1,fun x hx=>(JA hs).1 (k2 x hx),⟨by omega,aN.1 s5⟩,by omega,aN.1 s6⟩
 ·unfold Uh;simp only[ag,cb,decide_eq_false_iff_not];exact⟨a3,a4,b2,b3,b4,b5,b6,ex,w⟩
 ·obtain⟨i,hi,rfl⟩:=bB.1 hpp;exact(hp i hi).1
end
end
end Cg
namespace Go.Proofs.YtbmdcnkidjlbbaaGreat
section
open Go Cg Go.RowKit
theorem PH {s:aA}(h:s.ok)(id:Int)(i:Nat)(o:aE)(hi:i < s.aa.length):(kC s id i o).ok/\(kC s id i o).aa.length+1=s.aa.length:=by
 have hl:(((bR s o.cg o.fG).filter fun i=>i != id).length*8<=ba):=bd (cw _ (cx _ _)) (qi h _ _);obtain⟨h1,h2,_,_,h5,h6,_,_,h9⟩:=PB h o.cg o.fG hl;obtain⟨_,_,g3,g4,_,_,g7,g8,_⟩:=h
 have hlen:(s.aa.take i++s.aa.drop (i+1)).length+1=s.aa.length:=by
  simp only[au,aB,aL];omega
 refine⟨⟨h1,h2,?_,?_,h5,h6,?_,?_,h9⟩,hlen⟩
 ·show(s.aa.take i++s.aa.drop (i+1)).length*128<=ba;omega
 ·intro y hy;rcases aX.1 hy with hy|hy
  ·exact g4 y (List.mem_of_mem_take hy)
  ·exact g4 y (List.mem_of_mem_drop hy)
 ·exact bd (cw _ (cx _ _)) g7
 ·intro y hy;exact g8 y (List.mem_filter.1 hy).1
theorem Mf (l:List aE)(o:aE):(o7 l o).length<=l.length+1:=by
 unfold o7;split
 ·rw[bG];omega
 ·unfold JD;simp only[au,aB,aL,aq,aw];omega
theorem vH (o:aE):o.ok:=by
 unfold aE.ok;exact⟨⟩
theorem Qo {s:aA}(h:s.ok)(o:aE)(hn:(s.aa.length+1)*128<=ba):(eM s o).ok:=by
 obtain⟨h1,h2,_,h4,h5⟩:=h;refine⟨h1,h2,?_,fun y hy=>vH y,h5⟩;exact bd (cw _ (Mf _ _)) hn
def qd (V:aA):aA:={ V with bE:=IntKind.i64.wrap (V.bE+1),bQ:=IntKind.i64.wrap (V.bQ+1) }
def GY (Q:aA)(x:aE)(z:Int)(dR:Bool):aA:=
 qd (eU Q z x.fG (if (z==2&&!dR)=true then x.id :: bR Q z x.fG else bR Q z x.fG++[x.id]))
def yk (R:aA)(o:aE)(z p:Int):aE:=rU o R.bE z p R.bQ
def mj (s:aA)(id z p:Int)(dR:Bool)(i:Nat)(o:aE):aA × Int:=
 if z < 0\/5 < z then(s,0) else
 if o.token=true/\(z != 0)=true/\(z != 5)=true then(kC s id i o,0) else
 (GY (eM (kC s id i o) (yk (kC s id i o) o z p)) (yk (kC s id i o) o z p) z dR,(yk (kC s id i o) o z p).id)
def jH (s:aA)(id z p:Int)(dR:Bool):aA × Int:=match s.aa.findIdx? fun o=>o.id==id with
 | none=>(s,0)
 | some i=>match s.aa[i]? with
  | some o=>mj s id z p dR i o
  | none=>(s,0)
theorem Jn (s:aA)(id z p:Int)(dR:Bool)(h:s.ok)(e:s.aa.find? (fun o=>o.id==id)=none):Ct ae 101 [.agg (s.enc.map .t),.c (.t (iv id)),.c (.t (iv z)),.c (.t (iv p)),aB0 dR] (.fH [.agg (s.enc.map .t),aBZ 0]) [] false:=by
 have hf:=gk s id h.2.2.1;unfold b9 er at hf;rw[e] at hf;refine cT Tryz.func101 rfl (by kernel_rfl) rfl fun w0 O _=>aBW [3] ?_;refine cR hf ⟨fL s.enc,rfl,trivial⟩ ?_;refine aBW [] ?_;refine cR (gM s h) ⟨fL s.enc,trivial⟩ ?_;refine Ei [] ?_
 repeat' first|refine Ai ?_ ?_|exact rfl|exact⟨⟩|exact Ei _ rfl
theorem EX (s:aA)(id z p:Int)(dR:Bool)(i:Nat)(h:s.ok)(hi:i < s.aa.length)(hp:o8 s.aa id=i)(e:s.aa.find? (fun o=>o.id==id)=some s.aa[i]):Ct ae 101 [.agg (s.enc.map .t),.c (.t (iv id)),.c (.t (iv z)),.c (.t (iv p)),aB0 dR] (.fH [.agg ((mj s id z p dR i s.aa[i]).1.enc.map .t),.c (.t (iv (mj s id z p dR i s.aa[i]).2))]) [] false:=by
 have hf:=gk s id h.2.2.1;unfold b9 er at hf;rw[e] at hf;have hr:=Eo s id i h hi hp;obtain⟨hR,hRn⟩:=PH h id i s.aa[i] hi;generalize hM:mj s id z p dR i s.aa[i]=M;unfold mj at hM;generalize kC s id i s.aa[i]=R at hr hR hRn hM;generalize s.aa[i]=o at hf hr hM;have hv:=ME o R.bE z p R.bQ;change Ct _ _ _ (.agg ((yk R o z p).enc.map .t)) _ _ at hv;generalize yk R o z p=x at hv hM;have hq:Ct ae 110 [.agg (R.enc.map .t),.agg (x.enc.map .t)] (.agg (((eM R x).enc.map .t).set 2 (.row 0 0))) [⟨3,1,0,(eM R x).bw.map eI,none⟩] false:=jy R x hR;have hQ:=Qo hR x (by rw[hRn];exact h.2.2.1);generalize eM R x=Q at hq hQ hM;have uG:=qi hQ z x.fG;have hl:=MP Q z x.fG hQ;have Cy:=Eh Q z x.fG (x.id :: bR Q z x.fG) hQ (by rw[aq];exact dt (by decide) uG);have uf:=Eh Q z x.fG (bR Q z x.fG++[x.id]) hQ (by rw[au];exact dt (by decide) uG);unfold GY at hM;refine cT Tryz.func101 rfl (by kernel_rfl) rfl fun w0 O _=>aBW [3,4,6,7,9,10,11,12,13,14] ?_;refine cR hf ⟨fL s.enc,rfl,trivial⟩ ?_;refine cS (fun AY=>?_) (fun AY=>?_)
 ·rw[if_pos (.inl (of_decide_eq_true AY))] at hM;subst hM;refine aBW [] ?_;refine cR (gM s h) ⟨fL s.enc,trivial⟩ ?_;refine Ei [] ?_
  repeat' first|refine Ai ?_ ?_|exact rfl|exact⟨⟩|exact Ei _ rfl
 refine cS (fun YW=>?_) (fun YW=>?_)
 ·rw[if_pos (.inr (of_decide_eq_true YW))] at hM;subst hM;refine aBW [] ?_;refine cR (gM s h) ⟨fL s.enc,trivial⟩ ?_;refine Ei [] ?_
  repeat' first|refine Ai ?_ ?_|exact rfl|exact⟨⟩|exact Ei _ rfl
 rw[if_neg (fun hx=>hx.elim (of_decide_eq_false AY) (of_decide_eq_false YW))] at hM;refine aBW [] ?_;refine cR hr ⟨fL s.enc,rfl,trivial⟩ ?_;refine cS (fun ht=>?_) (fun ht=>?_)
 ·refine cS (fun h1=>?_) (fun h1=>?_)
  ·refine cS (fun h2=>?_) (fun h2=>?_)
   ·rw[if_pos ⟨ht,h1,h2⟩] at hM;subst hM;refine aBW [] ?_;refine Ei [] ?_
    repeat' first|refine Ai ?_ ?_|exact rfl|exact⟨⟩|exact Ei _ rfl
   ·rw[if_neg (fun hx=>by rw[show(z != 5)=false from h2] at hx;exact absurd hx.2.2 (by decide))] at hM;refine aBW [] ?_;refine cR hv ⟨fL o.enc,rfl,rfl,rfl,rfl,trivial⟩ ?_;refine cR hq ⟨fL R.enc,fL x.enc,trivial⟩ ?_;refine aB2 [] (aBW [] ?_);refine cR hl ⟨?_,rfl,rfl,trivial⟩ ?_
    ·repeat' first|refine Ai ?_ ?_|exact rfl|exact⟨⟩|exact Ei _ rfl
    refine aBW [] ?_;refine cS (fun w2=>?_) (fun w2=>?_)
    ·refine cS (fun wb=>?_) (fun wb=>?_)
     ·rw[if_pos (show(z==2&&!dR)=true by rw[show(z==2)=true from w2,show(!dR)=true from wb];rfl)] at hM;refine aBW [] ?_;refine Ai (.inl rfl) (Ai ?_ (Ai ?_ ?_))
      ·show(1+((bR Q z x.fG).map eI).length)*8<=_;rw[Lm,Nat.add_comm];exact cG (dt (by decide) uG)
      ·show 1+((bR Q z x.fG).map eI).length < _;rw[Lm,Nat.add_comm];have:=dt (n:=(bR Q z x.fG).length) (b:=8) (by decide) uG;omega
      generalize eU Q z x.fG _=V at Cy hM;subst hM;refine aB2 [] (aBW [] ?_);refine cR Cy ⟨?_,rfl,rfl,?_,trivial⟩ ?_
      ·repeat' first|refine Ai ?_ ?_|exact rfl|exact⟨⟩|exact Ei _ rfl
      ·exact rfl
      refine aBW [] ?_;refine Ei [] ?_
      repeat' first|refine Ai ?_ ?_|exact rfl|exact⟨⟩|exact Ei _ rfl
     ·rw[if_neg (show ¬ (z==2&&!dR)=true by rw[show(z==2)=true from w2,show(!dR)=false from wb];decide)] at hM;refine aBW [] ?_;refine Ai (.inl rfl) (Ai ?_ (Ai ?_ ?_))
      ·show(((bR Q z x.fG).map eI).length+1)*8<=_;rw[Lm];exact cG (dt (by decide) uG)
      ·show((bR Q z x.fG).map eI).length+1 < _;rw[Lm];have:=dt (n:=(bR Q z x.fG).length) (b:=8) (by decide) uG;omega
      generalize eU Q z x.fG _=V at uf hM;subst hM;refine aB2 [] (aBW [] ?_);refine cR uf ⟨?_,rfl,rfl,?_,trivial⟩ ?_
      ·repeat' first|refine Ai ?_ ?_|exact rfl|exact⟨⟩|exact Ei _ rfl
      ·exact congrArg (Tr.sl 1) (aW (f:=eI) (l₁:=bR Q z x.fG) (l₂:=[x.id])).symm
      refine aBW [] ?_;refine Ei [] ?_
      repeat' first|refine Ai ?_ ?_|exact rfl|exact⟨⟩|exact Ei _ rfl
    ·rw[if_neg (show ¬ (z==2&&!dR)=true by rw[show(z==2)=false from w2,Bool.false_and];decide)] at hM;refine aBW [] ?_;refine Ai (.inl rfl) (Ai ?_ (Ai ?_ ?_))
     ·show(((bR Q z x.fG).map eI).length+1)*8<=_;rw[Lm];exact cG (dt (by decide) uG)
     ·show((bR Q z x.fG).map eI).length+1 < _;rw[Lm];have:=dt (n:=(bR Q z x.fG).length) (b:=8) (by decide) uG;omega
     generalize eU Q z x.fG _=V at uf hM;subst hM;refine aB2 [] (aBW [] ?_);refine cR uf ⟨?_,rfl,rfl,?_,trivial⟩ ?_
     ·repeat' first|refine Ai ?_ ?_|exact rfl|exact⟨⟩|exact Ei _ rfl
     ·exact congrArg (Tr.sl 1) (aW (f:=eI) (l₁:=bR Q z x.fG) (l₂:=[x.id])).symm
     refine aBW [] ?_;refine Ei [] ?_
     repeat' first|refine Ai ?_ ?_|exact rfl|exact⟨⟩|exact Ei _ rfl
  ·rw[if_neg (fun hx=>by rw[show(z != 0)=false from h1] at hx;exact absurd hx.2.1 (by decide))] at hM;refine aBW [] ?_;refine cR hv ⟨fL o.enc,rfl,rfl,rfl,rfl,trivial⟩ ?_;refine cR hq ⟨fL R.enc,fL x.enc,trivial⟩ ?_;refine aB2 [] (aBW [] ?_);refine cR hl ⟨?_,rfl,rfl,trivial⟩ ?_
   ·repeat' first|refine Ai ?_ ?_|exact rfl|exact⟨⟩|exact Ei _ rfl
   refine aBW [] ?_;refine cS (fun w2=>?_) (fun w2=>?_)
   ·refine cS (fun wb=>?_) (fun wb=>?_)
    ·rw[if_pos (show(z==2&&!dR)=true by rw[show(z==2)=true from w2,show(!dR)=true from wb];rfl)] at hM;refine aBW [] ?_;refine Ai (.inl rfl) (Ai ?_ (Ai ?_ ?_))
     ·show(1+((bR Q z x.fG).map eI).length)*8<=_;rw[Lm,Nat.add_comm];exact cG (dt (by decide) uG)
     ·show 1+((bR Q z x.fG).map eI).length < _;rw[Lm,Nat.add_comm];have:=dt (n:=(bR Q z x.fG).length) (b:=8) (by decide) uG;omega
     generalize eU Q z x.fG _=V at Cy hM;subst hM;refine aB2 [] (aBW [] ?_);refine cR Cy ⟨?_,rfl,rfl,?_,trivial⟩ ?_
     ·repeat' first|refine Ai ?_ ?_|exact rfl|exact⟨⟩|exact Ei _ rfl
     ·exact rfl
     refine aBW [] ?_;refine Ei [] ?_
     repeat' first|refine Ai ?_ ?_|exact rfl|exact⟨⟩|exact Ei _ rfl
    ·rw[if_neg (show ¬ (z==2&&!dR)=true by rw[show(z==2)=true from w2,show(!dR)=false from wb];decide)] at hM;refine aBW [] ?_;refine Ai (.inl rfl) (Ai ?_ (Ai ?_ ?_))
     ·show(((bR Q z x.fG).map eI).length+1)*8<=_;rw[Lm];exact cG (dt (by decide) uG)
     ·show((bR Q z x.fG).map eI).length+1 < _;rw[Lm];have:=dt (n:=(bR Q z x.fG).length) (b:=8) (by decide) uG;omega
     generalize eU Q z x.fG _=V at uf hM;subst hM;refine aB2 [] (aBW [] ?_);refine cR uf ⟨?_,rfl,rfl,?_,trivial⟩ ?_
     ·repeat' first|refine Ai ?_ ?_|exact rfl|exact⟨⟩|exact Ei _ rfl
     ·exact congrArg (Tr.sl 1) (aW (f:=eI) (l₁:=bR Q z x.fG) (l₂:=[x.id])).symm
     refine aBW [] ?_;refine Ei [] ?_
     repeat' first|refine Ai ?_ ?_|exact rfl|exact⟨⟩|exact Ei _ rfl
   ·rw[if_neg (show ¬ (z==2&&!dR)=true by rw[show(z==2)=false from w2,Bool.false_and];decide)] at hM;refine aBW [] ?_;refine Ai (.inl rfl) (Ai ?_ (Ai ?_ ?_))
    ·show(((bR Q z x.fG).map eI).length+1)*8<=_;rw[Lm];exact cG (dt (by decide) uG)
    ·show((bR Q z x.fG).map eI).length+1 < _;rw[Lm];have:=dt (n:=(bR Q z x.fG).length) (b:=8) (by decide) uG;omega
    generalize eU Q z x.fG _=V at uf hM;subst hM;refine aB2 [] (aBW [] ?_);refine cR uf ⟨?_,rfl,rfl,?_,trivial⟩ ?_
    ·repeat' first|refine Ai ?_ ?_|exact rfl|exact⟨⟩|exact Ei _ rfl
    ·exact congrArg (Tr.sl 1) (aW (f:=eI) (l₁:=bR Q z x.fG) (l₂:=[x.id])).symm
    refine aBW [] ?_;refine Ei [] ?_
    repeat' first|refine Ai ?_ ?_|exact rfl|exact⟨⟩|exact Ei _ rfl
 ·rw[if_neg (fun hx=>by rw[show o.token=false from ht] at hx;exact absurd hx.1 (by decide))] at hM;refine aBW [] ?_;refine cR hv ⟨fL o.enc,rfl,rfl,rfl,rfl,trivial⟩ ?_;refine cR hq ⟨fL R.enc,fL x.enc,trivial⟩ ?_;refine aB2 [] (aBW [] ?_);refine cR hl ⟨?_,rfl,rfl,trivial⟩ ?_
  ·repeat' first|refine Ai ?_ ?_|exact rfl|exact⟨⟩|exact Ei _ rfl
  refine aBW [] ?_;refine cS (fun w2=>?_) (fun w2=>?_)
  ·refine cS (fun wb=>?_) (fun wb=>?_)
   ·rw[if_pos (show(z==2&&!dR)=true by rw[show(z==2)=true from w2,show(!dR)=true from wb];rfl)] at hM;refine aBW [] ?_;refine Ai (.inl rfl) (Ai ?_ (Ai ?_ ?_))
    ·show(1+((bR Q z x.fG).map eI).length)*8<=_;rw[Lm,Nat.add_comm];exact cG (dt (by decide) uG)
    ·show 1+((bR Q z x.fG).map eI).length < _;rw[Lm,Nat.add_comm];have:=dt (n:=(bR Q z x.fG).length) (b:=8) (by decide) uG;omega
    generalize eU Q z x.fG _=V at Cy hM;subst hM;refine aB2 [] (aBW [] ?_);refine cR Cy ⟨?_,rfl,rfl,?_,trivial⟩ ?_
    ·repeat' first|refine Ai ?_ ?_|exact rfl|exact⟨⟩|exact Ei _ rfl
    ·exact rfl
    refine aBW [] ?_;refine Ei [] ?_
    repeat' first|refine Ai ?_ ?_|exact rfl|exact⟨⟩|exact Ei _ rfl
   ·rw[if_neg (show ¬ (z==2&&!dR)=true by rw[show(z==2)=true from w2,show(!dR)=false from wb];decide)] at hM;refine aBW [] ?_;refine Ai (.inl rfl) (Ai ?_ (Ai ?_ ?_))
    ·show(((bR Q z x.fG).map eI).length+1)*8<=_;rw[Lm];exact cG (dt (by decide) uG)
    ·show((bR Q z x.fG).map eI).length+1 < _;rw[Lm];have:=dt (n:=(bR Q z x.fG).length) (b:=8) (by decide) uG;omega
    generalize eU Q z x.fG _=V at uf hM;subst hM;refine aB2 [] (aBW [] ?_);refine cR uf ⟨?_,rfl,rfl,?_,trivial⟩ ?_
    ·repeat' first|refine Ai ?_ ?_|exact rfl|exact⟨⟩|exact Ei _ rfl
    ·exact congrArg (Tr.sl 1) (aW (f:=eI) (l₁:=bR Q z x.fG) (l₂:=[x.id])).symm
    refine aBW [] ?_;refine Ei [] ?_
    repeat' first|refine Ai ?_ ?_|exact rfl|exact⟨⟩|exact Ei _ rfl
  ·rw[if_neg (show ¬ (z==2&&!dR)=true by rw[show(z==2)=false from w2,Bool.false_and];decide)] at hM;refine aBW [] ?_;refine Ai (.inl rfl) (Ai ?_ (Ai ?_ ?_))
   ·show(((bR Q z x.fG).map eI).length+1)*8<=_;rw[Lm];exact cG (dt (by decide) uG)
   ·show((bR Q z x.fG).map eI).length+1 < _;rw[Lm];have:=dt (n:=(bR Q z x.fG).length) (b:=8) (by decide) uG;omega
   generalize eU Q z x.fG _=V at uf hM;subst hM;refine aB2 [] (aBW [] ?_);refine cR uf ⟨?_,rfl,rfl,?_,trivial⟩ ?_
   ·repeat' first|refine Ai ?_ ?_|exact rfl|exact⟨⟩|exact Ei _ rfl
   ·exact congrArg (Tr.sl 1) (aW (f:=eI) (l₁:=bR Q z x.fG) (l₂:=[x.id])).symm
   refine aBW [] ?_;refine Ei [] ?_
   repeat' first|refine Ai ?_ ?_|exact rfl|exact⟨⟩|exact Ei _ rfl
theorem zH (s:aA)(id z p:Int)(dR:Bool)(h:s.ok):Ct ae 101 [.agg (s.enc.map .t),.c (.t (iv id)),.c (.t (iv z)),.c (.t (iv p)),aB0 dR] (.fH [.agg ((jH s id z p dR).1.enc.map .t),.c (.t (iv (jH s id z p dR).2))]) [] false:=by
 rcases im (fun o:aE=>o.id==id) s.aa with⟨_,e1,e2⟩|⟨i,hi,e0,e1,e2⟩
 ·have:=Jn s id z p dR h e2;unfold jH;rw[e1];exact this
 ·have:=EX s id z p dR i h hi e0 e2;unfold jH;rw[e1];simp only[cD hi];exact this
def kN (s:aA)(dK bC:Int):aA × Int:=
 let x:aE:={ qc s.bE dK bC 0 s.bQ with token:=true,oY:=true }
 ({ eM s x with bw:=s.bw++[s.bE],bE:=IntKind.i64.wrap (s.bE+1),bQ:=IntKind.i64.wrap (s.bQ+1) },s.bE)
theorem QX (s:aA)(dK bC:Int)(h:s.ok):Ct ae 107 [.agg (s.enc.map .t),.c (.t (iv dK)),.c (.t (iv bC))] (.fH [.agg ((kN s dK bC).1.enc.map .t),.c (.t (iv (kN s dK bC).2))]) [] false:=by
 have Xo:s.bw.length*8<=ba:=h.2.2.2.2.1;have hn:=MA s.bE dK bC 0 s.bQ;have hq:=jy s { qc s.bE dK bC 0 s.bQ with token:=true,oY:=true } h;refine cT Tryz.func107 rfl (by kernel_rfl) rfl fun w0 O _=>aBW [] ?_;refine cR hn ⟨rfl,rfl,rfl,rfl,rfl,trivial⟩ ?_;refine cR hq ⟨fL s.enc,?_,trivial⟩ ?_
 ·repeat' first|refine Ai ?_ ?_|exact rfl|exact⟨⟩|exact Ei _ rfl
 refine Ai (.inl rfl) (Ai ?_ (Ai ?_ ?_))
 ·show((s.bw.map eI).length+1)*8<=_;rw[Lm];exact cG (dt (by decide) Xo)
 ·show(s.bw.map eI).length+1 < _;rw[Lm];have:=dt (n:=s.bw.length) (b:=8) (by decide) Xo;omega
 refine Ei [] ?_
 repeat' first|refine Ai ?_ ?_|exact rfl|exact⟨⟩|exact Ei _ rfl
 exact congrArg (Tr.sl 1) (aW (f:=eI) (l₁:=s.bw) (l₂:=[s.bE]))
end
section
open Go Cg
def dd (n:Int):Int:=if n > 1000000 then 1000000 else if n < -1000000 then -1000000 else n
def ff (a b:Int):Int:=dd (dd a+dd b)
def pM (a b:Int):Int:=dd (dd a - dd b)
def mB (c n:Int):Int:=if ff c n > 0 then ff c n else 0
def upC (i kind c n:Int):Int:=if kind=i then mB c n else c
def kX (s:aA)(p:Int):Bool:=match s.az[p.toNat]? with
 | some x=>decide (p>=0)&&!x.lost
 | none=>false
def qG (n:Int):Bool:=decide (n>=1)&&decide (n<=1000000)
def iY (s:aA)(id:Int):Bool:=er s.aa id&&(b9 s.aa id).cg==0
def aeI (cards:List bX)(i:Int):Bool:=match cards[i.toNat]? with
 | some x=>decide (i>=0)&&x.token
 | none=>false
theorem Q1 {s:aA}{p:Int}(h:¬ p>=0):false=kX s p:=by
 unfold kX;split
 ·rw[decide_eq_false h];rfl
 ·rfl
theorem Q0 {s:aA}{p:Int}{f:cq->List Tr}(h:¬ p < (((s.az.map f).length:Nat):Int)):false=kX s p:=by
 rw[Lm] at h;unfold kX;rw[dy (by omega)]
theorem Vg {s:aA}{p:Int}(h:p>=0)(hl:p.toNat < s.az.length):kX s p=!s.az[p.toNat].lost:=by
 unfold kX;rw[cD hl,decide_eq_true h];rfl
theorem Pq {l:List bX}{p:Int}(h:¬ p>=0):aeI l p=false:=by
 unfold aeI;split
 ·rw[decide_eq_false h];rfl
 ·rfl
theorem Pp {l:List bX}{p:Int}{f:bX->List Tr}(h:¬ p < (((l.map f).length:Nat):Int)):aeI l p=false:=by
 rw[Lm] at h;unfold aeI;rw[dy (by omega)]
theorem T7 {l:List bX}{p:Int}(h:p>=0)(hl:p.toNat < l.length):aeI l p=l[p.toNat].token:=by
 unfold aeI;rw[cD hl,decide_eq_true h];rfl
def oN (cards:List bX)(s:aA)(e:bV):Bool:=
 if e.kind=1 then qG e.bq&&(iY s e.aO||(e.aO==0&&kX s e.bC))
 else if e.kind=2 then er s.aa e.aO&&(e.from_==(b9 s.aa e.aO).cg&&(e.nQ != e.from_&&(decide (e.nQ>=0)&&(decide (e.nQ<=4)&&(decide (e.bC>=0)&&decide (e.bC < s.az.length))))))
 else if e.kind=3\/e.kind=14\/e.kind=15\/e.kind=17 then kX s e.bC
 else if e.kind=4\/e.kind=5\/e.kind=16 then kX s e.bC&&qG e.bq
 else if e.kind=6 then iY s e.aO&&!(b9 s.aa e.aO).eR
 else if e.kind=7 then iY s e.aO&&(b9 s.aa e.aO).eR
 else if e.kind=8\/e.kind=9 then iY s e.aO&&(decide (e.aaD>=0)&&(decide (e.aaD < 3)&&qG e.bq))
 else if e.kind=10 then kX s e.bC&&(aeI cards e.dK&&qG e.bq)
 else if e.kind=11 then er s.aa e.aO&&((b9 s.aa e.aO).cg==5&&kX s e.bC)
 else if e.kind=12 then iY s e.aO&&kX s e.bC
 else if e.kind=13 then iY s e.aO&&iY s e.fp
 else false
theorem NX {cards:List bX}{s:aA}{e:bV}(h:e.kind=10):oN cards s e=(kX s e.bC&&(aeI cards e.dK&&qG e.bq)):=by
 unfold oN;rw[h];rfl
def NY (e:bV)(o:aE):aE:={ o with eR:=e.eR,cL:=mB 0 e.sA,cK:=mB 0 e.su,dh:=mB 0 e.ss }
def ld (s:aA)(id:Int)(e:bV):aA:=if er s.aa id=true then eM s (NY e (b9 s.aa id)) else s
def oA (k:Int)(o:aE):aE:=if o.blocks==k then { o with blocks:=0 } else o
def rG (s:aA)(k:Int):aA:={ s with aa:=s.aa.map (oA k) }
def EW (s:aA)(e:bV):aA:=
 let r:=jH (if e.from_=0 then rG s e.aO else s) e.aO e.nQ e.bC (e.bq==1)
 if e.nQ=0 then ld r.1 r.2 e else r.1
def K0 (s:aA)(p:Int)(f:cq->cq):aA:=match s.az[p.toNat]? with
 | some x=>{ s with az:=s.az.set p.toNat (f x) }
 | none=>s
def lO (s:aA)(p:Int):aA:=match s.az[p.toNat]? with
 | some x=>(match x.cW with
  | []=>K0 s p fun x=>{ x with failed:=true }
  | id :: _=>(jH s id 1 p false).1)
 | none=>s
def mW (k m:Int):Bool:=IntKind.i64.wrap (BitVec.ofInt IntKind.i64.bits k &&& BitVec.ofInt IntKind.i64.bits m).toNat==m
def fT (s:aA)(all:List aG)(id:Int):Bool:=match s.aa.findIdx? fun o=>o.id==id with
 | some i=>(match all[i]? with
  | some t=>mW t.keys 128
  | none=>false)
 | none=>false
def QL (all:List aG)(id:Int)(j:Nat)(y:aE):Bool:=!(y.id==id)||decide (all.length<=j)
theorem Od {s:aA}{all:List aG}{id i:Int}(h0:0<=i)(hU:Up (QL all id) s.aa i)(hl:i.toNat < s.aa.length)(hid:s.aa[i.toNat].id=id)(ha:i.toNat < all.length):mW all[i.toNat].keys 128=fT s all id:=by
 have e:s.aa.findIdx? (fun o=>o.id==id)=some i.toNat:=by
  rw[List.findIdx?_eq_some_iff_getElem];refine⟨hl,by simpa using hid,fun j hj=>?_⟩;have:=hU j (by omega) (by omega);unfold QL at this;rw[cm,decide_eq_true_eq] at this;rcases this with h|h
  ·simpa using h
  ·omega
 unfold fT;rw[e];simp only[cD ha]
theorem C8 {s:aA}{all:List aG}{id i:Int}(hU:Up (QL all id) s.aa i)(h1:∀ j:Nat,i<=j->j < s.aa.length->all.length<=j):false=fT s all id:=by
 unfold fT;split
 ·rename_i k hk;obtain⟨h2,h3,_⟩:=List.findIdx?_eq_some_iff_getElem.1 hk
  have:all.length<=k:=by
   by_cases hik:(k:Int) < i
   ·have:=hU k h2 hik;unfold QL at this;rw[h3] at this;simpa using this
   ·exact h1 k (by omega) h2
  rw[dy this]
 ·rfl
theorem S9 {all:List aG}{id i:Int}{y:aE}(h:¬ y.id=id):QL all id i.toNat y=true:=by unfold QL;simp[h]
theorem Sh {s:aA}{all:List aG}{id i:Int}{f:aE->List Tr}(hU:Up (QL all id) s.aa i)(h:¬ i < (((s.aa.map f).length:Nat):Int)):false=fT s all id:=C8 hU fun j h1 h2=>by
 rw[Lm] at h;omega
theorem Sg {s:aA}{all:List aG}{id i:Int}{f:aG->List Tr}(hU:Up (QL all id) s.aa i)(h:¬ i < (((all.map f).length:Nat):Int)):false=fT s all id:=C8 hU fun j h1 h2=>by
 rw[Lm] at h;omega
def gz (d:Bool)(e:bV)(o:aE):aE:=
 if e.kind=1 then { o with fD:=ff o.fD e.bq,jj:=o.jj||d }
 else if e.kind=6 then { o with eR:=true }
 else if e.kind=7 then { o with eR:=false }
 else if e.kind=8 then { o with cL:=upC 0 e.aaD o.cL e.bq,cK:=upC 1 e.aaD o.cK e.bq,dh:=upC 2 e.aaD o.dh e.bq }
 else if e.kind=9 then { o with cL:=upC 0 e.aaD o.cL (IntKind.i64.wrap (0 - e.bq)),cK:=upC 1 e.aaD o.cK (IntKind.i64.wrap (0 - e.bq)),dh:=upC 2 e.aaD o.dh (IntKind.i64.wrap (0 - e.bq)) }
 else if e.kind=12 then { o with jD:=e.bC }
 else if e.kind=13 then { o with blocks:=e.fp }
 else o
def gy (s:aA)(all:List aG)(e:bV):aA:=
 if er s.aa e.aO=true then
  let s1:=eM s (gz (fT s all e.fp) e (b9 s.aa e.aO))
  if e.kind=13 then eM s1 { b9 s1.aa e.fp with blocked:=true } else s1
 else s
def B5 (s:aA)(e:bV):Nat->aA
 | 0=>s
 | n+1=>if (s.aa.length:Int) < 2048 then B5 (ld (kN s e.dK e.bC).1 (kN s e.dK e.bC).2 e) e n else s
def TX (x y:Int):Int:=IntKind.u64.wrap (BitVec.ofInt IntKind.u64.bits x ^^^ BitVec.ofInt IntKind.u64.bits y).toNat
def Ue (x:Int)(n:Nat):Int:=x.fdiv (2 ^ min n IntKind.u64.bits)
def Gt (s:Int):Int:=IntKind.u64.wrap (s+11400714819323198485)
def YL (z:Int):Int:=IntKind.u64.wrap (TX z (Ue z 30)*13787848793156543929)
def YK (z:Int):Int:=IntKind.u64.wrap (TX z (Ue z 27)*10723151780598845931)
def YJ (z:Int):Int:=TX z (Ue z 31)
def sX (s:Int):Int:=YJ (YK (YL (Gt s)))
def fQ (s n:Int):Int × Int:=if n < 1 then(0,s) else(IntKind.i64.wrap ((sX s).tmod (IntKind.u64.wrap n)),Gt s)
def mJ (l:List Int)(i j:Nat):List Int:=(l.set i (l.getD j 0)).set j (l.getD i 0)
def sM:Nat->Int->List Int->List Int × Int
 | 0,s,l=>(l,s)
 | i+1,s,l=>sM i (fQ s ((i:Int)+2)).2 (mJ l (i+1) (fQ s ((i:Int)+2)).1.toNat)
def kJ (s:Int)(l:List Int):List Int × Int:=sM (l.length - 1) s l
theorem A6 (n:Int):0<=IntKind.u64.wrap n/\IntKind.u64.wrap n < 18446744073709551616:=by
 rw[dM];omega
theorem tl {s n:Int}(h1:1<=n)(h2:n<=1099511627776):0<=(fQ s n).1/\(fQ s n).1 < n:=by
 unfold fQ;rw[if_neg (by omega)];have hz:0<=sX s:=(A6 _).1;have hn:IntKind.u64.wrap n=n:=by rw[dM];omega
 simp only[hn];have h3:=Int.tmod_nonneg n hz;have h4:=Int.tmod_lt_of_pos (sX s) (b:=n) (by omega);have:IntKind.i64.wrap ((sX s).tmod n)=(sX s).tmod n:=by rw[ak];omega
 rw[this];exact⟨h3,h4⟩
theorem swap_perm (l:List Int)(i j:Nat)(hi:i < l.length)(hj:j < l.length):(mJ l i j).Perm l:=by
 rw[List.perm_iff_count];intro a;unfold mJ;have e1:l.getD j 0=l[j]:=by rw[List.getD_eq_getElem?_getD,cD hj];rfl
 have e2:l.getD i 0=l[i]:=by rw[List.getD_eq_getElem?_getD,cD hi];rfl
 rw[e1,e2,List.count_set (by rw[bG];exact hj),List.count_set hi,List.getElem_set];have c1:(l[i]==a)=true->1<=l.count a:=fun h=>List.count_pos_iff.2 (by rw[<- beq_iff_eq.1 h];exact aI hi);have c2:(l[j]==a)=true->1<=l.count a:=fun h=>List.count_pos_iff.2 (by rw[<- beq_iff_eq.1 h];exact aI hj)
 by_cases mP:i=j
 ·subst mP;simp only[if_pos];split
  ·rename_i h;have:=c1 h;omega
  ·omega
 ·rw[if_neg mP]
  by_cases ha:(l[i]==a)=true <;> by_cases hb:(l[j]==a)=true
  ·rw[if_pos ha,if_pos hb];have:=c1 ha;omega
  ·rw[if_pos ha,if_neg hb];have:=c1 ha;omega
  ·rw[if_neg ha,if_pos hb];have:=c2 hb;omega
  ·rw[if_neg ha,if_neg hb];omega
theorem pK (l:List Int)(i j:Nat):(mJ l i j).length=l.length:=by unfold mJ;rw[bG,bG]
theorem vj:∀ (i:Nat) (s:Int) (l:List Int),i < l.length\/i=0->l.length<=1099511627776->(sM i s l).1.Perm l
 | 0,_,_,_,_=>.refl _
 | i+1,s,l,h,hb=>by
  unfold sM;have hr:=tl (s:=s) (n:=(i:Int)+2) (by omega) (by omega);have hp:=swap_perm l (i+1) (fQ s ((i:Int)+2)).1.toNat (by omega) (by omega);exact(vj i _ _ (by rw[pK];omega) (by rw[pK];exact hb)).trans hp
theorem Eg (s:Int)(l:List Int)(hb:l.length<=1099511627776):(kJ s l).1.Perm l:=vj _ s l (by omega) hb
def Kp (e:bV)(sd:Int)(x:cq):cq × Int:=
 if e.kind=4 then({ x with je:=ff x.je e.bq },sd)
 else if e.kind=5 then({ x with je:=pM x.je e.bq },sd)
 else if e.kind=16 then({ x with kH:=ff x.kH e.bq },sd)
 else if e.kind=17 then({ x with cW:=(kJ sd x.cW).1 },(kJ sd x.cW).2)
 else(x,sd)
def jq (s:aA)(e:bV):aA:=match s.az[e.bC.toNat]? with
 | some x=>{ s with az:=s.az.set e.bC.toNat (Kp e s.gq x).1,gq:=(Kp e s.gq x).2 }
 | none=>s
def iJ (s:aA)(all:List aG)(e:bV):aA:=
 if e.kind=3 then lO s e.bC
 else if e.kind=4\/e.kind=5\/e.kind=16\/e.kind=17 then jq s e
 else if e.kind=10 then B5 s e e.bq.toNat
 else if e.kind=1\/e.kind=6\/e.kind=7\/e.kind=8\/e.kind=9\/e.kind=12\/e.kind=13 then gy s all e
 else s
def wG (cards:List bX)(s:aA)(all:List aG)(e:bV):aA:=if oN cards s e=true then(if e.kind=2 then EW s e else iJ s all e) else s
section
variable {q:tp}{c:Int}{s:aA}
theorem u5 {s s':aA}(h:s'.az.length=s.az.length)(w:bW):u6 q s' w=u6 q s w:=by
 unfold u6 DO;rw[h]
theorem wJ {s s':aA}(h:s'.az.length=s.az.length)(hs:s.bQ<=s'.bQ){k:iS}(hk:wK q s k=true):wK q s' k=true:=by
 unfold wK DO at *;rw[h];simp only[ag,cb,decide_eq_false_iff_not] at *;exact⟨hk.1,by omega,hk.2.2⟩
theorem BR {s s':aA}(h:s'.az.length=s.az.length)(p:Int):DO s' p=DO s p:=by
 unfold DO;rw[h]
theorem _root_.Cg.jE.map (h:jE q c s)(g:aE->aE)(hg:∀ o∈s.aa,(g o).id=o.id/\(g o).cg=o.cg/\(g o).fG=o.fG/\(g o).du=o.du/\sW (g o) c s.az.length=true):jE q c { s with aa:=s.aa.map g }:=by
 refine⟨h.GX,h.iE,by rw[Lm];exact h.ER,h.YA,h.sc,h.W8,?_,fun o ho=>?_,fun z p id hid=>?_,h.W9,fun o ho h5=>?_,fun o ho h5=>?_,h.Ms,h.Pt,fun x hx=>?_,h.wt,h.Wx⟩
 ·refine List.pairwise_map.2 (h.qN.imp_of_mem fun {a b} ha hb Wc=>?_);rw[(hg a ha).1,(hg b hb).1];exact Wc
 ·obtain⟨o,hm,rfl⟩:=bA.1 ho;obtain⟨h1,h2,h3,h4,h5⟩:=hg o hm;exact⟨h5,by rw[h1];exact(h.obj o hm).2.1,by rw[h4];exact(h.obj o hm).2.2⟩
 ·obtain⟨o,ho,h1,h2,h3⟩:=h.QZ z p id hid;obtain⟨g1,g2,g3,_⟩:=hg o ho;exact⟨g o,List.mem_map_of_mem ho,by rw[g1];exact h1,by rw[g2];exact h2,by rw[g3];exact h3⟩
 ·obtain⟨o,hm,rfl⟩:=bA.1 ho;obtain⟨h1,h2,h3,_⟩:=hg o hm;rw[h2] at h5;rw[h1,h2,h3];exact h.plc o hm h5
 ·obtain⟨o,hm,rfl⟩:=bA.1 ho;obtain⟨h1,h2,_⟩:=hg o hm;rw[h2] at h5;rw[h1];exact h.Qu o hm h5
 ·obtain⟨h1,h2,h3⟩:=h.itm x hx;refine⟨h1,h2,?_⟩;rcases h3 with⟨g1,g2,⟨o,ho,g3,g4⟩,g5⟩|⟨g1,g2,g3⟩
  ·obtain⟨e1,e2,_⟩:=hg o ho;exact .inl ⟨g1,g2,⟨g o,List.mem_map_of_mem ho,by rw[e1];exact g3,by rw[e2];exact g4⟩,g5⟩
  ·refine .inr ⟨g1,fun o ho=>?_,g3⟩;obtain⟨o,hm,rfl⟩:=bA.1 ho;rw[(hg o hm).1];exact g2 o hm
theorem _root_.Cg.jE.adA (h:jE q c s)(l:List cq)(sd:Int)(hlen:l.length=s.az.length)(hp:∀ p∈l,nt p=true)(hl:∀ z p,(bR { s with az:=l,gq:=sd } z p).Perm (bR s z p)):jE q c { s with az:=l,gq:=sd }:=by
 refine⟨h.GX,h.iE,h.ER,by rw[hlen];exact h.YA,?_,hp,h.qN,fun o ho=>?_,fun z p id hid=>h.QZ z p id ((hl z p).mem_iff.1 hid),fun z p=>(hl z p).nodup_iff.2 (h.W9 z p),fun o ho h5=>(hl _ _).mem_iff.2 (h.plc o ho h5),h.Qu,h.Ms,h.Pt,fun x hx=>?_,⟨h.wt.1,fun w hw=>?_⟩,h.Wx.1,fun k hk=>wJ (s:=s) (s':={ s with az:=l,gq:=sd }) hlen (Int.le_refl _) (h.Wx.2 k hk)⟩
 ·have:=h.sc;unfold Uh AX at *;simp only[BR (s:=s) (s':={ s with az:=l,gq:=sd }) hlen,hlen,aN,ag] at *;exact this
 ·rw[hlen];exact h.obj o ho
 ·have:=h.itm x hx;unfold Hg at *;rw[BR (s:=s) hlen];exact this
 ·rw[u5 (s:=s) hlen];exact h.wt.2 w hw
theorem BP {l _l':List cq}{i:Nat}{x y:cq}(_hx:l[i]? = some x)(h:∀ p∈l,nt p=true)(hy:nt y=true):∀ p∈l.set i y,nt p=true:=fun p hp=>by
 rcases List.mem_or_eq_of_mem_set hp with hp|rfl
 ·exact h p hp
 ·exact hy
theorem Jw {s:aA}{i:Nat}{x y:cq}(sd:Int)(hx:s.az[i]? = some x)(h1:y.hand.Perm x.hand)(h2:y.cW.Perm x.cW)(h3:y.dI.Perm x.dI)(z p:Int):(bR { s with az:=s.az.set i y,gq:=sd } z p).Perm (bR s z p):=by
 unfold bR;simp only[bG]
 by_cases hi:i=p.toNat
 ·subst hi;simp only[List.getElem?_set_self (an.1 hx).1,hx];split
  ·exact .refl _
  split
  ·exact .refl _
  split
  ·exact .refl _
  split
  ·exact h1
  split
  ·exact h2
  split
  ·exact h3
  ·exact .refl _
 ·simp only[List.getElem?_set_ne hi];exact .refl _
theorem _root_.Cg.jE.Jf (h:jE q c s)(i:Nat)(sd:Int){x y:cq}(hx:s.az[i]? = some x)(hy:nt y=true)(h1:y.hand.Perm x.hand)(h2:y.cW.Perm x.cW)(h3:y.dI.Perm x.dI):jE q c { s with az:=s.az.set i y,gq:=sd }:=
 h.adA _ sd (by rw[bG]) (BP (_l':=[]) (x:=x) hx h.W8 hy) (Jw sd hx h1 h2 h3)
theorem nS (s:aA)(z p:Int)(l:List Int):∃ b x pl,eU s z p l={ s with bw:=b,gn:=x,az:=pl }/\pl.length=s.az.length/\((∀ y∈s.az,nt y=true)->∀ y∈pl,nt y=true):=by
 unfold eU;split
 ·exact⟨l,s.gn,s.az,rfl,rfl,id⟩
 split
 ·exact⟨s.bw,l,s.az,rfl,rfl,id⟩
 split
 ·exact⟨s.bw,s.gn,s.az,rfl,rfl,id⟩
 split
 ·rename_i y hy;refine⟨s.bw,s.gn,_,rfl,by rw[bG],fun h=>BP (_l':=[]) hy h ?_⟩
  have:nt (abA y z l)=nt y:=by
   unfold abA;split
   ·rfl
   split
   ·rfl
   split <;> rfl
  rw[this];exact h y (aU hy)
 ·exact⟨s.bw,s.gn,s.az,rfl,rfl,id⟩
theorem Gu {s:aA}{b x:List Int}{pl:List cq}{ob:List aE}{st:List fq}{ni ns:Int}(hlen:pl.length=s.az.length)(h:Uh s=true):Uh { s with bw:=b,gn:=x,az:=pl,aa:=ob,stack:=st,bE:=ni,bQ:=ns }=true:=by
 unfold Uh AX at *;simp only[BR (s:=s) (s':={ s with bw:=b,gn:=x,az:=pl,aa:=ob,stack:=st,bE:=ni,bQ:=ns }) hlen,hlen,aN,ag] at *;exact h
theorem sN {α:Type}{xs:List α}{i:Nat}{t:α}(h:xs[i]? = some t):xs.set i t=xs:=by
 refine List.ext_getElem? fun j=>?_
 by_cases e:i=j
 ·subst e;rw[List.getElem?_set_self (an.1 h).1,h]
 ·rw[List.getElem?_set_ne e]
def xU (z w z' p':Int):Prop:=z=z'/\(z=0\/z=4\/w=p')
instance {z w z' p':Int}:Decidable (xU z w z' p'):=by unfold xU;exact inferInstance
theorem vT (s:aA)(z w:Int)(l:List Int)(z' p':Int)(h:z=0\/z=4\/(1<=z/\z<=3/\0<=w/\w < s.az.length)):bR (eU s z w l) z' p'=if xU z w z' p' then l else bR s z' p':=by
 rcases h with rfl|rfl|⟨h1,h2,h3,h4⟩
 ·have e:eU s 0 w l={ s with bw:=l }:=by unfold eU;rfl
  rw[e]
  by_cases hz:z'=0
  ·subst hz;rw[if_pos ⟨rfl,.inl rfl⟩];exact kg p'
  ·rw[if_neg fun h=>hz h.1.symm];unfold bR;rw[if_neg (show ¬ (z'==0)=true by simpa using hz),if_neg (show ¬ (z'==0)=true by simpa using hz)]
 ·have e:eU s 4 w l={ s with gn:=l }:=by unfold eU;rfl
  rw[e]
  by_cases hz:z'=4
  ·subst hz;rw[if_pos ⟨rfl,.inr (.inl rfl)⟩];exact lH p'
  ·rw[if_neg fun h=>hz h.1.symm];unfold bR;rw[if_neg (show ¬ (z'==4)=true by simpa using hz),if_neg (show ¬ (z'==4)=true by simpa using hz)]
 ·have aS:w.toNat < s.az.length:=by omega
  obtain⟨x,hx⟩:∃ x,s.az[w.toNat]? = some x:=⟨_,cD aS⟩
  have e:eU s z w l={ s with az:=s.az.set w.toNat (abA x z l) }:=by
   unfold eU;rw[if_neg (by simp;omega),if_neg (by simp;omega),if_neg (by omega),hx]
  rw[e]
  by_cases hs:xU z w z' p'
  ·rw[if_pos hs];obtain⟨rfl,hs⟩:=hs;obtain rfl:w=p':=hs.elim (fun h=>by omega) (fun h=>h.elim (fun h=>by omega) id);unfold bR;rw[if_neg (by simp;omega),if_neg (by simp;omega),if_neg (by simp only[bG];omega)];simp only[List.getElem?_set_self aS];unfold abA;rcases(by omega:z=1\/z=2\/z=3) with rfl|rfl|rfl <;> rfl
  ·rw[if_neg hs];unfold bR;simp only[bG];split
   ·rfl
   split
   ·rfl
   split
   ·rfl
   rename_i h0 Xs hp
   by_cases hw:w.toNat=p'.toNat
   ·have:w=p':=by omega
    subst this;have hz:¬ z=z':=fun e=>hs ⟨e,.inr (.inr rfl)⟩;simp only[List.getElem?_set_self aS,hx];have DQ:¬ z'=z:=fun e=>hz e.symm;rcases(by omega:z=1\/z=2\/z=3) with rfl|rfl|rfl <;> simp[abA,DQ]
   ·rw[List.getElem?_set_ne hw]
theorem Qw {l:List aE}(hs:l.Pairwise fun a b=>a.id < b.id){i:Nat}(hi:i < l.length){x:aE}:x∈l.take i++l.drop (i+1)↔x∈l/\x.id≠l[i].id:=by
 have hp:=cu.1 hs;rw[aX];constructor
 ·rintro(h|h)
  ·obtain⟨j,hj,rfl⟩:=bB.1 h;rw[aB] at hj;rw[List.getElem_take];have:=hp j i (by omega) hi (by omega);exact⟨aI _,by omega⟩
  ·obtain⟨j,hj,rfl⟩:=bB.1 h;rw[aL] at hj;rw[List.getElem_drop];have:=hp i (i+1+j) hi (by omega) (by omega);exact⟨aI _,by omega⟩
 ·rintro⟨h,gX⟩;obtain⟨j,hj,rfl⟩:=bB.1 h;rcases Nat.lt_trichotomy j i with h|h|h
  ·exact .inl (bB.2 ⟨j,by rw[aB];omega,by rw[List.getElem_take]⟩)
  ·subst h;exact absurd rfl gX
  ·exact .inr (bB.2 ⟨j - (i+1),by rw[aL];omega,by rw[List.getElem_drop];congr 1;omega⟩)
theorem Qv {l:List aE}(i:Nat):(l.take i++l.drop (i+1)).Sublist l:=by
 rw[<- List.eraseIdx_eq_take_drop_succ];exact List.eraseIdx_sublist l i
theorem IP (h:jE q c s){i:Nat}(hi:i < s.aa.length)(z p:Int):bR (kC s s.aa[i].id i s.aa[i]) z p=(bR s z p).filter fun x=>x != s.aa[i].id:=by
 have hm:=aI hi;have ho:=(h.obj _ hm).1;unfold sW at ho;simp only[ag,cb,decide_eq_false_iff_not] at ho;have e:bR (kC s s.aa[i].id i s.aa[i]) z p=bR (eU s s.aa[i].cg s.aa[i].fG ((bR s s.aa[i].cg s.aa[i].fG).filter fun x=>x != s.aa[i].id)) z p:=rfl;rw[e]
 have keep:¬ xU s.aa[i].cg s.aa[i].fG z p->bR s z p=(bR s z p).filter fun x=>x != s.aa[i].id:=fun hs=>by
  refine(List.filter_eq_self.2 fun x hx=>?_).symm;obtain⟨o,ho,h1,h2,h3⟩:=h.QZ z p x hx;rw[bne_iff_ne];intro e;have:=Bf h.qN ho hm (h1.trans e);subst this;refine hs ⟨h2,?_⟩;rw[h2];rcases h3 with h3|h3|h3
  ·exact .inl h3
  ·exact .inr (.inl h3)
  ·exact .inr (.inr h3)
 by_cases h5:s.aa[i].cg=5
 ·rw[h5]
  have e5:∀ l,eU s 5 s.aa[i].fG l=s:=fun l=>by
   unfold eU;rw[if_neg (by decide),if_neg (by decide)];split
   ·rfl
   ·split
    ·rename_i x hx;have:abA x 5 l=x:=rfl;rw[this];have:s.az.set s.aa[i].fG.toNat x=s.az:=sN hx;rw[this]
    ·rfl
  rw[e5];refine(List.filter_eq_self.2 fun x hx=>?_).symm;obtain⟨o,ho,h1,h2,h3⟩:=h.QZ z p x hx;rw[bne_iff_ne];intro e;have:=Bf h.qN ho hm (h1.trans e);subst this;rw[h5] at h2;rcases s7 s z p with e|⟨rfl,e⟩|⟨rfl,e⟩|⟨j,hj,rfl,⟨rfl,e⟩|⟨rfl,e⟩|⟨rfl,e⟩⟩
  ·rw[e] at hx;cases hx
  all_goals omega
 ·rw[vT _ _ _ _ _ _ (by omega)];split
  ·rename_i hs;obtain⟨h1,h2⟩:=hs
   have:bR s s.aa[i].cg s.aa[i].fG=bR s z p:=by
    rw[h1] at h2 ⊢;rcases h2 with rfl|rfl|rfl
    ·rw[kg,kg]
    ·rw[lH,lH]
    ·rfl
   rw[this]
  ·rename_i hs;exact keep hs
theorem _root_.Cg.jE.rem (h:jE q c s){i:Nat}(hi:i < s.aa.length):jE q c (kC s s.aa[i].id i s.aa[i]):=by
 have hl:=IP h hi;obtain⟨b,x,pl,e,hlen,mq⟩:=nS s s.aa[i].cg s.aa[i].fG ((bR s s.aa[i].cg s.aa[i].fG).filter fun y=>y != s.aa[i].id)
 have hT:kC s s.aa[i].id i s.aa[i]={ s with bw:=b,gn:=x,az:=pl,aa:=s.aa.take i++s.aa.drop (i+1),stack:=s.stack.filter (jI s.aa[i].id) }:=by
  unfold kC;rw[e]
 rw[hT] at hl ⊢;have hm:=aI hi;have JN:=fun y=>Qw h.qN hi (x:=y);refine⟨h.GX,h.iE,?_,by rw[hlen];exact h.YA,Gu hlen h.sc,mq h.W8,h.qN.sublist (Qv i),fun o ho=>?_,fun z p id hid=>?_,fun z p=>by rw[hl];exact List.Pairwise.filter _ (h.W9 z p),fun o ho h5=>?_,fun o ho h5=>?_,?_,List.Pairwise.filter _ h.Pt,fun y hy=>?_,⟨h.wt.1,fun y hy=>by rw[u5 (s:=s) hlen];exact h.wt.2 y hy⟩,h.Wx.1,fun y hy=>wJ (s:=s) (by exact hlen) (by exact Int.le_refl _) (h.Wx.2 y hy)⟩
 ·have:=h.ER;simp only[au,aB,aL];omega
 ·rw[hlen];exact h.obj o ((JN o).1 ho).1
 ·rw[hl] at hid;obtain⟨h1,h2⟩:=List.mem_filter.1 hid;obtain⟨o,g1,g2,g3⟩:=h.QZ z p id h1;rw[bne_iff_ne] at h2;exact⟨o,(JN o).2 ⟨g1,by rw[g2];exact h2⟩,g2,g3⟩
 ·obtain⟨h1,h2⟩:=(JN o).1 ho;rw[hl];exact List.mem_filter.2 ⟨h.plc o h1 h5,by rw[bne_iff_ne];exact h2⟩
 ·obtain⟨h1,h2⟩:=(JN o).1 ho;obtain⟨y,hy,g1,g2⟩:=h.Qu o h1 h5;refine⟨y,List.mem_filter.2 ⟨hy,?_⟩,g1,g2⟩;unfold jI;rw[g2,cm];exact .inr (by rw[bne_iff_ne];exact h2)
 ·have:=h.Ms;have:=cx (jI s.aa[i].id) s.stack;show((s.stack.filter (jI s.aa[i].id)).length:Int)<=64;omega
 ·obtain⟨hy,hk⟩:=List.mem_filter.1 hy;obtain⟨h1,⟨h2,h3,h4⟩,h5⟩:=h.itm y hy;refine⟨h1,⟨h2,h3,by rw[BR (s:=s) hlen];exact h4⟩,?_⟩;rcases h5 with⟨g1,g2,⟨o,g3,g4,g5⟩,g6⟩|⟨g1,g2,g3⟩
  ·refine .inl ⟨g1,g2,⟨o,(JN o).2 ⟨g3,?_⟩,g4,g5⟩,g6⟩;unfold jI at hk;rw[g1] at hk;simp at hk;rw[g4];exact hk
  ·exact .inr ⟨g1,fun o ho=>g2 o ((JN o).1 ho).1,g3⟩
theorem _root_.Cg.jE.add {s':aA}(h:jE q c s)(x:aE)(hn:s.bE+1<=1000001/\s.bQ+1<=1000001)(e1:s'.bE=s.bE+1)(e2:s'.bQ=s.bQ+1)(eo:s'.aa=s.aa++[x])(hl:s.aa.length+1<=2048)(ep:s'.az.length=s.az.length)(hp:∀ p∈s'.az,nt p=true)(hsc:Uh s'=true)(est:s'.stack=s.stack)(ew:s'.aaJ=s.aaJ)(ec:s'.dG=s.dG)(hx:sW x c s.az.length=true/\x.id=s.bE/\x.du=s.bQ/\x.cg≠5)
  (hL:∀ z p,(bR s' z p).Perm (if xU x.cg x.fG z p then x.id :: bR s z p else bR s z p)):jE q c s':=by
 obtain⟨OX,KJ,hx3,hx5⟩:=hx;have h0:=h.GX;have h1:=h.iE
 have hold:∀ z p id,id∈bR s z p->id < s.bE:=fun z p id hid=>by
  obtain⟨o,ho,g1,_⟩:=h.QZ z p id hid;rw[<- g1];exact(h.obj o ho).2.1
 refine⟨by omega,by omega,by rw[eo,au];simp;omega,by rw[ep];exact h.YA,hsc,hp,?_,fun o ho=>?_,fun z p id hid=>?_,fun z p=>?_,fun o ho h5=>?_,fun o ho h5=>?_,by rw[est];exact h.Ms,by rw[est];exact h.Pt,fun y hy=>?_,?_,?_⟩
 ·rw[eo,List.pairwise_append];refine⟨h.qN,List.pairwise_singleton _ _,fun a ha b hb=>?_⟩;rw[aJ.1 hb,KJ];exact(h.obj a ha).2.1
 ·rw[ep,e1,e2];rw[eo] at ho;rcases aX.1 ho with ho|ho
  ·have:=h.obj o ho;exact⟨this.1,by omega,by omega⟩
  ·rw[aJ.1 ho];exact⟨OX,by omega,by omega⟩
 ·rw[eo];have hid:=(hL z p).mem_iff.1 hid
  have mi:id∈bR s z p->∃ o∈s.aa++[x],o.id=id/\o.cg=z/\(z=0\/z=4\/o.fG=p):=fun hid=>by
   obtain⟨o,ho,g⟩:=h.QZ z p id hid;exact⟨o,bH _ ho,g⟩
  split at hid
  ·rename_i hs;rcases List.mem_cons.1 hid with rfl|hid
   ·refine⟨x,bJ _ aC,rfl,hs.1,?_⟩;rw[<- hs.1];exact hs.2
   ·exact mi hid
  ·exact mi hid
 ·refine(hL z p).nodup_iff.2 ?_;split
  ·exact List.nodup_cons.2 ⟨fun hm=>by have:=hold z p _ hm;omega,h.W9 z p⟩
  ·exact h.W9 z p
 ·rw[eo] at ho;refine(hL _ _).mem_iff.2 ?_;rcases aX.1 ho with ho|ho
  ·have:=h.plc o ho h5;split
   ·exact aK _ this
   ·exact this
  ·rw[aJ.1 ho,if_pos ⟨rfl,.inr (.inr rfl)⟩];exact aC
 ·rw[est];rw[eo] at ho;rcases aX.1 ho with ho|ho
  ·exact h.Qu o ho h5
  ·rw[aJ.1 ho] at h5;exact absurd h5 hx5
 ·rw[est] at hy;obtain⟨h1,⟨h2,h3,h4⟩,h5⟩:=h.itm y hy;refine⟨by rw[e1];omega,⟨h2,h3,by rw[BR (s:=s) ep];exact h4⟩,?_⟩;rw[eo];rcases h5 with⟨g1,g2,⟨o,g3,g4⟩,g6⟩|⟨g1,g2,g3⟩
  ·exact .inl ⟨g1,g2,⟨o,bH _ g3,g4⟩,g6⟩
  ·refine .inr ⟨g1,fun o ho=>?_,g3⟩;rcases aX.1 ho with ho|ho
   ·exact g2 o ho
   ·rw[aJ.1 ho];omega
 ·rw[ew];exact⟨h.wt.1,fun y hy=>by rw[u5 (s:=s) ep];exact h.wt.2 y hy⟩
 ·rw[ec];exact⟨h.Wx.1,fun y hy=>wJ (s:=s) ep (by omega) (h.Wx.2 y hy)⟩
end
theorem D4 (k:Int)(o:aE):(oA k o).id=o.id/\(oA k o).cg=o.cg/\(oA k o).fG=o.fG/\(oA k o).du=o.du/\(oA k o).token=o.token/\(oA k o).dK=o.dK:=by
 unfold oA;split <;> exact⟨rfl,rfl,rfl,rfl,rfl,rfl⟩
theorem aeY (l:List aE)(id:Int)(g:aE->aE)(hg:∀ o,(g o).id=o.id):er (l.map g) id=er l id:=by
 unfold er;rw[List.find?_map,Option.isSome_map];congr 2
 funext o
 simp[hg]
theorem J5 (l:List aE)(id:Int)(g:aE->aE)(hg:∀ o,(g o).id=o.id)(h:er l id=true):b9 (l.map g) id=g (b9 l id):=by
 unfold er at h;unfold b9;rw[List.find?_map]
 have e:((fun o:aE=>o.id==id) ∘ g)=fun o=>o.id==id:=by
  funext o
  simp[hg]
 rw[e]
 cases hf:l.find? fun o=>o.id==id with
 | none=>rw[hf] at h;cases h
 | some o=>rfl
theorem uJ {l:List aE}{id:Int}(h:er l id=true):∃ (i:Nat) (hi:i < l.length),l.findIdx? (fun o=>o.id==id)=some i/\b9 l id=l[i]/\l[i].id=id:=by
 have hm:=fV h;unfold er at h;unfold b9 at hm ⊢;rcases im (fun o:aE=>o.id==id) l with⟨_,_,e⟩|⟨i,hi,_,e1,e2⟩
 ·rw[e] at h;cases h
 ·rw[e2] at hm ⊢;exact⟨i,hi,e1,rfl,hm.2⟩
section
variable {q:tp}{c:Int}{s:aA}
theorem fm (n:Int):-1000000<=dd n/\dd n<=1000000:=by
 unfold dd;split
 ·omega
 split <;> omega
theorem oc (a b:Int):0<=mB a b/\mB a b<=1000000:=by
 have:=fm (dd a+dd b);unfold mB ff;split <;> omega
theorem De {n:Int}(h0:-1000000<=n)(h1:n<=1000000):dd n=n:=by
 unfold dd;rw[if_neg (by omega),if_neg (by omega)]
theorem zr:(0:Int)<=0/\(0:Int)<=1000000:=by decide
structure AU (c n:Int)(o:aE):Prop where
 id:1<=o.id
 dK:0<=o.dK/\o.dK < c
 own:0<=o.fG/\o.fG < n
 ctl:0<=o.aaB/\o.aaB < n
 cg:0<=o.cg/\o.cg<=5
 dmg:0<=o.fD/\o.fD<=1000000
 du:0<=o.du/\o.du<=1000000
 blocks:0<=o.blocks/\o.blocks<=1000000
 nh:0<=o.nh/\o.nh<=1000000
 c0:0<=o.cL/\o.cL<=1000000
 c1:0<=o.cK/\o.cK<=1000000
 c2:0<=o.dh/\o.dh<=1000000
 copy:-1<=o.copy/\o.copy < c
 att:-1<=o.jD/\o.jD < n
 rest:o.cg=0\/zm o=true
theorem nv {c n:Int}{o:aE}:sW o c n=true↔AU c n o:=by
 unfold sW TN;simp only[ag,cm,cb,decide_eq_false_iff_not,beq_iff_eq];refine⟨fun ⟨⟨a1,a2,a3,a4,a5,a6,a7,a8,a9⟩,⟨b1,b2,b3,b4,b5,b6,b7,b8⟩,⟨⟨⟨c1,c2⟩,⟨c3,c4⟩,c5,c6⟩,d1,d2,d3,d4⟩,r⟩=>?_,fun h=>?_⟩
 ·exact⟨by omega,by omega,by omega,by omega,by omega,by omega,by omega,by omega,by omega,by omega,by omega,by omega,by omega,by omega,r⟩
 ·obtain⟨h1,h2,h3,h4,h5,h6,h7,h8,h9,k1,k2,k3,k4,k5,k6⟩:=h;exact⟨⟨by omega,by omega,by omega,by omega,by omega,by omega,by omega,by omega,by omega⟩,⟨by omega,by omega,by omega,by omega,by omega,by omega,by omega,by omega⟩,⟨⟨⟨by omega,by omega⟩,⟨by omega,by omega⟩,by omega,by omega⟩,by omega,by omega,by omega,by omega⟩,k6⟩
theorem BN {l:List aE}(hs:l.Pairwise fun a b=>a.id < b.id){o o':aE}(ho:o∈l)(e:o'.id=o.id):o7 l o'=l.map fun y=>if y.id=o.id then o' else y:=by
 obtain⟨i,hi,e1,_,e3⟩:=uJ (js.2 ⟨o,ho,rfl⟩);unfold o7;rw[e,e1];refine List.ext_getElem? fun j=>?_;rw[bp]
 by_cases hj:i=j
 ·subst hj;rw[List.getElem?_set_self hi,cD hi];simp only[Option.map_some];rw[if_pos e3]
 ·rw[List.getElem?_set_ne hj]
  cases hq:l[j]? with
  | none=>rfl
  | some y=>
   obtain⟨nE,rfl⟩:=an.1 hq
   have:¬ l[j].id=o.id:=fun e=>by
    have hp:=cu.1 hs;rcases Nat.lt_or_gt_of_ne hj with h|h
    ·have:=hp i j hi nE h;omega
    ·have:=hp j i nE hi h;omega
   simp only[Option.map_some];rw[if_neg this]
theorem zw (h:jE q c s){o o':aE}(ho:o∈s.aa)(e:o'.id=o.id/\o'.cg=o.cg/\o'.fG=o.fG/\o'.du=o.du)(s8:AU c s.az.length o'):jE q c (eM s o'):=by
 unfold eM;rw[BN h.qN ho e.1];refine h.map _ fun y hy=>?_;split
 ·rename_i hid;have:=Bf h.qN hy ho hid;subst this;exact⟨e.1,e.2.1,e.2.2.1,e.2.2.2,nv.2 s8⟩
 ·exact⟨rfl,rfl,rfl,rfl,(h.obj y hy).1⟩
theorem jP {o:aE}(h:jE q c s)(ho:o∈s.aa):AU c s.az.length o:=nv.1 (h.obj o ho).1
theorem Gc (h:jE q c s)(k:Int):jE q c (rG s k):=h.map _ fun o ho=>by
 obtain⟨h1,h2,h3,h4,_⟩:=D4 k o;refine⟨h1,h2,h3,h4,?_⟩;have hv:=jP h ho;unfold oA;split
 ·obtain⟨g1,g2,g3,g4,g5,g6,g7,g8,g9,k1,k2,k3,k4,k5,k6⟩:=hv;refine nv.2 ⟨g1,g2,g3,g4,g5,g6,g7,zr,g9,k1,k2,k3,k4,k5,k6.imp id fun hr=>?_⟩;unfold zm at *;simp only[ag] at *;obtain⟨a,b,_,d⟩:=hr;exact⟨a,b,rfl,d⟩
 ·exact nv.2 hv
theorem Sa {n:Int}{o:aE}(hv:AU c n o)(h0:o.cg=0)(e:bV):AU c n (NY e o):=by
 obtain⟨g1,g2,g3,g4,g5,g6,g7,g8,g9,k1,k2,k3,k4,k5,k6⟩:=hv;exact⟨g1,g2,g3,g4,g5,g6,g7,g8,g9,oc _ _,oc _ _,oc _ _,k4,k5,.inl h0⟩
theorem Ss (h:jE q c s)(id:Int)(e:bV)(h0:er s.aa id=true->(b9 s.aa id).cg=0):jE q c (ld s id e):=by
 unfold ld
 by_cases hh:er s.aa id=true
 ·rw[if_pos hh];have hm:=(fV hh).1;exact zw h hm ⟨rfl,rfl,rfl,rfl⟩ (Sa (jP h hm) (h0 hh) e)
 ·rw[if_neg hh];exact h
theorem BO {l:List aE}{x:aE}(h:∀ y∈l,y.id < x.id):o7 l x=l++[x]:=by
 unfold o7
 have e:l.findIdx? (fun y=>y.id==x.id)=none:=List.findIdx?_eq_none_iff.2 fun y hy=>by
  have:=h y hy;simp only[beq_eq_false_iff_ne,ne_eq];omega
 rw[e];show JD l x=_;unfold JD;have e2:(l.takeWhile fun y=>decide (y.id < x.id)).length=l.length:=kT _ l l.length (al _) (fun j hj _=>decide_eq_true (h _ (aI hj))) (.inl rfl);rw[e2,bm,List.drop_length,aZ]
theorem QO {n id dK p z st:Int}(h1:1<=id)(h2:0<=dK/\dK < c)(h3:0<=p/\p < n)(h4:0<=z/\z<=4)(h5:0<=st/\st<=1000000)(tk:Bool)(ct:Int)(h6:0<=ct/\ct < n):AU c n { qc id dK p z st with token:=tk,aaB:=ct,oY:=z==0 }:=by
 refine⟨h1,h2,h3,h6,⟨h4.1,show z<=5 by omega⟩,zr,h5,zr,zr,zr,zr,zr,⟨Int.le_refl _,show(-1:Int) < c by omega⟩,⟨Int.le_refl _,show(-1:Int) < n by omega⟩,?_⟩
 by_cases hz:z=0
 ·exact .inl hz
 ·right;have:(z==0)=false:=by simpa using hz
  unfold zm qc uq;simp only[this];rfl
theorem My (i:Nat)(o:aE)(id:Int):(kC s id i o).bE=s.bE/\(kC s id i o).bQ=s.bQ/\(kC s id i o).az.length=s.az.length:=by
 obtain⟨b,x,pl,e,hlen,_⟩:=nS s o.cg o.fG ((bR s o.cg o.fG).filter fun y=>y != id);unfold kC;rw[e];exact⟨rfl,rfl,hlen⟩
structure aaC (q:tp)(c:Int)(s:aA)(z:Int)(r:aA × Int):Prop where
 val:jE q c r.1
 GX:s.bE<=r.1.bE/\r.1.bE<=s.bE+1
 fnd:er r.1.aa r.2=true->(b9 r.1.aa r.2).cg=z
theorem qe (h:jE q c s)(id z p:Int)(b:Bool)(hid:er s.aa id=true)(hz:0<=z/\z<=4)(hp:0<=p/\p < s.az.length)(hn:s.bE+1<=1000001/\s.bQ+1<=1000001):aaC q c s z (jH s id z p b):=by
 obtain⟨i,hi,e1,_,rfl⟩:=uJ hid;have hv:=jP h (aI hi);have hR:=h.rem hi;obtain⟨n1,n2,n3⟩:=My (s:=s) i s.aa[i] s.aa[i].id
 have n4:(kC s s.aa[i].id i s.aa[i]).aa.length+1=s.aa.length:=by
  show(s.aa.take i++s.aa.drop (i+1)).length+1=_;simp only[au,aB,aL];omega
 unfold jH;rw[e1];simp only[cD hi];unfold mj;rw[if_neg (by omega)];generalize kC s s.aa[i].id i s.aa[i]=R at *;have h1:=hR.GX;have h2:=hR.iE;split
 ·refine⟨hR,⟨by show s.bE<=R.bE;omega,by show R.bE<=s.bE+1;omega⟩,fun hh=>?_⟩;obtain⟨o,ho,e⟩:=js.1 hh;have h3:=(jP hR ho).id;have e:o.id=0:=e;omega
 ·obtain⟨x,hx⟩:∃ x,x=yk R s.aa[i] z p:=⟨_,rfl⟩
  rw[<- hx]
  have KI:AU c R.az.length x:=by
   rw[hx,n3];refine QO h1.1 hv.dK hv.own hz ⟨by omega,by omega⟩ _ _ ?_;have:=hv.own;split <;> omega
  have x1:x.id=R.bE:=by rw[hx];rfl
  have x2:x.du=R.bQ:=by rw[hx];rfl
  have x3:x.cg=z:=by rw[hx];rfl
  have x4:x.fG=s.aa[i].fG:=by rw[hx];rfl
  have iU:∀ y∈R.aa,y.id < x.id:=fun y hy=>by rw[x1];exact(hR.obj y hy).2.1
  have aeH:o7 R.aa x=R.aa++[x]:=BO iU;unfold GY;generalize hL:(if (z==2&&!b)=true then x.id :: bR (eM R x) z x.fG else bR (eM R x) z x.fG++[x.id])=L
  have hLp:L.Perm (x.id :: bR R z x.fG):=by
   rw[<- hL];split
   ·exact .refl _
   ·exact List.perm_append_singleton _ _
  obtain⟨bf,ex,pl,e,hlen,mq⟩:=nS (eM R x) z x.fG L;have hw:∀ n:Int,1<=n->n<=1000001->IntKind.i64.wrap (n+1)=n+1:=fun n _ _=>by rw[ak];omega
  have hT:qd (eU (eM R x) z x.fG L)={ R with bw:=bf,gn:=ex,az:=pl,aa:=R.aa++[x],bE:=R.bE+1,bQ:=R.bQ+1 }:=by
   rw[e];unfold qd eM;simp only[aeH,hw _ h1.1 h1.2,hw _ h2.1 h2.2]
  have qp:jE q c (qd (eU (eM R x) z x.fG L)):=by
   have VL:∀ z' p',bR (qd (eU (eM R x) z x.fG L)) z' p'=bR (eU (eM R x) z x.fG L) z' p':=fun _ _=>rfl;refine hR.add x ⟨by omega,by omega⟩ ?_ ?_ ?_ ?_ ?_ ?_ ?_ ?_ ?_ ?_ ⟨nv.2 KI,x1,x2,by omega⟩ fun z' p'=>?_
   ·rw[hT]
   ·rw[hT]
   ·rw[hT]
   ·have:=h.ER;omega
   ·rw[hT];exact hlen
   ·rw[hT];exact mq hR.W8
   ·rw[hT];exact Gu hlen hR.sc
   ·rw[hT]
   ·rw[hT]
   ·rw[hT]
   ·rw[VL,vT _ _ _ _ _ _ (by have:=KI.own;have:(eM R x).az.length=R.az.length:=rfl;omega),x3];split
    ·rename_i hs
     have:bR R z x.fG=bR R z' p':=by
      obtain⟨rfl,hs⟩:=hs;rcases hs with rfl|rfl|rfl
      ·rw[kg,kg]
      ·rw[lH,lH]
      ·rfl
     rw[<- this];exact hLp
    ·exact .refl _
  refine⟨qp,?_,fun hh=>?_⟩
  ·show s.bE<=(qd (eU (eM R x) z x.fG L)).bE/\(qd (eU (eM R x) z x.fG L)).bE<=s.bE+1;rw[hT];exact⟨show s.bE<=R.bE+1 by omega,show R.bE+1<=s.bE+1 by omega⟩
  ·have hm:x∈(qd (eU (eM R x) z x.fG L)).aa:=by
    rw[hT];exact bJ _ aC
   show(b9 (qd (eU (eM R x) z x.fG L)).aa x.id).cg=z;rw[wC qp.qN hm];exact x3
end
section
variable {q:tp}{c:Int}{s:aA}
theorem F9 (h:jE q c s):er s.aa 0=false:=by
 rw[<- Bool.not_eq_true,js];rintro⟨o,ho,e⟩;have:=(jP h ho).id;omega
structure mQ (q:tp)(c k:Int)(s t:aA):Prop where
 val:jE q c t
 GX:s.bE<=t.bE/\t.bE<=s.bE+k
theorem mQ.refl (h:jE q c s){k:Int}(hk:0<=k):mQ q c k s s:=⟨h,Int.le_refl _,by omega⟩
theorem Sv (id:Int)(e:bV):(ld s id e).bE=s.bE/\(ld s id e).bQ=s.bQ/\(ld s id e).az=s.az:=by
 unfold ld;split <;> exact⟨rfl,rfl,rfl⟩
theorem Va (h:jE q c s)(e:bV)(hid:er s.aa e.aO=true)(hz:0<=e.nQ/\e.nQ<=4)(hp:0<=e.bC/\e.bC < s.az.length)(hn:s.bE+1<=1000001/\s.bQ+1<=1000001):mQ q c 1 s (EW s e):=by
 obtain⟨s0,Xg⟩:∃ s0,s0=(if e.from_=0 then rG s e.aO else s):=⟨_,rfl⟩
 have h0:jE q c s0/\er s0.aa e.aO=true/\s0.bE=s.bE/\s0.bQ=s.bQ/\s0.az=s.az:=by
  rw[Xg];split
  ·exact⟨Gc h _,by rw[show(rG s e.aO).aa=s.aa.map (oA e.aO) from rfl,aeY _ _ _ fun o=>(D4 _ o).1];exact hid,rfl,rfl,rfl⟩
  ·exact⟨h,hid,rfl,rfl,rfl⟩
 obtain⟨h1,h2,h3,h4,h5⟩:=h0;have hm:=qe h1 e.aO e.nQ e.bC (e.bq==1) h2 hz (by rw[h5];exact hp) (by omega);have anN:=hm.GX;unfold EW;rw[<- Xg];simp only;split
 ·rename_i ht;refine⟨Ss hm.val _ _ fun hh=>by rw[hm.fnd hh,ht],?_⟩;rw[(Sv _ _).1];omega
 ·exact⟨hm.val,by omega⟩
theorem pW {p:cq}:nt p=true↔(-1000000<=p.je/\p.je<=1000000)/\(0<=p.kH/\p.kH<=1000000)/\(0<=p.Cm/\p.Cm<=1000000)/\DZ p.ye p.yd p.yc p.yb p.ya p.x9=true:=by
 unfold nt;rw[ag,ag,ag,qo,qo,qo]
theorem MT (h:jE q c s)(e:bV)(hp:0<=e.bC/\e.bC < s.az.length)(ha:e.kind≠17->1<=e.bq)(hb:∀ p∈s.az,p.cW.length<=1099511627776):jE q c (jq s e):=by
 have aS:e.bC.toNat < s.az.length:=by omega
 have hx:s.az[e.bC.toNat]? = some s.az[e.bC.toNat]:=cD aS;unfold jq;rw[hx];simp only;generalize hxx:s.az[e.bC.toNat]=x at *;have hm:x∈s.az:=by rw[<- hxx];exact aI aS
 have hN:=h.W8 x hm;have ZA:=pW.1 hN;unfold Kp;split
 ·exact h.Jf _ _ hx (pW.2 ⟨fm _,ZA.2⟩) (.refl _) (.refl _) (.refl _)
 split
 ·exact h.Jf _ _ hx (pW.2 ⟨fm _,ZA.2⟩) (.refl _) (.refl _) (.refl _)
 split
 ·rename_i h16;refine h.Jf _ _ hx (pW.2 ⟨ZA.1,⟨?_,(fm _).2⟩,ZA.2.2⟩) (.refl _) (.refl _) (.refl _);show 0<=dd (dd x.kH+dd e.bq);have h1:=ZA.2.1;rw[De (n:=x.kH) (by omega) (by omega)];have h2:=ha (by omega)
  have h3:0<=dd e.bq:=by
   unfold dd;split
   ·omega
   split <;> omega
  unfold dd at h3 ⊢;split
  ·omega
  split <;> omega
 split
 ·exact h.Jf _ _ hx hN (.refl _) (Eg _ _ (hb x hm)) (.refl _)
 ·exact h.Jf _ _ hx hN (.refl _) (.refl _) (.refl _)
theorem N3 (h:jE q c s)(p:Int)(hp:0<=p/\p < s.az.length)(hn:s.bE+1<=1000001/\s.bQ+1<=1000001):mQ q c 1 s (lO s p):=by
 have aS:p.toNat < s.az.length:=by omega
 have hx:s.az[p.toNat]? = some s.az[p.toNat]:=cD aS;unfold lO;rw[hx];simp only;split
 ·unfold K0;rw[hx];exact⟨h.Jf _ s.gq hx (show nt s.az[p.toNat]=true from h.W8 _ (aI aS)) (.refl _) (.refl _) (.refl _),Int.le_refl _,show s.bE<=s.bE+1 by omega⟩
 ·rename_i id rest hl
  have hid:id∈bR s 2 p:=by
   obtain⟨n,rfl⟩:∃ n:Nat,p=n:=⟨p.toNat,by omega⟩
   rw[Cc (by omega)];have:(n:Int).toNat=n:=by omega
   rw[show s.az[n]=s.az[(n:Int).toNat] from rfl,hl];exact aC
  obtain⟨o,ho,e1,_⟩:=h.QZ 2 p id hid;have hm:=qe h id 1 p false (js.2 ⟨o,ho,e1⟩) (by omega) hp hn;exact⟨hm.val,hm.GX⟩
theorem ll {i k a n:Int}(h:0<=a/\a<=1000000):0<=upC i k a n/\upC i k a n<=1000000:=by
 unfold upC;split
 ·exact oc _ _
 ·exact h
theorem E8 (d:Bool)(e:bV)(o:aE):(gz d e o).id=o.id/\(gz d e o).cg=o.cg/\(gz d e o).fG=o.fG/\(gz d e o).du=o.du:=by
 unfold gz
 repeat' (first|exact⟨rfl,rfl,rfl,rfl⟩|split)
theorem MG {n:Int}{o:aE}(hv:AU c n o)(h0:o.cg=0)(d:Bool)(e:bV)(ha:e.kind=1->1<=e.bq)(hp:e.kind=12->0<=e.bC/\e.bC < n)(hs:e.kind=13->0<=e.fp/\e.fp<=1000000):AU c n (gz d e o):=by
 obtain⟨g1,g2,g3,g4,g5,g6,g7,g8,g9,k1,k2,k3,k4,k5,k6⟩:=hv;unfold gz;split
 ·rename_i hk;refine⟨g1,g2,g3,g4,g5,⟨?_,(fm _).2⟩,g7,g8,g9,k1,k2,k3,k4,k5,.inl h0⟩;show 0<=dd (dd o.fD+dd e.bq);have h2:=ha hk;rw[De (n:=o.fD) (by omega) (by omega)]
  have h3:0<=dd e.bq:=by
   unfold dd;split
   ·omega
   split <;> omega
  unfold dd at h3 ⊢;split
  ·omega
  split <;> omega
 split
 ·exact⟨g1,g2,g3,g4,g5,g6,g7,g8,g9,k1,k2,k3,k4,k5,.inl h0⟩
 split
 ·exact⟨g1,g2,g3,g4,g5,g6,g7,g8,g9,k1,k2,k3,k4,k5,.inl h0⟩
 split
 ·exact⟨g1,g2,g3,g4,g5,g6,g7,g8,g9,ll k1,ll k2,ll k3,k4,k5,.inl h0⟩
 split
 ·exact⟨g1,g2,g3,g4,g5,g6,g7,g8,g9,ll k1,ll k2,ll k3,k4,k5,.inl h0⟩
 split
 ·rename_i hk;have:=hp hk;exact⟨g1,g2,g3,g4,g5,g6,g7,g8,g9,k1,k2,k3,k4,⟨show -1<=e.bC by omega,this.2⟩,.inl h0⟩
 split
 ·rename_i hk;exact⟨g1,g2,g3,g4,g5,g6,g7,hs hk,g9,k1,k2,k3,k4,k5,.inl h0⟩
 ·exact⟨g1,g2,g3,g4,g5,g6,g7,g8,g9,k1,k2,k3,k4,k5,k6⟩
theorem mu {id:Int}(h:iY s id=true):er s.aa id=true/\(b9 s.aa id).cg=0:=by
 unfold iY at h;rw[ag,beq_iff_eq] at h;exact h
theorem Me (h:jE q c s){o o':aE}(ho:o∈s.aa)(e:o'.id=o.id)(ez:o'.cg=o.cg){id:Int}(hh:iY s id=true):iY (eM s o') id=true:=by
 obtain⟨h1,h2⟩:=mu hh
 have hg:∀ y:aE,((fun y:aE=>if y.id=o.id then o' else y) y).id=y.id:=fun y=>by
  simp only;split
  ·rename_i hy;rw[e,hy]
  ·rfl
 unfold iY;rw[show(eM s o').aa=s.aa.map fun y=>if y.id=o.id then o' else y from BN h.qN ho e,aeY _ _ _ hg,h1,J5 _ _ _ hg h1];simp only[Bool.true_and,beq_iff_eq];split
 ·rename_i hy;have:=Bf h.qN (fV h1).1 ho hy;rw[ez,<- this];exact h2
 ·exact h2
theorem Mr (h:jE q c s)(all:List aG)(e:bV)(h0:er s.aa e.aO=true->(b9 s.aa e.aO).cg=0)(ha:e.kind=1->1<=e.bq)(hp:e.kind=12->0<=e.bC/\e.bC < s.az.length)(hs:e.kind=13->iY s e.fp=true):jE q c (gy s all e)/\(gy s all e).bE=s.bE:=by
 unfold gy
 by_cases hh:er s.aa e.aO=true
 ·rw[if_pos hh];have hm:=(fV hh).1
  have Vx:e.kind=13->0<=e.fp/\e.fp<=1000000:=fun hk=>by
   obtain⟨g1,_⟩:=mu (hs hk);obtain⟨g2,g3⟩:=fV g1;have g4:=(jP h g2).id;have g5:=(h.obj _ g2).2.1;have:=h.GX;omega
  have h1:=zw h hm (E8 (fT s all e.fp) e (b9 s.aa e.aO)) (MG (jP h hm) (h0 hh) _ e ha hp Vx);simp only;split
  ·rename_i hk;have hq:=Me h hm (E8 (fT s all e.fp) e (b9 s.aa e.aO)).1 (E8 (fT s all e.fp) e (b9 s.aa e.aO)).2.1 (hs hk);obtain⟨s1,Cy⟩:∃ s1,s1=eM s (gz (fT s all e.fp) e (b9 s.aa e.aO)):=⟨_,rfl⟩
   have uF:s1.bE=s.bE:=by rw[Cy];rfl
   rw[<- Cy] at h1 hq ⊢;obtain⟨g1,g2⟩:=mu hq;have gm:=(fV g1).1;obtain⟨v1,v2,v3,v4,v5,v6,v7,v8,v9,w1,w2,w3,w4,w5,_⟩:=jP h1 gm;exact⟨zw (o':={ b9 s1.aa e.fp with blocked:=true }) h1 gm ⟨rfl,rfl,rfl,rfl⟩ ⟨v1,v2,v3,v4,v5,v6,v7,v8,v9,w1,w2,w3,w4,w5,.inl g2⟩,uF⟩
  ·exact⟨h1,rfl⟩
 ·rw[if_neg hh];exact⟨h,rfl⟩
theorem vS {p:Int}(h:kX s p=true):0<=p/\p < s.az.length:=by
 unfold kX at h;split at h
 ·rename_i x hx;rw[ag,decide_eq_true_eq] at h;have:=(an.1 hx).1;omega
 ·cases h
theorem F2 {n:Int}(h:qG n=true):1<=n/\n<=1000000:=by
 unfold qG at h;rw[ag,decide_eq_true_eq,decide_eq_true_eq] at h;exact h
theorem Wu {cards:List bX}(h:jE q cards.length s)(all:List aG)(e:bV)(hn:s.bE<=1000000/\s.bQ<=1000000)(mw:¬ e.kind=10)(hb:∀ p∈s.az,p.cW.length<=1099511627776):mQ q cards.length 100 s (wG cards s all e):=by
 have up:∀ {t:aA} {k:Int},k<=100->mQ q cards.length k s t->mQ q cards.length 100 s t:=fun hk h=>⟨h.val,h.GX.1,by have:=h.GX;omega⟩
 unfold wG
 by_cases dZ:oN cards s e=true
 case neg=>rw[if_neg dZ];exact mQ.refl h (by decide)
 rw[if_pos dZ]
 have obj:(e.kind=1\/e.kind=6\/e.kind=7\/e.kind=8\/e.kind=9\/e.kind=12\/e.kind=13)->iJ s all e=gy s all e:=fun hk=>by
  unfold iJ;rw[if_neg (by omega),if_neg (by omega),if_neg (by omega),if_pos hk]
 have je:(e.kind=4\/e.kind=5\/e.kind=16\/e.kind=17)->iJ s all e=jq s e:=fun hk=>by
  unfold iJ;rw[if_neg (by omega),if_pos hk]
 have Jk:(e.kind=1\/e.kind=6\/e.kind=7\/e.kind=8\/e.kind=9\/e.kind=12\/e.kind=13)->(er s.aa e.aO=true->(b9 s.aa e.aO).cg=0)->(e.kind=1->1<=e.bq)->(e.kind=12->0<=e.bC/\e.bC < s.az.length)->(e.kind=13->iY s e.fp=true)->mQ q cards.length 100 s (iJ s all e):=fun hk g1 g2 g3 g4=>by
  rw[obj hk];obtain⟨a1,a2⟩:=Mr h all e g1 g2 g3 g4;exact⟨a1,by omega⟩
 have Te:(e.kind=4\/e.kind=5\/e.kind=16\/e.kind=17)->0<=e.bC/\e.bC < s.az.length->(e.kind≠17->1<=e.bq)->mQ q cards.length 100 s (iJ s all e):=fun hk g1 g2=>by
  rw[je hk];refine⟨MT h e g1 g2 hb,?_⟩;have:(jq s e).bE=s.bE:=by unfold jq;split <;> rfl
  omega
 unfold oN at dZ
 by_cases k1:e.kind=1
 ·rw[if_neg (by omega)];rw[if_pos k1,ag,cm,ag,beq_iff_eq] at dZ;refine Jk (by omega) (fun hh=>?_) (fun _=>(F2 dZ.1).1) (by omega) (by omega);rcases dZ.2 with h1|h1
  ·exact(mu h1).2
  ·rw[h1.1,F9 h] at hh
   cases hh
 rw[if_neg k1] at dZ
 by_cases k2:e.kind=2
 ·rw[if_pos k2];rw[if_pos k2] at dZ;simp only[ag,beq_iff_eq,decide_eq_true_eq] at dZ;obtain⟨a1,_,_,a2,a3,a4,a5⟩:=dZ;exact up (by decide) (Va h e a1 ⟨a2,a3⟩ ⟨a4,a5⟩ (by omega))
 rw[if_neg k2];rw[if_neg k2] at dZ
 by_cases k3:e.kind=3\/e.kind=14\/e.kind=15\/e.kind=17
 ·rw[if_pos k3] at dZ;have hp:=vS dZ
  by_cases k17:e.kind=17
  ·exact Te (by omega) hp (by omega)
  by_cases k33:e.kind=3
  ·have:iJ s all e=lO s e.bC:=by unfold iJ;rw[if_pos k33]
   rw[this];exact up (by decide) (N3 h e.bC hp (by omega))
  ·have:iJ s all e=s:=by
    unfold iJ;rw[if_neg (by omega),if_neg (by omega),if_neg (by omega),if_neg (by omega)]
   rw[this];exact mQ.refl h (by decide)
 rw[if_neg k3] at dZ
 by_cases k4:e.kind=4\/e.kind=5\/e.kind=16
 ·rw[if_pos k4,ag] at dZ;exact Te (by omega) (vS dZ.1) fun _=>(F2 dZ.2).1
 rw[if_neg k4] at dZ
 by_cases k6:e.kind=6
 ·rw[if_pos k6,ag] at dZ;exact Jk (by omega) (fun _=>(mu dZ.1).2) (by omega) (by omega) (by omega)
 rw[if_neg k6] at dZ
 by_cases k7:e.kind=7
 ·rw[if_pos k7,ag] at dZ;exact Jk (by omega) (fun _=>(mu dZ.1).2) (by omega) (by omega) (by omega)
 rw[if_neg k7] at dZ
 by_cases k8:e.kind=8\/e.kind=9
 ·rw[if_pos k8,ag] at dZ;exact Jk (by omega) (fun _=>(mu dZ.1).2) (by omega) (by omega) (by omega)
 rw[if_neg k8] at dZ;have YQ:=mw;rw[if_neg YQ] at dZ
 by_cases k11:e.kind=11
 ·have:iJ s all e=s:=by
   unfold iJ;rw[if_neg (by omega),if_neg (by omega),if_neg (by omega),if_neg (by omega)]
  rw[this];exact mQ.refl h (by decide)
 rw[if_neg k11] at dZ
 by_cases YP:e.kind=12
 ·rw[if_pos YP,ag] at dZ;exact Jk (by omega) (fun _=>(mu dZ.1).2) (by omega) (fun _=>vS dZ.2) (by omega)
 rw[if_neg YP] at dZ
 by_cases YO:e.kind=13
 ·rw[if_pos YO,ag] at dZ;exact Jk (by omega) (fun _=>(mu dZ.1).2) (by omega) (by omega) (fun _=>dZ.2)
 rw[if_neg YO] at dZ
 cases dZ
end
end
section
open Go Cg Go.RowKit Go.Shelf
theorem wrap_add (a b:Int):IntKind.i64.wrap (dd a+dd b)=dd a+dd b:=by
 have:=fm a;have:=fm b;rw[ak];omega
theorem KS (a b:Int):IntKind.i64.wrap (dd a - dd b)=dd a - dd b:=by
 have:=fm a;have:=fm b;rw[ak];omega
theorem Jd (a:Int):∃ r:Int,(r=(dd a))/\Ct ae 167 [.c (.t (iv a))] (aBZ r) [] true:=by
 refine db (Φ:=fun (r:Int)=>r=(dd a)) lF (cX Tryz.func167 rfl (by kernel_rfl) rfl (aBX [] [] ?_))
 repeat' (first|(apply bY <;> intro _)|(apply bL;exact Ei [] (Ai rfl (Ai trivial rfl));exact(by unfold dd;(repeat' split) <;> omega);rfl))
theorem np (a:Int):Ct ae 167 [.c (.t (iv a))] (aBZ (dd a)) [] true:=by
 obtain⟨r,hr,h⟩:=Jd a;rw[hr] at h;exact h
theorem Qk (a:Int)(b:Int):∃ r:Int,(r=(ff a b))/\Ct ae 104 [.c (.t (iv a)),.c (.t (iv b))] (aBZ r) [] true:=by
 refine db (Φ:=fun (r:Int)=>r=(ff a b)) lF (cX Tryz.func104 rfl (by kernel_rfl) rfl (aBX [] [] ?_))
 repeat' (first|(apply bL;exact Ei [] (Ai rfl (Ai trivial rfl));exact(by unfold ff;rw[wrap_add]);rfl)|(apply bj 167;refine cF (np _) ⟨rfl,trivial⟩ ?_))
theorem j8 (a:Int)(b:Int):Ct ae 104 [.c (.t (iv a)),.c (.t (iv b))] (aBZ (ff a b)) [] true:=by
 obtain⟨r,hr,h⟩:=Qk a b;rw[hr] at h;exact h
theorem Qi (a:Int)(b:Int):∃ r:Int,(r=(pM a b))/\Ct ae 105 [.c (.t (iv a)),.c (.t (iv b))] (aBZ r) [] true:=by
 refine db (Φ:=fun (r:Int)=>r=(pM a b)) lF (cX Tryz.func105 rfl (by kernel_rfl) rfl (aBX [] [] ?_))
 repeat' (first|(apply bL;exact Ei [] (Ai rfl (Ai trivial rfl));exact(by unfold pM;rw[KS]);rfl)|(apply bj 167;refine cF (np _) ⟨rfl,trivial⟩ ?_))
theorem Mb (a:Int)(b:Int):Ct ae 105 [.c (.t (iv a)),.c (.t (iv b))] (aBZ (pM a b)) [] true:=by
 obtain⟨r,hr,h⟩:=Qi a b;rw[hr] at h;exact h
theorem Jl (a:Int):∃ r:Int,(r=(dd a))/\Ct ae 266 [.c (.t (iv a))] (aBZ r) [] true:=by
 refine db (Φ:=fun (r:Int)=>r=(dd a)) lF (cX Tryz.func266 rfl (by kernel_rfl) rfl (aBX [] [] ?_))
 repeat' (first|(apply bL;exact Ei [] (Ai rfl (Ai trivial rfl));exact(by unfold dd;(repeat' split) <;> omega);rfl))
theorem BZ (a:Int):Ct ae 266 [.c (.t (iv a))] (aBZ (dd a)) [] true:=by
 obtain⟨r,hr,h⟩:=Jl a;rw[hr] at h;exact h
theorem QK (a:Int)(b:Int):∃ r:Int,(r=(ff a b))/\Ct ae 231 [.c (.t (iv a)),.c (.t (iv b))] (aBZ r) [] true:=by
 refine db (Φ:=fun (r:Int)=>r=(ff a b)) lF (cX Tryz.func231 rfl (by kernel_rfl) rfl (aBX [] [] ?_))
 repeat' (first|(apply bL;exact Ei [] (Ai rfl (Ai trivial rfl));exact(by unfold ff;rw[wrap_add]);rfl)|(apply bj 266;refine cF (BZ _) ⟨rfl,trivial⟩ ?_))
theorem U4 (a:Int)(b:Int):Ct ae 231 [.c (.t (iv a)),.c (.t (iv b))] (aBZ (ff a b)) [] true:=by
 obtain⟨r,hr,h⟩:=QK a b;rw[hr] at h;exact h
theorem ED (c0 c1 c2 k n:Int):Ct ae 109 [.agg [.t (iv c0),.t (iv c1),.t (iv c2)],.c (.t (iv k)),.c (.t (iv n))] (.agg [.t (iv (upC 0 k c0 n)),.t (iv (upC 1 k c1 n)),.t (iv (upC 2 k c2 n))]) [] true:=by
 refine Ct.uc (b:=false) ?_ rfl
 by_cases h0:k>=0
 ·by_cases h3:k < 3
  ·rcases(by omega:k=0\/k=1\/k=2) with rfl|rfl|rfl
   ·rw[show upC 0 0 c0 n=(if ff c0 n > 0 then ff c0 n else 0) from if_pos rfl,show upC 1 0 c1 n=c1 from if_neg (by decide),show upC 2 0 c2 n=c2 from if_neg (by decide)];refine cT Tryz.func109 rfl (by kernel_rfl) rfl fun w0 O _=>aBW [] ?_;refine Ei 0 (Ai rfl (Ai (by decide) ?_));refine cF (j8 c0 n) ⟨rfl,rfl,trivial⟩ ?_;refine Ei 0 (Ai rfl (Ai (by decide) ?_));refine Ei [] ?_
    repeat' first|refine Ai ?_ ?_|exact rfl|exact⟨⟩|exact Ei _ rfl
   ·rw[show upC 0 1 c0 n=c0 from if_neg (by decide),show upC 1 1 c1 n=(if ff c1 n > 0 then ff c1 n else 0) from if_pos rfl,show upC 2 1 c2 n=c2 from if_neg (by decide)];refine cT Tryz.func109 rfl (by kernel_rfl) rfl fun w0 O _=>aBW [] ?_;refine Ei 1 (Ai rfl (Ai (by decide) ?_));refine cF (j8 c1 n) ⟨rfl,rfl,trivial⟩ ?_;refine Ei 1 (Ai rfl (Ai (by decide) ?_));refine Ei [] ?_
    repeat' first|refine Ai ?_ ?_|exact rfl|exact⟨⟩|exact Ei _ rfl
   ·rw[show upC 0 2 c0 n=c0 from if_neg (by decide),show upC 1 2 c1 n=c1 from if_neg (by decide),show upC 2 2 c2 n=(if ff c2 n > 0 then ff c2 n else 0) from if_pos rfl];refine cT Tryz.func109 rfl (by kernel_rfl) rfl fun w0 O _=>aBW [] ?_;refine Ei 2 (Ai rfl (Ai (by decide) ?_));refine cF (j8 c2 n) ⟨rfl,rfl,trivial⟩ ?_;refine Ei 2 (Ai rfl (Ai (by decide) ?_));refine Ei [] ?_
    repeat' first|refine Ai ?_ ?_|exact rfl|exact⟨⟩|exact Ei _ rfl
  ·rw[show upC 0 k c0 n=c0 from if_neg (by omega),show upC 1 k c1 n=c1 from if_neg (by omega),show upC 2 k c2 n=c2 from if_neg (by omega)];refine cT Tryz.func109 rfl (by kernel_rfl) rfl fun w0 O _=>aBW [] ?_;refine eu (decide_eq_true h0) ?_;refine cQ (decide_eq_false h3) ?_;refine Ei [] ?_
   repeat' first|refine Ai ?_ ?_|exact rfl|exact⟨⟩|exact Ei _ rfl
 ·rw[show upC 0 k c0 n=c0 from if_neg (by omega),show upC 1 k c1 n=c1 from if_neg (by omega),show upC 2 k c2 n=c2 from if_neg (by omega)];refine cT Tryz.func109 rfl (by kernel_rfl) rfl fun w0 O _=>aBW [] ?_;refine cQ (decide_eq_false h0) ?_;refine Ei [] ?_
  repeat' first|refine Ai ?_ ?_|exact rfl|exact⟨⟩|exact Ei _ rfl
def WD (p:Int × Int × Int):AV:=.agg [.t (iv p.1),.t (iv p.2.1),.t (iv p.2.2)]
theorem YN (p:Int × Int × Int):uc (WD p)=true:=rfl
theorem P8 (a0:Int)(a1:Int)(a2:Int)(b0:Int)(b1:Int)(b2:Int):∃ r:Int × Int × Int,(r=((mB a0 b0,mB a1 b1,mB a2 b2)))/\Ct ae 166 [.agg [.t (iv a0),.t (iv a1),.t (iv a2)],.agg [.t (iv b0),.t (iv b1),.t (iv b2)]] (WD r) [] true:=by
 refine db (Φ:=fun (r:Int × Int × Int)=>r=((mB a0 b0,mB a1 b1,mB a2 b2))) YN (cX Tryz.func166 rfl (by kernel_rfl) rfl (aBX [] [] ?_))
 repeat' (first|(refine bL (mB a0 b0,mB a1 b1,mB a2 b2) (Ei [] (Ai rfl (Ai trivial ?_))) rfl rfl;(repeat' first|refine Ai ?_ ?_|exact rfl|exact⟨⟩|exact Ei _ rfl|refine aj ?_|refine bS ?_);done)|(apply eX 2 rfl;refine gP.one 2 rfl (aBX [] [] ?_))|(apply ud;(first|assumption|omega|(simp only[ak];omega)|(simp only[Lm] at *;omega)|decide);(first|assumption|omega|(simp only[ak];omega)|(simp only[Lm] at *;omega)|decide);intro _)|(apply bj 109;refine cF (ED _ _ _ _ _) ⟨⟨rfl,rfl,rfl,trivial⟩,rfl,rfl,trivial⟩ ?_))
theorem Ux (a0:Int)(a1:Int)(a2:Int)(b0:Int)(b1:Int)(b2:Int):Ct ae 166 [.agg [.t (iv a0),.t (iv a1),.t (iv a2)],.agg [.t (iv b0),.t (iv b1),.t (iv b2)]] (WD ((mB a0 b0,mB a1 b1,mB a2 b2))) [] true:=by
 obtain⟨r,hr,h⟩:=P8 a0 a1 a2 b0 b1 b2;rw[hr] at h;exact h
end
section
open Go Cg Go.RowKit
theorem gp {a k j:Int}(h:a=k)(hn:k≠j):(a==j)=false:=by rw[h];simpa using hn
theorem iP {a k:Int}(h:a=k):(a==k)=true:=by rw[h];simp
theorem rO (s:aA)(id:Int)(e:bV)(h:s.ok):Ct ae 102 [.agg (s.enc.map .t),.c (.t (iv id)),.agg (e.enc.map .t)] (.agg ((ld s id e).enc.map .t)) [] false:=by
 have hf:=gk s id h.2.2.1;generalize hM:ld s id e=M;unfold ld at hM;refine cT Tryz.func102 rfl (by kernel_rfl) rfl fun w0 O _=>aBW [3,4] ?_;refine cR hf ⟨fL s.enc,rfl,trivial⟩ ?_;refine cy (cS (fun hh=>?_) (fun hh=>?_))
 ·rw[if_pos hh] at hM;subst hM;refine aBW [] ?_;refine cR (Ux 0 0 0 e.sA e.su e.ss) ⟨⟨rfl,rfl,rfl,trivial⟩,⟨rfl,rfl,rfl,trivial⟩,trivial⟩ ?_;refine cR (jy s (NY e (b9 s.aa id)) h) ⟨fL s.enc,?_,trivial⟩ ?_
  ·repeat' first|refine Ai ?_ ?_|exact rfl|exact⟨⟩|exact Ei _ rfl
  refine Ei [] ?_
  repeat' first|refine Ai ?_ ?_|exact rfl|exact⟨⟩|exact Ei _ rfl
 ·rw[if_neg (by rw[show er s.aa id=false from hh];decide)] at hM;subst hM;refine aBW [] ?_;refine Ei [] ?_
  repeat' first|refine Ai ?_ ?_|exact rfl|exact⟨⟩|exact Ei _ rfl
theorem pR (s:aA)(p:Int)(x:cq)(h:s.ok)(hp:0<=p/\p < s.az.length):Ct ae 103 [.agg (s.enc.map .t),.c (.t (iv p)),.agg (x.enc.map .t)] (.agg (({ s with az:=s.az.set p.toNat x }:aA).enc.map .t)) [] false:=by
 have h1:=h.1;obtain⟨n,rfl⟩:∃ n:Nat,p=n:=⟨p.toNat,by omega⟩
 have hn:n < (s.az.map cq.enc).length:=by rw[Lm];omega
 refine cT Tryz.func103 rfl (by kernel_rfl) rfl fun w0 O _=>aBW [] ?_;refine Ai (.inl rfl) (Ai ?_ (Ai ?_ ?_))
 ·rw[Lm];exact bd h1 (Nb rfl)
 ·rw[Lm];have:=h1;unfold ba at this;omega
 refine Ei n (Ai rfl (Ai hn ?_));have aS:n < s.az.length:=by omega
 refine Ei (s.az[n].enc) (Ai (aQ _ _ n aS) (Ai (Nb rfl) ?_));refine Ei [] ?_
 repeat' first|refine Ai ?_ ?_|exact rfl|exact⟨⟩|exact Ei _ rfl
 exact congrArg (Tr.sl 14) (by rw[fF];rfl)
theorem xJ {α:Type}(l:List α)(f:α->List Tr)(k:Nat)(hk:k < l.length)(x:List Tr)(hx:x=f l[k]):(l.take k).map f++[x]=(l.take (k+1)).map f:=by
 rw[hx];exact eN l f k hk
theorem Uq (s:aA)(k:Int)(h:s.ok):Ct ae 100 [.agg (s.enc.map .t),.c (.t (iv k))] (.agg ((rG s k).enc.map .t)) [] false:=by
 have ho:=h.2.2.1;refine cT Tryz.func100 rfl (by kernel_rfl) rfl fun w0 O _=>aBW [9] ?_;refine aBY (fun i:Nat=>⟨[(1,.c (.t (iv k))),(2,.ptr 0 0),(4,.ptr 128 0),(5,.c (.row 9000 0)),(6,aBZ i)],[(0,s.enc.map .t),(128,List.replicate 19 .bot)],[(9000,⟨75,19,0,(s.aa.take i).map (fun o=>(oA k o).enc),none⟩)],10000⟩) (fun i=>i<=s.aa.length) (fun i=>s.aa.length - i) 0 ?_ (aD _) ?_
 ·refine bh [] rfl rfl ?_ ?_ ?_
  all_goals repeat' first|refine Ai ?_ ?_|exact rfl|exact⟨⟩|exact Ei _ rfl
 rintro i hi;refine aBW [5,7,8,9] ?_;refine cS (fun hc=>?_) (fun hc=>?_)
 ·have aS:=cN hc;refine aBW [7,8] ?_;refine Ei i (Ei _ (Ai rfl (Ai (aQ _ _ i aS) ?_)));refine cS (fun hk=>?_) (fun hk=>?_)
  ·refine aBW [8] ?_;refine aBW [] ?_;refine Ai (.inl rfl) (Ai (fJ s.aa _ i aS _ 128 (by decide) ho) (Ai (fh s.aa _ i aS _ 128 (by decide) ho) ?_));refine Ei (i+1) (Ai (show i+1<=_ by omega) (Ai (show s.aa.length - (i+1) < s.aa.length - i by omega) ?_));refine bh [(9000,9000)] rfl rfl ?_ ?_ ?_
   all_goals repeat' first|refine Ai ?_ ?_|exact rfl|exact⟨⟩|exact Ei _ rfl|refine aj ?_|refine bS ?_
   exact ed i aS 128 (by decide) ho;refine xJ s.aa (fun o=>(oA k o).enc) i aS _ ?_;unfold oA;rw[if_pos (show(s.aa[i].blocks==k)=true from hk)];rfl
  ·refine aBW [] ?_;refine Ai (.inl rfl) (Ai (fJ s.aa _ i aS _ 128 (by decide) ho) (Ai (fh s.aa _ i aS _ 128 (by decide) ho) ?_));refine Ei (i+1) (Ai (show i+1<=_ by omega) (Ai (show s.aa.length - (i+1) < s.aa.length - i by omega) ?_));refine bh [(9000,9000)] rfl rfl ?_ ?_ ?_
   all_goals repeat' first|refine Ai ?_ ?_|exact rfl|exact⟨⟩|exact Ei _ rfl|refine aj ?_|refine bS ?_
   exact ed i aS 128 (by decide) ho;refine xJ s.aa (fun o=>(oA k o).enc) i aS _ ?_;unfold oA;rw[if_neg (by rw[show(s.aa[i].blocks==k)=false from hk];decide)];rfl
 ·have VO:=cP hc hi;subst VO;refine aBW [] ?_;refine Ei [] ?_
  repeat' first|refine Ai ?_ ?_|exact rfl|exact⟨⟩|exact Ei _ rfl
  exact congrArg (Tr.sl 19) (by rw[bm];exact(List.map_map (f:=oA k) (g:=aE.enc) (l:=s.aa)))
end
section
open Go Go.RowKit Go.Sort Cg
def kI (n:Nat):List K:=List.replicate n (.lit .int)
def kB:K:=.lit .bool
def aaY:List K:=kI 7++[.lit .str]++kI 8
def alA:List K:=kI 3++[.lit .str]++aaY
def amS:List K:=[kB,kB]++aaY
def aqU:List K:=kI 2++aaY
def ajM:List K:=kI 3++aaY
def ajL:List K:=kI 1++aqU++ajM++kI 2++[.lit .str]++aaY++kI 6++[.sl alA 176]
def akZ:List K:=kI 7++[kB,kB]++kI 1
def afU:List K:=kI 1++aaY++[.sl alA 176]++akZ++[kB]++(kI 2++aaY)++[kB]++[.sl amS 144]++[.sl ajL 560]++(kI 2++aaY++kI 4)
def ajI:List K:=kI 2
def aiF:List K:=kI 10++[kB,kB]++kI 3
def amT:List K:=kI 5++[kB]++afU++[.sl ajI 16]++aiF
def aiE:List K:=kI 2++afU++aiF
def acZ:K:=.sl (kI 1) 8
def amU:List K:=kI 4++[acZ]++[.sl alA 176]
def ajJ:List K:=kI 9++[kB,kB]++[acZ,acZ,acZ]
def ajK:List K:=kI 5++[kB,kB,kB,kB]++kI 7++[kB]++kI 2
def akY:List K:=[.sl ajJ 152,.sl ajK 128,acZ,acZ,.sl amT 824,.sl aiE 768,.sl amU 80]++kI 3++[kB]++kI 4++[.lit .u64]++[acZ]++kI 2
theorem aiT:ajA ae 12 31=some akY:=by kernel_rfl
def TI (P:Program)(e:TypeId)(k b:Nat):Bool:=match P.info? e with
 | some i=>i.size==k&&i.bytes==b&&(match i.zero with
  | some z=>z.cells.size==k
  | none=>false)
 | none=>false
theorem sC {P:Program}{t e:TypeId}{k b:Nat}(h1:P.underlying t=some (.slice e))(h4:0 < k)(h:TI P e k b=true):∃ z,w9 P t e z k b:=by
 unfold TI at h
 cases hi:P.info? e with
 | none=>rw[hi] at h;cases h
 | some i=>
  rw[hi] at h;simp only[ag,beq_iff_eq] at h;obtain⟨⟨h2,h3⟩,h5⟩:=h
  cases hz:i.zero with
  | none=>rw[hz] at h5;cases h5
  | some z=>
   rw[hz] at h5;simp only[beq_iff_eq] at h5;exact⟨z,h1,h5,h4,i,hi,hz,h2,h3⟩
theorem sB (w:World)(base:Nat)(hb:base<=w.heap.size)(t:TypeId)(k:Nat):(w.alloc (.cells #[] t)).ownsRow base t k (.slice (some ⟨w.heap.size,0,none⟩) 0 0) 0 []:=World.ownsRow_made w #[] 0 hb (by simp) (by simp)
theorem Sb:∃ z,w9 ae 59 198 z 20 176:=sC Tryz.underlying59 (by decide) (by kernel_rfl)
theorem Og (v:Value)(es:List (Cl 20))(w:World)(h:OJ 20 w v es)(hb:es.length*176<=140737488355328):Calls ae 125 #[v] w fun e w'=>∃ v',e=.returned v'/\w'.ownsRow w.heap.size 198 20 v' es.length (es.flatMap Subtype.val)/\Below w.heap.size w w':=by
 obtain⟨z,hE⟩:=Sb;have HR:=Lib.hid (h.below ((Below.refl w.heap.size w).alloc (al _) (.cells #[] 198)));obtain⟨ao,cap,rfl,⟨hc,hn⟩,_⟩:=h;have HE:=Lib.hid hE;have HO:=Lib.hid (sB w w.heap.size (al _) 198 20);have HA:=Lib.hid ((Below.refl w.heap.size w).alloc (al _) (.cells #[] 198));have q0:∀ (w:World) (a:Option Addr) (n c n' c':Nat),(binOp .eql 59 (.slice a n c) (.slice none n' c')).run ae w=.ok (.bool a.isNone) w:=fun w a n c n' c'=>Lib.run_eql_slice_nil w _ _ a n c n' c' Tryz.underlying59;clear hE
 cases ao with
 | none=>
  have FD:=hn rfl;subst FD;have he:es=[]:=List.eq_nil_of_length_eq_zero (by omega);subst he;clear HR hn
  go_enter Tryz.func125,Tryz.ntmps125
  go_wp2_with fail
  go_ret
  exact⟨_,rfl,World.ownsRow_nil _ _ _ _,Below.refl _ _⟩
 | some ad=>
  clear hn
  go_enter Tryz.func125,Tryz.ntmps125
  go_wp2_with (at_builtin;refine gZ rfl (.tmp 5) (.tmp 6) 59 rfl w.heap.size HE.out _ 0 [] rfl HO.out Subtype.val Cl.len Cl.one es _ rfl HR.out (by omega) (by omega) HA.out.size ?_;intro v1 w1 BS _ Dy;have O1:=Lib.hid BS;have B1:=Lib.hid Dy;clear BS Dy)
  go_ret
  have:=O1.out;rw[bu,bF] at this;exact⟨_,rfl,this,HA.out.trans B1.out⟩
theorem N0:∃ z,w9 ae 64 149 z 18 144:=sC Tryz.underlying64 (by decide) (by kernel_rfl)
theorem Kn (v:Value)(es:List (Cl 18))(w:World)(h:OJ 18 w v es)(hb:es.length*144<=140737488355328):Calls ae 126 #[v] w fun e w'=>∃ v',e=.returned v'/\w'.ownsRow w.heap.size 149 18 v' es.length (es.flatMap Subtype.val)/\Below w.heap.size w w':=by
 obtain⟨z,hE⟩:=N0;have HR:=Lib.hid (h.below ((Below.refl w.heap.size w).alloc (al _) (.cells #[] 149)));obtain⟨ao,cap,rfl,⟨hc,hn⟩,_⟩:=h;have HE:=Lib.hid hE;have HO:=Lib.hid (sB w w.heap.size (al _) 149 18);have HA:=Lib.hid ((Below.refl w.heap.size w).alloc (al _) (.cells #[] 149));have q0:∀ (w:World) (a:Option Addr) (n c n' c':Nat),(binOp .eql 64 (.slice a n c) (.slice none n' c')).run ae w=.ok (.bool a.isNone) w:=fun w a n c n' c'=>Lib.run_eql_slice_nil w _ _ a n c n' c' Tryz.underlying64;clear hE
 cases ao with
 | none=>
  have FD:=hn rfl;subst FD;have he:es=[]:=List.eq_nil_of_length_eq_zero (by omega);subst he;clear HR hn
  go_enter Tryz.func126,Tryz.ntmps126
  go_wp2_with fail
  go_ret
  exact⟨_,rfl,World.ownsRow_nil _ _ _ _,Below.refl _ _⟩
 | some ad=>
  clear hn
  go_enter Tryz.func126,Tryz.ntmps126
  go_wp2_with (at_builtin;refine gZ rfl (.tmp 5) (.tmp 6) 64 rfl w.heap.size HE.out _ 0 [] rfl HO.out Subtype.val Cl.len Cl.one es _ rfl HR.out (by omega) (by omega) HA.out.size ?_;intro v1 w1 BS _ Dy;have O1:=Lib.hid BS;have B1:=Lib.hid Dy;clear BS Dy)
  go_ret
  have:=O1.out;rw[bu,bF] at this;exact⟨_,rfl,this,HA.out.trans B1.out⟩
theorem FQ:∃ z,w9 ae 65 125 z 64 560:=sC Tryz.underlying65 (by decide) (by kernel_rfl)
theorem Dd (v:Value)(es:List (Cl 64))(w:World)(h:OJ 64 w v es)(hb:es.length*560<=140737488355328):Calls ae 127 #[v] w fun e w'=>∃ v',e=.returned v'/\w'.ownsRow w.heap.size 125 64 v' es.length (es.flatMap Subtype.val)/\Below w.heap.size w w':=by
 obtain⟨z,hE⟩:=FQ;have HR:=Lib.hid (h.below ((Below.refl w.heap.size w).alloc (al _) (.cells #[] 125)));obtain⟨ao,cap,rfl,⟨hc,hn⟩,_⟩:=h;have HE:=Lib.hid hE;have HO:=Lib.hid (sB w w.heap.size (al _) 125 64);have HA:=Lib.hid ((Below.refl w.heap.size w).alloc (al _) (.cells #[] 125));have q0:∀ (w:World) (a:Option Addr) (n c n' c':Nat),(binOp .eql 65 (.slice a n c) (.slice none n' c')).run ae w=.ok (.bool a.isNone) w:=fun w a n c n' c'=>Lib.run_eql_slice_nil w _ _ a n c n' c' Tryz.underlying65;clear hE
 cases ao with
 | none=>
  have FD:=hn rfl;subst FD;have he:es=[]:=List.eq_nil_of_length_eq_zero (by omega);subst he;clear HR hn
  go_enter Tryz.func127,Tryz.ntmps127
  go_wp2_with fail
  go_ret
  exact⟨_,rfl,World.ownsRow_nil _ _ _ _,Below.refl _ _⟩
 | some ad=>
  clear hn
  go_enter Tryz.func127,Tryz.ntmps127
  go_wp2_with (at_builtin;refine gZ rfl (.tmp 5) (.tmp 6) 65 rfl w.heap.size HE.out _ 0 [] rfl HO.out Subtype.val Cl.len Cl.one es _ rfl HR.out (by omega) (by omega) HA.out.size ?_;intro v1 w1 BS _ Dy;have O1:=Lib.hid BS;have B1:=Lib.hid Dy;clear BS Dy)
  go_ret
  have:=O1.out;rw[bu,bF] at this;exact⟨_,rfl,this,HA.out.trans B1.out⟩
end
section
open Go Cg Go.RowKit Go.Sort
theorem wN {P:Program}{f:FuncId}{ty k b:Nat}(he:KP P f)(hr:∀ (v:Value) (es:List (Cl k)) (w:World),OJ k w v es->es.length*b<=140737488355328->Calls P f #[v] w fun e w'=>∃ v',e=.returned v'/\w'.ownsRow w.heap.size ty k v' es.length (es.flatMap Subtype.val)/\Below w.heap.size w w')(xs:List (List Tr))(hb:xs.length*b<=140737488355328) :
  Ct P f [.c (.t (.sl k xs))] (.c (.row 0 0)) [⟨ty,k,0,xs,none⟩] false:=by
 refine⟨he,Nb rfl,fun R hR=>?_,rfl,fun x hx=>(by cases hx),fun x hx=>?_,fun w vs E0 _ ha=>?_⟩
 ·obtain rfl:R=_:=aJ.1 hR;rfl
 ·obtain rfl:x=(0,0):=by simpa [AV.cB,AV.gu,Ce.cB] using hx
  exact⟨_,rfl,al _⟩
 cases ha with
 | cons hv Cz=>
  cases Cz
  rename_i v;have hv:RT E0.F w v (.sl k xs):=hv
  obtain⟨es,JS,Ac⟩:∃ es:List (Cl k),F6 E0.F w es xs/\OJ k w v es:=by
   obtain⟨ao,cap,h1,h2,h3⟩:=RT.len hv;rcases hv.AH with h0|⟨g,o,Kq,h4,h5,h6,h7,h8⟩
   ·subst h0;exact⟨[],⟨rfl,fun j vs ts h=>by simp at h⟩,ao,cap,h1,⟨aD _,h3⟩,.inl rfl⟩
   ·obtain⟨es,h9,mw⟩:=h8.raw;refine⟨es,h9,_,Kq,by rw[h4,h9.len],⟨by rw[h9.len];exact h5,fun h=>by cases h⟩,.inr ⟨g,o,rfl,h7,fun j x hx i u hu=>?_⟩⟩;have hi:i < k:=by have:=(an.1 hu).1;rwa [Cl.len] at this
    have:=mw (j*k+i) u (by rw[flat_get (enc:=Subtype.val) Cl.len es j x hx i hi];exact hu)
    rwa [<- Nat.add_assoc] at this
  refine(hr v es w Ac (by rw[JS.len];exact hb)).mono ?_;rintro e w' ⟨v',rfl,gJ,nF⟩;refine⟨v',rfl,nF,⟨fun b=>if b < w.heap.size then(if E0.rl b=.bz then .bz else .dX) else .rw 0,fun _=>0,fun _ _=>v'⟩,⟨rfl,nV gJ⟩,fun j R hj=>?_,fun b aS hc=>⟨rfl,?_⟩⟩
  ·cases j with
   | succ j=>simp at hj
   | zero=>
    obtain rfl:=aR hj;refine Ow.rr rfl ⟨es,gJ,JS.fr nF.size (fun b _ aS=>nF.block b aS) (fun b hb aS=>?_),fun g hg=>?_⟩
    ·show(if b < w.heap.size then(if E0.rl b=.bz then .bz else .dX) else iD.rw 0)=.bz;rw[if_pos aS,if_pos (show E0.rl b=.bz from hb)]
    ·show(if g < w.heap.size then(if E0.rl g=.bz then .bz else .dX) else iD.rw 0)=.rw 0;rw[if_neg (Nat.not_lt.2 (gJ.lt g hg).1)]
  ·have hc:(if b < w.heap.size then(if E0.rl b=.bz then .bz else .dX) else iD.rw 0)=.bz:=hc;rw[if_pos aS] at hc;split at hc
   ·rename_i h;exact h
   ·cases hc
theorem uM {P:Program}{f:FuncId}{dH:List AV}{ty k:Nat}{xs:List (List Tr)}{b:Bool}(h:Ct P f dH (.c (.row 0 0)) [⟨ty,k,0,xs,none⟩] b):Ct P f dH (.c (.t (.sl k xs))) [] b:=by
 refine⟨h.NZ,aD _,fun R hR=>(by cases hR),h.plain,fun x hx=>(by cases hx),fun x hx=>(by cases hx),fun w vs E0 lJ ha=>(h.run w vs E0 lJ ha).mono ?_⟩;rintro e w' ⟨v,rfl,nF,E,hr,Ac,yA⟩;refine⟨v,rfl,nF,⟨fun b=>if b < w.heap.size then E.rl b else .bz,fun _=>0,fun _ _=>v⟩,?_,fun j R hj=>(by simp at hj),fun b aS hc=>yA b aS ?_⟩
 ·have hr:RC E w' v (.row 0 0):=hr;show RT _ w' v (.sl k xs);obtain⟨es,h1,h2,h3⟩:=(Ac 0 _ rfl).ow rfl;rw[hr.1];refine EK h1 h2.len (fun g hg _=>?_) fun j x ts q1 q2=>(h2.at_ j x ts q1 q2).frame (al _) (fun _ _ _=>rfl) fun b hb _=>?_
  ·show(if g < w.heap.size then E.rl g else iD.bz)=.bz;rw[if_neg (Nat.not_lt.2 (h1.lt g hg).1)]
  ·show(if b < w.heap.size then E.rl b else iD.bz)=.bz;split
   ·exact hb
   ·rfl
 ·have hc:(if b < w.heap.size then E.rl b else iD.bz)=.bz:=hc
  rwa [if_pos aS] at hc
theorem tj (xs:List (List Tr))(h:xs.length*176<=ba):Ct ae 125 [.c (.t (.sl 20 xs))] (.c (.row 0 0)) [⟨198,20,0,xs,none⟩] false:=
 wN (enters_of Tryz.func125 (by kernel_rfl) rfl) Og xs (bd h (Nb rfl))
theorem AG (xs:List (List Tr))(h:xs.length*144<=ba):Ct ae 126 [.c (.t (.sl 18 xs))] (.c (.row 0 0)) [⟨149,18,0,xs,none⟩] false:=
 wN (enters_of Tryz.func126 (by kernel_rfl) rfl) Kn xs (bd h (Nb rfl))
theorem wO (xs:List (List Tr))(h:xs.length*560<=ba):Ct ae 127 [.c (.t (.sl 64 xs))] (.c (.row 0 0)) [⟨125,64,0,xs,none⟩] false:=
 wN (enters_of Tryz.func127 (by kernel_rfl) rfl) Dd xs (bd h (Nb rfl))
theorem Lq {α:Type}{xs:List α}{i:Nat}{t:α}(h:xs[i]? = some t):xs.set i t=xs:=by
 refine List.ext_getElem? fun j=>?_
 by_cases e:i=j
 ·subst e;rw[List.getElem?_set_self (an.1 h).1,h]
 ·rw[List.getElem?_set_ne e]
end
section
open Go Cg Go.RowKit
def DN (n:Int):AV:=.c (.t (.lit (.int .u64 n)))
theorem QQ {n:Int}(h:¬ n < 1)(h2:n<=1099511627776):IntKind.u64.wrap n≠0:=by
 rw[dM];omega
theorem Qg (s:Int):Ct ae 218 [DN s] (.fH [DN (sX s),DN (Gt s)]) [] true:=by
 refine Ct.uc (b:=false) ?_ rfl;obtain⟨z,hz⟩:∃ z,Gt s=z:=⟨_,rfl⟩
 obtain⟨a,ha⟩:∃ a,YL z=a:=⟨_,rfl⟩
 obtain⟨b,hb⟩:∃ b,YK a=b:=⟨_,rfl⟩
 obtain⟨c,hc⟩:∃ c,YJ b=c:=⟨_,rfl⟩
 rw[show sX s=c from by unfold sX;rw[hz,ha,hb,hc],hz];refine cT Tryz.func218 rfl (by kernel_rfl) rfl fun w0 O _=>aBW [2,3,4,5,6] ?_;refine aB1 (bh [] (mS:=[(4,DN z)]) (fc:=[]) (dB:=[]) (vI:=10000) rfl rfl ?_ ?_ ?_) ?_
 ·repeat' first|refine Ai ?_ ?_|exact rfl|exact⟨⟩|exact Ei _ rfl
  exact congrArg (fun n=>Tr.lit (.int .u64 n)) hz
 ·repeat' first|refine Ai ?_ ?_|exact rfl|exact⟨⟩|exact Ei _ rfl
 ·repeat' first|refine Ai ?_ ?_|exact rfl|exact⟨⟩|exact Ei _ rfl
 refine aBW [] ?_;refine aBW [] ?_;refine aB1 (bh [] (mS:=[(4,DN z),(5,DN a)]) (fc:=[]) (dB:=[]) (vI:=10000) rfl rfl ?_ ?_ ?_) ?_
 ·repeat' first|refine Ai ?_ ?_|exact rfl|exact⟨⟩|exact Ei _ rfl
  exact congrArg (fun n=>Tr.lit (.int .u64 n)) ha
 ·repeat' first|refine Ai ?_ ?_|exact rfl|exact⟨⟩|exact Ei _ rfl
 ·repeat' first|refine Ai ?_ ?_|exact rfl|exact⟨⟩|exact Ei _ rfl
 refine aBW [] ?_;refine aB1 (bh [] (mS:=[(4,DN z),(5,DN b)]) (fc:=[]) (dB:=[]) (vI:=10000) rfl rfl ?_ ?_ ?_) ?_
 ·repeat' first|refine Ai ?_ ?_|exact rfl|exact⟨⟩|exact Ei _ rfl
  exact congrArg (fun n=>Tr.lit (.int .u64 n)) hb
 ·repeat' first|refine Ai ?_ ?_|exact rfl|exact⟨⟩|exact Ei _ rfl
 ·repeat' first|refine Ai ?_ ?_|exact rfl|exact⟨⟩|exact Ei _ rfl
 refine aBW [] ?_;refine aB1 (bh [] (mS:=[(4,DN z),(5,DN c)]) (fc:=[]) (dB:=[]) (vI:=10000) rfl rfl ?_ ?_ ?_) ?_
 ·repeat' first|refine Ai ?_ ?_|exact rfl|exact⟨⟩|exact Ei _ rfl
  exact congrArg (fun n=>Tr.lit (.int .u64 n)) hc
 ·repeat' first|refine Ai ?_ ?_|exact rfl|exact⟨⟩|exact Ei _ rfl
 ·repeat' first|refine Ai ?_ ?_|exact rfl|exact⟨⟩|exact Ei _ rfl
 refine aBW [] ?_;refine Ei [] ?_
 repeat' first|refine Ai ?_ ?_|exact rfl|exact⟨⟩|exact Ei _ rfl
theorem Ma (s n:Int)(h2:n<=1099511627776):Ct ae 168 [DN s,.c (.t (iv n))] (.fH [aBZ (fQ s n).1,DN (fQ s n).2]) [] true:=by
 refine Ct.uc (b:=false) ?_ rfl
 by_cases h:n < 1
 ·rw[show fQ s n=(0,s) from if_pos h];refine cT Tryz.func168 rfl (by kernel_rfl) rfl fun w0 O _=>aBW [2,3] ?_;refine eu (decide_eq_true h) (aBW [] ?_);refine Ei [] ?_
  repeat' first|refine Ai ?_ ?_|exact rfl|exact⟨⟩|exact Ei _ rfl
 ·rw[show fQ s n=_ from if_neg h];refine cT Tryz.func168 rfl (by kernel_rfl) rfl fun w0 O _=>aBW [2,3] ?_;refine cQ (decide_eq_false h) (aBW [] ?_);refine cF (Qg s) ⟨rfl,trivial⟩ ?_;refine Ai rfl (Ai (QQ h h2) ?_);refine Ei [] ?_
  repeat' first|refine Ai ?_ ?_|exact rfl|exact⟨⟩|exact Ei _ rfl
structure AT (s:Int)(l:List Int)(x:Int × List Int × Int):Prop where
 lo:-1<=x.1
 hi:x.1 < (x.2.1.length:Int)
 len:x.2.1.length=l.length
 eq:sM x.1.toNat x.2.2 x.2.1=kJ s l
theorem AT.start (s:Int)(l:List Int)(h:l.length*8<=ba):AT s l (IntKind.i64.wrap (((l.length:Nat):Int) - 1),l,s):=by
 have e:IntKind.i64.wrap ((l.length:Int) - 1)=(l.length:Int) - 1:=Iz h rfl;refine⟨?_,?_,rfl,?_⟩
 ·show -1<=IntKind.i64.wrap ((l.length:Int) - 1);omega
 ·show IntKind.i64.wrap ((l.length:Int) - 1) < (l.length:Int);omega
 ·show sM (IntKind.i64.wrap ((l.length:Int) - 1)).toNat s l=kJ s l;unfold kJ;rw[e];congr 1;omega
theorem AT.step {s:Int}{l:List Int}{i:Int}{L:List Int}{S:Int}(h:AT s l (i,L,S))(hi:1<=i)(hb:l.length<=1099511627776):(IntKind.i64.wrap (i+1)=i+1/\i+1<=1099511627776)/\(0<=(fQ S (i+1)).1/\(fQ S (i+1)).1 < (L.length:Int))/\(IntKind.i64.wrap (i - 1)=i - 1/\AT s l (i - 1,mJ L i.toNat (fQ S (i+1)).1.toNat,(fQ S (i+1)).2)):=by
 obtain⟨h1,h2,h3,h4⟩:=h;simp only at h1 h2 h3 h4;have hr:=tl (s:=S) (n:=i+1) (by omega) (by omega);refine⟨⟨by rw[ak];omega,by omega⟩,⟨hr.1,by omega⟩,by rw[ak];omega,?_,?_,?_,?_⟩
 ·show -1<=i - 1;omega
 ·show i - 1 < ((mJ L i.toNat (fQ S (i+1)).1.toNat).length:Int);rw[pK];omega
 ·show(mJ L i.toNat (fQ S (i+1)).1.toNat).length=l.length;rw[pK,h3]
 ·show sM (i - 1).toNat (fQ S (i+1)).2 (mJ L i.toNat (fQ S (i+1)).1.toNat)=kJ s l;obtain⟨j,rfl⟩:∃ j:Nat,i=(j:Int)+1:=⟨(i - 1).toNat,by omega⟩
  rw[show((j:Int)+1).toNat=j+1 by omega] at h4 ⊢;unfold sM at h4;rw[show((j:Int)+1 - 1).toNat=j by omega,show(j:Int)+1+1=(j:Int)+2 by omega];exact h4
theorem AT.fin {s:Int}{l:List Int}{i:Int}{L:List Int}{S:Int}(h:AT s l (i,L,S))(hi:¬ 1<=i):kJ s l=(L,S):=by
 have h4:=h.eq;simp only at h4;rw[show i.toNat=0 by omega] at h4;exact h4.symm
theorem T9 {L:List Int}{i k:Nat}{a:Int}(hk:k < L.length):((L.map eI).set i (eI a))[k]? = some (eI ((L.set i a)[k]'(by rw[bG];exact hk))):=by
 rw[<- fF];exact aQ _ _ k _
theorem XT {L:List Int}{i k:Nat}(hi:i < L.length)(hk:k < L.length):((L.map eI).set i (eI L[k])).set k (eI L[i])=(mJ L i k).map eI:=by
 unfold mJ;rw[fF,fF,List.getD_eq_getElem?_getD,List.getD_eq_getElem?_getD,cD hi,cD hk];rfl
theorem Ie (xs:List (List Tr))(y:List Tr):xs++(List.replicate xs.length y).drop xs.length=xs:=by
 rw[List.drop_eq_nil_of_le (by rw[cc];exact al _),aZ]
theorem EF (s:Int)(l:List Int)(h:l.length*8<=ba)(hb:l.length<=1099511627776):Ct ae 106 [DN s,.c (.t (.sl 1 (l.map eI)))] (.fH [.c (.t (.sl 1 ((kJ s l).1.map eI))),DN (kJ s l).2]) [] false:=by
 generalize hM:kJ s l=M;refine cT Tryz.func106 rfl (by kernel_rfl) rfl fun w0 O _=>aBW [11] ?_;refine Ei (l.map eI).length (Ei [iv 0] (Ai ⟨rfl,rfl⟩ (Ai ⟨rfl,trivial⟩ (Ai ⟨?_,?_⟩ ?_))))
 ·rw[Lm];exact bd h (Nb rfl)
 ·rw[Lm];unfold ba at h;omega
 refine Ai (.inl rfl) (Ai (by rw[cc];exact al _) ?_);refine aBY (fun x:Int × List Int × Int=>⟨[(0,DN x.2.2),(6,.c (.row 9000 0)),(7,aBZ x.1)],[],[(9000,⟨3,1,0,x.2.1.map eI,none⟩)],10000⟩) (AT s l) (fun x=>(x.1+1).toNat) (IntKind.i64.wrap (((l.length:Nat):Int) - 1),l,s) ?_ (AT.start s l h) ?_
 ·refine bh [(9000,512)] rfl rfl ?_ ?_ ?_
  all_goals repeat' first|refine Ai ?_ ?_|exact rfl|exact⟨⟩|exact Ei _ rfl|refine aj ?_|refine bS ?_
  exact congrArg (fun n:Nat=>iv (IntKind.i64.wrap ((n:Int) - 1))) (by rw[Ie,Lm]);exact Ie _ _
 rintro⟨i,L,S⟩ hx;refine aBW [6,11] ?_;refine cS (fun hc=>?_) (fun hc=>?_)
 ·have hi1:1<=i:=of_decide_eq_true hc;obtain⟨⟨w1,w2⟩,⟨b1,b2⟩,w3,KJ⟩:=hx.step hi1 hb;have lU:=hx.hi;simp only at lU;refine aBW [] ?_;refine cR (Ma S (i+1) w2) ⟨rfl,congrArg iv w1,trivial⟩ ?_;generalize hk:fQ S (i+1)=B at *;obtain⟨k,S2⟩:=B;simp only at b1 b2;obtain⟨k,rfl⟩:∃ n:Nat,k=n:=⟨k.toNat,by omega⟩
  obtain⟨i,rfl⟩:∃ n:Nat,i=n:=⟨i.toNat,by omega⟩
  have Zo:i < L.length:=by omega
  have CB:k < L.length:=by omega
  refine Ei i (Ai rfl (Ai (by rw[Lm];exact Zo) ?_));refine Ei (eI L[i]) (Ei _ (Ai (aQ _ _ i Zo) (Ai rfl ?_)));refine Ei k (Ai rfl (Ai (by rw[Lm];exact CB) ?_));refine Ei (eI L[k]) (Ei _ (Ai (aQ _ _ k CB) (Ai rfl ?_)));refine Ei i (Ai rfl (Ai (by rw[Lm];exact Zo) ?_));refine Ei (eI L[i]) (Ai (aQ _ _ i Zo) (Ai (Nb rfl) ?_));refine Ei k (Ai rfl (Ai (by rw[bG,Lm];exact CB) ?_));refine Ei _ (Ai (T9 (L:=L) (i:=i) (a:=L[k]) CB) (Ai (Nb rfl) ?_));refine Ei (((i:Nat):Int) - 1,mJ L i k,S2) (Ai KJ (Ai (show((i:Int) - 1+1).toNat < ((i:Int)+1).toNat by omega) ?_));refine bh [(9000,9000)] rfl rfl ?_ ?_ ?_
  all_goals repeat' first|refine Ai ?_ ?_|exact rfl|exact⟨⟩|exact Ei _ rfl|refine aj ?_|refine bS ?_
  exact congrArg iv w3;exact XT Zo CB
 ·have hf:=hx.fin (of_decide_eq_false hc);rw[hf] at hM;subst hM;refine aBW [] ?_;refine Ei [] ?_
  repeat' first|refine Ai ?_ ?_|exact rfl|exact⟨⟩|exact Ei _ rfl
end
section
open Go Cg
section
variable {q:tp}{c:Int}
structure mX (s t:aA):Prop where
 Pt:∀ x∈t.stack,x∈s.stack
 wt:t.aaJ=s.aaJ
 ct:t.dG=s.dG
 ex:t.extra=s.extra
 tn:t.D8=s.D8
 ov:t.BT=s.BT
 pl:t.az.length=s.az.length
theorem mX.refl (s:aA):mX s s:=⟨fun _ h=>h,rfl,rfl,rfl,rfl,rfl,rfl⟩
theorem mX.trans {s t u:aA}(h1:mX s t)(h2:mX t u):mX s u:=⟨fun x h=>h1.Pt x (h2.Pt x h),h2.wt.trans h1.wt,h2.ct.trans h1.ct,h2.ex.trans h1.ex,h2.tn.trans h1.tn,h2.ov.trans h1.ov,h2.pl.trans h1.pl⟩
theorem M4 (s:aA)(l:List aE):mX s { s with aa:=l }:=⟨fun _ h=>h,rfl,rfl,rfl,rfl,rfl,rfl⟩
theorem vX (s:aA)(o:aE):mX s (eM s o):=M4 s _
theorem Fi (s:aA)(k:Int):mX s (rG s k):=M4 s _
theorem M5 (s:aA)(id:Int)(e:bV):mX s (ld s id e):=by
 unfold ld;split
 ·exact vX s _
 ·exact mX.refl s
theorem M0 (s:aA)(z p:Int)(l:List Int):mX s (eU s z p l):=by
 obtain⟨b,x,pl,e,hl,_⟩:=nS s z p l;rw[e];exact⟨fun _ h=>h,rfl,rfl,rfl,rfl,rfl,hl⟩
theorem M3 (s:aA)(id:Int)(i:Nat)(o:aE):mX s (kC s id i o):=by
 have h:=M0 s o.cg o.fG ((bR s o.cg o.fG).filter fun i=>i != id);exact⟨fun x hx=>(List.mem_filter.1 hx).1,h.wt,h.ct,h.ex,h.tn,h.ov,h.pl⟩
theorem Vl (s:aA)(x:aE)(z:Int)(b:Bool):mX s (GY s x z b):=by
 have h:=M0 s z x.fG (if (z==2&&!b)=true then x.id :: bR s z x.fG else bR s z x.fG++[x.id]);exact⟨h.Pt,h.wt,h.ct,h.ex,h.tn,h.ov,h.pl⟩
theorem qm (s:aA)(id z p:Int)(b:Bool):mX s (jH s id z p b).1:=by
 unfold jH;split
 ·exact mX.refl s
 ·split
  ·unfold mj;split
   ·exact mX.refl s
   split
   ·exact M3 s _ _ _
   ·exact((M3 s _ _ _).trans (vX _ _)).trans (Vl _ _ _ _)
  ·exact mX.refl s
theorem Rb (s:aA)(a p:Int):mX s (kN s a p).1:=⟨fun _ h=>h,rfl,rfl,rfl,rfl,rfl,rfl⟩
theorem Tg (e:bV):∀ (n:Nat) (s:aA),mX s (B5 s e n)
 | 0,s=>mX.refl s
 | n+1,s=>by
  unfold B5;split
  ·exact((Rb s _ _).trans (M5 _ _ _)).trans (Tg e n _)
  ·exact mX.refl s
theorem Vj (s:aA)(p:Int)(f:cq->cq):mX s (K0 s p f):=by
 unfold K0;split
 ·exact⟨fun _ h=>h,rfl,rfl,rfl,rfl,rfl,bG⟩
 ·exact mX.refl s
theorem Re (s:aA)(p:Int):mX s (lO s p):=by
 unfold lO;split
 ·split
  ·exact Vj s _ _
  ·exact qm s _ _ _ _
 ·exact mX.refl s
theorem Rc (s:aA)(e:bV):mX s (jq s e):=by
 unfold jq;split
 ·exact⟨fun _ h=>h,rfl,rfl,rfl,rfl,rfl,bG⟩
 ·exact mX.refl s
theorem Ra (s:aA)(all:List aG)(e:bV):mX s (gy s all e):=by
 unfold gy;split
 ·dsimp only;split
  ·exact(vX s _).trans (vX _ _)
  ·exact vX s _
 ·exact mX.refl s
theorem Vk (s:aA)(e:bV):mX s (EW s e):=by
 have h:mX s (if e.from_=0 then rG s e.aO else s):=by
  split
  ·exact Fi s _
  ·exact mX.refl s
 unfold EW;dsimp only;split
 ·exact(h.trans (qm _ _ _ _ _)).trans (M5 _ _ _)
 ·exact h.trans (qm _ _ _ _ _)
theorem Th (cards:List bX)(s:aA)(all:List aG)(e:bV):mX s (wG cards s all e):=by
 unfold wG;split
 ·split
  ·exact Vk s e
  ·unfold iJ;split
   ·exact Re s _
   split
   ·exact Rc s e
   split
   ·exact Tg e _ s
   split
   ·exact Ra s all e
   ·exact mX.refl s
 ·exact mX.refl s
theorem Hb {α:Type}[DecidableEq α]:∀ {l m:List α},l.Nodup->(∀ x∈l,x∈m)->l.length<=m.length
 | [],_,_,_=>aD _
 | x :: l,m,h,hm=>by
  obtain⟨h1,h2⟩:=List.nodup_cons.1 h;have hx:=hm x aC;have:=Hb (m:=m.erase x) h2 fun y hy=>(List.mem_erase_of_ne (fun e=>h1 (by rw[<- e];exact hy))).2 (hm y (aK _ hy));rw[List.length_erase_of_mem hx] at this;have:=List.length_pos_of_mem hx;rw[aq];omega
theorem jd {s:aA}(h:jE q c s)(z p:Int):(bR s z p).length<=2048:=by
 have:=Hb (m:=s.aa.map aE.id) (h.W9 z p) fun id hid=>by
  obtain⟨o,ho,e,_⟩:=h.QZ z p id hid;exact bA.2 ⟨o,ho,e⟩
 rw[Lm] at this;have:=h.ER;omega
theorem ng {n:Nat}(h:n<=2048):n*8<=ba:=by unfold ba;omega
theorem yf {s:aA}(h:jE q c s){p:cq}(hp:p∈s.az):p.cW.length<=2048/\p.hand.length<=2048/\p.dI.length<=2048:=by
 obtain⟨i,hi,rfl⟩:=bB.1 hp;have h1:=jd h 2 i;have h2:=jd h 1 i;have h3:=jd h 3 i;rw[Cc hi] at h1;rw[MQ hi] at h2;rw[MR hi] at h3;exact⟨h1,h2,h3⟩
theorem eC {s t:aA}(hs:s.ok)(hv:jE q c t)(hk:mX s t):t.ok:=by
 obtain⟨_,_,_,_,_,_,_,g8,g9,g10,g11,g12,g13⟩:=hs;have hb:=jd hv 0 0;have hx:=jd hv 4 0;rw[kg] at hb;rw[lH] at hx;have h1:=hv.YA;have h2:=hv.ER;have h3:=hv.Ms;refine⟨by unfold ba;omega,fun y hy=>?_,by unfold ba;omega,fun y _=>vH y,ng hb,ng hx,by unfold ba;omega,fun y hy=>g8 y (hk.Pt y hy),by rw[hk.wt];exact g9,by rw[hk.wt];exact g10,by rw[hk.ct];exact g11,by rw[hk.ct];exact g12,by rw[hk.ex];exact g13⟩;obtain⟨a1,a2,a3⟩:=yf hv hy;exact⟨ng a1,ng a2,ng a3⟩
theorem UB {s:aA}{o':aE}{i:Nat}{id:Int}(h1:s.aa.findIdx? (fun o=>o.id==id)=some i)(h:o'.id=id):eM s o'={ s with aa:=s.aa.set i o' }:=by
 unfold eM o7;rw[h,h1]
theorem qj {s:aA}{e:bV}{i:Nat}(hi:i < s.az.length)(he:e.bC=i):jq s e={ s with az:=s.az.set i (Kp e s.gq s.az[i]).1,gq:=(Kp e s.gq s.az[i]).2 }:=by
 unfold jq;rw[he,Int.toNat_natCast,cD hi]
end
end
section
open Go Cg Go.RowKit Go.Sort
theorem Su {t:aA}{id:Int}(e:bV){j:Nat}(hj:j < t.aa.length)(h1:t.aa.findIdx? (fun o=>o.id==id)=some j)(h2:b9 t.aa id=t.aa[j])(h3:t.aa[j].id=id)(hh:er t.aa id=true):ld t id e={ t with aa:=t.aa.set j (NY e t.aa[j]) }:=by
 unfold ld eM o7;rw[if_pos hh,h2,show(fun x:aE=>x.id==(NY e t.aa[j]).id)=fun o=>o.id==id from funext fun x=>by show(x.id==t.aa[j].id)=_;rw[h3],h1]
theorem zM {s:aA}(dK bC:Int)(aS:∀ y∈s.aa,y.id < s.bE):kN s dK bC=({ s with aa:=s.aa++[{ qc s.bE dK bC 0 s.bQ with token:=true,oY:=true }],bw:=s.bw++[s.bE],bE:=IntKind.i64.wrap (s.bE+1),bQ:=IntKind.i64.wrap (s.bQ+1) },s.bE):=by
 show({ eM s { qc s.bE dK bC 0 s.bQ with token:=true,oY:=true } with bw:=s.bw++[s.bE],bE:=IntKind.i64.wrap (s.bE+1),bQ:=IntKind.i64.wrap (s.bQ+1) },s.bE)=_;unfold eM;rw[BO (x:={ qc s.bE dK bC 0 s.bQ with token:=true,oY:=true }) aS]
theorem DA (s:aA)(id:Int)(e:bV):∃ l,ld s id e={ s with aa:=l }/\l.map aE.id=s.aa.map aE.id:=by
 by_cases hh:er s.aa id=true
 ·obtain⟨j,hj,h1,h2,h3⟩:=uJ hh;refine⟨_,Su e hj h1 h2 h3 hh,?_⟩;rw[fF];refine sN ?_;rw[bp,cD hj];rfl
 ·refine⟨s.aa,?_,rfl⟩;unfold ld;rw[if_neg hh]
structure DL (s:aA)(e:bV)(x:Nat × aA):Prop where
 ok:x.2.ok
 lt:∀ y∈x.2.aa,y.id < x.2.bE
 le:x.1<=e.bq.toNat
 eq:B5 x.2 e (e.bq.toNat - x.1)=B5 s e e.bq.toNat
 bf:x.2.bw.length+(2048 - x.2.aa.length)<=5000
 id:0<=x.2.bE/\x.2.bE+((2048 - x.2.aa.length:Nat):Int)<=2000000
 qN:(x.2.aa.map aE.id).Pairwise (· < ·)
 pos:∀ i∈x.2.aa.map aE.id,0<=i
theorem DL.start {s:aA}{e:bV}(h:s.ok)(aS:∀ y∈s.aa,y.id < s.bE)(hs:(s.aa.map aE.id).Pairwise (· < ·))(hb:s.bw.length+(2048 - s.aa.length)<=5000)(hn:0<=s.bE/\s.bE+((2048 - s.aa.length:Nat):Int)<=2000000)(hp:∀ i∈s.aa.map aE.id,0<=i):DL s e (0,s):=⟨h,aS,aD _,rfl,hb,hn,hs,hp⟩
theorem DL.step {s:aA}{e:bV}{k:Nat}{S:aA}(H:DL s e (k,S))(hk:k < e.bq.toNat)(hl:(S.aa.length:Int) < 2048):DL s e (k+1,ld (kN S e.dK e.bC).1 (kN S e.dK e.bC).2 e):=by
 obtain⟨h1,h2,h3,h4,h5,⟨h6,h7⟩,h8,h9⟩:=H;simp only at h1 h2 h3 h4 h5 h6 h7 h8 h9;have hm:=zM e.dK e.bC h2;rw[show e.bq.toNat - k=(e.bq.toNat - (k+1))+1 by omega] at h4
 have Xs:B5 (ld (kN S e.dK e.bC).1 (kN S e.dK e.bC).2 e) e (e.bq.toNat - (k+1))=B5 s e e.bq.toNat:=by
  rw[<- h4];show _=if (S.aa.length:Int) < 2048 then _ else S;rw[if_pos hl]
 rw[hm] at Xs ⊢;obtain⟨l,e1,e2⟩:=DA ({ S with aa:=S.aa++[{ qc S.bE e.dK e.bC 0 S.bQ with token:=true,oY:=true }],bw:=S.bw++[S.bE],bE:=IntKind.i64.wrap (S.bE+1),bQ:=IntKind.i64.wrap (S.bQ+1) }) S.bE e;simp only at Xs ⊢;have hw:IntKind.i64.wrap (S.bE+1)=S.bE+1:=by rw[ak];omega
 have e2:l.map aE.id=S.aa.map aE.id++[S.bE]:=by rw[e2,aW];rfl
 have e3:l.length=S.aa.length+1:=by
  have:=congrArg List.length e2
  rwa [Lm,au,Lm,List.length_singleton] at this
 rw[e1] at Xs ⊢;simp only[hw] at Xs ⊢
 have Nx:∀ i∈S.aa.map aE.id,i < S.bE:=fun i hi=>by
  obtain⟨y,hy,rfl⟩:=bA.1 hi;exact h2 y hy
 obtain⟨g1,g2,g3,g4,g5,g6⟩:=h1;refine⟨⟨g1,g2,?_,fun y _=>vH y,?_,g6⟩,fun y hy=>?_,hk,Xs,?_,?_,?_,?_⟩
 ·show l.length*128<=ba;rw[e3];unfold ba;omega
 ·show(S.bw++[S.bE]).length*8<=ba;rw[au,List.length_singleton];unfold ba;omega
 ·have hy:y∈l:=hy;have hy:y.id∈l.map aE.id:=bA.2 ⟨y,hy,rfl⟩;rw[e2] at hy;show y.id < S.bE+1;rcases aX.1 hy with hy|hy
  ·have:=Nx _ hy;omega
  ·rw[aJ.1 hy];omega
 ·show(S.bw++[S.bE]).length+(2048 - l.length)<=5000;rw[au,List.length_singleton,e3];omega
 ·show 0<=S.bE+1/\S.bE+1+((2048 - l.length:Nat):Int)<=_;rw[e3];omega
 ·show(l.map aE.id).Pairwise (· < ·);rw[e2,List.pairwise_append];refine⟨h8,List.pairwise_singleton _ _,fun a ha b hb=>?_⟩;rw[aJ.1 hb];exact Nx a ha
 ·show ∀ i∈l.map aE.id,0<=i;rw[e2];intro i hi;rcases aX.1 hi with hi|hi
  ·exact h9 i hi
  ·rw[aJ.1 hi];exact h6
theorem DL.okm {s:aA}{e:bV}{k:Nat}{S:aA}(H:DL s e (k,S))(_hk:k < e.bq.toNat)(hl:(S.aa.length:Int) < 2048):(kN S e.dK e.bC).1.ok:=by
 obtain⟨h1,h2,_,_,h5,_⟩:=H;simp only at h1 h2 h5;rw[zM e.dK e.bC h2];obtain⟨g1,g2,g3,g4,g5,g6⟩:=h1
 have hx:∀ o:aE,(S.aa++[o]).length*128<=ba:=fun o=>by
  rw[au,List.length_singleton];unfold ba;omega
 have hy:(S.bw++[S.bE]).length*8<=ba:=by
  rw[au,List.length_singleton];unfold ba;omega
 exact⟨g1,g2,hx _,fun y _=>vH y,hy,g6⟩
theorem DL.fin {s:aA}{e:bV}{k:Nat}{S:aA}(H:DL s e (k,S))(h:¬ (k:Int) < e.bq\/¬ (S.aa.length:Int) < 2048):B5 s e e.bq.toNat=S:=by
 rw[<- H.eq];simp only;rcases h with h|h
 ·rw[show e.bq.toNat - k=0 by omega];rfl
 ·cases e.bq.toNat - k with
  | zero=>rfl
  | succ n=>
   show(if (S.aa.length:Int) < 2048 then _ else S)=S;rw[if_neg h]
theorem DL.end_ {s:aA}{e:bV}:∀ (n k:Nat) (S:aA),e.bq.toNat - k=n->S.aa.length<=2048->DL s e (k,S)->(B5 s e e.bq.toNat).ok/\((B5 s e e.bq.toNat).aa.map aE.id).Pairwise (· < ·)/\(B5 s e e.bq.toNat).aa.length<=2048/\∀ i∈(B5 s e e.bq.toNat).aa.map aE.id,0<=i
 | n,k,S,hn,hl,H=>by
  by_cases h1:(k:Int) < e.bq
  ·by_cases h2:(S.aa.length:Int) < 2048
   ·have hs:=H.step (by omega) h2
    have hlen:(ld (kN S e.dK e.bC).1 (kN S e.dK e.bC).2 e).aa.length<=2048:=by
     rw[zM e.dK e.bC H.lt];obtain⟨l,e1,e2⟩:=DA ({ S with aa:=S.aa++[{ qc S.bE e.dK e.bC 0 S.bQ with token:=true,oY:=true }],bw:=S.bw++[S.bE],bE:=IntKind.i64.wrap (S.bE+1),bQ:=IntKind.i64.wrap (S.bQ+1) }) S.bE e;rw[e1];have:=congrArg List.length e2;rw[Lm,Lm,au,List.length_singleton] at this;show l.length<=2048;omega
    match n,hn with
    | 0,hn=>omega
    | n+1,hn=>exact DL.end_ n (k+1) _ (by omega) hlen hs
   ·rw[H.fin (.inr h2)];exact⟨H.ok,H.qN,hl,H.pos⟩
  ·rw[H.fin (.inl h1)];exact⟨H.ok,H.qN,hl,H.pos⟩
end
section
open Go Cg Go.RowKit Go.Shelf
theorem agK (a:aA)(b:Int)(ha:a.ok):∃ r:Bool,(r=(kX a b))/\Ct ae 97 [.agg (a.enc.map .t),.c (.t (iv b))] (aB0 r) [] true:=by
 have CH:=ha;obtain⟨S8,S7,S6,S5,UX,Yz,Yy,Yx,Yw,Yv,U0,UZ,UY⟩:=CH;refine db (Φ:=fun (r:Bool)=>r=(kX a b)) dc (cX Tryz.func97 rfl (by kernel_rfl) rfl (aBX [] [] ?_))
 repeat' (first|(apply Ri;(first|assumption|omega|(simp only[ak,dM,aq,aw];omega)|(simp only[Lm] at *;omega)|decide);(first|assumption|omega|(simp only[ak,dM,aq,aw];omega)|(simp only[Lm] at *;omega)|decide);intro _)|(apply bY <;> intro _)|(apply bL;exact Ei [] (Ai rfl (Ai trivial rfl));exact(by first|exact Q1 ‹_› | exact Q0 ‹_› | exact Eq.symm (Vg ‹_› ‹_›));rfl))
theorem I1 (a:aA)(b:Int)(ha:a.ok):Ct ae 97 [.agg (a.enc.map .t),.c (.t (iv b))] (aB0 (kX a b)) [] true:=by
 obtain⟨r,hr,h⟩:=agK a b ha;rw[hr] at h;exact h
theorem Ew (a:Int):∃ r:Bool,(r=(qG a))/\Ct ae 98 [.c (.t (iv a))] (aB0 r) [] true:=by
 refine db (Φ:=fun (r:Bool)=>r=(qG a)) dc (cX Tryz.func98 rfl (by kernel_rfl) rfl (aBX [] [] ?_))
 repeat' (first|(apply bY <;> intro _)|(apply bL;exact Ei [] (Ai rfl (Ai trivial rfl));exact(by simp[qG, *]);rfl))
theorem I2 (a:Int):Ct ae 98 [.c (.t (iv a))] (aB0 (qG a)) [] true:=by
 obtain⟨r,hr,h⟩:=Ew a;rw[hr] at h;exact h
theorem Us (a:aA)(b:Int)(c:Int)(ha:a.ok):∃ r:Bool,(r=(er a.aa b&&((b9 a.aa b).cg==c)))/\Ct ae 99 [.agg (a.enc.map .t),.c (.t (iv b)),.c (.t (iv c))] (aB0 r) [] true:=by
 have CH:=ha;obtain⟨S8,S7,S6,S5,UX,Yz,Yy,Yx,Yw,Yv,U0,UZ,UY⟩:=CH;refine db (Φ:=fun (r:Bool)=>r=(er a.aa b&&((b9 a.aa b).cg==c))) dc (cX Tryz.func99 rfl (by kernel_rfl) rfl (aBX [] [] ?_))
 repeat' (first|(apply cS <;> intro _)|(apply bL;exact Ei [] (Ai rfl (Ai trivial rfl));exact(by simp[*]);rfl)|(apply bj 96;refine cF (gk _ _ (by first|assumption|exact eO ‹_› ‹_› | exact eV _ ‹_›)) ⟨fL (aA.enc _),rfl,trivial⟩ ?_))
theorem Ye (a:aA)(b:Int)(c:Int)(ha:a.ok):Ct ae 99 [.agg (a.enc.map .t),.c (.t (iv b)),.c (.t (iv c))] (aB0 (er a.aa b&&((b9 a.aa b).cg==c))) [] true:=by
 obtain⟨r,hr,h⟩:=Us a b c ha;rw[hr] at h;exact h
theorem Ur (a:List bX)(b:aA)(c:bV)(_ha:a.length*176<=ba)(_ma:∀ y∈a,bX.ok y)(hb:b.ok):∃ r:Bool,(r=(oN a b c))/\Ct ae 47 [.c (.t (.sl 17 (a.map bX.enc))),.agg (b.enc.map .t),.agg (c.enc.map .t)] (aB0 r) [] true:=by
 have Rz:=hb;obtain⟨ob0,ob1,ob2,ob3,ob4,ob5,ob6,ob7,ob8,ob9,amC,amB,amA⟩:=Rz;refine db (Φ:=fun (r:Bool)=>r=(oN a b c)) dc (cX Tryz.func47 rfl (by kernel_rfl) rfl (aBX [] [] ?_))
 repeat' (first|(apply Ri;(first|assumption|omega|(simp only[ak,dM,aq,aw];omega)|(simp only[Lm] at *;omega)|decide);(first|assumption|omega|(simp only[ak,dM,aq,aw];omega)|(simp only[Lm] at *;omega)|decide);intro _)|(apply bY <;> intro _)|(apply dx <;> intro _)|(apply cS <;> intro _)|(apply bL;exact Ei [] (Ai rfl (Ai trivial rfl));exact(by first|contradiction|(simp[oN,iY, *];done)|(simp_all[oN,iY];done)|(rw[NX ‹_›];simp[Pq ‹_›, *];done)|(rw[NX ‹_›];simp[Pp ‹_›, *];done)|(rw[NX ‹_›,T7 ‹_› ‹_›];simp[*];done));rfl)|(apply bj 96;refine cF (gk _ _ (by first|assumption|exact eO ‹_› ‹_› | exact eV _ ‹_›)) ⟨fL (aA.enc _),rfl,trivial⟩ ?_)|(apply bj 97;refine cF (I1 _ _ (by first|assumption|exact eO ‹_› ‹_› | exact eV _ ‹_›)) ⟨fL (aA.enc _),rfl,trivial⟩ ?_)|(apply bj 98;refine cF (I2 _) ⟨rfl,trivial⟩ ?_)|(apply bj 99;refine cF (Ye _ _ _ (by first|assumption|exact eO ‹_› ‹_› | exact eV _ ‹_›)) ⟨fL (aA.enc _),rfl,rfl,trivial⟩ ?_))
theorem vt (a:List bX)(b:aA)(c:bV)(ha:a.length*176<=ba)(ma:∀ y∈a,bX.ok y)(hb:b.ok):Ct ae 47 [.c (.t (.sl 17 (a.map bX.enc))),.agg (b.enc.map .t),.agg (c.enc.map .t)] (aB0 (oN a b c)) [] true:=by
 obtain⟨r,hr,h⟩:=Ur a b c ha ma hb;rw[hr] at h;exact h
theorem BJ (a:Int)(b:Int):∃ r:Bool,(r=(mW a b))/\Ct ae 141 [.c (.t (iv a)),.c (.t (iv b))] (aB0 r) [] true:=by
 refine db (Φ:=fun (r:Bool)=>r=(mW a b)) dc (cX Tryz.func141 rfl (by kernel_rfl) rfl (aBX [] [] ?_))
 repeat' (first|(apply bL;exact Ei [] (Ai rfl (Ai trivial rfl));exact(rfl);rfl))
theorem Qa (a:Int)(b:Int):Ct ae 141 [.c (.t (iv a)),.c (.t (iv b))] (aB0 (mW a b)) [] true:=by
 obtain⟨r,hr,h⟩:=BJ a b;rw[hr] at h;exact h
theorem M6 (a:Int)(b:Int):∃ r:Bool,(r=(mW a b))/\Ct ae 185 [.c (.t (iv a)),.c (.t (iv b))] (aB0 r) [] true:=by
 refine db (Φ:=fun (r:Bool)=>r=(mW a b)) dc (cX Tryz.func185 rfl (by kernel_rfl) rfl (aBX [] [] ?_))
 repeat' (first|(apply bL;exact Ei [] (Ai rfl (Ai trivial rfl));exact(rfl);rfl))
theorem Eu (a:aA)(b:List aG)(c:Int)(ha:a.ok)(_hb:b.length*176<=ba)(_mb:∀ y∈b,aG.ok y):∃ r:Bool,(r=(fT a b c))/\Ct ae 108 [.agg (a.enc.map .t),.c (.t (.sl 17 (b.map aG.enc))),.c (.t (iv c))] (aB0 r) [] true:=by
 have CH:=ha;obtain⟨S8,S7,S6,S5,UX,Yz,Yy,Yx,Yw,Yv,U0,UZ,UY⟩:=CH;refine db (Φ:=fun (r:Bool)=>r=(fT a b c)) dc (cX Tryz.func108 rfl (by kernel_rfl) rfl (aBX [] [] ?_))
 repeat' (first|(apply Ri;(first|assumption|omega|(simp only[ak,dM,aq,aw];omega)|(simp only[Lm] at *;omega)|decide);(first|assumption|omega|(simp only[ak,dM,aq,aw];omega)|(simp only[Lm] at *;omega)|decide);intro _)|(apply bY <;> intro _)|(apply bL;exact Ei [] (Ai rfl (Ai trivial rfl));exact(by first|exact Od ‹_› ‹_› ‹_› ‹_› ‹_› | exact Sh ‹_› ‹_› | exact Sg ‹_› ‹_›);rfl)|(apply eX 2 rfl;refine gP.up (β:=Unit) 2 7 ((((a.aa.map aE.enc).length:Nat):Int)) (by first|omega|exact gV (by first|assumption|exact eO ‹_› ‹_› | exact eV _ ‹_›) rfl) (by omega) (fun _=>[]) (fun i _=>Up (QL b c) a.aa i) [1,2,3] [0] 200000 rfl ?_;refine Ai ?_ (fun _ _ _ _ _=>aBX [] [] ?_))|exact Ei () (Ai (by first|exact Up.zero|exact Up.step ‹_› ‹_› ‹_› (by first|exact S9 ‹_› | exact YB ‹_› ‹_›)) (cE rfl rfl rfl rfl))|exact Ai (by first|assumption|omega) (Ei () (Ai (by first|exact Up.zero|exact Up.step ‹_› ‹_› ‹_› (by first|exact S9 ‹_› | exact YB ‹_› ‹_›)) (cE rfl rfl rfl rfl)))|(apply bj 141;refine cF (Qa _ _) ⟨rfl,rfl,trivial⟩ ?_))
theorem IZ (a:aA)(b:List aG)(c:Int)(ha:a.ok)(hb:b.length*176<=ba)(mb:∀ y∈b,aG.ok y):Ct ae 108 [.agg (a.enc.map .t),.c (.t (.sl 17 (b.map aG.enc))),.c (.t (iv c))] (aB0 (fT a b c)) [] true:=by
 obtain⟨r,hr,h⟩:=Eu a b c ha hb mb;rw[hr] at h;exact h
end
section
open Go Cg Go.RowKit Go.Sort

section
variable {q:tp}{c:Int}
theorem IX (s:aA)(e:bV)(h:s.ok)(hk:e.kind=4)(i:Nat)(hi:i < s.az.length)(he:e.bC=i):Ct ae 50 [.agg (s.enc.map .t),.agg (e.enc.map .t)] (.agg ((jq s e).enc.map .t)) [] false:=by
 rw[qj hi he];have hm:Kp e s.gq s.az[i]=({ s.az[i] with je:=ff s.az[i].je e.bq },s.gq):=by unfold Kp;rw[hk];rfl
 rw[hm];have hw:=pR s (i:Int) { s.az[i] with je:=ff s.az[i].je e.bq } h (by omega);refine cT Tryz.func50 rfl (by kernel_rfl) rfl fun w0 O _=>aBW [3,4,6,8,10,13] ?_;refine Ei i (Ei _ (Ai he (Ai (aQ _ _ i hi) ?_)));refine aBW [4,6,8,10] ?_
 repeat' (first|refine eu (iP hk) ?_|refine cQ (gp hk (by decide)) ?_)
 refine aBW [] ?_;refine cF (j8 s.az[i].je e.bq) ⟨rfl,rfl,trivial⟩ ?_;refine aBW [] ?_;refine cR hw ⟨fL s.enc,congrArg iv he,?_,trivial⟩ ?_
 ·repeat' first|refine Ai ?_ ?_|exact rfl|exact⟨⟩|exact Ei _ rfl
 refine Ei [] ?_
 repeat' first|refine Ai ?_ ?_|exact rfl|exact⟨⟩|exact Ei _ rfl
theorem IW (s:aA)(e:bV)(h:s.ok)(hk:e.kind=5)(i:Nat)(hi:i < s.az.length)(he:e.bC=i):Ct ae 50 [.agg (s.enc.map .t),.agg (e.enc.map .t)] (.agg ((jq s e).enc.map .t)) [] false:=by
 rw[qj hi he];have hm:Kp e s.gq s.az[i]=({ s.az[i] with je:=pM s.az[i].je e.bq },s.gq):=by unfold Kp;rw[hk];rfl
 rw[hm];have hw:=pR s (i:Int) { s.az[i] with je:=pM s.az[i].je e.bq } h (by omega);refine cT Tryz.func50 rfl (by kernel_rfl) rfl fun w0 O _=>aBW [3,4,6,8,10,13] ?_;refine Ei i (Ei _ (Ai he (Ai (aQ _ _ i hi) ?_)));refine aBW [4,6,8,10] ?_
 repeat' (first|refine eu (iP hk) ?_|refine cQ (gp hk (by decide)) ?_)
 refine aBW [] ?_;refine cF (Mb s.az[i].je e.bq) ⟨rfl,rfl,trivial⟩ ?_;refine aBW [] ?_;refine cR hw ⟨fL s.enc,congrArg iv he,?_,trivial⟩ ?_
 ·repeat' first|refine Ai ?_ ?_|exact rfl|exact⟨⟩|exact Ei _ rfl
 refine Ei [] ?_
 repeat' first|refine Ai ?_ ?_|exact rfl|exact⟨⟩|exact Ei _ rfl
theorem Es (s:aA)(e:bV)(h:s.ok)(hk:e.kind=16)(i:Nat)(hi:i < s.az.length)(he:e.bC=i):Ct ae 50 [.agg (s.enc.map .t),.agg (e.enc.map .t)] (.agg ((jq s e).enc.map .t)) [] false:=by
 rw[qj hi he];have hm:Kp e s.gq s.az[i]=({ s.az[i] with kH:=ff s.az[i].kH e.bq },s.gq):=by unfold Kp;rw[hk];rfl
 rw[hm];have hw:=pR s (i:Int) { s.az[i] with kH:=ff s.az[i].kH e.bq } h (by omega);refine cT Tryz.func50 rfl (by kernel_rfl) rfl fun w0 O _=>aBW [3,4,6,8,10,13] ?_;refine Ei i (Ei _ (Ai he (Ai (aQ _ _ i hi) ?_)));refine aBW [4,6,8,10] ?_
 repeat' (first|refine eu (iP hk) ?_|refine cQ (gp hk (by decide)) ?_)
 refine aBW [] ?_;refine cF (j8 s.az[i].kH e.bq) ⟨rfl,rfl,trivial⟩ ?_;refine aBW [] ?_;refine cR hw ⟨fL s.enc,congrArg iv he,?_,trivial⟩ ?_
 ·repeat' first|refine Ai ?_ ?_|exact rfl|exact⟨⟩|exact Ei _ rfl
 refine Ei [] ?_
 repeat' first|refine Ai ?_ ?_|exact rfl|exact⟨⟩|exact Ei _ rfl
theorem Er (s:aA)(e:bV)(h:s.ok)(hk:e.kind=17)(i:Nat)(hi:i < s.az.length)(he:e.bC=i)(hb:s.az[i].cW.length<=1099511627776):Ct ae 50 [.agg (s.enc.map .t),.agg (e.enc.map .t)] (.agg ((jq s e).enc.map .t)) [] false:=by
 rw[qj hi he];have hm:Kp e s.gq s.az[i]=({ s.az[i] with cW:=(kJ s.gq s.az[i].cW).1 },(kJ s.gq s.az[i].cW).2):=by unfold Kp;rw[hk];rfl
 rw[hm];have hs:=EF s.gq s.az[i].cW (h.2.1 _ (aI hi)).1 hb;generalize kJ s.gq s.az[i].cW=sh at hs;have hw:=pR { s with gq:=sh.2 } (i:Int) { s.az[i] with cW:=sh.1 } h (by show 0<=(i:Int)/\(i:Int) < s.az.length;omega);refine cT Tryz.func50 rfl (by kernel_rfl) rfl fun w0 O _=>aBW [3,4,6,8,10,13] ?_;refine Ei i (Ei _ (Ai he (Ai (aQ _ _ i hi) ?_)));refine aBW [4,6,8,10] ?_
 repeat' (first|refine eu (iP hk) ?_|refine cQ (gp hk (by decide)) ?_)
 refine aBW [] ?_;refine cR hs ⟨rfl,rfl,trivial⟩ ?_;refine aBW [] ?_;refine cR hw ⟨?_,congrArg iv he,?_,trivial⟩ ?_
 ·repeat' first|refine Ai ?_ ?_|exact rfl|exact⟨⟩|exact Ei _ rfl
 ·repeat' first|refine Ai ?_ ?_|exact rfl|exact⟨⟩|exact Ei _ rfl
 refine Ei [] ?_
 repeat' first|refine Ai ?_ ?_|exact rfl|exact⟨⟩|exact Ei _ rfl
theorem PN (s:aA)(e:bV)(h:s.ok)(hk:e.kind=4\/e.kind=5\/e.kind=16\/e.kind=17)(i:Nat)(hi:i < s.az.length)(he:e.bC=i)(hb:s.az[i].cW.length<=1099511627776):Ct ae 50 [.agg (s.enc.map .t),.agg (e.enc.map .t)] (.agg ((jq s e).enc.map .t)) [] false:=by
 rcases hk with hk|hk|hk|hk
 ·exact IX s e h hk i hi he
 ·exact IW s e h hk i hi he
 ·exact Es s e h hk i hi he
 ·exact Er s e h hk i hi he hb
theorem PO (s:aA)(p:Nat)(h:s.ok)(hp:p < s.az.length):Ct ae 49 [.agg (s.enc.map .t),.c (.t (iv p))] (.agg ((lO s p).enc.map .t)) [] false:=by
 cases hl:s.az[p].cW with
 | nil=>
  have hd:lO s p={ s with az:=s.az.set p { s.az[p] with failed:=true,cW:=[] } }:=by
   unfold lO K0;rw[Int.toNat_natCast,cD hp];simp only[hl]
  rw[hd]
  have hq:(s.az.map cq.enc)[p]? = some (({ s.az[p] with cW:=[] }:cq).enc):=by
   rw[aQ _ _ p hp,<- hl]
  have hw:=pR s (p:Int) { s.az[p] with failed:=true,cW:=[] } h (by omega);refine cT Tryz.func49 rfl (by kernel_rfl) rfl fun w0 O _=>aBW [2,3,4,5] ?_;refine Ei p (Ei _ (Ai rfl (Ai hq ?_)));refine aBW [3,5] ?_;refine aBW [] ?_;refine aBW [] ?_;refine cR hw ⟨fL s.enc,rfl,?_,trivial⟩ ?_
  ·repeat' first|refine Ai ?_ ?_|exact rfl|exact⟨⟩|exact Ei _ rfl
  refine Ei [] ?_
  repeat' first|refine Ai ?_ ?_|exact rfl|exact⟨⟩|exact Ei _ rfl
 | cons id l=>
  have hm:=zH s id 1 p false h
  have hd:lO s p=(jH s id 1 p false).1:=by
   unfold lO;rw[Int.toNat_natCast,cD hp];simp only[hl]
  rw[hd]
  have hq:(s.az.map cq.enc)[p]? = some (({ s.az[p] with cW:=id :: l }:cq).enc):=by
   rw[aQ _ _ p hp,<- hl]
  generalize jH s id 1 p false=r at hm;refine cT Tryz.func49 rfl (by kernel_rfl) rfl fun w0 O _=>aBW [2,3,4,5] ?_;refine Ei p (Ei _ (Ai rfl (Ai hq ?_)));refine aBW [3,5] ?_;refine aBW [] ?_;refine Ei 0 (Ei [iv id] (Ai rfl (Ai rfl ?_)));refine cR hm ⟨fL s.enc,rfl,rfl,rfl,rfl,trivial⟩ ?_;refine Ei [] ?_
  repeat' first|refine Ai ?_ ?_|exact rfl|exact⟨⟩|exact Ei _ rfl
theorem PM (s:aA)(e:bV)(h:s.ok)(hv:jE q c s)(hid:er s.aa e.aO=true)(hz:0<=e.nQ/\e.nQ<=4)(hp:0<=e.bC/\e.bC < s.az.length)(hn:s.bE+1<=1000001/\s.bQ+1<=1000001):Ct ae 48 [.agg (s.enc.map .t),.agg (e.enc.map .t)] (.agg ((EW s e).enc.map .t)) [] false:=by
 generalize hM:EW s e=M;unfold EW at hM;dsimp only at hM
 by_cases hf:e.from_=0
 ·rw[if_pos hf] at hM;have mN:=Gc hv e.aO;have Nw:(rG s e.aO).ok:=eC h mN (Fi s _);have afE:er (rG s e.aO).aa e.aO=true:=(aeY _ _ _ fun o=>(D4 _ o).1).trans hid;have s8:(jH (rG s e.aO) e.aO e.nQ e.bC (e.bq==1)).1.ok:=eC h (qe mN e.aO e.nQ e.bC (e.bq==1) afE hz hp hn).val ((Fi s _).trans (qm _ _ _ _ _));have hm:=zH (rG s e.aO) e.aO e.nQ e.bC (e.bq==1) Nw;have hu:=Uq s e.aO h;generalize jH (rG s e.aO) e.aO e.nQ e.bC (e.bq==1)=r at hM hm s8;generalize rG s e.aO=u at hm hu;refine cT Tryz.func48 rfl (by kernel_rfl) rfl fun w0 O _=>aBW [2,3,4,5,6] ?_;refine eu (iP hf) ?_;refine aBW [] ?_;refine cR hu ⟨fL s.enc,rfl,trivial⟩ ?_;refine aBW [] ?_;refine cR hm ⟨fL u.enc,rfl,rfl,rfl,rfl,trivial⟩ ?_;refine aBW [5,6] ?_;refine cS (fun h0=>?_) (fun h0=>?_)
  ·have h0:e.nQ=0:=by simpa using h0
   rw[if_pos h0] at hM;subst hM;refine aBW [] ?_;refine cR (rO r.1 r.2 e s8) ⟨fL r.1.enc,rfl,fL e.enc,trivial⟩ ?_;refine Ei [] ?_
   repeat' first|refine Ai ?_ ?_|exact rfl|exact⟨⟩|exact Ei _ rfl
  ·have h0:¬ e.nQ=0:=by simpa using h0
   rw[if_neg h0] at hM;subst hM;refine aBW [] ?_;refine Ei [] ?_
   repeat' first|refine Ai ?_ ?_|exact rfl|exact⟨⟩|exact Ei _ rfl
 ·rw[if_neg hf] at hM;have s8:(jH s e.aO e.nQ e.bC (e.bq==1)).1.ok:=eC h (qe hv e.aO e.nQ e.bC (e.bq==1) hid hz hp hn).val (qm _ _ _ _ _);have hm:=zH s e.aO e.nQ e.bC (e.bq==1) h;generalize jH s e.aO e.nQ e.bC (e.bq==1)=r at hM hm s8;refine cT Tryz.func48 rfl (by kernel_rfl) rfl fun w0 O _=>aBW [2,3,4,5,6] ?_;refine cS (fun h=>absurd (by simpa using h) hf) (fun _=>?_);refine aBW [] ?_;refine cR hm ⟨fL s.enc,rfl,rfl,rfl,rfl,trivial⟩ ?_;refine aBW [5,6] ?_;refine cS (fun h0=>?_) (fun h0=>?_)
  ·have h0:e.nQ=0:=by simpa using h0
   rw[if_pos h0] at hM;subst hM;refine aBW [] ?_;refine cR (rO r.1 r.2 e s8) ⟨fL r.1.enc,rfl,fL e.enc,trivial⟩ ?_;refine Ei [] ?_
   repeat' first|refine Ai ?_ ?_|exact rfl|exact⟨⟩|exact Ei _ rfl
  ·have h0:¬ e.nQ=0:=by simpa using h0
   rw[if_neg h0] at hM;subst hM;refine aBW [] ?_;refine Ei [] ?_
   repeat' first|refine Ai ?_ ?_|exact rfl|exact⟨⟩|exact Ei _ rfl
theorem I0 (s:aA)(e:bV)(h0:DL s e (0,s))(hm:e.bq<=1000000):Ct ae 51 [.agg (s.enc.map .t),.agg (e.enc.map .t)] (.agg ((B5 s e e.bq.toNat).enc.map .t)) [] false:=by
 refine cT Tryz.func51 rfl (by kernel_rfl) rfl fun w0 O _=>aBW [2,6] ?_;refine aBY (fun x:Nat × aA=>⟨[(2,.ptr 0 0),(3,.ptr 128 0),(4,.ptr 256 0),(5,aBZ x.1)],[(0,x.2.enc.map .t),(128,e.enc.map .t),(256,List.replicate 19 .bot)],[],10000⟩) (DL s e) (fun x=>e.bq.toNat - x.1) (0,s) ?_ h0 ?_
 ·refine bh [] rfl rfl ?_ ?_ ?_
  all_goals repeat' first|refine Ai ?_ ?_|exact rfl|exact⟨⟩|exact Ei _ rfl
 rintro⟨k,S⟩ hk;refine aBW [3,4,5,6] ?_;have pg:=fun hh=>(hk.fin hh)
 have Zm:=hk.step;have hmk:=QX S e.dK e.bC hk.ok;refine cS (fun hc=>?_) (fun hc=>?_)
 ·refine cS (fun hl=>?_) (fun hl=>?_)
  ·have hl:(S.aa.length:Int) < 2048:=by
    have:=of_decide_eq_true hl
    rwa [Lm] at this
   have hc:(k:Int) < e.bq:=of_decide_eq_true hc;have fS:=Zm (by omega) hl;have s8:=hk.okm (by omega) hl;clear Zm pg;generalize kN S e.dK e.bC=r at hmk fS s8;have anT:k+1<=e.bq.toNat:=fS.le;have O5:IntKind.i64.wrap ((k:Int)+1)=((k+1:Nat):Int):=fU k (by omega);refine aBW [] ?_;refine cR hmk ⟨fL S.enc,rfl,rfl,trivial⟩ ?_;refine aBW [] ?_;refine cR (rO r.1 r.2 e s8) ⟨fL r.1.enc,rfl,fL e.enc,trivial⟩ ?_;refine aBW [] ?_;refine Ei (k+1,ld r.1 r.2 e) (Ai fS (Ai (show e.bq.toNat - (k+1) < e.bq.toNat - k by omega) ?_));refine bh [] rfl rfl ?_ ?_ ?_
   ·repeat' first|refine Ai ?_ ?_|exact rfl|exact⟨⟩|exact Ei _ rfl
    exact congrArg iv O5
   all_goals repeat' first|refine Ai ?_ ?_|exact rfl|exact⟨⟩|exact Ei _ rfl|refine aj ?_|refine bS ?_
  ·have hl:¬ (S.aa.length:Int) < 2048:=by
    have:=of_decide_eq_false hl
    rwa [Lm] at this
   rw[pg (.inr hl)];refine aBW [] ?_;refine Ei [] ?_
   repeat' first|refine Ai ?_ ?_|exact rfl|exact⟨⟩|exact Ei _ rfl
 ·rw[pg (.inl (of_decide_eq_false hc))];refine aBW [] ?_;refine Ei [] ?_
  repeat' first|refine Ai ?_ ?_|exact rfl|exact⟨⟩|exact Ei _ rfl
end
theorem okp {s:aA}{o:aE}(h:s.ok)(hl:(eM s o).aa.length*128<=ba):(eM s o).ok:=by
 obtain⟨h1,h2,_,h4,h5⟩:=h;exact⟨h1,h2,hl,fun y hy=>vH y,h5⟩
theorem LP (s:aA)(all:List aG)(e:bV)(h:s.ok)(ha:all.length*176<=ba)(ma:∀ y∈all,aG.ok y)(hk:e.kind=1)(hh:er s.aa e.aO=true):Ct ae 52 [.agg (s.enc.map .t),.c (.t (.sl 17 (all.map aG.enc))),.agg (e.enc.map .t)] (.agg ((gy s all e).enc.map .t)) [] false:=by
 have hf:=gk s e.aO h.2.2.1;rw[hh] at hf;have hm:gz (fT s all e.fp) e (b9 s.aa e.aO)={ b9 s.aa e.aO with fD:=ff (b9 s.aa e.aO).fD e.bq,jj:=(b9 s.aa e.aO).jj||fT s all e.fp }:=by unfold gz;rw[hk];rfl
 have ho:gy s all e=eM s { b9 s.aa e.aO with fD:=ff (b9 s.aa e.aO).fD e.bq,jj:=(b9 s.aa e.aO).jj||fT s all e.fp }:=by
  unfold gy;rw[if_pos hh];dsimp only;rw[if_neg (show ¬ e.kind=13 from fun hx=>by omega),hm]
 rw[ho];refine cT Tryz.func52 rfl (by kernel_rfl) rfl fun w0 O _=>aBW [3,4,6,7,9,11,13,15,17,19,20,22,23,24,25] ?_;refine cR hf ⟨fL s.enc,rfl,trivial⟩ ?_;refine aBW [6,9,11,13,15,17,19] ?_
 repeat' (first|refine eu (iP hk) ?_|refine cQ (gp hk (by decide)) ?_)
 refine aBW [] ?_;refine cF (j8 (b9 s.aa e.aO).fD e.bq) ⟨rfl,rfl,trivial⟩ ?_;refine aBW [] ?_;refine cS (fun hd=>?_) (fun hd=>?_)
 ·refine aBW [] ?_;refine cR (jy s { b9 s.aa e.aO with fD:=ff (b9 s.aa e.aO).fD e.bq,jj:=(b9 s.aa e.aO).jj||fT s all e.fp } h) ⟨fL s.enc,?_,trivial⟩ ?_
  ·repeat' first|refine Ai ?_ ?_|exact rfl|exact⟨⟩|exact Ei _ rfl
   first
   | exact congrArg bv (by rw[hd];rfl)
   | rfl
  refine cQ (gp hk (by decide)) ?_;refine aBW [] ?_;refine Ei [] ?_
  repeat' first|refine Ai ?_ ?_|exact rfl|exact⟨⟩|exact Ei _ rfl
 ·refine cF (IZ s all e.fp h ha ma) ⟨fL s.enc,rfl,rfl,trivial⟩ ?_;refine aBW [] ?_;refine cR (jy s { b9 s.aa e.aO with fD:=ff (b9 s.aa e.aO).fD e.bq,jj:=(b9 s.aa e.aO).jj||fT s all e.fp } h) ⟨fL s.enc,?_,trivial⟩ ?_
  ·repeat' first|refine Ai ?_ ?_|exact rfl|exact⟨⟩|exact Ei _ rfl
   first
   | exact congrArg bv (by rw[hd];rfl)
   | rfl
  refine cQ (gp hk (by decide)) ?_;refine aBW [] ?_;refine Ei [] ?_
  repeat' first|refine Ai ?_ ?_|exact rfl|exact⟨⟩|exact Ei _ rfl
theorem LO (s:aA)(all:List aG)(e:bV)(h:s.ok)(hk:e.kind=6)(hh:er s.aa e.aO=true):Ct ae 52 [.agg (s.enc.map .t),.c (.t (.sl 17 (all.map aG.enc))),.agg (e.enc.map .t)] (.agg ((gy s all e).enc.map .t)) [] false:=by
 have hf:=gk s e.aO h.2.2.1;rw[hh] at hf;have hm:gz (fT s all e.fp) e (b9 s.aa e.aO)={ b9 s.aa e.aO with eR:=true }:=by unfold gz;rw[hk];rfl
 have ho:gy s all e=eM s { b9 s.aa e.aO with eR:=true }:=by
  unfold gy;rw[if_pos hh];dsimp only;rw[if_neg (show ¬ e.kind=13 from fun hx=>by omega),hm]
 rw[ho];refine cT Tryz.func52 rfl (by kernel_rfl) rfl fun w0 O _=>aBW [3,4,6,7,9,11,13,15,17,19,20,22,23,24,25] ?_;refine cR hf ⟨fL s.enc,rfl,trivial⟩ ?_;refine aBW [6,9,11,13,15,17,19] ?_
 repeat' (first|refine eu (iP hk) ?_|refine cQ (gp hk (by decide)) ?_)
 refine aBW [] ?_;refine aBW [] ?_;refine cR (jy s { b9 s.aa e.aO with eR:=true } h) ⟨fL s.enc,?_,trivial⟩ ?_
 ·repeat' first|refine Ai ?_ ?_|exact rfl|exact⟨⟩|exact Ei _ rfl
 refine cQ (gp hk (by decide)) ?_;refine aBW [] ?_;refine Ei [] ?_
 repeat' first|refine Ai ?_ ?_|exact rfl|exact⟨⟩|exact Ei _ rfl
theorem LN (s:aA)(all:List aG)(e:bV)(h:s.ok)(hk:e.kind=7)(hh:er s.aa e.aO=true):Ct ae 52 [.agg (s.enc.map .t),.c (.t (.sl 17 (all.map aG.enc))),.agg (e.enc.map .t)] (.agg ((gy s all e).enc.map .t)) [] false:=by
 have hf:=gk s e.aO h.2.2.1;rw[hh] at hf;have hm:gz (fT s all e.fp) e (b9 s.aa e.aO)={ b9 s.aa e.aO with eR:=false }:=by unfold gz;rw[hk];rfl
 have ho:gy s all e=eM s { b9 s.aa e.aO with eR:=false }:=by
  unfold gy;rw[if_pos hh];dsimp only;rw[if_neg (show ¬ e.kind=13 from fun hx=>by omega),hm]
 rw[ho];refine cT Tryz.func52 rfl (by kernel_rfl) rfl fun w0 O _=>aBW [3,4,6,7,9,11,13,15,17,19,20,22,23,24,25] ?_;refine cR hf ⟨fL s.enc,rfl,trivial⟩ ?_;refine aBW [6,9,11,13,15,17,19] ?_
 repeat' (first|refine eu (iP hk) ?_|refine cQ (gp hk (by decide)) ?_)
 refine aBW [] ?_;refine aBW [] ?_;refine cR (jy s { b9 s.aa e.aO with eR:=false } h) ⟨fL s.enc,?_,trivial⟩ ?_
 ·repeat' first|refine Ai ?_ ?_|exact rfl|exact⟨⟩|exact Ei _ rfl
 refine cQ (gp hk (by decide)) ?_;refine aBW [] ?_;refine Ei [] ?_
 repeat' first|refine Ai ?_ ?_|exact rfl|exact⟨⟩|exact Ei _ rfl
theorem LM (s:aA)(all:List aG)(e:bV)(h:s.ok)(hk:e.kind=8)(hh:er s.aa e.aO=true):Ct ae 52 [.agg (s.enc.map .t),.c (.t (.sl 17 (all.map aG.enc))),.agg (e.enc.map .t)] (.agg ((gy s all e).enc.map .t)) [] false:=by
 have hf:=gk s e.aO h.2.2.1;rw[hh] at hf;have hm:gz (fT s all e.fp) e (b9 s.aa e.aO)={ b9 s.aa e.aO with cL:=upC 0 e.aaD (b9 s.aa e.aO).cL e.bq,cK:=upC 1 e.aaD (b9 s.aa e.aO).cK e.bq,dh:=upC 2 e.aaD (b9 s.aa e.aO).dh e.bq }:=by unfold gz;rw[hk];rfl
 have ho:gy s all e=eM s { b9 s.aa e.aO with cL:=upC 0 e.aaD (b9 s.aa e.aO).cL e.bq,cK:=upC 1 e.aaD (b9 s.aa e.aO).cK e.bq,dh:=upC 2 e.aaD (b9 s.aa e.aO).dh e.bq }:=by
  unfold gy;rw[if_pos hh];dsimp only;rw[if_neg (show ¬ e.kind=13 from fun hx=>by omega),hm]
 rw[ho];refine cT Tryz.func52 rfl (by kernel_rfl) rfl fun w0 O _=>aBW [3,4,6,7,9,11,13,15,17,19,20,22,23,24,25] ?_;refine cR hf ⟨fL s.enc,rfl,trivial⟩ ?_;refine aBW [6,9,11,13,15,17,19] ?_
 repeat' (first|refine eu (iP hk) ?_|refine cQ (gp hk (by decide)) ?_)
 refine aBW [] ?_;refine cF (ED (b9 s.aa e.aO).cL (b9 s.aa e.aO).cK (b9 s.aa e.aO).dh e.aaD e.bq) ⟨?_,?_,?_,trivial⟩ ?_
 ·repeat' first|refine Ai ?_ ?_|exact rfl|exact⟨⟩|exact Ei _ rfl
 ·repeat' first|refine Ai ?_ ?_|exact rfl|exact⟨⟩|exact Ei _ rfl
 ·repeat' first|refine Ai ?_ ?_|exact rfl|exact⟨⟩|exact Ei _ rfl
 refine aBW [] ?_;refine cR (jy s { b9 s.aa e.aO with cL:=upC 0 e.aaD (b9 s.aa e.aO).cL e.bq,cK:=upC 1 e.aaD (b9 s.aa e.aO).cK e.bq,dh:=upC 2 e.aaD (b9 s.aa e.aO).dh e.bq } h) ⟨fL s.enc,?_,trivial⟩ ?_
 ·repeat' first|refine Ai ?_ ?_|exact rfl|exact⟨⟩|exact Ei _ rfl
 refine cQ (gp hk (by decide)) ?_;refine aBW [] ?_;refine Ei [] ?_
 repeat' first|refine Ai ?_ ?_|exact rfl|exact⟨⟩|exact Ei _ rfl
theorem LL (s:aA)(all:List aG)(e:bV)(h:s.ok)(hk:e.kind=9)(hh:er s.aa e.aO=true):Ct ae 52 [.agg (s.enc.map .t),.c (.t (.sl 17 (all.map aG.enc))),.agg (e.enc.map .t)] (.agg ((gy s all e).enc.map .t)) [] false:=by
 have hf:=gk s e.aO h.2.2.1;rw[hh] at hf;have hm:gz (fT s all e.fp) e (b9 s.aa e.aO)={ b9 s.aa e.aO with cL:=upC 0 e.aaD (b9 s.aa e.aO).cL (IntKind.i64.wrap (0 - e.bq)),cK:=upC 1 e.aaD (b9 s.aa e.aO).cK (IntKind.i64.wrap (0 - e.bq)),dh:=upC 2 e.aaD (b9 s.aa e.aO).dh (IntKind.i64.wrap (0 - e.bq)) }:=by unfold gz;rw[hk];rfl
 have ho:gy s all e=eM s { b9 s.aa e.aO with cL:=upC 0 e.aaD (b9 s.aa e.aO).cL (IntKind.i64.wrap (0 - e.bq)),cK:=upC 1 e.aaD (b9 s.aa e.aO).cK (IntKind.i64.wrap (0 - e.bq)),dh:=upC 2 e.aaD (b9 s.aa e.aO).dh (IntKind.i64.wrap (0 - e.bq)) }:=by
  unfold gy;rw[if_pos hh];dsimp only;rw[if_neg (show ¬ e.kind=13 from fun hx=>by omega),hm]
 rw[ho];refine cT Tryz.func52 rfl (by kernel_rfl) rfl fun w0 O _=>aBW [3,4,6,7,9,11,13,15,17,19,20,22,23,24,25] ?_;refine cR hf ⟨fL s.enc,rfl,trivial⟩ ?_;refine aBW [6,9,11,13,15,17,19] ?_
 repeat' (first|refine eu (iP hk) ?_|refine cQ (gp hk (by decide)) ?_)
 refine aBW [] ?_;refine cF (ED (b9 s.aa e.aO).cL (b9 s.aa e.aO).cK (b9 s.aa e.aO).dh e.aaD (IntKind.i64.wrap (0 - e.bq))) ⟨?_,?_,?_,trivial⟩ ?_
 ·repeat' first|refine Ai ?_ ?_|exact rfl|exact⟨⟩|exact Ei _ rfl
 ·repeat' first|refine Ai ?_ ?_|exact rfl|exact⟨⟩|exact Ei _ rfl
 ·repeat' first|refine Ai ?_ ?_|exact rfl|exact⟨⟩|exact Ei _ rfl
 refine aBW [] ?_;refine cR (jy s { b9 s.aa e.aO with cL:=upC 0 e.aaD (b9 s.aa e.aO).cL (IntKind.i64.wrap (0 - e.bq)),cK:=upC 1 e.aaD (b9 s.aa e.aO).cK (IntKind.i64.wrap (0 - e.bq)),dh:=upC 2 e.aaD (b9 s.aa e.aO).dh (IntKind.i64.wrap (0 - e.bq)) } h) ⟨fL s.enc,?_,trivial⟩ ?_
 ·repeat' first|refine Ai ?_ ?_|exact rfl|exact⟨⟩|exact Ei _ rfl
 refine cQ (gp hk (by decide)) ?_;refine aBW [] ?_;refine Ei [] ?_
 repeat' first|refine Ai ?_ ?_|exact rfl|exact⟨⟩|exact Ei _ rfl
theorem IV (s:aA)(all:List aG)(e:bV)(h:s.ok)(hk:e.kind=12)(hh:er s.aa e.aO=true):Ct ae 52 [.agg (s.enc.map .t),.c (.t (.sl 17 (all.map aG.enc))),.agg (e.enc.map .t)] (.agg ((gy s all e).enc.map .t)) [] false:=by
 have hf:=gk s e.aO h.2.2.1;rw[hh] at hf;have hm:gz (fT s all e.fp) e (b9 s.aa e.aO)={ b9 s.aa e.aO with jD:=e.bC }:=by unfold gz;rw[hk];rfl
 have ho:gy s all e=eM s { b9 s.aa e.aO with jD:=e.bC }:=by
  unfold gy;rw[if_pos hh];dsimp only;rw[if_neg (show ¬ e.kind=13 from fun hx=>by omega),hm]
 rw[ho];refine cT Tryz.func52 rfl (by kernel_rfl) rfl fun w0 O _=>aBW [3,4,6,7,9,11,13,15,17,19,20,22,23,24,25] ?_;refine cR hf ⟨fL s.enc,rfl,trivial⟩ ?_;refine aBW [6,9,11,13,15,17,19] ?_
 repeat' (first|refine eu (iP hk) ?_|refine cQ (gp hk (by decide)) ?_)
 refine aBW [] ?_;refine aBW [] ?_;refine cR (jy s { b9 s.aa e.aO with jD:=e.bC } h) ⟨fL s.enc,?_,trivial⟩ ?_
 ·repeat' first|refine Ai ?_ ?_|exact rfl|exact⟨⟩|exact Ei _ rfl
 refine cQ (gp hk (by decide)) ?_;refine aBW [] ?_;refine Ei [] ?_
 repeat' first|refine Ai ?_ ?_|exact rfl|exact⟨⟩|exact Ei _ rfl
theorem IU (s:aA)(all:List aG)(e:bV)(h:s.ok)(hk:e.kind=13)(hh:er s.aa e.aO=true):Ct ae 52 [.agg (s.enc.map .t),.c (.t (.sl 17 (all.map aG.enc))),.agg (e.enc.map .t)] (.agg ((gy s all e).enc.map .t)) [] false:=by
 have hf:=gk s e.aO h.2.2.1;rw[hh] at hf;have hm:gz (fT s all e.fp) e (b9 s.aa e.aO)={ b9 s.aa e.aO with blocks:=e.fp }:=by unfold gz;rw[hk];rfl
 have ho:gy s all e=eM (eM s { b9 s.aa e.aO with blocks:=e.fp }) { b9 (eM s { b9 s.aa e.aO with blocks:=e.fp }).aa e.fp with blocked:=true }:=by
  unfold gy;rw[if_pos hh];dsimp only;rw[if_pos hk,hm]
 rw[ho]
 have qO:(eM s { b9 s.aa e.aO with blocks:=e.fp }).aa.length*128<=ba:=by
  obtain⟨i,hi,h1,h2,h3⟩:=uJ hh;rw[UB (s:=s) (o':={ b9 s.aa e.aO with blocks:=e.fp }) h1 (h2▸h3)];show(s.aa.set i _).length*128<=ba;rw[bG];exact h.2.2.1
 have VV:=gk (eM s { b9 s.aa e.aO with blocks:=e.fp }) e.fp qO;have sf:=jy (eM s { b9 s.aa e.aO with blocks:=e.fp }) { b9 (eM s { b9 s.aa e.aO with blocks:=e.fp }).aa e.fp with blocked:=true } (okp h qO);refine cT Tryz.func52 rfl (by kernel_rfl) rfl fun w0 O _=>aBW [3,4,6,7,9,11,13,15,17,19,20,22,23,24,25] ?_;refine cR hf ⟨fL s.enc,rfl,trivial⟩ ?_;refine aBW [6,9,11,13,15,17,19] ?_
 repeat' (first|refine eu (iP hk) ?_|refine cQ (gp hk (by decide)) ?_)
 refine aBW [] ?_;refine aBW [] ?_;refine cR (jy s { b9 s.aa e.aO with blocks:=e.fp } h) ⟨fL s.enc,?_,trivial⟩ ?_
 ·repeat' first|refine Ai ?_ ?_|exact rfl|exact⟨⟩|exact Ei _ rfl
 refine eu (iP hk) ?_;refine aB2 [] (aBW [] ?_);refine cR VV ⟨?_,rfl,trivial⟩ ?_
 ·repeat' first|refine Ai ?_ ?_|exact rfl|exact⟨⟩|exact Ei _ rfl
 refine aBW [] ?_;refine aBW [] ?_;refine cR sf ⟨?_,?_,trivial⟩ ?_
 ·repeat' first|refine Ai ?_ ?_|exact rfl|exact⟨⟩|exact Ei _ rfl
 ·repeat' first|refine Ai ?_ ?_|exact rfl|exact⟨⟩|exact Ei _ rfl
 refine aBW [] ?_;refine Ei [] ?_
 repeat' first|refine Ai ?_ ?_|exact rfl|exact⟨⟩|exact Ei _ rfl
theorem IY (cards:List bX)(s:aA)(all:List aG)(e:bV)(hc:cards.length*176<=ba)(mc:∀ y∈cards,bX.ok y)(h:s.ok)(dZ:oN cards s e=false):Ct ae 21 [.c (.t (.sl 17 (cards.map bX.enc))),.agg (s.enc.map .t),.c (.t (.sl 17 (all.map aG.enc))),.agg (e.enc.map .t)] (.agg (s.enc.map .t)) [] false:=by
 have hv:=vt cards s e hc mc h;rw[dZ] at hv;refine cT Tryz.func21 rfl (by kernel_rfl) rfl fun w0 O _=>aBW [3,4,6,8,13,15,23,24] ?_;refine cR (gM s h) ⟨fL s.enc,trivial⟩ ?_;refine cF hv ⟨rfl,fL s.enc,fL e.enc,trivial⟩ ?_;refine aBW [] ?_;refine Ei [] ?_
 repeat' first|refine Ai ?_ ?_|exact rfl|exact⟨⟩|exact Ei _ rfl
theorem PR (cards:List bX)(s:aA)(all:List aG)(e:bV)(hc:cards.length*176<=ba)(mc:∀ y∈cards,bX.ok y)(h:s.ok)(dZ:oN cards s e=true)(hk:e.kind=2)(hm:Ct ae 48 [.agg (s.enc.map .t),.agg (e.enc.map .t)] (.agg ((EW s e).enc.map .t)) [] false):Ct ae 21 [.c (.t (.sl 17 (cards.map bX.enc))),.agg (s.enc.map .t),.c (.t (.sl 17 (all.map aG.enc))),.agg (e.enc.map .t)] (.agg ((EW s e).enc.map .t)) [] false:=by
 have hv:=vt cards s e hc mc h;rw[dZ] at hv;refine cT Tryz.func21 rfl (by kernel_rfl) rfl fun w0 O _=>aBW [3,4,6,8,13,15,23,24] ?_;refine cR (gM s h) ⟨fL s.enc,trivial⟩ ?_;refine cF hv ⟨rfl,fL s.enc,fL e.enc,trivial⟩ ?_;refine aBW [] ?_
 repeat' (first|refine eu (iP hk) ?_|refine cQ (gp hk (by decide)) ?_)
 refine aB2 [] (aBW [] ?_);refine cR (hm) ⟨?_,fL e.enc,trivial⟩ ?_
 ·repeat' first|refine Ai ?_ ?_|exact rfl|exact⟨⟩|exact Ei _ rfl
 refine Ei [] ?_
 repeat' first|refine Ai ?_ ?_|exact rfl|exact⟨⟩|exact Ei _ rfl
theorem PQ (cards:List bX)(s:aA)(all:List aG)(e:bV)(hc:cards.length*176<=ba)(mc:∀ y∈cards,bX.ok y)(h:s.ok)(dZ:oN cards s e=true)(hk:e.kind=3)(p:Nat)(hp:p < s.az.length)(he:e.bC=p):Ct ae 21 [.c (.t (.sl 17 (cards.map bX.enc))),.agg (s.enc.map .t),.c (.t (.sl 17 (all.map aG.enc))),.agg (e.enc.map .t)] (.agg ((lO s p).enc.map .t)) [] false:=by
 have hv:=vt cards s e hc mc h;rw[dZ] at hv;refine cT Tryz.func21 rfl (by kernel_rfl) rfl fun w0 O _=>aBW [3,4,6,8,13,15,23,24] ?_;refine cR (gM s h) ⟨fL s.enc,trivial⟩ ?_;refine cF hv ⟨rfl,fL s.enc,fL e.enc,trivial⟩ ?_;refine aBW [] ?_
 repeat' (first|refine eu (iP hk) ?_|refine cQ (gp hk (by decide)) ?_)
 refine aB2 [] (aBW [] ?_);refine cR (PO s p h hp) ⟨?_,congrArg iv he,trivial⟩ ?_
 ·repeat' first|refine Ai ?_ ?_|exact rfl|exact⟨⟩|exact Ei _ rfl
 refine Ei [] ?_
 repeat' first|refine Ai ?_ ?_|exact rfl|exact⟨⟩|exact Ei _ rfl
theorem Et (cards:List bX)(s:aA)(all:List aG)(e:bV)(hc:cards.length*176<=ba)(mc:∀ y∈cards,bX.ok y)(h:s.ok)(dZ:oN cards s e=true)(hk:e.kind=4\/e.kind=5\/e.kind=16\/e.kind=17)(i:Nat)(hi:i < s.az.length)(he:e.bC=i)(hb:s.az[i].cW.length<=1099511627776):Ct ae 21 [.c (.t (.sl 17 (cards.map bX.enc))),.agg (s.enc.map .t),.c (.t (.sl 17 (all.map aG.enc))),.agg (e.enc.map .t)] (.agg ((jq s e).enc.map .t)) [] false:=by
 have hq:=PN s e h hk i hi he hb;have hv:=vt cards s e hc mc h;rw[dZ] at hv;refine cT Tryz.func21 rfl (by kernel_rfl) rfl fun w0 O _=>aBW [3,4,6,8,13,15,23,24] ?_;refine cR (gM s h) ⟨fL s.enc,trivial⟩ ?_;refine cF hv ⟨rfl,fL s.enc,fL e.enc,trivial⟩ ?_;refine aBW [] ?_;rcases hk with hk|hk|hk|hk
 all_goals
  repeat' (first|refine eu (iP hk) ?_|refine cQ (gp hk (by decide)) ?_)
  refine aB2 [] (aBW [] ?_);refine cR hq ⟨?_,fL e.enc,trivial⟩ ?_
  ·repeat' first|refine Ai ?_ ?_|exact rfl|exact⟨⟩|exact Ei _ rfl
  refine Ei [] ?_
  repeat' first|refine Ai ?_ ?_|exact rfl|exact⟨⟩|exact Ei _ rfl
theorem LS (cards:List bX)(s:aA)(all:List aG)(e:bV)(hc:cards.length*176<=ba)(mc:∀ y∈cards,bX.ok y)(h:s.ok)(dZ:oN cards s e=true)(hk:e.kind=10)(hm:Ct ae 51 [.agg (s.enc.map .t),.agg (e.enc.map .t)] (.agg ((B5 s e e.bq.toNat).enc.map .t)) [] false):Ct ae 21 [.c (.t (.sl 17 (cards.map bX.enc))),.agg (s.enc.map .t),.c (.t (.sl 17 (all.map aG.enc))),.agg (e.enc.map .t)] (.agg ((B5 s e e.bq.toNat).enc.map .t)) [] false:=by
 have hv:=vt cards s e hc mc h;rw[dZ] at hv;refine cT Tryz.func21 rfl (by kernel_rfl) rfl fun w0 O _=>aBW [3,4,6,8,13,15,23,24] ?_;refine cR (gM s h) ⟨fL s.enc,trivial⟩ ?_;refine cF hv ⟨rfl,fL s.enc,fL e.enc,trivial⟩ ?_;refine aBW [] ?_
 repeat' (first|refine eu (iP hk) ?_|refine cQ (gp hk (by decide)) ?_)
 refine aB2 [] (aBW [] ?_);refine cR (hm) ⟨?_,fL e.enc,trivial⟩ ?_
 ·repeat' first|refine Ai ?_ ?_|exact rfl|exact⟨⟩|exact Ei _ rfl
 refine Ei [] ?_
 repeat' first|refine Ai ?_ ?_|exact rfl|exact⟨⟩|exact Ei _ rfl
theorem BE (cards:List bX)(s:aA)(all:List aG)(e:bV)(hc:cards.length*176<=ba)(mc:∀ y∈cards,bX.ok y)(h:s.ok)(dZ:oN cards s e=true)(hk:e.kind=1\/e.kind=6\/e.kind=7\/e.kind=8\/e.kind=9\/e.kind=12\/e.kind=13)(hm:Ct ae 52 [.agg (s.enc.map .t),.c (.t (.sl 17 (all.map aG.enc))),.agg (e.enc.map .t)] (.agg ((gy s all e).enc.map .t)) [] false):Ct ae 21 [.c (.t (.sl 17 (cards.map bX.enc))),.agg (s.enc.map .t),.c (.t (.sl 17 (all.map aG.enc))),.agg (e.enc.map .t)] (.agg ((gy s all e).enc.map .t)) [] false:=by
 have hq:=hm;have hv:=vt cards s e hc mc h;rw[dZ] at hv;refine cT Tryz.func21 rfl (by kernel_rfl) rfl fun w0 O _=>aBW [3,4,6,8,13,15,23,24] ?_;refine cR (gM s h) ⟨fL s.enc,trivial⟩ ?_;refine cF hv ⟨rfl,fL s.enc,fL e.enc,trivial⟩ ?_;refine aBW [] ?_;rcases hk with hk|hk|hk|hk|hk|hk|hk
 all_goals
  repeat' (first|refine eu (iP hk) ?_|refine cQ (gp hk (by decide)) ?_)
  refine aB2 [] (aBW [] ?_);refine cR hq ⟨?_,rfl,fL e.enc,trivial⟩ ?_
  ·repeat' first|refine Ai ?_ ?_|exact rfl|exact⟨⟩|exact Ei _ rfl
  refine Ei [] ?_
  repeat' first|refine Ai ?_ ?_|exact rfl|exact⟨⟩|exact Ei _ rfl
theorem LR (cards:List bX)(s:aA)(all:List aG)(e:bV)(hc:cards.length*176<=ba)(mc:∀ y∈cards,bX.ok y)(h:s.ok)(dZ:oN cards s e=true)(hk:e.kind=11\/e.kind=14\/e.kind=15):Ct ae 21 [.c (.t (.sl 17 (cards.map bX.enc))),.agg (s.enc.map .t),.c (.t (.sl 17 (all.map aG.enc))),.agg (e.enc.map .t)] (.agg (s.enc.map .t)) [] false:=by
 have hv:=vt cards s e hc mc h;rw[dZ] at hv;refine cT Tryz.func21 rfl (by kernel_rfl) rfl fun w0 O _=>aBW [3,4,6,8,13,15,23,24] ?_;refine cR (gM s h) ⟨fL s.enc,trivial⟩ ?_;refine cF hv ⟨rfl,fL s.enc,fL e.enc,trivial⟩ ?_;refine aBW [] ?_;rcases hk with hk|hk|hk
 all_goals
  repeat' (first|refine eu (iP hk) ?_|refine cQ (gp hk (by decide)) ?_)
  refine aB2 [] (aBW [] ?_);refine Ei [] ?_
  repeat' first|refine Ai ?_ ?_|exact rfl|exact⟨⟩|exact Ei _ rfl
theorem IT (s:aA)(all:List aG)(e:bV)(h:s.ok)(hh:er s.aa e.aO=false):Ct ae 52 [.agg (s.enc.map .t),.c (.t (.sl 17 (all.map aG.enc))),.agg (e.enc.map .t)] (.agg ((gy s all e).enc.map .t)) [] false:=by
 have ho:gy s all e=s:=by
  unfold gy;rw[if_neg (by rw[hh];decide)]
 rw[ho];have hf:=gk s e.aO h.2.2.1;rw[hh] at hf;refine cT Tryz.func52 rfl (by kernel_rfl) rfl fun w0 O _=>aBW [3,4] ?_;refine cR hf ⟨fL s.enc,rfl,trivial⟩ ?_;refine aBW [] ?_;refine Ei [] ?_
 repeat' first|refine Ai ?_ ?_|exact rfl|exact⟨⟩|exact Ei _ rfl
theorem LQ (s:aA)(all:List aG)(e:bV)(h:s.ok)(ha:all.length*176<=ba)(ma:∀ y∈all,aG.ok y)(hk:e.kind=1\/e.kind=6\/e.kind=7\/e.kind=8\/e.kind=9\/e.kind=12\/e.kind=13):Ct ae 52 [.agg (s.enc.map .t),.c (.t (.sl 17 (all.map aG.enc))),.agg (e.enc.map .t)] (.agg ((gy s all e).enc.map .t)) [] false:=by
 by_cases hh:er s.aa e.aO=true
 ·rcases hk with hk|hk|hk|hk|hk|hk|hk
  ·exact LP s all e h ha ma hk hh
  ·exact LO s all e h hk hh
  ·exact LN s all e h hk hh
  ·exact LM s all e h hk hh
  ·exact LL s all e h hk hh
  ·exact IV s all e h hk hh
  ·exact IU s all e h hk hh
 ·exact IT s all e h (by simpa using hh)
end
section
open Go Cg
section
inductive TU (cards:List bX) (s:aA) (e:bV):Prop where
 | mv:e.kind=2->er s.aa e.aO=true->0<=e.nQ/\e.nQ<=4->0<=e.bC/\e.bC < s.az.length->TU cards s e
 | cr:e.kind=10->kX s e.bC=true->aeI cards e.dK=true->qG e.bq=true->TU cards s e
 | dr:e.kind=3->kX s e.bC=true->TU cards s e
 | lf:(e.kind=4\/e.kind=5\/e.kind=16\/e.kind=17)->kX s e.bC=true->(e.kind=17\/qG e.bq=true)->TU cards s e
 | ob:(e.kind=1\/e.kind=6\/e.kind=7\/e.kind=8\/e.kind=9\/e.kind=12\/e.kind=13)->iY s e.aO=true->(e.kind=1\/e.kind=8\/e.kind=9->qG e.bq=true)->(e.kind=6->(b9 s.aa e.aO).eR=false)->(e.kind=8\/e.kind=9->0<=e.aaD/\e.aaD < 3)->(e.kind=13->iY s e.fp=true)->TU cards s e
 | no:e.kind=1->er s.aa e.aO=false->TU cards s e
 | ot:(e.kind=11\/e.kind=14\/e.kind=15)->TU cards s e
variable {q:tp}{s:aA}
theorem NV {cards:List bX}{e:bV}(h:jE q cards.length s)(dZ:oN cards s e=true):TU cards s e:=by
 unfold oN at dZ
 by_cases k1:e.kind=1
 ·rw[if_pos k1,ag,cm,ag,beq_iff_eq] at dZ;rcases dZ.2 with h1|h1
  ·exact .ob (by omega) h1 (fun _=>dZ.1) (by omega) (by omega) (by omega)
  ·exact .no k1 (by rw[h1.1];exact F9 h)
 rw[if_neg k1] at dZ
 by_cases k2:e.kind=2
 ·rw[if_pos k2] at dZ;simp only[ag,beq_iff_eq,decide_eq_true_eq] at dZ;obtain⟨a1,_,_,a2,a3,a4,a5⟩:=dZ;exact .mv k2 a1 ⟨a2,a3⟩ ⟨a4,a5⟩
 rw[if_neg k2] at dZ
 by_cases k3:e.kind=3\/e.kind=14\/e.kind=15\/e.kind=17
 ·rw[if_pos k3] at dZ
  by_cases k17:e.kind=17
  ·exact .lf (by omega) dZ (.inl k17)
  by_cases k33:e.kind=3
  ·exact .dr k33 dZ
  ·exact .ot (by omega)
 rw[if_neg k3] at dZ
 by_cases k4:e.kind=4\/e.kind=5\/e.kind=16
 ·rw[if_pos k4,ag] at dZ;exact .lf (by omega) dZ.1 (.inr dZ.2)
 rw[if_neg k4] at dZ
 by_cases k6:e.kind=6
 ·rw[if_pos k6,ag] at dZ;exact .ob (by omega) dZ.1 (by omega) (fun _=>by simpa using dZ.2) (by omega) (by omega)
 rw[if_neg k6] at dZ
 by_cases k7:e.kind=7
 ·rw[if_pos k7,ag] at dZ;exact .ob (by omega) dZ.1 (by omega) (by omega) (by omega) (by omega)
 rw[if_neg k7] at dZ
 by_cases k8:e.kind=8\/e.kind=9
 ·rw[if_pos k8,ag,ag,ag,decide_eq_true_eq,decide_eq_true_eq] at dZ;exact .ob (by omega) dZ.1 (fun _=>dZ.2.2.2) (by omega) (fun _=>⟨dZ.2.1,dZ.2.2.1⟩) (by omega)
 rw[if_neg k8] at dZ
 by_cases YQ:e.kind=10
 ·rw[if_pos YQ,ag,ag] at dZ;exact .cr YQ dZ.1 dZ.2.1 dZ.2.2
 rw[if_neg YQ] at dZ
 by_cases k11:e.kind=11
 ·exact .ot (.inl k11)
 rw[if_neg k11] at dZ
 by_cases YP:e.kind=12
 ·rw[if_pos YP,ag] at dZ;exact .ob (by omega) dZ.1 (by omega) (by omega) (by omega) (by omega)
 rw[if_neg YP] at dZ
 by_cases YO:e.kind=13
 ·rw[if_pos YO,ag] at dZ;exact .ob (by omega) dZ.1 (by omega) (by omega) (by omega) (fun _=>dZ.2)
 rw[if_neg YO] at dZ
 cases dZ
theorem TJ {cards:List bX}{s:aA}{all:List aG}{e:bV}(h:oN cards s e=false):wG cards s all e=s:=by
 unfold wG;rw[h];rfl
theorem ZP {cards:List bX}{s:aA}{all:List aG}{e:bV}(h:oN cards s e=true)(hk:e.kind=2):wG cards s all e=EW s e:=by
 unfold wG;rw[if_pos h,if_pos hk]
theorem agQ {cards:List bX}{s:aA}{all:List aG}{e:bV}(h:oN cards s e=true)(hk:e.kind=3):wG cards s all e=lO s e.bC:=by
 unfold wG iJ;rw[if_pos h,if_neg (by omega),if_pos hk]
theorem Sf {cards:List bX}{s:aA}{all:List aG}{e:bV}(h:oN cards s e=true)(hk:e.kind=4\/e.kind=5\/e.kind=16\/e.kind=17):wG cards s all e=jq s e:=by
 unfold wG iJ;rw[if_pos h,if_neg (by omega),if_neg (by omega),if_pos hk]
theorem TK {cards:List bX}{s:aA}{all:List aG}{e:bV}(h:oN cards s e=true)(hk:e.kind=10):wG cards s all e=B5 s e e.bq.toNat:=by
 unfold wG iJ;rw[if_pos h,if_neg (by omega),if_neg (by omega),if_neg (by omega),if_pos hk]
theorem N8 {cards:List bX}{s:aA}{all:List aG}{e:bV}(h:oN cards s e=true)(hk:e.kind=1\/e.kind=6\/e.kind=7\/e.kind=8\/e.kind=9\/e.kind=12\/e.kind=13):wG cards s all e=gy s all e:=by
 unfold wG iJ;rw[if_pos h,if_neg (by omega),if_neg (by omega),if_neg (by omega),if_neg (by omega),if_pos hk]
theorem ZO {cards:List bX}{s:aA}{all:List aG}{e:bV}(h:oN cards s e=true)(hk:e.kind=11\/e.kind=14\/e.kind=15):wG cards s all e=s:=by
 unfold wG iJ;rw[if_pos h,if_neg (by omega),if_neg (by omega),if_neg (by omega),if_neg (by omega),if_neg (by omega)]
theorem Dw {c:Int}(h:jE q c s):s.bw.length<=2048:=by
 have:=jd h 0 0
 rwa [kg] at this
end
end
section
open Go Cg Go.RowKit Go.Sort
section
variable {q:tp}
structure Pe (q:tp)(cards:List bX)(s:aA)(all:List aG):Prop where
 hc:cards.length*176<=ba
 mc:∀ y∈cards,bX.ok y
 h:s.ok
 ha:all.length*176<=ba
 ma:∀ y∈all,aG.ok y
 v:jE q cards.length s
 n:s.bE<=1000000/\s.bQ<=1000000
theorem MU {c:Int}{s:aA}(h:jE q c s):∀ p∈s.az,p.cW.length<=1099511627776:=fun p hp=>by
 have:=(yf h hp).1;omega
theorem Pw {c:Int}{s:aA}(h:jE q c s):(s.aa.map aE.id).Pairwise (· < ·):=List.pairwise_map.2 h.qN
theorem zy {c:Int}{s:aA}(h:jE q c s):∀ i∈s.aa.map aE.id,0<=i:=fun i hi=>by
 obtain⟨o,ho,rfl⟩:=bA.1 hi;have:=(jP h ho).id;omega
theorem Pe.crp {cards:List bX}{s:aA}{all:List aG}(H:Pe q cards s all)(e:bV):DL s e (0,s):=by
 have hb:=Dw H.v;have hn:=H.n;have h1:=H.v.GX;exact DL.start H.h (fun y hy=>(H.v.obj y hy).2.1) (Pw H.v) (by omega) (by omega) (zy H.v)
structure DoR (s t:aA):Prop where
 ok:t.ok
 qN:t.aa.Pairwise fun a b=>a.id < b.id
 len:t.aa.length<=2048
 ct:t.dG=s.dG
 pos:∀ i∈t.aa.map aE.id,0<=i
theorem Pe.res {cards:List bX}{s:aA}{all:List aG}(H:Pe q cards s all)(e:bV):DoR s (wG cards s all e):=by
 have A3:=(Th cards s all e).ct;have hlen:∀ {t:aA},jE q cards.length t->t.aa.length<=2048:=fun h=>by have:=h.ER;omega
 by_cases hk:e.kind=10
 ·by_cases dZ:oN cards s e=true
  ·rw[TK dZ hk] at A3 ⊢;obtain⟨h1,h2,h3,h4⟩:=DL.end_ _ 0 s rfl (hlen H.v) (H.crp e);exact⟨h1,List.pairwise_map.1 h2,h3,A3,h4⟩
  ·rw[TJ (by simpa using dZ)];exact⟨H.h,H.v.qN,hlen H.v,rfl,zy H.v⟩
 ·have hv:=(Wu H.v all e H.n hk (MU H.v)).val;exact⟨eC H.h hv (Th cards s all e),hv.qN,hlen hv,A3,zy hv⟩
theorem Yd {cards:List bX}{s:aA}{all:List aG}{e:bV}(H:Pe q cards s all):Ct ae 21 [.c (.t (.sl 17 (cards.map bX.enc))),.agg (s.enc.map .t),.c (.t (.sl 17 (all.map aG.enc))),.agg (e.enc.map .t)] (.agg ((wG cards s all e).enc.map .t)) [] false:=by
 have hcr:=H.crp e;obtain⟨hc,mc,h,ha,ma,hv,hn⟩:=H
 cases dZ:oN cards s e with
 | false=>rw[TJ dZ];exact IY cards s all e hc mc h dZ
 | true=>
  have nn:=hv.GX;have hbf:=Dw hv;rcases NV hv dZ with⟨hk,a1,a2,a3⟩|⟨hk,_,_,a4⟩|⟨hk,a1⟩|⟨hk,a1,_⟩|⟨hk,a1,_,_,_,a2⟩|⟨hk,a1⟩|hk
  ·rw[ZP dZ hk];exact PR cards s all e hc mc h dZ hk (PM s e h hv a1 a2 a3 (by omega))
  ·rw[TK dZ hk];exact LS cards s all e hc mc h dZ hk (I0 s e hcr (F2 a4).2)
  ·rw[agQ dZ hk];obtain⟨p1,p2⟩:=vS a1;have he:e.bC=(e.bC.toNat:Int):=by omega
   have hd:=PQ cards s all e hc mc h dZ hk e.bC.toNat (by omega) he
   rwa [<- he] at hd
  ·rw[Sf dZ hk];obtain⟨p1,p2⟩:=vS a1;have hi:e.bC.toNat < s.az.length:=by omega
   have hb:=MU hv _ (aI hi);exact Et cards s all e hc mc h dZ hk e.bC.toNat hi (by omega) hb
  ·rw[N8 dZ hk];exact BE cards s all e hc mc h dZ hk (LQ s all e h ha ma hk)
  ·rw[N8 dZ (.inl hk)];exact BE cards s all e hc mc h dZ (.inl hk) (LQ s all e h ha ma (.inl hk))
  ·rw[ZO dZ hk];exact LR cards s all e hc mc h dZ hk
end
end
end Go.Proofs.YtbmdcnkidjlbbaaGreat
namespace Go.Proofs
section
open Go.Shelf
section
def Tryz.Cj:Go.Shelf.Ren:=⟨fun|144=>277|143=>281|219=>284|217=>296|225=>297|224=>298|267=>299|266=>305|314=>306|n=>n,fun|9=>9|4=>4|3=>3|5=>5|46=>245|146=>307|51=>298|n=>n,fun|1=>0|n=>n⟩
theorem Tryz.Q8:Go.Proofs.Lays.n144 ae Tryz.Cj:={
 mixed:=by kernel_rfl
 f143:=Tryz.func281.trans (congrArg some (by kernel_rfl))
 f144:=Tryz.func277.trans (congrArg some (by kernel_rfl))
 f217:=Tryz.func296.trans (congrArg some (by kernel_rfl))
 f219:=Tryz.func284.trans (congrArg some (by kernel_rfl))
 f224:=Tryz.func298.trans (congrArg some (by kernel_rfl))
 f225:=Tryz.func297.trans (congrArg some (by kernel_rfl))
 f266:=Tryz.func305.trans (congrArg some (by kernel_rfl))
 f267:=Tryz.func299.trans (congrArg some (by kernel_rfl))
 f314:=Tryz.func306.trans (congrArg some (by kernel_rfl))
 t3:=Tryz.underlying3
 a3:=Tryz.isAgg3
 z3:=Tryz.sizeOf3
 v3:=Tryz.zeroValue3
 t4:=Tryz.underlying4
 a4:=Tryz.isAgg4
 z4:=Tryz.sizeOf4
 v4:=Tryz.zeroValue4
 t5:=Tryz.underlying5
 a5:=Tryz.isAgg5
 z5:=Tryz.sizeOf5
 v5:=Tryz.zeroValue5
 t9:=Tryz.underlying9
 a9:=Tryz.isAgg9
 z9:=Tryz.sizeOf9
 v9:=Tryz.zeroValue9
 t46:=Tryz.underlying245
 a46:=Tryz.isAgg245
 z46:=Tryz.sizeOf245
 v46:=Tryz.zeroValue245
 t51:=Tryz.underlying298
 a51:=Tryz.isAgg298
 z51:=Tryz.sizeOf298
 v51:=Tryz.zeroValue298
 t146:=Tryz.underlying307
 a146:=Tryz.isAgg307
 z146:=Tryz.sizeOf307
 v146:=Tryz.zeroValue307
 g1:=by kernel_rfl }
open Go.RowKit Go.Lib in
theorem Tryz.strings_Contains (s sub:ByteArray)(m:Int)(w:World)(hs:s.size < 4294967281)(hm:w.cell? ⟨0,0,none⟩=some (.int .i64 m)) :
  Calls ae 277 #[.string s,.string sub] w fun e w'=>e=.returned (.bool (Lib.contains s.data.toList sub.data.toList))/\w'=w:=Any.strings_Contains Tryz.Q8 s sub m w hs hm
def Tryz.Ci:Go.Shelf.Ren:=⟨fun|189=>278|125=>283|257=>282|128=>294|129=>295|294=>285|295=>286|296=>287|297=>288|298=>289|299=>290|216=>291|300=>292|301=>293|328=>300|329=>301|330=>302|331=>303|332=>304|215=>66|343=>307|n=>n,fun|28=>25|3=>3|46=>245|0=>0|51=>298|53=>29|4=>4|183=>291|182=>290|131=>295|5=>5|9=>9|218=>301|222=>305|228=>309|229=>310|n=>n,fun|n=>n⟩
theorem Tryz.Hd:Go.Proofs.Lays.n189 ae Tryz.Ci:={
 mixed:=by kernel_rfl
 f125:=Tryz.func283.trans (congrArg some (by kernel_rfl))
 f128:=Tryz.func294.trans (congrArg some (by kernel_rfl))
 f129:=Tryz.func295.trans (congrArg some (by kernel_rfl))
 f189:=Tryz.func278.trans (congrArg some (by kernel_rfl))
 f215:=Tryz.func66.trans (congrArg some (by kernel_rfl))
 f216:=Tryz.func291.trans (congrArg some (by kernel_rfl))
 f257:=Tryz.func282.trans (congrArg some (by kernel_rfl))
 f294:=Tryz.func285.trans (congrArg some (by kernel_rfl))
 f295:=Tryz.func286.trans (congrArg some (by kernel_rfl))
 f296:=Tryz.func287.trans (congrArg some (by kernel_rfl))
 f297:=Tryz.func288.trans (congrArg some (by kernel_rfl))
 f298:=Tryz.func289.trans (congrArg some (by kernel_rfl))
 f299:=Tryz.func290.trans (congrArg some (by kernel_rfl))
 f300:=Tryz.func292.trans (congrArg some (by kernel_rfl))
 f301:=Tryz.func293.trans (congrArg some (by kernel_rfl))
 f328:=Tryz.func300.trans (congrArg some (by kernel_rfl))
 f329:=Tryz.func301.trans (congrArg some (by kernel_rfl))
 f330:=Tryz.func302.trans (congrArg some (by kernel_rfl))
 f331:=Tryz.func303.trans (congrArg some (by kernel_rfl))
 f332:=Tryz.func304.trans (congrArg some (by kernel_rfl))
 f343:=Tryz.func307.trans (congrArg some (by kernel_rfl))
 t0:=Tryz.underlying0
 a0:=Tryz.isAgg0
 z0:=Tryz.sizeOf0
 v0:=Tryz.zeroValue0
 t3:=Tryz.underlying3
 a3:=Tryz.isAgg3
 z3:=Tryz.sizeOf3
 v3:=Tryz.zeroValue3
 t4:=Tryz.underlying4
 a4:=Tryz.isAgg4
 z4:=Tryz.sizeOf4
 v4:=Tryz.zeroValue4
 t5:=Tryz.underlying5
 a5:=Tryz.isAgg5
 z5:=Tryz.sizeOf5
 v5:=Tryz.zeroValue5
 t9:=Tryz.underlying9
 a9:=Tryz.isAgg9
 z9:=Tryz.sizeOf9
 v9:=Tryz.zeroValue9
 t28:=Tryz.underlying25
 a28:=Tryz.isAgg25
 z28:=Tryz.sizeOf25
 v28:=Tryz.zeroValue25
 t46:=Tryz.underlying245
 a46:=Tryz.isAgg245
 z46:=Tryz.sizeOf245
 v46:=Tryz.zeroValue245
 t51:=Tryz.underlying298
 a51:=Tryz.isAgg298
 z51:=Tryz.sizeOf298
 v51:=Tryz.zeroValue298
 t53:=Tryz.underlying29
 a53:=Tryz.isAgg29
 z53:=Tryz.sizeOf29
 v53:=Tryz.zeroValue29
 t131:=Tryz.underlying295
 a131:=Tryz.isAgg295
 z131:=Tryz.sizeOf295
 v131:=Tryz.zeroValue295
 t182:=Tryz.underlying290
 a182:=Tryz.isAgg290
 z182:=Tryz.sizeOf290
 v182:=Tryz.zeroValue290
 t183:=Tryz.underlying291
 a183:=Tryz.isAgg291
 z183:=Tryz.sizeOf291
 v183:=Tryz.zeroValue291
 t218:=Tryz.underlying301
 a218:=Tryz.isAgg301
 z218:=Tryz.sizeOf301
 v218:=Tryz.zeroValue301
 t222:=Tryz.underlying305
 a222:=Tryz.isAgg305
 z222:=Tryz.sizeOf305
 v222:=Tryz.zeroValue305
 t228:=Tryz.underlying309
 a228:=Tryz.isAgg309
 z228:=Tryz.sizeOf309
 v228:=Tryz.zeroValue309
 t229:=Tryz.underlying310
 a229:=Tryz.isAgg310
 z229:=Tryz.sizeOf310
 v229:=Tryz.zeroValue310 }
open Go.Sort Go.RowKit in
theorem Tryz.slices_Sort_int (oJ off cap:Nat)(zs:List Int)(w:World)(hH:Holds (Value.int .i64) w oJ off zs.toArray)(V8:oJ < w.heap.size)(lh:zs.length < 4611686018427387904) :
  Calls ae 278 #[.slice (some ⟨oJ,off,none⟩) zs.length cap] w fun e w'=>
   e=.returned (.tuple #[])/\∃ n os,w'=grow (putRow (Value.int .i64) (Sort.ahead w n) oJ off (zs.mergeSort fun x y=>decide (x<=y)).toArray) os:=Any.slices_Sort_int Tryz.Hd oJ off cap zs w hH V8 lh
def Tryz.Ck:Go.Shelf.Ren:=⟨fun|107=>270|108=>280|n=>n,fun|28=>25|3=>3|4=>4|0=>0|n=>n,fun|n=>n⟩
theorem Tryz.He:Go.Proofs.Lays.n107 ae Tryz.Ck:={
 mixed:=by kernel_rfl
 f107:=Tryz.func270.trans (congrArg some (by kernel_rfl))
 f108:=Tryz.func280.trans (congrArg some (by kernel_rfl))
 t0:=Tryz.underlying0
 a0:=Tryz.isAgg0
 z0:=Tryz.sizeOf0
 v0:=Tryz.zeroValue0
 t3:=Tryz.underlying3
 a3:=Tryz.isAgg3
 z3:=Tryz.sizeOf3
 v3:=Tryz.zeroValue3
 t4:=Tryz.underlying4
 a4:=Tryz.isAgg4
 z4:=Tryz.sizeOf4
 v4:=Tryz.zeroValue4
 t28:=Tryz.underlying25
 a28:=Tryz.isAgg25
 z28:=Tryz.sizeOf25
 v28:=Tryz.zeroValue25 }
open Go.Lib in
theorem Tryz.slices_Contains_int (b off n c:Nat)(zs:List Int)(x:Int)(w:World)(hz:n<=zs.length)(V9:n<=9223372036854775807)(hc:∀ j,j < zs.length->w.cell? ⟨b,off+j,none⟩=some (.int .i64 (zs.getD j 0))) :
  Calls ae 270 #[.slice (some ⟨b,off,none⟩) n c,.int .i64 x] w fun e w'=>e=.returned (.bool ((zs.take n).contains x))/\w'=w:=Any.slices_Contains_int Tryz.He b off n c zs x w hz V9 hc
open Go.Lib in
theorem Tryz.slices_Contains_int_empty (a:Option Addr)(c:Nat)(x:Int)(w:World) :
  Calls ae 270 #[.slice a 0 c,.int .i64 x] w fun e w'=>e=.returned (.bool false)/\w'=w:=Any.slices_Contains_int_empty Tryz.He a c x w
def Tryz.xq:Go.Shelf.Ren:=⟨fun|15=>268|n=>n,fun|22=>25|3=>3|4=>4|n=>n,fun|n=>n⟩
theorem Tryz.rX:Go.Proofs.Lays2.n15 ae Tryz.xq:={
 mixed:=by kernel_rfl
 f15:=Tryz.func268.trans (congrArg some (by kernel_rfl))
 t3:=Tryz.underlying3
 a3:=Tryz.isAgg3
 z3:=Tryz.sizeOf3
 v3:=Tryz.zeroValue3
 t4:=Tryz.underlying4
 a4:=Tryz.isAgg4
 z4:=Tryz.sizeOf4
 v4:=Tryz.zeroValue4
 t22:=Tryz.underlying25
 a22:=Tryz.isAgg25
 z22:=Tryz.sizeOf25
 v22:=Tryz.zeroValue25
 i3:=by kernel_rfl }
open Go.RowKit Go.Lib in
theorem Tryz.slices_Clone_int (b off n c:Nat)(zs:List Int)(w:World)(hz:n<=zs.length)(V9:n*8<=140737488355328)(hc:∀ j,j < zs.length->w.cell? ⟨b,off+j,none⟩=some (.int .i64 (zs.getD j 0))) :
  Calls ae 268 #[.slice (some ⟨b,off,none⟩) n c] w fun e w'=>∃ v',e=.returned v'/\w'.ownsRow w.heap.size 3 1 v' n ((zs.take n).map (Value.int .i64))/\v'≠.slice none 0 0/\Below w.heap.size w w':=Any.slices_Clone_int Tryz.rX b off n c zs w hz V9 hc
open Go.RowKit Go.Lib in
theorem Tryz.slices_Clone_int_nil (n c:Nat)(w:World) :
  Calls ae 268 #[.slice none n c] w fun e w'=>e=.returned (.slice none 0 0)/\w'=w:=Any.slices_Clone_int_nil Tryz.rX n c w
open Go.RowKit Go.Lib in
theorem Tryz.slices_Clone_int_zero (a:Addr)(c:Nat)(w:World) :
  Calls ae 268 #[.slice (some a) 0 c] w fun e w'=>∃ v',e=.returned v'/\w'.ownsRow w.heap.size 3 1 v' 0 []/\v'≠.slice none 0 0/\Below w.heap.size w w':=Any.slices_Clone_int_zero Tryz.rX a c w
def Tryz.xp:Go.Shelf.Ren:=⟨fun|20=>279|n=>n,fun|22=>25|3=>3|4=>4|0=>0|n=>n,fun|n=>n⟩
theorem Tryz.yu:Go.Proofs.Lays2.n20 ae Tryz.xp:={
 mixed:=by kernel_rfl
 f20:=Tryz.func279.trans (congrArg some (by kernel_rfl))
 t0:=Tryz.underlying0
 a0:=Tryz.isAgg0
 z0:=Tryz.sizeOf0
 v0:=Tryz.zeroValue0
 t3:=Tryz.underlying3
 a3:=Tryz.isAgg3
 z3:=Tryz.sizeOf3
 v3:=Tryz.zeroValue3
 t4:=Tryz.underlying4
 a4:=Tryz.isAgg4
 z4:=Tryz.sizeOf4
 v4:=Tryz.zeroValue4
 t22:=Tryz.underlying25
 a22:=Tryz.isAgg25
 z22:=Tryz.sizeOf25
 v22:=Tryz.zeroValue25
 i3:=by kernel_rfl }
open Go.RowKit Go.Lib Go.Sort in
theorem Tryz.slices_Compact_int (oJ off cap:Nat)(zs:List Int)(w:World)(hH:Holds (Value.int .i64) w oJ off zs.toArray)(lh:zs.length<=9223372036854775807)(mV:zs.length<=cap) :
  Calls ae 279 #[.slice (some ⟨oJ,off,none⟩) zs.length cap] w fun e w'=>e=.returned (.slice (some ⟨oJ,off,none⟩) (Lib.compact zs).length cap)/\∃ q,w'=putRow (Value.int .i64) (Sort.ahead w q) oJ off (Lib.compact zs++List.replicate (zs.length - (Lib.compact zs).length) 0).toArray:=Any.slices_Compact_int Tryz.yu oJ off cap zs w hH lh mV
open Go.RowKit Go.Lib Go.Sort in
theorem Tryz.slices_Compact_int_empty (a:Option Addr)(cap:Nat)(w:World) :
  Calls ae 279 #[.slice a 0 cap] w fun e w'=>e=.returned (.slice a 0 cap)/\w'=w:=Any.slices_Compact_int_empty Tryz.yu a cap w
open Go.RowKit Go.Sort in
theorem Tryz.slices_Sort_int_none (p:Option Addr)(cap:Nat)(w:World) :
  Calls ae 278 #[.slice p 0 cap] w fun e w'=>e=.returned (.tuple #[])/\w'=w:=Any.slices_Sort_int_none Tryz.Hd p cap w
def Tryz.ql:Go.Shelf.Ren:=⟨fun|6=>187|n=>n,fun|22=>25|23=>3|25=>153|3=>3|0=>0|4=>4|n=>n,fun|n=>n⟩
theorem Tryz.xo:Go.Proofs.SlLaysH.n6 ae Tryz.ql:={
 mixed:=by kernel_rfl
 f6:=⟨Tryz.f187.name,by decide,Tryz.func187.trans (congrArg some (by kernel_rfl))⟩
 t0:=Tryz.underlying0
 a0:=Tryz.isAgg0
 z0:=Tryz.sizeOf0
 v0:=Tryz.zeroValue0
 t3:=Tryz.underlying3
 a3:=Tryz.isAgg3
 z3:=Tryz.sizeOf3
 v3:=Tryz.zeroValue3
 t4:=Tryz.underlying4
 a4:=Tryz.isAgg4
 z4:=Tryz.sizeOf4
 v4:=Tryz.zeroValue4
 t22:=Tryz.underlying25
 a22:=Tryz.isAgg25
 z22:=Tryz.sizeOf25
 v22:=Tryz.zeroValue25
 a23:=Tryz.isAgg3
 z23:=Tryz.sizeOf3
 t25:=Tryz.underlying153
 a25:=Tryz.isAgg153
 z25:=Tryz.sizeOf153
 v25:=Tryz.zeroValue153 }
open Go.RowKit Go.Lib in
theorem Tryz.slices_IndexFunc_empty {α:Type}[Inhabited α](a:Option Addr)(c:Nat)(fv:Value)(w:World) :
  Calls ae 187 #[.slice a 0 c,fv] w fun e w'=>e=.returned (.int .i64 (-1))/\w'=w:=AnyE.slices_IndexFunc_empty Tryz.xo a c fv w
def Tryz.pf:Go.Shelf.Ren:=⟨fun|10=>130|6=>187|n=>n,fun|22=>25|23=>3|25=>153|3=>3|4=>4|0=>0|n=>n,fun|n=>n⟩
theorem Tryz.vU:Go.Proofs.SlLaysH.n10 ae Tryz.pf:={
 mixed:=by kernel_rfl
 f6:=⟨Tryz.f187.name,by decide,Tryz.func187.trans (congrArg some (by kernel_rfl))⟩
 f10:=⟨Tryz.f130.name,by decide,Tryz.func130.trans (congrArg some (by kernel_rfl))⟩
 t0:=Tryz.underlying0
 a0:=Tryz.isAgg0
 z0:=Tryz.sizeOf0
 v0:=Tryz.zeroValue0
 t3:=Tryz.underlying3
 a3:=Tryz.isAgg3
 z3:=Tryz.sizeOf3
 v3:=Tryz.zeroValue3
 t4:=Tryz.underlying4
 a4:=Tryz.isAgg4
 z4:=Tryz.sizeOf4
 v4:=Tryz.zeroValue4
 t22:=Tryz.underlying25
 a22:=Tryz.isAgg25
 z22:=Tryz.sizeOf25
 v22:=Tryz.zeroValue25
 a23:=Tryz.isAgg3
 z23:=Tryz.sizeOf3
 t25:=Tryz.underlying153
 a25:=Tryz.isAgg153
 z25:=Tryz.sizeOf153
 v25:=Tryz.zeroValue153 }
open Go.RowKit Go.Lib Go.Sort in
theorem Tryz.slices_DeleteFunc {α:Type}[Inhabited α](enc:α->Value)(hO:OneCell enc)(p:α->Bool)(g:Nat)(lb:Array Value)(eg:∀ args w,(callFunc g args).run ae w=.ok (.enter g args) w)(zr:α)(v23:∀ w,(zeroValue 3).run ae w=.ok (enc zr) w)(oJ off cap:Nat)(d:Array α)(w:World)(hp:PredAt ae g lb enc p w)(Xi:PredOver ae g lb enc p oJ off d.size w)(hH:Holds enc w oJ off d)(lh:d.size<=9223372036854775807)(mV:d.size<=cap) :
  Calls ae 130 #[.slice (some ⟨oJ,off,none⟩) d.size cap,.func (.func g) #[] lb] w fun e w'=>e=.returned (.slice (some ⟨oJ,off,none⟩) (d.toList.filter fun x=>!p x).length cap)/\∃ q,w'=putRow enc (Sort.ahead w q) oJ off ((d.toList.filter fun x=>!p x)++List.replicate (d.size - (d.toList.filter fun x=>!p x).length) zr).toArray:=AnyE.slices_DeleteFunc Tryz.vU enc hO p g lb eg zr v23 oJ off cap d w hp Xi hH lh mV
end
end
end Go.Proofs
namespace Go.Proofs.YtbmdcnkidjlbbaaGreat
section
open Go Go.RowKit Cg
def bt (s:ByteArray)(i:Nat):UInt8:=s.data.toList.getD i 0
theorem wT (s:ByteArray)(i:Nat)(h:i < s.size):bt s i=s[i]'h:=by
 have h':i < s.data.toList.length:=by simpa using h
 unfold bt;rw[List.getD_eq_getElem?_getD,cD h'];rfl
def B8 (c:UInt8):Bool:=decide (97<=c.toNat/\c.toNat<=122)
def CJ (c:UInt8):Bool:=decide ((97<=c.toNat/\c.toNat<=122)\/(48<=c.toNat/\c.toNat<=57)\/c.toNat=45)
def IsW (s:ByteArray):Prop:=1<=s.size/\s.size<=32/\B8 (bt s 0)=true/\¬ (bt s (s.size - 1)).toNat=45/\(∀ i,i < s.size->CJ (bt s i)=true)/\∀ i,i < s.size->0 < i->¬ ((bt s i).toNat=45/\(bt s (i - 1)).toNat=45)
instance (s:ByteArray):Decidable (IsW s):=by unfold IsW;infer_instance
def AX (s:ByteArray):Bool:=decide (IsW s)
theorem Cn {s:ByteArray}(h:IsW s):AX s=true:=decide_eq_true h
theorem eP {s:ByteArray}(h:¬ IsW s):AX s=false:=decide_eq_false h
theorem Db (l:List UInt8):Lib.contains l [45,45]=true↔∃ i,i+1 < l.length/\l.getD i 0=45/\l.getD (i+1) 0=45:=by
 induction l with
 | nil=>simp[Lib.contains,Lib.index]
 | cons a l ih=>
  have uj:=Lib.index_ge l [45,45];unfold Lib.contains at ih ⊢;rw[decide_eq_true_eq] at ih ⊢;rw[Lib.index]
  by_cases hp:([45,45]:List UInt8).isPrefixOf (a :: l)=true
  ·rw[if_pos hp];simp only[Int.le_refl,true_iff]
   cases l with
   | nil=>simp[List.isPrefixOf] at hp
   | cons b l=>
    simp[List.isPrefixOf] at hp;exact⟨0,by simp,by simp[hp.1],by simp[hp.2]⟩
  ·rw[if_neg hp]
   have step:(∃ i,i+1 < (a :: l).length/\(a :: l).getD i 0=45/\(a :: l).getD (i+1) 0=45)↔∃ i,i+1 < l.length/\l.getD i 0=45/\l.getD (i+1) 0=45:=by
    constructor
    ·rintro⟨i,h1,h2,h3⟩
     cases i with
     | zero=>
      exfalso;apply hp
      cases l with
      | nil=>simp at h1
      | cons b l=>simp at h2 h3;simp[List.isPrefixOf,h2,h3]
     | succ i=>exact⟨i,by simpa using h1,by simpa using h2,by simpa using h3⟩
    ·rintro⟨i,h1,h2,h3⟩;exact⟨i+1,by simpa using h1,by simpa using h2,by simpa using h3⟩
   rw[step,<- ih]
   by_cases hm:(Lib.index l [45,45]==-1)=true
   ·rw[if_pos hm];have:=beq_iff_eq.1 hm;omega
   ·rw[if_neg hm];have:¬ Lib.index l [45,45] = -1:=fun e=>hm (beq_iff_eq.2 e);omega
theorem ti (s:ByteArray):Lib.contains s.data.toList [45,45]=true↔∃ i,i+1 < s.size/\bt s i=45/\bt s (i+1)=45:=by
 rw[Db];have:s.data.toList.length=s.size:=(Lib.size_eq s).symm;rw[this];rfl
theorem Gd (c:UInt8):c=45↔c.toNat=45:=⟨fun h=>by rw[h];rfl,fun h=>UInt8.toNat_inj.1 h⟩
end
end Go.Proofs.YtbmdcnkidjlbbaaGreat
