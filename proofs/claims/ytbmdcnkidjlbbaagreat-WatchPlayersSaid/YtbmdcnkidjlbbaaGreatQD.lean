/- Parts of the proof, joined: Valid states, as facts. No program in sight; Chapter 25, on trees: Move of the reference; Chapter 25, on trees: Make of the reference; Move whole; Chapters 32 a. -/
import Derived.Test.YtbmdcnkidjlbbaaGreatQC
import Derived.Test.YtbmdcnkidjlbbaaGreatProg
import Derived.WalkLawsBesides
import Derived.WalkSpells
import Derived.WalkSmall
import Derived.BigQuiet
import Derived.Deep.MidRow
import Derived.Lib.Hide
import Derived.Shelf.Abstract
import Derived.Lib.SliceRun
import Derived.Shelf.Small.Bits
import Derived.Shelf.Strconv.Itoa0
import Derived.Shelf.Strings.Search1
import Derived.Shelf.Strings.Search2
import Derived.Shelf.Strings.Search3
import Derived.Shelf.LaysM
import Derived.Shelf.Strings.Shaped
import Derived.Shelf.Sort.Plain
import Derived.Shelf.Slices.Turned
import Derived.Ground.Names2Prog
import Derived.Shelf.Slices.Clone
import Derived.Shelf.Slices.CompactI
import Derived.Shelf.Slices.Cells
import Derived.Shelf.Slices.In.SortNone
import Derived.Ground.SlgnProg
import Derived.Shelf.SlicesE.Compact
import Derived.Ground.SlgfProg
import Derived.Shelf.SlicesE.IndexFunc
import Derived.Shelf.SlicesE.DeleteFunc
import Derived.Lib.IndexMore
import Derived.Deep.QuietTactic
import Derived.Lib.SlicesCompact
import Derived.Lib.Join
import Derived.Lib.SlicesS
open Go.Proofs.Tryz renaming prog->ae
open List renaming getElem?_eq_getElem->af,getElem?_eq_some_iff->an,length_cons->aq,length_append->au,length_nil->aw,length_take->aB,mem_cons_self->aC,getElem_mem->aI,mem_singleton->aJ,mem_cons_of_mem->aK,length_drop->aL,all_eq_true->aN,mem_of_getElem?->aU,map_append->aW,mem_append->aX,append_nil->aZ,take_length->bm,getElem?_map->bp,mem_map->bA,mem_iff_getElem->bB,nil_append->bF,length_set->bG,mem_append_left->bH,mem_append_right->bJ,length_replicate->cc,pairwise_iff_getElem->cu,length_filter_le->cx
open Bool renaming and_eq_true->ag,not_eq_true'->cb,or_eq_true->cm
open Nat renaming le_refl->al,zero_le->aD,le_trans->bd,zero_add->bu,mul_le_mul_right->cw,le_of_lt->cG
open Go.IntKind renaming wrap_i64->ak
open Option.some renaming inj->aR
set_option maxRecDepth 100000
set_option maxHeartbeats 4000000
section
namespace Cg
open Go
section
theorem qo {n a b:Int}:fz n a b=true↔a<=n∧n<=b:=by
 unfold fz;rw[ag,decide_eq_true_eq,decide_eq_true_eq]
theorem Bf {l:List aE}(hs:l.Pairwise fun a b=>a.id < b.id){a b:aE}(ha:a∈l)(hb:b∈l)(e:a.id=b.id):a=b:=by
 obtain⟨i,hi,rfl⟩:=bB.1 ha;obtain⟨j,hj,rfl⟩:=bB.1 hb;have hp:=cu.1 hs;rcases Nat.lt_trichotomy i j with h|h|h
 ·have:=hp i j hi hj h;omega
 ·subst h;rfl
 ·have:=hp j i hj hi h;omega
theorem js {l:List aE}{id:Int}:er l id=true↔∃ o∈l,o.id=id:=by
 unfold er;rw[List.find?_isSome];simp
theorem fV {l:List aE}{id:Int}(h:er l id=true):b9 l id∈l∧(b9 l id).id=id:=by
 unfold er at h;unfold b9
 cases hf:l.find? fun o=>o.id==id with
 | none=>rw[hf] at h;cases h
 | some o=>exact⟨List.mem_of_find?_eq_some hf,by simpa using List.find?_some hf⟩
theorem wC {l:List aE}{o:aE}(hs:l.Pairwise fun a b=>a.id < b.id)(ho:o∈l):b9 l o.id=o:=
 have h:=fV (js.2 ⟨o,ho,rfl⟩)
 Bf hs h.1 ho h.2
def Uh (s:aA):Bool:=fz s.D8 0 500&&(fz s.step 0 10&&(DO s s.w7&&(DO s s.priority&&(fz s.vA 0 s.az.length&&(!decide ((s.extra.length:Int) > 500)&&(fz s.BT 0 2&&(s.extra.all (DO s)&&AX s)))))))
def nt (p:cq):Bool:=fz p.je (-1000000) 1000000&&(fz p.kH 0 1000000&&(fz p.Cm 0 1000000&&DZ p.ye p.yd p.yc p.yb p.ya p.x9))
def Hg (q:tp)(s:aA)(x:fq):Prop:=(1<=x.id∧x.id < s.bE)∧(fz x.x 0 1000000=true∧(x.targets.length:Int)<=4∧DO s x.control=true)∧
 (x.kind=1∧x.source=x.id∧(∃ o∈s.aa,o.id=x.id∧o.cg=5)∧(q.zero x.ai||q.ab x.ai)=true∨x.kind=2∧(∀ o∈s.aa,o.id≠x.id)∧q.ab x.ai=true)
structure jE (q:tp)(c:Int)(s:aA):Prop where
 GX:1<=s.bE∧s.bE<=1000001
 iE:1<=s.bQ∧s.bQ<=1000001
 ER:(s.aa.length:Int)<=2048
 YA:2<=(s.az.length:Int)∧(s.az.length:Int)<=4
 sc:Uh s=true
 W8:∀ p∈s.az,nt p=true
 qN:s.aa.Pairwise fun a b=>a.id < b.id
 obj:∀ o∈s.aa,sW o c s.az.length=true∧o.id < s.bE∧o.du < s.bQ
 QZ:∀ z p id,id∈bR s z p->∃ o∈s.aa,o.id=id∧o.cg=z∧(z=0∨z=4∨o.owner=p)
 W9:∀ z p,(bR s z p).Nodup
 plc:∀ o∈s.aa,o.cg≠5->o.id∈bR s o.cg o.owner
 Qu:∀ o∈s.aa,o.cg=5->∃ x∈s.stack,x.kind=1∧x.id=o.id
 Ms:(s.stack.length:Int)<=64
 Pt:s.stack.Pairwise fun a b=>a.id≠b.id
 itm:∀ x∈s.stack,Hg q s x
 wt:(s.waiting.length:Int)<=64∧∀ w∈s.waiting,u6 q s w=true
 Wx:(s.dG.length:Int)<=64∧∀ k∈s.dG,wK q s k=true
theorem Fe {s:aA}{z w:Int}{l:List Int}:iL s z w l=true↔∀ id∈l,(er s.aa id=true∧(b9 s.aa id).cg=z∧(0<=w->(b9 s.aa id).owner=w))∧l.count id=1:=by
 unfold iL y3;rw[aN];refine⟨fun h id hid=>?_,fun h id hid=>?_⟩
 ·have:=h id hid;simp only[ag,cm,cb,decide_eq_false_iff_not,beq_iff_eq] at this;obtain⟨h1,h2,h3,h4⟩:=this;exact⟨⟨h1,h2,fun hw=>h3.resolve_left fun h=>h hw⟩,by omega⟩
 ·obtain⟨⟨h1,h2,h3⟩,h4⟩:=h id hid;simp only[ag,cm,cb,decide_eq_false_iff_not,beq_iff_eq];refine⟨h1,h2,?_,by omega⟩
  by_cases hw:0<=w
  ·exact .inr (h3 hw)
  ·exact .inl hw
theorem Mt {l:List Int}(h:∀ a∈l,l.count a=1):l.Nodup:=List.nodup_iff_count.2 fun a=>by
 by_cases ha:a∈l
 ·rw[h a ha];exact al 1
 ·rw[List.count_eq_zero.2 ha];exact aD 1
theorem C9 {l:List Int}(h:l.Nodup){a:Int}(ha:a∈l):l.count a=1:=by
 rw[h.count,if_pos ha]
theorem lG {s:aA}{z w p:Int}{l:List Int}(hs:s.aa.Pairwise fun a b=>a.id < b.id)(hw:0<=w↔¬ (z=0∨z=4))(hp:0<=w->w=p) :
  iL s z w l=true↔(∀ id∈l,∃ o∈s.aa,o.id=id∧o.cg=z∧(z=0∨z=4∨o.owner=p))∧l.Nodup:=by
 rw[Fe];refine⟨fun h=>⟨fun id hid=>?_,Mt fun a ha=>(h a ha).2⟩,fun ⟨h1,h2⟩ id hid=>?_⟩
 ·obtain⟨⟨h1,h2,h3⟩,_⟩:=h id hid;obtain⟨h4,h5⟩:=fV h1;refine⟨_,h4,h5,h2,?_⟩
  by_cases h0:0<=w
  ·exact .inr (.inr ((h3 h0).trans (hp h0)))
  ·have:=Classical.not_not.1 (fun h=>h0 (hw.2 h));rcases this with h|h
   ·exact .inl h
   ·exact .inr (.inl h)
 ·obtain⟨o,ho,rfl,rfl,h3⟩:=h1 id hid;rw[wC hs ho];refine⟨⟨js.2 ⟨o,ho,rfl⟩,rfl,fun h0=>?_⟩,C9 h2 hid⟩;have:=hw.1 h0;rw[hp h0];rcases h3 with h|h|h
  ·exact absurd (.inl h) this
  ·exact absurd (.inr h) this
  ·exact h
theorem s7 (s:aA)(z p:Int):bR s z p=[]∨z=0∧bR s z p=s.bw∨z=4∧bR s z p=s.gn∨∃ (i:Nat) (h:i < s.az.length),p=i∧(z=1∧bR s z p=s.az[i].hand∨z=2∧bR s z p=s.az[i].cW∨z=3∧bR s z p=s.az[i].dI):=by
 unfold bR;split
 ·rename_i h;exact .inr (.inl ⟨by simpa using h,rfl⟩)
 split
 ·rename_i h;exact .inr (.inr (.inl ⟨by simpa using h,rfl⟩))
 split
 ·exact .inl rfl
 rename_i hp;split
 ·rename_i x hx;obtain⟨hi,rfl⟩:=an.1 hx;have hpi:p=((p.toNat:Nat):Int):=by omega
  split
  ·rename_i h;exact .inr (.inr (.inr ⟨p.toNat,hi,hpi,.inl ⟨by simpa using h,rfl⟩⟩))
  split
  ·rename_i h;exact .inr (.inr (.inr ⟨p.toNat,hi,hpi,.inr (.inl ⟨by simpa using h,rfl⟩)⟩))
  split
  ·rename_i h;exact .inr (.inr (.inr ⟨p.toNat,hi,hpi,.inr (.inr ⟨by simpa using h,rfl⟩)⟩))
  ·exact .inl rfl
 ·exact .inl rfl
section
variable {s:aA}{i:Nat}
theorem kg (p:Int):bR s 0 p=s.bw:=by unfold bR;rfl
theorem lH (p:Int):bR s 4 p=s.gn:=by unfold bR;rfl
theorem MQ (h:i < s.az.length):bR s 1 i=s.az[i].hand:=by
 unfold bR;rw[if_neg (by decide),if_neg (by decide),if_neg (by omega)];simp[h]
theorem Cc (h:i < s.az.length):bR s 2 i=s.az[i].cW:=by
 unfold bR;rw[if_neg (by decide),if_neg (by decide),if_neg (by omega)];simp[h]
theorem MR (h:i < s.az.length):bR s 3 i=s.az[i].dI:=by
 unfold bR;rw[if_neg (by decide),if_neg (by decide),if_neg (by omega)];simp[h]
end
theorem IF {aH:Int}{s:aA}(h:allI (GS aH s) 0 s.aa=true):s.aa.Pairwise fun a b=>a.id < b.id:=by
 have h:=nM.1 h
 have step:∀ (j:Nat) (hj:j+1 < s.aa.length),(s.aa[j]'(by omega)).id < s.aa[j+1].id:=fun j hj=>by
  have:=h (j+1) hj;unfold GS at this;simp only[ag,cm,cb,decide_eq_false_iff_not,bu] at this;obtain⟨_,_,_,h4,_⟩:=this;rcases h4 with h4|h4
  ·exact absurd (show(((j+1:Nat):Int)) > 0 by omega) h4
  ·rw[Nat.add_sub_cancel,List.getD_eq_getElem?_getD,af (by omega:j < s.aa.length)] at h4;simpa using h4
 refine cu.2 fun a b ha hb Wc=>?_;obtain⟨d,rfl⟩:∃ d,b=a+1+d:=⟨b - (a+1),by omega⟩
 clear Wc
 induction d with
 | zero=>exact step a hb
 | succ d ih=>exact Int.lt_trans (ih (by omega)) (step (a+1+d) hb)
theorem Ef {l:List fq}{id:Int}{x:fq}(h1:x.kind=1)(h2:x.id=id):(l.Pairwise fun a b=>a.id≠b.id)->x∈l->l.countP (fun x=>x.kind==1&&x.id==id)=1:=by
 intro hs hx
 induction l with
 | nil=>cases hx
 | cons y l ih=>
  rw[List.pairwise_cons] at hs;rcases List.mem_cons.1 hx with e|hx
  ·subst e;rw[List.countP_cons_of_pos (by simp[h1,h2]),List.countP_eq_zero.2];intro z hz;have:=hs.1 z hz;rw[h2] at this;simpa using fun _ e=>this (Eq.symm e)
  ·rw[List.countP_cons_of_neg,ih hs.2 hx];have:=hs.1 x hx;rw[h2] at this;simp[this]
theorem xP {l:List fq}{id:Int}(hs:l.Pairwise fun a b=>a.id≠b.id):l.countP (fun x=>x.kind==1&&x.id==id)=1↔∃ x∈l,x.kind=1∧x.id=id:=by
 refine⟨fun h=>?_,fun ⟨x,hx,h1,h2⟩=>Ef h1 h2 hs hx⟩;obtain⟨x,hx,hp⟩:=List.countP_pos_iff.1 (show 0 < l.countP (fun x=>x.kind==1&&x.id==id) by omega);exact⟨x,hx,by simpa using hp⟩
theorem Nf {q:tp}{s:aA}(h:allI (z7 q s) 0 s.stack=true):(s.stack.Pairwise fun a b=>a.id≠b.id)∧∀ x∈s.stack,z6 q s x=true:=by
 have h:=nM.1 h;refine⟨cu.2 fun a b ha hb Wc=>?_,fun x hx=>?_⟩
 ·have:=h b hb;unfold z7 at this;rw[ag,aN,bu] at this;have:=this.2 s.stack[a] (bB.2 ⟨a,by rw[aB];omega,by rw[List.getElem_take]⟩);simpa using this
 ·obtain⟨j,hj,rfl⟩:=bB.1 hx;have:=h j hj;unfold z7 at this;rw[ag] at this;exact this.1
theorem JA {q:tp}{s:aA}{x:fq}(hs:s.aa.Pairwise fun a b=>a.id < b.id):z6 q s x=true↔Hg q s x:=by
 have h5:(er s.aa x.id=true∧(b9 s.aa x.id).cg=5)↔∃ o∈s.aa,o.id=x.id∧o.cg=5:=
  ⟨fun ⟨h1,h2⟩=>⟨_,(fV h1).1,(fV h1).2,h2⟩,fun ⟨o,ho,h1,h2⟩=>⟨js.2 ⟨o,ho,h1⟩,by rw[<- h1,wC hs ho];exact h2⟩⟩
 have hn:er s.aa x.id=false↔∀ o∈s.aa,o.id≠x.id:=by
  rw[<- Bool.not_eq_true,js];exact⟨fun h o ho e=>h ⟨o,ho,e⟩,fun h ⟨o,ho,e⟩=>h o ho e⟩
 unfold z6 Hg;rw[ag,ag,ag,ag,qo]
 by_cases hk:x.kind=1
 ·rw[if_pos (by simpa using hk)];simp only[ag,beq_iff_eq,cb,decide_eq_false_iff_not];refine⟨fun ⟨⟨h1,h2,h3,h4⟩,g1,g2,g3,g4⟩=>⟨⟨by omega,by omega⟩,⟨h2,by omega,h4⟩,.inl ⟨hk,g1,h5.1 ⟨g2,g3⟩,g4⟩⟩,fun ⟨h1,⟨h2,h3,h4⟩,h⟩=>?_⟩;rcases h with⟨_,g1,g2,g3⟩|⟨g0,_⟩
  ·exact⟨⟨by omega,h2,by omega,h4⟩,g1,(h5.2 g2).1,(h5.2 g2).2,g3⟩
  ·omega
 ·rw[if_neg (by simpa using hk)];simp only[ag,beq_iff_eq,cb,decide_eq_false_iff_not];refine⟨fun ⟨⟨h1,h2,h3,h4⟩,g1,g2,g3⟩=>⟨⟨by omega,by omega⟩,⟨h2,by omega,h4⟩,.inr ⟨g1,hn.1 g2,g3⟩⟩,fun ⟨h1,⟨h2,h3,h4⟩,h⟩=>?_⟩;rcases h with⟨g0,_⟩|⟨g1,g2,g3⟩
  ·exact absurd g0 hk
  ·exact⟨⟨by omega,h2,by omega,h4⟩,g1,hn.2 g2,g3⟩
theorem vy {s:aA}{o:aE}(hn:(bR s o.cg o.owner).Nodup)(hk:s.stack.Pairwise fun a b=>a.id≠b.id):pX s o=true↔(o.cg≠5->o.id∈bR s o.cg o.owner)∧(o.cg=5->∃ x∈s.stack,x.kind=1∧x.id=o.id):=by
 unfold pX Gq y3
 by_cases h5:o.cg=5
 ·rw[if_pos (by simpa using h5),beq_iff_eq];refine⟨fun h=>⟨fun h0=>absurd h5 h0,fun _=>(xP hk).1 (by omega)⟩,fun ⟨_,h⟩=>?_⟩;rw[(xP hk).2 (h h5)];rfl
 ·rw[if_neg (by simpa using h5),beq_iff_eq];refine⟨fun h=>⟨fun _=>List.count_pos_iff.1 (by omega),fun h0=>absurd h0 h5⟩,fun ⟨h,_⟩=>?_⟩;rw[C9 hn (h h5)];rfl
theorem BQ {s:aA}{i:Nat}{p:cq}:Mh s i p=true↔nt p=true∧iL s 2 i p.cW=true∧iL s 1 i p.hand=true∧iL s 3 i p.dI=true:=by
 unfold Mh nt;simp only[ag];exact⟨fun ⟨h1,h2,h3,h4,h5,h6,h7⟩=>⟨⟨h1,h2,h3,h4⟩,h5,h6,h7⟩,fun ⟨⟨h1,h2,h3,h4⟩,h5,h6,h7⟩=>⟨h1,h2,h3,h4,h5,h6,h7⟩⟩
theorem T2 {q:tp}{c:Int}{s:aA}(h:kh q c s=true):jE q c s:=by
 unfold kh isA isB yg Mq Gn at h;simp only[ag,cb,decide_eq_false_iff_not] at h;obtain⟨⟨a1,a2,a3,a4,a5⟩,⟨⟨p1,p2,p3,p4⟩,b2,b3,b4,b5,b6⟩,ex,w,⟨o1,o2⟩,⟨s1,s2,s3⟩,s4,s5,s6⟩:=h;rw[qo] at a1 a2 p1;have hs:=IF o2
 have hp:∀ (i:Nat) (hi:i < s.az.length),nt s.az[i]=true∧iL s 2 i s.az[i].cW=true∧iL s 1 i s.az[i].hand=true∧iL s 3 i s.az[i].dI=true:=fun i hi=>by
  have:=nM.1 p2 i hi;rw[bu] at this;exact BQ.1 this
 obtain⟨k1,k2⟩:=Nf s4
 have hl:∀ z p,(∀ id∈bR s z p,∃ o∈s.aa,o.id=id∧o.cg=z∧(z=0∨z=4∨o.owner=p))∧(bR s z p).Nodup:=fun z p=>by
  rcases s7 s z p with e|⟨rfl,e⟩|⟨rfl,e⟩|⟨i,hi,rfl,⟨rfl,e⟩|⟨rfl,e⟩|⟨rfl,e⟩⟩ <;> rw[e]
  ·exact⟨fun id h=>(by cases h),List.nodup_nil⟩
  ·exact(lG (w:=-1) hs (by omega) (by omega)).1 p3
  ·exact(lG (w:=-1) hs (by omega) (by omega)).1 p4
  ·exact(lG (w:=i) hs (by omega) (by omega)).1 (hp i hi).2.2.1
  ·exact(lG (w:=i) hs (by omega) (by omega)).1 (hp i hi).2.1
  ·exact(lG (w:=i) hs (by omega) (by omega)).1 (hp i hi).2.2.2
 have ho:∀ o∈s.aa,(sW o c s.az.length=true∧o.id < s.bE∧o.du < s.bQ)∧pX s o=true:=fun o ho=>by
  obtain⟨i,hi,rfl⟩:=bB.1 ho;have:=nM.1 o2 i hi;unfold GS at this;simp only[ag,cb,decide_eq_false_iff_not] at this;exact⟨⟨this.1,by omega,by omega⟩,this.2.2.2.2⟩
 refine⟨by omega,by omega,by omega,p1,?_,fun p hpp=>?_,hs,fun o h=>(ho o h).1,fun z p=>(hl z p).1,fun z p=>(hl z p).2,fun o h=>((vy (hl _ _).2 k1).1 (ho o h).2).1,fun o h=>((vy (hl _ _).2 k1).1 (ho o h).2).2,by omega,k1,fun x hx=>(JA hs).1 (k2 x hx),⟨by omega,aN.1 s5⟩,by omega,aN.1 s6⟩
 ·unfold Uh;simp only[ag,cb,decide_eq_false_iff_not];exact⟨a3,a4,b2,b3,b4,b5,b6,ex,w⟩
 ·obtain⟨i,hi,rfl⟩:=bB.1 hpp;exact(hp i hi).1
end
end Cg
end
section
namespace Go.Proofs.YtbmdcnkidjlbbaaGreat
open Go Cg Go.RowKit
theorem PH {s:aA}(h:s.ok)(id:Int)(i:Nat)(o:aE)(hi:i < s.aa.length):(kC s id i o).ok∧(kC s id i o).aa.length+1=s.aa.length:=by
 have hl:(((bR s o.cg o.owner).filter fun i=>i != id).length*8<=ba):=bd (cw _ (cx _ _)) (qi h _ _);obtain⟨h1,h2,_,_,h5,h6,_,_,h9⟩:=PB h o.cg o.owner hl;obtain⟨_,_,g3,g4,_,_,g7,g8,_⟩:=h
 have hlen:(s.aa.take i++s.aa.drop (i+1)).length+1=s.aa.length:=by
  simp only[au,aB,aL];omega
 refine⟨⟨h1,h2,?_,?_,h5,h6,?_,?_,h9⟩,hlen⟩
 ·show(s.aa.take i++s.aa.drop (i+1)).length*128<=ba;omega
 ·intro y hy;rcases aX.1 hy with hy|hy
  ·exact g4 y (List.mem_of_mem_take hy)
  ·exact g4 y (List.mem_of_mem_drop hy)
 ·exact bd (cw _ (cx _ _)) g7
 ·intro y hy;exact g8 y (List.mem_filter.1 hy).1
theorem Mf (l:List aE)(o:aE):(o7 l o).length<=l.length+1:=by
 unfold o7;split
 ·rw[bG];omega
 ·unfold JD;simp only[au,aB,aL,aq,aw];omega
theorem vH (o:aE):o.ok:=by
 unfold aE.ok;exact trivial
theorem Qo {s:aA}(h:s.ok)(o:aE)(hn:(s.aa.length+1)*128<=ba):(eM s o).ok:=by
 obtain⟨h1,h2,_,h4,h5⟩:=h;refine⟨h1,h2,?_,fun y hy=>vH y,h5⟩;exact bd (cw _ (Mf _ _)) hn
def qd (V:aA):aA:={ V with bE:=IntKind.i64.wrap (V.bE+1),bQ:=IntKind.i64.wrap (V.bQ+1) }
def GY (Q:aA)(x:aE)(z:Int)(dR:Bool):aA:=
 qd (eU Q z x.owner (if (z==2&&!dR)=true then x.id :: bR Q z x.owner else bR Q z x.owner++[x.id]))
def yk (R:aA)(o:aE)(z p:Int):aE:=rU o R.bE z p R.bQ
def mj (s:aA)(id z p:Int)(dR:Bool)(i:Nat)(o:aE):aA × Int:=
 if z < 0∨5 < z then(s,0) else
 if o.token=true∧(z != 0)=true∧(z != 5)=true then(kC s id i o,0) else
 (GY (eM (kC s id i o) (yk (kC s id i o) o z p)) (yk (kC s id i o) o z p) z dR,(yk (kC s id i o) o z p).id)
def jH (s:aA)(id z p:Int)(dR:Bool):aA × Int:=match s.aa.findIdx? fun o=>o.id==id with
 | none=>(s,0)
 | some i=>match s.aa[i]? with
  | some o=>mj s id z p dR i o
  | none=>(s,0)
theorem Jn (s:aA)(id z p:Int)(dR:Bool)(h:s.ok)(e:s.aa.find? (fun o=>o.id==id)=none):Ct ae 101 [.agg (s.enc.map .t),.c (.t (iv id)),.c (.t (iv z)),.c (.t (iv p)),AV.b dR] (.fH [.agg (s.enc.map .t),AV.i 0]) [] false:=by
 have hf:=gk s id h.2.2.1;unfold b9 er at hf;rw[e] at hf;refine bT Tryz.func101 rfl (enters_of Tryz.func101 (by kernel_rfl) rfl) tabOk (by kernel_rfl) rfl rfl rfl rfl fun w0 O _=>Tp.run [3] ?_;refine cI hf ⟨fL s.enc,rfl,trivial⟩ (.inr rfl) ?_;refine Tp.run [] ?_;refine cI (gM s h) ⟨fL s.enc,trivial⟩ (.inr rfl) ?_;refine Ei [] (Ai rfl (Ai ?_ ?_))
 all_goals repeat' first|refine Ai ?_ ?_|exact rfl|exact trivial|exact Ei _ rfl|refine aj ?_|refine bS ?_|fail
theorem EX (s:aA)(id z p:Int)(dR:Bool)(i:Nat)(h:s.ok)(hi:i < s.aa.length)(hp:o8 s.aa id=i)(e:s.aa.find? (fun o=>o.id==id)=some s.aa[i]):Ct ae 101 [.agg (s.enc.map .t),.c (.t (iv id)),.c (.t (iv z)),.c (.t (iv p)),AV.b dR] (.fH [.agg ((mj s id z p dR i s.aa[i]).1.enc.map .t),.c (.t (iv (mj s id z p dR i s.aa[i]).2))]) [] false:=by
 have hf:=gk s id h.2.2.1;unfold b9 er at hf;rw[e] at hf;have hr:=Eo s id i h hi hp;obtain⟨hR,hRn⟩:=PH h id i s.aa[i] hi;generalize hM:mj s id z p dR i s.aa[i]=M;unfold mj at hM;generalize kC s id i s.aa[i]=R at hr hR hRn hM;generalize s.aa[i]=o at hf hr hM;have hv:=ME o R.bE z p R.bQ;change Ct _ _ _ (.agg ((yk R o z p).enc.map .t)) _ _ at hv;generalize yk R o z p=x at hv hM;have hq:Ct ae 110 [.agg (R.enc.map .t),.agg (x.enc.map .t)] (.agg (((eM R x).enc.map .t).set 2 (.row 0 0))) [⟨3,1,0,(eM R x).bw.map eI,none⟩] false:=jy R x hR;have hQ:=Qo hR x (by rw[hRn];exact h.2.2.1);generalize eM R x=Q at hq hQ hM;have uG:=qi hQ z x.owner;have hl:=MP Q z x.owner hQ;have Cy:=Eh Q z x.owner (x.id :: bR Q z x.owner) hQ (by rw[aq];exact dt (by decide) uG);have uf:=Eh Q z x.owner (bR Q z x.owner++[x.id]) hQ (by rw[au];exact dt (by decide) uG);unfold GY at hM;refine bT Tryz.func101 rfl (enters_of Tryz.func101 (by kernel_rfl) rfl) tabOk (by kernel_rfl) rfl rfl rfl rfl fun w0 O _=>Tp.run [3,4,6,7,9,10,11,12,13,14] ?_;refine cI hf ⟨fL s.enc,rfl,trivial⟩ (.inr rfl) ?_;refine cS (fun AY=>?_) (fun AY=>?_)
 ·rw[if_pos (.inl (of_decide_eq_true AY))] at hM;subst hM;refine Tp.run [] ?_;refine cI (gM s h) ⟨fL s.enc,trivial⟩ (.inr rfl) ?_;refine Ei [] (Ai rfl (Ai ?_ ?_))
  all_goals repeat' first|refine Ai ?_ ?_|exact rfl|exact trivial|exact Ei _ rfl|refine aj ?_|refine bS ?_|fail
 refine cS (fun YW=>?_) (fun YW=>?_)
 ·rw[if_pos (.inr (of_decide_eq_true YW))] at hM;subst hM;refine Tp.run [] ?_;refine cI (gM s h) ⟨fL s.enc,trivial⟩ (.inr rfl) ?_;refine Ei [] (Ai rfl (Ai ?_ ?_))
  all_goals repeat' first|refine Ai ?_ ?_|exact rfl|exact trivial|exact Ei _ rfl|refine aj ?_|refine bS ?_|fail
 rw[if_neg (fun hx=>hx.elim (of_decide_eq_false AY) (of_decide_eq_false YW))] at hM;refine Tp.run [] ?_;refine cI hr ⟨fL s.enc,rfl,trivial⟩ (.inr rfl) ?_;refine cS (fun ht=>?_) (fun ht=>?_)
 ·refine cS (fun h1=>?_) (fun h1=>?_)
  ·refine cS (fun h2=>?_) (fun h2=>?_)
   ·rw[if_pos ⟨ht,h1,h2⟩] at hM;subst hM;refine Tp.run [] ?_;refine Ei [] (Ai rfl (Ai ?_ ?_))
    all_goals repeat' first|refine Ai ?_ ?_|exact rfl|exact trivial|exact Ei _ rfl|refine aj ?_|refine bS ?_|fail
   ·rw[if_neg (fun hx=>by rw[show(z != 5)=false from h2] at hx;exact absurd hx.2.2 (by decide))] at hM;refine Tp.run [] ?_;refine cI hv ⟨fL o.enc,rfl,rfl,rfl,rfl,trivial⟩ (.inr rfl) ?_;refine cI hq ⟨fL R.enc,fL x.enc,trivial⟩ (.inr rfl) ?_;refine Tp.lW [] (Tp.run [] ?_);refine cI hl ⟨?_,rfl,rfl,trivial⟩ (.inr rfl) ?_
    ·repeat' first|refine Ai ?_ ?_|exact rfl|exact trivial|exact Ei _ rfl|refine aj ?_|refine bS ?_|fail
    refine Tp.run [] ?_;refine cS (fun w2=>?_) (fun w2=>?_)
    ·refine cS (fun wb=>?_) (fun wb=>?_)
     ·rw[if_pos (show(z==2&&!dR)=true by rw[show(z==2)=true from w2,show(!dR)=true from wb];rfl)] at hM;refine Tp.run [] ?_;refine Ai (.inl rfl) (Ai ?_ (Ai ?_ ?_))
      ·show(1+((bR Q z x.owner).map eI).length)*8<=_;rw[Lm,Nat.add_comm];exact cG (dt (by decide) uG)
      ·show 1+((bR Q z x.owner).map eI).length < _;rw[Lm,Nat.add_comm];have:=dt (n:=(bR Q z x.owner).length) (b:=8) (by decide) uG;omega
      generalize eU Q z x.owner _=V at Cy hM;subst hM;refine Tp.lW [] (Tp.run [] ?_);refine cI Cy ⟨?_,rfl,rfl,?_,trivial⟩ (.inr rfl) ?_
      ·repeat' first|refine Ai ?_ ?_|exact rfl|exact trivial|exact Ei _ rfl|refine aj ?_|refine bS ?_|fail
      ·exact rfl
      refine Tp.run [] ?_;refine Ei [] (Ai rfl (Ai ?_ ?_))
      all_goals repeat' first|refine Ai ?_ ?_|exact rfl|exact trivial|exact Ei _ rfl|refine aj ?_|refine bS ?_|fail
     ·rw[if_neg (show ¬ (z==2&&!dR)=true by rw[show(z==2)=true from w2,show(!dR)=false from wb];decide)] at hM;refine Tp.run [] ?_;refine Ai (.inl rfl) (Ai ?_ (Ai ?_ ?_))
      ·show(((bR Q z x.owner).map eI).length+1)*8<=_;rw[Lm];exact cG (dt (by decide) uG)
      ·show((bR Q z x.owner).map eI).length+1 < _;rw[Lm];have:=dt (n:=(bR Q z x.owner).length) (b:=8) (by decide) uG;omega
      generalize eU Q z x.owner _=V at uf hM;subst hM;refine Tp.lW [] (Tp.run [] ?_);refine cI uf ⟨?_,rfl,rfl,?_,trivial⟩ (.inr rfl) ?_
      ·repeat' first|refine Ai ?_ ?_|exact rfl|exact trivial|exact Ei _ rfl|refine aj ?_|refine bS ?_|fail
      ·exact congrArg (Tr.sl 1) (aW (f:=eI) (l₁:=bR Q z x.owner) (l₂:=[x.id])).symm
      refine Tp.run [] ?_;refine Ei [] (Ai rfl (Ai ?_ ?_))
      all_goals repeat' first|refine Ai ?_ ?_|exact rfl|exact trivial|exact Ei _ rfl|refine aj ?_|refine bS ?_|fail
    ·rw[if_neg (show ¬ (z==2&&!dR)=true by rw[show(z==2)=false from w2,Bool.false_and];decide)] at hM;refine Tp.run [] ?_;refine Ai (.inl rfl) (Ai ?_ (Ai ?_ ?_))
     ·show(((bR Q z x.owner).map eI).length+1)*8<=_;rw[Lm];exact cG (dt (by decide) uG)
     ·show((bR Q z x.owner).map eI).length+1 < _;rw[Lm];have:=dt (n:=(bR Q z x.owner).length) (b:=8) (by decide) uG;omega
     generalize eU Q z x.owner _=V at uf hM;subst hM;refine Tp.lW [] (Tp.run [] ?_);refine cI uf ⟨?_,rfl,rfl,?_,trivial⟩ (.inr rfl) ?_
     ·repeat' first|refine Ai ?_ ?_|exact rfl|exact trivial|exact Ei _ rfl|refine aj ?_|refine bS ?_|fail
     ·exact congrArg (Tr.sl 1) (aW (f:=eI) (l₁:=bR Q z x.owner) (l₂:=[x.id])).symm
     refine Tp.run [] ?_;refine Ei [] (Ai rfl (Ai ?_ ?_))
     all_goals repeat' first|refine Ai ?_ ?_|exact rfl|exact trivial|exact Ei _ rfl|refine aj ?_|refine bS ?_|fail
  ·rw[if_neg (fun hx=>by rw[show(z != 0)=false from h1] at hx;exact absurd hx.2.1 (by decide))] at hM;refine Tp.run [] ?_;refine cI hv ⟨fL o.enc,rfl,rfl,rfl,rfl,trivial⟩ (.inr rfl) ?_;refine cI hq ⟨fL R.enc,fL x.enc,trivial⟩ (.inr rfl) ?_;refine Tp.lW [] (Tp.run [] ?_);refine cI hl ⟨?_,rfl,rfl,trivial⟩ (.inr rfl) ?_
   ·repeat' first|refine Ai ?_ ?_|exact rfl|exact trivial|exact Ei _ rfl|refine aj ?_|refine bS ?_|fail
   refine Tp.run [] ?_;refine cS (fun w2=>?_) (fun w2=>?_)
   ·refine cS (fun wb=>?_) (fun wb=>?_)
    ·rw[if_pos (show(z==2&&!dR)=true by rw[show(z==2)=true from w2,show(!dR)=true from wb];rfl)] at hM;refine Tp.run [] ?_;refine Ai (.inl rfl) (Ai ?_ (Ai ?_ ?_))
     ·show(1+((bR Q z x.owner).map eI).length)*8<=_;rw[Lm,Nat.add_comm];exact cG (dt (by decide) uG)
     ·show 1+((bR Q z x.owner).map eI).length < _;rw[Lm,Nat.add_comm];have:=dt (n:=(bR Q z x.owner).length) (b:=8) (by decide) uG;omega
     generalize eU Q z x.owner _=V at Cy hM;subst hM;refine Tp.lW [] (Tp.run [] ?_);refine cI Cy ⟨?_,rfl,rfl,?_,trivial⟩ (.inr rfl) ?_
     ·repeat' first|refine Ai ?_ ?_|exact rfl|exact trivial|exact Ei _ rfl|refine aj ?_|refine bS ?_|fail
     ·exact rfl
     refine Tp.run [] ?_;refine Ei [] (Ai rfl (Ai ?_ ?_))
     all_goals repeat' first|refine Ai ?_ ?_|exact rfl|exact trivial|exact Ei _ rfl|refine aj ?_|refine bS ?_|fail
    ·rw[if_neg (show ¬ (z==2&&!dR)=true by rw[show(z==2)=true from w2,show(!dR)=false from wb];decide)] at hM;refine Tp.run [] ?_;refine Ai (.inl rfl) (Ai ?_ (Ai ?_ ?_))
     ·show(((bR Q z x.owner).map eI).length+1)*8<=_;rw[Lm];exact cG (dt (by decide) uG)
     ·show((bR Q z x.owner).map eI).length+1 < _;rw[Lm];have:=dt (n:=(bR Q z x.owner).length) (b:=8) (by decide) uG;omega
     generalize eU Q z x.owner _=V at uf hM;subst hM;refine Tp.lW [] (Tp.run [] ?_);refine cI uf ⟨?_,rfl,rfl,?_,trivial⟩ (.inr rfl) ?_
     ·repeat' first|refine Ai ?_ ?_|exact rfl|exact trivial|exact Ei _ rfl|refine aj ?_|refine bS ?_|fail
     ·exact congrArg (Tr.sl 1) (aW (f:=eI) (l₁:=bR Q z x.owner) (l₂:=[x.id])).symm
     refine Tp.run [] ?_;refine Ei [] (Ai rfl (Ai ?_ ?_))
     all_goals repeat' first|refine Ai ?_ ?_|exact rfl|exact trivial|exact Ei _ rfl|refine aj ?_|refine bS ?_|fail
   ·rw[if_neg (show ¬ (z==2&&!dR)=true by rw[show(z==2)=false from w2,Bool.false_and];decide)] at hM;refine Tp.run [] ?_;refine Ai (.inl rfl) (Ai ?_ (Ai ?_ ?_))
    ·show(((bR Q z x.owner).map eI).length+1)*8<=_;rw[Lm];exact cG (dt (by decide) uG)
    ·show((bR Q z x.owner).map eI).length+1 < _;rw[Lm];have:=dt (n:=(bR Q z x.owner).length) (b:=8) (by decide) uG;omega
    generalize eU Q z x.owner _=V at uf hM;subst hM;refine Tp.lW [] (Tp.run [] ?_);refine cI uf ⟨?_,rfl,rfl,?_,trivial⟩ (.inr rfl) ?_
    ·repeat' first|refine Ai ?_ ?_|exact rfl|exact trivial|exact Ei _ rfl|refine aj ?_|refine bS ?_|fail
    ·exact congrArg (Tr.sl 1) (aW (f:=eI) (l₁:=bR Q z x.owner) (l₂:=[x.id])).symm
    refine Tp.run [] ?_;refine Ei [] (Ai rfl (Ai ?_ ?_))
    all_goals repeat' first|refine Ai ?_ ?_|exact rfl|exact trivial|exact Ei _ rfl|refine aj ?_|refine bS ?_|fail
 ·rw[if_neg (fun hx=>by rw[show o.token=false from ht] at hx;exact absurd hx.1 (by decide))] at hM;refine Tp.run [] ?_;refine cI hv ⟨fL o.enc,rfl,rfl,rfl,rfl,trivial⟩ (.inr rfl) ?_;refine cI hq ⟨fL R.enc,fL x.enc,trivial⟩ (.inr rfl) ?_;refine Tp.lW [] (Tp.run [] ?_);refine cI hl ⟨?_,rfl,rfl,trivial⟩ (.inr rfl) ?_
  ·repeat' first|refine Ai ?_ ?_|exact rfl|exact trivial|exact Ei _ rfl|refine aj ?_|refine bS ?_|fail
  refine Tp.run [] ?_;refine cS (fun w2=>?_) (fun w2=>?_)
  ·refine cS (fun wb=>?_) (fun wb=>?_)
   ·rw[if_pos (show(z==2&&!dR)=true by rw[show(z==2)=true from w2,show(!dR)=true from wb];rfl)] at hM;refine Tp.run [] ?_;refine Ai (.inl rfl) (Ai ?_ (Ai ?_ ?_))
    ·show(1+((bR Q z x.owner).map eI).length)*8<=_;rw[Lm,Nat.add_comm];exact cG (dt (by decide) uG)
    ·show 1+((bR Q z x.owner).map eI).length < _;rw[Lm,Nat.add_comm];have:=dt (n:=(bR Q z x.owner).length) (b:=8) (by decide) uG;omega
    generalize eU Q z x.owner _=V at Cy hM;subst hM;refine Tp.lW [] (Tp.run [] ?_);refine cI Cy ⟨?_,rfl,rfl,?_,trivial⟩ (.inr rfl) ?_
    ·repeat' first|refine Ai ?_ ?_|exact rfl|exact trivial|exact Ei _ rfl|refine aj ?_|refine bS ?_|fail
    ·exact rfl
    refine Tp.run [] ?_;refine Ei [] (Ai rfl (Ai ?_ ?_))
    all_goals repeat' first|refine Ai ?_ ?_|exact rfl|exact trivial|exact Ei _ rfl|refine aj ?_|refine bS ?_|fail
   ·rw[if_neg (show ¬ (z==2&&!dR)=true by rw[show(z==2)=true from w2,show(!dR)=false from wb];decide)] at hM;refine Tp.run [] ?_;refine Ai (.inl rfl) (Ai ?_ (Ai ?_ ?_))
    ·show(((bR Q z x.owner).map eI).length+1)*8<=_;rw[Lm];exact cG (dt (by decide) uG)
    ·show((bR Q z x.owner).map eI).length+1 < _;rw[Lm];have:=dt (n:=(bR Q z x.owner).length) (b:=8) (by decide) uG;omega
    generalize eU Q z x.owner _=V at uf hM;subst hM;refine Tp.lW [] (Tp.run [] ?_);refine cI uf ⟨?_,rfl,rfl,?_,trivial⟩ (.inr rfl) ?_
    ·repeat' first|refine Ai ?_ ?_|exact rfl|exact trivial|exact Ei _ rfl|refine aj ?_|refine bS ?_|fail
    ·exact congrArg (Tr.sl 1) (aW (f:=eI) (l₁:=bR Q z x.owner) (l₂:=[x.id])).symm
    refine Tp.run [] ?_;refine Ei [] (Ai rfl (Ai ?_ ?_))
    all_goals repeat' first|refine Ai ?_ ?_|exact rfl|exact trivial|exact Ei _ rfl|refine aj ?_|refine bS ?_|fail
  ·rw[if_neg (show ¬ (z==2&&!dR)=true by rw[show(z==2)=false from w2,Bool.false_and];decide)] at hM;refine Tp.run [] ?_;refine Ai (.inl rfl) (Ai ?_ (Ai ?_ ?_))
   ·show(((bR Q z x.owner).map eI).length+1)*8<=_;rw[Lm];exact cG (dt (by decide) uG)
   ·show((bR Q z x.owner).map eI).length+1 < _;rw[Lm];have:=dt (n:=(bR Q z x.owner).length) (b:=8) (by decide) uG;omega
   generalize eU Q z x.owner _=V at uf hM;subst hM;refine Tp.lW [] (Tp.run [] ?_);refine cI uf ⟨?_,rfl,rfl,?_,trivial⟩ (.inr rfl) ?_
   ·repeat' first|refine Ai ?_ ?_|exact rfl|exact trivial|exact Ei _ rfl|refine aj ?_|refine bS ?_|fail
   ·exact congrArg (Tr.sl 1) (aW (f:=eI) (l₁:=bR Q z x.owner) (l₂:=[x.id])).symm
   refine Tp.run [] ?_;refine Ei [] (Ai rfl (Ai ?_ ?_))
   all_goals repeat' first|refine Ai ?_ ?_|exact rfl|exact trivial|exact Ei _ rfl|refine aj ?_|refine bS ?_|fail
theorem zH (s:aA)(id z p:Int)(dR:Bool)(h:s.ok):Ct ae 101 [.agg (s.enc.map .t),.c (.t (iv id)),.c (.t (iv z)),.c (.t (iv p)),AV.b dR] (.fH [.agg ((jH s id z p dR).1.enc.map .t),.c (.t (iv (jH s id z p dR).2))]) [] false:=by
 rcases im (fun o:aE=>o.id==id) s.aa with⟨_,e1,e2⟩|⟨i,hi,e0,e1,e2⟩
 ·have:=Jn s id z p dR h e2;unfold jH;rw[e1];exact this
 ·have:=EX s id z p dR i h hi e0 e2;unfold jH;rw[e1];simp only[af hi];exact this
def kN (s:aA)(dK bC:Int):aA × Int:=
 let x:aE:={ qc s.bE dK bC 0 s.bQ with token:=true,oY:=true }
 ({ eM s x with bw:=s.bw++[s.bE],bE:=IntKind.i64.wrap (s.bE+1),bQ:=IntKind.i64.wrap (s.bQ+1) },s.bE)
theorem QX (s:aA)(dK bC:Int)(h:s.ok):Ct ae 107 [.agg (s.enc.map .t),.c (.t (iv dK)),.c (.t (iv bC))] (.fH [.agg ((kN s dK bC).1.enc.map .t),.c (.t (iv (kN s dK bC).2))]) [] false:=by
 have Xo:s.bw.length*8<=ba:=h.2.2.2.2.1;have hn:=MA s.bE dK bC 0 s.bQ;have hq:=jy s { qc s.bE dK bC 0 s.bQ with token:=true,oY:=true } h;refine bT Tryz.func107 rfl (enters_of Tryz.func107 (by kernel_rfl) rfl) tabOk (by kernel_rfl) rfl rfl rfl rfl fun w0 O _=>Tp.run [] ?_;refine cI hn ⟨rfl,rfl,rfl,rfl,rfl,trivial⟩ (.inr rfl) ?_;refine cI hq ⟨fL s.enc,?_,trivial⟩ (.inr rfl) ?_
 ·repeat' first|refine Ai ?_ ?_|exact rfl|exact trivial|exact Ei _ rfl|refine aj ?_|refine bS ?_|fail
 refine Ai (.inl rfl) (Ai ?_ (Ai ?_ ?_))
 ·show((s.bw.map eI).length+1)*8<=_;rw[Lm];exact cG (dt (by decide) Xo)
 ·show(s.bw.map eI).length+1 < _;rw[Lm];have:=dt (n:=s.bw.length) (b:=8) (by decide) Xo;omega
 refine Ei [] (Ai rfl (Ai ?_ ?_))
 ·repeat' first|refine Ai ?_ ?_|exact rfl|exact trivial|exact Ei _ rfl|refine aj ?_|refine bS ?_|fail
 ·repeat' first|refine Ai ?_ ?_|exact rfl|exact trivial|exact Ei _ rfl|refine aj ?_|refine bS ?_|fail
  exact congrArg (Tr.sl 1) (aW (f:=eI) (l₁:=s.bw) (l₂:=[s.bE]))
end Go.Proofs.YtbmdcnkidjlbbaaGreat
end
section
namespace Go.Proofs.YtbmdcnkidjlbbaaGreat
open Go Cg
def dd (n:Int):Int:=if n > 1000000 then 1000000 else if n < -1000000 then -1000000 else n
def ff (a b:Int):Int:=dd (dd a+dd b)
def pM (a b:Int):Int:=dd (dd a - dd b)
def mB (c n:Int):Int:=if ff c n > 0 then ff c n else 0
def kB (i kind c n:Int):Int:=if kind=i then mB c n else c
def kX (s:aA)(p:Int):Bool:=match s.az[p.toNat]? with
 | some x=>decide (p>=0)&&!x.lost
 | none=>false
def qG (n:Int):Bool:=decide (n>=1)&&decide (n<=1000000)
def iY (s:aA)(id:Int):Bool:=er s.aa id&&(b9 s.aa id).cg==0
def y0 (aH:List bX)(i:Int):Bool:=match aH[i.toNat]? with
 | some x=>decide (i>=0)&&x.token
 | none=>false
theorem Q1 {s:aA}{p:Int}(h:¬ p>=0):false=kX s p:=by
 unfold kX;split
 ·rw[decide_eq_false h];rfl
 ·rfl
theorem Q0 {s:aA}{p:Int}{f:cq->List Tr}(h:¬ p < (((s.az.map f).length:Nat):Int)):false=kX s p:=by
 rw[Lm] at h;unfold kX;rw[List.getElem?_eq_none (by omega)]
theorem Vg {s:aA}{p:Int}(h:p>=0)(hl:p.toNat < s.az.length):kX s p=!s.az[p.toNat].lost:=by
 unfold kX;rw[af hl,decide_eq_true h];rfl
theorem Pq {l:List bX}{p:Int}(h:¬ p>=0):y0 l p=false:=by
 unfold y0;split
 ·rw[decide_eq_false h];rfl
 ·rfl
theorem Pp {l:List bX}{p:Int}{f:bX->List Tr}(h:¬ p < (((l.map f).length:Nat):Int)):y0 l p=false:=by
 rw[Lm] at h;unfold y0;rw[List.getElem?_eq_none (by omega)]
theorem T7 {l:List bX}{p:Int}(h:p>=0)(hl:p.toNat < l.length):y0 l p=l[p.toNat].token:=by
 unfold y0;rw[af hl,decide_eq_true h];rfl
def oN (aH:List bX)(s:aA)(e:bV):Bool:=
 if e.kind=1 then qG e.bq&&(iY s e.aO||(e.aO==0&&kX s e.bC))
 else if e.kind=2 then er s.aa e.aO&&(e.from_==(b9 s.aa e.aO).cg&&(e.nQ != e.from_&&(decide (e.nQ>=0)&&(decide (e.nQ<=4)&&(decide (e.bC>=0)&&decide (e.bC < s.az.length))))))
 else if e.kind=3∨e.kind=14∨e.kind=15∨e.kind=17 then kX s e.bC
 else if e.kind=4∨e.kind=5∨e.kind=16 then kX s e.bC&&qG e.bq
 else if e.kind=6 then iY s e.aO&&!(b9 s.aa e.aO).eR
 else if e.kind=7 then iY s e.aO&&(b9 s.aa e.aO).eR
 else if e.kind=8∨e.kind=9 then iY s e.aO&&(decide (e.counter>=0)&&(decide (e.counter < 3)&&qG e.bq))
 else if e.kind=10 then kX s e.bC&&(y0 aH e.dK&&qG e.bq)
 else if e.kind=11 then er s.aa e.aO&&((b9 s.aa e.aO).cg==5&&kX s e.bC)
 else if e.kind=12 then iY s e.aO&&kX s e.bC
 else if e.kind=13 then iY s e.aO&&iY s e.source
 else false
theorem NX {aH:List bX}{s:aA}{e:bV}(h:e.kind=10):oN aH s e=(kX s e.bC&&(y0 aH e.dK&&qG e.bq)):=by
 unfold oN;rw[h];rfl
def NY (e:bV)(o:aE):aE:={ o with eR:=e.eR,cL:=mB 0 e.sA,cK:=mB 0 e.su,dh:=mB 0 e.ss }
def ld (s:aA)(id:Int)(e:bV):aA:=if er s.aa id=true then eM s (NY e (b9 s.aa id)) else s
def oA (k:Int)(o:aE):aE:=if o.blocks==k then { o with blocks:=0 } else o
def rG (s:aA)(k:Int):aA:={ s with aa:=s.aa.map (oA k) }
def EW (s:aA)(e:bV):aA:=
 let r:=jH (if e.from_=0 then rG s e.aO else s) e.aO e.nQ e.bC (e.bq==1)
 if e.nQ=0 then ld r.1 r.2 e else r.1
def K0 (s:aA)(p:Int)(f:cq->cq):aA:=match s.az[p.toNat]? with
 | some x=>{ s with az:=s.az.set p.toNat (f x) }
 | none=>s
def lO (s:aA)(p:Int):aA:=match s.az[p.toNat]? with
 | some x=>(match x.cW with
  | []=>K0 s p fun x=>{ x with failed:=true }
  | id :: _=>(jH s id 1 p false).1)
 | none=>s
def mW (k m:Int):Bool:=IntKind.i64.wrap (BitVec.ofInt IntKind.i64.bits k &&& BitVec.ofInt IntKind.i64.bits m).toNat==m
def fT (s:aA)(all:List aG)(id:Int):Bool:=match s.aa.findIdx? fun o=>o.id==id with
 | some i=>(match all[i]? with
  | some t=>mW t.keys 128
  | none=>false)
 | none=>false
def QL (all:List aG)(id:Int)(j:Nat)(y:aE):Bool:=!(y.id==id)||decide (all.length<=j)
theorem Od {s:aA}{all:List aG}{id i:Int}(h0:0<=i)(hU:Up (QL all id) s.aa i)(hl:i.toNat < s.aa.length)(hid:s.aa[i.toNat].id=id)(ha:i.toNat < all.length):mW all[i.toNat].keys 128=fT s all id:=by
 have e:s.aa.findIdx? (fun o=>o.id==id)=some i.toNat:=by
  rw[List.findIdx?_eq_some_iff_getElem];refine⟨hl,by simpa using hid,fun j hj=>?_⟩;have:=hU j (by omega) (by omega);unfold QL at this;rw[cm,decide_eq_true_eq] at this;rcases this with h|h
  ·simpa using h
  ·omega
 unfold fT;rw[e];simp only[af ha]
theorem C8 {s:aA}{all:List aG}{id i:Int}(hU:Up (QL all id) s.aa i)(h1:∀ j:Nat,i<=j->j < s.aa.length->all.length<=j):false=fT s all id:=by
 unfold fT;split
 ·rename_i k hk;obtain⟨h2,h3,_⟩:=List.findIdx?_eq_some_iff_getElem.1 hk
  have:all.length<=k:=by
   by_cases hik:(k:Int) < i
   ·have:=hU k h2 hik;unfold QL at this;rw[h3] at this;simpa using this
   ·exact h1 k (by omega) h2
  rw[List.getElem?_eq_none this]
 ·rfl
theorem S9 {all:List aG}{id i:Int}{y:aE}(h:¬ y.id=id):QL all id i.toNat y=true:=by unfold QL;simp[h]
theorem Sh {s:aA}{all:List aG}{id i:Int}{f:aE->List Tr}(hU:Up (QL all id) s.aa i)(h:¬ i < (((s.aa.map f).length:Nat):Int)):false=fT s all id:=C8 hU fun j h1 h2=>by
 rw[Lm] at h;omega
theorem Sg {s:aA}{all:List aG}{id i:Int}{f:aG->List Tr}(hU:Up (QL all id) s.aa i)(h:¬ i < (((all.map f).length:Nat):Int)):false=fT s all id:=C8 hU fun j h1 h2=>by
 rw[Lm] at h;omega
def gz (d:Bool)(e:bV)(o:aE):aE:=
 if e.kind=1 then { o with fD:=ff o.fD e.bq,jj:=o.jj||d }
 else if e.kind=6 then { o with eR:=true }
 else if e.kind=7 then { o with eR:=false }
 else if e.kind=8 then { o with cL:=kB 0 e.counter o.cL e.bq,cK:=kB 1 e.counter o.cK e.bq,dh:=kB 2 e.counter o.dh e.bq }
 else if e.kind=9 then { o with cL:=kB 0 e.counter o.cL (IntKind.i64.wrap (0 - e.bq)),cK:=kB 1 e.counter o.cK (IntKind.i64.wrap (0 - e.bq)),dh:=kB 2 e.counter o.dh (IntKind.i64.wrap (0 - e.bq)) }
 else if e.kind=12 then { o with jD:=e.bC }
 else if e.kind=13 then { o with blocks:=e.source }
 else o
def gy (s:aA)(all:List aG)(e:bV):aA:=
 if er s.aa e.aO=true then
  let s1:=eM s (gz (fT s all e.source) e (b9 s.aa e.aO))
  if e.kind=13 then eM s1 { b9 s1.aa e.source with blocked:=true } else s1
 else s
def B5 (s:aA)(e:bV):Nat->aA
 | 0=>s
 | n+1=>if (s.aa.length:Int) < 2048 then B5 (ld (kN s e.dK e.bC).1 (kN s e.dK e.bC).2 e) e n else s
def TX (x y:Int):Int:=IntKind.u64.wrap (BitVec.ofInt IntKind.u64.bits x ^^^ BitVec.ofInt IntKind.u64.bits y).toNat
def Ue (x:Int)(n:Nat):Int:=x.fdiv (2 ^ min n IntKind.u64.bits)
def Gt (s:Int):Int:=IntKind.u64.wrap (s+11400714819323198485)
def YL (z:Int):Int:=IntKind.u64.wrap (TX z (Ue z 30)*13787848793156543929)
def YK (z:Int):Int:=IntKind.u64.wrap (TX z (Ue z 27)*10723151780598845931)
def YJ (z:Int):Int:=TX z (Ue z 31)
def sX (s:Int):Int:=YJ (YK (YL (Gt s)))
def fQ (s n:Int):Int × Int:=if n < 1 then(0,s) else(IntKind.i64.wrap ((sX s).tmod (IntKind.u64.wrap n)),Gt s)
def mJ (l:List Int)(i j:Nat):List Int:=(l.set i (l.getD j 0)).set j (l.getD i 0)
def sM:Nat->Int->List Int->List Int × Int
 | 0,s,l=>(l,s)
 | i+1,s,l=>sM i (fQ s ((i:Int)+2)).2 (mJ l (i+1) (fQ s ((i:Int)+2)).1.toNat)
def kJ (s:Int)(l:List Int):List Int × Int:=sM (l.length - 1) s l
theorem A6 (n:Int):0<=IntKind.u64.wrap n∧IntKind.u64.wrap n < 18446744073709551616:=by
 rw[IntKind.wrap_u64];omega
theorem tl {s n:Int}(h1:1<=n)(h2:n<=1099511627776):0<=(fQ s n).1∧(fQ s n).1 < n:=by
 unfold fQ;rw[if_neg (by omega)];have hz:0<=sX s:=(A6 _).1;have hn:IntKind.u64.wrap n=n:=by rw[IntKind.wrap_u64];omega
 simp only[hn];have h3:=Int.tmod_nonneg n hz;have h4:=Int.tmod_lt_of_pos (sX s) (b:=n) (by omega);have:IntKind.i64.wrap ((sX s).tmod n)=(sX s).tmod n:=by rw[ak];omega
 rw[this];exact⟨h3,h4⟩
theorem swap_perm (l:List Int)(i j:Nat)(hi:i < l.length)(hj:j < l.length):(mJ l i j).Perm l:=by
 rw[List.perm_iff_count];intro a;unfold mJ;have e1:l.getD j 0=l[j]:=by rw[List.getD_eq_getElem?_getD,af hj];rfl
 have e2:l.getD i 0=l[i]:=by rw[List.getD_eq_getElem?_getD,af hi];rfl
 rw[e1,e2,List.count_set (by rw[bG];exact hj),List.count_set hi,List.getElem_set];have c1:(l[i]==a)=true->1<=l.count a:=fun h=>List.count_pos_iff.2 (by rw[<- beq_iff_eq.1 h];exact aI hi);have c2:(l[j]==a)=true->1<=l.count a:=fun h=>List.count_pos_iff.2 (by rw[<- beq_iff_eq.1 h];exact aI hj)
 by_cases mP:i=j
 ·subst mP;simp only[if_pos];split
  ·rename_i h;have:=c1 h;omega
  ·omega
 ·rw[if_neg mP]
  by_cases ha:(l[i]==a)=true <;> by_cases hb:(l[j]==a)=true
  ·rw[if_pos ha,if_pos hb];have:=c1 ha;omega
  ·rw[if_pos ha,if_neg hb];have:=c1 ha;omega
  ·rw[if_neg ha,if_pos hb];have:=c2 hb;omega
  ·rw[if_neg ha,if_neg hb];omega
theorem pK (l:List Int)(i j:Nat):(mJ l i j).length=l.length:=by unfold mJ;rw[bG,bG]
theorem vj:∀ (i:Nat) (s:Int) (l:List Int),i < l.length∨i=0->l.length<=1099511627776->(sM i s l).1.Perm l
 | 0,_,_,_,_=>.refl _
 | i+1,s,l,h,hb=>by
  unfold sM;have hr:=tl (s:=s) (n:=(i:Int)+2) (by omega) (by omega);have hp:=swap_perm l (i+1) (fQ s ((i:Int)+2)).1.toNat (by omega) (by omega);exact(vj i _ _ (by rw[pK];omega) (by rw[pK];exact hb)).trans hp
theorem Eg (s:Int)(l:List Int)(hb:l.length<=1099511627776):(kJ s l).1.Perm l:=vj _ s l (by omega) hb
def Kp (e:bV)(sd:Int)(x:cq):cq × Int:=
 if e.kind=4 then({ x with je:=ff x.je e.bq },sd)
 else if e.kind=5 then({ x with je:=pM x.je e.bq },sd)
 else if e.kind=16 then({ x with kH:=ff x.kH e.bq },sd)
 else if e.kind=17 then({ x with cW:=(kJ sd x.cW).1 },(kJ sd x.cW).2)
 else(x,sd)
def jq (s:aA)(e:bV):aA:=match s.az[e.bC.toNat]? with
 | some x=>{ s with az:=s.az.set e.bC.toNat (Kp e s.gq x).1,gq:=(Kp e s.gq x).2 }
 | none=>s
def iJ (s:aA)(all:List aG)(e:bV):aA:=
 if e.kind=3 then lO s e.bC
 else if e.kind=4∨e.kind=5∨e.kind=16∨e.kind=17 then jq s e
 else if e.kind=10 then B5 s e e.bq.toNat
 else if e.kind=1∨e.kind=6∨e.kind=7∨e.kind=8∨e.kind=9∨e.kind=12∨e.kind=13 then gy s all e
 else s
def wG (aH:List bX)(s:aA)(all:List aG)(e:bV):aA:=if oN aH s e=true then(if e.kind=2 then EW s e else iJ s all e) else s
section
variable {q:tp}{c:Int}{s:aA}
theorem u5 {s s':aA}(h:s'.az.length=s.az.length)(w:bW):u6 q s' w=u6 q s w:=by
 unfold u6 DO;rw[h]
theorem wJ {s s':aA}(h:s'.az.length=s.az.length)(hs:s.bQ<=s'.bQ){k:iS}(hk:wK q s k=true):wK q s' k=true:=by
 unfold wK DO at *;rw[h];simp only[ag,cb,decide_eq_false_iff_not] at *;exact⟨hk.1,by omega,hk.2.2⟩
theorem BR {s s':aA}(h:s'.az.length=s.az.length)(p:Int):DO s' p=DO s p:=by
 unfold DO;rw[h]
theorem _root_.Cg.jE.map (h:jE q c s)(g:aE->aE)(hg:∀ o∈s.aa,(g o).id=o.id∧(g o).cg=o.cg∧(g o).owner=o.owner∧(g o).du=o.du∧sW (g o) c s.az.length=true):jE q c { s with aa:=s.aa.map g }:=by
 refine⟨h.GX,h.iE,by rw[Lm];exact h.ER,h.YA,h.sc,h.W8,?_,fun o ho=>?_,fun z p id hid=>?_,h.W9,fun o ho h5=>?_,fun o ho h5=>?_,h.Ms,h.Pt,fun x hx=>?_,h.wt,h.Wx⟩
 ·refine List.pairwise_map.2 (h.qN.imp_of_mem fun {a b} ha hb Wc=>?_);rw[(hg a ha).1,(hg b hb).1];exact Wc
 ·obtain⟨o,hm,rfl⟩:=bA.1 ho;obtain⟨h1,h2,h3,h4,h5⟩:=hg o hm;exact⟨h5,by rw[h1];exact(h.obj o hm).2.1,by rw[h4];exact(h.obj o hm).2.2⟩
 ·obtain⟨o,ho,h1,h2,h3⟩:=h.QZ z p id hid;obtain⟨g1,g2,g3,_⟩:=hg o ho;exact⟨g o,List.mem_map_of_mem ho,by rw[g1];exact h1,by rw[g2];exact h2,by rw[g3];exact h3⟩
 ·obtain⟨o,hm,rfl⟩:=bA.1 ho;obtain⟨h1,h2,h3,_⟩:=hg o hm;rw[h2] at h5;rw[h1,h2,h3];exact h.plc o hm h5
 ·obtain⟨o,hm,rfl⟩:=bA.1 ho;obtain⟨h1,h2,_⟩:=hg o hm;rw[h2] at h5;rw[h1];exact h.Qu o hm h5
 ·obtain⟨h1,h2,h3⟩:=h.itm x hx;refine⟨h1,h2,?_⟩;rcases h3 with⟨g1,g2,⟨o,ho,g3,g4⟩,g5⟩|⟨g1,g2,g3⟩
  ·obtain⟨e1,e2,_⟩:=hg o ho;exact .inl ⟨g1,g2,⟨g o,List.mem_map_of_mem ho,by rw[e1];exact g3,by rw[e2];exact g4⟩,g5⟩
  ·refine .inr ⟨g1,fun o ho=>?_,g3⟩;obtain⟨o,hm,rfl⟩:=bA.1 ho;rw[(hg o hm).1];exact g2 o hm
theorem _root_.Cg.jE.adA (h:jE q c s)(l:List cq)(sd:Int)(hlen:l.length=s.az.length)(hp:∀ p∈l,nt p=true)(hl:∀ z p,(bR { s with az:=l,gq:=sd } z p).Perm (bR s z p)):jE q c { s with az:=l,gq:=sd }:=by
 refine⟨h.GX,h.iE,h.ER,by rw[hlen];exact h.YA,?_,hp,h.qN,fun o ho=>?_,fun z p id hid=>h.QZ z p id ((hl z p).mem_iff.1 hid),fun z p=>(hl z p).nodup_iff.2 (h.W9 z p),fun o ho h5=>(hl _ _).mem_iff.2 (h.plc o ho h5),h.Qu,h.Ms,h.Pt,fun x hx=>?_,⟨h.wt.1,fun w hw=>?_⟩,h.Wx.1,fun k hk=>wJ (s:=s) (s':={ s with az:=l,gq:=sd }) hlen (Int.le_refl _) (h.Wx.2 k hk)⟩
 ·have:=h.sc;unfold Uh AX at *;simp only[BR (s:=s) (s':={ s with az:=l,gq:=sd }) hlen,hlen,aN,ag] at *;exact this
 ·rw[hlen];exact h.obj o ho
 ·have:=h.itm x hx;unfold Hg at *;rw[BR (s:=s) hlen];exact this
 ·rw[u5 (s:=s) hlen];exact h.wt.2 w hw
theorem BP {l _l':List cq}{i:Nat}{x y:cq}(_hx:l[i]? = some x)(h:∀ p∈l,nt p=true)(hy:nt y=true):∀ p∈l.set i y,nt p=true:=fun p hp=>by
 rcases List.mem_or_eq_of_mem_set hp with hp|rfl
 ·exact h p hp
 ·exact hy
theorem Jw {s:aA}{i:Nat}{x y:cq}(sd:Int)(hx:s.az[i]? = some x)(h1:y.hand.Perm x.hand)(h2:y.cW.Perm x.cW)(h3:y.dI.Perm x.dI)(z p:Int):(bR { s with az:=s.az.set i y,gq:=sd } z p).Perm (bR s z p):=by
 unfold bR;simp only[bG]
 by_cases hi:i=p.toNat
 ·subst hi;simp only[List.getElem?_set_self (an.1 hx).1,hx];split
  ·exact .refl _
  split
  ·exact .refl _
  split
  ·exact .refl _
  split
  ·exact h1
  split
  ·exact h2
  split
  ·exact h3
  ·exact .refl _
 ·simp only[List.getElem?_set_ne hi];exact .refl _
theorem _root_.Cg.jE.Jf (h:jE q c s)(i:Nat)(sd:Int){x y:cq}(hx:s.az[i]? = some x)(hy:nt y=true)(h1:y.hand.Perm x.hand)(h2:y.cW.Perm x.cW)(h3:y.dI.Perm x.dI):jE q c { s with az:=s.az.set i y,gq:=sd }:=
 h.adA _ sd (by rw[bG]) (BP (_l':=[]) (x:=x) hx h.W8 hy) (Jw sd hx h1 h2 h3)
theorem nS (s:aA)(z p:Int)(l:List Int):∃ b x pl,eU s z p l={ s with bw:=b,gn:=x,az:=pl }∧pl.length=s.az.length∧((∀ y∈s.az,nt y=true)->∀ y∈pl,nt y=true):=by
 unfold eU;split
 ·exact⟨l,s.gn,s.az,rfl,rfl,id⟩
 split
 ·exact⟨s.bw,l,s.az,rfl,rfl,id⟩
 split
 ·exact⟨s.bw,s.gn,s.az,rfl,rfl,id⟩
 split
 ·rename_i y hy;refine⟨s.bw,s.gn,_,rfl,by rw[bG],fun h=>BP (_l':=[]) hy h ?_⟩
  have:nt (l6 y z l)=nt y:=by
   unfold l6;split
   ·rfl
   split
   ·rfl
   split <;> rfl
  rw[this];exact h y (aU hy)
 ·exact⟨s.bw,s.gn,s.az,rfl,rfl,id⟩
theorem Gu {s:aA}{b x:List Int}{pl:List cq}{ob:List aE}{st:List fq}{ni ns:Int}(hlen:pl.length=s.az.length)(h:Uh s=true):Uh { s with bw:=b,gn:=x,az:=pl,aa:=ob,stack:=st,bE:=ni,bQ:=ns }=true:=by
 unfold Uh AX at *;simp only[BR (s:=s) (s':={ s with bw:=b,gn:=x,az:=pl,aa:=ob,stack:=st,bE:=ni,bQ:=ns }) hlen,hlen,aN,ag] at *;exact h
theorem sN {α:Type}{xs:List α}{i:Nat}{t:α}(h:xs[i]? = some t):xs.set i t=xs:=by
 refine List.ext_getElem? fun j=>?_
 by_cases e:i=j
 ·subst e;rw[List.getElem?_set_self (an.1 h).1,h]
 ·rw[List.getElem?_set_ne e]
def xU (z w z' p':Int):Prop:=z=z'∧(z=0∨z=4∨w=p')
instance {z w z' p':Int}:Decidable (xU z w z' p'):=by unfold xU;exact inferInstance
theorem vT (s:aA)(z w:Int)(l:List Int)(z' p':Int)(h:z=0∨z=4∨(1<=z∧z<=3∧0<=w∧w < s.az.length)):bR (eU s z w l) z' p'=if xU z w z' p' then l else bR s z' p':=by
 rcases h with rfl|rfl|⟨h1,h2,h3,h4⟩
 ·have e:eU s 0 w l={ s with bw:=l }:=by unfold eU;rfl
  rw[e]
  by_cases hz:z'=0
  ·subst hz;rw[if_pos ⟨rfl,.inl rfl⟩];exact kg p'
  ·rw[if_neg fun h=>hz h.1.symm];unfold bR;rw[if_neg (show ¬ (z'==0)=true by simpa using hz),if_neg (show ¬ (z'==0)=true by simpa using hz)]
 ·have e:eU s 4 w l={ s with gn:=l }:=by unfold eU;rfl
  rw[e]
  by_cases hz:z'=4
  ·subst hz;rw[if_pos ⟨rfl,.inr (.inl rfl)⟩];exact lH p'
  ·rw[if_neg fun h=>hz h.1.symm];unfold bR;rw[if_neg (show ¬ (z'==4)=true by simpa using hz),if_neg (show ¬ (z'==4)=true by simpa using hz)]
 ·have aS:w.toNat < s.az.length:=by omega
  obtain⟨x,hx⟩:∃ x,s.az[w.toNat]? = some x:=⟨_,af aS⟩
  have e:eU s z w l={ s with az:=s.az.set w.toNat (l6 x z l) }:=by
   unfold eU;rw[if_neg (by simp;omega),if_neg (by simp;omega),if_neg (by omega),hx]
  rw[e]
  by_cases hs:xU z w z' p'
  ·rw[if_pos hs];obtain⟨rfl,hs⟩:=hs;obtain rfl:w=p':=hs.elim (fun h=>by omega) (fun h=>h.elim (fun h=>by omega) id);unfold bR;rw[if_neg (by simp;omega),if_neg (by simp;omega),if_neg (by simp only[bG];omega)];simp only[List.getElem?_set_self aS];unfold l6;rcases(by omega:z=1∨z=2∨z=3) with rfl|rfl|rfl <;> rfl
  ·rw[if_neg hs];unfold bR;simp only[bG];split
   ·rfl
   split
   ·rfl
   split
   ·rfl
   rename_i h0 Xs hp
   by_cases hw:w.toNat=p'.toNat
   ·have:w=p':=by omega
    subst this;have hz:¬ z=z':=fun e=>hs ⟨e,.inr (.inr rfl)⟩;simp only[List.getElem?_set_self aS,hx];have DQ:¬ z'=z:=fun e=>hz e.symm;rcases(by omega:z=1∨z=2∨z=3) with rfl|rfl|rfl <;> simp[l6,DQ]
   ·rw[List.getElem?_set_ne hw]
theorem Qw {l:List aE}(hs:l.Pairwise fun a b=>a.id < b.id){i:Nat}(hi:i < l.length){x:aE}:x∈l.take i++l.drop (i+1)↔x∈l∧x.id≠l[i].id:=by
 have hp:=cu.1 hs;rw[aX];constructor
 ·rintro(h|h)
  ·obtain⟨j,hj,rfl⟩:=bB.1 h;rw[aB] at hj;rw[List.getElem_take];have:=hp j i (by omega) hi (by omega);exact⟨aI _,by omega⟩
  ·obtain⟨j,hj,rfl⟩:=bB.1 h;rw[aL] at hj;rw[List.getElem_drop];have:=hp i (i+1+j) hi (by omega) (by omega);exact⟨aI _,by omega⟩
 ·rintro⟨h,gX⟩;obtain⟨j,hj,rfl⟩:=bB.1 h;rcases Nat.lt_trichotomy j i with h|h|h
  ·exact .inl (bB.2 ⟨j,by rw[aB];omega,by rw[List.getElem_take]⟩)
  ·subst h;exact absurd rfl gX
  ·exact .inr (bB.2 ⟨j - (i+1),by rw[aL];omega,by rw[List.getElem_drop];congr 1;omega⟩)
theorem Qv {l:List aE}(i:Nat):(l.take i++l.drop (i+1)).Sublist l:=by
 rw[<- List.eraseIdx_eq_take_drop_succ];exact List.eraseIdx_sublist l i
theorem IP (h:jE q c s){i:Nat}(hi:i < s.aa.length)(z p:Int):bR (kC s s.aa[i].id i s.aa[i]) z p=(bR s z p).filter fun x=>x != s.aa[i].id:=by
 have hm:=aI hi;have ho:=(h.obj _ hm).1;unfold sW at ho;simp only[ag,cb,decide_eq_false_iff_not] at ho;have e:bR (kC s s.aa[i].id i s.aa[i]) z p=bR (eU s s.aa[i].cg s.aa[i].owner ((bR s s.aa[i].cg s.aa[i].owner).filter fun x=>x != s.aa[i].id)) z p:=rfl;rw[e]
 have keep:¬ xU s.aa[i].cg s.aa[i].owner z p->bR s z p=(bR s z p).filter fun x=>x != s.aa[i].id:=fun hs=>by
  refine(List.filter_eq_self.2 fun x hx=>?_).symm;obtain⟨o,ho,h1,h2,h3⟩:=h.QZ z p x hx;rw[bne_iff_ne];intro e;have:=Bf h.qN ho hm (h1.trans e);subst this;refine hs ⟨h2,?_⟩;rw[h2];rcases h3 with h3|h3|h3
  ·exact .inl h3
  ·exact .inr (.inl h3)
  ·exact .inr (.inr h3)
 by_cases h5:s.aa[i].cg=5
 ·rw[h5]
  have e5:∀ l,eU s 5 s.aa[i].owner l=s:=fun l=>by
   unfold eU;rw[if_neg (by decide),if_neg (by decide)];split
   ·rfl
   ·split
    ·rename_i x hx;have:l6 x 5 l=x:=rfl;rw[this];have:s.az.set s.aa[i].owner.toNat x=s.az:=sN hx;rw[this]
    ·rfl
  rw[e5];refine(List.filter_eq_self.2 fun x hx=>?_).symm;obtain⟨o,ho,h1,h2,h3⟩:=h.QZ z p x hx;rw[bne_iff_ne];intro e;have:=Bf h.qN ho hm (h1.trans e);subst this;rw[h5] at h2;rcases s7 s z p with e|⟨rfl,e⟩|⟨rfl,e⟩|⟨j,hj,rfl,⟨rfl,e⟩|⟨rfl,e⟩|⟨rfl,e⟩⟩
  ·rw[e] at hx;cases hx
  all_goals omega
 ·rw[vT _ _ _ _ _ _ (by omega)];split
  ·rename_i hs;obtain⟨h1,h2⟩:=hs
   have:bR s s.aa[i].cg s.aa[i].owner=bR s z p:=by
    rw[h1] at h2 ⊢;rcases h2 with rfl|rfl|rfl
    ·rw[kg,kg]
    ·rw[lH,lH]
    ·rfl
   rw[this]
  ·rename_i hs;exact keep hs
theorem _root_.Cg.jE.rem (h:jE q c s){i:Nat}(hi:i < s.aa.length):jE q c (kC s s.aa[i].id i s.aa[i]):=by
 have hl:=IP h hi;obtain⟨b,x,pl,e,hlen,mq⟩:=nS s s.aa[i].cg s.aa[i].owner ((bR s s.aa[i].cg s.aa[i].owner).filter fun y=>y != s.aa[i].id)
 have hT:kC s s.aa[i].id i s.aa[i]={ s with bw:=b,gn:=x,az:=pl,aa:=s.aa.take i++s.aa.drop (i+1),stack:=s.stack.filter (jI s.aa[i].id) }:=by
  unfold kC;rw[e]
 rw[hT] at hl ⊢;have hm:=aI hi;have JN:=fun y=>Qw h.qN hi (x:=y);refine⟨h.GX,h.iE,?_,by rw[hlen];exact h.YA,Gu hlen h.sc,mq h.W8,h.qN.sublist (Qv i),fun o ho=>?_,fun z p id hid=>?_,fun z p=>by rw[hl];exact List.Pairwise.filter _ (h.W9 z p),fun o ho h5=>?_,fun o ho h5=>?_,?_,List.Pairwise.filter _ h.Pt,fun y hy=>?_,⟨h.wt.1,fun y hy=>by rw[u5 (s:=s) hlen];exact h.wt.2 y hy⟩,h.Wx.1,fun y hy=>wJ (s:=s) (by exact hlen) (by exact Int.le_refl _) (h.Wx.2 y hy)⟩
 ·have:=h.ER;simp only[au,aB,aL];omega
 ·rw[hlen];exact h.obj o ((JN o).1 ho).1
 ·rw[hl] at hid;obtain⟨h1,h2⟩:=List.mem_filter.1 hid;obtain⟨o,g1,g2,g3⟩:=h.QZ z p id h1;rw[bne_iff_ne] at h2;exact⟨o,(JN o).2 ⟨g1,by rw[g2];exact h2⟩,g2,g3⟩
 ·obtain⟨h1,h2⟩:=(JN o).1 ho;rw[hl];exact List.mem_filter.2 ⟨h.plc o h1 h5,by rw[bne_iff_ne];exact h2⟩
 ·obtain⟨h1,h2⟩:=(JN o).1 ho;obtain⟨y,hy,g1,g2⟩:=h.Qu o h1 h5;refine⟨y,List.mem_filter.2 ⟨hy,?_⟩,g1,g2⟩;unfold jI;rw[g2,cm];exact .inr (by rw[bne_iff_ne];exact h2)
 ·have:=h.Ms;have:=cx (jI s.aa[i].id) s.stack;show((s.stack.filter (jI s.aa[i].id)).length:Int)<=64;omega
 ·obtain⟨hy,hk⟩:=List.mem_filter.1 hy;obtain⟨h1,⟨h2,h3,h4⟩,h5⟩:=h.itm y hy;refine⟨h1,⟨h2,h3,by rw[BR (s:=s) hlen];exact h4⟩,?_⟩;rcases h5 with⟨g1,g2,⟨o,g3,g4,g5⟩,g6⟩|⟨g1,g2,g3⟩
  ·refine .inl ⟨g1,g2,⟨o,(JN o).2 ⟨g3,?_⟩,g4,g5⟩,g6⟩;unfold jI at hk;rw[g1] at hk;simp at hk;rw[g4];exact hk
  ·exact .inr ⟨g1,fun o ho=>g2 o ((JN o).1 ho).1,g3⟩
theorem _root_.Cg.jE.add {s':aA}(h:jE q c s)(x:aE)(hn:s.bE+1<=1000001∧s.bQ+1<=1000001)(e1:s'.bE=s.bE+1)(e2:s'.bQ=s.bQ+1)(eo:s'.aa=s.aa++[x])(hl:s.aa.length+1<=2048)(ep:s'.az.length=s.az.length)(hp:∀ p∈s'.az,nt p=true)(hsc:Uh s'=true)(est:s'.stack=s.stack)(ew:s'.waiting=s.waiting)(ec:s'.dG=s.dG)(hx:sW x c s.az.length=true∧x.id=s.bE∧x.du=s.bQ∧x.cg≠5)
  (hL:∀ z p,(bR s' z p).Perm (if xU x.cg x.owner z p then x.id :: bR s z p else bR s z p)):jE q c s':=by
 obtain⟨OX,KJ,hx3,hx5⟩:=hx;have h0:=h.GX;have h1:=h.iE
 have hold:∀ z p id,id∈bR s z p->id < s.bE:=fun z p id hid=>by
  obtain⟨o,ho,g1,_⟩:=h.QZ z p id hid;rw[<- g1];exact(h.obj o ho).2.1
 refine⟨by omega,by omega,by rw[eo,au];simp;omega,by rw[ep];exact h.YA,hsc,hp,?_,fun o ho=>?_,fun z p id hid=>?_,fun z p=>?_,fun o ho h5=>?_,fun o ho h5=>?_,by rw[est];exact h.Ms,by rw[est];exact h.Pt,fun y hy=>?_,?_,?_⟩
 ·rw[eo,List.pairwise_append];refine⟨h.qN,List.pairwise_singleton _ _,fun a ha b hb=>?_⟩;rw[aJ.1 hb,KJ];exact(h.obj a ha).2.1
 ·rw[ep,e1,e2];rw[eo] at ho;rcases aX.1 ho with ho|ho
  ·have:=h.obj o ho;exact⟨this.1,by omega,by omega⟩
  ·rw[aJ.1 ho];exact⟨OX,by omega,by omega⟩
 ·rw[eo];have hid:=(hL z p).mem_iff.1 hid
  have mi:id∈bR s z p->∃ o∈s.aa++[x],o.id=id∧o.cg=z∧(z=0∨z=4∨o.owner=p):=fun hid=>by
   obtain⟨o,ho,g⟩:=h.QZ z p id hid;exact⟨o,bH _ ho,g⟩
  split at hid
  ·rename_i hs;rcases List.mem_cons.1 hid with rfl|hid
   ·refine⟨x,bJ _ aC,rfl,hs.1,?_⟩;rw[<- hs.1];exact hs.2
   ·exact mi hid
  ·exact mi hid
 ·refine(hL z p).nodup_iff.2 ?_;split
  ·exact List.nodup_cons.2 ⟨fun hm=>by have:=hold z p _ hm;omega,h.W9 z p⟩
  ·exact h.W9 z p
 ·rw[eo] at ho;refine(hL _ _).mem_iff.2 ?_;rcases aX.1 ho with ho|ho
  ·have:=h.plc o ho h5;split
   ·exact aK _ this
   ·exact this
  ·rw[aJ.1 ho,if_pos ⟨rfl,.inr (.inr rfl)⟩];exact aC
 ·rw[est];rw[eo] at ho;rcases aX.1 ho with ho|ho
  ·exact h.Qu o ho h5
  ·rw[aJ.1 ho] at h5;exact absurd h5 hx5
 ·rw[est] at hy;obtain⟨h1,⟨h2,h3,h4⟩,h5⟩:=h.itm y hy;refine⟨by rw[e1];omega,⟨h2,h3,by rw[BR (s:=s) ep];exact h4⟩,?_⟩;rw[eo];rcases h5 with⟨g1,g2,⟨o,g3,g4⟩,g6⟩|⟨g1,g2,g3⟩
  ·exact .inl ⟨g1,g2,⟨o,bH _ g3,g4⟩,g6⟩
  ·refine .inr ⟨g1,fun o ho=>?_,g3⟩;rcases aX.1 ho with ho|ho
   ·exact g2 o ho
   ·rw[aJ.1 ho];omega
 ·rw[ew];exact⟨h.wt.1,fun y hy=>by rw[u5 (s:=s) ep];exact h.wt.2 y hy⟩
 ·rw[ec];exact⟨h.Wx.1,fun y hy=>wJ (s:=s) ep (by omega) (h.Wx.2 y hy)⟩
end
theorem D4 (k:Int)(o:aE):(oA k o).id=o.id∧(oA k o).cg=o.cg∧(oA k o).owner=o.owner∧(oA k o).du=o.du∧(oA k o).token=o.token∧(oA k o).dK=o.dK:=by
 unfold oA;split <;> exact⟨rfl,rfl,rfl,rfl,rfl,rfl⟩
theorem Ag (l:List aE)(id:Int)(g:aE->aE)(hg:∀ o,(g o).id=o.id):er (l.map g) id=er l id:=by
 unfold er;rw[List.find?_map,Option.isSome_map];congr 2
 funext o
 simp[hg]
theorem J5 (l:List aE)(id:Int)(g:aE->aE)(hg:∀ o,(g o).id=o.id)(h:er l id=true):b9 (l.map g) id=g (b9 l id):=by
 unfold er at h;unfold b9;rw[List.find?_map]
 have e:((fun o:aE=>o.id==id) ∘ g)=fun o=>o.id==id:=by
  funext o
  simp[hg]
 rw[e]
 cases hf:l.find? fun o=>o.id==id with
 | none=>rw[hf] at h;cases h
 | some o=>rfl
theorem uJ {l:List aE}{id:Int}(h:er l id=true):∃ (i:Nat) (hi:i < l.length),l.findIdx? (fun o=>o.id==id)=some i∧b9 l id=l[i]∧l[i].id=id:=by
 have hm:=fV h;unfold er at h;unfold b9 at hm ⊢;rcases im (fun o:aE=>o.id==id) l with⟨_,_,e⟩|⟨i,hi,_,e1,e2⟩
 ·rw[e] at h;cases h
 ·rw[e2] at hm ⊢;exact⟨i,hi,e1,rfl,hm.2⟩
section
variable {q:tp}{c:Int}{s:aA}
theorem fm (n:Int):-1000000<=dd n∧dd n<=1000000:=by
 unfold dd;split
 ·omega
 split <;> omega
theorem oc (a b:Int):0<=mB a b∧mB a b<=1000000:=by
 have:=fm (dd a+dd b);unfold mB ff;split <;> omega
theorem De {n:Int}(h0:-1000000<=n)(h1:n<=1000000):dd n=n:=by
 unfold dd;rw[if_neg (by omega),if_neg (by omega)]
theorem zr:(0:Int)<=0∧(0:Int)<=1000000:=by decide
structure AU (c n:Int)(o:aE):Prop where
 id:1<=o.id
 dK:0<=o.dK∧o.dK < c
 own:0<=o.owner∧o.owner < n
 ctl:0<=o.control∧o.control < n
 cg:0<=o.cg∧o.cg<=5
 dmg:0<=o.fD∧o.fD<=1000000
 du:0<=o.du∧o.du<=1000000
 blocks:0<=o.blocks∧o.blocks<=1000000
 nh:0<=o.nh∧o.nh<=1000000
 c0:0<=o.cL∧o.cL<=1000000
 c1:0<=o.cK∧o.cK<=1000000
 c2:0<=o.dh∧o.dh<=1000000
 copy:-1<=o.copy∧o.copy < c
 att:-1<=o.jD∧o.jD < n
 rest:o.cg=0∨zm o=true
theorem nv {c n:Int}{o:aE}:sW o c n=true↔AU c n o:=by
 unfold sW TN;simp only[ag,cm,cb,decide_eq_false_iff_not,beq_iff_eq];refine⟨fun ⟨⟨a1,a2,a3,a4,a5,a6,a7,a8,a9⟩,⟨b1,b2,b3,b4,b5,b6,b7,b8⟩,⟨⟨⟨c1,c2⟩,⟨c3,c4⟩,c5,c6⟩,d1,d2,d3,d4⟩,r⟩=>?_,fun h=>?_⟩
 ·exact⟨by omega,by omega,by omega,by omega,by omega,by omega,by omega,by omega,by omega,by omega,by omega,by omega,by omega,by omega,r⟩
 ·obtain⟨h1,h2,h3,h4,h5,h6,h7,h8,h9,k1,k2,k3,k4,k5,k6⟩:=h;exact⟨⟨by omega,by omega,by omega,by omega,by omega,by omega,by omega,by omega,by omega⟩,⟨by omega,by omega,by omega,by omega,by omega,by omega,by omega,by omega⟩,⟨⟨⟨by omega,by omega⟩,⟨by omega,by omega⟩,by omega,by omega⟩,by omega,by omega,by omega,by omega⟩,k6⟩
theorem BN {l:List aE}(hs:l.Pairwise fun a b=>a.id < b.id){o o':aE}(ho:o∈l)(e:o'.id=o.id):o7 l o'=l.map fun y=>if y.id=o.id then o' else y:=by
 obtain⟨i,hi,e1,_,e3⟩:=uJ (js.2 ⟨o,ho,rfl⟩);unfold o7;rw[e,e1];refine List.ext_getElem? fun j=>?_;rw[bp]
 by_cases hj:i=j
 ·subst hj;rw[List.getElem?_set_self hi,af hi];simp only[Option.map_some];rw[if_pos e3]
 ·rw[List.getElem?_set_ne hj]
  cases hq:l[j]? with
  | none=>rfl
  | some y=>
   obtain⟨nE,rfl⟩:=an.1 hq
   have:¬ l[j].id=o.id:=fun e=>by
    have hp:=cu.1 hs;rcases Nat.lt_or_gt_of_ne hj with h|h
    ·have:=hp i j hi nE h;omega
    ·have:=hp j i nE hi h;omega
   simp only[Option.map_some];rw[if_neg this]
theorem zw (h:jE q c s){o o':aE}(ho:o∈s.aa)(e:o'.id=o.id∧o'.cg=o.cg∧o'.owner=o.owner∧o'.du=o.du)(s8:AU c s.az.length o'):jE q c (eM s o'):=by
 unfold eM;rw[BN h.qN ho e.1];refine h.map _ fun y hy=>?_;split
 ·rename_i hid;have:=Bf h.qN hy ho hid;subst this;exact⟨e.1,e.2.1,e.2.2.1,e.2.2.2,nv.2 s8⟩
 ·exact⟨rfl,rfl,rfl,rfl,(h.obj y hy).1⟩
theorem jP {o:aE}(h:jE q c s)(ho:o∈s.aa):AU c s.az.length o:=nv.1 (h.obj o ho).1
theorem Gc (h:jE q c s)(k:Int):jE q c (rG s k):=h.map _ fun o ho=>by
 obtain⟨h1,h2,h3,h4,_⟩:=D4 k o;refine⟨h1,h2,h3,h4,?_⟩;have hv:=jP h ho;unfold oA;split
 ·obtain⟨g1,g2,g3,g4,g5,g6,g7,g8,g9,k1,k2,k3,k4,k5,k6⟩:=hv;refine nv.2 ⟨g1,g2,g3,g4,g5,g6,g7,zr,g9,k1,k2,k3,k4,k5,k6.imp id fun hr=>?_⟩;unfold zm at *;simp only[ag] at *;obtain⟨a,b,_,d⟩:=hr;exact⟨a,b,rfl,d⟩
 ·exact nv.2 hv
theorem Sa {n:Int}{o:aE}(hv:AU c n o)(h0:o.cg=0)(e:bV):AU c n (NY e o):=by
 obtain⟨g1,g2,g3,g4,g5,g6,g7,g8,g9,k1,k2,k3,k4,k5,k6⟩:=hv;exact⟨g1,g2,g3,g4,g5,g6,g7,g8,g9,oc _ _,oc _ _,oc _ _,k4,k5,.inl h0⟩
theorem Ss (h:jE q c s)(id:Int)(e:bV)(h0:er s.aa id=true->(b9 s.aa id).cg=0):jE q c (ld s id e):=by
 unfold ld
 by_cases hh:er s.aa id=true
 ·rw[if_pos hh];have hm:=(fV hh).1;exact zw h hm ⟨rfl,rfl,rfl,rfl⟩ (Sa (jP h hm) (h0 hh) e)
 ·rw[if_neg hh];exact h
theorem BO {l:List aE}{x:aE}(h:∀ y∈l,y.id < x.id):o7 l x=l++[x]:=by
 unfold o7
 have e:l.findIdx? (fun y=>y.id==x.id)=none:=List.findIdx?_eq_none_iff.2 fun y hy=>by
  have:=h y hy;simp only[beq_eq_false_iff_ne,ne_eq];omega
 rw[e];show JD l x=_;unfold JD;have e2:(l.takeWhile fun y=>decide (y.id < x.id)).length=l.length:=kT _ l l.length (al _) (fun j hj _=>decide_eq_true (h _ (aI hj))) (.inl rfl);rw[e2,bm,List.drop_length,aZ]
theorem QO {n id dK p z st:Int}(h1:1<=id)(h2:0<=dK∧dK < c)(h3:0<=p∧p < n)(h4:0<=z∧z<=4)(h5:0<=st∧st<=1000000)(tk:Bool)(ct:Int)(h6:0<=ct∧ct < n):AU c n { qc id dK p z st with token:=tk,control:=ct,oY:=z==0 }:=by
 refine⟨h1,h2,h3,h6,⟨h4.1,show z<=5 by omega⟩,zr,h5,zr,zr,zr,zr,zr,⟨Int.le_refl _,show(-1:Int) < c by omega⟩,⟨Int.le_refl _,show(-1:Int) < n by omega⟩,?_⟩
 by_cases hz:z=0
 ·exact .inl hz
 ·right;have:(z==0)=false:=by simpa using hz
  unfold zm qc uq;simp only[this];rfl
theorem My (i:Nat)(o:aE)(id:Int):(kC s id i o).bE=s.bE∧(kC s id i o).bQ=s.bQ∧(kC s id i o).az.length=s.az.length:=by
 obtain⟨b,x,pl,e,hlen,_⟩:=nS s o.cg o.owner ((bR s o.cg o.owner).filter fun y=>y != id);unfold kC;rw[e];exact⟨rfl,rfl,hlen⟩
structure aaC (q:tp)(c:Int)(s:aA)(z:Int)(r:aA × Int):Prop where
 val:jE q c r.1
 GX:s.bE<=r.1.bE∧r.1.bE<=s.bE+1
 fnd:er r.1.aa r.2=true->(b9 r.1.aa r.2).cg=z
theorem qe (h:jE q c s)(id z p:Int)(b:Bool)(hid:er s.aa id=true)(hz:0<=z∧z<=4)(hp:0<=p∧p < s.az.length)(hn:s.bE+1<=1000001∧s.bQ+1<=1000001):aaC q c s z (jH s id z p b):=by
 obtain⟨i,hi,e1,_,rfl⟩:=uJ hid;have hv:=jP h (aI hi);have hR:=h.rem hi;obtain⟨n1,n2,n3⟩:=My (s:=s) i s.aa[i] s.aa[i].id
 have n4:(kC s s.aa[i].id i s.aa[i]).aa.length+1=s.aa.length:=by
  show(s.aa.take i++s.aa.drop (i+1)).length+1=_;simp only[au,aB,aL];omega
 unfold jH;rw[e1];simp only[af hi];unfold mj;rw[if_neg (by omega)];generalize kC s s.aa[i].id i s.aa[i]=R at *;have h1:=hR.GX;have h2:=hR.iE;split
 ·refine⟨hR,⟨by show s.bE<=R.bE;omega,by show R.bE<=s.bE+1;omega⟩,fun hh=>?_⟩;obtain⟨o,ho,e⟩:=js.1 hh;have h3:=(jP hR ho).id;have e:o.id=0:=e;omega
 ·obtain⟨x,hx⟩:∃ x,x=yk R s.aa[i] z p:=⟨_,rfl⟩
  rw[<- hx]
  have KI:AU c R.az.length x:=by
   rw[hx,n3];refine QO h1.1 hv.dK hv.own hz ⟨by omega,by omega⟩ _ _ ?_;have:=hv.own;split <;> omega
  have x1:x.id=R.bE:=by rw[hx];rfl
  have x2:x.du=R.bQ:=by rw[hx];rfl
  have x3:x.cg=z:=by rw[hx];rfl
  have x4:x.owner=s.aa[i].owner:=by rw[hx];rfl
  have iU:∀ y∈R.aa,y.id < x.id:=fun y hy=>by rw[x1];exact(hR.obj y hy).2.1
  have aeH:o7 R.aa x=R.aa++[x]:=BO iU;unfold GY;generalize hL:(if (z==2&&!b)=true then x.id :: bR (eM R x) z x.owner else bR (eM R x) z x.owner++[x.id])=L
  have hLp:L.Perm (x.id :: bR R z x.owner):=by
   rw[<- hL];split
   ·exact .refl _
   ·exact List.perm_append_singleton _ _
  obtain⟨bf,ex,pl,e,hlen,mq⟩:=nS (eM R x) z x.owner L;have hw:∀ n:Int,1<=n->n<=1000001->IntKind.i64.wrap (n+1)=n+1:=fun n _ _=>by rw[ak];omega
  have hT:qd (eU (eM R x) z x.owner L)={ R with bw:=bf,gn:=ex,az:=pl,aa:=R.aa++[x],bE:=R.bE+1,bQ:=R.bQ+1 }:=by
   rw[e];unfold qd eM;simp only[aeH,hw _ h1.1 h1.2,hw _ h2.1 h2.2]
  have qp:jE q c (qd (eU (eM R x) z x.owner L)):=by
   have VL:∀ z' p',bR (qd (eU (eM R x) z x.owner L)) z' p'=bR (eU (eM R x) z x.owner L) z' p':=fun _ _=>rfl;refine hR.add x ⟨by omega,by omega⟩ ?_ ?_ ?_ ?_ ?_ ?_ ?_ ?_ ?_ ?_ ⟨nv.2 KI,x1,x2,by omega⟩ fun z' p'=>?_
   ·rw[hT]
   ·rw[hT]
   ·rw[hT]
   ·have:=h.ER;omega
   ·rw[hT];exact hlen
   ·rw[hT];exact mq hR.W8
   ·rw[hT];exact Gu hlen hR.sc
   ·rw[hT]
   ·rw[hT]
   ·rw[hT]
   ·rw[VL,vT _ _ _ _ _ _ (by have:=KI.own;have:(eM R x).az.length=R.az.length:=rfl;omega),x3];split
    ·rename_i hs
     have:bR R z x.owner=bR R z' p':=by
      obtain⟨rfl,hs⟩:=hs;rcases hs with rfl|rfl|rfl
      ·rw[kg,kg]
      ·rw[lH,lH]
      ·rfl
     rw[<- this];exact hLp
    ·exact .refl _
  refine⟨qp,?_,fun hh=>?_⟩
  ·show s.bE<=(qd (eU (eM R x) z x.owner L)).bE∧(qd (eU (eM R x) z x.owner L)).bE<=s.bE+1;rw[hT];exact⟨show s.bE<=R.bE+1 by omega,show R.bE+1<=s.bE+1 by omega⟩
  ·have hm:x∈(qd (eU (eM R x) z x.owner L)).aa:=by
    rw[hT];exact bJ _ aC
   show(b9 (qd (eU (eM R x) z x.owner L)).aa x.id).cg=z;rw[wC qp.qN hm];exact x3
end
section
variable {q:tp}{c:Int}{s:aA}
theorem F9 (h:jE q c s):er s.aa 0=false:=by
 rw[<- Bool.not_eq_true,js];rintro⟨o,ho,e⟩;have:=(jP h ho).id;omega
structure mQ (q:tp)(c k:Int)(s t:aA):Prop where
 val:jE q c t
 GX:s.bE<=t.bE∧t.bE<=s.bE+k
theorem mQ.refl (h:jE q c s){k:Int}(hk:0<=k):mQ q c k s s:=⟨h,Int.le_refl _,by omega⟩
theorem Sv (id:Int)(e:bV):(ld s id e).bE=s.bE∧(ld s id e).bQ=s.bQ∧(ld s id e).az=s.az:=by
 unfold ld;split <;> exact⟨rfl,rfl,rfl⟩
theorem Va (h:jE q c s)(e:bV)(hid:er s.aa e.aO=true)(hz:0<=e.nQ∧e.nQ<=4)(hp:0<=e.bC∧e.bC < s.az.length)(hn:s.bE+1<=1000001∧s.bQ+1<=1000001):mQ q c 1 s (EW s e):=by
 obtain⟨s0,Xg⟩:∃ s0,s0=(if e.from_=0 then rG s e.aO else s):=⟨_,rfl⟩
 have h0:jE q c s0∧er s0.aa e.aO=true∧s0.bE=s.bE∧s0.bQ=s.bQ∧s0.az=s.az:=by
  rw[Xg];split
  ·exact⟨Gc h _,by rw[show(rG s e.aO).aa=s.aa.map (oA e.aO) from rfl,Ag _ _ _ fun o=>(D4 _ o).1];exact hid,rfl,rfl,rfl⟩
  ·exact⟨h,hid,rfl,rfl,rfl⟩
 obtain⟨h1,h2,h3,h4,h5⟩:=h0;have hm:=qe h1 e.aO e.nQ e.bC (e.bq==1) h2 hz (by rw[h5];exact hp) (by omega);have anN:=hm.GX;unfold EW;rw[<- Xg];simp only;split
 ·rename_i ht;refine⟨Ss hm.val _ _ fun hh=>by rw[hm.fnd hh,ht],?_⟩;rw[(Sv _ _).1];omega
 ·exact⟨hm.val,by omega⟩
theorem pW {p:cq}:nt p=true↔(-1000000<=p.je∧p.je<=1000000)∧(0<=p.kH∧p.kH<=1000000)∧(0<=p.Cm∧p.Cm<=1000000)∧DZ p.ye p.yd p.yc p.yb p.ya p.x9=true:=by
 unfold nt;rw[ag,ag,ag,qo,qo,qo]
theorem MT (h:jE q c s)(e:bV)(hp:0<=e.bC∧e.bC < s.az.length)(ha:e.kind≠17->1<=e.bq)(hb:∀ p∈s.az,p.cW.length<=1099511627776):jE q c (jq s e):=by
 have aS:e.bC.toNat < s.az.length:=by omega
 have hx:s.az[e.bC.toNat]? = some s.az[e.bC.toNat]:=af aS;unfold jq;rw[hx];simp only;generalize hxx:s.az[e.bC.toNat]=x at *;have hm:x∈s.az:=by rw[<- hxx];exact aI aS
 have hN:=h.W8 x hm;have ZA:=pW.1 hN;unfold Kp;split
 ·exact h.Jf _ _ hx (pW.2 ⟨fm _,ZA.2⟩) (.refl _) (.refl _) (.refl _)
 split
 ·exact h.Jf _ _ hx (pW.2 ⟨fm _,ZA.2⟩) (.refl _) (.refl _) (.refl _)
 split
 ·rename_i h16;refine h.Jf _ _ hx (pW.2 ⟨ZA.1,⟨?_,(fm _).2⟩,ZA.2.2⟩) (.refl _) (.refl _) (.refl _);show 0<=dd (dd x.kH+dd e.bq);have h1:=ZA.2.1;rw[De (n:=x.kH) (by omega) (by omega)];have h2:=ha (by omega)
  have h3:0<=dd e.bq:=by
   unfold dd;split
   ·omega
   split <;> omega
  unfold dd at h3 ⊢;split
  ·omega
  split <;> omega
 split
 ·exact h.Jf _ _ hx hN (.refl _) (Eg _ _ (hb x hm)) (.refl _)
 ·exact h.Jf _ _ hx hN (.refl _) (.refl _) (.refl _)
theorem N3 (h:jE q c s)(p:Int)(hp:0<=p∧p < s.az.length)(hn:s.bE+1<=1000001∧s.bQ+1<=1000001):mQ q c 1 s (lO s p):=by
 have aS:p.toNat < s.az.length:=by omega
 have hx:s.az[p.toNat]? = some s.az[p.toNat]:=af aS;unfold lO;rw[hx];simp only;split
 ·unfold K0;rw[hx];exact⟨h.Jf _ s.gq hx (show nt s.az[p.toNat]=true from h.W8 _ (aI aS)) (.refl _) (.refl _) (.refl _),Int.le_refl _,show s.bE<=s.bE+1 by omega⟩
 ·rename_i id rest hl
  have hid:id∈bR s 2 p:=by
   obtain⟨n,rfl⟩:∃ n:Nat,p=n:=⟨p.toNat,by omega⟩
   rw[Cc (by omega)];have:(n:Int).toNat=n:=by omega
   rw[show s.az[n]=s.az[(n:Int).toNat] from rfl,hl];exact aC
  obtain⟨o,ho,e1,_⟩:=h.QZ 2 p id hid;have hm:=qe h id 1 p false (js.2 ⟨o,ho,e1⟩) (by omega) hp hn;exact⟨hm.val,hm.GX⟩
theorem ll {i k a n:Int}(h:0<=a∧a<=1000000):0<=kB i k a n∧kB i k a n<=1000000:=by
 unfold kB;split
 ·exact oc _ _
 ·exact h
theorem E8 (d:Bool)(e:bV)(o:aE):(gz d e o).id=o.id∧(gz d e o).cg=o.cg∧(gz d e o).owner=o.owner∧(gz d e o).du=o.du:=by
 unfold gz
 repeat' (first|exact⟨rfl,rfl,rfl,rfl⟩|split)
theorem MG {n:Int}{o:aE}(hv:AU c n o)(h0:o.cg=0)(d:Bool)(e:bV)(ha:e.kind=1->1<=e.bq)(hp:e.kind=12->0<=e.bC∧e.bC < n)(hs:e.kind=13->0<=e.source∧e.source<=1000000):AU c n (gz d e o):=by
 obtain⟨g1,g2,g3,g4,g5,g6,g7,g8,g9,k1,k2,k3,k4,k5,k6⟩:=hv;unfold gz;split
 ·rename_i hk;refine⟨g1,g2,g3,g4,g5,⟨?_,(fm _).2⟩,g7,g8,g9,k1,k2,k3,k4,k5,.inl h0⟩;show 0<=dd (dd o.fD+dd e.bq);have h2:=ha hk;rw[De (n:=o.fD) (by omega) (by omega)]
  have h3:0<=dd e.bq:=by
   unfold dd;split
   ·omega
   split <;> omega
  unfold dd at h3 ⊢;split
  ·omega
  split <;> omega
 split
 ·exact⟨g1,g2,g3,g4,g5,g6,g7,g8,g9,k1,k2,k3,k4,k5,.inl h0⟩
 split
 ·exact⟨g1,g2,g3,g4,g5,g6,g7,g8,g9,k1,k2,k3,k4,k5,.inl h0⟩
 split
 ·exact⟨g1,g2,g3,g4,g5,g6,g7,g8,g9,ll k1,ll k2,ll k3,k4,k5,.inl h0⟩
 split
 ·exact⟨g1,g2,g3,g4,g5,g6,g7,g8,g9,ll k1,ll k2,ll k3,k4,k5,.inl h0⟩
 split
 ·rename_i hk;have:=hp hk;exact⟨g1,g2,g3,g4,g5,g6,g7,g8,g9,k1,k2,k3,k4,⟨show -1<=e.bC by omega,this.2⟩,.inl h0⟩
 split
 ·rename_i hk;exact⟨g1,g2,g3,g4,g5,g6,g7,hs hk,g9,k1,k2,k3,k4,k5,.inl h0⟩
 ·exact⟨g1,g2,g3,g4,g5,g6,g7,g8,g9,k1,k2,k3,k4,k5,k6⟩
theorem mu {id:Int}(h:iY s id=true):er s.aa id=true∧(b9 s.aa id).cg=0:=by
 unfold iY at h;rw[ag,beq_iff_eq] at h;exact h
theorem Me (h:jE q c s){o o':aE}(ho:o∈s.aa)(e:o'.id=o.id)(ez:o'.cg=o.cg){id:Int}(hh:iY s id=true):iY (eM s o') id=true:=by
 obtain⟨h1,h2⟩:=mu hh
 have hg:∀ y:aE,((fun y:aE=>if y.id=o.id then o' else y) y).id=y.id:=fun y=>by
  simp only;split
  ·rename_i hy;rw[e,hy]
  ·rfl
 unfold iY;rw[show(eM s o').aa=s.aa.map fun y=>if y.id=o.id then o' else y from BN h.qN ho e,Ag _ _ _ hg,h1,J5 _ _ _ hg h1];simp only[Bool.true_and,beq_iff_eq];split
 ·rename_i hy;have:=Bf h.qN (fV h1).1 ho hy;rw[ez,<- this];exact h2
 ·exact h2
theorem Mr (h:jE q c s)(all:List aG)(e:bV)(h0:er s.aa e.aO=true->(b9 s.aa e.aO).cg=0)(ha:e.kind=1->1<=e.bq)(hp:e.kind=12->0<=e.bC∧e.bC < s.az.length)(hs:e.kind=13->iY s e.source=true):jE q c (gy s all e)∧(gy s all e).bE=s.bE:=by
 unfold gy
 by_cases hh:er s.aa e.aO=true
 ·rw[if_pos hh];have hm:=(fV hh).1
  have Vx:e.kind=13->0<=e.source∧e.source<=1000000:=fun hk=>by
   obtain⟨g1,_⟩:=mu (hs hk);obtain⟨g2,g3⟩:=fV g1;have g4:=(jP h g2).id;have g5:=(h.obj _ g2).2.1;have:=h.GX;omega
  have h1:=zw h hm (E8 (fT s all e.source) e (b9 s.aa e.aO)) (MG (jP h hm) (h0 hh) _ e ha hp Vx);simp only;split
  ·rename_i hk;have hq:=Me h hm (E8 (fT s all e.source) e (b9 s.aa e.aO)).1 (E8 (fT s all e.source) e (b9 s.aa e.aO)).2.1 (hs hk);obtain⟨s1,Cy⟩:∃ s1,s1=eM s (gz (fT s all e.source) e (b9 s.aa e.aO)):=⟨_,rfl⟩
   have uF:s1.bE=s.bE:=by rw[Cy];rfl
   rw[<- Cy] at h1 hq ⊢;obtain⟨g1,g2⟩:=mu hq;have gm:=(fV g1).1;obtain⟨v1,v2,v3,v4,v5,v6,v7,v8,v9,w1,w2,w3,w4,w5,_⟩:=jP h1 gm;exact⟨zw (o':={ b9 s1.aa e.source with blocked:=true }) h1 gm ⟨rfl,rfl,rfl,rfl⟩ ⟨v1,v2,v3,v4,v5,v6,v7,v8,v9,w1,w2,w3,w4,w5,.inl g2⟩,uF⟩
  ·exact⟨h1,rfl⟩
 ·rw[if_neg hh];exact⟨h,rfl⟩
theorem vS {p:Int}(h:kX s p=true):0<=p∧p < s.az.length:=by
 unfold kX at h;split at h
 ·rename_i x hx;rw[ag,decide_eq_true_eq] at h;have:=(an.1 hx).1;omega
 ·cases h
theorem F2 {n:Int}(h:qG n=true):1<=n∧n<=1000000:=by
 unfold qG at h;rw[ag,decide_eq_true_eq,decide_eq_true_eq] at h;exact h
theorem Wu {aH:List bX}(h:jE q aH.length s)(all:List aG)(e:bV)(hn:s.bE<=1000000∧s.bQ<=1000000)(mw:¬ e.kind=10)(hb:∀ p∈s.az,p.cW.length<=1099511627776):mQ q aH.length 100 s (wG aH s all e):=by
 have up:∀ {t:aA} {k:Int},k<=100->mQ q aH.length k s t->mQ q aH.length 100 s t:=fun hk h=>⟨h.val,h.GX.1,by have:=h.GX;omega⟩
 unfold wG
 by_cases dZ:oN aH s e=true
 case neg=>rw[if_neg dZ];exact mQ.refl h (by decide)
 rw[if_pos dZ]
 have obj:(e.kind=1∨e.kind=6∨e.kind=7∨e.kind=8∨e.kind=9∨e.kind=12∨e.kind=13)->iJ s all e=gy s all e:=fun hk=>by
  unfold iJ;rw[if_neg (by omega),if_neg (by omega),if_neg (by omega),if_pos hk]
 have je:(e.kind=4∨e.kind=5∨e.kind=16∨e.kind=17)->iJ s all e=jq s e:=fun hk=>by
  unfold iJ;rw[if_neg (by omega),if_pos hk]
 have Jk:(e.kind=1∨e.kind=6∨e.kind=7∨e.kind=8∨e.kind=9∨e.kind=12∨e.kind=13)->(er s.aa e.aO=true->(b9 s.aa e.aO).cg=0)->(e.kind=1->1<=e.bq)->(e.kind=12->0<=e.bC∧e.bC < s.az.length)->(e.kind=13->iY s e.source=true)->mQ q aH.length 100 s (iJ s all e):=fun hk g1 g2 g3 g4=>by
  rw[obj hk];obtain⟨a1,a2⟩:=Mr h all e g1 g2 g3 g4;exact⟨a1,by omega⟩
 have Te:(e.kind=4∨e.kind=5∨e.kind=16∨e.kind=17)->0<=e.bC∧e.bC < s.az.length->(e.kind≠17->1<=e.bq)->mQ q aH.length 100 s (iJ s all e):=fun hk g1 g2=>by
  rw[je hk];refine⟨MT h e g1 g2 hb,?_⟩;have:(jq s e).bE=s.bE:=by unfold jq;split <;> rfl
  omega
 unfold oN at dZ
 by_cases k1:e.kind=1
 ·rw[if_neg (by omega)];rw[if_pos k1,ag,cm,ag,beq_iff_eq] at dZ;refine Jk (by omega) (fun hh=>?_) (fun _=>(F2 dZ.1).1) (by omega) (by omega);rcases dZ.2 with h1|h1
  ·exact(mu h1).2
  ·rw[h1.1,F9 h] at hh
   cases hh
 rw[if_neg k1] at dZ
 by_cases k2:e.kind=2
 ·rw[if_pos k2];rw[if_pos k2] at dZ;simp only[ag,beq_iff_eq,decide_eq_true_eq] at dZ;obtain⟨a1,_,_,a2,a3,a4,a5⟩:=dZ;exact up (by decide) (Va h e a1 ⟨a2,a3⟩ ⟨a4,a5⟩ (by omega))
 rw[if_neg k2];rw[if_neg k2] at dZ
 by_cases k3:e.kind=3∨e.kind=14∨e.kind=15∨e.kind=17
 ·rw[if_pos k3] at dZ;have hp:=vS dZ
  by_cases k17:e.kind=17
  ·exact Te (by omega) hp (by omega)
  by_cases k33:e.kind=3
  ·have:iJ s all e=lO s e.bC:=by unfold iJ;rw[if_pos k33]
   rw[this];exact up (by decide) (N3 h e.bC hp (by omega))
  ·have:iJ s all e=s:=by
    unfold iJ;rw[if_neg (by omega),if_neg (by omega),if_neg (by omega),if_neg (by omega)]
   rw[this];exact mQ.refl h (by decide)
 rw[if_neg k3] at dZ
 by_cases k4:e.kind=4∨e.kind=5∨e.kind=16
 ·rw[if_pos k4,ag] at dZ;exact Te (by omega) (vS dZ.1) fun _=>(F2 dZ.2).1
 rw[if_neg k4] at dZ
 by_cases k6:e.kind=6
 ·rw[if_pos k6,ag] at dZ;exact Jk (by omega) (fun _=>(mu dZ.1).2) (by omega) (by omega) (by omega)
 rw[if_neg k6] at dZ
 by_cases k7:e.kind=7
 ·rw[if_pos k7,ag] at dZ;exact Jk (by omega) (fun _=>(mu dZ.1).2) (by omega) (by omega) (by omega)
 rw[if_neg k7] at dZ
 by_cases k8:e.kind=8∨e.kind=9
 ·rw[if_pos k8,ag] at dZ;exact Jk (by omega) (fun _=>(mu dZ.1).2) (by omega) (by omega) (by omega)
 rw[if_neg k8] at dZ;have YQ:=mw;rw[if_neg YQ] at dZ
 by_cases k11:e.kind=11
 ·have:iJ s all e=s:=by
   unfold iJ;rw[if_neg (by omega),if_neg (by omega),if_neg (by omega),if_neg (by omega)]
  rw[this];exact mQ.refl h (by decide)
 rw[if_neg k11] at dZ
 by_cases YP:e.kind=12
 ·rw[if_pos YP,ag] at dZ;exact Jk (by omega) (fun _=>(mu dZ.1).2) (by omega) (fun _=>vS dZ.2) (by omega)
 rw[if_neg YP] at dZ
 by_cases YO:e.kind=13
 ·rw[if_pos YO,ag] at dZ;exact Jk (by omega) (fun _=>(mu dZ.1).2) (by omega) (by omega) (fun _=>dZ.2)
 rw[if_neg YO] at dZ
 cases dZ
end
end Go.Proofs.YtbmdcnkidjlbbaaGreat
end
section
namespace Go.Proofs.YtbmdcnkidjlbbaaGreat
open Go Cg Go.RowKit Go.Shelf
theorem wrap_add (a b:Int):IntKind.i64.wrap (dd a+dd b)=dd a+dd b:=by
 have:=fm a;have:=fm b;rw[ak];omega
theorem KS (a b:Int):IntKind.i64.wrap (dd a - dd b)=dd a - dd b:=by
 have:=fm a;have:=fm b;rw[ak];omega
theorem Jd (a:Int):∃ r:Int,(r=(dd a))∧Ct ae 167 [.c (.t (iv a))] (AV.i r) [] true:=by
 refine db (Φ:=fun (r:Int)=>r=(dd a)) lF (bO Tryz.func167 rfl (enters_of Tryz.func167 (by kernel_rfl) rfl) tabOk (by kernel_rfl) rfl rfl (ck.bI [] [] ?_))
 repeat' (first|(apply bY <;> intro _)|(apply bL;exact Ei [] (Ai rfl (Ai trivial rfl));exact(by unfold dd;(repeat' split) <;> omega);rfl)|fail)
theorem np (a:Int):Ct ae 167 [.c (.t (iv a))] (AV.i (dd a)) [] true:=by
 obtain⟨r,hr,h⟩:=Jd a;rw[hr] at h;exact h
theorem Qk (a:Int)(b:Int):∃ r:Int,(r=(ff a b))∧Ct ae 104 [.c (.t (iv a)),.c (.t (iv b))] (AV.i r) [] true:=by
 refine db (Φ:=fun (r:Int)=>r=(ff a b)) lF (bO Tryz.func104 rfl (enters_of Tryz.func104 (by kernel_rfl) rfl) tabOk (by kernel_rfl) rfl rfl (ck.bI [] [] ?_))
 repeat' (first|(apply bL;exact Ei [] (Ai rfl (Ai trivial rfl));exact(by unfold ff;rw[wrap_add]);rfl)|(apply bj 167;refine cI (np _) ⟨rfl,trivial⟩ (.inl rfl) ?_)|fail)
theorem j8 (a:Int)(b:Int):Ct ae 104 [.c (.t (iv a)),.c (.t (iv b))] (AV.i (ff a b)) [] true:=by
 obtain⟨r,hr,h⟩:=Qk a b;rw[hr] at h;exact h
theorem Qi (a:Int)(b:Int):∃ r:Int,(r=(pM a b))∧Ct ae 105 [.c (.t (iv a)),.c (.t (iv b))] (AV.i r) [] true:=by
 refine db (Φ:=fun (r:Int)=>r=(pM a b)) lF (bO Tryz.func105 rfl (enters_of Tryz.func105 (by kernel_rfl) rfl) tabOk (by kernel_rfl) rfl rfl (ck.bI [] [] ?_))
 repeat' (first|(apply bL;exact Ei [] (Ai rfl (Ai trivial rfl));exact(by unfold pM;rw[KS]);rfl)|(apply bj 167;refine cI (np _) ⟨rfl,trivial⟩ (.inl rfl) ?_)|fail)
theorem Mb (a:Int)(b:Int):Ct ae 105 [.c (.t (iv a)),.c (.t (iv b))] (AV.i (pM a b)) [] true:=by
 obtain⟨r,hr,h⟩:=Qi a b;rw[hr] at h;exact h
theorem Jl (a:Int):∃ r:Int,(r=(dd a))∧Ct ae 266 [.c (.t (iv a))] (AV.i r) [] true:=by
 refine db (Φ:=fun (r:Int)=>r=(dd a)) lF (bO Tryz.func266 rfl (enters_of Tryz.func266 (by kernel_rfl) rfl) tabOk (by kernel_rfl) rfl rfl (ck.bI [] [] ?_))
 repeat' (first|(apply bL;exact Ei [] (Ai rfl (Ai trivial rfl));exact(by unfold dd;(repeat' split) <;> omega);rfl)|fail)
theorem BZ (a:Int):Ct ae 266 [.c (.t (iv a))] (AV.i (dd a)) [] true:=by
 obtain⟨r,hr,h⟩:=Jl a;rw[hr] at h;exact h
theorem QK (a:Int)(b:Int):∃ r:Int,(r=(ff a b))∧Ct ae 231 [.c (.t (iv a)),.c (.t (iv b))] (AV.i r) [] true:=by
 refine db (Φ:=fun (r:Int)=>r=(ff a b)) lF (bO Tryz.func231 rfl (enters_of Tryz.func231 (by kernel_rfl) rfl) tabOk (by kernel_rfl) rfl rfl (ck.bI [] [] ?_))
 repeat' (first|(apply bL;exact Ei [] (Ai rfl (Ai trivial rfl));exact(by unfold ff;rw[wrap_add]);rfl)|(apply bj 266;refine cI (BZ _) ⟨rfl,trivial⟩ (.inl rfl) ?_)|fail)
theorem U4 (a:Int)(b:Int):Ct ae 231 [.c (.t (iv a)),.c (.t (iv b))] (AV.i (ff a b)) [] true:=by
 obtain⟨r,hr,h⟩:=QK a b;rw[hr] at h;exact h
theorem ED (c0 c1 c2 k n:Int):Ct ae 109 [.agg [.t (iv c0),.t (iv c1),.t (iv c2)],.c (.t (iv k)),.c (.t (iv n))] (.agg [.t (iv (kB 0 k c0 n)),.t (iv (kB 1 k c1 n)),.t (iv (kB 2 k c2 n))]) [] true:=by
 refine Ct.uc (b:=false) ?_ rfl
 by_cases h0:k>=0
 ·by_cases h3:k < 3
  ·rcases(by omega:k=0∨k=1∨k=2) with rfl|rfl|rfl
   ·rw[show kB 0 0 c0 n=(if ff c0 n > 0 then ff c0 n else 0) from if_pos rfl,show kB 1 0 c1 n=c1 from if_neg (by decide),show kB 2 0 c2 n=c2 from if_neg (by decide)];refine bT Tryz.func109 rfl (enters_of Tryz.func109 (by kernel_rfl) rfl) tabOk (by kernel_rfl) rfl rfl rfl rfl fun w0 O _=>Tp.run [] ?_;refine Ei 0 (Ai rfl (Ai (by decide) ?_));refine cI (j8 c0 n) ⟨rfl,rfl,trivial⟩ (.inl rfl) ?_;refine Ei 0 (Ai rfl (Ai (by decide) ?_));refine Ei [] (Ai rfl (Ai trivial ?_))
    repeat' first|refine Ai ?_ ?_|exact rfl|exact trivial|exact Ei _ rfl|refine aj ?_|refine bS ?_|fail
   ·rw[show kB 0 1 c0 n=c0 from if_neg (by decide),show kB 1 1 c1 n=(if ff c1 n > 0 then ff c1 n else 0) from if_pos rfl,show kB 2 1 c2 n=c2 from if_neg (by decide)];refine bT Tryz.func109 rfl (enters_of Tryz.func109 (by kernel_rfl) rfl) tabOk (by kernel_rfl) rfl rfl rfl rfl fun w0 O _=>Tp.run [] ?_;refine Ei 1 (Ai rfl (Ai (by decide) ?_));refine cI (j8 c1 n) ⟨rfl,rfl,trivial⟩ (.inl rfl) ?_;refine Ei 1 (Ai rfl (Ai (by decide) ?_));refine Ei [] (Ai rfl (Ai trivial ?_))
    repeat' first|refine Ai ?_ ?_|exact rfl|exact trivial|exact Ei _ rfl|refine aj ?_|refine bS ?_|fail
   ·rw[show kB 0 2 c0 n=c0 from if_neg (by decide),show kB 1 2 c1 n=c1 from if_neg (by decide),show kB 2 2 c2 n=(if ff c2 n > 0 then ff c2 n else 0) from if_pos rfl];refine bT Tryz.func109 rfl (enters_of Tryz.func109 (by kernel_rfl) rfl) tabOk (by kernel_rfl) rfl rfl rfl rfl fun w0 O _=>Tp.run [] ?_;refine Ei 2 (Ai rfl (Ai (by decide) ?_));refine cI (j8 c2 n) ⟨rfl,rfl,trivial⟩ (.inl rfl) ?_;refine Ei 2 (Ai rfl (Ai (by decide) ?_));refine Ei [] (Ai rfl (Ai trivial ?_))
    repeat' first|refine Ai ?_ ?_|exact rfl|exact trivial|exact Ei _ rfl|refine aj ?_|refine bS ?_|fail
  ·rw[show kB 0 k c0 n=c0 from if_neg (by omega),show kB 1 k c1 n=c1 from if_neg (by omega),show kB 2 k c2 n=c2 from if_neg (by omega)];refine bT Tryz.func109 rfl (enters_of Tryz.func109 (by kernel_rfl) rfl) tabOk (by kernel_rfl) rfl rfl rfl rfl fun w0 O _=>Tp.run [] ?_;refine eu (decide_eq_true h0) ?_;refine cQ (decide_eq_false h3) ?_;refine Ei [] (Ai rfl (Ai trivial ?_))
   repeat' first|refine Ai ?_ ?_|exact rfl|exact trivial|exact Ei _ rfl|refine aj ?_|refine bS ?_|fail
 ·rw[show kB 0 k c0 n=c0 from if_neg (by omega),show kB 1 k c1 n=c1 from if_neg (by omega),show kB 2 k c2 n=c2 from if_neg (by omega)];refine bT Tryz.func109 rfl (enters_of Tryz.func109 (by kernel_rfl) rfl) tabOk (by kernel_rfl) rfl rfl rfl rfl fun w0 O _=>Tp.run [] ?_;refine cQ (decide_eq_false h0) ?_;refine Ei [] (Ai rfl (Ai trivial ?_))
  repeat' first|refine Ai ?_ ?_|exact rfl|exact trivial|exact Ei _ rfl|refine aj ?_|refine bS ?_|fail
def WD (p:Int × Int × Int):AV:=.agg [.t (iv p.1),.t (iv p.2.1),.t (iv p.2.2)]
theorem YN (p:Int × Int × Int):uc (WD p)=true:=rfl
theorem P8 (a0:Int)(a1:Int)(a2:Int)(b0:Int)(b1:Int)(b2:Int):∃ r:Int × Int × Int,(r=((mB a0 b0,mB a1 b1,mB a2 b2)))∧Ct ae 166 [.agg [.t (iv a0),.t (iv a1),.t (iv a2)],.agg [.t (iv b0),.t (iv b1),.t (iv b2)]] (WD r) [] true:=by
 refine db (Φ:=fun (r:Int × Int × Int)=>r=((mB a0 b0,mB a1 b1,mB a2 b2))) YN (bO Tryz.func166 rfl (enters_of Tryz.func166 (by kernel_rfl) rfl) tabOk (by kernel_rfl) rfl rfl (ck.bI [] [] ?_))
 repeat' (first|(refine bL (mB a0 b0,mB a1 b1,mB a2 b2) (Ei [] (Ai rfl (Ai trivial ?_))) rfl rfl;(repeat' first|refine Ai ?_ ?_|exact rfl|exact trivial|exact Ei _ rfl|refine aj ?_|refine bS ?_|fail);done)|(apply eX 2 rfl;refine gP.one 2 rfl (ck.bI [] [] ?_))|(apply ud;(first|assumption|omega|(simp only[ak];omega)|(simp only[Lm] at *;omega)|decide);(first|assumption|omega|(simp only[ak];omega)|(simp only[Lm] at *;omega)|decide);intro _)|(apply bj 109;refine cI (ED _ _ _ _ _) ⟨⟨rfl,rfl,rfl,trivial⟩,rfl,rfl,trivial⟩ (.inl rfl) ?_)|fail)
theorem Ux (a0:Int)(a1:Int)(a2:Int)(b0:Int)(b1:Int)(b2:Int):Ct ae 166 [.agg [.t (iv a0),.t (iv a1),.t (iv a2)],.agg [.t (iv b0),.t (iv b1),.t (iv b2)]] (WD ((mB a0 b0,mB a1 b1,mB a2 b2))) [] true:=by
 obtain⟨r,hr,h⟩:=P8 a0 a1 a2 b0 b1 b2;rw[hr] at h;exact h
end Go.Proofs.YtbmdcnkidjlbbaaGreat
end
section
namespace Go.Proofs.YtbmdcnkidjlbbaaGreat
open Go Cg Go.RowKit
theorem gp {a k j:Int}(h:a=k)(hn:k≠j):(a==j)=false:=by rw[h];simpa using hn
theorem iP {a k:Int}(h:a=k):(a==k)=true:=by rw[h];simp
theorem rO (s:aA)(id:Int)(e:bV)(h:s.ok):Ct ae 102 [.agg (s.enc.map .t),.c (.t (iv id)),.agg (e.enc.map .t)] (.agg ((ld s id e).enc.map .t)) [] false:=by
 have hf:=gk s id h.2.2.1;generalize hM:ld s id e=M;unfold ld at hM;refine bT Tryz.func102 rfl (enters_of Tryz.func102 (by kernel_rfl) rfl) tabOk (by kernel_rfl) rfl rfl rfl rfl fun w0 O _=>Tp.run [3,4] ?_;refine cI hf ⟨fL s.enc,rfl,trivial⟩ (.inr rfl) ?_;refine cy (cS (fun hh=>?_) (fun hh=>?_))
 ·rw[if_pos hh] at hM;subst hM;refine Tp.run [] ?_;refine cI (Ux 0 0 0 e.sA e.su e.ss) ⟨⟨rfl,rfl,rfl,trivial⟩,⟨rfl,rfl,rfl,trivial⟩,trivial⟩ (.inr rfl) ?_;refine cI (jy s (NY e (b9 s.aa id)) h) ⟨fL s.enc,?_,trivial⟩ (.inr rfl) ?_
  ·repeat' first|refine Ai ?_ ?_|exact rfl|exact trivial|exact Ei _ rfl|refine aj ?_|refine bS ?_|fail
  refine Ei [] (Ai rfl (Ai ?_ ?_))
  all_goals repeat' first|refine Ai ?_ ?_|exact rfl|exact trivial|exact Ei _ rfl|refine aj ?_|refine bS ?_|fail
 ·rw[if_neg (by rw[show er s.aa id=false from hh];decide)] at hM;subst hM;refine Tp.run [] ?_;refine Ei [] (Ai rfl (Ai ?_ ?_))
  all_goals repeat' first|refine Ai ?_ ?_|exact rfl|exact trivial|exact Ei _ rfl|refine aj ?_|refine bS ?_|fail
theorem pR (s:aA)(p:Int)(x:cq)(h:s.ok)(hp:0<=p∧p < s.az.length):Ct ae 103 [.agg (s.enc.map .t),.c (.t (iv p)),.agg (x.enc.map .t)] (.agg (({ s with az:=s.az.set p.toNat x }:aA).enc.map .t)) [] false:=by
 have h1:=h.1;obtain⟨n,rfl⟩:∃ n:Nat,p=n:=⟨p.toNat,by omega⟩
 have hn:n < (s.az.map cq.enc).length:=by rw[Lm];omega
 refine bT Tryz.func103 rfl (enters_of Tryz.func103 (by kernel_rfl) rfl) tabOk (by kernel_rfl) rfl rfl rfl rfl fun w0 O _=>Tp.run [] ?_;refine Ai (.inl rfl) (Ai ?_ (Ai ?_ ?_))
 ·rw[Lm];exact bd h1 (Nb rfl)
 ·rw[Lm];have:=h1;unfold ba at this;omega
 refine Ei n (Ai rfl (Ai hn ?_));have aS:n < s.az.length:=by omega
 refine Ei (s.az[n].enc) (Ai (aQ _ _ n aS) (Ai (Nb rfl) ?_));refine Ei [] (Ai rfl (Ai ?_ ?_))
 ·repeat' first|refine Ai ?_ ?_|exact rfl|exact trivial|exact Ei _ rfl|refine aj ?_|refine bS ?_|fail
 ·repeat' first|refine Ai ?_ ?_|exact rfl|exact trivial|exact Ei _ rfl|refine aj ?_|refine bS ?_|fail
  exact congrArg (Tr.sl 14) (by rw[List.map_set];rfl)
theorem xJ {α:Type}(l:List α)(f:α->List Tr)(k:Nat)(hk:k < l.length)(x:List Tr)(hx:x=f l[k]):(l.take k).map f++[x]=(l.take (k+1)).map f:=by
 rw[hx];exact eN l f k hk
theorem Uq (s:aA)(k:Int)(h:s.ok):Ct ae 100 [.agg (s.enc.map .t),.c (.t (iv k))] (.agg ((rG s k).enc.map .t)) [] false:=by
 have ho:=h.2.2.1;refine bT Tryz.func100 rfl (enters_of Tryz.func100 (by kernel_rfl) rfl) tabOk (by kernel_rfl) rfl rfl rfl rfl fun w0 O _=>Tp.run [9] ?_;refine Tp.loop (fun i:Nat=>⟨[(1,.c (.t (iv k))),(2,.ptr 0 0),(4,.ptr 128 0),(5,.c (.row 9000 0)),(6,AV.i i)],[(0,s.enc.map .t),(128,List.replicate 19 .bot)],[(9000,⟨75,19,0,(s.aa.take i).map (fun o=>(oA k o).enc),none⟩)],10000⟩) (fun i=>i<=s.aa.length) (fun i=>s.aa.length - i) 0 ?_ (aD _) ?_
 ·refine bh [] rfl rfl ?_ ?_ ?_
  all_goals repeat' first|refine Ai ?_ ?_|exact rfl|exact trivial|exact Ei _ rfl|refine aj ?_|refine bS ?_|fail
 rintro i hi;refine Tp.run [5,7,8,9] ?_;refine cS (fun hc=>?_) (fun hc=>?_)
 ·have aS:=cN hc;refine Tp.run [7,8] ?_;refine Ei i (Ei _ (Ai rfl (Ai (aQ _ _ i aS) ?_)));refine cS (fun hk=>?_) (fun hk=>?_)
  ·refine Tp.run [8] ?_;refine Tp.run [] ?_;refine Ai (.inl rfl) (Ai (fJ s.aa _ i aS _ 128 (by decide) ho) (Ai (fh s.aa _ i aS _ 128 (by decide) ho) ?_));refine Ei (i+1) (Ai (show i+1<=_ by omega) (Ai (show s.aa.length - (i+1) < s.aa.length - i by omega) ?_));refine bh [(9000,9000)] rfl rfl ?_ ?_ ?_
   ·repeat' first|refine Ai ?_ ?_|exact rfl|exact trivial|exact Ei _ rfl|refine aj ?_|refine bS ?_|fail
    exact succ_eq i aS 128 (by decide) ho
   ·repeat' first|refine Ai ?_ ?_|exact rfl|exact trivial|exact Ei _ rfl|refine aj ?_|refine bS ?_|fail
   ·repeat' first|refine Ai ?_ ?_|exact rfl|exact trivial|exact Ei _ rfl|refine aj ?_|refine bS ?_|fail
    refine xJ s.aa (fun o=>(oA k o).enc) i aS _ ?_;unfold oA;rw[if_pos (show(s.aa[i].blocks==k)=true from hk)];rfl
  ·refine Tp.run [] ?_;refine Ai (.inl rfl) (Ai (fJ s.aa _ i aS _ 128 (by decide) ho) (Ai (fh s.aa _ i aS _ 128 (by decide) ho) ?_));refine Ei (i+1) (Ai (show i+1<=_ by omega) (Ai (show s.aa.length - (i+1) < s.aa.length - i by omega) ?_));refine bh [(9000,9000)] rfl rfl ?_ ?_ ?_
   ·repeat' first|refine Ai ?_ ?_|exact rfl|exact trivial|exact Ei _ rfl|refine aj ?_|refine bS ?_|fail
    exact succ_eq i aS 128 (by decide) ho
   ·repeat' first|refine Ai ?_ ?_|exact rfl|exact trivial|exact Ei _ rfl|refine aj ?_|refine bS ?_|fail
   ·repeat' first|refine Ai ?_ ?_|exact rfl|exact trivial|exact Ei _ rfl|refine aj ?_|refine bS ?_|fail
    refine xJ s.aa (fun o=>(oA k o).enc) i aS _ ?_;unfold oA;rw[if_neg (by rw[show(s.aa[i].blocks==k)=false from hk];decide)];rfl
 ·have VO:=cP hc hi;subst VO;refine Tp.run [] ?_;refine Ei [] (Ai rfl (Ai ?_ ?_))
  ·repeat' first|refine Ai ?_ ?_|exact rfl|exact trivial|exact Ei _ rfl|refine aj ?_|refine bS ?_|fail
  ·repeat' first|refine Ai ?_ ?_|exact rfl|exact trivial|exact Ei _ rfl|refine aj ?_|refine bS ?_|fail
   exact congrArg (Tr.sl 19) (by rw[bm];exact(List.map_map (f:=oA k) (g:=aE.enc) (l:=s.aa)))
end Go.Proofs.YtbmdcnkidjlbbaaGreat
end
section
namespace Go.Proofs.YtbmdcnkidjlbbaaGreat
open Go Go.RowKit Go.Sort Cg

def TI (P:Program)(e:TypeId)(k b:Nat):Bool:=match P.info? e with
 | some i=>i.size==k&&i.bytes==b&&(match i.zero with
  | some z=>z.cells.size==k
  | none=>false)
 | none=>false
theorem sC {P:Program}{t e:TypeId}{k b:Nat}(h1:P.underlying t=some (.slice e))(h4:0 < k)(h:TI P e k b=true):∃ z,w9 P t e z k b:=by
 unfold TI at h
 cases hi:P.info? e with
 | none=>rw[hi] at h;cases h
 | some i=>
  rw[hi] at h;simp only[ag,beq_iff_eq] at h;obtain⟨⟨h2,h3⟩,h5⟩:=h
  cases hz:i.zero with
  | none=>rw[hz] at h5;cases h5
  | some z=>
   rw[hz] at h5;simp only[beq_iff_eq] at h5;exact⟨z,h1,h5,h4,i,hi,hz,h2,h3⟩
theorem sB (w:World)(base:Nat)(hb:base<=w.heap.size)(t:TypeId)(k:Nat):(w.alloc (.cells #[] t)).ownsRow base t k (.slice (some ⟨w.heap.size,0,none⟩) 0 0) 0 []:=World.ownsRow_made w #[] 0 hb (by simp) (by simp)
theorem Sb:∃ z,w9 ae 59 198 z 20 176:=sC Tryz.underlying59 (by decide) (by kernel_rfl)
theorem Og (v:Value)(es:List (Cl 20))(w:World)(h:OJ 20 w v es)(hb:es.length*176<=140737488355328):Calls ae 125 #[v] w fun e w'=>∃ v',e=.returned v'∧w'.ownsRow w.heap.size 198 20 v' es.length (es.flatMap Subtype.val)∧Below w.heap.size w w':=by
 obtain⟨z,hE⟩:=Sb;have HR:=Lib.hid (h.below ((Below.refl w.heap.size w).alloc (al _) (.cells #[] 198)));obtain⟨ao,cap,rfl,⟨hc,hn⟩,_⟩:=h;have HE:=Lib.hid hE;have HO:=Lib.hid (sB w w.heap.size (al _) 198 20);have HA:=Lib.hid ((Below.refl w.heap.size w).alloc (al _) (.cells #[] 198));have q0:∀ (w:World) (a:Option Addr) (n c n' c':Nat),(binOp .eql 59 (.slice a n c) (.slice none n' c')).run ae w=.ok (.bool a.isNone) w:=fun w a n c n' c'=>Lib.run_eql_slice_nil w _ _ a n c n' c' Tryz.underlying59;clear hE
 cases ao with
 | none=>
  have FD:=hn rfl;subst FD;have he:es=[]:=List.eq_nil_of_length_eq_zero (by omega);subst he;clear HR hn
  go_enter Tryz.func125,Tryz.ntmps125
  go_wp2_with fail
  go_ret
  exact⟨_,rfl,World.ownsRow_nil _ _ _ _,Below.refl _ _⟩
 | some ad=>
  clear hn
  go_enter Tryz.func125,Tryz.ntmps125
  go_wp2_with (at_builtin;refine gZ rfl (.tmp 5) (.tmp 6) 59 rfl w.heap.size HE.out _ 0 [] rfl HO.out Subtype.val Cl.len Cl.one es _ rfl HR.out (by omega) (by omega) HA.out.size ?_;intro v1 w1 BS _ Dy;have O1:=Lib.hid BS;have B1:=Lib.hid Dy;clear BS Dy)
  go_ret
  have:=O1.out;rw[bu,bF] at this;exact⟨_,rfl,this,HA.out.trans B1.out⟩
theorem N0:∃ z,w9 ae 64 149 z 18 144:=sC Tryz.underlying64 (by decide) (by kernel_rfl)
theorem Kn (v:Value)(es:List (Cl 18))(w:World)(h:OJ 18 w v es)(hb:es.length*144<=140737488355328):Calls ae 126 #[v] w fun e w'=>∃ v',e=.returned v'∧w'.ownsRow w.heap.size 149 18 v' es.length (es.flatMap Subtype.val)∧Below w.heap.size w w':=by
 obtain⟨z,hE⟩:=N0;have HR:=Lib.hid (h.below ((Below.refl w.heap.size w).alloc (al _) (.cells #[] 149)));obtain⟨ao,cap,rfl,⟨hc,hn⟩,_⟩:=h;have HE:=Lib.hid hE;have HO:=Lib.hid (sB w w.heap.size (al _) 149 18);have HA:=Lib.hid ((Below.refl w.heap.size w).alloc (al _) (.cells #[] 149));have q0:∀ (w:World) (a:Option Addr) (n c n' c':Nat),(binOp .eql 64 (.slice a n c) (.slice none n' c')).run ae w=.ok (.bool a.isNone) w:=fun w a n c n' c'=>Lib.run_eql_slice_nil w _ _ a n c n' c' Tryz.underlying64;clear hE
 cases ao with
 | none=>
  have FD:=hn rfl;subst FD;have he:es=[]:=List.eq_nil_of_length_eq_zero (by omega);subst he;clear HR hn
  go_enter Tryz.func126,Tryz.ntmps126
  go_wp2_with fail
  go_ret
  exact⟨_,rfl,World.ownsRow_nil _ _ _ _,Below.refl _ _⟩
 | some ad=>
  clear hn
  go_enter Tryz.func126,Tryz.ntmps126
  go_wp2_with (at_builtin;refine gZ rfl (.tmp 5) (.tmp 6) 64 rfl w.heap.size HE.out _ 0 [] rfl HO.out Subtype.val Cl.len Cl.one es _ rfl HR.out (by omega) (by omega) HA.out.size ?_;intro v1 w1 BS _ Dy;have O1:=Lib.hid BS;have B1:=Lib.hid Dy;clear BS Dy)
  go_ret
  have:=O1.out;rw[bu,bF] at this;exact⟨_,rfl,this,HA.out.trans B1.out⟩
theorem FQ:∃ z,w9 ae 65 125 z 64 560:=sC Tryz.underlying65 (by decide) (by kernel_rfl)
theorem Dd (v:Value)(es:List (Cl 64))(w:World)(h:OJ 64 w v es)(hb:es.length*560<=140737488355328):Calls ae 127 #[v] w fun e w'=>∃ v',e=.returned v'∧w'.ownsRow w.heap.size 125 64 v' es.length (es.flatMap Subtype.val)∧Below w.heap.size w w':=by
 obtain⟨z,hE⟩:=FQ;have HR:=Lib.hid (h.below ((Below.refl w.heap.size w).alloc (al _) (.cells #[] 125)));obtain⟨ao,cap,rfl,⟨hc,hn⟩,_⟩:=h;have HE:=Lib.hid hE;have HO:=Lib.hid (sB w w.heap.size (al _) 125 64);have HA:=Lib.hid ((Below.refl w.heap.size w).alloc (al _) (.cells #[] 125));have q0:∀ (w:World) (a:Option Addr) (n c n' c':Nat),(binOp .eql 65 (.slice a n c) (.slice none n' c')).run ae w=.ok (.bool a.isNone) w:=fun w a n c n' c'=>Lib.run_eql_slice_nil w _ _ a n c n' c' Tryz.underlying65;clear hE
 cases ao with
 | none=>
  have FD:=hn rfl;subst FD;have he:es=[]:=List.eq_nil_of_length_eq_zero (by omega);subst he;clear HR hn
  go_enter Tryz.func127,Tryz.ntmps127
  go_wp2_with fail
  go_ret
  exact⟨_,rfl,World.ownsRow_nil _ _ _ _,Below.refl _ _⟩
 | some ad=>
  clear hn
  go_enter Tryz.func127,Tryz.ntmps127
  go_wp2_with (at_builtin;refine gZ rfl (.tmp 5) (.tmp 6) 65 rfl w.heap.size HE.out _ 0 [] rfl HO.out Subtype.val Cl.len Cl.one es _ rfl HR.out (by omega) (by omega) HA.out.size ?_;intro v1 w1 BS _ Dy;have O1:=Lib.hid BS;have B1:=Lib.hid Dy;clear BS Dy)
  go_ret
  have:=O1.out;rw[bu,bF] at this;exact⟨_,rfl,this,HA.out.trans B1.out⟩
end Go.Proofs.YtbmdcnkidjlbbaaGreat
end
section
namespace Go.Proofs.YtbmdcnkidjlbbaaGreat
open Go Cg Go.RowKit Go.Sort
theorem wN {P:Program}{f:FuncId}{ty k b:Nat}(he:KP P f)(hr:∀ (v:Value) (es:List (Cl k)) (w:World),OJ k w v es->es.length*b<=140737488355328->Calls P f #[v] w fun e w'=>∃ v',e=.returned v'∧w'.ownsRow w.heap.size ty k v' es.length (es.flatMap Subtype.val)∧Below w.heap.size w w')(xs:List (List Tr))(hb:xs.length*b<=140737488355328) :
  Ct P f [.c (.t (.sl k xs))] (.c (.row 0 0)) [⟨ty,k,0,xs,none⟩] false:=by
 refine⟨he,Nb rfl,fun R hR=>?_,rfl,fun x hx=>(by cases hx),fun x hx=>?_,fun w vs E0 _ ha=>?_⟩
 ·obtain rfl:R=_:=aJ.1 hR;rfl
 ·obtain rfl:x=(0,0):=by simpa [AV.cB,AV.gu,Ce.cB] using hx
  exact⟨_,rfl,al _⟩
 cases ha with
 | cons hv Cz=>
  cases Cz
  rename_i v;have hv:RT E0.F w v (.sl k xs):=hv
  obtain⟨es,JS,Ac⟩:∃ es:List (Cl k),F6 E0.F w es xs∧OJ k w v es:=by
   obtain⟨ao,cap,h1,h2,h3⟩:=RT.len hv;rcases hv.AH with h0|⟨g,o,Kq,h4,h5,h6,h7,h8⟩
   ·subst h0;exact⟨[],⟨rfl,fun j vs ts h=>by simp at h⟩,ao,cap,h1,⟨aD _,h3⟩,.inl rfl⟩
   ·obtain⟨es,h9,mw⟩:=h8.raw;refine⟨es,h9,_,Kq,by rw[h4,h9.len],⟨by rw[h9.len];exact h5,fun h=>by cases h⟩,.inr ⟨g,o,rfl,h7,fun j x hx i u hu=>?_⟩⟩;have hi:i < k:=by have:=(an.1 hu).1;rwa [Cl.len] at this
    have:=mw (j*k+i) u (by rw[flat_get (enc:=Subtype.val) Cl.len es j x hx i hi];exact hu)
    rwa [<- Nat.add_assoc] at this
  refine(hr v es w Ac (by rw[JS.len];exact hb)).mono ?_;rintro e w' ⟨v',rfl,gJ,nF⟩;refine⟨v',rfl,nF,⟨fun b=>if b < w.heap.size then(if E0.rl b=.bz then .bz else .dX) else .rw 0,fun _=>0,fun _ _=>v'⟩,⟨rfl,nV gJ⟩,fun j R hj=>?_,fun b aS hc=>⟨rfl,?_⟩⟩
  ·cases j with
   | succ j=>simp at hj
   | zero=>
    obtain rfl:=aR hj;refine Ow.rr rfl ⟨es,gJ,JS.fr nF.size (fun b _ aS=>nF.block b aS) (fun b hb aS=>?_),fun g hg=>?_⟩
    ·show(if b < w.heap.size then(if E0.rl b=.bz then .bz else .dX) else iD.rw 0)=.bz;rw[if_pos aS,if_pos (show E0.rl b=.bz from hb)]
    ·show(if g < w.heap.size then(if E0.rl g=.bz then .bz else .dX) else iD.rw 0)=.rw 0;rw[if_neg (Nat.not_lt.2 (gJ.lt g hg).1)]
  ·have hc:(if b < w.heap.size then(if E0.rl b=.bz then .bz else .dX) else iD.rw 0)=.bz:=hc;rw[if_pos aS] at hc;split at hc
   ·rename_i h;exact h
   ·cases hc
theorem uM {P:Program}{f:FuncId}{cX:List AV}{ty k:Nat}{xs:List (List Tr)}{b:Bool}(h:Ct P f cX (.c (.row 0 0)) [⟨ty,k,0,xs,none⟩] b):Ct P f cX (.c (.t (.sl k xs))) [] b:=by
 refine⟨h.NZ,aD _,fun R hR=>(by cases hR),h.plain,fun x hx=>(by cases hx),fun x hx=>(by cases hx),fun w vs E0 lJ ha=>(h.run w vs E0 lJ ha).mono ?_⟩;rintro e w' ⟨v,rfl,nF,E,hr,Ac,yA⟩;refine⟨v,rfl,nF,⟨fun b=>if b < w.heap.size then E.rl b else .bz,fun _=>0,fun _ _=>v⟩,?_,fun j R hj=>(by simp at hj),fun b aS hc=>yA b aS ?_⟩
 ·have hr:RC E w' v (.row 0 0):=hr;show RT _ w' v (.sl k xs);obtain⟨es,h1,h2,h3⟩:=(Ac 0 _ rfl).ow rfl;rw[hr.1];refine EK h1 h2.len (fun g hg _=>?_) fun j x ts q1 q2=>(h2.at_ j x ts q1 q2).frame (al _) (fun _ _ _=>rfl) fun b hb _=>?_
  ·show(if g < w.heap.size then E.rl g else iD.bz)=.bz;rw[if_neg (Nat.not_lt.2 (h1.lt g hg).1)]
  ·show(if b < w.heap.size then E.rl b else iD.bz)=.bz;split
   ·exact hb
   ·rfl
 ·have hc:(if b < w.heap.size then E.rl b else iD.bz)=.bz:=hc
  rwa [if_pos aS] at hc
theorem tj (xs:List (List Tr))(h:xs.length*176<=ba):Ct ae 125 [.c (.t (.sl 20 xs))] (.c (.row 0 0)) [⟨198,20,0,xs,none⟩] false:=
 wN (enters_of Tryz.func125 (by kernel_rfl) rfl) Og xs (bd h (Nb rfl))
theorem AG (xs:List (List Tr))(h:xs.length*144<=ba):Ct ae 126 [.c (.t (.sl 18 xs))] (.c (.row 0 0)) [⟨149,18,0,xs,none⟩] false:=
 wN (enters_of Tryz.func126 (by kernel_rfl) rfl) Kn xs (bd h (Nb rfl))
theorem wO (xs:List (List Tr))(h:xs.length*560<=ba):Ct ae 127 [.c (.t (.sl 64 xs))] (.c (.row 0 0)) [⟨125,64,0,xs,none⟩] false:=
 wN (enters_of Tryz.func127 (by kernel_rfl) rfl) Dd xs (bd h (Nb rfl))
theorem Lq {α:Type}{xs:List α}{i:Nat}{t:α}(h:xs[i]? = some t):xs.set i t=xs:=by
 refine List.ext_getElem? fun j=>?_
 by_cases e:i=j
 ·subst e;rw[List.getElem?_set_self (an.1 h).1,h]
 ·rw[List.getElem?_set_ne e]
end Go.Proofs.YtbmdcnkidjlbbaaGreat
end
section
namespace Go.Proofs.YtbmdcnkidjlbbaaGreat
open Go Cg Go.RowKit
def DN (n:Int):AV:=.c (.t (.lit (.int .u64 n)))
theorem QQ {n:Int}(h:¬ n < 1)(h2:n<=1099511627776):IntKind.u64.wrap n≠0:=by
 rw[IntKind.wrap_u64];omega
theorem Qg (s:Int):Ct ae 218 [DN s] (.fH [DN (sX s),DN (Gt s)]) [] true:=by
 refine Ct.uc (b:=false) ?_ rfl;obtain⟨z,hz⟩:∃ z,Gt s=z:=⟨_,rfl⟩
 obtain⟨a,ha⟩:∃ a,YL z=a:=⟨_,rfl⟩
 obtain⟨b,hb⟩:∃ b,YK a=b:=⟨_,rfl⟩
 obtain⟨c,hc⟩:∃ c,YJ b=c:=⟨_,rfl⟩
 rw[show sX s=c from by unfold sX;rw[hz,ha,hb,hc],hz];refine bT Tryz.func218 rfl (enters_of Tryz.func218 (by kernel_rfl) rfl) tabOk (by kernel_rfl) rfl rfl rfl rfl fun w0 O _=>Tp.run [2,3,4,5,6] ?_;refine Tp.wk (bh [] (mS:=[(4,DN z)]) (fc:=[]) (dB:=[]) (vI:=10000) rfl rfl ?_ ?_ ?_) ?_
 ·repeat' first|refine Ai ?_ ?_|exact rfl|exact trivial|exact Ei _ rfl|refine aj ?_|refine bS ?_|fail
  exact congrArg (fun n=>Tr.lit (.int .u64 n)) hz
 ·repeat' first|refine Ai ?_ ?_|exact rfl|exact trivial|exact Ei _ rfl|refine aj ?_|refine bS ?_|fail
 ·repeat' first|refine Ai ?_ ?_|exact rfl|exact trivial|exact Ei _ rfl|refine aj ?_|refine bS ?_|fail
 refine Tp.run [] ?_;refine Tp.run [] ?_;refine Tp.wk (bh [] (mS:=[(4,DN z),(5,DN a)]) (fc:=[]) (dB:=[]) (vI:=10000) rfl rfl ?_ ?_ ?_) ?_
 ·repeat' first|refine Ai ?_ ?_|exact rfl|exact trivial|exact Ei _ rfl|refine aj ?_|refine bS ?_|fail
  exact congrArg (fun n=>Tr.lit (.int .u64 n)) ha
 ·repeat' first|refine Ai ?_ ?_|exact rfl|exact trivial|exact Ei _ rfl|refine aj ?_|refine bS ?_|fail
 ·repeat' first|refine Ai ?_ ?_|exact rfl|exact trivial|exact Ei _ rfl|refine aj ?_|refine bS ?_|fail
 refine Tp.run [] ?_;refine Tp.wk (bh [] (mS:=[(4,DN z),(5,DN b)]) (fc:=[]) (dB:=[]) (vI:=10000) rfl rfl ?_ ?_ ?_) ?_
 ·repeat' first|refine Ai ?_ ?_|exact rfl|exact trivial|exact Ei _ rfl|refine aj ?_|refine bS ?_|fail
  exact congrArg (fun n=>Tr.lit (.int .u64 n)) hb
 ·repeat' first|refine Ai ?_ ?_|exact rfl|exact trivial|exact Ei _ rfl|refine aj ?_|refine bS ?_|fail
 ·repeat' first|refine Ai ?_ ?_|exact rfl|exact trivial|exact Ei _ rfl|refine aj ?_|refine bS ?_|fail
 refine Tp.run [] ?_;refine Tp.wk (bh [] (mS:=[(4,DN z),(5,DN c)]) (fc:=[]) (dB:=[]) (vI:=10000) rfl rfl ?_ ?_ ?_) ?_
 ·repeat' first|refine Ai ?_ ?_|exact rfl|exact trivial|exact Ei _ rfl|refine aj ?_|refine bS ?_|fail
  exact congrArg (fun n=>Tr.lit (.int .u64 n)) hc
 ·repeat' first|refine Ai ?_ ?_|exact rfl|exact trivial|exact Ei _ rfl|refine aj ?_|refine bS ?_|fail
 ·repeat' first|refine Ai ?_ ?_|exact rfl|exact trivial|exact Ei _ rfl|refine aj ?_|refine bS ?_|fail
 refine Tp.run [] ?_;refine Ei [] (Ai rfl (Ai ?_ ?_))
 all_goals repeat' first|refine Ai ?_ ?_|exact rfl|exact trivial|exact Ei _ rfl|refine aj ?_|refine bS ?_|fail
theorem Ma (s n:Int)(h2:n<=1099511627776):Ct ae 168 [DN s,.c (.t (iv n))] (.fH [AV.i (fQ s n).1,DN (fQ s n).2]) [] true:=by
 refine Ct.uc (b:=false) ?_ rfl
 by_cases h:n < 1
 ·rw[show fQ s n=(0,s) from if_pos h];refine bT Tryz.func168 rfl (enters_of Tryz.func168 (by kernel_rfl) rfl) tabOk (by kernel_rfl) rfl rfl rfl rfl fun w0 O _=>Tp.run [2,3] ?_;refine eu (decide_eq_true h) (Tp.run [] ?_);refine Ei [] (Ai rfl (Ai trivial ?_))
  repeat' first|refine Ai ?_ ?_|exact rfl|exact trivial|exact Ei _ rfl|refine aj ?_|refine bS ?_|fail
 ·rw[show fQ s n=_ from if_neg h];refine bT Tryz.func168 rfl (enters_of Tryz.func168 (by kernel_rfl) rfl) tabOk (by kernel_rfl) rfl rfl rfl rfl fun w0 O _=>Tp.run [2,3] ?_;refine cQ (decide_eq_false h) (Tp.run [] ?_);refine cI (Qg s) ⟨rfl,trivial⟩ (.inl rfl) ?_;refine Ai rfl (Ai (QQ h h2) ?_);refine Ei [] (Ai rfl (Ai trivial ?_))
  repeat' first|refine Ai ?_ ?_|exact rfl|exact trivial|exact Ei _ rfl|refine aj ?_|refine bS ?_|fail
structure AT (s:Int)(l:List Int)(x:Int × List Int × Int):Prop where
 lo:-1<=x.1
 hi:x.1 < (x.2.1.length:Int)
 len:x.2.1.length=l.length
 eq:sM x.1.toNat x.2.2 x.2.1=kJ s l
theorem AT.start (s:Int)(l:List Int)(h:l.length*8<=ba):AT s l (IntKind.i64.wrap (((l.length:Nat):Int) - 1),l,s):=by
 have e:IntKind.i64.wrap ((l.length:Int) - 1)=(l.length:Int) - 1:=Iz h rfl;refine⟨?_,?_,rfl,?_⟩
 ·show -1<=IntKind.i64.wrap ((l.length:Int) - 1);omega
 ·show IntKind.i64.wrap ((l.length:Int) - 1) < (l.length:Int);omega
 ·show sM (IntKind.i64.wrap ((l.length:Int) - 1)).toNat s l=kJ s l;unfold kJ;rw[e];congr 1;omega
theorem AT.step {s:Int}{l:List Int}{i:Int}{L:List Int}{S:Int}(h:AT s l (i,L,S))(hi:1<=i)(hb:l.length<=1099511627776):(IntKind.i64.wrap (i+1)=i+1∧i+1<=1099511627776)∧(0<=(fQ S (i+1)).1∧(fQ S (i+1)).1 < (L.length:Int))∧(IntKind.i64.wrap (i - 1)=i - 1∧AT s l (i - 1,mJ L i.toNat (fQ S (i+1)).1.toNat,(fQ S (i+1)).2)):=by
 obtain⟨h1,h2,h3,h4⟩:=h;simp only at h1 h2 h3 h4;have hr:=tl (s:=S) (n:=i+1) (by omega) (by omega);refine⟨⟨by rw[ak];omega,by omega⟩,⟨hr.1,by omega⟩,by rw[ak];omega,?_,?_,?_,?_⟩
 ·show -1<=i - 1;omega
 ·show i - 1 < ((mJ L i.toNat (fQ S (i+1)).1.toNat).length:Int);rw[pK];omega
 ·show(mJ L i.toNat (fQ S (i+1)).1.toNat).length=l.length;rw[pK,h3]
 ·show sM (i - 1).toNat (fQ S (i+1)).2 (mJ L i.toNat (fQ S (i+1)).1.toNat)=kJ s l;obtain⟨j,rfl⟩:∃ j:Nat,i=(j:Int)+1:=⟨(i - 1).toNat,by omega⟩
  rw[show((j:Int)+1).toNat=j+1 by omega] at h4 ⊢;unfold sM at h4;rw[show((j:Int)+1 - 1).toNat=j by omega,show(j:Int)+1+1=(j:Int)+2 by omega];exact h4
theorem AT.fin {s:Int}{l:List Int}{i:Int}{L:List Int}{S:Int}(h:AT s l (i,L,S))(hi:¬ 1<=i):kJ s l=(L,S):=by
 have h4:=h.eq;simp only at h4;rw[show i.toNat=0 by omega] at h4;exact h4.symm
theorem T9 {L:List Int}{i k:Nat}{a:Int}(hk:k < L.length):((L.map eI).set i (eI a))[k]? = some (eI ((L.set i a)[k]'(by rw[bG];exact hk))):=by
 rw[<- List.map_set];exact aQ _ _ k _
theorem XT {L:List Int}{i k:Nat}(hi:i < L.length)(hk:k < L.length):((L.map eI).set i (eI L[k])).set k (eI L[i])=(mJ L i k).map eI:=by
 unfold mJ;rw[List.map_set,List.map_set,List.getD_eq_getElem?_getD,List.getD_eq_getElem?_getD,af hi,af hk];rfl
theorem Ie (xs:List (List Tr))(y:List Tr):xs++(List.replicate xs.length y).drop xs.length=xs:=by
 rw[List.drop_eq_nil_of_le (by rw[cc];exact al _),aZ]
theorem EF (s:Int)(l:List Int)(h:l.length*8<=ba)(hb:l.length<=1099511627776):Ct ae 106 [DN s,.c (.t (.sl 1 (l.map eI)))] (.fH [.c (.t (.sl 1 ((kJ s l).1.map eI))),DN (kJ s l).2]) [] false:=by
 generalize hM:kJ s l=M;refine bT Tryz.func106 rfl (enters_of Tryz.func106 (by kernel_rfl) rfl) tabOk (by kernel_rfl) rfl rfl rfl rfl fun w0 O _=>Tp.run [11] ?_;refine Ei (l.map eI).length (Ei [iv 0] (Ai ⟨rfl,rfl⟩ (Ai ⟨rfl,trivial⟩ (Ai ⟨?_,?_⟩ ?_))))
 ·rw[Lm];exact bd h (Nb rfl)
 ·rw[Lm];unfold ba at h;omega
 refine Ai (.inl rfl) (Ai (by rw[cc];exact al _) ?_);refine Tp.loop (fun x:Int × List Int × Int=>⟨[(0,DN x.2.2),(6,.c (.row 9000 0)),(7,AV.i x.1)],[],[(9000,⟨3,1,0,x.2.1.map eI,none⟩)],10000⟩) (AT s l) (fun x=>(x.1+1).toNat) (IntKind.i64.wrap (((l.length:Nat):Int) - 1),l,s) ?_ (AT.start s l h) ?_
 ·refine bh [(9000,512)] rfl rfl ?_ ?_ ?_
  ·repeat' first|refine Ai ?_ ?_|exact rfl|exact trivial|exact Ei _ rfl|refine aj ?_|refine bS ?_|fail
   exact congrArg (fun n:Nat=>iv (IntKind.i64.wrap ((n:Int) - 1))) (by rw[Ie,Lm])
  ·repeat' first|refine Ai ?_ ?_|exact rfl|exact trivial|exact Ei _ rfl|refine aj ?_|refine bS ?_|fail
  ·repeat' first|refine Ai ?_ ?_|exact rfl|exact trivial|exact Ei _ rfl|refine aj ?_|refine bS ?_|fail
   exact Ie _ _
 rintro⟨i,L,S⟩ hx;refine Tp.run [6,11] ?_;refine cS (fun hc=>?_) (fun hc=>?_)
 ·have hi1:1<=i:=of_decide_eq_true hc;obtain⟨⟨w1,w2⟩,⟨b1,b2⟩,w3,KJ⟩:=hx.step hi1 hb;have lU:=hx.hi;simp only at lU;refine Tp.run [] ?_;refine cI (Ma S (i+1) w2) ⟨rfl,congrArg iv w1,trivial⟩ (.inr rfl) ?_;generalize hk:fQ S (i+1)=B at *;obtain⟨k,S2⟩:=B;simp only at b1 b2;obtain⟨k,rfl⟩:∃ n:Nat,k=n:=⟨k.toNat,by omega⟩
  obtain⟨i,rfl⟩:∃ n:Nat,i=n:=⟨i.toNat,by omega⟩
  have Zo:i < L.length:=by omega
  have CB:k < L.length:=by omega
  refine Ei i (Ai rfl (Ai (by rw[Lm];exact Zo) ?_));refine Ei (eI L[i]) (Ei _ (Ai (aQ _ _ i Zo) (Ai rfl ?_)));refine Ei k (Ai rfl (Ai (by rw[Lm];exact CB) ?_));refine Ei (eI L[k]) (Ei _ (Ai (aQ _ _ k CB) (Ai rfl ?_)));refine Ei i (Ai rfl (Ai (by rw[Lm];exact Zo) ?_));refine Ei (eI L[i]) (Ai (aQ _ _ i Zo) (Ai (Nb rfl) ?_));refine Ei k (Ai rfl (Ai (by rw[bG,Lm];exact CB) ?_));refine Ei _ (Ai (T9 (L:=L) (i:=i) (a:=L[k]) CB) (Ai (Nb rfl) ?_));refine Ei (((i:Nat):Int) - 1,mJ L i k,S2) (Ai KJ (Ai (show((i:Int) - 1+1).toNat < ((i:Int)+1).toNat by omega) ?_));refine bh [(9000,9000)] rfl rfl ?_ ?_ ?_
  ·repeat' first|refine Ai ?_ ?_|exact rfl|exact trivial|exact Ei _ rfl|refine aj ?_|refine bS ?_|fail
   exact congrArg iv w3
  ·repeat' first|refine Ai ?_ ?_|exact rfl|exact trivial|exact Ei _ rfl|refine aj ?_|refine bS ?_|fail
  ·repeat' first|refine Ai ?_ ?_|exact rfl|exact trivial|exact Ei _ rfl|refine aj ?_|refine bS ?_|fail
   exact XT Zo CB
 ·have hf:=hx.fin (of_decide_eq_false hc);rw[hf] at hM;subst hM;refine Tp.run [] ?_;refine Ei [] (Ai rfl (Ai ?_ ?_))
  all_goals repeat' first|refine Ai ?_ ?_|exact rfl|exact trivial|exact Ei _ rfl|refine aj ?_|refine bS ?_|fail
end Go.Proofs.YtbmdcnkidjlbbaaGreat
end
section
namespace Go.Proofs.YtbmdcnkidjlbbaaGreat
open Go Cg
section
variable {q:tp}{c:Int}
structure mX (s t:aA):Prop where
 Pt:∀ x∈t.stack,x∈s.stack
 wt:t.waiting=s.waiting
 ct:t.dG=s.dG
 ex:t.extra=s.extra
 tn:t.D8=s.D8
 ov:t.BT=s.BT
 pl:t.az.length=s.az.length
theorem mX.refl (s:aA):mX s s:=⟨fun _ h=>h,rfl,rfl,rfl,rfl,rfl,rfl⟩
theorem mX.trans {s t u:aA}(h1:mX s t)(h2:mX t u):mX s u:=⟨fun x h=>h1.Pt x (h2.Pt x h),h2.wt.trans h1.wt,h2.ct.trans h1.ct,h2.ex.trans h1.ex,h2.tn.trans h1.tn,h2.ov.trans h1.ov,h2.pl.trans h1.pl⟩
theorem M4 (s:aA)(l:List aE):mX s { s with aa:=l }:=⟨fun _ h=>h,rfl,rfl,rfl,rfl,rfl,rfl⟩
theorem vX (s:aA)(o:aE):mX s (eM s o):=M4 s _
theorem Fi (s:aA)(k:Int):mX s (rG s k):=M4 s _
theorem M5 (s:aA)(id:Int)(e:bV):mX s (ld s id e):=by
 unfold ld;split
 ·exact vX s _
 ·exact mX.refl s
theorem M0 (s:aA)(z p:Int)(l:List Int):mX s (eU s z p l):=by
 obtain⟨b,x,pl,e,hl,_⟩:=nS s z p l;rw[e];exact⟨fun _ h=>h,rfl,rfl,rfl,rfl,rfl,hl⟩
theorem M3 (s:aA)(id:Int)(i:Nat)(o:aE):mX s (kC s id i o):=by
 have h:=M0 s o.cg o.owner ((bR s o.cg o.owner).filter fun i=>i != id);exact⟨fun x hx=>(List.mem_filter.1 hx).1,h.wt,h.ct,h.ex,h.tn,h.ov,h.pl⟩
theorem Vl (s:aA)(x:aE)(z:Int)(b:Bool):mX s (GY s x z b):=by
 have h:=M0 s z x.owner (if (z==2&&!b)=true then x.id :: bR s z x.owner else bR s z x.owner++[x.id]);exact⟨h.Pt,h.wt,h.ct,h.ex,h.tn,h.ov,h.pl⟩
theorem qm (s:aA)(id z p:Int)(b:Bool):mX s (jH s id z p b).1:=by
 unfold jH;split
 ·exact mX.refl s
 ·split
  ·unfold mj;split
   ·exact mX.refl s
   split
   ·exact M3 s _ _ _
   ·exact((M3 s _ _ _).trans (vX _ _)).trans (Vl _ _ _ _)
  ·exact mX.refl s
theorem Rb (s:aA)(a p:Int):mX s (kN s a p).1:=⟨fun _ h=>h,rfl,rfl,rfl,rfl,rfl,rfl⟩
theorem Tg (e:bV):∀ (n:Nat) (s:aA),mX s (B5 s e n)
 | 0,s=>mX.refl s
 | n+1,s=>by
  unfold B5;split
  ·exact((Rb s _ _).trans (M5 _ _ _)).trans (Tg e n _)
  ·exact mX.refl s
theorem Vj (s:aA)(p:Int)(f:cq->cq):mX s (K0 s p f):=by
 unfold K0;split
 ·exact⟨fun _ h=>h,rfl,rfl,rfl,rfl,rfl,bG⟩
 ·exact mX.refl s
theorem Re (s:aA)(p:Int):mX s (lO s p):=by
 unfold lO;split
 ·split
  ·exact Vj s _ _
  ·exact qm s _ _ _ _
 ·exact mX.refl s
theorem Rc (s:aA)(e:bV):mX s (jq s e):=by
 unfold jq;split
 ·exact⟨fun _ h=>h,rfl,rfl,rfl,rfl,rfl,bG⟩
 ·exact mX.refl s
theorem Ra (s:aA)(all:List aG)(e:bV):mX s (gy s all e):=by
 unfold gy;split
 ·dsimp only;split
  ·exact(vX s _).trans (vX _ _)
  ·exact vX s _
 ·exact mX.refl s
theorem Vk (s:aA)(e:bV):mX s (EW s e):=by
 have h:mX s (if e.from_=0 then rG s e.aO else s):=by
  split
  ·exact Fi s _
  ·exact mX.refl s
 unfold EW;dsimp only;split
 ·exact(h.trans (qm _ _ _ _ _)).trans (M5 _ _ _)
 ·exact h.trans (qm _ _ _ _ _)
theorem Th (aH:List bX)(s:aA)(all:List aG)(e:bV):mX s (wG aH s all e):=by
 unfold wG;split
 ·split
  ·exact Vk s e
  ·unfold iJ;split
   ·exact Re s _
   split
   ·exact Rc s e
   split
   ·exact Tg e _ s
   split
   ·exact Ra s all e
   ·exact mX.refl s
 ·exact mX.refl s
theorem Hb {α:Type}[DecidableEq α]:∀ {l m:List α},l.Nodup->(∀ x∈l,x∈m)->l.length<=m.length
 | [],_,_,_=>aD _
 | x :: l,m,h,hm=>by
  obtain⟨h1,h2⟩:=List.nodup_cons.1 h;have hx:=hm x aC;have:=Hb (m:=m.erase x) h2 fun y hy=>(List.mem_erase_of_ne (fun e=>h1 (by rw[<- e];exact hy))).2 (hm y (aK _ hy));rw[List.length_erase_of_mem hx] at this;have:=List.length_pos_of_mem hx;rw[aq];omega
theorem jd {s:aA}(h:jE q c s)(z p:Int):(bR s z p).length<=2048:=by
 have:=Hb (m:=s.aa.map aE.id) (h.W9 z p) fun id hid=>by
  obtain⟨o,ho,e,_⟩:=h.QZ z p id hid;exact bA.2 ⟨o,ho,e⟩
 rw[Lm] at this;have:=h.ER;omega
theorem ng {n:Nat}(h:n<=2048):n*8<=ba:=by unfold ba;omega
theorem yf {s:aA}(h:jE q c s){p:cq}(hp:p∈s.az):p.cW.length<=2048∧p.hand.length<=2048∧p.dI.length<=2048:=by
 obtain⟨i,hi,rfl⟩:=bB.1 hp;have h1:=jd h 2 i;have h2:=jd h 1 i;have h3:=jd h 3 i;rw[Cc hi] at h1;rw[MQ hi] at h2;rw[MR hi] at h3;exact⟨h1,h2,h3⟩
theorem eC {s t:aA}(hs:s.ok)(hv:jE q c t)(hk:mX s t):t.ok:=by
 obtain⟨_,_,_,_,_,_,_,g8,g9,g10,g11,g12,g13⟩:=hs;have hb:=jd hv 0 0;have hx:=jd hv 4 0;rw[kg] at hb;rw[lH] at hx;have h1:=hv.YA;have h2:=hv.ER;have h3:=hv.Ms;refine⟨by unfold ba;omega,fun y hy=>?_,by unfold ba;omega,fun y _=>vH y,ng hb,ng hx,by unfold ba;omega,fun y hy=>g8 y (hk.Pt y hy),by rw[hk.wt];exact g9,by rw[hk.wt];exact g10,by rw[hk.ct];exact g11,by rw[hk.ct];exact g12,by rw[hk.ex];exact g13⟩;obtain⟨a1,a2,a3⟩:=yf hv hy;exact⟨ng a1,ng a2,ng a3⟩
theorem UB {s:aA}{o':aE}{i:Nat}{id:Int}(h1:s.aa.findIdx? (fun o=>o.id==id)=some i)(h:o'.id=id):eM s o'={ s with aa:=s.aa.set i o' }:=by
 unfold eM o7;rw[h,h1]
theorem qj {s:aA}{e:bV}{i:Nat}(hi:i < s.az.length)(he:e.bC=i):jq s e={ s with az:=s.az.set i (Kp e s.gq s.az[i]).1,gq:=(Kp e s.gq s.az[i]).2 }:=by
 unfold jq;rw[he,Int.toNat_natCast,af hi]
end
end Go.Proofs.YtbmdcnkidjlbbaaGreat
end
section
namespace Go.Proofs.YtbmdcnkidjlbbaaGreat
open Go Cg Go.RowKit Go.Sort
theorem Su {t:aA}{id:Int}(e:bV){j:Nat}(hj:j < t.aa.length)(h1:t.aa.findIdx? (fun o=>o.id==id)=some j)(h2:b9 t.aa id=t.aa[j])(h3:t.aa[j].id=id)(hh:er t.aa id=true):ld t id e={ t with aa:=t.aa.set j (NY e t.aa[j]) }:=by
 unfold ld eM o7;rw[if_pos hh,h2,show(fun x:aE=>x.id==(NY e t.aa[j]).id)=fun o=>o.id==id from funext fun x=>by show(x.id==t.aa[j].id)=_;rw[h3],h1]
theorem zM {s:aA}(dK bC:Int)(aS:∀ y∈s.aa,y.id < s.bE):kN s dK bC=({ s with aa:=s.aa++[{ qc s.bE dK bC 0 s.bQ with token:=true,oY:=true }],bw:=s.bw++[s.bE],bE:=IntKind.i64.wrap (s.bE+1),bQ:=IntKind.i64.wrap (s.bQ+1) },s.bE):=by
 show({ eM s { qc s.bE dK bC 0 s.bQ with token:=true,oY:=true } with bw:=s.bw++[s.bE],bE:=IntKind.i64.wrap (s.bE+1),bQ:=IntKind.i64.wrap (s.bQ+1) },s.bE)=_;unfold eM;rw[BO (x:={ qc s.bE dK bC 0 s.bQ with token:=true,oY:=true }) aS]
theorem DA (s:aA)(id:Int)(e:bV):∃ l,ld s id e={ s with aa:=l }∧l.map aE.id=s.aa.map aE.id:=by
 by_cases hh:er s.aa id=true
 ·obtain⟨j,hj,h1,h2,h3⟩:=uJ hh;refine⟨_,Su e hj h1 h2 h3 hh,?_⟩;rw[List.map_set];refine sN ?_;rw[bp,af hj];rfl
 ·refine⟨s.aa,?_,rfl⟩;unfold ld;rw[if_neg hh]
structure DL (s:aA)(e:bV)(x:Nat × aA):Prop where
 ok:x.2.ok
 lt:∀ y∈x.2.aa,y.id < x.2.bE
 le:x.1<=e.bq.toNat
 eq:B5 x.2 e (e.bq.toNat - x.1)=B5 s e e.bq.toNat
 bf:x.2.bw.length+(2048 - x.2.aa.length)<=5000
 id:0<=x.2.bE∧x.2.bE+((2048 - x.2.aa.length:Nat):Int)<=2000000
 qN:(x.2.aa.map aE.id).Pairwise (· < ·)
 pos:∀ i∈x.2.aa.map aE.id,0<=i
theorem DL.start {s:aA}{e:bV}(h:s.ok)(aS:∀ y∈s.aa,y.id < s.bE)(hs:(s.aa.map aE.id).Pairwise (· < ·))(hb:s.bw.length+(2048 - s.aa.length)<=5000)(hn:0<=s.bE∧s.bE+((2048 - s.aa.length:Nat):Int)<=2000000)(hp:∀ i∈s.aa.map aE.id,0<=i):DL s e (0,s):=⟨h,aS,aD _,rfl,hb,hn,hs,hp⟩
theorem DL.step {s:aA}{e:bV}{k:Nat}{S:aA}(H:DL s e (k,S))(hk:k < e.bq.toNat)(hl:(S.aa.length:Int) < 2048):DL s e (k+1,ld (kN S e.dK e.bC).1 (kN S e.dK e.bC).2 e):=by
 obtain⟨h1,h2,h3,h4,h5,⟨h6,h7⟩,h8,h9⟩:=H;simp only at h1 h2 h3 h4 h5 h6 h7 h8 h9;have hm:=zM e.dK e.bC h2;rw[show e.bq.toNat - k=(e.bq.toNat - (k+1))+1 by omega] at h4
 have Xs:B5 (ld (kN S e.dK e.bC).1 (kN S e.dK e.bC).2 e) e (e.bq.toNat - (k+1))=B5 s e e.bq.toNat:=by
  rw[<- h4];show _=if (S.aa.length:Int) < 2048 then _ else S;rw[if_pos hl]
 rw[hm] at Xs ⊢;obtain⟨l,e1,e2⟩:=DA ({ S with aa:=S.aa++[{ qc S.bE e.dK e.bC 0 S.bQ with token:=true,oY:=true }],bw:=S.bw++[S.bE],bE:=IntKind.i64.wrap (S.bE+1),bQ:=IntKind.i64.wrap (S.bQ+1) }) S.bE e;simp only at Xs ⊢;have hw:IntKind.i64.wrap (S.bE+1)=S.bE+1:=by rw[ak];omega
 have e2:l.map aE.id=S.aa.map aE.id++[S.bE]:=by rw[e2,aW];rfl
 have e3:l.length=S.aa.length+1:=by
  have:=congrArg List.length e2
  rwa [Lm,au,Lm,List.length_singleton] at this
 rw[e1] at Xs ⊢;simp only[hw] at Xs ⊢
 have Nx:∀ i∈S.aa.map aE.id,i < S.bE:=fun i hi=>by
  obtain⟨y,hy,rfl⟩:=bA.1 hi;exact h2 y hy
 obtain⟨g1,g2,g3,g4,g5,g6⟩:=h1;refine⟨⟨g1,g2,?_,fun y _=>vH y,?_,g6⟩,fun y hy=>?_,hk,Xs,?_,?_,?_,?_⟩
 ·show l.length*128<=ba;rw[e3];unfold ba;omega
 ·show(S.bw++[S.bE]).length*8<=ba;rw[au,List.length_singleton];unfold ba;omega
 ·have hy:y∈l:=hy;have hy:y.id∈l.map aE.id:=bA.2 ⟨y,hy,rfl⟩;rw[e2] at hy;show y.id < S.bE+1;rcases aX.1 hy with hy|hy
  ·have:=Nx _ hy;omega
  ·rw[aJ.1 hy];omega
 ·show(S.bw++[S.bE]).length+(2048 - l.length)<=5000;rw[au,List.length_singleton,e3];omega
 ·show 0<=S.bE+1∧S.bE+1+((2048 - l.length:Nat):Int)<=_;rw[e3];omega
 ·show(l.map aE.id).Pairwise (· < ·);rw[e2,List.pairwise_append];refine⟨h8,List.pairwise_singleton _ _,fun a ha b hb=>?_⟩;rw[aJ.1 hb];exact Nx a ha
 ·show ∀ i∈l.map aE.id,0<=i;rw[e2];intro i hi;rcases aX.1 hi with hi|hi
  ·exact h9 i hi
  ·rw[aJ.1 hi];exact h6
theorem DL.okm {s:aA}{e:bV}{k:Nat}{S:aA}(H:DL s e (k,S))(_hk:k < e.bq.toNat)(hl:(S.aa.length:Int) < 2048):(kN S e.dK e.bC).1.ok:=by
 obtain⟨h1,h2,_,_,h5,_⟩:=H;simp only at h1 h2 h5;rw[zM e.dK e.bC h2];obtain⟨g1,g2,g3,g4,g5,g6⟩:=h1
 have hx:∀ o:aE,(S.aa++[o]).length*128<=ba:=fun o=>by
  rw[au,List.length_singleton];unfold ba;omega
 have hy:(S.bw++[S.bE]).length*8<=ba:=by
  rw[au,List.length_singleton];unfold ba;omega
 exact⟨g1,g2,hx _,fun y _=>vH y,hy,g6⟩
theorem DL.fin {s:aA}{e:bV}{k:Nat}{S:aA}(H:DL s e (k,S))(h:¬ (k:Int) < e.bq∨¬ (S.aa.length:Int) < 2048):B5 s e e.bq.toNat=S:=by
 rw[<- H.eq];simp only;rcases h with h|h
 ·rw[show e.bq.toNat - k=0 by omega];rfl
 ·cases e.bq.toNat - k with
  | zero=>rfl
  | succ n=>
   show(if (S.aa.length:Int) < 2048 then _ else S)=S;rw[if_neg h]
theorem DL.end_ {s:aA}{e:bV}:∀ (n k:Nat) (S:aA),e.bq.toNat - k=n->S.aa.length<=2048->DL s e (k,S)->(B5 s e e.bq.toNat).ok∧((B5 s e e.bq.toNat).aa.map aE.id).Pairwise (· < ·)∧(B5 s e e.bq.toNat).aa.length<=2048∧∀ i∈(B5 s e e.bq.toNat).aa.map aE.id,0<=i
 | n,k,S,hn,hl,H=>by
  by_cases h1:(k:Int) < e.bq
  ·by_cases h2:(S.aa.length:Int) < 2048
   ·have hs:=H.step (by omega) h2
    have hlen:(ld (kN S e.dK e.bC).1 (kN S e.dK e.bC).2 e).aa.length<=2048:=by
     rw[zM e.dK e.bC H.lt];obtain⟨l,e1,e2⟩:=DA ({ S with aa:=S.aa++[{ qc S.bE e.dK e.bC 0 S.bQ with token:=true,oY:=true }],bw:=S.bw++[S.bE],bE:=IntKind.i64.wrap (S.bE+1),bQ:=IntKind.i64.wrap (S.bQ+1) }) S.bE e;rw[e1];have:=congrArg List.length e2;rw[Lm,Lm,au,List.length_singleton] at this;show l.length<=2048;omega
    match n,hn with
    | 0,hn=>omega
    | n+1,hn=>exact DL.end_ n (k+1) _ (by omega) hlen hs
   ·rw[H.fin (.inr h2)];exact⟨H.ok,H.qN,hl,H.pos⟩
  ·rw[H.fin (.inl h1)];exact⟨H.ok,H.qN,hl,H.pos⟩
end Go.Proofs.YtbmdcnkidjlbbaaGreat
end
section
namespace Go.Proofs.YtbmdcnkidjlbbaaGreat
open Go Cg Go.RowKit Go.Shelf
theorem Ev (a:aA)(b:Int)(ha:a.ok):∃ r:Bool,(r=(kX a b))∧Ct ae 97 [.agg (a.enc.map .t),.c (.t (iv b))] (AV.b r) [] true:=by
 have CH:=ha;obtain⟨S8,S7,S6,S5,UX,Yz,Yy,Yx,Yw,Yv,U0,UZ,UY⟩:=CH;refine db (Φ:=fun (r:Bool)=>r=(kX a b)) dc (bO Tryz.func97 rfl (enters_of Tryz.func97 (by kernel_rfl) rfl) tabOk (by kernel_rfl) rfl rfl (ck.bI [] [] ?_))
 repeat' (first|(apply Ri;(first|assumption|omega|(simp only[ak,IntKind.wrap_u64,aq,aw];omega)|(simp only[Lm] at *;omega)|decide);(first|assumption|omega|(simp only[ak,IntKind.wrap_u64,aq,aw];omega)|(simp only[Lm] at *;omega)|decide);intro _)|(apply bY <;> intro _)|(apply bL;exact Ei [] (Ai rfl (Ai trivial rfl));exact(by first|exact Q1 ‹_› | exact Q0 ‹_› | exact Eq.symm (Vg ‹_› ‹_›));rfl)|fail)
theorem I1 (a:aA)(b:Int)(ha:a.ok):Ct ae 97 [.agg (a.enc.map .t),.c (.t (iv b))] (AV.b (kX a b)) [] true:=by
 obtain⟨r,hr,h⟩:=Ev a b ha;rw[hr] at h;exact h
theorem Ew (a:Int):∃ r:Bool,(r=(qG a))∧Ct ae 98 [.c (.t (iv a))] (AV.b r) [] true:=by
 refine db (Φ:=fun (r:Bool)=>r=(qG a)) dc (bO Tryz.func98 rfl (enters_of Tryz.func98 (by kernel_rfl) rfl) tabOk (by kernel_rfl) rfl rfl (ck.bI [] [] ?_))
 repeat' (first|(apply bY <;> intro _)|(apply bL;exact Ei [] (Ai rfl (Ai trivial rfl));exact(by simp[qG, *]);rfl)|fail)
theorem I2 (a:Int):Ct ae 98 [.c (.t (iv a))] (AV.b (qG a)) [] true:=by
 obtain⟨r,hr,h⟩:=Ew a;rw[hr] at h;exact h
theorem Us (a:aA)(b:Int)(c:Int)(ha:a.ok):∃ r:Bool,(r=(er a.aa b&&((b9 a.aa b).cg==c)))∧Ct ae 99 [.agg (a.enc.map .t),.c (.t (iv b)),.c (.t (iv c))] (AV.b r) [] true:=by
 have CH:=ha;obtain⟨S8,S7,S6,S5,UX,Yz,Yy,Yx,Yw,Yv,U0,UZ,UY⟩:=CH;refine db (Φ:=fun (r:Bool)=>r=(er a.aa b&&((b9 a.aa b).cg==c))) dc (bO Tryz.func99 rfl (enters_of Tryz.func99 (by kernel_rfl) rfl) tabOk (by kernel_rfl) rfl rfl (ck.bI [] [] ?_))
 repeat' (first|(apply cS <;> intro _)|(apply bL;exact Ei [] (Ai rfl (Ai trivial rfl));exact(by simp[*]);rfl)|(apply bj 96;refine cI (gk _ _ (by first|assumption|exact eO ‹_› ‹_› | exact eV _ ‹_›)) ⟨fL (aA.enc _),rfl,trivial⟩ (.inl rfl) ?_)|fail)
theorem Ye (a:aA)(b:Int)(c:Int)(ha:a.ok):Ct ae 99 [.agg (a.enc.map .t),.c (.t (iv b)),.c (.t (iv c))] (AV.b (er a.aa b&&((b9 a.aa b).cg==c))) [] true:=by
 obtain⟨r,hr,h⟩:=Us a b c ha;rw[hr] at h;exact h
theorem Ur (a:List bX)(b:aA)(c:bV)(_ha:a.length*176<=ba)(_ma:∀ y∈a,bX.ok y)(hb:b.ok):∃ r:Bool,(r=(oN a b c))∧Ct ae 47 [.c (.t (.sl 17 (a.map bX.enc))),.agg (b.enc.map .t),.agg (c.enc.map .t)] (AV.b r) [] true:=by
 have Rz:=hb;obtain⟨ob0,ob1,ob2,ob3,ob4,ob5,ob6,ob7,ob8,ob9,amC,amB,amA⟩:=Rz;refine db (Φ:=fun (r:Bool)=>r=(oN a b c)) dc (bO Tryz.func47 rfl (enters_of Tryz.func47 (by kernel_rfl) rfl) tabOk (by kernel_rfl) rfl rfl (ck.bI [] [] ?_))
 repeat' (first|(apply Ri;(first|assumption|omega|(simp only[ak,IntKind.wrap_u64,aq,aw];omega)|(simp only[Lm] at *;omega)|decide);(first|assumption|omega|(simp only[ak,IntKind.wrap_u64,aq,aw];omega)|(simp only[Lm] at *;omega)|decide);intro _)|(apply bY <;> intro _)|(apply cR <;> intro _)|(apply cS <;> intro _)|(apply bL;exact Ei [] (Ai rfl (Ai trivial rfl));exact(by first|contradiction|(simp[oN,iY, *];done)|(simp_all[oN,iY];done)|(rw[NX ‹_›];simp[Pq ‹_›, *];done)|(rw[NX ‹_›];simp[Pp ‹_›, *];done)|(rw[NX ‹_›,T7 ‹_› ‹_›];simp[*];done));rfl)|(apply bj 96;refine cI (gk _ _ (by first|assumption|exact eO ‹_› ‹_› | exact eV _ ‹_›)) ⟨fL (aA.enc _),rfl,trivial⟩ (.inl rfl) ?_)|(apply bj 97;refine cI (I1 _ _ (by first|assumption|exact eO ‹_› ‹_› | exact eV _ ‹_›)) ⟨fL (aA.enc _),rfl,trivial⟩ (.inl rfl) ?_)|(apply bj 98;refine cI (I2 _) ⟨rfl,trivial⟩ (.inl rfl) ?_)|(apply bj 99;refine cI (Ye _ _ _ (by first|assumption|exact eO ‹_› ‹_› | exact eV _ ‹_›)) ⟨fL (aA.enc _),rfl,rfl,trivial⟩ (.inl rfl) ?_)|fail)
theorem vt (a:List bX)(b:aA)(c:bV)(ha:a.length*176<=ba)(ma:∀ y∈a,bX.ok y)(hb:b.ok):Ct ae 47 [.c (.t (.sl 17 (a.map bX.enc))),.agg (b.enc.map .t),.agg (c.enc.map .t)] (AV.b (oN a b c)) [] true:=by
 obtain⟨r,hr,h⟩:=Ur a b c ha ma hb;rw[hr] at h;exact h
theorem BJ (a:Int)(b:Int):∃ r:Bool,(r=(mW a b))∧Ct ae 141 [.c (.t (iv a)),.c (.t (iv b))] (AV.b r) [] true:=by
 refine db (Φ:=fun (r:Bool)=>r=(mW a b)) dc (bO Tryz.func141 rfl (enters_of Tryz.func141 (by kernel_rfl) rfl) tabOk (by kernel_rfl) rfl rfl (ck.bI [] [] ?_))
 repeat' (first|(apply bL;exact Ei [] (Ai rfl (Ai trivial rfl));exact(rfl);rfl)|fail)
theorem Qa (a:Int)(b:Int):Ct ae 141 [.c (.t (iv a)),.c (.t (iv b))] (AV.b (mW a b)) [] true:=by
 obtain⟨r,hr,h⟩:=BJ a b;rw[hr] at h;exact h
theorem M6 (a:Int)(b:Int):∃ r:Bool,(r=(mW a b))∧Ct ae 185 [.c (.t (iv a)),.c (.t (iv b))] (AV.b r) [] true:=by
 refine db (Φ:=fun (r:Bool)=>r=(mW a b)) dc (bO Tryz.func185 rfl (enters_of Tryz.func185 (by kernel_rfl) rfl) tabOk (by kernel_rfl) rfl rfl (ck.bI [] [] ?_))
 repeat' (first|(apply bL;exact Ei [] (Ai rfl (Ai trivial rfl));exact(rfl);rfl)|fail)
theorem Eu (a:aA)(b:List aG)(c:Int)(ha:a.ok)(_hb:b.length*176<=ba)(_mb:∀ y∈b,aG.ok y):∃ r:Bool,(r=(fT a b c))∧Ct ae 108 [.agg (a.enc.map .t),.c (.t (.sl 17 (b.map aG.enc))),.c (.t (iv c))] (AV.b r) [] true:=by
 have CH:=ha;obtain⟨S8,S7,S6,S5,UX,Yz,Yy,Yx,Yw,Yv,U0,UZ,UY⟩:=CH;refine db (Φ:=fun (r:Bool)=>r=(fT a b c)) dc (bO Tryz.func108 rfl (enters_of Tryz.func108 (by kernel_rfl) rfl) tabOk (by kernel_rfl) rfl rfl (ck.bI [] [] ?_))
 repeat' (first|(apply Ri;(first|assumption|omega|(simp only[ak,IntKind.wrap_u64,aq,aw];omega)|(simp only[Lm] at *;omega)|decide);(first|assumption|omega|(simp only[ak,IntKind.wrap_u64,aq,aw];omega)|(simp only[Lm] at *;omega)|decide);intro _)|(apply bY <;> intro _)|(apply bL;exact Ei [] (Ai rfl (Ai trivial rfl));exact(by first|exact Od ‹_› ‹_› ‹_› ‹_› ‹_› | exact Sh ‹_› ‹_› | exact Sg ‹_› ‹_›);rfl)|(apply eX 2 rfl;refine gP.up (β:=Unit) 2 7 ((((a.aa.map aE.enc).length:Nat):Int)) (by first|omega|exact gV (by first|assumption|exact eO ‹_› ‹_› | exact eV _ ‹_›) rfl) (by omega) (fun _=>[]) (fun i _=>Up (QL b c) a.aa i) [1,2,3] [0] 200000 rfl ?_;refine Ai ?_ (fun _ _ _ _ _=>ck.bI [] [] ?_))|exact Ei () (Ai (by first|exact Up.zero|exact Up.step ‹_› ‹_› ‹_› (by first|exact S9 ‹_› | exact YB ‹_› ‹_›)) (cE rfl rfl rfl rfl))|exact Ai (by first|assumption|omega) (Ei () (Ai (by first|exact Up.zero|exact Up.step ‹_› ‹_› ‹_› (by first|exact S9 ‹_› | exact YB ‹_› ‹_›)) (cE rfl rfl rfl rfl)))|(apply bj 141;refine cI (Qa _ _) ⟨rfl,rfl,trivial⟩ (.inl rfl) ?_)|fail)
theorem IZ (a:aA)(b:List aG)(c:Int)(ha:a.ok)(hb:b.length*176<=ba)(mb:∀ y∈b,aG.ok y):Ct ae 108 [.agg (a.enc.map .t),.c (.t (.sl 17 (b.map aG.enc))),.c (.t (iv c))] (AV.b (fT a b c)) [] true:=by
 obtain⟨r,hr,h⟩:=Eu a b c ha hb mb;rw[hr] at h;exact h
end Go.Proofs.YtbmdcnkidjlbbaaGreat
end
section
namespace Go.Proofs.YtbmdcnkidjlbbaaGreat
open Go Cg Go.RowKit Go.Sort

section
variable {q:tp}{c:Int}
theorem IX (s:aA)(e:bV)(h:s.ok)(hk:e.kind=4)(i:Nat)(hi:i < s.az.length)(he:e.bC=i):Ct ae 50 [.agg (s.enc.map .t),.agg (e.enc.map .t)] (.agg ((jq s e).enc.map .t)) [] false:=by
 rw[qj hi he];have hm:Kp e s.gq s.az[i]=({ s.az[i] with je:=ff s.az[i].je e.bq },s.gq):=by unfold Kp;rw[hk];rfl
 rw[hm];have hw:=pR s (i:Int) { s.az[i] with je:=ff s.az[i].je e.bq } h (by omega);refine bT Tryz.func50 rfl (enters_of Tryz.func50 (by kernel_rfl) rfl) tabOk (by kernel_rfl) rfl rfl rfl rfl fun w0 O _=>Tp.run [3,4,6,8,10,13] ?_;refine Ei i (Ei _ (Ai he (Ai (aQ _ _ i hi) ?_)));refine Tp.run [4,6,8,10] ?_
 repeat' (first|refine eu (iP hk) ?_|refine cQ (gp hk (by decide)) ?_)
 refine Tp.run [] ?_;refine cI (j8 s.az[i].je e.bq) ⟨rfl,rfl,trivial⟩ (.inl rfl) ?_;refine Tp.run [] ?_;refine cI hw ⟨fL s.enc,congrArg iv he,?_,trivial⟩ (.inr rfl) ?_
 ·repeat' first|refine Ai ?_ ?_|exact rfl|exact trivial|exact Ei _ rfl|refine aj ?_|refine bS ?_|fail
 refine Ei [] (Ai rfl (Ai ?_ ?_))
 all_goals repeat' first|refine Ai ?_ ?_|exact rfl|exact trivial|exact Ei _ rfl|refine aj ?_|refine bS ?_|fail
theorem IW (s:aA)(e:bV)(h:s.ok)(hk:e.kind=5)(i:Nat)(hi:i < s.az.length)(he:e.bC=i):Ct ae 50 [.agg (s.enc.map .t),.agg (e.enc.map .t)] (.agg ((jq s e).enc.map .t)) [] false:=by
 rw[qj hi he];have hm:Kp e s.gq s.az[i]=({ s.az[i] with je:=pM s.az[i].je e.bq },s.gq):=by unfold Kp;rw[hk];rfl
 rw[hm];have hw:=pR s (i:Int) { s.az[i] with je:=pM s.az[i].je e.bq } h (by omega);refine bT Tryz.func50 rfl (enters_of Tryz.func50 (by kernel_rfl) rfl) tabOk (by kernel_rfl) rfl rfl rfl rfl fun w0 O _=>Tp.run [3,4,6,8,10,13] ?_;refine Ei i (Ei _ (Ai he (Ai (aQ _ _ i hi) ?_)));refine Tp.run [4,6,8,10] ?_
 repeat' (first|refine eu (iP hk) ?_|refine cQ (gp hk (by decide)) ?_)
 refine Tp.run [] ?_;refine cI (Mb s.az[i].je e.bq) ⟨rfl,rfl,trivial⟩ (.inl rfl) ?_;refine Tp.run [] ?_;refine cI hw ⟨fL s.enc,congrArg iv he,?_,trivial⟩ (.inr rfl) ?_
 ·repeat' first|refine Ai ?_ ?_|exact rfl|exact trivial|exact Ei _ rfl|refine aj ?_|refine bS ?_|fail
 refine Ei [] (Ai rfl (Ai ?_ ?_))
 all_goals repeat' first|refine Ai ?_ ?_|exact rfl|exact trivial|exact Ei _ rfl|refine aj ?_|refine bS ?_|fail
theorem Es (s:aA)(e:bV)(h:s.ok)(hk:e.kind=16)(i:Nat)(hi:i < s.az.length)(he:e.bC=i):Ct ae 50 [.agg (s.enc.map .t),.agg (e.enc.map .t)] (.agg ((jq s e).enc.map .t)) [] false:=by
 rw[qj hi he];have hm:Kp e s.gq s.az[i]=({ s.az[i] with kH:=ff s.az[i].kH e.bq },s.gq):=by unfold Kp;rw[hk];rfl
 rw[hm];have hw:=pR s (i:Int) { s.az[i] with kH:=ff s.az[i].kH e.bq } h (by omega);refine bT Tryz.func50 rfl (enters_of Tryz.func50 (by kernel_rfl) rfl) tabOk (by kernel_rfl) rfl rfl rfl rfl fun w0 O _=>Tp.run [3,4,6,8,10,13] ?_;refine Ei i (Ei _ (Ai he (Ai (aQ _ _ i hi) ?_)));refine Tp.run [4,6,8,10] ?_
 repeat' (first|refine eu (iP hk) ?_|refine cQ (gp hk (by decide)) ?_)
 refine Tp.run [] ?_;refine cI (j8 s.az[i].kH e.bq) ⟨rfl,rfl,trivial⟩ (.inl rfl) ?_;refine Tp.run [] ?_;refine cI hw ⟨fL s.enc,congrArg iv he,?_,trivial⟩ (.inr rfl) ?_
 ·repeat' first|refine Ai ?_ ?_|exact rfl|exact trivial|exact Ei _ rfl|refine aj ?_|refine bS ?_|fail
 refine Ei [] (Ai rfl (Ai ?_ ?_))
 all_goals repeat' first|refine Ai ?_ ?_|exact rfl|exact trivial|exact Ei _ rfl|refine aj ?_|refine bS ?_|fail
theorem Er (s:aA)(e:bV)(h:s.ok)(hk:e.kind=17)(i:Nat)(hi:i < s.az.length)(he:e.bC=i)(hb:s.az[i].cW.length<=1099511627776):Ct ae 50 [.agg (s.enc.map .t),.agg (e.enc.map .t)] (.agg ((jq s e).enc.map .t)) [] false:=by
 rw[qj hi he];have hm:Kp e s.gq s.az[i]=({ s.az[i] with cW:=(kJ s.gq s.az[i].cW).1 },(kJ s.gq s.az[i].cW).2):=by unfold Kp;rw[hk];rfl
 rw[hm];have hs:=EF s.gq s.az[i].cW (h.2.1 _ (aI hi)).1 hb;generalize kJ s.gq s.az[i].cW=sh at hs;have hw:=pR { s with gq:=sh.2 } (i:Int) { s.az[i] with cW:=sh.1 } h (by show 0<=(i:Int)∧(i:Int) < s.az.length;omega);refine bT Tryz.func50 rfl (enters_of Tryz.func50 (by kernel_rfl) rfl) tabOk (by kernel_rfl) rfl rfl rfl rfl fun w0 O _=>Tp.run [3,4,6,8,10,13] ?_;refine Ei i (Ei _ (Ai he (Ai (aQ _ _ i hi) ?_)));refine Tp.run [4,6,8,10] ?_
 repeat' (first|refine eu (iP hk) ?_|refine cQ (gp hk (by decide)) ?_)
 refine Tp.run [] ?_;refine cI hs ⟨rfl,rfl,trivial⟩ (.inr rfl) ?_;refine Tp.run [] ?_;refine cI hw ⟨?_,congrArg iv he,?_,trivial⟩ (.inr rfl) ?_
 ·repeat' first|refine Ai ?_ ?_|exact rfl|exact trivial|exact Ei _ rfl|refine aj ?_|refine bS ?_|fail
 ·repeat' first|refine Ai ?_ ?_|exact rfl|exact trivial|exact Ei _ rfl|refine aj ?_|refine bS ?_|fail
 refine Ei [] (Ai rfl (Ai ?_ ?_))
 all_goals repeat' first|refine Ai ?_ ?_|exact rfl|exact trivial|exact Ei _ rfl|refine aj ?_|refine bS ?_|fail
theorem PN (s:aA)(e:bV)(h:s.ok)(hk:e.kind=4∨e.kind=5∨e.kind=16∨e.kind=17)(i:Nat)(hi:i < s.az.length)(he:e.bC=i)(hb:s.az[i].cW.length<=1099511627776):Ct ae 50 [.agg (s.enc.map .t),.agg (e.enc.map .t)] (.agg ((jq s e).enc.map .t)) [] false:=by
 rcases hk with hk|hk|hk|hk
 ·exact IX s e h hk i hi he
 ·exact IW s e h hk i hi he
 ·exact Es s e h hk i hi he
 ·exact Er s e h hk i hi he hb
theorem PO (s:aA)(p:Nat)(h:s.ok)(hp:p < s.az.length):Ct ae 49 [.agg (s.enc.map .t),.c (.t (iv p))] (.agg ((lO s p).enc.map .t)) [] false:=by
 cases hl:s.az[p].cW with
 | nil=>
  have hd:lO s p={ s with az:=s.az.set p { s.az[p] with failed:=true,cW:=[] } }:=by
   unfold lO K0;rw[Int.toNat_natCast,af hp];simp only[hl]
  rw[hd]
  have hq:(s.az.map cq.enc)[p]? = some (({ s.az[p] with cW:=[] }:cq).enc):=by
   rw[aQ _ _ p hp,<- hl]
  have hw:=pR s (p:Int) { s.az[p] with failed:=true,cW:=[] } h (by omega);refine bT Tryz.func49 rfl (enters_of Tryz.func49 (by kernel_rfl) rfl) tabOk (by kernel_rfl) rfl rfl rfl rfl fun w0 O _=>Tp.run [2,3,4,5] ?_;refine Ei p (Ei _ (Ai rfl (Ai hq ?_)));refine Tp.run [3,5] ?_;refine Tp.run [] ?_;refine Tp.run [] ?_;refine cI hw ⟨fL s.enc,rfl,?_,trivial⟩ (.inr rfl) ?_
  ·repeat' first|refine Ai ?_ ?_|exact rfl|exact trivial|exact Ei _ rfl|refine aj ?_|refine bS ?_|fail
  refine Ei [] (Ai rfl (Ai ?_ ?_))
  all_goals repeat' first|refine Ai ?_ ?_|exact rfl|exact trivial|exact Ei _ rfl|refine aj ?_|refine bS ?_|fail
 | cons id l=>
  have hm:=zH s id 1 p false h
  have hd:lO s p=(jH s id 1 p false).1:=by
   unfold lO;rw[Int.toNat_natCast,af hp];simp only[hl]
  rw[hd]
  have hq:(s.az.map cq.enc)[p]? = some (({ s.az[p] with cW:=id :: l }:cq).enc):=by
   rw[aQ _ _ p hp,<- hl]
  generalize jH s id 1 p false=r at hm;refine bT Tryz.func49 rfl (enters_of Tryz.func49 (by kernel_rfl) rfl) tabOk (by kernel_rfl) rfl rfl rfl rfl fun w0 O _=>Tp.run [2,3,4,5] ?_;refine Ei p (Ei _ (Ai rfl (Ai hq ?_)));refine Tp.run [3,5] ?_;refine Tp.run [] ?_;refine Ei 0 (Ei [iv id] (Ai rfl (Ai rfl ?_)));refine cI hm ⟨fL s.enc,rfl,rfl,rfl,rfl,trivial⟩ (.inr rfl) ?_;refine Ei [] (Ai rfl (Ai ?_ ?_))
  all_goals repeat' first|refine Ai ?_ ?_|exact rfl|exact trivial|exact Ei _ rfl|refine aj ?_|refine bS ?_|fail
theorem PM (s:aA)(e:bV)(h:s.ok)(hv:jE q c s)(hid:er s.aa e.aO=true)(hz:0<=e.nQ∧e.nQ<=4)(hp:0<=e.bC∧e.bC < s.az.length)(hn:s.bE+1<=1000001∧s.bQ+1<=1000001):Ct ae 48 [.agg (s.enc.map .t),.agg (e.enc.map .t)] (.agg ((EW s e).enc.map .t)) [] false:=by
 generalize hM:EW s e=M;unfold EW at hM;dsimp only at hM
 by_cases hf:e.from_=0
 ·rw[if_pos hf] at hM;have mN:=Gc hv e.aO;have Nw:(rG s e.aO).ok:=eC h mN (Fi s _);have afE:er (rG s e.aO).aa e.aO=true:=(Ag _ _ _ fun o=>(D4 _ o).1).trans hid;have s8:(jH (rG s e.aO) e.aO e.nQ e.bC (e.bq==1)).1.ok:=eC h (qe mN e.aO e.nQ e.bC (e.bq==1) afE hz hp hn).val ((Fi s _).trans (qm _ _ _ _ _));have hm:=zH (rG s e.aO) e.aO e.nQ e.bC (e.bq==1) Nw;have hu:=Uq s e.aO h;generalize jH (rG s e.aO) e.aO e.nQ e.bC (e.bq==1)=r at hM hm s8;generalize rG s e.aO=u at hm hu;refine bT Tryz.func48 rfl (enters_of Tryz.func48 (by kernel_rfl) rfl) tabOk (by kernel_rfl) rfl rfl rfl rfl fun w0 O _=>Tp.run [2,3,4,5,6] ?_;refine eu (iP hf) ?_;refine Tp.run [] ?_;refine cI hu ⟨fL s.enc,rfl,trivial⟩ (.inr rfl) ?_;refine Tp.run [] ?_;refine cI hm ⟨fL u.enc,rfl,rfl,rfl,rfl,trivial⟩ (.inr rfl) ?_;refine Tp.run [5,6] ?_;refine cS (fun h0=>?_) (fun h0=>?_)
  ·have h0:e.nQ=0:=by simpa using h0
   rw[if_pos h0] at hM;subst hM;refine Tp.run [] ?_;refine cI (rO r.1 r.2 e s8) ⟨fL r.1.enc,rfl,fL e.enc,trivial⟩ (.inr rfl) ?_;refine Ei [] (Ai rfl (Ai ?_ ?_))
   all_goals repeat' first|refine Ai ?_ ?_|exact rfl|exact trivial|exact Ei _ rfl|refine aj ?_|refine bS ?_|fail
  ·have h0:¬ e.nQ=0:=by simpa using h0
   rw[if_neg h0] at hM;subst hM;refine Tp.run [] ?_;refine Ei [] (Ai rfl (Ai ?_ ?_))
   all_goals repeat' first|refine Ai ?_ ?_|exact rfl|exact trivial|exact Ei _ rfl|refine aj ?_|refine bS ?_|fail
 ·rw[if_neg hf] at hM;have s8:(jH s e.aO e.nQ e.bC (e.bq==1)).1.ok:=eC h (qe hv e.aO e.nQ e.bC (e.bq==1) hid hz hp hn).val (qm _ _ _ _ _);have hm:=zH s e.aO e.nQ e.bC (e.bq==1) h;generalize jH s e.aO e.nQ e.bC (e.bq==1)=r at hM hm s8;refine bT Tryz.func48 rfl (enters_of Tryz.func48 (by kernel_rfl) rfl) tabOk (by kernel_rfl) rfl rfl rfl rfl fun w0 O _=>Tp.run [2,3,4,5,6] ?_;refine cS (fun h=>absurd (by simpa using h) hf) (fun _=>?_);refine Tp.run [] ?_;refine cI hm ⟨fL s.enc,rfl,rfl,rfl,rfl,trivial⟩ (.inr rfl) ?_;refine Tp.run [5,6] ?_;refine cS (fun h0=>?_) (fun h0=>?_)
  ·have h0:e.nQ=0:=by simpa using h0
   rw[if_pos h0] at hM;subst hM;refine Tp.run [] ?_;refine cI (rO r.1 r.2 e s8) ⟨fL r.1.enc,rfl,fL e.enc,trivial⟩ (.inr rfl) ?_;refine Ei [] (Ai rfl (Ai ?_ ?_))
   all_goals repeat' first|refine Ai ?_ ?_|exact rfl|exact trivial|exact Ei _ rfl|refine aj ?_|refine bS ?_|fail
  ·have h0:¬ e.nQ=0:=by simpa using h0
   rw[if_neg h0] at hM;subst hM;refine Tp.run [] ?_;refine Ei [] (Ai rfl (Ai ?_ ?_))
   all_goals repeat' first|refine Ai ?_ ?_|exact rfl|exact trivial|exact Ei _ rfl|refine aj ?_|refine bS ?_|fail
theorem I0 (s:aA)(e:bV)(h0:DL s e (0,s))(hm:e.bq<=1000000):Ct ae 51 [.agg (s.enc.map .t),.agg (e.enc.map .t)] (.agg ((B5 s e e.bq.toNat).enc.map .t)) [] false:=by
 refine bT Tryz.func51 rfl (enters_of Tryz.func51 (by kernel_rfl) rfl) tabOk (by kernel_rfl) rfl rfl rfl rfl fun w0 O _=>Tp.run [2,6] ?_;refine Tp.loop (fun x:Nat × aA=>⟨[(2,.ptr 0 0),(3,.ptr 128 0),(4,.ptr 256 0),(5,AV.i x.1)],[(0,x.2.enc.map .t),(128,e.enc.map .t),(256,List.replicate 19 .bot)],[],10000⟩) (DL s e) (fun x=>e.bq.toNat - x.1) (0,s) ?_ h0 ?_
 ·refine bh [] rfl rfl ?_ ?_ ?_
  all_goals repeat' first|refine Ai ?_ ?_|exact rfl|exact trivial|exact Ei _ rfl|refine aj ?_|refine bS ?_|fail
 rintro⟨k,S⟩ hk;refine Tp.run [3,4,5,6] ?_;have pg:=fun hh=>(hk.fin hh)
 have Zm:=hk.step;have hmk:=QX S e.dK e.bC hk.ok;refine cS (fun hc=>?_) (fun hc=>?_)
 ·refine cS (fun hl=>?_) (fun hl=>?_)
  ·have hl:(S.aa.length:Int) < 2048:=by
    have:=of_decide_eq_true hl
    rwa [Lm] at this
   have hc:(k:Int) < e.bq:=of_decide_eq_true hc;have fS:=Zm (by omega) hl;have s8:=hk.okm (by omega) hl;clear Zm pg;generalize kN S e.dK e.bC=r at hmk fS s8;have anT:k+1<=e.bq.toNat:=fS.le;have O5:IntKind.i64.wrap ((k:Int)+1)=((k+1:Nat):Int):=fU k (by omega);refine Tp.run [] ?_;refine cI hmk ⟨fL S.enc,rfl,rfl,trivial⟩ (.inr rfl) ?_;refine Tp.run [] ?_;refine cI (rO r.1 r.2 e s8) ⟨fL r.1.enc,rfl,fL e.enc,trivial⟩ (.inr rfl) ?_;refine Tp.run [] ?_;refine Ei (k+1,ld r.1 r.2 e) (Ai fS (Ai (show e.bq.toNat - (k+1) < e.bq.toNat - k by omega) ?_));refine bh [] rfl rfl ?_ ?_ ?_
   ·repeat' first|refine Ai ?_ ?_|exact rfl|exact trivial|exact Ei _ rfl|refine aj ?_|refine bS ?_|fail
    exact congrArg iv O5
   all_goals repeat' first|refine Ai ?_ ?_|exact rfl|exact trivial|exact Ei _ rfl|refine aj ?_|refine bS ?_|fail
  ·have hl:¬ (S.aa.length:Int) < 2048:=by
    have:=of_decide_eq_false hl
    rwa [Lm] at this
   rw[pg (.inr hl)];refine Tp.run [] ?_;refine Ei [] (Ai rfl (Ai ?_ ?_))
   all_goals repeat' first|refine Ai ?_ ?_|exact rfl|exact trivial|exact Ei _ rfl|refine aj ?_|refine bS ?_|fail
 ·rw[pg (.inl (of_decide_eq_false hc))];refine Tp.run [] ?_;refine Ei [] (Ai rfl (Ai ?_ ?_))
  all_goals repeat' first|refine Ai ?_ ?_|exact rfl|exact trivial|exact Ei _ rfl|refine aj ?_|refine bS ?_|fail
end
theorem okp {s:aA}{o:aE}(h:s.ok)(hl:(eM s o).aa.length*128<=ba):(eM s o).ok:=by
 obtain⟨h1,h2,_,h4,h5⟩:=h;exact⟨h1,h2,hl,fun y hy=>vH y,h5⟩
theorem LP (s:aA)(all:List aG)(e:bV)(h:s.ok)(ha:all.length*176<=ba)(ma:∀ y∈all,aG.ok y)(hk:e.kind=1)(hh:er s.aa e.aO=true):Ct ae 52 [.agg (s.enc.map .t),.c (.t (.sl 17 (all.map aG.enc))),.agg (e.enc.map .t)] (.agg ((gy s all e).enc.map .t)) [] false:=by
 have hf:=gk s e.aO h.2.2.1;rw[hh] at hf;have hm:gz (fT s all e.source) e (b9 s.aa e.aO)={ b9 s.aa e.aO with fD:=ff (b9 s.aa e.aO).fD e.bq,jj:=(b9 s.aa e.aO).jj||fT s all e.source }:=by unfold gz;rw[hk];rfl
 have ho:gy s all e=eM s { b9 s.aa e.aO with fD:=ff (b9 s.aa e.aO).fD e.bq,jj:=(b9 s.aa e.aO).jj||fT s all e.source }:=by
  unfold gy;rw[if_pos hh];dsimp only;rw[if_neg (show ¬ e.kind=13 from fun hx=>by omega),hm]
 rw[ho];refine bT Tryz.func52 rfl (enters_of Tryz.func52 (by kernel_rfl) rfl) tabOk (by kernel_rfl) rfl rfl rfl rfl fun w0 O _=>Tp.run [3,4,6,7,9,11,13,15,17,19,20,22,23,24,25] ?_;refine cI hf ⟨fL s.enc,rfl,trivial⟩ (.inr rfl) ?_;refine Tp.run [6,9,11,13,15,17,19] ?_
 repeat' (first|refine eu (iP hk) ?_|refine cQ (gp hk (by decide)) ?_)
 refine Tp.run [] ?_;refine cI (j8 (b9 s.aa e.aO).fD e.bq) ⟨rfl,rfl,trivial⟩ (.inl rfl) ?_;refine Tp.run [] ?_;refine cS (fun hd=>?_) (fun hd=>?_)
 ·refine Tp.run [] ?_;refine cI (jy s { b9 s.aa e.aO with fD:=ff (b9 s.aa e.aO).fD e.bq,jj:=(b9 s.aa e.aO).jj||fT s all e.source } h) ⟨fL s.enc,?_,trivial⟩ (.inr rfl) ?_
  ·repeat' first|refine Ai ?_ ?_|exact rfl|exact trivial|exact Ei _ rfl|refine aj ?_|refine bS ?_|fail
   first
   | exact congrArg bv (by rw[hd];rfl)
   | rfl
  refine cQ (gp hk (by decide)) ?_;refine Tp.run [] ?_;refine Ei [] (Ai rfl (Ai ?_ ?_))
  all_goals repeat' first|refine Ai ?_ ?_|exact rfl|exact trivial|exact Ei _ rfl|refine aj ?_|refine bS ?_|fail
 ·refine cI (IZ s all e.source h ha ma) ⟨fL s.enc,rfl,rfl,trivial⟩ (.inl rfl) ?_;refine Tp.run [] ?_;refine cI (jy s { b9 s.aa e.aO with fD:=ff (b9 s.aa e.aO).fD e.bq,jj:=(b9 s.aa e.aO).jj||fT s all e.source } h) ⟨fL s.enc,?_,trivial⟩ (.inr rfl) ?_
  ·repeat' first|refine Ai ?_ ?_|exact rfl|exact trivial|exact Ei _ rfl|refine aj ?_|refine bS ?_|fail
   first
   | exact congrArg bv (by rw[hd];rfl)
   | rfl
  refine cQ (gp hk (by decide)) ?_;refine Tp.run [] ?_;refine Ei [] (Ai rfl (Ai ?_ ?_))
  all_goals repeat' first|refine Ai ?_ ?_|exact rfl|exact trivial|exact Ei _ rfl|refine aj ?_|refine bS ?_|fail
theorem LO (s:aA)(all:List aG)(e:bV)(h:s.ok)(hk:e.kind=6)(hh:er s.aa e.aO=true):Ct ae 52 [.agg (s.enc.map .t),.c (.t (.sl 17 (all.map aG.enc))),.agg (e.enc.map .t)] (.agg ((gy s all e).enc.map .t)) [] false:=by
 have hf:=gk s e.aO h.2.2.1;rw[hh] at hf;have hm:gz (fT s all e.source) e (b9 s.aa e.aO)={ b9 s.aa e.aO with eR:=true }:=by unfold gz;rw[hk];rfl
 have ho:gy s all e=eM s { b9 s.aa e.aO with eR:=true }:=by
  unfold gy;rw[if_pos hh];dsimp only;rw[if_neg (show ¬ e.kind=13 from fun hx=>by omega),hm]
 rw[ho];refine bT Tryz.func52 rfl (enters_of Tryz.func52 (by kernel_rfl) rfl) tabOk (by kernel_rfl) rfl rfl rfl rfl fun w0 O _=>Tp.run [3,4,6,7,9,11,13,15,17,19,20,22,23,24,25] ?_;refine cI hf ⟨fL s.enc,rfl,trivial⟩ (.inr rfl) ?_;refine Tp.run [6,9,11,13,15,17,19] ?_
 repeat' (first|refine eu (iP hk) ?_|refine cQ (gp hk (by decide)) ?_)
 refine Tp.run [] ?_;refine Tp.run [] ?_;refine cI (jy s { b9 s.aa e.aO with eR:=true } h) ⟨fL s.enc,?_,trivial⟩ (.inr rfl) ?_
 ·repeat' first|refine Ai ?_ ?_|exact rfl|exact trivial|exact Ei _ rfl|refine aj ?_|refine bS ?_|fail
 refine cQ (gp hk (by decide)) ?_;refine Tp.run [] ?_;refine Ei [] (Ai rfl (Ai ?_ ?_))
 all_goals repeat' first|refine Ai ?_ ?_|exact rfl|exact trivial|exact Ei _ rfl|refine aj ?_|refine bS ?_|fail
theorem LN (s:aA)(all:List aG)(e:bV)(h:s.ok)(hk:e.kind=7)(hh:er s.aa e.aO=true):Ct ae 52 [.agg (s.enc.map .t),.c (.t (.sl 17 (all.map aG.enc))),.agg (e.enc.map .t)] (.agg ((gy s all e).enc.map .t)) [] false:=by
 have hf:=gk s e.aO h.2.2.1;rw[hh] at hf;have hm:gz (fT s all e.source) e (b9 s.aa e.aO)={ b9 s.aa e.aO with eR:=false }:=by unfold gz;rw[hk];rfl
 have ho:gy s all e=eM s { b9 s.aa e.aO with eR:=false }:=by
  unfold gy;rw[if_pos hh];dsimp only;rw[if_neg (show ¬ e.kind=13 from fun hx=>by omega),hm]
 rw[ho];refine bT Tryz.func52 rfl (enters_of Tryz.func52 (by kernel_rfl) rfl) tabOk (by kernel_rfl) rfl rfl rfl rfl fun w0 O _=>Tp.run [3,4,6,7,9,11,13,15,17,19,20,22,23,24,25] ?_;refine cI hf ⟨fL s.enc,rfl,trivial⟩ (.inr rfl) ?_;refine Tp.run [6,9,11,13,15,17,19] ?_
 repeat' (first|refine eu (iP hk) ?_|refine cQ (gp hk (by decide)) ?_)
 refine Tp.run [] ?_;refine Tp.run [] ?_;refine cI (jy s { b9 s.aa e.aO with eR:=false } h) ⟨fL s.enc,?_,trivial⟩ (.inr rfl) ?_
 ·repeat' first|refine Ai ?_ ?_|exact rfl|exact trivial|exact Ei _ rfl|refine aj ?_|refine bS ?_|fail
 refine cQ (gp hk (by decide)) ?_;refine Tp.run [] ?_;refine Ei [] (Ai rfl (Ai ?_ ?_))
 all_goals repeat' first|refine Ai ?_ ?_|exact rfl|exact trivial|exact Ei _ rfl|refine aj ?_|refine bS ?_|fail
theorem LM (s:aA)(all:List aG)(e:bV)(h:s.ok)(hk:e.kind=8)(hh:er s.aa e.aO=true):Ct ae 52 [.agg (s.enc.map .t),.c (.t (.sl 17 (all.map aG.enc))),.agg (e.enc.map .t)] (.agg ((gy s all e).enc.map .t)) [] false:=by
 have hf:=gk s e.aO h.2.2.1;rw[hh] at hf;have hm:gz (fT s all e.source) e (b9 s.aa e.aO)={ b9 s.aa e.aO with cL:=kB 0 e.counter (b9 s.aa e.aO).cL e.bq,cK:=kB 1 e.counter (b9 s.aa e.aO).cK e.bq,dh:=kB 2 e.counter (b9 s.aa e.aO).dh e.bq }:=by unfold gz;rw[hk];rfl
 have ho:gy s all e=eM s { b9 s.aa e.aO with cL:=kB 0 e.counter (b9 s.aa e.aO).cL e.bq,cK:=kB 1 e.counter (b9 s.aa e.aO).cK e.bq,dh:=kB 2 e.counter (b9 s.aa e.aO).dh e.bq }:=by
  unfold gy;rw[if_pos hh];dsimp only;rw[if_neg (show ¬ e.kind=13 from fun hx=>by omega),hm]
 rw[ho];refine bT Tryz.func52 rfl (enters_of Tryz.func52 (by kernel_rfl) rfl) tabOk (by kernel_rfl) rfl rfl rfl rfl fun w0 O _=>Tp.run [3,4,6,7,9,11,13,15,17,19,20,22,23,24,25] ?_;refine cI hf ⟨fL s.enc,rfl,trivial⟩ (.inr rfl) ?_;refine Tp.run [6,9,11,13,15,17,19] ?_
 repeat' (first|refine eu (iP hk) ?_|refine cQ (gp hk (by decide)) ?_)
 refine Tp.run [] ?_;refine cI (ED (b9 s.aa e.aO).cL (b9 s.aa e.aO).cK (b9 s.aa e.aO).dh e.counter e.bq) ⟨?_,?_,?_,trivial⟩ (.inl rfl) ?_
 ·repeat' first|refine Ai ?_ ?_|exact rfl|exact trivial|exact Ei _ rfl|refine aj ?_|refine bS ?_|fail
 ·repeat' first|refine Ai ?_ ?_|exact rfl|exact trivial|exact Ei _ rfl|refine aj ?_|refine bS ?_|fail
 ·repeat' first|refine Ai ?_ ?_|exact rfl|exact trivial|exact Ei _ rfl|refine aj ?_|refine bS ?_|fail
 refine Tp.run [] ?_;refine cI (jy s { b9 s.aa e.aO with cL:=kB 0 e.counter (b9 s.aa e.aO).cL e.bq,cK:=kB 1 e.counter (b9 s.aa e.aO).cK e.bq,dh:=kB 2 e.counter (b9 s.aa e.aO).dh e.bq } h) ⟨fL s.enc,?_,trivial⟩ (.inr rfl) ?_
 ·repeat' first|refine Ai ?_ ?_|exact rfl|exact trivial|exact Ei _ rfl|refine aj ?_|refine bS ?_|fail
 refine cQ (gp hk (by decide)) ?_;refine Tp.run [] ?_;refine Ei [] (Ai rfl (Ai ?_ ?_))
 all_goals repeat' first|refine Ai ?_ ?_|exact rfl|exact trivial|exact Ei _ rfl|refine aj ?_|refine bS ?_|fail
theorem LL (s:aA)(all:List aG)(e:bV)(h:s.ok)(hk:e.kind=9)(hh:er s.aa e.aO=true):Ct ae 52 [.agg (s.enc.map .t),.c (.t (.sl 17 (all.map aG.enc))),.agg (e.enc.map .t)] (.agg ((gy s all e).enc.map .t)) [] false:=by
 have hf:=gk s e.aO h.2.2.1;rw[hh] at hf;have hm:gz (fT s all e.source) e (b9 s.aa e.aO)={ b9 s.aa e.aO with cL:=kB 0 e.counter (b9 s.aa e.aO).cL (IntKind.i64.wrap (0 - e.bq)),cK:=kB 1 e.counter (b9 s.aa e.aO).cK (IntKind.i64.wrap (0 - e.bq)),dh:=kB 2 e.counter (b9 s.aa e.aO).dh (IntKind.i64.wrap (0 - e.bq)) }:=by unfold gz;rw[hk];rfl
 have ho:gy s all e=eM s { b9 s.aa e.aO with cL:=kB 0 e.counter (b9 s.aa e.aO).cL (IntKind.i64.wrap (0 - e.bq)),cK:=kB 1 e.counter (b9 s.aa e.aO).cK (IntKind.i64.wrap (0 - e.bq)),dh:=kB 2 e.counter (b9 s.aa e.aO).dh (IntKind.i64.wrap (0 - e.bq)) }:=by
  unfold gy;rw[if_pos hh];dsimp only;rw[if_neg (show ¬ e.kind=13 from fun hx=>by omega),hm]
 rw[ho];refine bT Tryz.func52 rfl (enters_of Tryz.func52 (by kernel_rfl) rfl) tabOk (by kernel_rfl) rfl rfl rfl rfl fun w0 O _=>Tp.run [3,4,6,7,9,11,13,15,17,19,20,22,23,24,25] ?_;refine cI hf ⟨fL s.enc,rfl,trivial⟩ (.inr rfl) ?_;refine Tp.run [6,9,11,13,15,17,19] ?_
 repeat' (first|refine eu (iP hk) ?_|refine cQ (gp hk (by decide)) ?_)
 refine Tp.run [] ?_;refine cI (ED (b9 s.aa e.aO).cL (b9 s.aa e.aO).cK (b9 s.aa e.aO).dh e.counter (IntKind.i64.wrap (0 - e.bq))) ⟨?_,?_,?_,trivial⟩ (.inl rfl) ?_
 ·repeat' first|refine Ai ?_ ?_|exact rfl|exact trivial|exact Ei _ rfl|refine aj ?_|refine bS ?_|fail
 ·repeat' first|refine Ai ?_ ?_|exact rfl|exact trivial|exact Ei _ rfl|refine aj ?_|refine bS ?_|fail
 ·repeat' first|refine Ai ?_ ?_|exact rfl|exact trivial|exact Ei _ rfl|refine aj ?_|refine bS ?_|fail
 refine Tp.run [] ?_;refine cI (jy s { b9 s.aa e.aO with cL:=kB 0 e.counter (b9 s.aa e.aO).cL (IntKind.i64.wrap (0 - e.bq)),cK:=kB 1 e.counter (b9 s.aa e.aO).cK (IntKind.i64.wrap (0 - e.bq)),dh:=kB 2 e.counter (b9 s.aa e.aO).dh (IntKind.i64.wrap (0 - e.bq)) } h) ⟨fL s.enc,?_,trivial⟩ (.inr rfl) ?_
 ·repeat' first|refine Ai ?_ ?_|exact rfl|exact trivial|exact Ei _ rfl|refine aj ?_|refine bS ?_|fail
 refine cQ (gp hk (by decide)) ?_;refine Tp.run [] ?_;refine Ei [] (Ai rfl (Ai ?_ ?_))
 all_goals repeat' first|refine Ai ?_ ?_|exact rfl|exact trivial|exact Ei _ rfl|refine aj ?_|refine bS ?_|fail
theorem IV (s:aA)(all:List aG)(e:bV)(h:s.ok)(hk:e.kind=12)(hh:er s.aa e.aO=true):Ct ae 52 [.agg (s.enc.map .t),.c (.t (.sl 17 (all.map aG.enc))),.agg (e.enc.map .t)] (.agg ((gy s all e).enc.map .t)) [] false:=by
 have hf:=gk s e.aO h.2.2.1;rw[hh] at hf;have hm:gz (fT s all e.source) e (b9 s.aa e.aO)={ b9 s.aa e.aO with jD:=e.bC }:=by unfold gz;rw[hk];rfl
 have ho:gy s all e=eM s { b9 s.aa e.aO with jD:=e.bC }:=by
  unfold gy;rw[if_pos hh];dsimp only;rw[if_neg (show ¬ e.kind=13 from fun hx=>by omega),hm]
 rw[ho];refine bT Tryz.func52 rfl (enters_of Tryz.func52 (by kernel_rfl) rfl) tabOk (by kernel_rfl) rfl rfl rfl rfl fun w0 O _=>Tp.run [3,4,6,7,9,11,13,15,17,19,20,22,23,24,25] ?_;refine cI hf ⟨fL s.enc,rfl,trivial⟩ (.inr rfl) ?_;refine Tp.run [6,9,11,13,15,17,19] ?_
 repeat' (first|refine eu (iP hk) ?_|refine cQ (gp hk (by decide)) ?_)
 refine Tp.run [] ?_;refine Tp.run [] ?_;refine cI (jy s { b9 s.aa e.aO with jD:=e.bC } h) ⟨fL s.enc,?_,trivial⟩ (.inr rfl) ?_
 ·repeat' first|refine Ai ?_ ?_|exact rfl|exact trivial|exact Ei _ rfl|refine aj ?_|refine bS ?_|fail
 refine cQ (gp hk (by decide)) ?_;refine Tp.run [] ?_;refine Ei [] (Ai rfl (Ai ?_ ?_))
 all_goals repeat' first|refine Ai ?_ ?_|exact rfl|exact trivial|exact Ei _ rfl|refine aj ?_|refine bS ?_|fail
theorem IU (s:aA)(all:List aG)(e:bV)(h:s.ok)(hk:e.kind=13)(hh:er s.aa e.aO=true):Ct ae 52 [.agg (s.enc.map .t),.c (.t (.sl 17 (all.map aG.enc))),.agg (e.enc.map .t)] (.agg ((gy s all e).enc.map .t)) [] false:=by
 have hf:=gk s e.aO h.2.2.1;rw[hh] at hf;have hm:gz (fT s all e.source) e (b9 s.aa e.aO)={ b9 s.aa e.aO with blocks:=e.source }:=by unfold gz;rw[hk];rfl
 have ho:gy s all e=eM (eM s { b9 s.aa e.aO with blocks:=e.source }) { b9 (eM s { b9 s.aa e.aO with blocks:=e.source }).aa e.source with blocked:=true }:=by
  unfold gy;rw[if_pos hh];dsimp only;rw[if_pos hk,hm]
 rw[ho]
 have qO:(eM s { b9 s.aa e.aO with blocks:=e.source }).aa.length*128<=ba:=by
  obtain⟨i,hi,h1,h2,h3⟩:=uJ hh;rw[UB (s:=s) (o':={ b9 s.aa e.aO with blocks:=e.source }) h1 (h2▸h3)];show(s.aa.set i _).length*128<=ba;rw[bG];exact h.2.2.1
 have VV:=gk (eM s { b9 s.aa e.aO with blocks:=e.source }) e.source qO;have sf:=jy (eM s { b9 s.aa e.aO with blocks:=e.source }) { b9 (eM s { b9 s.aa e.aO with blocks:=e.source }).aa e.source with blocked:=true } (okp h qO);refine bT Tryz.func52 rfl (enters_of Tryz.func52 (by kernel_rfl) rfl) tabOk (by kernel_rfl) rfl rfl rfl rfl fun w0 O _=>Tp.run [3,4,6,7,9,11,13,15,17,19,20,22,23,24,25] ?_;refine cI hf ⟨fL s.enc,rfl,trivial⟩ (.inr rfl) ?_;refine Tp.run [6,9,11,13,15,17,19] ?_
 repeat' (first|refine eu (iP hk) ?_|refine cQ (gp hk (by decide)) ?_)
 refine Tp.run [] ?_;refine Tp.run [] ?_;refine cI (jy s { b9 s.aa e.aO with blocks:=e.source } h) ⟨fL s.enc,?_,trivial⟩ (.inr rfl) ?_
 ·repeat' first|refine Ai ?_ ?_|exact rfl|exact trivial|exact Ei _ rfl|refine aj ?_|refine bS ?_|fail
 refine eu (iP hk) ?_;refine Tp.lW [] (Tp.run [] ?_);refine cI VV ⟨?_,rfl,trivial⟩ (.inr rfl) ?_
 ·repeat' first|refine Ai ?_ ?_|exact rfl|exact trivial|exact Ei _ rfl|refine aj ?_|refine bS ?_|fail
 refine Tp.run [] ?_;refine Tp.run [] ?_;refine cI sf ⟨?_,?_,trivial⟩ (.inr rfl) ?_
 ·repeat' first|refine Ai ?_ ?_|exact rfl|exact trivial|exact Ei _ rfl|refine aj ?_|refine bS ?_|fail
 ·repeat' first|refine Ai ?_ ?_|exact rfl|exact trivial|exact Ei _ rfl|refine aj ?_|refine bS ?_|fail
 refine Tp.run [] ?_;refine Ei [] (Ai rfl (Ai ?_ ?_))
 all_goals repeat' first|refine Ai ?_ ?_|exact rfl|exact trivial|exact Ei _ rfl|refine aj ?_|refine bS ?_|fail
theorem IY (aH:List bX)(s:aA)(all:List aG)(e:bV)(hc:aH.length*176<=ba)(mc:∀ y∈aH,bX.ok y)(h:s.ok)(dZ:oN aH s e=false):Ct ae 21 [.c (.t (.sl 17 (aH.map bX.enc))),.agg (s.enc.map .t),.c (.t (.sl 17 (all.map aG.enc))),.agg (e.enc.map .t)] (.agg (s.enc.map .t)) [] false:=by
 have hv:=vt aH s e hc mc h;rw[dZ] at hv;refine bT Tryz.func21 rfl (enters_of Tryz.func21 (by kernel_rfl) rfl) tabOk (by kernel_rfl) rfl rfl rfl rfl fun w0 O _=>Tp.run [3,4,6,8,13,15,23,24] ?_;refine cI (gM s h) ⟨fL s.enc,trivial⟩ (.inr rfl) ?_;refine cI hv ⟨rfl,fL s.enc,fL e.enc,trivial⟩ (.inl rfl) ?_;refine Tp.run [] ?_;refine Ei [] (Ai rfl (Ai ?_ ?_))
 all_goals repeat' first|refine Ai ?_ ?_|exact rfl|exact trivial|exact Ei _ rfl|refine aj ?_|refine bS ?_|fail
theorem PR (aH:List bX)(s:aA)(all:List aG)(e:bV)(hc:aH.length*176<=ba)(mc:∀ y∈aH,bX.ok y)(h:s.ok)(dZ:oN aH s e=true)(hk:e.kind=2)(hm:Ct ae 48 [.agg (s.enc.map .t),.agg (e.enc.map .t)] (.agg ((EW s e).enc.map .t)) [] false):Ct ae 21 [.c (.t (.sl 17 (aH.map bX.enc))),.agg (s.enc.map .t),.c (.t (.sl 17 (all.map aG.enc))),.agg (e.enc.map .t)] (.agg ((EW s e).enc.map .t)) [] false:=by
 have hv:=vt aH s e hc mc h;rw[dZ] at hv;refine bT Tryz.func21 rfl (enters_of Tryz.func21 (by kernel_rfl) rfl) tabOk (by kernel_rfl) rfl rfl rfl rfl fun w0 O _=>Tp.run [3,4,6,8,13,15,23,24] ?_;refine cI (gM s h) ⟨fL s.enc,trivial⟩ (.inr rfl) ?_;refine cI hv ⟨rfl,fL s.enc,fL e.enc,trivial⟩ (.inl rfl) ?_;refine Tp.run [] ?_
 repeat' (first|refine eu (iP hk) ?_|refine cQ (gp hk (by decide)) ?_)
 refine Tp.lW [] (Tp.run [] ?_);refine cI (hm) ⟨?_,fL e.enc,trivial⟩ (.inr rfl) ?_
 ·repeat' first|refine Ai ?_ ?_|exact rfl|exact trivial|exact Ei _ rfl|refine aj ?_|refine bS ?_|fail
 refine Ei [] (Ai rfl (Ai ?_ ?_))
 all_goals repeat' first|refine Ai ?_ ?_|exact rfl|exact trivial|exact Ei _ rfl|refine aj ?_|refine bS ?_|fail
theorem PQ (aH:List bX)(s:aA)(all:List aG)(e:bV)(hc:aH.length*176<=ba)(mc:∀ y∈aH,bX.ok y)(h:s.ok)(dZ:oN aH s e=true)(hk:e.kind=3)(p:Nat)(hp:p < s.az.length)(he:e.bC=p):Ct ae 21 [.c (.t (.sl 17 (aH.map bX.enc))),.agg (s.enc.map .t),.c (.t (.sl 17 (all.map aG.enc))),.agg (e.enc.map .t)] (.agg ((lO s p).enc.map .t)) [] false:=by
 have hv:=vt aH s e hc mc h;rw[dZ] at hv;refine bT Tryz.func21 rfl (enters_of Tryz.func21 (by kernel_rfl) rfl) tabOk (by kernel_rfl) rfl rfl rfl rfl fun w0 O _=>Tp.run [3,4,6,8,13,15,23,24] ?_;refine cI (gM s h) ⟨fL s.enc,trivial⟩ (.inr rfl) ?_;refine cI hv ⟨rfl,fL s.enc,fL e.enc,trivial⟩ (.inl rfl) ?_;refine Tp.run [] ?_
 repeat' (first|refine eu (iP hk) ?_|refine cQ (gp hk (by decide)) ?_)
 refine Tp.lW [] (Tp.run [] ?_);refine cI (PO s p h hp) ⟨?_,congrArg iv he,trivial⟩ (.inr rfl) ?_
 ·repeat' first|refine Ai ?_ ?_|exact rfl|exact trivial|exact Ei _ rfl|refine aj ?_|refine bS ?_|fail
 refine Ei [] (Ai rfl (Ai ?_ ?_))
 all_goals repeat' first|refine Ai ?_ ?_|exact rfl|exact trivial|exact Ei _ rfl|refine aj ?_|refine bS ?_|fail
theorem Et (aH:List bX)(s:aA)(all:List aG)(e:bV)(hc:aH.length*176<=ba)(mc:∀ y∈aH,bX.ok y)(h:s.ok)(dZ:oN aH s e=true)(hk:e.kind=4∨e.kind=5∨e.kind=16∨e.kind=17)(i:Nat)(hi:i < s.az.length)(he:e.bC=i)(hb:s.az[i].cW.length<=1099511627776):Ct ae 21 [.c (.t (.sl 17 (aH.map bX.enc))),.agg (s.enc.map .t),.c (.t (.sl 17 (all.map aG.enc))),.agg (e.enc.map .t)] (.agg ((jq s e).enc.map .t)) [] false:=by
 have hq:=PN s e h hk i hi he hb;have hv:=vt aH s e hc mc h;rw[dZ] at hv;refine bT Tryz.func21 rfl (enters_of Tryz.func21 (by kernel_rfl) rfl) tabOk (by kernel_rfl) rfl rfl rfl rfl fun w0 O _=>Tp.run [3,4,6,8,13,15,23,24] ?_;refine cI (gM s h) ⟨fL s.enc,trivial⟩ (.inr rfl) ?_;refine cI hv ⟨rfl,fL s.enc,fL e.enc,trivial⟩ (.inl rfl) ?_;refine Tp.run [] ?_;rcases hk with hk|hk|hk|hk
 all_goals
  repeat' (first|refine eu (iP hk) ?_|refine cQ (gp hk (by decide)) ?_)
  refine Tp.lW [] (Tp.run [] ?_);refine cI hq ⟨?_,fL e.enc,trivial⟩ (.inr rfl) ?_
  ·repeat' first|refine Ai ?_ ?_|exact rfl|exact trivial|exact Ei _ rfl|refine aj ?_|refine bS ?_|fail
  refine Ei [] (Ai rfl (Ai ?_ ?_))
  all_goals repeat' first|refine Ai ?_ ?_|exact rfl|exact trivial|exact Ei _ rfl|refine aj ?_|refine bS ?_|fail
theorem LS (aH:List bX)(s:aA)(all:List aG)(e:bV)(hc:aH.length*176<=ba)(mc:∀ y∈aH,bX.ok y)(h:s.ok)(dZ:oN aH s e=true)(hk:e.kind=10)(hm:Ct ae 51 [.agg (s.enc.map .t),.agg (e.enc.map .t)] (.agg ((B5 s e e.bq.toNat).enc.map .t)) [] false):Ct ae 21 [.c (.t (.sl 17 (aH.map bX.enc))),.agg (s.enc.map .t),.c (.t (.sl 17 (all.map aG.enc))),.agg (e.enc.map .t)] (.agg ((B5 s e e.bq.toNat).enc.map .t)) [] false:=by
 have hv:=vt aH s e hc mc h;rw[dZ] at hv;refine bT Tryz.func21 rfl (enters_of Tryz.func21 (by kernel_rfl) rfl) tabOk (by kernel_rfl) rfl rfl rfl rfl fun w0 O _=>Tp.run [3,4,6,8,13,15,23,24] ?_;refine cI (gM s h) ⟨fL s.enc,trivial⟩ (.inr rfl) ?_;refine cI hv ⟨rfl,fL s.enc,fL e.enc,trivial⟩ (.inl rfl) ?_;refine Tp.run [] ?_
 repeat' (first|refine eu (iP hk) ?_|refine cQ (gp hk (by decide)) ?_)
 refine Tp.lW [] (Tp.run [] ?_);refine cI (hm) ⟨?_,fL e.enc,trivial⟩ (.inr rfl) ?_
 ·repeat' first|refine Ai ?_ ?_|exact rfl|exact trivial|exact Ei _ rfl|refine aj ?_|refine bS ?_|fail
 refine Ei [] (Ai rfl (Ai ?_ ?_))
 all_goals repeat' first|refine Ai ?_ ?_|exact rfl|exact trivial|exact Ei _ rfl|refine aj ?_|refine bS ?_|fail
theorem BE (aH:List bX)(s:aA)(all:List aG)(e:bV)(hc:aH.length*176<=ba)(mc:∀ y∈aH,bX.ok y)(h:s.ok)(dZ:oN aH s e=true)(hk:e.kind=1∨e.kind=6∨e.kind=7∨e.kind=8∨e.kind=9∨e.kind=12∨e.kind=13)(hm:Ct ae 52 [.agg (s.enc.map .t),.c (.t (.sl 17 (all.map aG.enc))),.agg (e.enc.map .t)] (.agg ((gy s all e).enc.map .t)) [] false):Ct ae 21 [.c (.t (.sl 17 (aH.map bX.enc))),.agg (s.enc.map .t),.c (.t (.sl 17 (all.map aG.enc))),.agg (e.enc.map .t)] (.agg ((gy s all e).enc.map .t)) [] false:=by
 have hq:=hm;have hv:=vt aH s e hc mc h;rw[dZ] at hv;refine bT Tryz.func21 rfl (enters_of Tryz.func21 (by kernel_rfl) rfl) tabOk (by kernel_rfl) rfl rfl rfl rfl fun w0 O _=>Tp.run [3,4,6,8,13,15,23,24] ?_;refine cI (gM s h) ⟨fL s.enc,trivial⟩ (.inr rfl) ?_;refine cI hv ⟨rfl,fL s.enc,fL e.enc,trivial⟩ (.inl rfl) ?_;refine Tp.run [] ?_;rcases hk with hk|hk|hk|hk|hk|hk|hk
 all_goals
  repeat' (first|refine eu (iP hk) ?_|refine cQ (gp hk (by decide)) ?_)
  refine Tp.lW [] (Tp.run [] ?_);refine cI hq ⟨?_,rfl,fL e.enc,trivial⟩ (.inr rfl) ?_
  ·repeat' first|refine Ai ?_ ?_|exact rfl|exact trivial|exact Ei _ rfl|refine aj ?_|refine bS ?_|fail
  refine Ei [] (Ai rfl (Ai ?_ ?_))
  all_goals repeat' first|refine Ai ?_ ?_|exact rfl|exact trivial|exact Ei _ rfl|refine aj ?_|refine bS ?_|fail
theorem LR (aH:List bX)(s:aA)(all:List aG)(e:bV)(hc:aH.length*176<=ba)(mc:∀ y∈aH,bX.ok y)(h:s.ok)(dZ:oN aH s e=true)(hk:e.kind=11∨e.kind=14∨e.kind=15):Ct ae 21 [.c (.t (.sl 17 (aH.map bX.enc))),.agg (s.enc.map .t),.c (.t (.sl 17 (all.map aG.enc))),.agg (e.enc.map .t)] (.agg (s.enc.map .t)) [] false:=by
 have hv:=vt aH s e hc mc h;rw[dZ] at hv;refine bT Tryz.func21 rfl (enters_of Tryz.func21 (by kernel_rfl) rfl) tabOk (by kernel_rfl) rfl rfl rfl rfl fun w0 O _=>Tp.run [3,4,6,8,13,15,23,24] ?_;refine cI (gM s h) ⟨fL s.enc,trivial⟩ (.inr rfl) ?_;refine cI hv ⟨rfl,fL s.enc,fL e.enc,trivial⟩ (.inl rfl) ?_;refine Tp.run [] ?_;rcases hk with hk|hk|hk
 all_goals
  repeat' (first|refine eu (iP hk) ?_|refine cQ (gp hk (by decide)) ?_)
  refine Tp.lW [] (Tp.run [] ?_);refine Ei [] (Ai rfl (Ai ?_ ?_))
  all_goals repeat' first|refine Ai ?_ ?_|exact rfl|exact trivial|exact Ei _ rfl|refine aj ?_|refine bS ?_|fail
theorem IT (s:aA)(all:List aG)(e:bV)(h:s.ok)(hh:er s.aa e.aO=false):Ct ae 52 [.agg (s.enc.map .t),.c (.t (.sl 17 (all.map aG.enc))),.agg (e.enc.map .t)] (.agg ((gy s all e).enc.map .t)) [] false:=by
 have ho:gy s all e=s:=by
  unfold gy;rw[if_neg (by rw[hh];decide)]
 rw[ho];have hf:=gk s e.aO h.2.2.1;rw[hh] at hf;refine bT Tryz.func52 rfl (enters_of Tryz.func52 (by kernel_rfl) rfl) tabOk (by kernel_rfl) rfl rfl rfl rfl fun w0 O _=>Tp.run [3,4] ?_;refine cI hf ⟨fL s.enc,rfl,trivial⟩ (.inr rfl) ?_;refine Tp.run [] ?_;refine Ei [] (Ai rfl (Ai ?_ ?_))
 all_goals repeat' first|refine Ai ?_ ?_|exact rfl|exact trivial|exact Ei _ rfl|refine aj ?_|refine bS ?_|fail
theorem LQ (s:aA)(all:List aG)(e:bV)(h:s.ok)(ha:all.length*176<=ba)(ma:∀ y∈all,aG.ok y)(hk:e.kind=1∨e.kind=6∨e.kind=7∨e.kind=8∨e.kind=9∨e.kind=12∨e.kind=13):Ct ae 52 [.agg (s.enc.map .t),.c (.t (.sl 17 (all.map aG.enc))),.agg (e.enc.map .t)] (.agg ((gy s all e).enc.map .t)) [] false:=by
 by_cases hh:er s.aa e.aO=true
 ·rcases hk with hk|hk|hk|hk|hk|hk|hk
  ·exact LP s all e h ha ma hk hh
  ·exact LO s all e h hk hh
  ·exact LN s all e h hk hh
  ·exact LM s all e h hk hh
  ·exact LL s all e h hk hh
  ·exact IV s all e h hk hh
  ·exact IU s all e h hk hh
 ·exact IT s all e h (by simpa using hh)
end Go.Proofs.YtbmdcnkidjlbbaaGreat
end
section
namespace Go.Proofs.YtbmdcnkidjlbbaaGreat
open Go Cg
section
inductive TU (aH:List bX) (s:aA) (e:bV):Prop where
 | mv:e.kind=2->er s.aa e.aO=true->0<=e.nQ∧e.nQ<=4->0<=e.bC∧e.bC < s.az.length->TU aH s e
 | cr:e.kind=10->kX s e.bC=true->y0 aH e.dK=true->qG e.bq=true->TU aH s e
 | dr:e.kind=3->kX s e.bC=true->TU aH s e
 | lf:(e.kind=4∨e.kind=5∨e.kind=16∨e.kind=17)->kX s e.bC=true->(e.kind=17∨qG e.bq=true)->TU aH s e
 | ob:(e.kind=1∨e.kind=6∨e.kind=7∨e.kind=8∨e.kind=9∨e.kind=12∨e.kind=13)->iY s e.aO=true->(e.kind=1∨e.kind=8∨e.kind=9->qG e.bq=true)->(e.kind=6->(b9 s.aa e.aO).eR=false)->(e.kind=8∨e.kind=9->0<=e.counter∧e.counter < 3)->(e.kind=13->iY s e.source=true)->TU aH s e
 | no:e.kind=1->er s.aa e.aO=false->TU aH s e
 | ot:(e.kind=11∨e.kind=14∨e.kind=15)->TU aH s e
variable {q:tp}{s:aA}
theorem NV {aH:List bX}{e:bV}(h:jE q aH.length s)(dZ:oN aH s e=true):TU aH s e:=by
 unfold oN at dZ
 by_cases k1:e.kind=1
 ·rw[if_pos k1,ag,cm,ag,beq_iff_eq] at dZ;rcases dZ.2 with h1|h1
  ·exact .ob (by omega) h1 (fun _=>dZ.1) (by omega) (by omega) (by omega)
  ·exact .no k1 (by rw[h1.1];exact F9 h)
 rw[if_neg k1] at dZ
 by_cases k2:e.kind=2
 ·rw[if_pos k2] at dZ;simp only[ag,beq_iff_eq,decide_eq_true_eq] at dZ;obtain⟨a1,_,_,a2,a3,a4,a5⟩:=dZ;exact .mv k2 a1 ⟨a2,a3⟩ ⟨a4,a5⟩
 rw[if_neg k2] at dZ
 by_cases k3:e.kind=3∨e.kind=14∨e.kind=15∨e.kind=17
 ·rw[if_pos k3] at dZ
  by_cases k17:e.kind=17
  ·exact .lf (by omega) dZ (.inl k17)
  by_cases k33:e.kind=3
  ·exact .dr k33 dZ
  ·exact .ot (by omega)
 rw[if_neg k3] at dZ
 by_cases k4:e.kind=4∨e.kind=5∨e.kind=16
 ·rw[if_pos k4,ag] at dZ;exact .lf (by omega) dZ.1 (.inr dZ.2)
 rw[if_neg k4] at dZ
 by_cases k6:e.kind=6
 ·rw[if_pos k6,ag] at dZ;exact .ob (by omega) dZ.1 (by omega) (fun _=>by simpa using dZ.2) (by omega) (by omega)
 rw[if_neg k6] at dZ
 by_cases k7:e.kind=7
 ·rw[if_pos k7,ag] at dZ;exact .ob (by omega) dZ.1 (by omega) (by omega) (by omega) (by omega)
 rw[if_neg k7] at dZ
 by_cases k8:e.kind=8∨e.kind=9
 ·rw[if_pos k8,ag,ag,ag,decide_eq_true_eq,decide_eq_true_eq] at dZ;exact .ob (by omega) dZ.1 (fun _=>dZ.2.2.2) (by omega) (fun _=>⟨dZ.2.1,dZ.2.2.1⟩) (by omega)
 rw[if_neg k8] at dZ
 by_cases YQ:e.kind=10
 ·rw[if_pos YQ,ag,ag] at dZ;exact .cr YQ dZ.1 dZ.2.1 dZ.2.2
 rw[if_neg YQ] at dZ
 by_cases k11:e.kind=11
 ·exact .ot (.inl k11)
 rw[if_neg k11] at dZ
 by_cases YP:e.kind=12
 ·rw[if_pos YP,ag] at dZ;exact .ob (by omega) dZ.1 (by omega) (by omega) (by omega) (by omega)
 rw[if_neg YP] at dZ
 by_cases YO:e.kind=13
 ·rw[if_pos YO,ag] at dZ;exact .ob (by omega) dZ.1 (by omega) (by omega) (by omega) (fun _=>dZ.2)
 rw[if_neg YO] at dZ
 cases dZ
theorem TJ {aH:List bX}{s:aA}{all:List aG}{e:bV}(h:oN aH s e=false):wG aH s all e=s:=by
 unfold wG;rw[h];rfl
theorem ZP {aH:List bX}{s:aA}{all:List aG}{e:bV}(h:oN aH s e=true)(hk:e.kind=2):wG aH s all e=EW s e:=by
 unfold wG;rw[if_pos h,if_pos hk]
theorem agQ {aH:List bX}{s:aA}{all:List aG}{e:bV}(h:oN aH s e=true)(hk:e.kind=3):wG aH s all e=lO s e.bC:=by
 unfold wG iJ;rw[if_pos h,if_neg (by omega),if_pos hk]
theorem Sf {aH:List bX}{s:aA}{all:List aG}{e:bV}(h:oN aH s e=true)(hk:e.kind=4∨e.kind=5∨e.kind=16∨e.kind=17):wG aH s all e=jq s e:=by
 unfold wG iJ;rw[if_pos h,if_neg (by omega),if_neg (by omega),if_pos hk]
theorem TK {aH:List bX}{s:aA}{all:List aG}{e:bV}(h:oN aH s e=true)(hk:e.kind=10):wG aH s all e=B5 s e e.bq.toNat:=by
 unfold wG iJ;rw[if_pos h,if_neg (by omega),if_neg (by omega),if_neg (by omega),if_pos hk]
theorem N8 {aH:List bX}{s:aA}{all:List aG}{e:bV}(h:oN aH s e=true)(hk:e.kind=1∨e.kind=6∨e.kind=7∨e.kind=8∨e.kind=9∨e.kind=12∨e.kind=13):wG aH s all e=gy s all e:=by
 unfold wG iJ;rw[if_pos h,if_neg (by omega),if_neg (by omega),if_neg (by omega),if_neg (by omega),if_pos hk]
theorem ZO {aH:List bX}{s:aA}{all:List aG}{e:bV}(h:oN aH s e=true)(hk:e.kind=11∨e.kind=14∨e.kind=15):wG aH s all e=s:=by
 unfold wG iJ;rw[if_pos h,if_neg (by omega),if_neg (by omega),if_neg (by omega),if_neg (by omega),if_neg (by omega)]
theorem Dw {c:Int}(h:jE q c s):s.bw.length<=2048:=by
 have:=jd h 0 0
 rwa [kg] at this
end
end Go.Proofs.YtbmdcnkidjlbbaaGreat
end
section
namespace Go.Proofs.YtbmdcnkidjlbbaaGreat
open Go Cg Go.RowKit Go.Sort
section
variable {q:tp}
structure Pe (q:tp)(aH:List bX)(s:aA)(all:List aG):Prop where
 hc:aH.length*176<=ba
 mc:∀ y∈aH,bX.ok y
 h:s.ok
 ha:all.length*176<=ba
 ma:∀ y∈all,aG.ok y
 v:jE q aH.length s
 n:s.bE<=1000000∧s.bQ<=1000000
theorem MU {c:Int}{s:aA}(h:jE q c s):∀ p∈s.az,p.cW.length<=1099511627776:=fun p hp=>by
 have:=(yf h hp).1;omega
theorem Pw {c:Int}{s:aA}(h:jE q c s):(s.aa.map aE.id).Pairwise (· < ·):=List.pairwise_map.2 h.qN
theorem zy {c:Int}{s:aA}(h:jE q c s):∀ i∈s.aa.map aE.id,0<=i:=fun i hi=>by
 obtain⟨o,ho,rfl⟩:=bA.1 hi;have:=(jP h ho).id;omega
theorem Pe.crp {aH:List bX}{s:aA}{all:List aG}(H:Pe q aH s all)(e:bV):DL s e (0,s):=by
 have hb:=Dw H.v;have hn:=H.n;have h1:=H.v.GX;exact DL.start H.h (fun y hy=>(H.v.obj y hy).2.1) (Pw H.v) (by omega) (by omega) (zy H.v)
structure DoR (s t:aA):Prop where
 ok:t.ok
 qN:t.aa.Pairwise fun a b=>a.id < b.id
 len:t.aa.length<=2048
 ct:t.dG=s.dG
 pos:∀ i∈t.aa.map aE.id,0<=i
theorem Pe.res {aH:List bX}{s:aA}{all:List aG}(H:Pe q aH s all)(e:bV):DoR s (wG aH s all e):=by
 have A3:=(Th aH s all e).ct;have hlen:∀ {t:aA},jE q aH.length t->t.aa.length<=2048:=fun h=>by have:=h.ER;omega
 by_cases hk:e.kind=10
 ·by_cases dZ:oN aH s e=true
  ·rw[TK dZ hk] at A3 ⊢;obtain⟨h1,h2,h3,h4⟩:=DL.end_ _ 0 s rfl (hlen H.v) (H.crp e);exact⟨h1,List.pairwise_map.1 h2,h3,A3,h4⟩
  ·rw[TJ (by simpa using dZ)];exact⟨H.h,H.v.qN,hlen H.v,rfl,zy H.v⟩
 ·have hv:=(Wu H.v all e H.n hk (MU H.v)).val;exact⟨eC H.h hv (Th aH s all e),hv.qN,hlen hv,A3,zy hv⟩
theorem Yd {aH:List bX}{s:aA}{all:List aG}{e:bV}(H:Pe q aH s all):Ct ae 21 [.c (.t (.sl 17 (aH.map bX.enc))),.agg (s.enc.map .t),.c (.t (.sl 17 (all.map aG.enc))),.agg (e.enc.map .t)] (.agg ((wG aH s all e).enc.map .t)) [] false:=by
 have hcr:=H.crp e;obtain⟨hc,mc,h,ha,ma,hv,hn⟩:=H
 cases dZ:oN aH s e with
 | false=>rw[TJ dZ];exact IY aH s all e hc mc h dZ
 | true=>
  have nn:=hv.GX;have hbf:=Dw hv;rcases NV hv dZ with⟨hk,a1,a2,a3⟩|⟨hk,_,_,a4⟩|⟨hk,a1⟩|⟨hk,a1,_⟩|⟨hk,a1,_,_,_,a2⟩|⟨hk,a1⟩|hk
  ·rw[ZP dZ hk];exact PR aH s all e hc mc h dZ hk (PM s e h hv a1 a2 a3 (by omega))
  ·rw[TK dZ hk];exact LS aH s all e hc mc h dZ hk (I0 s e hcr (F2 a4).2)
  ·rw[agQ dZ hk];obtain⟨p1,p2⟩:=vS a1;have he:e.bC=(e.bC.toNat:Int):=by omega
   have hd:=PQ aH s all e hc mc h dZ hk e.bC.toNat (by omega) he
   rwa [<- he] at hd
  ·rw[Sf dZ hk];obtain⟨p1,p2⟩:=vS a1;have hi:e.bC.toNat < s.az.length:=by omega
   have hb:=MU hv _ (aI hi);exact Et aH s all e hc mc h dZ hk e.bC.toNat hi (by omega) hb
  ·rw[N8 dZ hk];exact BE aH s all e hc mc h dZ hk (LQ s all e h ha ma hk)
  ·rw[N8 dZ (.inl hk)];exact BE aH s all e hc mc h dZ (.inl hk) (LQ s all e h ha ma (.inl hk))
  ·rw[ZO dZ hk];exact LR aH s all e hc mc h dZ hk
end
end Go.Proofs.YtbmdcnkidjlbbaaGreat
end
section
namespace Go.Proofs
open Go.Shelf
section
def Tryz.Cj:Go.Shelf.Ren:=⟨fun|144=>277|143=>281|219=>284|217=>296|225=>297|224=>298|267=>299|266=>305|314=>306|n=>n,fun|9=>9|4=>4|3=>3|5=>5|46=>245|146=>307|51=>298|n=>n,fun|1=>0|n=>n⟩
theorem Tryz.Q8:Go.Proofs.Lays.n144 ae Tryz.Cj:={
 mixed:=by kernel_rfl
 f143:=Tryz.func281.trans (congrArg some (by kernel_rfl))
 f144:=Tryz.func277.trans (congrArg some (by kernel_rfl))
 f217:=Tryz.func296.trans (congrArg some (by kernel_rfl))
 f219:=Tryz.func284.trans (congrArg some (by kernel_rfl))
 f224:=Tryz.func298.trans (congrArg some (by kernel_rfl))
 f225:=Tryz.func297.trans (congrArg some (by kernel_rfl))
 f266:=Tryz.func305.trans (congrArg some (by kernel_rfl))
 f267:=Tryz.func299.trans (congrArg some (by kernel_rfl))
 f314:=Tryz.func306.trans (congrArg some (by kernel_rfl))
 t3:=Tryz.underlying3
 a3:=Tryz.isAgg3
 z3:=Tryz.sizeOf3
 v3:=Tryz.zeroValue3
 t4:=Tryz.underlying4
 a4:=Tryz.isAgg4
 z4:=Tryz.sizeOf4
 v4:=Tryz.zeroValue4
 t5:=Tryz.underlying5
 a5:=Tryz.isAgg5
 z5:=Tryz.sizeOf5
 v5:=Tryz.zeroValue5
 t9:=Tryz.underlying9
 a9:=Tryz.isAgg9
 z9:=Tryz.sizeOf9
 v9:=Tryz.zeroValue9
 t46:=Tryz.underlying245
 a46:=Tryz.isAgg245
 z46:=Tryz.sizeOf245
 v46:=Tryz.zeroValue245
 t51:=Tryz.underlying298
 a51:=Tryz.isAgg298
 z51:=Tryz.sizeOf298
 v51:=Tryz.zeroValue298
 t146:=Tryz.underlying307
 a146:=Tryz.isAgg307
 z146:=Tryz.sizeOf307
 v146:=Tryz.zeroValue307
 g1:=by kernel_rfl }
open Go.RowKit Go.Lib in
theorem Tryz.strings_Contains (s sub:ByteArray)(m:Int)(w:World)(hs:s.size < 4294967281)(hm:w.cell? ⟨0,0,none⟩=some (.int .i64 m)) :
  Calls ae 277 #[.string s,.string sub] w fun e w'=>e=.returned (.bool (Lib.contains s.data.toList sub.data.toList))∧w'=w:=Any.strings_Contains Tryz.Q8 s sub m w hs hm
def Tryz.Ci:Go.Shelf.Ren:=⟨fun|189=>278|125=>283|257=>282|128=>294|129=>295|294=>285|295=>286|296=>287|297=>288|298=>289|299=>290|216=>291|300=>292|301=>293|328=>300|329=>301|330=>302|331=>303|332=>304|215=>66|343=>307|n=>n,fun|28=>25|3=>3|46=>245|0=>0|51=>298|53=>29|4=>4|183=>291|182=>290|131=>295|5=>5|9=>9|218=>301|222=>305|228=>309|229=>310|n=>n,fun|n=>n⟩
theorem Tryz.Hd:Go.Proofs.Lays.n189 ae Tryz.Ci:={
 mixed:=by kernel_rfl
 f125:=Tryz.func283.trans (congrArg some (by kernel_rfl))
 f128:=Tryz.func294.trans (congrArg some (by kernel_rfl))
 f129:=Tryz.func295.trans (congrArg some (by kernel_rfl))
 f189:=Tryz.func278.trans (congrArg some (by kernel_rfl))
 f215:=Tryz.func66.trans (congrArg some (by kernel_rfl))
 f216:=Tryz.func291.trans (congrArg some (by kernel_rfl))
 f257:=Tryz.func282.trans (congrArg some (by kernel_rfl))
 f294:=Tryz.func285.trans (congrArg some (by kernel_rfl))
 f295:=Tryz.func286.trans (congrArg some (by kernel_rfl))
 f296:=Tryz.func287.trans (congrArg some (by kernel_rfl))
 f297:=Tryz.func288.trans (congrArg some (by kernel_rfl))
 f298:=Tryz.func289.trans (congrArg some (by kernel_rfl))
 f299:=Tryz.func290.trans (congrArg some (by kernel_rfl))
 f300:=Tryz.func292.trans (congrArg some (by kernel_rfl))
 f301:=Tryz.func293.trans (congrArg some (by kernel_rfl))
 f328:=Tryz.func300.trans (congrArg some (by kernel_rfl))
 f329:=Tryz.func301.trans (congrArg some (by kernel_rfl))
 f330:=Tryz.func302.trans (congrArg some (by kernel_rfl))
 f331:=Tryz.func303.trans (congrArg some (by kernel_rfl))
 f332:=Tryz.func304.trans (congrArg some (by kernel_rfl))
 f343:=Tryz.func307.trans (congrArg some (by kernel_rfl))
 t0:=Tryz.underlying0
 a0:=Tryz.isAgg0
 z0:=Tryz.sizeOf0
 v0:=Tryz.zeroValue0
 t3:=Tryz.underlying3
 a3:=Tryz.isAgg3
 z3:=Tryz.sizeOf3
 v3:=Tryz.zeroValue3
 t4:=Tryz.underlying4
 a4:=Tryz.isAgg4
 z4:=Tryz.sizeOf4
 v4:=Tryz.zeroValue4
 t5:=Tryz.underlying5
 a5:=Tryz.isAgg5
 z5:=Tryz.sizeOf5
 v5:=Tryz.zeroValue5
 t9:=Tryz.underlying9
 a9:=Tryz.isAgg9
 z9:=Tryz.sizeOf9
 v9:=Tryz.zeroValue9
 t28:=Tryz.underlying25
 a28:=Tryz.isAgg25
 z28:=Tryz.sizeOf25
 v28:=Tryz.zeroValue25
 t46:=Tryz.underlying245
 a46:=Tryz.isAgg245
 z46:=Tryz.sizeOf245
 v46:=Tryz.zeroValue245
 t51:=Tryz.underlying298
 a51:=Tryz.isAgg298
 z51:=Tryz.sizeOf298
 v51:=Tryz.zeroValue298
 t53:=Tryz.underlying29
 a53:=Tryz.isAgg29
 z53:=Tryz.sizeOf29
 v53:=Tryz.zeroValue29
 t131:=Tryz.underlying295
 a131:=Tryz.isAgg295
 z131:=Tryz.sizeOf295
 v131:=Tryz.zeroValue295
 t182:=Tryz.underlying290
 a182:=Tryz.isAgg290
 z182:=Tryz.sizeOf290
 v182:=Tryz.zeroValue290
 t183:=Tryz.underlying291
 a183:=Tryz.isAgg291
 z183:=Tryz.sizeOf291
 v183:=Tryz.zeroValue291
 t218:=Tryz.underlying301
 a218:=Tryz.isAgg301
 z218:=Tryz.sizeOf301
 v218:=Tryz.zeroValue301
 t222:=Tryz.underlying305
 a222:=Tryz.isAgg305
 z222:=Tryz.sizeOf305
 v222:=Tryz.zeroValue305
 t228:=Tryz.underlying309
 a228:=Tryz.isAgg309
 z228:=Tryz.sizeOf309
 v228:=Tryz.zeroValue309
 t229:=Tryz.underlying310
 a229:=Tryz.isAgg310
 z229:=Tryz.sizeOf310
 v229:=Tryz.zeroValue310 }
open Go.Sort Go.RowKit in
theorem Tryz.slices_Sort_int (oJ off cap:Nat)(zs:List Int)(w:World)(hH:Holds (Value.int .i64) w oJ off zs.toArray)(V8:oJ < w.heap.size)(lh:zs.length < 4611686018427387904) :
  Calls ae 278 #[.slice (some ⟨oJ,off,none⟩) zs.length cap] w fun e w'=>
   e=.returned (.tuple #[])∧∃ n os,w'=grow (putRow (Value.int .i64) (Sort.ahead w n) oJ off (zs.mergeSort fun x y=>decide (x<=y)).toArray) os:=Any.slices_Sort_int Tryz.Hd oJ off cap zs w hH V8 lh
def Tryz.Ck:Go.Shelf.Ren:=⟨fun|107=>270|108=>280|n=>n,fun|28=>25|3=>3|4=>4|0=>0|n=>n,fun|n=>n⟩
theorem Tryz.He:Go.Proofs.Lays.n107 ae Tryz.Ck:={
 mixed:=by kernel_rfl
 f107:=Tryz.func270.trans (congrArg some (by kernel_rfl))
 f108:=Tryz.func280.trans (congrArg some (by kernel_rfl))
 t0:=Tryz.underlying0
 a0:=Tryz.isAgg0
 z0:=Tryz.sizeOf0
 v0:=Tryz.zeroValue0
 t3:=Tryz.underlying3
 a3:=Tryz.isAgg3
 z3:=Tryz.sizeOf3
 v3:=Tryz.zeroValue3
 t4:=Tryz.underlying4
 a4:=Tryz.isAgg4
 z4:=Tryz.sizeOf4
 v4:=Tryz.zeroValue4
 t28:=Tryz.underlying25
 a28:=Tryz.isAgg25
 z28:=Tryz.sizeOf25
 v28:=Tryz.zeroValue25 }
open Go.Lib in
theorem Tryz.slices_Contains_int (b off n c:Nat)(zs:List Int)(x:Int)(w:World)(hz:n<=zs.length)(V9:n<=9223372036854775807)(hc:∀ j,j < zs.length->w.cell? ⟨b,off+j,none⟩=some (.int .i64 (zs.getD j 0))) :
  Calls ae 270 #[.slice (some ⟨b,off,none⟩) n c,.int .i64 x] w fun e w'=>e=.returned (.bool ((zs.take n).contains x))∧w'=w:=Any.slices_Contains_int Tryz.He b off n c zs x w hz V9 hc
open Go.Lib in
theorem Tryz.slices_Contains_int_empty (a:Option Addr)(c:Nat)(x:Int)(w:World) :
  Calls ae 270 #[.slice a 0 c,.int .i64 x] w fun e w'=>e=.returned (.bool false)∧w'=w:=Any.slices_Contains_int_empty Tryz.He a c x w
def Tryz.xq:Go.Shelf.Ren:=⟨fun|15=>268|n=>n,fun|22=>25|3=>3|4=>4|n=>n,fun|n=>n⟩
theorem Tryz.rX:Go.Proofs.Lays2.n15 ae Tryz.xq:={
 mixed:=by kernel_rfl
 f15:=Tryz.func268.trans (congrArg some (by kernel_rfl))
 t3:=Tryz.underlying3
 a3:=Tryz.isAgg3
 z3:=Tryz.sizeOf3
 v3:=Tryz.zeroValue3
 t4:=Tryz.underlying4
 a4:=Tryz.isAgg4
 z4:=Tryz.sizeOf4
 v4:=Tryz.zeroValue4
 t22:=Tryz.underlying25
 a22:=Tryz.isAgg25
 z22:=Tryz.sizeOf25
 v22:=Tryz.zeroValue25
 i3:=by kernel_rfl }
open Go.RowKit Go.Lib in
theorem Tryz.slices_Clone_int (b off n c:Nat)(zs:List Int)(w:World)(hz:n<=zs.length)(V9:n*8<=140737488355328)(hc:∀ j,j < zs.length->w.cell? ⟨b,off+j,none⟩=some (.int .i64 (zs.getD j 0))) :
  Calls ae 268 #[.slice (some ⟨b,off,none⟩) n c] w fun e w'=>∃ v',e=.returned v'∧w'.ownsRow w.heap.size 3 1 v' n ((zs.take n).map (Value.int .i64))∧v'≠.slice none 0 0∧Below w.heap.size w w':=Any.slices_Clone_int Tryz.rX b off n c zs w hz V9 hc
open Go.RowKit Go.Lib in
theorem Tryz.slices_Clone_int_nil (n c:Nat)(w:World) :
  Calls ae 268 #[.slice none n c] w fun e w'=>e=.returned (.slice none 0 0)∧w'=w:=Any.slices_Clone_int_nil Tryz.rX n c w
open Go.RowKit Go.Lib in
theorem Tryz.slices_Clone_int_zero (a:Addr)(c:Nat)(w:World) :
  Calls ae 268 #[.slice (some a) 0 c] w fun e w'=>∃ v',e=.returned v'∧w'.ownsRow w.heap.size 3 1 v' 0 []∧v'≠.slice none 0 0∧Below w.heap.size w w':=Any.slices_Clone_int_zero Tryz.rX a c w
def Tryz.xp:Go.Shelf.Ren:=⟨fun|20=>279|n=>n,fun|22=>25|3=>3|4=>4|0=>0|n=>n,fun|n=>n⟩
theorem Tryz.yu:Go.Proofs.Lays2.n20 ae Tryz.xp:={
 mixed:=by kernel_rfl
 f20:=Tryz.func279.trans (congrArg some (by kernel_rfl))
 t0:=Tryz.underlying0
 a0:=Tryz.isAgg0
 z0:=Tryz.sizeOf0
 v0:=Tryz.zeroValue0
 t3:=Tryz.underlying3
 a3:=Tryz.isAgg3
 z3:=Tryz.sizeOf3
 v3:=Tryz.zeroValue3
 t4:=Tryz.underlying4
 a4:=Tryz.isAgg4
 z4:=Tryz.sizeOf4
 v4:=Tryz.zeroValue4
 t22:=Tryz.underlying25
 a22:=Tryz.isAgg25
 z22:=Tryz.sizeOf25
 v22:=Tryz.zeroValue25
 i3:=by kernel_rfl }
open Go.RowKit Go.Lib Go.Sort in
theorem Tryz.slices_Compact_int (oJ off cap:Nat)(zs:List Int)(w:World)(hH:Holds (Value.int .i64) w oJ off zs.toArray)(lh:zs.length<=9223372036854775807)(mV:zs.length<=cap) :
  Calls ae 279 #[.slice (some ⟨oJ,off,none⟩) zs.length cap] w fun e w'=>e=.returned (.slice (some ⟨oJ,off,none⟩) (Lib.compact zs).length cap)∧∃ q,w'=putRow (Value.int .i64) (Sort.ahead w q) oJ off (Lib.compact zs++List.replicate (zs.length - (Lib.compact zs).length) 0).toArray:=Any.slices_Compact_int Tryz.yu oJ off cap zs w hH lh mV
open Go.RowKit Go.Lib Go.Sort in
theorem Tryz.slices_Compact_int_empty (a:Option Addr)(cap:Nat)(w:World) :
  Calls ae 279 #[.slice a 0 cap] w fun e w'=>e=.returned (.slice a 0 cap)∧w'=w:=Any.slices_Compact_int_empty Tryz.yu a cap w
open Go.RowKit Go.Sort in
theorem Tryz.slices_Sort_int_none (p:Option Addr)(cap:Nat)(w:World) :
  Calls ae 278 #[.slice p 0 cap] w fun e w'=>e=.returned (.tuple #[])∧w'=w:=Any.slices_Sort_int_none Tryz.Hd p cap w
def Tryz.ql:Go.Shelf.Ren:=⟨fun|6=>187|n=>n,fun|22=>25|23=>3|25=>153|3=>3|0=>0|4=>4|n=>n,fun|n=>n⟩
theorem Tryz.xo:Go.Proofs.SlLaysH.n6 ae Tryz.ql:={
 mixed:=by kernel_rfl
 f6:=⟨Tryz.f187.name,by decide,Tryz.func187.trans (congrArg some (by kernel_rfl))⟩
 t0:=Tryz.underlying0
 a0:=Tryz.isAgg0
 z0:=Tryz.sizeOf0
 v0:=Tryz.zeroValue0
 t3:=Tryz.underlying3
 a3:=Tryz.isAgg3
 z3:=Tryz.sizeOf3
 v3:=Tryz.zeroValue3
 t4:=Tryz.underlying4
 a4:=Tryz.isAgg4
 z4:=Tryz.sizeOf4
 v4:=Tryz.zeroValue4
 t22:=Tryz.underlying25
 a22:=Tryz.isAgg25
 z22:=Tryz.sizeOf25
 v22:=Tryz.zeroValue25
 a23:=Tryz.isAgg3
 z23:=Tryz.sizeOf3
 t25:=Tryz.underlying153
 a25:=Tryz.isAgg153
 z25:=Tryz.sizeOf153
 v25:=Tryz.zeroValue153 }
open Go.RowKit Go.Lib in
theorem Tryz.slices_IndexFunc_empty {α:Type}[Inhabited α](a:Option Addr)(c:Nat)(fv:Value)(w:World) :
  Calls ae 187 #[.slice a 0 c,fv] w fun e w'=>e=.returned (.int .i64 (-1))∧w'=w:=AnyE.slices_IndexFunc_empty Tryz.xo a c fv w
def Tryz.pf:Go.Shelf.Ren:=⟨fun|10=>130|6=>187|n=>n,fun|22=>25|23=>3|25=>153|3=>3|4=>4|0=>0|n=>n,fun|n=>n⟩
theorem Tryz.vU:Go.Proofs.SlLaysH.n10 ae Tryz.pf:={
 mixed:=by kernel_rfl
 f6:=⟨Tryz.f187.name,by decide,Tryz.func187.trans (congrArg some (by kernel_rfl))⟩
 f10:=⟨Tryz.f130.name,by decide,Tryz.func130.trans (congrArg some (by kernel_rfl))⟩
 t0:=Tryz.underlying0
 a0:=Tryz.isAgg0
 z0:=Tryz.sizeOf0
 v0:=Tryz.zeroValue0
 t3:=Tryz.underlying3
 a3:=Tryz.isAgg3
 z3:=Tryz.sizeOf3
 v3:=Tryz.zeroValue3
 t4:=Tryz.underlying4
 a4:=Tryz.isAgg4
 z4:=Tryz.sizeOf4
 v4:=Tryz.zeroValue4
 t22:=Tryz.underlying25
 a22:=Tryz.isAgg25
 z22:=Tryz.sizeOf25
 v22:=Tryz.zeroValue25
 a23:=Tryz.isAgg3
 z23:=Tryz.sizeOf3
 t25:=Tryz.underlying153
 a25:=Tryz.isAgg153
 z25:=Tryz.sizeOf153
 v25:=Tryz.zeroValue153 }
open Go.RowKit Go.Lib Go.Sort in
theorem Tryz.slices_DeleteFunc {α:Type}[Inhabited α](enc:α->Value)(hO:OneCell enc)(p:α->Bool)(g:Nat)(lb:Array Value)(eg:∀ args w,(callFunc g args).run ae w=.ok (.enter g args) w)(zr:α)(v23:∀ w,(zeroValue 3).run ae w=.ok (enc zr) w)(oJ off cap:Nat)(d:Array α)(w:World)(hp:PredAt ae g lb enc p w)(Xi:PredOver ae g lb enc p oJ off d.size w)(hH:Holds enc w oJ off d)(lh:d.size<=9223372036854775807)(mV:d.size<=cap) :
  Calls ae 130 #[.slice (some ⟨oJ,off,none⟩) d.size cap,.func (.func g) #[] lb] w fun e w'=>e=.returned (.slice (some ⟨oJ,off,none⟩) (d.toList.filter fun x=>!p x).length cap)∧∃ q,w'=putRow enc (Sort.ahead w q) oJ off ((d.toList.filter fun x=>!p x)++List.replicate (d.size - (d.toList.filter fun x=>!p x).length) zr).toArray:=AnyE.slices_DeleteFunc Tryz.vU enc hO p g lb eg zr v23 oJ off cap d w hp Xi hH lh mV
end
end Go.Proofs
end
section
namespace Go.Proofs.YtbmdcnkidjlbbaaGreat
open Go Go.RowKit Cg
def bt (s:ByteArray)(i:Nat):UInt8:=s.data.toList.getD i 0
theorem wT (s:ByteArray)(i:Nat)(h:i < s.size):bt s i=s[i]'h:=by
 have h':i < s.data.toList.length:=by simpa using h
 unfold bt;rw[List.getD_eq_getElem?_getD,af h'];rfl
def B8 (c:UInt8):Bool:=decide (97<=c.toNat∧c.toNat<=122)
def CJ (c:UInt8):Bool:=decide ((97<=c.toNat∧c.toNat<=122)∨(48<=c.toNat∧c.toNat<=57)∨c.toNat=45)
def IsW (s:ByteArray):Prop:=1<=s.size∧s.size<=32∧B8 (bt s 0)=true∧¬ (bt s (s.size - 1)).toNat=45∧(∀ i,i < s.size->CJ (bt s i)=true)∧∀ i,i < s.size->0 < i->¬ ((bt s i).toNat=45∧(bt s (i - 1)).toNat=45)
instance (s:ByteArray):Decidable (IsW s):=by unfold IsW;infer_instance
def AX (s:ByteArray):Bool:=decide (IsW s)
theorem Cn {s:ByteArray}(h:IsW s):AX s=true:=decide_eq_true h
theorem eP {s:ByteArray}(h:¬ IsW s):AX s=false:=decide_eq_false h
theorem Db (l:List UInt8):Lib.contains l [45,45]=true↔∃ i,i+1 < l.length∧l.getD i 0=45∧l.getD (i+1) 0=45:=by
 induction l with
 | nil=>simp[Lib.contains,Lib.index]
 | cons a l ih=>
  have uj:=Lib.index_ge l [45,45];unfold Lib.contains at ih ⊢;rw[decide_eq_true_eq] at ih ⊢;rw[Lib.index]
  by_cases hp:([45,45]:List UInt8).isPrefixOf (a :: l)=true
  ·rw[if_pos hp];simp only[Int.le_refl,true_iff]
   cases l with
   | nil=>simp[List.isPrefixOf] at hp
   | cons b l=>
    simp[List.isPrefixOf] at hp;exact⟨0,by simp,by simp[hp.1],by simp[hp.2]⟩
  ·rw[if_neg hp]
   have step:(∃ i,i+1 < (a :: l).length∧(a :: l).getD i 0=45∧(a :: l).getD (i+1) 0=45)↔∃ i,i+1 < l.length∧l.getD i 0=45∧l.getD (i+1) 0=45:=by
    constructor
    ·rintro⟨i,h1,h2,h3⟩
     cases i with
     | zero=>
      exfalso;apply hp
      cases l with
      | nil=>simp at h1
      | cons b l=>simp at h2 h3;simp[List.isPrefixOf,h2,h3]
     | succ i=>exact⟨i,by simpa using h1,by simpa using h2,by simpa using h3⟩
    ·rintro⟨i,h1,h2,h3⟩;exact⟨i+1,by simpa using h1,by simpa using h2,by simpa using h3⟩
   rw[step,<- ih]
   by_cases hm:(Lib.index l [45,45]==-1)=true
   ·rw[if_pos hm];have:=beq_iff_eq.1 hm;omega
   ·rw[if_neg hm];have:¬ Lib.index l [45,45] = -1:=fun e=>hm (beq_iff_eq.2 e);omega
theorem ti (s:ByteArray):Lib.contains s.data.toList [45,45]=true↔∃ i,i+1 < s.size∧bt s i=45∧bt s (i+1)=45:=by
 rw[Db];have:s.data.toList.length=s.size:=(Lib.size_eq s).symm;rw[this];rfl
theorem Gd (c:UInt8):c=45↔c.toNat=45:=⟨fun h=>by rw[h];rfl,fun h=>UInt8.toNat_inj.1 h⟩

theorem xQ {s:ByteArray}(h:s.size=0):s=⟨#[]⟩:=yK (by
 have h1:s.data.toList.length=0:=by simpa using h
 simpa using List.eq_nil_of_length_eq_zero h1)
theorem jR (c:UInt8)(w:World):Calls ae 144 #[.int .u8 c.toNat] w fun e w'=>e=.returned (.bool (B8 c))∧w=w':=by
 have hc:c.toNat < 256:=c.toNat_lt
 by_cases h1:97<=c.toNat
 ·by_cases h2:c.toNat<=122
  ·rw[show B8 c=true from decide_eq_true ⟨h1,h2⟩]
   go_enter Tryz.func144,Tryz.ntmps144
   go_wp2
   all_goals go_ret
   all_goals exact⟨et (by simp;omega),rfl⟩
  ·rw[show B8 c=false from decide_eq_false (fun h=>h2 h.2)]
   go_enter Tryz.func144,Tryz.ntmps144
   go_wp2
   all_goals go_ret
   all_goals exact⟨et (by simp;omega),rfl⟩
 ·rw[show B8 c=false from decide_eq_false (fun h=>h1 h.1)]
  go_enter Tryz.func144,Tryz.ntmps144
  go_wp2
  all_goals go_ret
  all_goals exact⟨et (by simp),rfl⟩
def DF (s:ByteArray)(k:Nat):Prop:=∀ i,i < k->CJ (bt s i)=true
theorem DF.step {s:ByteArray}{k:Nat}(h:DF s k)(h2:CJ (bt s k)=true):DF s (k+1):=fun i hi=>by
 by_cases e:i=k
 ·rw[e];exact h2
 ·exact h i (by omega)
def OO (s:ByteArray)(k:Nat):Prop:=∀ i,i < k->0 < i->¬ ((bt s i).toNat=45∧(bt s (i - 1)).toNat=45)
theorem OO.step {s:ByteArray}{k:Nat}(h:OO s k)(h2:0 < k->¬ ((bt s k).toNat=45∧(bt s (k - 1)).toNat=45)):OO s (k+1):=fun i hi h0=>by
 by_cases e:i=k
 ·rw[e] at h0 ⊢;exact h2 h0
 ·exact h i (by omega) h0
theorem xl {s:ByteArray}(h:Lib.contains s.data.toList [45,45]=false):OO s s.size:=fun i hi h0 hh=>by
 have:Lib.contains s.data.toList [45,45]=true:=(ti s).2 ⟨i - 1,by omega,(Gd _).2 hh.2,by rw[show i - 1+1=i by omega];exact(Gd _).2 hh.1⟩;rw[h] at this
 cases this
theorem z8 {s:ByteArray}(h:Lib.contains s.data.toList [45,45]=true):AX s=false:=eP (fun hw=>by
 obtain⟨i,h1,h2,h3⟩:=(ti s).1 h;exact hw.2.2.2.2.2 (i+1) h1 (by omega) ⟨(Gd _).1 h3,by rw[show i+1 - 1=i by omega];exact(Gd _).1 h2⟩)
theorem Hh {s:ByteArray}{k:Nat}(hk:k < s.size)(h:CJ (bt s k)=false):AX s=false:=eP (fun hw=>by
 have:=hw.2.2.2.2.1 k hk;rw[h] at this
 cases this)
def Mx (w:World):Prop:=∃ m,w.cell? ⟨0,0,none⟩=some (.int .i64 m)
theorem wI (s p:ByteArray)(w:World)(hs:s.size < 4294967281)(hm:Mx w):Calls ae 277 #[.string s,.string p] w fun e w'=>e=.returned (.bool (Lib.contains s.data.toList p.data.toList))∧w=w':=by
 obtain⟨m,hm⟩:=hm;exact(Tryz.strings_Contains s p m w hs hm).mono fun _ _ ⟨h1,h2⟩=>⟨h1,h2.symm⟩
theorem Vr (s:ByteArray)(hs:s.size<=1000000)(w:World):Calls ae 79 #[.string s] w fun e w'=>e=.returned (.bool (AX s))∧w=w':=by
 by_cases h0:s.size=0
 ·rw[eP (s:=s) (fun h=>by have:=h.1;omega)];obtain rfl:=xQ h0;clear h0
  go_enter Tryz.func79,Tryz.ntmps79
  go_wp2
  go_ret
  exact⟨rfl,rfl⟩
 have nC:0 < s.size:=by omega
 have t0:((s.size:Int)==0)=false:=beq_eq_false_iff_ne.2 (by omega)
 by_cases h32:32 < s.size
 ·rw[eP (s:=s) (fun h=>by have:=h.2.1;omega)];clear h0
  go_enter Tryz.func79,Tryz.ntmps79
  go_wp2
  go_ret
  exact⟨rfl,rfl⟩
 have HB0:=Lib.hid (wT s 0 nC);obtain⟨a,ha⟩:∃ a,s[0]'nC=a:=⟨_,rfl⟩
 have HA:=Lib.hid (show bt s 0=a by rw[HB0.out,ha]);have DT:a.toNat < 256:=a.toNat_lt;have hq:s.size - 1 < s.size:=by omega
 have HB1:=Lib.hid (wT s (s.size - 1) hq);obtain⟨z,hz⟩:∃ z,s[s.size - 1]'hq=z:=⟨_,rfl⟩
 have HZ:=Lib.hid (show bt s (s.size - 1)=z by rw[HB1.out,hz]);have YV:z.toNat < 256:=z.toNat_lt;have i1:(1:Int)<=(s.size:Int):=by omega
 have i2:(s.size:Int) - 1 < (s.size:Int):=by omega
 have h33:s.size<=32:=by omega
 clear h0 h32
 cases DS:B8 a
 ·rw[eP (s:=s) (fun h=>by have:=h.2.2.1;rw[HA.out,DS] at this;cases this)];have TT:=Lib.hid DS;clear DS
  go_enter Tryz.func79,Tryz.ntmps79
  go_wp2_with (go_at_call 144;refine(jR a _).mono ?_;rintro e w' ⟨rfl,rfl⟩;rw[TT.out])
  go_ret
  exact⟨rfl,rfl⟩
 have TT:=Lib.hid DS;clear DS
 by_cases Ab:z.toNat=45
 ·rw[eP (s:=s) (fun h=>h.2.2.2.1 (by rw[HZ.out];exact Ab))];have tz:((z.toNat:Int)==45)=true:=beq_iff_eq.2 (by omega);clear Ab
  go_enter Tryz.func79,Tryz.ntmps79
  go_wp2_with (go_at_call 144;refine(jR a _).mono ?_;rintro e w' ⟨rfl,rfl⟩;rw[TT.out])
  go_ret
  exact⟨rfl,rfl⟩
 have tz:((z.toNat:Int)==45)=false:=beq_eq_false_iff_ne.2 (by omega)
 go_enter Tryz.func79,Tryz.ntmps79
 go_wp2_with (go_at_call 144;refine(jR a _).mono ?_;rintro e w' ⟨rfl,rfl⟩;rw[TT.out])
 go_loop [3] (fun i=>∃ k:Nat,k<=s.size∧i=.int .i64 k∧DF s k∧OO s k) (fun i=>s.size - (intOf i).toNat)
 case atStart=>exact⟨0,by omega,rfl,(fun i hi=>by omega),fun i hi=>by omega⟩
 case round=>
  obtain⟨k,hk,rfl,uI,hdd⟩:=hrel
  by_cases aS:k < s.size
  ·have HB:=Lib.hid (wT s k aS);obtain⟨c,hc⟩:∃ c,s[k]'aS=c:=⟨_,rfl⟩
   have HC:=Lib.hid (show bt s k=c by rw[HB.out,hc]);have V0:c.toNat < 256:=c.toNat_lt;have HG:=Lib.hid uI;have HDD:=Lib.hid hdd;clear uI hdd
   cases Rw:B8 c
   ·have JP:¬ (97<=c.toNat∧c.toNat<=122):=of_decide_eq_false Rw;have TR:=Lib.hid Rw;clear Rw
    by_cases Zu:48<=c.toNat∧c.toNat<=57
    ·obtain⟨d1,d2⟩:=Zu;have HN:=Lib.hid (HG.out.step (by rw[HC.out];exact decide_eq_true (.inr (.inl ⟨d1,d2⟩))));have HM:=Lib.hid (HDD.out.step (fun _ h=>by rw[HC.out] at h;omega));have t45:((c.toNat:Int)==45)=false:=beq_eq_false_iff_ne.2 (by omega);clear JP
     go_wp2_with (go_at_call 144;refine(jR c _).mono ?_;rintro e w' ⟨rfl,rfl⟩;rw[TR.out])
     all_goals go_round
     all_goals first
      | (case rel=>exact⟨k+1,by omega,by go_num,HN.out,HM.out⟩)
      | (case measure=>simp[intOf];omega)
    ·by_cases Xr:c.toNat=45
     ·have HN:=Lib.hid (HG.out.step (by rw[HC.out];exact decide_eq_true (.inr (.inr Xr))));have t45:((c.toNat:Int)==45)=true:=beq_iff_eq.2 (by omega);have t46:((c.toNat:Int) != 45)=false:=by rw[bne,t45];rfl
      have c48:(c.toNat:Int) < 48:=by omega
      by_cases Nz:k=0
      ·exfalso;subst Nz;have hca:a=c:=by rw[<- HA.out,<- HC.out]
       have h1:=TT.out;rw[hca,TR.out] at h1
       cases h1
      ·have hq1:k - 1 < s.size:=by omega
       have HBQ:=Lib.hid (wT s (k - 1) hq1);obtain⟨q,hqe⟩:∃ q,s[k - 1]'hq1=q:=⟨_,rfl⟩
       have HQ:=Lib.hid (show bt s (k - 1)=q by rw[HBQ.out,hqe]);have hql:q.toNat < 256:=q.toNat_lt;have k1:(1:Int)<=(k:Int):=by omega
       have k2:(k:Int) - 1 < (s.size:Int):=by omega
       by_cases Rt:q.toNat=45
       ·have HF:=Lib.hid (eP (s:=s) (fun h=>h.2.2.2.2.2 k aS (by omega) ⟨by rw[HC.out];exact Xr,by rw[HQ.out];exact Rt⟩));have tq:((q.toNat:Int)==45)=true:=beq_iff_eq.2 (by omega);clear JP Zu Xr Rt Nz
        go_wp2_with (go_at_call 144;refine(jR c _).mono ?_;rintro e w' ⟨rfl,rfl⟩;rw[TR.out])
        go_ret
        exact⟨et HF.out.symm,rfl⟩
       ·have HM:=Lib.hid (HDD.out.step (fun _ h=>Rt (by rw[<- HQ.out];exact h.2)));have tq:((q.toNat:Int)==45)=false:=beq_eq_false_iff_ne.2 (by omega);clear JP Zu Xr Rt Nz
        go_wp2_with (go_at_call 144;refine(jR c _).mono ?_;rintro e w' ⟨rfl,rfl⟩;rw[TR.out])
        go_round
        case rel=>exact⟨k+1,by omega,by go_num,HN.out,HM.out⟩
        case measure=>simp[intOf];omega
     ·have HF:=Lib.hid (Hh aS (by rw[HC.out];exact decide_eq_false (by omega)));have t45:((c.toNat:Int)==45)=false:=beq_eq_false_iff_ne.2 (by omega);have t46:((c.toNat:Int) != 45)=true:=by rw[bne,t45];rfl
      rcases(show c.toNat < 48∨57 < c.toNat by omega) with hb|hb
      ·clear JP Zu Xr
       go_wp2_with (go_at_call 144;refine(jR c _).mono ?_;rintro e w' ⟨rfl,rfl⟩;rw[TR.out])
       go_ret
       exact⟨et HF.out.symm,rfl⟩
      ·clear JP Zu Xr
       go_wp2_with (go_at_call 144;refine(jR c _).mono ?_;rintro e w' ⟨rfl,rfl⟩;rw[TR.out])
       go_ret
       exact⟨et HF.out.symm,rfl⟩
   ·have VJ:97<=c.toNat∧c.toNat<=122:=of_decide_eq_true Rw;have TR:=Lib.hid Rw;have HN:=Lib.hid (HG.out.step (by rw[HC.out];exact decide_eq_true (.inl VJ)));have HM:=Lib.hid (HDD.out.step (fun _ h=>by rw[HC.out] at h;omega));have t45:((c.toNat:Int)==45)=false:=beq_eq_false_iff_ne.2 (by omega);clear Rw
    go_wp2_with (go_at_call 144;refine(jR c _).mono ?_;rintro e w' ⟨rfl,rfl⟩;rw[TR.out])
    all_goals go_round
    all_goals first
     | (case rel=>exact⟨k+1,by omega,by go_num,HN.out,HM.out⟩)
     | (case measure=>simp[intOf];omega)
  ·obtain rfl:k=s.size:=by omega
   have HF:=Lib.hid (Cn (s:=s) ⟨by omega,by omega,by rw[HA.out];exact TT.out,by rw[HZ.out];exact Ab,uI,hdd⟩);clear uI hdd
   go_wp2
   go_ret
   exact⟨et HF.out.symm,rfl⟩
theorem Rl (s:ByteArray)(hs:s.size<=1000000)(w:World)(hm:Mx w):Calls ae 261 #[.string s] w fun e w'=>e=.returned (.bool (AX s))∧Below w.heap.size w w':=by
 have HM:=Lib.hid hm;clear hm
 by_cases h0:s.size=0
 ·rw[eP (s:=s) (fun h=>by have:=h.1;omega)];obtain rfl:=xQ h0;clear h0
  go_enter Tryz.func261,Tryz.ntmps261
  go_wp2
  go_ret
  exact⟨rfl,Below.refl _ _⟩
 have nC:0 < s.size:=by omega
 have t0:((s.size:Int)==0)=false:=beq_eq_false_iff_ne.2 (by omega)
 by_cases h32:32 < s.size
 ·rw[eP (s:=s) (fun h=>by have:=h.2.1;omega)];clear h0
  go_enter Tryz.func261,Tryz.ntmps261
  go_wp2
  go_ret
  exact⟨rfl,Below.refl _ _⟩
 have HB0:=Lib.hid (wT s 0 nC);obtain⟨a,ha⟩:∃ a,s[0]'nC=a:=⟨_,rfl⟩
 have HA:=Lib.hid (show bt s 0=a by rw[HB0.out,ha]);have DT:a.toNat < 256:=a.toNat_lt;have hq:s.size - 1 < s.size:=by omega
 have HB1:=Lib.hid (wT s (s.size - 1) hq);obtain⟨z,hz⟩:∃ z,s[s.size - 1]'hq=z:=⟨_,rfl⟩
 have HZ:=Lib.hid (show bt s (s.size - 1)=z by rw[HB1.out,hz]);have YV:z.toNat < 256:=z.toNat_lt;have i1:(1:Int)<=(s.size:Int):=by omega
 have i2:(s.size:Int) - 1 < (s.size:Int):=by omega
 have h33:s.size<=32:=by omega
 clear h0 h32
 by_cases DS:97<=a.toNat∧a.toNat<=122
 case neg=>
  rw[eP (s:=s) (fun h=>by have h1:=of_decide_eq_true h.2.2.1;rw[HA.out] at h1;exact DS h1)];rcases(show a.toNat < 97∨(97<=a.toNat∧122 < a.toNat) by omega) with hb|⟨hb,dD⟩
  ·clear DS
   go_enter Tryz.func261,Tryz.ntmps261
   go_wp2
   go_ret
   exact⟨rfl,Below.refl _ _⟩
  ·clear DS
   go_enter Tryz.func261,Tryz.ntmps261
   go_wp2
   go_ret
   exact⟨rfl,Below.refl _ _⟩
 have TT:=Lib.hid (show B8 a=true from decide_eq_true DS);obtain⟨Zk,qO⟩:=DS
 by_cases Ab:z.toNat=45
 ·rw[eP (s:=s) (fun h=>h.2.2.2.1 (by rw[HZ.out];exact Ab))];have tz:((z.toNat:Int)==45)=true:=beq_iff_eq.2 (by omega);clear Ab
  go_enter Tryz.func261,Tryz.ntmps261
  go_wp2
  go_ret
  exact⟨rfl,Below.refl _ _⟩
 have tz:((z.toNat:Int)==45)=false:=beq_eq_false_iff_ne.2 (by omega)
 cases A3:Lib.contains s.data.toList [45,45]
 case true=>
  rw[z8 A3];have HCT:=Lib.hid (show Lib.contains s.data.toList (ByteArray.mk #[45,45]).data.toList=true from A3);clear A3 Ab
  go_enter Tryz.func261,Tryz.ntmps261
  go_wp2_with (go_at_call 277;refine(wI s ⟨#[45,45]⟩ _ (by omega) HM.out).mono ?_;rintro e w' ⟨rfl,rfl⟩;rw[HCT.out])
  go_ret
  exact⟨rfl,Below.refl _ _⟩
 have HDD:=Lib.hid (xl A3);have HCT:=Lib.hid (show Lib.contains s.data.toList (ByteArray.mk #[45,45]).data.toList=false from A3);have ahG:=Lib.hid Ab;clear A3 Ab
 go_enter Tryz.func261,Tryz.ntmps261
 go_wp2_with (first
  | (go_at_call 277;refine(wI s ⟨#[45,45]⟩ _ (by omega) HM.out).mono ?_;rintro e w' ⟨rfl,rfl⟩;rw[HCT.out])
  | (with_reducible refine yS rfl 9 281 5 (.tmp 35) rfl Tryz.underlying9 Tryz.underlying281 Tryz.underlying5 s rfl ?_;intro cap w1 mV nF lh iA;have HC1:=Lib.hid iA;clear iA))
 go_loop [38] (fun i=>∃ k:Nat,k<=s.size∧i=.int .i64 k∧DF s k) (fun i=>s.size - (intOf i).toNat)
 case atStart=>exact⟨0,by omega,rfl,(fun i hi=>by omega)⟩
 case round=>
  obtain⟨k,hk,rfl,uI⟩:=hrel
  by_cases aS:k < s.size
  ·have HB:=Lib.hid (wT s k aS);have iA:=HC1.out k aS;obtain⟨c,hc⟩:∃ c,s[k]'aS=c:=⟨_,rfl⟩
   have HC:=Lib.hid (show bt s k=c by rw[HB.out,hc]);rw[hc] at iA;clear hc;have V0:c.toNat < 256:=c.toNat_lt;have HG:=Lib.hid uI;clear uI
   by_cases yz:CJ c=true
   ·have HN:=Lib.hid (HG.out.step (by rw[HC.out];exact yz));have hg3:(97<=c.toNat∧c.toNat<=122)∨(48<=c.toNat∧c.toNat<=57)∨c.toNat=45:=of_decide_eq_true yz;clear yz;rcases hg3 with⟨c1,c2⟩|⟨c1,c2⟩|c1
    ·go_wp2
     go_round
     case rel=>exact⟨k+1,by omega,by go_num,HN.out⟩
     case measure=>simp[intOf];omega
    ·go_wp2
     go_round
     case rel=>exact⟨k+1,by omega,by go_num,HN.out⟩
     case measure=>simp[intOf];omega
    ·have t45:((c.toNat:Int) != 45)=false:=by rw[bne,beq_iff_eq.2 (show(c.toNat:Int)=45 by omega)];rfl
     have c48:(c.toNat:Int) < 48:=by omega
     clear c1
     go_wp2
     go_round
     case rel=>exact⟨k+1,by omega,by go_num,HN.out⟩
     case measure=>simp[intOf];omega
   ·have HF:=Lib.hid (Hh aS (by rw[HC.out];simpa using yz));have hn:¬ ((97<=c.toNat∧c.toNat<=122)∨(48<=c.toNat∧c.toNat<=57)∨c.toNat=45):=fun h=>yz (decide_eq_true h);have t45:((c.toNat:Int) != 45)=true:=by rw[bne,beq_eq_false_iff_ne.2 (show ¬ (c.toNat:Int)=45 by omega)];rfl
    clear yz;rcases(show c.toNat < 48∨(57 < c.toNat∧c.toNat < 97)∨122 < c.toNat by omega) with c1|⟨c1,c2⟩|c1
    all_goals
     clear hn
     go_wp2
     go_ret
     exact⟨et HF.out.symm,nF⟩
  ·obtain rfl:k=s.size:=by omega
   have HF:=Lib.hid (Cn (s:=s) ⟨by omega,by omega,by rw[HA.out];exact TT.out,by rw[HZ.out];exact ahG.out,uI,HDD.out⟩);clear uI
   go_wp2
   go_ret
   exact⟨et HF.out.symm,nF⟩
end Go.Proofs.YtbmdcnkidjlbbaaGreat
end
section
namespace Cg
section
variable {α:Type}
structure Ord (lt:α->α->Bool):Prop where
 irrefl:∀ a,lt a a=false
 trans:∀ a b c,lt a b=true->lt b c=true->lt a c=true
 conn:∀ a b,lt a b=false->lt b a=false->a=b
def SI (lt:α->α->Bool)(l:List α):Prop:=l.Pairwise (fun a b=>lt a b=true)
theorem SI.ext {lt:α->α->Bool}(O:Ord lt):∀ {a b:List α},SI lt a->SI lt b->(∀ x,x∈a↔x∈b)->a=b
 | [],[],_,_,_=>rfl
 | [],y :: b,_,_,h=>by have:=(h y).2 (by simp);simp at this
 | x :: a,[],_,_,h=>by have:=(h x).1 (by simp);simp at this
 | x :: a,y :: b,ha,hb,h=>by
  have ha':=List.pairwise_cons.1 ha;have eF:=List.pairwise_cons.1 hb
  have asym:∀ u v,lt u v=true->lt v u=true->False:=fun u v h1 h2=>by
   have:=O.trans u v u h1 h2;rw[O.irrefl] at this
   cases this
  have hxy:x=y:=by
   have h1:=(h x).1 (by simp);have h2:=(h y).2 (by simp);rcases List.mem_cons.1 h1 with e|h1
   ·exact e
   ·rcases List.mem_cons.1 h2 with e|h2
    ·exact e.symm
    ·exact(asym _ _ (eF.1 x h1) (ha'.1 y h2)).elim
  subst hxy;congr 1;refine SI.ext O ha'.2 eF.2 fun z=>⟨fun hz=>?_,fun hz=>?_⟩
  ·rcases List.mem_cons.1 ((h z).1 (by simp[hz])) with e|h1
   ·have:=ha'.1 z hz;rw[e,O.irrefl] at this
    cases this
   ·exact h1
  ·rcases List.mem_cons.1 ((h z).2 (by simp[hz])) with e|h1
   ·have:=eF.1 z hz;rw[e,O.irrefl] at this
    cases this
   ·exact h1
section insert
variable [DecidableEq α]
def ins (lt:α->α->Bool)(n:α)(l:List α):List α:=l.takeWhile (lt · n)++n :: (l.dropWhile (lt · n)).filter (fun x=>decide (¬ x=n))
theorem QV (lt:α->α->Bool)(n:α)(l:List α)(x:α):x∈ins lt n l↔x=n∨x∈l:=by
 have hs:x∈l↔x∈l.takeWhile (lt · n)∨x∈l.dropWhile (lt · n):=by
  rw[<- aX,List.takeWhile_append_dropWhile]
 unfold ins;rw[aX,List.mem_cons,List.mem_filter,hs,decide_eq_true_eq]
 by_cases e:x=n <;> simp[e]
omit [DecidableEq α] in
theorem oL {p:α->Bool}:∀ {l:List α},∀ x∈l.takeWhile p,p x=true
 | [],x,h=>by simp at h
 | a :: l,x,h=>by
  rw[List.takeWhile_cons] at h;split at h
  ·rcases List.mem_cons.1 h with e|h
   ·rw[e];assumption
   ·exact oL x h
  ·simp at h
omit [DecidableEq α] in
theorem SI.Ia {lt:α->α->Bool}(O:Ord lt){n:α}:∀ {l:List α},SI lt l->∀ x∈l.dropWhile (lt · n),lt x n=false
 | [],_,x,h=>by simp at h
 | a :: l,hs,x,h=>by
  rw[List.dropWhile_cons] at h;split at h
  ·exact SI.Ia O (List.pairwise_cons.1 hs).2 x h
  ·rename_i hn;have hn:lt a n=false:=by simpa using hn
   rcases List.mem_cons.1 h with e|h
   ·rw[e];exact hn
   ·cases hx:lt x n
    ·rfl
    ·have:=O.trans a x n ((List.pairwise_cons.1 hs).1 x h) hx;rw[hn] at this
     cases this
theorem SI.ins {lt:α->α->Bool}(O:Ord lt){n:α}{l:List α}(h:SI lt l):SI lt (ins lt n l):=by
 have hp:SI lt (l.takeWhile (lt · n)++l.dropWhile (lt · n)):=by rw[List.takeWhile_append_dropWhile];exact h
 obtain⟨h1,h2,h3⟩:=List.pairwise_append.1 hp;unfold Cg.ins;refine List.pairwise_append.2 ⟨h1,List.pairwise_cons.2 ⟨fun x hx=>?_,h2.filter _⟩,fun x hx y hy=>?_⟩
 ·obtain⟨hx,hn⟩:=List.mem_filter.1 hx;have hn:¬ x=n:=by simpa using hn
  have uj:=SI.Ia O h x hx
  cases hnx:lt n x
  ·exact absurd (O.conn x n uj hnx) hn
  ·rfl
 ·rcases List.mem_cons.1 hy with e|hy
  ·rw[e];exact oL x hx
  ·exact h3 x hx y (List.mem_filter.1 hy).1
def nB (lt:α->α->Bool)(o:List α)(l:List α):List α:=l.foldl (fun o x=>ins lt x o) o
theorem JE {lt:α->α->Bool}(O:Ord lt)(l:List α):∀ {o:List α},SI lt o->SI lt (nB lt o l):=by
 induction l with
 | nil=>exact fun h=>h
 | cons a l ih=>exact fun h=>ih (h.ins O)
theorem E7 (lt:α->α->Bool)(l:List α):∀ (o:List α) (x:α),x∈nB lt o l↔x∈o∨x∈l:=by
 induction l with
 | nil=>intro o x;simp[nB]
 | cons a l ih=>
  intro o x;show x∈nB lt (ins lt a o) l↔_;rw[ih,QV,List.mem_cons];constructor
  ·rintro((h|h)|h)
   ·exact .inr (.inl h)
   ·exact .inl h
   ·exact .inr (.inr h)
  ·rintro(h|h|h)
   ·exact .inl (.inr h)
   ·exact .inl (.inl h)
   ·exact .inr h
theorem Rm (lt:α->α->Bool)(n:α)(l:List α):(ins lt n l).length<=l.length+1:=by
 have h1:(l.takeWhile (lt · n)).length+(l.dropWhile (lt · n)).length=l.length:=by rw[<- au,List.takeWhile_append_dropWhile]
 have h2:=cx (fun x=>decide (¬ x=n)) (l.dropWhile (lt · n));unfold ins;rw[au,aq];omega
theorem Fo (lt:α->α->Bool)(l:List α):∀ o:List α,(nB lt o l).length<=o.length+l.length:=by
 induction l with
 | nil=>exact fun o=>al _
 | cons a l ih=>
  intro o;have h1:=ih (ins lt a o);have h2:=Rm lt a o;show(nB lt (ins lt a o) l).length<=_;rw[aq];omega
end insert
section compact
variable [Inhabited α][DecidableEq α]
open Go.Lib
theorem nI {lt:α->α->Bool}(O:Ord lt)(d:Array α)(hs:∀ j k,j < k->k < d.size->lt d[k]! d[j]! = false):∀ m,m<=d.size->SI lt (compactUpTo d m)∧(∀ x,x∈compactUpTo d m↔∃ j,j < m∧d[j]! = x)
 | 0,_=>⟨List.Pairwise.nil,fun x=>by simp[compactUpTo]⟩
 | m+1,hm=>by
  obtain⟨h1,h2⟩:=nI O d hs m (by omega);rw[compactUpTo_succ]
  cases hk:keeps d m
  ·have hk:¬ (m=0∨d[m]!≠d[m - 1]!):=of_decide_eq_false hk;have hm0:¬ m=0:=fun e=>hk (.inl e);have he:d[m]! = d[m - 1]!:=Decidable.byContradiction fun e=>hk (.inr e);rw[if_neg (by decide),aZ];refine⟨h1,fun x=>?_⟩;rw[h2];constructor
   ·rintro⟨j,hj,e⟩;exact⟨j,by omega,e⟩
   ·rintro⟨j,hj,e⟩
    by_cases Tv:j=m
    ·exact⟨m - 1,by omega,by rw[<- he,<- Tv];exact e⟩
    ·exact⟨j,by omega,e⟩
  ·have hk:m=0∨d[m]!≠d[m - 1]!:=of_decide_eq_true hk;rw[if_pos rfl];refine⟨List.pairwise_append.2 ⟨h1,List.pairwise_singleton _ _,fun x hx y hy=>?_⟩,fun x=>?_⟩
   ·rw[aJ.1 hy];obtain⟨j,hj,rfl⟩:=(h2 x).1 hx;have g1:=hs j m hj (by omega)
    cases g:lt d[j]! d[m]!
    ·have e1:d[j]! = d[m]!:=O.conn _ _ g g1;rcases hk with hk|hk
     ·omega
     ·exfalso;apply hk
      by_cases Tv:j=m - 1
      ·rw[<- Tv];exact e1.symm
      ·have g2:=hs j (m - 1) (by omega) (by omega);have g3:=hs (m - 1) m (by omega) (by omega);rw[e1] at g2;exact O.conn _ _ g3 g2
    ·rfl
   ·rw[aX,h2,aJ];constructor
    ·rintro(⟨j,hj,e⟩|e)
     ·exact⟨j,by omega,e⟩
     ·exact⟨m,by omega,e.symm⟩
    ·rintro⟨j,hj,e⟩
     by_cases Tv:j=m
     ·right;rw[<- e,Tv]
     ·left;exact⟨j,by omega,e⟩
theorem F0 {lt:α->α->Bool}(O:Ord lt)(l:List α)(hs:l.Pairwise (fun a b=>lt b a=false)):SI lt (compact l)∧∀ x,x∈compact l↔x∈l:=by
 have hg:∀ j (hj:j < l.length),l.toArray[j]! = l[j]:=fun j hj=>by simp[getElem!_pos,hj]
 obtain⟨h1,h2⟩:=nI O l.toArray (fun j k Af hk=>by
  have CB:k < l.length:=by simpa using hk
  rw[hg k CB,hg j (by omega)];exact cu.1 hs j k (by omega) CB Af) l.length (by simp)
 refine⟨h1,fun x=>?_⟩;show x∈compactUpTo l.toArray l.length↔_;rw[h2,bB];constructor
 ·rintro⟨j,hj,e⟩;exact⟨j,hj,by rw[<- hg j hj];exact e⟩
 ·rintro⟨j,hj,e⟩;exact⟨j,hj,by rw[hg j hj];exact e⟩
theorem ub {lt:α->α->Bool}(O:Ord lt)(le:α->α->Bool)(hle:∀ a b,le a b=!lt b a)(l:List α):SI lt (compact (l.mergeSort le))∧∀ x,x∈compact (l.mergeSort le)↔x∈l:=by
 have asym:∀ u v,lt u v=true->lt v u=false:=fun u v h1=>by
  cases h2:lt v u
  ·rfl
  ·have:=O.trans u v u h1 h2;rw[O.irrefl] at this
   cases this
 have hp:=List.pairwise_mergeSort (le:=le) (fun a b c h1 h2=>by
  rw[hle,cb] at *
  cases h:lt c a
  ·rfl
  ·cases hb:lt b c
   ·have e:b=c:=O.conn b c hb h2;rw[e,h] at h1
    cases h1
   ·have:=O.trans b c a hb h;rw[this] at h1
    cases h1) (fun a b=>by
  rw[hle,hle,cm,cb,cb]
  cases h:lt b a
  ·exact .inl rfl
  ·exact .inr (asym _ _ h)) l
 obtain⟨h1,h2⟩:=F0 O (l.mergeSort le) (hp.imp fun {a b} h=>by
  have h:le a b=true:=h;rw[hle,cb] at h;exact h)
 exact⟨h1,fun x=>(h2 x).trans (List.mergeSort_perm l le).mem_iff⟩
end compact
end
end Cg
end
section
namespace Cg
open Go Go.RowKit

end Cg
end
section
namespace Go.Proofs.YtbmdcnkidjlbbaaGreat
open Go Go.RowKit Cg
def eT:Nat->ByteArray
 | 0=>⟨#[98,97,115,105,99]⟩
 | 1=>⟨#[117,110,105,113,117,101]⟩
 | _=>⟨#[]⟩
def dU:Nat->ByteArray
 | 0=>⟨#[99,114,101,97,116,117,114,101]⟩
 | 1=>⟨#[105,110,115,116,97,110,116]⟩
 | 2=>⟨#[114,105,116,117,97,108]⟩
 | 3=>⟨#[114,101,108,105,99]⟩
 | 4=>⟨#[99,104,97,114,109]⟩
 | 5=>⟨#[108,97,110,100]⟩
 | _=>⟨#[]⟩
def iV (nm:Nat->ByteArray)(s:ByteArray):Nat->Nat
 | 0=>0
 | k+1=>if iV nm s k=0 then(if nm k=s then 2 ^ k else 0) else iV nm s k
theorem yN (nm:Nat->ByteArray)(s:ByteArray)(k:Nat)(h:iV nm s k=0)(h2:¬ nm k=s):iV nm s (k+1)=0:=by rw[iV,if_pos h,if_neg h2]
theorem wV (nm:Nat->ByteArray)(s:ByteArray)(k:Nat)(h:iV nm s k=0)(h2:nm k=s):∀ n,k < n->iV nm s n=2 ^ k
 | 0,hn=>by omega
 | n+1,hn=>by
  by_cases e:n=k
  ·subst e;rw[iV,if_pos h,if_pos h2]
  ·have ih:=wV nm s k h h2 n (by omega);rw[iV,if_neg (by rw[ih];exact Nat.pos_iff_ne_zero.1 (Nat.two_pow_pos k)),ih]
theorem sH (nm:Nat->ByteArray)(s:ByteArray):∀ n,iV nm s n=0↔∀ i,i < n->¬ nm i=s
 | 0=>by simp[iV]
 | n+1=>by
  have ih:=sH nm s n;rw[iV]
  by_cases h:iV nm s n=0
  ·rw[if_pos h];have ih':=ih.1 h
   by_cases e:nm n=s
   ·rw[if_pos e];constructor
    ·intro h2;have:=Nat.two_pow_pos n;omega
    ·intro h2;exact absurd e (h2 n (by omega))
   ·rw[if_neg e];refine⟨fun _ i hi=>?_,fun _=>rfl⟩
    by_cases e2:i=n
    ·rw[e2];exact e
    ·exact ih' i (by omega)
  ·rw[if_neg h];refine⟨fun h2=>absurd h2 h,fun h2=>absurd (ih.2 fun i hi=>h2 i (by omega)) h⟩
def gO (s:ByteArray):Bool:=AX s&&(decide (iV eT s 2=0)&&decide (iV dU s 6=0))
theorem Fs (s:ByteArray):decide (Lib.idxOfS [eT 0,eT 1] s < 0)=decide (iV eT s 2=0):=by
 refine decide_eq_decide.2 ?_;rw[sH];have h:=Lib.idxOfS_nonneg_iff [eT 0,eT 1] s;constructor
 ·intro aS i hi e
  have:s∈[eT 0,eT 1]:=by
   rcases(show i=0∨i=1 by omega) with rfl|rfl <;> simp[e]
  have:=h.2 this;omega
 ·intro iU;refine Int.not_le.1 fun uj=>?_;have hm:=h.1 uj;simp only[List.mem_cons,List.mem_nil_iff,or_false] at hm;rcases hm with e|e
  ·exact iU 0 (by omega) e.symm
  ·exact iU 1 (by omega) e.symm
theorem JK (s:ByteArray):decide (Lib.idxOfS [dU 0,dU 1,dU 2,dU 3,dU 4,dU 5] s < 0)=decide (iV dU s 6=0):=by
 refine decide_eq_decide.2 ?_;rw[sH];have h:=Lib.idxOfS_nonneg_iff [dU 0,dU 1,dU 2,dU 3,dU 4,dU 5] s;constructor
 ·intro aS i hi e
  have:s∈[dU 0,dU 1,dU 2,dU 3,dU 4,dU 5]:=by
   rcases(show i=0∨i=1∨i=2∨i=3∨i=4∨i=5 by omega) with rfl|rfl|rfl|rfl|rfl|rfl <;> simp[e]
  have:=h.2 this;omega
 ·intro iU;refine Int.not_le.1 fun uj=>?_;have hm:=h.1 uj;simp only[List.mem_cons,List.mem_nil_iff,or_false] at hm;rcases hm with e|e|e|e|e|e
  ·exact iU 0 (by omega) e.symm
  ·exact iU 1 (by omega) e.symm
  ·exact iU 2 (by omega) e.symm
  ·exact iU 3 (by omega) e.symm
  ·exact iU 4 (by omega) e.symm
  ·exact iU 5 (by omega) e.symm
theorem y7 (w:World)(i:Nat)(hi:i < 2):(Instr.index 283 (.agg #[.string ⟨#[98,97,115,105,99]⟩,.string ⟨#[117,110,105,113,117,101]⟩]) (.int .i64 i)).run ae w=.ok (.string (eT i)) w:=by
 rcases(show i=0∨i=1 by omega) with rfl|rfl
 ·simp[Instr.index,asIntOf,run_underlying Tryz.underlying283,Go.part,Tryz.sizeOf9,Tryz.isAgg9,eT]
 ·simp[Instr.index,asIntOf,run_underlying Tryz.underlying283,Go.part,Tryz.sizeOf9,Tryz.isAgg9,eT]
theorem vd (i:Nat)(hi:i < 2)(w:World):Calls ae 263 #[.int .i64 i] w fun e w'=>e=.returned (.string (eT i))∧w=w':=by
 have hr:=y7 w i hi
 go_enter Tryz.func263,Tryz.ntmps263
 go_wp2
 go_ret
 exact⟨rfl,rfl⟩
theorem po (s:ByteArray)(w:World):Calls ae 262 #[.string s,.int .i64 2,.func (.func 263) #[] #[]] w fun e w'=>e=.returned (.int .i64 (iV eT s 2:Nat))∧w=w':=by
 have eg:∀ args w,(callFunc 263 args).run ae w=.ok (.enter 263 args) w:=enters_of Tryz.func263 (by kernel_rfl) rfl
 go_enter Tryz.func262,Tryz.ntmps262
 go_wp2_with fail
 go_step3
 go_wp2_with fail
 go_step3
 go_wp2_with fail
 go_loop [9] (fun i=>∃ k:Nat,k<=2∧i=.int .i64 k∧Hid (iV eT s k=0)) (fun i=>2 - (intOf i).toNat)
 case atStart=>exact⟨0,by omega,rfl,Lib.hid rfl⟩
 case round=>
  obtain⟨k,hk,rfl,H⟩:=hrel
  by_cases aS:k < 2
  ·have i0:(0:Int)<=(k:Int):=by omega
   have i1:(k:Int) < 2:=by omega
   by_cases he:eT k=s
   ·have HR:=Lib.hid (wV eT s k H.out he 2 aS);have ht:=rM he;have Tq:2 ^ k < 2 ^ 2:=Nat.pow_lt_pow_right (by omega) aS;obtain⟨p2,sf⟩:∃ p2,p2=2 ^ k:=⟨_,rfl⟩
    have se:IntKind.i64.wrap ((2:Int) ^ k)=(p2:Int):=by
     have:((2:Int) ^ k)=(p2:Int):=by rw[sf];simp
     rw[this,ak];rw[<- sf] at Tq;omega
    rw[<- sf] at HR;clear he sf Tq
    go_wp2_with fail
    refine(vd k aS _).mono ?_;rintro e w1 ⟨rfl,rfl⟩
    go_wp2_with fail
    rw[Exit.noGoto_ret]
    go_ret
    exact⟨uz (by rw[HR.out]),rfl⟩
   ·have H2:=Lib.hid (yN eT s k H.out he);have ht:=o5 he;clear he H
    go_wp2_with fail
    refine(vd k aS _).mono ?_;rintro e w1 ⟨rfl,rfl⟩
    go_wp2_with fail
    go_round
    case rel=>exact⟨k+1,by omega,by go_num,H2⟩
    case measure=>simp[intOf];omega
  ·obtain rfl:k=2:=by omega
   go_wp2_with fail
   go_ret
   exact⟨by rw[H.out];rfl,rfl⟩
theorem Bg (w:World)(i:Nat)(hi:i < 6):(Instr.index 284 (.agg #[.string ⟨#[99,114,101,97,116,117,114,101]⟩,.string ⟨#[105,110,115,116,97,110,116]⟩,.string ⟨#[114,105,116,117,97,108]⟩,.string ⟨#[114,101,108,105,99]⟩,.string ⟨#[99,104,97,114,109]⟩,.string ⟨#[108,97,110,100]⟩]) (.int .i64 i)).run ae w=.ok (.string (dU i)) w:=by
 rcases(show i=0∨i=1∨i=2∨i=3∨i=4∨i=5 by omega) with rfl|rfl|rfl|rfl|rfl|rfl
 ·simp[Instr.index,asIntOf,run_underlying Tryz.underlying284,Go.part,Tryz.sizeOf9,Tryz.isAgg9,dU]
 ·simp[Instr.index,asIntOf,run_underlying Tryz.underlying284,Go.part,Tryz.sizeOf9,Tryz.isAgg9,dU]
 ·simp[Instr.index,asIntOf,run_underlying Tryz.underlying284,Go.part,Tryz.sizeOf9,Tryz.isAgg9,dU]
 ·simp[Instr.index,asIntOf,run_underlying Tryz.underlying284,Go.part,Tryz.sizeOf9,Tryz.isAgg9,dU]
 ·simp[Instr.index,asIntOf,run_underlying Tryz.underlying284,Go.part,Tryz.sizeOf9,Tryz.isAgg9,dU]
 ·simp[Instr.index,asIntOf,run_underlying Tryz.underlying284,Go.part,Tryz.sizeOf9,Tryz.isAgg9,dU]
theorem xH (i:Nat)(hi:i < 6)(w:World):Calls ae 264 #[.int .i64 i] w fun e w'=>e=.returned (.string (dU i))∧w=w':=by
 have hr:=Bg w i hi
 go_enter Tryz.func264,Tryz.ntmps264
 go_wp2
 go_ret
 exact⟨rfl,rfl⟩
theorem yM (s:ByteArray)(w:World):Calls ae 262 #[.string s,.int .i64 6,.func (.func 264) #[] #[]] w fun e w'=>e=.returned (.int .i64 (iV dU s 6:Nat))∧w=w':=by
 have eg:∀ args w,(callFunc 264 args).run ae w=.ok (.enter 264 args) w:=enters_of Tryz.func264 (by kernel_rfl) rfl
 go_enter Tryz.func262,Tryz.ntmps262
 go_wp2_with fail
 go_step3
 go_wp2_with fail
 go_step3
 go_wp2_with fail
 go_loop [9] (fun i=>∃ k:Nat,k<=6∧i=.int .i64 k∧Hid (iV dU s k=0)) (fun i=>6 - (intOf i).toNat)
 case atStart=>exact⟨0,by omega,rfl,Lib.hid rfl⟩
 case round=>
  obtain⟨k,hk,rfl,H⟩:=hrel
  by_cases aS:k < 6
  ·have i0:(0:Int)<=(k:Int):=by omega
   have i1:(k:Int) < 6:=by omega
   by_cases he:dU k=s
   ·have HR:=Lib.hid (wV dU s k H.out he 6 aS);have ht:=rM he;have Tq:2 ^ k < 2 ^ 6:=Nat.pow_lt_pow_right (by omega) aS;obtain⟨p2,sf⟩:∃ p2,p2=2 ^ k:=⟨_,rfl⟩
    have se:IntKind.i64.wrap ((2:Int) ^ k)=(p2:Int):=by
     have:((2:Int) ^ k)=(p2:Int):=by rw[sf];simp
     rw[this,ak];rw[<- sf] at Tq;omega
    rw[<- sf] at HR;clear he sf Tq
    go_wp2_with fail
    refine(xH k aS _).mono ?_;rintro e w1 ⟨rfl,rfl⟩
    go_wp2_with fail
    rw[Exit.noGoto_ret]
    go_ret
    exact⟨uz (by rw[HR.out]),rfl⟩
   ·have H2:=Lib.hid (yN dU s k H.out he);have ht:=o5 he;clear he H
    go_wp2_with fail
    refine(xH k aS _).mono ?_;rintro e w1 ⟨rfl,rfl⟩
    go_wp2_with fail
    go_round
    case rel=>exact⟨k+1,by omega,by go_num,H2⟩
    case measure=>simp[intOf];omega
  ·obtain rfl:k=6:=by omega
   go_wp2_with fail
   go_ret
   exact⟨by rw[H.out];rfl,rfl⟩
theorem Vs (s:ByteArray)(w:World)(hm:Mx w):Calls ae 261 #[.string s] w fun e w'=>e=.returned (.bool (AX s))∧Below w.heap.size w w':=by
 by_cases hs:s.size<=1000000
 ·exact Rl s hs w hm
 ·have HF:=Lib.hid (show AX s=false from eP fun h=>by have:=h.2.1;omega);have d0:((s.size:Int)==0)=false:=beq_eq_false_iff_ne.2 (by omega);have hs':(32:Int) < (s.size:Int):=by omega
  clear hm hs
  go_enter Tryz.func261,Tryz.ntmps261
  go_wp2_with fail
  go_ret
  exact⟨et HF.out.symm,Below.refl _ _⟩
theorem Rk (s:ByteArray)(w:World):Calls ae 79 #[.string s] w fun e w'=>e=.returned (.bool (AX s))∧Below w.heap.size w w':=by
 by_cases hs:s.size<=1000000
 ·exact(Vr s hs w).mono fun _ _ ⟨h1,h2⟩=>⟨h1,h2▸Below.refl _ _⟩
 ·have HF:=Lib.hid (show AX s=false from eP fun h=>by have:=h.2.1;omega);have d0:decide ((s.size:Int) < 1)=false:=decide_eq_false (by omega);have hs':(32:Int) < (s.size:Int):=by omega
  clear hs
  go_enter Tryz.func79,Tryz.ntmps79
  go_wp2_with fail
  go_ret
  exact⟨et HF.out.symm,Below.refl _ _⟩
theorem Fk (s:ByteArray)(w:World)(hm:Mx w):Calls ae 227 #[.string s] w fun e w'=>e=.returned (.bool (gO s))∧Below w.heap.size w w':=by
 have HI:=Lib.hid (Vs s w hm);clear hm
 cases hw:AX s
 ·have HR:=Lib.hid (show gO s=false by rw[gO,hw];rfl);rw[hw] at HI;clear hw
  go_enter Tryz.func227,Tryz.ntmps227
  go_wp2_with fail
  refine HI.out.mono ?_;rintro e w1 ⟨rfl,b1⟩
  go_wp2_with fail
  go_ret
  exact⟨et HR.out.symm,b1⟩
 ·rw[hw] at HI
  by_cases h1:iV eT s 2=0
  ·have H1:=Lib.hid h1
   by_cases h2:iV dU s 6=0
   ·have H2:=Lib.hid h2;have HR:=Lib.hid (show gO s=true by rw[gO,hw,decide_eq_true h1,decide_eq_true h2];rfl);clear hw h1 h2
    go_enter Tryz.func227,Tryz.ntmps227
    go_wp2_with fail
    refine HI.out.mono ?_;rintro e w1 ⟨rfl,b1⟩
    go_wp2_with fail
    refine(po s _).mono ?_;rintro e w2 ⟨rfl,rfl⟩;rw[H1.out]
    go_wp2_with fail
    refine(yM s _).mono ?_;rintro e w2 ⟨rfl,rfl⟩;rw[H2.out]
    go_wp2_with fail
    go_ret
    exact⟨et HR.out.symm,b1⟩
   ·obtain⟨q,hq⟩:∃ q,iV dU s 6=q:=⟨_,rfl⟩
    have HQ:=Lib.hid hq;have HR:=Lib.hid (show gO s=false by rw[gO,hw,decide_eq_false h2];simp);rw[hq] at h2;have t1:((q:Int)==0)=false:=beq_eq_false_iff_ne.2 (by omega);clear hw h1 h2 hq
    go_enter Tryz.func227,Tryz.ntmps227
    go_wp2_with fail
    refine HI.out.mono ?_;rintro e w1 ⟨rfl,b1⟩
    go_wp2_with fail
    refine(po s _).mono ?_;rintro e w2 ⟨rfl,rfl⟩;rw[H1.out]
    go_wp2_with fail
    refine(yM s _).mono ?_;rintro e w2 ⟨rfl,rfl⟩;rw[HQ.out]
    go_wp2_with fail
    go_ret
    exact⟨et HR.out.symm,b1⟩
  ·obtain⟨q,hq⟩:∃ q,iV eT s 2=q:=⟨_,rfl⟩
   have HQ:=Lib.hid hq;have HR:=Lib.hid (show gO s=false by rw[gO,hw,decide_eq_false h1];simp);rw[hq] at h1;have t1:((q:Int)==0)=false:=beq_eq_false_iff_ne.2 (by omega);clear hw h1 hq
   go_enter Tryz.func227,Tryz.ntmps227
   go_wp2_with fail
   refine HI.out.mono ?_;rintro e w1 ⟨rfl,b1⟩
   go_wp2_with fail
   refine(po s _).mono ?_;rintro e w2 ⟨rfl,rfl⟩;rw[HQ.out]
   go_wp2_with fail
   go_ret
   exact⟨et HR.out.symm,b1⟩
def rJ:List ByteArray:=[eT 0,eT 1]
def types:List ByteArray:=[dU 0,dU 1,dU 2,dU 3,dU 4,dU 5]
theorem nf (w:World):Calls ae 198 #[] w fun e w'=>∃ v,e=.returned v∧fE Value.string w' v rJ∧Below w.heap.size w w':=by
 have HC:=Lib.hid (xW Value.string w rJ 9)
 go_enter Tryz.func198,Tryz.ntmps198
 go_wp2
 go_ret
 exact⟨_,rfl,HC.out,(Below.refl _ _).alloc (al _) _⟩
theorem xg (w:World):Calls ae 199 #[] w fun e w'=>∃ v,e=.returned v∧fE Value.string w' v types∧Below w.heap.size w w':=by
 have HC:=Lib.hid (xW Value.string w types 9)
 go_enter Tryz.func199,Tryz.ntmps199
 go_wp2
 go_ret
 exact⟨_,rfl,HC.out,(Below.refl _ _).alloc (al _) _⟩
theorem RH (xs:List ByteArray)(k:Nat)(h:k < xs.length):xs.getD k ByteArray.empty=xs[k]:=by rw[List.getD_eq_getElem?_getD,af h];rfl
theorem sa (v:Value)(xs:List ByteArray)(x:ByteArray)(w:World)(h:fE Value.string w v xs)(hn:xs.length<=9223372036854775807) :
  Calls ae 195 #[v,.string x] w fun e w'=>e=.returned (.int .i64 (Lib.idxOfS xs x))∧w=w':=by
 obtain⟨ao,cap,rfl,mV,hx⟩:=h;have HX:=Lib.hid hx;clear hx
 go_enter Tryz.func195,Tryz.ntmps195
 go_wp2_with fail
 go_loop [5] (fun i=>∃ k:Nat,k<=xs.length∧i=.int .i64 k∧Hid (∀ j,j < k->xs.getD j ByteArray.empty≠x)) (fun i=>xs.length - (intOf i).toNat)
 case atStart=>exact⟨0,by omega,rfl,Lib.hid fun j hj=>by omega⟩
 case round=>
  obtain⟨k,hk,rfl,H⟩:=hrel
  by_cases aS:k < xs.length
  ·rcases HX.out with e|⟨b,o,rfl,hb,hc⟩
   ·rw[e] at aS;simp at aS
   have iA:=hc k xs[k] (by simp);have hg:=RH xs k aS;obtain⟨y,hy⟩:∃ y,y=xs[k]:=⟨_,rfl⟩
   rw[<- hy] at iA hg;have HG:=Lib.hid hg;clear hc hy hg
   by_cases he:y=x
   ·have ht:(y.toList==x.toList)=true:=rM he;have HR:=Lib.hid (Lib.idxOfS_hit xs xs.length k x aS (al _) (by rw[HG.out];exact he) H.out);rw[bm] at HR;clear he
    go_wp2_with fail
    go_ret
    exact⟨uz HR.out.symm,rfl⟩
   ·have ht:(y.toList==x.toList)=false:=o5 he
    have H2:Hid (∀ j,j < k+1->xs.getD j ByteArray.empty≠x):=Lib.hid fun j hj=>by
     by_cases e:j=k
     ·rw[e,HG.out];exact he
     ·exact H.out j (by omega)
    clear he H
    go_wp2_with fail
    go_round
    case rel=>exact⟨k+1,by omega,by go_num,H2⟩
    case measure=>simp[intOf];omega
  ·obtain rfl:k=xs.length:=by omega
   have HR:=Lib.hid (Lib.idxOfS_miss xs xs.length x H.out);rw[bm] at HR
   go_wp2_with fail
   go_ret
   exact⟨uz HR.out.symm,rfl⟩
theorem Rq (s:ByteArray):decide (Lib.idxOfS rJ s < 0)=decide (iV eT s 2=0):=Fs s
theorem Rp (s:ByteArray):decide (Lib.idxOfS types s < 0)=decide (iV dU s 6=0):=JK s
theorem JB (s:ByteArray)(w:World):Calls ae 145 #[.string s] w fun e w'=>e=.returned (.bool (gO s))∧Below w.heap.size w w':=by
 have HI:=Lib.hid (Rk s w)
 cases hw:AX s
 ·have HR:=Lib.hid (show gO s=false by rw[gO,hw];rfl);rw[hw] at HI;clear hw
  go_enter Tryz.func145,Tryz.ntmps145
  go_wp2_with fail
  refine HI.out.mono ?_;rintro e w1 ⟨rfl,b1⟩
  go_wp2_with fail
  go_ret
  exact⟨et HR.out.symm,b1⟩
 ·rw[hw] at HI;obtain⟨p,hp⟩:∃ p,Lib.idxOfS rJ s=p:=⟨_,rfl⟩
  obtain⟨q,hq⟩:∃ q,Lib.idxOfS types s=q:=⟨_,rfl⟩
  have e1:=Rq s;have e2:=Rp s;rw[hp] at e1;rw[hq] at e2;have HP:=Lib.hid hp;have HQ:=Lib.hid hq
  cases h1:decide (iV eT s 2=0)
  ·have HR:=Lib.hid (show gO s=false by rw[gO,hw,h1];rfl);rw[h1] at e1;have t1:¬ p < 0:=of_decide_eq_false e1;clear hw h1 e1 e2 hp hq
   go_enter Tryz.func145,Tryz.ntmps145
   go_wp2_with fail
   refine HI.out.mono ?_;rintro e w1 ⟨rfl,b1⟩
   go_wp2_with fail
   refine(nf _).mono ?_;rintro e w2 ⟨v2,rfl,r2,b2⟩;have B2:=Lib.hid (b1.trans (b2.mono b1.size));have R2:=Lib.hid r2;clear r2 b1 b2
   go_wp2_with fail
   refine(sa v2 rJ s _ R2.out (by decide)).mono ?_;rintro e w3 ⟨rfl,rfl⟩;rw[HP.out]
   go_wp2_with fail
   go_ret
   exact⟨et HR.out.symm,B2.out⟩
  ·rw[h1] at e1;have t1:p < 0:=of_decide_eq_true e1;have HR:=Lib.hid (show gO s=decide (q < 0) by rw[gO,hw,h1,e2];rfl);clear hw h1 e1 e2 hp hq
   go_enter Tryz.func145,Tryz.ntmps145
   go_wp2_with fail
   refine HI.out.mono ?_;rintro e w1 ⟨rfl,b1⟩
   go_wp2_with fail
   refine(nf _).mono ?_;rintro e w2 ⟨v2,rfl,r2,b2⟩;have B2:=Lib.hid (b1.trans (b2.mono b1.size));have R2:=Lib.hid r2;clear r2 b1 b2
   go_wp2_with fail
   refine(sa v2 rJ s _ R2.out (by decide)).mono ?_;rintro e w3 ⟨rfl,rfl⟩;rw[HP.out]
   go_wp2_with fail
   refine(xg _).mono ?_;rintro e w4 ⟨v4,rfl,r4,b4⟩;have B4:=Lib.hid (B2.out.trans (b4.mono B2.out.size));have R4:=Lib.hid r4;clear r4 b4
   go_wp2_with fail
   refine(sa v4 types s _ R4.out (by decide)).mono ?_;rintro e w5 ⟨rfl,rfl⟩;rw[HQ.out]
   go_wp2_with fail
   go_ret
   exact⟨et HR.out.symm,B4.out⟩
end Go.Proofs.YtbmdcnkidjlbbaaGreat
end
section
namespace Go.Proofs.YtbmdcnkidjlbbaaGreat
open Go Cg
def DB (a b:Int):Int:=IntKind.i64.wrap (((BitVec.ofInt IntKind.i64.bits a &&& BitVec.ofInt IntKind.i64.bits b).toNat:Nat):Int)
def AJ (n m:Int):Bool:=decide (n>=0)&&decide (n<=m)
def sG (b:ej):Bool:=AJ b.kind 3&&(AJ b.n 1000000&&(b.kind != 0||b.n==0))
def Sy (a b m:Int):Bool:=AJ a m&&(AJ b m&&DB a b==0)
def Pb (s:ByteArray):Bool:=s.toList==(⟨#[]⟩:ByteArray).toList
def wy (f:cC):Bool:=AJ f.cg 5&&(AJ f.who 2&&(AJ f.self 2&&(AJ f.mY 2&&(AJ f.keys 131071&&(Sy f.types f.dC 63&&(Sy f.dQ f.dq 31&&((Pb f.sub||gO f.sub)&&(sG f.cV&&(sG f.cU&&sG f.value)))))))))
def ke (b:ej)(n:Int):Bool:=if b.kind=0 then true else if b.kind=1 then decide (n>=b.n) else if b.kind=2 then decide (n<=b.n) else if b.kind=3 then n==b.n else false
def ze (a b:Int):Bool:=DB a b != 0
def tt (c you w:Int):Bool:=if w=1 then c==you else w != 2||c != you
def Ea (t:Bool)(w:Int):Bool:=if w=1 then t else w != 2||!t
def xm (h s n:Int):Bool:=(s==0||ze h s)&&!ze h n
def Jz (l:List ByteArray)(s:ByteArray):Int:=jS (fun x:ByteArray=>x.toList==s.toList) l
def oH (l:List ByteArray)(s:ByteArray):Bool:=decide (Jz l s>=0)
def nine (n:Int):Bool:=decide (n>=0)&&decide (n<=9)
def oD (c:eB):Bool:=nine c.fZ&&(nine c.fP&&(nine c.fO&&(nine c.fN&&(nine c.fM&&(decide (c.generic>=0)&&(decide (c.generic<=99)&&(decide (c.x>=0)&&decide (c.x<=2))))))))
def rF (c:eB):Int:=if oD c=true then c.generic+c.fZ+c.fP+c.fO+c.fN+c.fM else 0
def xz (cr:Bool)(b:ej)(n:Int):Bool:=b.kind==0||(cr&&ke b n)
def jU (t:aG)(f:cC):Bool:=xz (ze t.line.types 1) f.cV t.cV&&(xz (ze t.line.types 1) f.cU t.cU&&ke f.value (rF t.cost))
def eW (o:aE)(t:aG)(you src:Int)(f:cC):Bool:=
 wy f&&(o.cg==f.cg&&(tt t.control you f.who&&(tt o.id src f.self&&(xm t.line.types f.types f.dC&&(xm t.dQ f.dQ f.dq&&((Pb f.sub||oH t.line.dN f.sub)&&(mW t.keys f.keys&&(Ea o.eR f.mY&&jU t f))))))))
def Z6:Nat->Int->Int->Bool
 | 0,_,_=>true
 | n+1,a,b=>!(a.tmod 2==1&&b.tmod 2==1)&&Z6 n (IntKind.i64.wrap (a.tdiv 2)) (IntKind.i64.wrap (b.tdiv 2))
theorem Sz:∀ a b:_root_.Fin 64,Z6 6 (a.val:Int) (b.val:Int)=(DB (a.val:Int) (b.val:Int)==0):=by decide +kernel
theorem SA {a b:Int}(ha:0<=a)(FG:a<=63)(hb:0<=b)(dD:b<=63):Z6 6 a b=(DB a b==0):=by
 have:=Sz ⟨a.toNat,by omega⟩ ⟨b.toNat,by omega⟩;simp only[Int.toNat_of_nonneg ha,Int.toNat_of_nonneg hb] at this;exact this
theorem WI {a b m:Int}(hm:m<=63)(h:¬ a < 0)(h1:¬ a > m)(h2:¬ b < 0)(h3:¬ b > m):Sy a b m=Z6 6 a b:=by
 unfold Sy AJ;rw[SA (by omega) (by omega) (by omega) (by omega),decide_eq_true (by omega),decide_eq_true (by omega),decide_eq_true (by omega),decide_eq_true (by omega)];rfl
end Go.Proofs.YtbmdcnkidjlbbaaGreat
end
section
namespace Go.Proofs.YtbmdcnkidjlbbaaGreat
open Go Cg Go.RowKit Go.Shelf
theorem TL {f:FuncId}(he:KP ae f)(s:ByteArray)(b:Bool)(h:∀ w,Gl w->Calls ae f #[.string s] w fun e w'=>e=.returned (.bool b)∧Below w.heap.size w w'):Ct ae f [AV.s s] (AV.b b) [] true:=by
 refine⟨he,aD _,fun _ h=>(by cases h),rfl,fun x hx=>(by cases hx),fun x hx=>(by cases hx),fun w vs E0 hg ha=>?_⟩
 cases ha with
 | cons hv Cz=>
  cases Cz
  rename_i v;obtain rfl:v=.string s:=dO hv;refine(h w hg).mono ?_;rintro e w' ⟨rfl,hb⟩;exact⟨_,rfl,hb,⟨fun _=>.dX,fun _=>0,fun _ _=>undef⟩,RT.lit rfl,fun j R hj=>(by cases hj),fun b _ hc=>(by cases hc)⟩
theorem Ff (s:ByteArray):Ct ae 227 [AV.s s] (AV.b (gO s)) [] true:=TL (enters_of Tryz.func227 (by kernel_rfl) rfl) s _ fun w hg=>Fk s w hg
theorem x7 (s:ByteArray):Ct ae 145 [AV.s s] (AV.b (gO s)) [] true:=TL (enters_of Tryz.func145 (by kernel_rfl) rfl) s _ fun w _=>JB s w
theorem Vp (l:List ByteArray)(s:ByteArray)(hl:l.length*16<=ba):Ct ae 195 [.c (.t (.sl 1 (l.map eS))),AV.s s] (AV.i (Jz l s)) [] true:=by
 refine Ct.lit (b:=false) ?_ rfl;refine bT Tryz.func195 rfl (enters_of Tryz.func195 (by kernel_rfl) rfl) tabOk (by kernel_rfl) rfl rfl rfl rfl fun w0 O _=>Tp.run [] ?_;refine Tp.loop (fun k:Nat=>⟨[(0,.c (.t (.sl 1 (l.map eS)))),(1,AV.s s),(5,AV.i k)],[],[],10000⟩) (fun k=>k<=l.length∧∀ j (h:j < l.length),j < k->(fun x:ByteArray=>x.toList==s.toList) l[j]=false) (fun k=>l.length - k) 0 ?_ ⟨aD _,fun j _ hj=>by omega⟩ ?_
 ·refine bh [] rfl rfl ?_ ?_ ?_
  all_goals repeat' first|refine Ai ?_ ?_|exact rfl|exact trivial|exact Ei _ rfl|refine aj ?_|refine bS ?_|fail
 rintro k ⟨hk,eZ⟩;refine Tp.run [4,5,3] ?_;refine cS (fun h=>?_) (fun h=>?_)
 ·have aS:=cN h;refine Tp.run [] ?_;refine Ei k (Ei (eS l[k]) (Ai rfl (Ai (aQ _ _ k aS) ?_)));refine cS (fun h=>?_) (fun h=>?_)
  ·refine Tp.run [] ?_;refine Ei [] (Ai rfl (Ai trivial ?_));rw[Jz,ku _ _ k aS h eZ];exact rfl
  ·refine Tp.run [] ?_;refine Ei (k+1) (Ai ⟨by omega,fun j hj Af=>?_⟩ (Ai (show l.length - (k+1) < l.length - k by omega) ?_))
   ·by_cases e:j=k
    ·subst e;exact h
    ·exact eZ j hj (by omega)
   refine bh [] rfl rfl ?_ ?_ ?_
   ·repeat' first|refine Ai ?_ ?_|exact rfl|exact trivial|exact Ei _ rfl|refine aj ?_|refine bS ?_|fail
    exact succ_eq k aS 16 (by decide) hl
   all_goals repeat' first|refine Ai ?_ ?_|exact rfl|exact trivial|exact Ei _ rfl|refine aj ?_|refine bS ?_|fail
 ·have fS:=cP h hk;refine Ei [] (Ai rfl (Ai trivial ?_));rw[Jz,jh _ _ (fun j hj=>eZ j hj (by omega))];exact rfl
theorem Vq (l:List ByteArray)(s:ByteArray)(hl:l.length*16<=ba):Ct ae 265 [.c (.t (.sl 1 (l.map eS))),AV.s s] (AV.i (Jz l s)) [] true:=by
 refine Ct.lit (b:=false) ?_ rfl;refine bT Tryz.func265 rfl (enters_of Tryz.func265 (by kernel_rfl) rfl) tabOk (by kernel_rfl) rfl rfl rfl rfl fun w0 O _=>Tp.run [] ?_;refine Tp.loop (fun k:Nat=>⟨[(0,.c (.t (.sl 1 (l.map eS)))),(1,AV.s s),(7,AV.i (l.map eS).length),(8,AV.i k)],[],[],10000⟩) (fun k=>k<=l.length∧∀ j (h:j < l.length),j < k->(fun x:ByteArray=>x.toList==s.toList) l[j]=false) (fun k=>l.length - k) 0 ?_ ⟨aD _,fun j _ hj=>by omega⟩ ?_
 ·refine bh [] rfl rfl ?_ ?_ ?_
  all_goals repeat' first|refine Ai ?_ ?_|exact rfl|exact trivial|exact Ei _ rfl|refine aj ?_|refine bS ?_|fail
 rintro k ⟨hk,eZ⟩;refine Tp.run [5,6,7] ?_;refine cS (fun h=>?_) (fun h=>?_)
 ·have aS:=cN h;refine Ei k (Ei (eS l[k]) (Ai rfl (Ai (aQ _ _ k aS) ?_)));refine cS (fun h=>?_) (fun h=>?_)
  ·have h:(s.toList==l[k].toList)=true:=h;refine Tp.run [] ?_;refine Ei [] (Ai rfl (Ai trivial ?_));rw[Jz,ku _ _ k aS (by rw[<- h];exact Bool.beq_comm) eZ];exact rfl
  ·have h:(s.toList==l[k].toList)=false:=h;refine Tp.run [] ?_;refine Ei (k+1) (Ai ⟨by omega,fun j hj Af=>?_⟩ (Ai (show l.length - (k+1) < l.length - k by omega) ?_))
   ·by_cases e:j=k
    ·subst e;rw[<- h];exact Bool.beq_comm
    ·exact eZ j hj (by omega)
   refine bh [] rfl rfl ?_ ?_ ?_
   ·repeat' first|refine Ai ?_ ?_|exact rfl|exact trivial|exact Ei _ rfl|refine aj ?_|refine bS ?_|fail
    exact succ_eq k aS 16 (by decide) hl
   all_goals repeat' first|refine Ai ?_ ?_|exact rfl|exact trivial|exact Ei _ rfl|refine aj ?_|refine bS ?_|fail
 ·have fS:=cP h hk;refine Ei [] (Ai rfl (Ai trivial ?_));rw[Jz,jh _ _ (fun j hj=>eZ j hj (by omega))];exact rfl
theorem QM (a:ej)(b:Int):∃ r:Bool,(r=(ke a b))∧Ct ae 183 [.agg (a.enc.map .t),.c (.t (iv b))] (AV.b r) [] true:=by
 refine db (Φ:=fun (r:Bool)=>r=(ke a b)) dc (bO Tryz.func183 rfl (enters_of Tryz.func183 (by kernel_rfl) rfl) tabOk (by kernel_rfl) rfl rfl (ck.bI [] [] ?_))
 repeat' (first|(apply bY <;> intro _)|(apply dV <;> intro _)|(apply cR <;> intro _)|apply cy|(apply cS <;> intro _)|(apply bL;exact Ei [] (Ai rfl (Ai trivial rfl));exact(by simp[ke, *]);rfl)|fail)
theorem Mu (a:ej)(b:Int):Ct ae 183 [.agg (a.enc.map .t),.c (.t (iv b))] (AV.b (ke a b)) [] true:=by
 obtain⟨r,hr,h⟩:=QM a b;rw[hr] at h;exact h
theorem Jb (a:ej)(b:Int):∃ r:Bool,(r=(ke a b))∧Ct ae 196 [.agg (a.enc.map .t),.c (.t (iv b))] (AV.b r) [] true:=by
 refine db (Φ:=fun (r:Bool)=>r=(ke a b)) dc (bO Tryz.func196 rfl (enters_of Tryz.func196 (by kernel_rfl) rfl) tabOk (by kernel_rfl) rfl rfl (ck.bI [] [] ?_))
 repeat' (first|(apply bY <;> intro _)|(apply dV <;> intro _)|(apply cR <;> intro _)|apply cy|(apply cS <;> intro _)|(apply bL;exact Ei [] (Ai rfl (Ai trivial rfl));exact(by simp[ke, *]);rfl)|fail)
theorem J8 (a:Int)(b:Int):∃ r:Bool,(r=(AJ a b))∧Ct ae 226 [.c (.t (iv a)),.c (.t (iv b))] (AV.b r) [] true:=by
 refine db (Φ:=fun (r:Bool)=>r=(AJ a b)) dc (bO Tryz.func226 rfl (enters_of Tryz.func226 (by kernel_rfl) rfl) tabOk (by kernel_rfl) rfl rfl (ck.bI [] [] ?_))
 repeat' (first|(apply bY <;> intro _)|(apply dV <;> intro _)|(apply cR <;> intro _)|apply cy|(apply cS <;> intro _)|(apply bL;exact Ei [] (Ai rfl (Ai trivial rfl));exact(by simp[AJ, *]);rfl)|fail)
theorem C0 (a:Int)(b:Int):Ct ae 226 [.c (.t (iv a)),.c (.t (iv b))] (AV.b (AJ a b)) [] true:=by
 obtain⟨r,hr,h⟩:=J8 a b;rw[hr] at h;exact h
theorem J7 (a:ej):∃ r:Bool,(r=(sG a))∧Ct ae 228 [.agg (a.enc.map .t)] (AV.b r) [] true:=by
 refine db (Φ:=fun (r:Bool)=>r=(sG a)) dc (bO Tryz.func228 rfl (enters_of Tryz.func228 (by kernel_rfl) rfl) tabOk (by kernel_rfl) rfl rfl (ck.bI [] [] ?_))
 repeat' (first|(apply bY <;> intro _)|(apply dV <;> intro _)|(apply cR <;> intro _)|apply cy|(apply cS <;> intro _)|(apply bL;exact Ei [] (Ai rfl (Ai trivial rfl));exact(by first|(simp[sG, *];done)|(simp_all[sG];done));rfl)|(apply bj 226;refine cI (C0 _ _) ⟨rfl,rfl,trivial⟩ (.inl rfl) ?_)|fail)
theorem NU (a:ej):Ct ae 228 [.agg (a.enc.map .t)] (AV.b (sG a)) [] true:=by
 obtain⟨r,hr,h⟩:=J7 a;rw[hr] at h;exact h
theorem EB (a:ej):∃ r:Bool,(r=(sG a))∧Ct ae 194 [.agg (a.enc.map .t)] (AV.b r) [] true:=by
 refine db (Φ:=fun (r:Bool)=>r=(sG a)) dc (bO Tryz.func194 rfl (enters_of Tryz.func194 (by kernel_rfl) rfl) tabOk (by kernel_rfl) rfl rfl (ck.bI [] [] ?_))
 repeat' (first|(apply bY <;> intro _)|(apply dV <;> intro _)|(apply cR <;> intro _)|apply cy|(apply cS <;> intro _)|(apply bL;exact Ei [] (Ai rfl (Ai trivial rfl));exact(by first|(simp_all[sG,AJ];done)|(simp_all[sG,AJ];omega));rfl)|fail)
theorem I6 (a:ej):Ct ae 194 [.agg (a.enc.map .t)] (AV.b (sG a)) [] true:=by
 obtain⟨r,hr,h⟩:=EB a;rw[hr] at h;exact h
theorem EC (a:Int)(b:Int)(c:Int)  (hm:c<=63):∃ r:Bool,(r=(Sy a b c))∧Ct ae 193 [.c (.t (iv a)),.c (.t (iv b)),.c (.t (iv c))] (AV.b r) [] true:=by
 refine db (Φ:=fun (r:Bool)=>r=(Sy a b c)) dc (bO Tryz.func193 rfl (enters_of Tryz.func193 (by kernel_rfl) rfl) tabOk (by kernel_rfl) rfl rfl (ck.bI [] [] ?_))
 repeat' (first|(apply bY <;> intro _)|(apply dV <;> intro _)|(apply cR <;> intro _)|apply cy|(apply cS <;> intro _)|(apply bL;exact Ei [] (Ai rfl (Ai trivial rfl));exact(by first|(simp[Sy,AJ];omega)|(rw[WI hm ‹_› ‹_› ‹_› ‹_›];simp[Z6, *];done));rfl)|(apply eX 4 rfl;refine gP.one 4 rfl (ck.bI [] [] ?_))|(refine Ai rfl (Ai (by first|decide|assumption|omega) ?_))|fail)
theorem I7 (a:Int)(b:Int)(c:Int)  (hm:c<=63):Ct ae 193 [.c (.t (iv a)),.c (.t (iv b)),.c (.t (iv c))] (AV.b (Sy a b c)) [] true:=by
 obtain⟨r,hr,h⟩:=EC a b c hm;rw[hr] at h;exact h
theorem P7 (a:cC):∃ r:Bool,(r=(wy a))∧Ct ae 135 [.agg (a.enc.map .t)] (AV.b r) [] true:=by
 refine db (Φ:=fun (r:Bool)=>r=(wy a)) dc (bO Tryz.func135 rfl (enters_of Tryz.func135 (by kernel_rfl) rfl) tabOk (by kernel_rfl) rfl rfl (ck.bI [] [] ?_))
 repeat' (first|(apply bY <;> intro _)|(apply dV <;> intro _)|(apply cR <;> intro _)|apply cy|(apply cS <;> intro _)|(apply bL;exact Ei [] (Ai rfl (Ai trivial rfl));exact(by first|(simp_all[wy,AJ,Pb];done)|(simp_all[wy,AJ,Pb];omega));rfl)|(apply bj 193;refine cI (I7 _ _ _ (by first|assumption|omega|(simp only[ak,IntKind.wrap_u64,aq,aw];omega)|(simp only[Lm] at *;omega)|decide)) ⟨rfl,rfl,rfl,trivial⟩ (.inl rfl) ?_)|(apply bj 145;refine cI (x7 _) ⟨rfl,trivial⟩ (.inl rfl) ?_)|(apply bj 194;refine cI (I6 _) ⟨fL (ej.enc _),trivial⟩ (.inl rfl) ?_)|fail)
theorem J6 (a:cC):∃ r:Bool,(r=(wy a))∧Ct ae 180 [.agg (a.enc.map .t)] (AV.b r) [] true:=by
 refine db (Φ:=fun (r:Bool)=>r=(wy a)) dc (bO Tryz.func180 rfl (enters_of Tryz.func180 (by kernel_rfl) rfl) tabOk (by kernel_rfl) rfl rfl (ck.bI [] [] ?_))
 repeat' (first|(apply bY <;> intro _)|(apply dV <;> intro _)|(apply cR <;> intro _)|apply cy|(apply cS <;> intro _)|(apply bL;exact Ei [] (Ai rfl (Ai trivial rfl));exact(by simp_all[wy,Sy,Pb,DB]);rfl)|(apply bj 226;refine cI (C0 _ _) ⟨rfl,rfl,trivial⟩ (.inl rfl) ?_)|(apply bj 227;refine cI (Ff _) ⟨rfl,trivial⟩ (.inl rfl) ?_)|(apply bj 228;refine cI (NU _) ⟨fL (ej.enc _),trivial⟩ (.inl rfl) ?_)|fail)
theorem sQ (a:Int)(b:Int):∃ r:Bool,(r=(ze a b))∧Ct ae 139 [.c (.t (iv a)),.c (.t (iv b))] (AV.b r) [] true:=by
 refine db (Φ:=fun (r:Bool)=>r=(ze a b)) dc (bO Tryz.func139 rfl (enters_of Tryz.func139 (by kernel_rfl) rfl) tabOk (by kernel_rfl) rfl rfl (ck.bI [] [] ?_))
 repeat' (first|(apply bY <;> intro _)|(apply dV <;> intro _)|(apply cR <;> intro _)|apply cy|(apply cS <;> intro _)|(apply bL;exact Ei [] (Ai rfl (Ai trivial rfl));exact(rfl);rfl)|fail)
theorem PS (a:Int)(b:Int)(c:Int):∃ r:Bool,(r=(tt a b c))∧Ct ae 136 [.c (.t (iv a)),.c (.t (iv b)),.c (.t (iv c))] (AV.b r) [] true:=by
 refine db (Φ:=fun (r:Bool)=>r=(tt a b c)) dc (bO Tryz.func136 rfl (enters_of Tryz.func136 (by kernel_rfl) rfl) tabOk (by kernel_rfl) rfl rfl (ck.bI [] [] ?_))
 repeat' (first|(apply bY <;> intro _)|(apply dV <;> intro _)|(apply cR <;> intro _)|apply cy|(apply cS <;> intro _)|(apply bL;exact Ei [] (Ai rfl (Ai trivial rfl));exact(by simp[tt, *]);rfl)|fail)
theorem LU (a:Int)(b:Int)(c:Int):∃ r:Bool,(r=(tt a b c))∧Ct ae 137 [.c (.t (iv a)),.c (.t (iv b)),.c (.t (iv c))] (AV.b r) [] true:=by
 refine db (Φ:=fun (r:Bool)=>r=(tt a b c)) dc (bO Tryz.func137 rfl (enters_of Tryz.func137 (by kernel_rfl) rfl) tabOk (by kernel_rfl) rfl rfl (ck.bI [] [] ?_))
 repeat' (first|(apply bY <;> intro _)|(apply dV <;> intro _)|(apply cR <;> intro _)|apply cy|(apply cS <;> intro _)|(apply bL;exact Ei [] (Ai rfl (Ai trivial rfl));exact(by simp[tt, *]);rfl)|fail)
theorem PT (a:Bool)(b:Int):∃ r:Bool,(r=(Ea a b))∧Ct ae 138 [AV.b a,.c (.t (iv b))] (AV.b r) [] true:=by
 refine db (Φ:=fun (r:Bool)=>r=(Ea a b)) dc (bO Tryz.func138 rfl (enters_of Tryz.func138 (by kernel_rfl) rfl) tabOk (by kernel_rfl) rfl rfl (ck.bI [] [] ?_))
 repeat' (first|(apply bY <;> intro _)|(apply dV <;> intro _)|(apply cR <;> intro _)|apply cy|(apply cS <;> intro _)|(apply bL;exact Ei [] (Ai rfl (Ai trivial rfl));exact(by simp[Ea, *]);rfl)|fail)
theorem vu (a:jv)(b:ByteArray)(ha:a.ok):∃ r:Bool,(r=(oH a.dN b))∧Ct ae 140 [.agg (a.enc.map .t),AV.s b] (AV.b r) [] true:=by
 refine db (Φ:=fun (r:Bool)=>r=(oH a.dN b)) dc (bO Tryz.func140 rfl (enters_of Tryz.func140 (by kernel_rfl) rfl) tabOk (by kernel_rfl) rfl rfl (ck.bI [] [] ?_))
 repeat' (first|(apply bY <;> intro _)|(apply dV <;> intro _)|(apply cR <;> intro _)|apply cy|(apply cS <;> intro _)|(apply bL;exact Ei [] (Ai rfl (Ai trivial rfl));exact(by simp[oH]);rfl)|(apply bj 195;refine cI (Vp _ _ (by first|assumption|exact eO ‹_› ‹_› | exact eV _ ‹_› | exact jv.QA ‹_›)) ⟨rfl,rfl,trivial⟩ (.inl rfl) ?_)|fail)
theorem I9 (a:jv)(b:ByteArray)(ha:a.ok):Ct ae 140 [.agg (a.enc.map .t),AV.s b] (AV.b (oH a.dN b)) [] true:=by
 obtain⟨r,hr,h⟩:=vu a b ha;rw[hr] at h;exact h
theorem FZ (a:List ByteArray)(b:ByteArray)(ha:a.length*16<=ba):∃ r:Bool,(r=(oH a b))∧Ct ae 229 [.c (.t (.sl 1 (a.map eS))),AV.s b] (AV.b r) [] true:=by
 refine db (Φ:=fun (r:Bool)=>r=(oH a b)) dc (bO Tryz.func229 rfl (enters_of Tryz.func229 (by kernel_rfl) rfl) tabOk (by kernel_rfl) rfl rfl (ck.bI [] [] ?_))
 repeat' (first|(apply bY <;> intro _)|(apply dV <;> intro _)|(apply cR <;> intro _)|apply cy|(apply cS <;> intro _)|(apply bL;exact Ei [] (Ai rfl (Ai trivial rfl));exact(by simp[oH]);rfl)|(apply bj 265;refine cI (Vq _ _ (by first|assumption|exact eO ‹_› ‹_› | exact eV _ ‹_›)) ⟨rfl,rfl,trivial⟩ (.inl rfl) ?_)|fail)
theorem containsS (a:List ByteArray)(b:ByteArray)(ha:a.length*16<=ba):Ct ae 229 [.c (.t (.sl 1 (a.map eS))),AV.s b] (AV.b (oH a b)) [] true:=by
 obtain⟨r,hr,h⟩:=FZ a b ha;rw[hr] at h;exact h
theorem MV (a:jv)(b:ByteArray)(ha:a.ok):∃ r:Bool,(r=(oH a.dN b))∧Ct ae 184 [.agg (a.enc.map .t),AV.s b] (AV.b r) [] true:=by
 refine db (Φ:=fun (r:Bool)=>r=(oH a.dN b)) dc (bO Tryz.func184 rfl (enters_of Tryz.func184 (by kernel_rfl) rfl) tabOk (by kernel_rfl) rfl rfl (ck.bI [] [] ?_))
 repeat' (first|(apply bY <;> intro _)|(apply dV <;> intro _)|(apply cR <;> intro _)|apply cy|(apply cS <;> intro _)|(apply bL;exact Ei [] (Ai rfl (Ai trivial rfl));exact(rfl);rfl)|(apply bj 229;refine cI (containsS _ _ (by first|assumption|exact eO ‹_› ‹_› | exact eV _ ‹_› | exact jv.QA ‹_›)) ⟨rfl,rfl,trivial⟩ (.inl rfl) ?_)|fail)
theorem Qe (a:eB):∃ r:Bool,(r=(oD a))∧Ct ae 80 [.agg (a.enc.map .t)] (AV.b r) [] true:=by
 refine db (Φ:=fun (r:Bool)=>r=(oD a)) dc (bO Tryz.func80 rfl (enters_of Tryz.func80 (by kernel_rfl) rfl) tabOk (by kernel_rfl) rfl rfl (ck.bI [] [] ?_))
 repeat' (first|(apply bY <;> intro _)|(apply dV <;> intro _)|(apply cR <;> intro _)|apply cy|(apply cS <;> intro _)|(apply bL;exact Ei [] (Ai rfl (Ai trivial rfl));exact(by first|(simp_all[oD,nine];done)|(simp_all[oD,nine];omega));rfl)|(apply eX 4 rfl;refine gP.one 4 rfl (ck.bI [] [] ?_))|(apply jf;(first|assumption|omega|(simp only[ak,IntKind.wrap_u64,aq,aw];omega)|(simp only[Lm] at *;omega)|decide);(first|assumption|omega|(simp only[ak,IntKind.wrap_u64,aq,aw];omega)|(simp only[Lm] at *;omega)|decide);intro _ _)|(apply ud;(first|assumption|omega|(simp only[ak];omega)|(simp only[Lm] at *;omega)|decide);(first|assumption|omega|(simp only[ak];omega)|(simp only[Lm] at *;omega)|decide);intro _)|fail)
theorem L9 (a:eB):Ct ae 80 [.agg (a.enc.map .t)] (AV.b (oD a)) [] true:=by
 obtain⟨r,hr,h⟩:=Qe a;rw[hr] at h;exact h
theorem QW (a:eB):∃ r:Bool,(r=(oD a))∧Ct ae 230 [.agg (a.enc.map .t)] (AV.b r) [] true:=by
 refine db (Φ:=fun (r:Bool)=>r=(oD a)) dc (bO Tryz.func230 rfl (enters_of Tryz.func230 (by kernel_rfl) rfl) tabOk (by kernel_rfl) rfl rfl (ck.bI [] [] ?_))
 repeat' (first|(refine Ei 0 (Ei _ (Ai (by decide) (Ai (by decide) (Ai rfl ?_)))))|(refine Ei 1 (Ei _ (Ai (by decide) (Ai (by decide) (Ai rfl ?_)))))|(refine Ei 2 (Ei _ (Ai (by decide) (Ai (by decide) (Ai rfl ?_)))))|(refine Ei 3 (Ei _ (Ai (by decide) (Ai (by decide) (Ai rfl ?_)))))|(refine Ei 4 (Ei _ (Ai (by decide) (Ai (by decide) (Ai rfl ?_)))))|(apply bY <;> intro _)|(apply dV <;> intro _)|(apply cR <;> intro _)|apply cy|(apply cS <;> intro _)|(apply bL;exact Ei [] (Ai rfl (Ai trivial rfl));exact(by first|(simp_all[oD,nine];done)|(simp_all[oD,nine];omega));rfl)|(apply eX 2 rfl;refine gP.one 2 rfl (ck.bI [] [] ?_))|(apply ud;(first|assumption|omega|(simp only[ak,IntKind.wrap_u64,aq,aw];omega)|(simp only[Lm] at *;omega)|decide);(first|assumption|omega|(simp only[ak,IntKind.wrap_u64,aq,aw];omega)|(simp only[Lm] at *;omega)|decide);intro _)|(apply zX;(first|assumption|omega|(simp only[ak,IntKind.wrap_u64,aq,aw];omega)|(simp only[Lm] at *;omega)|decide);(first|assumption|omega|(simp only[ak,IntKind.wrap_u64,aq,aw];omega)|(simp only[Lm] at *;omega)|decide);intro _)|fail)
theorem Vd (a:eB):Ct ae 230 [.agg (a.enc.map .t)] (AV.b (oD a)) [] true:=by
 obtain⟨r,hr,h⟩:=QW a;rw[hr] at h;exact h
theorem nJ {n:Int}(h:-1000000<=n)(h2:n<=1000000):dd n=n:=by
 unfold dd;split
 ·omega
 ·split
  ·omega
  ·rfl
theorem vK {n:Int}(h:nine n=true):0<=n∧n<=9:=by
 unfold nine at h;simp at h;omega
theorem Tc {c:eB}(h:oD c=true):(0<=c.generic∧c.generic<=99)∧(0<=c.x∧c.x<=2)∧(0<=c.fZ∧c.fZ<=9)∧(0<=c.fP∧c.fP<=9)∧(0<=c.fO∧c.fO<=9)∧(0<=c.fN∧c.fN<=9)∧(0<=c.fM∧c.fM<=9):=by
 unfold oD at h;simp only[ag,decide_eq_true_eq] at h;obtain⟨h0,h1,h2,h3,h4,h5,h6,h7,h8⟩:=h;exact⟨⟨h5,h6⟩,⟨h7,h8⟩,vK h0,vK h1,vK h2,vK h3,vK h4⟩
theorem KX {c:eB}(h:oD c=false):(0:Int)=rF c:=by
 unfold rF;rw[if_neg (by rw[h];decide)]
def mulM (a b:Int):Int:=dd (IntKind.i64.wrap (dd a*dd b))
theorem Ta (a:Int):mulM a 0=0:=by
 unfold mulM;rw[show dd 0=0 from rfl,Int.mul_zero];rfl
theorem TO {n:Int}(h:-1000000<=n)(h2:n<=1000000)(m:Int)(hm:m=0):ff n m=n:=by
 subst hm;unfold ff;rw[nJ h h2,show dd 0=0 from rfl,Int.add_zero,nJ h h2]
theorem DD {n m:Int}(h:0<=n)(h2:n<=1000)(h3:0<=m)(h4:m<=1000):ff n m=n+m:=by
 unfold ff;rw[nJ (n:=n) (by omega) (by omega),nJ (n:=m) (by omega) (by omega),nJ (by omega) (by omega)]
theorem KZ {c:eB}(h:oD c=true):ff (IntKind.i64.wrap (IntKind.i64.wrap (IntKind.i64.wrap (IntKind.i64.wrap (IntKind.i64.wrap (c.generic+c.fZ)+c.fP)+c.fO)+c.fN)+c.fM)) (mulM c.x 0)=rF c:=by
 obtain⟨h0,h1,h2,h3,h4,h5,h6⟩:=Tc h;rw[Ta];unfold rF;rw[if_pos h,TO (by simp only[ak];omega) (by simp only[ak];omega) 0 rfl];simp only[ak];omega
theorem KY {c:eB}(h:oD c=true):ff (ff (ff (ff (ff (ff c.generic c.fZ) c.fP) c.fO) c.fN) c.fM) (mulM c.x 0)=rF c:=by
 obtain⟨h0,h1,h2,h3,h4,h5,h6⟩:=Tc h;rw[Ta];unfold rF;rw[if_pos h,DD (n:=c.generic) (by omega) (by omega) (by omega) (by omega),DD (m:=c.fP) (by omega) (by omega) (by omega) (by omega),DD (m:=c.fO) (by omega) (by omega) (by omega) (by omega),DD (m:=c.fN) (by omega) (by omega) (by omega) (by omega),DD (m:=c.fM) (by omega) (by omega) (by omega) (by omega),TO (by omega) (by omega) 0 rfl]
theorem QJ (a:Int)(b:Int):∃ r:Int,(r=(mulM a b))∧Ct ae 232 [.c (.t (iv a)),.c (.t (iv b))] (AV.i r) [] true:=by
 refine db (Φ:=fun (r:Int)=>r=(mulM a b)) lF (bO Tryz.func232 rfl (enters_of Tryz.func232 (by kernel_rfl) rfl) tabOk (by kernel_rfl) rfl rfl (ck.bI [] [] ?_))
 repeat' (first|(apply bY <;> intro _)|(apply dV <;> intro _)|(apply cR <;> intro _)|apply cy|(apply cS <;> intro _)|(apply bL;exact Ei [] (Ai rfl (Ai trivial rfl));exact(rfl);rfl)|(apply bj 266;refine cI (BZ _) ⟨rfl,trivial⟩ (.inl rfl) ?_)|fail)
theorem U3 (a:Int)(b:Int):Ct ae 232 [.c (.t (iv a)),.c (.t (iv b))] (AV.i (mulM a b)) [] true:=by
 obtain⟨r,hr,h⟩:=QJ a b;rw[hr] at h;exact h
theorem Qj (a:Int)(b:Int):∃ r:Int,(r=(mulM a b))∧Ct ae 237 [.c (.t (iv a)),.c (.t (iv b))] (AV.i r) [] true:=by
 refine db (Φ:=fun (r:Int)=>r=(mulM a b)) lF (bO Tryz.func237 rfl (enters_of Tryz.func237 (by kernel_rfl) rfl) tabOk (by kernel_rfl) rfl rfl (ck.bI [] [] ?_))
 repeat' (first|(apply bY <;> intro _)|(apply dV <;> intro _)|(apply cR <;> intro _)|apply cy|(apply cS <;> intro _)|(apply bL;exact Ei [] (Ai rfl (Ai trivial rfl));exact(rfl);rfl)|(apply bj 167;refine cI (np _) ⟨rfl,trivial⟩ (.inl rfl) ?_)|fail)
theorem UA (a:Int)(b:Int):Ct ae 237 [.c (.t (iv a)),.c (.t (iv b))] (AV.i (mulM a b)) [] true:=by
 obtain⟨r,hr,h⟩:=Qj a b;rw[hr] at h;exact h
theorem Fa (a:eB)(b:Int)  (hb:b=0):∃ r:Int,(r=(rF a))∧Ct ae 186 [.agg (a.enc.map .t),.c (.t (iv b))] (AV.i r) [] true:=by
 subst hb;refine db (Φ:=fun (r:Int)=>r=(rF a)) lF (bO Tryz.func186 rfl (enters_of Tryz.func186 (by kernel_rfl) rfl) tabOk (by kernel_rfl) rfl rfl (ck.bI [] [] ?_))
 repeat' (first|(refine Ei 0 (Ei _ (Ai (by decide) (Ai (by decide) (Ai rfl ?_)))))|(refine Ei 1 (Ei _ (Ai (by decide) (Ai (by decide) (Ai rfl ?_)))))|(refine Ei 2 (Ei _ (Ai (by decide) (Ai (by decide) (Ai rfl ?_)))))|(refine Ei 3 (Ei _ (Ai (by decide) (Ai (by decide) (Ai rfl ?_)))))|(refine Ei 4 (Ei _ (Ai (by decide) (Ai (by decide) (Ai rfl ?_)))))|(apply bY <;> intro _)|(apply dV <;> intro _)|(apply cR <;> intro _)|apply cy|(apply cS <;> intro _)|(apply bL;exact Ei [] (Ai rfl (Ai trivial rfl));exact(by first|exact KX ‹_› | exact KZ ‹_›);rfl)|(apply eX 5 rfl;refine gP.one 5 rfl (ck.bI [] [] ?_))|(apply ud;(first|assumption|omega|(simp only[ak,IntKind.wrap_u64,aq,aw];omega)|(simp only[Lm] at *;omega)|decide);(first|assumption|omega|(simp only[ak,IntKind.wrap_u64,aq,aw];omega)|(simp only[Lm] at *;omega)|decide);intro _)|(apply zX;(first|assumption|omega|(simp only[ak,IntKind.wrap_u64,aq,aw];omega)|(simp only[Lm] at *;omega)|decide);(first|assumption|omega|(simp only[ak,IntKind.wrap_u64,aq,aw];omega)|(simp only[Lm] at *;omega)|decide);intro _)|(apply bj 230;refine cI (Vd _) ⟨fL (eB.enc _),trivial⟩ (.inl rfl) ?_)|(apply bj 232;refine cI (U3 _ _) ⟨rfl,rfl,trivial⟩ (.inl rfl) ?_)|(apply bj 231;refine cI (U4 _ _) ⟨rfl,rfl,trivial⟩ (.inl rfl) ?_)|fail)
theorem Jr (a:eB)(b:Int)  (hb:b=0):Ct ae 186 [.agg (a.enc.map .t),.c (.t (iv b))] (AV.i (rF a)) [] true:=by
 obtain⟨r,hr,h⟩:=Fa a b hb;rw[hr] at h;exact h
theorem Ja (a:eB)(b:Int)  (hb:b=0):∃ r:Int,(r=(rF a))∧Ct ae 197 [.agg (a.enc.map .t),.c (.t (iv b))] (AV.i r) [] true:=by
 subst hb;refine db (Φ:=fun (r:Int)=>r=(rF a)) lF (bO Tryz.func197 rfl (enters_of Tryz.func197 (by kernel_rfl) rfl) tabOk (by kernel_rfl) rfl rfl (ck.bI [] [] ?_))
 repeat' (first|(apply bY <;> intro _)|(apply dV <;> intro _)|(apply cR <;> intro _)|apply cy|(apply cS <;> intro _)|(apply bL;exact Ei [] (Ai rfl (Ai trivial rfl));exact(by first|exact KX ‹_› | exact KY ‹_›);rfl)|(apply eX 5 rfl;refine gP.one 5 rfl (ck.bI [] [] ?_))|(apply jf;(first|assumption|omega|(simp only[ak,IntKind.wrap_u64,aq,aw];omega)|(simp only[Lm] at *;omega)|decide);(first|assumption|omega|(simp only[ak,IntKind.wrap_u64,aq,aw];omega)|(simp only[Lm] at *;omega)|decide);intro _ _)|(apply ud;(first|assumption|omega|(simp only[ak];omega)|(simp only[Lm] at *;omega)|decide);(first|assumption|omega|(simp only[ak];omega)|(simp only[Lm] at *;omega)|decide);intro _)|(apply bj 80;refine cI (L9 _) ⟨fL (eB.enc _),trivial⟩ (.inl rfl) ?_)|(apply bj 104;refine cI (j8 _ _) ⟨rfl,rfl,trivial⟩ (.inl rfl) ?_)|(apply bj 237;refine cI (UA _ _) ⟨rfl,rfl,trivial⟩ (.inl rfl) ?_)|fail)
theorem L8 (a:eB)(b:Int)  (hb:b=0):Ct ae 197 [.agg (a.enc.map .t),.c (.t (iv b))] (AV.i (rF a)) [] true:=by
 obtain⟨r,hr,h⟩:=Ja a b hb;rw[hr] at h;exact h
end Go.Proofs.YtbmdcnkidjlbbaaGreat
end
