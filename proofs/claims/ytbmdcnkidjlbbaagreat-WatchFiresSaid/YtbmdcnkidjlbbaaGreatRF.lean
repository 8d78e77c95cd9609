/- Parts of the proof, joined: Chapters 28, 30, the. -/
import Derived.Test.YtbmdcnkidjlbbaaGreatRE
open Go.Proofs.Tryz renaming prog->ae
open List renaming getElem?_eq_getElem->cD,length_cons->aq,length_nil->aw,getElem?_eq_some_iff->an,length_append->au,length_take->aB,mem_cons_self->aC,getElem_mem->aI,mem_singleton->aJ,mem_cons_of_mem->aK,length_drop->aL,mem_of_getElem?->aU,map_append->aW,mem_append->aX,getElem?_append_right->aY,take_succ_eq_append_getElem->bc,append_nil->aZ,take_length->bm,getElem?_append_left->bn,mem_iff_getElem->bB,mem_map->bA,getElem?_map->bp,mem_append_left->bH,mem_append_right->bJ,nil_append->bF,length_set->bG,map_cons->bP,length_replicate->cc,length_filter_le->cx,drop_eq_getElem_cons->dw,getElem?_eq_none->dy,append_assoc->cH,map_set->fF
open Bool renaming and_eq_true->ag,not_eq_true'->cb
open Go.IntKind renaming wrap_i64->ak,wrap_u64->dM
open Nat renaming eq_of_beq_eq_true->ah,le_refl->al,zero_le->aD,le_trans->bd,zero_add->bu,lt_of_lt_of_le->cd,le_of_lt->cG,add_zero->cO
open Option.some renaming inj->aR
open Array renaming length_toList->bD,getElem?_toList->cp
open Cg.Tp renaming run->aBW,loop->aBY,wk->aB1,lW->aB2
open Cg.AV renaming i->aBZ,b->aB0
open Cg.Ct renaming lit->aB4
set_option maxRecDepth 100000
set_option maxHeartbeats 4000000
namespace Go.Proofs.YtbmdcnkidjlbbaaGreat
section
open Go Cg Go.RowKit Go.Sort
theorem Ky (a:cz)(h:a.ok):Ct ae 171 [.agg (a.enc.map .t)] (.agg (a.enc.map .t)) [] false:=by
 obtain⟨_,hm,hm2,_,_,hs,uf,he,py,_⟩:=h;refine cT Tryz.func171 rfl (by kernel_rfl) rfl fun w0 O _=>aBW [10] ?_;refine Ai (.inl rfl) (Ai (eQ _ 176 (cn _ _ _ hm)) (Ai (eA _ 176 (by decide) (cn _ _ _ hm)) ?_));refine Ai (.inl rfl) (Ai (eQ _ 144 (cn _ _ _ hs)) (Ai (eA _ 144 (by decide) (cn _ _ _ hs)) ?_));refine aBY (fun k:Nat=>⟨[(1,.ptr 0 0),(2,.ptr 128 0),(3,.ptr 384 0),(4,aBZ k)],[(0,a.enc.map .t),(128,List.replicate 72 .bot),(384,(a.enc.map .t).set 49 (.row 9000 0))],[(9000,⟨125,64,0,(a.dm.take k).map cZ.enc,none⟩)],10000⟩) (fun k=>k<=a.dm.length) (fun k=>a.dm.length - k) 0 ?_ (aD _) ?_
 ·refine bh [] rfl rfl ?_ ?_ ?_
  all_goals repeat' first|refine Ai ?_ ?_|exact rfl|exact⟨⟩|exact Ei _ rfl
 rintro k hk;refine aBW [10] ?_;refine cS (fun h=>?_) (fun h=>?_)
 ·have aS:=cN h;obtain⟨_,_,_,VX,Zs⟩:=py a.dm[k] (aI aS);refine Ei k (Ei (a.dm[k].enc) (Ai rfl (Ai (aQ _ _ k aS) ?_)));refine Ai (.inl rfl) (Ai (eQ _ 176 (cn _ _ _ VX)) (Ai (eA _ 176 (by decide) (cn _ _ _ VX)) ?_));refine aB2 [9000] (aBW [] ?_);refine Ai (.inl rfl) (Ai (fJ a.dm cZ.enc k aS _ 560 (by decide) he) (Ai (fh a.dm cZ.enc k aS _ 560 (by decide) he) ?_));refine Ei (k+1) (Ai (show k+1<=_ by omega) (Ai (show a.dm.length - (k+1) < a.dm.length - k by omega) ?_));refine bh [(9000,9000)] rfl rfl ?_ ?_ ?_
  all_goals repeat' first|refine Ai ?_ ?_|exact rfl|exact⟨⟩|exact Ei _ rfl|refine aj ?_|refine bS ?_
  exact ed k aS 560 (by decide) he;exact eN a.dm cZ.enc k aS
 ·have fS:=cP h hk;subst fS;refine Ei [] ?_
  repeat' first|refine Ai ?_ ?_|exact rfl|exact⟨⟩|exact Ei _ rfl
  exact gU a.dm cZ.enc 64
noncomputable def ZW (c:eB):Int:=Classical.choose (aeD c)
theorem WB (c:eB):Ct ae 170 [.agg (c.enc.map .t)] (aBZ (ZW c)) [] true:=(Classical.choose_spec (aeD c)).2
noncomputable def zx (c:bX):aG:=⟨c.name,c.cost,orI (ZW c.cost) c.color,c.line,c.cV,c.cU,c.keys,c.aT,0⟩
theorem UC {c:bX}(h:c.ok):(zx c).ok:=by
 exact h
noncomputable def ofM (cards:List bX)(o:aE):aG:={ (match (if (if o.copy < 0 then o.dK else o.copy) < 0 then none else cards[(if o.copy < 0 then o.dK else o.copy).toNat]?) with
 | some c=>zx c
 | none=>qQ) with aaB:=if o.cg=0\/o.cg=5 then o.aaB else o.fG }
theorem EH (c:bX)(h:c.ok):Ct ae 111 [.agg (c.enc.map .t)] (.agg ((zx c).enc.map .t)) [] false:=by
 obtain⟨_,hl,ha,FG⟩:=h;refine cT Tryz.func111 rfl (by kernel_rfl) rfl fun w0 O _=>aBW [] ?_;refine cF (WB c.cost) ⟨fL c.cost.enc,trivial⟩ ?_;refine Ai (.inl rfl) (Ai (eQ _ 16 (cn _ _ _ hl)) (Ai (eA _ 16 (by decide) (cn _ _ _ hl)) ?_));refine aBY (fun k:Nat=>⟨[(1,.ptr 0 0),(2,.ptr 128 0),(3,.ptr 2688 0),(4,aBZ k)],[(0,c.enc.map .t),(128,List.replicate 17 .bot),(2688,((zx c).enc.map .t).set 15 (.row 9000 0))],[(9000,⟨69,72,0,(c.aT.take k).map cz.enc,none⟩)],10000⟩) (fun k=>k<=c.aT.length) (fun k=>c.aT.length - k) 0 ?_ (aD _) ?_
 ·refine bh [] rfl rfl ?_ ?_ ?_
  all_goals repeat' first|refine Ai ?_ ?_|exact rfl|exact⟨⟩|exact Ei _ rfl
 rintro k hk;refine aBW [] ?_;refine cS (fun h=>?_) (fun h=>?_)
 ·have aS:=cN h;refine Ei k (Ei (c.aT[k].enc) (Ai rfl (Ai (aQ _ _ k aS) ?_)));refine cR (Ky c.aT[k] (FG _ (aI aS))) ⟨fL c.aT[k].enc,trivial⟩ ?_;refine Ai (.inl rfl) (Ai (fJ c.aT cz.enc k aS _ 640 (by decide) ha) (Ai (fh c.aT cz.enc k aS _ 640 (by decide) ha) ?_));refine Ei (k+1) (Ai (show k+1<=_ by omega) (Ai (show c.aT.length - (k+1) < c.aT.length - k by omega) ?_));refine bh [(9000,9000)] rfl rfl ?_ ?_ ?_
  all_goals repeat' first|refine Ai ?_ ?_|exact rfl|exact⟨⟩|exact Ei _ rfl|refine aj ?_|refine bS ?_
  exact ed k aS 640 (by decide) ha;exact eN c.aT cz.enc k aS
 ·have fS:=cP h hk;subst fS;refine Ei [] ?_
  repeat' first|refine Ai ?_ ?_|exact rfl|exact⟨⟩|exact Ei _ rfl
  exact gU c.aT cz.enc 72
theorem S4 (cards:List bX)(o:aE)(_hc:cards.length*176<=ba)(mc:∀ y∈cards,bX.ok y):Ct ae 54 [.c (.t (.sl 17 (cards.map bX.enc))),.agg (o.enc.map .t)] (.agg ((ofM cards o).enc.map .t)) [] false:=by
 unfold ofM;generalize hi:(if o.copy < 0 then o.dK else o.copy)=i
 generalize ht:(match (if i < 0 then none else cards[i.toNat]?) with
  | some c=>zx c
  | none=>qQ)=t
 refine cT Tryz.func54 rfl (by kernel_rfl) rfl fun w0 O _=>aBW [3,4,5,6,7,8,9] ?_;apply zW (P:=ae) (T:=T) (N:=Tryz.f54.ntmps) (w0:=w0) (O:=O) ⟨[(0,.c (.t (.sl 17 (cards.map bX.enc)))),(3,.ptr 0 0),(4,.ptr 128 0),(5,aBZ i)],[(0,o.enc.map .t),(128,List.replicate 17 .bot)],[],5000⟩
 case h=>
  intro K;refine cS (fun h=>?_) (fun h=>?_)
  ·rw[if_pos (of_decide_eq_true h)] at hi;refine aBW [] ?_;refine aB1 (bh [] rfl rfl ?_ ?_ ?_) K
   ·subst hi
    repeat' first|refine Ai ?_ ?_|exact rfl|exact⟨⟩|exact Ei _ rfl|refine aj ?_|refine bS ?_
   ·subst hi
    repeat' first|refine Ai ?_ ?_|exact rfl|exact⟨⟩|exact Ei _ rfl|refine aj ?_|refine bS ?_
   ·subst hi
    repeat' first|refine Ai ?_ ?_|exact rfl|exact⟨⟩|exact Ei _ rfl|refine aj ?_|refine bS ?_
  ·rw[if_neg (of_decide_eq_false h)] at hi;refine aB1 (bh [] rfl rfl ?_ ?_ ?_) K
   ·subst hi
    repeat' first|refine Ai ?_ ?_|exact rfl|exact⟨⟩|exact Ei _ rfl|refine aj ?_|refine bS ?_
   ·subst hi
    repeat' first|refine Ai ?_ ?_|exact rfl|exact⟨⟩|exact Ei _ rfl|refine aj ?_|refine bS ?_
   ·subst hi
    repeat' first|refine Ai ?_ ?_|exact rfl|exact⟨⟩|exact Ei _ rfl|refine aj ?_|refine bS ?_
 case key=>
  refine aBW [] ?_;refine aBW [] ?_;apply zW (P:=ae) (T:=T) (N:=Tryz.f54.ntmps) (w0:=w0) (O:=O) ⟨[(3,.ptr 0 0),(4,.ptr 128 0),(6,.ptr 5000 0)],[(0,o.enc.map .t),(128,List.replicate 17 .bot),(5000,t.enc.map .t)],[],15000⟩
  case h=>
   intro K
   have no:(i < 0\/(cards.length:Int)<=i)->qQ=t:=fun h=>by
    rw[<- ht];split
    ·rename_i c hc;split at hc
     ·cases hc
     ·rw[dy (by omega)] at hc
      cases hc
    ·rfl
   refine cS (fun h=>?_) (fun h=>?_)
   ·have h0:0<=i:=of_decide_eq_true h;refine cS (fun h=>?_) (fun h=>?_)
    ·have aS:i.toNat < cards.length:=by
      have:=of_decide_eq_true h;rw[Lm] at this;omega
     have ht:zx cards[i.toNat]=t:=by
      rw[<- ht,if_neg (by omega),cD aS]
     refine aBW [] ?_;refine Ei i.toNat (Ei (cards[i.toNat].enc) (Ai ?_ (Ai (aQ _ _ i.toNat aS) ?_)))
     ·exact(Int.toNat_of_nonneg h0).symm
     refine cR (EH cards[i.toNat] (mc _ (aI aS))) ⟨fL cards[i.toNat].enc,trivial⟩ ?_;refine aB1 (bh [] rfl rfl ?_ ?_ ?_) K
     ·subst ht
      repeat' first|refine Ai ?_ ?_|exact rfl|exact⟨⟩|exact Ei _ rfl|refine aj ?_|refine bS ?_
     ·subst ht
      repeat' first|refine Ai ?_ ?_|exact rfl|exact⟨⟩|exact Ei _ rfl|refine aj ?_|refine bS ?_
     ·subst ht
      repeat' first|refine Ai ?_ ?_|exact rfl|exact⟨⟩|exact Ei _ rfl|refine aj ?_|refine bS ?_
    ·have ht:=no (.inr (by
      have:=of_decide_eq_false h;rw[Lm] at this;omega))
     refine aB1 (bh [] rfl rfl ?_ ?_ ?_) K
     ·subst ht
      repeat' first|refine Ai ?_ ?_|exact rfl|exact⟨⟩|exact Ei _ rfl|refine aj ?_|refine bS ?_
     ·subst ht
      repeat' first|refine Ai ?_ ?_|exact rfl|exact⟨⟩|exact Ei _ rfl|refine aj ?_|refine bS ?_
     ·subst ht
      repeat' first|refine Ai ?_ ?_|exact rfl|exact⟨⟩|exact Ei _ rfl|refine aj ?_|refine bS ?_
   ·have ht:=no (.inl (by
     have:=of_decide_eq_false h;omega))
    refine aB1 (bh [] rfl rfl ?_ ?_ ?_) K
    ·subst ht
     repeat' first|refine Ai ?_ ?_|exact rfl|exact⟨⟩|exact Ei _ rfl|refine aj ?_|refine bS ?_
    ·subst ht
     repeat' first|refine Ai ?_ ?_|exact rfl|exact⟨⟩|exact Ei _ rfl|refine aj ?_|refine bS ?_
    ·subst ht
     repeat' first|refine Ai ?_ ?_|exact rfl|exact⟨⟩|exact Ei _ rfl|refine aj ?_|refine bS ?_
  case key=>
   refine aBW [] ?_;refine aBW [] ?_;refine cS (fun h=>?_) (fun h=>?_)
   ·have hz:o.cg=0:=by simpa using h
    rw[if_pos (.inl hz)];refine aBW [] ?_;refine Ei [] ?_
    repeat' first|refine Ai ?_ ?_|exact rfl|exact⟨⟩|exact Ei _ rfl
   ·have hz:¬ o.cg=0:=by simpa using h
    refine cS (fun h=>?_) (fun h=>?_)
    ·have hz:o.cg=5:=by simpa using h
     rw[if_pos (.inr hz)];refine aBW [] ?_;refine Ei [] ?_
     repeat' first|refine Ai ?_ ?_|exact rfl|exact⟨⟩|exact Ei _ rfl
    ·have YW:¬ o.cg=5:=by simpa using h
     rw[if_neg (by rintro(h|h);exact hz h;exact YW h)];refine Ei [] ?_
     repeat' first|refine Ai ?_ ?_|exact rfl|exact⟨⟩|exact Ei _ rfl
structure pr (s:aA)(L:List bN)(w:Wd):Prop where
 so:s.aa.length<=4000
 sL:L.length<=1000000
 fo:∀ f∈L,bN.ok f
 all:w.all.length=s.aa.length
 bg:w.bg.length=L.length
 st:w.st.length=L.length
 bl:w.bl.length=s.aa.length
 ok:∀ y∈w.all,aG.ok y
 sl:∀ z∈w.st,z.length<=4000
theorem pr.h8 {s:aA}{L:List bN}{w:Wd}(h:pr s L w):s.aa.length*128<=ba:=by
 have:=h.so;unfold ba;omega
theorem pr.ha {s:aA}{L:List bN}{w:Wd}(h:pr s L w):w.all.length*176<=ba:=by
 have:=h.so;have:=h.all;unfold ba;omega
theorem Mi (l:List aE)(id:Int)(h:¬ mf l id < 0):(mf l id).toNat < l.length/\((mf l id).toNat:Int)=mf l id:=by
 unfold mf at *;rcases im (fun o:aE=>o.id==id) l with⟨h1,_⟩|⟨i,hi,h1,_⟩
 ·rw[h1] at h;exact absurd (show(-1:Int) < 0 by decide) h
 ·rw[h1];exact⟨hi,rfl⟩
theorem GI (s:aA)(id:Int)(hs:s.aa.length*128<=ba):Ct ae 175 [.agg (s.enc.map .t),.c (.t (iv id))] (aBZ (mf s.aa id)) [] true:=by
 refine aB4 (b:=false) ?_ rfl;unfold mf;refine cT Tryz.func175 rfl (by kernel_rfl) rfl fun w0 O _=>aBW [] ?_;refine aBY (fun k:Nat=>⟨[(1,.c (.t (iv id))),(2,.ptr 0 0),(5,aBZ k)],[(0,s.enc.map .t)],[],10000⟩) (fun k=>k<=s.aa.length/\∀ j (h:j < s.aa.length),j < k->(s.aa[j].id==id)=false) (fun k=>s.aa.length - k) 0 ?_ ⟨aD _,fun j _ hj=>absurd hj (Nat.not_lt_zero j)⟩ ?_
 ·refine bh [] rfl rfl ?_ ⟨aV _ rfl,trivial⟩ ?_
  all_goals repeat' first|refine Ai ?_ ?_|exact rfl|exact⟨⟩|exact Ei _ rfl
 rintro k ⟨hk,eZ⟩;refine aBW [] ?_;refine cS (fun h=>?_) (fun h=>?_)
 ·have aS:=cN h;refine Ei k (Ei (s.aa[k].enc) (Ai rfl (Ai (aQ _ _ k aS) ?_)));refine cS (fun h=>?_) (fun h=>?_)
  ·refine Ei [] (Ai rfl (Ai trivial ?_));rw[ku _ _ k aS h eZ];exact rfl
  ·refine Ei (k+1) (Ai ⟨by omega,fun j hj Af=>?_⟩ (Ai (show s.aa.length - (k+1) < s.aa.length - k by omega) ?_))
   ·by_cases e:j=k
    ·subst e;exact h
    ·exact eZ j hj (by omega)
   refine bh [] rfl rfl ?_ ⟨aV _ rfl,trivial⟩ ?_
   all_goals repeat' first|refine Ai ?_ ?_|exact rfl|exact⟨⟩|exact Ei _ rfl
   exact ed k aS 128 (by decide) hs
 ·have fS:=cP h hk;refine Ei [] (Ai rfl (Ai trivial ?_));rw[jh _ _ (fun j hj=>eZ j hj (by omega))];exact rfl
theorem KQ (s:aA)(L:List bN)(w:Wd)(H:pr s L w)(i:Nat)(hi:i < L.length):Ct ae 119 [.agg ((wE s L w).map .t),.c (.t (iv (i:Int)))] (aBZ (ox s L[i] w)) [] true:=by
 refine aB4 (b:=false) ?_ rfl;have hp:=GI s L[i].fp H.h8;generalize hM:ox s L[i] w=M;unfold ox at hM;refine cT Tryz.func119 rfl (by kernel_rfl) rfl fun w0 O _=>aBW [2] ?_;refine Ei i (Ei (L[i].enc) (Ai rfl (Ai (aQ _ _ i hi) ?_)));refine cF hp ⟨fL s.enc,rfl,trivial⟩ ?_;refine aBW [] ?_;refine Ei i (Ei (L[i].enc) (Ai rfl (Ai (aQ _ _ i hi) ?_)));refine cS (fun h=>?_) (fun h=>?_)
 ·rw[h,Bool.true_or,if_pos rfl] at hM;subst hM;refine Ei i (Ei (L[i].enc) (Ai rfl (Ai (aQ _ _ i hi) ?_)));refine Ei [] ?_
  repeat' first|refine Ai ?_ ?_|exact rfl|exact⟨⟩|exact Ei _ rfl
 ·rw[h,Bool.false_or] at hM;refine cS (fun h=>?_) (fun h=>?_)
  ·rw[h,if_pos rfl] at hM;subst hM;refine Ei i (Ei (L[i].enc) (Ai rfl (Ai (aQ _ _ i hi) ?_)));refine Ei [] ?_
   repeat' first|refine Ai ?_ ?_|exact rfl|exact⟨⟩|exact Ei _ rfl
  ·rw[h,if_neg (by decide)] at hM;obtain⟨hq,Ru⟩:=Mi s.aa L[i].fp (of_decide_eq_false h);have Y9:(mf s.aa L[i].fp).toNat < w.all.length:=by rw[H.all];exact hq
   rw[va Y9] at hM;subst hM;refine Ei (mf s.aa L[i].fp).toNat (Ei ((w.all[(mf s.aa L[i].fp).toNat]).enc) (Ai Ru.symm (Ai (aQ _ _ _ Y9) ?_)));refine Ei [] ?_
   repeat' first|refine Ai ?_ ?_|exact rfl|exact⟨⟩|exact Ei _ rfl
theorem AM {l:List Bool}{i:Nat}(h:i < l.length):Sr l i=l[i]:=by
 unfold Sr;rw[cD h];rfl
theorem qK (s:aA)(L:List bN)(w:Wd)(H:pr s L w)(i:Nat)(hi:i < L.length):Ct ae 116 [.agg ((wE s L w).map .t),.c (.t (iv (i:Int)))] (aB0 (sJ s L[i] w i)) [] true:=by
 refine aB4 (b:=false) ?_ rfl;have hp:=GI s L[i].fp H.h8;have hb:i < w.bg.length:=by rw[H.bg];exact hi
 generalize hM:sJ s L[i] w i=M;unfold sJ at hM;rw[AM hb] at hM;refine cT Tryz.func116 rfl (by kernel_rfl) rfl fun w0 O _=>aBW [3,4] ?_
 have go:(L[i].fixed||w.bg[i])=false->M=(decide (mf s.aa L[i].fp < 0)||!Sr w.bl (mf s.aa L[i].fp).toNat):=fun h=>by
  rw[<- hM,h,Bool.false_or]
 refine Ei i (Ei (L[i].enc) (Ai rfl (Ai (aQ _ _ i hi) ?_)));have fin:M=true->True:=fun _=>trivial;refine cS (fun h=>?_) (fun h=>?_)
 ·rw[show L[i].fixed=true from h,Bool.true_or,Bool.true_or] at hM;subst hM;refine Ei [] ?_
  repeat' first|refine Ai ?_ ?_|exact rfl|exact⟨⟩|exact Ei _ rfl
 ·refine Ei i (Ei (tB w.bg[i]) (Ai rfl (Ai (aQ _ _ i hb) ?_)));refine cS (fun h1=>?_) (fun h1=>?_)
  ·rw[show w.bg[i]=true from h1,Bool.or_true,Bool.true_or] at hM;subst hM;refine Ei [] ?_
   repeat' first|refine Ai ?_ ?_|exact rfl|exact⟨⟩|exact Ei _ rfl
  ·have go:=go (by rw[show L[i].fixed=false from h,show w.bg[i]=false from h1];rfl);clear hM fin;refine aBW [] ?_;refine Ei i (Ei (L[i].enc) (Ai rfl (Ai (aQ _ _ i hi) ?_)));refine cF hp ⟨fL s.enc,rfl,trivial⟩ ?_;refine aBW [] ?_;refine cS (fun h2=>?_) (fun h2=>?_)
   ·rw[h2,Bool.true_or] at go;subst go;refine Ei [] ?_
    repeat' first|refine Ai ?_ ?_|exact rfl|exact⟨⟩|exact Ei _ rfl
   ·rw[h2,Bool.false_or] at go;obtain⟨hq,Ru⟩:=Mi s.aa L[i].fp (of_decide_eq_false h2);have Y9:(mf s.aa L[i].fp).toNat < w.bl.length:=by rw[H.bl];exact hq
    rw[AM Y9] at go;subst go;refine Ei (mf s.aa L[i].fp).toNat (Ei (tB (w.bl[(mf s.aa L[i].fp).toNat])) (Ai Ru.symm (Ai (aQ _ _ _ Y9) ?_)));refine Ei [] ?_
    repeat' first|refine Ai ?_ ?_|exact rfl|exact⟨⟩|exact Ei _ rfl
theorem Zz (l:List Int)(n:Int)(hl:l.length*8<=ba):Ct ae 120 [.c (.t (.sl 1 (l.map eI))),.c (.t (iv n))] (aB0 (Ah l n)) [] true:=Hq l n hl
theorem pc (X:List aE)(o:aE):(X.map aE.id).map eI++[eI o.id]=((X++[o]).map aE.id).map eI:=by rw[aW,aW];rfl
theorem sI (s:aA)(L:List bN)(w:Wd)(H:pr s L w)(i:Nat)(hi:i < L.length):Ct ae 117 [.agg ((wE s L w).map .t),.c (.t (iv (i:Int)))] (.c (.t (.sl 1 ((lM s L[i] w i).map eI)))) [] false:=by
 have ha:=qK s L w H i hi;have hy:=KQ s L w H i hi;have hf:=H.fo _ (aI hi);have hb:i < w.bg.length:=by rw[H.bg];exact hi
 have fR:i < w.st.length:=by rw[H.st];exact hi
 have h8:=H.h8;have hso:=H.so;generalize hM:lM s L[i] w i=M;unfold lM at hM;rw[AM hb] at hM;refine cT Tryz.func117 rfl (by kernel_rfl) rfl fun w0 O _=>aBW [3,4,6,12,13] ?_;refine Ei i (Ei (tB w.bg[i]) (Ai rfl (Ai (aQ _ _ i hb) ?_)));refine cS (fun h=>?_) (fun h=>?_)
 ·rw[if_pos (show w.bg[i]=true from h),cD fR] at hM;have hM:w.st[i]=M:=hM;subst hM;refine Ei i (Ei (tZ w.st[i]) (Ai rfl (Ai (aQ _ _ i fR) ?_)));refine Ei [] ?_
  repeat' first|refine Ai ?_ ?_|exact rfl|exact⟨⟩|exact Ei _ rfl
 ·rw[if_neg (by rw[show w.bg[i]=false from h];decide)] at hM;refine aBW [] ?_;refine aBW [] ?_;refine cF ha ⟨fL (wE s L w),rfl,trivial⟩ ?_;refine cy (cS (fun h1=>?_) (fun h1=>?_))
  ·rw[if_pos (show sJ s L[i] w i=true from h1)] at hM;subst hM;refine aBW [] ?_;refine Ei i (Ei (L[i].enc) (Ai rfl (Ai (aQ _ _ i hi) ?_)));refine aBY (fun k:Nat=>⟨[(1,.c (.t (iv (i:Int)))),(2,.ptr 0 0),(5,.c (.row 9000 0)),(6,.ptr 2304 0),(7,aBZ k)],[(0,(wE s L w).map .t),(2304,L[i].enc.map .t)],[(9000,⟨3,1,0,((pa (nN s L[i] w) 0 (s.aa.take k)).map aE.id).map eI,none⟩)],10000⟩) (fun k=>k<=s.aa.length) (fun k=>s.aa.length - k) 0 ?_ (aD _) ?_
   ·refine bh [(9000,896)] rfl rfl ?_ ⟨aV _ rfl,aV _ rfl,trivial⟩ ?_
    all_goals repeat' first|refine Ai ?_ ?_|exact rfl|exact⟨⟩|exact Ei _ rfl|refine aj ?_|refine bS ?_
   rintro k hk;refine aBW [12,13] ?_;refine cS (fun h=>?_) (fun h=>?_)
   ·have aS:=cN h;have ue:=vG (nN s L[i] w) s.aa k aS;have hyl:=vF (nN s L[i] w) s.aa k
    have Xc:nN s L[i] w k s.aa[k]=true->pa (nN s L[i] w) 0 (s.aa.take k)++[s.aa[k]]=pa (nN s L[i] w) 0 (s.aa.take (k+1)):=fun h=>by
     rw[ue,if_pos h]
    have uF:nN s L[i] w k s.aa[k]=false->pa (nN s L[i] w) 0 (s.aa.take k)=pa (nN s L[i] w) 0 (s.aa.take (k+1)):=fun h=>by
     rw[ue,if_neg (by rw[h];decide),aZ]
    have kY:((((pa (nN s L[i] w) 0 (s.aa.take k)).map aE.id).map eI).length+1)*8<=140737488355328/\(((pa (nN s L[i] w) 0 (s.aa.take k)).map aE.id).map eI).length+1 < 140737488355328:=by
     rw[Lm,Lm];omega
    have Fz:k < w.all.length:=by rw[H.all];exact aS
    have htr:gG w.all k=w.all[k]:=va Fz;refine Ei k (Ei (s.aa[k].enc) (Ai rfl (Ai (aQ _ _ k aS) ?_)));refine cS (fun hz=>?_) (fun hz=>?_)
    ·have hz:(s.aa[k].cg==0)=false:=by simpa using hz
     refine Ei (k+1) (Ai (show k+1<=_ by omega) (Ai (show s.aa.length - (k+1) < s.aa.length - k by omega) ?_));refine bh [(9000,9000)] rfl rfl ?_ ⟨aV _ rfl,aV _ rfl,trivial⟩ ?_
     all_goals repeat' first|refine Ai ?_ ?_|exact rfl|exact⟨⟩|exact Ei _ rfl|refine aj ?_|refine bS ?_
     exact ed k aS 128 (by decide) h8;exact congrArg (fun x=>(x.map aE.id).map eI) (uF (by unfold nN;rw[hz];rfl))
    ·have hz:(s.aa[k].cg==0)=true:=by simpa using hz
     refine aBW [] ?_;refine cS (fun hx=>?_) (fun hx=>?_)
     ·have hx:L[i].fixed=true:=hx;refine cF (Zz L[i].aa s.aa[k].id hf.1) ⟨rfl,rfl,trivial⟩ ?_;refine cS (fun hh=>?_) (fun hh=>?_)
      ·have hh:Ah L[i].aa s.aa[k].id=true:=hh;refine aBW [] ?_;refine Ai (.inl rfl) (Ai kY.1 (Ai kY.2 ?_));refine Ei (k+1) (Ai (show k+1<=_ by omega) (Ai (show s.aa.length - (k+1) < s.aa.length - k by omega) ?_));refine bh [(9000,9000)] rfl rfl ?_ ⟨aV _ rfl,aV _ rfl,trivial⟩ ?_
       all_goals repeat' first|refine Ai ?_ ?_|exact rfl|exact⟨⟩|exact Ei _ rfl|refine aj ?_|refine bS ?_
       exact ed k aS 128 (by decide) h8;exact(pc _ _).trans (congrArg (fun x=>(x.map aE.id).map eI) (Xc (by unfold nN;rw[hz,hx,hh];rfl)))
      ·have hh:Ah L[i].aa s.aa[k].id=false:=hh;refine cy (cS (fun hc=>?_) (fun hc=>?_))
       ·refine Ei (k+1) (Ai (show k+1<=_ by omega) (Ai (show s.aa.length - (k+1) < s.aa.length - k by omega) ?_));refine bh [(9000,9000)] rfl rfl ?_ ⟨aV _ rfl,aV _ rfl,trivial⟩ ?_
        all_goals repeat' first|refine Ai ?_ ?_|exact rfl|exact⟨⟩|exact Ei _ rfl|refine aj ?_|refine bS ?_
        exact ed k aS 128 (by decide) h8;exact congrArg (fun x=>(x.map aE.id).map eI) (uF (by unfold nN;rw[hz,hx,hh];rfl))
       ·have hc:L[i].fixed=false:=hc;rw[hx] at hc
        cases hc
     ·have hx:L[i].fixed=false:=hx;refine cy (cS (fun hc=>?_) (fun hc=>?_))
      ·have hc:L[i].fixed=true:=hc;rw[hx] at hc
       cases hc
      refine Ei k (Ei (w.all[k].enc) (Ai rfl (Ai (aQ _ _ k Fz) ?_)));refine cF hy ⟨fL (wE s L w),rfl,trivial⟩ ?_;refine cF (xZ s.aa[k] w.all[k] (ox s L[i] w) L[i].fp L[i].filter (H.ok _ (aI Fz))) ⟨fL s.aa[k].enc,fL w.all[k].enc,rfl,rfl,fL L[i].filter.enc,trivial⟩ ?_;refine cS (fun hh=>?_) (fun hh=>?_)
      ·have hh:eW s.aa[k] (gG w.all k) (ox s L[i] w) L[i].fp L[i].filter=true:=by rw[htr];exact hh
       refine aBW [] ?_;refine Ai (.inl rfl) (Ai kY.1 (Ai kY.2 ?_));refine Ei (k+1) (Ai (show k+1<=_ by omega) (Ai (show s.aa.length - (k+1) < s.aa.length - k by omega) ?_));refine bh [(9000,9000)] rfl rfl ?_ ⟨aV _ rfl,aV _ rfl,trivial⟩ ?_
       all_goals repeat' first|refine Ai ?_ ?_|exact rfl|exact⟨⟩|exact Ei _ rfl|refine aj ?_|refine bS ?_
       exact ed k aS 128 (by decide) h8;exact(pc _ _).trans (congrArg (fun x=>(x.map aE.id).map eI) (Xc (by unfold nN;rw[hz,hx,hh];rfl)))
      ·have hh:eW s.aa[k] (gG w.all k) (ox s L[i] w) L[i].fp L[i].filter=false:=by rw[htr];exact hh
       refine Ei (k+1) (Ai (show k+1<=_ by omega) (Ai (show s.aa.length - (k+1) < s.aa.length - k by omega) ?_));refine bh [(9000,9000)] rfl rfl ?_ ⟨aV _ rfl,aV _ rfl,trivial⟩ ?_
       all_goals repeat' first|refine Ai ?_ ?_|exact rfl|exact⟨⟩|exact Ei _ rfl|refine aj ?_|refine bS ?_
       exact ed k aS 128 (by decide) h8;exact congrArg (fun x=>(x.map aE.id).map eI) (uF (by unfold nN;rw[hz,hx,hh];rfl))
   ·have fS:=cP h hk;subst fS;refine Ei [] ?_
    repeat' first|refine Ai ?_ ?_|exact rfl|exact⟨⟩|exact Ei _ rfl
    rw[bm];exact rfl
  ·rw[if_neg (by rw[show sJ s L[i] w i=false from h1];decide)] at hM;subst hM;refine Ei [] ?_
   repeat' first|refine Ai ?_ ?_|exact rfl|exact⟨⟩|exact Ei _ rfl
theorem agV (all:List aG)(k:Nat)(_hall:all.length*176<=ba):Ct ae 223 [.c (.t (.sl 17 (all.map aG.enc))),.c (.t (iv (k:Int)))] (.agg ((gG all k).enc.map .t)) [] false:=by
 generalize hS:gG all k=S;refine cT Tryz.func223 rfl (by kernel_rfl) rfl fun w0 O _=>aBW [3] ?_;refine cS (fun h=>?_) (fun h=>?_)
 ·have uj:all.length<=k:=by
   have:=of_decide_eq_true h;rw[Lm] at this;omega
  rw[D9 uj] at hS;subst hS;refine Ei [] ?_
  repeat' first|refine Ai ?_ ?_|exact rfl|exact⟨⟩|exact Ei _ rfl
 ·have aS:k < all.length:=by
   have:=of_decide_eq_false h;rw[Lm] at this;omega
  rw[va aS] at hS;subst hS;refine aBW [] ?_;refine Ei k (Ei (all[k].enc) (Ai rfl (Ai (aQ _ _ k aS) ?_)));refine Ei [] ?_
  repeat' first|refine Ai ?_ ?_|exact rfl|exact⟨⟩|exact Ei _ rfl
theorem Vh (s:aA)(all:List aG)(you src:Int)(q:cC)(hs:s.aa.length<=4000)(iU:all.length*176<=ba)(zL:∀ y∈all,aG.ok y):Ct ae 176 [.agg (s.enc.map .t),.c (.t (.sl 17 (all.map aG.enc))),.c (.t (iv you)),.c (.t (iv src)),.agg (q.enc.map .t)] (.c (.t (.sl 1 ((QY s all you src q).map eI)))) [] false:=by
 have h8:s.aa.length*128<=ba:=by unfold ba;omega
 unfold QY;refine cT Tryz.func176 rfl (by kernel_rfl) rfl fun w0 O _=>aBW [] ?_;refine aBY (fun k:Nat=>⟨[(1,.c (.t (.sl 17 (all.map aG.enc)))),(2,.c (.t (iv you))),(3,.c (.t (iv src))),(5,.ptr 0 0),(9,.ptr 128 0),(11,.c (.row 9000 0)),(12,aBZ k)],[(0,s.enc.map .t),(128,q.enc.map .t)],[(9000,⟨3,1,0,((pa (fun k o=>eW o (gG all k) you src q) 0 (s.aa.take k)).map aE.id).map eI,none⟩)],10000⟩) (fun k=>k<=s.aa.length) (fun k=>s.aa.length - k) 0 ?_ (aD _) ?_
 ·refine bh [] rfl rfl ?_ ⟨aV _ rfl,aV _ rfl,trivial⟩ ?_
  all_goals repeat' first|refine Ai ?_ ?_|exact rfl|exact⟨⟩|exact Ei _ rfl
 rintro k hk;refine aBW [6] ?_;refine cS (fun h=>?_) (fun h=>?_)
 ·have aS:=cN h;have ue:=vG (fun k o=>eW o (gG all k) you src q) s.aa k aS;have hyl:=vF (fun k o=>eW o (gG all k) you src q) s.aa k
  have kY:((((pa (fun k o=>eW o (gG all k) you src q) 0 (s.aa.take k)).map aE.id).map eI).length+1)*8<=140737488355328/\(((pa (fun k o=>eW o (gG all k) you src q) 0 (s.aa.take k)).map aE.id).map eI).length+1 < 140737488355328:=by
   rw[Lm,Lm];omega
  refine Ei k (Ei (s.aa[k].enc) (Ai rfl (Ai (aQ _ _ k aS) ?_)));refine cR (agV all k iU) ⟨rfl,rfl,trivial⟩ ?_;refine cF (xZ s.aa[k] (gG all k) you src q (yZ zL k)) ⟨fL s.aa[k].enc,fL (gG all k).enc,rfl,rfl,fL q.enc,trivial⟩ ?_;refine cS (fun hh=>?_) (fun hh=>?_)
  ·rw[if_pos (show eW s.aa[k] (gG all k) you src q=true from hh)] at ue;refine aBW [] ?_;refine Ei k (Ei (s.aa[k].enc) (Ai rfl (Ai (aQ _ _ k aS) ?_)));refine Ai (.inl rfl) (Ai kY.1 (Ai kY.2 ?_));refine Ei (k+1) (Ai (show k+1<=_ by omega) (Ai (show s.aa.length - (k+1) < s.aa.length - k by omega) ?_));refine bh [(9000,9000)] rfl rfl ?_ ⟨aV _ rfl,aV _ rfl,trivial⟩ ?_
   all_goals repeat' first|refine Ai ?_ ?_|exact rfl|exact⟨⟩|exact Ei _ rfl|refine aj ?_|refine bS ?_
   exact ed k aS 128 (by decide) h8;exact(pc _ _).trans (congrArg (fun x=>(x.map aE.id).map eI) ue.symm)
  ·rw[if_neg (by rw[show eW s.aa[k] (gG all k) you src q=false from hh];decide),aZ] at ue;refine Ei (k+1) (Ai (show k+1<=_ by omega) (Ai (show s.aa.length - (k+1) < s.aa.length - k by omega) ?_));refine bh [(9000,9000)] rfl rfl ?_ ⟨aV _ rfl,aV _ rfl,trivial⟩ ?_
   all_goals repeat' first|refine Ai ?_ ?_|exact rfl|exact⟨⟩|exact Ei _ rfl|refine aj ?_|refine bS ?_
   exact ed k aS 128 (by decide) h8;exact congrArg (fun x=>(x.map aE.id).map eI) ue.symm
 ·have fS:=cP h hk;subst fS;refine Ei [] ?_
  repeat' first|refine Ai ?_ ?_|exact rfl|exact⟨⟩|exact Ei _ rfl
  rw[bm];exact rfl
theorem lD {f:bN}(h:f.ok):f.cA.length*176<=ba:=h.2.2.1
theorem Jo (aP:Int)(l:List eb)(k:Nat)(hk:k < l.length):mT aP (l.take (k+1))=mT aP (l.take k)++(if (jx l[k].kind==aP)=true then [l[k]] else []):=by
 unfold mT;rw[bc hk,List.filter_append];congr 1
 by_cases h:(jx l[k].kind==aP)=true
 ·rw[if_pos h];simp[h]
 ·rw[if_neg h];simp[h]
theorem vP (aP:Int)(l:List eb)(k:Nat):(mT aP (l.take k)).length<=l.length:=by
 unfold mT;exact bd (cx _ _) (by rw[aB];omega)
theorem Jq (c:eb->Int)(X:List eb)(m:eb):(X.map c).map eI++[eI (c m)]=((X++[m]).map c).map eI:=by rw[aW,aW];rfl
theorem rR (s:aA)(L:List bN)(w:Wd)(H:pr s L w)(i:Nat)(hi:i < L.length)(aP:Int):Ct ae 118 [.agg ((wE s L w).map .t),.c (.t (iv (i:Int))),.c (.t (iv aP))] (.c (.t (.sl 1 ((lC s L[i] w aP).map eI)))) [] false:=by
 have hy:=KQ s L w H i hi;have hf:=H.fo _ (aI hi);have ug:=lD hf;have qO:=fun q=>Vh s w.all (ox s L[i] w) L[i].fp q H.so H.ha H.ok;unfold lC;refine cT Tryz.func118 rfl (by kernel_rfl) rfl fun w0 O _=>aBW [] ?_;refine Ei i (Ei (L[i].enc) (Ai rfl (Ai (aQ _ _ i hi) ?_)));refine aBY (fun k:Nat=>⟨[(1,.c (.t (iv (i:Int)))),(2,.c (.t (iv aP))),(3,.ptr 0 0),(7,.c (.row 9000 0)),(8,.ptr 1152 0),(9,aBZ k)],[(0,(wE s L w).map .t),(1152,L[i].enc.map .t)],[(9000,⟨3,1,0,((mT aP (L[i].cA.take k)).map (wM s L[i] w)).map eI,none⟩)],10000⟩) (fun k=>k<=L[i].cA.length) (fun k=>L[i].cA.length - k) 0 ?_ (aD _) ?_
 ·refine bh [(9000,256)] rfl rfl ?_ ⟨aV _ rfl,aV _ rfl,trivial⟩ ?_
  all_goals repeat' first|refine Ai ?_ ?_|exact rfl|exact⟨⟩|exact Ei _ rfl|refine aj ?_|refine bS ?_
 rintro k hk;refine aBW [8,9,10] ?_;refine cS (fun h=>?_) (fun h=>?_)
 ·have aS:=cN h;have ue:=Jo aP L[i].cA k aS;have hyl:=vP aP L[i].cA k
  have kY:((((mT aP (L[i].cA.take k)).map (wM s L[i] w)).map eI).length+1)*8<=140737488355328/\(((mT aP (L[i].cA.take k)).map (wM s L[i] w)).map eI).length+1 < 140737488355328:=by
   rw[Lm,Lm];unfold ba at ug;omega
  refine Ei k (Ei (L[i].cA[k].enc) (Ai rfl (Ai (aQ _ _ k aS) ?_)));refine cF (pS L[i].cA[k].kind) ⟨rfl,trivial⟩ ?_;refine cS (fun hn=>?_) (fun hn=>?_)
  ·have hn:(jx L[i].cA[k].kind==aP)=false:=by simpa using hn
   rw[if_neg (by rw[hn];decide),aZ] at ue;refine Ei (k+1) (Ai (show k+1<=_ by omega) (Ai (show L[i].cA.length - (k+1) < L[i].cA.length - k by omega) ?_));refine bh [(9000,9000)] rfl rfl ?_ ⟨aV _ rfl,aV _ rfl,trivial⟩ ?_
   all_goals repeat' first|refine Ai ?_ ?_|exact rfl|exact⟨⟩|exact Ei _ rfl|refine aj ?_|refine bS ?_
   exact ed k aS 176 (by decide) ug;exact congrArg (fun x=>(x.map (wM s L[i] w)).map eI) ue.symm
  ·have hn:(jx L[i].cA[k].kind==aP)=true:=by simpa using hn
   rw[if_pos hn] at ue;have VP:=(Jq (wM s L[i] w) (mT aP (L[i].cA.take k)) L[i].cA[k]).trans (congrArg (fun x=>(x.map (wM s L[i] w)).map eI) ue.symm);refine aBW [] ?_;refine Ei k (Ei (L[i].cA[k].enc) (Ai rfl (Ai (aQ _ _ k aS) ?_)));refine cS (fun hc=>?_) (fun hc=>?_)
   ·have hc:L[i].cA[k].kind=11:=by simpa using hc
    have JU:wM s L[i] w L[i].cA[k]=(((QY s w.all (ox s L[i] w) L[i].fp L[i].cA[k].filter).map eI).length:Nat):=by
     unfold wM;rw[if_pos hc,Lm]
    rw[JU] at VP;refine aBW [] ?_;refine cF hy ⟨fL (wE s L w),rfl,trivial⟩ ?_;refine Ei k (Ei (L[i].cA[k].enc) (Ai rfl (Ai (aQ _ _ k aS) ?_)));refine cR (qO L[i].cA[k].filter) ⟨fL s.enc,rfl,rfl,rfl,fL L[i].cA[k].filter.enc,trivial⟩ ?_;refine aBW [] ?_;refine Ai (.inl rfl) (Ai kY.1 (Ai kY.2 ?_));refine Ei (k+1) (Ai (show k+1<=_ by omega) (Ai (show L[i].cA.length - (k+1) < L[i].cA.length - k by omega) ?_));refine bh [(9000,9000)] rfl rfl ?_ ⟨aV _ rfl,aV _ rfl,trivial⟩ ?_
    all_goals repeat' first|refine Ai ?_ ?_|exact rfl|exact⟨⟩|exact Ei _ rfl|refine aj ?_|refine bS ?_
    exact ed k aS 176 (by decide) ug;exact VP
   ·have hc:¬ L[i].cA[k].kind=11:=by simpa using hc
    have JU:wM s L[i] w L[i].cA[k]=0:=by
     unfold wM;rw[if_neg hc]
    rw[JU] at VP;refine aBW [] ?_;refine Ai (.inl rfl) (Ai kY.1 (Ai kY.2 ?_));refine Ei (k+1) (Ai (show k+1<=_ by omega) (Ai (show L[i].cA.length - (k+1) < L[i].cA.length - k by omega) ?_));refine bh [(9000,9000)] rfl rfl ?_ ⟨aV _ rfl,aV _ rfl,trivial⟩ ?_
    all_goals repeat' first|refine Ai ?_ ?_|exact rfl|exact⟨⟩|exact Ei _ rfl|refine aj ?_|refine bS ?_
    exact ed k aS 176 (by decide) ug;exact VP
 ·have fS:=cP h hk;subst fS;refine Ei [] ?_
  repeat' first|refine Ai ?_ ?_|exact rfl|exact⟨⟩|exact Ei _ rfl
  rw[bm];exact rfl
theorem Kt (f:bN)(aP:Int)(hf:f.ok):Ct ae 56 [.agg (f.enc.map .t),.c (.t (iv aP))] (aB0 (Dx f aP)) [] true:=by
 refine aB4 (b:=false) ?_ rfl;have ug:=lD hf;generalize hM:Dx f aP=M;unfold Dx at hM;refine cT Tryz.func56 rfl (by kernel_rfl) rfl fun w0 O _=>aBW [] ?_;refine aBY (fun k:Nat=>⟨[(1,.c (.t (iv aP))),(2,.ptr 0 0),(5,aBZ k)],[(0,f.enc.map .t)],[],10000⟩) (fun k=>k<=f.cA.length/\∀ j (h:j < f.cA.length),j < k->(jx f.cA[j].kind==aP)=false) (fun k=>f.cA.length - k) 0 ?_ ⟨aD _,fun j _ hj=>absurd hj (Nat.not_lt_zero j)⟩ ?_
 ·refine bh [] rfl rfl ?_ ⟨aV _ rfl,trivial⟩ ?_
  all_goals repeat' first|refine Ai ?_ ?_|exact rfl|exact⟨⟩|exact Ei _ rfl
 rintro k ⟨hk,eZ⟩;refine aBW [] ?_;refine cS (fun h=>?_) (fun h=>?_)
 ·have aS:=cN h;refine Ei k (Ei (f.cA[k].enc) (Ai rfl (Ai (aQ _ _ k aS) ?_)));refine cF (pS f.cA[k].kind) ⟨rfl,trivial⟩ ?_;refine cS (fun h2=>?_) (fun h2=>?_)
  ·have hp:(jx f.cA[k].kind==aP)=true:=h2
   have qq:M=true:=by
    rw[<- hM];exact List.any_eq_true.2 ⟨_,aI aS,hp⟩
   subst qq;refine Ei [] ?_
   repeat' first|refine Ai ?_ ?_|exact rfl|exact⟨⟩|exact Ei _ rfl
  ·have hp:(jx f.cA[k].kind==aP)=false:=h2;refine Ei (k+1) (Ai ⟨by omega,fun j hj Af=>?_⟩ (Ai (show f.cA.length - (k+1) < f.cA.length - k by omega) ?_))
   ·by_cases e:j=k
    ·subst e;exact hp
    ·exact eZ j hj (by omega)
   refine bh [] rfl rfl ?_ ⟨aV _ rfl,trivial⟩ ?_
   all_goals repeat' first|refine Ai ?_ ?_|exact rfl|exact⟨⟩|exact Ei _ rfl
   exact ed k aS 176 (by decide) ug
 ·have fS:=cP h hk
  have qq:M=false:=by
   rw[<- hM];refine List.any_eq_false.2 fun x hx=>?_;obtain⟨j,hj,rfl⟩:=bB.1 hx;rw[eZ j hj (by omega)];decide
  subst qq;refine Ei [] ?_
  repeat' first|refine Ai ?_ ?_|exact rfl|exact⟨⟩|exact Ei _ rfl
theorem Se (f:bN)(aP:Int)(hf:f.ok):Ct ae 122 [.agg (f.enc.map .t),.c (.t (iv aP))] (aB0 (Kc f aP)) [] true:=by
 refine aB4 (b:=false) ?_ rfl;have ug:=lD hf;generalize hM:Kc f aP=M;unfold Kc at hM;refine cT Tryz.func122 rfl (by kernel_rfl) rfl fun w0 O _=>aBW [] ?_;refine aBY (fun k:Nat=>⟨[(1,.c (.t (iv aP))),(2,.ptr 0 0),(5,aBZ k)],[(0,f.enc.map .t)],[],10000⟩) (fun k=>k<=f.cA.length/\∀ j (h:j < f.cA.length),j < k->(f.cA[j].kind==10&&jx f.cA[j].kind==aP)=false) (fun k=>f.cA.length - k) 0 ?_ ⟨aD _,fun j _ hj=>absurd hj (Nat.not_lt_zero j)⟩ ?_
 ·refine bh [] rfl rfl ?_ ⟨aV _ rfl,trivial⟩ ?_
  all_goals repeat' first|refine Ai ?_ ?_|exact rfl|exact⟨⟩|exact Ei _ rfl
 rintro k ⟨hk,eZ⟩;refine aBW [] ?_;refine cS (fun h=>?_) (fun h=>?_)
 ·have aS:=cN h;refine Ei k (Ei (f.cA[k].enc) (Ai rfl (Ai (aQ _ _ k aS) ?_)));refine cS (fun h1=>?_) (fun h1=>?_)
  ·have h1:(f.cA[k].kind==10)=true:=h1;refine Ei k (Ei (f.cA[k].enc) (Ai rfl (Ai (aQ _ _ k aS) ?_)));refine cF (pS f.cA[k].kind) ⟨rfl,trivial⟩ ?_;refine cS (fun h2=>?_) (fun h2=>?_)
   ·have h2:(jx f.cA[k].kind==aP)=true:=h2;have hp:(f.cA[k].kind==10&&jx f.cA[k].kind==aP)=true:=by rw[h1,h2];rfl
    have qq:M=true:=by
     rw[<- hM];exact List.any_eq_true.2 ⟨_,aI aS,hp⟩
    subst qq;refine Ei [] ?_
    repeat' first|refine Ai ?_ ?_|exact rfl|exact⟨⟩|exact Ei _ rfl
   ·have h2:(jx f.cA[k].kind==aP)=false:=h2;have hp:(f.cA[k].kind==10&&jx f.cA[k].kind==aP)=false:=by rw[h1,h2];rfl
    refine Ei (k+1) (Ai ⟨by omega,fun j hj Af=>?_⟩ (Ai (show f.cA.length - (k+1) < f.cA.length - k by omega) ?_))
    ·by_cases e:j=k
     ·subst e;exact hp
     ·exact eZ j hj (by omega)
    refine bh [] rfl rfl ?_ ⟨aV _ rfl,trivial⟩ ?_
    all_goals repeat' first|refine Ai ?_ ?_|exact rfl|exact⟨⟩|exact Ei _ rfl
    exact ed k aS 176 (by decide) ug
  ·have h1:(f.cA[k].kind==10)=false:=h1;have hp:(f.cA[k].kind==10&&jx f.cA[k].kind==aP)=false:=by rw[h1];rfl
   refine Ei (k+1) (Ai ⟨by omega,fun j hj Af=>?_⟩ (Ai (show f.cA.length - (k+1) < f.cA.length - k by omega) ?_))
   ·by_cases e:j=k
    ·subst e;exact hp
    ·exact eZ j hj (by omega)
   refine bh [] rfl rfl ?_ ⟨aV _ rfl,trivial⟩ ?_
   all_goals repeat' first|refine Ai ?_ ?_|exact rfl|exact⟨⟩|exact Ei _ rfl
   exact ed k aS 176 (by decide) ug
 ·have fS:=cP h hk
  have qq:M=false:=by
   rw[<- hM];refine List.any_eq_false.2 fun x hx=>?_;obtain⟨j,hj,rfl⟩:=bB.1 hx;rw[eZ j hj (by omega)];decide
  subst qq;refine Ei [] ?_
  repeat' first|refine Ai ?_ ?_|exact rfl|exact⟨⟩|exact Ei _ rfl
def Oy (l:List ByteArray)(sub:ByteArray):Nat:=(l.takeWhile fun x=>Op.bytesLess x.toList sub.toList).length
def Kx (l:jv)(sub:ByteArray):jv:=if (!gO sub||(oH l.dN sub||decide ((4:Int)<=(l.dN.length:Nat))))=true then l else⟨l.xM,l.types,(l.dN.take (Oy l.dN sub)++[sub])++l.dN.drop (Oy l.dN sub)⟩
theorem La {α:Type}(p:α->Bool):∀ (l:List α) (k:Nat),k<=l.length->(∀ j (h:j < l.length),j < k->p l[j]=true)->(∀ h:k < l.length,p l[k]=false)->(l.takeWhile p).length=k
 | [],k,hk,_,_=>by
  rw[List.takeWhile_nil,aw];simp at hk;exact hk.symm
 | x :: r,0,_,_,h=>by
  have:=h (Nat.zero_lt_succ _);rw[List.takeWhile_cons,show p x=false from this];rfl
 | x :: r,k+1,hk,h1,h2=>by
  have h0:=h1 0 (Nat.zero_lt_succ _) (Nat.zero_lt_succ _);rw[List.takeWhile_cons,show p x=true from h0];show(r.takeWhile p).length+1=k+1;rw[La p r k (Nat.le_of_succ_le_succ hk) (fun j hj Af=>h1 (j+1) (Nat.succ_lt_succ hj) (Nat.succ_lt_succ Af)) fun hk=>h2 (Nat.succ_lt_succ hk)]
theorem OA (l:jv)(sub:ByteArray)(h:l.ok):Ct ae 224 [.agg (l.enc.map .t),.c (.t (sv sub))] (.agg ((Kx l sub).enc.map .t)) [] false:=by
 have hl:l.dN.length*16<=ba:=h;generalize hM:Kx l sub=M;unfold Kx at hM;refine cT Tryz.func224 rfl (by kernel_rfl) rfl fun w0 O _=>aBW [2,3,4,7,8,9] ?_;refine Ai (.inl rfl) (Ai (eQ _ 16 (cn _ _ _ hl)) (Ai (eA _ 16 (by decide) (cn _ _ _ hl)) ?_));refine aB1 (cJ:=⟨[(1,.c (.t (sv sub))),(2,.ptr 0 0),(4,.ptr 128 0),(5,.c (.t (.sl 1 (l.dN.map eS))))],[(0,l.enc.map .t),(128,List.replicate 3 .bot)],[],896⟩) ?_ ?_
 ·refine bh [] rfl rfl ?_ ?_ ?_
  all_goals repeat' first|refine Ai ?_ ?_|exact rfl|exact⟨⟩|exact Ei _ rfl
 (try refine aBW [] ?_)
 refine cF (aeC sub) ⟨rfl,trivial⟩ ?_;refine cy (cS (fun h1=>?_) (fun h1=>?_))
 ·have h1:gO sub=true:=h1;refine cF (I9 l sub h) ⟨fL l.enc,rfl,trivial⟩ ?_;refine cS (fun h2=>?_) (fun h2=>?_)
  ·rw[h1,show oH l.dN sub=true from h2,if_pos (by simp)] at hM;subst hM
   (try refine aBW [] ?_)
   refine Ei [] ?_
   repeat' first|refine Ai ?_ ?_|exact rfl|exact⟨⟩|exact Ei _ rfl
  ·refine cS (fun h3=>?_) (fun h3=>?_)
   ·have h3:decide ((4:Int)<=(l.dN.length:Nat))=true:=by
     have:=of_decide_eq_true h3;rw[Lm] at this;exact decide_eq_true this
    rw[h1,show oH l.dN sub=false from h2,h3,if_pos (by simp)] at hM;subst hM
    (try refine aBW [] ?_)
    refine Ei [] ?_
    repeat' first|refine Ai ?_ ?_|exact rfl|exact⟨⟩|exact Ei _ rfl
   ·have h3:decide ((4:Int)<=(l.dN.length:Nat))=false:=by
     have:=of_decide_eq_false h3;rw[Lm] at this;exact decide_eq_false this
    rw[h1,show oH l.dN sub=false from h2,h3,if_neg (by simp)] at hM
    have h4l:l.dN.length < 4:=by
     have:=of_decide_eq_false h3;omega
    (try refine aBW [] ?_)
    have ex:∀ k:Nat,k<=l.dN.length->Oy l.dN sub=k->M.enc=[iv l.xM,iv l.types,.sl 1 ((((l.dN.map eS).take k).drop 0++[eS sub])++((l.dN.map eS).take (l.dN.map eS).length).drop k)]:=fun k hk e=>by
     rw[<- hM,e,bm,List.drop_zero,<- List.map_take,<- List.map_drop];show [iv l.xM,iv l.types,Tr.sl 1 (((l.dN.take k++[sub])++l.dN.drop k).map eS)]=_;rw[aW,aW];rfl
    refine aBY (fun k:Nat=>⟨[(1,.c (.t (sv sub))),(2,.ptr 0 0),(4,.ptr 128 0),(5,.c (.t (.sl 1 (l.dN.map eS)))),(6,aBZ k)],[(0,l.enc.map .t),(128,List.replicate 3 .bot)],[],10000⟩) (fun k=>k<=l.dN.length/\∀ j (h:j < l.dN.length),j < k->Op.bytesLess l.dN[j].toList sub.toList=true) (fun k=>l.dN.length - k) 0 ?_ ⟨aD _,fun j _ hj=>absurd hj (Nat.not_lt_zero j)⟩ ?_
    ·refine bh [] rfl rfl ?_ ?_ ?_
     all_goals repeat' first|refine Ai ?_ ?_|exact rfl|exact⟨⟩|exact Ei _ rfl
    rintro k ⟨hk,eZ⟩
    (try refine aBW [] ?_)
    refine cS (fun h4=>?_) (fun h4=>?_)
    ·have aS:=cN h4;refine Ei k (Ei (eS l.dN[k]) (Ai rfl (Ai (aQ _ _ k aS) ?_)));refine cS (fun h5=>?_) (fun h5=>?_)
     ·refine Ei (k+1) (Ai ⟨by omega,fun j hj Af=>?_⟩ (Ai (show l.dN.length - (k+1) < l.dN.length - k by omega) ?_))
      ·by_cases e:j=k
       ·subst e;exact h5
       ·exact eZ j hj (by omega)
      refine bh [] rfl rfl ?_ ?_ ?_
      ·repeat' first|refine Ai ?_ ?_|exact rfl|exact⟨⟩|exact Ei _ rfl
       exact ed k aS 16 (by decide) hl
      all_goals repeat' first|refine Ai ?_ ?_|exact rfl|exact⟨⟩|exact Ei _ rfl|refine aj ?_|refine bS ?_
     ·have ex:=ex k hk (La _ _ _ hk eZ fun _=>h5)
      (try refine aBW [] ?_)
      refine Ei 0 (Ei k (Ai rfl (Ai rfl (Ai (aD _) (Ai (by rw[Lm];exact hk) ?_)))))
      have b1:(([]:List (List Tr)).length+(((l.dN.map eS).take k).drop 0).length)*16<=140737488355328/\([]:List (List Tr)).length+(((l.dN.map eS).take k).drop 0).length < 140737488355328:=by
       rw[aL,aB,Lm,aw];omega
      refine Ai (.inl rfl) (Ai b1.1 (Ai b1.2 ?_))
      (try refine aBW [] ?_)
      have b2:((([]:List (List Tr))++((l.dN.map eS).take k).drop 0).length+1)*16<=140737488355328/\(([]:List (List Tr))++((l.dN.map eS).take k).drop 0).length+1 < 140737488355328:=by
       rw[bF,aL,aB,Lm];omega
      refine Ai (.inl rfl) (Ai b2.1 (Ai b2.2 ?_))
      (try refine aBW [] ?_)
      refine Ei k (Ei (l.dN.map eS).length (Ai rfl (Ai rfl (Ai (by rw[Lm];exact hk) (Ai (al _) ?_)))))
      have b3:(((([]:List (List Tr))++((l.dN.map eS).take k).drop 0)++[eS sub]).length+(((l.dN.map eS).take (l.dN.map eS).length).drop k).length)*16<=140737488355328/\((([]:List (List Tr))++((l.dN.map eS).take k).drop 0)++[eS sub]).length+(((l.dN.map eS).take (l.dN.map eS).length).drop k).length < 140737488355328:=by
       rw[bF,au,aL,aB,Lm,aL,aB,Lm];simp only[List.length_singleton];omega
      refine Ai (.inl rfl) (Ai b3.1 (Ai b3.2 ?_));rw[ex];refine Ei [] ?_
      repeat' first|refine Ai ?_ ?_|exact rfl|exact⟨⟩|exact Ei _ rfl
    ·have fS:=cP h4 hk;have ex:=ex k hk (La _ _ _ hk eZ fun h=>absurd h (by omega))
     (try refine aBW [] ?_)
     refine Ei 0 (Ei k (Ai rfl (Ai rfl (Ai (aD _) (Ai (by rw[Lm];exact hk) ?_)))))
     have b1:(([]:List (List Tr)).length+(((l.dN.map eS).take k).drop 0).length)*16<=140737488355328/\([]:List (List Tr)).length+(((l.dN.map eS).take k).drop 0).length < 140737488355328:=by
      rw[aL,aB,Lm,aw];omega
     refine Ai (.inl rfl) (Ai b1.1 (Ai b1.2 ?_))
     (try refine aBW [] ?_)
     have b2:((([]:List (List Tr))++((l.dN.map eS).take k).drop 0).length+1)*16<=140737488355328/\(([]:List (List Tr))++((l.dN.map eS).take k).drop 0).length+1 < 140737488355328:=by
      rw[bF,aL,aB,Lm];omega
     refine Ai (.inl rfl) (Ai b2.1 (Ai b2.2 ?_))
     (try refine aBW [] ?_)
     refine Ei k (Ei (l.dN.map eS).length (Ai rfl (Ai rfl (Ai (by rw[Lm];exact hk) (Ai (al _) ?_)))))
     have b3:(((([]:List (List Tr))++((l.dN.map eS).take k).drop 0)++[eS sub]).length+(((l.dN.map eS).take (l.dN.map eS).length).drop k).length)*16<=140737488355328/\((([]:List (List Tr))++((l.dN.map eS).take k).drop 0)++[eS sub]).length+(((l.dN.map eS).take (l.dN.map eS).length).drop k).length < 140737488355328:=by
      rw[bF,au,aL,aB,Lm,aL,aB,Lm];simp only[List.length_singleton];omega
     refine Ai (.inl rfl) (Ai b3.1 (Ai b3.2 ?_));rw[ex];refine Ei [] ?_
     repeat' first|refine Ai ?_ ?_|exact rfl|exact⟨⟩|exact Ei _ rfl
 ·rw[show gO sub=false from h1,if_pos (by simp)] at hM;subst hM
  (try refine aBW [] ?_)
  refine Ei [] ?_
  repeat' first|refine Ai ?_ ?_|exact rfl|exact⟨⟩|exact Ei _ rfl
def anI (a b:Int):Int:=IntKind.i64.wrap (((BitVec.ofInt IntKind.i64.bits a &&& ~~~ BitVec.ofInt IntKind.i64.bits b).toNat:Nat):Int)
noncomputable def QT (m:eb):Bool:=Classical.choose (GC m)
theorem QS (m:eb):Ct ae 160 [.agg (m.enc.map .t)] (aB0 (QT m)) [] true:=(Classical.choose_spec (GC m)).2
noncomputable def AP (t:aG)(m:eb)(you n:Int):aG:=
 if QT m=false then t
 else if m.kind=1 then { t with aaB:=you }
 else if m.kind=2 then { t with line:={ t.line with types:=m.n } }
 else if m.kind=3 then { t with line:={ t.line with types:=orI t.line.types m.n } }
 else if m.kind=4 then { t with line:={ t.line with dN:=[m.sub] } }
 else if m.kind=5 then { t with line:=Kx t.line m.sub }
 else if m.kind=6 then { t with dQ:=m.n }
 else if m.kind=7 then { t with dQ:=orI t.dQ m.n }
 else if m.kind=8 then { t with keys:=orI t.keys m.n }
 else if m.kind=9 then { t with keys:=anI t.keys m.n }
 else if m.kind=10 then { t with keys:=0,aT:=[] }
 else if m.kind=11 then { t with cV:=dd n,cU:=dd n }
 else if m.kind=12 then { t with cV:=m.n,cU:=m.m }
 else if m.kind=13 then { t with cV:=ff t.cV m.n,cU:=ff t.cU m.m }
 else if m.kind=14 then { t with cV:=t.cU,cU:=t.cV }
 else t
theorem Sw (t:aG)(m:eb)(you n:Int)(h:t.ok):Ct ae 178 [.agg (t.enc.map .t),.agg (m.enc.map .t),.c (.t (iv you)),.c (.t (iv n))] (.agg ((AP t m you n).enc.map .t)) [] false:=by
 generalize hM:AP t m you n=M;unfold AP at hM;refine cT Tryz.func178 rfl (by kernel_rfl) rfl fun w0 O _=>aBW [38] ?_;refine cF (QS m) ⟨fL m.enc,trivial⟩ ?_;refine cy (cS (fun h0=>?_) (fun h0=>?_))
 ·rw[if_neg (by rw[show QT m=true from h0];decide)] at hM;refine cS (fun h1=>?_) (fun h1=>?_)
  ·have h1:m.kind=1:=by simpa using h1
   rw[if_pos h1] at hM;subst hM
   (try refine aBW [] ?_)
   refine Ei [] ?_
   repeat' first|refine Ai ?_ ?_|exact rfl|exact⟨⟩|exact Ei _ rfl
  ·have h1:¬ m.kind=1:=by simpa using h1
   rw[if_neg h1] at hM;refine cS (fun h1=>?_) (fun h1=>?_)
   ·have h1:m.kind=2:=by simpa using h1
    rw[if_pos h1] at hM;subst hM
    (try refine aBW [] ?_)
    refine Ei [] ?_
    repeat' first|refine Ai ?_ ?_|exact rfl|exact⟨⟩|exact Ei _ rfl
   ·have h1:¬ m.kind=2:=by simpa using h1
    rw[if_neg h1] at hM;refine cS (fun h1=>?_) (fun h1=>?_)
    ·have h1:m.kind=3:=by simpa using h1
     rw[if_pos h1] at hM;subst hM
     (try refine aBW [] ?_)
     refine Ei [] ?_
     repeat' first|refine Ai ?_ ?_|exact rfl|exact⟨⟩|exact Ei _ rfl
    ·have h1:¬ m.kind=3:=by simpa using h1
     rw[if_neg h1] at hM;refine cS (fun h1=>?_) (fun h1=>?_)
     ·have h1:m.kind=4:=by simpa using h1
      rw[if_pos h1] at hM;subst hM
      (try refine aBW [] ?_)
      refine Ei [] ?_
      repeat' first|refine Ai ?_ ?_|exact rfl|exact⟨⟩|exact Ei _ rfl
     ·have h1:¬ m.kind=4:=by simpa using h1
      rw[if_neg h1] at hM;refine cS (fun h1=>?_) (fun h1=>?_)
      ·have h1:m.kind=5:=by simpa using h1
       rw[if_pos h1] at hM;subst hM;refine cR (OA t.line m.sub h.2.1) ⟨fL t.line.enc,rfl,trivial⟩ ?_
       (try refine aBW [] ?_)
       refine Ei [] ?_
       repeat' first|refine Ai ?_ ?_|exact rfl|exact⟨⟩|exact Ei _ rfl
      ·have h1:¬ m.kind=5:=by simpa using h1
       rw[if_neg h1] at hM;refine cS (fun h1=>?_) (fun h1=>?_)
       ·have h1:m.kind=6:=by simpa using h1
        rw[if_pos h1] at hM;subst hM
        (try refine aBW [] ?_)
        refine Ei [] ?_
        repeat' first|refine Ai ?_ ?_|exact rfl|exact⟨⟩|exact Ei _ rfl
       ·have h1:¬ m.kind=6:=by simpa using h1
        rw[if_neg h1] at hM;refine cS (fun h1=>?_) (fun h1=>?_)
        ·have h1:m.kind=7:=by simpa using h1
         rw[if_pos h1] at hM;subst hM
         (try refine aBW [] ?_)
         refine Ei [] ?_
         repeat' first|refine Ai ?_ ?_|exact rfl|exact⟨⟩|exact Ei _ rfl
        ·have h1:¬ m.kind=7:=by simpa using h1
         rw[if_neg h1] at hM;refine cS (fun h1=>?_) (fun h1=>?_)
         ·have h1:m.kind=8:=by simpa using h1
          rw[if_pos h1] at hM;subst hM
          (try refine aBW [] ?_)
          refine Ei [] ?_
          repeat' first|refine Ai ?_ ?_|exact rfl|exact⟨⟩|exact Ei _ rfl
         ·have h1:¬ m.kind=8:=by simpa using h1
          rw[if_neg h1] at hM;refine cS (fun h1=>?_) (fun h1=>?_)
          ·have h1:m.kind=9:=by simpa using h1
           rw[if_pos h1] at hM;subst hM
           (try refine aBW [] ?_)
           refine Ei [] ?_
           repeat' first|refine Ai ?_ ?_|exact rfl|exact⟨⟩|exact Ei _ rfl
          ·have h1:¬ m.kind=9:=by simpa using h1
           rw[if_neg h1] at hM;refine cS (fun h1=>?_) (fun h1=>?_)
           ·have h1:m.kind=10:=by simpa using h1
            rw[if_pos h1] at hM;subst hM
            (try refine aBW [] ?_)
            refine Ei [] ?_
            repeat' first|refine Ai ?_ ?_|exact rfl|exact⟨⟩|exact Ei _ rfl
           ·have h1:¬ m.kind=10:=by simpa using h1
            rw[if_neg h1] at hM;refine cS (fun h1=>?_) (fun h1=>?_)
            ·have h1:m.kind=11:=by simpa using h1
             rw[if_pos h1] at hM;subst hM;refine cF (np n) ⟨rfl,trivial⟩ ?_;refine cF (np n) ⟨rfl,trivial⟩ ?_
             (try refine aBW [] ?_)
             refine Ei [] ?_
             repeat' first|refine Ai ?_ ?_|exact rfl|exact⟨⟩|exact Ei _ rfl
            ·have h1:¬ m.kind=11:=by simpa using h1
             rw[if_neg h1] at hM;refine cS (fun h1=>?_) (fun h1=>?_)
             ·have h1:m.kind=12:=by simpa using h1
              rw[if_pos h1] at hM;subst hM
              (try refine aBW [] ?_)
              refine Ei [] ?_
              repeat' first|refine Ai ?_ ?_|exact rfl|exact⟨⟩|exact Ei _ rfl
             ·have h1:¬ m.kind=12:=by simpa using h1
              rw[if_neg h1] at hM;refine cS (fun h1=>?_) (fun h1=>?_)
              ·have h1:m.kind=13:=by simpa using h1
               rw[if_pos h1] at hM;subst hM;refine cF (j8 t.cV m.n) ⟨rfl,rfl,trivial⟩ ?_;refine cF (j8 t.cU m.m) ⟨rfl,rfl,trivial⟩ ?_
               (try refine aBW [] ?_)
               refine Ei [] ?_
               repeat' first|refine Ai ?_ ?_|exact rfl|exact⟨⟩|exact Ei _ rfl
              ·have h1:¬ m.kind=13:=by simpa using h1
               rw[if_neg h1] at hM;refine cS (fun h1=>?_) (fun h1=>?_)
               ·have h1:m.kind=14:=by simpa using h1
                rw[if_pos h1] at hM;subst hM
                (try refine aBW [] ?_)
                refine Ei [] ?_
                repeat' first|refine Ai ?_ ?_|exact rfl|exact⟨⟩|exact Ei _ rfl
               ·have h1:¬ m.kind=14:=by simpa using h1
                rw[if_neg h1] at hM;subst hM
                (try refine aBW [] ?_)
                refine Ei [] ?_
                repeat' first|refine Ai ?_ ?_|exact rfl|exact⟨⟩|exact Ei _ rfl
 ·rw[if_pos (show QT m=false from h0)] at hM;subst hM
  (try refine aBW [] ?_)
  refine Ei [] ?_
  repeat' first|refine Ai ?_ ?_|exact rfl|exact⟨⟩|exact Ei _ rfl
theorem WN {l:jv}{sub:ByteArray}(h:l.ok):(Kx l sub).ok:=by
 have h:l.dN.length*16<=ba:=h;unfold Kx;split
 ·exact h
 ·rename_i hc;show((l.dN.take (Oy l.dN sub)++[sub])++l.dN.drop (Oy l.dN sub)).length*16<=ba;simp at hc;simp only[au,aB,aL,List.length_singleton];unfold ba;omega
theorem ig {c:Prop}[Decidable c]{x y:aG}(h1:x.ok)(h2:y.ok):(if c then x else y).ok:=by
 split
 ·exact h1
 ·exact h2
theorem Iq {t:aG}{m:eb}{you n:Int}(h:t.ok):(AP t m you n).ok:=by
 have h':=h;obtain⟨h1,h2,h3,h4⟩:=h;unfold AP;have hs:([m.sub]:List ByteArray).length*16<=ba:=by unfold ba;exact Nb rfl
 exact(ig h' (ig ⟨h1,h2,h3,h4⟩ (ig ⟨h1,h2,h3,h4⟩ (ig ⟨h1,h2,h3,h4⟩ (ig ⟨h1,hs,h3,h4⟩ (ig ⟨h1,WN h2,h3,h4⟩ (ig ⟨h1,h2,h3,h4⟩ (ig ⟨h1,h2,h3,h4⟩ (ig ⟨h1,h2,h3,h4⟩ (ig ⟨h1,h2,h3,h4⟩ (ig ⟨h1,h2,aD _,fun _ h=>absurd h List.not_mem_nil⟩ (ig ⟨h1,h2,h3,h4⟩ (ig ⟨h1,h2,h3,h4⟩ (ig ⟨h1,h2,h3,h4⟩ (ig ⟨h1,h2,h3,h4⟩ h')))))))))))))))
noncomputable def rV (aP you:Int)(jQ:List Int):aG->List eb->Nat->aG
 | t,[],_=>t
 | t,m :: r,n=>if (jx m.kind==aP)=true then rV aP you jQ (AP t m you ((jQ[n]?).getD 0)) r (n+1) else rV aP you jQ t r n
theorem zJ {aP you:Int}{jQ:List Int}:∀ {l:List eb} {t:aG} {n:Nat},t.ok->(rV aP you jQ t l n).ok
 | [],_,_,h=>h
 | m :: r,t,n,h=>by
  unfold rV;split
  ·exact zJ (Iq h)
  ·exact zJ h
theorem EY (t:aG)(f:bN)(aP you:Int)(jQ:List Int)(ht:t.ok)(hf:f.ok)(hn:(mT aP f.cA).length<=jQ.length)(hn8:jQ.length*8<=ba):Ct ae 121 [.agg (t.enc.map .t),.agg (f.enc.map .t),.c (.t (iv aP)),.c (.t (iv you)),.c (.t (.sl 1 (jQ.map eI)))] (.agg ((rV aP you jQ t f.cA 0).enc.map .t)) [] false:=by
 have ug:=lD hf;generalize hG:rV aP you jQ t f.cA 0=G;refine cT Tryz.func121 rfl (by kernel_rfl) rfl fun w0 O _=>aBW [] ?_;refine aBY (α:=Nat × aG × Nat) (fun x=>⟨[(2,.c (.t (iv aP))),(3,.c (.t (iv you))),(4,.c (.t (.sl 1 (jQ.map eI)))),(5,.ptr 0 0),(6,.ptr 128 0),(10,.ptr 256 0),(11,aBZ x.2.2),(12,aBZ x.1)],[(0,x.2.1.enc.map .t),(128,f.enc.map .t),(256,List.replicate 17 .bot)],[],10000⟩) (fun x=>x.1<=f.cA.length/\x.2.1.ok/\x.2.2+(mT aP (f.cA.drop x.1)).length<=jQ.length/\rV aP you jQ x.2.1 (f.cA.drop x.1) x.2.2=G) (fun x=>f.cA.length - x.1) (0,t,0) ?_ ⟨aD _,ht,by show 0+(mT aP (f.cA.drop 0)).length<=jQ.length;rw[List.drop_zero];omega,hG⟩ ?_
 ·refine bh [] rfl rfl ?_ ?_ ?_
  ·repeat' first|refine Ai ?_ ?_|exact rfl|exact⟨⟩|exact Ei _ rfl
  ·refine⟨aV _ rfl,aV _ rfl,?_,trivial⟩
   repeat' first|refine Ai ?_ ?_|exact rfl|exact⟨⟩|exact Ei _ rfl|refine aj ?_|refine bS ?_
  ·repeat' first|refine Ai ?_ ?_|exact rfl|exact⟨⟩|exact Ei _ rfl
 rintro⟨k,t',n⟩ ⟨hk,s8,JU,he⟩;have s8:t'.ok:=s8;have hk:k<=f.cA.length:=hk;refine aBW [] ?_;refine cS (fun h=>?_) (fun h=>?_)
 ·have aS:k < f.cA.length:=cN h;rw[dw aS] at he JU;unfold rV at he;unfold mT at JU;refine Ei k (Ei (f.cA[k].enc) (Ai rfl (Ai (aQ _ _ k aS) ?_)));refine cF (pS f.cA[k].kind) ⟨rfl,trivial⟩ ?_;refine cS (fun h2=>?_) (fun h2=>?_)
  ·have h2:(jx f.cA[k].kind==aP)=true:=h2;rw[if_pos h2] at he;rw[List.filter_cons_of_pos (p:=fun m:eb=>jx m.kind==aP) h2,aq] at JU
   have Ae:n < jQ.length:=by
    have JU:n+((mT aP (f.cA.drop (k+1))).length+1)<=jQ.length:=JU;omega
   rw[cD Ae] at he;refine Ei k (Ei (f.cA[k].enc) (Ai rfl (Ai (aQ _ _ k aS) ?_)));refine Ei n (Ei (eI jQ[n]) (Ai rfl (Ai (aQ _ _ n Ae) ?_)));refine cR (Sw t' f.cA[k] you jQ[n] s8) ⟨fL t'.enc,fL f.cA[k].enc,rfl,rfl,trivial⟩ ?_
   refine Ei (k+1,AP t' f.cA[k] you jQ[n],n+1) (Ai ⟨aS,Iq s8,(by
    have JU:n+((mT aP (f.cA.drop (k+1))).length+1)<=jQ.length:=JU;show n+1+(mT aP (f.cA.drop (k+1))).length<=jQ.length;omega),he⟩ (Ai (show f.cA.length - (k+1) < f.cA.length - k by omega) ?_))
   refine bh [] rfl rfl ?_ ?_ ?_
   ·repeat' first|refine Ai ?_ ?_|exact rfl|exact⟨⟩|exact Ei _ rfl
    ·exact ed n Ae 8 (by decide) hn8
    ·exact ed k aS 176 (by decide) ug
   ·refine⟨aV _ rfl,aV _ rfl,?_,trivial⟩
    repeat' first|refine Ai ?_ ?_|exact rfl|exact⟨⟩|exact Ei _ rfl|refine aj ?_|refine bS ?_
   ·repeat' first|refine Ai ?_ ?_|exact rfl|exact⟨⟩|exact Ei _ rfl
  ·have h2:(jx f.cA[k].kind==aP)=false:=h2;rw[if_neg (by rw[h2];decide)] at he;rw[List.filter_cons_of_neg (p:=fun m:eb=>jx m.kind==aP) (by rw[h2];decide)] at JU;refine Ei (k+1,t',n) (Ai ⟨aS,s8,JU,he⟩ (Ai (show f.cA.length - (k+1) < f.cA.length - k by omega) ?_));refine bh [] rfl rfl ?_ ?_ ?_
   ·repeat' first|refine Ai ?_ ?_|exact rfl|exact⟨⟩|exact Ei _ rfl
    exact ed k aS 176 (by decide) ug
   ·refine⟨aV _ rfl,aV _ rfl,?_,trivial⟩
    repeat' first|refine Ai ?_ ?_|exact rfl|exact⟨⟩|exact Ei _ rfl|refine aj ?_|refine bS ?_
   ·repeat' first|refine Ai ?_ ?_|exact rfl|exact⟨⟩|exact Ei _ rfl
 ·have fS:k=f.cA.length:=cP h hk;rw[fS,List.drop_eq_nil_of_le (al _)] at he;have he:t'=G:=he;rw[<- he];refine Ei [] ?_
  repeat' first|refine Ai ?_ ?_|exact rfl|exact⟨⟩|exact Ei _ rfl
def Xb (s:aA)(k:Nat):Int:=((s.aa[k]?).map aE.id).getD 0
theorem Vu {s:aA}{k:Nat}(h:k < s.aa.length):Xb s k=s.aa[k].id:=by
 unfold Xb;rw[cD h];rfl
noncomputable def A4 (s:aA)(f:bN)(w:Wd)(i:Nat)(aP:Int)(k:Nat)(t:aG):aG:=if Ah (lM s f w i) (Xb s k)=true then rV aP (ox s f w) (lC s f w aP) t f.cA 0 else t
def uo (s:aA)(f:bN)(w:Wd)(i:Nat)(aP:Int)(k:Nat)(b:Bool):Bool:=if Ah (lM s f w i) (Xb s k)=true/\Kc f aP=true then true else b
noncomputable def Z4 (s:aA)(f:bN)(w:Wd)(i:Nat)(aP:Int)(n:Nat):Wd:=⟨kS (A4 s f w i aP) n w.all,w.bg.set i true,w.st.set i (lM s f w i),kS (uo s f w i aP) n w.bl⟩
noncomputable def qF (s:aA)(f:bN)(w:Wd)(i:Nat)(aP:Int):Wd:=if sJ s f w i=true then Z4 s f w i aP s.aa.length else w
theorem qv {s:aA}{L:List bN}{w:Wd}(H:pr s L w)(f:bN)(i:Nat):(lM s f w i).length<=4000:=by
 unfold lM;have hso:=H.so;split
 ·cases hq:w.st[i]? with
  | none=>exact aD _
  | some z=>exact H.sl z (aU hq)
 ·split
  ·rw[Lm];exact bd (uB _ _ _) hso
  ·exact aD _
theorem yO (s:aA)(L:List bN)(w:Wd)(H:pr s L w)(i:Nat)(hi:i < L.length)(aP:Int):Ct ae 58 [.agg ((wE s L w).map .t),.c (.t (iv (i:Int))),.c (.t (iv aP))] (.agg ((wE s L (qF s L[i] w i aP)).map .t)) [] false:=by
 have hac:=qK s L w H i hi;have hef:=sI s L w H i hi;have hnu:=rR s L w H i hi aP;have hyo:=KQ s L w H i hi;have hf:=H.fo _ (aI hi);have Vy:=qv H L[i] i;have ug:=lD hf;have hdr:=Se L[i] aP hf;have h8:=H.h8;have hso:=H.so;have Xf:=H.sL;have ga:=H.all;have gb:=H.bg;have gs:=H.st;have gl:=H.bl;have JP:(mT aP L[i].cA).length<=(lC s L[i] w aP).length:=by unfold lC;rw[Lm];exact al _
 have aeS:(lC s L[i] w aP).length*8<=ba:=by
  unfold lC;rw[Lm];have:=vP aP L[i].cA L[i].cA.length;rw[bm] at this;unfold ba at *;omega
 generalize hM:qF s L[i] w i aP=M;unfold qF at hM;refine cT Tryz.func58 rfl (by kernel_rfl) rfl fun w0 O _=>aBW [3,7,11,12,16,17,18,20] ?_;refine cF hac ⟨fL (wE s L w),rfl,trivial⟩ ?_;refine cy (cS (fun h=>?_) (fun h=>?_))
 ·rw[if_pos (show sJ s L[i] w i=true from h)] at hM;refine aBW [] ?_;refine cR hef ⟨fL (wE s L w),rfl,trivial⟩ ?_;refine cR hnu ⟨fL (wE s L w),rfl,rfl,trivial⟩ ?_;refine cF hyo ⟨fL (wE s L w),rfl,trivial⟩ ?_;refine aBW [] ?_;have c1:(w.all.map aG.enc).length*176<=140737488355328/\(w.all.map aG.enc).length < 140737488355328:=by rw[Lm];omega
  have c2:(w.bg.map tB).length*1<=140737488355328/\(w.bg.map tB).length < 140737488355328:=by rw[Lm];omega
  have c3:(w.st.map tZ).length*24<=140737488355328/\(w.st.map tZ).length < 140737488355328:=by rw[Lm];omega
  have c4:(w.bl.map tB).length*1<=140737488355328/\(w.bl.map tB).length < 140737488355328:=by rw[Lm];omega
  refine Ai (.inl rfl) (Ai c1.1 (Ai c1.2 ?_));refine Ai (.inl rfl) (Ai c2.1 (Ai c2.2 ?_));refine Ai (.inl rfl) (Ai c3.1 (Ai c3.2 ?_));refine Ai (.inl rfl) (Ai c4.1 (Ai c4.2 ?_));refine aB1 (cJ:=⟨[(1,.c (.t (iv (i:Int)))),(2,.c (.t (iv aP))),(3,.ptr 0 0),(6,.ptr 128 0),(7,.c (.t (.sl 1 ((lM s L[i] w i).map eI)))),(8,.c (.t (.sl 1 ((lC s L[i] w aP).map eI)))),(9,aBZ (ox s L[i] w)),(10,.ptr 3072 0)],[(0,(wE s L w).map .t),(128,List.replicate 24 .bot),(3072,s.enc.map .t++[.row 9000 0,.t (.sl 23 (L.map bN.enc)),.row 9001 0,.row 9002 0,.row 9003 0])],[(9000,⟨138,17,0,w.all.map aG.enc,none⟩),(9001,⟨4,1,0,w.bg.map tB,none⟩),(9002,⟨25,1,0,w.st.map tZ,none⟩),(9003,⟨4,1,0,w.bl.map tB,none⟩)],10000⟩) ?_ ?_
  ·refine bh [(9000,3840),(9001,4736),(9002,5632),(9003,6528)] rfl rfl ?_ ?_ ?_
   ·repeat' first|refine Ai ?_ ?_|exact rfl|exact⟨⟩|exact Ei _ rfl|refine aj ?_|refine bS ?_
   ·refine⟨aV _ rfl,?_,?_,trivial⟩
    all_goals repeat' first|refine Ai ?_ ?_|exact rfl|exact⟨⟩|exact Ei _ rfl|refine aj ?_|refine bS ?_
   ·repeat' first|refine Ai ?_ ?_|exact rfl|exact⟨⟩|exact Ei _ rfl|refine aj ?_|refine bS ?_
  have xw:i < w.bg.length:=by rw[gb];exact hi
  have Cy:i < w.st.length:=by rw[gs];exact hi
  have hib:i < (w.bg.map tB).length:=by rw[Lm];exact xw
  have his:i < (w.st.map tZ).length:=by rw[Lm];exact Cy
  refine aBW [] ?_;refine Ei i (Ai rfl (Ai hib ?_));refine Ei (tB w.bg[i]) (Ai (aQ _ _ i xw) (Ai (Nb rfl) ?_));refine aBW [] ?_;refine Ei i (Ai rfl (Ai his ?_));refine Ei (tZ w.st[i]) (Ai (aQ _ _ i Cy) (Ai (Nb rfl) ?_));refine aBY (fun k:Nat=>⟨[(1,.c (.t (iv (i:Int)))),(2,.c (.t (iv aP))),(3,.ptr 0 0),(6,.ptr 128 0),(7,.c (.t (.sl 1 ((lM s L[i] w i).map eI)))),(8,.c (.t (.sl 1 ((lC s L[i] w aP).map eI)))),(9,aBZ (ox s L[i] w)),(10,.ptr 3072 0),(11,aBZ k)],[(0,(wE s L w).map .t),(128,List.replicate 24 .bot),(3072,s.enc.map .t++[.row 9000 0,.t (.sl 23 (L.map bN.enc)),.row 9001 0,.row 9002 0,.row 9003 0])],[(9000,⟨138,17,0,(kS (A4 s L[i] w i aP) k w.all).map aG.enc,none⟩),(9001,⟨4,1,0,(w.bg.set i true).map tB,none⟩),(9002,⟨25,1,0,(w.st.set i (lM s L[i] w i)).map tZ,none⟩),(9003,⟨4,1,0,(kS (uo s L[i] w i aP) k w.bl).map tB,none⟩)],20000⟩) (fun k=>k<=s.aa.length) (fun k=>s.aa.length - k) 0 ?_ (aD _) ?_
  ·refine bh [(9000,9000),(9001,9001),(9002,9002),(9003,9003)] rfl rfl ?_ ?_ ?_
   ·repeat' first|refine Ai ?_ ?_|exact rfl|exact⟨⟩|exact Ei _ rfl|refine aj ?_|refine bS ?_
   ·refine⟨aV _ rfl,?_,?_,trivial⟩
    all_goals repeat' first|refine Ai ?_ ?_|exact rfl|exact⟨⟩|exact Ei _ rfl|refine aj ?_|refine bS ?_
   ·repeat' first|refine Ai ?_ ?_|exact rfl|exact⟨⟩|exact Ei _ rfl|refine aj ?_|refine bS ?_
    ·rw[K2]
    ·rw[fF];rfl
    ·rw[fF];rfl
    ·rw[K2]
  rintro k hk;refine aBW [16,17,18] ?_;refine cS (fun h=>?_) (fun h=>?_)
  ·have aS:=cN h;have Fz:k < w.all.length:=by rw[ga];exact aS
   have O5:k < w.bl.length:=by rw[gl];exact aS
   have Hp:=yV (A4 s L[i] w i aP) k w.all k Fz;have Fx:=yV (uo s L[i] w i aP) k w.bl k O5;rw[if_neg (Nat.lt_irrefl _)] at Hp Fx;have fR:=Be (A4 s L[i] w i aP) k w.all Fz;have xt:=Be (uo s L[i] w i aP) k w.bl O5;have hsk:=xG (A4 s L[i] w i aP) k w.all Fz;have JM:=xG (uo s L[i] w i aP) k w.bl O5;have hid:=Vu aS;refine aBW [] ?_;refine Ei k (Ei (s.aa[k].enc) (Ai rfl (Ai (aQ _ _ k aS) ?_)));refine cF (Hq (lM s L[i] w i) s.aa[k].id (by unfold ba;omega)) ⟨rfl,rfl,trivial⟩ ?_;refine cy (cS (fun hh=>?_) (fun hh=>?_))
   ·have hh:Ah (lM s L[i] w i) (Xb s k)=true:=by rw[hid];exact hh
    have hga:A4 s L[i] w i aP k w.all[k]=rV aP (ox s L[i] w) (lC s L[i] w aP) w.all[k] L[i].cA 0:=by
     unfold A4;rw[if_pos hh]
    rw[hga] at fR
    have VP:((kS (A4 s L[i] w i aP) k w.all).map aG.enc).set k (rV aP (ox s L[i] w) (lC s L[i] w aP) w.all[k] L[i].cA 0).enc=(kS (A4 s L[i] w i aP) (k+1) w.all).map aG.enc:=by
     rw[<- fR,fF]
    (try refine aBW [] ?_)
    refine Ei k (Ei (w.all[k].enc) (Ai rfl (Ai (aQ _ _ k Fz) ?_)));refine Ei i (Ei (L[i].enc) (Ai rfl (Ai (aQ _ _ i hi) ?_)));refine cR (EY w.all[k] L[i] aP (ox s L[i] w) (lC s L[i] w aP) (H.ok _ (aI Fz)) hf JP aeS) ⟨fL w.all[k].enc,fL L[i].enc,rfl,rfl,rfl,trivial⟩ ?_;refine Ei k (Ai rfl (Ai (by rw[Lm,lj];exact Fz) ?_));refine Ei (w.all[k].enc) (Ai (by rw[bp,Hp];rfl) (Ai (Nb rfl) ?_))
    (try refine aBW [] ?_)
    refine Ei i (Ei (L[i].enc) (Ai rfl (Ai (aQ _ _ i hi) ?_)));refine cF hdr ⟨fL L[i].enc,rfl,trivial⟩ ?_;refine cS (fun hd=>?_) (fun hd=>?_)
    ·have hd:Kc L[i] aP=true:=hd
     have lJ:uo s L[i] w i aP k w.bl[k]=true:=by
      unfold uo;rw[if_pos ⟨hh,hd⟩]
     rw[lJ] at xt
     have afK:((kS (uo s L[i] w i aP) k w.bl).map tB).set k [bv true]=(kS (uo s L[i] w i aP) (k+1) w.bl).map tB:=by
      rw[<- xt,fF];rfl
     (try refine aBW [] ?_)
     refine Ei k (Ai rfl (Ai (by rw[Lm,lj];exact O5) ?_));refine Ei (tB w.bl[k]) (Ai (by rw[bp,Fx];rfl) (Ai (Nb rfl) ?_));refine Ei (k+1) (Ai (show k+1<=_ by omega) (Ai (show s.aa.length - (k+1) < s.aa.length - k by omega) ?_));refine bh [(9000,9000),(9001,9001),(9002,9002),(9003,9003)] rfl rfl ?_ ?_ ?_
     ·repeat' first|refine Ai ?_ ?_|exact rfl|exact⟨⟩|exact Ei _ rfl|refine aj ?_|refine bS ?_
      exact ed k aS 128 (by decide) h8
     ·refine⟨aV _ rfl,?_,?_,trivial⟩
      all_goals repeat' first|refine Ai ?_ ?_|exact rfl|exact⟨⟩|exact Ei _ rfl|refine aj ?_|refine bS ?_
     ·repeat' first|refine Ai ?_ ?_|exact rfl|exact⟨⟩|exact Ei _ rfl|refine aj ?_|refine bS ?_
      ·exact VP
      ·exact afK
    ·have hd:Kc L[i] aP=false:=hd
     have lJ:uo s L[i] w i aP k w.bl[k]=w.bl[k]:=by
      unfold uo;rw[if_neg (by rintro⟨_,h⟩;rw[hd] at h;cases h)]
     have JM:=JM lJ
     (try refine aBW [] ?_)
     refine Ei (k+1) (Ai (show k+1<=_ by omega) (Ai (show s.aa.length - (k+1) < s.aa.length - k by omega) ?_));refine bh [(9000,9000),(9001,9001),(9002,9002),(9003,9003)] rfl rfl ?_ ?_ ?_
     ·repeat' first|refine Ai ?_ ?_|exact rfl|exact⟨⟩|exact Ei _ rfl|refine aj ?_|refine bS ?_
      exact ed k aS 128 (by decide) h8
     ·refine⟨aV _ rfl,?_,?_,trivial⟩
      all_goals repeat' first|refine Ai ?_ ?_|exact rfl|exact⟨⟩|exact Ei _ rfl|refine aj ?_|refine bS ?_
     ·repeat' first|refine Ai ?_ ?_|exact rfl|exact⟨⟩|exact Ei _ rfl|refine aj ?_|refine bS ?_
      ·exact VP
      ·rw[JM]
   ·have hh:Ah (lM s L[i] w i) (Xb s k)=false:=by rw[hid];exact hh
    have hsk:=hsk (by unfold A4;rw[if_neg (by rw[hh];decide)]);have JM:=JM (by unfold uo;rw[if_neg (by rintro⟨h,_⟩;rw[hh] at h;cases h)])
    (try refine aBW [] ?_)
    refine Ei (k+1) (Ai (show k+1<=_ by omega) (Ai (show s.aa.length - (k+1) < s.aa.length - k by omega) ?_));refine bh [(9000,9000),(9001,9001),(9002,9002),(9003,9003)] rfl rfl ?_ ?_ ?_
    ·repeat' first|refine Ai ?_ ?_|exact rfl|exact⟨⟩|exact Ei _ rfl|refine aj ?_|refine bS ?_
     exact ed k aS 128 (by decide) h8
    ·refine⟨aV _ rfl,?_,?_,trivial⟩
     all_goals repeat' first|refine Ai ?_ ?_|exact rfl|exact⟨⟩|exact Ei _ rfl|refine aj ?_|refine bS ?_
    ·repeat' first|refine Ai ?_ ?_|exact rfl|exact⟨⟩|exact Ei _ rfl|refine aj ?_|refine bS ?_
     ·rw[hsk]
     ·rw[JM]
  ·have fS:=cP h hk;subst fS;subst hM
   (try refine aBW [] ?_)
   refine Ei [] ?_
   repeat' first|refine Ai ?_ ?_|exact rfl|exact⟨⟩|exact Ei _ rfl
 ·rw[if_neg (by rw[show sJ s L[i] w i=false from h];decide)] at hM;subst hM
  (try refine aBW [] ?_)
  refine Ei [] ?_
  repeat' first|refine Ai ?_ ?_|exact rfl|exact⟨⟩|exact Ei _ rfl
theorem Lx (a b:List Int)(ha:a.length*8<=ba)(_hb:b.length*8<=ba):Ct ae 172 [.c (.t (.sl 1 (a.map eI))),.c (.t (.sl 1 (b.map eI)))] (aB0 (decide (a=b))) [] true:=by
 refine aB4 (b:=false) ?_ rfl;generalize hM:decide (a=b)=M;refine cT Tryz.func172 rfl (by kernel_rfl) rfl fun w0 O _=>aBW [3] ?_;refine cS (fun h=>?_) (fun h=>?_)
 ·have h:a.length≠b.length:=fun e=>by simp[e] at h
  have qq:M=false:=by rw[<- hM];exact decide_eq_false (fun e=>h (by rw[e]))
  subst qq;refine Ei [] ?_
  repeat' first|refine Ai ?_ ?_|exact rfl|exact⟨⟩|exact Ei _ rfl
 ·have hl:a.length=b.length:=by
   have:(a.length:Int)=(b.length:Int):=by simpa using h
   omega
  refine aBW [] ?_;refine aBY (fun k:Nat=>⟨[(0,.c (.t (.sl 1 (a.map eI)))),(1,.c (.t (.sl 1 (b.map eI)))),(5,aBZ k)],[],[],10000⟩) (fun k=>k<=a.length/\∀ j (h1:j < a.length) (h2:j < b.length),j < k->a[j]=b[j]) (fun k=>a.length - k) 0 ?_ ⟨aD _,fun j _ _ hj=>absurd hj (Nat.not_lt_zero j)⟩ ?_
  ·refine bh [] rfl rfl ?_ ?_ ?_
   all_goals repeat' first|refine Ai ?_ ?_|exact rfl|exact⟨⟩|exact Ei _ rfl
  rintro k ⟨hk,eZ⟩;refine aBW [] ?_;refine cS (fun h=>?_) (fun h=>?_)
  ·have aS:k < a.length:=cN h;have Tt:k < b.length:=by omega
   refine Ei k (Ei (eI a[k]) (Ai rfl (Ai (aQ _ _ k aS) ?_)));refine Ei k (Ei (eI b[k]) (Ai rfl (Ai (aQ _ _ k Tt) ?_)));refine cS (fun h=>?_) (fun h=>?_)
   ·have h:a[k]≠b[k]:=by simpa using h
    have qq:M=false:=by rw[<- hM];exact decide_eq_false (fun e=>h (by simp[e]))
    subst qq;refine Ei [] ?_
    repeat' first|refine Ai ?_ ?_|exact rfl|exact⟨⟩|exact Ei _ rfl
   ·have h:a[k]=b[k]:=by simpa using h
    refine Ei (k+1) (Ai ⟨by omega,fun j h1 h2 Af=>?_⟩ (Ai (show a.length - (k+1) < a.length - k by omega) ?_))
    ·by_cases e:j=k
     ·subst e;exact h
     ·exact eZ j h1 h2 (by omega)
    refine bh [] rfl rfl ?_ ?_ ?_
    ·repeat' first|refine Ai ?_ ?_|exact rfl|exact⟨⟩|exact Ei _ rfl
     exact ed k aS 8 (by decide) ha
    all_goals repeat' first|refine Ai ?_ ?_|exact rfl|exact⟨⟩|exact Ei _ rfl|refine aj ?_|refine bS ?_
  ·have fS:=cP h hk
   have qq:M=true:=by
    rw[<- hM];exact decide_eq_true (List.ext_getElem hl fun j h1 h2=>eZ j h1 h2 (by omega))
   subst qq;refine Ei [] ?_
   repeat' first|refine Ai ?_ ?_|exact rfl|exact⟨⟩|exact Ei _ rfl
theorem AO {s:aA}{L:List bN}{w:Wd}(H:pr s L w)(f:bN)(i:Nat)(aP:Int):pr s L (qF s f w i aP):=by
 have hl:=qv H f i;unfold qF;split
 ·refine⟨H.so,H.sL,H.fo,?_,?_,?_,?_,fun y hy=>?_,fun z hz=>?_⟩
  ·exact(lj _ _ _).trans H.all
  ·exact(bG ..).trans H.bg
  ·exact(bG ..).trans H.st
  ·exact(lj _ _ _).trans H.bl
  ·obtain⟨k,hk,rfl⟩:=bB.1 hy
   have fS:k < w.all.length:=by
    have:=lj (A4 s f w i aP) s.aa.length w.all;have hk:k < (kS (A4 s f w i aP) s.aa.length w.all).length:=hk;omega
   have h1:=yV (A4 s f w i aP) s.aa.length w.all k fS;have h2:(kS (A4 s f w i aP) s.aa.length w.all)[k]? = some ((Z4 s f w i aP s.aa.length).all[k]):=cD hk;rw[h1] at h2;rw[<- aR h2];have YX:=H.ok _ (aI fS);split
   ·unfold A4;split
    ·exact zJ YX
    ·exact YX
   ·exact YX
  ·rcases List.mem_or_eq_of_mem_set hz with h|h
   ·exact H.sl z h
   ·rw[h];exact hl
 ·exact H
noncomputable def MC (s:aA)(fi fj:bN)(w:Wd)(i j:Nat)(aP:Int):Bool:=
 if i=j then false else(sJ s fi w i != sJ s fi (qF s fj w j aP) i)||(!decide (lM s fi w i=lM s fi (qF s fj w j aP) i)||!decide (lC s fi w aP=lC s fi (qF s fj w j aP) aP))
theorem B0 {L:List bN}{s:aA}{w w':Wd}(H:pr s L w){f:bN}(hf:f∈L)(aP:Int):(lC s f w' aP).length*8<=ba:=by
 have ug:=lD (H.fo f hf);unfold lC;rw[Lm];have:=vP aP f.cA f.cA.length;rw[bm] at this;unfold ba at *;omega
theorem QP (s:aA)(L:List bN)(w:Wd)(H:pr s L w)(i j:Nat)(hi:i < L.length)(hj:j < L.length)(aP:Int):Ct ae 114 [.agg ((wE s L w).map .t),.c (.t (iv (i:Int))),.c (.t (iv (j:Int))),.c (.t (iv aP))] (aB0 (MC s L[i] L[j] w i j aP)) [] true:=by
 refine aB4 (b:=false) ?_ rfl;have H2:=AO H L[j] j aP;have hap:=yO s L w H j hj aP;generalize hV:qF s L[j] w j aP=v at *;have ha1:=qK s L w H i hi;have FG:=qK s L v H2 i hi;have FA:=sI s L w H i hi;have py:=sI s L v H2 i hi;have uF:=rR s L w H i hi aP;have Ae:=rR s L v H2 i hi aP;have Cy:=Lx (lM s L[i] w i) (lM s L[i] v i) (by have:=qv H L[i] i;unfold ba;omega) (by have:=qv H2 L[i] i;unfold ba;omega);have uf:=Lx (lC s L[i] w aP) (lC s L[i] v aP) (B0 H (aI hi) aP) (B0 H2 (aI hi) aP);generalize hM:MC s L[i] L[j] w i j aP=M;unfold MC at hM;rw[hV] at hM;generalize sJ s L[i] w i=x1 at *;generalize sJ s L[i] v i=x2 at *;generalize lM s L[i] w i=y1 at *;generalize lM s L[i] v i=y2 at *;generalize lC s L[i] w aP=z1 at *;generalize lC s L[i] v aP=z2 at *;generalize decide (y1=y2)=d1 at *;generalize decide (z1=z2)=d2 at *;refine cT Tryz.func114 rfl (by kernel_rfl) rfl fun w0 O _=>aBW [3,4] ?_;refine cS (fun h=>?_) (fun h=>?_)
 ·have h:i=j:=by
   have:((i:Int)==(j:Int))=true:=h;have:(i:Int)=(j:Int):=by simpa using this
   omega
  rw[if_pos h] at hM;subst hM;refine Ei [] ?_
  repeat' first|refine Ai ?_ ?_|exact rfl|exact⟨⟩|exact Ei _ rfl
 ·have h:¬ i=j:=by
   have:((i:Int)==(j:Int))=false:=h;have:¬ (i:Int)=(j:Int):=by simpa using this
   omega
  rw[if_neg h] at hM;refine aBW [] ?_;refine cR hap ⟨fL (wE s L w),rfl,rfl,trivial⟩ ?_;refine aBW [] ?_;refine cF ha1 ⟨fL (wE s L w),rfl,trivial⟩ ?_;refine cF FG ⟨fL (wE s L v),rfl,trivial⟩ ?_;refine cS (fun h1=>?_) (fun h1=>?_)
  ·rw[show(x1 != x2)=true from h1,Bool.true_or] at hM;subst hM;refine Ei [] ?_
   repeat' first|refine Ai ?_ ?_|exact rfl|exact⟨⟩|exact Ei _ rfl
  ·rw[show(x1 != x2)=false from h1,Bool.false_or] at hM;refine cR FA ⟨fL (wE s L w),rfl,trivial⟩ ?_;refine cR py ⟨fL (wE s L v),rfl,trivial⟩ ?_;refine cF Cy ⟨rfl,rfl,trivial⟩ ?_;refine cy (cS (fun h2=>?_) (fun h2=>?_))
   ·rw[show d1=true from h2,Bool.not_true,Bool.false_or] at hM;refine cR uF ⟨fL (wE s L w),rfl,rfl,trivial⟩ ?_;refine cR Ae ⟨fL (wE s L v),rfl,rfl,trivial⟩ ?_;refine cF uf ⟨rfl,rfl,trivial⟩ ?_;subst hM;refine Ei [] ?_
    repeat' first|refine Ai ?_ ?_|exact rfl|exact⟨⟩|exact Ei _ rfl
   ·rw[show d1=false from h2,Bool.not_false,Bool.true_or] at hM;subst hM;refine Ei [] ?_
    repeat' first|refine Ai ?_ ?_|exact rfl|exact⟨⟩|exact Ei _ rfl
theorem wD {α:Type}(p:α->Bool)(l:List α)(k:Nat):((l.take k).filter p).length<=l.length:=bd (cx _ _) (by rw[aB];omega)
theorem Qr (a b c:Int):Ct ae 112 [.agg [.t (iv a),.t (iv b),.t (iv c)]] (aBZ (pM a b)) [] true:=by
 refine aB4 (b:=false) ?_ rfl;refine cT Tryz.func112 rfl (by kernel_rfl) rfl fun w0 O _=>aBW [] ?_;refine Ei 0 (Ai rfl (Ai (by decide) ?_));refine Ei 1 (Ai rfl (Ai (by decide) ?_));refine cF (Mb a b) ⟨rfl,rfl,trivial⟩ ?_;refine Ei [] ?_
 repeat' first|refine Ai ?_ ?_|exact rfl|exact⟨⟩|exact Ei _ rfl
theorem lZ (X:List Int)(n:Int):X.map eI++[eI n]=(X++[n]).map eI:=by rw[aW];rfl
theorem IA (l:List Int)(n:Int)(hl:l.length<=1000000):Ct ae 59 [.c (.t (.sl 1 (l.map eI))),.c (.t (iv n))] (.c (.t (.sl 1 ((l.filter fun x=>x != n).map eI)))) [] false:=by
 have ui:l.length*8<=ba:=Cd (by omega);refine cT Tryz.func59 rfl (by kernel_rfl) rfl fun w0 O _=>aBW [] ?_;refine aBY (fun k:Nat=>⟨[(0,.c (.t (.sl 1 (l.map eI)))),(1,.c (.t (iv n))),(5,.c (.row 9000 0)),(6,aBZ k)],[],[(9000,⟨3,1,0,((l.take k).filter fun x=>x != n).map eI,none⟩)],10000⟩) (fun k=>k<=l.length) (fun k=>l.length - k) 0 ?_ (aD _) ?_
 ·refine bh [] rfl rfl ?_ ?_ ?_
  all_goals repeat' first|refine Ai ?_ ?_|exact rfl|exact⟨⟩|exact Ei _ rfl
 rintro k hk;refine aBW [] ?_;refine cS (fun h=>?_) (fun h=>?_)
 ·have aS:=cN h;have si:=wD (fun x=>x != n) l k;have kY:(((l.take k).filter fun x=>x != n).map eI).length+1<=2000000:=by rw[Lm];omega
  refine Ei k (Ei (eI l[k]) (Ai rfl (Ai (aQ _ _ k aS) ?_)));refine cS (fun hn=>?_) (fun hn=>?_)
  ·have hn:(l[k] != n)=true:=hn
   have fR:((l.take k).filter fun x=>x != n)++[l[k]]=(l.take (k+1)).filter fun x=>x != n:=by
    rw[bc aS,List.filter_append,show([l[k]].filter fun x=>x != n)=[l[k]] by simp[hn]]
   (try refine aBW [] ?_)
   refine Ei k (Ei (eI l[k]) (Ai rfl (Ai (aQ _ _ k aS) ?_)));refine Ai (.inl rfl) (Ai (show((((l.take k).filter fun x=>x != n).map eI).length+1)*8<=140737488355328 by omega) (Ai (show(((l.take k).filter fun x=>x != n).map eI).length+1 < 140737488355328 by omega) ?_));refine Ei (k+1) (Ai (show k+1<=_ by omega) (Ai (show l.length - (k+1) < l.length - k by omega) ?_));refine bh [(9000,9000)] rfl rfl ?_ ?_ ?_
   all_goals repeat' first|refine Ai ?_ ?_|exact rfl|exact⟨⟩|exact Ei _ rfl|refine aj ?_|refine bS ?_
   exact ed k aS 8 (by decide) ui;exact(lZ _ _).trans (congrArg (List.map eI) fR)
  ·have hn:(l[k] != n)=false:=hn
   have fR:((l.take k).filter fun x=>x != n)=(l.take (k+1)).filter fun x=>x != n:=by
    rw[bc aS,List.filter_append,show([l[k]].filter fun x=>x != n)=[] by simp[hn],aZ]
   (try refine aBW [] ?_)
   refine Ei (k+1) (Ai (show k+1<=_ by omega) (Ai (show l.length - (k+1) < l.length - k by omega) ?_));refine bh [(9000,9000)] rfl rfl ?_ ?_ ?_
   all_goals repeat' first|refine Ai ?_ ?_|exact rfl|exact⟨⟩|exact Ei _ rfl|refine aj ?_|refine bS ?_
   exact ed k aS 8 (by decide) ui;exact congrArg (List.map eI) fR
 ·have fS:=cP h hk;subst fS;refine Ei [] ?_
  repeat' first|refine Ai ?_ ?_|exact rfl|exact⟨⟩|exact Ei _ rfl
  rw[bm];exact rfl
def WA (n:Int):Bool:=(IntKind.i64.wrap (n.tdiv 1)).tmod 2==1
def jT (o:aE)(t:aG):aG:=if (o.cg==0&&WA t.line.types)=true then { t with cV:=ff t.cV (pM o.cL o.cK),cU:=ff t.cU (pM o.cL o.cK) } else t
def Of (s:aA)(w:Wd):Wd:={ w with all:=(s.aa.zip w.all).map fun p=>jT p.1 p.2 }
theorem Kl (s:aA)(L:List bN)(w:Wd)(H:pr s L w):Ct ae 55 [.agg ((wE s L w).map .t)] (.agg ((wE s L (Of s w)).map .t)) [] false:=by
 have ga:=H.all;have hso:=H.so;have hz:(s.aa.zip w.all).length=w.all.length:=by rw[List.length_zip,ga,Nat.min_self]
 refine cT Tryz.func55 rfl (by kernel_rfl) rfl fun w0 O _=>aBW [] ?_;refine aBY (fun k:Nat=>⟨[(1,.ptr 0 0),(2,.ptr 128 0),(3,.ptr 384 0),(4,aBZ k)],[(0,(wE s L w).map .t),(128,List.replicate 24 .bot),(384,((wE s L w).map .t).set 19 (.row 9000 0))],[(9000,⟨138,17,0,(((s.aa.zip w.all).take k).map fun p=>jT p.1 p.2).map aG.enc,none⟩)],10000⟩) (fun k=>k<=w.all.length) (fun k=>w.all.length - k) 0 ?_ (aD _) ?_
 ·refine bh [] rfl rfl ?_ ?_ ?_
  ·repeat' first|refine Ai ?_ ?_|exact rfl|exact⟨⟩|exact Ei _ rfl
  ·refine⟨aV _ rfl,?_,?_,trivial⟩
   all_goals repeat' first|refine Ai ?_ ?_|exact rfl|exact⟨⟩|exact Ei _ rfl|refine aj ?_|refine bS ?_
  ·repeat' first|refine Ai ?_ ?_|exact rfl|exact⟨⟩|exact Ei _ rfl
 rintro k hk;refine aBW [9,12] ?_;refine cS (fun h=>?_) (fun h=>?_)
 ·have aS:=cN h;have hko:k < s.aa.length:=by omega
  have fR:∀ t,t=jT s.aa[k] w.all[k]->(((s.aa.zip w.all).take k).map fun p=>jT p.1 p.2).map aG.enc++[t.enc]=(((s.aa.zip w.all).take (k+1)).map fun p=>jT p.1 p.2).map aG.enc:=fun t ht=>by
   rw[ht,bc (by rw[hz];exact aS),aW,aW,List.getElem_zip];rfl
  have kY:((((s.aa.zip w.all).take k).map fun p=>jT p.1 p.2).map aG.enc).length+1<=5000:=by
   rw[Lm,Lm,aB];omega
  refine Ei k (Ei (w.all[k].enc) (Ai rfl (Ai (aQ _ _ k aS) ?_)));refine Ei k (Ei (s.aa[k].enc) (Ai rfl (Ai (aQ _ _ k hko) ?_)));have dD:(((((s.aa.zip w.all).take k).map fun p=>jT p.1 p.2).map aG.enc).length+1)*176<=140737488355328/\((((s.aa.zip w.all).take k).map fun p=>jT p.1 p.2).map aG.enc).length+1 < 140737488355328:=by omega
  refine cS (fun h1=>?_) (fun h1=>?_)
  ·have h1:(s.aa[k].cg==0)=true:=h1;refine Ai rfl (Ai (by decide) ?_);refine Ai rfl (Ai (by decide) ?_);refine cS (fun h2=>?_) (fun h2=>?_)
   ·have h2:WA w.all[k].line.types=true:=h2
    (try refine aBW [] ?_)
    refine cF (Qr s.aa[k].cL s.aa[k].cK s.aa[k].dh) ⟨fL [iv s.aa[k].cL,iv s.aa[k].cK,iv s.aa[k].dh],trivial⟩ ?_;refine cF (j8 w.all[k].cV (pM s.aa[k].cL s.aa[k].cK)) ⟨rfl,rfl,trivial⟩ ?_;refine cF (j8 w.all[k].cU (pM s.aa[k].cL s.aa[k].cK)) ⟨rfl,rfl,trivial⟩ ?_
    (try refine aBW [] ?_)
    refine Ai (.inl rfl) (Ai dD.1 (Ai dD.2 ?_));refine Ei (k+1) (Ai (show k+1<=_ by omega) (Ai (show w.all.length - (k+1) < w.all.length - k by omega) ?_));refine bh [(9000,9000)] rfl rfl ?_ ?_ ?_
    ·repeat' first|refine Ai ?_ ?_|exact rfl|exact⟨⟩|exact Ei _ rfl|refine aj ?_|refine bS ?_
     exact ed k aS 176 (by decide) H.ha
    ·refine⟨aV _ rfl,?_,?_,trivial⟩
     all_goals repeat' first|refine Ai ?_ ?_|exact rfl|exact⟨⟩|exact Ei _ rfl|refine aj ?_|refine bS ?_
    ·repeat' first|refine Ai ?_ ?_|exact rfl|exact⟨⟩|exact Ei _ rfl|refine aj ?_|refine bS ?_
     exact fR { w.all[k] with cV:=ff w.all[k].cV (pM s.aa[k].cL s.aa[k].cK),cU:=ff w.all[k].cU (pM s.aa[k].cL s.aa[k].cK) } (by unfold jT;rw[h1,h2];rfl)
   ·have h2:WA w.all[k].line.types=false:=h2
    (try refine aBW [] ?_)
    (try refine aBW [] ?_)
    refine Ai (.inl rfl) (Ai dD.1 (Ai dD.2 ?_));refine Ei (k+1) (Ai (show k+1<=_ by omega) (Ai (show w.all.length - (k+1) < w.all.length - k by omega) ?_));refine bh [(9000,9000)] rfl rfl ?_ ?_ ?_
    ·repeat' first|refine Ai ?_ ?_|exact rfl|exact⟨⟩|exact Ei _ rfl|refine aj ?_|refine bS ?_
     exact ed k aS 176 (by decide) H.ha
    ·refine⟨aV _ rfl,?_,?_,trivial⟩
     all_goals repeat' first|refine Ai ?_ ?_|exact rfl|exact⟨⟩|exact Ei _ rfl|refine aj ?_|refine bS ?_
    ·repeat' first|refine Ai ?_ ?_|exact rfl|exact⟨⟩|exact Ei _ rfl|refine aj ?_|refine bS ?_
     exact fR w.all[k] (by unfold jT;rw[h1,h2];rfl)
  ·have h1:(s.aa[k].cg==0)=false:=h1
   (try refine aBW [] ?_)
   (try refine aBW [] ?_)
   refine Ai (.inl rfl) (Ai dD.1 (Ai dD.2 ?_));refine Ei (k+1) (Ai (show k+1<=_ by omega) (Ai (show w.all.length - (k+1) < w.all.length - k by omega) ?_));refine bh [(9000,9000)] rfl rfl ?_ ?_ ?_
   ·repeat' first|refine Ai ?_ ?_|exact rfl|exact⟨⟩|exact Ei _ rfl|refine aj ?_|refine bS ?_
    exact ed k aS 176 (by decide) H.ha
   ·refine⟨aV _ rfl,?_,?_,trivial⟩
    all_goals repeat' first|refine Ai ?_ ?_|exact rfl|exact⟨⟩|exact Ei _ rfl|refine aj ?_|refine bS ?_
   ·repeat' first|refine Ai ?_ ?_|exact rfl|exact⟨⟩|exact Ei _ rfl|refine aj ?_|refine bS ?_
    exact fR w.all[k] (by unfold jT;rw[h1];rfl)
 ·have fS:=cP h hk;subst fS;refine Ei [] ?_
  repeat' first|refine Ai ?_ ?_|exact rfl|exact⟨⟩|exact Ei _ rfl
  rw[<- hz,bm];exact rfl
def tR (r:List Bool):List Tr:=[.sl 1 (r.map tB)]
def X3 (R:List (List Bool))(i:Int):List Bool:=(R[i.toNat]?).getD []
def gH (R:List (List Bool))(i j:Int):Bool:=Sr (X3 R i) j.toNat
def Ec (l:List Int)(i:Int):Int:=(l[i.toNat]?).getD 0
theorem NF (l:List Int)(n:Int)(hl:l.length*8<=ba):Ct ae 221 [.c (.t (.sl 1 (l.map eI))),.c (.t (iv n))] (aB0 (decide (n∈l))) [] true:=by
 refine aB4 (b:=false) ?_ rfl;generalize hM:decide (n∈l)=M;refine cT Tryz.func221 rfl (by kernel_rfl) rfl fun w0 O _=>aBW [] ?_;refine aBY (fun k:Nat=>⟨[(0,.c (.t (.sl 1 (l.map eI)))),(1,.c (.t (iv n))),(5,aBZ k)],[],[],10000⟩) (fun k=>k<=l.length/\∀ j (h:j < l.length),j < k->(l[j]==n)=false) (fun k=>l.length - k) 0 ?_ ⟨aD _,fun j _ hj=>absurd hj (Nat.not_lt_zero j)⟩ ?_
 ·refine bh [] rfl rfl ?_ ?_ ?_
  all_goals repeat' first|refine Ai ?_ ?_|exact rfl|exact⟨⟩|exact Ei _ rfl
 rintro k ⟨hk,eZ⟩;refine aBW [] ?_;refine cS (fun h=>?_) (fun h=>?_)
 ·have aS:=cN h;refine Ei k (Ei (eI l[k]) (Ai rfl (Ai (aQ _ _ k aS) ?_)));refine cS (fun h=>?_) (fun h=>?_)
  ·have qq:M=true:=by
    rw[<- hM];have h:(l[k]==n)=true:=h;have h:l[k]=n:=by simpa using h
    exact decide_eq_true (h▸aI aS)
   subst qq;refine Ei [] ?_
   repeat' first|refine Ai ?_ ?_|exact rfl|exact⟨⟩|exact Ei _ rfl
  ·refine Ei (k+1) (Ai ⟨by omega,fun j hj Af=>?_⟩ (Ai (show l.length - (k+1) < l.length - k by omega) ?_))
   ·by_cases e:j=k
    ·subst e;exact h
    ·exact eZ j hj (by omega)
   refine bh [] rfl rfl ?_ ?_ ?_
   ·repeat' first|refine Ai ?_ ?_|exact rfl|exact⟨⟩|exact Ei _ rfl
    exact ed k aS 8 (by decide) hl
   all_goals repeat' first|refine Ai ?_ ?_|exact rfl|exact⟨⟩|exact Ei _ rfl|refine aj ?_|refine bS ?_
 ·have fS:=cP h hk
  have qq:M=false:=by
   rw[<- hM];refine decide_eq_false fun hm=>?_;obtain⟨j,hj,e⟩:=bB.1 hm;have:=eZ j hj (by omega);rw[e] at this;simp at this
  subst qq;refine Ei [] ?_
  repeat' first|refine Ai ?_ ?_|exact rfl|exact⟨⟩|exact Ei _ rfl
theorem toNat_lt {i:Int}{α:Type}{β:Type}{f:α->β}{l:List α}(h0:0<=i)(h:decide (i < (((l.map f).length:Nat):Int))=true):i.toNat < l.length:=by
 have:=of_decide_eq_true h;rw[Lm] at this;omega
theorem toNat_ge {i:Int}{α:Type}{β:Type}{f:α->β}{l:List α}(h:decide (i < (((l.map f).length:Nat):Int))=false):l.length<=i.toNat:=by
 have:=of_decide_eq_false h;rw[Lm] at this;omega
theorem y9 (l:List Int)(i:Int)(h0:0<=i):Ct ae 174 [.c (.t (.sl 1 (l.map eI))),.c (.t (iv i))] (aBZ (Ec l i)) [] true:=by
 refine aB4 (b:=false) ?_ rfl;generalize hM:Ec l i=M;unfold Ec at hM;refine cT Tryz.func174 rfl (by kernel_rfl) rfl fun w0 O _=>aBW [] ?_;refine cS (fun h=>?_) (fun h=>?_)
 ·have aS:=toNat_lt h0 h;rw[cD aS] at hM;have hM:l[i.toNat]=M:=hM;subst hM;refine Ei i.toNat (Ei (eI l[i.toNat]) (Ai (Int.toNat_of_nonneg h0).symm (Ai (aQ _ _ _ aS) ?_)));refine Ei [] ?_
  repeat' first|refine Ai ?_ ?_|exact rfl|exact⟨⟩|exact Ei _ rfl
 ·have uj:=toNat_ge h;rw[dy uj] at hM;have hM:0=M:=hM;subst hM;refine Ei [] ?_
  repeat' first|refine Ai ?_ ?_|exact rfl|exact⟨⟩|exact Ei _ rfl
theorem EU (R:List (List Bool))(i j:Int)(h0:0<=i)(h1:0<=j):Ct ae 220 [.c (.t (.sl 1 (R.map tR))),.c (.t (iv i)),.c (.t (iv j))] (aB0 (gH R i j)) [] true:=by
 refine aB4 (b:=false) ?_ rfl;generalize hM:gH R i j=M;unfold gH X3 at hM;refine cT Tryz.func220 rfl (by kernel_rfl) rfl fun w0 O _=>aBW [] ?_;refine cS (fun h=>?_) (fun h=>?_)
 ·have aS:=toNat_lt h0 h;rw[cD aS] at hM;have hM:Sr R[i.toNat] j.toNat=M:=hM;refine Ei i.toNat (Ei (tR R[i.toNat]) (Ai (Int.toNat_of_nonneg h0).symm (Ai (aQ _ _ _ aS) ?_)));refine cS (fun h=>?_) (fun h=>?_)
  ·have VK:=toNat_lt h1 h;rw[AM VK] at hM;subst hM;refine Ei i.toNat (Ei (tR R[i.toNat]) (Ai (Int.toNat_of_nonneg h0).symm (Ai (aQ _ _ _ aS) ?_)));refine Ei j.toNat (Ei (tB (R[i.toNat])[j.toNat]) (Ai (Int.toNat_of_nonneg h1).symm (Ai (aQ _ _ _ VK) ?_)));refine Ei [] ?_
   repeat' first|refine Ai ?_ ?_|exact rfl|exact⟨⟩|exact Ei _ rfl
  ·have uj:=toNat_ge h;unfold Sr at hM;rw[dy uj] at hM;have hM:false=M:=hM;subst hM;refine Ei [] ?_
   repeat' first|refine Ai ?_ ?_|exact rfl|exact⟨⟩|exact Ei _ rfl
 ·have uj:=toNat_ge h;rw[dy uj] at hM;have hM:false=M:=hM;subst hM;refine Ei [] ?_
  repeat' first|refine Ai ?_ ?_|exact rfl|exact⟨⟩|exact Ei _ rfl
def iq (l:List Int):List Int:=l.foldl (fun o x=>if 0<=x/\x∉o then o++[x] else o) []
theorem yF (l:List Int)(k:Nat)(hk:k < l.length):iq (l.take (k+1))=if 0<=l[k]/\l[k]∉iq (l.take k) then iq (l.take k)++[l[k]] else iq (l.take k):=by
 unfold iq;rw[bc hk,List.foldl_append];rfl
theorem H7:∀ (l o:List Int),(l.foldl (fun o x=>if 0<=x/\x∉o then o++[x] else o) o).length<=o.length+l.length
 | [],o=>al _
 | x :: r,o=>by
  rw[List.foldl_cons];refine bd (H7 r _) ?_;split <;> simp <;> omega
theorem wF (l:List Int):(iq l).length<=l.length:=by
 have:=H7 l [];simp only[aw,bu] at this;exact this
theorem FP (l:List Int)(hl:l.length<=1000000):Ct ae 219 [.c (.t (.sl 1 (l.map eI)))] (.c (.t (.sl 1 ((iq l).map eI)))) [] false:=by
 have ui:l.length*8<=ba:=Cd (by omega);refine cT Tryz.func219 rfl (by kernel_rfl) rfl fun w0 O _=>aBW [] ?_;refine aBY (fun k:Nat=>⟨[(0,.c (.t (.sl 1 (l.map eI)))),(3,.c (.row 9000 0)),(4,aBZ k)],[],[(9000,⟨3,1,0,(iq (l.take k)).map eI,none⟩)],10000⟩) (fun k=>k<=l.length) (fun k=>l.length - k) 0 ?_ (aD _) ?_
 ·refine bh [] rfl rfl ?_ ?_ ?_
  all_goals repeat' first|refine Ai ?_ ?_|exact rfl|exact⟨⟩|exact Ei _ rfl
 rintro k hk;refine aBW [] ?_;refine cS (fun h=>?_) (fun h=>?_)
 ·have aS:=cN h;have si:=wF (l.take k);rw[aB] at si;have fR:=yF l k aS;have kY:((iq (l.take k)).map eI).length+1<=2000000:=by rw[Lm];omega
  have NO:¬ (0<=l[k]/\l[k]∉iq (l.take k))->(iq (l.take k)).map eI=(iq (l.take (k+1))).map eI:=fun h=>by rw[fR,if_neg h]
  refine Ei k (Ei (eI l[k]) (Ai rfl (Ai (aQ _ _ k aS) ?_)));refine cS (fun h1=>?_) (fun h1=>?_)
  ·have h1:0<=l[k]:=of_decide_eq_true h1;refine Ei k (Ei (eI l[k]) (Ai rfl (Ai (aQ _ _ k aS) ?_)));refine cF (NF (iq (l.take k)) l[k] (by unfold ba;omega)) ⟨?_,rfl,trivial⟩ ?_
   ·repeat' first|refine Ai ?_ ?_|exact rfl|exact⟨⟩|exact Ei _ rfl|refine aj ?_|refine bS ?_
   refine cy (cS (fun h2=>?_) (fun h2=>?_))
   ·have h2:l[k]∈iq (l.take k):=of_decide_eq_true h2
    (try refine aBW [] ?_)
    refine Ei (k+1) (Ai (show k+1<=_ by omega) (Ai (show l.length - (k+1) < l.length - k by omega) ?_));refine bh [(9000,9000)] rfl rfl ?_ ?_ ?_
    all_goals repeat' first|refine Ai ?_ ?_|exact rfl|exact⟨⟩|exact Ei _ rfl|refine aj ?_|refine bS ?_
    exact ed k aS 8 (by decide) ui;exact NO fun h=>h.2 h2
   ·have h2:l[k]∉iq (l.take k):=of_decide_eq_false h2;rw[if_pos ⟨h1,h2⟩] at fR
    (try refine aBW [] ?_)
    refine Ei k (Ei (eI l[k]) (Ai rfl (Ai (aQ _ _ k aS) ?_)));refine Ai (.inl rfl) (Ai (show(((iq (l.take k)).map eI).length+1)*8<=140737488355328 by omega) (Ai (show((iq (l.take k)).map eI).length+1 < 140737488355328 by omega) ?_));refine Ei (k+1) (Ai (show k+1<=_ by omega) (Ai (show l.length - (k+1) < l.length - k by omega) ?_));refine bh [(9000,9000)] rfl rfl ?_ ?_ ?_
    all_goals repeat' first|refine Ai ?_ ?_|exact rfl|exact⟨⟩|exact Ei _ rfl|refine aj ?_|refine bS ?_
    exact ed k aS 8 (by decide) ui;exact(lZ _ _).trans (congrArg (List.map eI) fR.symm)
  ·have h1:¬ 0<=l[k]:=of_decide_eq_false h1
   (try refine aBW [] ?_)
   refine Ei (k+1) (Ai (show k+1<=_ by omega) (Ai (show l.length - (k+1) < l.length - k by omega) ?_));refine bh [(9000,9000)] rfl rfl ?_ ?_ ?_
   all_goals repeat' first|refine Ai ?_ ?_|exact rfl|exact⟨⟩|exact Ei _ rfl|refine aj ?_|refine bS ?_
   exact ed k aS 8 (by decide) ui;exact NO fun h=>h1 h.1
 ·have fS:=cP h hk;subst fS;refine Ei [] ?_
  repeat' first|refine Ai ?_ ?_|exact rfl|exact⟨⟩|exact Ei _ rfl
  rw[bm];exact rfl
theorem rS:∀ {o l:List Int},o.Nodup->(∀ x∈o,x∈l)->o.length<=l.length
 | [],_,_,_=>aD _
 | x :: o,l,h,hs=>by
  obtain⟨h1,h2⟩:=List.nodup_cons.1 h;have hx:=hs x aC;have h3:∀ y∈o,y∈l.erase x:=fun y hy=>(List.mem_erase_of_ne (fun e=>h1 (by rw[<- e];exact hy))).2 (hs y (aK _ hy));have:=rS h2 h3;rw[List.length_erase_of_mem hx] at this;have:0 < l.length:=List.length_pos_of_mem hx;rw[aq];omega
def xd (R:List (List Bool))(x:Int)(o:List Int)(y:Int):List Int:=if gH R x y=true/\y∉o then o++[y] else o
def WO (R:List (List Bool))(x:Int)(l o:List Int):List Int:=l.foldl (xd R x) o
def me (R:List (List Bool))(l:List Int):Nat->Nat->List Int->List Int
 | 0,_,o=>o
 | f+1,n,o=>match o[n]? with
  | some x=>me R l f (n+1) (WO R x l o)
  | none=>o
def kU (R:List (List Bool))(l:List Int)(i:Int):List Int:=me R l l.length 0 (l.filter fun y=>gH R i y)
theorem LJ {R:List (List Bool)}{l:List Int}{n:Nat}{o:List Int}(h:o[n]? = none):∀ f,me R l f n o=o
 | 0=>rfl
 | f+1=>by
  rw[me,h]
structure DW (l o:List Int):Prop where
 nd:o.Nodup
 sb:∀ x∈o,x∈l
theorem DW.len {l o:List Int}(h:DW l o):o.length<=l.length:=rS h.nd h.sb
theorem DW.add {l o:List Int}{R:List (List Bool)}{x y:Int}(h:DW l o)(hy:y∈l):DW l (xd R x o y):=by
 unfold xd;split
 ·rename_i hc;refine⟨List.nodup_append.2 ⟨h.nd,List.nodup_cons.2 ⟨List.not_mem_nil,List.nodup_nil⟩,fun a ha b hb=>?_⟩,fun a ha=>?_⟩
  ·rw[aJ.1 hb];exact fun e=>hc.2 (e▸ha)
  ·rcases aX.1 ha with ha|ha
   ·exact h.sb a ha
   ·rw[aJ.1 ha];exact hy
 ·exact h
theorem It {R:List (List Bool)}{x y:Int}{o:List Int}{n:Nat}{z:Int}(h:o[n]? = some z):(xd R x o y)[n]? = some z:=by
 unfold xd;split
 ·rw[bn (an.1 h).1,h]
 ·exact h
theorem AR {R:List (List Bool)}{x:Int}{l:List Int}:∀ {m o:List Int},(∀ y∈m,y∈l)->DW l o->DW l (m.foldl (xd R x) o)
 | [],_,_,h=>h
 | y :: m,o,hm,h=>by
  rw[List.foldl_cons];exact AR (fun z hz=>hm z (aK _ hz)) (h.add (hm y aC))
theorem Ay {R:List (List Bool)}{i:Int}{l:List Int}(h:l.Nodup):DW l (l.filter fun y=>gH R i y):=⟨h.filter _,fun _x hx=>(List.mem_filter.1 hx).1⟩
theorem ve (n:Nat)(h:n<=1000000):Tr.lit (Value.int IntKind.i64 (IntKind.i64.wrap ((n:Int)+1)))=Tr.lit (Value.int IntKind.i64 ((n+1:Nat):Int)):=by
 rw[show IntKind.i64.wrap ((n:Int)+1)=((n+1:Nat):Int) by simp only[ak];omega]
theorem IQ (l:List Int)(R:List (List Bool))(i:Int)(hl:l.length<=1000000)(n9:l.Nodup)(nC:∀ x∈l,0<=x)(hi:0<=i):Ct ae 222 [.c (.t (.sl 1 (l.map eI))),.c (.t (.sl 1 (R.map tR))),.c (.t (iv i))] (.c (.t (.sl 1 ((kU R l i).map eI)))) [] false:=by
 have ui:l.length*8<=ba:=Cd (by omega);generalize hM:kU R l i=M;unfold kU at hM;refine cT Tryz.func222 rfl (by kernel_rfl) rfl fun w0 O _=>aBW [] ?_;refine aBY (fun k:Nat=>⟨[(0,.c (.t (.sl 1 (l.map eI)))),(1,.c (.t (.sl 1 (R.map tR)))),(2,.c (.t (iv i))),(7,.c (.row 9000 0)),(8,aBZ k)],[],[(9000,⟨3,1,0,((l.take k).filter fun y=>gH R i y).map eI,none⟩)],10000⟩) (fun k=>k<=l.length) (fun k=>l.length - k) 0 ?_ (aD _) ?_
 ·refine bh [] rfl rfl ?_ ?_ ?_
  all_goals repeat' first|refine Ai ?_ ?_|exact rfl|exact⟨⟩|exact Ei _ rfl
 rintro k hk;refine aBW [7] ?_;refine cS (fun h=>?_) (fun h=>?_)
 ·have aS:=cN h;have si:=wD (fun y=>gH R i y) l k;have kY:(((l.take k).filter fun y=>gH R i y).map eI).length+1<=2000000:=by rw[Lm];omega
  have fR:(l.take (k+1)).filter (fun y=>gH R i y)=((l.take k).filter fun y=>gH R i y)++(if gH R i l[k]=true then [l[k]] else []):=by
   rw[bc aS,List.filter_append];congr 1
   by_cases hh:gH R i l[k]=true
   ·rw[if_pos hh];simp[hh]
   ·rw[if_neg hh];simp[hh]
  refine Ei k (Ei (eI l[k]) (Ai rfl (Ai (aQ _ _ k aS) ?_)));refine cF (EU R i l[k] hi (nC _ (aI aS))) ⟨rfl,rfl,rfl,trivial⟩ ?_;refine cS (fun h1=>?_) (fun h1=>?_)
  ·rw[if_pos (show gH R i l[k]=true from h1)] at fR
   (try refine aBW [] ?_)
   refine Ei k (Ei (eI l[k]) (Ai rfl (Ai (aQ _ _ k aS) ?_)));refine Ai (.inl rfl) (Ai (show((((l.take k).filter fun y=>gH R i y).map eI).length+1)*8<=140737488355328 by omega) (Ai (show(((l.take k).filter fun y=>gH R i y).map eI).length+1 < 140737488355328 by omega) ?_));refine Ei (k+1) (Ai (show k+1<=_ by omega) (Ai (show l.length - (k+1) < l.length - k by omega) ?_));refine bh [(9000,9000)] rfl rfl ?_ ?_ ?_
   all_goals repeat' first|refine Ai ?_ ?_|exact rfl|exact⟨⟩|exact Ei _ rfl|refine aj ?_|refine bS ?_
   exact ed k aS 8 (by decide) ui;exact(lZ _ _).trans (congrArg (List.map eI) fR.symm)
  ·rw[if_neg (by rw[show gH R i l[k]=false from h1];decide),aZ] at fR
   (try refine aBW [] ?_)
   refine Ei (k+1) (Ai (show k+1<=_ by omega) (Ai (show l.length - (k+1) < l.length - k by omega) ?_));refine bh [(9000,9000)] rfl rfl ?_ ?_ ?_
   all_goals repeat' first|refine Ai ?_ ?_|exact rfl|exact⟨⟩|exact Ei _ rfl|refine aj ?_|refine bS ?_
   exact ed k aS 8 (by decide) ui;exact congrArg (List.map eI) fR.symm
 have fS:=cP h hk;subst fS;clear h hk
 (try refine aBW [] ?_)
 refine aBY (α:=Nat × List Int) (fun x=>⟨[(0,.c (.t (.sl 1 (l.map eI)))),(1,.c (.t (.sl 1 (R.map tR)))),(7,.c (.row 9000 0)),(9,aBZ x.1)],[],[(9000,⟨3,1,0,x.2.map eI,none⟩)],20000⟩) (fun x=>x.1<=x.2.length/\DW l x.2/\me R l (l.length - x.1) x.1 x.2=M) (fun x=>l.length - x.1) (0,l.filter fun y=>gH R i y) ?_ ⟨aD _,Ay n9,hM⟩ ?_
 ·refine bh [(9000,9000)] rfl rfl ?_ ?_ ?_
  all_goals repeat' first|refine Ai ?_ ?_|exact rfl|exact⟨⟩|exact Ei _ rfl|refine aj ?_|refine bS ?_
  rw[bm]
 rintro⟨n,o⟩ ⟨hn,ho,he⟩;have hn:n<=o.length:=hn;have ho:DW l o:=ho;have Ts:=ho.len
 (try refine aBW [] ?_)
 refine cS (fun h=>?_) (fun h=>?_)
 ·have aS:n < o.length:=cN h;have hx:o[n]? = some o[n]:=cD aS;obtain⟨f,hf⟩:∃ f,l.length - n=f+1:=⟨l.length - n - 1,by omega⟩
  have he:me R l (l.length - n) n o=M:=he;rw[hf,me,hx] at he;have he:me R l f (n+1) (WO R o[n] l o)=M:=he;generalize o[n]=x at *
  (try refine aBW [] ?_)
  refine aBY (α:=Nat × List Int) (fun y=>⟨[(0,.c (.t (.sl 1 (l.map eI)))),(1,.c (.t (.sl 1 (R.map tR)))),(7,.c (.row 9000 0)),(9,aBZ n),(10,aBZ y.1)],[],[(9000,⟨3,1,0,y.2.map eI,none⟩)],30000⟩) (fun y=>y.1<=l.length/\DW l y.2/\y.2[n]? = some x/\(l.drop y.1).foldl (xd R x) y.2=WO R x l o) (fun y=>l.length - y.1) (0,o) ?_ ⟨aD _,ho,hx,rfl⟩ ?_
  ·refine bh [(9000,9000)] rfl rfl ?_ ?_ ?_
   all_goals repeat' first|refine Ai ?_ ?_|exact rfl|exact⟨⟩|exact Ei _ rfl|refine aj ?_|refine bS ?_
  rintro⟨k,q⟩ ⟨hk,hq,Tn,heq⟩;have hk:k<=l.length:=hk;have hq:DW l q:=hq;have Tn:q[n]? = some x:=Tn;have hql:=hq.len;have hnq:n < q.length:=(an.1 Tn).1;have hx0:0<=x:=nC x (hq.sb x (aU Tn));have heq:(l.drop k).foldl (xd R x) q=WO R x l o:=heq
  (try refine aBW [] ?_)
  refine cS (fun h=>?_) (fun h=>?_)
  ·have uh:k < l.length:=cN h;have hlm:l[k]∈l:=aI uh;rw[dw uh,List.foldl_cons] at heq;have hqb:(q.map eI).length<=1000000:=by rw[Lm];omega
   have Xe:¬ (gH R x l[k]=true/\l[k]∉q)->xd R x q l[k]=q:=fun h=>by unfold xd;rw[if_neg h]
   have hsy:(gH R x l[k]=true/\l[k]∉q)->xd R x q l[k]=q++[l[k]]:=fun h=>by unfold xd;rw[if_pos h]
   refine Ei n (Ai rfl (Ai (by rw[Lm];exact hnq) ?_));refine Ei (eI x) (Ei _ (Ai (by rw[bp,Tn];rfl) (Ai rfl ?_)));refine Ei k (Ei (eI l[k]) (Ai rfl (Ai (aQ _ _ k uh) ?_)));refine cF (EU R x l[k] hx0 (nC _ hlm)) ⟨rfl,rfl,rfl,trivial⟩ ?_;refine cS (fun h1=>?_) (fun h1=>?_)
   ·have h1:gH R x l[k]=true:=h1;refine Ei k (Ei (eI l[k]) (Ai rfl (Ai (aQ _ _ k uh) ?_)));refine cF (NF q l[k] (by unfold ba;omega)) ⟨?_,rfl,trivial⟩ ?_
    ·repeat' first|refine Ai ?_ ?_|exact rfl|exact⟨⟩|exact Ei _ rfl|refine aj ?_|refine bS ?_
    refine cy (cS (fun h2=>?_) (fun h2=>?_))
    ·have h2:l[k]∈q:=of_decide_eq_true h2
     (try refine aBW [] ?_)
     refine Ei (k+1,q) (Ai ⟨show k+1<=_ by omega,hq,Tn,(by rw[Xe (fun h=>h.2 h2)] at heq;exact heq)⟩ (Ai (show l.length - (k+1) < l.length - k by omega) ?_));refine bh [(9000,9000)] rfl rfl ?_ ?_ ?_
     ·repeat' first|refine Ai ?_ ?_|exact rfl|exact⟨⟩|exact Ei _ rfl|refine aj ?_|refine bS ?_
      exact ed k uh 8 (by decide) ui
     all_goals repeat' first|refine Ai ?_ ?_|exact rfl|exact⟨⟩|exact Ei _ rfl|refine aj ?_|refine bS ?_
    ·have h2:l[k]∉q:=of_decide_eq_false h2
     (try refine aBW [] ?_)
     refine Ei k (Ei (eI l[k]) (Ai rfl (Ai (aQ _ _ k uh) ?_)));refine Ai (.inl rfl) (Ai (show((q.map eI).length+1)*8<=140737488355328 by omega) (Ai (show(q.map eI).length+1 < 140737488355328 by omega) ?_));refine Ei (k+1,q++[l[k]]) (Ai ⟨show k+1<=_ by omega,(by have:=hq.add (R:=R) (x:=x) hlm;rw[hsy ⟨h1,h2⟩] at this;exact this),(by have:=It (R:=R) (x:=x) (y:=l[k]) Tn;rw[hsy ⟨h1,h2⟩] at this;exact this),(by rw[hsy ⟨h1,h2⟩] at heq;exact heq)⟩ (Ai (show l.length - (k+1) < l.length - k by omega) ?_));refine bh [(9000,9000)] rfl rfl ?_ ?_ ?_
     all_goals repeat' first|refine Ai ?_ ?_|exact rfl|exact⟨⟩|exact Ei _ rfl|refine aj ?_|refine bS ?_
     exact ed k uh 8 (by decide) ui;exact lZ _ _
   ·have h1:gH R x l[k]=false:=h1
    (try refine aBW [] ?_)
    refine Ei (k+1,q) (Ai ⟨show k+1<=_ by omega,hq,Tn,(by rw[Xe (fun h=>by rw[h1] at h;cases h.1)] at heq;exact heq)⟩ (Ai (show l.length - (k+1) < l.length - k by omega) ?_));refine bh [(9000,9000)] rfl rfl ?_ ?_ ?_
    ·repeat' first|refine Ai ?_ ?_|exact rfl|exact⟨⟩|exact Ei _ rfl|refine aj ?_|refine bS ?_
     exact ed k uh 8 (by decide) ui
    all_goals repeat' first|refine Ai ?_ ?_|exact rfl|exact⟨⟩|exact Ei _ rfl|refine aj ?_|refine bS ?_
  ·have fS:k=l.length:=cP h hk;rw[fS,List.drop_eq_nil_of_le (al _)] at heq;have heq:q=WO R x l o:=heq;subst heq
   (try refine aBW [] ?_)
   refine Ei (n+1,WO R x l o) (Ai ⟨hnq,hq,(by
    show me R l (l.length - (n+1)) (n+1) (WO R x l o)=M;rw[show l.length - (n+1)=f by omega];exact he)⟩ (Ai (show l.length - (n+1) < l.length - n by omega) ?_))
   refine bh [(9000,9000)] rfl rfl ?_ ?_ ?_
   ·repeat' first|refine Ai ?_ ?_|exact rfl|exact⟨⟩|exact Ei _ rfl|refine aj ?_|refine bS ?_
    exact ve n (by omega)
   all_goals repeat' first|refine Ai ?_ ?_|exact rfl|exact⟨⟩|exact Ei _ rfl|refine aj ?_|refine bS ?_
 ·have uj:n=o.length:=cP h hn;have he:me R l (l.length - n) n o=M:=he;rw[LJ (dy (by omega))] at he;subst he
  (try refine aBW [] ?_)
  refine Ei [] ?_
  repeat' first|refine Ai ?_ ?_|exact rfl|exact⟨⟩|exact Ei _ rfl
def lN (l:List Int)(k:Nat):Int:=(l[k]?).getD 0
theorem Hf {l:List Int}{k:Nat}(h:k < l.length):lN l k=l[k]:=by
 unfold lN;rw[cD h];rfl
def Wg (R:List (List Bool))(l:List Int)(k n:Nat):Bool:=!(((n:Int) != (k:Int))&&(gH R (lN l k) (lN l n)&&!decide (lN l k∈kU R l (lN l n))))
def OU (R:List (List Bool))(l:List Int)(k:Nat):Bool:=(List.range l.length).all (Wg R l k)
def zp (R:List (List Bool))(l:List Int):List Int:=pa (fun k _=>OU R l k) 0 l
theorem BC {R:List (List Bool)}{l:List Int}:∀ (f n:Nat) (o:List Int),DW l o->DW l (me R l f n o)
 | 0,_,_,h=>h
 | f+1,n,o,h=>by
  unfold me;split
  ·exact BC f _ _ (AR (fun _ h=>h) h)
  ·exact h
theorem BB {R:List (List Bool)}{l:List Int}(i:Int)(h:l.Nodup):DW l (kU R l i):=BC _ _ _ (Ay h)
theorem IS (p:Nat->Bool)(n:Nat):(List.range (n+1)).all p=((List.range n).all p&&p n):=by
 rw[List.range_succ,List.all_append];simp
theorem uL:∀ (m o:List Int),o.Nodup->(∀ x∈o,0<=x)->(m.foldl (fun o x=>if 0<=x/\x∉o then o++[x] else o) o).Nodup/\∀ x∈(m.foldl (fun o x=>if 0<=x/\x∉o then o++[x] else o) o),0<=x/\(x∈o\/x∈m)
 | [],o,h,hp=>⟨h,fun x hx=>⟨hp x hx,.inl hx⟩⟩
 | y :: m,o,h,hp=>by
  rw[List.foldl_cons]
  by_cases hc:0<=y/\y∉o
  ·rw[if_pos hc]
   obtain⟨h1,h2⟩:=uL m (o++[y]) (List.nodup_append.2 ⟨h,List.nodup_cons.2 ⟨List.not_mem_nil,List.nodup_nil⟩,fun a ha b hb=>by
    rw[aJ.1 hb];exact fun e=>hc.2 (by rw[<- e];exact ha)⟩) (fun x hx=>by
    rcases aX.1 hx with hx|hx
    ·exact hp x hx
    ·rw[aJ.1 hx];exact hc.1)
   refine⟨h1,fun x hx=>⟨(h2 x hx).1,?_⟩⟩;rcases(h2 x hx).2 with h|h
   ·rcases aX.1 h with h|h
    ·exact .inl h
    ·rw[aJ.1 h];exact .inr aC
   ·exact .inr (aK _ h)
  ·rw[if_neg hc];obtain⟨h1,h2⟩:=uL m o h hp;exact⟨h1,fun x hx=>⟨(h2 x hx).1,(h2 x hx).2.imp_right (aK _)⟩⟩
theorem N1 (m:List Int):(iq m).Nodup:=(uL m [] List.nodup_nil fun _ h=>by cases h).1
theorem Az (m:List Int):∀ x∈iq m,0<=x/\x∈m:=fun x hx=>by
 obtain⟨h1,h2⟩:=(uL m [] List.nodup_nil fun _ h=>by cases h).2 x hx;exact⟨h1,h2.resolve_left List.not_mem_nil⟩
theorem PI (m:List Int)(R:List (List Bool))(hm:m.length<=1000000):Ct ae 173 [.c (.t (.sl 1 (m.map eI))),.c (.t (.sl 1 (R.map tR)))] (.c (.t (.sl 1 ((zp R (iq m)).map eI)))) [] false:=by
 have O6:=FP m hm;have uG:=wF m;have n9:=N1 m;have nC:∀ x∈iq m,0<=x:=fun x hx=>(Az m x hx).1;generalize iq m=l at *;have hl:l.length<=1000000:=by omega
 have ui:l.length*8<=ba:=Cd (by omega);unfold zp;refine cT Tryz.func173 rfl (by kernel_rfl) rfl fun w0 O _=>aBW [] ?_;refine cR O6 ⟨rfl,trivial⟩ ?_;refine aBY (fun k:Nat=>⟨[(1,.c (.t (.sl 1 (R.map tR)))),(5,.c (.t (.sl 1 (l.map eI)))),(6,.c (.row 9000 0)),(7,aBZ k)],[],[(9000,⟨3,1,0,(pa (fun k _=>OU R l k) 0 (l.take k)).map eI,none⟩)],10000⟩) (fun k=>k<=l.length) (fun k=>l.length - k) 0 ?_ (aD _) ?_
 ·refine bh [] rfl rfl ?_ ?_ ?_
  all_goals repeat' first|refine Ai ?_ ?_|exact rfl|exact⟨⟩|exact Ei _ rfl
 rintro k hk;refine aBW [12] ?_;refine cS (fun h=>?_) (fun h=>?_)
 ·have aS:k < l.length:=cN h;have fR:=vG (fun k _=>OU R l k) l k aS;have si:=vF (fun k _=>OU R l k) l k;have kY:((pa (fun k _=>OU R l k) 0 (l.take k)).map eI).length<=1000000:=by rw[Lm];omega
  generalize pa (fun k _=>OU R l k) 0 (l.take k)=X at *
  (try refine aBW [] ?_)
  refine aBY (α:=Nat × Bool) (fun x=>⟨[(1,.c (.t (.sl 1 (R.map tR)))),(5,.c (.t (.sl 1 (l.map eI)))),(6,.c (.row 9000 0)),(7,aBZ k),(8,aB0 x.2),(9,aBZ x.1)],[],[(9000,⟨3,1,0,X.map eI,none⟩)],20000⟩) (fun x=>x.1<=l.length/\x.2=(List.range x.1).all (Wg R l k)) (fun x=>l.length - x.1) (0,true) ?_ ⟨aD _,rfl⟩ ?_
  ·refine bh [(9000,9000)] rfl rfl ?_ ?_ ?_
   all_goals repeat' first|refine Ai ?_ ?_|exact rfl|exact⟨⟩|exact Ei _ rfl|refine aj ?_|refine bS ?_
  rintro⟨n,b⟩ ⟨hn,hb⟩;have hn:n<=l.length:=hn;have hb:b=(List.range n).all (Wg R l k):=hb
  (try refine aBW [] ?_)
  refine cS (fun h=>?_) (fun h=>?_)
  ·have px:n < l.length:=cN h;have O3:=IS (Wg R l k) n;rw[<- hb] at O3
   have hg:Wg R l k n=!(((n:Int) != (k:Int))&&(gH R l[k] l[n]&&!decide (l[k]∈kU R l l[n]))):=by
    unfold Wg;rw[Hf aS,Hf px]
   rw[hg] at O3;refine cS (fun h1=>?_) (fun h1=>?_)
   ·have h1:((n:Int) != (k:Int))=true:=h1;refine Ei k (Ei (eI l[k]) (Ai rfl (Ai (aQ _ _ k aS) ?_)));refine Ei n (Ei (eI l[n]) (Ai rfl (Ai (aQ _ _ n px) ?_)));refine cF (EU R l[k] l[n] (nC _ (aI aS)) (nC _ (aI px))) ⟨rfl,rfl,rfl,trivial⟩ ?_;refine cS (fun h2=>?_) (fun h2=>?_)
    ·have h2:gH R l[k] l[n]=true:=h2;refine Ei n (Ei (eI l[n]) (Ai rfl (Ai (aQ _ _ n px) ?_)));refine cR (IQ l R l[n] hl n9 nC (nC _ (aI px))) ⟨rfl,rfl,rfl,trivial⟩ ?_;refine Ei k (Ei (eI l[k]) (Ai rfl (Ai (aQ _ _ k aS) ?_)));refine cF (NF (kU R l l[n]) l[k] (by have:=(BB (R:=R) l[n] n9).len;unfold ba;omega)) ⟨rfl,rfl,trivial⟩ ?_;refine cy (cS (fun h3=>?_) (fun h3=>?_))
     ·rw[h1,h2,show decide (l[k]∈kU R l l[n])=true from h3,Bool.not_true,Bool.and_false,Bool.and_false,Bool.not_false,Bool.and_true] at O3
      (try refine aBW [] ?_)
      refine Ei (n+1,b) (Ai ⟨show n+1<=_ by omega,O3.symm⟩ (Ai (show l.length - (n+1) < l.length - n by omega) ?_));refine bh [(9000,9000)] rfl rfl ?_ ?_ ?_
      ·repeat' first|refine Ai ?_ ?_|exact rfl|exact⟨⟩|exact Ei _ rfl|refine aj ?_|refine bS ?_
       exact ed n px 8 (by decide) ui
      all_goals repeat' first|refine Ai ?_ ?_|exact rfl|exact⟨⟩|exact Ei _ rfl|refine aj ?_|refine bS ?_
     ·rw[h1,h2,show decide (l[k]∈kU R l l[n])=false from h3,Bool.not_false,Bool.and_true,Bool.and_true,Bool.not_true,Bool.and_false] at O3
      (try refine aBW [] ?_)
      refine Ei (n+1,false) (Ai ⟨show n+1<=_ by omega,O3.symm⟩ (Ai (show l.length - (n+1) < l.length - n by omega) ?_));refine bh [(9000,9000)] rfl rfl ?_ ?_ ?_
      ·repeat' first|refine Ai ?_ ?_|exact rfl|exact⟨⟩|exact Ei _ rfl|refine aj ?_|refine bS ?_
       exact ed n px 8 (by decide) ui
      all_goals repeat' first|refine Ai ?_ ?_|exact rfl|exact⟨⟩|exact Ei _ rfl|refine aj ?_|refine bS ?_
    ·rw[h1,show gH R l[k] l[n]=false from h2,Bool.false_and,Bool.and_false,Bool.not_false,Bool.and_true] at O3
     (try refine aBW [] ?_)
     refine Ei (n+1,b) (Ai ⟨show n+1<=_ by omega,O3.symm⟩ (Ai (show l.length - (n+1) < l.length - n by omega) ?_));refine bh [(9000,9000)] rfl rfl ?_ ?_ ?_
     ·repeat' first|refine Ai ?_ ?_|exact rfl|exact⟨⟩|exact Ei _ rfl|refine aj ?_|refine bS ?_
      exact ed n px 8 (by decide) ui
     all_goals repeat' first|refine Ai ?_ ?_|exact rfl|exact⟨⟩|exact Ei _ rfl|refine aj ?_|refine bS ?_
   ·rw[show((n:Int) != (k:Int))=false from h1,Bool.false_and,Bool.not_false,Bool.and_true] at O3
    (try refine aBW [] ?_)
    refine Ei (n+1,b) (Ai ⟨show n+1<=_ by omega,O3.symm⟩ (Ai (show l.length - (n+1) < l.length - n by omega) ?_));refine bh [(9000,9000)] rfl rfl ?_ ?_ ?_
    ·repeat' first|refine Ai ?_ ?_|exact rfl|exact⟨⟩|exact Ei _ rfl|refine aj ?_|refine bS ?_
     exact ed n px 8 (by decide) ui
    all_goals repeat' first|refine Ai ?_ ?_|exact rfl|exact⟨⟩|exact Ei _ rfl|refine aj ?_|refine bS ?_
  ·have Ae:n=l.length:=cP h hn;rw[Ae] at hb;have hb:b=OU R l k:=hb;rw[<- hb] at fR
   (try refine aBW [] ?_)
   refine cS (fun h1=>?_) (fun h1=>?_)
   ·rw[if_pos (show b=true from h1)] at fR
    (try refine aBW [] ?_)
    refine Ei k (Ei (eI l[k]) (Ai rfl (Ai (aQ _ _ k aS) ?_)));refine Ai (.inl rfl) (Ai (show((X.map eI).length+1)*8<=140737488355328 by omega) (Ai (show(X.map eI).length+1 < 140737488355328 by omega) ?_))
    (try refine aBW [] ?_)
    refine Ei (k+1) (Ai (show k+1<=_ by omega) (Ai (show l.length - (k+1) < l.length - k by omega) ?_));refine bh [(9000,9000)] rfl rfl ?_ ?_ ?_
    all_goals repeat' first|refine Ai ?_ ?_|exact rfl|exact⟨⟩|exact Ei _ rfl|refine aj ?_|refine bS ?_
    exact ed k aS 8 (by decide) ui;exact(lZ _ _).trans (congrArg (List.map eI) fR.symm)
   ·rw[if_neg (by rw[show b=false from h1];decide),aZ] at fR
    (try refine aBW [] ?_)
    refine Ei (k+1) (Ai (show k+1<=_ by omega) (Ai (show l.length - (k+1) < l.length - k by omega) ?_));refine bh [(9000,9000)] rfl rfl ?_ ?_ ?_
    all_goals repeat' first|refine Ai ?_ ?_|exact rfl|exact⟨⟩|exact Ei _ rfl|refine aj ?_|refine bS ?_
    exact ed k aS 8 (by decide) ui;exact congrArg (List.map eI) fR.symm
 ·have fS:=cP h hk;subst fS;refine Ei [] ?_
  repeat' first|refine Ai ?_ ?_|exact rfl|exact⟨⟩|exact Ei _ rfl
  rw[bm];exact rfl
def wW (S:List Int)(Oo x:Int):Int:=if (decide (Oo < 0)||(decide (Ec S x < Ec S Oo)||(Ec S x==Ec S Oo&&decide (x < Oo))))=true then x else Oo
def EP (S:List Int)(l:List Int):Int:=l.foldl (wW S) (-1)
theorem zF {α:Type}(p:Nat->α->Bool):∀ (l:List α) (k:Nat),∀ x∈pa p k l,x∈l
 | [],_,_,h=>h
 | y :: r,k,x,h=>by
  rcases aX.1 h with h|h
  ·split at h
   ·rw[aJ.1 h];exact aC
   ·cases h
  ·exact aK _ (zF p r (k+1) x h)
theorem U9 (m S:List Int)(R:List (List Bool))(hm:m.length<=1000000):Ct ae 115 [.c (.t (.sl 1 (m.map eI))),.c (.t (.sl 1 (S.map eI))),.c (.t (.sl 1 (R.map tR)))] (aBZ (EP S (zp R (iq m)))) [] true:=by
 refine aB4 (b:=false) ?_ rfl;have hrd:=PI m R hm;have nC:∀ x∈zp R (iq m),0<=x:=fun x hx=>(Az m x (zF _ _ _ x hx)).1;have uG:(zp R (iq m)).length<=1000000:=bd (uB _ _ _) (bd (wF m) hm);generalize zp R (iq m)=l at *;have ui:l.length*8<=ba:=Cd (by omega);generalize hM:EP S l=M;unfold EP at hM;refine cT Tryz.func115 rfl (by kernel_rfl) rfl fun w0 O _=>aBW [] ?_;refine cR hrd ⟨rfl,rfl,trivial⟩ ?_;refine aBY (α:=Nat × Int) (fun x=>⟨[(1,.c (.t (.sl 1 (S.map eI)))),(7,.c (.t (.sl 1 (l.map eI)))),(8,aBZ x.2),(9,aBZ x.1)],[],[],10000⟩) (fun x=>x.1<=l.length/\(l.drop x.1).foldl (wW S) x.2=M) (fun x=>l.length - x.1) (0,-1) ?_ ⟨aD _,hM⟩ ?_
 ·refine bh [] rfl rfl ?_ ?_ ?_
  all_goals repeat' first|refine Ai ?_ ?_|exact rfl|exact⟨⟩|exact Ei _ rfl
 rintro⟨k,b⟩ ⟨hk,hb⟩;have hk:k<=l.length:=hk;have hb:(l.drop k).foldl (wW S) b=M:=hb;refine aBW [] ?_;refine cS (fun h=>?_) (fun h=>?_)
 ·have aS:k < l.length:=cN h;rw[dw aS,List.foldl_cons] at hb;have h0:=nC _ (aI aS);unfold wW at hb;refine Ei k (Ei (eI l[k]) (Ai rfl (Ai (aQ _ _ k aS) ?_)));refine cF (y9 S l[k] h0) ⟨rfl,rfl,trivial⟩ ?_;refine cS (fun h1=>?_) (fun h1=>?_)
  ·rw[h1,Bool.true_or,if_pos rfl] at hb
   (try refine aBW [] ?_)
   refine Ei k (Ei (eI l[k]) (Ai rfl (Ai (aQ _ _ k aS) ?_)))
   (try refine aBW [] ?_)
   refine Ei (k+1,l[k]) (Ai ⟨show k+1<=_ by omega,hb⟩ (Ai (show l.length - (k+1) < l.length - k by omega) ?_));refine bh [] rfl rfl ?_ ?_ ?_
   ·repeat' first|refine Ai ?_ ?_|exact rfl|exact⟨⟩|exact Ei _ rfl
    exact ed k aS 8 (by decide) ui
   all_goals repeat' first|refine Ai ?_ ?_|exact rfl|exact⟨⟩|exact Ei _ rfl|refine aj ?_|refine bS ?_
  ·have hbp:0<=b:=by
    have:=of_decide_eq_false h1;omega
   rw[h1,Bool.false_or] at hb;refine cF (y9 S b hbp) ⟨rfl,rfl,trivial⟩ ?_;refine cS (fun h2=>?_) (fun h2=>?_)
   ·rw[h2,Bool.true_or,if_pos rfl] at hb
    (try refine aBW [] ?_)
    refine Ei k (Ei (eI l[k]) (Ai rfl (Ai (aQ _ _ k aS) ?_)))
    (try refine aBW [] ?_)
    refine Ei (k+1,l[k]) (Ai ⟨show k+1<=_ by omega,hb⟩ (Ai (show l.length - (k+1) < l.length - k by omega) ?_));refine bh [] rfl rfl ?_ ?_ ?_
    ·repeat' first|refine Ai ?_ ?_|exact rfl|exact⟨⟩|exact Ei _ rfl
     exact ed k aS 8 (by decide) ui
    all_goals repeat' first|refine Ai ?_ ?_|exact rfl|exact⟨⟩|exact Ei _ rfl|refine aj ?_|refine bS ?_
   ·rw[h2,Bool.false_or] at hb;refine cF (y9 S b hbp) ⟨rfl,rfl,trivial⟩ ?_;refine cS (fun h3=>?_) (fun h3=>?_)
    ·rw[h3,Bool.true_and] at hb;refine Ei k (Ei (eI l[k]) (Ai rfl (Ai (aQ _ _ k aS) ?_)));refine cS (fun h4=>?_) (fun h4=>?_)
     ·rw[h4,if_pos rfl] at hb
      (try refine aBW [] ?_)
      refine Ei k (Ei (eI l[k]) (Ai rfl (Ai (aQ _ _ k aS) ?_)))
      (try refine aBW [] ?_)
      refine Ei (k+1,l[k]) (Ai ⟨show k+1<=_ by omega,hb⟩ (Ai (show l.length - (k+1) < l.length - k by omega) ?_));refine bh [] rfl rfl ?_ ?_ ?_
      ·repeat' first|refine Ai ?_ ?_|exact rfl|exact⟨⟩|exact Ei _ rfl
       exact ed k aS 8 (by decide) ui
      all_goals repeat' first|refine Ai ?_ ?_|exact rfl|exact⟨⟩|exact Ei _ rfl|refine aj ?_|refine bS ?_
     ·rw[h4,if_neg (by decide)] at hb
      (try refine aBW [] ?_)
      refine Ei (k+1,b) (Ai ⟨show k+1<=_ by omega,hb⟩ (Ai (show l.length - (k+1) < l.length - k by omega) ?_));refine bh [] rfl rfl ?_ ?_ ?_
      ·repeat' first|refine Ai ?_ ?_|exact rfl|exact⟨⟩|exact Ei _ rfl
       exact ed k aS 8 (by decide) ui
      all_goals repeat' first|refine Ai ?_ ?_|exact rfl|exact⟨⟩|exact Ei _ rfl|refine aj ?_|refine bS ?_
    ·rw[h3,Bool.false_and,if_neg (by decide)] at hb
     (try refine aBW [] ?_)
     refine Ei (k+1,b) (Ai ⟨show k+1<=_ by omega,hb⟩ (Ai (show l.length - (k+1) < l.length - k by omega) ?_));refine bh [] rfl rfl ?_ ?_ ?_
     ·repeat' first|refine Ai ?_ ?_|exact rfl|exact⟨⟩|exact Ei _ rfl
      exact ed k aS 8 (by decide) ui
     all_goals repeat' first|refine Ai ?_ ?_|exact rfl|exact⟨⟩|exact Ei _ rfl|refine aj ?_|refine bS ?_
 ·have fS:k=l.length:=cP h hk;rw[fS,List.drop_eq_nil_of_le (al _)] at hb;have hb:b=M:=hb;subst hb;refine Ei [] ?_
  repeat' first|refine Ai ?_ ?_|exact rfl|exact⟨⟩|exact Ei _ rfl
end
section
open Go Cg
section
variable {R:List (List Bool)}{l:List Int}
theorem SE {x y z:Int}{o:List Int}(h:z∈o):z∈xd R x o y:=by
 unfold xd;split
 ·exact bH _ h
 ·exact h
theorem uO {x z:Int}:∀ (m:List Int) {o:List Int},z∈o->z∈m.foldl (xd R x) o
 | [],_,h=>h
 | y :: m,o,h=>by
  rw[List.foldl_cons];exact uO m (SE h)
theorem Iu {x y:Int}(h:gH R x y=true):∀ (m:List Int) {o:List Int},y∈m->y∈m.foldl (xd R x) o
 | [],_,hm=>by cases hm
 | z :: m,o,hm=>by
  rw[List.foldl_cons];rcases List.mem_cons.1 hm with rfl|hm
  ·refine uO m ?_;unfold xd
   by_cases hy:y∈o
   ·rw[if_neg (fun h=>h.2 hy)];exact hy
   ·rw[if_pos ⟨h,hy⟩];exact bJ _ (aJ.2 rfl)
  ·exact Iu h m hm
theorem AS {x:Int}{n:Nat}{z:Int}:∀ (m:List Int) {o:List Int},o[n]? = some z->(m.foldl (xd R x) o)[n]? = some z
 | [],_,h=>h
 | y :: m,o,h=>by
  rw[List.foldl_cons];exact AS m (It h)
theorem OB {x:Int}{C:Int->Prop}(hC:∀ y∈l,gH R x y=true->C y):∀ (m:List Int) {o:List Int},(∀ y∈m,y∈l)->(∀ z∈o,C z)->∀ z∈m.foldl (xd R x) o,C z
 | [],_,_,h=>h
 | y :: m,o,hm,h=>by
  rw[List.foldl_cons];refine OB hC m (fun z hz=>hm z (aK _ hz)) fun z hz=>?_;unfold xd at hz;split at hz
  ·rename_i hc;rcases aX.1 hz with hz|hz
   ·exact h z hz
   ·rw[aJ.1 hz];exact hC y (hm y aC) hc.1
  ·exact h z hz
theorem BD {z:Int}:∀ (f n:Nat) {o:List Int},z∈o->z∈me R l f n o
 | 0,_,_,h=>h
 | f+1,n,o,h=>by
  unfold me;split
  ·exact BD f _ (uO l h)
  ·exact h
theorem Gz {C:Int->Prop}(hC:∀ x,C x->∀ y∈l,gH R x y=true->C y):∀ (f n:Nat) {o:List Int},(∀ z∈o,C z)->∀ z∈me R l f n o,C z
 | 0,_,_,h=>h
 | f+1,n,o,h=>by
  unfold me;split
  ·rename_i x hx;exact Gz hC f _ (OB (hC x (h x (aU hx))) l (fun _ h=>h) h)
  ·exact h
theorem GA:∀ (f n:Nat) {o:List Int},DW l o->l.length<=f+n->(∀ j x,j < n->o[j]? = some x->∀ y∈l,gH R x y=true->y∈o)->∀ x∈me R l f n o,∀ y∈l,gH R x y=true->y∈me R l f n o
 | 0,n,o,ho,hf,hp=>fun x hx y hy h=>by
  obtain⟨j,hj,rfl⟩:=bB.1 hx;have:=ho.len;exact hp j _ (by have hj:j < o.length:=hj;omega) (cD hj) y hy h
 | f+1,n,o,ho,hf,hp=>by
  unfold me;split
  ·rename_i x hx;refine GA f (n+1) (AR (fun _ h=>h) ho) (by omega) fun j z hj hz y hy h=>?_
   by_cases e:j=n
   ·subst e;have h1:=AS (R:=R) (x:=x) l hx;have hz:(l.foldl (xd R x) o)[j]? = some z:=hz;rw[h1] at hz
    cases hz
    exact Iu h l hy
   ·have hjo:j < o.length:=by
     have:=(an.1 hx).1;omega
    have h1:=AS (R:=R) (x:=x) l (cD hjo);have hz:(l.foldl (xd R x) o)[j]? = some z:=hz;rw[h1] at hz
    cases hz
    exact uO l (hp j _ (by omega) (cD hjo) y hy h)
  ·rename_i hx;intro x KJ y hy h;obtain⟨j,hj,rfl⟩:=bB.1 KJ;have:=List.getElem?_eq_none_iff.1 hx;exact hp j _ (by omega) (cD hj) y hy h
theorem PL {i y:Int}(hy:y∈l)(h:gH R i y=true):y∈kU R l i:=BD _ _ (List.mem_filter.2 ⟨hy,h⟩)
theorem LI (hl:l.Nodup){i x y:Int}(hx:x∈kU R l i)(hy:y∈l)(h:gH R x y=true):y∈kU R l i:=GA _ _ (Ay hl) (by omega) (fun j _ hj=>absurd hj (Nat.not_lt_zero j)) x hx y hy h
theorem PK (hl:l.Nodup){k n:Int}(hn:n∈kU R l k):∀ z∈kU R l n,z∈kU R l k:=
 Gz (C:=fun z=>z∈kU R l k) (fun x hx y hy h=>LI hl hx hy h) _ _ fun z hz=>by
  obtain⟨h1,h2⟩:=List.mem_filter.1 hz;exact LI hl hn h1 h2
open Classical in
noncomputable def KG (R:List (List Bool))(l:List Int)(k:Int):List Int:=if k∈kU R l k then kU R l k else k :: kU R l k
theorem YF (hl:l.Nodup)(k:Int):(KG R l k).Nodup:=by
 unfold KG;have:=(BB (R:=R) k hl).nd;split
 ·exact this
 ·exact List.nodup_cons.2 ⟨by assumption,this⟩
theorem rT {k z:Int}:z∈KG R l k↔z=k\/z∈kU R l k:=by
 unfold KG;split
 ·constructor
  ·exact .inr
  ·rintro(rfl|h)
   ·assumption
   ·exact h
 ·exact List.mem_cons
theorem YG (hl:l.Nodup){k n:Int}(hn:n∈l)(h:gH R k n=true)(hk:k∉kU R l n)(gX:k≠n):(KG R l n).length < (KG R l k).length:=by
 have h1:=PL hn h
 have Vw:∀ z∈KG R l n,z∈(KG R l k).erase k:=fun z hz=>by
  have hzk:z∈KG R l k:=by
   rcases rT.1 hz with rfl|hz
   ·exact rT.2 (.inr h1)
   ·exact rT.2 (.inr (PK hl h1 z hz))
  refine(List.mem_erase_of_ne fun e=>?_).2 hzk;subst e;rcases rT.1 hz with e|hz
  ·exact gX e
  ·exact hk hz
 have Zm:k∈KG R l k:=rT.2 (.inl rfl);have:=rS (YF hl n) Vw;rw[List.length_erase_of_mem Zm] at this;have:=List.length_pos_of_mem Zm;omega
theorem vh (hl:l.Nodup):∀ (N:Nat) (k:Nat) (hk:k < l.length),(KG R l l[k]).length<=N->∃ j,j < l.length/\OU R l j=true
 | 0,k,hk,h=>by
  have:=List.length_pos_of_mem (rT.2 (.inl rfl):l[k]∈KG R l l[k]);omega
 | N+1,k,hk,h=>by
  cases hr:OU R l k with
  | true=>exact⟨k,hk,hr⟩
  | false=>
   unfold OU at hr;obtain⟨n,hn,hg⟩:=List.all_eq_false.1 hr;have hn:=List.mem_range.1 hn;unfold Wg at hg;rw[Hf hk,Hf hn] at hg;rw[Bool.not_eq_true,Bool.not_eq_false',ag,ag,bne_iff_ne,cb,decide_eq_false_iff_not] at hg;obtain⟨g1,g2,g3⟩:=hg
   have gX:l[k]≠l[n]:=fun e=>g1 (by
    have:=(List.getElem_inj hl).1 e;omega)
   exact vh hl N n hn (by have:=YG hl (aI hn) g2 g3 gX;omega)
theorem Mp {α:Type}(p:Nat->α->Bool):∀ (l:List α) (i k:Nat) (hk:k < l.length),p (i+k) l[k]=true->pa p i l≠[]
 | x :: r,i,0,_,h=>by
  rw[pa,if_pos (by rw[cO] at h;exact h)];simp
 | x :: r,i,k+1,hk,h=>by
  rw[pa];have:=Mp p r (i+1) k (Nat.lt_of_succ_lt_succ hk) (by rw[show i+1+k=i+(k+1) by omega];exact h);intro e;exact this (List.append_eq_nil_iff.1 e).2
theorem Un (hl:l.Nodup)(h:l≠[]):zp R l≠[]:=by
 have hp:0 < l.length:=List.length_pos_iff.2 h;obtain⟨j,hj,hr⟩:=vh (R:=R) hl _ 0 hp (al _);exact Mp _ l 0 j hj (by rw[bu];exact hr)
theorem Ip (S:List Int):∀ (l:List Int) (b:Int),l.foldl (wW S) b=b\/l.foldl (wW S) b∈l
 | [],b=>.inl rfl
 | x :: r,b=>by
  rw[List.foldl_cons]
  have hb:wW S b x=b\/wW S b x=x:=by
   unfold wW;split
   ·exact .inr rfl
   ·exact .inl rfl
  rcases Ip S r (wW S b x) with h|h
  ·rw[h];rcases hb with h|h
   ·exact .inl h
   ·rw[h];exact .inr aC
  ·exact .inr (aK _ h)
theorem QI (S:List Int):∀ {l:List Int},l≠[]->EP S l∈l
 | [],h=>absurd rfl h
 | x :: r,_=>by
  unfold EP;rw[List.foldl_cons,show wW S (-1) x=x from if_pos (by rfl)];rcases Ip S r x with h|h
  ·rw[h];exact aC
  ·exact aK _ h
theorem Mz (S:List Int)(R:List (List Bool)){m:List Int}(hm:m≠[])(hp:∀ x∈m,0<=x):EP S (zp R (iq m))∈m:=by
 have he:iq m≠[]:=by
  cases m with
  | nil=>exact absurd rfl hm
  | cons x r=>
   have hx:=hp x aC;intro e;have:=yF (x :: r) 0 (Nat.zero_lt_succ _)
   have key:∀ (q o:List Int),o≠[]->q.foldl (fun o x=>if 0<=x/\x∉o then o++[x] else o) o≠[]:=by
    intro q
    induction q with
    | nil=>exact fun _ h=>h
    | cons y q ih=>
     intro o ho;rw[List.foldl_cons];refine ih _ ?_;split
     ·simp
     ·exact ho
   refine key r [x] (by simp) ?_
   have e2:iq (x :: r)=r.foldl (fun o x=>if 0<=x/\x∉o then o++[x] else o) [x]:=by
    unfold iq;rw[List.foldl_cons,if_pos ⟨hx,List.not_mem_nil⟩];rfl
   rw[<- e2];exact e
 exact(Az m _ (zF _ _ _ _ (QI S (Un (R:=R) (N1 m) he)))).2
end
end
end Go.Proofs.YtbmdcnkidjlbbaaGreat
namespace Cg
section
open Go Go.RowKit Go.Sort Go.Lib
section
variable {P:Program}{T:Nat->Option Ty}
theorem fA.TW {J:JT}{E0:Env}{n0 N:Nat}(n:Nat){id l k:Nat}{ops:Array Oper}{st:St}{Q:Ex->St->Nat->Prop}(hJ:SL J){x:AV}(hR:KA P l J n0 E0 k x)(n9:ops.toList.all vJ=true)
  (h:match ops.toList.drop n with
   | ⟨dst,.call ⟨.value f,⟨[y]⟩,_⟩,_,_,_,none⟩ :: post=>ju P T ops st.nx 0 (ops.toList.take n) st fun mK=>ev mK f=.c (.t (.lit (.func (.yield l) #[] #[])))/\((ev mK y).cB=[]/\(ev mK y).dJ=[]/\Fit mK (ev mK y) x)/\ju P T ops (st.nx+128*((ops.toList.take n).length+1)) 0 post (mK.app dst (.val (aB0 true))) fun Pv=>match Pv with
    | ⟨sl,bx,rw,_⟩=>mA (st.nx+128*ops.size) fun nx=>Q .ic ⟨sl,bx,rw,nx⟩ (k+1)
   | _=>False):fA P T J E0 n0 N (.region id ops false) st k Q:=by
 split at h
 ·rename_i dst f y qM ty pos Ox post e;refine fA.yield hJ hR (ops.toList.take n) post f y qM dst ty pos Ox ?_ n9 h;exact(List.take_append_drop n ops.toList).symm.trans (congrArg _ e)
 ·exact h.elim
end
section
variable {P:Program}{T:Nat->Option Ty}
theorem oK.block {N:Nat}{w0:World}{id:Nat}{c:Code}{st:St}{Q:Ex->St->Prop}(h:oK P T N w0 c st (qC id Q)):oK P T N w0 (.block id c) st Q:=fun hT O hO Ds E a w hn hd r hb=>by
 refine wp_block (wp_mono (h hT O hO Ds E a w hn hd r hb) fun e a' w' hp=>?_)
 cases e with
 | normal=>exact hp
 | exit i=>
  obtain⟨cJ,E',Ds',hq,rest⟩:=hp;unfold qC at hq;simp only at hq;show(if i=id then cpR w0 N O Q .normal a' w' else cpR w0 N O Q (.exit i) a' w')
  by_cases e:i=id
  ·subst e;rw[show Nat.beq i i=true by simp] at hq;rw[if_pos rfl];exact⟨cJ,E',Ds',hq,rest⟩
  ·have:Nat.beq i id=false:=by
    cases hb:Nat.beq i id
    ·rfl
    ·exact absurd (ah hb) e
   rw[this] at hq;rw[if_neg e];exact⟨cJ,E',Ds',hq,rest⟩
 | ret=>exact hp
 | goto l=>exact hp.elim
 | panic ch=>exact hp.elim
 | outgrown=>exact hp.elim
end
section
variable {P:Program}{T:Nat->Option Ty}{O:gD}
def Env.cut (E:Env)(g:Nat):Env:=⟨fun b=>if b < g then E.rl b else .dX,E.bk,E.vl⟩
section
variable [GlC O]{E:Env}{w:World}{n0 N m:Nat}{st:St}{a:Act}
omit [GlC O] in
theorem WG (hT:dg P T)(r:ca O E w n0 N m st a){d1 x t e s b ty:Nat}{z:List Ce}{q:List Lk}{y:Ty}{pos:String}{Ox:Array Edge}(hd:d1 < N)(ht:T t=some ⟨.ia e,s,b,z,q⟩)(he:T e=some y)(hs:y.sz=1){v:Value}(hv:a.eval (.tmp x)=v)(_hv1:v.oneCell'=true)(hc:v.cells=#[v]){K:Act->World->Prop}{Q:Exit->Act->World->Prop}
  (hK:ca O (E.cut w.heap.size) (w.alloc (.cells #[v] e)) n0 N m (st.app (some d1) (.val .bot)) (a.put (some d1) (.slice (some ⟨w.heap.size,0,none⟩) 1 1))->Below w.heap.size w (w.alloc (.cells #[v] e))->K (a.put (some d1) (.slice (some ⟨w.heap.size,0,none⟩) 1 1)) (w.alloc (.cells #[v] e))):Oper.wp P ⟨some d1,.buildSlice t 1 #[(0,.tmp x)],ty,pos,Ox,none⟩ a w K Q:=by
 have hu:=iF (hT.ty t _ ht) rfl;obtain⟨i,zv,h1,h2,h3,h4,_,h5⟩:=iG (hT.ty e y he)
 have kj:(Instr.buildSlice t 1 #[(0,v)]).run P w=.ok (.slice (some ⟨w.heap.size,0,none⟩) 1 1) (w.alloc (.cells #[v] e)):=by
  refine run_buildSlice w t e 1 _ #[v] i zv hu h1 h4 (by rw[h2,hs];omega) (by rw[h2,hs];omega) ?_;have hz:zv.cells.size=1:=by rw[h5,h2,hs]
  rw[h2,hs];rw[show Array.range (1*1)=#[0] by rfl];simp[Instr.fill,hc]
 have hb:Below w.heap.size w (w.alloc (.cells #[v] e)):=(Below.refl _ _).alloc (al _) _
 have mv:Mv st E w (E.cut w.heap.size) (w.alloc (.cells #[v] e)) (fun i=>∃ gQ,lk ([]:List (Nat × List Ce)) i=some gQ) (fun τ=>∃ R,lk ([]:List (Nat × Row)) τ=some R):=
  Mv.below hb (fun b aS=>by simp only[Env.cut,if_pos aS]) (fun _ _ _=>rfl) (fun τ R v _ _=>rfl)
 have r2:=r.app (t:=some d1) (fun x hx=>by cases hx;exact hd) mv (d:=.val .bot) (kv ⟨fun b hb=>(by cases hb),fun p hp=>(by cases hp)⟩) (v:=.slice (some ⟨w.heap.size,0,none⟩) 1 1) trivial (fun _ _ h=>by cases h) (fun _ _ h=>by cases h);unfold Oper.wp execOp;have hm:(#[((0:Nat),(Operand.tmp x))].map fun (i,y)=>(i,a.eval y))=#[(0,v)]:=by simp[hv]
 simp only[hm,Sem.run_bind,kj,Result.andThen_ok,Sem.run_pure,Oper.upon];exact hK r2 hb
omit [GlC O] in
theorem WH (hT:dg P T)(r:ca O E w n0 N m st a){o:Oper}(hd:∀ x,o.dst=some x->x < N){s x:Operand}{t e sz b:Nat}{z:List Ce}{q:List Lk}{y:Ty}{τ bo ρ vρ:Nat}{R Rρ:Row}{D:List (Nat × Nat × Nat)}{c g:Nat}(ho:o.op=.call ⟨.builtin .append,#[s,x],#[t,t]⟩)(ht:T t=some ⟨.ia e,sz,b,z,q⟩)(he:T e=some y)(hs:ev st s=.c (.row τ bo))(hR:lk st.rw τ=some R)(fw:R.bo=bo)(Aj:R.k=1)(hy:y.sz=1)(hRt:R.ty=e)(lV:R.dp=some ⟨D,c,[]⟩)(hM:Dp.kh ⟨D,c,[]⟩=false)(hlen:R.xs.length=c)
  (hρ:lk st.rw ρ=some Rρ) (hvρ:vρ<=Rρ.bo) (gX:ρ≠τ) (hx:a.eval x=.slice (some ⟨g,0,none⟩) 1 1) (hg:w.heap[g]? = some (.cells #[E.vl ρ vρ] e)) (_hg2:g+1=w.heap.size) (_hgr:E.rl g=.dX) (mN:(E.vl ρ vρ).oneCell'=true) (JV:(R.xs.length+1)*y.ky<=140737488355328) (hl:R.xs.length+1 < 140737488355328) (u:List Tr) (hu1:u.length=1) :
  kA P O o a w n0 N m st ⟨.c (.row τ (bo+1)),[],[(τ,{ R with bo:=bo+1,xs:=R.xs++[u],dp:=some ⟨D,c,[(c,0,ρ,vρ)]⟩ })]⟩:=by
 have hu:=iF (hT.ty t _ ht) rfl;obtain⟨i,zv,h1,h2,h3,h4,_,h5⟩:=iG (hT.ty e y he);have xr:=df r s;rw[hs] at xr;have xr:a.eval s=E.vl τ bo:=xr.1;obtain⟨ji,ro,oG,gw⟩:=(r.row τ R hR).rd lV hM;subst hRt;rw[fw] at ro gw;have O6:ji.length=c:=by rw[oG.len,hlen]
 let cl:Cl R.k:=⟨[E.vl ρ vρ],by rw[Aj];rfl,fun v hv=>by rw[aJ.1 hv];exact mN⟩
 intro K Q hK
 obtain⟨v',w',hr,own,TA,Nv⟩:=rH (P:=P) w n0 t o.type R.ty hu h1 h4 (h2.trans (hy.trans Aj.symm)) h3 ((h5.trans h2).trans (hy.trans Aj.symm)) (by rw[Aj];exact Nat.one_pos) _ ji.length _ ro ⟨g,0,none⟩ 1 1 [E.vl ρ vρ] (by rw[Aj];rfl) (fun j v hj=>by
  rcases j with _|j
  ·cases hj
   show w.cell? ⟨g,0+0,none⟩=_;simp[World.cell?,hg]
  ·cases hj) (fun v hv=>by rw[aJ.1 hv];exact mN) (by rw[oG.len];simp only[maxLen];omega) (by rw[oG.len];exact JV) r.hi
 have Vv:∀ g,(E.vl τ bo).ownBlock=some g->E.rl g=.rw τ:=gw;have mi:∀ b,b < w.heap.size->E.rl b≠.rw τ->w'.heap[b]? = w.heap[b]?:=fun b aS gX=>TA.block b aS (fun e=>gX (Vv b e.symm))
 have mv:Mv st E w (E.gr w.heap.size τ (bo+1) v') w' (fun i=>∃ gQ,lk ([]:List (Nat × List Ce)) i=some gQ) (fun τ'=>∃ R',lk [(τ,({ R with bo:=bo+1,xs:=R.xs++[u],dp:=some ⟨D,c,[(c,0,ρ,vρ)]⟩ }:Row))] τ'=some R'):=by
  refine⟨TA.size,fun b aS _=>by simp only[Env.gr,if_pos aS],fun b hb aS=>⟨mi b aS (by rw[hb];simp),by simp only[Env.gr,if_pos aS];exact hb⟩,fun _ _ _=>rfl,fun i cs hi _ aS gW=>⟨mi _ aS (by rw[gW];simp),by simp only[Env.gr,if_pos aS];exact gW⟩,fun τ' R' v hτ hv=>?_,fun τ' R' hτ hY g xv aS gW=>⟨mi g aS (by
   rw[gW];intro e
   cases e
   exact hY ⟨_,bZ _ _ _ _ |>.trans (if_pos rfl)⟩),by simp only[Env.gr,if_pos aS];exact gW⟩,fun b hb aS=>mi b aS (by rw[hb];simp),fun τ' R' hτ hY g j q aS gW=>⟨mi g aS (by rw[gW];simp),by simp only[Env.gr,if_pos aS];exact gW⟩⟩
  simp only[Env.gr];rw[if_neg];rintro⟨e1,e2⟩;subst e1;rw[hR] at hτ
  cases hτ
  omega
 have one:∀ {τ' R'},lk [(τ,({ R with bo:=bo+1,xs:=R.xs++[u],dp:=some ⟨D,c,[(c,0,ρ,vρ)]⟩ }:Row))] τ'=some R'->τ'=τ/\R'={ R with bo:=bo+1,xs:=R.xs++[u],dp:=some ⟨D,c,[(c,0,ρ,vρ)]⟩ }:=fun {τ' R'} h=>by
  rw[bZ] at h;split at h
  ·rename_i e
   cases h
   exact⟨e.symm,rfl⟩
  ·cases h
 have hvn:(E.gr w.heap.size τ (bo+1) v').vl τ (bo+1)=v':=by simp[Env.gr]
 have hvρ2:(E.gr w.heap.size τ (bo+1) v').vl ρ vρ=E.vl ρ vρ:=by
  simp only[Env.gr];rw[if_neg (fun h=>gX h.1)]
 have f1:ca O (E.gr w.heap.size τ (bo+1) v') w' n0 N m (st.app o.dst ⟨.c (.row τ (bo+1)),[],[(τ,({ R with bo:=bo+1,xs:=R.xs++[u],dp:=some ⟨D,c,[(c,0,ρ,vρ)]⟩ }:Row))]⟩) (a.put o.dst v'):=r.app (d:=⟨.c (.row τ (bo+1)),[],[(τ,({ R with bo:=bo+1,xs:=R.xs++[u],dp:=some ⟨D,c,[(c,0,ρ,vρ)]⟩ }:Row))]⟩) hd mv ⟨fun τ' R1 R2 e1 e2=>(by
  obtain⟨rfl,rfl⟩:=one e2;rw[hR] at e1
  cases e1
  show R.bo<=bo+1;omega),fun b hb=>(by cases hb),fun p hp=>.inr (by
  obtain rfl:p=(τ,bo+1):=by simpa [AV.cB,AV.gu,Ce.cB] using hp
  exact⟨_,bZ _ _ _ _ |>.trans (if_pos rfl),al _⟩),fun _ _ h=>(by cases h),fun τ' R' h=>(by
  obtain⟨rfl,rfl⟩:=one h;exact r.sc.fr τ' R hR),fun τ' R' d' h jJ l hl=>.inl (by
  obtain⟨rfl,rfl⟩:=one h
  cases jJ
  rw[aJ.1 hl];exact⟨Rρ,hρ,hvρ⟩)⟩ (v:=v') ⟨hvn.symm,nV own⟩ (fun _ _ h=>by cases h) (fun τ' R' h=>by
  obtain⟨rfl,rfl⟩:=one h;refine RD.rr (d:=⟨D,c,[(c,0,ρ,vρ)]⟩) rfl hM ⟨ji++[cl],?_,⟨by rw[au,au,oG.len];rfl,fun j vs ts q1 q2=>?_,fun j vs q1=>vs.one,fun j vs ts q1 q2 o v t q3 q4=>?_⟩,fun g xv=>?_⟩
  ·show World.ownsRow _ n0 R.ty R.k ((E.gr w.heap.size τ' (bo+1) v').vl τ' (bo+1)) _ _;rw[hvn,au,List.flatMap_append];exact own
  ·by_cases hj:j < ji.length
   ·rw[bn hj] at q1;rw[bn (by rw[<- oG.len];exact hj)] at q2;exact oG.ln j vs ts q1 q2
   ·rw[aY (by omega)] at q1;rw[aY (by rw[<- oG.len];omega),<- oG.len] at q2;obtain⟨h0,_⟩:=an.1 q2;have h0:j - ji.length < 1:=h0;rw[show j - ji.length=0 by omega] at q2
    cases q2
    rw[hu1,Aj]
  ·by_cases hj:j < ji.length
   ·rw[bn hj] at q1;rw[bn (by rw[<- oG.len];exact hj)] at q2;have h6:=(oG.at_ j vs ts q1 q2 o v t q3 q4).fr (E':=E.gr w.heap.size τ' (bo+1) v') (w':=w') (τ':=τ') TA.size mv.bz (fun ρ' u' hm=>by cases hm) (fun g aS gW=>⟨mi g aS (by rw[gW];simp),by simp only[Env.gr,if_pos aS];exact gW⟩);refine⟨fun ρ' u' hm=>?_,fun _=>h6.2 fun ρ' u' hm=>by cases hm⟩;have:=aJ.1 hm;simp only[Prod.mk.injEq] at this;omega
   ·rw[aY (by omega)] at q1;rw[aY (by rw[<- oG.len];omega),<- oG.len] at q2;obtain⟨h0,_⟩:=an.1 q2;have h0:j - ji.length < 1:=h0;rw[show j - ji.length=0 by omega] at q1 q2
    cases q1
    cases q2
    have hj:j=c:=by omega
    subst hj
    have oG:o=0:=by
     obtain⟨h0,_⟩:=an.1 q3;have h0:o < 1:=h0;omega
    subst oG
    have hv:v=E.vl ρ vρ:=by
     have:some (E.vl ρ vρ)=some v:=q3;exact(aR this).symm
    refine⟨fun ρ' u' hm=>?_,fun eZ=>absurd (aJ.2 rfl) (eZ ρ vρ)⟩;have:=aJ.1 hm;simp only[Prod.mk.injEq] at this;obtain⟨_,_,rfl,rfl⟩:=this;rw[hv,hvρ2];exact⟨rfl,mN⟩
  ·have xv:((E.gr w.heap.size τ' (bo+1) v').vl τ' (bo+1)).ownBlock=some g:=xv;rw[hvn] at xv;show(if g < w.heap.size then E.rl g else .rw τ')=.rw τ';split
   ·rename_i aS;rcases Nv with h|h
    ·rw[h] at xv;exact gw g xv
    ·rw[h] at xv
     cases xv
     omega
   ·rfl)
 exact Lib.wp_append_run w s x t t ho _ _ xr hx _ _ hr (hK _ _ _ f1 ⟨TA.os,TA.tape,TA.output,TA.size,fun b hb=>TA.block b (cd hb r.hi) (fun e=>by have:=(ro.lt b e.symm).1;omega)⟩)
end
end
section
variable {P:Program}{T:Nat->Option Ty}{O:gD}[GlC O]
theorem Rg {st:St}{n:Nat}(h:Kb st n)(t:Option Nat)(v:AV){τ:Nat}{R R':Row}(hR:lk st.rw τ=some R):Kb (st.app t ⟨v,[],[(τ,R')]⟩) n:=by
 refine⟨fun b cs hb=>h.1 b cs ?_,fun τ' R2 h2=>?_⟩
 ·cases t <;> exact hb
 ·rw[St.gC,cj] at h2;split at h2
  ·rename_i R3 h3;rw[bZ] at h3;split at h3
   ·rename_i e;subst e;exact h.2 τ R hR
   ·cases h3
  ·exact h.2 τ' R2 h2
theorem Ji {v:Value}(h:v.oneCell'=true):v.cells=#[v]:=by
 cases v <;> first|rfl|cases h
def ahL (T:Nat->Option Ty)(mK:St)(d1 x t:Nat)(s:Operand)(K:Nat->Nat->Nat->Nat->Row->Row->List (Nat × Nat × Nat)->Nat->Prop):Prop:=
 ∃ (e sz b:Nat) (z:List Ce) (q:List Lk) (y:Ty) (τ bo ρ vρ:Nat) (R Rρ:Row) (D:List (Nat × Nat × Nat)) (c:Nat),T t=some ⟨.ia e,sz,b,z,q⟩/\T e=some y/\y.sz=1/\ev mK (.tmp x)=.c (.row ρ vρ)/\lk mK.rw ρ=some Rρ/\vρ<=Rρ.bo/\ρ≠τ/\ev (mK.app (some d1) (.val .bot)) s=.c (.row τ bo)/\lk mK.rw τ=some R/\R.bo=bo/\R.k=1/\R.ty=e/\R.dp=some ⟨D,c,[]⟩/\Dp.kh ⟨D,c,[]⟩=false/\R.xs.length=c/\(R.xs.length+1)*y.ky<=140737488355328/\R.xs.length+1 < 140737488355328/\K τ bo ρ vρ R Rρ D c
theorem Tp.Z5 (n:Nat){N:Nat}{w0:World}{id:Nat}{ops:Array Oper}{st:St}{Q:Ex->St->Prop}(n9:ops.toList.all vJ=true)
  (h:match ops.toList.drop n with
   | ⟨some d1,.buildSlice t 1 ⟨[(0,.tmp x)]⟩,_,_,_,none⟩ :: ⟨dst,.call ⟨.builtin .append,⟨[s,.tmp d2]⟩,⟨[t1,t2]⟩⟩,_,_,_,none⟩ :: post=>(Nat.beq d1 d2&&(Nat.beq t t1&&Nat.beq t t2))=true/\ju P T ops st.nx 0 (ops.toList.take n) st fun mK=>ahL T mK d1 x t s fun τ bo ρ vρ R Rρ D c=>
     ju P T ops (st.nx+128*((ops.toList.take n).length+2)) 0 post ((mK.app (some d1) (.val .bot)).app dst ⟨.c (.row τ (bo+1)),[],[(τ,{ R with bo:=bo+1,xs:=R.xs++[[.sl Rρ.k Rρ.xs]],dp:=some ⟨D,c,[(c,0,ρ,vρ)]⟩ })]⟩) fun Pv=>match Pv with
     | ⟨sl,bx,rw,_⟩=>mA (st.nx+128*ops.size) fun nx=>Q .ic ⟨sl,bx,rw,nx⟩
   | _=>False):Tp P T N w0 O (.region id ops false) st Q:=fun hT Zv E a w r hb=>by
 split at h
 case h_2=>exact h.elim
 rename_i d1 t x ty1 acY agZ dst s d2 t1 t2 ty2 acX agY post Ze;obtain⟨hbq,h⟩:=h;simp only[ag] at hbq;obtain⟨q1,q2,q3⟩:=hbq;obtain rfl:=ah q1;obtain rfl:=ah q2;obtain rfl:=ah q3;obtain⟨pre,Za⟩:∃ pre,pre=ops.toList.take n:=⟨_,rfl⟩
 rw[<- Za] at h;obtain⟨o1,Nw⟩:∃ o1:Oper,o1=⟨some d1,.buildSlice t 1 #[(0,.tmp x)],ty1,acY,agZ,none⟩:=⟨_,rfl⟩
 obtain⟨o2,VH⟩:∃ o2:Oper,o2=⟨dst,.call ⟨.builtin .append,#[s,.tmp d1],#[t,t]⟩,ty2,acX,agY,none⟩:=⟨_,rfl⟩
 have Nu:ops.toList=pre++o1 :: o2 :: post:=by
  rw[Za,Nw,VH,<- Ze,List.take_append_drop]
 have il:jG N ops false=true:=Zv;obtain⟨L,hL,hp,mK,⟨e,sz,b,z,q,y,τ,bo,ρ,vρ,R,Rρ,D,c,c1,c2,c3,c4,c5,c6,c7,c8,c9,c10,c11,c12,c13,c14,c15,c16,c17,Nt⟩,he⟩:=iK pre [] st _ (jV.refl _) (fun j o d hj=>by simp at hj) h;rw[bF] at hp he;obtain⟨L2,FH,sf,Pv,ZB,py⟩:=iK post [] _ _ (jV.refl _) (fun j o d hj=>by simp at hj) Nt;simp only[bF] at sf py;have Zj:L.length=pre.length:=by rw[<- hL,Lm]
 have VI:L2.length=post.length:=by rw[<- FH,Lm]
 have lh:ops.size=pre.length+2+post.length:=by rw[<- bD,Nu,au,aq,aq];omega
 have Hp:∀ i,ops[i]? = (pre++o1 :: o2 :: post)[i]?:=fun i=>by rw[<- Nu,cp]
 have k0:Kb st st.nx:=r.kb;have hlen:st.nx+128*ops.size=st.nx+128*(pre.length+2)+128*post.length:=by rw[lh];omega
 have r0:=r.mono (m':=st.nx+128*ops.size) (Nat.le_add_right _ _);have Zc:ops[pre.length]? = some o1:=by rw[Hp,aY (al _),Nat.sub_self];rfl
 have Zb:ops[pre.length+1]? = some o2:=by rw[Hp,aY (by omega),show pre.length+1 - pre.length=1 by omega];rfl
 have hd1:d1 < N:=jY il Zc d1 (by rw[Nw]);have wi:∀ t,o2.dst=some t->t < N:=fun t ht=>jY il Zb t ht;refine(wpIn_wide (n:=0)).1 (wpIn_region ?_)
 rw[List.range_eq_range',show List.range' 0 ops.size=List.range' (0+0) pre.length++(pre.length :: (pre.length+1) :: (List.range' (pre.length+2+0) post.length++[])) by
  rw[aZ,cO,cO,lh,show pre.length+2=pre.length+1+1 by omega,<- List.range'_succ,<- List.range'_succ,show pre.length+1+1+post.length=pre.length+(post.length+1+1) by omega];have:=List.range'_append_1 (s:=0) (m:=pre.length) (n:=post.length+1+1);rw[bu] at this;exact this.symm]
 refine kf (ro:=none) hT il n9 (fun i o d hi=>?_) hp k0 (m:=st.nx+128*ops.size) (by rw[Zj];omega) pre.length 0 E w a (by omega) (by simpa [bM] using r0) fun E1 w1 a1 r1 xw=>?_
 ·have:pre[i]? = some o:=by rw[<- hL,bp,hi];rfl
  rw[Hp,bu,bn (an.1 this).1,this]
 have r1:=he.rep r1;have mN:=df r1 (.tmp x);rw[c4] at mN;obtain⟨mN,AZ⟩:a1.eval (.tmp x)=E1.vl ρ vρ/\(a1.eval (.tmp x)).oneCell'=true:=mN;rw[mN] at AZ;unfold wpOpsIn;simp only[Zc];rw[if_pos (by rw[Nw];rfl)];refine GL (by rw[Nw];exact fun _ h=>by cases h) ?_;rw[Nw];refine WG hT r1 hd1 c1 c2 c3 mN AZ (Ji AZ) fun r2 dD=>?_;unfold wpOpsIn;simp only[Zb];rw[if_pos (by rw[VH];rfl)];refine GL (by rw[VH];exact fun _ h=>by cases h) ?_;have hz:w1.heap.size+1=(w1.alloc (.cells #[E1.vl ρ vρ] e)).heap.size:=(World.size_alloc _ _).symm
 have agM:(a1.put (some d1) (.slice (some ⟨w1.heap.size,0,none⟩) 1 1)).eval (.tmp d1)=.slice (some ⟨w1.heap.size,0,none⟩) 1 1:=by
  show(a1.put (some d1) (.slice (some ⟨w1.heap.size,0,none⟩) 1 1)).tmps.getD d1 undef=_;rw[Act.CK _ _ _ _ (fun x hx=>by cases hx;rw[r1.sz];exact hd1),if_pos rfl]
 refine WH hT r2 (o:=o2) wi (s:=s) (x:=.tmp d1) (g:=w1.heap.size) (by rw[VH]) c1 c2 c8 (R:=R) c9 c10 c11 c3 c12 c13 c14 c15 (Rρ:=Rρ) c5 c6 c7 agM (World.alloc_heap_new _ _) hz (if_neg (Nat.lt_irrefl _)) AZ c16 c17 [.sl Rρ.k Rρ.xs] rfl _ _ fun E3 v w3 r3 RA=>?_
 have kb1:Kb ((mK.app (some d1) (.val .bot)).app dst ⟨.c (.row τ (bo+1)),[],[(τ,{ R with bo:=bo+1,xs:=R.xs++[[.sl Rρ.k Rρ.xs]],dp:=some ⟨D,c,[(c,0,ρ,vρ)]⟩ })]⟩) (st.nx+128*(pre.length+2)):=by
  have:=mg hp k0 L.length (al _);rw[bm,Zj] at this;have k1:Kb mK (st.nx+128*(pre.length+2)):=⟨fun b cs hb=>by have:=this.1 b cs (by rw[<- he.bx];exact hb);omega,fun τ R hR=>by have:=this.2 τ R (by rw[<- he.rw];exact hR);omega⟩
  exact Rg (M7 k1 _ _) _ _ (R:=R) c9
 have r4:ca O E3 w3 w0.heap.size N (st.nx+128*ops.size) ((mK.app (some d1) (.val .bot)).app dst ⟨.c (.row τ (bo+1)),[],[(τ,{ R with bo:=bo+1,xs:=R.xs++[[.sl Rρ.k Rρ.xs]],dp:=some ⟨D,c,[(c,0,ρ,vρ)]⟩ })]⟩) ((a1.put (some d1) (.slice (some ⟨w1.heap.size,0,none⟩) 1 1)).put dst v):=by
  have:=r3;rw[VH] at this;exact this
 have O9:Below w0.heap.size w0 w3:=hb.trans (xw.trans ((dD.mono r1.hi).trans RA));rw[show o2.dst=dst by rw[VH]];refine kf (ro:=none) hT il n9 (fun i o d hi=>?_) (L:=L2) sf kb1 (m:=st.nx+128*ops.size) (by rw[VI,hlen];omega) post.length 0 E3 w3 _ (by omega) (by rw[List.take_zero];exact r4) fun E4 w4 a4 r5 hb4=>?_
 ·have:post[i]? = some o:=by rw[<- FH,bp,hi];rfl
  rw[Hp,aY (by omega),show pre.length+2+i - pre.length=i+1+1 by omega,List.getElem?_cons_succ,List.getElem?_cons_succ,this]
 obtain⟨sl,bx,dB,nx⟩:=Pv;simp only[jZ] at ZB;have he3:jV (bM ((mK.app (some d1) (.val .bot)).app dst ⟨.c (.row τ (bo+1)),[],[(τ,{ R with bo:=bo+1,xs:=R.xs++[[.sl Rρ.k Rρ.xs]],dp:=some ⟨D,c,[(c,0,ρ,vρ)]⟩ })]⟩) L2) ⟨sl,bx,dB,st.nx+128*ops.size⟩:=⟨py.sl,py.bx,py.rw⟩
 exact⟨_,E4,ZB,he3.rep r5,O9.trans hb4⟩
end
end
end Cg
namespace Go.Proofs.YtbmdcnkidjlbbaaGreat
section
open Go Cg Go.RowKit Go.Sort
def DX:cC:=⟨0,0,0,0,0,0,0,⟨#[]⟩,0,0,⟨0,0⟩,⟨0,0⟩,⟨0,0⟩⟩
def NL (L:List bN)(i:Nat):bN:=(L[i]?).getD ⟨0,0,0,0,false,[],DX,[]⟩
theorem An {L:List bN}{i:Nat}(h:i < L.length):NL L i=L[i]:=by
 unfold NL;rw[cD h];rfl
def Bp (R:List (List Bool))(i j:Nat)(b:Bool):List (List Bool):=R.set i (((R[i]?).getD []).set j b)
noncomputable def vM (s:aA)(L:List bN)(w:Wd)(aP:Int)(x y:Int):Bool:=MC s (NL L x.toNat) (NL L y.toNat) w x.toNat y.toNat aP
noncomputable def Ep (s:aA)(L:List bN)(w:Wd)(aP x:Int)(m:List Int)(R:List (List Bool)):List (List Bool):=m.foldl (fun R y=>Bp R x.toNat y.toNat (vM s L w aP x y)) R
noncomputable def X9 (s:aA)(L:List bN)(w:Wd)(aP:Int)(m:List Int):List (List Bool):=m.foldl (fun R x=>Ep s L w aP x m R) (List.replicate L.length (List.replicate L.length false))
noncomputable def zG (s:aA)(L:List bN)(w:Wd)(m:List Int)(aP:Int):Int:=EP (L.map bN.du) (zp (X9 s L w aP m) (iq m))
theorem KR (X:List bN)(f:bN):(X.map bN.du).map eI++[eI f.du]=((X++[f]).map bN.du).map eI:=by rw[aW,aW];rfl
theorem U8 (s:aA)(L:List bN)(w:Wd)(H:pr s L w)(m:List Int)(aP:Int)(hm:m.length<=1000000)(Nx:∀ x∈m,0<=x/\x.toNat < L.length):Ct ae 57 [.agg ((wE s L w).map .t),.c (.t (.sl 1 (m.map eI))),.c (.t (iv aP))] (aBZ (zG s L w m aP)) [] true:=by
 refine aB4 (b:=false) ?_ rfl;have Xf:=H.sL;have hL8:L.length*216<=ba:=by unfold ba;omega
 generalize hM:zG s L w m aP=M;unfold zG at hM;refine cT Tryz.func57 rfl (by kernel_rfl) rfl fun w0 O _=>aBW [3] ?_;refine Tp.deep 512 [(0,4,1)] rfl rfl (aBW [] ?_);refine aBY (fun k:Nat=>⟨[(1,.c (.t (.sl 1 (m.map eI)))),(2,.c (.t (iv aP))),(3,.ptr 0 0),(7,.c (.row 9000 0)),(8,.c (.row 9001 0)),(9,aBZ k)],[(0,(wE s L w).map .t)],[(9000,⟨3,1,0,((L.take k).map bN.du).map eI,none⟩),(9001,⟨87,1,0,(List.replicate k (List.replicate L.length false)).map tR,some ⟨[(0,4,1)],k,[]⟩⟩)],10000⟩) (fun k=>k<=L.length) (fun k=>L.length - k) 0 ?_ (aD _) ?_
 ·refine bh [(9000,256),(9001,512)] rfl rfl ?_ ⟨aV _ rfl,trivial⟩ ?_
  all_goals repeat' first|refine Ai ?_ ?_|exact rfl|exact⟨⟩|exact Ei _ rfl|refine aj ?_|refine bS ?_
 rintro k hk;refine aBW [6,7,5,8] ?_;refine cS (fun h=>?_) (fun h=>?_)
 ·have aS:k < L.length:=cN h;refine aBW [] ?_;refine Ei k (Ei (L[k].enc) (Ai rfl (Ai (aQ _ _ k aS) ?_)))
  have xw:((((L.take k).map bN.du).map eI).length+1)*8<=140737488355328/\(((L.take k).map bN.du).map eI).length+1 < 140737488355328:=by
   rw[Lm,Lm,aB];omega
  refine Ai (.inl rfl) (Ai xw.1 (Ai xw.2 ?_));refine Tp.Z5 5 rfl ?_;refine Ai rfl ?_;refine Ei L.length (Ei [bv false] (Ai (Ai (congrArg (fun n:Nat=>(n:Int)) (Lm ..)) (congrArg (fun n:Nat=>(n:Int)) (Lm ..))) (Ai ?_ (Ai (Ai (show L.length*1<=140737488355328 by omega) (show L.length < 140737488355328 by omega)) ?_))))
  ·repeat' first|refine Ai ?_ ?_|exact rfl|exact⟨⟩|exact Ei _ rfl|refine aj ?_|refine bS ?_
  have uh:((List.replicate k (List.replicate L.length false)).map tR).length=k:=by rw[Lm,cc]
  refine⟨_,_,_,_,_,_,9001,0,12432,0,_,_,[(0,4,1)],k,rfl,rfl,rfl,rfl,rfl,al _,by decide,rfl,rfl,rfl,rfl,rfl,rfl,rfl,uh,?_,?_,?_⟩
  ·show(((List.replicate k (List.replicate L.length false)).map tR).length+1)*24<=140737488355328;rw[uh];omega
  ·show((List.replicate k (List.replicate L.length false)).map tR).length+1 < 140737488355328;rw[uh];omega
  have G:∀ u:List Tr,((List.replicate k (List.replicate L.length false)).map tR++[u])[k]? = some u:=fun u=>by
   rw[aY (by rw[uh];exact al _),uh,Nat.sub_self];rfl
  have G2:((List.replicate k (List.replicate L.length false)).map tR++[[Tr.sl 1 (List.replicate L.length [bv false])]]).set k [Tr.sl 1 (List.replicate L.length [bv false])]=(List.replicate (k+1) (List.replicate L.length false)).map tR:=by
   rw[List.set_append_right _ _ (by rw[uh];exact al _),uh,Nat.sub_self,List.replicate_succ',aW];show _++[[Tr.sl 1 (List.replicate L.length [bv false])]]=_++[tR (List.replicate L.length false)]
   have e:(List.replicate L.length false).map tB=List.replicate L.length [bv false]:=by
    rw[List.map_replicate];rfl
   unfold tR;rw[e]
  refine Tp.put 9001 k (k+1) (ts:=[Tr.sl 1 (List.replicate L.length [bv false])]) (ur:=[Tr.sl 1 (List.replicate L.length [bv false])]) rfl rfl (G _) rfl (Ai rfl trivial) rfl (.inr (Ai rfl (Ai rfl rfl))) ?_;refine aBW [] ?_;refine Ei (k+1) (Ai (show k+1<=_ by omega) (Ai (show L.length - (k+1) < L.length - k by omega) ?_));refine bh [(9000,9000),(9001,9001)] rfl rfl ?_ ⟨aV _ rfl,trivial⟩ ?_
  all_goals repeat' first|refine Ai ?_ ?_|exact rfl|exact⟨⟩|exact Ei _ rfl|refine aj ?_|refine bS ?_
  exact ed k aS 216 (by decide) hL8
  ·exact(KR (L.take k) L[k]).trans (congrArg (fun x=>(x.map bN.du).map eI) (bc aS).symm)
  ·exact G2
 ·have fS:k=L.length:=cP h hk;subst fS;rw[bm];generalize hR0:List.replicate L.length (List.replicate L.length false)=R0
  have Zf:R0.length=L.length/\∀ r∈R0,r.length=L.length:=by
   rw[<- hR0];exact⟨cc,fun r hr=>by rw[List.eq_of_mem_replicate hr,cc]⟩
  have hrel:X9 s L w aP m=m.foldl (fun R x=>Ep s L w aP x m R) R0:=by rw[<- hR0];rfl
  rw[hrel] at hM;have V0:L.length=R0.length:=Zf.1.symm;refine aBW [] ?_;refine aBY (α:=Nat × List (List Bool)) (fun y=>⟨[(1,.c (.t (.sl 1 (m.map eI)))),(2,.c (.t (iv aP))),(3,.ptr 0 0),(7,.c (.row 9000 0)),(8,.c (.row 9001 0)),(10,aBZ y.1)],[(0,(wE s L w).map .t)],[(9000,⟨3,1,0,(L.map bN.du).map eI,none⟩),(9001,⟨87,1,0,y.2.map tR,some ⟨[(0,4,1)],L.length,[]⟩⟩)],20000⟩) (fun y=>y.1<=m.length/\(y.2.length=L.length/\∀ r∈y.2,r.length=L.length)/\(m.drop y.1).foldl (fun R x=>Ep s L w aP x m R) y.2=m.foldl (fun R x=>Ep s L w aP x m R) R0) (fun y=>m.length - y.1) (0,R0) ?_ ⟨aD _,Zf,rfl⟩ ?_
  ·refine bh [(9000,9000),(9001,9001)] rfl rfl ?_ ⟨aV _ rfl,trivial⟩ ?_
   all_goals repeat' first|refine Ai ?_ ?_|exact rfl|exact⟨⟩|exact Ei _ rfl|refine aj ?_|refine bS ?_
  rintro⟨a,R1⟩ ⟨ha,aeL,FA⟩;have ha:a<=m.length:=ha;refine aBW [15] ?_;refine cS (fun h=>?_) (fun h=>?_)
  ·have DS:a < m.length:=cN h;rw[dw DS,List.foldl_cons] at FA;obtain⟨hx0,Y0⟩:=Nx _ (aI DS);refine aBW [] ?_;refine aBY (α:=Nat × List (List Bool)) (fun y=>⟨[(1,.c (.t (.sl 1 (m.map eI)))),(2,.c (.t (iv aP))),(3,.ptr 0 0),(7,.c (.row 9000 0)),(8,.c (.row 9001 0)),(10,aBZ a),(11,aBZ y.1)],[(0,(wE s L w).map .t)],[(9000,⟨3,1,0,(L.map bN.du).map eI,none⟩),(9001,⟨87,1,0,y.2.map tR,some ⟨[(0,4,1)],L.length,[]⟩⟩)],30000⟩) (fun y=>y.1<=m.length/\(y.2.length=L.length/\∀ r∈y.2,r.length=L.length)/\(m.drop y.1).foldl (fun R v=>Bp R m[a].toNat v.toNat (vM s L w aP m[a] v)) y.2=Ep s L w aP m[a] m R1) (fun y=>m.length - y.1) (0,R1) ?_ ⟨aD _,aeL,rfl⟩ ?_
   ·refine bh [(9000,9000),(9001,9001)] rfl rfl ?_ ⟨aV _ rfl,trivial⟩ ?_
    all_goals repeat' first|refine Ai ?_ ?_|exact rfl|exact⟨⟩|exact Ei _ rfl|refine aj ?_|refine bS ?_
   rintro⟨b,R2⟩ ⟨hb,Fv,py⟩;have hb:b<=m.length:=hb;have Fv:R2.length=L.length/\∀ r∈R2,r.length=L.length:=Fv;refine aBW [14,13] ?_;refine cS (fun h=>?_) (fun h=>?_)
   ·have Tt:b < m.length:=cN h;rw[dw Tt,List.foldl_cons] at py;obtain⟨hy0,hyL⟩:=Nx _ (aI Tt);have Xd:m[a].toNat < R2.length:=by rw[Fv.1];exact Y0
    refine Tp.take 9001 m[a].toNat 0 4 1 (ts:=tR R2[m[a].toNat]) (ys:=R2[m[a].toNat].map tB) rfl rfl rfl (by simp) Y0 (aQ _ _ _ Xd) rfl ?_;refine aBW [] ?_;have hxe:m[a]=((m[a].toNat:Nat):Int):=(Int.toNat_of_nonneg hx0).symm;have hye:m[b]=((m[b].toNat:Nat):Int):=(Int.toNat_of_nonneg hy0).symm;have n9:=QP s L w H m[a].toNat m[b].toNat Y0 hyL aP;refine Ei a (Ei (eI m[a]) (Ai rfl (Ai (aQ _ _ a DS) ?_)));refine Ei m[a].toNat (Ai hxe (Ai (by rw[Lm];exact Xd) ?_));refine Ai rfl (Ai (by rw[Lm];exact Xd) (Ai (Nb rfl) ?_));refine Ei b (Ei (eI m[b]) (Ai rfl (Ai (aQ _ _ b Tt) ?_)));refine Ei a (Ei (eI m[a]) (Ai rfl (Ai (aQ _ _ a DS) ?_)));refine Ei b (Ei (eI m[b]) (Ai rfl (Ai (aQ _ _ b Tt) ?_)));refine cF n9 ⟨fL (wE s L w),congrArg iv hxe,congrArg iv hye,rfl,trivial⟩ ?_;have gw:(R2[m[a].toNat]).length=L.length:=Fv.2 _ (aI Xd);have hyR:m[b].toNat < (R2[m[a].toNat]).length:=by rw[gw];exact hyL
    refine Ei m[b].toNat (Ai hye (Ai (by rw[Lm];exact hyR) ?_));refine Ei (tB (R2[m[a].toNat])[m[b].toNat]) (Ai (aQ _ _ _ hyR) (Ai (Nb rfl) ?_))
    have hnv:MC s L[m[a].toNat] L[m[b].toNat] w m[a].toNat m[b].toNat aP=vM s L w aP m[a] m[b]:=by
     unfold vM;rw[An Y0,An hyL]
    have Nr:Bp R2 m[a].toNat m[b].toNat (vM s L w aP m[a] m[b])=R2.set m[a].toNat ((R2[m[a].toNat]).set m[b].toNat (vM s L w aP m[a] m[b])):=by
     unfold Bp;rw[cD Xd];rfl
    have aeK:(Bp R2 m[a].toNat m[b].toNat (vM s L w aP m[a] m[b])).length=L.length/\∀ r∈Bp R2 m[a].toNat m[b].toNat (vM s L w aP m[a] m[b]),r.length=L.length:=by
     rw[Nr];refine⟨by rw[bG];exact Fv.1,fun r hr=>?_⟩;rcases List.mem_or_eq_of_mem_set hr with hr|hr
     ·exact Fv.2 r hr
     ·rw[hr,bG];exact gw
    have pg:∀ v:Bool,v=vM s L w aP m[a] m[b]->(R2.map tR).set m[a].toNat [Tr.sl 1 (((R2[m[a].toNat]).map tB).set m[b].toNat [bv v])]=(Bp R2 m[a].toNat m[b].toNat (vM s L w aP m[a] m[b])).map tR:=fun v hv=>by
     rw[Nr,fF,hv];congr 1;unfold tR;rw[fF];rfl
    refine Tp.put 9001 m[a].toNat L.length (ts:=tR R2[m[a].toNat]) rfl rfl (aQ _ _ _ Xd) rfl (Ai rfl trivial) rfl (.inl (Ai rfl Y0)) ?_
    (try refine aBW [] ?_)
    refine Ei (b+1,Bp R2 m[a].toNat m[b].toNat (vM s L w aP m[a] m[b])) (Ai ⟨show b+1<=_ by omega,aeK,py⟩ (Ai (show m.length - (b+1) < m.length - b by omega) ?_));refine bh [(9000,9000),(9001,9001)] rfl rfl ?_ ⟨aV _ rfl,trivial⟩ ?_
    all_goals repeat' first|refine Ai ?_ ?_|exact rfl|exact⟨⟩|exact Ei _ rfl|refine aj ?_|refine bS ?_
    exact ve b (by omega);exact pg _ hnv
   ·have dD:b=m.length:=cP h hb;rw[dD,List.drop_eq_nil_of_le (al _)] at py;have py:R2=Ep s L w aP m[a] m R1:=py;rw[<- py] at FA
    (try refine aBW [] ?_)
    refine Ei (a+1,R2) (Ai ⟨show a+1<=_ by omega,Fv,FA⟩ (Ai (show m.length - (a+1) < m.length - a by omega) ?_));refine bh [(9000,9000),(9001,9001)] rfl rfl ?_ ⟨aV _ rfl,trivial⟩ ?_
    all_goals repeat' first|refine Ai ?_ ?_|exact rfl|exact⟨⟩|exact Ei _ rfl|refine aj ?_|refine bS ?_
    exact ve a (by omega)
  ·have FG:a=m.length:=cP h ha;rw[FG,List.drop_eq_nil_of_le (al _)] at FA;have FA:R1=m.foldl (fun R x=>Ep s L w aP x m R) R0:=FA;rw[<- FA] at hM
   (try refine aBW [] ?_)
   refine cF (U9 m (L.map bN.du) R1 hm) ⟨rfl,?_,?_,trivial⟩ ?_
   ·repeat' first|refine Ai ?_ ?_|exact rfl|exact⟨⟩|exact Ei _ rfl
   ·repeat' first|refine Ai ?_ ?_|exact rfl|exact⟨⟩|exact Ei _ rfl
   subst hM;refine Ei [] ?_
   repeat' first|refine Ai ?_ ?_|exact rfl|exact⟨⟩|exact Ei _ rfl
def pd (L:List bN)(aP:Int)(n:Nat):List Int:=((List.range n).filter fun i=>Dx (NL L i) aP).map fun i:Nat=>(i:Int)
theorem Jy (L:List bN)(aP:Int)(n:Nat):pd L aP (n+1)=pd L aP n++(if Dx (NL L n) aP=true then [(n:Int)] else []):=by
 unfold pd;rw[List.range_succ,List.filter_append,aW];congr 1
 by_cases h:Dx (NL L n) aP=true
 ·rw[if_pos h];simp[h]
 ·rw[if_neg h];simp[h]
theorem Cf (L:List bN)(aP:Int)(n:Nat):(pd L aP n).length<=n:=by
 unfold pd;rw[Lm];exact bd (cx _ _) (by rw[List.length_range];exact al _)
theorem MZ (L:List bN)(aP:Int)(n:Nat):∀ x∈pd L aP n,0<=x/\x.toNat < n:=fun x hx=>by
 obtain⟨i,hi,rfl⟩:=bA.1 hx;have:=List.mem_range.1 (List.mem_filter.1 hi).1;omega
theorem Q6 (L:List bN)(aP:Int)(n:Nat):(pd L aP n).Nodup:=by
 unfold pd;refine List.Pairwise.map _ (fun a b h=>?_) (List.nodup_range.filter _);intro e;exact h (by omega)
noncomputable def xj (s:aA)(L:List bN)(aP:Int):Nat->Wd->List Int->List Int->Wd × List Int
 | 0,w,_,o=>(w,o)
 | f+1,w,m,o=>xj s L aP f (qF s (NL L (zG s L w m aP).toNat) w (zG s L w m aP).toNat aP) (m.filter fun x=>x != zG s L w m aP) (o++[zG s L w m aP])
noncomputable def aeT (s:aA)(L:List bN)(w:Wd)(aP:Int):Wd × List Int:=xj s L aP (pd L aP L.length).length (if aP=7 then Of s w else w) (pd L aP L.length) []
theorem Ih {s:aA}{L:List bN}{w:Wd}(H:pr s L w):pr s L (Of s w):=by
 refine⟨H.so,H.sL,H.fo,?_,H.bg,H.st,H.bl,fun y hy=>?_,H.sl⟩
 ·show((s.aa.zip w.all).map fun p=>jT p.1 p.2).length=_;rw[Lm,List.length_zip,H.all,Nat.min_self]
 ·obtain⟨p,hp,rfl⟩:=bA.1 hy;have h1:=H.ok p.2 (List.of_mem_zip hp).2;unfold jT;split
  ·exact h1
  ·exact h1
theorem R7 {m:List Int}(h:m.Nodup){i:Int}(hi:i∈m):(m.filter fun x=>x != i).length+1=m.length:=by
 have e:=h.erase_eq_filter i;rw[<- e,List.length_erase_of_mem hi];have:=List.length_pos_of_mem hi;omega
theorem Lj (s:aA)(L:List bN)(w:Wd)(H:pr s L w)(aP:Int):Ct ae 23 [.agg ((wE s L w).map .t),.c (.t (iv aP))] (.fH [.agg ((wE s L (aeT s L w aP).1).map .t),.c (.t (.sl 1 ((aeT s L w aP).2.map eI)))]) [] false:=by
 have Xf:=H.sL;have hL8:L.length*216<=ba:=by unfold ba;omega
 have A3:=Kl s L w H;generalize hM:aeT s L w aP=M;unfold aeT at hM;generalize hW:(if aP=7 then Of s w else w)=w1 at hM
 have H1:pr s L w1:=by
  rw[<- hW];split
  ·exact Ih H
  ·exact H
 have uG:=Cf L aP L.length;refine cT Tryz.func23 rfl (by kernel_rfl) rfl fun w0 O _=>aBW [2,3] ?_;apply zW (P:=ae) (T:=T) (N:=Tryz.f23.ntmps) (w0:=w0) (O:=O) ⟨[(1,.c (.t (iv aP))),(2,.ptr 0 0),(4,.ptr 128 0)],[(0,(wE s L w1).map .t),(128,List.replicate 24 .bot)],[],5000⟩
 case h=>
  intro K;refine cS (fun h=>?_) (fun h=>?_)
  ·have h:aP=7:=by simpa using h
   rw[if_pos h] at hW;refine aBW [] ?_;refine cR A3 ⟨fL (wE s L w),trivial⟩ ?_;refine aB1 (bh [] rfl rfl ?_ ?_ ?_) K
   ·subst hW
    repeat' first|refine Ai ?_ ?_|exact rfl|exact⟨⟩|exact Ei _ rfl|refine aj ?_|refine bS ?_
   ·subst hW;refine⟨?_,?_,trivial⟩
    all_goals repeat' first|refine Ai ?_ ?_|exact rfl|exact⟨⟩|exact Ei _ rfl|refine aj ?_|refine bS ?_
   ·repeat' first|refine Ai ?_ ?_|exact rfl|exact⟨⟩|exact Ei _ rfl
  ·have h:¬ aP=7:=by simpa using h
   rw[if_neg h] at hW;refine aB1 (bh [] rfl rfl ?_ ?_ ?_) K
   ·subst hW
    repeat' first|refine Ai ?_ ?_|exact rfl|exact⟨⟩|exact Ei _ rfl|refine aj ?_|refine bS ?_
   ·subst hW;refine⟨?_,?_,trivial⟩
    all_goals repeat' first|refine Ai ?_ ?_|exact rfl|exact⟨⟩|exact Ei _ rfl|refine aj ?_|refine bS ?_
   ·repeat' first|refine Ai ?_ ?_|exact rfl|exact⟨⟩|exact Ei _ rfl
 case key=>
  refine aBW [] ?_;refine aBY (fun k:Nat=>⟨[(1,.c (.t (iv aP))),(2,.ptr 0 0),(4,.ptr 128 0),(6,.c (.row 9000 0)),(7,aBZ k)],[(0,(wE s L w1).map .t),(128,List.replicate 24 .bot)],[(9000,⟨3,1,0,(pd L aP k).map eI,none⟩)],10000⟩) (fun k=>k<=L.length) (fun k=>L.length - k) 0 ?_ (aD _) ?_
  ·refine bh [(9000,5000)] rfl rfl ?_ ?_ ?_
   ·repeat' first|refine Ai ?_ ?_|exact rfl|exact⟨⟩|exact Ei _ rfl|refine aj ?_|refine bS ?_
   ·refine⟨aV _ rfl,?_,trivial⟩
    repeat' first|refine Ai ?_ ?_|exact rfl|exact⟨⟩|exact Ei _ rfl|refine aj ?_|refine bS ?_
   ·repeat' first|refine Ai ?_ ?_|exact rfl|exact⟨⟩|exact Ei _ rfl|refine aj ?_|refine bS ?_
  rintro k hk;refine aBW [9,10,11] ?_;refine cS (fun h=>?_) (fun h=>?_)
  ·have aS:k < L.length:=cN h;have fR:=Jy L aP k;rw[An aS] at fR;have O5:=Cf L aP k;have kY:((pd L aP k).map eI).length+1<=2000000:=by rw[Lm];omega
   refine Ei k (Ei (L[k].enc) (Ai rfl (Ai (aQ _ _ k aS) ?_)));refine cF (Kt L[k] aP (H.fo _ (aI aS))) ⟨fL L[k].enc,rfl,trivial⟩ ?_;refine cS (fun h1=>?_) (fun h1=>?_)
   ·rw[if_pos (show Dx L[k] aP=true from h1)] at fR
    (try refine aBW [] ?_)
    refine Ai (.inl rfl) (Ai (show(((pd L aP k).map eI).length+1)*8<=140737488355328 by omega) (Ai (show((pd L aP k).map eI).length+1 < 140737488355328 by omega) ?_));refine Ei (k+1) (Ai (show k+1<=_ by omega) (Ai (show L.length - (k+1) < L.length - k by omega) ?_));refine bh [(9000,9000)] rfl rfl ?_ ?_ ?_
    ·repeat' first|refine Ai ?_ ?_|exact rfl|exact⟨⟩|exact Ei _ rfl|refine aj ?_|refine bS ?_
     exact ed k aS 216 (by decide) hL8
    ·refine⟨aV _ rfl,?_,trivial⟩
     repeat' first|refine Ai ?_ ?_|exact rfl|exact⟨⟩|exact Ei _ rfl|refine aj ?_|refine bS ?_
    ·repeat' first|refine Ai ?_ ?_|exact rfl|exact⟨⟩|exact Ei _ rfl|refine aj ?_|refine bS ?_
     exact(lZ _ _).trans (congrArg (List.map eI) fR.symm)
   ·rw[if_neg (by rw[show Dx L[k] aP=false from h1];decide),aZ] at fR
    (try refine aBW [] ?_)
    refine Ei (k+1) (Ai (show k+1<=_ by omega) (Ai (show L.length - (k+1) < L.length - k by omega) ?_));refine bh [(9000,9000)] rfl rfl ?_ ?_ ?_
    ·repeat' first|refine Ai ?_ ?_|exact rfl|exact⟨⟩|exact Ei _ rfl|refine aj ?_|refine bS ?_
     exact ed k aS 216 (by decide) hL8
    ·refine⟨aV _ rfl,?_,trivial⟩
     repeat' first|refine Ai ?_ ?_|exact rfl|exact⟨⟩|exact Ei _ rfl|refine aj ?_|refine bS ?_
    ·repeat' first|refine Ai ?_ ?_|exact rfl|exact⟨⟩|exact Ei _ rfl|refine aj ?_|refine bS ?_
     exact congrArg (List.map eI) fR.symm
  ·have fS:k=L.length:=cP h hk;subst fS;have n9:=Q6 L aP L.length;have hme:=MZ L aP L.length;generalize pd L aP L.length=m0 at *;refine aBW [] ?_;refine aBY (α:=Nat × Wd × List Int × List Int) (fun x=>⟨[(1,.c (.t (iv aP))),(2,.ptr 0 0),(4,.ptr 128 0),(6,.c (.t (.sl 1 (x.2.2.1.map eI)))),(8,.c (.row 9000 0)),(9,aBZ (m0.map eI).length),(10,aBZ x.1)],[(0,(wE s L x.2.1).map .t),(128,List.replicate 24 .bot)],[(9000,⟨3,1,0,x.2.2.2.map eI,none⟩)],20000⟩) (fun x=>x.1<=m0.length/\pr s L x.2.1/\(x.2.2.1.length=m0.length - x.1/\x.2.2.1.Nodup/\∀ y∈x.2.2.1,0<=y/\y.toNat < L.length)/\x.2.2.2.length=x.1/\xj s L aP (m0.length - x.1) x.2.1 x.2.2.1 x.2.2.2=M) (fun x=>m0.length - x.1) (0,w1,m0,[]) ?_ ⟨aD _,H1,⟨rfl,n9,hme⟩,rfl,hM⟩ ?_
   ·refine bh [(9000,10640)] rfl rfl ?_ ?_ ?_
    ·repeat' first|refine Ai ?_ ?_|exact rfl|exact⟨⟩|exact Ei _ rfl|refine aj ?_|refine bS ?_
    ·refine⟨aV _ rfl,?_,trivial⟩
     repeat' first|refine Ai ?_ ?_|exact rfl|exact⟨⟩|exact Ei _ rfl|refine aj ?_|refine bS ?_
    ·repeat' first|refine Ai ?_ ?_|exact rfl|exact⟨⟩|exact Ei _ rfl|refine aj ?_|refine bS ?_
   rintro⟨n,v,m,o⟩ ⟨hn,Hv,⟨ug,hmn,Xj⟩,Ts,he⟩;have hn:n<=m0.length:=hn;have Hv:pr s L v:=Hv;have ug:m.length=m0.length - n:=ug;have Xj:∀ y∈m,0<=y/\y.toNat < L.length:=Xj;have Ts:o.length=n:=Ts;have he:xj s L aP (m0.length - n) v m o=M:=he;refine aBW [15] ?_;refine cS (fun h=>?_) (fun h=>?_)
   ·have aS:n < m0.length:=cN h;obtain⟨f,hf⟩:∃ f,m0.length - n=f+1:=⟨m0.length - n - 1,by omega⟩
    rw[hf,xj] at he;have gX:m≠[]:=fun e=>by rw[e] at ug;simp at ug;omega
    have VN:zG s L v m aP∈m:=Mz _ _ gX fun x hx=>(Xj x hx).1;have hnx:=U8 s L v Hv m aP (by omega) Xj;obtain⟨hi0,hiL⟩:=Xj _ VN;have si:=R7 hmn VN;generalize zG s L v m aP=i at *;have hie:i=((i.toNat:Nat):Int):=(Int.toNat_of_nonneg hi0).symm;have hap:=yO s L v Hv i.toNat hiL aP;rw[<- An hiL] at hap;have Hv2:=AO Hv (NL L i.toNat) i.toNat aP
    have Nv:((o.map eI).length+1)*8<=140737488355328/\(o.map eI).length+1 < 140737488355328:=by
     rw[Lm];omega
    refine cF hnx ⟨fL (wE s L v),rfl,rfl,trivial⟩ ?_;refine aBW [] ?_;refine Ai (.inl rfl) (Ai Nv.1 (Ai Nv.2 ?_));refine cR hap ⟨fL (wE s L v),congrArg iv hie,rfl,trivial⟩ ?_;refine cR (IA m i (by omega)) ⟨rfl,rfl,trivial⟩ ?_;refine Ei (n+1,qF s (NL L i.toNat) v i.toNat aP,m.filter (fun x=>x != i),o++[i]) (Ai ⟨aS,Hv2,⟨?_,hmn.filter _,fun y hy=>Xj y (List.mem_filter.1 hy).1⟩,?_,?_⟩ (Ai (show m0.length - (n+1) < m0.length - n by omega) ?_))
    ·have si:(m.filter fun x=>x != i).length+1=m.length:=si;show(m.filter fun x=>x != i).length=m0.length - (n+1);omega
    ·show(o++[i]).length=n+1;rw[au,Ts];rfl
    ·show xj s L aP (m0.length - (n+1)) (qF s (NL L i.toNat) v i.toNat aP) (m.filter fun x=>x != i) (o++[i])=M;rw[show m0.length - (n+1)=f by omega];exact he
    refine bh [(9000,9000)] rfl rfl ?_ ?_ ?_
    ·repeat' first|refine Ai ?_ ?_|exact rfl|exact⟨⟩|exact Ei _ rfl|refine aj ?_|refine bS ?_
     exact ve n (by omega)
    ·refine⟨aV _ rfl,?_,trivial⟩
     repeat' first|refine Ai ?_ ?_|exact rfl|exact⟨⟩|exact Ei _ rfl|refine aj ?_|refine bS ?_
    ·repeat' first|refine Ai ?_ ?_|exact rfl|exact⟨⟩|exact Ei _ rfl|refine aj ?_|refine bS ?_
     exact lZ _ _
   ·have Ae:n=m0.length:=cP h hn;rw[Ae,Nat.sub_self] at he;have he:(v,o)=M:=he;subst he
    (try refine aBW [] ?_)
    refine Ei [] ?_
    repeat' first|refine Ai ?_ ?_|exact rfl|exact⟨⟩|exact Ei _ rfl
end
end Go.Proofs.YtbmdcnkidjlbbaaGreat
namespace Cg
section
open Go Go.RowKit Go.Sort Go.Lib
section
variable {P:Program}{T:Nat->Option Ty}{O:gD}[GlC O]
def WT (t u:Tr):Prop:=t=u\/∃ k k',t=.sl k []/\u=.sl k' []
theorem RT.nl {F:Nat->Prop}{w:World}{v:Value}{t u:Tr}(h:RT F w v t)(e:WT t u):RT F w v u:=by
 rcases e with rfl|⟨k,k',rfl,rfl⟩
 ·exact h
 ·cases h with
  | gi h=>exact .gi h
  | iZ h1 h2 h3 h4 h5=>
   subst h1;exact .gi fun h=>by cases h
theorem iR.nl {F:Nat->Prop}{w:World}:∀ {vs:List Value} {ts us:List Tr},iR F w vs ts->A2 WT ts us->iR F w vs us
 | _,_,_,.nil,.nil=>.nil
 | _,_,_,.cons h1 h2,.cons e1 e2=>.cons (h1.nl e1) (iR.nl h2 e2)
omit [GlC O] in
theorem Tp.U5 {N:Nat}{w0:World}{c:Code}{st:St}{Q:Ex->St->Prop}(τ:Nat)(qR:List (List Tr)){R:Row}(hR:lk st.rw τ=some R)(hd:R.dp=none)(hx:A2 (A2 WT) R.xs qR)(h:Tp P T N w0 O c ⟨st.sl,st.bx,(τ,{ R with xs:=qR }) :: st.rw,st.nx⟩ Q):Tp P T N w0 O c st Q:=by
 refine Tp.Fj [(τ,{ R with xs:=qR })] 0 (fun E w a r=>⟨E,?_⟩) h;have mv:Mv st E w E w (fun i=>∃ cs,lk ([]:List (Nat × List Ce)) i=some cs) (fun τ'=>∃ R',lk [(τ,({ R with xs:=qR }:Row))] τ'=some R'):=Mv.refl _ _ _ _ _
 have one:∀ {τ' R'},lk [(τ,({ R with xs:=qR }:Row))] τ'=some R'->τ'=τ/\R'={ R with xs:=qR }:=fun {τ' R'} h=>by
  rw[bZ] at h;split at h
  ·rename_i e
   cases h
   exact⟨e.symm,rfl⟩
  ·cases h
 refine ca.app (v:=.tuple #[]) r (t:=none) (fun _ h=>by cases h) mv ⟨fun τ' R1 R2 e1 e2=>?_,fun b hb=>(by cases hb),fun p hp=>(by cases hp),fun _ _ h=>(by cases h),fun τ' R' h=>?_,fun τ' R' d' h jJ l hl=>?_⟩ trivial (fun _ _ h=>by cases h) (fun τ' R' h=>?_)
 ·obtain⟨rfl,rfl⟩:=one e2;rw[hR] at e1
  cases e1
  exact al _
 ·obtain⟨rfl,rfl⟩:=one h;exact r.sc.fr τ' R hR
 ·obtain⟨rfl,rfl⟩:=one h;have jJ:R.dp=some d':=jJ;rw[hd] at jJ
  cases jJ
 ·obtain⟨rfl,rfl⟩:=one h;obtain⟨es,h1,h2,h3⟩:=(r.row τ' R hR).ow hd;refine Ow.rr hd ⟨es,h1,⟨h2.len.trans hx.len,fun j vs ts q1 q2=>?_⟩,h3⟩;obtain⟨ts0,g1,g2⟩:=hx.get j ts q2;exact(h2.at_ j vs ts0 q1 g1).nl g2
theorem yj:∀ ts:List Tr,A2 WT ts ts
 | []=>.nil
 | _t :: ts=>.cons (.inl rfl) (yj ts)
theorem B3:∀ xs:List (List Tr),A2 (A2 WT) xs xs
 | []=>.nil
 | x :: xs=>.cons (yj x) (B3 xs)
theorem Mw (xs:List (List Tr)){ts us:List Tr}(h:A2 WT ts us):A2 (A2 WT) (xs++[ts]) (xs++[us]):=A2.append (B3 xs) (.cons h .nil)
end
end
end Cg
namespace Go.Proofs.YtbmdcnkidjlbbaaGreat
section
open Go Cg Go.RowKit Go.Sort
def ajW (o:aE):Nat->List cz->List bN
 | _,[]=>[]
 | k,a :: r=>(if (a.kind==1)=true then [⟨o.id,k,o.aaB,o.du,false,[],a.filter,a.cA⟩] else [])++ajW o (k+1) r
noncomputable def kF (cards:List bX)(o:aE):List bN:=if (o.cg==0)=true then ajW o 0 (ofM cards o).aT else []
def Aq (c:iS):bN:=⟨c.fp,-1,c.aaB,c.du,true,c.aa,DX,c.cA⟩
noncomputable def ajR (cards:List bX)(s:aA):List bN:=s.aa.flatMap (kF cards)++s.dG.map Aq
theorem wv (o:aE):∀ (l m:List cz) (k:Nat),ajW o k (l++m)=ajW o k l++ajW o (k+l.length) m
 | [],m,k=>rfl
 | a :: r,m,k=>by
  rw[List.cons_append,ajW,ajW,wv o r m (k+1),cH,aq,show k+1+r.length=k+(r.length+1) by omega]
theorem J1 (o:aE)(l:List cz)(k:Nat)(hk:k < l.length):ajW o 0 (l.take (k+1))=ajW o 0 (l.take k)++(if (l[k].kind==1)=true then [⟨o.id,k,o.aaB,o.du,false,[],l[k].filter,l[k].cA⟩] else []):=by
 rw[bc hk,wv,aB,Nat.min_eq_left (by omega),bu];show _++((if (l[k].kind==1)=true then [_] else [])++[])=_;rw[aZ]
theorem NP (o:aE)(l:List cz)(k:Nat):(ajW o 0 (l.take k)).length<=(ajW o 0 l).length:=by
 have:=wv o (l.take k) (l.drop k) 0;rw[List.take_append_drop] at this;rw[this,au];omega
theorem apF {X:List bN}{y:bN}:X.map bN.enc++[y.enc]=(X++[y]).map bN.enc:=by rw[aW];rfl
theorem Wr (cards:List bX)(l:List aE)(k:Nat):((l.take k).flatMap (kF cards)).length<=(l.flatMap (kF cards)).length:=by
 have e:l.flatMap (kF cards)=(l.take k).flatMap (kF cards)++(l.drop k).flatMap (kF cards):=by rw[<- List.flatMap_append,List.take_append_drop]
 rw[e,au];omega
theorem NM (cards:List bX)(s:aA)(hc:cards.length*176<=ba)(mc:∀ y∈cards,bX.ok y)(hs:s.ok)(hn:(ajR cards s).length<=1000000)(ha:∀ o∈s.aa,(ofM cards o).aT.length*640<=ba):Ct ae 53 [.c (.t (.sl 17 (cards.map bX.enc))),.agg (s.enc.map .t)] (.c (.t (.sl 23 ((ajR cards s).map bN.enc)))) [] false:=by
 have h8:s.aa.length*128<=ba:=aA.vE hs
 have hco:s.dG.length*80<=ba:=by
  have:=aA.Mm hs;exact this
 have uF:(s.aa.flatMap (kF cards)).length<=1000000:=by
  unfold ajR at hn;rw[au] at hn;omega
 have Ae:(s.aa.flatMap (kF cards)).length+s.dG.length<=1000000:=by
  unfold ajR at hn;rw[au,Lm] at hn;omega
 unfold ajR;refine cT Tryz.func53 rfl (by kernel_rfl) rfl fun w0 O _=>aBW [] ?_;refine aBY (fun k:Nat=>⟨[(0,.c (.t (.sl 17 (cards.map bX.enc)))),(3,.ptr 0 0),(5,.c (.row 9000 0)),(6,aBZ k)],[(0,s.enc.map .t)],[(9000,⟨143,23,0,((s.aa.take k).flatMap (kF cards)).map bN.enc,none⟩)],10000⟩) (fun k=>k<=s.aa.length) (fun k=>s.aa.length - k) 0 ?_ (aD _) ?_
 ·refine bh [(9000,256)] rfl rfl ?_ ⟨aV _ rfl,trivial⟩ ?_
  all_goals repeat' first|refine Ai ?_ ?_|exact rfl|exact⟨⟩|exact Ei _ rfl|refine aj ?_|refine bS ?_
 rintro k hk;refine aBW [7,14,4] ?_;refine cS (fun h=>?_) (fun h=>?_)
 ·have aS:k < s.aa.length:=cN h
  have fR:(s.aa.take (k+1)).flatMap (kF cards)=(s.aa.take k).flatMap (kF cards)++kF cards s.aa[k]:=by
   rw[bc aS,List.flatMap_append,List.flatMap_singleton]
  have Tq:=Wr cards s.aa (k+1);rw[fR,au] at Tq;refine Ei k (Ei (s.aa[k].enc) (Ai rfl (Ai (aQ _ _ k aS) ?_)));refine cS (fun hz=>?_) (fun hz=>?_)
  ·have hz:(s.aa[k].cg==0)=false:=by simpa using hz
   have Zr:kF cards s.aa[k]=[]:=by unfold kF;rw[if_neg (by rw[hz];decide)]
   rw[Zr,aZ] at fR;refine aBW [] ?_;refine Ei (k+1) (Ai (show k+1<=_ by omega) (Ai (show s.aa.length - (k+1) < s.aa.length - k by omega) ?_));refine bh [(9000,9000)] rfl rfl ?_ ⟨aV _ rfl,trivial⟩ ?_
   all_goals repeat' first|refine Ai ?_ ?_|exact rfl|exact⟨⟩|exact Ei _ rfl|refine aj ?_|refine bS ?_
   exact ed k aS 128 (by decide) h8;exact congrArg (List.map bN.enc) fR.symm
  ·have hz:(s.aa[k].cg==0)=true:=by simpa using hz
   have Wc:=ha _ (aI aS);have Zr:kF cards s.aa[k]=ajW s.aa[k] 0 (ofM cards s.aa[k]).aT:=by unfold kF;rw[if_pos hz]
   rw[Zr] at fR Tq;refine aBW [] ?_;refine cR (S4 cards s.aa[k] hc mc) ⟨rfl,fL s.aa[k].enc,trivial⟩ ?_;generalize ofM cards s.aa[k]=t at *;generalize (s.aa.take k).flatMap (kF cards)=X at *;refine aBY (fun j:Nat=>⟨[(0,.c (.t (.sl 17 (cards.map bX.enc)))),(3,.ptr 0 0),(5,.c (.row 9000 0)),(6,aBZ k),(7,.ptr 11280 0),(8,.ptr 12304 0),(9,aBZ j)],[(0,s.enc.map .t),(11280,s.aa[k].enc.map .t),(12304,t.enc.map .t)],[(9000,⟨143,23,0,(X++ajW s.aa[k] 0 (t.aT.take j)).map bN.enc,none⟩)],20000⟩) (fun j=>j<=t.aT.length) (fun j=>t.aT.length - j) 0 ?_ (aD _) ?_
   ·refine bh [(9000,9000)] rfl rfl ?_ ⟨aV _ rfl,aV _ rfl,aV _ rfl,trivial⟩ ?_
    all_goals repeat' first|refine Ai ?_ ?_|exact rfl|exact⟨⟩|exact Ei _ rfl|refine aj ?_|refine bS ?_
    exact congrArg (List.map bN.enc) (aZ X).symm
   rintro j hj;refine aBW [10] ?_;refine cS (fun h=>?_) (fun h=>?_)
   ·have VK:j < t.aT.length:=cN h;have hsa:=J1 s.aa[k] t.aT j VK;have hpa:=NP s.aa[k] t.aT j
    have kY:(((X++ajW s.aa[k] 0 (t.aT.take j)).map bN.enc).length+1)*224<=140737488355328/\((X++ajW s.aa[k] 0 (t.aT.take j)).map bN.enc).length+1 < 140737488355328:=by
     rw[Lm,au];omega
    refine Ei j (Ei (t.aT[j].enc) (Ai rfl (Ai (aQ _ _ j VK) ?_)));refine cS (fun h1=>?_) (fun h1=>?_)
    ·rw[if_pos (show(t.aT[j].kind==1)=true from h1)] at hsa;have hfa:X++ajW s.aa[k] 0 (t.aT.take j)++[(⟨s.aa[k].id,j,s.aa[k].aaB,s.aa[k].du,false,[],t.aT[j].filter,t.aT[j].cA⟩:bN)]=X++ajW s.aa[k] 0 (t.aT.take (j+1)):=by rw[hsa,cH]
     (try refine aBW [] ?_)
     refine Ai (.inl rfl) (Ai kY.1 (Ai kY.2 ?_));refine Tp.U5 9000 ((X++ajW s.aa[k] 0 (t.aT.take (j+1))).map bN.enc) rfl rfl ?_ (aBW [] ?_)
     ·rw[<- hfa,aW (l₁:=X++ajW s.aa[k] 0 (t.aT.take j))];refine Mw _ ?_
      repeat' (first|exact A2.nil|refine A2.cons (.inl rfl) ?_|refine A2.cons (.inr ⟨_,_,rfl,rfl⟩) ?_)
     refine Ei (j+1) (Ai (show j+1<=_ by omega) (Ai (show t.aT.length - (j+1) < t.aT.length - j by omega) ?_));refine bh [(9000,9000)] rfl rfl ?_ ⟨aV _ rfl,aV _ rfl,aV _ rfl,trivial⟩ ?_
     all_goals repeat' first|refine Ai ?_ ?_|exact rfl|exact⟨⟩|exact Ei _ rfl|refine aj ?_|refine bS ?_
     exact ed j VK 640 (by decide) Wc
    ·rw[if_neg (by rw[show(t.aT[j].kind==1)=false from h1];decide),aZ] at hsa;refine aBW [] ?_;refine Ei (j+1) (Ai (show j+1<=_ by omega) (Ai (show t.aT.length - (j+1) < t.aT.length - j by omega) ?_));refine bh [(9000,9000)] rfl rfl ?_ ⟨aV _ rfl,aV _ rfl,aV _ rfl,trivial⟩ ?_
     all_goals repeat' first|refine Ai ?_ ?_|exact rfl|exact⟨⟩|exact Ei _ rfl|refine aj ?_|refine bS ?_
     exact ed j VK 640 (by decide) Wc;rw[hsa]
   ·have Rx:=cP h hj;subst Rx;rw[show t.aT.take t.aT.length=t.aT from bm]
    (try refine aBW [] ?_)
    refine Ei (k+1) (Ai (show k+1<=_ by omega) (Ai (show s.aa.length - (k+1) < s.aa.length - k by omega) ?_));refine bh [(9000,9000)] rfl rfl ?_ ⟨aV _ rfl,trivial⟩ ?_
    all_goals repeat' first|refine Ai ?_ ?_|exact rfl|exact⟨⟩|exact Ei _ rfl|refine aj ?_|refine bS ?_
    exact ed k aS 128 (by decide) h8;exact congrArg (List.map bN.enc) fR.symm
 ·have fS:=cP h hk;subst fS;rw[show s.aa.take s.aa.length=s.aa from bm];generalize s.aa.flatMap (kF cards)=X at *;refine aBW [] ?_;refine aBY (fun k:Nat=>⟨[(3,.ptr 0 0),(5,.c (.row 9000 0)),(11,aBZ k)],[(0,s.enc.map .t)],[(9000,⟨143,23,0,(X++(s.dG.take k).map Aq).map bN.enc,none⟩)],20000⟩) (fun k=>k<=s.dG.length) (fun k=>s.dG.length - k) 0 ?_ (aD _) ?_
  ·refine bh [(9000,9000)] rfl rfl ?_ ⟨aV _ rfl,trivial⟩ ?_
   all_goals repeat' first|refine Ai ?_ ?_|exact rfl|exact⟨⟩|exact Ei _ rfl|refine aj ?_|refine bS ?_
   exact congrArg (List.map bN.enc) (aZ X).symm
  rintro k hk;refine aBW [] ?_;refine cS (fun h=>?_) (fun h=>?_)
  ·have aS:k < s.dG.length:=cN h
   have kY:(((X++(s.dG.take k).map Aq).map bN.enc).length+1)*224<=140737488355328/\((X++(s.dG.take k).map Aq).map bN.enc).length+1 < 140737488355328:=by
    rw[Lm,au,Lm,aB];omega
   refine Ei k (Ei (s.dG[k].enc) (Ai rfl (Ai (aQ _ _ k aS) ?_)))
   have hfa:X++(s.dG.take k).map Aq++[Aq s.dG[k]]=X++(s.dG.take (k+1)).map Aq:=by
    rw[bc aS,aW,cH];rfl
   refine Ai (.inl rfl) (Ai kY.1 (Ai kY.2 ?_));refine Ei (k+1) (Ai (show k+1<=_ by omega) (Ai (show s.dG.length - (k+1) < s.dG.length - k by omega) ?_));refine bh [(9000,9000)] rfl rfl ?_ ⟨aV _ rfl,trivial⟩ ?_
   all_goals repeat' first|refine Ai ?_ ?_|exact rfl|exact⟨⟩|exact Ei _ rfl|refine aj ?_|refine bS ?_
   exact ed k aS 80 (by decide) hco;exact(apF (X:=X++(s.dG.take k).map Aq) (y:=Aq s.dG[k])).trans (congrArg (List.map bN.enc) hfa)
  ·have fS:=cP h hk;subst fS;refine Ei [] ?_
   repeat' first|refine Ai ?_ ?_|exact rfl|exact⟨⟩|exact Ei _ rfl
   rw[bm];exact rfl
noncomputable def J4 (cards:List bX)(s:aA):Wd:=⟨s.aa.map (ofM cards),List.replicate (ajR cards s).length false,List.replicate (ajR cards s).length [],List.replicate s.aa.length false⟩
theorem EO {cards:List bX}(mc:∀ y∈cards,bX.ok y)(o:aE):(ofM cards o).ok:=by
 have key:∀ (t:aG) (n:Int),t.ok->({ t with aaB:=n }:aG).ok:=fun t n h=>h;unfold ofM;refine key _ _ ?_;generalize (if o.copy < 0 then o.dK else o.copy)=i;split
 ·rename_i c hc;split at hc
  ·cases hc
  ·exact UC (mc c (aU hc))
 ·exact xE
theorem forM_ok {cards:List bX}{s:aA}(mc:∀ y∈cards,bX.ok y)(hs:s.ok):∀ f∈ajR cards s,bN.ok f:=fun f hf=>by
 have hA:∀ (o:aE) (l:List cz) (k:Nat),(∀ a∈l,cz.ok a)->∀ f∈ajW o k l,bN.ok f:=by
  intro o l
  induction l with
  | nil=>intro k _ f hf;cases hf
  | cons a r ih=>
   intro k hl f hf;rcases aX.1 hf with hf|hf
   ·split at hf
    ·rw[aJ.1 hf];obtain⟨h1,h2,h3,_⟩:=hl a aC;exact⟨aD _,h1,h2,h3⟩
    ·cases hf
   ·exact ih (k+1) (fun a ha=>hl a (aK _ ha)) f hf
 rcases aX.1 hf with hf|hf
 ·obtain⟨o,_,hf⟩:=List.mem_flatMap.1 hf;unfold kF at hf;split at hf
  ·exact hA o _ 0 (EO mc o).2.2.2 f hf
  ·cases hf
 ·obtain⟨c,hc,rfl⟩:=bA.1 hf;obtain⟨h1,h2,h3⟩:=aA.Jj hs c hc;exact⟨h1,by show cC.ok DX;simp[cC.ok,ej.ok],h2,h3⟩
theorem H4 {cards:List bX}{s:aA}(mc:∀ y∈cards,bX.ok y)(hs:s.ok)(ho:s.aa.length<=4000)(hn:(ajR cards s).length<=1000000):pr s (ajR cards s) (J4 cards s):=
 ⟨ho,hn,forM_ok mc hs,Lm ..,cc,cc,cc,fun y hy=>by
  obtain⟨o,_,rfl⟩:=bA.1 hy;exact EO mc o,fun z hz=>by
  rw[List.eq_of_mem_replicate hz];exact aD _⟩
theorem Gm {s:aA}{L:List bN}{aP:Int}:∀ (f:Nat) (w:Wd) (m o:List Int),pr s L w->pr s L (xj s L aP f w m o).1
 | 0,_,_,_,h=>h
 | f+1,w,m,o,h=>by
  unfold xj;exact Gm f _ _ _ (AO h _ _ _)
theorem Gk {s:aA}{L:List bN}{w:Wd}(H:pr s L w)(aP:Int):pr s L (aeT s L w aP).1:=by
 unfold aeT;refine Gm _ _ _ _ ?_;split
 ·exact Ih H
 ·exact H
theorem agW {X:List aG}{y:aG}:X.map aG.enc++[y.enc]=(X++[y]).map aG.enc:=by rw[aW];rfl
theorem R5 (cards:List bX)(s:aA)(hc:cards.length*176<=ba)(mc:∀ y∈cards,bX.ok y)(hs:s.ok)(ho:s.aa.length<=4000)(hn:(ajR cards s).length<=1000000):Ct ae 22 [.c (.t (.sl 17 (cards.map bX.enc))),.agg (s.enc.map .t)] (.agg ((wE s (ajR cards s) (J4 cards s)).map .t)) [] false:=by
 have h8:s.aa.length*128<=ba:=aA.vE hs;have Zr:=NM cards s hc mc hs hn fun o _=>(EO mc o).2.2.1;have hW:J4 cards s=⟨s.aa.map (ofM cards),List.replicate (ajR cards s).length false,List.replicate (ajR cards s).length [],List.replicate s.aa.length false⟩:=rfl;generalize J4 cards s=W at *;generalize ajR cards s=L at *;refine cT Tryz.func22 rfl (by kernel_rfl) rfl fun w0 O _=>aBW [] ?_;refine cR Zr ⟨rfl,fL s.enc,trivial⟩ ?_;refine aBY (fun k:Nat=>⟨[(0,.c (.t (.sl 17 (cards.map bX.enc)))),(3,.ptr 0 0),(4,.ptr 128 0),(5,.ptr 896 0),(6,aBZ k)],[(0,s.enc.map .t),(128,List.replicate 24 .bot),(896,s.enc.map .t++[.row 9000 0,.t (.sl 23 (L.map bN.enc)),.nil,.nil,.nil])],[(9000,⟨138,17,0,((s.aa.take k).map (ofM cards)).map aG.enc,none⟩)],10000⟩) (fun k=>k<=s.aa.length) (fun k=>s.aa.length - k) 0 ?_ (aD _) ?_
 ·refine bh [] rfl rfl ?_ ?_ ?_
  ·repeat' first|refine Ai ?_ ?_|exact rfl|exact⟨⟩|exact Ei _ rfl
  ·refine⟨aV _ rfl,?_,?_,trivial⟩
   all_goals repeat' first|refine Ai ?_ ?_|exact rfl|exact⟨⟩|exact Ei _ rfl|refine aj ?_|refine bS ?_
  ·repeat' first|refine Ai ?_ ?_|exact rfl|exact⟨⟩|exact Ei _ rfl
 rintro k hk;refine aBW [6,7,8,9] ?_;refine cS (fun h=>?_) (fun h=>?_)
 ·have aS:k < s.aa.length:=cN h
  have kY:((((s.aa.take k).map (ofM cards)).map aG.enc).length+1)*176<=140737488355328/\(((s.aa.take k).map (ofM cards)).map aG.enc).length+1 < 140737488355328:=by
   rw[Lm,Lm,aB];omega
  have fR:(s.aa.take k).map (ofM cards)++[ofM cards s.aa[k]]=(s.aa.take (k+1)).map (ofM cards):=by
   rw[bc aS,aW];rfl
  refine Ei k (Ei (s.aa[k].enc) (Ai rfl (Ai (aQ _ _ k aS) ?_)));refine cR (S4 cards s.aa[k] hc mc) ⟨rfl,fL s.aa[k].enc,trivial⟩ ?_;refine Ai (.inl rfl) (Ai kY.1 (Ai kY.2 ?_));refine Ei (k+1) (Ai (show k+1<=_ by omega) (Ai (show s.aa.length - (k+1) < s.aa.length - k by omega) ?_));refine bh [(9000,9000)] rfl rfl ?_ ?_ ?_
  ·repeat' first|refine Ai ?_ ?_|exact rfl|exact⟨⟩|exact Ei _ rfl|refine aj ?_|refine bS ?_
   exact ed k aS 128 (by decide) h8
  ·refine⟨aV _ rfl,?_,?_,trivial⟩
   all_goals repeat' first|refine Ai ?_ ?_|exact rfl|exact⟨⟩|exact Ei _ rfl|refine aj ?_|refine bS ?_
  ·repeat' first|refine Ai ?_ ?_|exact rfl|exact⟨⟩|exact Ei _ rfl|refine aj ?_|refine bS ?_
   exact agW.trans (congrArg (List.map aG.enc) fR)
 ·have fS:k=s.aa.length:=cP h hk;subst fS;rw[bm]
  (try refine aBW [] ?_)
  refine Ei L.length (Ei [bv false] (Ai (Ai (congrArg (fun n:Nat=>(n:Int)) (Lm ..)) (congrArg (fun n:Nat=>(n:Int)) (Lm ..))) (Ai ?_ (Ai (Ai (show L.length*1<=140737488355328 by omega) (show L.length < 140737488355328 by omega)) ?_))))
  ·repeat' first|refine Ai ?_ ?_|exact rfl|exact⟨⟩|exact Ei _ rfl|refine aj ?_|refine bS ?_
  (try refine aBW [] ?_)
  refine Ei L.length (Ei [.sl 1 []] (Ai (Ai (congrArg (fun n:Nat=>(n:Int)) (Lm ..)) (congrArg (fun n:Nat=>(n:Int)) (Lm ..))) (Ai ?_ (Ai (Ai (show L.length*24<=140737488355328 by omega) (show L.length < 140737488355328 by omega)) ?_))))
  ·repeat' first|refine Ai ?_ ?_|exact rfl|exact⟨⟩|exact Ei _ rfl|refine aj ?_|refine bS ?_
  (try refine aBW [] ?_)
  refine Ei s.aa.length (Ei [bv false] (Ai (Ai (congrArg (fun n:Nat=>(n:Int)) (Lm ..)) (congrArg (fun n:Nat=>(n:Int)) (Lm ..))) (Ai ?_ (Ai (Ai (show s.aa.length*1<=140737488355328 by omega) (show s.aa.length < 140737488355328 by omega)) ?_))))
  ·repeat' first|refine Ai ?_ ?_|exact rfl|exact⟨⟩|exact Ei _ rfl|refine aj ?_|refine bS ?_
  (try refine aBW [] ?_)
  have e1:∀ n:Nat,(List.replicate n false).map tB=List.replicate n [bv false]:=fun n=>by rw[List.map_replicate];rfl
  have e2:∀ n:Nat,(List.replicate n ([]:List Int)).map tZ=List.replicate n [Tr.sl 1 []]:=fun n=>by rw[List.map_replicate];rfl
  have hE:wE s L W=s.enc++[.sl 17 ((s.aa.map (ofM cards)).map aG.enc),.sl 23 (L.map bN.enc),.sl 1 (List.replicate L.length [bv false]),.sl 1 (List.replicate L.length [Tr.sl 1 []]),.sl 1 (List.replicate s.aa.length [bv false])]:=by
   rw[hW];unfold wE;rw[e1,e2,e1]
  rw[hE];refine Ei [] ?_
  repeat' first|refine Ai ?_ ?_|exact rfl|exact⟨⟩|exact Ei _ rfl
noncomputable def AQ (s:aA)(L:List bN):Nat->Nat->Wd->Wd
 | 0,_,w=>w
 | f+1,k,w=>AQ s L f (k+1) (aeT s L w (k:Int)).1
noncomputable def ahV (cards:List bX)(s:aA):List aG:=(AQ s (ajR cards s) 8 1 (J4 cards s)).all
theorem Z7 (cards:List bX)(s:aA)(hc:cards.length*176<=ba)(mc:∀ y∈cards,bX.ok y)(hs:s.ok)(ho:s.aa.length<=4000)(hn:(ajR cards s).length<=1000000):Ct ae 11 [.c (.t (.sl 17 (cards.map bX.enc))),.agg (s.enc.map .t)] (.c (.t (.sl 17 ((ahV cards s).map aG.enc)))) [] false:=by
 have hfi:=R5 cards s hc mc hs ho hn;have H0:=H4 mc hs ho hn;generalize hM:ahV cards s=M;unfold ahV at hM;generalize J4 cards s=W at *;generalize ajR cards s=L at *;refine cT Tryz.func11 rfl (by kernel_rfl) rfl fun w0 O _=>aBW [] ?_;refine cR hfi ⟨rfl,fL s.enc,trivial⟩ ?_;refine aBY (α:=Nat × Wd) (fun x=>⟨[(5,.ptr 640 0),(6,aBZ x.1)],[(640,(wE s L x.2).map .t)],[],10000⟩) (fun x=>(1<=x.1/\x.1<=9)/\pr s L x.2/\(AQ s L (9 - x.1) x.1 x.2).all=M) (fun x=>9 - x.1) (1,W) ?_ ⟨⟨al _,by show(1:Nat)<=9;decide⟩,H0,hM⟩ ?_
 ·refine bh [] rfl rfl ?_ ?_ ?_
  ·repeat' first|refine Ai ?_ ?_|exact rfl|exact⟨⟩|exact Ei _ rfl
  ·refine⟨?_,trivial⟩
   repeat' first|refine Ai ?_ ?_|exact rfl|exact⟨⟩|exact Ei _ rfl|refine aj ?_|refine bS ?_
  ·repeat' first|refine Ai ?_ ?_|exact rfl|exact⟨⟩|exact Ei _ rfl
 rintro⟨k,w⟩ ⟨⟨hk1,hk9⟩,Hw,he⟩;have hk1:1<=k:=hk1;have hk9:k<=9:=hk9;have Hw:pr s L w:=Hw;have he:(AQ s L (9 - k) k w).all=M:=he;refine aBW [] ?_;refine cS (fun h=>?_) (fun h=>?_)
 ·have hk:k<=8:=by
   have:(k:Int)<=8:=of_decide_eq_true h;omega
  rw[show 9 - k=(9 - (k+1))+1 by omega,AQ] at he;refine cR (Lj s L w Hw (k:Int)) ⟨fL (wE s L w),rfl,trivial⟩ ?_;refine Ei (k+1,(aeT s L w (k:Int)).1) (Ai ⟨⟨show 1<=k+1 by omega,show k+1<=9 by omega⟩,Gk Hw _,he⟩ (Ai (show 9 - (k+1) < 9 - k by omega) ?_));refine bh [] rfl rfl ?_ ?_ ?_
  ·repeat' first|refine Ai ?_ ?_|exact rfl|exact⟨⟩|exact Ei _ rfl
   exact ve k (by omega)
  ·refine⟨?_,trivial⟩
   repeat' first|refine Ai ?_ ?_|exact rfl|exact⟨⟩|exact Ei _ rfl|refine aj ?_|refine bS ?_
  ·repeat' first|refine Ai ?_ ?_|exact rfl|exact⟨⟩|exact Ei _ rfl
 ·have hk:k=9:=by
   have:¬ (k:Int)<=8:=of_decide_eq_false h;omega
  subst hk;have he:w.all=M:=he;subst he
  (try refine aBW [] ?_)
  refine Ei [] ?_
  repeat' first|refine Ai ?_ ?_|exact rfl|exact⟨⟩|exact Ei _ rfl
instance:Inhabited aF:=⟨⟨0,0,0,uP,false⟩⟩
theorem IB {a b n:Nat}(h:a+b<=n)(hn:n*672<=ba):IntKind.i64.wrap ((a:Int)+(b:Int))=((a+b:Nat):Int):=by
 unfold ba at hn;rw[ak];omega
theorem qS {a b n:Nat}(h:b<=a)(h2:a<=n)(hn:n*672<=ba):IntKind.i64.wrap ((a:Int) - (b:Int))=((a - b:Nat):Int):=by
 unfold ba at hn;rw[ak];omega
theorem pA {a n:Nat}(h:1<=a)(h2:a<=n)(hn:n*672<=ba):IntKind.i64.wrap ((a:Int) - 1)=((a - 1:Nat):Int):=by
 unfold ba at hn;rw[ak];omega
theorem u7 {a n:Nat}(h:a<=n)(hn:n*672<=ba):IntKind.i64.wrap ((a:Int)+1)=((a+1:Nat):Int):=by
 unfold ba at hn;rw[ak];omega
theorem lmap {k:Nat}{X:List aF}(h:k < X.length):k < (X.map aF.enc).length:=by rw[Lm];exact h
theorem G7 {k j:Nat}{X:List aF}{y:List Tr}(h:k < X.length):k < ((X.map aF.enc).set j y).length:=by rw[bG,Lm];exact h
theorem kW {k:Nat}{X:List aF}(h:k < X.length):(X.map aF.enc)[k]? = some (aF.enc X[k]!):=by
 rw[bp,cD h,getElem!_pos X k h];rfl
theorem GZ {k j:Nat}{X:List aF}{y:aF}(h:k < X.length):∃ z,((X.map aF.enc).set j y.enc)[k]? = some (aF.enc z):=by
 rw[<- fF,kW (by rw[bG];exact h)];exact⟨_,rfl⟩
theorem Gf (X:List aF)(a b:Nat):((X.map aF.enc).set a (aF.enc X[b]!)).set b (aF.enc X[a]!)=(xL X a b).map aF.enc:=by
 rw[<- fF,<- fF];rfl
theorem rI (g:Nat)(l:List aF)(a b n:Nat)(h1:a+n<=l.length)(h2:b+n<=l.length)(hl:l.length*672<=ba):F7 ae 225 [.c (.row 0 0),.c (.t (iv (a:Int))),.c (.t (iv (b:Int))),.c (.t (iv (n:Int))),.fn g []] [] [⟨100,76,0,l.map aF.enc,none⟩] (.fH []) [] [⟨100,76,0,(swR n a b l).map aF.enc,none⟩] []:=by
 refine jC 1 Tryz.func225 rfl (enters_of Tryz.func225 (by kernel_rfl) rfl) tabOk (by kernel_rfl) rfl rfl rfl rfl rfl fun w0 O _=>aBW [] ?_;refine Tp.lE (fun x:Nat × List aF=>⟨[(0,.c (.row 0 0)),(1,.c (.t (iv (a:Int)))),(2,.c (.t (iv (b:Int)))),(3,.c (.t (iv (n:Int)))),(4,.fn g []),(10,aBZ x.1)],[],[(0,⟨100,76,0,x.2.map aF.enc,none⟩)],10000⟩) (fun x=>x.1<=n/\x.2.length=l.length/\swR (n - x.1) (a+x.1) (b+x.1) x.2=swR n a b l) (fun x=>n - x.1) (0,l) ?_ ⟨aD _,rfl,rfl⟩ ?_
 ·refine dz (n1:=1) rfl rfl ?_ ?_ ?_
  all_goals repeat' first|refine Ai ?_ ?_|exact rfl|exact⟨⟩|exact Ei _ rfl|refine aj ?_|refine bS ?_
 rintro⟨i,X⟩ ⟨hi,hX,he⟩;simp only at hi hX he;refine aBW [3,2] ?_;refine cS (fun hc=>?_) (fun hc=>?_)
 ·have aS:i < n:=by simpa using hc
  refine aBW [] ?_;have ha:a+i < X.length:=by omega
  have hb:b+i < X.length:=by omega
  refine Ei (b+i) (Ai (IB (by omega) hl) (Ai (lmap hb) ?_));refine Ei (aF.enc X[b+i]!) (Ei _ (Ai (kW hb) (Ai rfl ?_)));refine Ei (a+i) (Ai (IB (by omega) hl) (Ai (lmap ha) ?_));refine Ei (aF.enc X[a+i]!) (Ei _ (Ai (kW ha) (Ai rfl ?_)));refine Ei (a+i) (Ai (IB (by omega) hl) (Ai (lmap ha) ?_));refine Ei (aF.enc X[a+i]!) (Ai (kW ha) (Ai (Nb rfl) ?_));refine Ei (b+i) (Ai (IB (by omega) hl) (Ai (G7 hb) ?_));obtain⟨z,hz⟩:=GZ (k:=b+i) (j:=a+i) (X:=X) (y:=X[b+i]!) hb;refine Ei (aF.enc z) (Ai hz (Ai (Nb rfl) ?_));refine aBW [] ?_;have hs:n - i=(n - (i+1))+1:=by omega
  rw[hs,swR] at he;refine Ei (i+1,xL X (a+i) (b+i)) (Ai ⟨by simp only;omega,by simp only;rw[aaX];exact hX,he⟩ (Ai (show n - (i+1) < n - i by omega) ?_));refine dz (n1:=1) rfl rfl ?_ ?_ ?_
  ·repeat' first|refine Ai ?_ ?_|exact rfl|exact⟨⟩|exact Ei _ rfl|refine aj ?_|refine bS ?_
   all_goals exact congrArg (fun n=>aBZ n) (IB (a:=i) (b:=1) (n:=l.length) (by omega) hl)
  ·repeat' first|refine Ai ?_ ?_|exact rfl|exact⟨⟩|exact Ei _ rfl|refine aj ?_|refine bS ?_
  ·repeat' first|refine Ai ?_ ?_|exact rfl|exact⟨⟩|exact Ei _ rfl|refine aj ?_|refine bS ?_
   all_goals exact congrArg (fun z=>some (Row.mk 100 76 0 z none)) (Gf X (a+i) (b+i))
 ·have uj:i=n:=by
   have:¬ i < n:=by simpa using hc
   omega
  subst uj;rw[Nat.sub_self,swR] at he;refine Ei [(0,0)] (Ai (Ai rfl (Ai ?_ (Ai ?_ ?_))) ?_)
  ·repeat' first|refine Ai ?_ ?_|exact rfl|exact⟨⟩|exact Ei _ rfl|refine aj ?_|refine bS ?_
   all_goals exact congrArg (List.map aF.enc) he
  all_goals repeat' first|refine Ai ?_ ?_|exact rfl|exact⟨⟩|exact Ei _ rfl|refine aj ?_|refine bS ?_
theorem PF (g:Nat)(l:List aF)(a m b f:Nat)(h1:a < m)(h2:m < b)(h3:b<=l.length)(hf:b - a<=f)(hl:l.length*672<=ba):F7 ae 179 [.c (.row 0 0),.c (.t (iv (a:Int))),.c (.t (iv (m:Int))),.c (.t (iv (b:Int))),.fn g []] [] [⟨100,76,0,l.map aF.enc,none⟩] (.fH []) [] [⟨100,76,0,(xa m f (m - a) (b - m) l).map aF.enc,none⟩] []:=by
 refine jC 1 Tryz.func179 rfl (enters_of Tryz.func179 (by kernel_rfl) rfl) tabOk (by kernel_rfl) rfl rfl rfl rfl rfl fun w0 O _=>aBW [8] ?_;refine Tp.lE (fun x:Nat × Nat × Nat × List aF=>⟨[(0,.c (.row 0 0)),(1,.c (.t (iv (a:Int)))),(2,.c (.t (iv (m:Int)))),(3,.c (.t (iv (b:Int)))),(4,.fn g []),(10,aBZ x.2.1),(11,aBZ x.2.2.1)],[],[(0,⟨100,76,0,x.2.2.2.map aF.enc,none⟩)],10000⟩) (fun x=>0 < x.2.1/\0 < x.2.2.1/\x.2.1+x.2.2.1<=x.1/\x.2.1<=m/\m+x.2.2.1<=l.length/\x.2.2.2.length=l.length/\xa m x.1 x.2.1 x.2.2.1 x.2.2.2=xa m f (m - a) (b - m) l) (fun x=>x.2.1+x.2.2.1) (f,m - a,b - m,l) ?_ ⟨by simp only;omega,by simp only;omega,by simp only;omega,by simp only;omega,by simp only;omega,rfl,rfl⟩ ?_
 ·refine dz (n1:=1) rfl rfl ?_ ?_ ?_
  ·repeat' first|refine Ai ?_ ?_|exact rfl|exact⟨⟩|exact Ei _ rfl|refine aj ?_|refine bS ?_
   ·exact congrArg (fun n=>aBZ n) (qS (a:=m) (b:=a) (n:=l.length) (by omega) (by omega) hl)
   ·exact congrArg (fun n=>aBZ n) (qS (a:=b) (b:=m) (n:=l.length) (by omega) (by omega) hl)
  all_goals repeat' first|refine Ai ?_ ?_|exact rfl|exact⟨⟩|exact Ei _ rfl|refine aj ?_|refine bS ?_
 rintro⟨q,i,j,X⟩ ⟨hi,hj,hq,him,Tv,hX,he⟩;simp only at hi hj hq him Tv hX he;obtain⟨q,rfl⟩:∃ p,q=p+1:=⟨q - 1,by omega⟩
 refine aBW [3,4,6] ?_;refine cS (fun hc=>?_) (fun hc=>?_)
 ·have gX:¬ i=j:=fun e=>by subst e;simp at hc
  rw[xa,if_neg gX] at he;refine aBW [4,6] ?_;refine cS (fun hc=>?_) (fun hc=>?_)
  ·have aS:j < i:=by simpa using hc
   rw[if_pos aS] at he;refine aBW [] ?_;refine cM [] [(0,0)] (rI g X (m - i) m j (by omega) (by omega) (by rw[hX];exact hl)) ?_ ?_ ?_
   ·repeat' first|refine Ai ?_ ?_|exact rfl|exact⟨⟩|exact Ei _ rfl|refine aj ?_|refine bS ?_
    exact congrArg (fun n=>iv n) (qS (a:=m) (b:=i) (n:=l.length) (by omega) (by omega) hl)
   ·exact rfl
   refine Ei (q,i - j,j,swR j (m - i) m X) (Ai ⟨by simp only;omega,hj,by simp only;omega,by simp only;omega,Tv,by simp only;rw[aaZ];exact hX,he⟩ (Ai (show i - j+j < i+j by omega) ?_));refine dz (n1:=1) rfl rfl ?_ ?_ ?_
   ·repeat' first|refine Ai ?_ ?_|exact rfl|exact⟨⟩|exact Ei _ rfl|refine aj ?_|refine bS ?_
    exact congrArg (fun n=>aBZ n) (qS (a:=i) (b:=j) (n:=l.length) (by omega) (by omega) hl)
   all_goals repeat' first|refine Ai ?_ ?_|exact rfl|exact⟨⟩|exact Ei _ rfl|refine aj ?_|refine bS ?_
  ·have aS:¬ j < i:=by simpa using hc
   rw[if_neg aS] at he;refine aBW [] ?_;refine cM [] [(0,0)] (rI g X (m - i) (m+j - i) i (by omega) (by omega) (by rw[hX];exact hl)) ?_ ?_ ?_
   ·repeat' first|refine Ai ?_ ?_|exact rfl|exact⟨⟩|exact Ei _ rfl|refine aj ?_|refine bS ?_
    ·exact congrArg (fun n=>iv n) (qS (a:=m) (b:=i) (n:=l.length) (by omega) (by omega) hl)
    ·refine congrArg (fun n=>iv n) ?_;show IntKind.i64.wrap (IntKind.i64.wrap ((m:Int)+(j:Int)) - (i:Int))=_;rw[IB (n:=l.length) (by omega) hl,qS (n:=l.length) (by omega) (by omega) hl]
   ·exact rfl
   refine Ei (q,i,j - i,swR i (m - i) (m+j - i) X) (Ai ⟨hi,by simp only;omega,by simp only;omega,him,by simp only;omega,by simp only;rw[aaZ];exact hX,he⟩ (Ai (show i+(j - i) < i+j by omega) ?_));refine dz (n1:=1) rfl rfl ?_ ?_ ?_
   ·repeat' first|refine Ai ?_ ?_|exact rfl|exact⟨⟩|exact Ei _ rfl|refine aj ?_|refine bS ?_
    exact congrArg (fun n=>aBZ n) (qS (a:=j) (b:=i) (n:=l.length) (by omega) (by omega) hl)
   all_goals repeat' first|refine Ai ?_ ?_|exact rfl|exact⟨⟩|exact Ei _ rfl|refine aj ?_|refine bS ?_
 ·have mP:i=j:=by
   have:((i:Int) != (j:Int))=false:=hc;have:(i:Int)=(j:Int):=by simpa using this
   omega
  subst mP;rw[xa,if_pos rfl] at he;refine aBW [] ?_;refine cM [] [(0,0)] (rI g X (m - i) m i (by omega) (by omega) (by rw[hX];exact hl)) ?_ ?_ ?_
  ·repeat' first|refine Ai ?_ ?_|exact rfl|exact⟨⟩|exact Ei _ rfl|refine aj ?_|refine bS ?_
   exact congrArg (fun n=>iv n) (qS (a:=m) (b:=i) (n:=l.length) (by omega) (by omega) hl)
  ·exact rfl
  refine Ei [(0,0)] (Ai (Ai rfl (Ai ?_ (Ai ?_ ?_))) ?_)
  ·repeat' first|refine Ai ?_ ?_|exact rfl|exact⟨⟩|exact Ei _ rfl|refine aj ?_|refine bS ?_
   all_goals exact congrArg (List.map aF.enc) he
  all_goals repeat' first|refine Ai ?_ ?_|exact rfl|exact⟨⟩|exact Ei _ rfl|refine aj ?_|refine bS ?_
def gF (cf:aF->aF->Int)(x y:aF):Bool:=decide (cf x y < 0)
abbrev OP (g:Nat)(cf:aF->aF->Int):Prop:=∀ x y:aF,Ct ae g [.agg (x.enc.map .t),.agg (y.enc.map .t)] (aBZ (cf x y)) [] true
theorem Cq (g:Nat)(cf:aF->aF->Int)(hg:OP g cf)(l:List aF)(a b:Nat)(h1:a<=b)(h2:b<=l.length)(hl:l.length*672<=ba):F7 ae 123 [.c (.row 0 0),.c (.t (iv (a:Int))),.c (.t (iv (b:Int))),.fn g []] [] [⟨100,76,0,l.map aF.enc,none⟩] (.fH []) [] [⟨100,76,0,(mo (gF cf) a (b - (a+1)) (a+1) l).map aF.enc,none⟩] []:=by
 refine jC 1 Tryz.func123 rfl (enters_of Tryz.func123 (by kernel_rfl) rfl) tabOk (by kernel_rfl) rfl rfl rfl rfl rfl fun w0 O _=>aBW [] ?_;refine Tp.lE (fun x:Nat × List aF=>⟨[(0,.c (.row 0 0)),(1,.c (.t (iv (a:Int)))),(2,.c (.t (iv (b:Int)))),(3,.fn g []),(8,aBZ x.1)],[],[(0,⟨100,76,0,x.2.map aF.enc,none⟩)],10000⟩) (fun x=>a+1<=x.1/\x.1<=b+1/\x.2.length=l.length/\mo (gF cf) a (b - x.1) x.1 x.2=mo (gF cf) a (b - (a+1)) (a+1) l) (fun x=>b+1 - x.1) (a+1,l) ?_ ⟨al _,Nat.succ_le_succ h1,rfl,rfl⟩ ?_
 ·refine dz (n1:=1) rfl rfl ?_ ?_ ?_
  ·repeat' first|refine Ai ?_ ?_|exact rfl|exact⟨⟩|exact Ei _ rfl|refine aj ?_|refine bS ?_
   exact congrArg (fun n=>aBZ n) (u7 (n:=l.length) (by omega) hl)
  all_goals repeat' first|refine Ai ?_ ?_|exact rfl|exact⟨⟩|exact Ei _ rfl|refine aj ?_|refine bS ?_
 rintro⟨i,X⟩ ⟨hai,hib,hX,he⟩;simp only at hai hib hX he;refine aBW [3,2] ?_;refine cS (fun hc=>?_) (fun hc=>?_)
 ·have aS:i < b:=by simpa using hc
  have hs:b - i=(b - (i+1))+1:=by omega
  rw[hs,mo] at he;refine aBW [2] ?_;refine Tp.lE (fun x:Nat × List aF=>⟨[(0,.c (.row 0 0)),(1,.c (.t (iv (a:Int)))),(2,.c (.t (iv (b:Int)))),(3,.fn g []),(8,aBZ i),(9,aBZ x.1)],[],[(0,⟨100,76,0,x.2.map aF.enc,none⟩)],20000⟩) (fun x=>x.1<=i/\x.2.length=l.length/\qn (gF cf) a x.1 x.2=qn (gF cf) a i X) (fun x=>x.1) (i,X) ?_ ⟨al _,hX,rfl⟩ ?_
  ·refine dz (n1:=1) rfl rfl ?_ ?_ ?_
   all_goals repeat' first|refine Ai ?_ ?_|exact rfl|exact⟨⟩|exact Ei _ rfl|refine aj ?_|refine bS ?_
  rintro⟨j,Y⟩ ⟨hj,hY,hd⟩;simp only at hj hY hd;refine aBW [6,5] ?_;refine cS (fun mZ=>?_) (fun mZ=>?_)
  ·have hja:a < j:=by simpa using mZ
   obtain⟨j,rfl⟩:∃ p,j=p+1:=⟨j - 1,by omega⟩
   have k1:j+1 < Y.length:=by omega
   have k0:j < Y.length:=by omega
   rw[qn,if_pos hja] at hd;refine Ei (j+1) (Ai rfl (Ai (lmap k1) ?_));refine Ei (aF.enc Y[j+1]!) (Ei _ (Ai (kW k1) (Ai rfl ?_)));refine Ei j (Ai (pA (a:=j+1) (n:=l.length) (by omega) (by omega) hl) (Ai (lmap k0) ?_));refine Ei (aF.enc Y[j]!) (Ei _ (Ai (kW k0) (Ai rfl ?_)));refine cF (hg Y[j+1]! Y[j]!) ⟨fL (aF.enc _),fL (aF.enc _),trivial⟩ ?_;refine cS (fun Zx=>?_) (fun Zx=>?_)
   ·have hq:gF cf Y[j+1]! Y[j]! = true:=Zx;rw[if_pos hq] at hd;refine aBW [] ?_;refine Ei j (Ai (pA (a:=j+1) (n:=l.length) (by omega) (by omega) hl) (Ai (lmap k0) ?_));refine Ei (aF.enc Y[j]!) (Ei _ (Ai (kW k0) (Ai rfl ?_)));refine Ei (j+1) (Ai rfl (Ai (lmap k1) ?_));refine Ei (aF.enc Y[j+1]!) (Ei _ (Ai (kW k1) (Ai rfl ?_)));refine Ei (j+1) (Ai rfl (Ai (lmap k1) ?_));refine Ei (aF.enc Y[j+1]!) (Ai (kW k1) (Ai (Nb rfl) ?_));refine Ei j (Ai (pA (a:=j+1) (n:=l.length) (by omega) (by omega) hl) (Ai (G7 k0) ?_));obtain⟨z,hz⟩:=GZ (k:=j) (j:=j+1) (X:=Y) (y:=Y[j]!) k0;refine Ei (aF.enc z) (Ai hz (Ai (Nb rfl) ?_));refine aBW [] ?_;refine Ei (j,xL Y (j+1) j) (Ai ⟨by simp only;omega,by simp only;rw[aaX];exact hY,hd⟩ (Ai (show j < j+1 by omega) ?_));refine dz (n1:=1) rfl rfl ?_ ?_ ?_
    all_goals repeat' first|refine Ai ?_ ?_|exact rfl|exact⟨⟩|exact Ei _ rfl|refine aj ?_|refine bS ?_
    exact congrArg (fun n=>aBZ n) (pA (a:=j+1) (n:=l.length) (by omega) (by omega) hl);exact congrArg (fun z=>some (Row.mk 100 76 0 z none)) (Gf Y (j+1) j)
   ·have hq:gF cf Y[j+1]! Y[j]! = false:=Zx;rw[hq,if_neg (by decide)] at hd;refine aBW [] ?_;refine Ei (i+1,Y) (Ai ⟨by simp only;omega,by simp only;omega,hY,by simp only;rw[<- hd] at he;exact he⟩ (Ai (show b+1 - (i+1) < b+1 - i by omega) ?_));refine dz (n1:=1) rfl rfl ?_ ?_ ?_
    ·repeat' first|refine Ai ?_ ?_|exact rfl|exact⟨⟩|exact Ei _ rfl|refine aj ?_|refine bS ?_
     exact congrArg (fun n=>aBZ n) (u7 (n:=l.length) (by omega) hl)
    all_goals repeat' first|refine Ai ?_ ?_|exact rfl|exact⟨⟩|exact Ei _ rfl|refine aj ?_|refine bS ?_
  ·have hja:¬ a < j:=by simpa using mZ
   have hd:Y=qn (gF cf) a i X:=by
    rw[<- hd]
    cases j with
    | zero=>rfl
    | succ j=>rw[qn,if_neg hja]
   refine aBW [] ?_;refine Ei (i+1,Y) (Ai ⟨by simp only;omega,by simp only;omega,hY,by simp only;rw[<- hd] at he;exact he⟩ (Ai (show b+1 - (i+1) < b+1 - i by omega) ?_));refine dz (n1:=1) rfl rfl ?_ ?_ ?_
   ·repeat' first|refine Ai ?_ ?_|exact rfl|exact⟨⟩|exact Ei _ rfl|refine aj ?_|refine bS ?_
    exact congrArg (fun n=>aBZ n) (u7 (n:=l.length) (by omega) hl)
   all_goals repeat' first|refine Ai ?_ ?_|exact rfl|exact⟨⟩|exact Ei _ rfl|refine aj ?_|refine bS ?_
 ·have uj:b - i=0:=by
   have:¬ i < b:=by simpa using hc
   omega
  rw[uj,mo] at he;refine Ei [(0,0)] (Ai (Ai rfl (Ai ?_ (Ai ?_ ?_))) ?_)
  ·repeat' first|refine Ai ?_ ?_|exact rfl|exact⟨⟩|exact Ei _ rfl|refine aj ?_|refine bS ?_
   all_goals exact congrArg (List.map aF.enc) he
  all_goals repeat' first|refine Ai ?_ ?_|exact rfl|exact⟨⟩|exact Ei _ rfl|refine aj ?_|refine bS ?_
theorem M8 {P:Program}{T:Nat->Option Ty}{N:Nat}{w0:World}{O:gD}{c:Code}{Q:Ex->St->Prop}{B:Prop}(st:St)(h:Tp P T N w0 O c st Q->B)(key:Tp P T N w0 O c st Q):B:=h key
theorem ne1 {n:Nat}(h:¬ n=1):((n:Int)==1)=false:=by
 have:¬ (n:Int)=1:=by omega
 simpa using this
abbrev ta (i j:Nat):Int:=IntKind.i64.wrap ((IntKind.u64.wrap (IntKind.i64.wrap ((i:Int)+(j:Int)))).fdiv (2 ^ min (Int.toNat 1) IntKind.u64.bits))
theorem na {i j n:Nat}(h1:i<=n)(h2:j<=n)(hn:n*672<=ba):ta i j=(((i+j) / 2:Nat):Int):=by
 unfold ba at hn;unfold ta;have e1:IntKind.i64.wrap ((i:Int)+(j:Int))=((i+j:Nat):Int):=by rw[ak];omega
 have e2:IntKind.u64.wrap ((i+j:Nat):Int)=((i+j:Nat):Int):=by rw[dM];omega
 have e3:(2 ^ min (Int.toNat 1) IntKind.u64.bits:Int)=2:=rfl;rw[e1,e2,e3,Int.fdiv_eq_ediv_of_nonneg _ (by decide),ak];omega
theorem D0 {i j n:Nat}(h1:i < n)(h2:j<=n)(hn:n*672<=ba):IntKind.i64.wrap (ta i j+1)=(((i+j) / 2+1:Nat):Int):=by
 rw[na (cG h1) h2 hn];exact u7 (by omega) hn
theorem wpc {p i j n:Nat}(h0:p<=n+n)(h1:i<=n)(h2:j<=n)(h3:(i+j) / 2<=p)(hn:n*672<=ba):IntKind.i64.wrap ((p:Int) - ta i j)=((p - (i+j) / 2:Nat):Int):=by
 rw[na h1 h2 hn,ak];unfold ba at hn;omega
theorem whm {m i j n:Nat}(h0:m<=n)(h1:i<=n)(h2:j<=n)(hn:n*672<=ba):IntKind.i64.wrap (ta i j+(m:Int))=(((i+j) / 2+m:Nat):Int):=by
 rw[na h1 h2 hn,ak];unfold ba at hn;omega
theorem acL {m i j b n:Nat}(h0:m<=n)(h1:i<=n)(h2:j<=n)(h3:b<=(i+j) / 2+m)(hn:n*672<=ba):IntKind.i64.wrap (IntKind.i64.wrap (ta i j+(m:Int)) - (b:Int))=(((i+j) / 2+m - b:Nat):Int):=by
 rw[whm h0 h1 h2 hn,ak];unfold ba at hn;omega
theorem TZ {p n:Nat}(h0:p<=n+n)(h1:1<=p)(hn:n*672<=ba):IntKind.i64.wrap ((p:Int) - 1)=((p - 1:Nat):Int):=by
 rw[ak];unfold ba at hn;omega
theorem XK {p s n:Nat}(h0:p<=n+n)(h1:s<=p)(hn:n*672<=ba):IntKind.i64.wrap ((p:Int) - (s:Int))=((p - s:Nat):Int):=by
 rw[ak];unfold ba at hn;omega
theorem pJ (g:Nat)(cf:aF->aF->Int)(hg:OP g cf):∀ (f a m b:Nat) (l:List aF),a < m->m < b->b<=l.length->b - a<=f->l.length*672<=ba->F7 ae 124 [.c (.row 0 0),.c (.t (iv (a:Int))),.c (.t (iv (m:Int))),.c (.t (iv (b:Int))),.fn g []] [] [⟨100,76,0,l.map aF.enc,none⟩] (.fH []) [] [⟨100,76,0,(fK (gF cf) f a m b l).map aF.enc,none⟩] []
 | 0,a,m,b,l,h1,h2,h3,h4,hl=>absurd h4 (by omega)
 | f+1,a,m,b,l,h1,h2,h3,h4,hl=>by
  have ha:a < l.length:=by omega
  have hm:m < l.length:=by omega
  by_cases c1:m - a=1
  ·refine jC 1 Tryz.func124 rfl (enters_of Tryz.func124 (by kernel_rfl) rfl) tabOk (by kernel_rfl) rfl rfl rfl rfl rfl fun w0 O _=>aBW [12] ?_;refine eu (by rw[qS (n:=l.length) (by omega) (by omega) hl];simp only[c1];rfl) ?_;refine Tp.lE (fun x:Nat × Nat × Nat=>⟨[(0,.c (.row 0 0)),(1,.c (.t (iv (a:Int)))),(2,.c (.t (iv (m:Int)))),(3,.c (.t (iv (b:Int)))),(4,.fn g []),(10,aBZ x.2.1),(11,aBZ x.2.2)],[],[(0,⟨100,76,0,(l).map aF.enc,none⟩)],10000⟩) (fun x=>m<=x.2.1/\x.2.1<=x.2.2/\x.2.2<=b/\x.2.2 - x.2.1<=x.1/\mD (fun h=>gF cf l[h]! l[a]!) x.1 x.2.1 x.2.2=mD (fun h=>gF cf l[h]! l[a]!) (b - a) (m) (b)) (fun x=>x.2.2 - x.2.1) (b - a,m,b) ?_ ⟨al _,by simp only;omega,al _,by simp only;omega,rfl⟩ ?_
   ·refine dz (n1:=1) rfl rfl ?_ ?_ ?_
    all_goals repeat' first|refine Ai ?_ ?_|exact rfl|exact⟨⟩|exact Ei _ rfl|refine aj ?_|refine bS ?_
   rintro⟨q,i,j⟩ ⟨k1,k2,k3,k4,k5⟩;simp only at k1 k2 k3 k4 k5;refine aBW [4,6,7,8] ?_;refine cS (fun hc=>?_) (fun hc=>?_)
   ·have mP:i < j:=by simpa using hc
    obtain⟨q,rfl⟩:∃ p,q=p+1:=⟨q - 1,by omega⟩
    rw[mD,if_pos mP] at k5;have hh:(i+j) / 2 < l.length:=by omega
    have hf:=na (i:=i) (j:=j) (n:=l.length) (by omega) (by omega) hl;have TD:=D0 (i:=i) (j:=j) (n:=l.length) (by omega) (by omega) hl;refine aBW [] ?_;refine Ei ((i+j) / 2) (Ai (hf) (Ai (lmap hh) ?_));refine Ei (aF.enc l[(i+j) / 2]!) (Ei _ (Ai (kW hh) (Ai rfl ?_)));refine Ei (a) (Ai (rfl) (Ai (lmap ha) ?_));refine Ei (aF.enc l[a]!) (Ei _ (Ai (kW ha) (Ai rfl ?_)));refine cF (hg l[(i+j) / 2]! l[a]!) ⟨fL (aF.enc _),fL (aF.enc _),trivial⟩ ?_;refine cS (fun mZ=>?_) (fun mZ=>?_)
    ·have hq:(fun h=>gF cf l[h]! l[a]!) ((i+j) / 2)=true:=mZ;rw[if_pos hq] at k5;refine aBW [] ?_;refine Ei (q,(i+j) / 2+1,j) (Ai ⟨by simp only;omega,by simp only;omega,k3,by simp only;omega,k5⟩ (Ai (show j - ((i+j) / 2+1) < j - i by omega) ?_));refine dz (n1:=1) rfl rfl ?_ ?_ ?_
     ·repeat' first|refine Ai ?_ ?_|exact rfl|exact⟨⟩|exact Ei _ rfl|refine aj ?_|refine bS ?_
      exact congrArg (fun n=>aBZ n) TD
     all_goals repeat' first|refine Ai ?_ ?_|exact rfl|exact⟨⟩|exact Ei _ rfl|refine aj ?_|refine bS ?_
    ·have hq:(fun h=>gF cf l[h]! l[a]!) ((i+j) / 2)=false:=mZ;rw[if_neg (fun e=>absurd (e.symm.trans hq) (by decide))] at k5;refine aBW [] ?_;refine Ei (q,i,(i+j) / 2) (Ai ⟨k1,by simp only;omega,by simp only;omega,by simp only;omega,k5⟩ (Ai (show(i+j) / 2 - i < j - i by omega) ?_));refine dz (n1:=1) rfl rfl ?_ ?_ ?_
     ·repeat' first|refine Ai ?_ ?_|exact rfl|exact⟨⟩|exact Ei _ rfl|refine aj ?_|refine bS ?_
      exact congrArg (fun n=>aBZ n) hf
     all_goals repeat' first|refine Ai ?_ ?_|exact rfl|exact⟨⟩|exact Ei _ rfl|refine aj ?_|refine bS ?_
   have mP:i=j:=by
    have:¬ i < j:=by simpa using hc
    omega
   subst mP
   have k5:i=mD (fun h=>gF cf l[h]! l[a]!) (b - a) (m) (b):=by
    rw[<- k5]
    cases q with
    | zero=>rfl
    | succ q=>rw[mD,if_neg (Nat.lt_irrefl i)]
   refine Tp.lE (fun x:Nat × List aF=>⟨[(0,.c (.row 0 0)),(1,.c (.t (iv (a:Int)))),(2,.c (.t (iv (m:Int)))),(3,.c (.t (iv (b:Int)))),(4,.fn g []),(10,aBZ i),(13,aBZ x.1)],[],[(0,⟨100,76,0,(x.2).map aF.enc,none⟩)],20000⟩) (fun x=>a<=x.1/\x.1<=i - 1/\x.2.length=l.length/\up (i - 1 - x.1) x.1 x.2=fK (gF cf) (f+1) a m b l) (fun x=>i - x.1) (a,l) ?_ ⟨al _,by simp only;omega,rfl,by rw[fK,if_pos c1,<- k5]⟩ ?_
   ·refine dz (n1:=1) rfl rfl ?_ ?_ ?_
    all_goals repeat' first|refine Ai ?_ ?_|exact rfl|exact⟨⟩|exact Ei _ rfl|refine aj ?_|refine bS ?_
   rintro⟨k,X⟩ ⟨g1,g2,hX,he⟩;simp only at g1 g2 hX he;refine aBW [11,10] ?_;refine cS (fun hc=>?_) (fun hc=>?_)
   ·have hk:k < i - 1:=by
     rw[pA (n:=l.length) (by omega) (by omega) hl] at hc;have:=of_decide_eq_true hc;simp only at this;omega
    have e1:k < X.length:=by omega
    have e2:k+1 < X.length:=by omega
    have hs:i - 1 - k=(i - 1 - (k+1))+1:=by omega
    rw[hs,up] at he;refine aBW [] ?_;refine Ei (k+1) (Ai (u7 (a:=k) (n:=l.length) (by omega) hl) (Ai (lmap e2) ?_));refine Ei (aF.enc X[k+1]!) (Ei _ (Ai (kW e2) (Ai rfl ?_)));refine Ei (k) (Ai (rfl) (Ai (lmap e1) ?_));refine Ei (aF.enc X[k]!) (Ei _ (Ai (kW e1) (Ai rfl ?_)));refine Ei (k) (Ai (rfl) (Ai (lmap e1) ?_));refine Ei (aF.enc X[k]!) (Ai (kW e1) (Ai (Nb rfl) ?_));refine Ei (k+1) (Ai (u7 (a:=k) (n:=l.length) (by omega) hl) (Ai (G7 e2) ?_));obtain⟨z,hz⟩:=GZ (k:=k+1) (j:=k) (X:=X) (y:=X[k+1]!) e2;refine Ei (aF.enc z) (Ai hz (Ai (Nb rfl) ?_));refine aBW [] ?_;refine Ei (k+1,xL X k (k+1)) (Ai ⟨by simp only;omega,by simp only;omega,by simp only;rw[aaX];exact hX,he⟩ (Ai (show i - (k+1) < i - k by omega) ?_));refine dz (n1:=1) rfl rfl ?_ ?_ ?_
    all_goals repeat' first|refine Ai ?_ ?_|exact rfl|exact⟨⟩|exact Ei _ rfl|refine aj ?_|refine bS ?_
    exact congrArg (fun n=>aBZ n) (u7 (a:=k) (n:=l.length) (by omega) hl);exact congrArg (fun z=>some (Row.mk 100 76 0 z none)) (Gf X k (k+1))
   ·have hk:i - 1 - k=0:=by
     rw[pA (n:=l.length) (by omega) (by omega) hl] at hc;have:=of_decide_eq_false hc;simp only at this;omega
    rw[hk,up] at he;refine Ei [(0,0)] (Ai (Ai rfl (Ai ?_ (Ai ?_ ?_))) ?_)
    ·repeat' first|refine Ai ?_ ?_|exact rfl|exact⟨⟩|exact Ei _ rfl|refine aj ?_|refine bS ?_
     all_goals exact congrArg (List.map aF.enc) he
    all_goals repeat' first|refine Ai ?_ ?_|exact rfl|exact⟨⟩|exact Ei _ rfl|refine aj ?_|refine bS ?_
  by_cases c2:b - m=1
  ·refine jC 1 Tryz.func124 rfl (enters_of Tryz.func124 (by kernel_rfl) rfl) tabOk (by kernel_rfl) rfl rfl rfl rfl rfl fun w0 O _=>aBW [12,24] ?_;refine cQ (by rw[qS (n:=l.length) (by omega) (by omega) hl];exact ne1 c1) ?_;refine aBW [24] ?_;refine eu (by rw[qS (n:=l.length) (by omega) (by omega) hl];simp only[c2];rfl) ?_;refine Tp.lE (fun x:Nat × Nat × Nat=>⟨[(0,.c (.row 0 0)),(1,.c (.t (iv (a:Int)))),(2,.c (.t (iv (m:Int)))),(3,.c (.t (iv (b:Int)))),(4,.fn g []),(14,aBZ x.2.1),(15,aBZ x.2.2)],[],[(0,⟨100,76,0,(l).map aF.enc,none⟩)],10000⟩) (fun x=>a<=x.2.1/\x.2.1<=x.2.2/\x.2.2<=m/\x.2.2 - x.2.1<=x.1/\mD (fun h=>!gF cf l[m]! l[h]!) x.1 x.2.1 x.2.2=mD (fun h=>!gF cf l[m]! l[h]!) (b - a) (a) (m)) (fun x=>x.2.2 - x.2.1) (b - a,a,m) ?_ ⟨al _,by simp only;omega,al _,by simp only;omega,rfl⟩ ?_
   ·refine dz (n1:=1) rfl rfl ?_ ?_ ?_
    all_goals repeat' first|refine Ai ?_ ?_|exact rfl|exact⟨⟩|exact Ei _ rfl|refine aj ?_|refine bS ?_
   rintro⟨q,i,j⟩ ⟨k1,k2,k3,k4,k5⟩;simp only at k1 k2 k3 k4 k5;refine aBW [16,18,19,20] ?_;refine cS (fun hc=>?_) (fun hc=>?_)
   ·have mP:i < j:=by simpa using hc
    obtain⟨q,rfl⟩:∃ p,q=p+1:=⟨q - 1,by omega⟩
    rw[mD,if_pos mP] at k5;have hh:(i+j) / 2 < l.length:=by omega
    have hf:=na (i:=i) (j:=j) (n:=l.length) (by omega) (by omega) hl;have TD:=D0 (i:=i) (j:=j) (n:=l.length) (by omega) (by omega) hl;refine aBW [] ?_;refine Ei (m) (Ai (rfl) (Ai (lmap hm) ?_));refine Ei (aF.enc l[m]!) (Ei _ (Ai (kW hm) (Ai rfl ?_)));refine Ei ((i+j) / 2) (Ai (hf) (Ai (lmap hh) ?_));refine Ei (aF.enc l[(i+j) / 2]!) (Ei _ (Ai (kW hh) (Ai rfl ?_)));refine cF (hg l[m]! l[(i+j) / 2]!) ⟨fL (aF.enc _),fL (aF.enc _),trivial⟩ ?_;refine cS (fun mZ=>?_) (fun mZ=>?_)
    ·have hq:(fun h=>!gF cf l[m]! l[h]!) ((i+j) / 2)=true:=mZ;rw[if_pos hq] at k5;refine aBW [] ?_;refine Ei (q,(i+j) / 2+1,j) (Ai ⟨by simp only;omega,by simp only;omega,k3,by simp only;omega,k5⟩ (Ai (show j - ((i+j) / 2+1) < j - i by omega) ?_));refine dz (n1:=1) rfl rfl ?_ ?_ ?_
     ·repeat' first|refine Ai ?_ ?_|exact rfl|exact⟨⟩|exact Ei _ rfl|refine aj ?_|refine bS ?_
      exact congrArg (fun n=>aBZ n) TD
     all_goals repeat' first|refine Ai ?_ ?_|exact rfl|exact⟨⟩|exact Ei _ rfl|refine aj ?_|refine bS ?_
    ·have hq:(fun h=>!gF cf l[m]! l[h]!) ((i+j) / 2)=false:=mZ;rw[if_neg (fun e=>absurd (e.symm.trans hq) (by decide))] at k5;refine aBW [] ?_;refine Ei (q,i,(i+j) / 2) (Ai ⟨k1,by simp only;omega,by simp only;omega,by simp only;omega,k5⟩ (Ai (show(i+j) / 2 - i < j - i by omega) ?_));refine dz (n1:=1) rfl rfl ?_ ?_ ?_
     ·repeat' first|refine Ai ?_ ?_|exact rfl|exact⟨⟩|exact Ei _ rfl|refine aj ?_|refine bS ?_
      exact congrArg (fun n=>aBZ n) hf
     all_goals repeat' first|refine Ai ?_ ?_|exact rfl|exact⟨⟩|exact Ei _ rfl|refine aj ?_|refine bS ?_
   have mP:i=j:=by
    have:¬ i < j:=by simpa using hc
    omega
   subst mP
   have k5:i=mD (fun h=>!gF cf l[m]! l[h]!) (b - a) (a) (m):=by
    rw[<- k5]
    cases q with
    | zero=>rfl
    | succ q=>rw[mD,if_neg (Nat.lt_irrefl i)]
   refine Tp.lE (fun x:Nat × List aF=>⟨[(0,.c (.row 0 0)),(1,.c (.t (iv (a:Int)))),(2,.c (.t (iv (m:Int)))),(3,.c (.t (iv (b:Int)))),(4,.fn g []),(14,aBZ i),(17,aBZ x.1)],[],[(0,⟨100,76,0,(x.2).map aF.enc,none⟩)],20000⟩) (fun x=>i<=x.1/\x.1<=m/\x.2.length=l.length/\dn (x.1 - i) x.1 x.2=fK (gF cf) (f+1) a m b l) (fun x=>x.1) (m,l) ?_ ⟨by simp only;omega,al _,rfl,by rw[fK,if_neg c1,if_pos c2,<- k5]⟩ ?_
   ·refine dz (n1:=1) rfl rfl ?_ ?_ ?_
    all_goals repeat' first|refine Ai ?_ ?_|exact rfl|exact⟨⟩|exact Ei _ rfl|refine aj ?_|refine bS ?_
   rintro⟨k,X⟩ ⟨g1,g2,hX,he⟩;simp only at g1 g2 hX he;refine aBW [23,22] ?_;refine cS (fun hc=>?_) (fun hc=>?_)
   ·have hk:i < k:=by simpa using hc
    have e1:k < X.length:=by omega
    have e2:k - 1 < X.length:=by omega
    have hs:k - i=(k - 1 - i)+1:=by omega
    rw[hs,dn] at he;refine aBW [] ?_;refine Ei (k - 1) (Ai (pA (a:=k) (n:=l.length) (by omega) (by omega) hl) (Ai (lmap e2) ?_));refine Ei (aF.enc X[k - 1]!) (Ei _ (Ai (kW e2) (Ai rfl ?_)));refine Ei (k) (Ai (rfl) (Ai (lmap e1) ?_));refine Ei (aF.enc X[k]!) (Ei _ (Ai (kW e1) (Ai rfl ?_)));refine Ei (k) (Ai (rfl) (Ai (lmap e1) ?_));refine Ei (aF.enc X[k]!) (Ai (kW e1) (Ai (Nb rfl) ?_));refine Ei (k - 1) (Ai (pA (a:=k) (n:=l.length) (by omega) (by omega) hl) (Ai (G7 e2) ?_));obtain⟨z,hz⟩:=GZ (k:=k - 1) (j:=k) (X:=X) (y:=X[k - 1]!) e2;refine Ei (aF.enc z) (Ai hz (Ai (Nb rfl) ?_));refine aBW [] ?_;refine Ei (k - 1,xL X k (k - 1)) (Ai ⟨by simp only;omega,by simp only;omega,by simp only;rw[aaX];exact hX,he⟩ (Ai (show k - 1 < k by omega) ?_));refine dz (n1:=1) rfl rfl ?_ ?_ ?_
    all_goals repeat' first|refine Ai ?_ ?_|exact rfl|exact⟨⟩|exact Ei _ rfl|refine aj ?_|refine bS ?_
    exact congrArg (fun n=>aBZ n) (pA (a:=k) (n:=l.length) (by omega) (by omega) hl);exact congrArg (fun z=>some (Row.mk 100 76 0 z none)) (Gf X k (k - 1))
   ·have hk:k - i=0:=by
     have:¬ i < k:=by simpa using hc
     omega
    rw[hk,dn] at he;refine Ei [(0,0)] (Ai (Ai rfl (Ai ?_ (Ai ?_ ?_))) ?_)
    ·repeat' first|refine Ai ?_ ?_|exact rfl|exact⟨⟩|exact Ei _ rfl|refine aj ?_|refine bS ?_
     all_goals exact congrArg (List.map aF.enc) he
    all_goals repeat' first|refine Ai ?_ ?_|exact rfl|exact⟨⟩|exact Ei _ rfl|refine aj ?_|refine bS ?_
  -- the general case
  have hP:∃ s0 r0,(m > (a+b) / 2->s0=(a+b) / 2+m - b/\r0=(a+b) / 2)/\(¬ m > (a+b) / 2->s0=a/\r0=m)/\mD (fun c=>!gF cf l[(a+b) / 2+m - 1 - c]! l[c]!) (b - a) s0 r0=prt (gF cf) a m b l/\s0<=r0/\r0<=m/\r0<=(a+b) / 2/\a<=s0/\(a+b) / 2+m<=s0+b:=by
   by_cases h:m > (a+b) / 2
   ·exact⟨_,_,fun _=>⟨rfl,rfl⟩,fun h2=>absurd h h2,by rw[prt,if_pos h],by omega,by omega,by omega,by omega,by omega⟩
   ·exact⟨_,_,fun h2=>absurd h2 h,fun _=>⟨rfl,rfl⟩,by rw[prt,if_neg h],by omega,by omega,by omega,by omega,by omega⟩
  obtain⟨s0,r0,p1,p2,p3,p4,p5,p6,p7,p8⟩:=hP;refine jC 1 Tryz.func124 rfl (enters_of Tryz.func124 (by kernel_rfl) rfl) tabOk (by kernel_rfl) rfl rfl rfl rfl rfl fun w0 O _=>aBW [12,24,28,30,32,40,41,42,43,44] ?_;refine cQ (by rw[qS (n:=l.length) (by omega) (by omega) hl];exact ne1 c1) ?_;refine aBW [24] ?_;refine cQ (by rw[qS (n:=l.length) (by omega) (by omega) hl];exact ne1 c2) ?_;refine aBW [28,30,32,41,43] ?_;apply M8 (P:=ae) (T:=T) (N:=Tryz.f124.ntmps) (w0:=w0) (O:=O) ⟨[(0,.c (.row 0 0)),(1,.c (.t (iv (a:Int)))),(2,.c (.t (iv (m:Int)))),(3,.c (.t (iv (b:Int)))),(4,.fn g []),(18,aBZ ((a+b) / 2:Nat)),(19,aBZ ((a+b) / 2+m:Nat)),(20,aBZ s0),(21,aBZ r0)],[],[(0,⟨100,76,0,(l).map aF.enc,none⟩)],8000⟩
  case h=>
   intro K;refine cS (fun hc=>?_) (fun hc=>?_)
   ·have hgt:m > (a+b) / 2:=by
     have hc:decide ((m:Int) > ta a b)=true:=hc;rw[na (n:=l.length) (by omega) (by omega) hl] at hc;have:=of_decide_eq_true hc;omega
    obtain⟨rfl,rfl⟩:=p1 hgt;refine aBW [] ?_;refine Tp.SR (dz (n1:=1) rfl rfl ?_ ?_ ?_) K
    ·repeat' first|refine Ai ?_ ?_|exact rfl|exact⟨⟩|exact Ei _ rfl|refine aj ?_|refine bS ?_
     ·exact congrArg (fun n=>aBZ n) (na (n:=l.length) (by omega) (by omega) hl)
     ·exact congrArg (fun n=>aBZ n) (whm (n:=l.length) (by omega) (by omega) (by omega) hl)
     ·exact congrArg (fun n=>aBZ n) (acL (n:=l.length) (by omega) (by omega) (by omega) (by omega) hl)
     ·exact congrArg (fun n=>aBZ n) (na (n:=l.length) (by omega) (by omega) hl)
    all_goals repeat' first|refine Ai ?_ ?_|exact rfl|exact⟨⟩|exact Ei _ rfl|refine aj ?_|refine bS ?_
   ·have hgt:¬ m > (a+b) / 2:=by
     have hc:decide ((m:Int) > ta a b)=false:=hc;rw[na (n:=l.length) (by omega) (by omega) hl] at hc;have:=of_decide_eq_false hc;omega
    obtain⟨rfl,rfl⟩:=p2 hgt;refine aBW [] ?_;refine Tp.SR (dz (n1:=1) rfl rfl ?_ ?_ ?_) K
    ·repeat' first|refine Ai ?_ ?_|exact rfl|exact⟨⟩|exact Ei _ rfl|refine aj ?_|refine bS ?_
     ·exact congrArg (fun n=>aBZ n) (na (n:=l.length) (by omega) (by omega) hl)
     ·exact congrArg (fun n=>aBZ n) (whm (n:=l.length) (by omega) (by omega) (by omega) hl)
    all_goals repeat' first|refine Ai ?_ ?_|exact rfl|exact⟨⟩|exact Ei _ rfl|refine aj ?_|refine bS ?_
  case key=>
   refine aBW [40,41,42,43,44] ?_;refine Tp.lE (fun x:Nat × Nat × Nat=>⟨[(0,.c (.row 0 0)),(1,.c (.t (iv (a:Int)))),(2,.c (.t (iv (m:Int)))),(3,.c (.t (iv (b:Int)))),(4,.fn g []),(18,aBZ ((a+b) / 2:Nat)),(19,aBZ ((a+b) / 2+m:Nat)),(22,aBZ ((a+b) / 2+m - 1:Nat)),(20,aBZ x.2.1),(21,aBZ x.2.2)],[],[(0,⟨100,76,0,(l).map aF.enc,none⟩)],10000⟩) (fun x=>s0<=x.2.1/\x.2.1<=x.2.2/\x.2.2<=r0/\x.2.2 - x.2.1<=x.1/\mD (fun c=>!gF cf l[(a+b) / 2+m - 1 - c]! l[c]!) x.1 x.2.1 x.2.2=mD (fun c=>!gF cf l[(a+b) / 2+m - 1 - c]! l[c]!) (b - a) (s0) (r0)) (fun x=>x.2.2 - x.2.1) (b - a,s0,r0) ?_ ⟨al _,by simp only;omega,al _,by simp only;omega,rfl⟩ ?_
   ·refine dz (n1:=1) rfl rfl ?_ ?_ ?_
    ·repeat' first|refine Ai ?_ ?_|exact rfl|exact⟨⟩|exact Ei _ rfl|refine aj ?_|refine bS ?_
     exact congrArg (fun n=>aBZ n) (TZ (n:=l.length) (by omega) (by omega) hl)
    all_goals repeat' first|refine Ai ?_ ?_|exact rfl|exact⟨⟩|exact Ei _ rfl|refine aj ?_|refine bS ?_
   rintro⟨q,i,j⟩ ⟨k1,k2,k3,k4,k5⟩;simp only at k1 k2 k3 k4 k5;refine aBW [34,36,37,38] ?_;refine cS (fun hc=>?_) (fun hc=>?_)
   ·have mP:i < j:=by simpa using hc
    obtain⟨q,rfl⟩:∃ p,q=p+1:=⟨q - 1,by omega⟩
    rw[mD,if_pos mP] at k5;have hh:(i+j) / 2 < l.length:=by omega
    have hf:=na (i:=i) (j:=j) (n:=l.length) (by omega) (by omega) hl;have TD:=D0 (i:=i) (j:=j) (n:=l.length) (by omega) (by omega) hl;refine aBW [] ?_;have hh2:(a+b) / 2+m - 1 - (i+j) / 2 < l.length:=by omega
    have hp:=wpc (p:=(a+b) / 2+m - 1) (i:=i) (j:=j) (n:=l.length) (by omega) (by omega) (by omega) (by omega) hl;refine Ei ((a+b) / 2+m - 1 - (i+j) / 2) (Ai (hp) (Ai (lmap hh2) ?_));refine Ei (aF.enc l[(a+b) / 2+m - 1 - (i+j) / 2]!) (Ei _ (Ai (kW hh2) (Ai rfl ?_)));refine Ei ((i+j) / 2) (Ai (hf) (Ai (lmap hh) ?_));refine Ei (aF.enc l[(i+j) / 2]!) (Ei _ (Ai (kW hh) (Ai rfl ?_)));refine cF (hg l[(a+b) / 2+m - 1 - (i+j) / 2]! l[(i+j) / 2]!) ⟨fL (aF.enc _),fL (aF.enc _),trivial⟩ ?_;refine cS (fun mZ=>?_) (fun mZ=>?_)
    ·have hq:(fun c=>!gF cf l[(a+b) / 2+m - 1 - c]! l[c]!) ((i+j) / 2)=true:=mZ;rw[if_pos hq] at k5;refine aBW [] ?_;refine Ei (q,(i+j) / 2+1,j) (Ai ⟨by simp only;omega,by simp only;omega,k3,by simp only;omega,k5⟩ (Ai (show j - ((i+j) / 2+1) < j - i by omega) ?_));refine dz (n1:=1) rfl rfl ?_ ?_ ?_
     ·repeat' first|refine Ai ?_ ?_|exact rfl|exact⟨⟩|exact Ei _ rfl|refine aj ?_|refine bS ?_
      exact congrArg (fun n=>aBZ n) TD
     all_goals repeat' first|refine Ai ?_ ?_|exact rfl|exact⟨⟩|exact Ei _ rfl|refine aj ?_|refine bS ?_
    ·have hq:(fun c=>!gF cf l[(a+b) / 2+m - 1 - c]! l[c]!) ((i+j) / 2)=false:=mZ;rw[if_neg (fun e=>absurd (e.symm.trans hq) (by decide))] at k5;refine aBW [] ?_;refine Ei (q,i,(i+j) / 2) (Ai ⟨k1,by simp only;omega,by simp only;omega,by simp only;omega,k5⟩ (Ai (show(i+j) / 2 - i < j - i by omega) ?_));refine dz (n1:=1) rfl rfl ?_ ?_ ?_
     ·repeat' first|refine Ai ?_ ?_|exact rfl|exact⟨⟩|exact Ei _ rfl|refine aj ?_|refine bS ?_
      exact congrArg (fun n=>aBZ n) hf
     all_goals repeat' first|refine Ai ?_ ?_|exact rfl|exact⟨⟩|exact Ei _ rfl|refine aj ?_|refine bS ?_
   have mP:i=j:=by
    have:¬ i < j:=by simpa using hc
    omega
   subst mP
   have k5:i=mD (fun c=>!gF cf l[(a+b) / 2+m - 1 - c]! l[c]!) (b - a) (s0) (r0):=by
    rw[<- k5]
    cases q with
    | zero=>rfl
    | succ q=>rw[mD,if_neg (Nat.lt_irrefl i)]
   have hs:=k5.trans p3;have hw:=XK (p:=(a+b) / 2+m) (s:=i) (n:=l.length) (by omega) (by omega) hl
   have he:(fun l2=>if (a+b) / 2 < (a+b) / 2+m - i/\(a+b) / 2+m - i < b then fK (gF cf) f ((a+b) / 2) ((a+b) / 2+m - i) b l2 else l2) ((fun l1=>if a < i/\i < (a+b) / 2 then fK (gF cf) f a i ((a+b) / 2) l1 else l1) (if i < m/\m < (a+b) / 2+m - i then xa m (b - a) (m - i) ((a+b) / 2+m - i - m) l else l))=fK (gF cf) (f+1) a m b l:=by
    rw[fK,if_neg c1,if_neg c2,<- hs]
   have Zk:(if i < m/\m < (a+b) / 2+m - i then xa m (b - a) (m - i) ((a+b) / 2+m - i - m) l else l).length=l.length:=by
    split
    ·exact uy ..
    ·rfl
   generalize hL:(if i < m/\m < (a+b) / 2+m - i then xa m (b - a) (m - i) ((a+b) / 2+m - i - m) l else l)=L at he Zk;apply M8 (P:=ae) (T:=T) (N:=Tryz.f124.ntmps) (w0:=w0) (O:=O) ⟨[(0,.c (.row 0 0)),(1,.c (.t (iv (a:Int)))),(2,.c (.t (iv (m:Int)))),(3,.c (.t (iv (b:Int)))),(4,.fn g []),(18,aBZ ((a+b) / 2:Nat)),(20,aBZ i),(24,aBZ ((a+b) / 2+m - i:Nat))],[],[(0,⟨100,76,0,(L).map aF.enc,none⟩)],13000⟩
   case h=>
    intro K;refine cS (fun hc=>?_) (fun hc=>?_)
    ·have q1:i < m:=by simpa using hc
     refine cS (fun hd=>?_) (fun hd=>?_)
     ·have q2:m < (a+b) / 2+m - i:=by
       have hd:decide ((m:Int) < IntKind.i64.wrap ((((a+b) / 2+m:Nat):Int) - (i:Int)))=true:=hd;rw[hw] at hd;have:=of_decide_eq_true hd;omega
      rw[if_pos ⟨q1,q2⟩] at hL;refine aBW [] ?_;refine cM [] [(0,0)] (PF g l i m ((a+b) / 2+m - i) (b - a) (by omega) (by omega) (by omega) (by omega) hl) ?_ ?_ ?_
      ·repeat' first|refine Ai ?_ ?_|exact rfl|exact⟨⟩|exact Ei _ rfl
       exact congrArg (fun n=>iv n) hw
      ·exact rfl
      refine Tp.SR (dz (n1:=1) rfl rfl ?_ ?_ ?_) K
      ·repeat' first|refine Ai ?_ ?_|exact rfl|exact⟨⟩|exact Ei _ rfl|refine aj ?_|refine bS ?_
       exact congrArg (fun n=>aBZ n) hw
      ·repeat' first|refine Ai ?_ ?_|exact rfl|exact⟨⟩|exact Ei _ rfl|refine aj ?_|refine bS ?_
      ·repeat' first|refine Ai ?_ ?_|exact rfl|exact⟨⟩|exact Ei _ rfl|refine aj ?_|refine bS ?_
       all_goals exact congrArg (fun z=>some (Row.mk 100 76 0 (z.map aF.enc) none)) hL
     ·have q2:¬ m < (a+b) / 2+m - i:=by
       have hd:decide ((m:Int) < IntKind.i64.wrap ((((a+b) / 2+m:Nat):Int) - (i:Int)))=false:=hd;rw[hw] at hd;have:=of_decide_eq_false hd;omega
      rw[if_neg (fun h=>q2 h.2)] at hL;refine Tp.SR (dz (n1:=1) rfl rfl ?_ ?_ ?_) K
      ·repeat' first|refine Ai ?_ ?_|exact rfl|exact⟨⟩|exact Ei _ rfl|refine aj ?_|refine bS ?_
       exact congrArg (fun n=>aBZ n) hw
      ·repeat' first|refine Ai ?_ ?_|exact rfl|exact⟨⟩|exact Ei _ rfl|refine aj ?_|refine bS ?_
      ·repeat' first|refine Ai ?_ ?_|exact rfl|exact⟨⟩|exact Ei _ rfl|refine aj ?_|refine bS ?_
       all_goals exact congrArg (fun z=>some (Row.mk 100 76 0 (z.map aF.enc) none)) hL
    ·have q1:¬ i < m:=by simpa using hc
     rw[if_neg (fun h=>q1 h.1)] at hL;refine Tp.SR (dz (n1:=1) rfl rfl ?_ ?_ ?_) K
     ·repeat' first|refine Ai ?_ ?_|exact rfl|exact⟨⟩|exact Ei _ rfl|refine aj ?_|refine bS ?_
      exact congrArg (fun n=>aBZ n) hw
     ·repeat' first|refine Ai ?_ ?_|exact rfl|exact⟨⟩|exact Ei _ rfl|refine aj ?_|refine bS ?_
     ·repeat' first|refine Ai ?_ ?_|exact rfl|exact⟨⟩|exact Ei _ rfl|refine aj ?_|refine bS ?_
      all_goals exact congrArg (fun z=>some (Row.mk 100 76 0 (z.map aF.enc) none)) hL
   case key=>
    refine aBW [42,43,44] ?_;have he:(fun l2=>if (a+b) / 2 < (a+b) / 2+m - i/\(a+b) / 2+m - i < b then fK (gF cf) f ((a+b) / 2) ((a+b) / 2+m - i) b l2 else l2) (if a < i/\i < (a+b) / 2 then fK (gF cf) f a i ((a+b) / 2) L else L)=fK (gF cf) (f+1) a m b l:=he
    have qO:(if a < i/\i < (a+b) / 2 then fK (gF cf) f a i ((a+b) / 2) L else L).length=l.length:=by
     split
     ·rw[lp];exact Zk
     ·exact Zk
    generalize FH:(if a < i/\i < (a+b) / 2 then fK (gF cf) f a i ((a+b) / 2) L else L)=L2 at he qO;apply M8 (P:=ae) (T:=T) (N:=Tryz.f124.ntmps) (w0:=w0) (O:=O) ⟨[(0,.c (.row 0 0)),(1,.c (.t (iv (a:Int)))),(2,.c (.t (iv (m:Int)))),(3,.c (.t (iv (b:Int)))),(4,.fn g []),(18,aBZ ((a+b) / 2:Nat)),(24,aBZ ((a+b) / 2+m - i:Nat))],[],[(0,⟨100,76,0,(L2).map aF.enc,none⟩)],16000⟩
    case h=>
     intro K;refine cS (fun hc=>?_) (fun hc=>?_)
     ·have q1:a < i:=by simpa using hc
      refine cS (fun hd=>?_) (fun hd=>?_)
      ·have q2:i < (a+b) / 2:=by
        have:=of_decide_eq_true hd;omega
       rw[if_pos ⟨q1,q2⟩] at FH;refine aBW [] ?_;refine cM [] [(0,0)] (pJ g cf hg f a i ((a+b) / 2) L q1 q2 (by omega) (by omega) (by rw[Zk];exact hl)) ?_ ?_ ?_
       ·repeat' first|refine Ai ?_ ?_|exact rfl|exact⟨⟩|exact Ei _ rfl|refine aj ?_|refine bS ?_
       ·exact rfl
       refine Tp.SR (dz (n1:=1) rfl rfl ?_ ?_ ?_) K
       all_goals repeat' first|refine Ai ?_ ?_|exact rfl|exact⟨⟩|exact Ei _ rfl|refine aj ?_|refine bS ?_
       all_goals exact congrArg (fun z=>some (Row.mk 100 76 0 (z.map aF.enc) none)) FH
      ·have q2:¬ i < (a+b) / 2:=by
        have:=of_decide_eq_false hd;omega
       rw[if_neg (fun h=>q2 h.2)] at FH;refine Tp.SR (dz (n1:=1) rfl rfl ?_ ?_ ?_) K
       all_goals repeat' first|refine Ai ?_ ?_|exact rfl|exact⟨⟩|exact Ei _ rfl|refine aj ?_|refine bS ?_
       all_goals exact congrArg (fun z=>some (Row.mk 100 76 0 (z.map aF.enc) none)) FH
     ·have q1:¬ a < i:=by simpa using hc
      rw[if_neg (fun h=>q1 h.1)] at FH;refine Tp.SR (dz (n1:=1) rfl rfl ?_ ?_ ?_) K
      all_goals repeat' first|refine Ai ?_ ?_|exact rfl|exact⟨⟩|exact Ei _ rfl|refine aj ?_|refine bS ?_
      all_goals exact congrArg (fun z=>some (Row.mk 100 76 0 (z.map aF.enc) none)) FH
    case key=>
     have he:(if (a+b) / 2 < (a+b) / 2+m - i/\(a+b) / 2+m - i < b then fK (gF cf) f ((a+b) / 2) ((a+b) / 2+m - i) b L2 else L2)=fK (gF cf) (f+1) a m b l:=he;refine aBW [44] ?_;refine cS (fun hc=>?_) (fun hc=>?_)
     ·have q1:(a+b) / 2 < (a+b) / 2+m - i:=by
       have:=of_decide_eq_true hc;omega
      refine cS (fun hd=>?_) (fun hd=>?_)
      ·have q2:(a+b) / 2+m - i < b:=by
        have:=of_decide_eq_true hd;omega
       rw[if_pos ⟨q1,q2⟩] at he;refine aBW [] ?_;refine cM [] [(0,0)] (pJ g cf hg f ((a+b) / 2) ((a+b) / 2+m - i) b L2 q1 q2 (by omega) (by omega) (by rw[qO];exact hl)) ?_ ?_ ?_
       ·repeat' first|refine Ai ?_ ?_|exact rfl|exact⟨⟩|exact Ei _ rfl|refine aj ?_|refine bS ?_
       ·exact rfl
       refine Ei [(0,0)] (Ai (Ai rfl (Ai ?_ (Ai ?_ ?_))) ?_)
       ·repeat' first|refine Ai ?_ ?_|exact rfl|exact⟨⟩|exact Ei _ rfl|refine aj ?_|refine bS ?_
        all_goals exact congrArg (List.map aF.enc) he
       all_goals repeat' first|refine Ai ?_ ?_|exact rfl|exact⟨⟩|exact Ei _ rfl|refine aj ?_|refine bS ?_
      ·have q2:¬ (a+b) / 2+m - i < b:=by
        have:=of_decide_eq_false hd;omega
       rw[if_neg (fun h=>q2 h.2)] at he;refine Ei [(0,0)] (Ai (Ai rfl (Ai ?_ (Ai ?_ ?_))) ?_)
       ·repeat' first|refine Ai ?_ ?_|exact rfl|exact⟨⟩|exact Ei _ rfl|refine aj ?_|refine bS ?_
        all_goals exact congrArg (List.map aF.enc) he
       all_goals repeat' first|refine Ai ?_ ?_|exact rfl|exact⟨⟩|exact Ei _ rfl|refine aj ?_|refine bS ?_
     ·have q1:¬ (a+b) / 2 < (a+b) / 2+m - i:=by
       have:=of_decide_eq_false hc;omega
      rw[if_neg (fun h=>q1 h.1)] at he;refine Ei [(0,0)] (Ai (Ai rfl (Ai ?_ (Ai ?_ ?_))) ?_)
      ·repeat' first|refine Ai ?_ ?_|exact rfl|exact⟨⟩|exact Ei _ rfl|refine aj ?_|refine bS ?_
       all_goals exact congrArg (List.map aF.enc) he
      all_goals repeat' first|refine Ai ?_ ?_|exact rfl|exact⟨⟩|exact Ei _ rfl|refine aj ?_|refine bS ?_
theorem XL {s n:Nat}(h:s<=n+n)(hn:n*672<=ba):IntKind.i64.wrap (2*(s:Int))=((2*s:Nat):Int):=by
 rw[ak];unfold ba at hn;omega
theorem KU {s n:Nat}(h:s<=n+n)(hn:n*672<=ba):IntKind.i64.wrap ((s:Int)*2)=((2*s:Nat):Int):=by
 rw[ak];unfold ba at hn;omega
theorem KW {a b n:Nat}(h:a<=n+n+n)(h2:b<=n+n+n)(hn:n*672<=ba):IntKind.i64.wrap ((a:Int)+(b:Int))=((a+b:Nat):Int):=by
 rw[ak];unfold ba at hn;omega
theorem T1 {a n:Nat}(h:a<=n+20)(hn:n*672<=ba):IntKind.i64.wrap ((a:Int)+20)=((a+20:Nat):Int):=by
 rw[ak];unfold ba at hn;omega
theorem Ed (g:Nat)(cf:aF->aF->Int)(hg:OP g cf)(l:List aF)(n:Nat)(hn:n=l.length)(hl:l.length*672<=ba):F7 ae 65 [.c (.row 0 0),.c (.t (iv (n:Int))),.fn g []] [] [⟨100,76,0,(l).map aF.enc,none⟩] (.fH []) [] [⟨100,76,0,(iT (gF cf) l).map aF.enc,none⟩] []:=by
 have hl:n*672<=ba:=by rw[hn];exact hl
 refine jC 1 Tryz.func65 rfl (enters_of Tryz.func65 (by kernel_rfl) rfl) tabOk (by kernel_rfl) rfl rfl rfl rfl rfl fun w0 O _=>aBW [6] ?_;refine Tp.lE (fun x:Nat × Nat × List aF=>⟨[(0,.c (.row 0 0)),(1,.c (.t (iv (n:Int)))),(2,.fn g []),(6,aBZ 20),(7,aBZ x.2.1),(8,aBZ (x.2.1+20:Nat))],[],[(0,⟨100,76,0,(x.2.2).map aF.enc,none⟩)],10000⟩) (fun x=>x.2.1<=n/\n - x.2.1 < x.1/\x.2.2.length=n/\pn (gF cf) 20 n x.1 x.2.1 x.2.2=pn (gF cf) 20 n (n+1) 0 l) (fun x=>n - x.2.1) (n+1,0,l) ?_ ⟨aD _,by simp only;omega,hn.symm,rfl⟩ ?_
 ·refine dz (n1:=1) rfl rfl ?_ ?_ ?_
  all_goals repeat' first|refine Ai ?_ ?_|exact rfl|exact⟨⟩|exact Ei _ rfl|refine aj ?_|refine bS ?_
 rintro⟨q,a,X⟩ ⟨g1,g2,hX,he⟩;simp only at g1 g2 hX he;obtain⟨q,rfl⟩:∃ p,q=p+1:=⟨q - 1,by omega⟩
 refine aBW [3] ?_;refine cS (fun hc=>?_) (fun hc=>?_)
 ·have aS:a+20<=n:=by
   have hc:decide (((a+20:Nat):Int)<=(n:Int))=true:=hc;have:=of_decide_eq_true hc;omega
  rw[pn,if_pos aS] at he;have hi:=Cq g cf hg X a (a+20) (by omega) (by omega) (by rw[hX];exact hl);rw[show a+20 - (a+1)=20 - 1 by omega] at hi;refine aBW [] ?_;refine cM [] [(0,0)] hi ?_ ?_ ?_
  ·repeat' first|refine Ai ?_ ?_|exact rfl|exact⟨⟩|exact Ei _ rfl
  ·exact rfl
  refine Ei (q,a+20,mo (gF cf) a (20 - 1) (a+1) X) (Ai ⟨aS,by simp only;omega,by simp only;rw[nA];exact hX,he⟩ (Ai (show n - (a+20) < n - a by omega) ?_));refine dz (n1:=1) rfl rfl ?_ ?_ ?_
  ·repeat' first|refine Ai ?_ ?_|exact rfl|exact⟨⟩|exact Ei _ rfl|refine aj ?_|refine bS ?_
   exact congrArg (fun n=>aBZ n) (T1 (a:=a+20) (n:=n) (by omega) hl)
  all_goals repeat' first|refine Ai ?_ ?_|exact rfl|exact⟨⟩|exact Ei _ rfl|refine aj ?_|refine bS ?_
 have aS:¬ a+20<=n:=by
  have hc:decide (((a+20:Nat):Int)<=(n:Int))=false:=hc;have:=of_decide_eq_false hc;omega
 rw[pn,if_neg aS] at he;have hi:=Cq g cf hg X a n g1 (by omega) (by rw[hX];exact hl);refine aBW [] ?_;refine cM [] [(0,0)] hi ?_ ?_ ?_
 ·repeat' first|refine Ai ?_ ?_|exact rfl|exact⟨⟩|exact Ei _ rfl
 ·exact rfl
 have hX2:(mo (gF cf) a (n - (a+1)) (a+1) X).length=n:=by rw[nA];exact hX
 rw[he] at hX2;rw[he];have fR:iT (gF cf) l=qD (gF cf) n (n+1) 20 (pn (gF cf) 20 n (n+1) 0 l):=by rw[iT,<- hn]
 generalize pn (gF cf) 20 n (n+1) 0 l=Y at hX2 fR;clear he hi g1 g2 aS hX hc;refine Tp.lE (fun x:Nat × Nat × List aF=>⟨[(0,.c (.row 0 0)),(1,.c (.t (iv (n:Int)))),(2,.fn g []),(6,aBZ x.2.1)],[],[(0,⟨100,76,0,(x.2.2).map aF.enc,none⟩)],20000⟩) (fun x=>0 < x.2.1/\n < x.2.1+x.1/\x.2.2.length=n/\qD (gF cf) n x.1 x.2.1 x.2.2=iT (gF cf) l) (fun x=>n - x.2.1) (n+1,20,Y) ?_ ⟨by simp only;omega,by simp only;omega,hX2,fR.symm⟩ ?_
 ·refine dz (n1:=1) rfl rfl ?_ ?_ ?_
  all_goals repeat' first|refine Ai ?_ ?_|exact rfl|exact⟨⟩|exact Ei _ rfl|refine aj ?_|refine bS ?_
 rintro⟨q,s,Z⟩ ⟨Xg,hq,hZ,he⟩;simp only at Xg hq hZ he;refine aBW [8,15,16] ?_;refine cS (fun hc=>?_) (fun hc=>?_)
 ·have Xe:s < n:=by simpa using hc
  obtain⟨q,rfl⟩:∃ p,q=p+1:=⟨q - 1,by omega⟩
  rw[qD,if_pos Xe] at he;have w2:=XL (s:=s) (n:=n) (by omega) hl;refine aBW [16] ?_;refine Tp.lE (fun x:Nat × Nat × List aF=>⟨[(0,.c (.row 0 0)),(1,.c (.t (iv (n:Int)))),(2,.fn g []),(6,aBZ s),(7,aBZ x.2.1),(8,aBZ (x.2.1+2*s:Nat))],[],[(0,⟨100,76,0,(x.2.2).map aF.enc,none⟩)],30000⟩) (fun x=>x.2.1<=n/\n - x.2.1 < x.1/\x.2.2.length=n/\oI (gF cf) s n x.1 x.2.1 x.2.2=oI (gF cf) s n (n+1) 0 Z) (fun x=>n - x.2.1) (n+1,0,Z) ?_ ⟨aD _,by simp only;omega,hZ,rfl⟩ ?_
  ·refine dz (n1:=1) rfl rfl ?_ ?_ ?_
   ·repeat' first|refine Ai ?_ ?_|exact rfl|exact⟨⟩|exact Ei _ rfl|refine aj ?_|refine bS ?_
    exact congrArg (fun n=>aBZ n) (w2.trans (show((2*s:Nat):Int)=((0+2*s:Nat):Int) by rw[bu]))
   all_goals repeat' first|refine Ai ?_ ?_|exact rfl|exact⟨⟩|exact Ei _ rfl|refine aj ?_|refine bS ?_
  rintro⟨p,a,X⟩ ⟨g1,g2,hX,hk⟩;simp only at g1 g2 hX hk;obtain⟨p,rfl⟩:∃ r,p=r+1:=⟨p - 1,by omega⟩
  refine aBW [10,14,15,16] ?_;refine cS (fun hc=>?_) (fun hc=>?_)
  ·have aS:a+2*s<=n:=by
    have hc:decide (((a+2*s:Nat):Int)<=(n:Int))=true:=hc;have:=of_decide_eq_true hc;omega
   rw[oI,if_pos aS] at hk;have w3:=KW (a:=a+2*s) (b:=2*s) (n:=n) (by omega) (by omega) hl;refine aBW [] ?_;refine cM [] [(0,0)] (pJ g cf hg (2*s) a (a+s) (a+2*s) X (by omega) (by omega) (by omega) (by omega) (by rw[hX];exact hl)) ?_ ?_ ?_
   ·repeat' first|refine Ai ?_ ?_|exact rfl|exact⟨⟩|exact Ei _ rfl|refine aj ?_|refine bS ?_
    exact congrArg (fun n=>iv n) (KW (a:=a) (b:=s) (n:=n) (by omega) (by omega) hl)
   ·exact rfl
   refine Ei (p,a+2*s,fK (gF cf) (2*s) a (a+s) (a+2*s) X) (Ai ⟨aS,by simp only;omega,by simp only;rw[lp];exact hX,hk⟩ (Ai (show n - (a+2*s) < n - a by omega) ?_));refine dz (n1:=1) rfl rfl ?_ ?_ ?_
   ·repeat' first|refine Ai ?_ ?_|exact rfl|exact⟨⟩|exact Ei _ rfl|refine aj ?_|refine bS ?_
    refine congrArg (fun n=>aBZ n) ?_;show IntKind.i64.wrap (((a+2*s:Nat):Int)+IntKind.i64.wrap (2*(s:Int)))=_;rw[w2,w3]
   all_goals repeat' first|refine Ai ?_ ?_|exact rfl|exact⟨⟩|exact Ei _ rfl|refine aj ?_|refine bS ?_
  have aS:¬ a+2*s<=n:=by
   have hc:decide (((a+2*s:Nat):Int)<=(n:Int))=false:=hc;have:=of_decide_eq_false hc;omega
  rw[oI,if_neg aS] at hk;have w1:=KW (a:=a) (b:=s) (n:=n) (by omega) (by omega) hl;refine cS (fun hc=>?_) (fun hc=>?_)
  ·have hm:a+s < n:=by
    have hc:decide (IntKind.i64.wrap ((a:Int)+(s:Int)) < (n:Int))=true:=hc;rw[w1] at hc;have:=of_decide_eq_true hc;omega
   rw[if_pos hm] at hk;refine aBW [] ?_;refine cM [] [(0,0)] (pJ g cf hg (n - a) a (a+s) n X (by omega) hm (by omega) (al _) (by rw[hX];exact hl)) ?_ ?_ ?_
   ·repeat' first|refine Ai ?_ ?_|exact rfl|exact⟨⟩|exact Ei _ rfl|refine aj ?_|refine bS ?_
    exact congrArg (fun n=>iv n) w1
   ·exact rfl
   rw[hk];have hX3:(oI (gF cf) s n (n+1) 0 Z).length=n:=by rw[wU];exact hZ
   refine aBW [] ?_;refine Ei (q,2*s,oI (gF cf) s n (n+1) 0 Z) (Ai ⟨by simp only;omega,by simp only;omega,hX3,he⟩ (Ai (show n - 2*s < n - s by omega) ?_));refine dz (n1:=1) rfl rfl ?_ ?_ ?_
   ·repeat' first|refine Ai ?_ ?_|exact rfl|exact⟨⟩|exact Ei _ rfl|refine aj ?_|refine bS ?_
    exact congrArg (fun n=>aBZ n) (KU (s:=s) (n:=n) (by omega) hl)
   all_goals repeat' first|refine Ai ?_ ?_|exact rfl|exact⟨⟩|exact Ei _ rfl|refine aj ?_|refine bS ?_
  ·have hm:¬ a+s < n:=by
    have hc:decide (IntKind.i64.wrap ((a:Int)+(s:Int)) < (n:Int))=false:=hc;rw[w1] at hc;have:=of_decide_eq_false hc;omega
   rw[if_neg hm] at hk;subst hk;refine aBW [] ?_;refine Ei (q,2*s,oI (gF cf) s n (n+1) 0 Z) (Ai ⟨by simp only;omega,by simp only;omega,hX,he⟩ (Ai (show n - 2*s < n - s by omega) ?_));refine dz (n1:=1) rfl rfl ?_ ?_ ?_
   ·repeat' first|refine Ai ?_ ?_|exact rfl|exact⟨⟩|exact Ei _ rfl|refine aj ?_|refine bS ?_
    exact congrArg (fun n=>aBZ n) (KU (s:=s) (n:=n) (by omega) hl)
   all_goals repeat' first|refine Ai ?_ ?_|exact rfl|exact⟨⟩|exact Ei _ rfl|refine aj ?_|refine bS ?_
 ·have Xe:¬ s < n:=by simpa using hc
  have he:Z=iT (gF cf) l:=by
   rw[<- he]
   cases q with
   | zero=>rfl
   | succ q=>rw[qD,if_neg Xe]
  refine Ei [(0,0)] (Ai (Ai rfl (Ai ?_ (Ai ?_ ?_))) ?_)
  ·repeat' first|refine Ai ?_ ?_|exact rfl|exact⟨⟩|exact Ei _ rfl|refine aj ?_|refine bS ?_
   all_goals exact congrArg (List.map aF.enc) he
  all_goals repeat' first|refine Ai ?_ ?_|exact rfl|exact⟨⟩|exact Ei _ rfl|refine aj ?_|refine bS ?_
theorem vg (g:Nat)(cf:aF->aF->Int)(hg:OP g cf)(l:List aF)(hl:l.length*672<=ba):F7 ae 26 [.c (.row 0 0),.fn g []] [] [⟨100,76,0,(l).map aF.enc,none⟩] (.fH []) [] [⟨100,76,0,(iT (gF cf) l).map aF.enc,none⟩] []:=by
 refine jC 1 Tryz.func26 rfl (enters_of Tryz.func26 (by kernel_rfl) rfl) tabOk (by kernel_rfl) rfl rfl rfl rfl rfl fun w0 O _=>aBW [] ?_;refine cM [] [(0,0)] (Ed g cf hg l (l.map aF.enc).length (Lm ..) hl) ?_ ?_ ?_
 ·repeat' first|refine Ai ?_ ?_|exact rfl|exact⟨⟩|exact Ei _ rfl
 ·exact rfl
 have he:iT (gF cf) l=iT (gF cf) l:=rfl;refine Ei [(0,0)] (Ai (Ai rfl (Ai ?_ (Ai ?_ ?_))) ?_)
 ·repeat' first|refine Ai ?_ ?_|exact rfl|exact⟨⟩|exact Ei _ rfl|refine aj ?_|refine bS ?_
  all_goals exact congrArg (List.map aF.enc) he
 all_goals repeat' first|refine Ai ?_ ?_|exact rfl|exact⟨⟩|exact Ei _ rfl|refine aj ?_|refine bS ?_
end
section
open Go Cg
def zV (x y:aF):Bool:=decide (x.id < y.id)||(x.id==y.id&&decide (x.index<=y.index))
def Fg (x y:aF):Prop:=x.id < y.id\/(x.id=y.id/\x.index<=y.index)
theorem Ch (x y:aF):zV x y=true↔Fg x y:=by
 unfold zV Fg;simp
theorem yq (x y z:aF)(h1:Fg x y)(h2:Fg y z):Fg x z:=by
 unfold Fg at *;omega
theorem yr (x y:aF):Fg x y\/Fg y x:=by
 unfold Fg;omega
theorem G3 (x y:aF):gF sD y x=true↔¬ Fg x y:=by
 unfold gF sD AF Fg;simp only[decide_eq_true_eq]
 repeat' split
 all_goals omega
theorem IE (l:List aF):iT (gF sD) l=oF zV [] l:=Ln Ch yq yr (fun x y=>G3 x y) l
theorem Ee (l:List aF):(iT (gF sD) l).Perm l:=(Gp yq yr l (List.pairwise_of_forall fun x y=>G3 x y)).1
end
section
open Go Cg Go.RowKit Go.Sort


theorem pj (xs ys:List Int):(kq xs ys).length<=xs.length:=by
 unfold kq;refine bd (Fo OW _ []) ?_;rw[aw,bu];exact cx _ _
theorem Bl (c:fx)(w:aF)(b1:c.before.aa.length<=1000000)(b2:c.after.aa.length<=1000000)(h3:c.de.length*176<=ba)(h4:c.dS.length*176<=ba)(m3:∀ y∈c.de,aG.ok y)(m4:∀ y∈c.dS,aG.ok y):Ct ae 71 [.agg (c.enc.map .t),.agg (w.enc.map .t)] (.c (.t (.sl 1 ((fC c w).map eI)))) [] false:=by
 have h1:c.before.aa.length*128<=ba:=by unfold ba;omega
 have h2:c.after.aa.length*128<=ba:=by unfold ba;omega
 have hlen:=nq c.after.aa;generalize hM:fC c w=M;unfold fC at hM;refine cT Tryz.func71 rfl (by kernel_rfl) rfl fun w0 O _=>aBW [4,5,6,7,8,9,10,11,12,13,14,15,16,17,18,19,20,21,22,23,24] ?_;refine cS (fun e=>?_) (fun e=>?_)
 ·have e:w.ai.aM.when=1:=by simpa using e
  rw[if_pos e] at hM;refine aBW [5,6] ?_;refine cS (fun e2=>?_) (fun e2=>?_)
  ·have e2:(c.e.kind != 2)=true:=e2;rw[e2,Bool.true_and] at hM;refine cS (fun e3=>?_) (fun e3=>?_)
   ·have e3:(c.e.kind != 10)=true:=e3;rw[if_pos e3] at hM;subst hM;refine aBW [] ?_;refine Ei [] ?_
    repeat' first|refine Ai ?_ ?_|exact rfl|exact⟨⟩|exact Ei _ rfl
   ·have e3:(c.e.kind != 10)=false:=e3;rw[e3,if_neg Bool.false_ne_true] at hM;subst hM;refine aBW [] ?_;refine cF (tg c.before c.after b1 b2) ⟨fL c.before.enc,fL c.after.enc,trivial⟩ ?_;refine cM [0,128] [(3200,0)] (C7 (kq (gx c.after.aa) (gx c.before.aa)) (fun id=>!jK c.after.aa c.dS id w.you w.id w.ai.aM.filter) 132 c w (fun id=>Gi c w h2 h4 m4 id) (by have:=pj (gx c.after.aa) (gx c.before.aa);unfold ba;omega)) ?_ ?_ ?_
    ·repeat' first|refine Ai ?_ ?_|exact rfl|exact⟨⟩|exact Ei _ rfl|refine aj ?_|refine bS ?_
    ·repeat' first|refine Ai ?_ ?_|exact rfl|exact⟨⟩|exact Ei _ rfl|refine aj ?_|refine bS ?_
    refine Ei [] ?_
    repeat' first|refine Ai ?_ ?_|exact rfl|exact⟨⟩|exact Ei _ rfl
  ·have e2:(c.e.kind != 2)=false:=e2;rw[e2,Bool.false_and,if_neg Bool.false_ne_true] at hM;subst hM;refine aBW [] ?_;refine cF (tg c.before c.after b1 b2) ⟨fL c.before.enc,fL c.after.enc,trivial⟩ ?_;refine cM [0,128] [(3200,0)] (C7 (kq (gx c.after.aa) (gx c.before.aa)) (fun id=>!jK c.after.aa c.dS id w.you w.id w.ai.aM.filter) 132 c w (fun id=>Gi c w h2 h4 m4 id) (by have:=pj (gx c.after.aa) (gx c.before.aa);unfold ba;omega)) ?_ ?_ ?_
   ·repeat' first|refine Ai ?_ ?_|exact rfl|exact⟨⟩|exact Ei _ rfl|refine aj ?_|refine bS ?_
   ·repeat' first|refine Ai ?_ ?_|exact rfl|exact⟨⟩|exact Ei _ rfl|refine aj ?_|refine bS ?_
   refine Ei [] ?_
   repeat' first|refine Ai ?_ ?_|exact rfl|exact⟨⟩|exact Ei _ rfl
 have e:¬ w.ai.aM.when=1:=by simpa using e
 rw[if_neg e] at hM;clear e;refine aBW [8,9,10] ?_;refine cS (fun e=>?_) (fun e=>?_)
 ·have e:w.ai.aM.when=2:=by simpa using e
  rw[if_pos e] at hM;refine aBW [9] ?_;refine cF (Hc c h1 h2) ⟨fL c.enc,trivial⟩ ?_;refine cS (fun e2=>?_) (fun e2=>?_)
  ·rw[if_pos e2] at hM;subst hM;refine aBW [] ?_;refine cF (o9 2 c.e.aO c.before c.de c w h1 h3 m3) ⟨rfl,rfl,fL c.before.enc,rfl,⟨⟨rfl,rfl⟩,trivial⟩,⟨⟨rfl,rfl⟩,trivial⟩,trivial⟩ ?_;refine Ei [] ?_
   repeat' first|refine Ai ?_ ?_|exact rfl|exact⟨⟩|exact Ei _ rfl
  ·rw[if_neg (by rw[e2];exact Bool.false_ne_true)] at hM;subst hM;refine aBW [] ?_;refine Ei [] ?_
   repeat' first|refine Ai ?_ ?_|exact rfl|exact⟨⟩|exact Ei _ rfl
 have e:¬ w.ai.aM.when=2:=by simpa using e
 rw[if_neg e] at hM;clear e;refine aBW [11,12,13] ?_;refine cS (fun e=>?_) (fun e=>?_)
 ·have e:w.ai.aM.when=3:=by simpa using e
  rw[if_pos e] at hM;refine aBW [12] ?_;refine cF (Hc c h1 h2) ⟨fL c.enc,trivial⟩ ?_;refine cS (fun e2=>?_) (fun e2=>?_)
  ·rw[e2,Bool.true_and] at hM;refine cS (fun e3=>?_) (fun e3=>?_)
   ·rw[if_pos e3] at hM;subst hM;refine aBW [] ?_;refine cF (o9 2 c.e.aO c.before c.de c w h1 h3 m3) ⟨rfl,rfl,fL c.before.enc,rfl,⟨⟨rfl,rfl⟩,trivial⟩,⟨⟨rfl,rfl⟩,trivial⟩,trivial⟩ ?_;refine Ei [] ?_
    repeat' first|refine Ai ?_ ?_|exact rfl|exact⟨⟩|exact Ei _ rfl
   ·rw[if_neg (by rw[show(c.e.nQ==3)=false from e3];exact Bool.false_ne_true)] at hM;subst hM;refine aBW [] ?_;refine Ei [] ?_
    repeat' first|refine Ai ?_ ?_|exact rfl|exact⟨⟩|exact Ei _ rfl
  ·rw[e2,Bool.false_and,if_neg Bool.false_ne_true] at hM;subst hM;refine aBW [] ?_;refine Ei [] ?_
   repeat' first|refine Ai ?_ ?_|exact rfl|exact⟨⟩|exact Ei _ rfl
 have e:¬ w.ai.aM.when=3:=by simpa using e
 rw[if_neg e] at hM;clear e;refine aBW [14,15] ?_;refine cS (fun e=>?_) (fun e=>?_)
 ·have e:w.ai.aM.when=4:=by simpa using e
  rw[if_pos e] at hM;subst hM;refine aBW [] ?_;refine cF (o9 12 c.e.aO c.after c.dS c w h2 h4 m4) ⟨rfl,rfl,fL c.after.enc,rfl,⟨⟨rfl,rfl⟩,trivial⟩,⟨⟨rfl,rfl⟩,trivial⟩,trivial⟩ ?_;refine Ei [] ?_
  repeat' first|refine Ai ?_ ?_|exact rfl|exact⟨⟩|exact Ei _ rfl
 have e:¬ w.ai.aM.when=4:=by simpa using e
 rw[if_neg e] at hM;clear e;refine aBW [16,17] ?_;refine cS (fun e=>?_) (fun e=>?_)
 ·have e:w.ai.aM.when=5:=by simpa using e
  rw[if_pos e] at hM;subst hM;refine aBW [] ?_;refine cF (o9 13 c.e.aO c.after c.dS c w h2 h4 m4) ⟨rfl,rfl,fL c.after.enc,rfl,⟨⟨rfl,rfl⟩,trivial⟩,⟨⟨rfl,rfl⟩,trivial⟩,trivial⟩ ?_;refine Ei [] ?_
  repeat' first|refine Ai ?_ ?_|exact rfl|exact⟨⟩|exact Ei _ rfl
 have e:¬ w.ai.aM.when=5:=by simpa using e
 rw[if_neg e] at hM;clear e;refine aBW [18,19] ?_;refine cS (fun e=>?_) (fun e=>?_)
 ·have e:w.ai.aM.when=14:=by simpa using e
  rw[if_pos e] at hM;subst hM;refine aBW [] ?_;refine cF (o9 8 c.e.aO c.after c.dS c w h2 h4 m4) ⟨rfl,rfl,fL c.after.enc,rfl,⟨⟨rfl,rfl⟩,trivial⟩,⟨⟨rfl,rfl⟩,trivial⟩,trivial⟩ ?_;refine Ei [] ?_
  repeat' first|refine Ai ?_ ?_|exact rfl|exact⟨⟩|exact Ei _ rfl
 have e:¬ w.ai.aM.when=14:=by simpa using e
 rw[if_neg e] at hM;clear e;refine aBW [20,21] ?_;refine cS (fun e=>?_) (fun e=>?_)
 ·have e:w.ai.aM.when=6:=by simpa using e
  rw[if_pos e] at hM;subst hM;refine aBW [] ?_;refine cF (o9 1 c.e.fp c.before c.de c w h1 h3 m3) ⟨rfl,rfl,fL c.before.enc,rfl,⟨⟨rfl,rfl⟩,trivial⟩,⟨⟨rfl,rfl⟩,trivial⟩,trivial⟩ ?_;refine Ei [] ?_
  repeat' first|refine Ai ?_ ?_|exact rfl|exact⟨⟩|exact Ei _ rfl
 have e:¬ w.ai.aM.when=6:=by simpa using e
 rw[if_neg e] at hM;clear e;refine aBW [22,23] ?_;refine cS (fun e=>?_) (fun e=>?_)
 ·have e:w.ai.aM.when=7:=by simpa using e
  rw[if_pos e] at hM;refine aBW [23] ?_;refine cS (fun e2=>?_) (fun e2=>?_)
  ·rw[if_pos e2] at hM;subst hM;refine aBW [] ?_;refine cF (o9 1 c.e.aO c.before c.de c w h1 h3 m3) ⟨rfl,rfl,fL c.before.enc,rfl,⟨⟨rfl,rfl⟩,trivial⟩,⟨⟨rfl,rfl⟩,trivial⟩,trivial⟩ ?_;refine Ei [] ?_
   repeat' first|refine Ai ?_ ?_|exact rfl|exact⟨⟩|exact Ei _ rfl
  ·rw[if_neg (by rw[show(c.e.aO != 0)=false from e2];exact Bool.false_ne_true)] at hM;subst hM;refine aBW [] ?_;refine Ei [] ?_
   repeat' first|refine Ai ?_ ?_|exact rfl|exact⟨⟩|exact Ei _ rfl
 have e:¬ w.ai.aM.when=7:=by simpa using e
 rw[if_neg e] at hM;subst hM;refine aBW [] ?_;refine Ei [] ?_
 repeat' first|refine Ai ?_ ?_|exact rfl|exact⟨⟩|exact Ei _ rfl
theorem Gh {α:Type}(f:α->Nat)(n:Nat)(h:∀ x,f x<=n):∀ l:List α,(l.map f).sum<=l.length*n
 | []=>aD _
 | x :: r=>by
  rw[bP,List.sum_cons,aq,Nat.add_mul,Nat.one_mul];have:=Gh f n h r;have:=h x;omega
theorem Bm (c:fx)(w:aF):(fC c w).length<=c.after.aa.length+1:=by
 have h1:∀ k kk id s all,(oB k kk id s all w).length<=1:=fun k kk id s all=>by
  unfold oB;split
  ·exact al _
  ·exact aD _
 unfold fC
 repeat' split
 all_goals first
  | exact aD _
  | exact bd (h1 _ _ _ _ _) (Nat.le_add_left _ _)
  | (refine bd (cx _ _) (bd (pj _ _) (bd (nq _) (Nat.le_succ _))))
theorem apW {X:List bW}{y:bW}:X.map bW.enc++[y.enc]=(X++[y]).map bW.enc:=by rw[aW];rfl
theorem D1 (c:fx)(w:aF)(hw:w.ai.ok)(b1:c.before.aa.length<=1000000)(b2:c.after.aa.length<=1000000)(hp:c.after.ok)(h3:c.de.length*176<=ba)(h4:c.dS.length*176<=ba)(m3:∀ y∈c.de,aG.ok y)(m4:∀ y∈c.dS,aG.ok y):Ct ae 30 [.agg (c.enc.map .t),.agg (w.enc.map .t)] (.c (.t (.sl 89 ((aaL c w).map bW.enc)))) [] false:=by
 have h2:c.after.aa.length*128<=ba:=by unfold ba;omega
 have hcp:=wH w.ai hw;have Vy:=Bm c w;have Vw:=Bl c w b1 b2 h3 h4 m3 m4;generalize hM:aaL c w=M;unfold aaL at hM;have hbx:∀ b:Bool,(aB0 b:AV)=aB0 b:=fun _=>rfl;refine cT Tryz.func30 rfl (by kernel_rfl) rfl fun w0 O _=>aBW [4,5,6,7,8,9,10,11,12,13,14,15,16,17,19] ?_;refine cR hcp ⟨fL w.ai.enc,trivial⟩ ?_;refine cF (Vm w.ai.aM.when) ⟨rfl,trivial⟩ ?_;refine aBW [5,6,9] ?_;refine cS (fun e=>?_) (fun e=>?_)
 ·have e:kD w.ai.aM.when≠0:=by simpa using e
  rw[if_pos e] at hM;refine aBW [6] ?_;have fin:∀ (p:Bool),p=(c.e.kind==kD w.ai.aM.when&&kM c.after.az c.e.bC w.you w.ai.aM.who)->M=(if p&&!(w.ai.aM.when==9&&!jK c.after.aa c.dS c.e.aO w.you w.id w.ai.aM.filter) then [⟨w.id,w.you,w.ai,c.e⟩] else []):=fun p h=>by rw[h];exact hM.symm
  refine cS (fun e1=>?_) (fun e1=>?_)
  ·refine cF (QR c.after c.e.bC w.you w.ai.aM.who hp) ⟨fL c.after.enc,rfl,rfl,rfl,trivial⟩ ?_;have e1:(c.e.kind==kD w.ai.aM.when)=true:=e1;rw[e1,Bool.true_and] at fin;refine aBW [7,8] ?_;refine cy (cS (fun e2=>?_) (fun e2=>?_))
   ·have fin:=fin _ rfl;rw[e2,Bool.true_and] at fin;refine cS (fun e3=>?_) (fun e3=>?_)
    ·have e3:(w.ai.aM.when==9)=true:=e3;rw[e3,Bool.true_and] at fin;refine cF (As c.after c.dS w c.e.aO h2 h4 m4) ⟨fL c.after.enc,rfl,fL w.enc,rfl,trivial⟩ ?_;refine cy (cS (fun e4=>?_) (fun e4=>?_))
     ·rw[e4] at fin;have fin:M=[⟨w.id,w.you,w.ai,c.e⟩]:=fin;subst fin;refine aBW [] ?_;refine Ei [] ?_
      repeat' first|refine Ai ?_ ?_|exact rfl|exact⟨⟩|exact Ei _ rfl
     ·rw[e4] at fin;have fin:M=[]:=fin;subst fin;refine aBW [] ?_;refine Ei [] ?_
      repeat' first|refine Ai ?_ ?_|exact rfl|exact⟨⟩|exact Ei _ rfl
    ·have e3:(w.ai.aM.when==9)=false:=e3;rw[e3] at fin;have fin:M=[⟨w.id,w.you,w.ai,c.e⟩]:=fin;subst fin;refine aBW [] ?_;refine Ei [] ?_
     repeat' first|refine Ai ?_ ?_|exact rfl|exact⟨⟩|exact Ei _ rfl
   ·have fin:=fin _ rfl;rw[e2] at fin;have fin:M=[]:=fin;subst fin;refine aBW [] ?_;refine Ei [] ?_
    repeat' first|refine Ai ?_ ?_|exact rfl|exact⟨⟩|exact Ei _ rfl
  ·have e1:(c.e.kind==kD w.ai.aM.when)=false:=e1;rw[e1] at fin;have fin:=fin _ rfl;have fin:M=[]:=fin;subst fin;refine aBW [7,8] ?_;refine aBW [] ?_;refine Ei [] ?_
   repeat' first|refine Ai ?_ ?_|exact rfl|exact⟨⟩|exact Ei _ rfl
 have e:¬ kD w.ai.aM.when≠0:=by simpa using e
 rw[if_neg e] at hM;clear e;subst hM;refine aBW [] ?_;refine aBW [] ?_;refine cR Vw ⟨fL c.enc,fL w.enc,trivial⟩ ?_;refine aBY (fun k:Nat=>⟨[(3,.ptr 128 0),(5,.ptr 1664 0),(6,.ptr 2304 0),(9,.c (.row 9000 0)),(71,.c (.t (.sl 1 ((fC c w).map eI)))),(72,aBZ ((fC c w).map eI).length),(73,aBZ k)],[(128,w.enc.map .t),(1664,(bW.mk w.id w.you w.ai c.e).enc.map .t),(2304,w.ai.aM.enc.map .t)],[(9000,⟨72,89,0,(((fC c w).take k).map fun id=>bW.mk w.id w.you w.ai (R8 c.e (w.ai.aM.when==1||w.ai.aM.when==6) id)).map bW.enc,none⟩)],10000⟩) (fun k=>k<=(fC c w).length) (fun k=>(fC c w).length - k) 0 ?_ (aD _) ?_
 ·refine bh [] rfl rfl ?_ ⟨aV _ rfl,aV _ rfl,aV _ rfl,trivial⟩ ?_
  all_goals repeat' first|refine Ai ?_ ?_|exact rfl|exact⟨⟩|exact Ei _ rfl
 rintro k hk;refine aBW [16,17,18] ?_;refine cS (fun h=>?_) (fun h=>?_)
 ·have aS:=cN h
  have kY:(((((fC c w).take k).map fun id=>bW.mk w.id w.you w.ai (R8 c.e (w.ai.aM.when==1||w.ai.aM.when==6) id)).map bW.enc).length+1)*768<=140737488355328/\((((fC c w).take k).map fun id=>bW.mk w.id w.you w.ai (R8 c.e (w.ai.aM.when==1||w.ai.aM.when==6) id)).map bW.enc).length+1 < 140737488355328:=by
   rw[Lm,Lm,aB];omega
  have hsu:(fC c w).length*8<=ba:=by unfold ba;omega
  have fR:∀ b,b=(w.ai.aM.when==1||w.ai.aM.when==6)->(((fC c w).take k).map fun id=>bW.mk w.id w.you w.ai (R8 c.e (w.ai.aM.when==1||w.ai.aM.when==6) id)).map bW.enc++[(bW.mk w.id w.you w.ai (R8 c.e b (fC c w)[k])).enc]=(((fC c w).take (k+1)).map fun id=>bW.mk w.id w.you w.ai (R8 c.e (w.ai.aM.when==1||w.ai.aM.when==6) id)).map bW.enc:=fun b hb=>by
   rw[apW,hb,bc aS,aW (l₁:=List.take k (fC c w))];rfl
  refine Ei k (Ei (eI (fC c w)[k]) (Ai rfl (Ai (aQ _ _ k aS) ?_)));refine cR hcp ⟨fL w.ai.enc,trivial⟩ ?_;refine cS (fun e1=>?_) (fun e1=>?_)
  ·have fR:=fR true (by rw[show(w.ai.aM.when==1)=true from e1];rfl);refine aBW [] ?_;refine aBW [] ?_;refine Ai (.inl rfl) (Ai kY.1 (Ai kY.2 ?_));refine aBW [] ?_;refine Ei (k+1) (Ai (show k+1<=_ by omega) (Ai (show(fC c w).length - (k+1) < (fC c w).length - k by omega) ?_));refine bh [(9000,9000)] rfl rfl ?_ ⟨aV _ rfl,aV _ rfl,aV _ rfl,trivial⟩ ?_
   all_goals repeat' first|refine Ai ?_ ?_|exact rfl|exact⟨⟩|exact Ei _ rfl|refine aj ?_|refine bS ?_
   exact ed k aS 8 (by decide) hsu;exact fR
  ·have e1:(w.ai.aM.when==1)=false:=e1;refine cS (fun e2=>?_) (fun e2=>?_)
   ·have fR:=fR true (by rw[e1,show(w.ai.aM.when==6)=true from e2];rfl);refine aBW [] ?_;refine aBW [] ?_;refine Ai (.inl rfl) (Ai kY.1 (Ai kY.2 ?_));refine aBW [] ?_;refine Ei (k+1) (Ai (show k+1<=_ by omega) (Ai (show(fC c w).length - (k+1) < (fC c w).length - k by omega) ?_));refine bh [(9000,9000)] rfl rfl ?_ ⟨aV _ rfl,aV _ rfl,aV _ rfl,trivial⟩ ?_
    all_goals repeat' first|refine Ai ?_ ?_|exact rfl|exact⟨⟩|exact Ei _ rfl|refine aj ?_|refine bS ?_
    exact ed k aS 8 (by decide) hsu;exact fR
   ·have fR:=fR false (by rw[e1,show(w.ai.aM.when==6)=false from e2];rfl);refine aBW [] ?_;refine Ai (.inl rfl) (Ai kY.1 (Ai kY.2 ?_));refine aBW [] ?_;refine Ei (k+1) (Ai (show k+1<=_ by omega) (Ai (show(fC c w).length - (k+1) < (fC c w).length - k by omega) ?_));refine bh [(9000,9000)] rfl rfl ?_ ⟨aV _ rfl,aV _ rfl,aV _ rfl,trivial⟩ ?_
    all_goals repeat' first|refine Ai ?_ ?_|exact rfl|exact⟨⟩|exact Ei _ rfl|refine aj ?_|refine bS ?_
    exact ed k aS 8 (by decide) hsu;exact fR
 ·have fS:=cP h hk;subst fS;refine aBW [] ?_;refine Ei [] ?_
  repeat' first|refine Ai ?_ ?_|exact rfl|exact⟨⟩|exact Ei _ rfl
  rw[bm];exact rfl
end
end Go.Proofs.YtbmdcnkidjlbbaaGreat
