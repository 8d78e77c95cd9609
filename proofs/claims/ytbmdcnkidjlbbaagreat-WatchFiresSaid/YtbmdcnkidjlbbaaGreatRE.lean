/- Parts of the proof, joined: Chapter 02 again, fo. -/
import Derived.Test.YtbmdcnkidjlbbaaGreatRD
import Derived.WalkLawsBesides
import Derived.WalkSpells
import Derived.WalkSmall
import Derived.BigQuiet
import Derived.Deep.QuietTactic
import Derived.Lib.SlicesCompact
import Derived.Lib.Join
import Derived.Lib.SlicesS
import Derived.Lib.AppendZeros
import Derived.Orders
import Derived.RangeFuncFrom
open Go.Proofs.Tryz renaming prog->ae
open List renaming getElem?_eq_getElem->cD,length_cons->aq,length_nil->aw,getElem?_eq_some_iff->an,length_append->au,length_take->aB,mem_cons_self->aC,getElem_mem->aI,mem_singleton->aJ,mem_cons_of_mem->aK,all_eq_true->aN,length_drop->aL,mem_of_getElem?->aU,map_append->aW,mem_append->aX,getElem?_append_right->aY,take_succ_eq_append_getElem->bc,append_nil->aZ,take_length->bm,getElem?_append_left->bn,mem_iff_getElem->bB,mem_map->bA,getElem?_map->bp,mem_append_left->bH,mem_append_right->bJ,nil_append->bF,length_set->bG,flatMap_cons->bK,map_cons->bP,length_replicate->cc,pairwise_iff_getElem->cu,length_filter_le->cx,getElem?_eq_none->dy,append_assoc->cH,map_set->fF
open Bool renaming and_eq_true->ag,not_eq_true'->cb,or_eq_true->cm
open Go.IntKind renaming wrap_i64->ak,wrap_u64->dM
open Nat renaming eq_of_beq_eq_true->ah,le_refl->al,zero_le->aD,le_trans->bd,zero_add->bu,lt_of_lt_of_le->cd,le_of_lt->cG,add_zero->cO
open Option.some renaming inj->aR
open Array renaming length_toList->bD,getElem?_toList->cp
open Cg.Tp renaming run->aBW,loop->aBY
open Cg.ck renaming bI->aBX,cut->aB3
open Cg.AV renaming i->aBZ,b->aB0
open Cg.Ct renaming lit->aB4
set_option maxRecDepth 100000
set_option maxHeartbeats 4000000
namespace Go.Proofs.YtbmdcnkidjlbbaaGreat
section
open Go Go.RowKit Cg
theorem xQ {s:ByteArray}(h:s.size=0):s=⟨#[]⟩:=yK (by
 have h1:s.data.toList.length=0:=by simpa using h
 simpa using List.eq_nil_of_length_eq_zero h1)
theorem jR (c:UInt8)(w:World):Calls ae 144 #[.int .u8 c.toNat] w fun e w'=>e=.returned (.bool (B8 c))/\w=w':=by
 have hc:c.toNat < 256:=c.toNat_lt
 by_cases h1:97<=c.toNat
 ·by_cases h2:c.toNat<=122
  ·rw[show B8 c=true from decide_eq_true ⟨h1,h2⟩]
   go_enter Tryz.func144,Tryz.ntmps144
   go_wp2
   all_goals go_ret
   all_goals exact⟨et (by simp;omega),rfl⟩
  ·rw[show B8 c=false from decide_eq_false (fun h=>h2 h.2)]
   go_enter Tryz.func144,Tryz.ntmps144
   go_wp2
   all_goals go_ret
   all_goals exact⟨et (by simp;omega),rfl⟩
 ·rw[show B8 c=false from decide_eq_false (fun h=>h1 h.1)]
  go_enter Tryz.func144,Tryz.ntmps144
  go_wp2
  all_goals go_ret
  all_goals exact⟨et (by simp),rfl⟩
def DF (s:ByteArray)(k:Nat):Prop:=∀ i,i < k->CJ (bt s i)=true
theorem DF.step {s:ByteArray}{k:Nat}(h:DF s k)(h2:CJ (bt s k)=true):DF s (k+1):=fun i hi=>by
 by_cases e:i=k
 ·rw[e];exact h2
 ·exact h i (by omega)
def OO (s:ByteArray)(k:Nat):Prop:=∀ i,i < k->0 < i->¬ ((bt s i).toNat=45/\(bt s (i - 1)).toNat=45)
theorem OO.step {s:ByteArray}{k:Nat}(h:OO s k)(h2:0 < k->¬ ((bt s k).toNat=45/\(bt s (k - 1)).toNat=45)):OO s (k+1):=fun i hi h0=>by
 by_cases e:i=k
 ·rw[e] at h0 ⊢;exact h2 h0
 ·exact h i (by omega) h0
theorem xl {s:ByteArray}(h:Lib.contains s.data.toList [45,45]=false):OO s s.size:=fun i hi h0 hh=>by
 have:Lib.contains s.data.toList [45,45]=true:=(ti s).2 ⟨i - 1,by omega,(Gd _).2 hh.2,by rw[show i - 1+1=i by omega];exact(Gd _).2 hh.1⟩;rw[h] at this
 cases this
theorem z8 {s:ByteArray}(h:Lib.contains s.data.toList [45,45]=true):AX s=false:=eP (fun hw=>by
 obtain⟨i,h1,h2,h3⟩:=(ti s).1 h;exact hw.2.2.2.2.2 (i+1) h1 (by omega) ⟨(Gd _).1 h3,by rw[show i+1 - 1=i by omega];exact(Gd _).1 h2⟩)
theorem Hh {s:ByteArray}{k:Nat}(hk:k < s.size)(h:CJ (bt s k)=false):AX s=false:=eP (fun hw=>by
 have:=hw.2.2.2.2.1 k hk;rw[h] at this
 cases this)
def Mx (w:World):Prop:=∃ m,w.cell? ⟨0,0,none⟩=some (.int .i64 m)
theorem wI (s p:ByteArray)(w:World)(hs:s.size < 4294967281)(hm:Mx w):Calls ae 277 #[.string s,.string p] w fun e w'=>e=.returned (.bool (Lib.contains s.data.toList p.data.toList))/\w=w':=by
 obtain⟨m,hm⟩:=hm;exact(Tryz.strings_Contains s p m w hs hm).mono fun _ _ ⟨h1,h2⟩=>⟨h1,h2.symm⟩
theorem Vr (s:ByteArray)(hs:s.size<=1000000)(w:World):Calls ae 79 #[.string s] w fun e w'=>e=.returned (.bool (AX s))/\w=w':=by
 by_cases h0:s.size=0
 ·rw[eP (s:=s) (fun h=>by have:=h.1;omega)];obtain rfl:=xQ h0;clear h0
  go_enter Tryz.func79,Tryz.ntmps79
  go_wp2
  go_ret
  exact⟨rfl,rfl⟩
 have nC:0 < s.size:=by omega
 have t0:((s.size:Int)==0)=false:=beq_eq_false_iff_ne.2 (by omega)
 by_cases h32:32 < s.size
 ·rw[eP (s:=s) (fun h=>by have:=h.2.1;omega)];clear h0
  go_enter Tryz.func79,Tryz.ntmps79
  go_wp2
  go_ret
  exact⟨rfl,rfl⟩
 have HB0:=Lib.hid (wT s 0 nC);obtain⟨a,ha⟩:∃ a,s[0]'nC=a:=⟨_,rfl⟩
 have HA:=Lib.hid (show bt s 0=a by rw[HB0.out,ha]);have DT:a.toNat < 256:=a.toNat_lt;have hq:s.size - 1 < s.size:=by omega
 have HB1:=Lib.hid (wT s (s.size - 1) hq);obtain⟨z,hz⟩:∃ z,s[s.size - 1]'hq=z:=⟨_,rfl⟩
 have HZ:=Lib.hid (show bt s (s.size - 1)=z by rw[HB1.out,hz]);have YV:z.toNat < 256:=z.toNat_lt;have i1:(1:Int)<=(s.size:Int):=by omega
 have i2:(s.size:Int) - 1 < (s.size:Int):=by omega
 have h33:s.size<=32:=by omega
 clear h0 h32
 cases DS:B8 a
 ·rw[eP (s:=s) (fun h=>by have:=h.2.2.1;rw[HA.out,DS] at this;cases this)];have TT:=Lib.hid DS;clear DS
  go_enter Tryz.func79,Tryz.ntmps79
  go_wp2_with (go_at_call 144;refine(jR a _).mono ?_;rintro e w' ⟨rfl,rfl⟩;rw[TT.out])
  go_ret
  exact⟨rfl,rfl⟩
 have TT:=Lib.hid DS;clear DS
 by_cases Ab:z.toNat=45
 ·rw[eP (s:=s) (fun h=>h.2.2.2.1 (by rw[HZ.out];exact Ab))];have tz:((z.toNat:Int)==45)=true:=beq_iff_eq.2 (by omega);clear Ab
  go_enter Tryz.func79,Tryz.ntmps79
  go_wp2_with (go_at_call 144;refine(jR a _).mono ?_;rintro e w' ⟨rfl,rfl⟩;rw[TT.out])
  go_ret
  exact⟨rfl,rfl⟩
 have tz:((z.toNat:Int)==45)=false:=beq_eq_false_iff_ne.2 (by omega)
 go_enter Tryz.func79,Tryz.ntmps79
 go_wp2_with (go_at_call 144;refine(jR a _).mono ?_;rintro e w' ⟨rfl,rfl⟩;rw[TT.out])
 go_loop [3] (fun i=>∃ k:Nat,k<=s.size/\i=.int .i64 k/\DF s k/\OO s k) (fun i=>s.size - (intOf i).toNat)
 case atStart=>exact⟨0,by omega,rfl,(fun i hi=>by omega),fun i hi=>by omega⟩
 case round=>
  obtain⟨k,hk,rfl,uI,hdd⟩:=hrel
  by_cases aS:k < s.size
  ·have HB:=Lib.hid (wT s k aS);obtain⟨c,hc⟩:∃ c,s[k]'aS=c:=⟨_,rfl⟩
   have HC:=Lib.hid (show bt s k=c by rw[HB.out,hc]);have V0:c.toNat < 256:=c.toNat_lt;have HG:=Lib.hid uI;have HDD:=Lib.hid hdd;clear uI hdd
   cases Rw:B8 c
   ·have JP:¬ (97<=c.toNat/\c.toNat<=122):=of_decide_eq_false Rw;have TR:=Lib.hid Rw;clear Rw
    by_cases Zu:48<=c.toNat/\c.toNat<=57
    ·obtain⟨d1,d2⟩:=Zu;have HN:=Lib.hid (HG.out.step (by rw[HC.out];exact decide_eq_true (.inr (.inl ⟨d1,d2⟩))));have HM:=Lib.hid (HDD.out.step (fun _ h=>by rw[HC.out] at h;omega));have t45:((c.toNat:Int)==45)=false:=beq_eq_false_iff_ne.2 (by omega);clear JP
     go_wp2_with (go_at_call 144;refine(jR c _).mono ?_;rintro e w' ⟨rfl,rfl⟩;rw[TR.out])
     all_goals go_round
     all_goals first
      | (case rel=>exact⟨k+1,by omega,by go_num,HN.out,HM.out⟩)
      | (case measure=>simp[intOf];omega)
    ·by_cases Xr:c.toNat=45
     ·have HN:=Lib.hid (HG.out.step (by rw[HC.out];exact decide_eq_true (.inr (.inr Xr))));have t45:((c.toNat:Int)==45)=true:=beq_iff_eq.2 (by omega);have t46:((c.toNat:Int) != 45)=false:=by rw[bne,t45];rfl
      have c48:(c.toNat:Int) < 48:=by omega
      by_cases Nz:k=0
      ·exfalso;subst Nz;have hca:a=c:=by rw[<- HA.out,<- HC.out]
       have h1:=TT.out;rw[hca,TR.out] at h1
       cases h1
      ·have hq1:k - 1 < s.size:=by omega
       have HBQ:=Lib.hid (wT s (k - 1) hq1);obtain⟨q,hqe⟩:∃ q,s[k - 1]'hq1=q:=⟨_,rfl⟩
       have HQ:=Lib.hid (show bt s (k - 1)=q by rw[HBQ.out,hqe]);have hql:q.toNat < 256:=q.toNat_lt;have k1:(1:Int)<=(k:Int):=by omega
       have k2:(k:Int) - 1 < (s.size:Int):=by omega
       by_cases Rt:q.toNat=45
       ·have HF:=Lib.hid (eP (s:=s) (fun h=>h.2.2.2.2.2 k aS (by omega) ⟨by rw[HC.out];exact Xr,by rw[HQ.out];exact Rt⟩));have tq:((q.toNat:Int)==45)=true:=beq_iff_eq.2 (by omega);clear JP Zu Xr Rt Nz
        go_wp2_with (go_at_call 144;refine(jR c _).mono ?_;rintro e w' ⟨rfl,rfl⟩;rw[TR.out])
        go_ret
        exact⟨et HF.out.symm,rfl⟩
       ·have HM:=Lib.hid (HDD.out.step (fun _ h=>Rt (by rw[<- HQ.out];exact h.2)));have tq:((q.toNat:Int)==45)=false:=beq_eq_false_iff_ne.2 (by omega);clear JP Zu Xr Rt Nz
        go_wp2_with (go_at_call 144;refine(jR c _).mono ?_;rintro e w' ⟨rfl,rfl⟩;rw[TR.out])
        go_round
        case rel=>exact⟨k+1,by omega,by go_num,HN.out,HM.out⟩
        case measure=>simp[intOf];omega
     ·have HF:=Lib.hid (Hh aS (by rw[HC.out];exact decide_eq_false (by omega)));have t45:((c.toNat:Int)==45)=false:=beq_eq_false_iff_ne.2 (by omega);have t46:((c.toNat:Int) != 45)=true:=by rw[bne,t45];rfl
      rcases(show c.toNat < 48\/57 < c.toNat by omega) with hb|hb
      ·clear JP Zu Xr
       go_wp2_with (go_at_call 144;refine(jR c _).mono ?_;rintro e w' ⟨rfl,rfl⟩;rw[TR.out])
       go_ret
       exact⟨et HF.out.symm,rfl⟩
      ·clear JP Zu Xr
       go_wp2_with (go_at_call 144;refine(jR c _).mono ?_;rintro e w' ⟨rfl,rfl⟩;rw[TR.out])
       go_ret
       exact⟨et HF.out.symm,rfl⟩
   ·have VJ:97<=c.toNat/\c.toNat<=122:=of_decide_eq_true Rw;have TR:=Lib.hid Rw;have HN:=Lib.hid (HG.out.step (by rw[HC.out];exact decide_eq_true (.inl VJ)));have HM:=Lib.hid (HDD.out.step (fun _ h=>by rw[HC.out] at h;omega));have t45:((c.toNat:Int)==45)=false:=beq_eq_false_iff_ne.2 (by omega);clear Rw
    go_wp2_with (go_at_call 144;refine(jR c _).mono ?_;rintro e w' ⟨rfl,rfl⟩;rw[TR.out])
    all_goals go_round
    all_goals first
     | (case rel=>exact⟨k+1,by omega,by go_num,HN.out,HM.out⟩)
     | (case measure=>simp[intOf];omega)
  ·obtain rfl:k=s.size:=by omega
   have HF:=Lib.hid (Cn (s:=s) ⟨by omega,by omega,by rw[HA.out];exact TT.out,by rw[HZ.out];exact Ab,uI,hdd⟩);clear uI hdd
   go_wp2
   go_ret
   exact⟨et HF.out.symm,rfl⟩
theorem Rl (s:ByteArray)(hs:s.size<=1000000)(w:World)(hm:Mx w):Calls ae 261 #[.string s] w fun e w'=>e=.returned (.bool (AX s))/\Below w.heap.size w w':=by
 have HM:=Lib.hid hm;clear hm
 by_cases h0:s.size=0
 ·rw[eP (s:=s) (fun h=>by have:=h.1;omega)];obtain rfl:=xQ h0;clear h0
  go_enter Tryz.func261,Tryz.ntmps261
  go_wp2
  go_ret
  exact⟨rfl,Below.refl _ _⟩
 have nC:0 < s.size:=by omega
 have t0:((s.size:Int)==0)=false:=beq_eq_false_iff_ne.2 (by omega)
 by_cases h32:32 < s.size
 ·rw[eP (s:=s) (fun h=>by have:=h.2.1;omega)];clear h0
  go_enter Tryz.func261,Tryz.ntmps261
  go_wp2
  go_ret
  exact⟨rfl,Below.refl _ _⟩
 have HB0:=Lib.hid (wT s 0 nC);obtain⟨a,ha⟩:∃ a,s[0]'nC=a:=⟨_,rfl⟩
 have HA:=Lib.hid (show bt s 0=a by rw[HB0.out,ha]);have DT:a.toNat < 256:=a.toNat_lt;have hq:s.size - 1 < s.size:=by omega
 have HB1:=Lib.hid (wT s (s.size - 1) hq);obtain⟨z,hz⟩:∃ z,s[s.size - 1]'hq=z:=⟨_,rfl⟩
 have HZ:=Lib.hid (show bt s (s.size - 1)=z by rw[HB1.out,hz]);have YV:z.toNat < 256:=z.toNat_lt;have i1:(1:Int)<=(s.size:Int):=by omega
 have i2:(s.size:Int) - 1 < (s.size:Int):=by omega
 have h33:s.size<=32:=by omega
 clear h0 h32
 by_cases DS:97<=a.toNat/\a.toNat<=122
 case neg=>
  rw[eP (s:=s) (fun h=>by have h1:=of_decide_eq_true h.2.2.1;rw[HA.out] at h1;exact DS h1)];rcases(show a.toNat < 97\/(97<=a.toNat/\122 < a.toNat) by omega) with hb|⟨hb,dD⟩
  ·clear DS
   go_enter Tryz.func261,Tryz.ntmps261
   go_wp2
   go_ret
   exact⟨rfl,Below.refl _ _⟩
  ·clear DS
   go_enter Tryz.func261,Tryz.ntmps261
   go_wp2
   go_ret
   exact⟨rfl,Below.refl _ _⟩
 have TT:=Lib.hid (show B8 a=true from decide_eq_true DS);obtain⟨Zk,qO⟩:=DS
 by_cases Ab:z.toNat=45
 ·rw[eP (s:=s) (fun h=>h.2.2.2.1 (by rw[HZ.out];exact Ab))];have tz:((z.toNat:Int)==45)=true:=beq_iff_eq.2 (by omega);clear Ab
  go_enter Tryz.func261,Tryz.ntmps261
  go_wp2
  go_ret
  exact⟨rfl,Below.refl _ _⟩
 have tz:((z.toNat:Int)==45)=false:=beq_eq_false_iff_ne.2 (by omega)
 cases A3:Lib.contains s.data.toList [45,45]
 case true=>
  rw[z8 A3];have HCT:=Lib.hid (show Lib.contains s.data.toList (ByteArray.mk #[45,45]).data.toList=true from A3);clear A3 Ab
  go_enter Tryz.func261,Tryz.ntmps261
  go_wp2_with (go_at_call 277;refine(wI s ⟨#[45,45]⟩ _ (by omega) HM.out).mono ?_;rintro e w' ⟨rfl,rfl⟩;rw[HCT.out])
  go_ret
  exact⟨rfl,Below.refl _ _⟩
 have HDD:=Lib.hid (xl A3);have HCT:=Lib.hid (show Lib.contains s.data.toList (ByteArray.mk #[45,45]).data.toList=false from A3);have ahG:=Lib.hid Ab;clear A3 Ab
 go_enter Tryz.func261,Tryz.ntmps261
 go_wp2_with (first
  | (go_at_call 277;refine(wI s ⟨#[45,45]⟩ _ (by omega) HM.out).mono ?_;rintro e w' ⟨rfl,rfl⟩;rw[HCT.out])
  | (with_reducible refine yS rfl 9 281 5 (.tmp 35) rfl Tryz.underlying9 Tryz.underlying281 Tryz.underlying5 s rfl ?_;intro cap w1 mV nF lh iA;have HC1:=Lib.hid iA;clear iA))
 go_loop [38] (fun i=>∃ k:Nat,k<=s.size/\i=.int .i64 k/\DF s k) (fun i=>s.size - (intOf i).toNat)
 case atStart=>exact⟨0,by omega,rfl,(fun i hi=>by omega)⟩
 case round=>
  obtain⟨k,hk,rfl,uI⟩:=hrel
  by_cases aS:k < s.size
  ·have HB:=Lib.hid (wT s k aS);have iA:=HC1.out k aS;obtain⟨c,hc⟩:∃ c,s[k]'aS=c:=⟨_,rfl⟩
   have HC:=Lib.hid (show bt s k=c by rw[HB.out,hc]);rw[hc] at iA;clear hc;have V0:c.toNat < 256:=c.toNat_lt;have HG:=Lib.hid uI;clear uI
   by_cases yz:CJ c=true
   ·have HN:=Lib.hid (HG.out.step (by rw[HC.out];exact yz));have hg3:(97<=c.toNat/\c.toNat<=122)\/(48<=c.toNat/\c.toNat<=57)\/c.toNat=45:=of_decide_eq_true yz;clear yz;rcases hg3 with⟨c1,c2⟩|⟨c1,c2⟩|c1
    ·go_wp2
     go_round
     case rel=>exact⟨k+1,by omega,by go_num,HN.out⟩
     case measure=>simp[intOf];omega
    ·go_wp2
     go_round
     case rel=>exact⟨k+1,by omega,by go_num,HN.out⟩
     case measure=>simp[intOf];omega
    ·have t45:((c.toNat:Int) != 45)=false:=by rw[bne,beq_iff_eq.2 (show(c.toNat:Int)=45 by omega)];rfl
     have c48:(c.toNat:Int) < 48:=by omega
     clear c1
     go_wp2
     go_round
     case rel=>exact⟨k+1,by omega,by go_num,HN.out⟩
     case measure=>simp[intOf];omega
   ·have HF:=Lib.hid (Hh aS (by rw[HC.out];simpa using yz));have hn:¬ ((97<=c.toNat/\c.toNat<=122)\/(48<=c.toNat/\c.toNat<=57)\/c.toNat=45):=fun h=>yz (decide_eq_true h);have t45:((c.toNat:Int) != 45)=true:=by rw[bne,beq_eq_false_iff_ne.2 (show ¬ (c.toNat:Int)=45 by omega)];rfl
    clear yz;rcases(show c.toNat < 48\/(57 < c.toNat/\c.toNat < 97)\/122 < c.toNat by omega) with c1|⟨c1,c2⟩|c1
    all_goals
     clear hn
     go_wp2
     go_ret
     exact⟨et HF.out.symm,nF⟩
  ·obtain rfl:k=s.size:=by omega
   have HF:=Lib.hid (Cn (s:=s) ⟨by omega,by omega,by rw[HA.out];exact TT.out,by rw[HZ.out];exact ahG.out,uI,HDD.out⟩);clear uI
   go_wp2
   go_ret
   exact⟨et HF.out.symm,nF⟩
end
end Go.Proofs.YtbmdcnkidjlbbaaGreat
namespace Cg
section

section
variable {α:Type}
structure Ord (lt:α->α->Bool):Prop where
 irrefl:∀ a,lt a a=false
 trans:∀ a b c,lt a b=true->lt b c=true->lt a c=true
 conn:∀ a b,lt a b=false->lt b a=false->a=b
def SI (lt:α->α->Bool)(l:List α):Prop:=l.Pairwise (fun a b=>lt a b=true)
theorem SI.ext {lt:α->α->Bool}(O:Ord lt):∀ {a b:List α},SI lt a->SI lt b->(∀ x,x∈a↔x∈b)->a=b
 | [],[],_,_,_=>rfl
 | [],y :: b,_,_,h=>by have:=(h y).2 (by simp);simp at this
 | x :: a,[],_,_,h=>by have:=(h x).1 (by simp);simp at this
 | x :: a,y :: b,ha,hb,h=>by
  have ha':=List.pairwise_cons.1 ha;have eF:=List.pairwise_cons.1 hb
  have asym:∀ u v,lt u v=true->lt v u=true->False:=fun u v h1 h2=>by
   have:=O.trans u v u h1 h2;rw[O.irrefl] at this
   cases this
  have hxy:x=y:=by
   have h1:=(h x).1 (by simp);have h2:=(h y).2 (by simp);rcases List.mem_cons.1 h1 with e|h1
   ·exact e
   ·rcases List.mem_cons.1 h2 with e|h2
    ·exact e.symm
    ·exact(asym _ _ (eF.1 x h1) (ha'.1 y h2)).elim
  subst hxy;congr 1;refine SI.ext O ha'.2 eF.2 fun z=>⟨fun hz=>?_,fun hz=>?_⟩
  ·rcases List.mem_cons.1 ((h z).1 (by simp[hz])) with e|h1
   ·have:=ha'.1 z hz;rw[e,O.irrefl] at this
    cases this
   ·exact h1
  ·rcases List.mem_cons.1 ((h z).2 (by simp[hz])) with e|h1
   ·have:=eF.1 z hz;rw[e,O.irrefl] at this
    cases this
   ·exact h1
section insert
variable [DecidableEq α]
def ins (lt:α->α->Bool)(n:α)(l:List α):List α:=l.takeWhile (lt · n)++n :: (l.dropWhile (lt · n)).filter (fun x=>decide (¬ x=n))
theorem QV (lt:α->α->Bool)(n:α)(l:List α)(x:α):x∈ins lt n l↔x=n\/x∈l:=by
 have hs:x∈l↔x∈l.takeWhile (lt · n)\/x∈l.dropWhile (lt · n):=by
  rw[<- aX,List.takeWhile_append_dropWhile]
 unfold ins;rw[aX,List.mem_cons,List.mem_filter,hs,decide_eq_true_eq]
 by_cases e:x=n <;> simp[e]
omit [DecidableEq α] in
theorem oL {p:α->Bool}:∀ {l:List α},∀ x∈l.takeWhile p,p x=true
 | [],x,h=>by simp at h
 | a :: l,x,h=>by
  rw[List.takeWhile_cons] at h;split at h
  ·rcases List.mem_cons.1 h with e|h
   ·rw[e];assumption
   ·exact oL x h
  ·simp at h
omit [DecidableEq α] in
theorem SI.Ia {lt:α->α->Bool}(O:Ord lt){n:α}:∀ {l:List α},SI lt l->∀ x∈l.dropWhile (lt · n),lt x n=false
 | [],_,x,h=>by simp at h
 | a :: l,hs,x,h=>by
  rw[List.dropWhile_cons] at h;split at h
  ·exact SI.Ia O (List.pairwise_cons.1 hs).2 x h
  ·rename_i hn;have hn:lt a n=false:=by simpa using hn
   rcases List.mem_cons.1 h with e|h
   ·rw[e];exact hn
   ·cases hx:lt x n
    ·rfl
    ·have:=O.trans a x n ((List.pairwise_cons.1 hs).1 x h) hx;rw[hn] at this
     cases this
theorem SI.ins {lt:α->α->Bool}(O:Ord lt){n:α}{l:List α}(h:SI lt l):SI lt (ins lt n l):=by
 have hp:SI lt (l.takeWhile (lt · n)++l.dropWhile (lt · n)):=by rw[List.takeWhile_append_dropWhile];exact h
 obtain⟨h1,h2,h3⟩:=List.pairwise_append.1 hp;unfold Cg.ins;refine List.pairwise_append.2 ⟨h1,List.pairwise_cons.2 ⟨fun x hx=>?_,h2.filter _⟩,fun x hx y hy=>?_⟩
 ·obtain⟨hx,hn⟩:=List.mem_filter.1 hx;have hn:¬ x=n:=by simpa using hn
  have uj:=SI.Ia O h x hx
  cases hnx:lt n x
  ·exact absurd (O.conn x n uj hnx) hn
  ·rfl
 ·rcases List.mem_cons.1 hy with e|hy
  ·rw[e];exact oL x hx
  ·exact h3 x hx y (List.mem_filter.1 hy).1
def nB (lt:α->α->Bool)(o:List α)(l:List α):List α:=l.foldl (fun o x=>ins lt x o) o
theorem JE {lt:α->α->Bool}(O:Ord lt)(l:List α):∀ {o:List α},SI lt o->SI lt (nB lt o l):=by
 induction l with
 | nil=>exact fun h=>h
 | cons a l ih=>exact fun h=>ih (h.ins O)
theorem E7 (lt:α->α->Bool)(l:List α):∀ (o:List α) (x:α),x∈nB lt o l↔x∈o\/x∈l:=by
 induction l with
 | nil=>intro o x;simp[nB]
 | cons a l ih=>
  intro o x;show x∈nB lt (ins lt a o) l↔_;rw[ih,QV,List.mem_cons];constructor
  ·rintro((h|h)|h)
   ·exact .inr (.inl h)
   ·exact .inl h
   ·exact .inr (.inr h)
  ·rintro(h|h|h)
   ·exact .inl (.inr h)
   ·exact .inl (.inl h)
   ·exact .inr h
theorem Rm (lt:α->α->Bool)(n:α)(l:List α):(ins lt n l).length<=l.length+1:=by
 have h1:(l.takeWhile (lt · n)).length+(l.dropWhile (lt · n)).length=l.length:=by rw[<- au,List.takeWhile_append_dropWhile]
 have h2:=cx (fun x=>decide (¬ x=n)) (l.dropWhile (lt · n));unfold ins;rw[au,aq];omega
theorem Fo (lt:α->α->Bool)(l:List α):∀ o:List α,(nB lt o l).length<=o.length+l.length:=by
 induction l with
 | nil=>exact fun o=>al _
 | cons a l ih=>
  intro o;have h1:=ih (ins lt a o);have h2:=Rm lt a o;show(nB lt (ins lt a o) l).length<=_;rw[aq];omega
end insert
section compact
variable [Inhabited α][DecidableEq α]
open Go.Lib
theorem nI {lt:α->α->Bool}(O:Ord lt)(d:Array α)(hs:∀ j k,j < k->k < d.size->lt d[k]! d[j]! = false):∀ m,m<=d.size->SI lt (compactUpTo d m)/\(∀ x,x∈compactUpTo d m↔∃ j,j < m/\d[j]! = x)
 | 0,_=>⟨List.Pairwise.nil,fun x=>by simp[compactUpTo]⟩
 | m+1,hm=>by
  obtain⟨h1,h2⟩:=nI O d hs m (by omega);rw[compactUpTo_succ]
  cases hk:keeps d m
  ·have hk:¬ (m=0\/d[m]!≠d[m - 1]!):=of_decide_eq_false hk;have hm0:¬ m=0:=fun e=>hk (.inl e);have he:d[m]! = d[m - 1]!:=Decidable.byContradiction fun e=>hk (.inr e);rw[if_neg (by decide),aZ];refine⟨h1,fun x=>?_⟩;rw[h2];constructor
   ·rintro⟨j,hj,e⟩;exact⟨j,by omega,e⟩
   ·rintro⟨j,hj,e⟩
    by_cases Tv:j=m
    ·exact⟨m - 1,by omega,by rw[<- he,<- Tv];exact e⟩
    ·exact⟨j,by omega,e⟩
  ·have hk:m=0\/d[m]!≠d[m - 1]!:=of_decide_eq_true hk;rw[if_pos rfl];refine⟨List.pairwise_append.2 ⟨h1,List.pairwise_singleton _ _,fun x hx y hy=>?_⟩,fun x=>?_⟩
   ·rw[aJ.1 hy];obtain⟨j,hj,rfl⟩:=(h2 x).1 hx;have g1:=hs j m hj (by omega)
    cases g:lt d[j]! d[m]!
    ·have e1:d[j]! = d[m]!:=O.conn _ _ g g1;rcases hk with hk|hk
     ·omega
     ·exfalso;apply hk
      by_cases Tv:j=m - 1
      ·rw[<- Tv];exact e1.symm
      ·have g2:=hs j (m - 1) (by omega) (by omega);have g3:=hs (m - 1) m (by omega) (by omega);rw[e1] at g2;exact O.conn _ _ g3 g2
    ·rfl
   ·rw[aX,h2,aJ];constructor
    ·rintro(⟨j,hj,e⟩|e)
     ·exact⟨j,by omega,e⟩
     ·exact⟨m,by omega,e.symm⟩
    ·rintro⟨j,hj,e⟩
     by_cases Tv:j=m
     ·right;rw[<- e,Tv]
     ·left;exact⟨j,by omega,e⟩
theorem F0 {lt:α->α->Bool}(O:Ord lt)(l:List α)(hs:l.Pairwise (fun a b=>lt b a=false)):SI lt (compact l)/\∀ x,x∈compact l↔x∈l:=by
 have hg:∀ j (hj:j < l.length),l.toArray[j]! = l[j]:=fun j hj=>by simp[getElem!_pos,hj]
 obtain⟨h1,h2⟩:=nI O l.toArray (fun j k Af hk=>by
  have CB:k < l.length:=by simpa using hk
  rw[hg k CB,hg j (by omega)];exact cu.1 hs j k (by omega) CB Af) l.length (by simp)
 refine⟨h1,fun x=>?_⟩;show x∈compactUpTo l.toArray l.length↔_;rw[h2,bB];constructor
 ·rintro⟨j,hj,e⟩;exact⟨j,hj,by rw[<- hg j hj];exact e⟩
 ·rintro⟨j,hj,e⟩;exact⟨j,hj,by rw[hg j hj];exact e⟩
theorem ub {lt:α->α->Bool}(O:Ord lt)(le:α->α->Bool)(hle:∀ a b,le a b=!lt b a)(l:List α):SI lt (compact (l.mergeSort le))/\∀ x,x∈compact (l.mergeSort le)↔x∈l:=by
 have asym:∀ u v,lt u v=true->lt v u=false:=fun u v h1=>by
  cases h2:lt v u
  ·rfl
  ·have:=O.trans u v u h1 h2;rw[O.irrefl] at this
   cases this
 have hp:=List.pairwise_mergeSort (le:=le) (fun a b c h1 h2=>by
  rw[hle,cb] at *
  cases h:lt c a
  ·rfl
  ·cases hb:lt b c
   ·have e:b=c:=O.conn b c hb h2;rw[e,h] at h1
    cases h1
   ·have:=O.trans b c a hb h;rw[this] at h1
    cases h1) (fun a b=>by
  rw[hle,hle,cm,cb,cb]
  cases h:lt b a
  ·exact .inl rfl
  ·exact .inr (asym _ _ h)) l
 obtain⟨h1,h2⟩:=F0 O (l.mergeSort le) (hp.imp fun {a b} h=>by
  have h:le a b=true:=h;rw[hle,cb] at h;exact h)
 exact⟨h1,fun x=>(h2 x).trans (List.mergeSort_perm l le).mem_iff⟩
end compact
end
end
section
open Go Go.RowKit

end
end Cg
namespace Go.Proofs.YtbmdcnkidjlbbaaGreat
section
open Go Go.RowKit Cg
def eT:Nat->ByteArray
 | 0=>⟨#[98,97,115,105,99]⟩
 | 1=>⟨#[117,110,105,113,117,101]⟩
 | _=>⟨#[]⟩
def dU:Nat->ByteArray
 | 0=>⟨#[99,114,101,97,116,117,114,101]⟩
 | 1=>⟨#[105,110,115,116,97,110,116]⟩
 | 2=>⟨#[114,105,116,117,97,108]⟩
 | 3=>⟨#[114,101,108,105,99]⟩
 | 4=>⟨#[99,104,97,114,109]⟩
 | 5=>⟨#[108,97,110,100]⟩
 | _=>⟨#[]⟩
def iV (nm:Nat->ByteArray)(s:ByteArray):Nat->Nat
 | 0=>0
 | k+1=>if iV nm s k=0 then(if nm k=s then 2 ^ k else 0) else iV nm s k
theorem yN (nm:Nat->ByteArray)(s:ByteArray)(k:Nat)(h:iV nm s k=0)(h2:¬ nm k=s):iV nm s (k+1)=0:=by rw[iV,if_pos h,if_neg h2]
theorem wV (nm:Nat->ByteArray)(s:ByteArray)(k:Nat)(h:iV nm s k=0)(h2:nm k=s):∀ n,k < n->iV nm s n=2 ^ k
 | 0,hn=>by omega
 | n+1,hn=>by
  by_cases e:n=k
  ·subst e;rw[iV,if_pos h,if_pos h2]
  ·have ih:=wV nm s k h h2 n (by omega);rw[iV,if_neg (by rw[ih];exact Nat.pos_iff_ne_zero.1 (Nat.two_pow_pos k)),ih]
theorem sH (nm:Nat->ByteArray)(s:ByteArray):∀ n,iV nm s n=0↔∀ i,i < n->¬ nm i=s
 | 0=>by simp[iV]
 | n+1=>by
  have ih:=sH nm s n;rw[iV]
  by_cases h:iV nm s n=0
  ·rw[if_pos h];have ih':=ih.1 h
   by_cases e:nm n=s
   ·rw[if_pos e];constructor
    ·intro h2;have:=Nat.two_pow_pos n;omega
    ·intro h2;exact absurd e (h2 n (by omega))
   ·rw[if_neg e];refine⟨fun _ i hi=>?_,fun _=>rfl⟩
    by_cases e2:i=n
    ·rw[e2];exact e
    ·exact ih' i (by omega)
  ·rw[if_neg h];refine⟨fun h2=>absurd h2 h,fun h2=>absurd (ih.2 fun i hi=>h2 i (by omega)) h⟩
def gO (s:ByteArray):Bool:=AX s&&(decide (iV eT s 2=0)&&decide (iV dU s 6=0))
theorem Fs (s:ByteArray):decide (Lib.idxOfS [eT 0,eT 1] s < 0)=decide (iV eT s 2=0):=by
 refine decide_eq_decide.2 ?_;rw[sH];have h:=Lib.idxOfS_nonneg_iff [eT 0,eT 1] s;constructor
 ·intro aS i hi e
  have:s∈[eT 0,eT 1]:=by
   rcases(show i=0\/i=1 by omega) with rfl|rfl <;> simp[e]
  have:=h.2 this;omega
 ·intro iU;refine Int.not_le.1 fun uj=>?_;have hm:=h.1 uj;simp only[List.mem_cons,List.mem_nil_iff,or_false] at hm;rcases hm with e|e
  ·exact iU 0 (by omega) e.symm
  ·exact iU 1 (by omega) e.symm
theorem JK (s:ByteArray):decide (Lib.idxOfS [dU 0,dU 1,dU 2,dU 3,dU 4,dU 5] s < 0)=decide (iV dU s 6=0):=by
 refine decide_eq_decide.2 ?_;rw[sH];have h:=Lib.idxOfS_nonneg_iff [dU 0,dU 1,dU 2,dU 3,dU 4,dU 5] s;constructor
 ·intro aS i hi e
  have:s∈[dU 0,dU 1,dU 2,dU 3,dU 4,dU 5]:=by
   rcases(show i=0\/i=1\/i=2\/i=3\/i=4\/i=5 by omega) with rfl|rfl|rfl|rfl|rfl|rfl <;> simp[e]
  have:=h.2 this;omega
 ·intro iU;refine Int.not_le.1 fun uj=>?_;have hm:=h.1 uj;simp only[List.mem_cons,List.mem_nil_iff,or_false] at hm;rcases hm with e|e|e|e|e|e
  ·exact iU 0 (by omega) e.symm
  ·exact iU 1 (by omega) e.symm
  ·exact iU 2 (by omega) e.symm
  ·exact iU 3 (by omega) e.symm
  ·exact iU 4 (by omega) e.symm
  ·exact iU 5 (by omega) e.symm
theorem aeP (w:World)(i:Nat)(hi:i < 2):(Instr.index 283 (.agg #[.string ⟨#[98,97,115,105,99]⟩,.string ⟨#[117,110,105,113,117,101]⟩]) (.int .i64 i)).run ae w=.ok (.string (eT i)) w:=by
 rcases(show i=0\/i=1 by omega) with rfl|rfl
 ·simp[Instr.index,asIntOf,run_underlying Tryz.underlying283,Go.part,Tryz.sizeOf9,Tryz.isAgg9,eT]
 ·simp[Instr.index,asIntOf,run_underlying Tryz.underlying283,Go.part,Tryz.sizeOf9,Tryz.isAgg9,eT]
theorem vd (i:Nat)(hi:i < 2)(w:World):Calls ae 263 #[.int .i64 i] w fun e w'=>e=.returned (.string (eT i))/\w=w':=by
 have hr:=aeP w i hi
 go_enter Tryz.func263,Tryz.ntmps263
 go_wp2
 go_ret
 exact⟨rfl,rfl⟩
theorem po (s:ByteArray)(w:World):Calls ae 262 #[.string s,.int .i64 2,.func (.func 263) #[] #[]] w fun e w'=>e=.returned (.int .i64 (iV eT s 2:Nat))/\w=w':=by
 have eg:∀ args w,(callFunc 263 args).run ae w=.ok (.enter 263 args) w:=enters_of Tryz.func263 (by kernel_rfl) rfl
 go_enter Tryz.func262,Tryz.ntmps262
 go_wp2_with fail
 go_step3
 go_wp2_with fail
 go_step3
 go_wp2_with fail
 go_loop [9] (fun i=>∃ k:Nat,k<=2/\i=.int .i64 k/\Hid (iV eT s k=0)) (fun i=>2 - (intOf i).toNat)
 case atStart=>exact⟨0,by omega,rfl,Lib.hid rfl⟩
 case round=>
  obtain⟨k,hk,rfl,H⟩:=hrel
  by_cases aS:k < 2
  ·have i0:(0:Int)<=(k:Int):=by omega
   have i1:(k:Int) < 2:=by omega
   by_cases he:eT k=s
   ·have HR:=Lib.hid (wV eT s k H.out he 2 aS);have ht:=rM he;have Tq:2 ^ k < 2 ^ 2:=Nat.pow_lt_pow_right (by omega) aS;obtain⟨p2,sf⟩:∃ p2,p2=2 ^ k:=⟨_,rfl⟩
    have se:IntKind.i64.wrap ((2:Int) ^ k)=(p2:Int):=by
     have:((2:Int) ^ k)=(p2:Int):=by rw[sf];simp
     rw[this,ak];rw[<- sf] at Tq;omega
    rw[<- sf] at HR;clear he sf Tq
    go_wp2_with fail
    refine(vd k aS _).mono ?_;rintro e w1 ⟨rfl,rfl⟩
    go_wp2_with fail
    rw[Exit.noGoto_ret]
    go_ret
    exact⟨uz (by rw[HR.out]),rfl⟩
   ·have H2:=Lib.hid (yN eT s k H.out he);have ht:=o5 he;clear he H
    go_wp2_with fail
    refine(vd k aS _).mono ?_;rintro e w1 ⟨rfl,rfl⟩
    go_wp2_with fail
    go_round
    case rel=>exact⟨k+1,by omega,by go_num,H2⟩
    case measure=>simp[intOf];omega
  ·obtain rfl:k=2:=by omega
   go_wp2_with fail
   go_ret
   exact⟨by rw[H.out];rfl,rfl⟩
theorem Bg (w:World)(i:Nat)(hi:i < 6):(Instr.index 284 (.agg #[.string ⟨#[99,114,101,97,116,117,114,101]⟩,.string ⟨#[105,110,115,116,97,110,116]⟩,.string ⟨#[114,105,116,117,97,108]⟩,.string ⟨#[114,101,108,105,99]⟩,.string ⟨#[99,104,97,114,109]⟩,.string ⟨#[108,97,110,100]⟩]) (.int .i64 i)).run ae w=.ok (.string (dU i)) w:=by
 rcases(show i=0\/i=1\/i=2\/i=3\/i=4\/i=5 by omega) with rfl|rfl|rfl|rfl|rfl|rfl
 ·simp[Instr.index,asIntOf,run_underlying Tryz.underlying284,Go.part,Tryz.sizeOf9,Tryz.isAgg9,dU]
 ·simp[Instr.index,asIntOf,run_underlying Tryz.underlying284,Go.part,Tryz.sizeOf9,Tryz.isAgg9,dU]
 ·simp[Instr.index,asIntOf,run_underlying Tryz.underlying284,Go.part,Tryz.sizeOf9,Tryz.isAgg9,dU]
 ·simp[Instr.index,asIntOf,run_underlying Tryz.underlying284,Go.part,Tryz.sizeOf9,Tryz.isAgg9,dU]
 ·simp[Instr.index,asIntOf,run_underlying Tryz.underlying284,Go.part,Tryz.sizeOf9,Tryz.isAgg9,dU]
 ·simp[Instr.index,asIntOf,run_underlying Tryz.underlying284,Go.part,Tryz.sizeOf9,Tryz.isAgg9,dU]
theorem xH (i:Nat)(hi:i < 6)(w:World):Calls ae 264 #[.int .i64 i] w fun e w'=>e=.returned (.string (dU i))/\w=w':=by
 have hr:=Bg w i hi
 go_enter Tryz.func264,Tryz.ntmps264
 go_wp2
 go_ret
 exact⟨rfl,rfl⟩
theorem yM (s:ByteArray)(w:World):Calls ae 262 #[.string s,.int .i64 6,.func (.func 264) #[] #[]] w fun e w'=>e=.returned (.int .i64 (iV dU s 6:Nat))/\w=w':=by
 have eg:∀ args w,(callFunc 264 args).run ae w=.ok (.enter 264 args) w:=enters_of Tryz.func264 (by kernel_rfl) rfl
 go_enter Tryz.func262,Tryz.ntmps262
 go_wp2_with fail
 go_step3
 go_wp2_with fail
 go_step3
 go_wp2_with fail
 go_loop [9] (fun i=>∃ k:Nat,k<=6/\i=.int .i64 k/\Hid (iV dU s k=0)) (fun i=>6 - (intOf i).toNat)
 case atStart=>exact⟨0,by omega,rfl,Lib.hid rfl⟩
 case round=>
  obtain⟨k,hk,rfl,H⟩:=hrel
  by_cases aS:k < 6
  ·have i0:(0:Int)<=(k:Int):=by omega
   have i1:(k:Int) < 6:=by omega
   by_cases he:dU k=s
   ·have HR:=Lib.hid (wV dU s k H.out he 6 aS);have ht:=rM he;have Tq:2 ^ k < 2 ^ 6:=Nat.pow_lt_pow_right (by omega) aS;obtain⟨p2,sf⟩:∃ p2,p2=2 ^ k:=⟨_,rfl⟩
    have se:IntKind.i64.wrap ((2:Int) ^ k)=(p2:Int):=by
     have:((2:Int) ^ k)=(p2:Int):=by rw[sf];simp
     rw[this,ak];rw[<- sf] at Tq;omega
    rw[<- sf] at HR;clear he sf Tq
    go_wp2_with fail
    refine(xH k aS _).mono ?_;rintro e w1 ⟨rfl,rfl⟩
    go_wp2_with fail
    rw[Exit.noGoto_ret]
    go_ret
    exact⟨uz (by rw[HR.out]),rfl⟩
   ·have H2:=Lib.hid (yN dU s k H.out he);have ht:=o5 he;clear he H
    go_wp2_with fail
    refine(xH k aS _).mono ?_;rintro e w1 ⟨rfl,rfl⟩
    go_wp2_with fail
    go_round
    case rel=>exact⟨k+1,by omega,by go_num,H2⟩
    case measure=>simp[intOf];omega
  ·obtain rfl:k=6:=by omega
   go_wp2_with fail
   go_ret
   exact⟨by rw[H.out];rfl,rfl⟩
theorem Vs (s:ByteArray)(w:World)(hm:Mx w):Calls ae 261 #[.string s] w fun e w'=>e=.returned (.bool (AX s))/\Below w.heap.size w w':=by
 by_cases hs:s.size<=1000000
 ·exact Rl s hs w hm
 ·have HF:=Lib.hid (show AX s=false from eP fun h=>by have:=h.2.1;omega);have d0:((s.size:Int)==0)=false:=beq_eq_false_iff_ne.2 (by omega);have hs':(32:Int) < (s.size:Int):=by omega
  clear hm hs
  go_enter Tryz.func261,Tryz.ntmps261
  go_wp2_with fail
  go_ret
  exact⟨et HF.out.symm,Below.refl _ _⟩
theorem Rk (s:ByteArray)(w:World):Calls ae 79 #[.string s] w fun e w'=>e=.returned (.bool (AX s))/\Below w.heap.size w w':=by
 by_cases hs:s.size<=1000000
 ·exact(Vr s hs w).mono fun _ _ ⟨h1,h2⟩=>⟨h1,h2▸Below.refl _ _⟩
 ·have HF:=Lib.hid (show AX s=false from eP fun h=>by have:=h.2.1;omega);have d0:decide ((s.size:Int) < 1)=false:=decide_eq_false (by omega);have hs':(32:Int) < (s.size:Int):=by omega
  clear hs
  go_enter Tryz.func79,Tryz.ntmps79
  go_wp2_with fail
  go_ret
  exact⟨et HF.out.symm,Below.refl _ _⟩
theorem Fk (s:ByteArray)(w:World)(hm:Mx w):Calls ae 227 #[.string s] w fun e w'=>e=.returned (.bool (gO s))/\Below w.heap.size w w':=by
 have HI:=Lib.hid (Vs s w hm);clear hm
 cases hw:AX s
 ·have HR:=Lib.hid (show gO s=false by rw[gO,hw];rfl);rw[hw] at HI;clear hw
  go_enter Tryz.func227,Tryz.ntmps227
  go_wp2_with fail
  refine HI.out.mono ?_;rintro e w1 ⟨rfl,b1⟩
  go_wp2_with fail
  go_ret
  exact⟨et HR.out.symm,b1⟩
 ·rw[hw] at HI
  by_cases h1:iV eT s 2=0
  ·have H1:=Lib.hid h1
   by_cases h2:iV dU s 6=0
   ·have H2:=Lib.hid h2;have HR:=Lib.hid (show gO s=true by rw[gO,hw,decide_eq_true h1,decide_eq_true h2];rfl);clear hw h1 h2
    go_enter Tryz.func227,Tryz.ntmps227
    go_wp2_with fail
    refine HI.out.mono ?_;rintro e w1 ⟨rfl,b1⟩
    go_wp2_with fail
    refine(po s _).mono ?_;rintro e w2 ⟨rfl,rfl⟩;rw[H1.out]
    go_wp2_with fail
    refine(yM s _).mono ?_;rintro e w2 ⟨rfl,rfl⟩;rw[H2.out]
    go_wp2_with fail
    go_ret
    exact⟨et HR.out.symm,b1⟩
   ·obtain⟨q,hq⟩:∃ q,iV dU s 6=q:=⟨_,rfl⟩
    have HQ:=Lib.hid hq;have HR:=Lib.hid (show gO s=false by rw[gO,hw,decide_eq_false h2];simp);rw[hq] at h2;have t1:((q:Int)==0)=false:=beq_eq_false_iff_ne.2 (by omega);clear hw h1 h2 hq
    go_enter Tryz.func227,Tryz.ntmps227
    go_wp2_with fail
    refine HI.out.mono ?_;rintro e w1 ⟨rfl,b1⟩
    go_wp2_with fail
    refine(po s _).mono ?_;rintro e w2 ⟨rfl,rfl⟩;rw[H1.out]
    go_wp2_with fail
    refine(yM s _).mono ?_;rintro e w2 ⟨rfl,rfl⟩;rw[HQ.out]
    go_wp2_with fail
    go_ret
    exact⟨et HR.out.symm,b1⟩
  ·obtain⟨q,hq⟩:∃ q,iV eT s 2=q:=⟨_,rfl⟩
   have HQ:=Lib.hid hq;have HR:=Lib.hid (show gO s=false by rw[gO,hw,decide_eq_false h1];simp);rw[hq] at h1;have t1:((q:Int)==0)=false:=beq_eq_false_iff_ne.2 (by omega);clear hw h1 hq
   go_enter Tryz.func227,Tryz.ntmps227
   go_wp2_with fail
   refine HI.out.mono ?_;rintro e w1 ⟨rfl,b1⟩
   go_wp2_with fail
   refine(po s _).mono ?_;rintro e w2 ⟨rfl,rfl⟩;rw[HQ.out]
   go_wp2_with fail
   go_ret
   exact⟨et HR.out.symm,b1⟩
def rJ:List ByteArray:=[eT 0,eT 1]
def types:List ByteArray:=[dU 0,dU 1,dU 2,dU 3,dU 4,dU 5]
theorem nf (w:World):Calls ae 198 #[] w fun e w'=>∃ v,e=.returned v/\fE Value.string w' v rJ/\Below w.heap.size w w':=by
 have HC:=Lib.hid (xW Value.string w rJ 9)
 go_enter Tryz.func198,Tryz.ntmps198
 go_wp2
 go_ret
 exact⟨_,rfl,HC.out,(Below.refl _ _).alloc (al _) _⟩
theorem xg (w:World):Calls ae 199 #[] w fun e w'=>∃ v,e=.returned v/\fE Value.string w' v types/\Below w.heap.size w w':=by
 have HC:=Lib.hid (xW Value.string w types 9)
 go_enter Tryz.func199,Tryz.ntmps199
 go_wp2
 go_ret
 exact⟨_,rfl,HC.out,(Below.refl _ _).alloc (al _) _⟩
theorem RH (xs:List ByteArray)(k:Nat)(h:k < xs.length):xs.getD k ByteArray.empty=xs[k]:=by rw[List.getD_eq_getElem?_getD,cD h];rfl
theorem sa (v:Value)(xs:List ByteArray)(x:ByteArray)(w:World)(h:fE Value.string w v xs)(hn:xs.length<=9223372036854775807) :
  Calls ae 195 #[v,.string x] w fun e w'=>e=.returned (.int .i64 (Lib.idxOfS xs x))/\w=w':=by
 obtain⟨ao,cap,rfl,mV,hx⟩:=h;have HX:=Lib.hid hx;clear hx
 go_enter Tryz.func195,Tryz.ntmps195
 go_wp2_with fail
 go_loop [5] (fun i=>∃ k:Nat,k<=xs.length/\i=.int .i64 k/\Hid (∀ j,j < k->xs.getD j ByteArray.empty≠x)) (fun i=>xs.length - (intOf i).toNat)
 case atStart=>exact⟨0,by omega,rfl,Lib.hid fun j hj=>by omega⟩
 case round=>
  obtain⟨k,hk,rfl,H⟩:=hrel
  by_cases aS:k < xs.length
  ·rcases HX.out with e|⟨b,o,rfl,hb,hc⟩
   ·rw[e] at aS;simp at aS
   have iA:=hc k xs[k] (by simp);have hg:=RH xs k aS;obtain⟨y,hy⟩:∃ y,y=xs[k]:=⟨_,rfl⟩
   rw[<- hy] at iA hg;have HG:=Lib.hid hg;clear hc hy hg
   by_cases he:y=x
   ·have ht:(y.toList==x.toList)=true:=rM he;have HR:=Lib.hid (Lib.idxOfS_hit xs xs.length k x aS (al _) (by rw[HG.out];exact he) H.out);rw[bm] at HR;clear he
    go_wp2_with fail
    go_ret
    exact⟨uz HR.out.symm,rfl⟩
   ·have ht:(y.toList==x.toList)=false:=o5 he
    have H2:Hid (∀ j,j < k+1->xs.getD j ByteArray.empty≠x):=Lib.hid fun j hj=>by
     by_cases e:j=k
     ·rw[e,HG.out];exact he
     ·exact H.out j (by omega)
    clear he H
    go_wp2_with fail
    go_round
    case rel=>exact⟨k+1,by omega,by go_num,H2⟩
    case measure=>simp[intOf];omega
  ·obtain rfl:k=xs.length:=by omega
   have HR:=Lib.hid (Lib.idxOfS_miss xs xs.length x H.out);rw[bm] at HR
   go_wp2_with fail
   go_ret
   exact⟨uz HR.out.symm,rfl⟩
theorem Rq (s:ByteArray):decide (Lib.idxOfS rJ s < 0)=decide (iV eT s 2=0):=Fs s
theorem Rp (s:ByteArray):decide (Lib.idxOfS types s < 0)=decide (iV dU s 6=0):=JK s
theorem JB (s:ByteArray)(w:World):Calls ae 145 #[.string s] w fun e w'=>e=.returned (.bool (gO s))/\Below w.heap.size w w':=by
 have HI:=Lib.hid (Rk s w)
 cases hw:AX s
 ·have HR:=Lib.hid (show gO s=false by rw[gO,hw];rfl);rw[hw] at HI;clear hw
  go_enter Tryz.func145,Tryz.ntmps145
  go_wp2_with fail
  refine HI.out.mono ?_;rintro e w1 ⟨rfl,b1⟩
  go_wp2_with fail
  go_ret
  exact⟨et HR.out.symm,b1⟩
 ·rw[hw] at HI;obtain⟨p,hp⟩:∃ p,Lib.idxOfS rJ s=p:=⟨_,rfl⟩
  obtain⟨q,hq⟩:∃ q,Lib.idxOfS types s=q:=⟨_,rfl⟩
  have e1:=Rq s;have e2:=Rp s;rw[hp] at e1;rw[hq] at e2;have HP:=Lib.hid hp;have HQ:=Lib.hid hq
  cases h1:decide (iV eT s 2=0)
  ·have HR:=Lib.hid (show gO s=false by rw[gO,hw,h1];rfl);rw[h1] at e1;have t1:¬ p < 0:=of_decide_eq_false e1;clear hw h1 e1 e2 hp hq
   go_enter Tryz.func145,Tryz.ntmps145
   go_wp2_with fail
   refine HI.out.mono ?_;rintro e w1 ⟨rfl,b1⟩
   go_wp2_with fail
   refine(nf _).mono ?_;rintro e w2 ⟨v2,rfl,r2,b2⟩;have B2:=Lib.hid (b1.trans (b2.mono b1.size));have R2:=Lib.hid r2;clear r2 b1 b2
   go_wp2_with fail
   refine(sa v2 rJ s _ R2.out (by decide)).mono ?_;rintro e w3 ⟨rfl,rfl⟩;rw[HP.out]
   go_wp2_with fail
   go_ret
   exact⟨et HR.out.symm,B2.out⟩
  ·rw[h1] at e1;have t1:p < 0:=of_decide_eq_true e1;have HR:=Lib.hid (show gO s=decide (q < 0) by rw[gO,hw,h1,e2];rfl);clear hw h1 e1 e2 hp hq
   go_enter Tryz.func145,Tryz.ntmps145
   go_wp2_with fail
   refine HI.out.mono ?_;rintro e w1 ⟨rfl,b1⟩
   go_wp2_with fail
   refine(nf _).mono ?_;rintro e w2 ⟨v2,rfl,r2,b2⟩;have B2:=Lib.hid (b1.trans (b2.mono b1.size));have R2:=Lib.hid r2;clear r2 b1 b2
   go_wp2_with fail
   refine(sa v2 rJ s _ R2.out (by decide)).mono ?_;rintro e w3 ⟨rfl,rfl⟩;rw[HP.out]
   go_wp2_with fail
   refine(xg _).mono ?_;rintro e w4 ⟨v4,rfl,r4,b4⟩;have B4:=Lib.hid (B2.out.trans (b4.mono B2.out.size));have R4:=Lib.hid r4;clear r4 b4
   go_wp2_with fail
   refine(sa v4 types s _ R4.out (by decide)).mono ?_;rintro e w5 ⟨rfl,rfl⟩;rw[HQ.out]
   go_wp2_with fail
   go_ret
   exact⟨et HR.out.symm,B4.out⟩
end
section
open Go Cg
def DB (a b:Int):Int:=IntKind.i64.wrap (((BitVec.ofInt IntKind.i64.bits a &&& BitVec.ofInt IntKind.i64.bits b).toNat:Nat):Int)
def AJ (n m:Int):Bool:=decide (n>=0)&&decide (n<=m)
def sG (b:ej):Bool:=AJ b.kind 3&&(AJ b.n 1000000&&(b.kind != 0||b.n==0))
def Sy (a b m:Int):Bool:=AJ a m&&(AJ b m&&DB a b==0)
def Pb (s:ByteArray):Bool:=s.toList==(⟨#[]⟩:ByteArray).toList
def wy (f:cC):Bool:=AJ f.cg 5&&(AJ f.who 2&&(AJ f.self 2&&(AJ f.mY 2&&(AJ f.keys 131071&&(Sy f.types f.dC 63&&(Sy f.dQ f.dq 31&&((Pb f.sub||gO f.sub)&&(sG f.cV&&(sG f.cU&&sG f.value)))))))))
def ke (b:ej)(n:Int):Bool:=if b.kind=0 then true else if b.kind=1 then decide (n>=b.n) else if b.kind=2 then decide (n<=b.n) else if b.kind=3 then n==b.n else false
def ze (a b:Int):Bool:=DB a b != 0
def tt (c you w:Int):Bool:=if w=1 then c==you else w != 2||c != you
def Ea (t:Bool)(w:Int):Bool:=if w=1 then t else w != 2||!t
def xm (h s n:Int):Bool:=(s==0||ze h s)&&!ze h n
def Jz (l:List ByteArray)(s:ByteArray):Int:=jS (fun x:ByteArray=>x.toList==s.toList) l
def oH (l:List ByteArray)(s:ByteArray):Bool:=decide (Jz l s>=0)
def nine (n:Int):Bool:=decide (n>=0)&&decide (n<=9)
def oD (c:eB):Bool:=nine c.fZ&&(nine c.fP&&(nine c.fO&&(nine c.fN&&(nine c.fM&&(decide (c.generic>=0)&&(decide (c.generic<=99)&&(decide (c.x>=0)&&decide (c.x<=2))))))))
def rF (c:eB):Int:=if oD c=true then c.generic+c.fZ+c.fP+c.fO+c.fN+c.fM else 0
def xz (cr:Bool)(b:ej)(n:Int):Bool:=b.kind==0||(cr&&ke b n)
def jU (t:aG)(f:cC):Bool:=xz (ze t.line.types 1) f.cV t.cV&&(xz (ze t.line.types 1) f.cU t.cU&&ke f.value (rF t.cost))
def eW (o:aE)(t:aG)(you src:Int)(f:cC):Bool:=
 wy f&&(o.cg==f.cg&&(tt t.aaB you f.who&&(tt o.id src f.self&&(xm t.line.types f.types f.dC&&(xm t.dQ f.dQ f.dq&&((Pb f.sub||oH t.line.dN f.sub)&&(mW t.keys f.keys&&(Ea o.eR f.mY&&jU t f))))))))
def Z6:Nat->Int->Int->Bool
 | 0,_,_=>true
 | n+1,a,b=>!(a.tmod 2==1&&b.tmod 2==1)&&Z6 n (IntKind.i64.wrap (a.tdiv 2)) (IntKind.i64.wrap (b.tdiv 2))
theorem Sz:∀ a b:_root_.Fin 64,Z6 6 (a.val:Int) (b.val:Int)=(DB (a.val:Int) (b.val:Int)==0):=by decide +kernel
theorem SA {a b:Int}(ha:0<=a)(FG:a<=63)(hb:0<=b)(dD:b<=63):Z6 6 a b=(DB a b==0):=by
 have:=Sz ⟨a.toNat,by omega⟩ ⟨b.toNat,by omega⟩;simp only[Int.toNat_of_nonneg ha,Int.toNat_of_nonneg hb] at this;exact this
theorem WI {a b m:Int}(hm:m<=63)(h:¬ a < 0)(h1:¬ a > m)(h2:¬ b < 0)(h3:¬ b > m):Sy a b m=Z6 6 a b:=by
 unfold Sy AJ;rw[SA (by omega) (by omega) (by omega) (by omega),decide_eq_true (by omega),decide_eq_true (by omega),decide_eq_true (by omega),decide_eq_true (by omega)];rfl
end
section
open Go Cg Go.RowKit Go.Shelf
theorem TL {f:FuncId}(he:KP ae f)(s:ByteArray)(b:Bool)(h:∀ w,Gl w->Calls ae f #[.string s] w fun e w'=>e=.returned (.bool b)/\Below w.heap.size w w'):Ct ae f [AV.s s] (aB0 b) [] true:=by
 refine⟨he,aD _,fun _ h=>(by cases h),rfl,fun x hx=>(by cases hx),fun x hx=>(by cases hx),fun w vs E0 hg ha=>?_⟩
 cases ha with
 | cons hv Cz=>
  cases Cz
  rename_i v;obtain rfl:v=.string s:=dO hv;refine(h w hg).mono ?_;rintro e w' ⟨rfl,hb⟩;exact⟨_,rfl,hb,⟨fun _=>.dX,fun _=>0,fun _ _=>undef⟩,RT.lit rfl,fun j R hj=>(by cases hj),fun b _ hc=>(by cases hc)⟩
theorem Ff (s:ByteArray):Ct ae 227 [AV.s s] (aB0 (gO s)) [] true:=TL (enters_of Tryz.func227 (by kernel_rfl) rfl) s _ fun w hg=>Fk s w hg
theorem aeC (s:ByteArray):Ct ae 145 [AV.s s] (aB0 (gO s)) [] true:=TL (enters_of Tryz.func145 (by kernel_rfl) rfl) s _ fun w _=>JB s w
theorem Vp (l:List ByteArray)(s:ByteArray)(hl:l.length*16<=ba):Ct ae 195 [.c (.t (.sl 1 (l.map eS))),AV.s s] (aBZ (Jz l s)) [] true:=by
 refine aB4 (b:=false) ?_ rfl;refine cT Tryz.func195 rfl (by kernel_rfl) rfl fun w0 O _=>aBW [] ?_;refine aBY (fun k:Nat=>⟨[(0,.c (.t (.sl 1 (l.map eS)))),(1,AV.s s),(5,aBZ k)],[],[],10000⟩) (fun k=>k<=l.length/\∀ j (h:j < l.length),j < k->(fun x:ByteArray=>x.toList==s.toList) l[j]=false) (fun k=>l.length - k) 0 ?_ ⟨aD _,fun j _ hj=>by omega⟩ ?_
 ·refine bh [] rfl rfl ?_ ?_ ?_
  all_goals repeat' first|refine Ai ?_ ?_|exact rfl|exact⟨⟩|exact Ei _ rfl
 rintro k ⟨hk,eZ⟩;refine aBW [4,5,3] ?_;refine cS (fun h=>?_) (fun h=>?_)
 ·have aS:=cN h;refine aBW [] ?_;refine Ei k (Ei (eS l[k]) (Ai rfl (Ai (aQ _ _ k aS) ?_)));refine cS (fun h=>?_) (fun h=>?_)
  ·refine aBW [] ?_;refine Ei [] (Ai rfl (Ai trivial ?_));rw[Jz,ku _ _ k aS h eZ];exact rfl
  ·refine aBW [] ?_;refine Ei (k+1) (Ai ⟨by omega,fun j hj Af=>?_⟩ (Ai (show l.length - (k+1) < l.length - k by omega) ?_))
   ·by_cases e:j=k
    ·subst e;exact h
    ·exact eZ j hj (by omega)
   refine bh [] rfl rfl ?_ ?_ ?_
   ·repeat' first|refine Ai ?_ ?_|exact rfl|exact⟨⟩|exact Ei _ rfl
    exact ed k aS 16 (by decide) hl
   all_goals repeat' first|refine Ai ?_ ?_|exact rfl|exact⟨⟩|exact Ei _ rfl|refine aj ?_|refine bS ?_
 ·have fS:=cP h hk;refine Ei [] (Ai rfl (Ai trivial ?_));rw[Jz,jh _ _ (fun j hj=>eZ j hj (by omega))];exact rfl
theorem Vq (l:List ByteArray)(s:ByteArray)(hl:l.length*16<=ba):Ct ae 265 [.c (.t (.sl 1 (l.map eS))),AV.s s] (aBZ (Jz l s)) [] true:=by
 refine aB4 (b:=false) ?_ rfl;refine cT Tryz.func265 rfl (by kernel_rfl) rfl fun w0 O _=>aBW [] ?_;refine aBY (fun k:Nat=>⟨[(0,.c (.t (.sl 1 (l.map eS)))),(1,AV.s s),(7,aBZ (l.map eS).length),(8,aBZ k)],[],[],10000⟩) (fun k=>k<=l.length/\∀ j (h:j < l.length),j < k->(fun x:ByteArray=>x.toList==s.toList) l[j]=false) (fun k=>l.length - k) 0 ?_ ⟨aD _,fun j _ hj=>by omega⟩ ?_
 ·refine bh [] rfl rfl ?_ ?_ ?_
  all_goals repeat' first|refine Ai ?_ ?_|exact rfl|exact⟨⟩|exact Ei _ rfl
 rintro k ⟨hk,eZ⟩;refine aBW [5,6,7] ?_;refine cS (fun h=>?_) (fun h=>?_)
 ·have aS:=cN h;refine Ei k (Ei (eS l[k]) (Ai rfl (Ai (aQ _ _ k aS) ?_)));refine cS (fun h=>?_) (fun h=>?_)
  ·have h:(s.toList==l[k].toList)=true:=h;refine aBW [] ?_;refine Ei [] (Ai rfl (Ai trivial ?_));rw[Jz,ku _ _ k aS (by rw[<- h];exact Bool.beq_comm) eZ];exact rfl
  ·have h:(s.toList==l[k].toList)=false:=h;refine aBW [] ?_;refine Ei (k+1) (Ai ⟨by omega,fun j hj Af=>?_⟩ (Ai (show l.length - (k+1) < l.length - k by omega) ?_))
   ·by_cases e:j=k
    ·subst e;rw[<- h];exact Bool.beq_comm
    ·exact eZ j hj (by omega)
   refine bh [] rfl rfl ?_ ?_ ?_
   ·repeat' first|refine Ai ?_ ?_|exact rfl|exact⟨⟩|exact Ei _ rfl
    exact ed k aS 16 (by decide) hl
   all_goals repeat' first|refine Ai ?_ ?_|exact rfl|exact⟨⟩|exact Ei _ rfl|refine aj ?_|refine bS ?_
 ·have fS:=cP h hk;refine Ei [] (Ai rfl (Ai trivial ?_));rw[Jz,jh _ _ (fun j hj=>eZ j hj (by omega))];exact rfl
theorem QM (a:ej)(b:Int):∃ r:Bool,(r=(ke a b))/\Ct ae 183 [.agg (a.enc.map .t),.c (.t (iv b))] (aB0 r) [] true:=by
 refine db (Φ:=fun (r:Bool)=>r=(ke a b)) dc (cX Tryz.func183 rfl (by kernel_rfl) rfl (aBX [] [] ?_))
 repeat' (first|(apply bY <;> intro _)|(apply dV <;> intro _)|(apply dx <;> intro _)|apply cy|(apply cS <;> intro _)|(apply bL;exact Ei [] (Ai rfl (Ai trivial rfl));exact(by simp[ke, *]);rfl))
theorem Mu (a:ej)(b:Int):Ct ae 183 [.agg (a.enc.map .t),.c (.t (iv b))] (aB0 (ke a b)) [] true:=by
 obtain⟨r,hr,h⟩:=QM a b;rw[hr] at h;exact h
theorem Jb (a:ej)(b:Int):∃ r:Bool,(r=(ke a b))/\Ct ae 196 [.agg (a.enc.map .t),.c (.t (iv b))] (aB0 r) [] true:=by
 refine db (Φ:=fun (r:Bool)=>r=(ke a b)) dc (cX Tryz.func196 rfl (by kernel_rfl) rfl (aBX [] [] ?_))
 repeat' (first|(apply bY <;> intro _)|(apply dV <;> intro _)|(apply dx <;> intro _)|apply cy|(apply cS <;> intro _)|(apply bL;exact Ei [] (Ai rfl (Ai trivial rfl));exact(by simp[ke, *]);rfl))
theorem J8 (a:Int)(b:Int):∃ r:Bool,(r=(AJ a b))/\Ct ae 226 [.c (.t (iv a)),.c (.t (iv b))] (aB0 r) [] true:=by
 refine db (Φ:=fun (r:Bool)=>r=(AJ a b)) dc (cX Tryz.func226 rfl (by kernel_rfl) rfl (aBX [] [] ?_))
 repeat' (first|(apply bY <;> intro _)|(apply dV <;> intro _)|(apply dx <;> intro _)|apply cy|(apply cS <;> intro _)|(apply bL;exact Ei [] (Ai rfl (Ai trivial rfl));exact(by simp[AJ, *]);rfl))
theorem C0 (a:Int)(b:Int):Ct ae 226 [.c (.t (iv a)),.c (.t (iv b))] (aB0 (AJ a b)) [] true:=by
 obtain⟨r,hr,h⟩:=J8 a b;rw[hr] at h;exact h
theorem J7 (a:ej):∃ r:Bool,(r=(sG a))/\Ct ae 228 [.agg (a.enc.map .t)] (aB0 r) [] true:=by
 refine db (Φ:=fun (r:Bool)=>r=(sG a)) dc (cX Tryz.func228 rfl (by kernel_rfl) rfl (aBX [] [] ?_))
 repeat' (first|(apply bY <;> intro _)|(apply dV <;> intro _)|(apply dx <;> intro _)|apply cy|(apply cS <;> intro _)|(apply bL;exact Ei [] (Ai rfl (Ai trivial rfl));exact(by first|(simp[sG, *];done)|(simp_all[sG];done));rfl)|(apply bj 226;refine cF (C0 _ _) ⟨rfl,rfl,trivial⟩ ?_))
theorem NU (a:ej):Ct ae 228 [.agg (a.enc.map .t)] (aB0 (sG a)) [] true:=by
 obtain⟨r,hr,h⟩:=J7 a;rw[hr] at h;exact h
theorem EB (a:ej):∃ r:Bool,(r=(sG a))/\Ct ae 194 [.agg (a.enc.map .t)] (aB0 r) [] true:=by
 refine db (Φ:=fun (r:Bool)=>r=(sG a)) dc (cX Tryz.func194 rfl (by kernel_rfl) rfl (aBX [] [] ?_))
 repeat' (first|(apply bY <;> intro _)|(apply dV <;> intro _)|(apply dx <;> intro _)|apply cy|(apply cS <;> intro _)|(apply bL;exact Ei [] (Ai rfl (Ai trivial rfl));exact(by first|(simp_all[sG,AJ];done)|(simp_all[sG,AJ];omega));rfl))
theorem I6 (a:ej):Ct ae 194 [.agg (a.enc.map .t)] (aB0 (sG a)) [] true:=by
 obtain⟨r,hr,h⟩:=EB a;rw[hr] at h;exact h
theorem EC (a:Int)(b:Int)(c:Int)  (hm:c<=63):∃ r:Bool,(r=(Sy a b c))/\Ct ae 193 [.c (.t (iv a)),.c (.t (iv b)),.c (.t (iv c))] (aB0 r) [] true:=by
 refine db (Φ:=fun (r:Bool)=>r=(Sy a b c)) dc (cX Tryz.func193 rfl (by kernel_rfl) rfl (aBX [] [] ?_))
 repeat' (first|(apply bY <;> intro _)|(apply dV <;> intro _)|(apply dx <;> intro _)|apply cy|(apply cS <;> intro _)|(apply bL;exact Ei [] (Ai rfl (Ai trivial rfl));exact(by first|(simp[Sy,AJ];omega)|(rw[WI hm ‹_› ‹_› ‹_› ‹_›];simp[Z6, *];done));rfl)|(apply eX 4 rfl;refine gP.one 4 rfl (aBX [] [] ?_))|(refine Ai rfl (Ai (by first|decide|assumption|omega) ?_)))
theorem I7 (a:Int)(b:Int)(c:Int)  (hm:c<=63):Ct ae 193 [.c (.t (iv a)),.c (.t (iv b)),.c (.t (iv c))] (aB0 (Sy a b c)) [] true:=by
 obtain⟨r,hr,h⟩:=EC a b c hm;rw[hr] at h;exact h
theorem P7 (a:cC):∃ r:Bool,(r=(wy a))/\Ct ae 135 [.agg (a.enc.map .t)] (aB0 r) [] true:=by
 refine db (Φ:=fun (r:Bool)=>r=(wy a)) dc (cX Tryz.func135 rfl (by kernel_rfl) rfl (aBX [] [] ?_))
 repeat' (first|(apply bY <;> intro _)|(apply dV <;> intro _)|(apply dx <;> intro _)|apply cy|(apply cS <;> intro _)|(apply bL;exact Ei [] (Ai rfl (Ai trivial rfl));exact(by first|(simp_all[wy,AJ,Pb];done)|(simp_all[wy,AJ,Pb];omega));rfl)|(apply bj 193;refine cF (I7 _ _ _ (by first|assumption|omega|(simp only[ak,dM,aq,aw];omega)|(simp only[Lm] at *;omega)|decide)) ⟨rfl,rfl,rfl,trivial⟩ ?_)|(apply bj 145;refine cF (aeC _) ⟨rfl,trivial⟩ ?_)|(apply bj 194;refine cF (I6 _) ⟨fL (ej.enc _),trivial⟩ ?_))
theorem J6 (a:cC):∃ r:Bool,(r=(wy a))/\Ct ae 180 [.agg (a.enc.map .t)] (aB0 r) [] true:=by
 refine db (Φ:=fun (r:Bool)=>r=(wy a)) dc (cX Tryz.func180 rfl (by kernel_rfl) rfl (aBX [] [] ?_))
 repeat' (first|(apply bY <;> intro _)|(apply dV <;> intro _)|(apply dx <;> intro _)|apply cy|(apply cS <;> intro _)|(apply bL;exact Ei [] (Ai rfl (Ai trivial rfl));exact(by simp_all[wy,Sy,Pb,DB]);rfl)|(apply bj 226;refine cF (C0 _ _) ⟨rfl,rfl,trivial⟩ ?_)|(apply bj 227;refine cF (Ff _) ⟨rfl,trivial⟩ ?_)|(apply bj 228;refine cF (NU _) ⟨fL (ej.enc _),trivial⟩ ?_))
theorem sQ (a:Int)(b:Int):∃ r:Bool,(r=(ze a b))/\Ct ae 139 [.c (.t (iv a)),.c (.t (iv b))] (aB0 r) [] true:=by
 refine db (Φ:=fun (r:Bool)=>r=(ze a b)) dc (cX Tryz.func139 rfl (by kernel_rfl) rfl (aBX [] [] ?_))
 repeat' (first|(apply bY <;> intro _)|(apply dV <;> intro _)|(apply dx <;> intro _)|apply cy|(apply cS <;> intro _)|(apply bL;exact Ei [] (Ai rfl (Ai trivial rfl));exact(rfl);rfl))
theorem PS (a:Int)(b:Int)(c:Int):∃ r:Bool,(r=(tt a b c))/\Ct ae 136 [.c (.t (iv a)),.c (.t (iv b)),.c (.t (iv c))] (aB0 r) [] true:=by
 refine db (Φ:=fun (r:Bool)=>r=(tt a b c)) dc (cX Tryz.func136 rfl (by kernel_rfl) rfl (aBX [] [] ?_))
 repeat' (first|(apply bY <;> intro _)|(apply dV <;> intro _)|(apply dx <;> intro _)|apply cy|(apply cS <;> intro _)|(apply bL;exact Ei [] (Ai rfl (Ai trivial rfl));exact(by simp[tt, *]);rfl))
theorem LU (a:Int)(b:Int)(c:Int):∃ r:Bool,(r=(tt a b c))/\Ct ae 137 [.c (.t (iv a)),.c (.t (iv b)),.c (.t (iv c))] (aB0 r) [] true:=by
 refine db (Φ:=fun (r:Bool)=>r=(tt a b c)) dc (cX Tryz.func137 rfl (by kernel_rfl) rfl (aBX [] [] ?_))
 repeat' (first|(apply bY <;> intro _)|(apply dV <;> intro _)|(apply dx <;> intro _)|apply cy|(apply cS <;> intro _)|(apply bL;exact Ei [] (Ai rfl (Ai trivial rfl));exact(by simp[tt, *]);rfl))
theorem PT (a:Bool)(b:Int):∃ r:Bool,(r=(Ea a b))/\Ct ae 138 [aB0 a,.c (.t (iv b))] (aB0 r) [] true:=by
 refine db (Φ:=fun (r:Bool)=>r=(Ea a b)) dc (cX Tryz.func138 rfl (by kernel_rfl) rfl (aBX [] [] ?_))
 repeat' (first|(apply bY <;> intro _)|(apply dV <;> intro _)|(apply dx <;> intro _)|apply cy|(apply cS <;> intro _)|(apply bL;exact Ei [] (Ai rfl (Ai trivial rfl));exact(by simp[Ea, *]);rfl))
theorem vu (a:jv)(b:ByteArray)(ha:a.ok):∃ r:Bool,(r=(oH a.dN b))/\Ct ae 140 [.agg (a.enc.map .t),AV.s b] (aB0 r) [] true:=by
 refine db (Φ:=fun (r:Bool)=>r=(oH a.dN b)) dc (cX Tryz.func140 rfl (by kernel_rfl) rfl (aBX [] [] ?_))
 repeat' (first|(apply bY <;> intro _)|(apply dV <;> intro _)|(apply dx <;> intro _)|apply cy|(apply cS <;> intro _)|(apply bL;exact Ei [] (Ai rfl (Ai trivial rfl));exact(by simp[oH]);rfl)|(apply bj 195;refine cF (Vp _ _ (by first|assumption|exact eO ‹_› ‹_› | exact eV _ ‹_› | exact jv.QA ‹_›)) ⟨rfl,rfl,trivial⟩ ?_))
theorem I9 (a:jv)(b:ByteArray)(ha:a.ok):Ct ae 140 [.agg (a.enc.map .t),AV.s b] (aB0 (oH a.dN b)) [] true:=by
 obtain⟨r,hr,h⟩:=vu a b ha;rw[hr] at h;exact h
theorem FZ (a:List ByteArray)(b:ByteArray)(ha:a.length*16<=ba):∃ r:Bool,(r=(oH a b))/\Ct ae 229 [.c (.t (.sl 1 (a.map eS))),AV.s b] (aB0 r) [] true:=by
 refine db (Φ:=fun (r:Bool)=>r=(oH a b)) dc (cX Tryz.func229 rfl (by kernel_rfl) rfl (aBX [] [] ?_))
 repeat' (first|(apply bY <;> intro _)|(apply dV <;> intro _)|(apply dx <;> intro _)|apply cy|(apply cS <;> intro _)|(apply bL;exact Ei [] (Ai rfl (Ai trivial rfl));exact(by simp[oH]);rfl)|(apply bj 265;refine cF (Vq _ _ (by first|assumption|exact eO ‹_› ‹_› | exact eV _ ‹_›)) ⟨rfl,rfl,trivial⟩ ?_))
theorem containsS (a:List ByteArray)(b:ByteArray)(ha:a.length*16<=ba):Ct ae 229 [.c (.t (.sl 1 (a.map eS))),AV.s b] (aB0 (oH a b)) [] true:=by
 obtain⟨r,hr,h⟩:=FZ a b ha;rw[hr] at h;exact h
theorem MV (a:jv)(b:ByteArray)(ha:a.ok):∃ r:Bool,(r=(oH a.dN b))/\Ct ae 184 [.agg (a.enc.map .t),AV.s b] (aB0 r) [] true:=by
 refine db (Φ:=fun (r:Bool)=>r=(oH a.dN b)) dc (cX Tryz.func184 rfl (by kernel_rfl) rfl (aBX [] [] ?_))
 repeat' (first|(apply bY <;> intro _)|(apply dV <;> intro _)|(apply dx <;> intro _)|apply cy|(apply cS <;> intro _)|(apply bL;exact Ei [] (Ai rfl (Ai trivial rfl));exact(rfl);rfl)|(apply bj 229;refine cF (containsS _ _ (by first|assumption|exact eO ‹_› ‹_› | exact eV _ ‹_› | exact jv.QA ‹_›)) ⟨rfl,rfl,trivial⟩ ?_))
theorem Qe (a:eB):∃ r:Bool,(r=(oD a))/\Ct ae 80 [.agg (a.enc.map .t)] (aB0 r) [] true:=by
 refine db (Φ:=fun (r:Bool)=>r=(oD a)) dc (cX Tryz.func80 rfl (by kernel_rfl) rfl (aBX [] [] ?_))
 repeat' (first|(apply bY <;> intro _)|(apply dV <;> intro _)|(apply dx <;> intro _)|apply cy|(apply cS <;> intro _)|(apply bL;exact Ei [] (Ai rfl (Ai trivial rfl));exact(by first|(simp_all[oD,nine];done)|(simp_all[oD,nine];omega));rfl)|(apply eX 4 rfl;refine gP.one 4 rfl (aBX [] [] ?_))|(apply jf;(first|assumption|omega|(simp only[ak,dM,aq,aw];omega)|(simp only[Lm] at *;omega)|decide);(first|assumption|omega|(simp only[ak,dM,aq,aw];omega)|(simp only[Lm] at *;omega)|decide);intro _ _)|(apply ud;(first|assumption|omega|(simp only[ak];omega)|(simp only[Lm] at *;omega)|decide);(first|assumption|omega|(simp only[ak];omega)|(simp only[Lm] at *;omega)|decide);intro _))
theorem L9 (a:eB):Ct ae 80 [.agg (a.enc.map .t)] (aB0 (oD a)) [] true:=by
 obtain⟨r,hr,h⟩:=Qe a;rw[hr] at h;exact h
theorem QW (a:eB):∃ r:Bool,(r=(oD a))/\Ct ae 230 [.agg (a.enc.map .t)] (aB0 r) [] true:=by
 refine db (Φ:=fun (r:Bool)=>r=(oD a)) dc (cX Tryz.func230 rfl (by kernel_rfl) rfl (aBX [] [] ?_))
 repeat' (first|(refine Ei 0 (Ei _ (Ai (by decide) (Ai (by decide) (Ai rfl ?_)))))|(refine Ei 1 (Ei _ (Ai (by decide) (Ai (by decide) (Ai rfl ?_)))))|(refine Ei 2 (Ei _ (Ai (by decide) (Ai (by decide) (Ai rfl ?_)))))|(refine Ei 3 (Ei _ (Ai (by decide) (Ai (by decide) (Ai rfl ?_)))))|(refine Ei 4 (Ei _ (Ai (by decide) (Ai (by decide) (Ai rfl ?_)))))|(apply bY <;> intro _)|(apply dV <;> intro _)|(apply dx <;> intro _)|apply cy|(apply cS <;> intro _)|(apply bL;exact Ei [] (Ai rfl (Ai trivial rfl));exact(by first|(simp_all[oD,nine];done)|(simp_all[oD,nine];omega));rfl)|(apply eX 2 rfl;refine gP.one 2 rfl (aBX [] [] ?_))|(apply ud;(first|assumption|omega|(simp only[ak,dM,aq,aw];omega)|(simp only[Lm] at *;omega)|decide);(first|assumption|omega|(simp only[ak,dM,aq,aw];omega)|(simp only[Lm] at *;omega)|decide);intro _)|(apply zX;(first|assumption|omega|(simp only[ak,dM,aq,aw];omega)|(simp only[Lm] at *;omega)|decide);(first|assumption|omega|(simp only[ak,dM,aq,aw];omega)|(simp only[Lm] at *;omega)|decide);intro _))
theorem Vd (a:eB):Ct ae 230 [.agg (a.enc.map .t)] (aB0 (oD a)) [] true:=by
 obtain⟨r,hr,h⟩:=QW a;rw[hr] at h;exact h
theorem nJ {n:Int}(h:-1000000<=n)(h2:n<=1000000):dd n=n:=by
 unfold dd;split
 ·omega
 ·split
  ·omega
  ·rfl
theorem vK {n:Int}(h:nine n=true):0<=n/\n<=9:=by
 unfold nine at h;simp at h;omega
theorem Tc {c:eB}(h:oD c=true):(0<=c.generic/\c.generic<=99)/\(0<=c.x/\c.x<=2)/\(0<=c.fZ/\c.fZ<=9)/\(0<=c.fP/\c.fP<=9)/\(0<=c.fO/\c.fO<=9)/\(0<=c.fN/\c.fN<=9)/\(0<=c.fM/\c.fM<=9):=by
 unfold oD at h;simp only[ag,decide_eq_true_eq] at h;obtain⟨h0,h1,h2,h3,h4,h5,h6,h7,h8⟩:=h;exact⟨⟨h5,h6⟩,⟨h7,h8⟩,vK h0,vK h1,vK h2,vK h3,vK h4⟩
theorem KX {c:eB}(h:oD c=false):(0:Int)=rF c:=by
 unfold rF;rw[if_neg (by rw[h];decide)]
def mulM (a b:Int):Int:=dd (IntKind.i64.wrap (dd a*dd b))
theorem Ta (a:Int):mulM a 0=0:=by
 unfold mulM;rw[show dd 0=0 from rfl,Int.mul_zero];rfl
theorem TO {n:Int}(h:-1000000<=n)(h2:n<=1000000)(m:Int)(hm:m=0):ff n m=n:=by
 subst hm;unfold ff;rw[nJ h h2,show dd 0=0 from rfl,Int.add_zero,nJ h h2]
theorem DD {n m:Int}(h:0<=n)(h2:n<=1000)(h3:0<=m)(h4:m<=1000):ff n m=n+m:=by
 unfold ff;rw[nJ (n:=n) (by omega) (by omega),nJ (n:=m) (by omega) (by omega),nJ (by omega) (by omega)]
theorem KZ {c:eB}(h:oD c=true):ff (IntKind.i64.wrap (IntKind.i64.wrap (IntKind.i64.wrap (IntKind.i64.wrap (IntKind.i64.wrap (c.generic+c.fZ)+c.fP)+c.fO)+c.fN)+c.fM)) (mulM c.x 0)=rF c:=by
 obtain⟨h0,h1,h2,h3,h4,h5,h6⟩:=Tc h;rw[Ta];unfold rF;rw[if_pos h,TO (by simp only[ak];omega) (by simp only[ak];omega) 0 rfl];simp only[ak];omega
theorem KY {c:eB}(h:oD c=true):ff (ff (ff (ff (ff (ff c.generic c.fZ) c.fP) c.fO) c.fN) c.fM) (mulM c.x 0)=rF c:=by
 obtain⟨h0,h1,h2,h3,h4,h5,h6⟩:=Tc h;rw[Ta];unfold rF;rw[if_pos h,DD (n:=c.generic) (by omega) (by omega) (by omega) (by omega),DD (m:=c.fP) (by omega) (by omega) (by omega) (by omega),DD (m:=c.fO) (by omega) (by omega) (by omega) (by omega),DD (m:=c.fN) (by omega) (by omega) (by omega) (by omega),DD (m:=c.fM) (by omega) (by omega) (by omega) (by omega),TO (by omega) (by omega) 0 rfl]
theorem QJ (a:Int)(b:Int):∃ r:Int,(r=(mulM a b))/\Ct ae 232 [.c (.t (iv a)),.c (.t (iv b))] (aBZ r) [] true:=by
 refine db (Φ:=fun (r:Int)=>r=(mulM a b)) lF (cX Tryz.func232 rfl (by kernel_rfl) rfl (aBX [] [] ?_))
 repeat' (first|(apply bY <;> intro _)|(apply dV <;> intro _)|(apply dx <;> intro _)|apply cy|(apply cS <;> intro _)|(apply bL;exact Ei [] (Ai rfl (Ai trivial rfl));exact(rfl);rfl)|(apply bj 266;refine cF (BZ _) ⟨rfl,trivial⟩ ?_))
theorem U3 (a:Int)(b:Int):Ct ae 232 [.c (.t (iv a)),.c (.t (iv b))] (aBZ (mulM a b)) [] true:=by
 obtain⟨r,hr,h⟩:=QJ a b;rw[hr] at h;exact h
theorem Qj (a:Int)(b:Int):∃ r:Int,(r=(mulM a b))/\Ct ae 237 [.c (.t (iv a)),.c (.t (iv b))] (aBZ r) [] true:=by
 refine db (Φ:=fun (r:Int)=>r=(mulM a b)) lF (cX Tryz.func237 rfl (by kernel_rfl) rfl (aBX [] [] ?_))
 repeat' (first|(apply bY <;> intro _)|(apply dV <;> intro _)|(apply dx <;> intro _)|apply cy|(apply cS <;> intro _)|(apply bL;exact Ei [] (Ai rfl (Ai trivial rfl));exact(rfl);rfl)|(apply bj 167;refine cF (np _) ⟨rfl,trivial⟩ ?_))
theorem UA (a:Int)(b:Int):Ct ae 237 [.c (.t (iv a)),.c (.t (iv b))] (aBZ (mulM a b)) [] true:=by
 obtain⟨r,hr,h⟩:=Qj a b;rw[hr] at h;exact h
theorem Fa (a:eB)(b:Int)  (hb:b=0):∃ r:Int,(r=(rF a))/\Ct ae 186 [.agg (a.enc.map .t),.c (.t (iv b))] (aBZ r) [] true:=by
 subst hb;refine db (Φ:=fun (r:Int)=>r=(rF a)) lF (cX Tryz.func186 rfl (by kernel_rfl) rfl (aBX [] [] ?_))
 repeat' (first|(refine Ei 0 (Ei _ (Ai (by decide) (Ai (by decide) (Ai rfl ?_)))))|(refine Ei 1 (Ei _ (Ai (by decide) (Ai (by decide) (Ai rfl ?_)))))|(refine Ei 2 (Ei _ (Ai (by decide) (Ai (by decide) (Ai rfl ?_)))))|(refine Ei 3 (Ei _ (Ai (by decide) (Ai (by decide) (Ai rfl ?_)))))|(refine Ei 4 (Ei _ (Ai (by decide) (Ai (by decide) (Ai rfl ?_)))))|(apply bY <;> intro _)|(apply dV <;> intro _)|(apply dx <;> intro _)|apply cy|(apply cS <;> intro _)|(apply bL;exact Ei [] (Ai rfl (Ai trivial rfl));exact(by first|exact KX ‹_› | exact KZ ‹_›);rfl)|(apply eX 5 rfl;refine gP.one 5 rfl (aBX [] [] ?_))|(apply ud;(first|assumption|omega|(simp only[ak,dM,aq,aw];omega)|(simp only[Lm] at *;omega)|decide);(first|assumption|omega|(simp only[ak,dM,aq,aw];omega)|(simp only[Lm] at *;omega)|decide);intro _)|(apply zX;(first|assumption|omega|(simp only[ak,dM,aq,aw];omega)|(simp only[Lm] at *;omega)|decide);(first|assumption|omega|(simp only[ak,dM,aq,aw];omega)|(simp only[Lm] at *;omega)|decide);intro _)|(apply bj 230;refine cF (Vd _) ⟨fL (eB.enc _),trivial⟩ ?_)|(apply bj 232;refine cF (U3 _ _) ⟨rfl,rfl,trivial⟩ ?_)|(apply bj 231;refine cF (U4 _ _) ⟨rfl,rfl,trivial⟩ ?_))
theorem Jr (a:eB)(b:Int)  (hb:b=0):Ct ae 186 [.agg (a.enc.map .t),.c (.t (iv b))] (aBZ (rF a)) [] true:=by
 obtain⟨r,hr,h⟩:=Fa a b hb;rw[hr] at h;exact h
theorem Ja (a:eB)(b:Int)  (hb:b=0):∃ r:Int,(r=(rF a))/\Ct ae 197 [.agg (a.enc.map .t),.c (.t (iv b))] (aBZ r) [] true:=by
 subst hb;refine db (Φ:=fun (r:Int)=>r=(rF a)) lF (cX Tryz.func197 rfl (by kernel_rfl) rfl (aBX [] [] ?_))
 repeat' (first|(apply bY <;> intro _)|(apply dV <;> intro _)|(apply dx <;> intro _)|apply cy|(apply cS <;> intro _)|(apply bL;exact Ei [] (Ai rfl (Ai trivial rfl));exact(by first|exact KX ‹_› | exact KY ‹_›);rfl)|(apply eX 5 rfl;refine gP.one 5 rfl (aBX [] [] ?_))|(apply jf;(first|assumption|omega|(simp only[ak,dM,aq,aw];omega)|(simp only[Lm] at *;omega)|decide);(first|assumption|omega|(simp only[ak,dM,aq,aw];omega)|(simp only[Lm] at *;omega)|decide);intro _ _)|(apply ud;(first|assumption|omega|(simp only[ak];omega)|(simp only[Lm] at *;omega)|decide);(first|assumption|omega|(simp only[ak];omega)|(simp only[Lm] at *;omega)|decide);intro _)|(apply bj 80;refine cF (L9 _) ⟨fL (eB.enc _),trivial⟩ ?_)|(apply bj 104;refine cF (j8 _ _) ⟨rfl,rfl,trivial⟩ ?_)|(apply bj 237;refine cF (UA _ _) ⟨rfl,rfl,trivial⟩ ?_))
theorem L8 (a:eB)(b:Int)  (hb:b=0):Ct ae 197 [.agg (a.enc.map .t),.c (.t (iv b))] (aBZ (rF a)) [] true:=by
 obtain⟨r,hr,h⟩:=Ja a b hb;rw[hr] at h;exact h
theorem Ks (b:ej)(n:Int)(cr:Bool):Ct ae 182 [.agg (b.enc.map .t),.c (.t (iv n)),.dv [bv cr] 0] (aB0 (xz cr b n)) [] true:=by
 refine aB4 (b:=false) ?_ rfl;generalize hM:xz cr b n=M;refine cT Tryz.func182 rfl (by kernel_rfl) rfl fun w0 O _=>aBW [] ?_;refine cS (fun h=>?_) (fun h=>?_)
 ·have qq:M=true:=by rw[<- hM];unfold xz;rw[show(b.kind==0)=true from h];rfl
  subst qq;refine Ei [] ?_
  repeat' first|refine Ai ?_ ?_|exact rfl|exact⟨⟩|exact Ei _ rfl
 ·have h0:(b.kind==0)=false:=h
  cases cr with
  | false=>
   have qq:M=false:=by rw[<- hM];unfold xz;rw[h0];rfl
   subst qq;refine Ei [] ?_
   repeat' first|refine Ai ?_ ?_|exact rfl|exact⟨⟩|exact Ei _ rfl
  | true=>
   have qq:M=ke b n:=by rw[<- hM];unfold xz;rw[h0];rfl
   subst qq;refine cF (Mu b n) ⟨fL b.enc,rfl,trivial⟩ ?_;refine Ei [] ?_
   repeat' first|refine Ai ?_ ?_|exact rfl|exact⟨⟩|exact Ei _ rfl
theorem Ol (b:ej)(n:Int)(cr:Bool):∃ r:Bool,r=xz cr b n/\Ct ae 182 [.agg (b.enc.map .t),.c (.t (iv n)),.dv [bv cr] 0] (aB0 r) [] true:=⟨_,rfl,Ks b n cr⟩
def kM (l:List cq)(p you w:Int):Bool:=match (if p < 0 then none else l[p.toNat]?) with
 | none=>false
 | some q=>!q.lost&&(if w=0 then true else if w=1 then p==you else w==2&&p != you)
theorem Qt {l:List cq}{p you w:Int}(h:p < 0):false=kM l p you w:=by
 unfold kM;rw[if_pos h]
theorem Qs {l:List cq}{p you w:Int}(h:p>=(((l.map cq.enc).length:Nat):Int)):false=kM l p you w:=by
 rw[Lm] at h;unfold kM;split
 ·rfl
 ·rename_i q hq;split at hq
  ·cases hq
  ·rw[dy (by omega)] at hq
   cases hq
theorem UD {l:List cq}{p you w:Int}(h:¬ p < 0)(hl:p.toNat < l.length):kM l p you w=(!l[p.toNat].lost&&(if w=0 then true else if w=1 then p==you else w==2&&p != you)):=by
 unfold kM;rw[if_neg h,cD hl]
theorem Ez (a:aG)(b:cC)(ha:a.ok):∃ r:Bool,(r=(jU a b))/\Ct ae 142 [.agg (a.enc.map .t),.agg (b.enc.map .t)] (aB0 r) [] true:=by
 have CH:=ha;obtain⟨S8,S7,S6,S5⟩:=CH;refine db (Φ:=fun (r:Bool)=>r=(jU a b)) dc (cX Tryz.func142 rfl (by kernel_rfl) rfl (aBX [] [] ?_))
 repeat' (first|(apply bY <;> intro _)|(apply dV <;> intro _)|(apply dx <;> intro _)|apply cy|(apply cS <;> intro _)|(apply bL;exact Ei [] (Ai rfl (Ai trivial rfl));exact(by rw[Bool.eq_iff_iff];simp_all[jU,xz]);rfl)|(apply bj 139;refine cY (sQ _ _) ⟨rfl,rfl,trivial⟩ (fun _ _=>?_))|(apply bj 196;refine cY (Jb _ _) ⟨fL (ej.enc _),rfl,trivial⟩ (fun _ _=>?_))|(apply bj 197;refine cF (L8 _ _ (by first|assumption|omega|(simp only[ak,dM,aq,aw];omega)|(simp only[Lm] at *;omega)|decide)) ⟨fL (eB.enc _),rfl,trivial⟩ ?_))
theorem Vc (a:Int)(b:Int)(c:Int):∃ r:Bool,(r=(xm a b c))/\Ct ae 181 [.c (.t (iv a)),.c (.t (iv b)),.c (.t (iv c))] (aB0 r) [] true:=by
 refine db (Φ:=fun (r:Bool)=>r=(xm a b c)) dc (cX Tryz.func181 rfl (by kernel_rfl) rfl (aBX [] [] ?_))
 repeat' (first|(apply bY <;> intro _)|(apply dV <;> intro _)|(apply dx <;> intro _)|apply cy|(apply cS <;> intro _)|(apply bL;exact Ei [] (Ai rfl (Ai trivial rfl));exact(by rw[Bool.eq_iff_iff];simp_all[xm,ze,DB,bne]);rfl))
theorem Ey (a:aE)(b:aG)(c:Int)(d:Int)(e:cC)(hb:b.ok):∃ r:Bool,(r=(eW a b c d e))/\Ct ae 76 [.agg (a.enc.map .t),.agg (b.enc.map .t),.c (.t (iv c)),.c (.t (iv d)),.agg (e.enc.map .t)] (aB0 r) [] true:=by
 have Rz:=hb;obtain⟨ob0,ob1,ob2,ob3⟩:=Rz;refine db (Φ:=fun (r:Bool)=>r=(eW a b c d e)) dc (cX Tryz.func76 rfl (by kernel_rfl) rfl (aBX [] [] ?_))
 repeat' (first|(apply bY <;> intro _)|(apply dV <;> intro _)|(apply dx <;> intro _)|apply cy|(apply cS <;> intro _)|(apply bL;exact Ei [] (Ai rfl (Ai trivial rfl));exact(by rw[Bool.eq_iff_iff];simp_all[eW,xm,Pb]);rfl)|(apply bj 135;refine cY (P7 _) ⟨fL (cC.enc _),trivial⟩ (fun _ _=>?_))|(apply bj 136;refine cY (PS _ _ _) ⟨rfl,rfl,rfl,trivial⟩ (fun _ _=>?_))|(apply bj 137;refine cY (LU _ _ _) ⟨rfl,rfl,rfl,trivial⟩ (fun _ _=>?_))|(apply bj 138;refine cY (PT _ _) ⟨rfl,rfl,trivial⟩ (fun _ _=>?_))|(apply bj 139;refine cY (sQ _ _) ⟨rfl,rfl,trivial⟩ (fun _ _=>?_))|(apply bj 140;refine cY (vu _ _ (by first|assumption|exact eO ‹_› ‹_› | exact eV _ ‹_› | exact aG.GM ‹_›)) ⟨fL (jv.enc _),rfl,trivial⟩ (fun _ _=>?_))|(apply bj 141;refine cY (BJ _ _) ⟨rfl,rfl,trivial⟩ (fun _ _=>?_))|(apply bj 142;refine cY (Ez _ _ (by first|assumption|exact eO ‹_› ‹_› | exact eV _ ‹_› | exact aG.GM ‹_›)) ⟨fL (aG.enc _),fL (cC.enc _),trivial⟩ (fun _ _=>?_)))
theorem xZ (a:aE)(b:aG)(c:Int)(d:Int)(e:cC)(hb:b.ok):Ct ae 76 [.agg (a.enc.map .t),.agg (b.enc.map .t),.c (.t (iv c)),.c (.t (iv d)),.agg (e.enc.map .t)] (aB0 (eW a b c d e)) [] true:=by
 obtain⟨r,hr,h⟩:=Ey a b c d e hb;rw[hr] at h;exact h
theorem MF (a:aE)(b:aG)(c:Int)(d:Int)(e:cC)(hb:b.ok):∃ r:Bool,(r=(eW a b c d e))/\Ct ae 128 [.agg (a.enc.map .t),.agg (b.enc.map .t),.c (.t (iv c)),.c (.t (iv d)),.agg (e.enc.map .t)] (aB0 r) [] true:=by
 have Rz:=hb;obtain⟨ob0,ob1,ob2,ob3⟩:=Rz;refine db (Φ:=fun (r:Bool)=>r=(eW a b c d e)) dc (cX Tryz.func128 rfl (by kernel_rfl) rfl (aBX [] [1008,1011,1014,1017,1020] ?_))
 repeat' (first|(apply bj 182;refine cY (Ol _ _ (ze b.line.types 1)) ⟨fL (ej.enc _),rfl,⟨⟨rfl,rfl⟩,trivial⟩,trivial⟩ (fun _ _=>?_))|(apply bj 181;refine cY (Vc _ _ _) ⟨rfl,rfl,rfl,trivial⟩ (fun _ _=>?_))|(apply bY <;> intro _)|(apply dV <;> intro _)|(apply dx <;> intro _)|apply cy|(apply cS <;> intro _)|(apply bL;exact Ei [] (Ai rfl (Ai trivial rfl));exact(by rw[Bool.eq_iff_iff];first|(simp_all[eW,jU];done)|(simp_all[eW,jU];grind));rfl)|(apply ee 1008 rfl;refine aB3 (α:=Bool) 1008 (fun p=>[(30,aB0 p)]) (fun p=>p=(!(tt b.aaB c e.who))) [3,5,6,9,12,13] [0,128,256,2432] 200000 rfl ?_;refine Ai (aBX [] [1008,1011,1014,1017,1020] ?_) (fun _ _=>aBX [] [1008,1011,1014,1017,1020] ?_))|(apply ee 1011 rfl;refine aB3 (α:=Bool) 1011 (fun p=>[(49,aB0 p)]) (fun p=>p=(!(tt a.id d e.self))) [5,6,9,12,13] [0,128,256,2432] 300000 rfl ?_;refine Ai (aBX [] [1008,1011,1014,1017,1020] ?_) (fun _ _=>aBX [] [1008,1011,1014,1017,1020] ?_))|(apply ee 1014 rfl;refine aB3 (α:=Bool) 1014 (fun p=>[(68,aB0 p)]) (fun p=>p=(!(xm b.line.types e.types e.dC&&xm b.dQ e.dQ e.dq))) [5,6,9,13] [0,128,256,2432] 400000 rfl ?_;refine Ai (aBX [] [1008,1011,1014,1017,1020] ?_) (fun _ _=>aBX [] [1008,1011,1014,1017,1020] ?_))|(apply ee 1017 rfl;refine aB3 (α:=Bool) 1017 (fun p=>[(88,aB0 p)]) (fun p=>p=(!((Pb e.sub||oH b.line.dN e.sub)&&mW b.keys e.keys))) [5,6,9,13] [0,128,256,2432] 500000 rfl ?_;refine Ai (aBX [] [1008,1011,1014,1017,1020] ?_) (fun _ _=>aBX [] [1008,1011,1014,1017,1020] ?_))|(apply ee 1020 rfl;refine aB3 (α:=Bool) 1020 (fun p=>[(106,aB0 p)]) (fun p=>p=(!(Ea a.eR e.mY))) [6,9,13] [128,256,2432] 600000 rfl ?_;refine Ai (aBX [] [1008,1011,1014,1017,1020] ?_) (fun _ _=>aBX [] [1008,1011,1014,1017,1020] ?_))|exact Ei _ (Ai (by rw[Bool.eq_iff_iff];simp_all[tt,Pb,Ea]) (cE rfl rfl rfl rfl))|exact Ai (by first|assumption|omega) (Ei _ (Ai (by rw[Bool.eq_iff_iff];simp_all[tt,Pb,Ea]) (cE rfl rfl rfl rfl)))|(apply bj 180;refine cY (J6 _) ⟨fL (cC.enc _),trivial⟩ (fun _ _=>?_))|(apply bj 184;refine cY (MV _ _ (by first|assumption|exact eO ‹_› ‹_› | exact eV _ ‹_› | exact aG.GM ‹_›)) ⟨fL (jv.enc _),rfl,trivial⟩ (fun _ _=>?_))|(apply bj 185;refine cY (M6 _ _) ⟨rfl,rfl,trivial⟩ (fun _ _=>?_))|(apply bj 186;refine cF (Jr _ _ (by first|assumption|omega|(simp only[ak,dM,aq,aw];omega)|(simp only[Lm] at *;omega)|decide)) ⟨fL (eB.enc _),rfl,trivial⟩ ?_)|(apply bj 183;refine cF (Mu _ _) ⟨fL (ej.enc _),rfl,trivial⟩ ?_))
theorem QU (a:aE)(b:aG)(c:Int)(d:Int)(e:cC)(hb:b.ok):Ct ae 128 [.agg (a.enc.map .t),.agg (b.enc.map .t),.c (.t (iv c)),.c (.t (iv d)),.agg (e.enc.map .t)] (aB0 (eW a b c d e)) [] true:=by
 obtain⟨r,hr,h⟩:=MF a b c d e hb;rw[hr] at h;exact h
theorem MD (a:aA)(b:Int)(c:Int)(d:Int)(ha:a.ok):∃ r:Bool,(r=(kM a.az b c d))/\Ct ae 69 [.agg (a.enc.map .t),.c (.t (iv b)),.c (.t (iv c)),.c (.t (iv d))] (aB0 r) [] true:=by
 have CH:=ha;obtain⟨S8,S7,S6,S5,UX,Yz,Yy,Yx,Yw,Yv,U0,UZ,UY⟩:=CH;refine db (Φ:=fun (r:Bool)=>r=(kM a.az b c d)) dc (cX Tryz.func69 rfl (by kernel_rfl) rfl (aBX [] [] ?_))
 repeat' (first|(apply Ri;(first|assumption|omega|(simp only[ak,dM,aq,aw];omega)|(simp only[Lm] at *;omega)|decide);(first|assumption|omega|(simp only[ak,dM,aq,aw];omega)|(simp only[Lm] at *;omega)|decide);intro _)|(apply bY <;> intro _)|(apply dV <;> intro _)|(apply dx <;> intro _)|apply cy|(apply cS <;> intro _)|(apply bL;exact Ei [] (Ai rfl (Ai trivial rfl));exact(by first|exact Qt ‹_› | exact Qs ‹_› | (rw[UD ‹_› ‹_›];simp_all;done));rfl)|(apply jf;(first|assumption|omega|(simp only[ak,dM,aq,aw];omega)|(simp only[Lm] at *;omega)|decide);(first|assumption|omega|(simp only[ak,dM,aq,aw];omega)|(simp only[Lm] at *;omega)|decide);intro _ _))
theorem QR (a:aA)(b:Int)(c:Int)(d:Int)(ha:a.ok):Ct ae 69 [.agg (a.enc.map .t),.c (.t (iv b)),.c (.t (iv c)),.c (.t (iv d))] (aB0 (kM a.az b c d)) [] true:=by
 obtain⟨r,hr,h⟩:=MD a b c d ha;rw[hr] at h;exact h
end
section
open Go Go.RowKit Go.Sort Go.Lib Cg
def Tf (x y:Int):Bool:=decide (x<=y)
theorem Ii (v:Value)(xs:List Int)(w:World)(h:fE (Value.int .i64) w v xs)(hn:xs.length<=1000000) :
  Calls ae 268 #[v] w fun e w'=>∃ v',e=.returned v'/\w'.ownsRow w.heap.size 3 1 v' xs.length (xs.map (Value.int .i64))/\Below w.heap.size w w':=by
 rcases h.cases with⟨rfl,ao,cap,rfl⟩|⟨_,b,o,cap,rfl,_,_,hc⟩
 ·cases ao with
  | none=>exact(Tryz.slices_Clone_int_nil _ _ _).mono fun e w' ⟨h1,h2⟩=>⟨_,h1,World.ownsRow_nil _ _ _ _,h2▸Below.refl _ _⟩
  | some a=>exact(Tryz.slices_Clone_int_zero a _ _).mono fun e w' ⟨v',h1,h2,_,h4⟩=>⟨v',h1,h2,h4⟩
 ·exact(Tryz.slices_Clone_int b o xs.length cap xs w (al _) (by omega) (wP 0 hc)).mono fun e w' ⟨v',h1,h2,_,h4⟩=>⟨v',h1,by rw[bm] at h2;exact h2,h4⟩
theorem Ua (B:Nat)(v:Value)(xs:List Int)(w:World)(h:w.ownsRow B 3 1 v xs.length (xs.map (Value.int .i64)))(hB:B<=w.heap.size)(hn:xs.length<=1000000) :
  Calls ae 278 #[v] w fun e w'=>e=.returned (.tuple #[])/\w'.ownsRow B 3 1 v xs.length ((xs.mergeSort Tf).map (Value.int .i64))/\Below B w w':=by
 by_cases hv:v=.slice none 0 0
 ·subst hv
  have h0:xs.length=0:=by
   rcases h.2 with⟨_,h0⟩|⟨g,cap,cur,he,_⟩
   ·exact h0
   ·cases he
  have:xs=[]:=List.eq_nil_of_length_eq_zero h0;subst this;exact(Tryz.slices_Sort_int_none none 0 w).mono fun e w' ⟨h1,h2⟩=>⟨h1,by rw[h2,List.mergeSort_nil];exact World.ownsRow_nil _ _ _ _,by rw[h2];exact Below.refl _ _⟩
 ·obtain⟨g,cap,rfl,Wa,aS,_,_,_,hH⟩:=holds_of_ownsRow h hv;refine(Tryz.slices_Sort_int g 0 cap xs w hH aS (by omega)).mono fun e w' ⟨h1,n,os,h2⟩=>⟨h1,?_,?_⟩
  ·rw[h2];have h3:=ownsRow_putRow (q:=n) (ys:=xs.mergeSort Tf) h (List.length_mergeSort xs) (al _);rw[List.take_of_length_le (Nat.le_of_eq (List.length_mergeSort xs))] at h3;refine Jg h3 ?_;exact wX (Below.refl _ _) (al _) os
  ·rw[h2];exact wX (below_putRow (Below.refl _ _) Wa) (by rw[size_putRow];exact hB) os
theorem Km (B:Nat)(v:Value)(xs:List Int)(w:World)(h:w.ownsRow B 3 1 v xs.length (xs.map (Value.int .i64)))(hn:xs.length<=1000000) :
  Calls ae 279 #[v] w fun e w'=>∃ v',e=.returned v'/\w'.ownsRow B 3 1 v' (Lib.compact xs).length ((Lib.compact xs).map (Value.int .i64))/\Below B w w':=by
 by_cases hv:v=.slice none 0 0
 ·subst hv
  have h0:xs.length=0:=by
   rcases h.2 with⟨_,h0⟩|⟨g,cap,cur,he,_⟩
   ·exact h0
   ·cases he
  have:xs=[]:=List.eq_nil_of_length_eq_zero h0;subst this;exact(Tryz.slices_Compact_int_empty none 0 w).mono fun e w' ⟨h1,h2⟩=>⟨_,h1,by rw[h2];exact World.ownsRow_nil _ _ _ _,by rw[h2];exact Below.refl _ _⟩
 ·obtain⟨g,cap,rfl,Wa,aS,mV,_,_,hH⟩:=holds_of_ownsRow h hv;have hl:=compact_length_le xs;refine(Tryz.slices_Compact_int g 0 cap xs w hH (by omega) mV).mono fun e w' ⟨h1,n,h2⟩=>⟨_,h1,?_,?_⟩
  ·rw[h2];have h3:=ownsRow_putRow (q:=n) (ys:=Lib.compact xs++List.replicate (xs.length - (Lib.compact xs).length) 0) h (by rw[au,cc];omega) hl;rw[List.take_left] at h3;exact h3
  ·rw[h2];exact below_putRow (Below.refl _ _) Wa
def OW (x y:Int):Bool:=decide (x < y)
theorem zN:Ord OW where
 irrefl:=fun a=>by simp[OW]
 trans:=fun a b c h1 h2=>by simp[OW] at *;omega
 conn:=fun a b h1 h2=>by simp[OW] at *;omega
theorem Q7 (a b:Int):Tf a b=!OW b a:=by
 unfold Tf OW
 by_cases h:a<=b
 ·rw[decide_eq_true h,decide_eq_false (by omega)];rfl
 ·rw[decide_eq_false h,decide_eq_true (by omega)];rfl
def sV (xs:List Int):List Int:=Lib.compact (xs.mergeSort Tf)
theorem BV (xs:List Int):SI OW (sV xs)/\∀ x,x∈sV xs↔x∈xs:=ub zN Tf Q7 xs
theorem Jh (xs:List Int):sV xs=nB OW [] xs:=
 (BV xs).1.ext zN (JE zN xs List.Pairwise.nil) fun x=>by rw[(BV xs).2,E7];simp
theorem xy (v:Value)(xs:List Int)(w:World)(h:fE (Value.int .i64) w v xs)(hn:xs.length<=1000000) :
  Calls ae 267 #[v] w fun e w'=>∃ v',e=.returned v'/\w'.ownsRow w.heap.size 3 1 v' (sV xs).length ((sV xs).map (Value.int .i64))/\Below w.heap.size w w':=by
 have H:=Lib.hid h;clear h
 go_enter Tryz.func267,Tryz.ntmps267
 go_wp2_with fail
 refine(Ii v xs _ H.out hn).mono ?_;rintro e w1 ⟨v1,rfl,o1,b1⟩
 go_wp2_with fail
 refine(Ua w.heap.size v1 xs _ o1 b1.size hn).mono ?_;rintro e w2 ⟨rfl,o2,b2⟩
 go_wp2_with fail
 have hl:(xs.mergeSort Tf).length=xs.length:=List.length_mergeSort xs;rw[<- hl] at o2;refine(Km w.heap.size v1 (xs.mergeSort Tf) _ o2 (by omega)).mono ?_;rintro e w3 ⟨v3,rfl,o3,b3⟩
 go_wp2_with fail
 go_ret
 exact⟨_,rfl,o3,(b1.trans b2).trans b3⟩
theorem FY (v:Value)(xs:List Int)(x:Int)(w:World)(h:fE (Value.int .i64) w v xs)(hn:xs.length<=1000000) :
  Calls ae 270 #[v,.int .i64 x] w fun e w'=>e=.returned (.bool (decide (x∈xs)))/\w=w':=by
 have hd:∀ l:List Int,l.contains x=decide (x∈l):=fun l=>by simp
 rcases h.cases with⟨rfl,ao,cap,rfl⟩|⟨_,b,o,cap,rfl,_,_,hc⟩
 ·exact(Tryz.slices_Contains_int_empty ao cap x w).mono fun e w' ⟨h1,h2⟩=>⟨by rw[h1];simp,h2.symm⟩
 ·exact(Tryz.slices_Contains_int b o xs.length cap xs x w (al _) (by omega) (wP 0 hc)).mono fun e w' ⟨h1,h2⟩=>⟨by rw[bm,hd] at h1;exact h1,h2.symm⟩
theorem FX (g:Nat)(lb:Array Value)(w:World):Calls ae 130 #[.slice none 0 0,.func (.func g) #[] lb] w fun e w'=>e=.returned (.slice none 0 0)/\w=w':=by
 go_enter Tryz.func130,Tryz.ntmps130
 go_wp2_with fail
 refine(Tryz.slices_IndexFunc_empty (α:=Int) none 0 _ w).mono ?_;rintro e w' ⟨rfl,rfl⟩
 go_wp2_with fail
 go_ret
 exact⟨rfl,rfl⟩
theorem Oc (B:Nat)(v:Value)(xs:List Int)(p:Int->Bool)(g:Nat)(lb:Array Value)(eg:∀ args w,(callFunc g args).run ae w=.ok (.enter g args) w)(w:World)(h:w.ownsRow B 3 1 v xs.length (xs.map (Value.int .i64)))
  (hp:PredAt ae g lb (Value.int .i64) p w) (Xi:∀ oJ,B<=oJ->PredOver ae g lb (Value.int .i64) p oJ 0 xs.length w) (hn:xs.length<=1000000) :
  Calls ae 130 #[v,.func (.func g) #[] lb] w fun e w'=>∃ v',e=.returned v'/\w'.ownsRow B 3 1 v' (xs.filter fun x=>!p x).length ((xs.filter fun x=>!p x).map (Value.int .i64))/\Below B w w':=by
 by_cases gX:v=.slice none 0 0
 ·subst gX
  have h0:xs.length=0:=by
   rcases h.2 with⟨_,h0⟩|⟨g,cap,cur,he,_⟩
   ·exact h0
   ·cases he
  have:xs=[]:=List.eq_nil_of_length_eq_zero h0;subst this;exact(FX g lb w).mono fun e w' ⟨h1,h2⟩=>⟨_,h1,h2▸World.ownsRow_nil _ _ _ _,h2▸Below.refl _ _⟩
 obtain⟨b,cap,rfl,Wa,aS,mV,_,_,hH⟩:=holds_of_ownsRow h gX;have hl:=cx (fun x=>!p x) xs;refine(Tryz.slices_DeleteFunc (Value.int .i64) (fun _=>rfl) p g lb eg 0 Tryz.zeroValue3 b 0 cap xs.toArray w hp (by simpa using Xi b Wa) hH (by simp;omega) (by simpa using mV)).mono fun e w' ⟨h1,n,h2⟩=>⟨_,h1,?_,?_⟩
 ·rw[h2];have h3:=ownsRow_putRow (q:=n) (ys:=(xs.filter fun x=>!p x)++List.replicate (xs.length - (xs.filter fun x=>!p x).length) 0) h (by rw[au,cc];omega) hl;rw[List.take_left] at h3;simpa using h3
 ·rw[h2];exact below_putRow (Below.refl _ _) Wa
def kq (xs ys:List Int):List Int:=nB OW [] (xs.filter fun x=>decide (¬ x∈ys))
theorem NC (v:Value)(xs:List Int)(x:Int)(w:World)(h:fE (Value.int .i64) w v xs)(hn:xs.length<=1000000) :
  Calls ae 235 #[v,.int .i64 x] w fun e w'=>e=.returned (.bool (decide (x∈xs)))/\w=w':=by
 have H:=Lib.hid h;clear h;obtain⟨r,hr⟩:∃ r,decide (x∈xs)=r:=⟨_,rfl⟩
 have HR:=Lib.hid hr;rw[hr];clear hr
 go_enter Tryz.func235,Tryz.ntmps235
 go_wp2_with fail
 refine(FY v xs x _ H.out hn).mono ?_;rintro e w1 ⟨rfl,rfl⟩;rw[HR.out]
 go_wp2_with fail
 go_ret
 exact⟨rfl,rfl⟩
theorem kx {α:Type}[Inhabited α](enc:α->Value)(w:World)(oJ off n:Nat)(d:Array α)(os:Array Obj)(b o:Nat)(hb:b < w.heap.size)(gX:b≠oJ):(sortWorld enc w oJ off n d os).cell? ⟨b,o,none⟩=w.cell? ⟨b,o,none⟩:=by
 unfold sortWorld;rw[cell?_grow _ _ _ (by show b < (putRow _ _ _ _ _).heap.size;rw[size_putRow];exact hb),cell?_putRow_other _ _ oJ off _ _ (Or.inl gX)];rfl
theorem Em {α β:Type}[Inhabited β]{Wt:α->Value}{enc:β->Value}{w0 w:World}{u:Value}{ys:List α}{oJ off n:Nat}{d:Array β}{os:Array Obj}(h:fE Wt w0 u ys)(hb:Below w0.heap.size w0 w)(V8:w0.heap.size<=oJ):fE Wt (sortWorld enc w oJ off n d os) u ys:=by
 obtain⟨ao,cap,rfl,hc,h⟩:=h;refine⟨ao,cap,rfl,hc,?_⟩
 by_cases hy:ys=[]
 ·exact .inl hy
 ·rcases h with h|⟨b,o,rfl,aS,hx⟩
  ·exact .inl h
  ·have hs:=hb.size
   have iA:∀ (j:Nat) x,ys[j]? = some x->(sortWorld enc w oJ off n d os).cell? ⟨b,o+j,none⟩=some (Wt x):=fun j x hj=>by
    rw[kx _ _ _ _ _ _ _ _ _ (by omega) (by omega),hb.cell (p:=⟨b,o+j,none⟩) aS];exact hx j x hj
   obtain⟨y,r,hyr⟩:=List.exists_cons_of_ne_nil hy;exact .inr ⟨b,o,rfl,block_lt_of_cell (iA 0 y (by rw[hyr];rfl)),iA⟩
theorem Ar (u:Value)(ys:List Int)(x:Int)(b:Nat)(w:World)(hr:fE (Value.int .i64) w u ys)(hm:ys.length<=1000000)(hc:w.cell? ⟨b,0,none⟩=some u) :
  FnGives ae 234 #[.pointer (some ⟨b,0,none⟩)] #[.int .i64 x] (.bool (!decide (x∈ys))) w:=by
 show Calls ae 234 #[.int .i64 x,.pointer (some ⟨b,0,none⟩)] w _;have H:=Lib.hid hr;obtain⟨ao,cap,rfl⟩:=hr.form;clear hr;obtain⟨r,O0⟩:∃ r,decide (x∈ys)=r:=⟨_,rfl⟩
 have HR:=Lib.hid O0;rw[O0];clear O0
 go_enter Tryz.func234,Tryz.ntmps234
 go_wp2_with fail
 refine(NC _ ys x _ H.out hm).mono ?_;rintro e w1 ⟨rfl,rfl⟩;rw[HR.out]
 go_wp2_with fail
 go_ret
 exact⟨rfl,0,rfl⟩
theorem qu (u:Value)(ys:List Int)(x:Int)(b c:Nat)(w:World)(hr:fE (Value.int .i64) w u ys)(hm:ys.length<=1000000)(hc:w.cell? ⟨b,0,none⟩=some u)
  (hf:w.cell? ⟨c,0,none⟩=some (.func (.func 234) #[] #[.pointer (some ⟨b,0,none⟩)])) :
  FnGives ae 269 #[.pointer (some ⟨c,0,none⟩)] #[.int .i64 x] (.bool (!(!decide (x∈ys)))) w:=by
 show Calls ae 269 #[.int .i64 x,.pointer (some ⟨c,0,none⟩)] w _;have HG:=Lib.hid (show Calls ae 234 #[.int .i64 x,.pointer (some ⟨b,0,none⟩)] w _ from Ar u ys x b w hr hm hc);have eg:∀ args w,(callFunc 234 args).run ae w=.ok (.enter 234 args) w:=enters_of Tryz.func234 (by kernel_rfl) rfl;clear hr hc;obtain⟨r,O0⟩:∃ r,(!decide (x∈ys))=r:=⟨_,rfl⟩
 rw[O0] at HG ⊢;clear O0
 go_enter Tryz.func269,Tryz.ntmps269
 go_wp2_with fail
 refine HG.out.mono ?_;rintro e w1 ⟨rfl,n,rfl⟩
 go_wp2_with fail
 go_ret
 exact⟨rfl,n,rfl⟩
theorem CR (v u:Value)(xs ys:List Int)(b:Nat)(w:World)(h:fE (Value.int .i64) w v xs)(k:fE (Value.int .i64) w u ys)(hn:xs.length<=1000000)(hm:ys.length<=1000000)(hb:b < w.heap.size)(hc:w.cell? ⟨b,0,none⟩=some u) :
  Calls ae 233 #[v,.func (.func 234) #[] #[.pointer (some ⟨b,0,none⟩)]] w fun e w'=>∃ v',e=.returned v'/\w'.ownsRow w.heap.size 3 1 v' (sV (xs.filter fun x=>!decide (x∈ys))).length ((sV (xs.filter fun x=>!decide (x∈ys))).map (Value.int .i64))/\Below w.heap.size w w':=by
 obtain⟨zs,hz⟩:∃ zs,zs=xs.filter fun x=>!decide (x∈ys):=⟨_,rfl⟩
 have HZ:=Lib.hid hz;rw[<- hz];clear hz;have DT:=(Below.refl w.heap.size w).alloc (al _) (.cells #[.func (.func 234) #[] #[.pointer (some ⟨b,0,none⟩)]] 153);have H:=Lib.hid (h.below DT);have HB:=Lib.hid DT;have HC:=Lib.hid (yG w [.func (.func 234) #[] #[.pointer (some ⟨b,0,none⟩)]] 153 0 _ rfl);have eg:∀ args w,(callFunc 269 args).run ae w=.ok (.enter 269 args) w:=enters_of Tryz.func269 (by kernel_rfl) rfl;have EG:=Lib.hid eg;have K:=Lib.hid k;have HCB:=Lib.hid hc;clear h DT eg k hc
 go_enter Tryz.func233,Tryz.ntmps233
 go_wp2_with fail
 refine(Ii v xs _ H.out hn).mono ?_;rintro e w1 ⟨v1,rfl,o1,b1⟩;have aS:w.heap.size < (w.alloc (.cells #[.func (.func 234) #[] #[.pointer (some ⟨b,0,none⟩)]] 153)).heap.size:=by show w.heap.size < (w.heap.push _).size;simp
 have V6:=(b1.cell (p:=⟨w.heap.size,0,none⟩) aS).trans HC.out;have wg:=cd aS b1.size;have JW:Below w.heap.size w w1:=HB.out.trans (b1.mono (cG aS));have V5:=(JW.cell (p:=⟨b,0,none⟩) hb).trans HCB.out;have K1:=K.out.below JW;have HL:=Lib.hid aS
 have hp:PredAt ae 269 #[.pointer (some ⟨w.heap.size,0,none⟩)] (Value.int .i64) (fun x=>!(!decide (x∈ys))) w1:=
  fun W x dD=>qu u ys x b w.heap.size W (K1.below dD) hm ((dD.cell (p:=⟨b,0,none⟩) (cd hb JW.size)).trans V5) ((dD.cell (p:=⟨w.heap.size,0,none⟩) wg).trans V6)
 have Xi:∀ oJ,(w.alloc (.cells #[.func (.func 234) #[] #[.pointer (some ⟨b,0,none⟩)]] 153)).heap.size<=oJ->PredOver ae 269 #[.pointer (some ⟨w.heap.size,0,none⟩)] (Value.int .i64) (fun x=>!(!decide (x∈ys))) oJ 0 xs.length w1:=
  fun oJ V8 q os dk x _=>qu u ys x b w.heap.size _ (Em K.out JW (by omega)) hm (by rw[kx _ _ _ _ _ _ _ _ _ (by have:=JW.size;omega) (by omega)];exact V5) (by rw[kx _ _ _ _ _ _ _ _ _ wg (by omega)];exact V6)
 have HD:=Lib.hid (Oc (w.alloc (.cells #[.func (.func 234) #[] #[.pointer (some ⟨b,0,none⟩)]] 153)).heap.size v1 xs (fun x=>!(!decide (x∈ys))) 269 #[.pointer (some ⟨w.heap.size,0,none⟩)] EG.out w1 o1 hp Xi hn);have HF:=Lib.hid (show(xs.filter fun x=>!(!(!decide (x∈ys))))=zs by rw[HZ.out];simp);have HN:=Lib.hid (show zs.length<=1000000 by rw[HZ.out];exact bd (cx (fun x=>!decide (x∈ys)) xs) hn);have HBW:=Lib.hid JW;clear hp Xi V6 aS wg o1 V5 K1 JW
 go_wp2_with fail
 refine HD.out.mono ?_;rintro e w2 ⟨v2,rfl,o2,b2⟩;rw[HF.out] at o2;have R2:=Lib.hid (IM o2);clear o2
 go_wp2_with fail
 refine(xy v2 zs _ R2.out HN.out).mono ?_;rintro e w3 ⟨v3,rfl,o3,b3⟩
 go_wp2_with fail
 go_ret
 have hs:w.heap.size<=w2.heap.size:=by have h1:=HBW.out.size;have h2:=b2.size;omega
 exact⟨_,rfl,GK o3 hs,(HBW.out.trans (b2.mono (cG HL.out))).trans (b3.mono hs)⟩
theorem J2 (xs ys:List Int):sV (xs.filter fun x=>!decide (x∈ys))=kq xs ys:=by rw[Jh,kq];congr 1;simp
theorem CQ (v u:Value)(xs ys:List Int)(w:World)(h:fE (Value.int .i64) w v xs)(k:fE (Value.int .i64) w u ys)(hn:xs.length<=1000000)(hm:ys.length<=1000000) :
  Calls ae 189 #[v,u] w fun e w'=>∃ v',e=.returned v'/\w'.ownsRow w.heap.size 3 1 v' (kq xs ys).length ((kq xs ys).map (Value.int .i64))/\Below w.heap.size w w':=by
 have DT:=(Below.refl w.heap.size w).alloc (al _) (.cells #[u] 25);have aS:w.heap.size < (w.alloc (.cells #[u] 25)).heap.size:=by show w.heap.size < (w.heap.push _).size;simp
 have HK:=Lib.hid (CR v u xs ys w.heap.size (w.alloc (.cells #[u] 25)) (h.below DT) (k.below DT) hn hm aS (yG w [u] 25 0 _ rfl));rw[J2] at HK;have HB:=Lib.hid DT;have HL:=Lib.hid aS;obtain⟨ao,cap,rfl⟩:=k.form;clear h k DT aS
 go_enter Tryz.func189,Tryz.ntmps189
 go_wp2_with fail
 refine HK.out.mono ?_;rintro e w1 ⟨v1,rfl,o1,b1⟩
 go_wp2_with fail
 go_ret
 exact⟨_,rfl,GK o1 (cG HL.out),HB.out.trans (b1.mono (cG HL.out))⟩
end
section
open Go Cg Go.RowKit Go.Sort
theorem Bs {F:Nat->Prop}{w:World}{v:Value}{l:List Int}(h:RT F w v (.sl 1 (l.map eI))):fE (Value.int .i64) w v l:=by
 obtain⟨ao,cap,h1,h2,h3⟩:=h.len;rw[Lm] at h1 h2;refine⟨ao,cap,h1,⟨h2,h3⟩,?_⟩;rcases h.AH with h0|⟨g,o,Kq,h4,_,_,h7,h8⟩
 ·left;simpa using h0
 ·right;rw[h1] at h4;injection h4 with h4 _ _;refine⟨g,o,h4,h7,fun j x hj=>?_⟩;obtain⟨vs,hl,hc,hr⟩:=h8.get j (eI x) (by rw[bp,hj];rfl)
  cases hr with
  | cons a b=>
   cases b
   have:=hc 0 _ rfl;rw[Nat.mul_one,cO] at this;rw[this]
   cases a with
   | lit _=>rfl
def clZ (n:Int):Cl 1:=⟨[.int .i64 n],rfl,fun u hu=>by rw[aJ.1 hu];rfl⟩
theorem Df:∀ l:List Int,(l.map clZ).flatMap Subtype.val=l.map (Value.int .i64)
 | []=>rfl
 | x :: l=>by
  rw[bP,bK,Df l];rfl
theorem PE {E:Env}{w:World}{n0:Nat}{v:Value}{l:List Int}(hv:E.vl 0 0=v)(h:w.ownsRow n0 3 1 v l.length (l.map (Value.int .i64)))(hr:∀ g,v.ownBlock=some g->E.rl g=.rw 0):RR E w n0 0 ⟨3,1,0,l.map eI,none⟩:=by
 refine Ow.rr rfl ⟨l.map clZ,?_,⟨by rw[Lm,Lm],fun j vs ts h1 h2=>?_⟩,?_⟩
 ·show w.ownsRow n0 3 1 (E.vl 0 0) _ _;rw[hv,Df,Lm];exact h
 ·rw[bp] at h1 h2
  cases hl:l[j]? with
  | none=>rw[hl] at h1;cases h1
  | some x=>
   rw[hl] at h1 h2;injection h1 with h1;injection h2 with h2;subst h1 h2;exact .cons (.lit rfl) .nil
 ·show ∀ g,(E.vl 0 0).ownBlock=some g->_;rw[hv];exact hr
theorem K8 {P:Program}{f:FuncId}{xs ys zs:List Int}(he:KP P f)(hf:∀ v u w,fE (Value.int .i64) w v xs->fE (Value.int .i64) w u ys->Calls P f #[v,u] w fun e w'=>∃ v',e=.returned v'/\w'.ownsRow w.heap.size 3 1 v' zs.length (zs.map (Value.int .i64))/\Below w.heap.size w w'):Ct P f [.c (.t (.sl 1 (xs.map eI))),.c (.t (.sl 1 (ys.map eI)))] (.c (.row 0 0)) [⟨3,1,0,zs.map eI,none⟩] true:=by
 refine⟨he,Nb rfl,fun R hR=>?_,rfl,fun x hx=>(by cases hx),fun x hx=>?_,fun w vs E0 _ ha=>?_⟩
 ·obtain rfl:R=_:=aJ.1 hR;rfl
 ·obtain rfl:x=(0,0):=by simpa [AV.cB,AV.gu,Ce.cB] using hx
  exact⟨_,rfl,al _⟩
 cases ha with
 | cons h1 hr=>
  cases hr with
  | cons h2 hn=>
   cases hn
   refine(hf _ _ w (Bs (F:=E0.F) h1) (Bs (F:=E0.F) h2)).mono ?_;rintro e w' ⟨v',rfl,gJ,nF⟩;refine⟨v',rfl,nF,⟨fun b=>if b < w.heap.size then .dX else .rw 0,fun _=>0,fun _ _=>v'⟩,⟨rfl,nV gJ⟩,fun j R hj=>?_,fun b aS hc=>?_⟩
   ·cases j with
    | succ j=>simp at hj
    | zero=>
     obtain rfl:=aR hj;refine PE rfl gJ fun g hg=>?_;show(if g < w.heap.size then iD.dX else iD.rw 0)=.rw 0;rw[if_neg (Nat.not_lt.2 (gJ.lt g hg).1)]
   ·have hc:(if b < w.heap.size then iD.dX else iD.rw 0)=.bz:=hc;rw[if_pos aS] at hc
    cases hc
theorem Jp (xs ys:List Int)(hx:xs.length<=1000000)(hy:ys.length<=1000000):Ct ae 189 [.c (.t (.sl 1 (xs.map eI))),.c (.t (.sl 1 (ys.map eI)))] (.c (.row 0 0)) [⟨3,1,0,(kq xs ys).map eI,none⟩] true:=
 K8 (enters_of Tryz.func189 (by kernel_rfl) rfl) fun v u w h k=>CQ v u xs ys w h k hx hy
end
end Go.Proofs.YtbmdcnkidjlbbaaGreat
namespace Cg
section
open Go Go.RowKit
mutual
inductive TS:Tr->Tr->Prop
 | lit (v:Value):TS (.lit v) (.lit v)
 | nil (k k':Nat):TS (.sl k []) (.sl k' [])
 | sl (k:Nat) {xs ys:List (List Tr)}:SH xs ys->TS (.sl k xs) (.sl k ys)
inductive Pc:List Tr->List Tr->Prop
 | nil:Pc [] []
 | cons {t u:Tr} {ts us:List Tr}:TS t u->Pc ts us->Pc (t :: ts) (u :: us)
inductive SH:List (List Tr)->List (List Tr)->Prop
 | nil:SH [] []
 | cons {t u:List Tr} {ts us:List (List Tr)}:Pc t u->SH ts us->SH (t :: ts) (u :: us)
end
theorem SH.len:∀ {xs ys:List (List Tr)},SH xs ys->xs.length=ys.length
 | _,_,.nil=>rfl
 | _,_,.cons _ h=>by rw[aq,aq,SH.len h]
theorem RT.ts {F:Nat->Prop}{w:World}{v:Value}{t:Tr}(h:RT F w v t):∀ u,TS t u->RT F w v u:=by
 refine RT.rec (motive_1:=fun v t _=>∀ u,TS t u->RT F w v u) (motive_2:=fun vs ts _=>∀ us,Pc ts us->iR F w vs us) (motive_3:=fun k g o xs _=>∀ ys,SH xs ys->qP F w k g o ys) ?_ ?_ ?_ ?_ ?_ ?_ ?_ ?_ ?_ h
 ·intro g es clock xs h1 h2 h3 u hu
  cases hu
 ·intro u hu
  cases hu
 ·intro v hl u hu
  cases hu
  exact .lit hl
 ·intro k ao cap hc u hu
  cases hu with
  | nil _ k'=>exact .gi hc
  | sl _ he=>
   cases he
   exact .gi hc
 ·intro k g o n cap xs h1 h2 h3 h4 h5 ih u hu
  cases hu with
  | nil _ k'=>
   have:n=0:=h1;subst this;exact .gi fun h=>by cases h
  | sl _ he=>exact .iZ (h1.trans he.len) h2 h3 h4 (ih _ he)
 ·intro us hu
  cases hu
  exact .nil
 ·intro v t vs ts _ _ Fq Fp us hu
  cases hu with
  | cons a b=>exact .cons (Fq _ a) (Fp _ b)
 ·intro k g o ys hy
  cases hy
  exact .nil
 ·intro k g o vs ts xs hl hc _ _ Fq Fp ys hy
  cases hy with
  | cons a b=>exact .cons hl hc (Fq _ a) (Fp _ b)
theorem LB {E:Env}{w:World}:∀ {vs:List Value} {ts us:List Tr},Pc ts us->A2 (RC E w) vs (ts.map .t)->A2 (RC E w) vs (us.map .t)
 | [],_,_,.nil,h=>h
 | _ :: _,_,_,.nil,h=>nomatch h
 | _,_,_,.cons a b,.cons h1 h2=>.cons (RT.ts (show RT _ _ _ _ from h1) _ a) (LB b h2)
theorem Ct.ts {P:Program}{f:FuncId}{dH:List AV}{ts us:List Tr}{b:Bool}(h:Ct P f dH (.agg (ts.map .t)) [] b)(hu:Pc ts us):Ct P f dH (.agg (us.map .t)) [] b:=by
 refine⟨h.NZ,h.te,h.shut,h.plain,fun x hx=>?_,fun x hx=>?_,fun w vs E0 lJ ha=>(h.run w vs E0 lJ ha).mono ?_⟩
 ·exact absurd hx (by simp[AV.dJ,AV.gA])
 ·refine absurd hx ?_
  have:(AV.agg (us.map .t)).cB=[]:=by
   show(us.map Ce.t).flatMap Ce.cB=[];clear h hu hx
   induction us with
   | nil=>rfl
   | cons u us ih=>simp[Ce.cB]
  rw[this];exact List.not_mem_nil
 ·rintro e w' ⟨v,rfl,hb,E,hr,h1,h2⟩;refine⟨v,rfl,hb,E,?_,h1,h2⟩;obtain⟨IC,rfl,h3⟩:=(show R1 E w' v (.agg (ts.map .t)) from hr)
  exact(show R1 E w' _ (.agg (us.map .t)) from⟨IC,rfl,LB hu h3⟩)
theorem Ct.ts1 {P:Program}{f:FuncId}{dH:List AV}{t u:Tr}{b:Bool}(h:Ct P f dH (.c (.t t)) [] b)(hu:TS t u):Ct P f dH (.c (.t u)) [] b:=by
 refine⟨h.NZ,h.te,h.shut,h.plain,fun x hx=>?_,fun x hx=>?_,fun w vs E0 lJ ha=>(h.run w vs E0 lJ ha).mono ?_⟩
 ·exact absurd hx (by simp[AV.dJ,AV.gA])
 ·exact absurd hx (by simp[AV.cB,AV.gu,Ce.cB])
 ·rintro e w' ⟨v,rfl,hb,E,hr,h1,h2⟩;exact⟨v,rfl,hb,E,RT.ts (show RT E.F w' v t from hr) u hu,h1,h2⟩
end
end Cg
namespace Go.Proofs.YtbmdcnkidjlbbaaGreat
section
open Go Cg Go.RowKit Go.Sort
def gx (l:List aE):List Int:=(l.filter fun o=>o.cg==0).map aE.id
theorem Je (l:List aE)(k:Nat)(hk:k < l.length):gx (l.take (k+1))=gx (l.take k)++(if l[k].cg==0 then [l[k].id] else []):=by
 unfold gx;rw[bc hk,List.filter_append,aW];congr 1
 by_cases h:(l[k].cg==0)=true
 ·rw[if_pos h];simp[h]
 ·rw[if_neg h];simp[h]
theorem nq (l:List aE):(gx l).length<=l.length:=by
 unfold gx;rw[Lm];exact cx _ _
theorem vv (s:aA)(h:s.aa.length*128<=ba):Ct ae 188 [.agg (s.enc.map .t)] (.c (.t (.sl 1 ((gx s.aa).map eI)))) [] false:=by
 refine cT Tryz.func188 rfl (by kernel_rfl) rfl fun w0 O _=>aBW [8] ?_;refine aBY (fun k:Nat=>⟨[(3,.c (.row 9000 0)),(7,.c (.t (.sl 19 (s.aa.map aE.enc)))),(8,aBZ (s.aa.map aE.enc).length),(9,aBZ k)],[],[(9000,⟨3,1,0,(gx (s.aa.take k)).map eI,none⟩)],10000⟩) (fun k=>k<=s.aa.length) (fun k=>s.aa.length - k) 0 ?_ (aD _) ?_
 ·refine bh [] rfl rfl ?_ ?_ ?_
  all_goals repeat' first|refine Ai ?_ ?_|exact rfl|exact⟨⟩|exact Ei _ rfl
 rintro k hk;refine aBW [6,7,8] ?_;refine cS (fun hc=>?_) (fun hc=>?_)
 ·have aS:=cN hc;have fR:=Je s.aa k aS;refine Ei k (Ei _ (Ai rfl (Ai (aQ _ _ k aS) ?_)));refine cS (fun hz=>?_) (fun hz=>?_)
  ·have hz:(s.aa[k].cg==0)=true:=hz;rw[if_pos hz] at fR;have mq:=nq (s.aa.take k);rw[aB] at mq;refine aBW [] ?_;refine Ai (.inl rfl) (Ai ?_ (Ai ?_ ?_))
   ·rw[Lm];show((gx (s.aa.take k)).length+1)*8<=_;unfold ba at h;omega
   ·rw[Lm];show(gx (s.aa.take k)).length+1 < _;unfold ba at h;omega
   refine aBW [] ?_;refine Ei (k+1) (Ai (show k+1<=_ by omega) (Ai (show s.aa.length - (k+1) < s.aa.length - k by omega) ?_));refine bh [(9000,9000)] rfl rfl ?_ ?_ ?_
   all_goals repeat' first|refine Ai ?_ ?_|exact rfl|exact⟨⟩|exact Ei _ rfl|refine aj ?_|refine bS ?_
   exact ed k aS 128 (by decide) h;rw[fR,aW];rfl
  ·have hz:(s.aa[k].cg==0)=false:=hz;rw[hz,if_neg (by decide),aZ] at fR;refine aBW [] ?_;refine Ei (k+1) (Ai (show k+1<=_ by omega) (Ai (show s.aa.length - (k+1) < s.aa.length - k by omega) ?_));refine bh [(9000,9000)] rfl rfl ?_ ?_ ?_
   all_goals repeat' first|refine Ai ?_ ?_|exact rfl|exact⟨⟩|exact Ei _ rfl|refine aj ?_|refine bS ?_
   exact ed k aS 128 (by decide) h;rw[fR]
 ·have hke:=cP hc hk;subst hke;rw[bm];refine aBW [] ?_;refine Ei [] ?_
  repeat' first|refine Ai ?_ ?_|exact rfl|exact⟨⟩|exact Ei _ rfl
end
section
open Go Cg
def xn (w:Int):Bool:=w==2||(w==3||(w==6||w==7))
def kD (w:Int):Int:=if w=8 then 3 else if w=10 then 14 else if w=11 then 15 else if w=12 then 4 else if w=13 then 5 else if w=9 then 11 else 0
def qQ:aG:=⟨⟨#[]⟩,⟨0,0,0,0,0,0,0⟩,0,⟨0,0,[]⟩,0,0,0,[],0⟩
def gG (all:List aG)(k:Nat):aG:=(all[k]?).getD qQ
theorem va {all:List aG}{k:Nat}(h:k < all.length):gG all k=all[k]:=by
 unfold gG;rw[cD h];rfl
theorem D9 {all:List aG}{k:Nat}(h:all.length<=k):gG all k=qQ:=by
 unfold gG;rw[dy h];rfl
theorem xE:qQ.ok:=⟨trivial,aD _,aD _,fun _ h=>by cases h⟩
theorem yZ {all:List aG}(h:∀ y∈all,aG.ok y)(k:Nat):(gG all k).ok:=by
 by_cases hk:k < all.length
 ·rw[va hk];exact h _ (aI hk)
 ·rw[D9 (by omega)];exact xE
def jK (l:List aE)(all:List aG)(id you src:Int)(f:cC):Bool:=match l.findIdx? fun o=>o.id==id with
 | some i=>(match l[i]? with
  | some o=>eW o (gG all i) you src f
  | none=>false)
 | none=>false
theorem CS {l:List aE}{all:List aG}{id you src:Int}{f:cC}(k:Nat)(hk:k < l.length)(h:(l[k].id==id)=true)(eZ:∀ j (hj:j < l.length),j < k->(l[j].id==id)=false):jK l all id you src f=eW l[k] (gG all k) you src f:=by
 unfold jK;rw[List.findIdx?_eq_some_iff_getElem.2 ⟨hk,h,fun j hj=>by rw[eZ j (by omega) hj];exact Bool.false_ne_true⟩]
 show(match l[k]? with
  | some o=>eW o (gG all k) you src f
  | none=>false)=_
 rw[cD hk]
theorem J3 {l:List aE}{all:List aG}{id you src:Int}{f:cC}(eZ:∀ j (hj:j < l.length),(l[j].id==id)=false):jK l all id you src f=false:=by
 unfold jK
 rw[List.findIdx?_eq_none_iff.2 fun x hx=>by
  obtain⟨j,hj,rfl⟩:=bB.1 hx;exact eZ j hj]
def mM (c:fx):Bool:=c.e.kind==2&&(decide (jS (fun o:aE=>o.id==c.e.aO&&o.cg==0) c.before.aa>=0)&&!decide (jS (fun o:aE=>o.id==c.e.aO) c.after.aa>=0))
def oB (k kind id:Int)(s:aA)(all:List aG)(w:aF):List Int:=if k==kind&&jK s.aa all id w.you w.id w.ai.aM.filter then [id] else []
def fC (c:fx)(w:aF):List Int:=
 if w.ai.aM.when=1 then(if c.e.kind != 2&&c.e.kind != 10 then [] else(kq (gx c.after.aa) (gx c.before.aa)).filter fun id=>!!jK c.after.aa c.dS id w.you w.id w.ai.aM.filter)
 else if w.ai.aM.when=2 then(if mM c then oB c.e.kind 2 c.e.aO c.before c.de w else [])
 else if w.ai.aM.when=3 then(if mM c&&c.e.nQ==3 then oB c.e.kind 2 c.e.aO c.before c.de w else [])
 else if w.ai.aM.when=4 then oB c.e.kind 12 c.e.aO c.after c.dS w
 else if w.ai.aM.when=5 then oB c.e.kind 13 c.e.aO c.after c.dS w
 else if w.ai.aM.when=14 then oB c.e.kind 8 c.e.aO c.after c.dS w
 else if w.ai.aM.when=6 then oB c.e.kind 1 c.e.fp c.before c.de w
 else if w.ai.aM.when=7 then(if c.e.aO != 0 then oB c.e.kind 1 c.e.aO c.before c.de w else [])
 else []
def R8 (e:bV)(b:Bool)(id:Int):bV:=if b then { e with aO:=id } else e
def aaL (c:fx)(w:aF):List bW:=
 if kD w.ai.aM.when≠0 then(if (c.e.kind==kD w.ai.aM.when&&kM c.after.az c.e.bC w.you w.ai.aM.who)&&!(w.ai.aM.when==9&&!jK c.after.aa c.dS c.e.aO w.you w.id w.ai.aM.filter) then [⟨w.id,w.you,w.ai,c.e⟩] else [])
 else(fC c w).map fun id=>⟨w.id,w.you,w.ai,R8 c.e (w.ai.aM.when==1||w.ai.aM.when==6) id⟩
def u4 (id you:Int)(e:Bool):Nat->List cz->List aF
 | _,[]=>[]
 | k,a :: r=>(if a.kind==4&&xn a.aM.when==e then [⟨id,k,you,a,e⟩] else [])++u4 id you e (k+1) r
def yU (all:List aG)(e:Bool)(i:Nat)(o:aE):List aF:=if o.cg==0 then u4 o.id (gG all i).aaB e 0 (gG all i).aT else []
def gS (all:List aG)(e:Bool):Nat->List aE->List aF
 | _,[]=>[]
 | i,o :: r=>yU all e i o++gS all e (i+1) r
def AF (a b:Int):Int:=if a < b then -1 else if a > b then 1 else 0
def sD (a b:aF):Int:=if AF a.id b.id≠0 then AF a.id b.id else AF a.index b.index
end
end Go.Proofs.YtbmdcnkidjlbbaaGreat
namespace Cg
section

section
variable {α:Type}[Inhabited α]
def xL (l:List α)(i j:Nat):List α:=(l.set i l[j]!).set j l[i]!
theorem aaX (l:List α)(i j:Nat):(xL l i j).length=l.length:=by simp[xL]
theorem RG (A B:List α)(x:α):(A++x :: B)[A.length]! = x:=by
 rw[getElem!_pos (A++x :: B) A.length (by simp)];simp
theorem get_at {A B:List α}{x:α}{i:Nat}(h:i=A.length):(A++x :: B)[i]! = x:=by rw[h];exact RG A B x
omit [Inhabited α] in
theorem Lr {A B:List α}{x y:α}{i:Nat}(h:i=A.length):(A++x :: B).set i y=A++y :: B:=by subst h;simp
theorem aeO {A M B:List α}{x y:α}{i j:Nat}(hi:i=A.length)(hj:j=A.length+1+M.length):xL (A++x :: (M++y :: B)) i j=A++y :: (M++x :: B):=by
 unfold xL;have e:∀ z:α,A++z :: (M++y :: B)=(A++z :: M)++y :: B:=fun z=>by simp
 have Rx:∀ z:α,j=(A++z :: M).length:=fun z=>by simp;omega
 rw[get_at hi,e x,get_at (Rx x),<- e x,Lr hi,e y,Lr (Rx y)];simp
theorem Lf (l:List α){i j:Nat}(h:i≠j):xL l i j=xL l j i:=by
 unfold xL;rw[List.set_comm _ _ h]
theorem Bj {A M B:List α}{x y:α}{i j:Nat}(hi:i=A.length)(hj:j=A.length+1+M.length):xL (A++x :: (M++y :: B)) j i=A++y :: (M++x :: B):=by
 rw[Lf _ (by omega),aeO hi hj]
def qn (lt:α->α->Bool)(a:Nat):Nat->List α->List α
 | 0,l=>l
 | j+1,l=>if a < j+1 then(if lt l[j+1]! l[j]! = true then qn lt a j (xL l (j+1) j) else l) else l
def mo (lt:α->α->Bool)(a:Nat):Nat->Nat->List α->List α
 | 0,_,l=>l
 | n+1,i,l=>mo lt a n (i+1) (qn lt a i l)
def swR:Nat->Nat->Nat->List α->List α
 | 0,_,_,l=>l
 | n+1,a,b,l=>swR n (a+1) (b+1) (xL l a b)
def xa (m:Nat):Nat->Nat->Nat->List α->List α
 | 0,i,_,l=>swR i (m - i) m l
 | f+1,i,j,l=>if i=j then swR i (m - i) m l else if j < i then xa m f (i - j) j (swR j (m - i) m l) else xa m f i (j - i) (swR i (m - i) (m+j - i) l)
def mD (p:Nat->Bool):Nat->Nat->Nat->Nat
 | 0,i,_=>i
 | f+1,i,j=>if i < j then(if p ((i+j) / 2)=true then mD p f ((i+j) / 2+1) j else mD p f i ((i+j) / 2)) else i
def up:Nat->Nat->List α->List α
 | 0,_,l=>l
 | n+1,k,l=>up n (k+1) (xL l k (k+1))
def dn:Nat->Nat->List α->List α
 | 0,_,l=>l
 | n+1,k,l=>dn n (k - 1) (xL l k (k - 1))
def prt (lt:α->α->Bool)(a m b:Nat)(l:List α):Nat:=
 if m > (a+b) / 2 then mD (fun c=>!lt l[(a+b) / 2+m - 1 - c]! l[c]!) (b - a) ((a+b) / 2+m - b) ((a+b) / 2)
 else mD (fun c=>!lt l[(a+b) / 2+m - 1 - c]! l[c]!) (b - a) a m
def fK (lt:α->α->Bool):Nat->Nat->Nat->Nat->List α->List α
 | 0,_,_,_,l=>l
 | f+1,a,m,b,l=>
  if m - a=1 then up (mD (fun h=>lt l[h]! l[a]!) (b - a) m b - 1 - a) a l
  else if b - m=1 then dn (m - mD (fun h=>!lt l[m]! l[h]!) (b - a) a m) m l
  else
   (fun l2=>if (a+b) / 2 < (a+b) / 2+m - prt lt a m b l/\(a+b) / 2+m - prt lt a m b l < b then fK lt f ((a+b) / 2) ((a+b) / 2+m - prt lt a m b l) b l2 else l2)
   ((fun l1=>if a < prt lt a m b l/\prt lt a m b l < (a+b) / 2 then fK lt f a (prt lt a m b l) ((a+b) / 2) l1 else l1)
   (if prt lt a m b l < m/\m < (a+b) / 2+m - prt lt a m b l then xa m (b - a) (m - prt lt a m b l) ((a+b) / 2+m - prt lt a m b l - m) l else l))
def pn (lt:α->α->Bool)(s n:Nat):Nat->Nat->List α->List α
 | 0,_,l=>l
 | f+1,a,l=>if a+s<=n then pn lt s n f (a+s) (mo lt a (s - 1) (a+1) l) else mo lt a (n - (a+1)) (a+1) l
def oI (lt:α->α->Bool)(s n:Nat):Nat->Nat->List α->List α
 | 0,_,l=>l
 | f+1,a,l=>if a+2*s<=n then oI lt s n f (a+2*s) (fK lt (2*s) a (a+s) (a+2*s) l) else if a+s < n then fK lt (n - a) a (a+s) n l else l
def qD (lt:α->α->Bool)(n:Nat):Nat->Nat->List α->List α
 | 0,_,l=>l
 | f+1,s,l=>if s < n then qD lt n f (2*s) (oI lt s n (n+1) 0 l) else l
def iT (lt:α->α->Bool)(l:List α):List α:=qD lt l.length (l.length+1) 20 (pn lt 20 l.length (l.length+1) 0 l)
theorem Cv (lt:α->α->Bool)(a:Nat):∀ (j:Nat) (l:List α),(qn lt a j l).length=l.length
 | 0,_=>rfl
 | j+1,l=>by
  unfold qn;split
  ·split
   ·rw[Cv lt a j,aaX]
   ·rfl
  ·rfl
theorem nA (lt:α->α->Bool)(a:Nat):∀ (n i:Nat) (l:List α),(mo lt a n i l).length=l.length
 | 0,_,_=>rfl
 | n+1,i,l=>by unfold mo;rw[nA lt a n,Cv]
theorem aaZ:∀ (n a b:Nat) (l:List α),(swR n a b l).length=l.length
 | 0,_,_,_=>rfl
 | n+1,a,b,l=>by unfold swR;rw[aaZ n,aaX]
theorem uy (m:Nat):∀ (f i j:Nat) (l:List α),(xa m f i j l).length=l.length
 | 0,i,j,l=>aaZ ..
 | f+1,i,j,l=>by
  unfold xa;split
  ·exact aaZ ..
  ·split
   ·rw[uy m f,aaZ]
   ·rw[uy m f,aaZ]
theorem K4:∀ (n k:Nat) (l:List α),(up n k l).length=l.length
 | 0,_,_=>rfl
 | n+1,k,l=>by unfold up;rw[K4 n,aaX]
theorem Oa:∀ (n k:Nat) (l:List α),(dn n k l).length=l.length
 | 0,_,_=>rfl
 | n+1,k,l=>by unfold dn;rw[Oa n,aaX]
theorem lp (lt:α->α->Bool):∀ (f a m b:Nat) (l:List α),(fK lt f a m b l).length=l.length
 | 0,_,_,_,_=>rfl
 | f+1,a,m,b,l=>by
  unfold fK;split
  ·exact K4 ..
  split
  ·exact Oa ..
  have h1:∀ l:List α,(if prt lt a m b l < m/\m < (a+b) / 2+m - prt lt a m b l then xa m (b - a) (m - prt lt a m b l) ((a+b) / 2+m - prt lt a m b l - m) l else l).length=l.length:=fun l=>by
   split
   ·exact uy ..
   ·rfl
  have h2:∀ (q:Nat) (x:List α),(if a < q/\q < (a+b) / 2 then fK lt f a q ((a+b) / 2) x else x).length=x.length:=fun q x=>by
   split
   ·exact lp lt f ..
   ·rfl
  have h3:∀ (q:Nat) (x:List α),(if (a+b) / 2 < (a+b) / 2+m - q/\(a+b) / 2+m - q < b then fK lt f ((a+b) / 2) ((a+b) / 2+m - q) b x else x).length=x.length:=fun q x=>by
   split
   ·exact lp lt f ..
   ·rfl
  exact(h3 _ _).trans ((h2 _ _).trans (h1 l))
theorem Du (lt:α->α->Bool)(s n:Nat):∀ (f a:Nat) (l:List α),(pn lt s n f a l).length=l.length
 | 0,_,_=>rfl
 | f+1,a,l=>by
  unfold pn;split
  ·rw[Du lt s n f,nA]
  ·exact nA ..
theorem wU (lt:α->α->Bool)(s n:Nat):∀ (f a:Nat) (l:List α),(oI lt s n f a l).length=l.length
 | 0,_,_=>rfl
 | f+1,a,l=>by
  unfold oI;split
  ·rw[wU lt s n f,lp]
  ·split
   ·exact lp ..
   ·rfl
theorem Dq (lt:α->α->Bool)(n:Nat):∀ (f s:Nat) (l:List α),(qD lt n f s l).length=l.length
 | 0,_,_=>rfl
 | f+1,s,l=>by
  unfold qD;split
  ·rw[Dq lt n f,wU]
  ·rfl
theorem Ll (lt:α->α->Bool)(l:List α):(iT lt l).length=l.length:=by unfold iT;rw[Dq,Du]
theorem uu:∀ {n a b:Nat} {A X M Y B:List α},a=A.length->X.length=n->Y.length=n->b=a+n+M.length->swR n a b (A++(X++(M++(Y++B))))=A++(Y++(M++(X++B)))
 | 0,a,b,A,X,M,Y,B,ha,hx,hy,hb=>by
  rw[List.length_eq_zero_iff.1 hx,List.length_eq_zero_iff.1 hy];rfl
 | n+1,a,b,A,x :: X,M,y :: Y,B,ha,hx,hy,hb=>by
  simp only[aq] at hx hy;unfold swR;have e:A++(x :: X++(M++(y :: Y++B)))=A++x :: ((X++M)++y :: (Y++B)):=by simp
  rw[e,aeO ha (by rw[au];omega)];have e2:A++y :: ((X++M)++x :: (Y++B))=(A++[y])++(X++((M++[x])++(Y++B))):=by simp
  rw[e2,uu (by simp;omega) (by omega) (by omega) (by simp;omega)];simp
theorem zk:∀ {m f i j:Nat} {A U V B:List α},m=A.length+i->U.length=i->V.length=j->0 < i->0 < j->i+j<=f->xa m f i j (A++(U++(V++B)))=A++(V++(U++B))
 | m,0,i,j,A,U,V,B,hm,hu,hv,hi,hj,hf=>absurd hf (by omega)
 | m,f+1,i,j,A,U,V,B,hm,hu,hv,hi,hj,hf=>by
  unfold xa;split
  ·rename_i e;have:=uu (n:=i) (a:=m - i) (b:=m) (A:=A) (X:=U) (M:=[]) (Y:=V) (B:=B) (by omega) hu (by omega) (by simp;omega);simpa using this
  ·split
   ·rename_i h1 h2;have hs:U=U.take j++U.drop j:=(List.take_append_drop ..).symm;have h3:(U.take j).length=j:=by rw[aB];omega
    have h4:(U.drop j).length=i - j:=by rw[aL];omega
    generalize U.take j=U1 at hs h3;generalize U.drop j=U2 at hs h4;subst hs;have e:A++(U1++U2++(V++B))=A++(U1++(U2++(V++B))):=by simp
    rw[e,uu (by omega) h3 hv (by omega)];have e2:A++(V++(U2++(U1++B)))=(A++V)++(U2++(U1++B)):=by simp
    rw[e2,zk (by simp;omega) h4 h3 (by omega) hj (by omega)];simp
   ·rename_i h1 h2;have hs:V=V.take (j - i)++V.drop (j - i):=(List.take_append_drop ..).symm;have h3:(V.take (j - i)).length=j - i:=by rw[aB];omega
    have h4:(V.drop (j - i)).length=i:=by rw[aL];omega
    generalize V.take (j - i)=V1 at hs h3;generalize V.drop (j - i)=V2 at hs h4;subst hs;have e:A++(U++(V1++V2++B))=A++(U++(V1++(V2++B))):=by simp
    rw[e,uu (by omega) hu h4 (by omega)];rw[zk hm h4 h3 hi (by omega) (by omega)];simp
theorem K3:∀ {n k:Nat} {A Y B:List α} {x:α},k=A.length->Y.length=n->up n k (A++x :: (Y++B))=A++(Y++x :: B)
 | 0,k,A,Y,B,x,ha,hy=>by rw[List.length_eq_zero_iff.1 hy];rfl
 | n+1,k,A,y :: Y,B,x,ha,hy=>by
  unfold up;have:=aeO (A:=A) (M:=[]) (B:=Y++B) (x:=x) (y:=y) (i:=k) (j:=k+1) ha (by simp;omega);simp only[bF,List.cons_append] at this ⊢;rw[this];have e:A++y :: x :: (Y++B)=(A++[y])++x :: (Y++B):=by simp
  rw[e,K3 (by simp;omega) (by simpa using hy)];simp
theorem N9:∀ {n k:Nat} {A Y B:List α} {x:α},k=A.length+n->Y.length=n->dn n k (A++(Y++x :: B))=A++x :: (Y++B)
 | 0,k,A,Y,B,x,ha,hy=>by rw[List.length_eq_zero_iff.1 hy];rfl
 | n+1,k,A,Y,B,x,ha,hy=>by
  unfold dn;obtain⟨Z,y,rfl⟩:∃ Z y,Y=Z++[y]:=⟨Y.dropLast,Y.getLast (by intro h;simp[h] at hy),(List.dropLast_concat_getLast _).symm⟩
  have hz:Z.length=n:=by simpa using hy
  have:=Bj (A:=A++Z) (M:=[]) (B:=B) (x:=y) (y:=x) (i:=k - 1) (j:=k) (by simp;omega) (by simp;omega);simp only[bF,cH] at this;have e:A++(Z++[y]++x :: B)=A++(Z++y :: x :: B):=by simp
  rw[e,this,N9 (by omega) hz];simp
theorem sF (p:Nat->Bool):∀ (f i j:Nat),i<=j->j - i<=f->i<=mD p f i j/\mD p f i j<=j/\(mD p f i j=i\/p (mD p f i j - 1)=true)/\(mD p f i j=j\/p (mD p f i j)=false)
 | 0,i,j,h1,h2=>by
  have:i=j:=by omega
  subst this;exact⟨al i,al i,.inl rfl,.inl rfl⟩
 | f+1,i,j,h1,h2=>by
  unfold mD;split
  ·rename_i h;split
   ·rename_i hp;obtain⟨q1,q2,q3,q4⟩:=sF p f ((i+j) / 2+1) j (by omega) (by omega);refine⟨by omega,q2,?_,q4⟩;rcases q3 with q3|q3
    ·right;rw[q3];simpa using hp
    ·exact .inr q3
   ·rename_i hp;obtain⟨q1,q2,q3,q4⟩:=sF p f i ((i+j) / 2) (by omega) (by omega);refine⟨q1,by omega,q3,?_⟩;rcases q4 with q4|q4
    ·right;rw[q4];simpa using hp
    ·exact .inr q4
  ·have:i=j:=by omega
   subst this;exact⟨al i,al i,.inl rfl,.inl rfl⟩
end
section
variable {α:Type}[Inhabited α]
abbrev yQ (le:α->α->Prop)(l:List α):Prop:=l.Pairwise le
omit [Inhabited α] in
theorem lq {le:α->α->Prop}{X Y:List α}(hX:yQ le X)(hY:yQ le Y)(h:∀ x∈X,∀ y∈Y,le x y):yQ le (X++Y):=List.pairwise_append.2 ⟨hX,hY,h⟩
theorem pN {le:α->α->Prop}(rf:∀ x,le x x){X:List α}{i:Nat}(hX:yQ le X)(hi:i+1=X.length):∀ x∈X,le x X[i]!:=fun x hx=>by
 obtain⟨j,hj,rfl⟩:=bB.1 hx;rw[getElem!_pos X i (by omega)];rcases Nat.lt_or_ge j i with h|h
 ·exact cu.1 hX j i hj (by omega) h
 ·have:j=i:=by omega
  subst this;exact rf _
theorem nR {le:α->α->Prop}(rf:∀ x,le x x){X:List α}(hX:yQ le X):∀ x∈X,le X[0]! x:=fun x hx=>by
 obtain⟨j,hj,rfl⟩:=bB.1 hx;rw[getElem!_pos X 0 (by omega)];rcases Nat.eq_zero_or_pos j with h|h
 ·subst h;exact rf _
 ·exact cu.1 hX 0 j (by omega) hj h
theorem nG {A X B:List α}{i:Nat}(h1:A.length<=i)(h2:i < A.length+X.length):(A++(X++B))[i]! = X[i - A.length]!:=by
 rw[getElem!_pos (A++(X++B)) i (by simp;omega),getElem!_pos X (i - A.length) (by omega),List.getElem_append_right h1,List.getElem_append_left (by omega)]
theorem pH {lt:α->α->Bool}{le:α->α->Prop}(tr:∀ x y z,le x y->le y z->le x z)(to:∀ x y,le x y\/le y x):∀ (f a m b:Nat) {A L R B:List α},a=A.length->m=a+L.length->b=m+R.length->0 < L.length->0 < R.length->b - a<=f->
  yQ le L->yQ le R->(∀ x∈L,∀ y∈R,(lt y x=true↔¬ le x y))->∃ M,fK lt f a m b (A++(L++(R++B)))=A++(M++B)/\M.Perm (L++R)/\yQ le M
 | 0,a,m,b,A,L,R,B,ha,hm,hb,hL,hR,hf,_,_,_=>absurd hf (by omega)
 | f+1,a,m,b,A,L,R,B,ha,hm,hb,hL,hR,hf,sL,sR,hc=>by
  have rf:∀ x,le x x:=fun x=>(to x x).elim id id;unfold fK;split
  ·rename_i h1;obtain⟨x,rfl⟩:=List.length_eq_one_iff.1 (show L.length=1 by omega);have ga:(A++([x]++(R++B)))[a]! = x:=get_at ha;obtain⟨q1,q2,q3,q4⟩:=sF (fun h=>lt (A++([x]++(R++B)))[h]! (A++([x]++(R++B)))[a]!) (b - a) m b (by omega) (by omega);generalize mD (fun h=>lt (A++([x]++(R++B)))[h]! (A++([x]++(R++B)))[a]!) (b - a) m b=i at q1 q2 q3 q4 ⊢;simp only[ga] at q3 q4;have hs:R=R.take (i - m)++R.drop (i - m):=(List.take_append_drop ..).symm;have h3:(R.take (i - m)).length=i - m:=by rw[aB];omega
   have h4:(R.drop (i - m)).length=b - i:=by rw[aL];omega
   generalize R.take (i - m)=R1 at hs h3;generalize R.drop (i - m)=R2 at hs h4;subst hs;have e:A++([x]++(R1++R2++B))=A++x :: (R1++(R2++B)):=by simp
   simp only[List.length_singleton] at hm;rw[e,K3 ha (by omega)];obtain⟨W4,W3,_⟩:=List.pairwise_append.1 sR;refine⟨R1++x :: R2,by simp,?_,?_⟩
   ·exact List.perm_middle (a:=x) (l₁:=R1) (l₂:=R2)
   ·have OX:∀ y∈R1,le y x:=fun y hy=>by
     have hp:0 < R1.length:=List.length_pos_of_mem hy;rcases q3 with q3|q3
     ·omega
     ·have e2:A++([x]++(R1++R2++B))=(A++[x])++(R1++(R2++B)):=by simp
      rw[e2,nG (by simp;omega) (by simp;omega)] at q3;have hl:=pN rf (i:=i - 1 - (A++[x]).length) W4 (by simp;omega) y hy
      have uH:R1[i - 1 - (A++[x]).length]!∈R1++R2:=by
       rw[getElem!_pos R1 _ (by simp;omega)];exact bH _ (aI _)
      have:=(hc x (aJ.2 rfl) _ uH).1 q3;rcases to x (R1[i - 1 - (A++[x]).length]!) with h|h
      ·exact absurd h this
      ·exact tr _ _ _ hl h
    have KJ:∀ y∈R2,le x y:=fun y hy=>by
     have hp:0 < R2.length:=List.length_pos_of_mem hy;rcases q4 with q4|q4
     ·omega
     ·have e2:A++([x]++(R1++R2++B))=(A++([x]++R1))++(R2++B):=by simp
      rw[e2,nG (by simp;omega) (by simp;omega)] at q4;have hz:i - (A++([x]++R1)).length=0:=by simp;omega
      rw[hz] at q4
      have uH:R2[0]!∈R1++R2:=by
       rw[getElem!_pos R2 _ hp];exact bJ _ (aI _)
      have h5:le x R2[0]!:=by
       have:=mt (hc x (aJ.2 rfl) _ uH).2 (by rw[q4];simp);exact Classical.not_not.1 this
      exact tr _ _ _ h5 (nR rf W3 y hy)
    refine lq W4 (List.pairwise_cons.2 ⟨KJ,W3⟩) fun y hy z hz=>?_;rcases List.mem_cons.1 hz with rfl|hz
    ·exact OX y hy
    ·exact tr _ _ _ (OX y hy) (KJ z hz)
  split
  ·rename_i h0 h1;obtain⟨x,rfl⟩:=List.length_eq_one_iff.1 (show R.length=1 by omega)
   have ga:(A++(L++([x]++B)))[m]! = x:=by
    have e:A++(L++([x]++B))=(A++L)++x :: B:=by simp
    rw[e];exact get_at (by simp;omega)
   obtain⟨q1,q2,q3,q4⟩:=sF (fun h=>!lt (A++(L++([x]++B)))[m]! (A++(L++([x]++B)))[h]!) (b - a) a m (by omega) (by omega);generalize mD (fun h=>!lt (A++(L++([x]++B)))[m]! (A++(L++([x]++B)))[h]!) (b - a) a m=i at q1 q2 q3 q4 ⊢;simp only[ga] at q3 q4;have hs:L=L.take (i - a)++L.drop (i - a):=(List.take_append_drop ..).symm;have h3:(L.take (i - a)).length=i - a:=by rw[aB];omega
   have h4:(L.drop (i - a)).length=m - i:=by rw[aL];omega
   generalize L.take (i - a)=L1 at hs h3;generalize L.drop (i - a)=L2 at hs h4;subst hs;have e:A++(L1++L2++([x]++B))=(A++L1)++(L2++x :: B):=by simp
   rw[e,N9 (by simp;omega) h4];obtain⟨W7,W6,hLL⟩:=List.pairwise_append.1 sL;refine⟨L1++x :: L2,by simp,?_,?_⟩
   ·have:=List.perm_middle (a:=x) (l₁:=L1) (l₂:=L2);refine this.trans ?_;have h:=(List.perm_append_comm (l₁:=[x]) (l₂:=L1++L2))
    simpa using h
   ·have OX:∀ y∈L1,le y x:=fun y hy=>by
     have hp:0 < L1.length:=List.length_pos_of_mem hy;rcases q3 with q3|q3
     ·omega
     ·have e2:A++(L1++L2++([x]++B))=A++(L1++(L2++([x]++B))):=by simp
      rw[e2,nG (by omega) (by omega)] at q3;have hl:=pN rf (i:=i - 1 - A.length) W7 (by omega) y hy
      have uH:L1[i - 1 - A.length]!∈L1++L2:=by
       rw[getElem!_pos L1 _ (by omega)];exact bH _ (aI _)
      have q3:lt x L1[i - 1 - A.length]! = false:=by simpa using q3
      have:=mt (hc _ uH x (aJ.2 rfl)).2 (by rw[q3];simp);exact tr _ _ _ hl (Classical.not_not.1 this)
    have KJ:∀ y∈L2,le x y:=fun y hy=>by
     have hp:0 < L2.length:=List.length_pos_of_mem hy;rcases q4 with q4|q4
     ·omega
     ·have e2:A++(L1++L2++([x]++B))=(A++L1)++(L2++([x]++B)):=by simp
      rw[e2,nG (by simp;omega) (by simp;omega)] at q4;have hz:i - (A++L1).length=0:=by simp;omega
      rw[hz] at q4
      have uH:L2[0]!∈L1++L2:=by
       rw[getElem!_pos L2 _ hp];exact bJ _ (aI _)
      have q4:lt x L2[0]! = true:=by simpa using q4
      have h5:=(hc _ uH x (aJ.2 rfl)).1 q4;rcases to x L2[0]! with h|h
      ·exact tr _ _ _ h (nR rf W6 y hy)
      ·exact absurd h h5
    refine lq W7 (List.pairwise_cons.2 ⟨KJ,W6⟩) fun y hy z hz=>?_;rcases List.mem_cons.1 hz with rfl|hz
    ·exact OX y hy
    ·exact hLL y hy z hz
  rename_i n1 n2
  -- where the lists are parted
  have hP:a<=prt lt a m b (A++(L++(R++B)))/\prt lt a m b (A++(L++(R++B)))<=m/\m<=(a+b) / 2+m - prt lt a m b (A++(L++(R++B)))/\(a+b) / 2+m - prt lt a m b (A++(L++(R++B)))<=b/\prt lt a m b (A++(L++(R++B)))<=(a+b) / 2/\
    (prt lt a m b (A++(L++(R++B)))=a\/(a+b) / 2+m - prt lt a m b (A++(L++(R++B)))=b\/lt (A++(L++(R++B)))[(a+b) / 2+m - prt lt a m b (A++(L++(R++B)))]! (A++(L++(R++B)))[prt lt a m b (A++(L++(R++B))) - 1]! = false)/\
    (prt lt a m b (A++(L++(R++B)))=m\/(a+b) / 2+m - prt lt a m b (A++(L++(R++B)))=m\/lt (A++(L++(R++B)))[(a+b) / 2+m - prt lt a m b (A++(L++(R++B))) - 1]! (A++(L++(R++B)))[prt lt a m b (A++(L++(R++B)))]! = true):=by
   generalize A++(L++(R++B))=l;unfold prt;split
   ·rename_i h;obtain⟨q1,q2,q3,q4⟩:=sF (fun c=>!lt l[(a+b) / 2+m - 1 - c]! l[c]!) (b - a) ((a+b) / 2+m - b) ((a+b) / 2) (by omega) (by omega);generalize mD (fun c=>!lt l[(a+b) / 2+m - 1 - c]! l[c]!) (b - a) ((a+b) / 2+m - b) ((a+b) / 2)=s at q1 q2 q3 q4 ⊢;refine⟨by omega,by omega,by omega,by omega,by omega,?_,?_⟩
    ·rcases q3 with q3|q3
     ·right;left;omega
     ·by_cases hs:s=0
      ·left;omega
      have e:(a+b) / 2+m - 1 - (s - 1)=(a+b) / 2+m - s:=by omega
      rw[e] at q3;right;right;simpa using q3
    ·rcases q4 with q4|q4
     ·right;left;omega
     ·have e:(a+b) / 2+m - 1 - s=(a+b) / 2+m - s - 1:=by omega
      rw[e] at q4;right;right;simpa using q4
   ·rename_i h;obtain⟨q1,q2,q3,q4⟩:=sF (fun c=>!lt l[(a+b) / 2+m - 1 - c]! l[c]!) (b - a) a m (by omega) (by omega);generalize mD (fun c=>!lt l[(a+b) / 2+m - 1 - c]! l[c]!) (b - a) a m=s at q1 q2 q3 q4 ⊢;refine⟨by omega,by omega,by omega,by omega,by omega,?_,?_⟩
    ·rcases q3 with q3|q3
     ·left;omega
     ·by_cases hs:s=0
      ·left;omega
      have e:(a+b) / 2+m - 1 - (s - 1)=(a+b) / 2+m - s:=by omega
      rw[e] at q3;right;right;simpa using q3
    ·rcases q4 with q4|q4
     ·left;omega
     ·have e:(a+b) / 2+m - 1 - s=(a+b) / 2+m - s - 1:=by omega
      rw[e] at q4;right;right;simpa using q4
  generalize prt lt a m b (A++(L++(R++B)))=s at hP ⊢;obtain⟨p1,p2,p3,p4,p5,p6,p7⟩:=hP;have Xf:L=L.take (s - a)++L.drop (s - a):=(List.take_append_drop ..).symm;have hL1:(L.take (s - a)).length=s - a:=by rw[aB];omega
  have FH:(L.drop (s - a)).length=m - s:=by rw[aL];omega
  generalize L.take (s - a)=L1 at Xf hL1;generalize L.drop (s - a)=L2 at Xf FH;subst Xf;have hsR:R=R.take ((a+b) / 2 - s)++R.drop ((a+b) / 2 - s):=(List.take_append_drop ..).symm;have hR1:(R.take ((a+b) / 2 - s)).length=(a+b) / 2 - s:=by rw[aB];omega
  have TG:(R.drop ((a+b) / 2 - s)).length=b - ((a+b) / 2+m - s):=by rw[aL];omega
  generalize R.take ((a+b) / 2 - s)=R1 at hsR hR1;generalize R.drop ((a+b) / 2 - s)=R2 at hsR TG;subst hsR;simp only[au] at hm hb hL hR;obtain⟨W7,W6,hLL⟩:=List.pairwise_append.1 sL;obtain⟨W4,W3,hRR⟩:=List.pairwise_append.1 sR
  -- what is left stays below
  have c1:∀ x∈L1,∀ y∈R2,le x y:=fun x hx y hy=>by
   have z1:0 < L1.length:=List.length_pos_of_mem hx;have z2:0 < R2.length:=List.length_pos_of_mem hy;rcases p6 with p6|p6|p6
   ·omega
   ·omega
   ·have e2:A++(L1++L2++(R1++R2++B))=(A++(L1++(L2++R1)))++(R2++B):=by simp
    have e3:A++(L1++L2++(R1++R2++B))=A++(L1++(L2++(R1++R2++B))):=by simp
    have g1:(A++(L1++L2++(R1++R2++B)))[(a+b) / 2+m - s]! = R2[0]!:=by
     rw[e2,nG (by simp;omega) (by simp;omega)];congr 1;simp;omega
    have g2:(A++(L1++L2++(R1++R2++B)))[s - 1]! = L1[s - 1 - A.length]!:=by
     rw[e3,nG (by omega) (by omega)]
    rw[g1,g2] at p6
    have i1:L1[s - 1 - A.length]!∈L1++L2:=by
     rw[getElem!_pos L1 _ (by omega)];exact bH _ (aI _)
    have i2:R2[0]!∈R1++R2:=by
     rw[getElem!_pos R2 _ z2];exact bJ _ (aI _)
    have:=Classical.not_not.1 (mt (hc _ i1 _ i2).2 (by rw[p6];simp));exact tr _ _ _ (pN rf W7 (by omega) x hx) (tr _ _ _ this (nR rf W3 y hy))
  have c2:∀ y∈R1,∀ x∈L2,le y x:=fun y hy x hx=>by
   have z1:0 < L2.length:=List.length_pos_of_mem hx;have z2:0 < R1.length:=List.length_pos_of_mem hy;rcases p7 with p7|p7|p7
   ·omega
   ·omega
   ·have e2:A++(L1++L2++(R1++R2++B))=(A++(L1++L2))++(R1++(R2++B)):=by simp
    have e3:A++(L1++L2++(R1++R2++B))=(A++L1)++(L2++(R1++R2++B)):=by simp
    have g1:(A++(L1++L2++(R1++R2++B)))[(a+b) / 2+m - s - 1]! = R1[(a+b) / 2+m - s - 1 - (A++(L1++L2)).length]!:=by
     rw[e2,nG (by simp;omega) (by simp;omega)]
    have g2:(A++(L1++L2++(R1++R2++B)))[s]! = L2[0]!:=by
     rw[e3,nG (by simp;omega) (by simp;omega)];congr 1;simp;omega
    rw[g1,g2] at p7
    have i1:L2[0]!∈L1++L2:=by
     rw[getElem!_pos L2 _ z1];exact bJ _ (aI _)
    have i2:R1[(a+b) / 2+m - s - 1 - (A++(L1++L2)).length]!∈R1++R2:=by
     rw[getElem!_pos R1 _ (by simp;omega)];exact bH _ (aI _)
    have h5:=(hc _ i1 _ i2).1 p7;have h6:=(to _ _).resolve_left h5;exact tr _ _ _ (pN rf W4 (by simp;omega) y hy) (tr _ _ _ h6 (nR rf W6 x hx))
  have e0:(if s < m/\m < (a+b) / 2+m - s then xa m (b - a) (m - s) ((a+b) / 2+m - s - m) (A++(L1++L2++(R1++R2++B))) else A++(L1++L2++(R1++R2++B)))=A++(L1++(R1++(L2++(R2++B)))):=by
   split
   ·have e:A++(L1++L2++(R1++R2++B))=(A++L1)++(L2++(R1++(R2++B))):=by simp
    rw[e,zk (by simp;omega) FH (by omega) (by omega) (by omega) (by omega)];simp
   ·rename_i h
    by_cases h2:L2.length=0
    ·rw[List.length_eq_zero_iff.1 h2];simp
    ·have h3:R1.length=0:=by omega
     rw[List.length_eq_zero_iff.1 h3];simp
  rw[e0];show ∃ M,(if (a+b) / 2 < (a+b) / 2+m - s/\(a+b) / 2+m - s < b then fK lt f ((a+b) / 2) ((a+b) / 2+m - s) b (if a < s/\s < (a+b) / 2 then fK lt f a s ((a+b) / 2) (A++(L1++(R1++(L2++(R2++B))))) else A++(L1++(R1++(L2++(R2++B))))) else(if a < s/\s < (a+b) / 2 then fK lt f a s ((a+b) / 2) (A++(L1++(R1++(L2++(R2++B))))) else A++(L1++(R1++(L2++(R2++B))))))=A++(M++B)/\M.Perm (L1++L2++(R1++R2))/\yQ le M
  obtain⟨M1,e1,pm1,sm1⟩:∃ M1,(if a < s/\s < (a+b) / 2 then fK lt f a s ((a+b) / 2) (A++(L1++(R1++(L2++(R2++B))))) else A++(L1++(R1++(L2++(R2++B)))))=A++(M1++(L2++(R2++B)))/\M1.Perm (L1++R1)/\yQ le M1:=by
   split
   ·exact pH tr to f a s ((a+b) / 2) ha (by omega) (by omega) (by omega) (by omega) (by omega) W7 W4 fun x hx y hy=>hc x (bH _ hx) y (bH _ hy)
   ·rename_i h;refine⟨L1++R1,by simp,.refl _,?_⟩
    by_cases h2:L1.length=0
    ·rw[List.length_eq_zero_iff.1 h2];exact W4
    ·have h3:R1.length=0:=by omega
     rw[List.length_eq_zero_iff.1 h3,aZ];exact W7
  rw[e1];have lm1:=pm1.length_eq;rw[au] at lm1
  obtain⟨M2,e2,pm2,sm2⟩:∃ M2,(if (a+b) / 2 < (a+b) / 2+m - s/\(a+b) / 2+m - s < b then fK lt f ((a+b) / 2) ((a+b) / 2+m - s) b (A++(M1++(L2++(R2++B)))) else A++(M1++(L2++(R2++B))))=A++(M1++(M2++B))/\M2.Perm (L2++R2)/\yQ le M2:=by
   split
   ·have e:A++(M1++(L2++(R2++B)))=(A++M1)++(L2++(R2++B)):=by simp
    obtain⟨M2,q1,q2,q3⟩:=pH (A:=A++M1) (L:=L2) (R:=R2) (B:=B) tr to f ((a+b) / 2) ((a+b) / 2+m - s) b (by simp;omega) (by omega) (by omega) (by omega) (by omega) (by omega) W6 W3 fun x hx y hy=>hc x (bJ _ hx) y (bJ _ hy);exact⟨M2,by rw[e,q1];simp,q2,q3⟩
   ·rename_i h;refine⟨L2++R2,by simp,.refl _,?_⟩
    by_cases h2:L2.length=0
    ·rw[List.length_eq_zero_iff.1 h2];exact W3
    ·have h3:R2.length=0:=by omega
     rw[List.length_eq_zero_iff.1 h3,aZ];exact W6
  rw[e2];refine⟨M1++M2,by simp,?_,?_⟩
  ·refine(pm1.append pm2).trans ?_;have h:=(List.perm_append_comm (l₁:=R1) (l₂:=L2)).append_left L1;have h2:=h.append_right R2;simpa using h2
  ·refine lq sm1 sm2 fun x hx y hy=>?_;rcases aX.1 (pm1.mem_iff.1 hx) with hx|hx <;> rcases aX.1 (pm2.mem_iff.1 hy) with hy|hy
   ·exact hLL x hx y hy
   ·exact c1 x hx y hy
   ·exact c2 x hx y hy
   ·exact hRR x hx y hy
theorem Hj {lt:α->α->Bool}{le:α->α->Prop}(tr:∀ x y z,le x y->le y z->le x z)(to:∀ x y,le x y\/le y x)(a:Nat):∀ (j:Nat) {A L B:List α} {x:α},a=A.length->j=a+L.length->yQ le L->(∀ y∈L,(lt x y=true↔¬ le y x))->∃ M,qn lt a j (A++(L++x :: B))=A++(M++B)/\M.Perm (L++[x])/\yQ le M
 | 0,A,L,B,x,ha,hj,sL,hc=>by
  have:L=[]:=List.length_eq_zero_iff.1 (by omega);subst this;exact⟨[x],rfl,.refl _,List.pairwise_singleton ..⟩
 | j+1,A,L,B,x,ha,hj,sL,hc=>by
  unfold qn;split
  ·rename_i h;obtain⟨Z,y,rfl⟩:∃ Z y,L=Z++[y]:=⟨L.dropLast,L.getLast (by intro h;simp[h] at hj;omega),(List.dropLast_concat_getLast _).symm⟩
   have hz:j=a+Z.length:=by simp at hj;omega
   have e:A++(Z++[y]++x :: B)=(A++Z)++y :: x :: B:=by simp
   have e2:A++(Z++[y]++x :: B)=(A++(Z++[y]))++x :: B:=by simp
   have g1:(A++(Z++[y]++x :: B))[j+1]! = x:=by rw[e2];exact get_at (by simp;omega)
   have g2:(A++(Z++[y]++x :: B))[j]! = y:=by rw[e];exact get_at (by simp;omega)
   rw[g1,g2];obtain⟨sZ,_,hZ⟩:=List.pairwise_append.1 sL;have hy:∀ z∈Z,le z y:=fun z hz=>hZ z hz y (aJ.2 rfl);split
   ·rename_i aS;have hxy:le x y:=(to x y).resolve_right ((hc y (bJ _ (aJ.2 rfl))).1 aS);have es:=Bj (A:=A++Z) (M:=[]) (B:=B) (x:=y) (y:=x) (i:=j) (j:=j+1) (by simp;omega) (by simp;omega);simp only[bF,cH] at es;have e3:A++(Z++[y]++x :: B)=A++(Z++y :: x :: B):=by simp
    rw[e3,es];obtain⟨M,q1,q2,q3⟩:=Hj (A:=A) (L:=Z) (B:=y :: B) (x:=x) tr to a j ha hz sZ fun z hz=>hc z (bH _ hz);refine⟨M++[y],by rw[q1];simp,?_,?_⟩
    ·refine(q2.append_right [y]).trans ?_;have h:=(List.perm_append_comm (l₁:=[x]) (l₂:=[y])).append_left Z;simpa using h
    ·refine lq q3 (List.pairwise_singleton ..) fun z hz w hw=>?_;rw[aJ.1 hw];rcases aX.1 (q2.mem_iff.1 hz) with hz|hz
     ·exact hy z hz
     ·rw[aJ.1 hz];exact hxy
   ·rename_i aS;have hyx:le y x:=Classical.not_not.1 (mt (hc y (bJ _ (aJ.2 rfl))).2 aS);refine⟨Z++[y]++[x],by simp,.refl _,?_⟩;refine lq sL (List.pairwise_singleton ..) fun z hz w hw=>?_;rw[aJ.1 hw];rcases aX.1 hz with hz|hz
    ·exact tr _ _ _ (hy z hz) hyx
    ·rw[aJ.1 hz];exact hyx
  ·have:L=[]:=List.length_eq_zero_iff.1 (by omega);subst this;exact⟨[x],rfl,.refl _,List.pairwise_singleton ..⟩
theorem Hi {lt:α->α->Bool}{le:α->α->Prop}(tr:∀ x y z,le x y->le y z->le x z)(to:∀ x y,le x y\/le y x)(a:Nat):∀ (n i:Nat) {A L R B:List α},a=A.length->i=a+L.length->R.length=n->yQ le L->(∀ x∈L,∀ y∈R,(lt y x=true↔¬ le x y))->R.Pairwise (fun x y=>lt y x=true↔¬ le x y)->∃ M,mo lt a n i (A++(L++(R++B)))=A++(M++B)/\M.Perm (L++R)/\yQ le M
 | 0,i,A,L,R,B,ha,hi,hr,sL,hc,hR=>by
  have:R=[]:=List.length_eq_zero_iff.1 hr;subst this;exact⟨L,by simp[mo],by simp,sL⟩
 | n+1,i,A,L,x :: R,B,ha,hi,hr,sL,hc,hR=>by
  unfold mo;have e:A++(L++(x :: R++B))=A++(L++x :: (R++B)):=by simp
  obtain⟨M,q1,q2,q3⟩:=Hj (A:=A) (L:=L) (B:=R++B) (x:=x) tr to a i ha hi sL fun y hy=>hc y hy x (aC ..);rw[e,q1];have hl:=q2.length_eq;simp only[au,List.length_singleton] at hl;obtain⟨hx,hR⟩:=List.pairwise_cons.1 hR
  obtain⟨M2,p1,p2,p3⟩:=Hi (A:=A) (L:=M) (R:=R) (B:=B) tr to a n (i+1) ha (by omega) (by simpa using hr) q3 (fun y hy z hz=>by
   rcases aX.1 (q2.mem_iff.1 hy) with hy|hy
   ·exact hc y hy z (aK _ hz)
   ·rw[aJ.1 hy];exact hx z hz) hR
  refine⟨M2,p1,p2.trans ((q2.append_right R).trans ?_),p3⟩;simp
inductive WX (lt:α->α->Bool) (le:α->α->Prop) (s:Nat):List α->Prop
 | last {X}:X.length<=s->yQ le X->WX lt le s X
 | cons {X Y}:X.length=s->yQ le X->(∀ x∈X,∀ y∈Y,(lt y x=true↔¬ le x y))->WX lt le s Y->WX lt le s (X++Y)
theorem Cp {lt:α->α->Bool}{le:α->α->Prop}(tr:∀ x y z,le x y->le y z->le x z)(to:∀ x y,le x y\/le y x){a n:Nat}{A R B:List α}(ha:a=A.length)(hr:R.length=n+1)(hR:R.Pairwise (fun x y=>lt y x=true↔¬ le x y)):∃ M,mo lt a n (a+1) (A++(R++B))=A++(M++B)/\M.Perm R/\yQ le M:=by
 cases R with
 | nil=>simp at hr
 | cons x R=>
  obtain⟨hx,hR⟩:=List.pairwise_cons.1 hR;obtain⟨M,q1,q2,q3⟩:=Hi (A:=A) (L:=[x]) (R:=R) (B:=B) tr to a n (a+1) ha rfl (by simpa using hr) (List.pairwise_singleton ..) (fun y hy z hz=>by rw[aJ.1 hy];exact hx z hz) hR;exact⟨M,q1,q2,q3⟩
theorem Io {lt:α->α->Bool}{le:α->α->Prop}(tr:∀ x y z,le x y->le y z->le x z)(to:∀ x y,le x y\/le y x){s n:Nat}(hs:0 < s):∀ (f a:Nat) {A R:List α},a=A.length->n=a+R.length->R.length < f->R.Pairwise (fun x y=>lt y x=true↔¬ le x y)->∃ M,pn lt s n f a (A++R)=A++M/\M.Perm R/\WX lt le s M
 | 0,a,A,R,ha,hn,hf,_=>absurd hf (by omega)
 | f+1,a,A,R,ha,hn,hf,hR=>by
  unfold pn;split
  ·rename_i h;have uf:R=R.take s++R.drop s:=(List.take_append_drop ..).symm;have h3:(R.take s).length=s:=by rw[aB];omega
   have h4:(R.drop s).length=R.length - s:=aL ..;generalize R.take s=R1 at uf h3;generalize R.drop s=R2 at uf h4;subst uf;rw[au] at hn hf;obtain⟨hR1,TG,hx⟩:=List.pairwise_append.1 hR;obtain⟨M,q1,q2,q3⟩:=Cp (lt:=lt) (le:=le) (A:=A) (R:=R1) (B:=R2) (n:=s - 1) tr to ha (by omega) hR1;rw[q1];have hl:=q2.length_eq;obtain⟨M2,p1,p2,p3⟩:=Io (lt:=lt) (le:=le) (n:=n) (s:=s) (A:=A++M) (R:=R2) tr to hs f (a+s) (by rw[au];omega) (by omega) (by omega) TG;have e:A++(M++R2)=A++M++R2:=by simp
   refine⟨M++M2,by rw[e,p1];simp,q2.append p2,.cons (by omega) q3 (fun x OX y hy=>hx x (q2.mem_iff.1 OX) y (p2.mem_iff.1 hy)) p3⟩
  ·rename_i h
   by_cases h0:R.length=0
   ·have:R=[]:=List.length_eq_zero_iff.1 h0;subst this;have e:n - (a+1)=0:=by simp at hn;omega
    rw[e];exact⟨[],rfl,.refl _,.last (aD _) .nil⟩
   ·obtain⟨M,q1,q2,q3⟩:=Cp (B:=[]) (n:=n - (a+1)) tr to ha (by omega) hR;simp only[aZ] at q1;exact⟨M,q1,q2,.last (by have:=q2.length_eq;omega) q3⟩
theorem AL {lt:α->α->Bool}{le:α->α->Prop}(tr:∀ x y z,le x y->le y z->le x z)(to:∀ x y,le x y\/le y x){s n:Nat}(hs:0 < s):∀ (f a:Nat) {A R:List α},a=A.length->n=a+R.length->R.length < f->WX lt le s R->∃ M,oI lt s n f a (A++R)=A++M/\M.Perm R/\WX lt le (2*s) M
 | 0,a,A,R,ha,hn,hf,_=>absurd hf (by omega)
 | f+1,a,A,R,ha,hn,hf,hR=>by
  unfold oI
  cases hR with
  | last h1 h2=>
   rw[if_neg (by omega),if_neg (by omega)];exact⟨R,rfl,.refl _,.last (by omega) h2⟩
  | @cons X Y h1 h2 h3 h4=>
   rw[au] at hn hf
   cases h4 with
   | last h5 h6=>
    by_cases hy:Y.length=0
    ·have:Y=[]:=List.length_eq_zero_iff.1 hy;subst this;rw[if_neg (by omega),if_neg (by omega)];exact⟨X++[],rfl,.refl _,.last (by simp;omega) (by rw[aZ];exact h2)⟩
    ·by_cases VV:a+2*s<=n
     ·rw[if_pos VV];obtain⟨M,q1,q2,q3⟩:=pH (lt:=lt) (A:=A) (L:=X) (R:=Y) (B:=[]) tr to (2*s) a (a+s) (a+2*s) ha (by omega) (by omega) (by omega) (by omega) (by omega) h2 h6 h3;simp only[aZ] at q1;rw[q1];have hl:=q2.length_eq;rw[au] at hl;obtain⟨M2,p1,p2,p3⟩:=AL (lt:=lt) (le:=le) (n:=n) (s:=s) (A:=A++M) (R:=[]) tr to hs f (a+2*s) (by rw[au];omega) (by simp;omega) (by simp;omega) (.last (by simp) .nil);have:M2=[]:=p2.eq_nil;subst this;simp only[aZ] at p1;exact⟨M,p1,q2,.last (by omega) q3⟩
     ·rw[if_neg VV,if_pos (by omega)];obtain⟨M,q1,q2,q3⟩:=pH (lt:=lt) (A:=A) (L:=X) (R:=Y) (B:=[]) tr to (n - a) a (a+s) n ha (by omega) (by omega) (by omega) (by omega) (by omega) h2 h6 h3;simp only[aZ] at q1;exact⟨M,q1,q2,.last (by have:=q2.length_eq;rw[au] at this;omega) q3⟩
   | @cons Y1 Y2 h5 h6 h7 h8=>
    rw[au] at hn hf;rw[if_pos (by omega)];obtain⟨M,q1,q2,q3⟩:=pH (lt:=lt) (A:=A) (L:=X) (R:=Y1) (B:=Y2) tr to (2*s) a (a+s) (a+2*s) ha (by omega) (by omega) (by omega) (by omega) (by omega) h2 h6 (fun x hx y hy=>h3 x hx y (bH _ hy));have hl:=q2.length_eq;rw[au] at hl;obtain⟨M2,p1,p2,p3⟩:=AL (lt:=lt) (le:=le) (n:=n) (s:=s) (A:=A++M) (R:=Y2) tr to hs f (a+2*s) (by rw[au];omega) (by omega) (by omega) h8;have e:A++(X++(Y1++Y2))=A++(X++(Y1++Y2)):=rfl;have e2:A++(M++Y2)=A++M++Y2:=by simp
    refine⟨M++M2,by rw[q1,e2,p1];simp,?_,.cons (by omega) q3 (fun x hx y hy=>?_) p3⟩
    ·have:=q2.append p2;simpa using this
    ·have hy:=p2.mem_iff.1 hy;rcases aX.1 (q2.mem_iff.1 hx) with hx|hx
     ·exact h3 x hx y (bJ _ hy)
     ·exact h7 x hx y hy
theorem Im {lt:α->α->Bool}{le:α->α->Prop}(tr:∀ x y z,le x y->le y z->le x z)(to:∀ x y,le x y\/le y x){n:Nat}:∀ (f s:Nat) {R:List α},0 < s->R.length=n->n < s+f->WX lt le s R->(qD lt n f s R).Perm R/\yQ le (qD lt n f s R)
 | 0,s,R,hs,hn,hf,hR=>by
  refine⟨.refl _,?_⟩
  cases hR with
  | last h1 h2=>exact h2
  | @cons X Y h1 h2 h3 h4=>rw[au] at hn;omega
 | f+1,s,R,hs,hn,hf,hR=>by
  unfold qD;split
  ·obtain⟨M,q1,q2,q3⟩:=AL (A:=[]) tr to (n:=n) hs (n+1) 0 rfl (by omega) (by omega) hR;simp only[bF] at q1;rw[q1];obtain⟨p1,p2⟩:=Im tr to f (2*s) (by omega) (by rw[q2.length_eq,hn]) (by omega) q3;exact⟨p1.trans q2,p2⟩
  ·refine⟨.refl _,?_⟩
   cases hR with
   | last h1 h2=>exact h2
   | @cons X Y h1 h2 h3 h4=>
    rw[au] at hn;have:Y=[]:=List.length_eq_zero_iff.1 (by omega);subst this;rw[aZ];exact h2
theorem Gp {lt:α->α->Bool}{le:α->α->Prop}(tr:∀ x y z,le x y->le y z->le x z)(to:∀ x y,le x y\/le y x)(l:List α)(h:l.Pairwise fun x y=>lt y x=true↔¬ le x y):(iT lt l).Perm l/\yQ le (iT lt l):=by
 unfold iT;obtain⟨M,q1,q2,q3⟩:=Io (A:=[]) (n:=l.length) tr to (show 0 < 20 by decide) (l.length+1) 0 rfl (by omega) (by omega) h;simp only[bF] at q1;rw[q1];obtain⟨p1,p2⟩:=Im tr to (n:=l.length) (l.length+1) 20 (by decide) q2.length_eq (by omega) q3;exact⟨p1.trans q2,p2⟩
end
section
variable {α:Type}[Inhabited α]
theorem gY (l:List (α × Nat))(i:Nat):(l.map Prod.fst)[i]! = (l[i]!).1:=by
 rcases Nat.lt_or_ge i l.length with h|h
 ·rw[getElem!_pos l i h,getElem!_pos (l.map Prod.fst) i (by rw[Lm];exact h),List.getElem_map]
 ·rw[getElem!_neg l i (by omega),getElem!_neg (l.map Prod.fst) i (by rw[Lm];omega)];rfl
theorem uv (l:List (α × Nat))(i j:Nat):(xL l i j).map Prod.fst=xL (l.map Prod.fst) i j:=by
 unfold xL;rw[fF,fF,gY,gY]
theorem AK {p q:Nat->Bool}(h:∀ i,p i=q i)(f i j:Nat):mD p f i j=mD q f i j:=by rw[show p=q from funext h]
theorem Cw (lt:α->α->Bool)(a:Nat):∀ (j:Nat) (l:List (α × Nat)),(qn (fun x y=>lt x.1 y.1) a j l).map Prod.fst=qn lt a j (l.map Prod.fst)
 | 0,_=>rfl
 | j+1,l=>by
  unfold qn;rw[gY,gY];split
  ·split
   ·rw[Cw lt a j,uv]
   ·rfl
  ·rfl
theorem wa (lt:α->α->Bool)(a:Nat):∀ (n i:Nat) (l:List (α × Nat)),(mo (fun x y=>lt x.1 y.1) a n i l).map Prod.fst=mo lt a n i (l.map Prod.fst)
 | 0,_,_=>rfl
 | n+1,i,l=>by unfold mo;rw[wa lt a n,Cw]
theorem pL:∀ (n a b:Nat) (l:List (α × Nat)),(swR n a b l).map Prod.fst=swR n a b (l.map Prod.fst)
 | 0,_,_,_=>rfl
 | n+1,a,b,l=>by unfold swR;rw[pL n,uv]
theorem zl (m:Nat):∀ (f i j:Nat) (l:List (α × Nat)),(xa m f i j l).map Prod.fst=xa m f i j (l.map Prod.fst)
 | 0,i,j,l=>pL ..
 | f+1,i,j,l=>by
  unfold xa;split
  ·exact pL ..
  ·split
   ·rw[zl m f,pL]
   ·rw[zl m f,pL]
theorem K5:∀ (n k:Nat) (l:List (α × Nat)),(up n k l).map Prod.fst=up n k (l.map Prod.fst)
 | 0,_,_=>rfl
 | n+1,k,l=>by unfold up;rw[K5 n,uv]
theorem Ob:∀ (n k:Nat) (l:List (α × Nat)),(dn n k l).map Prod.fst=dn n k (l.map Prod.fst)
 | 0,_,_=>rfl
 | n+1,k,l=>by unfold dn;rw[Ob n,uv]
theorem Qq (lt:α->α->Bool)(a m b:Nat)(l:List (α × Nat)):prt (fun x y=>lt x.1 y.1) a m b l=prt lt a m b (l.map Prod.fst):=by
 unfold prt;split
 ·exact AK (fun c=>by rw[gY,gY]) ..
 ·exact AK (fun c=>by rw[gY,gY]) ..
theorem pI (lt:α->α->Bool):∀ (f a m b:Nat) (l:List (α × Nat)),(fK (fun x y=>lt x.1 y.1) f a m b l).map Prod.fst=fK lt f a m b (l.map Prod.fst)
 | 0,_,_,_,_=>rfl
 | f+1,a,m,b,l=>by
  unfold fK;have e1:mD (fun h=>lt (l.map Prod.fst)[h]! (l.map Prod.fst)[a]!) (b - a) m b=mD (fun h=>lt l[h]!.1 l[a]!.1) (b - a) m b:=AK (fun c=>by rw[gY,gY]) ..;have e2:mD (fun h=>!lt (l.map Prod.fst)[m]! (l.map Prod.fst)[h]!) (b - a) a m=mD (fun h=>!lt l[m]!.1 l[h]!.1) (b - a) a m:=AK (fun c=>by rw[gY,gY]) ..;rw[e1,e2,Qq];generalize prt lt a m b (l.map Prod.fst)=s;split
  ·exact K5 ..
  split
  ·exact Ob ..
  have h1:(if s < m/\m < (a+b) / 2+m - s then xa m (b - a) (m - s) ((a+b) / 2+m - s - m) l else l).map Prod.fst=if s < m/\m < (a+b) / 2+m - s then xa m (b - a) (m - s) ((a+b) / 2+m - s - m) (l.map Prod.fst) else l.map Prod.fst:=by
   split
   ·exact zl ..
   ·rfl
  have h2:∀ x:List (α × Nat),(if a < s/\s < (a+b) / 2 then fK (fun x y=>lt x.1 y.1) f a s ((a+b) / 2) x else x).map Prod.fst=if a < s/\s < (a+b) / 2 then fK lt f a s ((a+b) / 2) (x.map Prod.fst) else x.map Prod.fst:=fun x=>by
   split
   ·exact pI lt f ..
   ·rfl
  have h3:∀ x:List (α × Nat),(if (a+b) / 2 < (a+b) / 2+m - s/\(a+b) / 2+m - s < b then fK (fun x y=>lt x.1 y.1) f ((a+b) / 2) ((a+b) / 2+m - s) b x else x).map Prod.fst=if (a+b) / 2 < (a+b) / 2+m - s/\(a+b) / 2+m - s < b then fK lt f ((a+b) / 2) ((a+b) / 2+m - s) b (x.map Prod.fst) else x.map Prod.fst:=fun x=>by
   split
   ·exact pI lt f ..
   ·rfl
  refine(h3 _).trans ?_;rw[h2,h1]
theorem Dv (lt:α->α->Bool)(s n:Nat):∀ (f a:Nat) (l:List (α × Nat)),(pn (fun x y=>lt x.1 y.1) s n f a l).map Prod.fst=pn lt s n f a (l.map Prod.fst)
 | 0,_,_=>rfl
 | f+1,a,l=>by
  unfold pn;split
  ·rw[Dv lt s n f,wa]
  ·exact wa ..
theorem Dt (lt:α->α->Bool)(s n:Nat):∀ (f a:Nat) (l:List (α × Nat)),(oI (fun x y=>lt x.1 y.1) s n f a l).map Prod.fst=oI lt s n f a (l.map Prod.fst)
 | 0,_,_=>rfl
 | f+1,a,l=>by
  unfold oI;split
  ·rw[Dt lt s n f,pI]
  ·split
   ·exact pI ..
   ·rfl
theorem Dr (lt:α->α->Bool)(n:Nat):∀ (f s:Nat) (l:List (α × Nat)),(qD (fun x y=>lt x.1 y.1) n f s l).map Prod.fst=qD lt n f s (l.map Prod.fst)
 | 0,_,_=>rfl
 | f+1,s,l=>by
  unfold qD;split
  ·rw[Dr lt n f,Dt]
  ·rfl
theorem Lo (lt:α->α->Bool)(l:List (α × Nat)):(iT (fun x y=>lt x.1 y.1) l).map Prod.fst=iT lt (l.map Prod.fst):=by
 unfold iT;rw[Dr,Dv,Lm]
def zR (le:α->α->Prop)(x y:α × Nat):Prop:=le x.1 y.1/\(le y.1 x.1->x.2<=y.2)
def xi:Nat->List α->List (α × Nat)
 | _,[]=>[]
 | i,x :: r=>(x,i) :: xi (i+1) r
omit [Inhabited α] in
theorem vc:∀ (i:Nat) (l:List α),(xi i l).map Prod.fst=l
 | _,[]=>rfl
 | i,x :: r=>by rw[xi,bP,vc]
omit [Inhabited α] in
theorem Ge:∀ (i:Nat) (l:List α),∀ p∈xi i l,i<=p.2
 | _,[],_,h=>by cases h
 | i,_ :: r,p,h=>by
  rcases List.mem_cons.1 h with rfl|h
  ·exact al _
  ·exact Nat.le_of_succ_le (Ge (i+1) r p h)
omit [Inhabited α] in
theorem pG:∀ (i:Nat) (l:List α),(xi i l).Pairwise fun x y=>x.2 < y.2
 | _,[]=>.nil
 | i,_x :: r=>.cons (fun p hp=>Ge (i+1) r p hp) (pG (i+1) r)
theorem Pu {lt:α->α->Bool}{le:α->α->Prop}(tr:∀ x y z,le x y->le y z->le x z)(to:∀ x y,le x y\/le y x)(aS:∀ x y,lt y x=true↔¬ le x y)(l:List α)(M:List (α × Nat))(hp:M.Perm (xi 0 l))(hs:M.Pairwise (zR le)):iT lt l=M.map Prod.fst:=by
 have hrf:∀ x,le x x:=fun x=>(to x x).elim id id;have tr2:∀ x y z:α × Nat,zR le x y->zR le y z->zR le x z:=fun x y z h1 h2=>⟨tr _ _ _ h1.1 h2.1,fun h=>bd (h1.2 (tr _ _ _ h2.1 h)) (h2.2 (tr _ _ _ h h1.1))⟩
 have to2:∀ x y:α × Nat,zR le x y\/zR le y x:=fun x y=>by
  by_cases h1:le x.1 y.1 <;> by_cases h2:le y.1 x.1
  ·rcases Nat.le_total x.2 y.2 with h|h
   ·exact .inl ⟨h1,fun _=>h⟩
   ·exact .inr ⟨h2,fun _=>h⟩
  ·exact .inl ⟨h1,fun h=>absurd h h2⟩
  ·exact .inr ⟨h2,fun h=>absurd h h1⟩
  ·exact((to x.1 y.1).elim h1 h2).elim
 obtain⟨p1,p2⟩:=Gp (lt:=fun x y=>lt x.1 y.1) tr2 to2 (xi 0 l) ((pG 0 l).imp fun {x y} h=>by
  rw[aS];constructor
  ·exact fun h1 h2=>h1 h2.1
  ·exact fun h1 h2=>h1 ⟨h2,fun _=>cG h⟩)
 have e:iT (fun x y:α × Nat=>lt x.1 y.1) (xi 0 l)=M:=by
  refine List.Perm.eq_of_pairwise (le:=zR le) (fun x y hx hy h1 h2=>?_) p2 hs (p1.trans hp.symm);have hx:=p1.mem_iff.1 hx;have hy:=hp.mem_iff.1 hy;have h3:x.2=y.2:=Nat.le_antisymm (h1.2 h2.1) (h2.2 h1.1);obtain⟨i,hi,rfl⟩:=bB.1 hx;obtain⟨j,hj,rfl⟩:=bB.1 hy;rcases Nat.lt_trichotomy i j with h|h|h
  ·have:=cu.1 (pG 0 l) i j hi hj h;omega
  ·subst h;rfl
  ·have:=cu.1 (pG 0 l) j i hj hi h;omega
 have:=Lo lt (xi 0 l);rw[vc,e] at this;exact this.symm
end
section
variable {α:Type}[Inhabited α]
def vZ (oE:α->α->Bool)(x:α)(out:List α):List α:=out.takeWhile (fun y=>oE y x)++x :: out.dropWhile (fun y=>oE y x)
def oF (oE:α->α->Bool)(out:List α):List α->List α
 | []=>out
 | x :: r=>oF oE (vZ oE x out) r
omit [Inhabited α] in
theorem K9 (p:α->Bool):∀ l:List (α × Nat),(l.takeWhile fun y=>p y.1).map Prod.fst=(l.map Prod.fst).takeWhile p
 | []=>rfl
 | x :: l=>by
  rw[List.takeWhile_cons,bP,List.takeWhile_cons];split
  ·rw[bP,K9 p l]
  ·rfl
omit [Inhabited α] in
theorem N2 (p:α->Bool):∀ l:List (α × Nat),(l.dropWhile fun y=>p y.1).map Prod.fst=(l.map Prod.fst).dropWhile p
 | []=>rfl
 | x :: l=>by
  rw[List.dropWhile_cons,bP,List.dropWhile_cons];split
  ·exact N2 p l
  ·rfl
omit [Inhabited α] in
theorem Nh (oE:α->α->Bool)(x:α × Nat)(l:List (α × Nat)):(vZ (fun a b=>oE a.1 b.1) x l).map Prod.fst=vZ oE x.1 (l.map Prod.fst):=by
 unfold vZ;rw[aW,bP,K9 (fun y=>oE y x.1),N2 (fun y=>oE y x.1)]
omit [Inhabited α] in
theorem Cu (oE:α->α->Bool):∀ (r l:List (α × Nat)),(oF (fun a b=>oE a.1 b.1) l r).map Prod.fst=oF oE (l.map Prod.fst) (r.map Prod.fst)
 | [],l=>rfl
 | x :: r,l=>by rw[oF,Cu oE r,Nh,bP,oF]
omit [Inhabited α] in
theorem H9 {p:α->Bool}:∀ {l r:List α} {z:α},l.dropWhile p=z :: r->p z=false
 | [],r,z,h=>by cases h
 | x :: l,r,z,h=>by
  rw[List.dropWhile_cons] at h;split at h
  ·exact H9 h
  ·rename_i hx;injection h with h1 _;subst h1;simpa using hx
omit [Inhabited α] in
theorem Lb {p:α->Bool}:∀ {l:List α},∀ x∈l.takeWhile p,p x=true
 | [],x,h=>by cases h
 | y :: l,x,h=>by
  rw[List.takeWhile_cons] at h;split at h
  ·rename_i hy;rcases List.mem_cons.1 h with rfl|h
   ·exact hy
   ·exact Lb x h
  ·cases h
omit [Inhabited α] in
theorem yw (oE:α->α->Bool)(x:α)(l:List α):(vZ oE x l).Perm (l++[x]):=by
 unfold vZ;refine List.perm_middle.trans ?_;rw[List.takeWhile_append_dropWhile];exact(List.perm_append_comm (l₁:=[x]) (l₂:=l))
omit [Inhabited α] in
theorem yx (oE:α->α->Bool):∀ (r l:List α),(oF oE l r).Perm (l++r)
 | [],l=>by rw[oF,aZ]
 | x :: r,l=>by
  rw[oF];refine(yx oE r _).trans ?_;refine((yw oE x l).append_right r).trans ?_;simp
omit [Inhabited α] in
theorem afX {oE:α->α->Bool}{le:α->α->Prop}(hb:∀ x y,oE x y=true↔le x y)(tr:∀ x y z,le x y->le y z->le x z)(to:∀ x y,le x y\/le y x):∀ (r l:List (α × Nat)),l.Pairwise (zR le)->(∀ x∈l,∀ y∈r,x.2 < y.2)->(r.Pairwise fun x y=>x.2 < y.2)->(oF (fun a b=>oE a.1 b.1) l r).Pairwise (zR le)
 | [],l,h,_,_=>h
 | x :: r,l,h,h1,h2=>by
  obtain⟨h3,h4⟩:=List.pairwise_cons.1 h2;rw[oF];refine afX hb tr to r _ ?_ (fun y hy z hz=>?_) h4
  ·unfold vZ;have hl:l.takeWhile (fun y=>oE y.1 x.1)++l.dropWhile (fun y=>oE y.1 x.1)=l:=List.takeWhile_append_dropWhile ..;have ht:∀ y∈l.takeWhile (fun y=>oE y.1 x.1),le y.1 x.1:=fun y hy=>(hb _ _).1 (Lb y hy);have hm:∀ y∈l.takeWhile (fun y=>oE y.1 x.1),y∈l:=fun y hy=>by rw[<- hl];exact bH _ hy
   have hd:∀ z∈l.dropWhile (fun y=>oE y.1 x.1),¬ le z.1 x.1:=by
    rw[<- hl] at h;obtain⟨_,h5,_⟩:=List.pairwise_append.1 h
    cases e:l.dropWhile (fun y=>oE y.1 x.1) with
    | nil=>exact fun z hz=>by cases hz
    | cons z0 q=>
     have h6:¬ le z0.1 x.1:=fun hc=>by
      have:=H9 e;rw[(hb _ _).2 hc] at this
      cases this
     rw[e] at h5;obtain⟨h7,_⟩:=List.pairwise_cons.1 h5;intro z hz hc;rcases List.mem_cons.1 hz with rfl|hz
     ·exact h6 hc
     ·exact h6 (tr _ _ _ (h7 z hz).1 hc)
   rw[<- hl] at h;obtain⟨h5,h6,h7⟩:=List.pairwise_append.1 h;refine List.pairwise_append.2 ⟨h5,List.pairwise_cons.2 ⟨fun z hz=>⟨(to x.1 z.1).resolve_right (hd z hz),fun hc=>absurd hc (hd z hz)⟩,h6⟩,fun y hy z hz=>?_⟩;rcases List.mem_cons.1 hz with rfl|hz
   ·exact⟨ht y hy,fun _=>cG (h1 y (hm y hy) z (aC ..))⟩
   ·exact h7 y hy z hz
  ·rcases aX.1 ((yw _ x l).mem_iff.1 hy) with hy|hy
   ·exact h1 y hy z (aK _ hz)
   ·rw[aJ.1 hy];exact h3 z hz
theorem Ln {lt oE:α->α->Bool}{le:α->α->Prop}(hb:∀ x y,oE x y=true↔le x y)(tr:∀ x y z,le x y->le y z->le x z)(to:∀ x y,le x y\/le y x)(aS:∀ x y,lt y x=true↔¬ le x y)(l:List α):iT lt l=oF oE [] l:=by
 have h:=Pu (lt:=lt) (le:=le) tr to aS l (oF (fun a b=>oE a.1 b.1) [] (xi 0 l)) (yx _ _ []) (afX hb tr to _ [] .nil (fun _ h=>by cases h) (pG 0 l));rw[h,Cu,vc];rfl
end
end
end Cg
namespace Go.Proofs.YtbmdcnkidjlbbaaGreat
section
open Go Cg
def ixI (l:List Int)(n:Int):Int:=jS (fun m=>m==n) l
def Ah (l:List Int)(n:Int):Bool:=decide (ixI l n>=0)
def orI (a b:Int):Int:=IntKind.i64.wrap (((BitVec.ofInt IntKind.i64.bits a ||| BitVec.ofInt IntKind.i64.bits b).toNat:Nat):Int)
def jx (k:Int):Int:=if k=1 then 1 else if k=2\/k=3\/k=4\/k=5 then 2 else if k=6\/k=7 then 3 else if k=8\/k=9\/k=10 then 4 else if k=11 then 5 else if k=12 then 6 else if k=13 then 7 else if k=14 then 8 else 0
structure Wd where
 all:List aG
 bg:List Bool
 st:List (List Int)
 bl:List Bool
def tB (b:Bool):List Tr:=[bv b]
def tZ (l:List Int):List Tr:=[.sl 1 (l.map eI)]
def wE (s:aA)(L:List bN)(w:Wd):List Tr:=s.enc++[.sl 17 (w.all.map aG.enc),.sl 23 (L.map bN.enc),.sl 1 (w.bg.map tB),.sl 1 (w.st.map tZ),.sl 1 (w.bl.map tB)]
def pa {α:Type}(p:Nat->α->Bool):Nat->List α->List α
 | _,[]=>[]
 | k,x :: r=>(if p k x=true then [x] else [])++pa p (k+1) r
theorem GR {α:Type}(p:Nat->α->Bool):∀ (l m:List α) (k:Nat),pa p k (l++m)=pa p k l++pa p (k+l.length) m
 | [],m,k=>rfl
 | x :: r,m,k=>by
  rw[List.cons_append,pa,pa,GR p r m (k+1),cH,aq,show k+1+r.length=k+(r.length+1) by omega]
theorem vG {α:Type}(p:Nat->α->Bool)(l:List α)(k:Nat)(hk:k < l.length):pa p 0 (l.take (k+1))=pa p 0 (l.take k)++(if p k l[k]=true then [l[k]] else []):=by
 rw[bc hk,GR,aB,Nat.min_eq_left (by omega),bu];show _++((if p k l[k]=true then [l[k]] else [])++[])=_;rw[aZ]
theorem uB {α:Type}(p:Nat->α->Bool):∀ (l:List α) (k:Nat),(pa p k l).length<=l.length
 | [],_=>al _
 | x :: r,k=>by
  rw[pa,au,aq];have:=uB p r (k+1);split <;> simp <;> omega
theorem vF {α:Type}(p:Nat->α->Bool)(l:List α)(k:Nat):(pa p 0 (l.take k)).length<=l.length:=bd (uB p _ 0) (by rw[aB];omega)
def mf (l:List aE)(id:Int):Int:=jS (fun o=>o.id==id) l
def Sr (l:List Bool)(i:Nat):Bool:=(l[i]?).getD false
def ox (s:aA)(f:bN)(w:Wd):Int:=if f.fixed||decide (mf s.aa f.fp < 0) then f.aaB else(gG w.all (mf s.aa f.fp).toNat).aaB
def sJ (s:aA)(f:bN)(w:Wd)(i:Nat):Bool:=(f.fixed||Sr w.bg i)||(decide (mf s.aa f.fp < 0)||!Sr w.bl (mf s.aa f.fp).toNat)
def nN (s:aA)(f:bN)(w:Wd)(k:Nat)(o:aE):Bool:=o.cg==0&&((f.fixed&&Ah f.aa o.id)||(!f.fixed&&eW o (gG w.all k) (ox s f w) f.fp f.filter))
def lM (s:aA)(f:bN)(w:Wd)(i:Nat):List Int:=if Sr w.bg i=true then(w.st[i]?).getD [] else if sJ s f w i=true then(pa (nN s f w) 0 s.aa).map aE.id else []
def QY (s:aA)(all:List aG)(you src:Int)(q:cC):List Int:=(pa (fun k o=>eW o (gG all k) you src q) 0 s.aa).map aE.id
def wM (s:aA)(f:bN)(w:Wd)(m:eb):Int:=if m.kind=11 then((QY s w.all (ox s f w) f.fp m.filter).length:Nat) else 0
def mT (aP:Int)(l:List eb):List eb:=l.filter fun m=>jx m.kind==aP
def lC (s:aA)(f:bN)(w:Wd)(aP:Int):List Int:=(mT aP f.cA).map (wM s f w)
def Kc (f:bN)(aP:Int):Bool:=f.cA.any fun m=>m.kind==10&&jx m.kind==aP
def Dx (f:bN)(aP:Int):Bool:=f.cA.any fun m=>jx m.kind==aP
def kS {α:Type}(g:Nat->α->α)(n:Nat)(l:List α):List α:=l.mapIdx fun k x=>if k < n then g k x else x
theorem oT {α:Type}(g:Nat->α->α)(n:Nat)(l:List α)(k:Nat):(kS g n l)[k]? = (l[k]?).map fun x=>if k < n then g k x else x:=by
 unfold kS;rw[List.getElem?_mapIdx]
theorem lj {α:Type}(g:Nat->α->α)(n:Nat)(l:List α):(kS g n l).length=l.length:=by unfold kS;rw[List.length_mapIdx]
theorem K2 {α:Type}(g:Nat->α->α)(l:List α):kS g 0 l=l:=by
 refine List.ext_getElem? fun k=>?_;rw[oT]
 cases l[k]? with
 | none=>rfl
 | some x=>exact congrArg some (if_neg (Nat.not_lt_zero _))
theorem yV {α:Type}(g:Nat->α->α)(n:Nat)(l:List α)(k:Nat)(hk:k < l.length):(kS g n l)[k]? = some (if k < n then g k l[k] else l[k]):=by
 rw[oT,cD hk];rfl
theorem Be {α:Type}(g:Nat->α->α)(n:Nat)(l:List α)(hn:n < l.length):(kS g n l).set n (g n l[n])=kS g (n+1) l:=by
 refine List.ext_getElem? fun k=>?_;rw[List.getElem?_set,oT,oT,lj]
 by_cases e:n=k
 ·subst e;rw[if_pos rfl,if_pos hn,cD hn];exact congrArg some (if_pos (Nat.lt_succ_self _)).symm
 ·rw[if_neg e]
  cases l[k]? with
  | none=>rfl
  | some x=>
   refine congrArg some ?_;show(if k < n then g k x else x)=if k < n+1 then g k x else x
   by_cases h:k < n
   ·rw[if_pos h,if_pos (by omega)]
   ·rw[if_neg h,if_neg (by omega)]
theorem xG {α:Type}(g:Nat->α->α)(n:Nat)(l:List α)(hn:n < l.length)(h:g n l[n]=l[n]):kS g (n+1) l=kS g n l:=by
 refine List.ext_getElem? fun k=>?_;rw[oT,oT]
 by_cases e:n=k
 ·subst e;rw[cD hn];refine congrArg some ?_;show(if n < n+1 then g n l[n] else l[n])=if n < n then g n l[n] else l[n];rw[if_pos (Nat.lt_succ_self _),if_neg (Nat.lt_irrefl _),h]
 ·cases l[k]? with
  | none=>rfl
  | some x=>
   refine congrArg some ?_;show(if k < n+1 then g k x else x)=if k < n then g k x else x
   by_cases h:k < n
   ·rw[if_pos h,if_pos (by omega)]
   ·rw[if_neg h,if_neg (by omega)]
end
end Go.Proofs.YtbmdcnkidjlbbaaGreat
namespace Cg
section
open Go Go.RowKit Go.Sort
theorem Br {F F':Nat->Prop}{w:World}:∀ {vs:List Value} {ts:List Tr},iR F w vs ts->(∀ t∈ts,∃ x,t=Tr.lit x)->iR F' w vs ts
 | _,_,.nil,_=>.nil
 | _,_,.cons h1 h2,h=>by
  obtain⟨x,rfl⟩:=h _ (aC ..);refine .cons ?_ (Br h2 fun t ht=>h t (aK _ ht))
  cases h1 with
  | lit q=>exact .lit q
theorem Ic {P:Program}{f:FuncId}{dH:List AV}{ty k:Nat}{xs:List (List Tr)}{b:Bool}(h:Ct P f dH (.c (.row 0 0)) [⟨ty,k,0,xs,none⟩] b)(hx:∀ ts∈xs,∀ t∈ts,∃ v,t=Tr.lit v):Ct P f dH (.c (.row 0 0)) [⟨ty,k,0,xs,none⟩] true:=by
 refine⟨h.NZ,h.te,h.shut,h.plain,h.nob,h.X7,fun w vs E0 lJ ha=>(h.run w vs E0 lJ ha).mono ?_⟩;rintro e w' ⟨v,rfl,nF,E,hr,Ac,yA⟩;refine⟨v,rfl,nF,⟨fun b=>if b < w.heap.size then .dX else E.rl b,E.bk,E.vl⟩,hr,fun j R hj=>?_,fun b aS hc=>?_⟩
 ·cases j with
  | succ j=>simp at hj
  | zero=>
   injection hj with hj;subst hj;obtain⟨es,h1,h2,h3⟩:=(Ac 0 _ rfl).ow rfl;refine Ow.rr rfl ⟨es,h1,⟨h2.len,fun j x ts q1 q2=>Br (h2.at_ j x ts q1 q2) (hx ts (aU q2))⟩,fun g hg=>?_⟩;show(if g < w.heap.size then iD.dX else E.rl g)=_;rw[if_neg (Nat.not_lt.2 (h1.lt g hg).1)];exact h3 g hg
 ·have hc:(if b < w.heap.size then iD.dX else E.rl b)=.bz:=hc;rw[if_pos aS] at hc
  cases hc
theorem yE (l:List Int):∀ ts∈l.map eI,∀ t∈ts,∃ v,t=Tr.lit v:=fun ts h t ht=>by
 obtain⟨n,_,rfl⟩:=bA.1 h;have:t=iv n:=aJ.1 ht;exact⟨_,this⟩
end
section
open Go Go.RowKit Go.Sort Go.Lib
section
variable {P:Program}{T:Nat->Option Ty}{O:gD}[GlC O]
def wid (ro:Option Nat):Fence:={ Fence.wide with round:=ro }
theorem GL {ro:Option Nat}{n:Nat}{o:Oper}{a:Act}{w:World}{K:Act->World->Prop}{Q:Exit->Act->World->Prop}(hd:∀ c,o.op≠.defer c)(h:Oper.wp P o a w K Q):o.wpIn (wid ro) n P a w K Q:=by
 refine⟨fun _ _=>trivial,?_⟩;rw[show(wid ro).round=ro from rfl,Oper.semAt_eq ro a.eval o hd];unfold Oper.wp at h;revert h;generalize (execOp a.eval o).run P w=r;intro h
 cases r with
 | ok x w'=>
  cases x <;> first
   | exact h
   | exact h.elim
   | exact⟨fun hx=>(by cases hx),callsIn_wide.2 h⟩
   | exact⟨fun hx=>(by cases hx),fun c cs _=>let ⟨v,w2,r,s⟩:=h c cs;⟨v,w2,r,stepsIn_wide.2 s⟩⟩
 | halt x w'=>
  cases x <;> first
   | exact h
   | exact h.elim
def vJ (o:Oper):Bool:=match o.op with
 | .defer _=>false
 | _=>true
theorem GV {o:Oper}(h:vJ o=true):∀ c,o.op≠.defer c:=fun c e=>by
 unfold vJ at h;rw[e] at h
 cases h
theorem Jv {ro:Option Nat}{nn:Nat}(hT:dg P T){ops:Array Oper}{N n0 id m:Nat}{s0:St}{L:List (Oper × Dl)}(il:jG N ops false=true)(n9:ops.toList.all vJ=true)(hL:L.map (·.1)=ops.toList)(hp:eL P T ops id s0 L)(k:Kb s0 id)(hm:id+128*ops.size<=m){Q:Exit->Act->World->Prop} :
  ∀ (n j:Nat) (E:Env) (w:World) (a:Act),j+n=ops.size->ca O E w n0 N m (bM s0 (L.take j)) a->(∀ E' w' a',ca O E' w' n0 N m (bM s0 L) a'->Below n0 w w'->Q .normal a' w')->wpOpsIn (wid ro) nn P ops Q (List.range' j n) a w:=by
 have hlen:L.length=ops.size:=by rw[<- Lm (f:=(·.1)),hL,bD]
 intro n
 induction n with
 | zero=>
  intro j E w a hj r hQ;have nE:j=L.length:=by omega
  subst nE;rw[bm] at r;exact hQ E w a r (Below.refl _ _)
 | succ n ih=>
  intro j E w a hj r hQ;have aS:j < L.length:=by omega
  obtain⟨o,d,Hr⟩:∃ o d,L[j]? = some (o,d):=⟨(L[j]'aS).1,(L[j]'aS).2,by rw[cD]⟩
  have sg:ops[j]? = some o:=by
   rw[<- cp,<- hL,bp,Hr];rfl
  have hod:vJ o=true:=aN.1 n9 o (aU (by rw[cp];exact sg));have FB:=jY il sg;have uk:=(mg hp k j (by omega)).fresh
  have step:∀ E' v w',ca O E' w' n0 N m ((bM s0 (L.take j)).app o.dst d) (a.put o.dst v)->Below n0 w w'->wpOpsIn (wid ro) nn P ops Q (List.range' (j+1) n) (a.put o.dst v) w':=fun E' v w' r' hb=>by
   refine ih (j+1) E' w' _ (by omega) ?_ fun E2 w2 a2 r2 dD=>hQ E2 w2 a2 r2 (hb.trans dD);rw[List.take_add_one,Hr,Option.toList_some,ek];exact r'
  obtain⟨b,h1,h2,h3⟩:=hp j o d Hr;rw[List.range'_succ];unfold wpOpsIn;simp only[sg];rw[oP h1 r]
  cases b with
  | true=>
   rw[if_pos rfl];exact GL (GV hod) (rK hT r FB uk (by omega) (h2 rfl) _ _ step)
  | false=>
   rw[if_neg (by simp)];refine⟨fun _ _=>trivial,?_⟩;rw[h3 rfl] at step;exact step E undef w (r.app FB (Mv.refl _ _ _ _ _) (kv ⟨fun b hb=>(by cases hb),fun p hp=>(by cases hp)⟩) ⟨[],rfl,.nil⟩ (fun _ _ h=>by cases h) (fun _ _ h=>by cases h)) (Below.refl _ _)
def Kz (P:Program)(T:Nat->Option Ty)(N:Nat)(w0:World)(O:gD)(ro:Option Nat)(c:Code)(st:St)(Q:Ex->St->Prop):Prop:=
 dg P T->aaV N c=true->∀ nn E a w,aaP O E w w0.heap.size N st a->Below w0.heap.size w0 w->c.wpIn (wid ro) nn P (kR w0 N O Q) a w
variable {N:Nat}{w0:World}{ro:Option Nat}
theorem Kz.region (id:Nat)(ops:Array Oper)(st:St)(Q:Ex->St->Prop)(n9:ops.toList.all vJ=true)(h:ju P T ops st.nx 0 ops.toList st fun cJ=>match cJ with
  | ⟨sl,bx,rw,_⟩=>mA (st.nx+128*ops.size) fun nx=>Q .ic ⟨sl,bx,rw,nx⟩):Kz P T N w0 O ro (.region id ops false) st Q:=by
 intro hT hc nn E a w r hb;obtain⟨L,hL,hp,cJ,hK,he⟩:=iK ops.toList [] st _ (jV.refl _) (fun j o d hj=>by simp at hj) h;rw[bF] at hp he;have il:jG N ops false=true:=hc;have k0:=r.kb;have r0:ca O E w w0.heap.size N (st.nx+128*ops.size) st a:=r.mono (by omega)
 have fin:∀ E' w' a',ca O E' w' w0.heap.size N (st.nx+128*ops.size) (bM st L) a'->Below w0.heap.size w0 w'->kR w0 N O Q .normal a' w':=fun E' w' a' r' eF=>by
  obtain⟨sl,bx,dB,nx⟩:=cJ;simp only[jZ] at hK;refine⟨_,E',hK,?_,eF⟩;have VY:jV (bM st L) ⟨sl,bx,dB,st.nx+128*ops.size⟩:=⟨he.sl,he.bx,he.rw⟩
  exact VY.rep r'
 refine wpIn_region ?_;rw[List.range_eq_range'];exact Jv hT il n9 hL hp k0 (al _) ops.size 0 E w a (by omega) (by simpa [bM] using r0) fun E' w' a' r' eF=>fin E' w' a' r' (hb.trans eF)
omit [GlC O] in
theorem Kz.block {id:Nat}{c:Code}{st:St}{Q:Ex->St->Prop}(h:Kz P T N w0 O ro c st (qC id Q)):Kz P T N w0 O ro (.block id c) st Q:=fun hT hc nn E a w r hb=>by
 unfold aaV at hc;refine wpIn_block (wpIn_mono (h hT hc nn E a w r hb) fun e a' w' hp=>?_)
 cases e with
 | normal=>
  obtain⟨cJ,E',hq,r',eF⟩:=hp;exact⟨cJ,E',hq,r',eF⟩
 | exit i=>
  obtain⟨cJ,E',hq,r',eF⟩:=hp;unfold qC at hq;simp only at hq;show(if i=id then kR w0 N O Q .normal a' w' else kR w0 N O Q (.exit i) a' w')
  by_cases e:i=id
  ·subst e;rw[show Nat.beq i i=true by simp] at hq;rw[if_pos rfl];exact⟨cJ,E',hq,r',eF⟩
  ·have:Nat.beq i id=false:=by
    cases hb:Nat.beq i id
    ·rfl
    ·exact absurd (ah hb) e
   rw[this] at hq;rw[if_neg e];exact⟨cJ,E',hq,r',eF⟩
 | ret=>
  obtain⟨cJ,E',hq,r',eF⟩:=hp;exact⟨cJ,E',hq,r',eF⟩
 | goto l=>exact hp.elim
 | panic ch=>exact hp.elim
 | outgrown=>exact hp.elim
end
section
variable {P:Program}{T:Nat->Option Ty}
structure OH (K:Nat->Prop)(w w':World):Prop where
 os:w'.os=w.os
 tape:w'.tape=w.tape
 output:w'.output=w.output
 size:w.heap.size<=w'.heap.size
 block:∀ b,b < w.heap.size->K b->w'.heap[b]? = w.heap[b]?
abbrev JT:=Nat->(Nat->Prop)->(Nat->Prop)->World->Prop
structure SL (J:JT):Prop where
 ab:∀ k K Ko W W',J k K Ko W->OH K W W'->J k K Ko W'
 lt:∀ k K Ko W,J k K Ko W->∀ b,K b->b < W.heap.size
 ko:∀ k K Ko W,J k K Ko W->∀ b,Ko b->K b
def KA (P:Program)(l:Nat)(J:JT)(n0:Nat)(E0:Env)(k:Nat)(x:AV):Prop:=
 ∀ K Ko W1 E1 v,J k K Ko W1->R1 E1 W1 v x->(∀ b,b < n0->E1.rl b=.bz->E0.rl b=.bz)->(∀ b,Ko b->E1.rl b≠.bz)->
  YieldAt Fence.wide 0 P l #[v] W1 fun e W'=>e=.returned (.bool true)/\Gl W'/\∃ K' F4,J (k+1) K' F4 W'/\OH (fun b=>¬ K b\/E1.rl b=.bz) W1 W'/\(∀ b,K' b->K b\/E1.rl b=.bz\/W1.heap.size<=b)/\(∀ b,F4 b->Ko b\/W1.heap.size<=b)
structure Sq (P:Program)(g:FuncId)(caps xs:List AV):Prop where
 NZ:KP P g
 run:∀ (W:World) (us:List Value) (E0:Env),Gl W->A2 (R1 E0 W) us caps->∀ (l:Nat) (J:JT),SL J->(∀ k (hk:k < xs.length),KA P l J W.heap.size E0 k xs[k])->∀ K Ko,J 0 K Ko W->(∀ b,Ko b->E0.rl b≠.bz)->
  Calls P g (#[.func (.yield l) #[] #[]]++us.toArray) W fun e W'=>(∃ v,e=.returned v)/\∃ K Ko,J xs.length K Ko W'
section
variable {O:gD}{E:Env}{w:World}{n0 N m:Nat}{st:St}{a:Act}
theorem ca.re (h:ca O E w n0 N m st a)(G:Nat->Option Obj)(n:Nat)(hn:n<=w.heap.size)(hG:∀ b x,G b=some x->w.heap[b]? = some x/\(E.rl b=.bz\/E.rl b=.dX)):ca ⟨fun b=>E.rl b=.bz,G,fun _=>none,fun _=>none,n,O.d⟩ E w n0 N m st a:=
 ⟨h.xc,h.sz,h.slt,h.box,h.row,h.sc,h.hi,fun b hb=>(h.mi b hb).elim (fun h=>.inl ⟨h.1,h.1⟩) .inr,fun b x hx=>(by
  obtain⟨h1,h2⟩:=hG b x hx;refine⟨h1,h2.elim (fun h=>.inl ⟨h,h⟩) fun h=>.inr ⟨h,fun hc=>?_⟩⟩;have hc:E.rl b=.bz:=hc;rw[h] at hc
  cases hc),fun _ _ h=>(by cases h),fun _ _ h=>(by cases h),hn⟩
theorem ca.fr (h:ca O E w n0 N m st a){E':Env}{w':World}(hg:∀ b,O.g b=none)(hv:∀ b,O.v b=none)(hb:∀ b,O.b b=none)(hs:w.heap.size<=w'.heap.size)(hk:∀ b,b < w.heap.size->E.rl b≠.dX->w'.heap[b]? = w.heap[b]?)(hE:∀ b,b < w.heap.size->E.rl b≠.dX->E'.rl b=E.rl b)(ho:∀ b,b < n0->E.rl b=.dX->E'.rl b=.dX)(FF:E'.bk=E.bk)(Ft:E'.vl=E.vl):ca O E' w' n0 N m st a:=by
 have hc:∀ b,E.rl b=.bz->b < w.heap.size->w'.heap[b]? = w.heap[b]?/\E'.rl b=.bz:=fun b h1 h2=>⟨hk b h2 (by rw[h1];intro h;cases h),by rw[hE b h2 (by rw[h1];intro h;cases h),h1]⟩
 refine⟨h.xc,h.sz,fun t=>(h.slt t).fr hs hc (fun p _=>by rw[Ft]) (fun b _=>by rw[FF]),fun i cs hi=>(h.box i cs hi).fr hs hc (fun p _=>by rw[Ft]) (by rw[FF]) fun h1 h2=>⟨hk _ h1 (by rw[h2];intro h;cases h),by rw[hE _ h1 (by rw[h2];intro h;cases h),h2]⟩,
  fun τ R hR=>(h.row τ R hR).fr hs hc (by rw[Ft]) (fun d _ l _=>by rw[Ft]) (fun g _ h1 h2=>⟨hk _ h1 (by rw[h2];intro h;cases h),by rw[hE _ h1 (by rw[h2];intro h;cases h),h2]⟩) (fun g j o h1 h2=>⟨hk _ h1 (by rw[h2];intro h;cases h),by rw[hE _ h1 (by rw[h2];intro h;cases h),h2]⟩),
  h.sc,bd h.hi hs,fun b CD=>?_,fun b x hx=>(by rw[hg b] at hx;cases hx),fun j V hj=>(by rw[hv j] at hj;cases hj),fun j V hj=>(by rw[hb j] at hj;cases hj),bd h.sn hs⟩
 rcases h.mi b CD with⟨h1,h2⟩|h1
 ·exact .inl ⟨by rw[hE b (cd CD h.hi) (by rw[h1];intro h;cases h),h1],h2⟩
 ·exact .inr (ho b CD h1)
end
structure JI (J:JT)(E0:Env)(n0 k:Nat)(E:Env)(w:World)(K Ko:Nat->Prop):Prop where
 j:J k K Ko w
 ko:∀ b,Ko b->E.rl b=.dX
 ki:∀ b,K b->E.rl b=.bz\/E.rl b=.dX
 e0:∀ b,b < n0->E.rl b=.bz->E0.rl b=.bz
def PJ (J:JT)(E0:Env)(n0 N:Nat)(Q:St->Nat->Prop)(a:Act)(w:World):Prop:=∃ st k O E K Ko,Q st k/\en O/\O.d=[]/\aaP O E w n0 N st a/\JI J E0 n0 k E w K Ko
def cpJ (J:JT)(E0:Env)(n0 N:Nat)(Q:Ex->St->Nat->Prop):Exit->Act->World->Prop
 | .normal,a,w=>PJ J E0 n0 N (Q .ic) a w
 | .exit id,a,w=>PJ J E0 n0 N (Q (.exit id)) a w
 | .ret,a,w=>PJ J E0 n0 N (Q .ret) a w
 | _,_,_=>False
def fA (P:Program)(T:Nat->Option Ty)(J:JT)(E0:Env)(n0 N:Nat)(c:Code)(st:St)(k:Nat)(Q:Ex->St->Nat->Prop):Prop:=
 dg P T->aaV N c=true->∀ O E a w K Ko,en O->O.d=[]->aaP O E w n0 N st a->JI J E0 n0 k E w K Ko->c.wp P (cpJ J E0 n0 N Q) a w
section
variable {J:JT}{E0:Env}{n0 N:Nat}
open Classical in
noncomputable def gK (w:World)(K:Nat->Prop)(b:Nat):Option Obj:=if K b\/b=0 then w.heap[b]? else none
theorem FK {w:World}{K:Nat->Prop}{b:Nat}(h:K b\/b=0):gK w K b=w.heap[b]?:=by unfold gK;rw[if_pos h]
theorem Wh {w:World}{K:Nat->Prop}{b:Nat}(h:¬ (K b\/b=0)):gK w K b=none:=by unfold gK;rw[if_neg h]
noncomputable def Gj (E:Env)(w:World)(K:Nat->Prop)(d:List Deferred):gD:=⟨fun b=>E.rl b=.bz,gK w K,fun _=>none,fun _=>none,w.heap.size,d⟩
theorem my {E:Env}{w:World}{K:Nat->Prop}{d:List Deferred}(h:Gl w):en (Gj E w K d):=qb (fun _=>rfl) (fun _=>rfl) h (FK (.inr rfl))
theorem JI.X8 {O:gD}{E:Env}{w:World}{n0 N m k:Nat}{st:St}{a:Act}{K Ko:Nat->Prop}(j:JI J E0 n0 k E w K Ko)(hr0:E.rl 0=.bz\/E.rl 0=.dX)(r:ca O E w n0 N m st a):ca (Gj E w K O.d) E w n0 N m st a:=
 r.re (gK w K) w.heap.size (al _) fun b x hx=>by
  by_cases hk:K b\/b=0
  ·rw[FK hk] at hx;exact⟨hx,hk.elim (j.ki b) fun e=>by rw[e];exact hr0⟩
  ·rw[Wh hk] at hx
   cases hx
theorem JI.rep {O:gD}[GlC O]{E:Env}{w:World}{n0 N m k:Nat}{st:St}{a:Act}{K Ko:Nat->Prop}(j:JI J E0 n0 k E w K Ko)(r:ca O E w n0 N m st a):ca (Gj E w K O.d) E w n0 N m st a:=j.X8 r.SV r
theorem JI.next (hJ:SL J){E E':Env}{w w':World}{n0 N m k:Nat}{st:St}{a:Act}{K Ko:Nat->Prop}{d:List Deferred}(j:JI J E0 n0 k E w K Ko)(r2:ca (Gj E w K d) E' w' n0 N m st a)(hb:Below n0 w w'):JI J E0 n0 k E' w' K Ko:=by
 have hK:∀ b,K b->w'.heap[b]? = w.heap[b]?/\(E'.rl b=.bz/\E.rl b=.bz\/E'.rl b=.dX/\¬ E.rl b=.bz):=fun b hk=>by
  obtain⟨x,hx⟩:∃ x,w.heap[b]? = some x:=⟨_,Array.getElem?_eq_getElem (hJ.lt k K Ko w j.j b hk)⟩
  obtain⟨g1,g2⟩:=r2.gh b x (by
   show gK w K b=_;rw[FK (.inl hk)];exact hx)
  exact⟨g1.trans hx.symm,g2⟩
 have hs:OH K w w':=⟨hb.os,hb.tape,hb.output,r2.sn,fun b _ hk=>(hK b hk).1⟩
 refine⟨hJ.ab k K Ko w w' j.j hs,fun b dD=>?_,fun b dD=>?_,fun b CD he=>?_⟩
 ·have hk:=hJ.ko k K Ko w j.j b dD;rcases(hK b hk).2 with⟨_,h2⟩|⟨h1,_⟩
  ·rw[j.ko b dD] at h2
   cases h2
  ·exact h1
 ·rcases(hK b dD).2 with⟨h1,_⟩|⟨h1,_⟩
  ·exact .inl h1
  ·exact .inr h1
 ·rcases r2.mi b CD with⟨_,h2⟩|h1
  ·exact j.e0 b CD h2
  ·rw[h1] at he
   cases he
theorem fA.xS {c:Code}{st:St}{k:Nat}{Q:Ex->St->Nat->Prop}(hJ:SL J)(h:∀ w0 O [en O],Tp P T N w0 O c st (fun e cJ=>Q e cJ k)):fA P T J E0 n0 N c st k Q:=fun hT hc O E a w K Ko hO hd r j=>by
 haveI:=hO
 haveI:en (Gj E w K O.d):=my r.gl
 obtain⟨w0,OZ,Xg⟩:∃ w0:World,Below n0 w0 w/\w0.heap.size=n0:=⟨{ w with heap:=w.heap.extract 0 n0 },⟨rfl,rfl,rfl,by show(w.heap.extract 0 n0).size<=_;rw[Array.size_extract];omega,fun b hb=>by
  show w.heap[b]? = (w.heap.extract 0 n0)[b]?;have:=r.hi
  rw[Array.getElem?_extract,if_pos (by omega),bu]⟩,by
   have:=r.hi;show(w.heap.extract 0 n0).size=n0;rw[Array.size_extract];omega⟩
 subst Xg;refine wp_mono (h w0 (Gj E w K O.d) hT hc E a w (j.rep r) OZ) fun e a' w' hp=>?_
 have fin:∀ x,(∃ cJ E',Q x cJ k/\aaP (Gj E w K O.d) E' w' w0.heap.size N cJ a'/\Below w0.heap.size w0 w')->PJ J E0 w0.heap.size N (Q x) a' w':=fun x ⟨cJ,E',hq,r2,hb⟩=>
  ⟨cJ,k,Gj E w K O.d,E',K,Ko,hq,my r.gl,hd,r2,j.next hJ r2 ⟨hb.os.trans OZ.os.symm,hb.tape.trans OZ.tape.symm,hb.output.trans OZ.output.symm,r2.sn,fun b CD=>(hb.block b CD).trans (OZ.block b CD).symm⟩⟩
 cases e with
 | normal=>exact fin _ hp
 | exit id=>exact fin _ hp
 | ret=>exact fin _ hp
 | goto l=>exact hp.elim
 | panic ch=>exact hp.elim
 | outgrown=>exact hp.elim
theorem fA.wk (hJ:SL J){c:Code}{st cJ:St}{k:Nat}{Q:Ex->St->Nat->Prop}(hw:Wk st cJ)(h:fA P T J E0 n0 N c cJ k Q):fA P T J E0 n0 N c st k Q:=fun hT hc O E a w K Ko hO hd r j=>by
 haveI:=hO
 haveI:en (Gj E w K O.d):=my r.gl
 obtain⟨E',r'⟩:=hw (Gj E w K O.d) E w n0 N a (j.rep r);exact h hT hc (Gj E w K O.d) E' a w K Ko inferInstance hd r' (j.next hJ r' (Below.refl _ _))
def YC (K:St->Nat->Prop)(Q:Ex->St->Nat->Prop)(e:Ex)(st:St)(k:Nat):Prop:=match e with
 | .ic=>K st k
 | e=>Q e st k
theorem fA.seq {x y:Code}{st:St}{k:Nat}{Q:Ex->St->Nat->Prop}(h:fA P T J E0 n0 N x st k (YC (fun cJ k'=>fA P T J E0 n0 N y cJ k' Q) Q)):fA P T J E0 n0 N (.seq x y) st k Q:=fun hT hc O E a w K Ko hO hd r j=>by
 unfold aaV at hc;rw[ag] at hc;refine wp_seq (wp_mono (h hT hc.1 O E a w K Ko hO hd r j) fun e a' w' hp=>?_)
 cases e with
 | normal=>
  obtain⟨cJ,k',O',E',K',F4,hq,hO',jJ,r',j'⟩:=hp;exact hq hT hc.2 O' E' a' w' K' F4 hO' jJ r' j'
 | exit id=>exact hp
 | ret=>exact hp
 | goto l=>exact hp.elim
 | panic ch=>exact hp.elim
 | outgrown=>exact hp.elim
theorem fA.cond {c:Operand}{x y:Code}{st:St}{k:Nat}{Q:Ex->St->Nat->Prop}{t:Bool}(hv:ev st c=.c (.t (.lit (.bool t))))(h1:t=true->fA P T J E0 n0 N x st k Q)(h2:t=false->fA P T J E0 n0 N y st k Q):fA P T J E0 n0 N (.cond c x y) st k Q:=fun hT hc O E a w K Ko hO hd r j=>by
 unfold aaV at hc;rw[ag] at hc;have hr:=df r c;rw[hv] at hr;exact wp_cond_split (dO hr) (fun e=>h1 e hT hc.1 O E a w K Ko hO hd r j) (fun e=>h2 e hT hc.2 O E a w K Ko hO hd r j)
theorem fA.skip {st:St}{k:Nat}{Q:Ex->St->Nat->Prop}(h:Q .ic st k):fA P T J E0 n0 N .skip st k Q:=fun _ _ O E _ _ K Ko hO hd r j=>wp_skip ⟨st,k,O,E,K,Ko,h,hO,hd,r,j⟩
theorem fA.exit {id:Nat}{st:St}{k:Nat}{Q:Ex->St->Nat->Prop}(h:Q (.exit id) st k):fA P T J E0 n0 N (.exit id) st k Q:=fun _ _ O E _ _ K Ko hO hd r j=>wp_exit ⟨st,k,O,E,K,Ko,h,hO,hd,r,j⟩
def Z1 (id:Nat)(Q:Ex->St->Nat->Prop)(e:Ex)(st:St)(k:Nat):Prop:=match e with
 | .exit i=>match Nat.beq i id with
  | true=>Q .ic st k
  | false=>Q (.exit i) st k
 | e=>Q e st k
theorem fA.block {id:Nat}{c:Code}{st:St}{k:Nat}{Q:Ex->St->Nat->Prop}(h:fA P T J E0 n0 N c st k (Z1 id Q)):fA P T J E0 n0 N (.block id c) st k Q:=fun hT hc O E a w K Ko hO hd r j=>by
 unfold aaV at hc;refine wp_block (wp_mono (h hT hc O E a w K Ko hO hd r j) fun e a' w' hp=>?_)
 cases e with
 | normal=>exact hp
 | exit i=>
  obtain⟨cJ,k',O',E',K',F4,hq,rest⟩:=hp;unfold Z1 at hq;simp only at hq;show(if i=id then cpJ J E0 n0 N Q .normal a' w' else cpJ J E0 n0 N Q (.exit i) a' w')
  by_cases e:i=id
  ·subst e;rw[show Nat.beq i i=true by simp] at hq;rw[if_pos rfl];exact⟨cJ,k',O',E',K',F4,hq,rest⟩
  ·have:Nat.beq i id=false:=by
    cases hb:Nat.beq i id
    ·rfl
    ·exact absurd (ah hb) e
   rw[this] at hq;rw[if_neg e];exact⟨cJ,k',O',E',K',F4,hq,rest⟩
 | ret=>exact hp
 | goto l=>exact hp.elim
 | panic ch=>exact hp.elim
 | outgrown=>exact hp.elim
theorem fA.loop (hJ:SL J){c:Code}{st:St}{k:Nat}{Q:Ex->St->Nat->Prop}{α:Type}(I:α->St)(kk:α->Nat)(ok:α->Prop)(μ:α->Nat)(x0:α)(h0:Wk st (I x0))(Nz:kk x0=k)(s8:ok x0)
  (round:∀ x,ok x->fA P T J E0 n0 N c (I x) (kk x) (fun e cJ k'=>match e with
   | .ic=>∃ y,ok y/\kk y=k'/\μ y < μ x/\Wk cJ (I y)
   | e=>Q e cJ k')):fA P T J E0 n0 N (.loop c) st k Q:=fA.wk hJ h0 fun hT hc O E a w K Ko hO hd r j=>by
 unfold aaV at hc;subst Nz;refine nP (fun n a w=>∃ x O E K Ko,ok x/\μ x=n/\en O/\O.d=[]/\aaP O E w n0 N (I x) a/\JI J E0 n0 (kk x) E w K Ko) (n:=μ x0) ⟨x0,O,E,K,Ko,s8,rfl,hO,hd,r,j⟩ ?_;rintro n a w ⟨x,O,E,K,Ko,hx,rfl,hO,hd,r,j⟩;refine wp_mono (round x hx hT hc O E a w K Ko hO hd r j) fun e a' w' hp=>?_
 cases e with
 | normal=>
  obtain⟨cJ,k',O',E',K',F4,⟨y,h1,h2,h3,h4⟩,hO',jJ,r',j'⟩:=hp;subst h2
  haveI:=hO'
  haveI:en (Gj E' w' K' O'.d):=my r'.gl
  obtain⟨E2,r2⟩:=h4 (Gj E' w' K' O'.d) E' w' n0 N a' (j'.rep r');exact⟨μ y,h3,y,Gj E' w' K' O'.d,E2,K',F4,h1,rfl,inferInstance,jJ,r2,j'.next hJ r2 (Below.refl _ _)⟩
 | exit id=>exact hp
 | ret=>exact hp
 | goto l=>exact hp.elim
 | panic ch=>exact hp.elim
 | outgrown=>exact hp.elim
end
end
section
variable {P:Program}{T:Nat->Option Ty}{O:gD}[GlC O]
theorem kf {ro:Option Nat}{nn:Nat}(hT:dg P T){ops:Array Oper}{N n0 id m i0:Nat}{s0:St}{L:List (Oper × Dl)}(il:jG N ops false=true)(n9:ops.toList.all vJ=true)(hL:∀ j o d,L[j]? = some (o,d)->ops[i0+j]? = some o)(hp:eL P T ops id s0 L)(k:Kb s0 id)(hm:id+128*L.length<=m){Q:Exit->Act->World->Prop}{rest:List Nat} :
  ∀ (n j:Nat) (E:Env) (w:World) (a:Act),j+n=L.length->ca O E w n0 N m (bM s0 (L.take j)) a->(∀ E' w' a',ca O E' w' n0 N m (bM s0 L) a'->Below n0 w w'->wpOpsIn (wid ro) nn P ops Q rest a' w')->wpOpsIn (wid ro) nn P ops Q (List.range' (i0+j) n++rest) a w:=by
 intro n
 induction n with
 | zero=>
  intro j E w a hj r hQ;have nE:j=L.length:=by omega
  subst nE;rw[bm] at r;exact hQ E w a r (Below.refl _ _)
 | succ n ih=>
  intro j E w a hj r hQ;have aS:j < L.length:=by omega
  obtain⟨o,d,Hr⟩:∃ o d,L[j]? = some (o,d):=⟨(L[j]'aS).1,(L[j]'aS).2,by rw[cD]⟩
  have sg:ops[i0+j]? = some o:=hL j o d Hr;have hod:vJ o=true:=aN.1 n9 o (aU (by rw[cp];exact sg));have FB:=jY il sg;have uk:=(mg hp k j (by omega)).fresh
  have step:∀ E' v w',ca O E' w' n0 N m ((bM s0 (L.take j)).app o.dst d) (a.put o.dst v)->Below n0 w w'->wpOpsIn (wid ro) nn P ops Q (List.range' (i0+j+1) n++rest) (a.put o.dst v) w':=fun E' v w' r' hb=>by
   refine ih (j+1) E' w' _ (by omega) ?_ fun E2 w2 a2 r2 dD=>hQ E2 w2 a2 r2 (hb.trans dD);rw[List.take_add_one,Hr,Option.toList_some,ek];exact r'
  obtain⟨b,h1,h2,h3⟩:=hp j o d Hr;rw[List.range'_succ,List.cons_append];unfold wpOpsIn;simp only[sg];rw[oP h1 r]
  cases b with
  | true=>
   rw[if_pos rfl];exact GL (GV hod) (rK hT r FB uk (by omega) (h2 rfl) _ _ step)
  | false=>
   rw[if_neg (by simp)];refine⟨fun _ _=>trivial,?_⟩;rw[h3 rfl] at step;exact step E undef w (r.app FB (Mv.refl _ _ _ _ _) (kv ⟨fun b hb=>(by cases hb),fun p hp=>(by cases hp)⟩) ⟨[],rfl,.nil⟩ (fun _ _ h=>by cases h) (fun _ _ h=>by cases h)) (Below.refl _ _)
theorem wc {E0:Env}{w:World}{vs:List Value}{dH:List AV}{N:Nat}(lJ:Gl w)(mq:dH.all AV.plain=true)(hn:dH.length<=N)(ha:A2 (R1 E0 w) vs dH):∃ E:Env,(∀ b,E.rl b=.bz->E0.rl b=.bz)/\(∀ b,E.rl b=.bz\/E.rl b=.dX)/\aaP ⟨fun b=>E0.rl b=.bz,fun b=>if b=0 then w.heap[0]? else none,fun _=>none,fun _=>none,0,[]⟩ E w w.heap.size N ⟨ka 0 dH,[],[],0⟩ { tmps:=vs.toArray++Array.replicate (N - vs.toArray.size) undef,defers:=[] }:=by
 have hlen:=ha.len
 obtain⟨E,FI,Ak,NH⟩:∃ E:Env,(∀ b,b < w.heap.size->E0.rl b=.bz->E.rl b=.bz)/\(∀ b,E.rl b=.bz->E0.rl b=.bz)/\(∀ b,E.rl b=.bz\/E.rl b=.dX):=by
  refine⟨⟨fun b=>match E0.rl b with
   | .bz=>.bz
   | _=>.dX,fun _=>0,fun _ _=>undef⟩,fun b _ h=>by simp only[h],fun b h=>?_,fun b=>?_⟩
  ·simp only at h;split at h
   ·rename_i e;exact e
   ·cases h
  ·simp only;split
   ·exact .inl rfl
   ·exact .inr rfl
 have rt:∀ {v t},RT E0.F w v t->RT E.F w v t:=fun h=>by
  refine h.frame (al _) (fun _ _ _=>rfl) (fun b hb aS=>FI b aS hb)
 have Uj:∀ {v t},iR E0.F w v t->iR E.F w v t:=fun h=>by
  refine h.frame (al _) (fun _ _ _=>rfl) (fun b hb aS=>FI b aS hb)
 have rc:∀ {v c},Ce.plain c=true->RC E0 w v c->RC E w v c:=fun {v c} hp h=>by
  cases c with
  | t x=>exact rt h
  | nil=>exact h
  | _=>cases hp
 have a2:∀ {vs cs},cs.all Ce.plain=true->A2 (RC E0 w) vs cs->A2 (RC E w) vs cs:=fun {vs cs} hp h=>by
  induction h with
  | nil=>exact .nil
  | cons h1 _ ih=>
   rw[List.all_cons,ag] at hp;exact .cons (rc hp.1 h1) (ih hp.2)
 have ri:∀ {v:Value} {xs:List Tr} {o:Nat},RI E0 w v xs o->RI E w v xs o:=fun h=>by
  obtain⟨g,p,vs,rfl,h1,h2,h3,h4⟩:=h;exact⟨g,p,vs,rfl,FI g h2 h1,h2,h3,Uj h4⟩
 have r1:∀ {v a},AV.plain a=true->R1 E0 w v a->R1 E w v a:=fun {v a} hp h=>by
  cases a with
  | c x=>exact rc hp h
  | agg xs=>
   obtain⟨vs,rfl,h⟩:=h;exact⟨vs,rfl,a2 hp h⟩
  | eE=>exact h
  | dv xs o=>exact ri h
  | kp f cs=>
   obtain⟨us,rfl,h⟩:=h;exact⟨us,rfl,h.imp fun _ _ _ h=>ri h⟩
  | _=>cases hp
 refine⟨E,Ak,NH,?_⟩
 ·skip
  have slot:∀ t,∀ a,dH[t]? = some a->AV.plain a=true:=fun t a ht=>aN.1 mq a (aU ht)
  refine⟨rfl,by simp only[Array.size_append,List.size_toArray,Array.size_replicate];omega,fun t=>?_,fun _ _ h=>(by cases h),fun _ _ h=>(by cases h),⟨fun t b hb=>?_,fun t p hp=>?_,fun _ _ h=>(by cases h),fun _ _ h=>(by cases h),fun _ _ h=>(by cases h),fun _ _ _ h=>(by cases h)⟩,al _,fun b _=>(NH b).elim (fun h=>.inl ⟨h,Ak b h⟩) .inr,fun b x hb=>(by
   have hb:(if b=0 then w.heap[0]? else none)=some x:=hb;split at hb
   ·rename_i h0;subst h0;exact⟨hb,(NH 0).elim (fun h=>.inl ⟨h,Ak 0 h⟩) fun h=>.inr ⟨h,fun hc=>by rw[FI 0 lJ.lt hc] at h;cases h⟩⟩
   ·cases hb),fun _ _ h=>(by cases h),fun _ _ h=>(by cases h),aD _⟩
  ·show RV E w _ (match lk (ka 0 dH) t with|some v=>v|none=>.bot);rw[jm,if_pos (aD _),Nat.sub_zero]
   cases ht:dH[t]? with
   | none=>exact⟨⟩
   | some a=>
    obtain⟨u,hu,hr⟩:=ha.get t a ht;have aS:=(an.1 hu).1;rw[Array.getD_eq_getD_getElem?,Array.getElem?_append_left (by simpa using aS),List.getElem?_toArray,hu];exact(r1 (slot t a ht) hr).rv
  ·have hb:b∈(match lk (ka 0 dH) t with|some v=>v|none=>AV.bot).dJ:=hb;rw[jm,if_pos (aD _),Nat.sub_zero] at hb
   cases ht:dH[t]? with
   | none=>rw[ht] at hb;cases hb
   | some a=>
    rw[ht] at hb;have hb:b∈a.dJ:=hb;rw[(nu (slot t a ht)).1] at hb
    cases hb
  ·have hp:p∈(match lk (ka 0 dH) t with|some v=>v|none=>AV.bot).cB:=hp;rw[jm,if_pos (aD _),Nat.sub_zero] at hp
   cases ht:dH[t]? with
   | none=>rw[ht] at hp;cases hp
   | some a=>
    rw[ht] at hp;have hp:p∈a.cB:=hp;rw[(nu (slot t a ht)).2] at hp
    cases hp
section
variable {J:JT}{E0:Env}{n0 N:Nat}
theorem M7 {st:St}{n:Nat}(h:Kb st n)(t:Option Nat)(v:AV):Kb (st.app t (.val v)) n:=by
 refine⟨fun b cs hb=>h.1 b cs ?_,fun τ R hR=>h.2 τ R ?_⟩
 ·cases t <;> exact hb
 ·cases t <;> exact hR
theorem fA.yield {id l k:Nat}{ops:Array Oper}{st:St}{Q:Ex->St->Nat->Prop}(hJ:SL J){x:AV}(hR:KA P l J n0 E0 k x)(pre post:List Oper)(f y:Operand)(qM:Array TypeId)(dst:Option Nat)(ty:TypeId)(pos:String)(Ox:Array Edge)(Nu:ops.toList=pre++⟨dst,.call ⟨.value f,#[y],qM⟩,ty,pos,Ox,none⟩ :: post)(n9:ops.toList.all vJ=true)
  (h:ju P T ops st.nx 0 pre st fun mK=>ev mK f=.c (.t (.lit (.func (.yield l) #[] #[])))/\((ev mK y).cB=[]/\(ev mK y).dJ=[]/\Fit mK (ev mK y) x)/\ju P T ops (st.nx+128*(pre.length+1)) 0 post (mK.app dst (.val (aB0 true))) fun Pv=>match Pv with
   | ⟨sl,bx,rw,_⟩=>mA (st.nx+128*ops.size) fun nx=>Q .ic ⟨sl,bx,rw,nx⟩ (k+1)):fA P T J E0 n0 N (.region id ops false) st k Q:=fun hT hc O E a w K Ko hO hd r j=>by
 have il:jG N ops false=true:=hc;obtain⟨L,hL,hp,mK,⟨hf,hy,Nt⟩,he⟩:=iK pre [] st _ (jV.refl _) (fun j o d hj=>by simp at hj) h;rw[bF] at hp he;obtain⟨L2,FH,sf,Pv,ZB,py⟩:=iK post [] (mK.app dst (.val (aB0 true))) _ (jV.refl _) (fun j o d hj=>by simp at hj) Nt;simp only[bF] at sf py;have Zj:L.length=pre.length:=by rw[<- hL,Lm]
 have VI:L2.length=post.length:=by rw[<- FH,Lm]
 have lh:ops.size=pre.length+1+post.length:=by rw[<- bD,Nu,au,aq];omega
 have Hp:∀ i,ops[i]? = (pre++⟨dst,.call ⟨.value f,#[y],qM⟩,ty,pos,Ox,none⟩ :: post)[i]?:=fun i=>by rw[<- Nu,cp]
 haveI:=hO
 haveI:en (Gj E w K O.d):=my r.gl
 have k0:Kb st st.nx:=r.kb;have hlen:st.nx+128*ops.size=st.nx+128*(pre.length+1)+128*post.length:=by rw[lh];omega
 have r0:=(j.rep r).mono (m':=st.nx+128*ops.size) (Nat.le_add_right _ _)
 have FB:∀ t,dst=some t->t < N:=fun t ht=>by
  have:=jY il (j:=pre.length) (o:=⟨dst,.call ⟨.value f,#[y],qM⟩,ty,pos,Ox,none⟩) (by rw[Hp,aY (al _),Nat.sub_self];rfl);exact this t ht
 refine(wpIn_wide (n:=0)).1 (wpIn_region ?_)
 rw[List.range_eq_range',show List.range' 0 ops.size=List.range' (0+0) pre.length++(pre.length :: (List.range' (pre.length+1+0) post.length++[])) by
  rw[aZ,cO,cO,lh,<- List.range'_succ,show pre.length+1+post.length=pre.length+(post.length+1) by omega];have:=List.range'_append_1 (s:=0) (m:=pre.length) (n:=post.length+1);rw[bu] at this;exact this.symm]
 refine kf (ro:=none) hT il n9 (fun i o d hi=>?_) hp k0 (m:=st.nx+128*ops.size) (by rw[Zj];omega) pre.length 0 E w a (by omega) (by simpa [bM] using r0) fun E1 w1 a1 r1 xw=>?_
 ·have:pre[i]? = some o:=by rw[<- hL,bp,hi];rfl
  rw[Hp,bu,bn (an.1 this).1,this]
 have r1:=he.rep r1;have j1:=j.next hJ r1 xw
 have mN:=df r1 f;rw[hf] at mN;have VQ:a1.eval f=.func (.yield l) #[] #[]:=dO mN;obtain⟨Xc,YX,hy3⟩:=hy;have hx:R1 E1 w1 (a1.eval y) x:=FM r1 (fun _ h=>h) (.inl ⟨Xc,YX⟩) hy3 (df r1 y)
 obtain⟨fn,tmps,assign,body,kj,VA⟩:=hR K Ko w1 E1 (a1.eval y) j1.j hx j1.e0 fun b hb he=>by
  rw[j1.ko b hb] at he
  cases he
 unfold wpOpsIn;have hoy:ops[pre.length]? = some ⟨dst,.call ⟨.value f,#[y],qM⟩,ty,pos,Ox,none⟩:=by rw[Hp,aY (al _),Nat.sub_self];rfl
 simp only[hoy];rw[if_pos (by rfl)];refine⟨fun _ _=>trivial,?_⟩
 have Y8:(Oper.semAt (wid none).round a1.eval ⟨dst,.call ⟨.value f,#[y],qM⟩,ty,pos,Ox,none⟩).run P w1=.ok (.round l fn tmps assign body) w1:=by
  rw[show(wid none).round=none from rfl,Oper.semAt_none,<- kj];unfold execOp;simp only[resolve,VQ,Deferred.ofValue,Sem.run_bind,Sem.run_pure,Result.andThen_ok,invoke];rw[show(#[]++Array.map a1.eval #[y])=#[a1.eval y] from by simp]
 rw[Y8];refine⟨fun h=>(by cases h),RoundIn.mono VA fun e w2 VE=>?_⟩;obtain⟨rfl,JQ,K',F4,hj',fR,CB,aeW⟩:=VE;show wpOpsIn (wid none) 0 P ops (cpJ J E0 n0 N Q) (List.range' (pre.length+1+0) post.length++[]) (a1.put dst (.bool true)) w2;have r1b:=r1.re (fun _=>none) 0 (aD _) fun _ _ h=>(by cases h)
 have r2:=r1b.fr (E':=⟨fun b=>if b < w1.heap.size then E1.rl b else .dX,E1.bk,E1.vl⟩) (w':=w2) (fun _=>rfl) (fun _=>rfl) (fun _=>rfl) fR.size (fun b hb hn=>fR.block b hb (by
  by_cases hkb:K b
  ·exact .inr ((j1.ki b hkb).resolve_right hn)
  ·exact .inl hkb)) (fun b hb _=>if_pos hb) (fun b hb hn=>by
   show(if b < w1.heap.size then E1.rl b else .dX)=.dX;split
   ·exact hn
   ·rfl) rfl rfl
 have r3:=r2.app FB (Mv.refl _ _ _ _ _) (d:=.val (aB0 true)) (kv (GW _ (.bool true))) (v:=.bool true) (RT.lit (v:=.bool true) rfl) (fun _ _ h=>by cases h) (fun _ _ h=>by cases h)
 have j2:JI J E0 n0 (k+1) ⟨fun b=>if b < w1.heap.size then E1.rl b else .dX,E1.bk,E1.vl⟩ w2 K' F4:=by
  refine⟨hj',fun b hb=>?_,fun b hb=>?_,fun b hb py=>?_⟩
  ·show(if b < w1.heap.size then E1.rl b else .dX)=.dX;split
   ·rename_i aS;rcases aeW b hb with h1|h1
    ·exact j1.ko b h1
    ·omega
   ·rfl
  ·show(if b < w1.heap.size then E1.rl b else .dX)=.bz\/(if b < w1.heap.size then E1.rl b else .dX)=.dX;split
   ·rename_i aS;rcases CB b hb with h1|h1|h1
    ·exact j1.ki b h1
    ·exact .inl h1
    ·omega
   ·exact .inr rfl
  ·have py:(if b < w1.heap.size then E1.rl b else .dX)=.bz:=py;split at py
   ·exact j1.e0 b hb py
   ·cases py
 have kb1:Kb (mK.app dst (.val (aB0 true))) (st.nx+128*(pre.length+1)):=by
  refine M7 ?_ _ _;have:=mg hp k0 L.length (al _);rw[bm,Zj] at this;exact⟨fun b cs hb=>by have:=this.1 b cs (by rw[<- he.bx];exact hb);omega,fun τ R hR=>by have:=this.2 τ R (by rw[<- he.rw];exact hR);omega⟩
 have r4:ca (Gj ⟨fun b=>if b < w1.heap.size then E1.rl b else .dX,E1.bk,E1.vl⟩ w2 K' O.d) ⟨fun b=>if b < w1.heap.size then E1.rl b else .dX,E1.bk,E1.vl⟩ w2 n0 N (st.nx+128*ops.size) (mK.app dst (.val (aB0 true))) (a1.put dst (.bool true)):=j2.X8 (O:=⟨fun b=>E1.rl b=.bz,fun _=>none,fun _=>none,fun _=>none,0,O.d⟩) (by
  show(if 0 < w1.heap.size then E1.rl 0 else .dX)=.bz\/(if 0 < w1.heap.size then E1.rl 0 else .dX)=.dX;rw[if_pos r1.gl.lt];exact r1.SV) r3
 haveI:en (Gj ⟨fun b=>if b < w1.heap.size then E1.rl b else .dX,E1.bk,E1.vl⟩ w2 K' O.d):=my JQ
 refine kf (ro:=none) hT il n9 (fun i o d hi=>?_) (L:=L2) sf kb1 (m:=st.nx+128*ops.size) (by rw[VI,hlen];omega) post.length 0 _ w2 _ (by omega) (by rw[List.take_zero];exact r4) fun E3 w3 a3 r5 RA=>?_
 ·have:post[i]? = some o:=by rw[<- FH,bp,hi];rfl
  rw[Hp,aY (by omega),show pre.length+1+i - pre.length=i+1 by omega,List.getElem?_cons_succ,this]
 show PJ J E0 n0 N (Q .ic) a3 w3;obtain⟨sl,bx,dB,nx⟩:=Pv;simp only[jZ] at ZB;have he3:jV (bM (mK.app dst (.val (aB0 true))) L2) ⟨sl,bx,dB,st.nx+128*ops.size⟩:=⟨py.sl,py.bx,py.rw⟩
 exact⟨_,k+1,Gj ⟨fun b=>if b < w1.heap.size then E1.rl b else .dX,E1.bk,E1.vl⟩ w2 K' O.d,E3,K',F4,ZB,my JQ,hd,he3.rep r5,j2.next hJ (he3.rep r5) RA⟩
end
theorem XU {g:FuncId}{fn:Func}{c:Code}{caps xs:List AV}(hf:P.funcs[g]? = some fn)(hb:fn.body=some c)(he:KP P g)(hT:dg P T)(hc:aaV fn.ntmps c=true)(hn:Nat.ble (caps.length+1) fn.ntmps=true)(mq:caps.all AV.plain=true)
  (h:∀ l J n0 E0,SL J->(∀ k (hk:k < xs.length),KA P l J n0 E0 k xs[k])->fA P T J E0 n0 fn.ntmps c ⟨ka 0 (.c (.t (.lit (.func (.yield l) #[] #[]))) :: caps),[],[],0⟩ 0 (fun e st k=>DK T fn (.fH []) [] e st/\k=xs.length)):Sq P g caps xs:=by
 refine⟨he,fun w us E0 lJ ha l J hJ hR K Ko hj hko=>?_⟩;have FG:A2 (R1 E0 w) (.func (.yield l) #[] #[] :: us) (.c (.t (.lit (.func (.yield l) #[] #[]))) :: caps):=.cons (RT.lit rfl) ha;obtain⟨E,Ak,NH,iX⟩:=wc (N:=fn.ntmps) lJ (by rw[List.all_cons,mq];rfl) (by rw[aq];exact Nb hn) FG;refine calls_of_wp hf hb ?_;have wj:(#[Value.func (.yield l) #[] #[]]++us.toArray)=(Value.func (.yield l) #[] #[] :: us).toArray:=by simp
 rw[wj];refine wp_mono (h l J w.heap.size E0 hJ hR hT hc ⟨fun b=>E0.rl b=.bz,fun b=>if b=0 then w.heap[0]? else none,fun _=>none,fun _=>none,0,[]⟩ E _ w K Ko (qb (fun _=>rfl) (fun _=>rfl) lJ rfl) rfl iX ⟨hj,fun b hb=>(NH b).resolve_left fun hc=>hko b hb (Ak b hc),fun b _=>NH b,fun b _ hc=>Ak b hc⟩) fun e a' w' hp=>?_
 have fin:∀ Q:St->Nat->Prop,(∀ st k,Q st k->(∃ m,Fin T fn st m (.fH []) [])/\k=xs.length)->PJ J E0 w.heap.size fn.ntmps Q a' w'->a'.defers=[]/\∃ v,(results fn a'.tmps).run P w'=.ok v w'/\((∃ v',Ending.returned v=.returned v')/\∃ K Ko,J xs.length K Ko w'):=fun Q hQ ⟨st,k,O,E',K',F4,hq,hO,hd,r,j⟩=>by
  obtain⟨⟨m,pg⟩,rfl⟩:=hQ st k hq;obtain⟨u,hu,_⟩:=Aw hT r pg;exact⟨r.xc.trans hd,u,hu,⟨u,rfl⟩,K',F4,j.j⟩
 cases e with
 | normal=>exact fin _ (fun _ _ h=>h) hp
 | ret=>exact fin _ (fun _ _ h=>h) hp
 | exit id=>
  obtain⟨st,k,O,E',K',F4,hq,_⟩:=hp;exact hq.1.elim
 | goto l=>exact hp.elim
 | panic ch=>exact hp.elim
 | outgrown=>exact hp.elim
end
section
variable {P:Program}{T:Nat->Option Ty}{O:gD}
theorem T0 (hv:∀ j,O.v j=none){st:St}(m:List (Nat × Nat)){mS:List (Nat × AV)}{fc:List (Nat × List Ce)}{dB:List (Nat × Row)}{vI:Nat}(hB:∀ j b,O.b j=some b->∃ cs,lk fc j=some cs)(hm:OV m=true)(hn:below vI fc dB=true)(hs:Xv st m dB fc mS)(hb:WW st m dB fc)(hr:TQ st m dB):∀ (E:Env) (w:World) (n0 N:Nat) (a:Act),aaP O E w n0 N st a->∃ E',aaP O E' w n0 N ⟨mS,fc,dB,vI⟩ a:=by
 intro E w n0 N a r
 have get:∀ t,(St.get ⟨mS,fc,dB,vI⟩ t)=.bot\/F8 st m dB fc (st.get t) (St.get ⟨mS,fc,dB,vI⟩ t):=fun t=>by
  show(match lk mS t with|some v=>v|none=>.bot)=.bot\/F8 st m dB fc (st.get t) (match lk mS t with|some v=>v|none=>.bot)
  cases hq:lk mS t with
  | none=>exact .inl rfl
  | some v=>exact .inr (zd hs t v (dP hq))
 have uF:=hn;unfold below at uF;rw[ag] at uF;refine⟨E.ma st m,⟨r.xc,r.sz,fun t=>?_,fun i gQ hi=>?_,fun τ' R' hR=>rN r hm (l8 hr τ' R' (dP hR)),⟨fun t b hb=>?_,fun t p hp=>?_,fun b cs dL p hp=>?_,fun b cs dL=>?_,fun τ R hR=>?_,fun τ R d hR hd l hl=>(by rw[jO (vn hr τ R (dP hR)) hd] at hl;cases hl)⟩,r.hi,fun b hb=>?_,fun b x hx=>?_,fun j V hj=>(by rw[hv] at hj;cases hj),fun j b hj=>⟨(r.Ju j b hj).1,hB j b hj⟩,r.sn⟩⟩
 ·rcases get t with h|h
  ·rw[h];exact⟨⟩
  ·exact(iQ r h (r.slt t)).rv
 ·obtain⟨cs,h1,h2⟩:=ou hb i gQ (dP hi);obtain⟨vs,t,g1,g2,g3,g4⟩:=r.box i cs h1;refine⟨vs,t,g1,g2,?_,oe r h2 g4⟩;unfold Env.ma;simp only[g3]
 ·rcases get t with h|h
  ·rw[h] at hb;cases hb
  ·exact(iu h).1 b hb
 ·rcases get t with h|h
  ·rw[h] at hp;cases hp
  ·obtain⟨R,h1,h2⟩:=(iu h).2 p hp;exact⟨R,h1,Nat.le_of_eq h2.symm⟩
 ·obtain⟨DV,h1,h2⟩:=ou hb b cs (dP dL);obtain⟨R,h3,h4⟩:=od h2 p hp;exact⟨R,h3,Nat.le_of_eq h4.symm⟩
 ·exact Nb (aN.1 uF.1 (b,cs) (dP dL))
 ·exact Nb (aN.1 uF.2 (τ,R) (dP hR))
 ·rcases r.mi b hb with⟨h1,h2⟩|h1
  ·exact .inl ⟨aaO b h1,h2⟩
  ·exact .inr (abE b h1)
 ·obtain⟨h1,h2⟩:=r.gh b x hx;exact⟨h1,h2.elim (fun h=>.inl ⟨aaO b h.1,h.2⟩) (fun h=>.inr ⟨abE b h.1,h.2⟩)⟩
section
variable {E:Env}{w:World}{n0 N m:Nat}{st:St}{a:Act}
theorem ca.re2 (h:ca O E w n0 N m st a)(G:Nat->Option Obj)(B:Nat->Option Nat)(n:Nat)(hn:n<=w.heap.size)(hG:∀ b x,G b=some x->w.heap[b]? = some x/\(E.rl b=.bz\/E.rl b=.dX))(hB:∀ j b,B j=some b->E.bk j=b/\∃ cs,lk st.bx j=some cs):ca ⟨fun b=>E.rl b=.bz,G,fun _=>none,B,n,O.d⟩ E w n0 N m st a:=
 ⟨h.xc,h.sz,h.slt,h.box,h.row,h.sc,h.hi,fun b hb=>(h.mi b hb).elim (fun h=>.inl ⟨h.1,h.1⟩) .inr,fun b x hx=>(by
  obtain⟨h1,h2⟩:=hG b x hx;refine⟨h1,h2.elim (fun h=>.inl ⟨h,h⟩) fun h=>.inr ⟨h,fun hc=>?_⟩⟩;have hc:E.rl b=.bz:=hc;rw[h] at hc
  cases hc),fun _ _ h=>(by cases h),hB,hn⟩
theorem ca.ZJ (h:ca O E w n0 N m st a){E':Env}{w':World}(hg:∀ b x,O.g b=some x->w'.heap[b]? = w.heap[b]?/\E'.rl b=E.rl b)(hv:∀ b,O.v b=none)(hs:w.heap.size<=w'.heap.size)(hk:∀ b,b < w.heap.size->E.rl b≠.dX->w'.heap[b]? = w.heap[b]?)(hE:∀ b,b < w.heap.size->E.rl b≠.dX->E'.rl b=E.rl b)(ho:∀ b,b < n0->E.rl b=.dX->E'.rl b=.dX)(FF:E'.bk=E.bk)(Ft:E'.vl=E.vl):ca O E' w' n0 N m st a:=by
 have hc:∀ b,E.rl b=.bz->b < w.heap.size->w'.heap[b]? = w.heap[b]?/\E'.rl b=.bz:=fun b h1 h2=>⟨hk b h2 (by rw[h1];intro h;cases h),by rw[hE b h2 (by rw[h1];intro h;cases h),h1]⟩
 refine⟨h.xc,h.sz,fun t=>(h.slt t).fr hs hc (fun p _=>by rw[Ft]) (fun b _=>by rw[FF]),fun i cs hi=>(h.box i cs hi).fr hs hc (fun p _=>by rw[Ft]) (by rw[FF]) fun h1 h2=>⟨hk _ h1 (by rw[h2];intro h;cases h),by rw[hE _ h1 (by rw[h2];intro h;cases h),h2]⟩,
  fun τ R hR=>(h.row τ R hR).fr hs hc (by rw[Ft]) (fun d _ l _=>by rw[Ft]) (fun g _ h1 h2=>⟨hk _ h1 (by rw[h2];intro h;cases h),by rw[hE _ h1 (by rw[h2];intro h;cases h),h2]⟩) (fun g j o h1 h2=>⟨hk _ h1 (by rw[h2];intro h;cases h),by rw[hE _ h1 (by rw[h2];intro h;cases h),h2]⟩),
  h.sc,bd h.hi hs,fun b CD=>?_,fun b x hx=>?_,fun j V hj=>(by rw[hv j] at hj;cases hj),fun j b hj=>(by rw[FF];exact h.Ju j b hj),bd h.sn hs⟩
 ·rcases h.mi b CD with⟨h1,h2⟩|h1
  ·exact .inl ⟨by rw[hE b (cd CD h.hi) (by rw[h1];intro h;cases h),h1],h2⟩
  ·exact .inr (ho b CD h1)
 ·obtain⟨g1,g2⟩:=h.gh b x hx;obtain⟨e1,e2⟩:=hg b x hx;exact⟨e1.trans g1,by rw[e2];exact g2⟩
end
end
section
variable {P:Program}{T:Nat->Option Ty}{O:gD}
def l9 (fn:FuncId)(tmps:Array Value)(p:Tmp)(assign body:Code)(D:Nat)(s:LoopState)(pe:Option Code):Loop:={ state:=s,pending:=pe,fn,tmps,params:=#[p],assign,body,defers:=D }
def Ud (pins:List Nat)(sl:List (Nat × AV)):Bool:=sl.all fun p=>p.2.cB.isEmpty&&p.2.dJ.all fun b=>oC b pins
theorem G1 {n:Nat}:∀ {l:List Nat},oC n l=true->n∈l
 | [],h=>by cases h
 | m :: r,h=>by
  unfold oC at h
  cases hq:Nat.beq m n with
  | true=>exact List.mem_cons.2 (.inl (ah hq).symm)
  | false=>
   rw[hq] at h;exact aK _ (G1 h)
theorem vi {pins:List Nat}{sl:List (Nat × AV)}(h:Ud pins sl=true){bx:List (Nat × List Ce)}{rw:List (Nat × Row)}{nx:Nat}(t:Nat):(St.get ⟨sl,bx,rw,nx⟩ t).cB=[]/\∀ b∈(St.get ⟨sl,bx,rw,nx⟩ t).dJ,b∈pins:=by
 show(match lk sl t with|some v=>v|none=>AV.bot).cB=[]/\∀ b∈(match lk sl t with|some v=>v|none=>AV.bot).dJ,b∈pins
 cases hq:lk sl t with
 | none=>exact⟨rfl,fun _ h=>by cases h⟩
 | some v=>
  have:=aN.1 h (t,v) (dP hq);rw[ag] at this;exact⟨List.isEmpty_iff.1 this.1,fun b hb=>G1 (aN.1 this.2 b hb)⟩
noncomputable def Op (E:Env)(W:World)(B:Nat->Option Nat):gD:=⟨fun b=>E.rl b=.bz,fun b=>if E.rl b=.bz\/E.rl b=.dX then W.heap[b]? else none,fun _=>none,B,W.heap.size,[]⟩
theorem zC {E E':Env}{W w':World}{B:Nat->Option Nat}{n0 N m:Nat}{st:St}{a:Act}(r:ca (Op E W B) E' w' n0 N m st a)(b:Nat)(hb:b < W.heap.size)(hr:E.rl b=.bz\/E.rl b=.dX):w'.heap[b]? = W.heap[b]?/\E'.rl b=E.rl b:=by
 obtain⟨x,hx⟩:∃ x,W.heap[b]? = some x:=⟨_,Array.getElem?_eq_getElem hb⟩
 obtain⟨h1,h2⟩:=r.gh b x (by
  show(if E.rl b=.bz\/E.rl b=.dX then W.heap[b]? else none)=_;rw[if_pos hr];exact hx)
 refine⟨h1.trans hx.symm,?_⟩;rcases h2 with⟨h3,h4⟩|⟨h3,h4⟩
 ·have h4:E.rl b=.bz:=h4;rw[h3,h4]
 ·have h4:¬ E.rl b=.bz:=h4;rcases hr with hr|hr
  ·exact absurd hr h4
  ·rw[h3,hr]
theorem BW {E:Env}{W:World}{n0 N m:Nat}{st:St}{a:Act}(r:ca O E W n0 N m st a)(B:Nat->Option Nat)(hB:∀ j b,B j=some b->E.bk j=b/\∃ cs,lk st.bx j=some cs):ca (Op E W B) E W n0 N m st { tmps:=a.tmps,defers:=[] }:=by
 have h:=r.re2 (fun b=>if E.rl b=.bz\/E.rl b=.dX then W.heap[b]? else none) B W.heap.size (al _) (fun b x hx=>by
  split at hx
  ·rename_i hq;exact⟨hx,hq⟩
  ·cases hx) hB
 exact⟨rfl,h.sz,h.slt,h.box,h.row,h.sc,h.hi,h.mi,h.gh,fun _ _ h=>(by cases h),h.Ju,h.sn⟩
theorem S3 {E:Env}{W:World}{B:Nat->Option Nat}(h:Gl W)(h0:E.rl 0=.bz\/E.rl 0=.dX):GlC (Op E W B):=Am h (if_pos h0)
def WkP (pins:List Nat)(st cJ:St):Prop:=∀ O:gD,(∀ j,O.v j=none)->(∀ j b,O.b j=some b->j∈pins)->∀ (E:Env) (w:World) (n0 N:Nat) (a:Act),aaP O E w n0 N st a->∃ E',aaP O E' w n0 N cJ a
theorem KV {pins:List Nat}{st:St}(m:List (Nat × Nat)){mS:List (Nat × AV)}{fc:List (Nat × List Ce)}{dB:List (Nat × Row)}{vI:Nat}(hB:∀ j∈pins,∃ cs,lk fc j=some cs)(hm:OV m=true)(hn:below vI fc dB=true)(hs:Xv st m dB fc mS)(hb:WW st m dB fc)(hr:TQ st m dB):WkP pins st ⟨mS,fc,dB,vI⟩:=fun _O hv hO E w n0 N a r=>
 T0 hv m (fun j b hj=>hB j (hO j b hj)) hm hn hs hb hr E w n0 N a r
def aaA (P:Program)(T:Nat->Option Ty)(N:Nat)(w0:World)(pins:List Nat)(l:Nat)(assign body:Code)(st cJ:St):Prop:=
 ∀ O:gD,GlC O->(∀ j,O.v j=none)->(∀ j b,O.b j=some b->j∈pins)->Kz P T N w0 O (some l) assign st fun e s1=>e=.ic/\∀ O':gD,GlC O'->(∀ j,O'.v j=none)->(∀ j b,O'.b j=some b->j∈pins)->Kz P T N w0 O' (some l) body s1 fun e s2=>e=.ic/\WkP pins s2 cJ
open Classical in
structure JC (O:gD)(n0 N:Nat)(a:Act)(sl:List (Nat × AV))(bx:Nat->List (Nat × List Ce))(rw:Nat->List (Nat × Row))(nx:Nat)(E0:Env)(n1:Nat)(wb:World)(rc:Loop)(D l k:Nat)(E:Env)(W:World):Prop where
 rep:ca O E W n0 N nx ⟨sl,bx k,rw k,nx⟩ a
 hi:∀ b,W.heap.size<=b->E.rl b=.dX
 bz:∀ b,b < n1->E0.rl b=.bz->E.rl b=.bz
 below:Below n0 wb W
 hl:W.heap[l]? = some (.loop rc)
 hD:W.heap[D]? = some (.deferred (some []))
 rl:E.rl l=.dX
 rD:E.rl D=.dX
 sz:n1<=W.heap.size
def KC (O:gD)(n0 D l:Nat)(E:Env)(b:Nat):Prop:=b < n0\/E.rl b≠.dX\/O.g b≠none\/b=l\/b=D
def OwC (E:Env)(b:Nat):Prop:=E.rl b≠.dX/\E.rl b≠.bz
section
variable {n0 N:Nat}{a:Act}{sl:List (Nat × AV)}{bx:Nat->List (Nat × List Ce)}{rw:Nat->List (Nat × Row)}{nx:Nat}{E0:Env}{n1:Nat}{wb:World}{rc:Loop}{D l:Nat}
theorem JC.lt {k:Nat}{E:Env}{W:World}(j:JC O n0 N a sl bx rw nx E0 n1 wb rc D l k E W){b:Nat}(h:KC O n0 D l E b):b < W.heap.size:=by
 rcases h with h|h|h|h|h
 ·exact cd h j.rep.hi
 ·by_cases hb:b < W.heap.size
  ·exact hb
  ·exact absurd (j.hi b (by omega)) h
 ·cases hx:O.g b with
  | none=>exact absurd hx h
  | some x=>exact(Array.getElem?_eq_some_iff.1 (j.rep.gh b x hx).1).1
 ·subst h;exact(Array.getElem?_eq_some_iff.1 j.hl).1
 ·subst h;exact(Array.getElem?_eq_some_iff.1 j.hD).1
theorem JC.stay [en O]{k:Nat}{E:Env}{W W':World}(j:JC O n0 N a sl bx rw nx E0 n1 wb rc D l k E W)(h:OH (KC O n0 D l E) W W'):JC O n0 N a sl bx rw nx E0 n1 wb rc D l k E W':=by
 have hb:∀ b,KC O n0 D l E b->W'.heap[b]? = W.heap[b]?:=fun b hb=>h.block b (j.lt hb) hb
 refine⟨j.rep.ZJ (fun b x hx=>⟨hb b (.inr (.inr (.inl (by rw[hx];intro h;cases h)))),rfl⟩) en.v h.size (fun b _ hn=>hb b (.inr (.inl hn))) (fun _ _ _=>rfl) (fun _ _ h=>h) rfl rfl,fun b hs=>j.hi b (bd h.size hs),j.bz,j.below.trans ⟨h.os,h.tape,h.output,h.size,fun b hn=>hb b (.inl hn)⟩,
  (hb l (.inr (.inr (.inr (.inl rfl))))).trans j.hl,(hb D (.inr (.inr (.inr (.inr rfl))))).trans j.hD,j.rl,j.rD,bd j.sz h.size⟩
def JJ (O:gD)(n0 N:Nat)(a:Act)(sl:List (Nat × AV))(bx:Nat->List (Nat × List Ce))(rw:Nat->List (Nat × Row))(nx:Nat)(E0:Env)(n1:Nat)(wb:World)(rc:Loop)(D l:Nat):JT:=fun k K Ko W=>∃ E,JC O n0 N a sl bx rw nx E0 n1 wb rc D l k E W/\(∀ b,K b↔KC O n0 D l E b)/\∀ b,Ko b↔OwC E b
theorem YR [en O]:SL (JJ O n0 N a sl bx rw nx E0 n1 wb rc D l):=by
 refine⟨fun k K Ko W W' ⟨E,j,h1,h2⟩ hs=>⟨E,j.stay ⟨hs.os,hs.tape,hs.output,hs.size,fun b hb hk=>hs.block b hb ((h1 b).2 hk)⟩,h1,h2⟩,fun k K Ko W ⟨E,j,h1,h2⟩ b hb=>j.lt ((h1 b).1 hb),fun k K Ko W ⟨E,j,h1,h2⟩ b hb=>(h1 b).2 (.inr (.inl ((h2 b).1 hb).1))⟩
theorem ca.putObj {E:Env}{w:World}{m:Nat}{st:St}(h:ca O E w n0 N m st a)(hv:∀ j,O.v j=none){b:Nat}(x:Obj)(hb:E.rl b=.dX)(hg:O.g b=none):ca O E (w.putObj b x) n0 N m st a:=
 h.ZJ (fun c y hc=>⟨World.putObj_heap_other (fun e=>by subst e;rw[hg] at hc;cases hc),rfl⟩) hv (by rw[World.putObj_size];exact al _) (fun c _ hn=>World.putObj_heap_other (fun e=>by subst e;exact hn hb)) (fun _ _ _=>rfl) (fun _ _ h=>h) rfl rfl
theorem ca.ZU {E:Env}{w:World}{m:Nat}{st:St}(h:ca O E w n0 N m st a)(hv:∀ j,O.v j=none):ca O ⟨fun b=>if b < w.heap.size then E.rl b else .dX,E.bk,E.vl⟩ w n0 N m st a:=
 h.ZJ (fun c y hc=>⟨rfl,if_pos ((Array.getElem?_eq_some_iff.1 (h.gh c y hc).1).1)⟩) hv (al _) (fun _ _ _=>rfl) (fun c hc _=>if_pos hc) (fun c _ hn=>by
  show(if c < w.heap.size then E.rl c else .dX)=.dX;split
  ·exact hn
  ·rfl) rfl rfl
end
end
section
variable {P:Program}{T:Nat->Option Ty}{O:gD}
theorem lQ {n0:Nat}{w0 w:World}(h:Below n0 w0 w){l:Nat}(hl:n0<=l)(o:Obj):Below n0 w0 (w.putObj l o):=
 h.trans ⟨rfl,rfl,rfl,by rw[World.putObj_size];exact al _,fun b hb=>World.putObj_heap_other (by omega)⟩
theorem M9 [en O](hT:dg P T){w0:World}{N:Nat}{a:Act}{sl:List (Nat × AV)}{bx:Nat->List (Nat × List Ce)}{rw:Nat->List (Nat × Row)}{nx:Nat}{E0:Env}{n1:Nat}{fn:FuncId}{p:Nat}{assign body:Code}{D l:Nat}{pins:List Nat}{xs:List AV}
  (hOg:∀ b,O.g b≠none->b < n1/\b≠l) (Vy:Ud pins sl=true) (Rv:∀ k,∀ j∈pins,∃ cs,lk (bx k) j=some cs) (V6:aaV N assign=true) (mZ:aaV N body=true) (hp:p < N) (hl:w0.heap.size<=l) (px:l < n1) (Xq:D < n1) (hlD:D≠l)
  (hx:∀ x∈xs,x.plain=true) (hr:∀ k (hk:k < xs.length),aaA P T N w0 pins l assign body ⟨(p,xs[k]) :: sl,bx k,rw k,nx⟩ ⟨[],bx (k+1),rw (k+1),nx⟩) :
  ∀ k (hk:k < xs.length),KA P l (JJ O w0.heap.size N a sl bx rw nx E0 n1 w0 (l9 fn a.tmps p assign body D .ready none) D l) n1 E0 k xs[k]:=by
 intro k hk K Ko W1 E1 v ⟨E,j,hK,hKo⟩ OX yA gJ;have anP:w0.heap.size<=n1:=by omega
 have hxp:=nu (hx _ (aI hk));obtain⟨E2,Ak⟩:∃ E2:Env,E2=⟨fun b=>if E.rl b=.dX/\E1.rl b=.bz then .bz else E.rl b,E.bk,E.vl⟩:=⟨_,rfl⟩
 have key:∀ b,b < n1->E1.rl b=.bz->E.rl b=.bz:=fun b hb hc=>j.bz b hb (yA b hb hc);have e2a:∀ b,E.rl b≠.dX->E2.rl b=E.rl b:=fun b hb=>by rw[Ak];exact if_neg fun h=>hb h.1
 have e2b:∀ b,E1.rl b≠.bz->E2.rl b=E.rl b:=fun b hb=>by rw[Ak];exact if_neg fun h=>hb h.2
 have e2c:∀ b,b < n1->E2.rl b=E.rl b:=fun b hb=>by
  by_cases h:E1.rl b=.bz
  ·exact e2a b (by rw[key b hb h];intro h;cases h)
  ·exact e2b b h
 have ZN:∀ b,E1.rl b=.bz->E2.rl b=.bz:=fun b hc=>by
  by_cases h1:E.rl b=.dX
  ·rw[Ak];exact if_pos ⟨h1,hc⟩
  ·rw[e2a b h1]
   by_cases h2:E.rl b=.bz
   ·exact h2
   ·exact absurd hc (gJ b ((hKo b).2 ⟨h1,h2⟩))
 have e2k:E2.bk=E.bk:=by rw[Ak]
 have e2v:E2.vl=E.vl:=by rw[Ak]
 have r2:ca O E2 W1 w0.heap.size N nx ⟨sl,bx k,rw k,nx⟩ a:=j.rep.ZJ (fun b x hb=>⟨rfl,e2c b (hOg b (by rw[hb];intro h;cases h)).1⟩) en.v (al _) (fun _ _ _=>rfl) (fun b _ hn=>e2a b hn) (fun b hb hn=>by rw[e2c b (by omega)];exact hn) e2k e2v
 have mN:R1 E2 W1 v xs[k]:=R1.fr (E:=E1) (al _) (fun b hb _=>⟨rfl,ZN b hb⟩) (fun q hq=>by
  have:q∈xs[k].cB:=by
   cases h:xs[k] with
   | fH _=>have h3:=hx _ (aI hk);rw[h] at h3;cases h3
   | _=>rw[h] at hq;exact hq
  rw[hxp.2] at this
  cases this) (fun q hq=>by
  have:q∈xs[k].dJ:=by
   cases h:xs[k] with
   | fH _=>have h3:=hx _ (aI hk);rw[h] at h3;cases h3
   | _=>rw[h] at hq;exact hq
  rw[hxp.1] at this
  cases this) OX
 obtain⟨B,hB⟩:∃ B:Nat->Option Nat,B=fun i=>if i∈pins then some (E.bk i) else none:=⟨_,rfl⟩
 have ZE:∀ i b,B i=some b->i∈pins/\b=E.bk i:=fun i b hi=>by
  rw[hB] at hi;simp only at hi;split at hi
  ·rename_i h;exact⟨h,(aR hi).symm⟩
  ·cases hi
 have hBi:∀ i∈pins,B i=some (E.bk i):=fun i hi=>by rw[hB];exact if_pos hi
 have r3:=BW r2 B fun i b hi=>⟨by rw[e2k,(ZE i b hi).2],Rv k i (ZE i b hi).1⟩
 have r4:=r3.app (t:=some p) (fun q hq=>by cases hq;exact hp) (Mv.refl _ _ _ _ _) (kv (m:=nx) (v:=xs[k]) ⟨fun b hb=>(by rw[hxp.1] at hb;cases hb),fun q hq=>(by rw[hxp.2] at hq;cases hq)⟩) mN.rv (fun _ _ h=>by cases h) (fun _ _ h=>by cases h);have aS:∀ b,b < n1->b < W1.heap.size:=fun b hb=>cd hb j.sz;refine⟨fn,a.tmps.setIfInBounds p v,assign,body,?_,roundIn_of_wpIn trivial ?_⟩
 ·have:=run_yield (P:=P) (args:=#[v]) j.hl rfl;rw[this];simp[l9]
 have A:=hr k hk (Op E2 W1 B) (S3 r2.gl r2.SV) (fun _=>rfl) (fun i b hi=>(ZE i b hi).1) hT V6 0 E2 _ W1 r4 j.below;refine wpIn_mono A fun e a2 w2 hp=>?_
 cases e with
 | exit id=>
  obtain⟨_,_,⟨h,_⟩,_⟩:=hp
  cases h
 | ret=>
  obtain⟨_,_,⟨h,_⟩,_⟩:=hp
  cases h
 | goto t=>exact hp.elim
 | panic ch=>exact hp.elim
 | outgrown=>exact hp.elim
 | normal=>
  obtain⟨s1,E3,⟨_,hb⟩,r5,hb5⟩:=hp;have NI:E2.rl l=.dX:=by rw[e2c l px,j.rl]
  have Xl:=fun b hb hr=>zC r5 b hb hr;have qO:w2.heap[l]? = some (.loop (l9 fn a.tmps p assign body D .ready none)):=(Xl l (aS l px) (.inr NI)).1.trans j.hl;have ZD:E3.rl l=.dX:=(Xl l (aS l px) (.inr NI)).2.trans NI;refine⟨_,run_beginRound qO rfl,?_⟩;have s5:W1.heap.size<=w2.heap.size:=r5.sn;have r5n:=r5.re2 (fun _=>none) B 0 (aD _) (fun _ _ h=>by cases h) fun i b hi=>r5.Ju i b hi;have r6:=r5n.putObj (fun _=>rfl) (.loop { l9 fn a.tmps p assign body D .ready none with state:=.busy }) ZD rfl;have r7:=BW r6 B fun i b hi=>r6.Ju i b hi;have aeG:E3.rl 0=.bz\/E3.rl 0=.dX:=by rw[(Xl 0 r2.gl.lt r2.SV).2];exact r2.SV
  have afL:Gl (w2.putObj l (.loop { l9 fn a.tmps p assign body D .ready none with state:=.busy })):=NK r2.gl ((World.putObj_heap_other (fun e=>by have h:=r2.gl;rw[<- e] at qO;obtain⟨m,h⟩:=NK h (Xl 0 r2.gl.lt r2.SV).1;unfold World.cell? at h;simp only[qO] at h;cases h)).trans (Xl 0 r2.gl.lt r2.SV).1)
  have FG:a2={ tmps:=a2.tmps,defers:=[] }:=by
   have:a2.defers=[]:=r5.xc
   cases a2
   simp only at this;rw[this]
  rw[FG];refine wpIn_mono (hb (Op E3 _ B) (S3 afL aeG) (fun _=>rfl) (fun i b hi=>(ZE i b hi).1) hT mZ 0 E3 _ _ r7 (lQ hb5 hl _)) fun e a4 w4 hp=>?_
  cases e with
  | exit id=>
   obtain⟨_,_,⟨h,_⟩,_⟩:=hp
   cases h
  | ret=>
   obtain⟨_,_,⟨h,_⟩,_⟩:=hp
   cases h
  | goto t=>exact hp.elim
  | panic ch=>exact hp.elim
  | outgrown=>exact hp.elim
  | normal=>
   obtain⟨s2,E4,⟨_,hw⟩,r8,hb8⟩:=hp;obtain⟨E5,r9⟩:=hw _ (fun _=>rfl) (fun i b hi=>(ZE i b hi).1) E4 w4 _ N a4 r8
   have s9:W1.heap.size<=w4.heap.size:=by
    have:=r9.sn;have h2:(w2.putObj l (.loop { l9 fn a.tmps p assign body D .ready none with state:=.busy })).heap.size<=w4.heap.size:=this;rw[World.putObj_size] at h2;omega
   have comb:∀ b,b < W1.heap.size->E2.rl b=.bz\/E2.rl b=.dX->(b≠l->w4.heap[b]? = W1.heap[b]?)/\E5.rl b=E2.rl b:=fun b hb hr=>by
    obtain⟨h1,h2⟩:=Xl b hb hr;obtain⟨h3,h4⟩:=zC r9 b (by rw[World.putObj_size];omega) (by rw[h2];exact hr);exact⟨fun hn=>h3.trans ((World.putObj_heap_other hn).trans h1),h4.trans h2⟩
   have hl4:w4.heap[l]? = some (.loop { l9 fn a.tmps p assign body D .ready none with state:=.busy }):=(zC r9 l (by rw[World.putObj_size];have:=aS l px;omega) (.inr ZD)).1.trans (World.putObj_heap_same (by have:=aS l px;omega));have ZC:E5.rl l=.dX:=(comb l (aS l px) (.inr NI)).2.trans NI;have We:E2.rl D=.dX:=by rw[e2c D Xq,j.rD]
   have hD4:w4.heap[D]? = some (.deferred (some [])):=((comb D (aS D Xq) (.inr We)).1 hlD).trans j.hD;have agJ:E5.rl D=.dX:=(comb D (aS D Xq) (.inr We)).2.trans We;have r9n:=r9.re2 (fun _=>none) (fun _=>none) 0 (aD _) (fun _ _ h=>by cases h) fun i b hi=>by cases hi
   have Qb:=(r9n.putObj (fun _=>rfl) (.loop (l9 fn a.tmps p assign body D .ready none)) ZC rfl).ZU (fun _=>rfl);obtain⟨W5,Pa⟩:∃ W5,W5=w4.putObj l (.loop (l9 fn a.tmps p assign body D .ready none)):=⟨_,rfl⟩
   rw[<- Pa] at Qb;have hs5:W5.heap.size=w4.heap.size:=by rw[Pa,World.putObj_size]
   obtain⟨E6,hE6⟩:∃ E6:Env,E6=⟨fun b=>if b < W5.heap.size then E5.rl b else .dX,E5.bk,E5.vl⟩:=⟨_,rfl⟩
   rw[<- hE6] at Qb;have e6:∀ b,b < W1.heap.size->E6.rl b=E5.rl b:=fun b hb=>by rw[hE6];exact if_pos (by omega)
   have c6:∀ b,b < W1.heap.size->E2.rl b=.bz\/E2.rl b=.dX->(b≠l->W5.heap[b]? = W1.heap[b]?)/\E6.rl b=E2.rl b:=fun b hb hr=>by
    obtain⟨h1,h2⟩:=comb b hb hr;exact⟨fun hn=>by rw[Pa,World.putObj_heap_other hn];exact h1 hn,(e6 b hb).trans h2⟩
   have FC:∀ b,E.rl b=.bz->b < W1.heap.size->W5.heap[b]? = W1.heap[b]?/\E6.rl b=.bz:=fun b Xn wg=>by
    have h2:E2.rl b=.bz:=(e2a b (by rw[Xn];intro h;cases h)).trans Xn;obtain⟨h3,h4⟩:=c6 b wg (.inl h2);exact⟨h3 (fun e=>by rw[e,j.rl] at Xn;cases Xn),h4.trans h2⟩
   have xu:ca O E6 W5 w0.heap.size N nx ⟨sl,bx (k+1),rw (k+1),nx⟩ a:=by
    refine⟨j.rep.xc,j.rep.sz,fun t=>?_,Qb.box,Qb.row,⟨fun t b dD=>?_,fun t q hq=>?_,Qb.sc.br,Qb.sc.fb,Qb.sc.fr,Qb.sc.rl⟩,Qb.hi,fun b dD=>?_,fun b x dD=>?_,fun i V hi=>(by rw[en.v] at hi;cases hi),fun i b hi=>(by rw[en.b] at hi;cases hi),by have:=j.rep.sn;omega⟩
    ·have hs:=vi Vy (bx:=bx k) (rw:=rw k) (nx:=nx) t;refine RV.fr (E:=E) (E':=E6) (w:=W1) (w':=W5) (by omega) FC (fun q hq=>?_) (fun b dD=>?_) (j.rep.slt t)
     ·have hq:q∈(St.get ⟨sl,bx k,rw k,nx⟩ t).cB:=hq;rw[hs.1] at hq
      cases hq
     ·have dD:b∈(St.get ⟨sl,bx k,rw k,nx⟩ t).dJ:=dD;have:=(r9.Ju b (E.bk b) (hBi b (hs.2 b dD))).1;rw[hE6];exact this
    ·exact Rv (k+1) b ((vi Vy (bx:=bx (k+1)) (rw:=rw (k+1)) (nx:=nx) t).2 b dD)
    ·rw[(vi Vy (bx:=bx (k+1)) (rw:=rw (k+1)) (nx:=nx) t).1] at hq
     cases hq
    ·have xw:b < W1.heap.size:=cd dD j.rep.hi;rcases r2.mi b dD with⟨h1,h2⟩|h1
     ·exact .inl ⟨(c6 b xw (.inl h1)).2.trans h1,h2⟩
     ·exact .inr ((c6 b xw (.inr h1)).2.trans h1)
    ·obtain⟨h1,h2⟩:=r2.gh b x dD;have xw:=(Array.getElem?_eq_some_iff.1 h1).1;have hbl:=(hOg b (by rw[dD];intro h;cases h)).2;rcases h2 with⟨h3,h4⟩|⟨h3,h4⟩
     ·obtain⟨g1,g2⟩:=c6 b xw (.inl h3);exact⟨(g1 hbl).trans h1,.inl ⟨g2.trans h3,h4⟩⟩
     ·obtain⟨g1,g2⟩:=c6 b xw (.inr h3);exact⟨(g1 hbl).trans h1,.inr ⟨g2.trans h3,h4⟩⟩
   have gX:∀ b,b < W1.heap.size->E.rl b=.dX->E1.rl b≠.bz->E6.rl b=.dX:=fun b hb h1 h2=>(c6 b hb (.inr ((e2b b h2).trans h1))).2.trans ((e2b b h2).trans h1)
   refine⟨_,_,run_endRound none hl4,rfl,(by
    show Gl (w4.putObj l (.loop (l9 fn a.tmps p assign body D .ready none)));rw[<- Pa];exact xu.gl),KC O w0.heap.size D l E6,OwC E6,⟨E6,?_,fun _=>Iff.rfl,fun _=>Iff.rfl⟩,?_,fun b dD=>?_,fun b dD=>?_⟩
   ·show JC O w0.heap.size N a sl bx rw nx E0 n1 w0 (l9 fn a.tmps p assign body D .ready none) D l (k+1) E6 (w4.putObj l (.loop (l9 fn a.tmps p assign body D .ready none)));rw[<- Pa];refine⟨xu,fun b dD=>?_,fun b dD h0=>?_,?_,?_,?_,?_,?_,by have:=j.sz;omega⟩
    ·rw[hE6];exact if_neg (by omega)
    ·exact(FC b (j.bz b dD h0) (aS b dD)).2
    ·rw[Pa];exact lQ hb8 hl _
    ·rw[Pa];exact World.putObj_heap_same (Array.getElem?_eq_some_iff.1 hl4).1
    ·rw[Pa,World.putObj_heap_other hlD];exact hD4
    ·rw[e6 l (aS l px)];exact ZC
    ·rw[e6 D (aS D Xq)];exact agJ
   ·show OH _ W1 (w4.putObj l (.loop (l9 fn a.tmps p assign body D .ready none)));rw[<- Pa];have Wb:Below w0.heap.size w0 W5:=by rw[Pa];exact lQ hb8 hl _
    refine⟨Wb.os.trans j.below.os.symm,Wb.tape.trans j.below.tape.symm,Wb.output.trans j.below.output.symm,by omega,fun b dD hc=>?_⟩;rcases hc with hc|hc
    ·have hnk:¬ KC O w0.heap.size D l E b:=fun h=>hc ((hK b).2 h);have h1:E.rl b=.dX:=Classical.byContradiction fun h=>hnk (.inr (.inl h));have h2:b≠l:=fun h=>hnk (.inr (.inr (.inr (.inl h))))
     by_cases h3:E1.rl b=.bz
     ·exact(c6 b dD (.inl (ZN b h3))).1 h2
     ·exact(c6 b dD (.inr ((e2b b h3).trans h1))).1 h2
    ·refine(c6 b dD (.inl (ZN b hc))).1 fun e=>?_;subst e;have:=key b px hc;rw[j.rl] at this
     cases this
   ·by_cases wg:b < W1.heap.size
    ·by_cases h1:E1.rl b=.bz
     ·exact .inr (.inl h1)
     ·refine .inl ((hK b).2 ?_);rcases dD with h|h|h
      ·exact .inl h
      ·exact .inr (.inl fun h2=>h (gX b wg h2 h1))
      ·exact .inr (.inr h)
    ·exact .inr (.inr (by omega))
   ·by_cases wg:b < W1.heap.size
    ·refine .inl ((hKo b).2 ?_);refine Classical.byContradiction fun eZ=>?_
     by_cases h1:E.rl b=.dX
     ·by_cases h2:E1.rl b=.bz
      ·exact dD.2 ((c6 b wg (.inl (ZN b h2))).2.trans (ZN b h2))
      ·exact dD.1 (gX b wg h1 h2)
     ·by_cases h2:E.rl b=.bz
      ·exact dD.2 (FC b h2 wg).2
      ·exact eZ ⟨h1,h2⟩
    ·exact .inr (by omega)
end
section
variable {P:Program}{T:Nat->Option Ty}
def YI (D:Nat):Deferred:={ target:=.collected D,args:=#[] }
structure ORg (w0:World)(O:gD):Prop where
 o:∀ b,O.o b->b < w0.heap.size
 gl:GlC O
 pos:0 < w0.heap.size
def OM (O:gD)(Ds:List Nat):gD:=⟨O.o,fun b=>if b∈Ds then some (.deferred (some [])) else if b=0 then O.g 0 else none,fun _=>none,fun _=>none,O.n,Ds.map YI++O.d⟩
theorem adB {w0:World}{O:gD}{Ds:List Nat}(hO:ORg w0 O)(hd:∀ d∈Ds,w0.heap.size<=d):0∉Ds:=fun h=>by
 have h1:=hd 0 h;have h2:=hO.pos;omega
theorem zD {w0:World}{O:gD}{Ds:List Nat}(hO:ORg w0 O)(hd:∀ d∈Ds,w0.heap.size<=d):en (OM O Ds):=by
 obtain⟨x,h1,h2⟩:=hO.gl.gl
 exact { gl:=⟨x,by
  show(if 0∈Ds then some (Obj.deferred (some [])) else if 0=0 then O.g 0 else none)=some x;rw[if_neg (adB hO hd),if_pos rfl];exact h1,h2⟩,v:=fun _=>rfl,b:=fun _=>rfl }
def cpR (w0:World)(N:Nat)(O:gD)(Q:Ex->St->Prop):Exit->Act->World->Prop
 | .normal,a,w=>∃ st E Ds,Q .ic st/\aaP (OM O Ds) E w w0.heap.size N st a/\Below w0.heap.size w0 w/\Ds.Nodup/\∀ d∈Ds,w0.heap.size<=d
 | .exit id,a,w=>∃ st E Ds,Q (.exit id) st/\aaP (OM O Ds) E w w0.heap.size N st a/\Below w0.heap.size w0 w/\Ds.Nodup/\∀ d∈Ds,w0.heap.size<=d
 | .ret,a,w=>∃ st E Ds,Q .ret st/\aaP (OM O Ds) E w w0.heap.size N st a/\Below w0.heap.size w0 w/\Ds.Nodup/\∀ d∈Ds,w0.heap.size<=d
 | _,_,_=>False
def oK (P:Program)(T:Nat->Option Ty)(N:Nat)(w0:World)(c:Code)(st:St)(Q:Ex->St->Prop):Prop:=
 dg P T->∀ O:gD,ORg w0 O->∀ (Ds:List Nat) (E:Env) (a:Act) (w:World),Ds.Nodup->(∀ d∈Ds,w0.heap.size<=d)->aaP (OM O Ds) E w w0.heap.size N st a->Below w0.heap.size w0 w->c.wp P (cpR w0 N O Q) a w
section
variable {N:Nat}{w0:World}
theorem oK.xS {c:Code}{st:St}{Q:Ex->St->Prop}(hc:aaV N c=true)(h:∀ O [en O],Tp P T N w0 O c st Q):oK P T N w0 c st Q:=fun hT O hO Ds E a w hn hd r hb=>
 haveI:=zD hO hd
 wp_mono (h (OM O Ds) hT hc E a w r hb) fun e a' w' hp=>by
  cases e <;> first
   | exact hp.elim
   | (obtain⟨cJ,E',h1,h2,h3⟩:=hp;exact⟨cJ,E',Ds,h1,h2,h3,hn,hd⟩)
theorem oK.seq {x y:Code}{st:St}{Q:Ex->St->Prop}(h:oK P T N w0 x st (vL (fun cJ=>oK P T N w0 y cJ Q) Q)):oK P T N w0 (.seq x y) st Q:=fun hT O hO Ds E a w hn hd r hb=>by
 refine wp_seq (wp_mono (h hT O hO Ds E a w hn hd r hb) fun e a' w' hp=>?_)
 cases e with
 | normal=>
  obtain⟨cJ,E',Ds',hq,r',eF,hn',jJ⟩:=hp;exact hq hT O hO Ds' E' a' w' hn' jJ r' eF
 | exit id=>exact hp
 | ret=>exact hp
 | goto l=>exact hp.elim
 | panic ch=>exact hp.elim
 | outgrown=>exact hp.elim
theorem oK.wk {c:Code}{st cJ:St}{Q:Ex->St->Prop}(hw:Wk st cJ)(h:oK P T N w0 c cJ Q):oK P T N w0 c st Q:=fun hT O hO Ds E a w hn hd r hb=>by
 haveI:=zD hO hd
 obtain⟨E',r'⟩:=hw (OM O Ds) E w w0.heap.size N a r;exact h hT O hO Ds E' a w hn hd r' hb
theorem OE {α β γ:Type}{R:α->γ->Prop}{f:β->γ}:∀ {us:List α} {cs:List β},A2 (fun u c=>R u (f c)) us cs->A2 R us (cs.map f)
 | _,_,.nil=>.nil
 | _,_,.cons h1 h2=>.cons h1 (OE h2)
theorem oK.LK {g:Operand}{p:Nat}{assign body:Code}{sl:List (Nat × AV)}{bx:Nat->List (Nat × List Ce)}{rw:Nat->List (Nat × Row)}{nx:Nat}{pins:List Nat}{xs:List AV}{gf:Nat}{caps:List (List Tr × Nat)}{Q:Ex->St->Prop}
  (hg:ev ⟨sl,bx 0,rw 0,nx⟩ g=.kp gf caps) (hsq:Sq P gf (caps.map fun c=>.dv c.1 c.2) xs) (Vy:Ud pins sl=true) (Rv:∀ k,∀ j∈pins,∃ cs,lk (bx k) j=some cs) (V6:aaV N assign=true) (mZ:aaV N body=true) (hp:Nat.blt p N=true)
  (hx:∀ x∈xs,x.plain=true) (hr:∀ l k (hk:k < xs.length),aaA P T N w0 pins l assign body ⟨(p,xs[k]) :: sl,bx k,rw k,nx⟩ ⟨[],bx (k+1),rw (k+1),nx⟩)
  (h:Q .ic ⟨sl,bx xs.length,rw xs.length,nx⟩):oK P T N w0 (.rangeFunc g #[p] assign body) ⟨sl,bx 0,rw 0,nx⟩ Q:=fun hT O hO Ds E a w hn hd r hb=>by
 haveI:=zD hO hd
 refine(wpIn_wide (n:=0)).1 (wpIn_rangeFunc ?_);intro fn _;have hv:=df r g;rw[hg] at hv;obtain⟨us,VQ,Zw⟩:=hv;have hp:p < N:=Nb hp;obtain⟨W1,Xp⟩:∃ W1,W1=(w.alloc (.deferred (some []))).alloc (.loop (l9 fn a.tmps p assign body w.heap.size .ready none)):=⟨_,rfl⟩
 have Cy:W1.heap.size=w.heap.size+2:=by rw[Xp,World.size_alloc,World.size_alloc]
 have Fy:∀ b,b < w.heap.size->W1.heap[b]? = w.heap[b]?:=fun b hb=>by
  rw[Xp,Below.heap_alloc _ _ _ (by rw[World.size_alloc];omega),Below.heap_alloc _ _ _ hb]
 have hL1:W1.heap[w.heap.size+1]? = some (.loop (l9 fn a.tmps p assign body w.heap.size .ready none)):=by
  rw[Xp];have:=World.alloc_heap_new (w.alloc (.deferred (some []))) (.loop (l9 fn a.tmps p assign body w.heap.size .ready none));rwa [World.size_alloc] at this
 have hK1:W1.heap[w.heap.size]? = some (.deferred (some [])):=by
  rw[Xp];exact(Below.heap_alloc _ _ _ (by simp)).trans (World.alloc_heap_new w _)
 obtain⟨E1,FI⟩:∃ E1:Env,E1=⟨fun b=>if b < w.heap.size then E.rl b else .dX,E.bk,E.vl⟩:=⟨_,rfl⟩
 have rc:=r.ZU (fun _=>rfl);rw[<- FI] at rc
 have lJ:∀ b,(OM O Ds).g b≠none->b < w.heap.size:=fun b dD=>by
  cases hq:(OM O Ds).g b with
  | none=>exact absurd hq dD
  | some x=>exact(Array.getElem?_eq_some_iff.1 (r.gh b x hq).1).1
 have r1:ca (OM O Ds) E1 W1 w0.heap.size N nx ⟨sl,bx 0,rw 0,nx⟩ a:=rc.ZJ (fun b x hx=>⟨Fy b (lJ b (by rw[hx];intro h;cases h)),rfl⟩) (fun _=>rfl) (by omega) (fun b dD _=>Fy b dD) (fun _ _ _=>rfl) (fun _ _ h=>h) rfl rfl
 have xw:Below w0.heap.size w0 W1:=by
  rw[Xp];exact(hb.alloc r.hi _).alloc (by rw[World.size_alloc];have:=r.hi;omega) _
 have JP:∀ b,w.heap.size<=b->E1.rl b=.dX:=fun b dD=>by rw[FI];exact if_neg (by omega)
 have j0:JC (OM O Ds) w0.heap.size N a sl bx rw nx E1 W1.heap.size w0 (l9 fn a.tmps p assign body w.heap.size .ready none) w.heap.size (w.heap.size+1) 0 E1 W1:=
  ⟨r1,fun b dD=>JP b (by omega),fun _ _ h=>h,xw,hL1,hK1,JP _ (by omega),JP _ (al _),al _⟩
 have ha:A2 (R1 E1 W1) us (caps.map fun c=>.dv c.1 c.2):=OE (Zw.imp fun u c _ hri=>by
  refine R1.fr (E:=E) (E':=E1) (w:=w) (w':=W1) (a:=.dv c.1 c.2) (by omega) (fun b dD aS=>⟨Fy b aS,by rw[FI];exact(if_pos aS).trans dD⟩) (fun _ h=>by cases h) (fun _ h=>by cases h) hri)
 refine⟨w.heap.size+1,[YI w.heap.size],W1,{ target:=.fn (.func gf) us.toArray,args:=#[.func (.yield (w.heap.size+1)) #[] #[]] },W1,gf,#[.func (.yield (w.heap.size+1)) #[] #[]]++us.toArray,W1,?_,?_,fun _ _=>trivial,?_,fun h=>(by cases h),?_⟩
 ·rw[Xp];exact run_enterLoop_outer _ _ _ _ _
 ·simp only[resolve,VQ];simp[go_sem]
 ·have eg:∀ args w,(callFunc gf args).run P w=.ok (.enter gf args) w:=hsq.NZ;simp[invoke,go_sem,eg]
 refine callsIn_wide.2 (Calls.mono (hsq.run W1 us E1 r1.gl ha (w.heap.size+1) (JJ (OM O Ds) w0.heap.size N a sl bx rw nx E1 W1.heap.size w0 (l9 fn a.tmps p assign body w.heap.size .ready none) w.heap.size (w.heap.size+1)) YR
  (M9 hT (fun b dD=>by have:=lJ b dD;omega) Vy Rv V6 mZ hp (by have:=r.hi;omega) (by omega) (by omega) (by omega) hx (fun k hk=>hr _ k hk)) (KC (OM O Ds) w0.heap.size w.heap.size (w.heap.size+1) E1) (OwC E1) ⟨E1,j0,fun _=>Iff.rfl,fun _=>Iff.rfl⟩ fun b dD=>dD.2) ?_)
 rintro e W2 ⟨⟨v,rfl⟩,K,Ko,E2,j2,_,_⟩;refine⟨none,_,run_endLoop j2.hl (fun h=>by cases h),?_⟩
 have hlD:(OM O Ds).g (w.heap.size+1)=none:=by
  cases hq:(OM O Ds).g (w.heap.size+1) with
  | none=>rfl
  | some x=>exact absurd (lJ _ (by rw[hq];intro h;cases h)) (by omega)
 have Xq:w.heap.size∉Ds:=fun hm=>by
  have:=lJ w.heap.size (by
   show(if w.heap.size∈Ds then some (Obj.deferred (some [])) else if w.heap.size=0 then O.g 0 else none)≠none;rw[if_pos hm];intro h;cases h)
  omega
 have r3:=j2.rep.putObj (fun _=>rfl) (.loop { l9 fn a.tmps p assign body w.heap.size .ready none with state:=.exhausted }) j2.rl hlD;refine⟨⟨sl,bx xs.length,rw xs.length,nx⟩,E2,w.heap.size :: Ds,h,⟨?_,r3.sz,r3.slt,r3.box,r3.row,r3.sc,r3.hi,r3.mi,fun b x dD=>?_,fun _ _ h=>(by cases h),fun _ _ h=>(by cases h),r3.sn⟩,lQ j2.below (by have:=r.hi;omega) _,List.nodup_cons.2 ⟨Xq,hn⟩,fun d wi=>?_⟩
 ·show [YI w.heap.size]++a.defers=_;rw[r.xc];rfl
 ·have dD:(if b∈w.heap.size :: Ds then some (Obj.deferred (some [])) else if b=0 then O.g 0 else none)=some x:=dD;split at dD
  ·rename_i hm
   cases dD
   by_cases e:b=w.heap.size
   ·subst e;refine⟨(World.putObj_heap_other (by omega)).trans j2.hD,.inr ⟨j2.rD,fun ho=>?_⟩⟩;have h1:=hO.o _ ho;have h2:=r.hi;omega
   ·refine r3.gh b _ ?_;show(if b∈Ds then some (Obj.deferred (some [])) else if b=0 then O.g 0 else none)=_;rw[if_pos ((List.mem_cons.1 hm).resolve_left e)]
  ·rename_i hm;refine r3.gh b x ?_;show(if b∈Ds then some (Obj.deferred (some [])) else if b=0 then O.g 0 else none)=some x;rw[if_neg fun h=>hm (aK _ h)];exact dD
 ·rcases List.mem_cons.1 wi with rfl|wi
  ·exact r.hi
  ·exact hd d wi
end
theorem qk {O:gD}{w0:World}{fn:Func}{R:Ending->World->Prop}{E:Env}{N m:Nat}{st:St}(hO:ORg w0 O)(hOd:O.d=[]):∀ (Ds:List Nat) (w:World) (a:Act),Ds.Nodup->(∀ d∈Ds,w0.heap.size<=d)->ca (OM O Ds) E w w0.heap.size N m st a->Below w0.heap.size w0 w->
  (∀ w' a',a'.tmps=a.tmps->ca (OM O []) E w' w0.heap.size N m st a'->Below w0.heap.size w0 w'->∃ v,(results fn a.tmps).run P w'=.ok v w'/\R (.returned v) w')->LeavesInM Fence.wide 0 P fn a.tmps R (Ds.map YI) .returning w
 | [],w,a,_,_,r,hb,hK=>by
  obtain⟨v,h1,h2⟩:=hK w a rfl r hb;exact⟨v,h1,h2⟩
 | D :: Ds,w,a,hn,hd,r,hb,hK=>by
  have Ae:=List.nodup_cons.1 hn;have hD0:=hd D aC
  obtain⟨h1,h2⟩:=r.gh D (.deferred (some [])) (by
   show(if D∈D :: Ds then some (Obj.deferred (some [])) else if D=0 then O.g 0 else none)=_;rw[if_pos aC])
  have hrD:E.rl D=.dX:=by
   rcases h2 with⟨_,h3⟩|⟨h3,_⟩
   ·have:=hO.o D h3;omega
   ·exact h3
  refine⟨fun h=>(by cases h),.inl ⟨D,_,rfl,run_takeDeferred h1,?_⟩⟩
  have r2:ca (OM O Ds) E w w0.heap.size N m st { tmps:=a.tmps,defers:=(OM O Ds).d }:=⟨rfl,r.sz,r.slt,r.box,r.row,r.sc,r.hi,r.mi,fun b x dD=>r.gh b x (by
   have dD:(if b∈Ds then some (Obj.deferred (some [])) else if b=0 then O.g 0 else none)=some x:=dD;show(if b∈D :: Ds then some (Obj.deferred (some [])) else if b=0 then O.g 0 else none)=some x;split at dD
   ·rename_i hm;rw[if_pos (aK _ hm)];exact dD
   ·rename_i hm;have h0:=hO.pos;split at dD
    ·rename_i e;rw[if_neg fun h=>(List.mem_cons.1 h).elim (fun h=>by omega) hm,if_pos e];exact dD
    ·cases dD),fun _ _ h=>(by cases h),fun _ _ h=>(by cases h),r.sn⟩
  have r3:=r2.putObj (fun _=>rfl) (.deferred none) hrD (by
   show(if D∈Ds then some (Obj.deferred (some [])) else if D=0 then O.g 0 else none)=none;have h0:=hO.pos;rw[if_neg Ae.1,if_neg (by omega)])
  exact qk hO hOd Ds _ { tmps:=a.tmps,defers:=(OM O Ds).d } Ae.2 (fun d h=>hd d (aK _ h)) r3 (lQ hb hD0 _) hK
theorem Wy {f:FuncId}{fn:Func}{c:Code}{dH:List AV}{rv:AV}{rs:List Row}(hf:P.funcs[f]? = some fn)(hb:fn.body=some c)(he:KP P f)(hT:dg P T)(hn:Nat.ble dH.length fn.ntmps=true)(mq:dH.all AV.plain=true)(VT:Nat.ble rs.length 128=true)(mU:Bz rv rs=true)
  (h:∀ w0,oK P T fn.ntmps w0 c ⟨ka 0 dH,[],[],0⟩ (DK T fn rv rs)):Ct P f dH rv rs false:=by
 have mU:=zn mU;refine⟨he,Nb VT,mU.2.2,mq,mU.1,mU.2.1,fun w vs E0 lJ ha=>?_⟩;obtain⟨E,Ak,NH,iX⟩:=wc (N:=fn.ntmps) lJ mq (Nb hn) ha;have hO:ORg w ⟨fun b=>b < w.heap.size/\E0.rl b=.bz,fun b=>if b=0 then w.heap[0]? else none,fun _=>none,fun _=>none,0,[]⟩:=⟨fun b h=>h.1,Am lJ rfl,lJ.lt⟩
 have VO:aaP (OM ⟨fun b=>b < w.heap.size/\E0.rl b=.bz,fun b=>if b=0 then w.heap[0]? else none,fun _=>none,fun _=>none,0,[]⟩ []) E w w.heap.size fn.ntmps ⟨ka 0 dH,[],[],0⟩ { tmps:=vs.toArray++Array.replicate (fn.ntmps - vs.toArray.size) undef,defers:=[] }:=
  ⟨iX.xc,iX.sz,iX.slt,iX.box,iX.row,iX.sc,iX.hi,fun b dD=>(iX.mi b dD).imp (fun h=>⟨h.1,dD,h.2⟩) id,fun b x dD=>(by
   have dD:(if b∈([]:List Nat) then some (Obj.deferred (some [])) else if b=0 then(if (0:Nat)=0 then w.heap[0]? else none) else none)=some x:=dD;rw[if_neg List.not_mem_nil,if_pos rfl] at dD;obtain⟨h1,h2⟩:=iX.gh b x dD;exact⟨h1,h2.imp (fun h=>⟨h.1,(Array.getElem?_eq_some_iff.1 h1).1,h.2⟩) fun h=>⟨h.1,fun hc=>h.2 hc.2⟩⟩),fun _ _ h=>(by cases h),fun _ _ h=>(by cases h),iX.sn⟩
 refine callsIn_wide.1 (callsIn_of_wp_marks (F:=Fence.wide) (n:=0) hf hb trivial ?_ rfl);refine wpIn_wide.2 (wp_mono (h w hT _ hO [] E _ w List.nodup_nil (fun _ h=>by cases h) VO (Below.refl _ _)) fun e a' w' hp=>?_)
 have fin:∀ x:Ex,(∀ st,DK T fn rv rs x st->∃ m,Fin T fn st m rv rs)->(∃ st E' Ds,DK T fn rv rs x st/\aaP (OM ⟨fun b=>b < w.heap.size/\E0.rl b=.bz,fun b=>if b=0 then w.heap[0]? else none,fun _=>none,fun _=>none,0,[]⟩ Ds) E' w' w.heap.size fn.ntmps st a'/\Below w.heap.size w w'/\Ds.Nodup/\∀ d∈Ds,w.heap.size<=d)->LeavesInM Fence.wide 0 P fn a'.tmps (fun e w'=>∃ v,e=.returned v/\Below w.heap.size w w'/\∃ E,RV E w' v rv/\(∀ j R,rs[j]? = some R->RR E w' w.heap.size j R)/\(∀ b,b < w.heap.size->E.rl b=.bz->false=false/\E0.rl b=.bz)) a'.defers .returning w':=fun x hx ⟨st,E',Ds,hq,r,eF,n9,hds⟩=>by
  obtain⟨m,pg⟩:=hx st hq;have hd:a'.defers=Ds.map YI:=by rw[r.xc];exact aZ _
  rw[hd];refine qk hO rfl Ds w' a' n9 hds r eF fun w2 a2 FG r2 dD=>?_;obtain⟨u,hu,hr⟩:=Aw hT r2 pg;rw[FG] at hu;refine⟨u,hu,u,rfl,dD,E'.ma st m,hr,fun j R hj=>?_,fun b RA hc=>⟨rfl,?_⟩⟩
  ·refine rN r2 pg.1 (l8 pg.2.1 j R (dP ?_));rw[eG,if_pos (by omega)];simpa using hj
  ·rcases r2.mi b RA with⟨_,h2⟩|h1
   ·exact h2.2
   ·rw[abE b h1] at hc
    cases hc
 cases e with
 | normal=>exact fin .ic (fun _ h=>h) hp
 | ret=>exact fin .ret (fun _ h=>h) hp
 | exit id=>
  obtain⟨st,E',Ds,hq,_⟩:=hp;exact hq.elim
 | goto l=>exact hp.elim
 | panic ch=>exact hp.elim
 | outgrown=>exact hp.elim
end
section
variable {P:Program}{T:Nat->Option Ty}
def aaG (T:Nat->Option Ty)(fn:Func)(rv:AV)(e:Ex)(st:St):Prop:=match e with
 | .exit _=>False
 | _=>match fn.results.toList with
  | [x]=>(match zo T st x with
   | some v=>Fit st v rv
   | none=>False)
  | _=>False
theorem Si {E:Env}{b:Nat}(h:E.rl b=.bz):E.co.rl b=.bz:=by
 unfold Env.co;simp only[h]
theorem Wz {f:FuncId}{fn:Func}{c:Code}{dH:List AV}{rv:AV}(hf:P.funcs[f]? = some fn)(hb:fn.body=some c)(he:KP P f)(hT:dg P T)(hc:aaV fn.ntmps c=true)(hn:Nat.ble dH.length fn.ntmps=true)(mq:dH.all AV.plain=true)(mU:Bz rv []=true)
  (h:∀ w0 O [en O],Tp P T fn.ntmps w0 O c ⟨ka 0 dH,[],[],0⟩ (aaG T fn rv)):Ct P f dH rv [] false:=by
 have mU:=zn mU;refine⟨he,by decide,fun _ h=>(by cases h),mq,mU.1,mU.2.1,fun w vs E0 lJ ha=>?_⟩;obtain⟨E,Ak,NH,iX⟩:=wc (N:=fn.ntmps) lJ mq (Nb hn) ha;refine calls_of_wp hf hb ?_
 haveI:en ⟨fun b=>E0.rl b=.bz,fun b=>if b=0 then w.heap[0]? else none,fun _=>none,fun _=>none,0,[]⟩:=qb (fun _=>rfl) (fun _=>rfl) lJ rfl
 refine wp_mono (h w ⟨fun b=>E0.rl b=.bz,fun b=>if b=0 then w.heap[0]? else none,fun _=>none,fun _=>none,0,[]⟩ hT hc E _ w iX (Below.refl _ _)) fun e a' w' hp=>?_
 have fin:∀ x:Ex,(∃ st E',aaG T fn rv x st/\aaP ⟨fun b=>E0.rl b=.bz,fun b=>if b=0 then w.heap[0]? else none,fun _=>none,fun _=>none,0,[]⟩ E' w' w.heap.size fn.ntmps st a'/\Below w.heap.size w w')->(∀ i,x≠.exit i)->a'.defers=[]/\∃ v,(results fn a'.tmps).run P w'=.ok v w'/\∃ v',Ending.returned v=.returned v'/\Below w.heap.size w w'/\∃ E,RV E w' v' rv/\(∀ j R,([]:List Row)[j]? = some R->RR E w' w.heap.size j R)/\(∀ b,b < w.heap.size->E.rl b=.bz->false=false/\E0.rl b=.bz):=fun x ⟨st,E',hq,r,eF⟩ hx=>by
  have Ru:match fn.results.toList with
    | [x]=>(match zo T st x with
     | some v=>Fit st v rv
     | none=>False)
    | _=>False:=by
   cases x with
   | ic=>exact hq
   | ret=>exact hq
   | exit i=>exact absurd rfl (hx i)
  split at Ru
  ·rename_i y hy;split at Ru
   ·rename_i v hv;obtain⟨u,hu,hr⟩:=j6 hT r hv
    have hr1:=FM (E0:=E'.co) r (fun b hb=>Si hb) (.inr ⟨fun b τ hb=>by
     rcases hb with hb|⟨j,o,hb⟩
     ·unfold Env.co;simp only[hb]
     ·unfold Env.co;simp only[hb],fun b τ hb=>by unfold Env.co;simp only[hb]⟩) Ru hr
    have kj:(results fn a'.tmps).run P w'=.ok u w':=by
     have e3:results fn a'.tmps=(do
       let vs <- fn.results.mapM (j7 a')
       Pure.pure (if h:vs.size=1 then vs[0] else .tuple vs)):=by
      unfold results
      exact congrArg (fun g:ResultVar->Sem Value=>(do
       let vs <- fn.results.mapM g
       Pure.pure (if h:vs.size=1 then vs[0] else .tuple vs):Sem Value)) (funext fun x=>by cases x <;> rfl)
     rw[e3,Array.mapM_eq_mapM_toList,hy];simp only[Sem.run_bind,Sem.run_map,Sem.run_pure,List.mapM_cons,List.mapM_nil];rw[hu];simp
    refine⟨r.xc,u,kj,u,rfl,eF,E'.co,hr1.rv,fun j R hj=>(by cases hj),fun b hb hc=>⟨rfl,?_⟩⟩;rcases r.mi b hb with⟨_,h2⟩|h1
    ·exact h2
    ·unfold Env.co at hc;simp only[h1] at hc
     cases hc
   ·exact Ru.elim
  ·exact Ru.elim
 cases e with
 | normal=>exact fin .ic hp (fun _ h=>by cases h)
 | ret=>exact fin .ret hp (fun _ h=>by cases h)
 | exit id=>
  obtain⟨st,E',hq,r,eF⟩:=hp;exact hq.elim
 | goto l=>exact hp.elim
 | panic ch=>exact hp.elim
 | outgrown=>exact hp.elim
end
end
end Cg
namespace Go.Proofs.YtbmdcnkidjlbbaaGreat
section
open Go Cg Go.RowKit Go.Sort
theorem Fb (a:Int):∃ r:Bool,(r=(xn a))/\Ct ae 64 [.c (.t (iv a))] (aB0 r) [] true:=by
 refine db (Φ:=fun (r:Bool)=>r=(xn a)) dc (cX Tryz.func64 rfl (by kernel_rfl) rfl (aBX [] [] ?_))
 repeat' (first|(apply bY <;> intro _)|(apply dV <;> intro _)|(apply dx <;> intro _)|apply cy|(apply cS <;> intro _)|(apply bL;exact Ei [] (Ai rfl (Ai trivial rfl));exact(by rw[Bool.eq_iff_iff];simp_all[xn]);rfl))
theorem Js (a:Int):Ct ae 64 [.c (.t (iv a))] (aB0 (xn a)) [] true:=by
 obtain⟨r,hr,h⟩:=Fb a;rw[hr] at h;exact h
theorem Rf (a:Int):∃ r:Int,(r=(kD a))/\Ct ae 68 [.c (.t (iv a))] (aBZ r) [] true:=by
 refine db (Φ:=fun (r:Int)=>r=(kD a)) lF (cX Tryz.func68 rfl (by kernel_rfl) rfl (aBX [] [] ?_))
 repeat' (first|(apply bY <;> intro _)|(apply dV <;> intro _)|(apply dx <;> intro _)|apply cy|(apply cS <;> intro _)|(apply bL;exact Ei [] (Ai rfl (Ai trivial rfl));exact(by simp[kD, *]);rfl))
theorem Vm (a:Int):Ct ae 68 [.c (.t (iv a))] (aBZ (kD a)) [] true:=by
 obtain⟨r,hr,h⟩:=Rf a;rw[hr] at h;exact h
theorem xI (all:List aG)(k:Nat)(_hall:all.length*176<=ba):Ct ae 63 [.c (.t (.sl 17 (all.map aG.enc))),.c (.t (iv (k:Int)))] (.agg ((gG all k).enc.map .t)) [] false:=by
 generalize hS:gG all k=S;refine cT Tryz.func63 rfl (by kernel_rfl) rfl fun w0 O _=>aBW [2,3] ?_;refine cS (fun h=>?_) (fun h=>?_)
 ·have aS:=cN h;rw[va aS] at hS;subst hS;refine aBW [] ?_;refine Ei k (Ei (all[k].enc) (Ai rfl (Ai (aQ _ _ k aS) ?_)));refine Ei [] ?_
  repeat' first|refine Ai ?_ ?_|exact rfl|exact⟨⟩|exact Ei _ rfl
 ·have uj:all.length<=k:=by
   have:=of_decide_eq_false h;rw[Lm] at this;omega
  rw[D9 uj] at hS;subst hS;refine aBW [] ?_;refine Ei [] ?_
  repeat' first|refine Ai ?_ ?_|exact rfl|exact⟨⟩|exact Ei _ rfl
theorem As (s:aA)(all:List aG)(w:aF)(id:Int)(hs:s.aa.length*128<=ba)(iU:all.length*176<=ba)(zL:∀ y∈all,aG.ok y):Ct ae 70 [.agg (s.enc.map .t),.c (.t (.sl 17 (all.map aG.enc))),.agg (w.enc.map .t),.c (.t (iv id))] (aB0 (jK s.aa all id w.you w.id w.ai.aM.filter)) [] true:=by
 refine aB4 (b:=false) ?_ rfl;refine cT Tryz.func70 rfl (by kernel_rfl) rfl fun w0 O _=>aBW [] ?_;refine aBY (fun k:Nat=>⟨[(1,.c (.t (.sl 17 (all.map aG.enc)))),(3,.c (.t (iv id))),(6,.ptr 128 0),(12,.c (.t (.sl 19 (s.aa.map aE.enc)))),(13,aBZ (s.aa.map aE.enc).length),(14,aBZ k)],[(128,w.enc.map .t)],[],10000⟩) (fun k=>k<=s.aa.length/\∀ j (h:j < s.aa.length),j < k->(s.aa[j].id==id)=false) (fun k=>s.aa.length - k) 0 ?_ ⟨aD _,fun j _ hj=>absurd hj (Nat.not_lt_zero j)⟩ ?_
 ·refine bh [] rfl rfl ?_ ⟨aV _ rfl,trivial⟩ ?_
  all_goals repeat' first|refine Ai ?_ ?_|exact rfl|exact⟨⟩|exact Ei _ rfl
 rintro k ⟨hk,eZ⟩;refine aBW [5,6] ?_;refine cS (fun h=>?_) (fun h=>?_)
 ·have aS:=cN h;refine Ei k (Ei (s.aa[k].enc) (Ai rfl (Ai (aQ _ _ k aS) ?_)));refine cS (fun h=>?_) (fun h=>?_)
  ·refine aBW [] ?_;refine cR (xI all k iU) ⟨rfl,rfl,trivial⟩ ?_;refine cF (QU s.aa[k] (gG all k) w.you w.id w.ai.aM.filter (yZ zL k)) ⟨fL s.aa[k].enc,fL (gG all k).enc,rfl,rfl,fL w.ai.aM.filter.enc,trivial⟩ ?_;refine Ei [] (Ai rfl (Ai trivial ?_));rw[CS k aS h eZ];exact rfl
  ·refine aBW [] ?_;refine Ei (k+1) (Ai ⟨by omega,fun j hj Af=>?_⟩ (Ai (show s.aa.length - (k+1) < s.aa.length - k by omega) ?_))
   ·by_cases e:j=k
    ·subst e;exact h
    ·exact eZ j hj (by omega)
   refine bh [] rfl rfl ?_ ⟨aV _ rfl,trivial⟩ ?_
   all_goals repeat' first|refine Ai ?_ ?_|exact rfl|exact⟨⟩|exact Ei _ rfl
   exact ed k aS 128 (by decide) hs
 ·have fS:=cP h hk;refine Ei [] (Ai rfl (Ai trivial ?_));rw[J3 (fun j hj=>eZ j hj (by omega))];exact rfl

theorem zW {P:Program}{T:Nat->Option Ty}{N:Nat}{w0:World}{O:gD}{c:Code}{Q:Ex->St->Prop}{B:Prop}(st:St)(h:Tp P T N w0 O c st Q->B)(key:Tp P T N w0 O c st Q):B:=h key
theorem Cd {n:Nat}(h:n<=1000000):n*8<=ba:=by unfold ba;omega
theorem JH (l:List Int)(n:Int)(hl:l.length*8<=ba):Ct ae 177 [.c (.t (.sl 1 (l.map eI))),.c (.t (iv n))] (aBZ (ixI l n)) [] true:=by
 refine aB4 (b:=false) ?_ rfl;refine cT Tryz.func177 rfl (by kernel_rfl) rfl fun w0 O _=>aBW [] ?_;refine aBY (fun k:Nat=>⟨[(0,.c (.t (.sl 1 (l.map eI)))),(1,.c (.t (iv n))),(5,aBZ k)],[],[],10000⟩) (fun k=>k<=l.length/\∀ j (h:j < l.length),j < k->(fun m=>m==n) l[j]=false) (fun k=>l.length - k) 0 ?_ ⟨aD _,fun j _ hj=>by omega⟩ ?_
 ·refine bh [] rfl rfl ?_ ?_ ?_
  all_goals repeat' first|refine Ai ?_ ?_|exact rfl|exact⟨⟩|exact Ei _ rfl
 rintro k ⟨hk,eZ⟩;refine aBW [4,5,3] ?_;refine cS (fun h=>?_) (fun h=>?_)
 ·have aS:=cN h;refine aBW [] ?_;refine Ei k (Ei (eI l[k]) (Ai rfl (Ai (aQ _ _ k aS) ?_)));refine cS (fun h=>?_) (fun h=>?_)
  ·refine aBW [] ?_;refine Ei [] (Ai rfl (Ai trivial ?_));rw[ixI,ku _ _ k aS h eZ];exact rfl
  ·refine aBW [] ?_;refine Ei (k+1) (Ai ⟨by omega,fun j hj Af=>?_⟩ (Ai (show l.length - (k+1) < l.length - k by omega) ?_))
   ·by_cases e:j=k
    ·subst e;exact h
    ·exact eZ j hj (by omega)
   refine bh [] rfl rfl ?_ ?_ ?_
   ·repeat' first|refine Ai ?_ ?_|exact rfl|exact⟨⟩|exact Ei _ rfl
    exact ed k aS 8 (by decide) hl
   all_goals repeat' first|refine Ai ?_ ?_|exact rfl|exact⟨⟩|exact Ei _ rfl|refine aj ?_|refine bS ?_
 ·have fS:=cP h hk;refine Ei [] (Ai rfl (Ai trivial ?_));rw[ixI,jh _ _ (fun j hj=>eZ j hj (by omega))];exact rfl
theorem Hq (l:List Int)(n:Int)(hl:l.length*8<=ba):Ct ae 120 [.c (.t (.sl 1 (l.map eI))),.c (.t (iv n))] (aB0 (Ah l n)) [] true:=by
 refine aB4 (b:=false) ?_ rfl;refine cT Tryz.func120 rfl (by kernel_rfl) rfl fun w0 O _=>aBW [] ?_;refine cF (JH l n hl) ⟨rfl,rfl,trivial⟩ ?_;refine Ei [] ?_
 repeat' first|refine Ai ?_ ?_|exact rfl|exact⟨⟩|exact Ei _ rfl
theorem I5 (a:Int):∃ r:Int,(r=(jx a))/\Ct ae 113 [.c (.t (iv a))] (aBZ r) [] true:=by
 refine db (Φ:=fun (r:Int)=>r=(jx a)) lF (cX Tryz.func113 rfl (by kernel_rfl) rfl (aBX [] [] ?_))
 repeat' (first|(apply bY <;> intro _)|(apply dV <;> intro _)|(apply dx <;> intro _)|apply cy|(apply cS <;> intro _)|(apply bL;exact Ei [] (Ai rfl (Ai trivial rfl));exact(by simp_all[jx]);rfl))
theorem pS (a:Int):Ct ae 113 [.c (.t (iv a))] (aBZ (jx a)) [] true:=by
 obtain⟨r,hr,h⟩:=I5 a;rw[hr] at h;exact h
theorem aeD (a:eB):∃ r:Int,True/\Ct ae 170 [.agg (a.enc.map .t)] (aBZ r) [] true:=by
 refine db (Φ:=fun _=>True) lF (cX Tryz.func170 rfl (by kernel_rfl) rfl (aBX [] [] ?_))
 repeat' (first|(apply bY <;> intro _)|(apply dV <;> intro _)|(apply dx <;> intro _)|apply cy|(apply cS <;> intro _)|(apply bL;exact Ei [] (Ai rfl (Ai trivial rfl));exact(trivial);rfl)|(apply eX 6 rfl;refine gP.one 6 rfl (aBX [] [] ?_))|(apply jf;(first|assumption|omega|(simp only[ak,dM,aq,aw];omega)|(simp only[Lm] at *;omega)|decide);(first|assumption|omega|(simp only[ak,dM,aq,aw];omega)|(simp only[Lm] at *;omega)|decide);intro _ _)|(apply ud;(first|assumption|omega|(simp only[ak];omega)|(simp only[Lm] at *;omega)|decide);(first|assumption|omega|(simp only[ak];omega)|(simp only[Lm] at *;omega)|decide);intro _)|(apply bj 80;refine cF (L9 _) ⟨fL (eB.enc _),trivial⟩ ?_))
theorem vw:∀ ts:List Tr,jz (ts.map .t)=some ts
 | []=>rfl
 | t :: ts=>by
  show(match jz (ts.map .t) with
   | some xs=>some (t :: xs)
   | none=>none)=_
  rw[vw ts]
theorem sm {st:St}:∀ caps:List (List Tr × Nat),Fits st (caps.map fun c=>.dv c.1 c.2) (caps.map fun c=>.dv c.1 c.2)
 | []=>trivial
 | _ :: r=>⟨⟨rfl,rfl⟩,sm r⟩
theorem JF (l:List aE)(q:aE->Bool)(f:Nat)(caps:List (List Tr × Nat))(hq:∀ o:aE,Ct ae f ((.agg (o.enc.map .t)) :: caps.map fun c=>.dv c.1 c.2) (aB0 (q o)) [] true)(hl:l.length*128<=ba):Ct ae 236 [.c (.t (.sl 19 (l.map aE.enc))),.kp f caps] (aBZ (jS q l)) [] true:=by
 refine aB4 (b:=false) ?_ rfl;refine cT Tryz.func236 rfl (by kernel_rfl) rfl fun w0 O _=>aBW [] ?_;refine aBY (fun k:Nat=>⟨[(0,.c (.t (.sl 19 (l.map aE.enc)))),(1,.kp f caps),(7,aBZ (l.map aE.enc).length),(8,aBZ k)],[],[],10000⟩) (fun k=>k<=l.length/\∀ j (h:j < l.length),j < k->q l[j]=false) (fun k=>l.length - k) 0 ?_ ⟨aD _,fun j _ hj=>absurd hj (Nat.not_lt_zero j)⟩ ?_
 ·refine bh [] rfl rfl ?_ ?_ ?_
  all_goals repeat' first|refine Ai ?_ ?_|exact rfl|exact⟨⟩|exact Ei _ rfl
 rintro k ⟨hk,eZ⟩;refine aBW [5,6] ?_;refine cS (fun h=>?_) (fun h=>?_)
 ·have aS:=cN h;refine Ei k (Ei (l[k].enc) (Ai rfl (Ai (aQ _ _ k aS) ?_)));refine cF (hq l[k]) ⟨fL l[k].enc,sm caps⟩ ?_;refine cS (fun h=>?_) (fun h=>?_)
  ·refine aBW [] ?_;refine Ei [] (Ai rfl (Ai trivial ?_));rw[ku _ _ k aS h eZ];exact rfl
  ·refine aBW [] ?_;refine Ei (k+1) (Ai ⟨by omega,fun j hj Af=>?_⟩ (Ai (show l.length - (k+1) < l.length - k by omega) ?_))
   ·by_cases e:j=k
    ·subst e;exact h
    ·exact eZ j hj (by omega)
   refine bh [] rfl rfl ?_ ?_ ?_
   ·repeat' first|refine Ai ?_ ?_|exact rfl|exact⟨⟩|exact Ei _ rfl
    exact ed k aS 128 (by decide) hl
   all_goals repeat' first|refine Ai ?_ ?_|exact rfl|exact⟨⟩|exact Ei _ rfl|refine aj ?_|refine bS ?_
 ·have fS:=cP h hk;refine Ei [] (Ai rfl (Ai trivial ?_));rw[jh _ _ (fun j hj=>eZ j hj (by omega))];exact rfl
theorem qx (l:List aE)(q:aE->Bool)(f:Nat)(caps:List (List Tr × Nat))(hq:∀ o:aE,Ct ae f ((.agg (o.enc.map .t)) :: caps.map fun c=>.dv c.1 c.2) (aB0 (q o)) [] true)(hl:l.length*128<=ba):Ct ae 190 [.c (.t (.sl 19 (l.map aE.enc))),.kp f caps] (aB0 (decide (jS q l>=0))) [] true:=by
 refine aB4 (b:=false) ?_ rfl;refine cT Tryz.func190 rfl (by kernel_rfl) rfl fun w0 O _=>aBW [] ?_;refine cF (JF l q f caps hq hl) ⟨rfl,⟨rfl,rfl⟩,trivial⟩ ?_;refine Ei [] ?_
 repeat' first|refine Ai ?_ ?_|exact rfl|exact⟨⟩|exact Ei _ rfl
theorem JG (l:List Int)(q:Int->Bool)(f:Nat)(caps:List (List Tr × Nat))(hq:∀ o:Int,Ct ae f ((.c (.t (iv o))) :: caps.map fun c=>.dv c.1 c.2) (aB0 (q o)) [] true)(hl:l.length*8<=ba):Ct ae 187 [.c (.t (.sl 1 (l.map eI))),.kp f caps] (aBZ (jS q l)) [] true:=by
 refine aB4 (b:=false) ?_ rfl;refine cT Tryz.func187 rfl (by kernel_rfl) rfl fun w0 O _=>aBW [] ?_;refine aBY (fun k:Nat=>⟨[(0,.c (.t (.sl 1 (l.map eI)))),(1,.kp f caps),(7,aBZ (l.map eI).length),(8,aBZ k)],[],[],10000⟩) (fun k=>k<=l.length/\∀ j (h:j < l.length),j < k->q l[j]=false) (fun k=>l.length - k) 0 ?_ ⟨aD _,fun j _ hj=>by omega⟩ ?_
 ·refine bh [] rfl rfl ?_ ?_ ?_
  all_goals repeat' first|refine Ai ?_ ?_|exact rfl|exact⟨⟩|exact Ei _ rfl
 rintro k ⟨hk,eZ⟩;refine aBW [5,6] ?_;refine cS (fun h=>?_) (fun h=>?_)
 ·have aS:=cN h;refine Ei k (Ei (eI l[k]) (Ai rfl (Ai (aQ _ _ k aS) ?_)));refine cF (hq l[k]) ⟨rfl,sm caps⟩ ?_;refine cS (fun h=>?_) (fun h=>?_)
  ·refine aBW [] ?_;refine Ei [] (Ai rfl (Ai trivial ?_));rw[ku _ _ k aS h eZ];exact rfl
  ·refine aBW [] ?_;refine Ei (k+1) (Ai ⟨by omega,fun j hj Af=>?_⟩ (Ai (show l.length - (k+1) < l.length - k by omega) ?_))
   ·by_cases e:j=k
    ·subst e;exact h
    ·exact eZ j hj (by omega)
   refine bh [] rfl rfl ?_ ?_ ?_
   ·repeat' first|refine Ai ?_ ?_|exact rfl|exact⟨⟩|exact Ei _ rfl
    exact ed k aS 8 (by decide) hl
   all_goals repeat' first|refine Ai ?_ ?_|exact rfl|exact⟨⟩|exact Ei _ rfl|refine aj ?_|refine bS ?_
 ·have fS:=cP h hk;refine Ei [] (Ai rfl (Ai trivial ?_));rw[jh _ _ (fun j hj=>eZ j hj (by omega))];exact rfl
structure Iw {α:Type}(q:α->Bool)(l:List α)(x:Nat × Nat × List α):Prop where
 ij:x.1 < x.2.1
 jl:x.2.1<=l.length
 len:x.2.2.length=l.length
 front:x.2.2.take x.1=(l.take x.2.1).filter fun y=>!q y
 back:x.2.2.drop x.2.1=l.drop x.2.1
theorem Iw.start {α:Type}{q:α->Bool}{l:List α}{i:Nat}(hi:i < l.length)(hq:q l[i]=true)(eZ:∀ j (h:j < l.length),j < i->q l[j]=false):Iw q l (i,i+1,l):=by
 refine⟨Nat.lt_succ_self i,hi,rfl,?_,rfl⟩;show l.take i=(l.take (i+1)).filter fun y=>!q y;rw[<- List.take_append_getElem hi,List.filter_append]
 have e1:(l.take i).filter (fun y=>!q y)=l.take i:=List.filter_eq_self.2 fun y hy=>by
  obtain⟨j,hj,rfl⟩:=bB.1 hy;rw[aB] at hj;rw[List.getElem_take,eZ j (by omega) (by omega)];rfl
 have e2:[l[i]].filter (fun y=>!q y)=[]:=by simp[hq]
 rw[e1,e2,aZ]
theorem Iw.get {α:Type}{q:α->Bool}{l:List α}{i j:Nat}{X:List α}(h:Iw q l (i,j,X))(hj:j < l.length):X[j]? = some l[j]:=by
 have:=h.back;simp only at this;have e:(X.drop j)[0]? = (l.drop j)[0]?:=by rw[this]
 rw[List.getElem?_drop,List.getElem?_drop,cO,cD hj] at e;exact e
theorem Iw.skip {α:Type}{q:α->Bool}{l:List α}{i j:Nat}{X:List α}(h:Iw q l (i,j,X))(hj:j < l.length)(hq:q l[j]=true):Iw q l (i,j+1,X):=by
 obtain⟨h1,h2,h3,h4,h5⟩:=h;simp only at h1 h2 h3 h4 h5;refine⟨by simp only;omega,by simp only;omega,h3,?_,?_⟩
 ·show X.take i=(l.take (j+1)).filter fun y=>!q y;rw[<- List.take_append_getElem hj,List.filter_append,<- h4];simp[hq]
 ·show X.drop (j+1)=l.drop (j+1);rw[<- List.drop_drop,<- List.drop_drop,h5]
theorem Iw.keep {α:Type}{q:α->Bool}{l:List α}{i j:Nat}{X:List α}(h:Iw q l (i,j,X))(hj:j < l.length)(hq:q l[j]=false):Iw q l (i+1,j+1,X.set i l[j]):=by
 obtain⟨h1,h2,h3,h4,h5⟩:=h;simp only at h1 h2 h3 h4 h5;have hi:i < X.length:=by omega
 refine⟨by simp only;omega,by simp only;omega,by simp only[bG];exact h3,?_,?_⟩
 ·show(X.set i l[j]).take (i+1)=(l.take (j+1)).filter fun y=>!q y;rw[<- List.take_append_getElem hj,List.filter_append,<- h4];have VO:i < (X.set i l[j]).length:=by rw[bG];exact hi
  rw[<- List.take_append_getElem VO,List.getElem_set_self,List.take_set_of_le (al i)];simp[hq]
 ·show(X.set i l[j]).drop (j+1)=l.drop (j+1);rw[List.drop_set_of_lt (by omega),<- List.drop_drop,<- List.drop_drop,h5]
theorem Iw.fin {α:Type}{q:α->Bool}{l:List α}{i j:Nat}{X:List α}(h:Iw q l (i,j,X))(hj:j=l.length):X.take i=l.filter (fun y=>!q y)/\i<=X.length:=by
 obtain⟨h1,h2,h3,h4,_⟩:=h;simp only at h1 h2 h3 h4;rw[h4,hj,bm];exact⟨rfl,by omega⟩
theorem T8 {α:Type}{A B:List α}{i:Nat}(h:i<=A.length):(A.take i++B).take i=A.take i:=by
 rw[List.take_append_of_le_length (by rw[aB];omega),List.take_take,Nat.min_self]
theorem C7 (l:List Int)(q:Int->Bool)(f:Nat)(c:fx)(w:aF)(hq:∀ o:Int,Ct ae f [.c (.t (iv o)),.dv c.enc 0,.dv w.enc 0] (aB0 (q o)) [] true)(hl:l.length*8<=ba):F7 ae 130 [.c (.row 0 0),.fn f [(0,0),(1,0)]] [c.enc.map .t,w.enc.map .t] [⟨3,1,0,l.map eI,none⟩] (.c (.row 0 1)) [c.enc.map .t,w.enc.map .t] [⟨3,1,1,(l.filter fun x=>!q x).map eI,none⟩] []:=by
 have VN:=JG l q f [(c.enc,0),(w.enc,0)] (fun o=>hq o) hl;rcases im q l with⟨e1,_,e2⟩|⟨i,hi,e1,e2,_⟩
 ·have e3:l.filter (fun x=>!q x)=l:=List.filter_eq_self.2 fun x hx=>by
   have:=List.find?_eq_none.1 e2 x hx;simpa using this
  rw[e3];rw[e1] at VN;refine jC 2 Tryz.func130 rfl (enters_of Tryz.func130 (by kernel_rfl) rfl) tabOk (by kernel_rfl) rfl rfl rfl rfl rfl fun w0 O _=>aBW [3,4] ?_;refine cF VN ⟨⟨rfl,rfl⟩,⟨rfl,⟨⟨rfl,rfl⟩,⟨rfl,rfl⟩,trivial⟩⟩,trivial⟩ ?_;refine aBW [] ?_;refine Ei [(0,0)] (Ai (Ai rfl (Ai ?_ (Ai ?_ ?_))) ?_)
  all_goals repeat' first|refine Ai ?_ ?_|exact rfl|exact⟨⟩|exact Ei _ rfl|refine aj ?_|refine bS ?_
 rw[e1] at VN;obtain⟨h3,h4,h5⟩:=List.findIdx?_eq_some_iff_getElem.1 e2;have eZ:∀ j (h:j < l.length),j < i->q l[j]=false:=fun j h hj=>by simpa using h5 j hj
 have hw:IntKind.i64.wrap ((i:Int)+1)=((i+1:Nat):Int):=by
  have:=ed i hi 8 (by decide) hl;injection this with this;injection this
 refine jC 2 Tryz.func130 rfl (enters_of Tryz.func130 (by kernel_rfl) rfl) tabOk (by kernel_rfl) rfl rfl rfl rfl rfl fun w0 O _=>aBW [3,4] ?_;refine cF VN ⟨⟨rfl,rfl⟩,⟨rfl,⟨⟨rfl,rfl⟩,⟨rfl,rfl⟩,trivial⟩⟩,trivial⟩ ?_;refine aBW [] ?_;refine Tp.lE (fun x:Nat × Nat × List Int=>⟨[(0,.c (.row 0 0)),(1,.fn f [(0,0),(1,0)]),(5,aBZ x.1),(6,aBZ x.2.1)],[(0,c.enc.map .t),(1,w.enc.map .t)],[(0,⟨3,1,0,x.2.2.map eI,none⟩)],10000⟩) (Iw q l) (fun x=>l.length - x.2.1) (i,i+1,l) ?_ (Iw.start hi h4 eZ) ?_
 ·refine dz (n1:=2) rfl rfl ?_ ?_ ?_
  ·repeat' first|refine Ai ?_ ?_|exact rfl|exact⟨⟩|exact Ei _ rfl|refine aj ?_|refine bS ?_
   all_goals exact congrArg (fun n=>aBZ n) hw
  all_goals repeat' first|refine Ai ?_ ?_|exact rfl|exact⟨⟩|exact Ei _ rfl|refine aj ?_|refine bS ?_
 rintro⟨i,j,X⟩ hx;have hlen:=hx.len;have mP:=hx.ij;have nE:=hx.jl;simp only at hlen mP nE;refine aBW [7,9,6] ?_;refine cS (fun hc=>?_) (fun hc=>?_)
 ·have hjX:j < X.length:=cN hc;have hj:j < l.length:=by omega
  have hXj:X[j]=l[j]:=by
   have:=hx.get hj;rw[cD hjX] at this;exact aR this
  refine aBW [] ?_;refine Ei j (Ai rfl (Ai (by rw[Lm];exact hjX) ?_));refine Ei (eI X[j]) (Ei _ (Ai (aQ _ _ j hjX) (Ai rfl ?_)));refine cF (hq X[j]) ⟨rfl,⟨⟨rfl,rfl⟩,trivial⟩,⟨⟨rfl,rfl⟩,trivial⟩,trivial⟩ ?_;refine cy (cS (fun Xh=>?_) (fun Xh=>?_))
  ·rw[hXj] at Xh;refine aBW [] ?_;refine Ei (i,j+1,X) (Ai (hx.skip hj Xh) (Ai (show l.length - (j+1) < l.length - j by omega) ?_));refine dz (n1:=2) rfl rfl ?_ ?_ ?_
   ·repeat' first|refine Ai ?_ ?_|exact rfl|exact⟨⟩|exact Ei _ rfl|refine aj ?_|refine bS ?_
    all_goals exact congrArg (fun n=>AV.c (.t n)) (ed j hj 8 (by decide) hl)
   all_goals repeat' first|refine Ai ?_ ?_|exact rfl|exact⟨⟩|exact Ei _ rfl|refine aj ?_|refine bS ?_
  ·have Xh:q l[j]=false:=by rw[<- hXj];exact Xh
   have hi:i < X.length:=by omega
   have VO:i < l.length:=by omega
   refine aBW [] ?_;refine Ei i (Ai rfl (Ai (by rw[Lm];exact hi) ?_));refine Ei (eI X[i]) (Ai (aQ _ _ i hi) (Ai (Nb rfl) ?_));refine aBW [] ?_;refine Ei (i+1,j+1,X.set i l[j]) (Ai (hx.keep hj Xh) (Ai (show l.length - (j+1) < l.length - j by omega) ?_));refine dz (n1:=2) rfl rfl ?_ ?_ ?_
   all_goals repeat' first|refine Ai ?_ ?_|exact rfl|exact⟨⟩|exact Ei _ rfl|refine aj ?_|refine bS ?_
   ·exact congrArg (fun n=>AV.c (.t n)) (ed i VO 8 (by decide) hl)
   ·exact congrArg (fun n=>AV.c (.t n)) (ed j hj 8 (by decide) hl)
   exact congrArg (fun xs=>some (⟨3,1,0,xs,none⟩:Row)) (by rw[fF,<- hXj];rfl)
 ·have Tw:j=l.length:=(cP hc (show j<=X.length by omega)).trans hlen;obtain⟨g1,g2⟩:=hx.fin Tw;refine Ei i (Ai rfl (Ai (by rw[Lm];exact g2) ?_));refine Ei [iv 0] (Ai (show xA [.t (.lit (.int .i64 0))] [iv 0] from⟨rfl,trivial⟩) (Ai (by rw[Lm];exact g2) ?_));refine Ei i (Ai rfl (Ai (by simp;omega) ?_));refine Ei [(0,0)] (Ai (Ai rfl (Ai ?_ (Ai ?_ ?_))) ?_)
  ·repeat' first|refine Ai ?_ ?_|exact rfl|exact⟨⟩|exact Ei _ rfl|refine aj ?_|refine bS ?_
   exact(T8 (by rw[Lm];exact g2)).trans (by rw[<- List.map_take];exact congrArg (List.map eI) g1)
  all_goals repeat' first|refine Ai ?_ ?_|exact rfl|exact⟨⟩|exact Ei _ rfl|refine aj ?_|refine bS ?_
theorem wH (a:cz)(h:a.ok):Ct ae 67 [.agg (a.enc.map .t)] (.agg (a.enc.map .t)) [] false:=by
 obtain⟨_,hm,hm2,_,_,hs,uf,he,py,_⟩:=h;refine cT Tryz.func67 rfl (by kernel_rfl) rfl fun w0 O _=>aBW [9] ?_;refine cR (uM (tj _ (cn _ _ _ hm))) ⟨rfl,trivial⟩ ?_;refine cR (uM (AG _ (cn _ _ _ hs))) ⟨rfl,trivial⟩ ?_;refine cR (wO _ (cn _ _ _ he)) ⟨rfl,trivial⟩ ?_;refine aBY (fun k:Nat=>⟨[(1,.ptr 0 0),(2,.ptr 128 0),(18,aBZ (a.dm.map cZ.enc).length),(19,aBZ k)],[(0,(a.enc.map .t).set 49 (.row 9000 0)),(128,List.replicate 72 .bot)],[(9000,⟨125,64,0,a.dm.map cZ.enc,none⟩)],10000⟩) (fun k=>k<=a.dm.length) (fun k=>a.dm.length - k) 0 ?_ (aD _) ?_
 ·refine bh [(9000,1792)] rfl rfl ?_ ?_ ?_
  all_goals repeat' first|refine Ai ?_ ?_|exact rfl|exact⟨⟩|exact Ei _ rfl|refine aj ?_|refine bS ?_
 rintro k hk;refine aBW [9] ?_;refine cS (fun h=>?_) (fun h=>?_)
 ·have aS:=cN h;obtain⟨_,_,_,VX,Zs⟩:=py a.dm[k] (aI aS);have O5:k < (a.dm.map cZ.enc).length:=by rw[Lm];exact aS
  refine Ei k (Ai rfl (Ai O5 ?_));refine Ei (a.dm[k].enc) (Ei _ (Ai (aQ _ _ k aS) (Ai rfl ?_)));refine cR (uM (tj _ (cn _ _ _ VX))) ⟨rfl,trivial⟩ ?_;refine Ei k (Ai rfl (Ai O5 ?_));refine Ei (a.dm[k].enc) (Ai (aQ _ _ k aS) (Ai (Nb rfl) ?_));refine Ei (k+1) (Ai (show k+1<=_ by omega) (Ai (show a.dm.length - (k+1) < a.dm.length - k by omega) ?_));refine bh [(9000,9000)] rfl rfl ?_ ?_ ?_
  all_goals repeat' first|refine Ai ?_ ?_|exact rfl|exact⟨⟩|exact Ei _ rfl|refine aj ?_|refine bS ?_
  exact ed k aS 560 (by decide) he;exact Lq (aQ _ _ k aS)
 ·have fS:=cP h hk;subst fS;refine aBW [] ?_;refine Ei [] ?_
  repeat' first|refine Ai ?_ ?_|exact rfl|exact⟨⟩|exact Ei _ rfl
theorem MY (c:fx)(o:aE):Ct ae 191 [.agg (o.enc.map .t),.dv c.enc 0] (aB0 (o.id==c.e.aO&&o.cg==0)) [] true:=by
 refine aB4 (b:=false) ?_ rfl;refine cT Tryz.func191 rfl (by kernel_rfl) rfl fun w0 O _=>aBW [] ?_;refine cS (fun h=>?_) (fun h=>?_)
 ·rw[show(o.id==c.e.aO)=true from h];refine Ei [] ?_
  repeat' first|refine Ai ?_ ?_|exact rfl|exact⟨⟩|exact Ei _ rfl
 ·rw[show(o.id==c.e.aO)=false from h];refine Ei [] ?_
  repeat' first|refine Ai ?_ ?_|exact rfl|exact⟨⟩|exact Ei _ rfl
theorem MX (c:fx)(o:aE):Ct ae 192 [.agg (o.enc.map .t),.dv c.enc 0] (aB0 (o.id==c.e.aO)) [] true:=by
 refine aB4 (b:=false) ?_ rfl;refine cT Tryz.func192 rfl (by kernel_rfl) rfl fun w0 O _=>aBW [] ?_;refine Ei [] ?_
 repeat' first|refine Ai ?_ ?_|exact rfl|exact⟨⟩|exact Ei _ rfl
theorem Hc (c:fx)(h1:c.before.aa.length*128<=ba)(h2:c.after.aa.length*128<=ba):Ct ae 133 [.agg (c.enc.map .t)] (aB0 (mM c)) [] true:=by
 refine aB4 (b:=false) ?_ rfl;generalize hM:mM c=M;unfold mM at hM;refine cT Tryz.func133 rfl (by kernel_rfl) rfl fun w0 O _=>aBW [] ?_;refine cF (qx c.before.aa (fun o:aE=>o.id==c.e.aO&&o.cg==0) 191 [(c.enc,0)] (fun o=>MY c o) h1) ⟨rfl,⟨rfl,⟨⟨rfl,rfl⟩,trivial⟩⟩,trivial⟩ ?_;refine cF (qx c.after.aa (fun o:aE=>o.id==c.e.aO) 192 [(c.enc,0)] (fun o=>MX c o) h2) ⟨rfl,⟨rfl,⟨⟨rfl,rfl⟩,trivial⟩⟩,trivial⟩ ?_;revert hM;generalize decide (jS (fun o:aE=>o.id==c.e.aO&&o.cg==0) c.before.aa>=0)=x;generalize decide (jS (fun o:aE=>o.id==c.e.aO) c.after.aa>=0)=y;intro hM;refine cS (fun h=>?_) (fun h=>?_)
 ·rw[show(c.e.kind==2)=true from h] at hM;refine cS (fun h=>?_) (fun h=>?_)
  ·subst h;subst hM;refine Ei [] ?_
   repeat' first|refine Ai ?_ ?_|exact rfl|exact⟨⟩|exact Ei _ rfl
  ·subst h;subst hM;refine Ei [] ?_
   repeat' first|refine Ai ?_ ?_|exact rfl|exact⟨⟩|exact Ei _ rfl
 ·rw[show(c.e.kind==2)=false from h] at hM;subst hM;refine Ei [] ?_
  repeat' first|refine Ai ?_ ?_|exact rfl|exact⟨⟩|exact Ei _ rfl
theorem tg (s t:aA)(hs:s.aa.length<=1000000)(ht:t.aa.length<=1000000):Ct ae 131 [.agg (s.enc.map .t),.agg (t.enc.map .t)] (.c (.row 0 0)) [⟨3,1,0,(kq (gx t.aa) (gx s.aa)).map eI,none⟩] true:=by
 refine Ic (b:=false) ?_ (yE _);have h1:=vv s (by unfold ba;omega);have h2:=vv t (by unfold ba;omega);have h3:=Jp (gx t.aa) (gx s.aa) (bd (nq _) ht) (bd (nq _) hs);refine cT Tryz.func131 rfl (by kernel_rfl) rfl fun w0 O _=>aBW [] ?_;refine cR h2 ⟨fL t.enc,trivial⟩ ?_;refine cR h1 ⟨fL s.enc,trivial⟩ ?_;refine cR h3 ⟨rfl,rfl,trivial⟩ ?_;refine Ei [(0,1280)] ?_
 repeat' first|refine Ai ?_ ?_|exact rfl|exact⟨⟩|exact Ei _ rfl|refine aj ?_|refine bS ?_
theorem o9 (k id:Int)(s:aA)(all:List aG)(c:fx)(w:aF)(hs:s.aa.length*128<=ba)(iU:all.length*176<=ba)(zL:∀ y∈all,aG.ok y):Ct ae 129 [.c (.t (iv k)),.c (.t (iv id)),.agg (s.enc.map .t),.c (.t (.sl 17 (all.map aG.enc))),.dv c.enc 0,.dv w.enc 0] (.c (.t (.sl 1 ((oB c.e.kind k id s all w).map eI)))) [] true:=by
 refine uM (ty:=3) (Ic (b:=false) ?_ (yE _));generalize hM:oB c.e.kind k id s all w=M;unfold oB at hM;refine cT Tryz.func129 rfl (by kernel_rfl) rfl fun w0 O _=>aBW [] ?_;refine cS (fun h=>?_) (fun h=>?_)
 ·rw[show(c.e.kind==k)=true from h,Bool.true_and] at hM;refine cF (As s all w id hs iU zL) ⟨fL s.enc,rfl,fL w.enc,rfl,trivial⟩ ?_;refine cS (fun h=>?_) (fun h=>?_)
  ·rw[h] at hM;subst hM;refine Ei [(0,1920)] ?_
   repeat' first|refine Ai ?_ ?_|exact rfl|exact⟨⟩|exact Ei _ rfl|refine aj ?_|refine bS ?_
  ·rw[h] at hM;subst hM;refine Ei [] ?_
   repeat' first|refine Ai ?_ ?_|exact rfl|exact⟨⟩|exact Ei _ rfl
 ·rw[show(c.e.kind==k)=false from h,Bool.false_and] at hM;subst hM;refine Ei [] ?_
  repeat' first|refine Ai ?_ ?_|exact rfl|exact⟨⟩|exact Ei _ rfl
theorem Gi (c:fx)(w:aF)(hs:c.after.aa.length*128<=ba)(iU:c.dS.length*176<=ba)(zL:∀ y∈c.dS,aG.ok y)(id:Int):Ct ae 132 [.c (.t (iv id)),.dv c.enc 0,.dv w.enc 0] (aB0 (!jK c.after.aa c.dS id w.you w.id w.ai.aM.filter)) [] true:=by
 refine aB4 (b:=false) ?_ rfl;refine cT Tryz.func132 rfl (by kernel_rfl) rfl fun w0 O _=>aBW [] ?_;refine cF (As c.after c.dS w id hs iU zL) ⟨fL c.after.enc,rfl,fL w.enc,rfl,trivial⟩ ?_;refine Ei [] ?_
 repeat' first|refine Ai ?_ ?_|exact rfl|exact⟨⟩|exact Ei _ rfl
end
end Go.Proofs.YtbmdcnkidjlbbaaGreat
