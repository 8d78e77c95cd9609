/- Parts of the proof, joined: . -/
import Derived.Test.YtbmdcnkidjlbbaaGreatDD
import Derived.WalkLawsBesides
import Derived.WalkSpells
import Derived.WalkSmall
import Derived.BigQuiet
import Derived.Deep.QuietTactic
import Derived.Lib.SlicesCompact
import Derived.Lib.Join
import Derived.Lib.SlicesS
import Derived.Lib.AppendZeros
import Derived.Orders
import Derived.RangeFuncFrom
open True renaming intro->ea
open Go.Proofs.Tryz renaming prog->ae
open List renaming getElem?_eq_getElem->ag,length_append->al,getElem?_eq_some_iff->an,length_cons->aZ,length_take->au,length_nil->bM,mem_cons_self->aB,getElem_mem->aH,mem_singleton->aJ,mem_cons_of_mem->aM,all_eq_true->aN,length_drop->aO,map_append->aQ,take_succ_eq_append_getElem->aS,append_nil->aW,mem_of_getElem?->bc,mem_append->bh,take_length->bj,getElem?_append_right->bm,getElem?_append_left->bz,mem_iff_getElem->bD,nil_append->bE,getElem?_map->bI,mem_map->bL,mem_append_left->bR,mem_append_right->bT,map_cons->bW,flatMap_cons->bZ,append_assoc->b9,length_replicate->cz,length_filter_le->cE
open Bool renaming and_eq_true->ah,false_and->cm,true_and->cq,not_eq_true'->cu,or_eq_true->cC
open Nat renaming eq_of_beq_eq_true->ai,le_refl->ak,zero_le->aA,le_trans->aX,zero_add->bw,lt_of_lt_of_le->cA,le_of_lt->db,add_zero->dm
open Go.IntKind renaming wrap_i64->bp,wrap_u64->cK
open Option.some renaming inj->aY
open Array renaming length_toList->bP,getElem?_toList->dF
open Cg.Tp renaming run->aEk,loop->aEm
open Cg.cc renaming bn->aEl,cut->aEr
open Cg.AV renaming i->aEn,b->aEo
open Cg.Ct renaming lit->aEs
set_option maxRecDepth 100000
set_option maxHeartbeats 4000000
namespace Go.Proofs.YtbmdcnkidjlbbaaGreat
section
open Go Go.RowKit Cg
theorem zC {s:ByteArray}(h:s.size=0):s=⟨#[]⟩:=AE (by
 have h1:s.data.toList.length=0:=by simpa using h
 simpa using List.eq_nil_of_length_eq_zero h1)
theorem kP (c:UInt8)(w:World):Calls ae 144 #[.int .u8 c.toNat] w fun e w'=>e=.returned (.bool (EE c))/\w=w':=by
 have hc:c.toNat < 256:=c.toNat_lt
 by_cases h1:97<=c.toNat
 ·by_cases h2:c.toNat<=122
  ·rw[show EE c=true from decide_eq_true ⟨h1,h2⟩]
   go_enter Tryz.func144,Tryz.ntmps144
   go_wp2
   all_goals go_ret
   all_goals exact⟨eU (by simp;omega),rfl⟩
  ·rw[show EE c=false from decide_eq_false (fun h=>h2 h.2)]
   go_enter Tryz.func144,Tryz.ntmps144
   go_wp2
   all_goals go_ret
   all_goals exact⟨eU (by simp;omega),rfl⟩
 ·rw[show EE c=false from decide_eq_false (fun h=>h1 h.1)]
  go_enter Tryz.func144,Tryz.ntmps144
  go_wp2
  all_goals go_ret
  all_goals exact⟨eU (by simp),rfl⟩
def Gm (s:ByteArray)(k:Nat):Prop:=∀ i,i < k->Fl (bt s i)=true
theorem Gm.step {s:ByteArray}{k:Nat}(h:Gm s k)(h2:Fl (bt s k)=true):Gm s (k+1):=fun i hi=>by
 by_cases e:i=k
 ·rw[e];exact h2
 ·exact h i (by omega)
def SM (s:ByteArray)(k:Nat):Prop:=∀ i,i < k->0 < i->¬ ((bt s i).toNat=45/\(bt s (i - 1)).toNat=45)
theorem SM.step {s:ByteArray}{k:Nat}(h:SM s k)(h2:0 < k->¬ ((bt s k).toNat=45/\(bt s (k - 1)).toNat=45)):SM s (k+1):=fun i hi h0=>by
 by_cases e:i=k
 ·rw[e] at h0 ⊢;exact h2 h0
 ·exact h i (by omega) h0
theorem yU {s:ByteArray}(h:Lib.contains s.data.toList [45,45]=false):SM s s.size:=fun i hi h0 hh=>by
 have:Lib.contains s.data.toList [45,45]=true:=(u5 s).2 ⟨i - 1,by omega,(Jg _).2 hh.2,by rw[show i - 1+1=i by omega];exact(Jg _).2 hh.1⟩;rw[h] at this
 cases this
theorem Ck {s:ByteArray}(h:Lib.contains s.data.toList [45,45]=true):ta s=false:=fx (fun hw=>by
 obtain⟨i,h1,h2,h3⟩:=(u5 s).1 h;exact hw.2.2.2.2.2 (i+1) h1 (by omega) ⟨(Jg _).1 h3,by rw[show i+1 - 1=i by omega];exact(Jg _).1 h2⟩)
theorem Kw {s:ByteArray}{k:Nat}(hk:k < s.size)(h:Fl (bt s k)=false):ta s=false:=fx (fun hw=>by
 have:=hw.2.2.2.2.1 k hk;rw[h] at this
 cases this)
def Mx (w:World):Prop:=∃ m,w.cell? ⟨0,0,none⟩=some (.int .i64 m)
theorem xP (s p:ByteArray)(w:World)(hs:s.size < 4294967281)(hm:Mx w):Calls ae 277 #[.string s,.string p] w fun e w'=>e=.returned (.bool (Lib.contains s.data.toList p.data.toList))/\w=w':=by
 obtain⟨m,hm⟩:=hm;exact(Tryz.strings_Contains s p m w hs hm).mono fun _ _ ⟨h1,h2⟩=>⟨h1,h2.symm⟩
theorem ZL (s:ByteArray)(hs:s.size<=1000000)(w:World):Calls ae 79 #[.string s] w fun e w'=>e=.returned (.bool (ta s))/\w=w':=by
 by_cases h0:s.size=0
 ·rw[fx (s:=s) (fun h=>by have:=h.1;omega)];obtain rfl:=zC h0;clear h0
  go_enter Tryz.func79,Tryz.ntmps79
  go_wp2
  go_ret
  exact⟨rfl,rfl⟩
 have oV:0 < s.size:=by omega
 have t0:((s.size:Int)==0)=false:=beq_eq_false_iff_ne.2 (by omega)
 by_cases h32:32 < s.size
 ·rw[fx (s:=s) (fun h=>by have:=h.2.1;omega)];clear h0
  go_enter Tryz.func79,Tryz.ntmps79
  go_wp2
  go_ret
  exact⟨rfl,rfl⟩
 have HB0:=Lib.hid (ajM s 0 oV);obtain⟨a,ha⟩:∃ a,s[0]'oV=a:=⟨_,rfl⟩
 have HA:=Lib.hid (show bt s 0=a by rw[HB0.out,ha]);have Aq:a.toNat < 256:=a.toNat_lt;have hq:s.size - 1 < s.size:=by omega
 have HB1:=Lib.hid (ajM s (s.size - 1) hq);obtain⟨z,hz⟩:∃ z,s[s.size - 1]'hq=z:=⟨_,rfl⟩
 have HZ:=Lib.hid (show bt s (s.size - 1)=z by rw[HB1.out,hz]);have hzl:z.toNat < 256:=z.toNat_lt;have i1:(1:Int)<=(s.size:Int):=by omega
 have i2:(s.size:Int) - 1 < (s.size:Int):=by omega
 have h33:s.size<=32:=by omega
 clear h0 h32
 cases Gy:EE a
 ·rw[fx (s:=s) (fun h=>by have:=h.2.2.1;rw[HA.out,Gy] at this;cases this)];have X5:=Lib.hid Gy;clear Gy
  go_enter Tryz.func79,Tryz.ntmps79
  go_wp2_with (go_at_call 144;refine(kP a _).mono ?_;rintro e w' ⟨rfl,rfl⟩;rw[X5.out])
  go_ret
  exact⟨rfl,rfl⟩
 have X5:=Lib.hid Gy;clear Gy
 by_cases Cm:z.toNat=45
 ·rw[fx (s:=s) (fun h=>h.2.2.2.1 (by rw[HZ.out];exact Cm))];have tz:((z.toNat:Int)==45)=true:=beq_iff_eq.2 (by omega);clear Cm
  go_enter Tryz.func79,Tryz.ntmps79
  go_wp2_with (go_at_call 144;refine(kP a _).mono ?_;rintro e w' ⟨rfl,rfl⟩;rw[X5.out])
  go_ret
  exact⟨rfl,rfl⟩
 have tz:((z.toNat:Int)==45)=false:=beq_eq_false_iff_ne.2 (by omega)
 go_enter Tryz.func79,Tryz.ntmps79
 go_wp2_with (go_at_call 144;refine(kP a _).mono ?_;rintro e w' ⟨rfl,rfl⟩;rw[X5.out])
 go_loop [3] (fun i=>∃ k:Nat,k<=s.size/\i=.int .i64 k/\Gm s k/\SM s k) (fun i=>s.size - (intOf i).toNat)
 case atStart=>exact⟨0,by omega,rfl,(fun i hi=>by omega),fun i hi=>by omega⟩
 case round=>
  obtain⟨k,hk,rfl,vH,hdd⟩:=hrel
  by_cases aU:k < s.size
  ·have HB:=Lib.hid (ajM s k aU);obtain⟨c,hc⟩:∃ c,s[k]'aU=c:=⟨_,rfl⟩
   have HC:=Lib.hid (show bt s k=c by rw[HB.out,hc]);have hcl:c.toNat < 256:=c.toNat_lt;have HG:=Lib.hid vH;have HDD:=Lib.hid hdd;clear vH hdd
   cases VT:EE c
   ·have MS:¬ (97<=c.toNat/\c.toNat<=122):=of_decide_eq_false VT;have X4:=Lib.hid VT;clear VT
    by_cases hdg:48<=c.toNat/\c.toNat<=57
    ·obtain⟨d1,d2⟩:=hdg;have HN:=Lib.hid (HG.out.step (by rw[HC.out];exact decide_eq_true (.inr (.inl ⟨d1,d2⟩))));have HM:=Lib.hid (HDD.out.step fun _ h=>by rw[HC.out] at h;omega);have t45:((c.toNat:Int)==45)=false:=beq_eq_false_iff_ne.2 (by omega);clear MS
     go_wp2_with (go_at_call 144;refine(kP c _).mono ?_;rintro e w' ⟨rfl,rfl⟩;rw[X4.out])
     all_goals go_round
     all_goals first
      | (case rel=>exact⟨k+1,by omega,by go_num,HN.out,HM.out⟩)
      | (case measure=>simp[intOf];omega)
    ·by_cases h45:c.toNat=45
     ·have HN:=Lib.hid (HG.out.step (by rw[HC.out];exact decide_eq_true (.inr (.inr h45))));have t45:((c.toNat:Int)==45)=true:=beq_iff_eq.2 (by omega);have t46:((c.toNat:Int) != 45)=false:=by rw[bne,t45];rfl
      have c48:(c.toNat:Int) < 48:=by omega
      by_cases Iy:k=0
      ·exfalso;subst Iy;have hca:a=c:=by rw[<- HA.out,<- HC.out]
       have h1:=X5.out;rw[hca,X4.out] at h1
       cases h1
      ·have hq1:k - 1 < s.size:=by omega
       have HBQ:=Lib.hid (ajM s (k - 1) hq1);obtain⟨q,hqe⟩:∃ q,s[k - 1]'hq1=q:=⟨_,rfl⟩
       have HQ:=Lib.hid (show bt s (k - 1)=q by rw[HBQ.out,hqe]);have hql:q.toNat < 256:=q.toNat_lt;have k1:(1:Int)<=(k:Int):=by omega
       have k2:(k:Int) - 1 < (s.size:Int):=by omega
       by_cases VQ:q.toNat=45
       ·have HF:=Lib.hid (fx (s:=s) fun h=>h.2.2.2.2.2 k aU (by omega) ⟨by rw[HC.out];exact h45,by rw[HQ.out];exact VQ⟩);have tq:((q.toNat:Int)==45)=true:=beq_iff_eq.2 (by omega);clear MS hdg h45 VQ Iy
        go_wp2_with (go_at_call 144;refine(kP c _).mono ?_;rintro e w' ⟨rfl,rfl⟩;rw[X4.out])
        go_ret
        exact⟨eU HF.out.symm,rfl⟩
       ·have HM:=Lib.hid (HDD.out.step fun _ h=>VQ (by rw[<- HQ.out];exact h.2));have tq:((q.toNat:Int)==45)=false:=beq_eq_false_iff_ne.2 (by omega);clear MS hdg h45 VQ Iy
        go_wp2_with (go_at_call 144;refine(kP c _).mono ?_;rintro e w' ⟨rfl,rfl⟩;rw[X4.out])
        go_round
        case rel=>exact⟨k+1,by omega,by go_num,HN.out,HM.out⟩
        case measure=>simp[intOf];omega
     ·have HF:=Lib.hid (Kw aU (by rw[HC.out];exact decide_eq_false (by omega)));have t45:((c.toNat:Int)==45)=false:=beq_eq_false_iff_ne.2 (by omega);have t46:((c.toNat:Int) != 45)=true:=by rw[bne,t45];rfl
      rcases(show c.toNat < 48\/57 < c.toNat by omega) with hb|hb
      ·clear MS hdg h45
       go_wp2_with (go_at_call 144;refine(kP c _).mono ?_;rintro e w' ⟨rfl,rfl⟩;rw[X4.out])
       go_ret
       exact⟨eU HF.out.symm,rfl⟩
      ·clear MS hdg h45
       go_wp2_with (go_at_call 144;refine(kP c _).mono ?_;rintro e w' ⟨rfl,rfl⟩;rw[X4.out])
       go_ret
       exact⟨eU HF.out.symm,rfl⟩
   ·have x8:97<=c.toNat/\c.toNat<=122:=of_decide_eq_true VT;have X4:=Lib.hid VT;have HN:=Lib.hid (HG.out.step (by rw[HC.out];exact decide_eq_true (.inl x8)));have HM:=Lib.hid (HDD.out.step fun _ h=>by rw[HC.out] at h;omega);have t45:((c.toNat:Int)==45)=false:=beq_eq_false_iff_ne.2 (by omega);clear VT
    go_wp2_with (go_at_call 144;refine(kP c _).mono ?_;rintro e w' ⟨rfl,rfl⟩;rw[X4.out])
    all_goals go_round
    all_goals first
     | (case rel=>exact⟨k+1,by omega,by go_num,HN.out,HM.out⟩)
     | (case measure=>simp[intOf];omega)
  ·obtain rfl:k=s.size:=by omega
   have HF:=Lib.hid (ES (s:=s) ⟨by omega,by omega,by rw[HA.out];exact X5.out,by rw[HZ.out];exact Cm,vH,hdd⟩);clear vH hdd
   go_wp2
   go_ret
   exact⟨eU HF.out.symm,rfl⟩
theorem VI (s:ByteArray)(hs:s.size<=1000000)(w:World)(hm:Mx w):Calls ae 261 #[.string s] w fun e w'=>e=.returned (.bool (ta s))/\Below w.heap.size w w':=by
 have HM:=Lib.hid hm;clear hm
 by_cases h0:s.size=0
 ·rw[fx (s:=s) (fun h=>by have:=h.1;omega)];obtain rfl:=zC h0;clear h0
  go_enter Tryz.func261,Tryz.ntmps261
  go_wp2
  go_ret
  exact⟨rfl,Below.refl _ _⟩
 have oV:0 < s.size:=by omega
 have t0:((s.size:Int)==0)=false:=beq_eq_false_iff_ne.2 (by omega)
 by_cases h32:32 < s.size
 ·rw[fx (s:=s) (fun h=>by have:=h.2.1;omega)];clear h0
  go_enter Tryz.func261,Tryz.ntmps261
  go_wp2
  go_ret
  exact⟨rfl,Below.refl _ _⟩
 have HB0:=Lib.hid (ajM s 0 oV);obtain⟨a,ha⟩:∃ a,s[0]'oV=a:=⟨_,rfl⟩
 have HA:=Lib.hid (show bt s 0=a by rw[HB0.out,ha]);have Aq:a.toNat < 256:=a.toNat_lt;have hq:s.size - 1 < s.size:=by omega
 have HB1:=Lib.hid (ajM s (s.size - 1) hq);obtain⟨z,hz⟩:∃ z,s[s.size - 1]'hq=z:=⟨_,rfl⟩
 have HZ:=Lib.hid (show bt s (s.size - 1)=z by rw[HB1.out,hz]);have hzl:z.toNat < 256:=z.toNat_lt;have i1:(1:Int)<=(s.size:Int):=by omega
 have i2:(s.size:Int) - 1 < (s.size:Int):=by omega
 have h33:s.size<=32:=by omega
 clear h0 h32
 by_cases Gy:97<=a.toNat/\a.toNat<=122
 case neg=>
  rw[fx (s:=s) (fun h=>by have h1:=of_decide_eq_true h.2.2.1;rw[HA.out] at h1;exact Gy h1)];rcases(show a.toNat < 97\/(97<=a.toNat/\122 < a.toNat) by omega) with hb|⟨hb,dK⟩
  ·clear Gy
   go_enter Tryz.func261,Tryz.ntmps261
   go_wp2
   go_ret
   exact⟨rfl,Below.refl _ _⟩
  ·clear Gy
   go_enter Tryz.func261,Tryz.ntmps261
   go_wp2
   go_ret
   exact⟨rfl,Below.refl _ _⟩
 have X5:=Lib.hid (show EE a=true from decide_eq_true Gy);obtain⟨y8,qO⟩:=Gy
 by_cases Cm:z.toNat=45
 ·rw[fx (s:=s) (fun h=>h.2.2.2.1 (by rw[HZ.out];exact Cm))];have tz:((z.toNat:Int)==45)=true:=beq_iff_eq.2 (by omega);clear Cm
  go_enter Tryz.func261,Tryz.ntmps261
  go_wp2
  go_ret
  exact⟨rfl,Below.refl _ _⟩
 have tz:((z.toNat:Int)==45)=false:=beq_eq_false_iff_ne.2 (by omega)
 cases vI:Lib.contains s.data.toList [45,45]
 case true=>
  rw[Ck vI];have HCT:=Lib.hid (show Lib.contains s.data.toList (ByteArray.mk #[45,45]).data.toList=true from vI);clear vI Cm
  go_enter Tryz.func261,Tryz.ntmps261
  go_wp2_with (go_at_call 277;refine(xP s ⟨#[45,45]⟩ _ (by omega) HM.out).mono ?_;rintro e w' ⟨rfl,rfl⟩;rw[HCT.out])
  go_ret
  exact⟨rfl,Below.refl _ _⟩
 have HDD:=Lib.hid (yU vI);have HCT:=Lib.hid (show Lib.contains s.data.toList (ByteArray.mk #[45,45]).data.toList=false from vI);have atT:=Lib.hid Cm;clear vI Cm
 go_enter Tryz.func261,Tryz.ntmps261
 go_wp2_with (first
  | (go_at_call 277;refine(xP s ⟨#[45,45]⟩ _ (by omega) HM.out).mono ?_;rintro e w' ⟨rfl,rfl⟩;rw[HCT.out])
  | (with_reducible refine AM rfl 9 281 5 (.tmp 35) rfl Tryz.underlying9 Tryz.underlying281 Tryz.underlying5 s rfl ?_;intro cap w1 oC oZ lY jh;have HC1:=Lib.hid jh;clear jh))
 go_loop [38] (fun i=>∃ k:Nat,k<=s.size/\i=.int .i64 k/\Gm s k) (fun i=>s.size - (intOf i).toNat)
 case atStart=>exact⟨0,by omega,rfl,(fun i hi=>by omega)⟩
 case round=>
  obtain⟨k,hk,rfl,vH⟩:=hrel
  by_cases aU:k < s.size
  ·have HB:=Lib.hid (ajM s k aU);have jh:=HC1.out k aU;obtain⟨c,hc⟩:∃ c,s[k]'aU=c:=⟨_,rfl⟩
   have HC:=Lib.hid (show bt s k=c by rw[HB.out,hc]);rw[hc] at jh;clear hc;have hcl:c.toNat < 256:=c.toNat_lt;have HG:=Lib.hid vH;clear vH
   by_cases An:Fl c=true
   ·have HN:=Lib.hid (HG.out.step (by rw[HC.out];exact An));have hg3:(97<=c.toNat/\c.toNat<=122)\/(48<=c.toNat/\c.toNat<=57)\/c.toNat=45:=of_decide_eq_true An;clear An;rcases hg3 with⟨c1,c2⟩|⟨c1,c2⟩|c1
    ·go_wp2
     go_round
     case rel=>exact⟨k+1,by omega,by go_num,HN.out⟩
     case measure=>simp[intOf];omega
    ·go_wp2
     go_round
     case rel=>exact⟨k+1,by omega,by go_num,HN.out⟩
     case measure=>simp[intOf];omega
    ·have t45:((c.toNat:Int) != 45)=false:=by rw[bne,beq_iff_eq.2 (show(c.toNat:Int)=45 by omega)];rfl
     have c48:(c.toNat:Int) < 48:=by omega
     clear c1
     go_wp2
     go_round
     case rel=>exact⟨k+1,by omega,by go_num,HN.out⟩
     case measure=>simp[intOf];omega
   ·have HF:=Lib.hid (Kw aU (by rw[HC.out];simpa using An));have hn:¬ ((97<=c.toNat/\c.toNat<=122)\/(48<=c.toNat/\c.toNat<=57)\/c.toNat=45):=fun h=>An (decide_eq_true h);have t45:((c.toNat:Int) != 45)=true:=by rw[bne,beq_eq_false_iff_ne.2 (show ¬ (c.toNat:Int)=45 by omega)];rfl
    clear An;rcases(show c.toNat < 48\/(57 < c.toNat/\c.toNat < 97)\/122 < c.toNat by omega) with c1|⟨c1,c2⟩|c1
    all_goals
     clear hn
     go_wp2
     go_ret
     exact⟨eU HF.out.symm,oZ⟩
  ·obtain rfl:k=s.size:=by omega
   have HF:=Lib.hid (ES (s:=s) ⟨by omega,by omega,by rw[HA.out];exact X5.out,by rw[HZ.out];exact atT.out,vH,HDD.out⟩);clear vH
   go_wp2
   go_ret
   exact⟨eU HF.out.symm,oZ⟩
end
end Go.Proofs.YtbmdcnkidjlbbaaGreat
namespace Cg
section

section
variable {α:Type}
structure Ord (lt:α->α->Bool):Prop where
 irrefl:∀ a,lt a a=false
 trans:∀ a b c,lt a b=true->lt b c=true->lt a c=true
 conn:∀ a b,lt a b=false->lt b a=false->a=b
def SI (lt:α->α->Bool)(l:List α):Prop:=l.Pairwise fun a b=>lt a b=true
theorem SI.ext {lt:α->α->Bool}(O:Ord lt):∀ {a b:List α},SI lt a->SI lt b->(∀ x,x∈a↔x∈b)->a=b
 | [],[],_,_,_=>rfl
 | [],y :: b,_,_,h=>by have:=(h y).2 (by simp);simp at this
 | x :: a,[],_,_,h=>by have:=(h x).1 (by simp);simp at this
 | x :: a,y :: b,ha,hb,h=>by
  have ha':=List.pairwise_cons.1 ha;have fa:=List.pairwise_cons.1 hb
  have asym:∀ u v,lt u v=true->lt v u=true->False:=fun u v h1 h2=>by
   have:=O.trans u v u h1 h2;rw[O.irrefl] at this
   cases this
  have hxy:x=y:=by
   have h1:=(h x).1 (by simp);have h2:=(h y).2 (by simp);rcases List.mem_cons.1 h1 with e|h1
   ·exact e
   ·rcases List.mem_cons.1 h2 with e|h2
    ·exact e.symm
    ·exact(asym _ _ (fa.1 x h1) (ha'.1 y h2)).elim
  subst hxy;congr 1;refine SI.ext O ha'.2 fa.2 fun z=>⟨fun hz=>?_,fun hz=>?_⟩
  ·rcases List.mem_cons.1 ((h z).1 (by simp[hz])) with e|h1
   ·have:=ha'.1 z hz;rw[e,O.irrefl] at this
    cases this
   ·exact h1
  ·rcases List.mem_cons.1 ((h z).2 (by simp[hz])) with e|h1
   ·have:=fa.1 z hz;rw[e,O.irrefl] at this
    cases this
   ·exact h1
section insert
variable [DecidableEq α]
def ins (lt:α->α->Bool)(n:α)(l:List α):List α:=l.takeWhile (lt · n)++n :: (l.dropWhile (lt · n)).filter fun x=>decide (¬ x=n)
theorem Vc (lt:α->α->Bool)(n:α)(l:List α)(x:α):x∈ins lt n l↔x=n\/x∈l:=by
 have hs:x∈l↔x∈l.takeWhile (lt · n)\/x∈l.dropWhile (lt · n):=by
  rw[<- bh,List.takeWhile_append_dropWhile]
 unfold ins;rw[bh,List.mem_cons,List.mem_filter,hs,decide_eq_true_eq]
 by_cases e:x=n <;> simp[e]
omit [DecidableEq α] in
theorem pX {p:α->Bool}:∀ {l:List α},∀ x∈l.takeWhile p,p x=true
 | [],x,h=>by simp at h
 | a :: l,x,h=>by
  rw[List.takeWhile_cons] at h;split at h
  ·rcases List.mem_cons.1 h with e|h
   ·rw[e];assumption
   ·exact pX x h
  ·simp at h
omit [DecidableEq α] in
theorem SI.K0 {lt:α->α->Bool}(O:Ord lt){n:α}:∀ {l:List α},SI lt l->∀ x∈l.dropWhile (lt · n),lt x n=false
 | [],_,x,h=>by simp at h
 | a :: l,hs,x,h=>by
  rw[List.dropWhile_cons] at h;split at h
  ·exact SI.K0 O (List.pairwise_cons.1 hs).2 x h
  ·rename_i hn;have hn:lt a n=false:=by simpa using hn
   rcases List.mem_cons.1 h with e|h
   ·rw[e];exact hn
   ·cases hx:lt x n
    ·rfl
    ·have:=O.trans a x n ((List.pairwise_cons.1 hs).1 x h) hx;rw[hn] at this
     cases this
theorem SI.ins {lt:α->α->Bool}(O:Ord lt){n:α}{l:List α}(h:SI lt l):SI lt (ins lt n l):=by
 have hp:SI lt (l.takeWhile (lt · n)++l.dropWhile (lt · n)):=by rw[List.takeWhile_append_dropWhile];exact h
 obtain⟨h1,h2,h3⟩:=List.pairwise_append.1 hp;unfold Cg.ins;refine List.pairwise_append.2 ⟨h1,List.pairwise_cons.2 ⟨fun x hx=>?_,h2.filter _⟩,fun x hx y hy=>?_⟩
 ·obtain⟨hx,hn⟩:=List.mem_filter.1 hx;have hn:¬ x=n:=by simpa using hn
  have ui:=SI.K0 O h x hx
  cases hnx:lt n x
  ·exact absurd (O.conn x n ui hnx) hn
  ·rfl
 ·rcases List.mem_cons.1 hy with e|hy
  ·rw[e];exact pX x hx
  ·exact h3 x hx y (List.mem_filter.1 hy).1
def jY (lt:α->α->Bool)(o:List α)(l:List α):List α:=l.foldl (fun o x=>ins lt x o) o
theorem E9 (lt:α->α->Bool)(o l:List α)(x:α):jY lt o (l++[x])=ins lt x (jY lt o l):=by rw[jY,List.foldl_append];rfl
theorem MK {lt:α->α->Bool}(O:Ord lt)(l:List α):∀ {o:List α},SI lt o->SI lt (jY lt o l):=by
 induction l with
 | nil=>exact fun h=>h
 | cons a l ih=>exact fun h=>ih (h.ins O)
theorem H3 (lt:α->α->Bool)(l:List α):∀ (o:List α) (x:α),x∈jY lt o l↔x∈o\/x∈l:=by
 induction l with
 | nil=>intro o x;simp[jY]
 | cons a l ih=>
  intro o x;show x∈jY lt (ins lt a o) l↔_;rw[ih,Vc,List.mem_cons];constructor
  ·rintro((h|h)|h)
   ·exact .inr (.inl h)
   ·exact .inl h
   ·exact .inr (.inr h)
  ·rintro(h|h|h)
   ·exact .inl (.inr h)
   ·exact .inl (.inl h)
   ·exact .inr h
theorem VL (lt:α->α->Bool)(n:α)(l:List α):(ins lt n l).length<=l.length+1:=by
 have h1:(l.takeWhile (lt · n)).length+(l.dropWhile (lt · n)).length=l.length:=by rw[<- al,List.takeWhile_append_dropWhile]
 have h2:=cE (fun x=>decide (¬ x=n)) (l.dropWhile (lt · n));unfold ins;rw[al,aZ];omega
theorem xt (lt:α->α->Bool)(l:List α):∀ o:List α,(jY lt o l).length<=o.length+l.length:=by
 induction l with
 | nil=>exact fun o=>ak _
 | cons a l ih=>
  intro o;have h1:=ih (ins lt a o);have h2:=VL lt a o;show(jY lt (ins lt a o) l).length<=_;rw[aZ];omega
def gW (lt:α->α->Bool)(n:α)(s:List α × Bool)(x:α):List α × Bool:=
 if s.2=false/\lt x n=false then(if x=n then s.1++[n] else s.1++[n]++[x],true) else(if x=n then s.1 else s.1++[x],s.2)
theorem se (lt:α->α->Bool)(n:α):∀ (l:List α) (o:List α),l.foldl (gW lt n) (o,true)=(o++l.filter (fun x=>decide (¬ x=n)),true)
 | [],o=>by simp
 | a :: l,o=>by
  rw[List.foldl_cons];have:gW lt n (o,true) a=(if a=n then o else o++[a],true):=by simp[gW]
  rw[this,se lt n l]
  by_cases e:a=n <;> simp[e]
theorem sa (lt:α->α->Bool)(O:Ord lt)(n:α):∀ (l:List α) (o:List α),(if (l.foldl (gW lt n) (o,false)).2 then(l.foldl (gW lt n) (o,false)).1 else(l.foldl (gW lt n) (o,false)).1++[n])=o++ins lt n l
 | [],o=>by simp[ins]
 | a :: l,o=>by
  rw[List.foldl_cons]
  cases h:lt a n
  ·have:gW lt n (o,false) a=(if a=n then o++[n] else o++[n]++[a],true):=by simp[gW,h]
   rw[this,se lt n l]
   by_cases e:a=n <;> simp[e,ins,h,O.irrefl]
  ·have ne:¬ a=n:=fun e=>by rw[e,O.irrefl] at h;cases h
   have:gW lt n (o,false) a=(o++[a],false):=by simp[gW,h,ne]
   rw[this,sa lt O n l];simp[ins,h]
end insert
section compact
variable [Inhabited α][DecidableEq α]
open Go.Lib
theorem o9 {lt:α->α->Bool}(O:Ord lt)(d:Array α)(hs:∀ j k,j < k->k < d.size->lt d[k]! d[j]! = false):∀ m,m<=d.size->SI lt (compactUpTo d m)/\(∀ x,x∈compactUpTo d m↔∃ j,j < m/\d[j]! = x)
 | 0,_=>⟨List.Pairwise.nil,fun x=>by simp[compactUpTo]⟩
 | m+1,hm=>by
  obtain⟨h1,h2⟩:=o9 O d hs m (by omega);rw[compactUpTo_succ]
  cases hk:keeps d m
  ·have hk:¬ (m=0\/d[m]!≠d[m - 1]!):=of_decide_eq_false hk;have hm0:¬ m=0:=fun e=>hk (.inl e);have he:d[m]! = d[m - 1]!:=Decidable.byContradiction fun e=>hk (.inr e);rw[if_neg (by decide),aW];refine⟨h1,fun x=>?_⟩;rw[h2];constructor
   ·rintro⟨j,hj,e⟩;exact⟨j,by omega,e⟩
   ·rintro⟨j,hj,e⟩
    by_cases XF:j=m
    ·exact⟨m - 1,by omega,by rw[<- he,<- XF];exact e⟩
    ·exact⟨j,by omega,e⟩
  ·have hk:m=0\/d[m]!≠d[m - 1]!:=of_decide_eq_true hk;rw[if_pos rfl];refine⟨List.pairwise_append.2 ⟨h1,List.pairwise_singleton _ _,fun x hx y hy=>?_⟩,fun x=>?_⟩
   ·rw[aJ.1 hy];obtain⟨j,hj,rfl⟩:=(h2 x).1 hx;have g1:=hs j m hj (by omega)
    cases g:lt d[j]! d[m]!
    ·have e1:d[j]! = d[m]!:=O.conn _ _ g g1;rcases hk with hk|hk
     ·omega
     ·exfalso;apply hk
      by_cases XF:j=m - 1
      ·rw[<- XF];exact e1.symm
      ·have g2:=hs j (m - 1) (by omega) (by omega);have g3:=hs (m - 1) m (by omega) (by omega);rw[e1] at g2;exact O.conn _ _ g3 g2
    ·rfl
   ·rw[bh,h2,aJ];constructor
    ·rintro(⟨j,hj,e⟩|e)
     ·exact⟨j,by omega,e⟩
     ·exact⟨m,by omega,e.symm⟩
    ·rintro⟨j,hj,e⟩
     by_cases XF:j=m
     ·right;rw[<- e,XF]
     ·left;exact⟨j,by omega,e⟩
theorem I1 {lt:α->α->Bool}(O:Ord lt)(l:List α)(hs:l.Pairwise (fun a b=>lt b a=false)):SI lt (compact l)/\∀ x,x∈compact l↔x∈l:=by
 have hg:∀ j (hj:j < l.length),l.toArray[j]! = l[j]:=fun j hj=>by simp[getElem!_pos,hj]
 obtain⟨h1,h2⟩:=o9 O l.toArray (fun j k Am hk=>by
  have Fc:k < l.length:=by simpa using hk
  rw[hg k Fc,hg j (by omega)];exact List.pairwise_iff_getElem.1 hs j k (by omega) Fc Am) l.length (by simp)
 refine⟨h1,fun x=>?_⟩;show x∈compactUpTo l.toArray l.length↔_;rw[h2,bD];constructor
 ·rintro⟨j,hj,e⟩;exact⟨j,hj,by rw[<- hg j hj];exact e⟩
 ·rintro⟨j,hj,e⟩;exact⟨j,hj,by rw[hg j hj];exact e⟩
theorem vg {lt:α->α->Bool}(O:Ord lt)(le:α->α->Bool)(hle:∀ a b,le a b=!lt b a)(l:List α):SI lt (compact (l.mergeSort le))/\∀ x,x∈compact (l.mergeSort le)↔x∈l:=by
 have asym:∀ u v,lt u v=true->lt v u=false:=fun u v h1=>by
  cases h2:lt v u
  ·rfl
  ·have:=O.trans u v u h1 h2;rw[O.irrefl] at this
   cases this
 have hp:=List.pairwise_mergeSort (le:=le) (fun a b c h1 h2=>by
  rw[hle,cu] at *
  cases h:lt c a
  ·rfl
  ·cases hb:lt b c
   ·have e:b=c:=O.conn b c hb h2;rw[e,h] at h1
    cases h1
   ·have:=O.trans b c a hb h;rw[this] at h1
    cases h1) (fun a b=>by
  rw[hle,hle,cC,cu,cu]
  cases h:lt b a
  ·exact .inl rfl
  ·exact .inr (asym _ _ h)) l
 obtain⟨h1,h2⟩:=I1 O (l.mergeSort le) (hp.imp fun {a b} h=>by
  have h:le a b=true:=h;rw[hle,cu] at h;exact h)
 exact⟨h1,fun x=>(h2 x).trans (List.mergeSort_perm l le).mem_iff⟩
end compact
end
end
section
open Go Go.RowKit

end
end Cg
namespace Go.Proofs.YtbmdcnkidjlbbaaGreat
section
open Go Go.RowKit Cg
def fz:Nat->ByteArray
 | 0=>⟨#[98,97,115,105,99]⟩
 | 1=>⟨#[117,110,105,113,117,101]⟩
 | _=>⟨#[]⟩
def eG:Nat->ByteArray
 | 0=>⟨#[99,114,101,97,116,117,114,101]⟩
 | 1=>⟨#[105,110,115,116,97,110,116]⟩
 | 2=>⟨#[114,105,116,117,97,108]⟩
 | 3=>⟨#[114,101,108,105,99]⟩
 | 4=>⟨#[99,104,97,114,109]⟩
 | 5=>⟨#[108,97,110,100]⟩
 | _=>⟨#[]⟩
def jM (nm:Nat->ByteArray)(s:ByteArray):Nat->Nat
 | 0=>0
 | k+1=>if jM nm s k=0 then(if nm k=s then 2 ^ k else 0) else jM nm s k
theorem AH (nm:Nat->ByteArray)(s:ByteArray)(k:Nat)(h:jM nm s k=0)(h2:¬ nm k=s):jM nm s (k+1)=0:=by rw[jM,if_pos h,if_neg h2]
theorem ajS (nm:Nat->ByteArray)(s:ByteArray)(k:Nat)(h:jM nm s k=0)(h2:nm k=s):∀ n,k < n->jM nm s n=2 ^ k
 | 0,hn=>by omega
 | n+1,hn=>by
  by_cases e:n=k
  ·subst e;rw[jM,if_pos h,if_pos h2]
  ·have ih:=ajS nm s k h h2 n (by omega);rw[jM,if_neg (by rw[ih];exact Nat.pos_iff_ne_zero.1 (Nat.two_pow_pos k)),ih]
theorem ux (nm:Nat->ByteArray)(s:ByteArray):∀ n,jM nm s n=0↔∀ i,i < n->¬ nm i=s
 | 0=>by simp[jM]
 | n+1=>by
  have ih:=ux nm s n;rw[jM]
  by_cases h:jM nm s n=0
  ·rw[if_pos h];have ih':=ih.1 h
   by_cases e:nm n=s
   ·rw[if_pos e];constructor
    ·intro h2;have:=Nat.two_pow_pos n;omega
    ·intro h2;exact absurd e (h2 n (by omega))
   ·rw[if_neg e];refine⟨fun _ i hi=>?_,fun _=>rfl⟩
    by_cases e2:i=n
    ·rw[e2];exact e
    ·exact ih' i (by omega)
  ·rw[if_neg h];refine⟨fun h2=>absurd h2 h,fun h2=>absurd (ih.2 fun i hi=>h2 i (by omega)) h⟩
def iF (s:ByteArray):Bool:=ta s&&(decide (jM fz s 2=0)&&decide (jM eG s 6=0))
theorem Io (s:ByteArray):decide (Lib.idxOfS [fz 0,fz 1] s < 0)=decide (jM fz s 2=0):=by
 refine decide_eq_decide.2 ?_;rw[ux];have h:=Lib.idxOfS_nonneg_iff [fz 0,fz 1] s;constructor
 ·intro aU i hi e
  have:s∈[fz 0,fz 1]:=by
   rcases(show i=0\/i=1 by omega) with rfl|rfl <;> simp[e]
  have:=h.2 this;omega
 ·intro iN;refine Int.not_le.1 fun ui=>?_;have hm:=h.1 ui;simp only[List.mem_cons,List.mem_nil_iff,or_false] at hm;rcases hm with e|e
  ·exact iN 0 (by omega) e.symm
  ·exact iN 1 (by omega) e.symm
theorem MO (s:ByteArray):decide (Lib.idxOfS [eG 0,eG 1,eG 2,eG 3,eG 4,eG 5] s < 0)=decide (jM eG s 6=0):=by
 refine decide_eq_decide.2 ?_;rw[ux];have h:=Lib.idxOfS_nonneg_iff [eG 0,eG 1,eG 2,eG 3,eG 4,eG 5] s;constructor
 ·intro aU i hi e
  have:s∈[eG 0,eG 1,eG 2,eG 3,eG 4,eG 5]:=by
   rcases(show i=0\/i=1\/i=2\/i=3\/i=4\/i=5 by omega) with rfl|rfl|rfl|rfl|rfl|rfl <;> simp[e]
  have:=h.2 this;omega
 ·intro iN;refine Int.not_le.1 fun ui=>?_;have hm:=h.1 ui;simp only[List.mem_cons,List.mem_nil_iff,or_false] at hm;rcases hm with e|e|e|e|e|e
  ·exact iN 0 (by omega) e.symm
  ·exact iN 1 (by omega) e.symm
  ·exact iN 2 (by omega) e.symm
  ·exact iN 3 (by omega) e.symm
  ·exact iN 4 (by omega) e.symm
  ·exact iN 5 (by omega) e.symm
theorem Bu (w:World)(i:Nat)(hi:i < 2):(Instr.index 283 (.agg #[.string ⟨#[98,97,115,105,99]⟩,.string ⟨#[117,110,105,113,117,101]⟩]) (.int .i64 i)).run ae w=.ok (.string (fz i)) w:=by
 rcases(show i=0\/i=1 by omega) with rfl|rfl
 ·simp[Instr.index,asIntOf,run_underlying Tryz.underlying283,Go.part,Tryz.sizeOf9,Tryz.isAgg9,fz]
 ·simp[Instr.index,asIntOf,run_underlying Tryz.underlying283,Go.part,Tryz.sizeOf9,Tryz.isAgg9,fz]
theorem vZ (i:Nat)(hi:i < 2)(w:World):Calls ae 263 #[.int .i64 i] w fun e w'=>e=.returned (.string (fz i))/\w=w':=by
 have hr:=Bu w i hi
 go_enter Tryz.func263,Tryz.ntmps263
 go_wp2
 go_ret
 exact⟨rfl,rfl⟩
theorem qH (s:ByteArray)(w:World):Calls ae 262 #[.string s,.int .i64 2,.func (.func 263) #[] #[]] w fun e w'=>e=.returned (.int .i64 (jM fz s 2:Nat))/\w=w':=by
 have eg:∀ args w,(callFunc 263 args).run ae w=.ok (.enter 263 args) w:=enters_of Tryz.func263 (by kernel_rfl) rfl
 go_enter Tryz.func262,Tryz.ntmps262
 go_wp2_with fail
 go_step3
 go_wp2_with fail
 go_step3
 go_wp2_with fail
 go_loop [9] (fun i=>∃ k:Nat,k<=2/\i=.int .i64 k/\Hid (jM fz s k=0)) (fun i=>2 - (intOf i).toNat)
 case atStart=>exact⟨0,by omega,rfl,Lib.hid rfl⟩
 case round=>
  obtain⟨k,hk,rfl,H⟩:=hrel
  by_cases aU:k < 2
  ·have i0:(0:Int)<=(k:Int):=by omega
   have i1:(k:Int) < 2:=by omega
   by_cases he:fz k=s
   ·have HR:=Lib.hid (ajS fz s k H.out he 2 aU);have ht:=tD he;have XB:2 ^ k < 2 ^ 2:=Nat.pow_lt_pow_right (by omega) aU;obtain⟨p2,uf⟩:∃ p2,p2=2 ^ k:=⟨_,rfl⟩
    have ue:IntKind.i64.wrap ((2:Int) ^ k)=(p2:Int):=by
     have:((2:Int) ^ k)=(p2:Int):=by rw[uf];simp
     rw[this,bp];rw[<- uf] at XB;omega
    rw[<- uf] at HR;clear he uf XB
    go_wp2_with fail
    refine(vZ k aU _).mono ?_;rintro e w1 ⟨rfl,rfl⟩
    go_wp2_with fail
    rw[Exit.noGoto_ret]
    go_ret
    exact⟨vy (by rw[HR.out]),rfl⟩
   ·have H2:=Lib.hid (AH fz s k H.out he);have ht:=qj he;clear he H
    go_wp2_with fail
    refine(vZ k aU _).mono ?_;rintro e w1 ⟨rfl,rfl⟩
    go_wp2_with fail
    go_round
    case rel=>exact⟨k+1,by omega,by go_num,H2⟩
    case measure=>simp[intOf];omega
  ·obtain rfl:k=2:=by omega
   go_wp2_with fail
   go_ret
   exact⟨by rw[H.out];rfl,rfl⟩
theorem DF (w:World)(i:Nat)(hi:i < 6):(Instr.index 284 (.agg #[.string ⟨#[99,114,101,97,116,117,114,101]⟩,.string ⟨#[105,110,115,116,97,110,116]⟩,.string ⟨#[114,105,116,117,97,108]⟩,.string ⟨#[114,101,108,105,99]⟩,.string ⟨#[99,104,97,114,109]⟩,.string ⟨#[108,97,110,100]⟩]) (.int .i64 i)).run ae w=.ok (.string (eG i)) w:=by
 rcases(show i=0\/i=1\/i=2\/i=3\/i=4\/i=5 by omega) with rfl|rfl|rfl|rfl|rfl|rfl
 ·simp[Instr.index,asIntOf,run_underlying Tryz.underlying284,Go.part,Tryz.sizeOf9,Tryz.isAgg9,eG]
 ·simp[Instr.index,asIntOf,run_underlying Tryz.underlying284,Go.part,Tryz.sizeOf9,Tryz.isAgg9,eG]
 ·simp[Instr.index,asIntOf,run_underlying Tryz.underlying284,Go.part,Tryz.sizeOf9,Tryz.isAgg9,eG]
 ·simp[Instr.index,asIntOf,run_underlying Tryz.underlying284,Go.part,Tryz.sizeOf9,Tryz.isAgg9,eG]
 ·simp[Instr.index,asIntOf,run_underlying Tryz.underlying284,Go.part,Tryz.sizeOf9,Tryz.isAgg9,eG]
 ·simp[Instr.index,asIntOf,run_underlying Tryz.underlying284,Go.part,Tryz.sizeOf9,Tryz.isAgg9,eG]
theorem zm (i:Nat)(hi:i < 6)(w:World):Calls ae 264 #[.int .i64 i] w fun e w'=>e=.returned (.string (eG i))/\w=w':=by
 have hr:=DF w i hi
 go_enter Tryz.func264,Tryz.ntmps264
 go_wp2
 go_ret
 exact⟨rfl,rfl⟩
theorem AG (s:ByteArray)(w:World):Calls ae 262 #[.string s,.int .i64 6,.func (.func 264) #[] #[]] w fun e w'=>e=.returned (.int .i64 (jM eG s 6:Nat))/\w=w':=by
 have eg:∀ args w,(callFunc 264 args).run ae w=.ok (.enter 264 args) w:=enters_of Tryz.func264 (by kernel_rfl) rfl
 go_enter Tryz.func262,Tryz.ntmps262
 go_wp2_with fail
 go_step3
 go_wp2_with fail
 go_step3
 go_wp2_with fail
 go_loop [9] (fun i=>∃ k:Nat,k<=6/\i=.int .i64 k/\Hid (jM eG s k=0)) (fun i=>6 - (intOf i).toNat)
 case atStart=>exact⟨0,by omega,rfl,Lib.hid rfl⟩
 case round=>
  obtain⟨k,hk,rfl,H⟩:=hrel
  by_cases aU:k < 6
  ·have i0:(0:Int)<=(k:Int):=by omega
   have i1:(k:Int) < 6:=by omega
   by_cases he:eG k=s
   ·have HR:=Lib.hid (ajS eG s k H.out he 6 aU);have ht:=tD he;have XB:2 ^ k < 2 ^ 6:=Nat.pow_lt_pow_right (by omega) aU;obtain⟨p2,uf⟩:∃ p2,p2=2 ^ k:=⟨_,rfl⟩
    have ue:IntKind.i64.wrap ((2:Int) ^ k)=(p2:Int):=by
     have:((2:Int) ^ k)=(p2:Int):=by rw[uf];simp
     rw[this,bp];rw[<- uf] at XB;omega
    rw[<- uf] at HR;clear he uf XB
    go_wp2_with fail
    refine(zm k aU _).mono ?_;rintro e w1 ⟨rfl,rfl⟩
    go_wp2_with fail
    rw[Exit.noGoto_ret]
    go_ret
    exact⟨vy (by rw[HR.out]),rfl⟩
   ·have H2:=Lib.hid (AH eG s k H.out he);have ht:=qj he;clear he H
    go_wp2_with fail
    refine(zm k aU _).mono ?_;rintro e w1 ⟨rfl,rfl⟩
    go_wp2_with fail
    go_round
    case rel=>exact⟨k+1,by omega,by go_num,H2⟩
    case measure=>simp[intOf];omega
  ·obtain rfl:k=6:=by omega
   go_wp2_with fail
   go_ret
   exact⟨by rw[H.out];rfl,rfl⟩
theorem ZM (s:ByteArray)(w:World)(hm:Mx w):Calls ae 261 #[.string s] w fun e w'=>e=.returned (.bool (ta s))/\Below w.heap.size w w':=by
 by_cases hs:s.size<=1000000
 ·exact VI s hs w hm
 ·have HF:=Lib.hid (show ta s=false from fx fun h=>by have:=h.2.1;omega);have d0:((s.size:Int)==0)=false:=beq_eq_false_iff_ne.2 (by omega);have hs':(32:Int) < (s.size:Int):=by omega
  clear hm hs
  go_enter Tryz.func261,Tryz.ntmps261
  go_wp2_with fail
  go_ret
  exact⟨eU HF.out.symm,Below.refl _ _⟩
theorem VH (s:ByteArray)(w:World):Calls ae 79 #[.string s] w fun e w'=>e=.returned (.bool (ta s))/\Below w.heap.size w w':=by
 by_cases hs:s.size<=1000000
 ·exact(ZL s hs w).mono fun _ _ ⟨h1,h2⟩=>⟨h1,h2▸Below.refl _ _⟩
 ·have HF:=Lib.hid (show ta s=false from fx fun h=>by have:=h.2.1;omega);have d0:decide ((s.size:Int) < 1)=false:=decide_eq_false (by omega);have hs':(32:Int) < (s.size:Int):=by omega
  clear hs
  go_enter Tryz.func79,Tryz.ntmps79
  go_wp2_with fail
  go_ret
  exact⟨eU HF.out.symm,Below.refl _ _⟩
theorem Ii (s:ByteArray)(w:World)(hm:Mx w):Calls ae 227 #[.string s] w fun e w'=>e=.returned (.bool (iF s))/\Below w.heap.size w w':=by
 have HI:=Lib.hid (ZM s w hm);clear hm
 cases hw:ta s
 ·have HR:=Lib.hid (show iF s=false by rw[iF,hw];rfl);rw[hw] at HI;clear hw
  go_enter Tryz.func227,Tryz.ntmps227
  go_wp2_with fail
  refine HI.out.mono ?_;rintro e w1 ⟨rfl,b1⟩
  go_wp2_with fail
  go_ret
  exact⟨eU HR.out.symm,b1⟩
 ·rw[hw] at HI
  by_cases h1:jM fz s 2=0
  ·have H1:=Lib.hid h1
   by_cases h2:jM eG s 6=0
   ·have H2:=Lib.hid h2;have HR:=Lib.hid (show iF s=true by rw[iF,hw,decide_eq_true h1,decide_eq_true h2];rfl);clear hw h1 h2
    go_enter Tryz.func227,Tryz.ntmps227
    go_wp2_with fail
    refine HI.out.mono ?_;rintro e w1 ⟨rfl,b1⟩
    go_wp2_with fail
    refine(qH s _).mono ?_;rintro e w2 ⟨rfl,rfl⟩;rw[H1.out]
    go_wp2_with fail
    refine(AG s _).mono ?_;rintro e w2 ⟨rfl,rfl⟩;rw[H2.out]
    go_wp2_with fail
    go_ret
    exact⟨eU HR.out.symm,b1⟩
   ·obtain⟨q,hq⟩:∃ q,jM eG s 6=q:=⟨_,rfl⟩
    have HQ:=Lib.hid hq;have HR:=Lib.hid (show iF s=false by rw[iF,hw,decide_eq_false h2];simp);rw[hq] at h2;have t1:((q:Int)==0)=false:=beq_eq_false_iff_ne.2 (by omega);clear hw h1 h2 hq
    go_enter Tryz.func227,Tryz.ntmps227
    go_wp2_with fail
    refine HI.out.mono ?_;rintro e w1 ⟨rfl,b1⟩
    go_wp2_with fail
    refine(qH s _).mono ?_;rintro e w2 ⟨rfl,rfl⟩;rw[H1.out]
    go_wp2_with fail
    refine(AG s _).mono ?_;rintro e w2 ⟨rfl,rfl⟩;rw[HQ.out]
    go_wp2_with fail
    go_ret
    exact⟨eU HR.out.symm,b1⟩
  ·obtain⟨q,hq⟩:∃ q,jM fz s 2=q:=⟨_,rfl⟩
   have HQ:=Lib.hid hq;have HR:=Lib.hid (show iF s=false by rw[iF,hw,decide_eq_false h1];simp);rw[hq] at h1;have t1:((q:Int)==0)=false:=beq_eq_false_iff_ne.2 (by omega);clear hw h1 hq
   go_enter Tryz.func227,Tryz.ntmps227
   go_wp2_with fail
   refine HI.out.mono ?_;rintro e w1 ⟨rfl,b1⟩
   go_wp2_with fail
   refine(qH s _).mono ?_;rintro e w2 ⟨rfl,rfl⟩;rw[HQ.out]
   go_wp2_with fail
   go_ret
   exact⟨eU HR.out.symm,b1⟩
def tx:List ByteArray:=[fz 0,fz 1]
def types:List ByteArray:=[eG 0,eG 1,eG 2,eG 3,eG 4,eG 5]
theorem oI (w:World):Calls ae 198 #[] w fun e w'=>∃ v,e=.returned v/\gu Value.string w' v tx/\Below w.heap.size w w':=by
 have HC:=Lib.hid (zJ Value.string w tx 9)
 go_enter Tryz.func198,Tryz.ntmps198
 go_wp2
 go_ret
 exact⟨_,rfl,HC.out,(Below.refl _ _).alloc (ak _) _⟩
theorem yO (w:World):Calls ae 199 #[] w fun e w'=>∃ v,e=.returned v/\gu Value.string w' v types/\Below w.heap.size w w':=by
 have HC:=Lib.hid (zJ Value.string w types 9)
 go_enter Tryz.func199,Tryz.ntmps199
 go_wp2
 go_ret
 exact⟨_,rfl,HC.out,(Below.refl _ _).alloc (ak _) _⟩
theorem V3 (xs:List ByteArray)(k:Nat)(h:k < xs.length):xs.getD k ByteArray.empty=xs[k]:=by rw[List.getD_eq_getElem?_getD,ag h];rfl
theorem ud (v:Value)(xs:List ByteArray)(x:ByteArray)(w:World)(h:gu Value.string w v xs)(hn:xs.length<=9223372036854775807) :
  Calls ae 195 #[v,.string x] w fun e w'=>e=.returned (.int .i64 (Lib.idxOfS xs x))/\w=w':=by
 obtain⟨ao,cap,rfl,oC,hx⟩:=h;have HX:=Lib.hid hx;clear hx
 go_enter Tryz.func195,Tryz.ntmps195
 go_wp2_with fail
 go_loop [5] (fun i=>∃ k:Nat,k<=xs.length/\i=.int .i64 k/\Hid (∀ j,j < k->xs.getD j ByteArray.empty≠x)) (fun i=>xs.length - (intOf i).toNat)
 case atStart=>exact⟨0,by omega,rfl,Lib.hid fun j hj=>by omega⟩
 case round=>
  obtain⟨k,hk,rfl,H⟩:=hrel
  by_cases aU:k < xs.length
  ·rcases HX.out with e|⟨b,o,rfl,hb,hc⟩
   ·rw[e] at aU;simp at aU
   have jh:=hc k xs[k] (by simp);have hg:=V3 xs k aU;obtain⟨y,hy⟩:∃ y,y=xs[k]:=⟨_,rfl⟩
   rw[<- hy] at jh hg;have HG:=Lib.hid hg;clear hc hy hg
   by_cases he:y=x
   ·have ht:(y.toList==x.toList)=true:=tD he;have HR:=Lib.hid (Lib.idxOfS_hit xs xs.length k x aU (ak _) (by rw[HG.out];exact he) H.out);rw[bj] at HR;clear he
    go_wp2_with fail
    go_ret
    exact⟨vy HR.out.symm,rfl⟩
   ·have ht:(y.toList==x.toList)=false:=qj he
    have H2:Hid (∀ j,j < k+1->xs.getD j ByteArray.empty≠x):=Lib.hid fun j hj=>by
     by_cases e:j=k
     ·rw[e,HG.out];exact he
     ·exact H.out j (by omega)
    clear he H
    go_wp2_with fail
    go_round
    case rel=>exact⟨k+1,by omega,by go_num,H2⟩
    case measure=>simp[intOf];omega
  ·obtain rfl:k=xs.length:=by omega
   have HR:=Lib.hid (Lib.idxOfS_miss xs xs.length x H.out);rw[bj] at HR
   go_wp2_with fail
   go_ret
   exact⟨vy HR.out.symm,rfl⟩
theorem VO (s:ByteArray):decide (Lib.idxOfS tx s < 0)=decide (jM fz s 2=0):=Io s
theorem VN (s:ByteArray):decide (Lib.idxOfS types s < 0)=decide (jM eG s 6=0):=MO s
theorem MH (s:ByteArray)(w:World):Calls ae 145 #[.string s] w fun e w'=>e=.returned (.bool (iF s))/\Below w.heap.size w w':=by
 have HI:=Lib.hid (VH s w)
 cases hw:ta s
 ·have HR:=Lib.hid (show iF s=false by rw[iF,hw];rfl);rw[hw] at HI;clear hw
  go_enter Tryz.func145,Tryz.ntmps145
  go_wp2_with fail
  refine HI.out.mono ?_;rintro e w1 ⟨rfl,b1⟩
  go_wp2_with fail
  go_ret
  exact⟨eU HR.out.symm,b1⟩
 ·rw[hw] at HI;obtain⟨p,hp⟩:∃ p,Lib.idxOfS tx s=p:=⟨_,rfl⟩
  obtain⟨q,hq⟩:∃ q,Lib.idxOfS types s=q:=⟨_,rfl⟩
  have e1:=VO s;have e2:=VN s;rw[hp] at e1;rw[hq] at e2;have HP:=Lib.hid hp;have HQ:=Lib.hid hq
  cases h1:decide (jM fz s 2=0)
  ·have HR:=Lib.hid (show iF s=false by rw[iF,hw,h1];rfl);rw[h1] at e1;have t1:¬ p < 0:=of_decide_eq_false e1;clear hw h1 e1 e2 hp hq
   go_enter Tryz.func145,Tryz.ntmps145
   go_wp2_with fail
   refine HI.out.mono ?_;rintro e w1 ⟨rfl,b1⟩
   go_wp2_with fail
   refine(oI _).mono ?_;rintro e w2 ⟨v2,rfl,r2,b2⟩;have B2:=Lib.hid (b1.trans (b2.mono b1.size));have R2:=Lib.hid r2;clear r2 b1 b2
   go_wp2_with fail
   refine(ud v2 tx s _ R2.out (by decide)).mono ?_;rintro e w3 ⟨rfl,rfl⟩;rw[HP.out]
   go_wp2_with fail
   go_ret
   exact⟨eU HR.out.symm,B2.out⟩
  ·rw[h1] at e1;have t1:p < 0:=of_decide_eq_true e1;have HR:=Lib.hid (show iF s=decide (q < 0) by rw[iF,hw,h1,e2];rfl);clear hw h1 e1 e2 hp hq
   go_enter Tryz.func145,Tryz.ntmps145
   go_wp2_with fail
   refine HI.out.mono ?_;rintro e w1 ⟨rfl,b1⟩
   go_wp2_with fail
   refine(oI _).mono ?_;rintro e w2 ⟨v2,rfl,r2,b2⟩;have B2:=Lib.hid (b1.trans (b2.mono b1.size));have R2:=Lib.hid r2;clear r2 b1 b2
   go_wp2_with fail
   refine(ud v2 tx s _ R2.out (by decide)).mono ?_;rintro e w3 ⟨rfl,rfl⟩;rw[HP.out]
   go_wp2_with fail
   refine(yO _).mono ?_;rintro e w4 ⟨v4,rfl,r4,b4⟩;have B4:=Lib.hid (B2.out.trans (b4.mono B2.out.size));have R4:=Lib.hid r4;clear r4 b4
   go_wp2_with fail
   refine(ud v4 types s _ R4.out (by decide)).mono ?_;rintro e w5 ⟨rfl,rfl⟩;rw[HQ.out]
   go_wp2_with fail
   go_ret
   exact⟨eU HR.out.symm,B4.out⟩
end
section
open Go Cg
def Gg (a b:Int):Int:=IntKind.i64.wrap (((BitVec.ofInt IntKind.i64.bits a &&& BitVec.ofInt IntKind.i64.bits b).toNat:Nat):Int)
def C1 (n m:Int):Bool:=decide (n>=0)&&decide (n<=m)
def uw (b:dS):Bool:=C1 b.kind 3&&(C1 b.n 1000000&&(b.kind != 0||b.n==0))
def WJ (a b m:Int):Bool:=C1 a m&&(C1 b m&&Gg a b==0)
def S7 (s:ByteArray):Bool:=s.toList==(⟨#[]⟩:ByteArray).toList
def xH (f:ck):Bool:=C1 f.cn 5&&(C1 f.j7 2&&(C1 f.self 2&&(C1 f.np 2&&(C1 f.keys 131071&&(WJ f.types f.dH 63&&(WJ f.ek f.dw 31&&((S7 f.sub||iF f.sub)&&(uw f.dg&&(uw f.df&&uw f.value)))))))))
def lE (b:dS)(n:Int):Bool:=if b.kind=0 then true else if b.kind=1 then decide (n>=b.n) else if b.kind=2 then decide (n<=b.n) else if b.kind=3 then n==b.n else false
def BB (a b:Int):Bool:=Gg a b != 0
def va (c you w:Int):Bool:=if w=1 then c==you else w != 2||c != you
def GL (t:Bool)(w:Int):Bool:=if w=1 then t else w != 2||!t
def yV (h s n:Int):Bool:=(s==0||BB h s)&&!BB h n
def MF (l:List ByteArray)(s:ByteArray):Int:=kQ (fun x:ByteArray=>x.toList==s.toList) l
def pT (l:List ByteArray)(s:ByteArray):Bool:=decide (MF l s>=0)
def nine (n:Int):Bool:=decide (n>=0)&&decide (n<=9)
def pN (c:er):Bool:=nine c.gF&&(nine c.gq&&(nine c.gp&&(nine c.gn&&(nine c.gk&&(decide (c.generic>=0)&&(decide (c.generic<=99)&&(decide (c.x>=0)&&decide (c.x<=2))))))))
def tl (c:er):Int:=if pN c=true then c.generic+c.gF+c.gq+c.gp+c.gn+c.gk else 0
def ze (cr:Bool)(b:dS)(n:Int):Bool:=b.kind==0||(cr&&lE b n)
def kS (t:aD)(f:ck):Bool:=ze (BB t.line.types 1) f.dg t.dg&&(ze (BB t.line.types 1) f.df t.df&&lE f.value (tl t.cost))
def fC (o:az)(t:aD)(you src:Int)(f:ck):Bool:=
 xH f&&(o.cn==f.cn&&(va t.dB you f.j7&&(va o.id src f.self&&(yV t.line.types f.types f.dH&&(yV t.ek f.ek f.dw&&((S7 f.sub||pT t.line.eu f.sub)&&(oD t.keys f.keys&&(GL o.fe f.np&&kS t f))))))))
def apL:Nat->Int->Int->Bool
 | 0,_,_=>true
 | n+1,a,b=>!(a.tmod 2==1&&b.tmod 2==1)&&apL n (IntKind.i64.wrap (a.tdiv 2)) (IntKind.i64.wrap (b.tdiv 2))
theorem WK:∀ a b:_root_.Fin 64,apL 6 (a.val:Int) (b.val:Int)=(Gg (a.val:Int) (b.val:Int)==0):=by decide +kernel
theorem WL {a b:Int}(ha:0<=a)(uj:a<=63)(hb:0<=b)(dK:b<=63):apL 6 a b=(Gg a b==0):=by
 have:=WK ⟨a.toNat,by omega⟩ ⟨b.toNat,by omega⟩;simp only[Int.toNat_of_nonneg ha,Int.toNat_of_nonneg hb] at this;exact this
theorem acR {a b m:Int}(hm:m<=63)(h:¬ a < 0)(h1:¬ a > m)(h2:¬ b < 0)(h3:¬ b > m):WJ a b m=apL 6 a b:=by
 unfold WJ C1;rw[WL (by omega) (by omega) (by omega) (by omega),decide_eq_true (by omega),decide_eq_true (by omega),decide_eq_true (by omega),decide_eq_true (by omega)];rfl
end
section
open Go Cg Go.RowKit Go.Shelf
theorem XX {f:FuncId}(he:N3 ae f)(s:ByteArray)(b:Bool)(h:∀ w,Gl w->Calls ae f #[.string s] w fun e w'=>e=.returned (.bool b)/\Below w.heap.size w w'):Ct ae f [AV.s s] (aEo b) [] true:=by
 refine⟨he,aA _,fun _ h=>(by cases h),rfl,fun x hx=>(by cases hx),fun x hx=>(by cases hx),fun w vs E0 hg ha=>?_⟩
 cases ha with
 | cons hv Fb=>
  cases Fb
  rename_i v;obtain rfl:v=.string s:=eC hv;refine(h w hg).mono ?_;rintro e w' ⟨rfl,hb⟩;exact⟨_,rfl,hb,⟨fun _=>.eH,fun _=>0,fun _ _=>undef⟩,RT.lit rfl,fun j R hj=>(by cases hj),fun b _ hc=>(by cases hc)⟩
theorem Ib (s:ByteArray):Ct ae 227 [AV.s s] (aEo (iF s)) [] true:=XX (enters_of Tryz.func227 (by kernel_rfl) rfl) s _ fun w hg=>Ii s w hg
theorem zQ (s:ByteArray):Ct ae 145 [AV.s s] (aEo (iF s)) [] true:=XX (enters_of Tryz.func145 (by kernel_rfl) rfl) s _ fun w _=>MH s w
theorem ZI (l:List ByteArray)(s:ByteArray)(hl:l.length*16<=aV):Ct ae 195 [.c (.t (.sl 1 (l.map eS))),AV.s s] (aEn (MF l s)) [] true:=by
 refine aEs (b:=false) ?_ rfl;refine cT Tryz.func195 rfl (by kernel_rfl) rfl fun w0 O _=>aEk [] ?_;refine aEm (fun k:Nat=>⟨[(0,.c (.t (.sl 1 (l.map eS)))),(1,AV.s s),(5,aEn k)],[],[],10000⟩) (fun k=>k<=l.length/\∀ j (h:j < l.length),j < k->(fun x:ByteArray=>x.toList==s.toList) l[j]=false) (fun k=>l.length - k) 0 ?_ ⟨aA _,fun j _ hj=>by omega⟩ ?_
 ·refine ba [] rfl rfl ?_ ?_ ?_
  repeat' constructor
 rintro k ⟨hk,fk⟩;refine aEk [4,5,3] (cS (fun h=>?_) fun h=>?_)
 ·have aU:=cJ h;refine aEk [] (Ei k (Ei (eS l[k]) (Ai rfl (Ai (aK _ _ k aU) ?_))));refine cS (fun h=>?_) fun h=>?_
  ·refine aEk [] (Ei [] (Ai rfl (Ai ea ?_)));rw[MF,kf _ _ k aU h fk];exact rfl
  ·refine aEk [] (Ei (k+1) (Ai ⟨by omega,fun j hj Am=>?_⟩ (Ai (show l.length - (k+1) < l.length - k by omega) ?_)))
   ·by_cases e:j=k
    ·subst e;exact h
    ·exact fk j hj (by omega)
   refine ba [] rfl rfl ?_ ?_ ?_
   ·repeat' constructor
    exact cZ k aU 16 (by decide) hl
   repeat' constructor
 ·have fp:=dM h hk;refine Ei [] (Ai rfl (Ai ea ?_));rw[MF,jj _ _ (fun j hj=>fk j hj (by omega))];exact rfl
theorem ZJ (l:List ByteArray)(s:ByteArray)(hl:l.length*16<=aV):Ct ae 265 [.c (.t (.sl 1 (l.map eS))),AV.s s] (aEn (MF l s)) [] true:=by
 refine aEs (b:=false) ?_ rfl;refine cT Tryz.func265 rfl (by kernel_rfl) rfl fun w0 O _=>aEk [] ?_;refine aEm (fun k:Nat=>⟨[(0,.c (.t (.sl 1 (l.map eS)))),(1,AV.s s),(7,aEn (l.map eS).length),(8,aEn k)],[],[],10000⟩) (fun k=>k<=l.length/\∀ j (h:j < l.length),j < k->(fun x:ByteArray=>x.toList==s.toList) l[j]=false) (fun k=>l.length - k) 0 ?_ ⟨aA _,fun j _ hj=>by omega⟩ ?_
 ·refine ba [] rfl rfl ?_ ?_ ?_
  repeat' constructor
 rintro k ⟨hk,fk⟩;refine aEk [5,6,7] (cS (fun h=>?_) fun h=>?_)
 ·have aU:=cJ h;refine Ei k (Ei (eS l[k]) (Ai rfl (Ai (aK _ _ k aU) ?_)));refine cS (fun h=>?_) fun h=>?_
  ·have h:(s.toList==l[k].toList)=true:=h;refine aEk [] (Ei [] (Ai rfl (Ai ea ?_)));rw[MF,kf _ _ k aU (by rw[<- h];exact Bool.beq_comm) fk];exact rfl
  ·have h:(s.toList==l[k].toList)=false:=h;refine aEk [] (Ei (k+1) (Ai ⟨by omega,fun j hj Am=>?_⟩ (Ai (show l.length - (k+1) < l.length - k by omega) ?_)))
   ·by_cases e:j=k
    ·subst e;rw[<- h];exact Bool.beq_comm
    ·exact fk j hj (by omega)
   refine ba [] rfl rfl ?_ ?_ ?_
   ·repeat' constructor
    exact cZ k aU 16 (by decide) hl
   repeat' constructor
 ·have fp:=dM h hk;refine Ei [] (Ai rfl (Ai ea ?_));rw[MF,jj _ _ (fun j hj=>fk j hj (by omega))];exact rfl
theorem UZ (a:dS)(b:Int):∃ r:Bool,(r=(lE a b))/\Ct ae 183 [.agg (a.enc.map .t),.c (.t (iv b))] (aEo r) [] true:=by
 refine cU (Φ:=fun (r:Bool)=>r=(lE a b)) cO (cX Tryz.func183 rfl (by kernel_rfl) rfl (aEl [] [] ?_))
 repeat' (first|(apply bN <;> intro _)|(apply ej <;> intro _)|(apply cQ <;> intro _)|apply cj|(apply cS <;> intro _)|(exact bo _ (Ei [] (Ai rfl (Ai ea rfl))) (by simp[lE, *]) rfl))
theorem P6 (a:dS)(b:Int):Ct ae 183 [.agg (a.enc.map .t),.c (.t (iv b))] (aEo (lE a b)) [] true:=by
 obtain⟨r,hr,h⟩:=UZ a b;rw[hr] at h;exact h
theorem Me (a:dS)(b:Int):∃ r:Bool,(r=(lE a b))/\Ct ae 196 [.agg (a.enc.map .t),.c (.t (iv b))] (aEo r) [] true:=by
 refine cU (Φ:=fun (r:Bool)=>r=(lE a b)) cO (cX Tryz.func196 rfl (by kernel_rfl) rfl (aEl [] [] ?_))
 repeat' (first|(apply bN <;> intro _)|(apply ej <;> intro _)|(apply cQ <;> intro _)|apply cj|(apply cS <;> intro _)|(exact bo _ (Ei [] (Ai rfl (Ai ea rfl))) (by simp[lE, *]) rfl))
theorem Nd (a:Int)(b:Int):∃ r:Bool,(r=(C1 a b))/\Ct ae 226 [.c (.t (iv a)),.c (.t (iv b))] (aEo r) [] true:=by
 refine cU (Φ:=fun (r:Bool)=>r=(C1 a b)) cO (cX Tryz.func226 rfl (by kernel_rfl) rfl (aEl [] [] ?_))
 repeat' (first|(apply bN <;> intro _)|(apply ej <;> intro _)|(apply cQ <;> intro _)|apply cj|(apply cS <;> intro _)|(exact bo _ (Ei [] (Ai rfl (Ai ea rfl))) (by simp[C1, *]) rfl))
theorem FE (a:Int)(b:Int):Ct ae 226 [.c (.t (iv a)),.c (.t (iv b))] (aEo (C1 a b)) [] true:=by
 obtain⟨r,hr,h⟩:=Nd a b;rw[hr] at h;exact h
theorem Nc (a:dS):∃ r:Bool,(r=(uw a))/\Ct ae 228 [.agg (a.enc.map .t)] (aEo r) [] true:=by
 refine cU (Φ:=fun (r:Bool)=>r=(uw a)) cO (cX Tryz.func228 rfl (by kernel_rfl) rfl (aEl [] [] ?_))
 repeat' (first|(apply bN <;> intro _)|(apply ej <;> intro _)|(apply cQ <;> intro _)|apply cj|(apply cS <;> intro _)|(exact bo _ (Ei [] (Ai rfl (Ai ea rfl))) (by first|(simp[uw, *];done)|(simp_all[uw];done)) rfl)|(apply aT 226;refine cF (FE _ _) ⟨rfl,rfl,ea⟩ ?_))
theorem RE (a:dS):Ct ae 228 [.agg (a.enc.map .t)] (aEo (uw a)) [] true:=by
 obtain⟨r,hr,h⟩:=Nc a;rw[hr] at h;exact h
theorem Hk (a:dS):∃ r:Bool,(r=(uw a))/\Ct ae 194 [.agg (a.enc.map .t)] (aEo r) [] true:=by
 refine cU (Φ:=fun (r:Bool)=>r=(uw a)) cO (cX Tryz.func194 rfl (by kernel_rfl) rfl (aEl [] [] ?_))
 repeat' (first|(apply bN <;> intro _)|(apply ej <;> intro _)|(apply cQ <;> intro _)|apply cj|(apply cS <;> intro _)|(exact bo _ (Ei [] (Ai rfl (Ai ea rfl))) (by first|(simp_all[uw,C1];done)|(simp_all[uw,C1];omega)) rfl))
theorem L8 (a:dS):Ct ae 194 [.agg (a.enc.map .t)] (aEo (uw a)) [] true:=by
 obtain⟨r,hr,h⟩:=Hk a;rw[hr] at h;exact h
theorem Hl (a:Int)(b:Int)(c:Int)  (hm:c<=63):∃ r:Bool,(r=(WJ a b c))/\Ct ae 193 [.c (.t (iv a)),.c (.t (iv b)),.c (.t (iv c))] (aEo r) [] true:=by
 refine cU (Φ:=fun (r:Bool)=>r=(WJ a b c)) cO (cX Tryz.func193 rfl (by kernel_rfl) rfl (aEl [] [] ?_))
 repeat' (first|(apply bN <;> intro _)|(apply ej <;> intro _)|(apply cQ <;> intro _)|apply cj|(apply cS <;> intro _)|(exact bo _ (Ei [] (Ai rfl (Ai ea rfl))) (by first|(simp[WJ,C1];omega)|(rw[acR hm ‹_› ‹_› ‹_› ‹_›];simp[apL, *];done)) rfl)|(apply dV 4 rfl;refine fM.one 4 rfl (aEl [] [] ?_))|(refine Ai rfl (Ai (by first|decide|assumption|omega) ?_)))
theorem L9 (a:Int)(b:Int)(c:Int)  (hm:c<=63):Ct ae 193 [.c (.t (iv a)),.c (.t (iv b)),.c (.t (iv c))] (aEo (WJ a b c)) [] true:=by
 obtain⟨r,hr,h⟩:=Hl a b c hm;rw[hr] at h;exact h
theorem Uf (a:ck):∃ r:Bool,(r=(xH a))/\Ct ae 135 [.agg (a.enc.map .t)] (aEo r) [] true:=by
 refine cU (Φ:=fun (r:Bool)=>r=(xH a)) cO (cX Tryz.func135 rfl (by kernel_rfl) rfl (aEl [] [] ?_))
 repeat' (first|(apply bN <;> intro _)|(apply ej <;> intro _)|(apply cQ <;> intro _)|apply cj|(apply cS <;> intro _)|(exact bo _ (Ei [] (Ai rfl (Ai ea rfl))) (by first|(simp_all[xH,C1,S7];done)|(simp_all[xH,C1,S7];omega)) rfl)|(apply aT 193;refine cF (L9 _ _ _ (by first|assumption|omega|(simp only[bp,cK,aZ,bM];omega)|(simp only[Lm] at *;omega)|decide)) ⟨rfl,rfl,rfl,ea⟩ ?_)|(apply aT 145;refine cF (zQ _) ⟨rfl,ea⟩ ?_)|(apply aT 194;refine cF (L8 _) ⟨fL (dS.enc _),ea⟩ ?_))
theorem Na (a:ck):∃ r:Bool,(r=(xH a))/\Ct ae 180 [.agg (a.enc.map .t)] (aEo r) [] true:=by
 refine cU (Φ:=fun (r:Bool)=>r=(xH a)) cO (cX Tryz.func180 rfl (by kernel_rfl) rfl (aEl [] [] ?_))
 repeat' (first|(apply bN <;> intro _)|(apply ej <;> intro _)|(apply cQ <;> intro _)|apply cj|(apply cS <;> intro _)|(exact bo _ (Ei [] (Ai rfl (Ai ea rfl))) (by simp_all[xH,WJ,S7,Gg]) rfl)|(apply aT 226;refine cF (FE _ _) ⟨rfl,rfl,ea⟩ ?_)|(apply aT 227;refine cF (Ib _) ⟨rfl,ea⟩ ?_)|(apply aT 228;refine cF (RE _) ⟨fL (dS.enc _),ea⟩ ?_))
theorem uG (a:Int)(b:Int):∃ r:Bool,(r=(BB a b))/\Ct ae 139 [.c (.t (iv a)),.c (.t (iv b))] (aEo r) [] true:=by
 refine cU (Φ:=fun (r:Bool)=>r=(BB a b)) cO (cX Tryz.func139 rfl (by kernel_rfl) rfl (aEl [] [] ?_))
 repeat' (first|(apply bN <;> intro _)|(apply ej <;> intro _)|(apply cQ <;> intro _)|apply cj|(apply cS <;> intro _)|(exact bo _ (Ei [] (Ai rfl (Ai ea rfl))) (rfl) rfl))
theorem TW (a:Int)(b:Int)(c:Int):∃ r:Bool,(r=(va a b c))/\Ct ae 136 [.c (.t (iv a)),.c (.t (iv b)),.c (.t (iv c))] (aEo r) [] true:=by
 refine cU (Φ:=fun (r:Bool)=>r=(va a b c)) cO (cX Tryz.func136 rfl (by kernel_rfl) rfl (aEl [] [] ?_))
 repeat' (first|(apply bN <;> intro _)|(apply ej <;> intro _)|(apply cQ <;> intro _)|apply cj|(apply cS <;> intro _)|(exact bo _ (Ei [] (Ai rfl (Ai ea rfl))) (by simp[va, *]) rfl))
theorem Pe (a:Int)(b:Int)(c:Int):∃ r:Bool,(r=(va a b c))/\Ct ae 137 [.c (.t (iv a)),.c (.t (iv b)),.c (.t (iv c))] (aEo r) [] true:=by
 refine cU (Φ:=fun (r:Bool)=>r=(va a b c)) cO (cX Tryz.func137 rfl (by kernel_rfl) rfl (aEl [] [] ?_))
 repeat' (first|(apply bN <;> intro _)|(apply ej <;> intro _)|(apply cQ <;> intro _)|apply cj|(apply cS <;> intro _)|(exact bo _ (Ei [] (Ai rfl (Ai ea rfl))) (by simp[va, *]) rfl))
theorem TX (a:Bool)(b:Int):∃ r:Bool,(r=(GL a b))/\Ct ae 138 [aEo a,.c (.t (iv b))] (aEo r) [] true:=by
 refine cU (Φ:=fun (r:Bool)=>r=(GL a b)) cO (cX Tryz.func138 rfl (by kernel_rfl) rfl (aEl [] [] ?_))
 repeat' (first|(apply bN <;> intro _)|(apply ej <;> intro _)|(apply cQ <;> intro _)|apply cj|(apply cS <;> intro _)|(exact bo _ (Ei [] (Ai rfl (Ai ea rfl))) (by simp[GL, *]) rfl))
theorem wD (a:gw)(b:ByteArray)(ha:a.ok):∃ r:Bool,(r=(pT a.eu b))/\Ct ae 140 [.agg (a.enc.map .t),AV.s b] (aEo r) [] true:=by
 refine cU (Φ:=fun (r:Bool)=>r=(pT a.eu b)) cO (cX Tryz.func140 rfl (by kernel_rfl) rfl (aEl [] [] ?_))
 repeat' (first|(apply bN <;> intro _)|(apply ej <;> intro _)|(apply cQ <;> intro _)|apply cj|(apply cS <;> intro _)|(exact bo _ (Ei [] (Ai rfl (Ai ea rfl))) (by simp[pT]) rfl)|(apply aT 195;refine cF (ZI _ _ (by first|assumption|exact ku ‹_› ‹_› | exact eF _ ‹_› | exact gw.UL ‹_›)) ⟨rfl,rfl,ea⟩ ?_))
theorem Mb (a:gw)(b:ByteArray)(ha:a.ok):Ct ae 140 [.agg (a.enc.map .t),AV.s b] (aEo (pT a.eu b)) [] true:=by
 obtain⟨r,hr,h⟩:=wD a b ha;rw[hr] at h;exact h
theorem I0 (a:List ByteArray)(b:ByteArray)(ha:a.length*16<=aV):∃ r:Bool,(r=(pT a b))/\Ct ae 229 [.c (.t (.sl 1 (a.map eS))),AV.s b] (aEo r) [] true:=by
 refine cU (Φ:=fun (r:Bool)=>r=(pT a b)) cO (cX Tryz.func229 rfl (by kernel_rfl) rfl (aEl [] [] ?_))
 repeat' (first|(apply bN <;> intro _)|(apply ej <;> intro _)|(apply cQ <;> intro _)|apply cj|(apply cS <;> intro _)|(exact bo _ (Ei [] (Ai rfl (Ai ea rfl))) (by simp[pT]) rfl)|(apply aT 265;refine cF (ZJ _ _ ‹_›) ⟨rfl,rfl,ea⟩ ?_))
theorem containsS (a:List ByteArray)(b:ByteArray)(ha:a.length*16<=aV):Ct ae 229 [.c (.t (.sl 1 (a.map eS))),AV.s b] (aEo (pT a b)) [] true:=by
 obtain⟨r,hr,h⟩:=I0 a b ha;rw[hr] at h;exact h
theorem Qw (a:gw)(b:ByteArray)(ha:a.ok):∃ r:Bool,(r=(pT a.eu b))/\Ct ae 184 [.agg (a.enc.map .t),AV.s b] (aEo r) [] true:=by
 refine cU (Φ:=fun (r:Bool)=>r=(pT a.eu b)) cO (cX Tryz.func184 rfl (by kernel_rfl) rfl (aEl [] [] ?_))
 repeat' (first|(apply bN <;> intro _)|(apply ej <;> intro _)|(apply cQ <;> intro _)|apply cj|(apply cS <;> intro _)|(exact bo _ (Ei [] (Ai rfl (Ai ea rfl))) (rfl) rfl)|(apply aT 229;refine cF (containsS _ _ (by first|assumption|exact ku ‹_› ‹_› | exact eF _ ‹_› | exact gw.UL ‹_›)) ⟨rfl,rfl,ea⟩ ?_))
theorem Um (a:er):∃ r:Bool,(r=(pN a))/\Ct ae 80 [.agg (a.enc.map .t)] (aEo r) [] true:=by
 refine cU (Φ:=fun (r:Bool)=>r=(pN a)) cO (cX Tryz.func80 rfl (by kernel_rfl) rfl (aEl [] [] ?_))
 repeat' (first|(apply bN <;> intro _)|(apply ej <;> intro _)|(apply cQ <;> intro _)|apply cj|(apply cS <;> intro _)|(exact bo _ (Ei [] (Ai rfl (Ai ea rfl))) (by first|(simp_all[pN,nine];done)|(simp_all[pN,nine];omega)) rfl)|(apply dV 4 rfl;refine fM.one 4 rfl (aEl [] [] ?_))|(apply fV;(iterate 2 first|assumption|omega|(simp only[bp,cK,aZ,bM];omega)|(simp only[Lm] at *;omega)|decide);intro _ _)|(apply rZ;(iterate 2 first|assumption|omega|(simp only[bp];omega)|(simp only[Lm] at *;omega)|decide);intro _))
theorem PC (a:er):Ct ae 80 [.agg (a.enc.map .t)] (aEo (pN a)) [] true:=by
 obtain⟨r,hr,h⟩:=Um a;rw[hr] at h;exact h
theorem Vd (a:er):∃ r:Bool,(r=(pN a))/\Ct ae 230 [.agg (a.enc.map .t)] (aEo r) [] true:=by
 refine cU (Φ:=fun (r:Bool)=>r=(pN a)) cO (cX Tryz.func230 rfl (by kernel_rfl) rfl (aEl [] [] ?_))
 repeat' (first|(refine Ei 0 (Ei _ (Ai (by decide) (Ai (by decide) (Ai rfl ?_)))))|(refine Ei 1 (Ei _ (Ai (by decide) (Ai (by decide) (Ai rfl ?_)))))|(refine Ei 2 (Ei _ (Ai (by decide) (Ai (by decide) (Ai rfl ?_)))))|(refine Ei 3 (Ei _ (Ai (by decide) (Ai (by decide) (Ai rfl ?_)))))|(refine Ei 4 (Ei _ (Ai (by decide) (Ai (by decide) (Ai rfl ?_)))))|(apply bN <;> intro _)|(apply ej <;> intro _)|(apply cQ <;> intro _)|apply cj|(apply cS <;> intro _)|(exact bo _ (Ei [] (Ai rfl (Ai ea rfl))) (by first|(simp_all[pN,nine];done)|(simp_all[pN,nine];omega)) rfl)|(apply dV 2 rfl;refine fM.one 2 rfl (aEl [] [] ?_))|(apply rZ;(iterate 2 first|assumption|omega|(simp only[bp,cK,aZ,bM];omega)|(simp only[Lm] at *;omega)|decide);intro _)|(apply Ch;(iterate 2 first|assumption|omega|(simp only[bp,cK,aZ,bM];omega)|(simp only[Lm] at *;omega)|decide);intro _))
theorem Zs (a:er):Ct ae 230 [.agg (a.enc.map .t)] (aEo (pN a)) [] true:=by
 obtain⟨r,hr,h⟩:=Vd a;rw[hr] at h;exact h
theorem pa {n:Int}(h:-1000000<=n)(h2:n<=1000000):dx n=n:=by
 unfold dx;split
 ·omega
 ·split
  ·omega
  ·rfl
theorem xa {n:Int}(h:nine n=true):0<=n/\n<=9:=by
 unfold nine at h;simp at h;omega
theorem Xn {c:er}(h:pN c=true):(0<=c.generic/\c.generic<=99)/\(0<=c.x/\c.x<=2)/\(0<=c.gF/\c.gF<=9)/\(0<=c.gq/\c.gq<=9)/\(0<=c.gp/\c.gp<=9)/\(0<=c.gn/\c.gn<=9)/\(0<=c.gk/\c.gk<=9):=by
 unfold pN at h;simp only[ah,decide_eq_true_eq] at h;obtain⟨h0,h1,h2,h3,h4,h5,h6,h7,h8⟩:=h;exact⟨⟨h5,h6⟩,⟨h7,h8⟩,xa h0,xa h1,xa h2,xa h3,xa h4⟩
theorem Od {c:er}(h:pN c=false):(0:Int)=tl c:=by
 unfold tl;rw[if_neg (by rw[h];decide)]
def mulM (a b:Int):Int:=dx (IntKind.i64.wrap (dx a*dx b))
theorem Xl (a:Int):mulM a 0=0:=by
 unfold mulM;rw[show dx 0=0 from rfl,Int.mul_zero];rfl
theorem X0 {n:Int}(h:-1000000<=n)(h2:n<=1000000)(m:Int)(hm:m=0):fK n m=n:=by
 subst hm;unfold fK;rw[pa h h2,show dx 0=0 from rfl,Int.add_zero,pa h h2]
theorem Gi {n m:Int}(h:0<=n)(h2:n<=1000)(h3:0<=m)(h4:m<=1000):fK n m=n+m:=by
 unfold fK;rw[pa (n:=n) (by omega) (by omega),pa (n:=m) (by omega) (by omega),pa (by omega) (by omega)]
theorem Of {c:er}(h:pN c=true):fK (IntKind.i64.wrap (IntKind.i64.wrap (IntKind.i64.wrap (IntKind.i64.wrap (IntKind.i64.wrap (c.generic+c.gF)+c.gq)+c.gp)+c.gn)+c.gk)) (mulM c.x 0)=tl c:=by
 obtain⟨h0,h1,h2,h3,h4,h5,h6⟩:=Xn h;rw[Xl];unfold tl;rw[if_pos h,X0 (by simp only[bp];omega) (by simp only[bp];omega) 0 rfl];simp only[bp];omega
theorem Oe {c:er}(h:pN c=true):fK (fK (fK (fK (fK (fK c.generic c.gF) c.gq) c.gp) c.gn) c.gk) (mulM c.x 0)=tl c:=by
 obtain⟨h0,h1,h2,h3,h4,h5,h6⟩:=Xn h;rw[Xl];unfold tl;rw[if_pos h,Gi (n:=c.generic) (by omega) (by omega) (by omega) (by omega),Gi (m:=c.gq) (by omega) (by omega) (by omega) (by omega),Gi (m:=c.gp) (by omega) (by omega) (by omega) (by omega),Gi (m:=c.gn) (by omega) (by omega) (by omega) (by omega),Gi (m:=c.gk) (by omega) (by omega) (by omega) (by omega),X0 (by omega) (by omega) 0 rfl]
theorem UW (a:Int)(b:Int):∃ r:Int,(r=(mulM a b))/\Ct ae 232 [.c (.t (iv a)),.c (.t (iv b))] (aEn r) [] true:=by
 refine cU (Φ:=fun (r:Int)=>r=(mulM a b)) kF (cX Tryz.func232 rfl (by kernel_rfl) rfl (aEl [] [] ?_))
 repeat' (first|(apply bN <;> intro _)|(apply ej <;> intro _)|(apply cQ <;> intro _)|apply cj|(apply cS <;> intro _)|(exact bo _ (Ei [] (Ai rfl (Ai ea rfl))) (rfl) rfl)|(apply aT 266;refine cF (Ew _) ⟨rfl,ea⟩ ?_))
theorem Zh (a:Int)(b:Int):Ct ae 232 [.c (.t (iv a)),.c (.t (iv b))] (aEn (mulM a b)) [] true:=by
 obtain⟨r,hr,h⟩:=UW a b;rw[hr] at h;exact h
theorem Us (a:Int)(b:Int):∃ r:Int,(r=(mulM a b))/\Ct ae 237 [.c (.t (iv a)),.c (.t (iv b))] (aEn r) [] true:=by
 refine cU (Φ:=fun (r:Int)=>r=(mulM a b)) kF (cX Tryz.func237 rfl (by kernel_rfl) rfl (aEl [] [] ?_))
 repeat' (first|(apply bN <;> intro _)|(apply ej <;> intro _)|(apply cQ <;> intro _)|apply cj|(apply cS <;> intro _)|(exact bo _ (Ei [] (Ai rfl (Ai ea rfl))) (rfl) rfl)|(apply aT 167;refine cF (oN _) ⟨rfl,ea⟩ ?_))
theorem YS (a:Int)(b:Int):Ct ae 237 [.c (.t (iv a)),.c (.t (iv b))] (aEn (mulM a b)) [] true:=by
 obtain⟨r,hr,h⟩:=Us a b;rw[hr] at h;exact h
theorem H6 (a:er)(b:Int)  (hb:b=0):∃ r:Int,(r=(tl a))/\Ct ae 186 [.agg (a.enc.map .t),.c (.t (iv b))] (aEn r) [] true:=by
 subst hb;refine cU (Φ:=fun (r:Int)=>r=(tl a)) kF (cX Tryz.func186 rfl (by kernel_rfl) rfl (aEl [] [] ?_))
 repeat' (first|(refine Ei 0 (Ei _ (Ai (by decide) (Ai (by decide) (Ai rfl ?_)))))|(refine Ei 1 (Ei _ (Ai (by decide) (Ai (by decide) (Ai rfl ?_)))))|(refine Ei 2 (Ei _ (Ai (by decide) (Ai (by decide) (Ai rfl ?_)))))|(refine Ei 3 (Ei _ (Ai (by decide) (Ai (by decide) (Ai rfl ?_)))))|(refine Ei 4 (Ei _ (Ai (by decide) (Ai (by decide) (Ai rfl ?_)))))|(apply bN <;> intro _)|(apply ej <;> intro _)|(apply cQ <;> intro _)|apply cj|(apply cS <;> intro _)|(exact bo _ (Ei [] (Ai rfl (Ai ea rfl))) (by first|exact Od ‹_› | exact Of ‹_›) rfl)|(apply dV 5 rfl;refine fM.one 5 rfl (aEl [] [] ?_))|(apply rZ;(iterate 2 first|assumption|omega|(simp only[bp,cK,aZ,bM];omega)|(simp only[Lm] at *;omega)|decide);intro _)|(apply Ch;(iterate 2 first|assumption|omega|(simp only[bp,cK,aZ,bM];omega)|(simp only[Lm] at *;omega)|decide);intro _)|(apply aT 230;refine cF (Zs _) ⟨fL (er.enc _),ea⟩ ?_)|(apply aT 232;refine cF (Zh _ _) ⟨rfl,rfl,ea⟩ ?_)|(apply aT 231;refine cF (Zi _ _) ⟨rfl,rfl,ea⟩ ?_))
theorem Mw (a:er)(b:Int)  (hb:b=0):Ct ae 186 [.agg (a.enc.map .t),.c (.t (iv b))] (aEn (tl a)) [] true:=by
 obtain⟨r,hr,h⟩:=H6 a b hb;rw[hr] at h;exact h
theorem Md (a:er)(b:Int)  (hb:b=0):∃ r:Int,(r=(tl a))/\Ct ae 197 [.agg (a.enc.map .t),.c (.t (iv b))] (aEn r) [] true:=by
 subst hb;refine cU (Φ:=fun (r:Int)=>r=(tl a)) kF (cX Tryz.func197 rfl (by kernel_rfl) rfl (aEl [] [] ?_))
 repeat' (first|(apply bN <;> intro _)|(apply ej <;> intro _)|(apply cQ <;> intro _)|apply cj|(apply cS <;> intro _)|(exact bo _ (Ei [] (Ai rfl (Ai ea rfl))) (by first|exact Od ‹_› | exact Oe ‹_›) rfl)|(apply dV 5 rfl;refine fM.one 5 rfl (aEl [] [] ?_))|(apply fV;(iterate 2 first|assumption|omega|(simp only[bp,cK,aZ,bM];omega)|(simp only[Lm] at *;omega)|decide);intro _ _)|(apply rZ;(iterate 2 first|assumption|omega|(simp only[bp];omega)|(simp only[Lm] at *;omega)|decide);intro _)|(apply aT 80;refine cF (PC _) ⟨fL (er.enc _),ea⟩ ?_)|(apply aT 104;refine cF (lz _ _) ⟨rfl,rfl,ea⟩ ?_)|(apply aT 237;refine cF (YS _ _) ⟨rfl,rfl,ea⟩ ?_))
theorem PB (a:er)(b:Int)  (hb:b=0):Ct ae 197 [.agg (a.enc.map .t),.c (.t (iv b))] (aEn (tl a)) [] true:=by
 obtain⟨r,hr,h⟩:=Md a b hb;rw[hr] at h;exact h
theorem Nz (b:dS)(n:Int)(cr:Bool):Ct ae 182 [.agg (b.enc.map .t),.c (.t (iv n)),.dL [bv cr] 0] (aEo (ze cr b n)) [] true:=by
 refine aEs (b:=false) ?_ rfl;generalize hM:ze cr b n=M;refine cT Tryz.func182 rfl (by kernel_rfl) rfl fun w0 O _=>aEk [] ?_;refine cS (fun h=>?_) fun h=>?_
 ·have sq:M=true:=by rw[<- hM];unfold ze;rw[show(b.kind==0)=true from h];rfl
  subst sq;refine Ei [] ?_
  repeat' constructor
 ·have h0:(b.kind==0)=false:=h
  cases cr with
  | false=>
   have sq:M=false:=by rw[<- hM];unfold ze;rw[h0];rfl
   subst sq;refine Ei [] ?_
   repeat' constructor
  | true=>
   have sq:M=lE b n:=by rw[<- hM];unfold ze;rw[h0];rfl
   subst sq;refine cF (P6 b n) ⟨fL b.enc,rfl,ea⟩ ?_;refine Ei [] ?_
   repeat' constructor
theorem Sj (b:dS)(n:Int)(cr:Bool):∃ r:Bool,r=ze cr b n/\Ct ae 182 [.agg (b.enc.map .t),.c (.t (iv n)),.dL [bv cr] 0] (aEo r) [] true:=⟨_,rfl,Nz b n cr⟩
def kD (l:List bO)(p you w:Int):Bool:=match (if p < 0 then none else l[p.toNat]?) with
 | none=>false
 | some q=>!q.lost&&(if w=0 then true else if w=1 then p==you else w==2&&p != you)
theorem JO {l:List bO}{p you w:Int}(h:p < 0):false=kD l p you w:=by
 unfold kD;rw[if_pos h]
theorem JN {l:List bO}{p you w:Int}(h:p>=(((l.map bO.enc).length:Nat):Int)):false=kD l p you w:=by
 rw[Lm] at h;unfold kD;split
 ·rfl
 ·rename_i q hq;split at hq
  ·cases hq
  ·rw[List.getElem?_eq_none (by omega)] at hq
   cases hq
theorem PN {l:List bO}{p you w:Int}(h:¬ p < 0)(hl:p.toNat < l.length):kD l p you w=(!l[p.toNat].lost&&(if w=0 then true else if w=1 then p==you else w==2&&p != you)):=by
 unfold kD;rw[if_neg h,ag hl]
theorem Hd (a:aD)(b:ck)(ha:a.ok):∃ r:Bool,(r=(kS a b))/\Ct ae 142 [.agg (a.enc.map .t),.agg (b.enc.map .t)] (aEo r) [] true:=by
 have lZ:=ha;obtain⟨w7,yk,yj,yi⟩:=lZ;refine cU (Φ:=fun (r:Bool)=>r=(kS a b)) cO (cX Tryz.func142 rfl (by kernel_rfl) rfl (aEl [] [] ?_))
 repeat' (first|(apply bN <;> intro _)|(apply ej <;> intro _)|(apply cQ <;> intro _)|apply cj|(apply cS <;> intro _)|(exact bo _ (Ei [] (Ai rfl (Ai ea rfl))) (by rw[Bool.eq_iff_iff];simp_all[kS,ze]) rfl)|(apply aT 139;refine cY (uG _ _) ⟨rfl,rfl,ea⟩ fun _ _=>?_)|(apply aT 196;refine cY (Me _ _) ⟨fL (dS.enc _),rfl,ea⟩ fun _ _=>?_)|(apply aT 197;refine cF (PB _ _ (by first|assumption|omega|(simp only[bp,cK,aZ,bM];omega)|(simp only[Lm] at *;omega)|decide)) ⟨fL (er.enc _),rfl,ea⟩ ?_))
theorem Zr (a:Int)(b:Int)(c:Int):∃ r:Bool,(r=(yV a b c))/\Ct ae 181 [.c (.t (iv a)),.c (.t (iv b)),.c (.t (iv c))] (aEo r) [] true:=by
 refine cU (Φ:=fun (r:Bool)=>r=(yV a b c)) cO (cX Tryz.func181 rfl (by kernel_rfl) rfl (aEl [] [] ?_))
 repeat' (first|(apply bN <;> intro _)|(apply ej <;> intro _)|(apply cQ <;> intro _)|apply cj|(apply cS <;> intro _)|(exact bo _ (Ei [] (Ai rfl (Ai ea rfl))) (by rw[Bool.eq_iff_iff];simp_all[yV,BB,Gg,bne]) rfl))
theorem Hc (a:az)(b:aD)(c:Int)(d:Int)(e:ck)(hb:b.ok):∃ r:Bool,(r=(fC a b c d e))/\Ct ae 76 [.agg (a.enc.map .t),.agg (b.enc.map .t),.c (.t (iv c)),.c (.t (iv d)),.agg (e.enc.map .t)] (aEo r) [] true:=by
 have Fg:=hb;obtain⟨Xj,Xi,Xh,Xg⟩:=Fg;refine cU (Φ:=fun (r:Bool)=>r=(fC a b c d e)) cO (cX Tryz.func76 rfl (by kernel_rfl) rfl (aEl [] [] ?_))
 repeat' (first|(apply bN <;> intro _)|(apply ej <;> intro _)|(apply cQ <;> intro _)|apply cj|(apply cS <;> intro _)|(exact bo _ (Ei [] (Ai rfl (Ai ea rfl))) (by rw[Bool.eq_iff_iff];simp_all[fC,yV,S7]) rfl)|(apply aT 135;refine cY (Uf _) ⟨fL (ck.enc _),ea⟩ fun _ _=>?_)|(apply aT 136;refine cY (TW _ _ _) ⟨rfl,rfl,rfl,ea⟩ fun _ _=>?_)|(apply aT 137;refine cY (Pe _ _ _) ⟨rfl,rfl,rfl,ea⟩ fun _ _=>?_)|(apply aT 138;refine cY (TX _ _) ⟨rfl,rfl,ea⟩ fun _ _=>?_)|(apply aT 139;refine cY (uG _ _) ⟨rfl,rfl,ea⟩ fun _ _=>?_)|(apply aT 140;refine cY (wD _ _ (by first|assumption|exact ku ‹_› ‹_› | exact eF _ ‹_› | exact aD.JU ‹_›)) ⟨fL (gw.enc _),rfl,ea⟩ fun _ _=>?_)|(apply aT 141;refine cY (Ed _ _) ⟨rfl,rfl,ea⟩ fun _ _=>?_)|(apply aT 142;refine cY (Hd _ _ (by first|assumption|exact ku ‹_› ‹_› | exact eF _ ‹_› | exact aD.JU ‹_›)) ⟨fL (aD.enc _),fL (ck.enc _),ea⟩ fun _ _=>?_))
theorem tG (a:az)(b:aD)(c:Int)(d:Int)(e:ck)(hb:b.ok):Ct ae 76 [.agg (a.enc.map .t),.agg (b.enc.map .t),.c (.t (iv c)),.c (.t (iv d)),.agg (e.enc.map .t)] (aEo (fC a b c d e)) [] true:=by
 obtain⟨r,hr,h⟩:=Hc a b c d e hb;rw[hr] at h;exact h
theorem Qg (a:az)(b:aD)(c:Int)(d:Int)(e:ck)(hb:b.ok):∃ r:Bool,(r=(fC a b c d e))/\Ct ae 128 [.agg (a.enc.map .t),.agg (b.enc.map .t),.c (.t (iv c)),.c (.t (iv d)),.agg (e.enc.map .t)] (aEo r) [] true:=by
 have Fg:=hb;obtain⟨Xj,Xi,Xh,Xg⟩:=Fg;refine cU (Φ:=fun (r:Bool)=>r=(fC a b c d e)) cO (cX Tryz.func128 rfl (by kernel_rfl) rfl (aEl [] [1008,1011,1014,1017,1020] ?_))
 repeat' (first|(apply aT 182;refine cY (Sj _ _ (BB b.line.types 1)) ⟨fL (dS.enc _),rfl,⟨⟨rfl,rfl⟩,ea⟩,ea⟩ fun _ _=>?_)|(apply aT 181;refine cY (Zr _ _ _) ⟨rfl,rfl,rfl,ea⟩ fun _ _=>?_)|(apply bN <;> intro _)|(apply ej <;> intro _)|(apply cQ <;> intro _)|apply cj|(apply cS <;> intro _)|(exact bo _ (Ei [] (Ai rfl (Ai ea rfl))) (by rw[Bool.eq_iff_iff];first|(simp_all[fC,kS];done)|(simp_all[fC,kS];grind)) rfl)|(apply dY 1008 rfl;refine aEr (α:=Bool) 1008 (fun p=>[(30,aEo p)]) (fun p=>p=(!(va b.dB c e.j7))) [3,5,6,9,12,13] [0,128,256,2432] 200000 rfl ?_;refine Ai (aEl [] [1008,1011,1014,1017,1020] ?_) fun _ _=>aEl [] [1008,1011,1014,1017,1020] ?_)|(apply dY 1011 rfl;refine aEr (α:=Bool) 1011 (fun p=>[(49,aEo p)]) (fun p=>p=(!(va a.id d e.self))) [5,6,9,12,13] [0,128,256,2432] 300000 rfl ?_;refine Ai (aEl [] [1008,1011,1014,1017,1020] ?_) fun _ _=>aEl [] [1008,1011,1014,1017,1020] ?_)|(apply dY 1014 rfl;refine aEr (α:=Bool) 1014 (fun p=>[(68,aEo p)]) (fun p=>p=(!(yV b.line.types e.types e.dH&&yV b.ek e.ek e.dw))) [5,6,9,13] [0,128,256,2432] 400000 rfl ?_;refine Ai (aEl [] [1008,1011,1014,1017,1020] ?_) fun _ _=>aEl [] [1008,1011,1014,1017,1020] ?_)|(apply dY 1017 rfl;refine aEr (α:=Bool) 1017 (fun p=>[(88,aEo p)]) (fun p=>p=(!((S7 e.sub||pT b.line.eu e.sub)&&oD b.keys e.keys))) [5,6,9,13] [0,128,256,2432] 500000 rfl ?_;refine Ai (aEl [] [1008,1011,1014,1017,1020] ?_) fun _ _=>aEl [] [1008,1011,1014,1017,1020] ?_)|(apply dY 1020 rfl;refine aEr (α:=Bool) 1020 (fun p=>[(106,aEo p)]) (fun p=>p=(!(GL a.fe e.np))) [6,9,13] [128,256,2432] 600000 rfl ?_;refine Ai (aEl [] [1008,1011,1014,1017,1020] ?_) fun _ _=>aEl [] [1008,1011,1014,1017,1020] ?_)|exact Ei _ (Ai (by rw[Bool.eq_iff_iff];simp_all[va,S7,GL]) (bX rfl rfl rfl rfl))|exact Ai (by first|assumption|omega) (Ei _ (Ai (by rw[Bool.eq_iff_iff];simp_all[va,S7,GL]) (bX rfl rfl rfl rfl)))|(apply aT 180;refine cY (Na _) ⟨fL (ck.enc _),ea⟩ fun _ _=>?_)|(apply aT 184;refine cY (Qw _ _ (by first|assumption|exact ku ‹_› ‹_› | exact eF _ ‹_› | exact aD.JU ‹_›)) ⟨fL (gw.enc _),rfl,ea⟩ fun _ _=>?_)|(apply aT 185;refine cY (QF _ _) ⟨rfl,rfl,ea⟩ fun _ _=>?_)|(apply aT 186;refine cF (Mw _ _ (by first|assumption|omega|(simp only[bp,cK,aZ,bM];omega)|(simp only[Lm] at *;omega)|decide)) ⟨fL (er.enc _),rfl,ea⟩ ?_)|(apply aT 183;refine cF (P6 _ _) ⟨fL (dS.enc _),rfl,ea⟩ ?_))
theorem Vb (a:az)(b:aD)(c:Int)(d:Int)(e:ck)(hb:b.ok):Ct ae 128 [.agg (a.enc.map .t),.agg (b.enc.map .t),.c (.t (iv c)),.c (.t (iv d)),.agg (e.enc.map .t)] (aEo (fC a b c d e)) [] true:=by
 obtain⟨r,hr,h⟩:=Qg a b c d e hb;rw[hr] at h;exact h
theorem Qe (a:aq)(b:Int)(c:Int)(d:Int)(ha:a.ok):∃ r:Bool,(r=(kD a.aw b c d))/\Ct ae 69 [.agg (a.enc.map .t),.c (.t (iv b)),.c (.t (iv c)),.c (.t (iv d))] (aEo r) [] true:=by
 have lZ:=ha;obtain⟨w7,yk,yj,yi,Et,J3,Es,J2,J1,J0,w6,wZ,wY⟩:=lZ;refine cU (Φ:=fun (r:Bool)=>r=(kD a.aw b c d)) cO (cX Tryz.func69 rfl (by kernel_rfl) rfl (aEl [] [] ?_))
 repeat' (first|(apply pP;(iterate 2 first|assumption|omega|(simp only[bp,cK,aZ,bM];omega)|(simp only[Lm] at *;omega)|decide);intro _)|(apply bN <;> intro _)|(apply ej <;> intro _)|(apply cQ <;> intro _)|apply cj|(apply cS <;> intro _)|(exact bo _ (Ei [] (Ai rfl (Ai ea rfl))) (by first|exact JO ‹_› | exact JN ‹_› | (rw[PN ‹_› ‹_›];simp_all;done)) rfl)|(apply fV;(iterate 2 first|assumption|omega|(simp only[bp,cK,aZ,bM];omega)|(simp only[Lm] at *;omega)|decide);intro _ _))
theorem U7 (a:aq)(b:Int)(c:Int)(d:Int)(ha:a.ok):Ct ae 69 [.agg (a.enc.map .t),.c (.t (iv b)),.c (.t (iv c)),.c (.t (iv d))] (aEo (kD a.aw b c d)) [] true:=by
 obtain⟨r,hr,h⟩:=Qe a b c d ha;rw[hr] at h;exact h
theorem Hb (a:aq)(b:Int)(c:Int)(d:Int)(ha:a.ok):∃ r:Bool,(r=(kD a.aw b c d))/\Ct ae 143 [.agg (a.enc.map .t),.c (.t (iv b)),.c (.t (iv c)),.c (.t (iv d))] (aEo r) [] true:=by
 have lZ:=ha;obtain⟨w7,yk,yj,yi,Et,J3,Es,J2,J1,J0,w6,wZ,wY⟩:=lZ;refine cU (Φ:=fun (r:Bool)=>r=(kD a.aw b c d)) cO (cX Tryz.func143 rfl (by kernel_rfl) rfl (aEl [] [] ?_))
 repeat' (first|(apply pP;(iterate 2 first|assumption|omega|(simp only[bp,cK,aZ,bM];omega)|(simp only[Lm] at *;omega)|decide);intro _)|(apply bN <;> intro _)|(apply ej <;> intro _)|(apply cQ <;> intro _)|apply cj|(apply cS <;> intro _)|(exact bo _ (Ei [] (Ai rfl (Ai ea rfl))) (by first|exact JO ‹_› | exact JN ‹_› | (rw[PN ‹_› ‹_›];simp_all;done)) rfl)|(apply fV;(iterate 2 first|assumption|omega|(simp only[bp,cK,aZ,bM];omega)|(simp only[Lm] at *;omega)|decide);intro _ _))
theorem LV (a:aq)(b:Int)(c:Int)(d:Int)(ha:a.ok):Ct ae 143 [.agg (a.enc.map .t),.c (.t (iv b)),.c (.t (iv c)),.c (.t (iv d))] (aEo (kD a.aw b c d)) [] true:=by
 obtain⟨r,hr,h⟩:=Hb a b c d ha;rw[hr] at h;exact h
end
section
open Go Go.RowKit Go.Sort Go.Lib Cg
def Xr (x y:Int):Bool:=decide (x<=y)
theorem K7 (v:Value)(xs:List Int)(w:World)(h:gu (Value.int .i64) w v xs)(hn:xs.length<=1000000) :
  Calls ae 268 #[v] w fun e w'=>∃ v',e=.returned v'/\w'.ownsRow w.heap.size 3 1 v' xs.length (xs.map (Value.int .i64))/\Below w.heap.size w w':=by
 rcases h.cases with⟨rfl,ao,cap,rfl⟩|⟨_,b,o,cap,rfl,_,_,hc⟩
 ·cases ao with
  | none=>exact(Tryz.slices_Clone_int_nil _ _ _).mono fun e w' ⟨h1,h2⟩=>⟨_,h1,World.ownsRow_nil _ _ _ _,h2▸Below.refl _ _⟩
  | some a=>exact(Tryz.slices_Clone_int_zero a _ _).mono fun e w' ⟨v',h1,h2,_,h4⟩=>⟨v',h1,h2,h4⟩
 ·exact(Tryz.slices_Clone_int b o xs.length cap xs w (ak _) (by omega) (xW 0 hc)).mono fun e w' ⟨v',h1,h2,_,h4⟩=>⟨v',h1,by rw[bj] at h2;exact h2,h4⟩
theorem Yo (B:Nat)(v:Value)(xs:List Int)(w:World)(h:w.ownsRow B 3 1 v xs.length (xs.map (Value.int .i64)))(hB:B<=w.heap.size)(hn:xs.length<=1000000) :
  Calls ae 278 #[v] w fun e w'=>e=.returned (.tuple #[])/\w'.ownsRow B 3 1 v xs.length ((xs.mergeSort Xr).map (Value.int .i64))/\Below B w w':=by
 by_cases hv:v=.slice none 0 0
 ·subst hv
  have h0:xs.length=0:=by
   rcases h.2 with⟨_,h0⟩|⟨g,cap,cur,he,_⟩
   ·exact h0
   ·cases he
  have:xs=[]:=List.eq_nil_of_length_eq_zero h0;subst this;exact(Tryz.slices_Sort_int_none none 0 w).mono fun e w' ⟨h1,h2⟩=>⟨h1,by rw[h2,List.mergeSort_nil];exact World.ownsRow_nil _ _ _ _,by rw[h2];exact Below.refl _ _⟩
 ·obtain⟨g,cap,rfl,XL,aU,_,_,_,hH⟩:=holds_of_ownsRow h hv;refine(Tryz.slices_Sort_int g 0 cap xs w hH aU (by omega)).mono fun e w' ⟨h1,n,os,h2⟩=>⟨h1,?_,?_⟩
  ·rw[h2];have h3:=ownsRow_putRow (q:=n) (ys:=xs.mergeSort Xr) h (List.length_mergeSort xs) (ak _);rw[List.take_of_length_le (Nat.le_of_eq (List.length_mergeSort xs))] at h3;refine Mi h3 ?_;exact x9 (Below.refl _ _) (ak _) os
  ·rw[h2];exact x9 (below_putRow (Below.refl _ _) XL) (by rw[size_putRow];exact hB) os
theorem Nt (B:Nat)(v:Value)(xs:List Int)(w:World)(h:w.ownsRow B 3 1 v xs.length (xs.map (Value.int .i64)))(hn:xs.length<=1000000) :
  Calls ae 279 #[v] w fun e w'=>∃ v',e=.returned v'/\w'.ownsRow B 3 1 v' (Lib.compact xs).length ((Lib.compact xs).map (Value.int .i64))/\Below B w w':=by
 by_cases hv:v=.slice none 0 0
 ·subst hv
  have h0:xs.length=0:=by
   rcases h.2 with⟨_,h0⟩|⟨g,cap,cur,he,_⟩
   ·exact h0
   ·cases he
  have:xs=[]:=List.eq_nil_of_length_eq_zero h0;subst this;exact(Tryz.slices_Compact_int_empty none 0 w).mono fun e w' ⟨h1,h2⟩=>⟨_,h1,by rw[h2];exact World.ownsRow_nil _ _ _ _,by rw[h2];exact Below.refl _ _⟩
 ·obtain⟨g,cap,rfl,XL,aU,oC,_,_,hH⟩:=holds_of_ownsRow h hv;have hl:=compact_length_le xs;refine(Tryz.slices_Compact_int g 0 cap xs w hH (by omega) oC).mono fun e w' ⟨h1,n,h2⟩=>⟨_,h1,?_,?_⟩
  ·rw[h2];have h3:=ownsRow_putRow (q:=n) (ys:=Lib.compact xs++List.replicate (xs.length - (Lib.compact xs).length) 0) h (by rw[al,cz];omega) hl;rw[List.take_left] at h3;exact h3
  ·rw[h2];exact below_putRow (Below.refl _ _) XL
def z8 (x y:Int):Bool:=decide (x < y)
theorem vC:Ord z8 where
 irrefl:=fun a=>by simp[z8]
 trans:=fun a b c h1 h2=>by simp[z8] at *;omega
 conn:=fun a b h1 h2=>by simp[z8] at *;omega
theorem Vo (a b:Int):Xr a b=!z8 b a:=by
 unfold Xr z8
 by_cases h:a<=b
 ·rw[decide_eq_true h,decide_eq_false (by omega)];rfl
 ·rw[decide_eq_false h,decide_eq_true (by omega)];rfl
def uM (xs:List Int):List Int:=Lib.compact (xs.mergeSort Xr)
theorem Eo (xs:List Int):SI z8 (uM xs)/\∀ x,x∈uM xs↔x∈xs:=vg vC Xr Vo xs
theorem Mj (xs:List Int):uM xs=jY z8 [] xs:=
 (Eo xs).1.ext vC (MK vC xs List.Pairwise.nil) fun x=>by rw[(Eo xs).2,H3];simp
theorem zd (v:Value)(xs:List Int)(w:World)(h:gu (Value.int .i64) w v xs)(hn:xs.length<=1000000) :
  Calls ae 267 #[v] w fun e w'=>∃ v',e=.returned v'/\w'.ownsRow w.heap.size 3 1 v' (uM xs).length ((uM xs).map (Value.int .i64))/\Below w.heap.size w w':=by
 have H:=Lib.hid h;clear h
 go_enter Tryz.func267,Tryz.ntmps267
 go_wp2_with fail
 refine(K7 v xs _ H.out hn).mono ?_;rintro e w1 ⟨v1,rfl,o1,b1⟩
 go_wp2_with fail
 refine(Yo w.heap.size v1 xs _ o1 b1.size hn).mono ?_;rintro e w2 ⟨rfl,o2,b2⟩
 go_wp2_with fail
 have hl:(xs.mergeSort Xr).length=xs.length:=List.length_mergeSort xs;rw[<- hl] at o2;refine(Nt w.heap.size v1 (xs.mergeSort Xr) _ o2 (by omega)).mono ?_;rintro e w3 ⟨v3,rfl,o3,b3⟩
 go_wp2_with fail
 go_ret
 exact⟨_,rfl,o3,(b1.trans b2).trans b3⟩
theorem IZ (v:Value)(xs:List Int)(x:Int)(w:World)(h:gu (Value.int .i64) w v xs)(hn:xs.length<=1000000) :
  Calls ae 270 #[v,.int .i64 x] w fun e w'=>e=.returned (.bool (decide (x∈xs)))/\w=w':=by
 have hd:∀ l:List Int,l.contains x=decide (x∈l):=fun l=>by simp
 rcases h.cases with⟨rfl,ao,cap,rfl⟩|⟨_,b,o,cap,rfl,_,_,hc⟩
 ·exact(Tryz.slices_Contains_int_empty ao cap x w).mono fun e w' ⟨h1,h2⟩=>⟨by rw[h1];simp,h2.symm⟩
 ·exact(Tryz.slices_Contains_int b o xs.length cap xs x w (ak _) (by omega) (xW 0 hc)).mono fun e w' ⟨h1,h2⟩=>⟨by rw[bj,hd] at h1;exact h1,h2.symm⟩
theorem IY (g:Nat)(lb:Array Value)(w:World):Calls ae 130 #[.slice none 0 0,.func (.func g) #[] lb] w fun e w'=>e=.returned (.slice none 0 0)/\w=w':=by
 go_enter Tryz.func130,Tryz.ntmps130
 go_wp2_with fail
 refine(Tryz.slices_IndexFunc_empty (α:=Int) none 0 _ w).mono ?_;rintro e w' ⟨rfl,rfl⟩
 go_wp2_with fail
 go_ret
 exact⟨rfl,rfl⟩
theorem R6 (B:Nat)(v:Value)(xs:List Int)(p:Int->Bool)(g:Nat)(lb:Array Value)(eg:∀ args w,(callFunc g args).run ae w=.ok (.enter g args) w)(w:World)(h:w.ownsRow B 3 1 v xs.length (xs.map (Value.int .i64)))
  (hp:PredAt ae g lb (Value.int .i64) p w) (hpo:∀ pV,B<=pV->PredOver ae g lb (Value.int .i64) p pV 0 xs.length w) (hn:xs.length<=1000000) :
  Calls ae 130 #[v,.func (.func g) #[] lb] w fun e w'=>∃ v',e=.returned v'/\w'.ownsRow B 3 1 v' (xs.filter fun x=>!p x).length ((xs.filter fun x=>!p x).map (Value.int .i64))/\Below B w w':=by
 by_cases iR:v=.slice none 0 0
 ·subst iR
  have h0:xs.length=0:=by
   rcases h.2 with⟨_,h0⟩|⟨g,cap,cur,he,_⟩
   ·exact h0
   ·cases he
  have:xs=[]:=List.eq_nil_of_length_eq_zero h0;subst this;exact(IY g lb w).mono fun e w' ⟨h1,h2⟩=>⟨_,h1,h2▸World.ownsRow_nil _ _ _ _,h2▸Below.refl _ _⟩
 obtain⟨b,cap,rfl,XL,aU,oC,_,_,hH⟩:=holds_of_ownsRow h iR;have hl:=cE (fun x=>!p x) xs;refine(Tryz.slices_DeleteFunc (Value.int .i64) (fun _=>rfl) p g lb eg 0 Tryz.zeroValue3 b 0 cap xs.toArray w hp (by simpa using hpo b XL) hH (by simp;omega) (by simpa using oC)).mono fun e w' ⟨h1,n,h2⟩=>⟨_,h1,?_,?_⟩
 ·rw[h2];have h3:=ownsRow_putRow (q:=n) (ys:=(xs.filter fun x=>!p x)++List.replicate (xs.length - (xs.filter fun x=>!p x).length) 0) h (by rw[al,cz];omega) hl;rw[List.take_left] at h3;simpa using h3
 ·rw[h2];exact below_putRow (Below.refl _ _) XL
def gQ (xs ys:List Int):List Int:=jY z8 [] (xs.filter fun x=>decide (¬ x∈ys))
theorem Rf (v:Value)(xs:List Int)(x:Int)(w:World)(h:gu (Value.int .i64) w v xs)(hn:xs.length<=1000000) :
  Calls ae 235 #[v,.int .i64 x] w fun e w'=>e=.returned (.bool (decide (x∈xs)))/\w=w':=by
 have H:=Lib.hid h;clear h;obtain⟨r,hr⟩:∃ r,decide (x∈xs)=r:=⟨_,rfl⟩
 have HR:=Lib.hid hr;rw[hr];clear hr
 go_enter Tryz.func235,Tryz.ntmps235
 go_wp2_with fail
 refine(IZ v xs x _ H.out hn).mono ?_;rintro e w1 ⟨rfl,rfl⟩;rw[HR.out]
 go_wp2_with fail
 go_ret
 exact⟨rfl,rfl⟩
theorem lO {α:Type}[Inhabited α](enc:α->Value)(w:World)(pV off n:Nat)(d:Array α)(os:Array Obj)(b o:Nat)(hb:b < w.heap.size)(iR:b≠pV):(sortWorld enc w pV off n d os).cell? ⟨b,o,none⟩=w.cell? ⟨b,o,none⟩:=by
 unfold sortWorld;rw[cell?_grow _ _ _ (by show b < (putRow _ _ _ _ _).heap.size;rw[size_putRow];exact hb),cell?_putRow_other _ _ pV off _ _ (Or.inl iR)];rfl
theorem G0 {α β:Type}[Inhabited β]{acA:α->Value}{enc:β->Value}{w0 w:World}{u:Value}{ys:List α}{pV off n:Nat}{d:Array β}{os:Array Obj}(h:gu acA w0 u ys)(hb:Below w0.heap.size w0 w)(abE:w0.heap.size<=pV):gu acA (sortWorld enc w pV off n d os) u ys:=by
 obtain⟨ao,cap,rfl,hc,h⟩:=h;refine⟨ao,cap,rfl,hc,?_⟩
 by_cases hy:ys=[]
 ·exact .inl hy
 ·rcases h with h|⟨b,o,rfl,aU,hx⟩
  ·exact .inl h
  ·have hs:=hb.size
   have jh:∀ (j:Nat) x,ys[j]? = some x->(sortWorld enc w pV off n d os).cell? ⟨b,o+j,none⟩=some (acA x):=fun j x hj=>by
    rw[lO _ _ _ _ _ _ _ _ _ (by omega) (by omega),hb.cell (p:=⟨b,o+j,none⟩) aU];exact hx j x hj
   obtain⟨y,r,hyr⟩:=List.exists_cons_of_ne_nil hy;exact .inr ⟨b,o,rfl,block_lt_of_cell (jh 0 y (by rw[hyr];rfl)),jh⟩
theorem CE (u:Value)(ys:List Int)(x:Int)(b:Nat)(w:World)(hr:gu (Value.int .i64) w u ys)(hm:ys.length<=1000000)(hc:w.cell? ⟨b,0,none⟩=some u) :
  FnGives ae 234 #[.pointer (some ⟨b,0,none⟩)] #[.int .i64 x] (.bool (!decide (x∈ys))) w:=by
 show Calls ae 234 #[.int .i64 x,.pointer (some ⟨b,0,none⟩)] w _;have H:=Lib.hid hr;obtain⟨ao,cap,rfl⟩:=hr.form;clear hr;obtain⟨r,SX⟩:∃ r,decide (x∈ys)=r:=⟨_,rfl⟩
 have HR:=Lib.hid SX;rw[SX];clear SX
 go_enter Tryz.func234,Tryz.ntmps234
 go_wp2_with fail
 refine(Rf _ ys x _ H.out hm).mono ?_;rintro e w1 ⟨rfl,rfl⟩;rw[HR.out]
 go_wp2_with fail
 go_ret
 exact⟨rfl,0,rfl⟩
theorem sA (u:Value)(ys:List Int)(x:Int)(b c:Nat)(w:World)(hr:gu (Value.int .i64) w u ys)(hm:ys.length<=1000000)(hc:w.cell? ⟨b,0,none⟩=some u)
  (hf:w.cell? ⟨c,0,none⟩=some (.func (.func 234) #[] #[.pointer (some ⟨b,0,none⟩)])) :
  FnGives ae 269 #[.pointer (some ⟨c,0,none⟩)] #[.int .i64 x] (.bool (!(!decide (x∈ys)))) w:=by
 show Calls ae 269 #[.int .i64 x,.pointer (some ⟨c,0,none⟩)] w _;have HG:=Lib.hid (show Calls ae 234 #[.int .i64 x,.pointer (some ⟨b,0,none⟩)] w _ from CE u ys x b w hr hm hc);have eg:∀ args w,(callFunc 234 args).run ae w=.ok (.enter 234 args) w:=enters_of Tryz.func234 (by kernel_rfl) rfl;clear hr hc;obtain⟨r,SX⟩:∃ r,(!decide (x∈ys))=r:=⟨_,rfl⟩
 rw[SX] at HG ⊢;clear SX
 go_enter Tryz.func269,Tryz.ntmps269
 go_wp2_with fail
 refine HG.out.mono ?_;rintro e w1 ⟨rfl,n,rfl⟩
 go_wp2_with fail
 go_ret
 exact⟨rfl,n,rfl⟩
theorem Fu (v u:Value)(xs ys:List Int)(b:Nat)(w:World)(h:gu (Value.int .i64) w v xs)(k:gu (Value.int .i64) w u ys)(hn:xs.length<=1000000)(hm:ys.length<=1000000)(hb:b < w.heap.size)(hc:w.cell? ⟨b,0,none⟩=some u) :
  Calls ae 233 #[v,.func (.func 234) #[] #[.pointer (some ⟨b,0,none⟩)]] w fun e w'=>∃ v',e=.returned v'/\w'.ownsRow w.heap.size 3 1 v' (uM (xs.filter fun x=>!decide (x∈ys))).length ((uM (xs.filter fun x=>!decide (x∈ys))).map (Value.int .i64))/\Below w.heap.size w w':=by
 obtain⟨zs,hz⟩:∃ zs,zs=xs.filter fun x=>!decide (x∈ys):=⟨_,rfl⟩
 have HZ:=Lib.hid hz;rw[<- hz];clear hz;have Aq:=(Below.refl w.heap.size w).alloc (ak _) (.cells #[.func (.func 234) #[] #[.pointer (some ⟨b,0,none⟩)]] 153);have H:=Lib.hid (h.below Aq);have HB:=Lib.hid Aq;have HC:=Lib.hid (Ay w [.func (.func 234) #[] #[.pointer (some ⟨b,0,none⟩)]] 153 0 _ rfl);have eg:∀ args w,(callFunc 269 args).run ae w=.ok (.enter 269 args) w:=enters_of Tryz.func269 (by kernel_rfl) rfl;have EG:=Lib.hid eg;have K:=Lib.hid k;have HCB:=Lib.hid hc;clear h Aq eg k hc
 go_enter Tryz.func233,Tryz.ntmps233
 go_wp2_with fail
 refine(K7 v xs _ H.out hn).mono ?_;rintro e w1 ⟨v1,rfl,o1,b1⟩;have aU:w.heap.size < (w.alloc (.cells #[.func (.func 234) #[] #[.pointer (some ⟨b,0,none⟩)]] 153)).heap.size:=by show w.heap.size < (w.heap.push _).size;simp
 have KF:=(b1.cell (p:=⟨w.heap.size,0,none⟩) aU).trans HC.out;have xx:=cA aU b1.size;have MY:Below w.heap.size w w1:=HB.out.trans (b1.mono (db aU));have abB:=(MY.cell (p:=⟨b,0,none⟩) hb).trans HCB.out;have K1:=K.out.below MY;have HL:=Lib.hid aU
 have hp:PredAt ae 269 #[.pointer (some ⟨w.heap.size,0,none⟩)] (Value.int .i64) (fun x=>!(!decide (x∈ys))) w1:=
  fun W x dK=>sA u ys x b w.heap.size W (K1.below dK) hm ((dK.cell (p:=⟨b,0,none⟩) (cA hb MY.size)).trans abB) ((dK.cell (p:=⟨w.heap.size,0,none⟩) xx).trans KF)
 have hpo:∀ pV,(w.alloc (.cells #[.func (.func 234) #[] #[.pointer (some ⟨b,0,none⟩)]] 153)).heap.size<=pV->PredOver ae 269 #[.pointer (some ⟨w.heap.size,0,none⟩)] (Value.int .i64) (fun x=>!(!decide (x∈ys))) pV 0 xs.length w1:=
  fun pV abE q os dk x _=>sA u ys x b w.heap.size _ (G0 K.out MY (by omega)) hm (by rw[lO _ _ _ _ _ _ _ _ _ (by have:=MY.size;omega) (by omega)];exact abB) (by rw[lO _ _ _ _ _ _ _ _ _ xx (by omega)];exact KF)
 have HD:=Lib.hid (R6 (w.alloc (.cells #[.func (.func 234) #[] #[.pointer (some ⟨b,0,none⟩)]] 153)).heap.size v1 xs (fun x=>!(!decide (x∈ys))) 269 #[.pointer (some ⟨w.heap.size,0,none⟩)] EG.out w1 o1 hp hpo hn);have HF:=Lib.hid (show(xs.filter fun x=>!(!(!decide (x∈ys))))=zs by rw[HZ.out];simp);have HN:=Lib.hid (show zs.length<=1000000 by rw[HZ.out];exact aX (cE (fun x=>!decide (x∈ys)) xs) hn);have HBW:=Lib.hid MY;clear hp hpo KF aU xx o1 abB K1 MY
 go_wp2_with fail
 refine HD.out.mono ?_;rintro e w2 ⟨v2,rfl,o2,b2⟩;rw[HF.out] at o2;have R2:=Lib.hid (LC o2);clear o2
 go_wp2_with fail
 refine(zd v2 zs _ R2.out HN.out).mono ?_;rintro e w3 ⟨v3,rfl,o3,b3⟩
 go_wp2_with fail
 go_ret
 have hs:w.heap.size<=w2.heap.size:=by have h1:=HBW.out.size;have h2:=b2.size;omega
 exact⟨_,rfl,JR o3 hs,(HBW.out.trans (b2.mono (db HL.out))).trans (b3.mono hs)⟩
theorem M6 (xs ys:List Int):uM (xs.filter fun x=>!decide (x∈ys))=gQ xs ys:=by rw[Mj,gQ];congr 1;simp
theorem Ft (v u:Value)(xs ys:List Int)(w:World)(h:gu (Value.int .i64) w v xs)(k:gu (Value.int .i64) w u ys)(hn:xs.length<=1000000)(hm:ys.length<=1000000) :
  Calls ae 189 #[v,u] w fun e w'=>∃ v',e=.returned v'/\w'.ownsRow w.heap.size 3 1 v' (gQ xs ys).length ((gQ xs ys).map (Value.int .i64))/\Below w.heap.size w w':=by
 have Aq:=(Below.refl w.heap.size w).alloc (ak _) (.cells #[u] 25);have aU:w.heap.size < (w.alloc (.cells #[u] 25)).heap.size:=by show w.heap.size < (w.heap.push _).size;simp
 have HK:=Lib.hid (Fu v u xs ys w.heap.size (w.alloc (.cells #[u] 25)) (h.below Aq) (k.below Aq) hn hm aU (Ay w [u] 25 0 _ rfl));rw[M6] at HK;have HB:=Lib.hid Aq;have HL:=Lib.hid aU;obtain⟨ao,cap,rfl⟩:=k.form;clear h k Aq aU
 go_enter Tryz.func189,Tryz.ntmps189
 go_wp2_with fail
 refine HK.out.mono ?_;rintro e w1 ⟨v1,rfl,o1,b1⟩
 go_wp2_with fail
 go_ret
 exact⟨_,rfl,JR o1 (db HL.out),HB.out.trans (b1.mono (db HL.out))⟩
end
section
open Go Cg Go.RowKit Go.Sort
theorem DP {F:Nat->Prop}{w:World}{v:Value}{l:List Int}(h:RT F w v (.sl 1 (l.map eI))):gu (Value.int .i64) w v l:=by
 obtain⟨ao,cap,h1,h2,h3⟩:=h.len;rw[Lm] at h1 h2;refine⟨ao,cap,h1,⟨h2,h3⟩,?_⟩;rcases h.CZ with h0|⟨g,o,Nx,h4,_,_,h7,h8⟩
 ·left;simpa using h0
 ·right;rw[h1] at h4;injection h4 with h4 _ _;refine⟨g,o,h4,h7,fun j x hj=>?_⟩;obtain⟨vs,hl,hc,hr⟩:=h8.get j (eI x) (by rw[bI,hj];rfl)
  cases hr with
  | cons a b=>
   cases b
   have:=hc 0 _ rfl;rw[Nat.mul_one,dm] at this;rw[this]
   cases a with
   | lit _=>rfl
def clZ (n:Int):Cl 1:=⟨[.int .i64 n],rfl,fun u hu=>by rw[aJ.1 hu];rfl⟩
theorem FW:∀ l:List Int,(l.map clZ).flatMap Subtype.val=l.map (Value.int .i64)
 | []=>rfl
 | x :: l=>by
  rw[bW,bZ,FW l];rfl
theorem TJ {E:Env}{w:World}{n0:Nat}{v:Value}{l:List Int}(hv:E.vl 0 0=v)(h:w.ownsRow n0 3 1 v l.length (l.map (Value.int .i64)))(hr:∀ g,v.ownBlock=some g->E.rl g=.rw 0):RR E w n0 0 ⟨3,1,0,l.map eI,none⟩:=by
 refine Ow.rr rfl ⟨l.map clZ,?_,⟨by rw[Lm,Lm],fun j vs ts h1 h2=>?_⟩,?_⟩
 ·show w.ownsRow n0 3 1 (E.vl 0 0) _ _;rw[hv,FW,Lm];exact h
 ·rw[bI] at h1 h2
  cases hl:l[j]? with
  | none=>rw[hl] at h1;cases h1
  | some x=>
   rw[hl] at h1 h2;injection h1 with h1;injection h2 with h2;subst h1 h2;exact .cons (.lit rfl) .nil
 ·show ∀ g,(E.vl 0 0).ownBlock=some g->_;rw[hv];exact hr
theorem On {P:Program}{f:FuncId}{xs ys zs:List Int}(he:N3 P f)(hf:∀ v u w,gu (Value.int .i64) w v xs->gu (Value.int .i64) w u ys->Calls P f #[v,u] w fun e w'=>∃ v',e=.returned v'/\w'.ownsRow w.heap.size 3 1 v' zs.length (zs.map (Value.int .i64))/\Below w.heap.size w w'):Ct P f [.c (.t (.sl 1 (xs.map eI))),.c (.t (.sl 1 (ys.map eI)))] (.c (.row 0 0)) [⟨3,1,0,zs.map eI,none⟩] true:=by
 refine⟨he,Nb rfl,fun R hR=>?_,rfl,fun x hx=>(by cases hx),fun x hx=>?_,fun w vs E0 _ ha=>?_⟩
 ·obtain rfl:R=_:=aJ.1 hR;rfl
 ·obtain rfl:x=(0,0):=by simpa [AV.cP,AV.ig,Ce.cP] using hx
  exact⟨_,rfl,ak _⟩
 cases ha with
 | cons h1 hr=>
  cases hr with
  | cons h2 hn=>
   cases hn
   refine(hf _ _ w (DP (F:=E0.F) h1) (DP (F:=E0.F) h2)).mono ?_;rintro e w' ⟨v',rfl,iB,oZ⟩;refine⟨v',rfl,oZ,⟨fun b=>if b < w.heap.size then .eH else .rw 0,fun _=>0,fun _ _=>v'⟩,⟨rfl,pq iB⟩,fun j R hj=>?_,fun b aU hc=>?_⟩
   ·cases j with
    | succ j=>simp at hj
    | zero=>
     obtain rfl:=aY hj;refine TJ rfl iB fun g hg=>?_;show(if g < w.heap.size then jm.eH else jm.rw 0)=.rw 0;rw[if_neg (Nat.not_lt.2 (iB.lt g hg).1)]
   ·have hc:(if b < w.heap.size then jm.eH else jm.rw 0)=.bH:=hc;rw[if_pos aU] at hc
    cases hc
theorem Ms (xs ys:List Int)(hx:xs.length<=1000000)(hy:ys.length<=1000000):Ct ae 189 [.c (.t (.sl 1 (xs.map eI))),.c (.t (.sl 1 (ys.map eI)))] (.c (.row 0 0)) [⟨3,1,0,(gQ xs ys).map eI,none⟩] true:=
 On (enters_of Tryz.func189 (by kernel_rfl) rfl) fun v u w h k=>Ft v u xs ys w h k hx hy
end
end Go.Proofs.YtbmdcnkidjlbbaaGreat
namespace Cg
section
open Go Go.RowKit
mutual
inductive TS:Tr->Tr->Prop
 | lit (v:Value):TS (.lit v) (.lit v)
 | nil (k k':Nat):TS (.sl k []) (.sl k' [])
 | sl (k:Nat) {xs ys:List (List Tr)}:WU xs ys->TS (.sl k xs) (.sl k ys)
inductive S8:List Tr->List Tr->Prop
 | nil:S8 [] []
 | cons {t u:Tr} {ts us:List Tr}:TS t u->S8 ts us->S8 (t :: ts) (u :: us)
inductive WU:List (List Tr)->List (List Tr)->Prop
 | nil:WU [] []
 | cons {t u:List Tr} {ts us:List (List Tr)}:S8 t u->WU ts us->WU (t :: ts) (u :: us)
end
theorem WU.len:∀ {xs ys:List (List Tr)},WU xs ys->xs.length=ys.length
 | _,_,.nil=>rfl
 | _,_,.cons _ h=>by rw[aZ,aZ,WU.len h]
theorem RT.ts {F:Nat->Prop}{w:World}{v:Value}{t:Tr}(h:RT F w v t):∀ u,TS t u->RT F w v u:=by
 refine RT.rec (motive_1:=fun v t _=>∀ u,TS t u->RT F w v u) (motive_2:=fun vs ts _=>∀ us,S8 ts us->jK F w vs us) (motive_3:=fun k g o xs _=>∀ ys,WU xs ys->tc F w k g o ys) ?_ ?_ ?_ ?_ ?_ ?_ ?_ ?_ ?_ h
 ·intro g es clock xs h1 h2 h3 u hu
  cases hu
 ·intro u hu
  cases hu
 ·intro v hl u hu
  cases hu
  exact .lit hl
 ·intro k ao cap hc u hu
  cases hu with
  | nil _ k'=>exact .gV hc
  | sl _ he=>
   cases he
   exact .gV hc
 ·intro k g o n cap xs h1 h2 h3 h4 h5 ih u hu
  cases hu with
  | nil _ k'=>
   have:n=0:=h1;subst this;exact .gV fun h=>by cases h
  | sl _ he=>exact .jS (h1.trans he.len) h2 h3 h4 (ih _ he)
 ·intro us hu
  cases hu
  exact .nil
 ·intro v t vs ts _ _ Im Il us hu
  cases hu with
  | cons a b=>exact .cons (Im _ a) (Il _ b)
 ·intro k g o ys hy
  cases hy
  exact .nil
 ·intro k g o vs ts xs hl hc _ _ Im Il ys hy
  cases hy with
  | cons a b=>exact .cons hl hc (Im _ a) (Il _ b)
theorem OU {E:Env}{w:World}:∀ {vs:List Value} {ts us:List Tr},S8 ts us->A2 (RC E w) vs (ts.map .t)->A2 (RC E w) vs (us.map .t)
 | [],_,_,.nil,h=>h
 | _ :: _,_,_,.nil,h=>nomatch h
 | _,_,_,.cons a b,.cons h1 h2=>.cons (RT.ts (show RT _ _ _ _ from h1) _ a) (OU b h2)
theorem Ct.ts {P:Program}{f:FuncId}{dh:List AV}{ts us:List Tr}{b:Bool}(h:Ct P f dh (.agg (ts.map .t)) [] b)(hu:S8 ts us):Ct P f dh (.agg (us.map .t)) [] b:=by
 refine⟨h.RJ,h.uX,h.shut,h.plain,fun x hx=>?_,fun x hx=>?_,fun w vs E0 mY ha=>(h.run w vs E0 mY ha).mono ?_⟩
 ·exact absurd hx (by simp[AV.ed,AV.iu])
 ·refine absurd hx ?_
  have:(AV.agg (us.map .t)).cP=[]:=by
   show(us.map Ce.t).flatMap Ce.cP=[];clear h hu hx
   induction us with
   | nil=>rfl
   | cons u us ih=>simp[Ce.cP]
  rw[this];exact List.not_mem_nil
 ·rintro e w' ⟨v,rfl,hb,E,hr,h1,h2⟩;refine⟨v,rfl,hb,E,?_,h1,h2⟩;obtain⟨Lt,rfl,h3⟩:=(show R1 E w' v (.agg (ts.map .t)) from hr)
  exact(show R1 E w' _ (.agg (us.map .t)) from⟨Lt,rfl,OU hu h3⟩)
theorem Ct.ts1 {P:Program}{f:FuncId}{dh:List AV}{t u:Tr}{b:Bool}(h:Ct P f dh (.c (.t t)) [] b)(hu:TS t u):Ct P f dh (.c (.t u)) [] b:=by
 refine⟨h.RJ,h.uX,h.shut,h.plain,fun x hx=>?_,fun x hx=>?_,fun w vs E0 mY ha=>(h.run w vs E0 mY ha).mono ?_⟩
 ·exact absurd hx (by simp[AV.ed,AV.iu])
 ·exact absurd hx (by simp[AV.cP,AV.ig,Ce.cP])
 ·rintro e w' ⟨v,rfl,hb,E,hr,h1,h2⟩;exact⟨v,rfl,hb,E,RT.ts (show RT E.F w' v t from hr) u hu,h1,h2⟩
end
end Cg
namespace Go.Proofs.YtbmdcnkidjlbbaaGreat
section
open Go Cg Go.RowKit Go.Sort
def eN (l:List az):List Int:=(l.filter fun o=>o.cn==0).map az.id
theorem zT (l:List az)(k:Nat)(hk:k < l.length):eN (l.take (k+1))=eN (l.take k)++(if l[k].cn==0 then [l[k].id] else []):=by
 unfold eN;rw[aS hk,List.filter_append,aQ];congr 1
 by_cases h:(l[k].cn==0)=true
 ·rw[if_pos h];simp[h]
 ·rw[if_neg h];simp[h]
theorem jz (l:List az):(eN l).length<=l.length:=by
 unfold eN;rw[Lm];exact cE _ _
theorem wF (s:aq)(h:s.aa.length*128<=aV):Ct ae 188 [.agg (s.enc.map .t)] (.c (.t (.sl 1 ((eN s.aa).map eI)))) [] false:=by
 refine cT Tryz.func188 rfl (by kernel_rfl) rfl fun w0 O _=>aEk [8] ?_;refine aEm (fun k:Nat=>⟨[(3,.c (.row 9000 0)),(7,.c (.t (.sl 19 (s.aa.map az.enc)))),(8,aEn (s.aa.map az.enc).length),(9,aEn k)],[],[(9000,⟨3,1,0,(eN (s.aa.take k)).map eI,none⟩)],10000⟩) (fun k=>k<=s.aa.length) (fun k=>s.aa.length - k) 0 ?_ (aA _) ?_
 ·refine ba [] rfl rfl ?_ ?_ ?_
  repeat' constructor
 rintro k hk;refine aEk [6,7,8] (cS (fun hc=>?_) fun hc=>?_)
 ·have aU:=cJ hc;have fu:=zT s.aa k aU;refine Ei k (Ei _ (Ai rfl (Ai (aK _ _ k aU) ?_)));refine cS (fun hz=>?_) fun hz=>?_
  ·have hz:(s.aa[k].cn==0)=true:=hz;rw[if_pos hz] at fu;have om:=jz (s.aa.take k);rw[au] at om;refine aEk [] (Ai (.inl rfl) (Ai ?_ (Ai ?_ ?_)))
   ·rw[Lm];show((eN (s.aa.take k)).length+1)*8<=_;unfold aV at h;omega
   ·rw[Lm];show(eN (s.aa.take k)).length+1 < _;unfold aV at h;omega
   refine aEk [] (Ei (k+1) (Ai (show k+1<=_ by omega) (Ai (show s.aa.length - (k+1) < s.aa.length - k by omega) ?_)));refine ba [(9000,9000)] rfl rfl ?_ ?_ ?_
   repeat' constructor
   exact cZ k aU 128 (by decide) h;rw[fu,aQ];rfl
  ·have hz:(s.aa[k].cn==0)=false:=hz;rw[hz,if_neg (by decide),aW] at fu;refine aEk [] (Ei (k+1) (Ai (show k+1<=_ by omega) (Ai (show s.aa.length - (k+1) < s.aa.length - k by omega) ?_)));refine ba [(9000,9000)] rfl rfl ?_ ?_ ?_
   repeat' first|refine Ai ?_ ?_|exact rfl|exact⟨⟩|exact Ei _ rfl|refine cL ?_|refine bS ?_
   exact cZ k aU 128 (by decide) h;rw[fu]
 ·have hke:=dM hc hk;subst hke;rw[bj];refine aEk [] (Ei [] ?_)
  repeat' constructor
end
section
open Go Cg
def tX (w:Int):Bool:=w==2||(w==3||(w==6||w==7))
def vi (w:Int):Int:=if w=8 then 3 else if w=10 then 14 else if w=11 then 15 else if w=12 then 4 else if w=13 then 5 else if w=9 then 11 else 0
def td:aD:=⟨⟨#[]⟩,⟨0,0,0,0,0,0,0⟩,0,⟨0,0,[]⟩,0,0,0,[],0⟩
def eP (all:List aD)(k:Nat):aD:=(all[k]?).getD td
theorem tv {all:List aD}{k:Nat}(h:k < all.length):eP all k=all[k]:=by
 unfold eP;rw[ag h];rfl
theorem Bp {all:List aD}{k:Nat}(h:all.length<=k):eP all k=td:=by
 unfold eP;rw[List.getElem?_eq_none h];rfl
theorem zj:td.ok:=⟨ea,aA _,aA _,fun _ h=>by cases h⟩
theorem tu {all:List aD}(h:∀ y∈all,aD.ok y)(k:Nat):(eP all k).ok:=by
 by_cases hk:k < all.length
 ·rw[tv hk];exact h _ (aH hk)
 ·rw[Bp (by omega)];exact zj
def iP (l:List az)(all:List aD)(id you src:Int)(f:ck):Bool:=match l.findIdx? fun o=>o.id==id with
 | some i=>(match l[i]? with
  | some o=>fC o (eP all i) you src f
  | none=>false)
 | none=>false
theorem xI {l:List az}{all:List aD}{id you src:Int}{f:ck}(k:Nat)(hk:k < l.length)(h:(l[k].id==id)=true)(fk:∀ j (hj:j < l.length),j < k->(l[j].id==id)=false):iP l all id you src f=fC l[k] (eP all k) you src f:=by
 unfold iP;rw[List.findIdx?_eq_some_iff_getElem.2 ⟨hk,h,fun j hj=>by rw[fk j (by omega) hj];exact Bool.false_ne_true⟩]
 show(match l[k]? with
  | some o=>fC o (eP all k) you src f
  | none=>false)=_
 rw[ag hk]
theorem Ar {l:List az}{all:List aD}{id you src:Int}{f:ck}(fk:∀ j (hj:j < l.length),(l[j].id==id)=false):iP l all id you src f=false:=by
 unfold iP
 rw[List.findIdx?_eq_none_iff.2 fun x hx=>by
  obtain⟨j,hj,rfl⟩:=bD.1 hx;exact fk j hj]
def oh (c:fZ):Bool:=c.e.kind==2&&(decide (kQ (fun o:az=>o.id==c.e.aL&&o.cn==0) c.before.aa>=0)&&!decide (kQ (fun o:az=>o.id==c.e.aL) c.after.aa>=0))
def qp (k kind id:Int)(s:aq)(all:List aD)(w:aG):List Int:=if k==kind&&iP s.aa all id w.you w.id w.aj.aF.filter then [id] else []
def gj (c:fZ)(w:aG):List Int:=
 if w.aj.aF.when=1 then(if c.e.kind != 2&&c.e.kind != 10 then [] else(gQ (eN c.after.aa) (eN c.before.aa)).filter fun id=>!!iP c.after.aa c.cg id w.you w.id w.aj.aF.filter)
 else if w.aj.aF.when=2 then(if oh c then qp c.e.kind 2 c.e.aL c.before c.ca w else [])
 else if w.aj.aF.when=3 then(if oh c&&c.e.nk==3 then qp c.e.kind 2 c.e.aL c.before c.ca w else [])
 else if w.aj.aF.when=4 then qp c.e.kind 12 c.e.aL c.after c.cg w
 else if w.aj.aF.when=5 then qp c.e.kind 13 c.e.aL c.after c.cg w
 else if w.aj.aF.when=14 then qp c.e.kind 8 c.e.aL c.after c.cg w
 else if w.aj.aF.when=6 then qp c.e.kind 1 c.e.dC c.before c.ca w
 else if w.aj.aF.when=7 then(if c.e.aL != 0 then qp c.e.kind 1 c.e.aL c.before c.ca w else [])
 else []
def vk (e:bG)(b:Bool)(id:Int):bG:=if b then { e with aL:=id } else e
def gz (c:fZ)(w:aG):List aP:=
 if vi w.aj.aF.when≠0 then(if (c.e.kind==vi w.aj.aF.when&&kD c.after.aw c.e.bK w.you w.aj.aF.j7)&&!(w.aj.aF.when==9&&!iP c.after.aa c.cg c.e.aL w.you w.id w.aj.aF.filter) then [⟨w.id,w.you,w.aj,c.e⟩] else [])
 else(gj c w).map fun id=>⟨w.id,w.you,w.aj,vk c.e (w.aj.aF.when==1||w.aj.aF.when==6) id⟩
def jr (id you:Int)(e:Bool):Nat->List bJ->List aG
 | _,[]=>[]
 | k,a :: r=>(if a.kind==4&&tX a.aF.when==e then [⟨id,k,you,a,e⟩] else [])++jr id you e (k+1) r
def tj (all:List aD)(e:Bool)(i:Nat)(o:az):List aG:=if o.cn==0 then jr o.id (eP all i).dB e 0 (eP all i).aI else []
def et (all:List aD)(e:Bool):Nat->List az->List aG
 | _,[]=>[]
 | i,o :: r=>tj all e i o++et all e (i+1) r
def CW (a b:Int):Int:=if a < b then -1 else if a > b then 1 else 0
def sH (a b:aG):Int:=if CW a.id b.id≠0 then CW a.id b.id else CW a.index b.index
end
end Go.Proofs.YtbmdcnkidjlbbaaGreat
namespace Cg
section

section
variable {α:Type}[Inhabited α]
def zu (l:List α)(i j:Nat):List α:=(l.set i l[j]!).set j l[i]!
theorem l9 (l:List α)(i j:Nat):(zu l i j).length=l.length:=by simp[zu]
theorem V0 (A B:List α)(x:α):(A++x :: B)[A.length]! = x:=by
 rw[getElem!_pos (A++x :: B) A.length (by simp)];simp
theorem get_at {A B:List α}{x:α}{i:Nat}(h:i=A.length):(A++x :: B)[i]! = x:=by rw[h];exact V0 A B x
omit [Inhabited α] in
theorem OK {A B:List α}{x y:α}{i:Nat}(h:i=A.length):(A++x :: B).set i y=A++y :: B:=by subst h;simp
theorem Bt {A M B:List α}{x y:α}{i j:Nat}(hi:i=A.length)(hj:j=A.length+1+M.length):zu (A++x :: (M++y :: B)) i j=A++y :: (M++x :: B):=by
 unfold zu;have e:∀ z:α,A++z :: (M++y :: B)=(A++z :: M)++y :: B:=fun z=>by simp
 have Q9:∀ z:α,j=(A++z :: M).length:=fun z=>by simp;omega
 rw[get_at hi,e x,get_at (Q9 x),<- e x,OK hi,e y,OK (Q9 y)];simp
theorem Oz (l:List α){i j:Nat}(h:i≠j):zu l i j=zu l j i:=by
 unfold zu;rw[List.set_comm _ _ h]
theorem DI {A M B:List α}{x y:α}{i j:Nat}(hi:i=A.length)(hj:j=A.length+1+M.length):zu (A++x :: (M++y :: B)) j i=A++y :: (M++x :: B):=by
 rw[Oz _ (by omega),Bt hi hj]
def sf (lt:α->α->Bool)(a:Nat):Nat->List α->List α
 | 0,l=>l
 | j+1,l=>if a < j+1 then(if lt l[j+1]! l[j]! = true then sf lt a j (zu l (j+1) j) else l) else l
def nT (lt:α->α->Bool)(a:Nat):Nat->Nat->List α->List α
 | 0,_,l=>l
 | n+1,i,l=>nT lt a n (i+1) (sf lt a i l)
def Bs:Nat->Nat->Nat->List α->List α
 | 0,_,_,l=>l
 | n+1,a,b,l=>Bs n (a+1) (b+1) (zu l a b)
def yh (m:Nat):Nat->Nat->Nat->List α->List α
 | 0,i,_,l=>Bs i (m - i) m l
 | f+1,i,j,l=>if i=j then Bs i (m - i) m l else if j < i then yh m f (i - j) j (Bs j (m - i) m l) else yh m f i (j - i) (Bs i (m - i) (m+j - i) l)
def n9 (p:Nat->Bool):Nat->Nat->Nat->Nat
 | 0,i,_=>i
 | f+1,i,j=>if i < j then(if p ((i+j) / 2)=true then n9 p f ((i+j) / 2+1) j else n9 p f i ((i+j) / 2)) else i
def up:Nat->Nat->List α->List α
 | 0,_,l=>l
 | n+1,k,l=>up n (k+1) (zu l k (k+1))
def dn:Nat->Nat->List α->List α
 | 0,_,l=>l
 | n+1,k,l=>dn n (k - 1) (zu l k (k - 1))
def prt (lt:α->α->Bool)(a m b:Nat)(l:List α):Nat:=
 if m > (a+b) / 2 then n9 (fun c=>!lt l[(a+b) / 2+m - 1 - c]! l[c]!) (b - a) ((a+b) / 2+m - b) ((a+b) / 2)
 else n9 (fun c=>!lt l[(a+b) / 2+m - 1 - c]! l[c]!) (b - a) a m
def gC (lt:α->α->Bool):Nat->Nat->Nat->Nat->List α->List α
 | 0,_,_,_,l=>l
 | f+1,a,m,b,l=>
  if m - a=1 then up (n9 (fun h=>lt l[h]! l[a]!) (b - a) m b - 1 - a) a l
  else if b - m=1 then dn (m - n9 (fun h=>!lt l[m]! l[h]!) (b - a) a m) m l
  else
   (fun l2=>if (a+b) / 2 < (a+b) / 2+m - prt lt a m b l/\(a+b) / 2+m - prt lt a m b l < b then gC lt f ((a+b) / 2) ((a+b) / 2+m - prt lt a m b l) b l2 else l2)
   ((fun l1=>if a < prt lt a m b l/\prt lt a m b l < (a+b) / 2 then gC lt f a (prt lt a m b l) ((a+b) / 2) l1 else l1)
   (if prt lt a m b l < m/\m < (a+b) / 2+m - prt lt a m b l then yh m (b - a) (m - prt lt a m b l) ((a+b) / 2+m - prt lt a m b l - m) l else l))
def qG (lt:α->α->Bool)(s n:Nat):Nat->Nat->List α->List α
 | 0,_,l=>l
 | f+1,a,l=>if a+s<=n then qG lt s n f (a+s) (nT lt a (s - 1) (a+1) l) else nT lt a (n - (a+1)) (a+1) l
def pU (lt:α->α->Bool)(s n:Nat):Nat->Nat->List α->List α
 | 0,_,l=>l
 | f+1,a,l=>if a+2*s<=n then pU lt s n f (a+2*s) (gC lt (2*s) a (a+s) (a+2*s) l) else if a+s < n then gC lt (n - a) a (a+s) n l else l
def sO (lt:α->α->Bool)(n:Nat):Nat->Nat->List α->List α
 | 0,_,l=>l
 | f+1,s,l=>if s < n then sO lt n f (2*s) (pU lt s n (n+1) 0 l) else l
def jx (lt:α->α->Bool)(l:List α):List α:=sO lt l.length (l.length+1) 20 (qG lt 20 l.length (l.length+1) 0 l)
theorem E7 (lt:α->α->Bool)(a:Nat):∀ (j:Nat) (l:List α),(sf lt a j l).length=l.length
 | 0,_=>rfl
 | j+1,l=>by
  unfold sf;split
  ·split
   ·rw[E7 lt a j,l9]
   ·rfl
  ·rfl
theorem oU (lt:α->α->Bool)(a:Nat):∀ (n i:Nat) (l:List α),(nT lt a n i l).length=l.length
 | 0,_,_=>rfl
 | n+1,i,l=>by unfold nT;rw[oU lt a n,E7]
theorem nC:∀ (n a b:Nat) (l:List α),(Bs n a b l).length=l.length
 | 0,_,_,_=>rfl
 | n+1,a,b,l=>by unfold Bs;rw[nC n,l9]
theorem vw (m:Nat):∀ (f i j:Nat) (l:List α),(yh m f i j l).length=l.length
 | 0,i,j,l=>nC ..
 | f+1,i,j,l=>by
  unfold yh;split
  ·exact nC ..
  ·split
   ·rw[vw m f,nC]
   ·rw[vw m f,nC]
theorem Oj:∀ (n k:Nat) (l:List α),(up n k l).length=l.length
 | 0,_,_=>rfl
 | n+1,k,l=>by unfold up;rw[Oj n,l9]
theorem RZ:∀ (n k:Nat) (l:List α),(dn n k l).length=l.length
 | 0,_,_=>rfl
 | n+1,k,l=>by unfold dn;rw[RZ n,l9]
theorem mM (lt:α->α->Bool):∀ (f a m b:Nat) (l:List α),(gC lt f a m b l).length=l.length
 | 0,_,_,_,_=>rfl
 | f+1,a,m,b,l=>by
  unfold gC;split
  ·exact Oj ..
  split
  ·exact RZ ..
  have h1:∀ l:List α,(if prt lt a m b l < m/\m < (a+b) / 2+m - prt lt a m b l then yh m (b - a) (m - prt lt a m b l) ((a+b) / 2+m - prt lt a m b l - m) l else l).length=l.length:=fun l=>by
   split
   ·exact vw ..
   ·rfl
  have h2:∀ (q:Nat) (x:List α),(if a < q/\q < (a+b) / 2 then gC lt f a q ((a+b) / 2) x else x).length=x.length:=fun q x=>by
   split
   ·exact mM lt f ..
   ·rfl
  have h3:∀ (q:Nat) (x:List α),(if (a+b) / 2 < (a+b) / 2+m - q/\(a+b) / 2+m - q < b then gC lt f ((a+b) / 2) ((a+b) / 2+m - q) b x else x).length=x.length:=fun q x=>by
   split
   ·exact mM lt f ..
   ·rfl
  exact(h3 _ _).trans ((h2 _ _).trans (h1 l))
theorem F9 (lt:α->α->Bool)(s n:Nat):∀ (f a:Nat) (l:List α),(qG lt s n f a l).length=l.length
 | 0,_,_=>rfl
 | f+1,a,l=>by
  unfold qG;split
  ·rw[F9 lt s n f,oU]
  ·exact oU ..
theorem ajP (lt:α->α->Bool)(s n:Nat):∀ (f a:Nat) (l:List α),(pU lt s n f a l).length=l.length
 | 0,_,_=>rfl
 | f+1,a,l=>by
  unfold pU;split
  ·rw[ajP lt s n f,mM]
  ·split
   ·exact mM ..
   ·rfl
theorem F6 (lt:α->α->Bool)(n:Nat):∀ (f s:Nat) (l:List α),(sO lt n f s l).length=l.length
 | 0,_,_=>rfl
 | f+1,s,l=>by
  unfold sO;split
  ·rw[F6 lt n f,ajP]
  ·rfl
theorem OD (lt:α->α->Bool)(l:List α):(jx lt l).length=l.length:=by unfold jx;rw[F6,F9]
theorem vq:∀ {n a b:Nat} {A X M Y B:List α},a=A.length->X.length=n->Y.length=n->b=a+n+M.length->Bs n a b (A++(X++(M++(Y++B))))=A++(Y++(M++(X++B)))
 | 0,a,b,A,X,M,Y,B,ha,hx,hy,hb=>by
  rw[List.length_eq_zero_iff.1 hx,List.length_eq_zero_iff.1 hy];rfl
 | n+1,a,b,A,x :: X,M,y :: Y,B,ha,hx,hy,hb=>by
  simp only[aZ] at hx hy;unfold Bs;have e:A++(x :: X++(M++(y :: Y++B)))=A++x :: ((X++M)++y :: (Y++B)):=by simp
  rw[e,Bt ha (by rw[al];omega)];have e2:A++y :: ((X++M)++x :: (Y++B))=(A++[y])++(X++((M++[x])++(Y++B))):=by simp
  rw[e2,vq (by simp;omega) (by omega) (by omega) (by simp;omega)];simp
theorem BH:∀ {m f i j:Nat} {A U V B:List α},m=A.length+i->U.length=i->V.length=j->0 < i->0 < j->i+j<=f->yh m f i j (A++(U++(V++B)))=A++(V++(U++B))
 | m,0,i,j,A,U,V,B,hm,hu,hv,hi,hj,hf=>absurd hf (by omega)
 | m,f+1,i,j,A,U,V,B,hm,hu,hv,hi,hj,hf=>by
  unfold yh;split
  ·rename_i e;have:=vq (n:=i) (a:=m - i) (b:=m) (A:=A) (X:=U) (M:=[]) (Y:=V) (B:=B) (by omega) hu (by omega) (by simp;omega);simpa using this
  ·split
   ·rename_i h1 h2;have hs:U=U.take j++U.drop j:=(List.take_append_drop ..).symm;have h3:(U.take j).length=j:=by rw[au];omega
    have h4:(U.drop j).length=i - j:=by rw[aO];omega
    generalize U.take j=U1 at hs h3;generalize U.drop j=U2 at hs h4;subst hs;have e:A++(U1++U2++(V++B))=A++(U1++(U2++(V++B))):=by simp
    rw[e,vq (by omega) h3 hv (by omega)];have e2:A++(V++(U2++(U1++B)))=(A++V)++(U2++(U1++B)):=by simp
    rw[e2,BH (by simp;omega) h4 h3 (by omega) hj (by omega)];simp
   ·rename_i h1 h2;have hs:V=V.take (j - i)++V.drop (j - i):=(List.take_append_drop ..).symm;have h3:(V.take (j - i)).length=j - i:=by rw[au];omega
    have h4:(V.drop (j - i)).length=i:=by rw[aO];omega
    generalize V.take (j - i)=V1 at hs h3;generalize V.drop (j - i)=V2 at hs h4;subst hs;have e:A++(U++(V1++V2++B))=A++(U++(V1++(V2++B))):=by simp
    rw[e,vq (by omega) hu h4 (by omega)];rw[BH hm h4 h3 hi (by omega) (by omega)];simp
theorem Oi:∀ {n k:Nat} {A Y B:List α} {x:α},k=A.length->Y.length=n->up n k (A++x :: (Y++B))=A++(Y++x :: B)
 | 0,k,A,Y,B,x,ha,hy=>by rw[List.length_eq_zero_iff.1 hy];rfl
 | n+1,k,A,y :: Y,B,x,ha,hy=>by
  unfold up;have:=Bt (A:=A) (M:=[]) (B:=Y++B) (x:=x) (y:=y) (i:=k) (j:=k+1) ha (by simp;omega);simp only[bE,List.cons_append] at this ⊢;rw[this];have e:A++y :: x :: (Y++B)=(A++[y])++x :: (Y++B):=by simp
  rw[e,Oi (by simp;omega) (by simpa using hy)];simp
theorem RY:∀ {n k:Nat} {A Y B:List α} {x:α},k=A.length+n->Y.length=n->dn n k (A++(Y++x :: B))=A++x :: (Y++B)
 | 0,k,A,Y,B,x,ha,hy=>by rw[List.length_eq_zero_iff.1 hy];rfl
 | n+1,k,A,Y,B,x,ha,hy=>by
  unfold dn;obtain⟨Z,y,rfl⟩:∃ Z y,Y=Z++[y]:=⟨Y.dropLast,Y.getLast (by intro h;simp[h] at hy),(List.dropLast_concat_getLast _).symm⟩
  have hz:Z.length=n:=by simpa using hy
  have:=DI (A:=A++Z) (M:=[]) (B:=B) (x:=y) (y:=x) (i:=k - 1) (j:=k) (by simp;omega) (by simp;omega);simp only[bE,b9] at this;have e:A++(Z++[y]++x :: B)=A++(Z++y :: x :: B):=by simp
  rw[e,this,RY (by omega) hz];simp
theorem uv (p:Nat->Bool):∀ (f i j:Nat),i<=j->j - i<=f->i<=n9 p f i j/\n9 p f i j<=j/\(n9 p f i j=i\/p (n9 p f i j - 1)=true)/\(n9 p f i j=j\/p (n9 p f i j)=false)
 | 0,i,j,h1,h2=>by
  have:i=j:=by omega
  subst this;exact⟨ak i,ak i,.inl rfl,.inl rfl⟩
 | f+1,i,j,h1,h2=>by
  unfold n9;split
  ·rename_i h;split
   ·rename_i hp;obtain⟨q1,q2,q3,q4⟩:=uv p f ((i+j) / 2+1) j (by omega) (by omega);refine⟨by omega,q2,?_,q4⟩;rcases q3 with q3|q3
    ·right;rw[q3];simpa using hp
    ·exact .inr q3
   ·rename_i hp;obtain⟨q1,q2,q3,q4⟩:=uv p f i ((i+j) / 2) (by omega) (by omega);refine⟨q1,by omega,q3,?_⟩;rcases q4 with q4|q4
    ·right;rw[q4];simpa using hp
    ·exact .inr q4
  ·have:i=j:=by omega
   subst this;exact⟨ak i,ak i,.inl rfl,.inl rfl⟩
abbrev AK (le:α->α->Prop)(l:List α):Prop:=l.Pairwise le
omit [Inhabited α] in
theorem mN {le:α->α->Prop}{X Y:List α}(hX:AK le X)(hY:AK le Y)(h:∀ x∈X,∀ y∈Y,le x y):AK le (X++Y):=List.pairwise_append.2 ⟨hX,hY,h⟩
theorem rm {le:α->α->Prop}(rf:∀ x,le x x){X:List α}{i:Nat}(hX:AK le X)(hi:i+1=X.length):∀ x∈X,le x X[i]!:=fun x hx=>by
 obtain⟨j,hj,rfl⟩:=bD.1 hx;rw[getElem!_pos X i (by omega)];rcases Nat.lt_or_ge j i with h|h
 ·exact List.pairwise_iff_getElem.1 hX j i hj (by omega) h
 ·have:j=i:=by omega
  subst this;exact rf _
theorem pj {le:α->α->Prop}(rf:∀ x,le x x){X:List α}(hX:AK le X):∀ x∈X,le X[0]! x:=fun x hx=>by
 obtain⟨j,hj,rfl⟩:=bD.1 hx;rw[getElem!_pos X 0 (by omega)];rcases Nat.eq_zero_or_pos j with h|h
 ·subst h;exact rf _
 ·exact List.pairwise_iff_getElem.1 hX 0 j (by omega) hj h
theorem o4 {A X B:List α}{i:Nat}(h1:A.length<=i)(h2:i < A.length+X.length):(A++(X++B))[i]! = X[i - A.length]!:=by
 rw[getElem!_pos (A++(X++B)) i (by simp;omega),getElem!_pos X (i - A.length) (by omega),List.getElem_append_right h1,List.getElem_append_left (by omega)]
theorem qX {lt:α->α->Bool}{le:α->α->Prop}(tr:∀ x y z,le x y->le y z->le x z)(to:∀ x y,le x y\/le y x):∀ (f a m b:Nat) {A L R B:List α},a=A.length->m=a+L.length->b=m+R.length->0 < L.length->0 < R.length->b - a<=f->
  AK le L->AK le R->(∀ x∈L,∀ y∈R,(lt y x=true↔¬ le x y))->∃ M,gC lt f a m b (A++(L++(R++B)))=A++(M++B)/\M.Perm (L++R)/\AK le M
 | 0,a,m,b,A,L,R,B,ha,hm,hb,hL,hR,hf,_,_,_=>absurd hf (by omega)
 | f+1,a,m,b,A,L,R,B,ha,hm,hb,hL,hR,hf,sL,sR,hc=>by
  have rf:∀ x,le x x:=fun x=>(to x x).elim id id;unfold gC;split
  ·rename_i h1;obtain⟨x,rfl⟩:=List.length_eq_one_iff.1 (show L.length=1 by omega);have ga:(A++([x]++(R++B)))[a]! = x:=get_at ha;obtain⟨q1,q2,q3,q4⟩:=uv (fun h=>lt (A++([x]++(R++B)))[h]! (A++([x]++(R++B)))[a]!) (b - a) m b (by omega) (by omega);generalize n9 (fun h=>lt (A++([x]++(R++B)))[h]! (A++([x]++(R++B)))[a]!) (b - a) m b=i at q1 q2 q3 q4 ⊢;simp only[ga] at q3 q4;have hs:R=R.take (i - m)++R.drop (i - m):=(List.take_append_drop ..).symm;have h3:(R.take (i - m)).length=i - m:=by rw[au];omega
   have h4:(R.drop (i - m)).length=b - i:=by rw[aO];omega
   generalize R.take (i - m)=R1 at hs h3;generalize R.drop (i - m)=R2 at hs h4;subst hs;have e:A++([x]++(R1++R2++B))=A++x :: (R1++(R2++B)):=by simp
   simp only[List.length_singleton] at hm;rw[e,Oi ha (by omega)];obtain⟨sR1,sR2,_⟩:=List.pairwise_append.1 sR;refine⟨R1++x :: R2,by simp,?_,?_⟩
   ·exact List.perm_middle (a:=x) (l₁:=R1) (l₂:=R2)
   ·have SV:∀ y∈R1,le y x:=fun y hy=>by
     have hp:0 < R1.length:=List.length_pos_of_mem hy;rcases q3 with q3|q3
     ·omega
     ·have e2:A++([x]++(R1++R2++B))=(A++[x])++(R1++(R2++B)):=by simp
      rw[e2,o4 (by simp;omega) (by simp;omega)] at q3;have hl:=rm rf (i:=i - 1 - (A++[x]).length) sR1 (by simp;omega) y hy
      have uT:R1[i - 1 - (A++[x]).length]!∈R1++R2:=by
       rw[getElem!_pos R1 _ (by simp;omega)];exact bR _ (aH _)
      have:=(hc x (aJ.2 rfl) _ uT).1 q3;rcases to x (R1[i - 1 - (A++[x]).length]!) with h|h
      ·exact absurd h this
      ·exact tr _ _ _ hl h
    have NR:∀ y∈R2,le x y:=fun y hy=>by
     have hp:0 < R2.length:=List.length_pos_of_mem hy;rcases q4 with q4|q4
     ·omega
     ·have e2:A++([x]++(R1++R2++B))=(A++([x]++R1))++(R2++B):=by simp
      rw[e2,o4 (by simp;omega) (by simp;omega)] at q4;have hz:i - (A++([x]++R1)).length=0:=by simp;omega
      rw[hz] at q4
      have uT:R2[0]!∈R1++R2:=by
       rw[getElem!_pos R2 _ hp];exact bT _ (aH _)
      have h5:le x R2[0]!:=by
       have:=mt (hc x (aJ.2 rfl) _ uT).2 (by rw[q4];simp);exact Classical.not_not.1 this
      exact tr _ _ _ h5 (pj rf sR2 y hy)
    refine mN sR1 (List.pairwise_cons.2 ⟨NR,sR2⟩) fun y hy z hz=>?_;rcases List.mem_cons.1 hz with rfl|hz
    ·exact SV y hy
    ·exact tr _ _ _ (SV y hy) (NR z hz)
  split
  ·rename_i h0 h1;obtain⟨x,rfl⟩:=List.length_eq_one_iff.1 (show R.length=1 by omega)
   have ga:(A++(L++([x]++B)))[m]! = x:=by
    have e:A++(L++([x]++B))=(A++L)++x :: B:=by simp
    rw[e];exact get_at (by simp;omega)
   obtain⟨q1,q2,q3,q4⟩:=uv (fun h=>!lt (A++(L++([x]++B)))[m]! (A++(L++([x]++B)))[h]!) (b - a) a m (by omega) (by omega);generalize n9 (fun h=>!lt (A++(L++([x]++B)))[m]! (A++(L++([x]++B)))[h]!) (b - a) a m=i at q1 q2 q3 q4 ⊢;simp only[ga] at q3 q4;have hs:L=L.take (i - a)++L.drop (i - a):=(List.take_append_drop ..).symm;have h3:(L.take (i - a)).length=i - a:=by rw[au];omega
   have h4:(L.drop (i - a)).length=m - i:=by rw[aO];omega
   generalize L.take (i - a)=L1 at hs h3;generalize L.drop (i - a)=L2 at hs h4;subst hs;have e:A++(L1++L2++([x]++B))=(A++L1)++(L2++x :: B):=by simp
   rw[e,RY (by simp;omega) h4];obtain⟨sL1,sL2,hLL⟩:=List.pairwise_append.1 sL;refine⟨L1++x :: L2,by simp,?_,?_⟩
   ·have:=List.perm_middle (a:=x) (l₁:=L1) (l₂:=L2);refine this.trans ?_;have h:=(List.perm_append_comm (l₁:=[x]) (l₂:=L1++L2))
    simpa using h
   ·have SV:∀ y∈L1,le y x:=fun y hy=>by
     have hp:0 < L1.length:=List.length_pos_of_mem hy;rcases q3 with q3|q3
     ·omega
     ·have e2:A++(L1++L2++([x]++B))=A++(L1++(L2++([x]++B))):=by simp
      rw[e2,o4 (by omega) (by omega)] at q3;have hl:=rm rf (i:=i - 1 - A.length) sL1 (by omega) y hy
      have uT:L1[i - 1 - A.length]!∈L1++L2:=by
       rw[getElem!_pos L1 _ (by omega)];exact bR _ (aH _)
      have q3:lt x L1[i - 1 - A.length]! = false:=by simpa using q3
      have:=mt (hc _ uT x (aJ.2 rfl)).2 (by rw[q3];simp);exact tr _ _ _ hl (Classical.not_not.1 this)
    have NR:∀ y∈L2,le x y:=fun y hy=>by
     have hp:0 < L2.length:=List.length_pos_of_mem hy;rcases q4 with q4|q4
     ·omega
     ·have e2:A++(L1++L2++([x]++B))=(A++L1)++(L2++([x]++B)):=by simp
      rw[e2,o4 (by simp;omega) (by simp;omega)] at q4;have hz:i - (A++L1).length=0:=by simp;omega
      rw[hz] at q4
      have uT:L2[0]!∈L1++L2:=by
       rw[getElem!_pos L2 _ hp];exact bT _ (aH _)
      have q4:lt x L2[0]! = true:=by simpa using q4
      have h5:=(hc _ uT x (aJ.2 rfl)).1 q4;rcases to x L2[0]! with h|h
      ·exact tr _ _ _ h (pj rf sL2 y hy)
      ·exact absurd h h5
    refine mN sL1 (List.pairwise_cons.2 ⟨NR,sL2⟩) fun y hy z hz=>?_;rcases List.mem_cons.1 hz with rfl|hz
    ·exact SV y hy
    ·exact hLL y hy z hz
  rename_i n1 n2
  -- where the lists are parted
  have hP:a<=prt lt a m b (A++(L++(R++B)))/\prt lt a m b (A++(L++(R++B)))<=m/\m<=(a+b) / 2+m - prt lt a m b (A++(L++(R++B)))/\(a+b) / 2+m - prt lt a m b (A++(L++(R++B)))<=b/\prt lt a m b (A++(L++(R++B)))<=(a+b) / 2/\
    (prt lt a m b (A++(L++(R++B)))=a\/(a+b) / 2+m - prt lt a m b (A++(L++(R++B)))=b\/lt (A++(L++(R++B)))[(a+b) / 2+m - prt lt a m b (A++(L++(R++B)))]! (A++(L++(R++B)))[prt lt a m b (A++(L++(R++B))) - 1]! = false)/\
    (prt lt a m b (A++(L++(R++B)))=m\/(a+b) / 2+m - prt lt a m b (A++(L++(R++B)))=m\/lt (A++(L++(R++B)))[(a+b) / 2+m - prt lt a m b (A++(L++(R++B))) - 1]! (A++(L++(R++B)))[prt lt a m b (A++(L++(R++B)))]! = true):=by
   generalize A++(L++(R++B))=l;unfold prt;split
   ·rename_i h;obtain⟨q1,q2,q3,q4⟩:=uv (fun c=>!lt l[(a+b) / 2+m - 1 - c]! l[c]!) (b - a) ((a+b) / 2+m - b) ((a+b) / 2) (by omega) (by omega);generalize n9 (fun c=>!lt l[(a+b) / 2+m - 1 - c]! l[c]!) (b - a) ((a+b) / 2+m - b) ((a+b) / 2)=s at q1 q2 q3 q4 ⊢;refine⟨by omega,by omega,by omega,by omega,by omega,?_,?_⟩
    ·rcases q3 with q3|q3
     ·right;left;omega
     ·by_cases hs:s=0
      ·left;omega
      have e:(a+b) / 2+m - 1 - (s - 1)=(a+b) / 2+m - s:=by omega
      rw[e] at q3;right;right;simpa using q3
    ·rcases q4 with q4|q4
     ·right;left;omega
     ·have e:(a+b) / 2+m - 1 - s=(a+b) / 2+m - s - 1:=by omega
      rw[e] at q4;right;right;simpa using q4
   ·rename_i h;obtain⟨q1,q2,q3,q4⟩:=uv (fun c=>!lt l[(a+b) / 2+m - 1 - c]! l[c]!) (b - a) a m (by omega) (by omega);generalize n9 (fun c=>!lt l[(a+b) / 2+m - 1 - c]! l[c]!) (b - a) a m=s at q1 q2 q3 q4 ⊢;refine⟨by omega,by omega,by omega,by omega,by omega,?_,?_⟩
    ·rcases q3 with q3|q3
     ·left;omega
     ·by_cases hs:s=0
      ·left;omega
      have e:(a+b) / 2+m - 1 - (s - 1)=(a+b) / 2+m - s:=by omega
      rw[e] at q3;right;right;simpa using q3
    ·rcases q4 with q4|q4
     ·left;omega
     ·have e:(a+b) / 2+m - 1 - s=(a+b) / 2+m - s - 1:=by omega
      rw[e] at q4;right;right;simpa using q4
  generalize prt lt a m b (A++(L++(R++B)))=s at hP ⊢;obtain⟨p1,p2,p3,p4,p5,p6,p7⟩:=hP;have hsL:L=L.take (s - a)++L.drop (s - a):=(List.take_append_drop ..).symm;have hL1:(L.take (s - a)).length=s - a:=by rw[au];omega
  have IF:(L.drop (s - a)).length=m - s:=by rw[aO];omega
  generalize L.take (s - a)=L1 at hsL hL1;generalize L.drop (s - a)=L2 at hsL IF;subst hsL;have hsR:R=R.take ((a+b) / 2 - s)++R.drop ((a+b) / 2 - s):=(List.take_append_drop ..).symm;have hR1:(R.take ((a+b) / 2 - s)).length=(a+b) / 2 - s:=by rw[au];omega
  have XP:(R.drop ((a+b) / 2 - s)).length=b - ((a+b) / 2+m - s):=by rw[aO];omega
  generalize R.take ((a+b) / 2 - s)=R1 at hsR hR1;generalize R.drop ((a+b) / 2 - s)=R2 at hsR XP;subst hsR;simp only[al] at hm hb hL hR;obtain⟨sL1,sL2,hLL⟩:=List.pairwise_append.1 sL;obtain⟨sR1,sR2,hRR⟩:=List.pairwise_append.1 sR
  -- what is left stays below
  have c1:∀ x∈L1,∀ y∈R2,le x y:=fun x hx y hy=>by
   have z1:0 < L1.length:=List.length_pos_of_mem hx;have z2:0 < R2.length:=List.length_pos_of_mem hy;rcases p6 with p6|p6|p6
   ·omega
   ·omega
   ·have e2:A++(L1++L2++(R1++R2++B))=(A++(L1++(L2++R1)))++(R2++B):=by simp
    have e3:A++(L1++L2++(R1++R2++B))=A++(L1++(L2++(R1++R2++B))):=by simp
    have g1:(A++(L1++L2++(R1++R2++B)))[(a+b) / 2+m - s]! = R2[0]!:=by
     rw[e2,o4 (by simp;omega) (by simp;omega)];congr 1;simp;omega
    have g2:(A++(L1++L2++(R1++R2++B)))[s - 1]! = L1[s - 1 - A.length]!:=by
     rw[e3,o4 (by omega) (by omega)]
    rw[g1,g2] at p6
    have i1:L1[s - 1 - A.length]!∈L1++L2:=by
     rw[getElem!_pos L1 _ (by omega)];exact bR _ (aH _)
    have i2:R2[0]!∈R1++R2:=by
     rw[getElem!_pos R2 _ z2];exact bT _ (aH _)
    have:=Classical.not_not.1 (mt (hc _ i1 _ i2).2 (by rw[p6];simp));exact tr _ _ _ (rm rf sL1 (by omega) x hx) (tr _ _ _ this (pj rf sR2 y hy))
  have c2:∀ y∈R1,∀ x∈L2,le y x:=fun y hy x hx=>by
   have z1:0 < L2.length:=List.length_pos_of_mem hx;have z2:0 < R1.length:=List.length_pos_of_mem hy;rcases p7 with p7|p7|p7
   ·omega
   ·omega
   ·have e2:A++(L1++L2++(R1++R2++B))=(A++(L1++L2))++(R1++(R2++B)):=by simp
    have e3:A++(L1++L2++(R1++R2++B))=(A++L1)++(L2++(R1++R2++B)):=by simp
    have g1:(A++(L1++L2++(R1++R2++B)))[(a+b) / 2+m - s - 1]! = R1[(a+b) / 2+m - s - 1 - (A++(L1++L2)).length]!:=by
     rw[e2,o4 (by simp;omega) (by simp;omega)]
    have g2:(A++(L1++L2++(R1++R2++B)))[s]! = L2[0]!:=by
     rw[e3,o4 (by simp;omega) (by simp;omega)];congr 1;simp;omega
    rw[g1,g2] at p7
    have i1:L2[0]!∈L1++L2:=by
     rw[getElem!_pos L2 _ z1];exact bT _ (aH _)
    have i2:R1[(a+b) / 2+m - s - 1 - (A++(L1++L2)).length]!∈R1++R2:=by
     rw[getElem!_pos R1 _ (by simp;omega)];exact bR _ (aH _)
    have h5:=(hc _ i1 _ i2).1 p7;have h6:=(to _ _).resolve_left h5;exact tr _ _ _ (rm rf sR1 (by simp;omega) y hy) (tr _ _ _ h6 (pj rf sL2 x hx))
  have e0:(if s < m/\m < (a+b) / 2+m - s then yh m (b - a) (m - s) ((a+b) / 2+m - s - m) (A++(L1++L2++(R1++R2++B))) else A++(L1++L2++(R1++R2++B)))=A++(L1++(R1++(L2++(R2++B)))):=by
   split
   ·have e:A++(L1++L2++(R1++R2++B))=(A++L1)++(L2++(R1++(R2++B))):=by simp
    rw[e,BH (by simp;omega) IF (by omega) (by omega) (by omega) (by omega)];simp
   ·rename_i h
    by_cases h2:L2.length=0
    ·rw[List.length_eq_zero_iff.1 h2];simp
    ·have h3:R1.length=0:=by omega
     rw[List.length_eq_zero_iff.1 h3];simp
  rw[e0];show ∃ M,(if (a+b) / 2 < (a+b) / 2+m - s/\(a+b) / 2+m - s < b then gC lt f ((a+b) / 2) ((a+b) / 2+m - s) b (if a < s/\s < (a+b) / 2 then gC lt f a s ((a+b) / 2) (A++(L1++(R1++(L2++(R2++B))))) else A++(L1++(R1++(L2++(R2++B))))) else(if a < s/\s < (a+b) / 2 then gC lt f a s ((a+b) / 2) (A++(L1++(R1++(L2++(R2++B))))) else A++(L1++(R1++(L2++(R2++B))))))=A++(M++B)/\M.Perm (L1++L2++(R1++R2))/\AK le M
  obtain⟨M1,e1,pm1,sm1⟩:∃ M1,(if a < s/\s < (a+b) / 2 then gC lt f a s ((a+b) / 2) (A++(L1++(R1++(L2++(R2++B))))) else A++(L1++(R1++(L2++(R2++B)))))=A++(M1++(L2++(R2++B)))/\M1.Perm (L1++R1)/\AK le M1:=by
   split
   ·exact qX tr to f a s ((a+b) / 2) ha (by omega) (by omega) (by omega) (by omega) (by omega) sL1 sR1 fun x hx y hy=>hc x (bR _ hx) y (bR _ hy)
   ·rename_i h;refine⟨L1++R1,by simp,.refl _,?_⟩
    by_cases h2:L1.length=0
    ·rw[List.length_eq_zero_iff.1 h2];exact sR1
    ·have h3:R1.length=0:=by omega
     rw[List.length_eq_zero_iff.1 h3,aW];exact sL1
  rw[e1];have lm1:=pm1.length_eq;rw[al] at lm1
  obtain⟨M2,e2,pm2,sm2⟩:∃ M2,(if (a+b) / 2 < (a+b) / 2+m - s/\(a+b) / 2+m - s < b then gC lt f ((a+b) / 2) ((a+b) / 2+m - s) b (A++(M1++(L2++(R2++B)))) else A++(M1++(L2++(R2++B))))=A++(M1++(M2++B))/\M2.Perm (L2++R2)/\AK le M2:=by
   split
   ·have e:A++(M1++(L2++(R2++B)))=(A++M1)++(L2++(R2++B)):=by simp
    obtain⟨M2,q1,q2,q3⟩:=qX (A:=A++M1) (L:=L2) (R:=R2) (B:=B) tr to f ((a+b) / 2) ((a+b) / 2+m - s) b (by simp;omega) (by omega) (by omega) (by omega) (by omega) (by omega) sL2 sR2 fun x hx y hy=>hc x (bT _ hx) y (bT _ hy);exact⟨M2,by rw[e,q1];simp,q2,q3⟩
   ·rename_i h;refine⟨L2++R2,by simp,.refl _,?_⟩
    by_cases h2:L2.length=0
    ·rw[List.length_eq_zero_iff.1 h2];exact sR2
    ·have h3:R2.length=0:=by omega
     rw[List.length_eq_zero_iff.1 h3,aW];exact sL2
  rw[e2];refine⟨M1++M2,by simp,?_,?_⟩
  ·refine(pm1.append pm2).trans ?_;have h:=(List.perm_append_comm (l₁:=R1) (l₂:=L2)).append_left L1;have h2:=h.append_right R2;simpa using h2
  ·refine mN sm1 sm2 fun x hx y hy=>?_;rcases bh.1 (pm1.mem_iff.1 hx) with hx|hx <;> rcases bh.1 (pm2.mem_iff.1 hy) with hy|hy
   ·exact hLL x hx y hy
   ·exact c1 x hx y hy
   ·exact c2 x hx y hy
   ·exact hRR x hx y hy
theorem Kz {lt:α->α->Bool}{le:α->α->Prop}(tr:∀ x y z,le x y->le y z->le x z)(to:∀ x y,le x y\/le y x)(a:Nat):∀ (j:Nat) {A L B:List α} {x:α},a=A.length->j=a+L.length->AK le L->(∀ y∈L,(lt x y=true↔¬ le y x))->∃ M,sf lt a j (A++(L++x :: B))=A++(M++B)/\M.Perm (L++[x])/\AK le M
 | 0,A,L,B,x,ha,hj,sL,hc=>by
  have:L=[]:=List.length_eq_zero_iff.1 (by omega);subst this;exact⟨[x],rfl,.refl _,List.pairwise_singleton ..⟩
 | j+1,A,L,B,x,ha,hj,sL,hc=>by
  unfold sf;split
  ·rename_i h;obtain⟨Z,y,rfl⟩:∃ Z y,L=Z++[y]:=⟨L.dropLast,L.getLast (by intro h;simp[h] at hj;omega),(List.dropLast_concat_getLast _).symm⟩
   have hz:j=a+Z.length:=by simp at hj;omega
   have e:A++(Z++[y]++x :: B)=(A++Z)++y :: x :: B:=by simp
   have e2:A++(Z++[y]++x :: B)=(A++(Z++[y]))++x :: B:=by simp
   have g1:(A++(Z++[y]++x :: B))[j+1]! = x:=by rw[e2];exact get_at (by simp;omega)
   have g2:(A++(Z++[y]++x :: B))[j]! = y:=by rw[e];exact get_at (by simp;omega)
   rw[g1,g2];obtain⟨sZ,_,hZ⟩:=List.pairwise_append.1 sL;have hy:∀ z∈Z,le z y:=fun z hz=>hZ z hz y (aJ.2 rfl);split
   ·rename_i aU;have hxy:le x y:=(to x y).resolve_right ((hc y (bT _ (aJ.2 rfl))).1 aU);have es:=DI (A:=A++Z) (M:=[]) (B:=B) (x:=y) (y:=x) (i:=j) (j:=j+1) (by simp;omega) (by simp;omega);simp only[bE,b9] at es;have e3:A++(Z++[y]++x :: B)=A++(Z++y :: x :: B):=by simp
    rw[e3,es];obtain⟨M,q1,q2,q3⟩:=Kz (A:=A) (L:=Z) (B:=y :: B) (x:=x) tr to a j ha hz sZ fun z hz=>hc z (bR _ hz);refine⟨M++[y],by rw[q1];simp,?_,?_⟩
    ·refine(q2.append_right [y]).trans ?_;have h:=(List.perm_append_comm (l₁:=[x]) (l₂:=[y])).append_left Z;simpa using h
    ·refine mN q3 (List.pairwise_singleton ..) fun z hz w hw=>?_;rw[aJ.1 hw];rcases bh.1 (q2.mem_iff.1 hz) with hz|hz
     ·exact hy z hz
     ·rw[aJ.1 hz];exact hxy
   ·rename_i aU;have hyx:le y x:=Classical.not_not.1 (mt (hc y (bT _ (aJ.2 rfl))).2 aU);refine⟨Z++[y]++[x],by simp,.refl _,?_⟩;refine mN sL (List.pairwise_singleton ..) fun z hz w hw=>?_;rw[aJ.1 hw];rcases bh.1 hz with hz|hz
    ·exact tr _ _ _ (hy z hz) hyx
    ·rw[aJ.1 hz];exact hyx
  ·have:L=[]:=List.length_eq_zero_iff.1 (by omega);subst this;exact⟨[x],rfl,.refl _,List.pairwise_singleton ..⟩
theorem Ky {lt:α->α->Bool}{le:α->α->Prop}(tr:∀ x y z,le x y->le y z->le x z)(to:∀ x y,le x y\/le y x)(a:Nat):∀ (n i:Nat) {A L R B:List α},a=A.length->i=a+L.length->R.length=n->AK le L->(∀ x∈L,∀ y∈R,(lt y x=true↔¬ le x y))->R.Pairwise (fun x y=>lt y x=true↔¬ le x y)->∃ M,nT lt a n i (A++(L++(R++B)))=A++(M++B)/\M.Perm (L++R)/\AK le M
 | 0,i,A,L,R,B,ha,hi,hr,sL,hc,hR=>by
  have:R=[]:=List.length_eq_zero_iff.1 hr;subst this;exact⟨L,by simp[nT],by simp,sL⟩
 | n+1,i,A,L,x :: R,B,ha,hi,hr,sL,hc,hR=>by
  unfold nT;have e:A++(L++(x :: R++B))=A++(L++x :: (R++B)):=by simp
  obtain⟨M,q1,q2,q3⟩:=Kz (A:=A) (L:=L) (B:=R++B) (x:=x) tr to a i ha hi sL fun y hy=>hc y hy x (aB ..);rw[e,q1];have hl:=q2.length_eq;simp only[al,List.length_singleton] at hl;obtain⟨hx,hR⟩:=List.pairwise_cons.1 hR
  obtain⟨M2,p1,p2,p3⟩:=Ky (A:=A) (L:=M) (R:=R) (B:=B) tr to a n (i+1) ha (by omega) (by simpa using hr) q3 (fun y hy z hz=>by
   rcases bh.1 (q2.mem_iff.1 hy) with hy|hy
   ·exact hc y hy z (aM _ hz)
   ·rw[aJ.1 hy];exact hx z hz) hR
  refine⟨M2,p1,p2.trans ((q2.append_right R).trans ?_),p3⟩;simp
inductive Bks (lt:α->α->Bool) (le:α->α->Prop) (s:Nat):List α->Prop
 | last {X}:X.length<=s->AK le X->Bks lt le s X
 | cons {X Y}:X.length=s->AK le X->(∀ x∈X,∀ y∈Y,(lt y x=true↔¬ le x y))->Bks lt le s Y->Bks lt le s (X++Y)
theorem EV {lt:α->α->Bool}{le:α->α->Prop}(tr:∀ x y z,le x y->le y z->le x z)(to:∀ x y,le x y\/le y x){a n:Nat}{A R B:List α}(ha:a=A.length)(hr:R.length=n+1)(hR:R.Pairwise (fun x y=>lt y x=true↔¬ le x y)):∃ M,nT lt a n (a+1) (A++(R++B))=A++(M++B)/\M.Perm R/\AK le M:=by
 cases R with
 | nil=>simp at hr
 | cons x R=>
  obtain⟨hx,hR⟩:=List.pairwise_cons.1 hR;obtain⟨M,q1,q2,q3⟩:=Ky (A:=A) (L:=[x]) (R:=R) (B:=B) tr to a n (a+1) ha rfl (by simpa using hr) (List.pairwise_singleton ..) (fun y hy z hz=>by rw[aJ.1 hy];exact hx z hz) hR;exact⟨M,q1,q2,q3⟩
theorem Lb {lt:α->α->Bool}{le:α->α->Prop}(tr:∀ x y z,le x y->le y z->le x z)(to:∀ x y,le x y\/le y x){s n:Nat}(hs:0 < s):∀ (f a:Nat) {A R:List α},a=A.length->n=a+R.length->R.length < f->R.Pairwise (fun x y=>lt y x=true↔¬ le x y)->∃ M,qG lt s n f a (A++R)=A++M/\M.Perm R/\Bks lt le s M
 | 0,a,A,R,ha,hn,hf,_=>absurd hf (by omega)
 | f+1,a,A,R,ha,hn,hf,hR=>by
  unfold qG;split
  ·rename_i h;have mX:R=R.take s++R.drop s:=(List.take_append_drop ..).symm;have h3:(R.take s).length=s:=by rw[au];omega
   have h4:(R.drop s).length=R.length - s:=aO ..;generalize R.take s=R1 at mX h3;generalize R.drop s=R2 at mX h4;subst mX;rw[al] at hn hf;obtain⟨hR1,XP,hx⟩:=List.pairwise_append.1 hR;obtain⟨M,q1,q2,q3⟩:=EV (lt:=lt) (le:=le) (A:=A) (R:=R1) (B:=R2) (n:=s - 1) tr to ha (by omega) hR1;rw[q1];have hl:=q2.length_eq;obtain⟨M2,p1,p2,p3⟩:=Lb (lt:=lt) (le:=le) (n:=n) (s:=s) (A:=A++M) (R:=R2) tr to hs f (a+s) (by rw[al];omega) (by omega) (by omega) XP;have e:A++(M++R2)=A++M++R2:=by simp
   refine⟨M++M2,by rw[e,p1];simp,q2.append p2,.cons (by omega) q3 (fun x SV y hy=>hx x (q2.mem_iff.1 SV) y (p2.mem_iff.1 hy)) p3⟩
  ·rename_i h
   by_cases h0:R.length=0
   ·have:R=[]:=List.length_eq_zero_iff.1 h0;subst this;have e:n - (a+1)=0:=by simp at hn;omega
    rw[e];exact⟨[],rfl,.refl _,.last (aA _) .nil⟩
   ·obtain⟨M,q1,q2,q3⟩:=EV (B:=[]) (n:=n - (a+1)) tr to ha (by omega) hR;simp only[aW] at q1;exact⟨M,q1,q2,.last (by have:=q2.length_eq;omega) q3⟩
theorem C3 {lt:α->α->Bool}{le:α->α->Prop}(tr:∀ x y z,le x y->le y z->le x z)(to:∀ x y,le x y\/le y x){s n:Nat}(hs:0 < s):∀ (f a:Nat) {A R:List α},a=A.length->n=a+R.length->R.length < f->Bks lt le s R->∃ M,pU lt s n f a (A++R)=A++M/\M.Perm R/\Bks lt le (2*s) M
 | 0,a,A,R,ha,hn,hf,_=>absurd hf (by omega)
 | f+1,a,A,R,ha,hn,hf,hR=>by
  unfold pU
  cases hR with
  | last h1 h2=>
   rw[if_neg (by omega),if_neg (by omega)];exact⟨R,rfl,.refl _,.last (by omega) h2⟩
  | @cons X Y h1 h2 h3 h4=>
   rw[al] at hn hf
   cases h4 with
   | last h5 h6=>
    by_cases hy:Y.length=0
    ·have:Y=[]:=List.length_eq_zero_iff.1 hy;subst this;rw[if_neg (by omega),if_neg (by omega)];exact⟨X++[],rfl,.refl _,.last (by simp;omega) (by rw[aW];exact h2)⟩
    ·by_cases hf2:a+2*s<=n
     ·rw[if_pos hf2];obtain⟨M,q1,q2,q3⟩:=qX (lt:=lt) (A:=A) (L:=X) (R:=Y) (B:=[]) tr to (2*s) a (a+s) (a+2*s) ha (by omega) (by omega) (by omega) (by omega) (by omega) h2 h6 h3;simp only[aW] at q1;rw[q1];have hl:=q2.length_eq;rw[al] at hl;obtain⟨M2,p1,p2,p3⟩:=C3 (lt:=lt) (le:=le) (n:=n) (s:=s) (A:=A++M) (R:=[]) tr to hs f (a+2*s) (by rw[al];omega) (by simp;omega) (by simp;omega) (.last (by simp) .nil);have:M2=[]:=p2.eq_nil;subst this;simp only[aW] at p1;exact⟨M,p1,q2,.last (by omega) q3⟩
     ·rw[if_neg hf2,if_pos (by omega)];obtain⟨M,q1,q2,q3⟩:=qX (lt:=lt) (A:=A) (L:=X) (R:=Y) (B:=[]) tr to (n - a) a (a+s) n ha (by omega) (by omega) (by omega) (by omega) (by omega) h2 h6 h3;simp only[aW] at q1;exact⟨M,q1,q2,.last (by have:=q2.length_eq;rw[al] at this;omega) q3⟩
   | @cons Y1 Y2 h5 h6 h7 h8=>
    rw[al] at hn hf;rw[if_pos (by omega)];obtain⟨M,q1,q2,q3⟩:=qX (lt:=lt) (A:=A) (L:=X) (R:=Y1) (B:=Y2) tr to (2*s) a (a+s) (a+2*s) ha (by omega) (by omega) (by omega) (by omega) (by omega) h2 h6 fun x hx y hy=>h3 x hx y (bR _ hy);have hl:=q2.length_eq;rw[al] at hl;obtain⟨M2,p1,p2,p3⟩:=C3 (lt:=lt) (le:=le) (n:=n) (s:=s) (A:=A++M) (R:=Y2) tr to hs f (a+2*s) (by rw[al];omega) (by omega) (by omega) h8;have e:A++(X++(Y1++Y2))=A++(X++(Y1++Y2)):=rfl;have e2:A++(M++Y2)=A++M++Y2:=by simp
    refine⟨M++M2,by rw[q1,e2,p1];simp,?_,.cons (by omega) q3 (fun x hx y hy=>?_) p3⟩
    ·have:=q2.append p2;simpa using this
    ·have hy:=p2.mem_iff.1 hy;rcases bh.1 (q2.mem_iff.1 hx) with hx|hx
     ·exact h3 x hx y (bT _ hy)
     ·exact h7 x hx y hy
theorem La {lt:α->α->Bool}{le:α->α->Prop}(tr:∀ x y z,le x y->le y z->le x z)(to:∀ x y,le x y\/le y x){n:Nat}:∀ (f s:Nat) {R:List α},0 < s->R.length=n->n < s+f->Bks lt le s R->(sO lt n f s R).Perm R/\AK le (sO lt n f s R)
 | 0,s,R,hs,hn,hf,hR=>by
  refine⟨.refl _,?_⟩
  cases hR with
  | last h1 h2=>exact h2
  | @cons X Y h1 h2 h3 h4=>rw[al] at hn;omega
 | f+1,s,R,hs,hn,hf,hR=>by
  unfold sO;split
  ·obtain⟨M,q1,q2,q3⟩:=C3 (A:=[]) tr to (n:=n) hs (n+1) 0 rfl (by omega) (by omega) hR;simp only[bE] at q1;rw[q1];obtain⟨p1,p2⟩:=La tr to f (2*s) (by omega) (by rw[q2.length_eq,hn]) (by omega) q3;exact⟨p1.trans q2,p2⟩
  ·refine⟨.refl _,?_⟩
   cases hR with
   | last h1 h2=>exact h2
   | @cons X Y h1 h2 h3 h4=>
    rw[al] at hn;have:Y=[]:=List.length_eq_zero_iff.1 (by omega);subst this;rw[aW];exact h2
theorem Jn {lt:α->α->Bool}{le:α->α->Prop}(tr:∀ x y z,le x y->le y z->le x z)(to:∀ x y,le x y\/le y x)(l:List α)(h:l.Pairwise fun x y=>lt y x=true↔¬ le x y):(jx lt l).Perm l/\AK le (jx lt l):=by
 unfold jx;obtain⟨M,q1,q2,q3⟩:=Lb (A:=[]) (n:=l.length) tr to (show 0 < 20 by decide) (l.length+1) 0 rfl (by omega) (by omega) h;simp only[bE] at q1;rw[q1];obtain⟨p1,p2⟩:=La tr to (n:=l.length) (l.length+1) 20 (by decide) q2.length_eq (by omega) q3;exact⟨p1.trans q2,p2⟩
theorem iS (l:List (α × Nat))(i:Nat):(l.map Prod.fst)[i]! = (l[i]!).1:=by
 rcases Nat.lt_or_ge i l.length with h|h
 ·rw[getElem!_pos l i h,getElem!_pos (l.map Prod.fst) i (by rw[Lm];exact h),List.getElem_map]
 ·rw[getElem!_neg l i (by omega),getElem!_neg (l.map Prod.fst) i (by rw[Lm];omega)];rfl
theorem vt (l:List (α × Nat))(i j:Nat):(zu l i j).map Prod.fst=zu (l.map Prod.fst) i j:=by
 unfold zu;rw[List.map_set,List.map_set,iS,iS]
theorem C2 {p q:Nat->Bool}(h:∀ i,p i=q i)(f i j:Nat):n9 p f i j=n9 q f i j:=by rw[show p=q from funext h]
theorem E8 (lt:α->α->Bool)(a:Nat):∀ (j:Nat) (l:List (α × Nat)),(sf (fun x y=>lt x.1 y.1) a j l).map Prod.fst=sf lt a j (l.map Prod.fst)
 | 0,_=>rfl
 | j+1,l=>by
  unfold sf;rw[iS,iS];split
  ·split
   ·rw[E8 lt a j,vt]
   ·rfl
  ·rfl
theorem xq (lt:α->α->Bool)(a:Nat):∀ (n i:Nat) (l:List (α × Nat)),(nT (fun x y=>lt x.1 y.1) a n i l).map Prod.fst=nT lt a n i (l.map Prod.fst)
 | 0,_,_=>rfl
 | n+1,i,l=>by unfold nT;rw[xq lt a n,E8]
theorem rh:∀ (n a b:Nat) (l:List (α × Nat)),(Bs n a b l).map Prod.fst=Bs n a b (l.map Prod.fst)
 | 0,_,_,_=>rfl
 | n+1,a,b,l=>by unfold Bs;rw[rh n,vt]
theorem BI (m:Nat):∀ (f i j:Nat) (l:List (α × Nat)),(yh m f i j l).map Prod.fst=yh m f i j (l.map Prod.fst)
 | 0,i,j,l=>rh ..
 | f+1,i,j,l=>by
  unfold yh;split
  ·exact rh ..
  ·split
   ·rw[BI m f,rh]
   ·rw[BI m f,rh]
theorem Ol:∀ (n k:Nat) (l:List (α × Nat)),(up n k l).map Prod.fst=up n k (l.map Prod.fst)
 | 0,_,_=>rfl
 | n+1,k,l=>by unfold up;rw[Ol n,vt]
theorem R5:∀ (n k:Nat) (l:List (α × Nat)),(dn n k l).map Prod.fst=dn n k (l.map Prod.fst)
 | 0,_,_=>rfl
 | n+1,k,l=>by unfold dn;rw[R5 n,vt]
theorem UA (lt:α->α->Bool)(a m b:Nat)(l:List (α × Nat)):prt (fun x y=>lt x.1 y.1) a m b l=prt lt a m b (l.map Prod.fst):=by
 unfold prt;split
 ·exact C2 (fun c=>by rw[iS,iS]) ..
 ·exact C2 (fun c=>by rw[iS,iS]) ..
theorem qY (lt:α->α->Bool):∀ (f a m b:Nat) (l:List (α × Nat)),(gC (fun x y=>lt x.1 y.1) f a m b l).map Prod.fst=gC lt f a m b (l.map Prod.fst)
 | 0,_,_,_,_=>rfl
 | f+1,a,m,b,l=>by
  unfold gC;have e1:n9 (fun h=>lt (l.map Prod.fst)[h]! (l.map Prod.fst)[a]!) (b - a) m b=n9 (fun h=>lt l[h]!.1 l[a]!.1) (b - a) m b:=C2 (fun c=>by rw[iS,iS]) ..;have e2:n9 (fun h=>!lt (l.map Prod.fst)[m]! (l.map Prod.fst)[h]!) (b - a) a m=n9 (fun h=>!lt l[m]!.1 l[h]!.1) (b - a) a m:=C2 (fun c=>by rw[iS,iS]) ..;rw[e1,e2,UA];generalize prt lt a m b (l.map Prod.fst)=s;split
  ·exact Ol ..
  split
  ·exact R5 ..
  have h1:(if s < m/\m < (a+b) / 2+m - s then yh m (b - a) (m - s) ((a+b) / 2+m - s - m) l else l).map Prod.fst=if s < m/\m < (a+b) / 2+m - s then yh m (b - a) (m - s) ((a+b) / 2+m - s - m) (l.map Prod.fst) else l.map Prod.fst:=by
   split
   ·exact BI ..
   ·rfl
  have h2:∀ x:List (α × Nat),(if a < s/\s < (a+b) / 2 then gC (fun x y=>lt x.1 y.1) f a s ((a+b) / 2) x else x).map Prod.fst=if a < s/\s < (a+b) / 2 then gC lt f a s ((a+b) / 2) (x.map Prod.fst) else x.map Prod.fst:=fun x=>by
   split
   ·exact qY lt f ..
   ·rfl
  have h3:∀ x:List (α × Nat),(if (a+b) / 2 < (a+b) / 2+m - s/\(a+b) / 2+m - s < b then gC (fun x y=>lt x.1 y.1) f ((a+b) / 2) ((a+b) / 2+m - s) b x else x).map Prod.fst=if (a+b) / 2 < (a+b) / 2+m - s/\(a+b) / 2+m - s < b then gC lt f ((a+b) / 2) ((a+b) / 2+m - s) b (x.map Prod.fst) else x.map Prod.fst:=fun x=>by
   split
   ·exact qY lt f ..
   ·rfl
  refine(h3 _).trans ?_;rw[h2,h1]
theorem Ga (lt:α->α->Bool)(s n:Nat):∀ (f a:Nat) (l:List (α × Nat)),(qG (fun x y=>lt x.1 y.1) s n f a l).map Prod.fst=qG lt s n f a (l.map Prod.fst)
 | 0,_,_=>rfl
 | f+1,a,l=>by
  unfold qG;split
  ·rw[Ga lt s n f,xq]
  ·exact xq ..
theorem F8 (lt:α->α->Bool)(s n:Nat):∀ (f a:Nat) (l:List (α × Nat)),(pU (fun x y=>lt x.1 y.1) s n f a l).map Prod.fst=pU lt s n f a (l.map Prod.fst)
 | 0,_,_=>rfl
 | f+1,a,l=>by
  unfold pU;split
  ·rw[F8 lt s n f,qY]
  ·split
   ·exact qY ..
   ·rfl
theorem F7 (lt:α->α->Bool)(n:Nat):∀ (f s:Nat) (l:List (α × Nat)),(sO (fun x y=>lt x.1 y.1) n f s l).map Prod.fst=sO lt n f s (l.map Prod.fst)
 | 0,_,_=>rfl
 | f+1,s,l=>by
  unfold sO;split
  ·rw[F7 lt n f,F8]
  ·rfl
theorem OF (lt:α->α->Bool)(l:List (α × Nat)):(jx (fun x y=>lt x.1 y.1) l).map Prod.fst=jx lt (l.map Prod.fst):=by
 unfold jx;rw[F7,Ga,Lm]
def Cd (le:α->α->Prop)(x y:α × Nat):Prop:=le x.1 y.1/\(le y.1 x.1->x.2<=y.2)
def yQ:Nat->List α->List (α × Nat)
 | _,[]=>[]
 | i,x :: r=>(x,i) :: yQ (i+1) r
omit [Inhabited α] in
theorem vY:∀ (i:Nat) (l:List α),(yQ i l).map Prod.fst=l
 | _,[]=>rfl
 | i,x :: r=>by rw[yQ,bW,vY]
omit [Inhabited α] in
theorem Jh:∀ (i:Nat) (l:List α),∀ p∈yQ i l,i<=p.2
 | _,[],_,h=>by cases h
 | i,_ :: r,p,h=>by
  rcases List.mem_cons.1 h with rfl|h
  ·exact ak _
  ·exact Nat.le_of_succ_le (Jh (i+1) r p h)
omit [Inhabited α] in
theorem qW:∀ (i:Nat) (l:List α),(yQ i l).Pairwise fun x y=>x.2 < y.2
 | _,[]=>.nil
 | i,_x :: r=>.cons (fun p hp=>Jh (i+1) r p hp) (qW (i+1) r)
theorem Tv {lt:α->α->Bool}{le:α->α->Prop}(tr:∀ x y z,le x y->le y z->le x z)(to:∀ x y,le x y\/le y x)(aU:∀ x y,lt y x=true↔¬ le x y)(l:List α)(M:List (α × Nat))(hp:M.Perm (yQ 0 l))(hs:M.Pairwise (Cd le)):jx lt l=M.map Prod.fst:=by
 have hrf:∀ x,le x x:=fun x=>(to x x).elim id id;have tr2:∀ x y z:α × Nat,Cd le x y->Cd le y z->Cd le x z:=fun x y z h1 h2=>⟨tr _ _ _ h1.1 h2.1,fun h=>aX (h1.2 (tr _ _ _ h2.1 h)) (h2.2 (tr _ _ _ h h1.1))⟩
 have to2:∀ x y:α × Nat,Cd le x y\/Cd le y x:=fun x y=>by
  by_cases h1:le x.1 y.1 <;> by_cases h2:le y.1 x.1
  ·rcases Nat.le_total x.2 y.2 with h|h
   ·exact .inl ⟨h1,fun _=>h⟩
   ·exact .inr ⟨h2,fun _=>h⟩
  ·exact .inl ⟨h1,fun h=>absurd h h2⟩
  ·exact .inr ⟨h2,fun h=>absurd h h1⟩
  ·exact((to x.1 y.1).elim h1 h2).elim
 obtain⟨p1,p2⟩:=Jn (lt:=fun x y=>lt x.1 y.1) tr2 to2 (yQ 0 l) ((qW 0 l).imp fun {x y} h=>by
  rw[aU];constructor
  ·exact fun h1 h2=>h1 h2.1
  ·exact fun h1 h2=>h1 ⟨h2,fun _=>db h⟩)
 have e:jx (fun x y:α × Nat=>lt x.1 y.1) (yQ 0 l)=M:=by
  refine List.Perm.eq_of_pairwise (le:=Cd le) (fun x y hx hy h1 h2=>?_) p2 hs (p1.trans hp.symm);have hx:=p1.mem_iff.1 hx;have hy:=hp.mem_iff.1 hy;have h3:x.2=y.2:=Nat.le_antisymm (h1.2 h2.1) (h2.2 h1.1);obtain⟨i,hi,rfl⟩:=bD.1 hx;obtain⟨j,hj,rfl⟩:=bD.1 hy;rcases Nat.lt_trichotomy i j with h|h|h
  ·have:=List.pairwise_iff_getElem.1 (qW 0 l) i j hi hj h;omega
  ·subst h;rfl
  ·have:=List.pairwise_iff_getElem.1 (qW 0 l) j i hj hi h;omega
 have:=OF lt (yQ 0 l);rw[vY,e] at this;exact this.symm
def uc (pO:α->α->Bool)(x:α)(out:List α):List α:=out.takeWhile (fun y=>pO y x)++x :: out.dropWhile fun y=>pO y x
def jn (pO:α->α->Bool)(out:List α):List α->List α
 | []=>out
 | x :: r=>jn pO (uc pO x out) r
omit [Inhabited α] in
theorem Oq (p:α->Bool):∀ l:List (α × Nat),(l.takeWhile fun y=>p y.1).map Prod.fst=(l.map Prod.fst).takeWhile p
 | []=>rfl
 | x :: l=>by
  rw[List.takeWhile_cons,bW,List.takeWhile_cons];split
  ·rw[bW,Oq p l]
  ·rfl
omit [Inhabited α] in
theorem RO (p:α->Bool):∀ l:List (α × Nat),(l.dropWhile fun y=>p y.1).map Prod.fst=(l.map Prod.fst).dropWhile p
 | []=>rfl
 | x :: l=>by
  rw[List.dropWhile_cons,bW,List.dropWhile_cons];split
  ·exact RO p l
  ·rfl
omit [Inhabited α] in
theorem QR (pO:α->α->Bool)(x:α × Nat)(l:List (α × Nat)):(uc (fun a b=>pO a.1 b.1) x l).map Prod.fst=uc pO x.1 (l.map Prod.fst):=by
 unfold uc;rw[aQ,bW,Oq fun y=>pO y x.1,RO (fun y=>pO y x.1)]
omit [Inhabited α] in
theorem EY (pO:α->α->Bool):∀ (r l:List (α × Nat)),(jn (fun a b=>pO a.1 b.1) l r).map Prod.fst=jn pO (l.map Prod.fst) (r.map Prod.fst)
 | [],l=>rfl
 | x :: r,l=>by rw[jn,EY pO r,QR,bW,jn]
omit [Inhabited α] in
theorem KZ {p:α->Bool}:∀ {l r:List α} {z:α},l.dropWhile p=z :: r->p z=false
 | [],r,z,h=>by cases h
 | x :: l,r,z,h=>by
  rw[List.dropWhile_cons] at h;split at h
  ·exact KZ h
  ·rename_i hx;injection h with h1 _;subst h1;simpa using hx
omit [Inhabited α] in
theorem Ou {p:α->Bool}:∀ {l:List α},∀ x∈l.takeWhile p,p x=true
 | [],x,h=>by cases h
 | y :: l,x,h=>by
  rw[List.takeWhile_cons] at h;split at h
  ·rename_i hy;rcases List.mem_cons.1 h with rfl|h
   ·exact hy
   ·exact Ou x h
  ·cases h
omit [Inhabited α] in
theorem Ak (pO:α->α->Bool)(x:α)(l:List α):(uc pO x l).Perm (l++[x]):=by
 unfold uc;refine List.perm_middle.trans ?_;rw[List.takeWhile_append_dropWhile];exact(List.perm_append_comm (l₁:=[x]) (l₂:=l))
omit [Inhabited α] in
theorem Al (pO:α->α->Bool):∀ (r l:List α),(jn pO l r).Perm (l++r)
 | [],l=>by rw[jn,aW]
 | x :: r,l=>by
  rw[jn];refine(Al pO r _).trans ?_;refine((Ak pO x l).append_right r).trans ?_;simp
omit [Inhabited α] in
theorem EX {pO:α->α->Bool}{le:α->α->Prop}(hb:∀ x y,pO x y=true↔le x y)(tr:∀ x y z,le x y->le y z->le x z)(to:∀ x y,le x y\/le y x):∀ (r l:List (α × Nat)),l.Pairwise (Cd le)->(∀ x∈l,∀ y∈r,x.2 < y.2)->(r.Pairwise fun x y=>x.2 < y.2)->(jn (fun a b=>pO a.1 b.1) l r).Pairwise (Cd le)
 | [],l,h,_,_=>h
 | x :: r,l,h,h1,h2=>by
  obtain⟨h3,h4⟩:=List.pairwise_cons.1 h2;rw[jn];refine EX hb tr to r _ ?_ (fun y hy z hz=>?_) h4
  ·unfold uc;have hl:l.takeWhile (fun y=>pO y.1 x.1)++l.dropWhile (fun y=>pO y.1 x.1)=l:=List.takeWhile_append_dropWhile ..;have ht:∀ y∈l.takeWhile fun y=>pO y.1 x.1,le y.1 x.1:=fun y hy=>(hb _ _).1 (Ou y hy);have hm:∀ y∈l.takeWhile fun y=>pO y.1 x.1,y∈l:=fun y hy=>by rw[<- hl];exact bR _ hy
   have hd:∀ z∈l.dropWhile fun y=>pO y.1 x.1,¬ le z.1 x.1:=by
    rw[<- hl] at h;obtain⟨_,h5,_⟩:=List.pairwise_append.1 h
    cases e:l.dropWhile (fun y=>pO y.1 x.1) with
    | nil=>exact fun z hz=>by cases hz
    | cons z0 q=>
     have h6:¬ le z0.1 x.1:=fun hc=>by
      have:=KZ e;rw[(hb _ _).2 hc] at this
      cases this
     rw[e] at h5;obtain⟨h7,_⟩:=List.pairwise_cons.1 h5;intro z hz hc;rcases List.mem_cons.1 hz with rfl|hz
     ·exact h6 hc
     ·exact h6 (tr _ _ _ (h7 z hz).1 hc)
   rw[<- hl] at h;obtain⟨h5,h6,h7⟩:=List.pairwise_append.1 h;refine List.pairwise_append.2 ⟨h5,List.pairwise_cons.2 ⟨fun z hz=>⟨(to x.1 z.1).resolve_right (hd z hz),fun hc=>absurd hc (hd z hz)⟩,h6⟩,fun y hy z hz=>?_⟩;rcases List.mem_cons.1 hz with rfl|hz
   ·exact⟨ht y hy,fun _=>db (h1 y (hm y hy) z (aB ..))⟩
   ·exact h7 y hy z hz
  ·rcases bh.1 ((Ak _ x l).mem_iff.1 hy) with hy|hy
   ·exact h1 y hy z (aM _ hz)
   ·rw[aJ.1 hy];exact h3 z hz
theorem OE {lt pO:α->α->Bool}{le:α->α->Prop}(hb:∀ x y,pO x y=true↔le x y)(tr:∀ x y z,le x y->le y z->le x z)(to:∀ x y,le x y\/le y x)(aU:∀ x y,lt y x=true↔¬ le x y)(l:List α):jx lt l=jn pO [] l:=by
 have h:=Tv (lt:=lt) (le:=le) tr to aU l (jn (fun a b=>pO a.1 b.1) [] (yQ 0 l)) (Al _ _ []) (EX hb tr to _ [] .nil (fun _ h=>by cases h) (qW 0 l));rw[h,EY,vY];rfl
end
end
end Cg
namespace Go.Proofs.YtbmdcnkidjlbbaaGreat
section
open Go Cg
def ixI (l:List Int)(n:Int):Int:=kQ (fun m=>m==n) l
def sk (l:List Int)(n:Int):Bool:=decide (ixI l n>=0)
def orI (a b:Int):Int:=IntKind.i64.wrap (((BitVec.ofInt IntKind.i64.bits a ||| BitVec.ofInt IntKind.i64.bits b).toNat:Nat):Int)
def km (k:Int):Int:=if k=1 then 1 else if k=2\/k=3\/k=4\/k=5 then 2 else if k=6\/k=7 then 3 else if k=8\/k=9\/k=10 then 4 else if k=11 then 5 else if k=12 then 6 else if k=13 then 7 else if k=14 then 8 else 0
structure Wd where
 all:List aD
 bg:List Bool
 st:List (List Int)
 bl:List Bool
def tB (b:Bool):List Tr:=[bv b]
def tZ (l:List Int):List Tr:=[.sl 1 (l.map eI)]
def wE (s:aq)(L:List bV)(w:Wd):List Tr:=s.enc++[.sl 17 (w.all.map aD.enc),.sl 23 (L.map bV.enc),.sl 1 (w.bg.map tB),.sl 1 (w.st.map tZ),.sl 1 (w.bl.map tB)]
def qs {α:Type}(p:Nat->α->Bool):Nat->List α->List α
 | _,[]=>[]
 | k,x :: r=>(if p k x=true then [x] else [])++qs p (k+1) r
theorem JZ {α:Type}(p:Nat->α->Bool):∀ (l m:List α) (k:Nat),qs p k (l++m)=qs p k l++qs p (k+l.length) m
 | [],m,k=>rfl
 | x :: r,m,k=>by
  rw[List.cons_append,qs,qs,JZ p r m (k+1),b9,aZ,show k+1+r.length=k+(r.length+1) by omega]
theorem wW {α:Type}(p:Nat->α->Bool)(l:List α)(k:Nat)(hk:k < l.length):qs p 0 (l.take (k+1))=qs p 0 (l.take k)++(if p k l[k]=true then [l[k]] else []):=by
 rw[aS hk,JZ,au,Nat.min_eq_left (by omega),bw];show _++((if p k l[k]=true then [l[k]] else [])++[])=_;rw[aW]
theorem vA {α:Type}(p:Nat->α->Bool):∀ (l:List α) (k:Nat),(qs p k l).length<=l.length
 | [],_=>ak _
 | x :: r,k=>by
  rw[qs,al,aZ];have:=vA p r (k+1);split <;> simp <;> omega
theorem wV {α:Type}(p:Nat->α->Bool)(l:List α)(k:Nat):(qs p 0 (l.take k)).length<=l.length:=aX (vA p _ 0) (by rw[au];omega)
def nJ (l:List az)(id:Int):Int:=kQ (fun o=>o.id==id) l
def WC (l:List Bool)(i:Nat):Bool:=(l[i]?).getD false
def pK (s:aq)(f:bV)(w:Wd):Int:=if f.fixed||decide (nJ s.aa f.dC < 0) then f.dB else(eP w.all (nJ s.aa f.dC).toNat).dB
def uz (s:aq)(f:bV)(w:Wd)(i:Nat):Bool:=(f.fixed||WC w.bg i)||(decide (nJ s.aa f.dC < 0)||!WC w.bl (nJ s.aa f.dC).toNat)
def pd (s:aq)(f:bV)(w:Wd)(k:Nat)(o:az):Bool:=o.cn==0&&((f.fixed&&sk f.aa o.id)||(!f.fixed&&fC o (eP w.all k) (pK s f w) f.dC f.filter))
def nc (s:aq)(f:bV)(w:Wd)(i:Nat):List Int:=if WC w.bg i=true then(w.st[i]?).getD [] else if uz s f w i=true then(qs (pd s f w) 0 s.aa).map az.id else []
def Vf (s:aq)(all:List aD)(you src:Int)(q:ck):List Int:=(qs (fun k o=>fC o (eP all k) you src q) 0 s.aa).map az.id
def xT (s:aq)(f:bV)(w:Wd)(m:dR):Int:=if m.kind=11 then((Vf s w.all (pK s f w) f.dC m.filter).length:Nat) else 0
def oz (aR:Int)(l:List dR):List dR:=l.filter fun m=>km m.kind==aR
def mR (s:aq)(f:bV)(w:Wd)(aR:Int):List Int:=(oz aR f.cH).map (xT s f w)
def Ni (f:bV)(aR:Int):Bool:=f.cH.any fun m=>m.kind==10&&km m.kind==aR
def Gc (f:bV)(aR:Int):Bool:=f.cH.any fun m=>km m.kind==aR
def mu {α:Type}(g:Nat->α->α)(n:Nat)(l:List α):List α:=l.mapIdx fun k x=>if k < n then g k x else x
theorem qb {α:Type}(g:Nat->α->α)(n:Nat)(l:List α)(k:Nat):(mu g n l)[k]? = (l[k]?).map fun x=>if k < n then g k x else x:=by
 unfold mu;rw[List.getElem?_mapIdx]
theorem mK {α:Type}(g:Nat->α->α)(n:Nat)(l:List α):(mu g n l).length=l.length:=by unfold mu;rw[List.length_mapIdx]
theorem Oh {α:Type}(g:Nat->α->α)(l:List α):mu g 0 l=l:=by
 refine List.ext_getElem? fun k=>?_;rw[qb]
 cases l[k]? with
 | none=>rfl
 | some x=>exact congrArg some (if_neg (Nat.not_lt_zero _))
theorem Bj {α:Type}(g:Nat->α->α)(n:Nat)(l:List α)(k:Nat)(hk:k < l.length):(mu g n l)[k]? = some (if k < n then g k l[k] else l[k]):=by
 rw[qb,ag hk];rfl
theorem DD {α:Type}(g:Nat->α->α)(n:Nat)(l:List α)(hn:n < l.length):(mu g n l).set n (g n l[n])=mu g (n+1) l:=by
 refine List.ext_getElem? fun k=>?_;rw[List.getElem?_set,qb,qb,mK]
 by_cases e:n=k
 ·subst e;rw[if_pos rfl,if_pos hn,ag hn];exact congrArg some (if_pos (Nat.lt_succ_self _)).symm
 ·rw[if_neg e]
  cases l[k]? with
  | none=>rfl
  | some x=>
   refine congrArg some ?_;show(if k < n then g k x else x)=if k < n+1 then g k x else x
   by_cases h:k < n
   ·rw[if_pos h,if_pos (by omega)]
   ·rw[if_neg h,if_neg (by omega)]
theorem zl {α:Type}(g:Nat->α->α)(n:Nat)(l:List α)(hn:n < l.length)(h:g n l[n]=l[n]):mu g (n+1) l=mu g n l:=by
 refine List.ext_getElem? fun k=>?_;rw[qb,qb]
 by_cases e:n=k
 ·subst e;rw[ag hn];refine congrArg some ?_;show(if n < n+1 then g n l[n] else l[n])=if n < n then g n l[n] else l[n];rw[if_pos (Nat.lt_succ_self _),if_neg (Nat.lt_irrefl _),h]
 ·cases l[k]? with
  | none=>rfl
  | some x=>
   refine congrArg some ?_;show(if k < n+1 then g k x else x)=if k < n then g k x else x
   by_cases h:k < n
   ·rw[if_pos h,if_pos (by omega)]
   ·rw[if_neg h,if_neg (by omega)]
end
end Go.Proofs.YtbmdcnkidjlbbaaGreat
namespace Cg
section
open Go Go.RowKit Go.Sort
theorem DO {F F':Nat->Prop}{w:World}:∀ {vs:List Value} {ts:List Tr},jK F w vs ts->(∀ t∈ts,∃ x,t=Tr.lit x)->jK F' w vs ts
 | _,_,.nil,_=>.nil
 | _,_,.cons h1 h2,h=>by
  obtain⟨x,rfl⟩:=h _ (aB ..);refine .cons ?_ (DO h2 fun t ht=>h t (aM _ ht))
  cases h1 with
  | lit q=>exact .lit q
theorem pD {P:Program}{f:FuncId}{dh:List AV}{ty k:Nat}{xs:List (List Tr)}{b:Bool}(h:Ct P f dh (.c (.row 0 0)) [⟨ty,k,0,xs,none⟩] b)(hx:∀ ts∈xs,∀ t∈ts,∃ v,t=Tr.lit v):Ct P f dh (.c (.row 0 0)) [⟨ty,k,0,xs,none⟩] true:=by
 refine⟨h.RJ,h.uX,h.shut,h.plain,h.nob,h.rid,fun w vs E0 mY ha=>(h.run w vs E0 mY ha).mono ?_⟩;rintro e w' ⟨v,rfl,oZ,E,hr,Cn,Ao⟩;refine⟨v,rfl,oZ,⟨fun b=>if b < w.heap.size then .eH else E.rl b,E.bk,E.vl⟩,hr,fun j R hj=>?_,fun b aU hc=>?_⟩
 ·cases j with
  | succ j=>simp at hj
  | zero=>
   injection hj with hj;subst hj;obtain⟨es,h1,h2,h3⟩:=(Cn 0 _ rfl).ow rfl;refine Ow.rr rfl ⟨es,h1,⟨h2.len,fun j x ts q1 q2=>DO (h2.at_ j x ts q1 q2) (hx ts (bc q2))⟩,fun g hg=>?_⟩;show(if g < w.heap.size then jm.eH else E.rl g)=_;rw[if_neg (Nat.not_lt.2 (h1.lt g hg).1)];exact h3 g hg
 ·have hc:(if b < w.heap.size then jm.eH else E.rl b)=.bH:=hc;rw[if_pos aU] at hc
  cases hc
theorem ld (l:List Int):∀ ts∈l.map eI,∀ t∈ts,∃ v,t=Tr.lit v:=fun ts h t ht=>by
 obtain⟨n,_,rfl⟩:=bL.1 h;have:t=iv n:=aJ.1 ht;exact⟨_,this⟩
end
section
open Go Go.RowKit Go.Sort Go.Lib
section
variable {P:Program}{T:Nat->Option Ty}{O:iy}[GlC O]
def wid (ro:Option Nat):Fence:={ Fence.wide with round:=ro }
theorem JS {ro:Option Nat}{n:Nat}{o:Oper}{a:Act}{w:World}{K:Act->World->Prop}{Q:Exit->Act->World->Prop}(hd:∀ c,o.op≠.defer c)(h:Oper.wp P o a w K Q):o.wpIn (wid ro) n P a w K Q:=by
 refine⟨fun _ _=>trivial,?_⟩;rw[show(wid ro).round=ro from rfl,Oper.semAt_eq ro a.eval o hd];unfold Oper.wp at h;revert h;generalize (execOp a.eval o).run P w=r;intro h
 cases r with
 | ok x w'=>
  cases x <;> first
   | exact h
   | exact h.elim
   | exact⟨fun hx=>(by cases hx),callsIn_wide.2 h⟩
   | exact⟨fun hx=>(by cases hx),fun c cs _=>let ⟨v,w2,r,s⟩:=h c cs;⟨v,w2,r,stepsIn_wide.2 s⟩⟩
 | halt x w'=>
  cases x <;> first
   | exact h
   | exact h.elim
def w9 (o:Oper):Bool:=match o.op with
 | .defer _=>false
 | _=>true
theorem J5 {o:Oper}(h:w9 o=true):∀ c,o.op≠.defer c:=fun c e=>by
 unfold w9 at h;rw[e] at h
 cases h
theorem MB {ro:Option Nat}{nn:Nat}(hT:dz P T){ops:Array Oper}{N n0 id m:Nat}{s0:St}{L:List (Oper × Dl)}(ja:kC N ops false=true)(pA:ops.toList.all w9=true)(hL:L.map (·.1)=ops.toList)(hp:fh P T ops id s0 L)(k:Kb s0 id)(hm:id+128*ops.size<=m){Q:Exit->Act->World->Prop} :
  ∀ (n j:Nat) (E:Env) (w:World) (a:Act),j+n=ops.size->cx O E w n0 N m (bU s0 (L.take j)) a->(∀ E' w' a',cx O E' w' n0 N m (bU s0 L) a'->Below n0 w w'->Q .normal a' w')->wpOpsIn (wid ro) nn P ops Q (List.range' j n) a w:=by
 have hlen:L.length=ops.size:=by rw[<- Lm (f:=(·.1)),hL,bP]
 intro n
 induction n with
 | zero=>
  intro j E w a hj r hQ;have oY:j=L.length:=by omega
  subst oY;rw[bj] at r;exact hQ E w a r (Below.refl _ _)
 | succ n ih=>
  intro j E w a hj r hQ;have aU:j < L.length:=by omega
  obtain⟨o,d,KI⟩:∃ o d,L[j]? = some (o,d):=⟨(L[j]'aU).1,(L[j]'aU).2,by rw[ag]⟩
  have ug:ops[j]? = some o:=by
   rw[<- dF,<- hL,bI,KI];rfl
  have hod:w9 o=true:=aN.1 pA o (bc (by rw[dF];exact ug));have IA:=kY ja ug;have za:=(nK hp k j (by omega)).fresh
  have step:∀ E' v w',cx O E' w' n0 N m ((bU s0 (L.take j)).app o.dst d) (a.put o.dst v)->Below n0 w w'->wpOpsIn (wid ro) nn P ops Q (List.range' (j+1) n) (a.put o.dst v) w':=fun E' v w' r' hb=>by
   refine ih (j+1) E' w' _ (by omega) ?_ fun E2 w2 a2 r2 dK=>hQ E2 w2 a2 r2 (hb.trans dK);rw[List.take_add_one,KI,Option.toList_some,eT];exact r'
  obtain⟨b,h1,h2,h3⟩:=hp j o d KI;rw[List.range'_succ];unfold wpOpsIn;simp only[ug];rw[pZ h1 r]
  cases b with
  | true=>
   rw[if_pos rfl];exact JS (J5 hod) (tA hT r IA za (by omega) (h2 rfl) _ _ step)
  | false=>
   rw[if_neg (by simp)];refine⟨fun _ _=>trivial,?_⟩;rw[h3 rfl] at step;exact step E undef w (r.app IA (Mv.refl _ _ _ _ _) (lM ⟨fun b hb=>(by cases hb),fun p hp=>(by cases hp)⟩) ⟨[],rfl,.nil⟩ (fun _ _ h=>by cases h) fun _ _ h=>by cases h) (Below.refl _ _)
def NH (P:Program)(T:Nat->Option Ty)(N:Nat)(w0:World)(O:iy)(ro:Option Nat)(c:Code)(st:St)(Q:Ex->St->Prop):Prop:=
 dz P T->alN N c=true->∀ nn E a w,iE O E w w0.heap.size N st a->Below w0.heap.size w0 w->c.wpIn (wid ro) nn P (mq w0 N O Q) a w
variable {N:Nat}{w0:World}{ro:Option Nat}
theorem NH.region (id:Nat)(ops:Array Oper)(st:St)(Q:Ex->St->Prop)(pA:ops.toList.all w9=true)(h:kg P T ops st.nx 0 ops.toList st fun dc=>match dc with
  | ⟨sl,bx,rw,_⟩=>nY (st.nx+128*ops.size) fun nx=>Q .iV ⟨sl,bx,rw,nx⟩):NH P T N w0 O ro (.region id ops false) st Q:=by
 intro hT hc nn E a w r hb;obtain⟨L,hL,hp,dc,hK,he⟩:=jA ops.toList [] st _ (kT.refl _) (fun j o d hj=>by simp at hj) h;rw[bE] at hp he;have ja:kC N ops false=true:=hc;have k0:=r.kb;have r0:cx O E w w0.heap.size N (st.nx+128*ops.size) st a:=r.mono (by omega)
 have fin:∀ E' w' a',cx O E' w' w0.heap.size N (st.nx+128*ops.size) (bU st L) a'->Below w0.heap.size w0 w'->mq w0 N O Q .normal a' w':=fun E' w' a' r' fa=>by
  obtain⟨sl,bx,dU,nx⟩:=dc;simp only[la] at hK;refine⟨_,E',hK,?_,fa⟩;have he':kT (bU st L) ⟨sl,bx,dU,st.nx+128*ops.size⟩:=⟨he.sl,he.bx,he.rw⟩
  exact he'.rep r'
 refine wpIn_region ?_;rw[List.range_eq_range'];exact MB hT ja pA hL hp k0 (ak _) ops.size 0 E w a (by omega) (by simpa [bU] using r0) fun E' w' a' r' fa=>fin E' w' a' r' (hb.trans fa)
omit [GlC O] in
theorem NH.block {id:Nat}{c:Code}{st:St}{Q:Ex->St->Prop}(h:NH P T N w0 O ro c st (sN id Q)):NH P T N w0 O ro (.block id c) st Q:=fun hT hc nn E a w r hb=>by
 unfold alN at hc;refine wpIn_block (wpIn_mono (h hT hc nn E a w r hb) fun e a' w' hp=>?_)
 cases e with
 | normal=>
  obtain⟨dc,E',hq,r',fa⟩:=hp;exact⟨dc,E',hq,r',fa⟩
 | exit i=>
  obtain⟨dc,E',hq,r',fa⟩:=hp;unfold sN at hq;simp only at hq;show(if i=id then mq w0 N O Q .normal a' w' else mq w0 N O Q (.exit i) a' w')
  by_cases e:i=id
  ·subst e;rw[show Nat.beq i i=true by simp] at hq;rw[if_pos rfl];exact⟨dc,E',hq,r',fa⟩
  ·have:Nat.beq i id=false:=by
    cases hb:Nat.beq i id
    ·rfl
    ·exact absurd (ai hb) e
   rw[this] at hq;rw[if_neg e];exact⟨dc,E',hq,r',fa⟩
 | ret=>
  obtain⟨dc,E',hq,r',fa⟩:=hp;exact⟨dc,E',hq,r',fa⟩
 | goto l=>exact hp.elim
 | panic ch=>exact hp.elim
 | outgrown=>exact hp.elim
end
section
variable {P:Program}{T:Nat->Option Ty}
structure SF (K:Nat->Prop)(w w':World):Prop where
 os:w'.os=w.os
 tape:w'.tape=w.tape
 output:w'.output=w.output
 size:w.heap.size<=w'.heap.size
 block:∀ b,b < w.heap.size->K b->w'.heap[b]? = w.heap[b]?
abbrev JT:=Nat->(Nat->Prop)->(Nat->Prop)->World->Prop
structure WX (J:JT):Prop where
 ab:∀ k K Ko W W',J k K Ko W->SF K W W'->J k K Ko W'
 lt:∀ k K Ko W,J k K Ko W->∀ b,K b->b < W.heap.size
 ko:∀ k K Ko W,J k K Ko W->∀ b,Ko b->K b
def NI (P:Program)(l:Nat)(J:JT)(n0:Nat)(E0:Env)(k:Nat)(x:AV):Prop:=
 ∀ K Ko W1 E1 v,J k K Ko W1->R1 E1 W1 v x->(∀ b,b < n0->E1.rl b=.bH->E0.rl b=.bH)->(∀ b,Ko b->E1.rl b≠.bH)->
  YieldAt Fence.wide 0 P l #[v] W1 fun e W'=>e=.returned (.bool true)/\Gl W'/\∃ K' I8,J (k+1) K' I8 W'/\SF (fun b=>¬ K b\/E1.rl b=.bH) W1 W'/\(∀ b,K' b->K b\/E1.rl b=.bH\/W1.heap.size<=b)/\(∀ b,I8 b->Ko b\/W1.heap.size<=b)
structure Sq (P:Program)(g:FuncId)(caps xs:List AV):Prop where
 RJ:N3 P g
 run:∀ (W:World) (us:List Value) (E0:Env),Gl W->A2 (R1 E0 W) us caps->∀ (l:Nat) (J:JT),WX J->(∀ k (hk:k < xs.length),NI P l J W.heap.size E0 k xs[k])->∀ K Ko,J 0 K Ko W->(∀ b,Ko b->E0.rl b≠.bH)->
  Calls P g (#[.func (.yield l) #[] #[]]++us.toArray) W fun e W'=>(∃ v,e=.returned v)/\∃ K Ko,J xs.length K Ko W'
section
variable {O:iy}{E:Env}{w:World}{n0 N m:Nat}{st:St}{a:Act}
theorem cx.re (h:cx O E w n0 N m st a)(G:Nat->Option Obj)(n:Nat)(hn:n<=w.heap.size)(hG:∀ b x,G b=some x->w.heap[b]? = some x/\(E.rl b=.bH\/E.rl b=.eH)):cx ⟨fun b=>E.rl b=.bH,G,fun _=>none,fun _=>none,n,O.d⟩ E w n0 N m st a:=
 ⟨h.yn,h.sz,h.slt,h.box,h.row,h.sc,h.hi,fun b hb=>(h.nM b hb).elim (fun h=>.inl ⟨h.1,h.1⟩) .inr,fun b x hx=>(by
  obtain⟨h1,h2⟩:=hG b x hx;refine⟨h1,h2.elim (fun h=>.inl ⟨h,h⟩) fun h=>.inr ⟨h,fun hc=>?_⟩⟩;have hc:E.rl b=.bH:=hc;rw[h] at hc
  cases hc),fun _ _ h=>(by cases h),fun _ _ h=>(by cases h),hn⟩
theorem cx.fr (h:cx O E w n0 N m st a){E':Env}{w':World}(hg:∀ b,O.g b=none)(hv:∀ b,O.v b=none)(hb:∀ b,O.b b=none)(hs:w.heap.size<=w'.heap.size)(hk:∀ b,b < w.heap.size->E.rl b≠.eH->w'.heap[b]? = w.heap[b]?)(hE:∀ b,b < w.heap.size->E.rl b≠.eH->E'.rl b=E.rl b)(ho:∀ b,b < n0->E.rl b=.eH->E'.rl b=.eH)(ID:E'.bk=E.bk)(Ip:E'.vl=E.vl):cx O E' w' n0 N m st a:=by
 have hc:∀ b,E.rl b=.bH->b < w.heap.size->w'.heap[b]? = w.heap[b]?/\E'.rl b=.bH:=fun b h1 h2=>⟨hk b h2 (by rw[h1];intro h;cases h),by rw[hE b h2 (by rw[h1];intro h;cases h),h1]⟩
 refine⟨h.yn,h.sz,fun t=>(h.slt t).fr hs hc (fun p _=>by rw[Ip]) (fun b _=>by rw[ID]),fun i cs hi=>(h.box i cs hi).fr hs hc (fun p _=>by rw[Ip]) (by rw[ID]) fun h1 h2=>⟨hk _ h1 (by rw[h2];intro h;cases h),by rw[hE _ h1 (by rw[h2];intro h;cases h),h2]⟩,
  fun τ R hR=>(h.row τ R hR).fr hs hc (by rw[Ip]) (fun d _ l _=>by rw[Ip]) (fun g _ h1 h2=>⟨hk _ h1 (by rw[h2];intro h;cases h),by rw[hE _ h1 (by rw[h2];intro h;cases h),h2]⟩) fun g j o h1 h2=>⟨hk _ h1 (by rw[h2];intro h;cases h),by rw[hE _ h1 (by rw[h2];intro h;cases h),h2]⟩,
  h.sc,aX h.hi hs,fun b Ff=>?_,fun b x hx=>(by rw[hg b] at hx;cases hx),fun j V hj=>(by rw[hv j] at hj;cases hj),fun j V hj=>(by rw[hb j] at hj;cases hj),aX h.sn hs⟩
 rcases h.nM b Ff with⟨h1,h2⟩|h1
 ·exact .inl ⟨by rw[hE b (cA Ff h.hi) (by rw[h1];intro h;cases h),h1],h2⟩
 ·exact .inr (ho b Ff h1)
end
structure JI (J:JT)(E0:Env)(n0 k:Nat)(E:Env)(w:World)(K Ko:Nat->Prop):Prop where
 j:J k K Ko w
 ko:∀ b,Ko b->E.rl b=.eH
 ki:∀ b,K b->E.rl b=.bH\/E.rl b=.eH
 e0:∀ b,b < n0->E.rl b=.bH->E0.rl b=.bH
def PJ (J:JT)(E0:Env)(n0 N:Nat)(Q:St->Nat->Prop)(a:Act)(w:World):Prop:=∃ st k O E K Ko,Q st k/\eQ O/\O.d=[]/\iE O E w n0 N st a/\JI J E0 n0 k E w K Ko
def cpJ (J:JT)(E0:Env)(n0 N:Nat)(Q:Ex->St->Nat->Prop):Exit->Act->World->Prop
 | .normal,a,w=>PJ J E0 n0 N (Q .iV) a w
 | .exit id,a,w=>PJ J E0 n0 N (Q (.exit id)) a w
 | .ret,a,w=>PJ J E0 n0 N (Q .ret) a w
 | _,_,_=>False
def gg (P:Program)(T:Nat->Option Ty)(J:JT)(E0:Env)(n0 N:Nat)(c:Code)(st:St)(k:Nat)(Q:Ex->St->Nat->Prop):Prop:=
 dz P T->alN N c=true->∀ O E a w K Ko,eQ O->O.d=[]->iE O E w n0 N st a->JI J E0 n0 k E w K Ko->c.wp P (cpJ J E0 n0 N Q) a w
section
variable {J:JT}{E0:Env}{n0 N:Nat}
open Classical in
noncomputable def gK (w:World)(K:Nat->Prop)(b:Nat):Option Obj:=if K b\/b=0 then w.heap[b]? else none
theorem IJ {w:World}{K:Nat->Prop}{b:Nat}(h:K b\/b=0):gK w K b=w.heap[b]?:=by unfold gK;rw[if_pos h]
theorem abM {w:World}{K:Nat->Prop}{b:Nat}(h:¬ (K b\/b=0)):gK w K b=none:=by unfold gK;rw[if_neg h]
noncomputable def Gj (E:Env)(w:World)(K:Nat->Prop)(d:List Deferred):iy:=⟨fun b=>E.rl b=.bH,gK w K,fun _=>none,fun _=>none,w.heap.size,d⟩
theorem nV {E:Env}{w:World}{K:Nat->Prop}{d:List Deferred}(h:Gl w):eQ (Gj E w K d):=rL (fun _=>rfl) (fun _=>rfl) h (IJ (.inr rfl))
theorem JI.agD {O:iy}{E:Env}{w:World}{n0 N m k:Nat}{st:St}{a:Act}{K Ko:Nat->Prop}(j:JI J E0 n0 k E w K Ko)(hr0:E.rl 0=.bH\/E.rl 0=.eH)(r:cx O E w n0 N m st a):cx (Gj E w K O.d) E w n0 N m st a:=
 r.re (gK w K) w.heap.size (ak _) fun b x hx=>by
  by_cases hk:K b\/b=0
  ·rw[IJ hk] at hx;exact⟨hx,hk.elim (j.ki b) fun e=>by rw[e];exact hr0⟩
  ·rw[abM hk] at hx
   cases hx
theorem JI.rep {O:iy}[GlC O]{E:Env}{w:World}{n0 N m k:Nat}{st:St}{a:Act}{K Ko:Nat->Prop}(j:JI J E0 n0 k E w K Ko)(r:cx O E w n0 N m st a):cx (Gj E w K O.d) E w n0 N m st a:=j.agD r.W9 r
theorem JI.next (hJ:WX J){E E':Env}{w w':World}{n0 N m k:Nat}{st:St}{a:Act}{K Ko:Nat->Prop}{d:List Deferred}(j:JI J E0 n0 k E w K Ko)(r2:cx (Gj E w K d) E' w' n0 N m st a)(hb:Below n0 w w'):JI J E0 n0 k E' w' K Ko:=by
 have hK:∀ b,K b->w'.heap[b]? = w.heap[b]?/\(E'.rl b=.bH/\E.rl b=.bH\/E'.rl b=.eH/\¬ E.rl b=.bH):=fun b hk=>by
  obtain⟨x,hx⟩:∃ x,w.heap[b]? = some x:=⟨_,Array.getElem?_eq_getElem (hJ.lt k K Ko w j.j b hk)⟩
  obtain⟨g1,g2⟩:=r2.gh b x (by
   show gK w K b=_;rw[IJ (.inl hk)];exact hx)
  exact⟨g1.trans hx.symm,g2⟩
 have hs:SF K w w':=⟨hb.os,hb.tape,hb.output,r2.sn,fun b _ hk=>(hK b hk).1⟩
 refine⟨hJ.ab k K Ko w w' j.j hs,fun b dK=>?_,fun b dK=>?_,fun b Ff he=>?_⟩
 ·have hk:=hJ.ko k K Ko w j.j b dK;rcases(hK b hk).2 with⟨_,h2⟩|⟨h1,_⟩
  ·rw[j.ko b dK] at h2
   cases h2
  ·exact h1
 ·rcases(hK b dK).2 with⟨h1,_⟩|⟨h1,_⟩
  ·exact .inl h1
  ·exact .inr h1
 ·rcases r2.nM b Ff with⟨_,h2⟩|h1
  ·exact j.e0 b Ff h2
  ·rw[h1] at he
   cases he
theorem gg.zE {c:Code}{st:St}{k:Nat}{Q:Ex->St->Nat->Prop}(hJ:WX J)(h:∀ w0 O [eQ O],Tp P T N w0 O c st (fun e dc=>Q e dc k)):gg P T J E0 n0 N c st k Q:=fun hT hc O E a w K Ko hO hd r j=>by
 haveI:=hO
 haveI:eQ (Gj E w K O.d):=nV r.gl
 obtain⟨w0,SW,hs0⟩:∃ w0:World,Below n0 w0 w/\w0.heap.size=n0:=⟨{ w with heap:=w.heap.extract 0 n0 },⟨rfl,rfl,rfl,by show(w.heap.extract 0 n0).size<=_;rw[Array.size_extract];omega,fun b hb=>by
  show w.heap[b]? = (w.heap.extract 0 n0)[b]?;have:=r.hi
  rw[Array.getElem?_extract,if_pos (by omega),bw]⟩,by
   have:=r.hi;show(w.heap.extract 0 n0).size=n0;rw[Array.size_extract];omega⟩
 subst hs0;refine wp_mono (h w0 (Gj E w K O.d) hT hc E a w (j.rep r) SW) fun e a' w' hp=>?_
 have fin:∀ x,(∃ dc E',Q x dc k/\iE (Gj E w K O.d) E' w' w0.heap.size N dc a'/\Below w0.heap.size w0 w')->PJ J E0 w0.heap.size N (Q x) a' w':=fun x ⟨dc,E',hq,r2,hb⟩=>
  ⟨dc,k,Gj E w K O.d,E',K,Ko,hq,nV r.gl,hd,r2,j.next hJ r2 ⟨hb.os.trans SW.os.symm,hb.tape.trans SW.tape.symm,hb.output.trans SW.output.symm,r2.sn,fun b Ff=>(hb.block b Ff).trans (SW.block b Ff).symm⟩⟩
 cases e with
 | normal=>exact fin _ hp
 | exit id=>exact fin _ hp
 | ret=>exact fin _ hp
 | goto l=>exact hp.elim
 | panic ch=>exact hp.elim
 | outgrown=>exact hp.elim
theorem gg.wk (hJ:WX J){c:Code}{st dc:St}{k:Nat}{Q:Ex->St->Nat->Prop}(hw:Wk st dc)(h:gg P T J E0 n0 N c dc k Q):gg P T J E0 n0 N c st k Q:=fun hT hc O E a w K Ko hO hd r j=>by
 haveI:=hO
 haveI:eQ (Gj E w K O.d):=nV r.gl
 obtain⟨E',r'⟩:=hw (Gj E w K O.d) E w n0 N a (j.rep r);exact h hT hc (Gj E w K O.d) E' a w K Ko inferInstance hd r' (j.next hJ r' (Below.refl _ _))
def ahJ (K:St->Nat->Prop)(Q:Ex->St->Nat->Prop)(e:Ex)(st:St)(k:Nat):Prop:=match e with
 | .iV=>K st k
 | e=>Q e st k
theorem gg.seq {x y:Code}{st:St}{k:Nat}{Q:Ex->St->Nat->Prop}(h:gg P T J E0 n0 N x st k (ahJ (fun dc k'=>gg P T J E0 n0 N y dc k' Q) Q)):gg P T J E0 n0 N (.seq x y) st k Q:=fun hT hc O E a w K Ko hO hd r j=>by
 unfold alN at hc;rw[ah] at hc;refine wp_seq (wp_mono (h hT hc.1 O E a w K Ko hO hd r j) fun e a' w' hp=>?_)
 cases e with
 | normal=>
  obtain⟨dc,k',O',E',K',I8,hq,hO',kH,r',j'⟩:=hp;exact hq hT hc.2 O' E' a' w' K' I8 hO' kH r' j'
 | exit id=>exact hp
 | ret=>exact hp
 | goto l=>exact hp.elim
 | panic ch=>exact hp.elim
 | outgrown=>exact hp.elim
theorem gg.cond {c:Operand}{x y:Code}{st:St}{k:Nat}{Q:Ex->St->Nat->Prop}{t:Bool}(hv:ev st c=.c (.t (.lit (.bool t))))(h1:t=true->gg P T J E0 n0 N x st k Q)(h2:t=false->gg P T J E0 n0 N y st k Q):gg P T J E0 n0 N (.cond c x y) st k Q:=fun hT hc O E a w K Ko hO hd r j=>by
 unfold alN at hc;rw[ah] at hc;have hr:=dy r c;rw[hv] at hr;exact wp_cond_split (eC hr) (fun e=>h1 e hT hc.1 O E a w K Ko hO hd r j) fun e=>h2 e hT hc.2 O E a w K Ko hO hd r j
theorem gg.skip {st:St}{k:Nat}{Q:Ex->St->Nat->Prop}(h:Q .iV st k):gg P T J E0 n0 N .skip st k Q:=fun _ _ O E _ _ K Ko hO hd r j=>wp_skip ⟨st,k,O,E,K,Ko,h,hO,hd,r,j⟩
theorem gg.exit {id:Nat}{st:St}{k:Nat}{Q:Ex->St->Nat->Prop}(h:Q (.exit id) st k):gg P T J E0 n0 N (.exit id) st k Q:=fun _ _ O E _ _ K Ko hO hd r j=>wp_exit ⟨st,k,O,E,K,Ko,h,hO,hd,r,j⟩
def alC (id:Nat)(Q:Ex->St->Nat->Prop)(e:Ex)(st:St)(k:Nat):Prop:=match e with
 | .exit i=>match Nat.beq i id with
  | true=>Q .iV st k
  | false=>Q (.exit i) st k
 | e=>Q e st k
theorem gg.block {id:Nat}{c:Code}{st:St}{k:Nat}{Q:Ex->St->Nat->Prop}(h:gg P T J E0 n0 N c st k (alC id Q)):gg P T J E0 n0 N (.block id c) st k Q:=fun hT hc O E a w K Ko hO hd r j=>by
 unfold alN at hc;refine wp_block (wp_mono (h hT hc O E a w K Ko hO hd r j) fun e a' w' hp=>?_)
 cases e with
 | normal=>exact hp
 | exit i=>
  obtain⟨dc,k',O',E',K',I8,hq,rest⟩:=hp;unfold alC at hq;simp only at hq;show(if i=id then cpJ J E0 n0 N Q .normal a' w' else cpJ J E0 n0 N Q (.exit i) a' w')
  by_cases e:i=id
  ·subst e;rw[show Nat.beq i i=true by simp] at hq;rw[if_pos rfl];exact⟨dc,k',O',E',K',I8,hq,rest⟩
  ·have:Nat.beq i id=false:=by
    cases hb:Nat.beq i id
    ·rfl
    ·exact absurd (ai hb) e
   rw[this] at hq;rw[if_neg e];exact⟨dc,k',O',E',K',I8,hq,rest⟩
 | ret=>exact hp
 | goto l=>exact hp.elim
 | panic ch=>exact hp.elim
 | outgrown=>exact hp.elim
theorem gg.loop (hJ:WX J){c:Code}{st:St}{k:Nat}{Q:Ex->St->Nat->Prop}{α:Type}(I:α->St)(kk:α->Nat)(ok:α->Prop)(μ:α->Nat)(x0:α)(h0:Wk st (I x0))(Iy:kk x0=k)(mI:ok x0)
  (round:∀ x,ok x->gg P T J E0 n0 N c (I x) (kk x) (fun e dc k'=>match e with
   | .iV=>∃ y,ok y/\kk y=k'/\μ y < μ x/\Wk dc (I y)
   | e=>Q e dc k')):gg P T J E0 n0 N (.loop c) st k Q:=gg.wk hJ h0 fun hT hc O E a w K Ko hO hd r j=>by
 unfold alN at hc;subst Iy;refine ph (fun n a w=>∃ x O E K Ko,ok x/\μ x=n/\eQ O/\O.d=[]/\iE O E w n0 N (I x) a/\JI J E0 n0 (kk x) E w K Ko) (n:=μ x0) ⟨x0,O,E,K,Ko,mI,rfl,hO,hd,r,j⟩ ?_;rintro n a w ⟨x,O,E,K,Ko,hx,rfl,hO,hd,r,j⟩;refine wp_mono (round x hx hT hc O E a w K Ko hO hd r j) fun e a' w' hp=>?_
 cases e with
 | normal=>
  obtain⟨dc,k',O',E',K',I8,⟨y,h1,h2,h3,h4⟩,hO',kH,r',j'⟩:=hp;subst h2
  haveI:=hO'
  haveI:eQ (Gj E' w' K' O'.d):=nV r'.gl
  obtain⟨E2,r2⟩:=h4 (Gj E' w' K' O'.d) E' w' n0 N a' (j'.rep r');exact⟨μ y,h3,y,Gj E' w' K' O'.d,E2,K',I8,h1,rfl,inferInstance,kH,r2,j'.next hJ r2 (Below.refl _ _)⟩
 | exit id=>exact hp
 | ret=>exact hp
 | goto l=>exact hp.elim
 | panic ch=>exact hp.elim
 | outgrown=>exact hp.elim
end
end
section
variable {P:Program}{T:Nat->Option Ty}{O:iy}[GlC O]
theorem lF {ro:Option Nat}{nn:Nat}(hT:dz P T){ops:Array Oper}{N n0 id m i0:Nat}{s0:St}{L:List (Oper × Dl)}(ja:kC N ops false=true)(pA:ops.toList.all w9=true)(hL:∀ j o d,L[j]? = some (o,d)->ops[i0+j]? = some o)(hp:fh P T ops id s0 L)(k:Kb s0 id)(hm:id+128*L.length<=m){Q:Exit->Act->World->Prop}{rest:List Nat} :
  ∀ (n j:Nat) (E:Env) (w:World) (a:Act),j+n=L.length->cx O E w n0 N m (bU s0 (L.take j)) a->(∀ E' w' a',cx O E' w' n0 N m (bU s0 L) a'->Below n0 w w'->wpOpsIn (wid ro) nn P ops Q rest a' w')->wpOpsIn (wid ro) nn P ops Q (List.range' (i0+j) n++rest) a w:=by
 intro n
 induction n with
 | zero=>
  intro j E w a hj r hQ;have oY:j=L.length:=by omega
  subst oY;rw[bj] at r;exact hQ E w a r (Below.refl _ _)
 | succ n ih=>
  intro j E w a hj r hQ;have aU:j < L.length:=by omega
  obtain⟨o,d,KI⟩:∃ o d,L[j]? = some (o,d):=⟨(L[j]'aU).1,(L[j]'aU).2,by rw[ag]⟩
  have ug:ops[i0+j]? = some o:=hL j o d KI;have hod:w9 o=true:=aN.1 pA o (bc (by rw[dF];exact ug));have IA:=kY ja ug;have za:=(nK hp k j (by omega)).fresh
  have step:∀ E' v w',cx O E' w' n0 N m ((bU s0 (L.take j)).app o.dst d) (a.put o.dst v)->Below n0 w w'->wpOpsIn (wid ro) nn P ops Q (List.range' (i0+j+1) n++rest) (a.put o.dst v) w':=fun E' v w' r' hb=>by
   refine ih (j+1) E' w' _ (by omega) ?_ fun E2 w2 a2 r2 dK=>hQ E2 w2 a2 r2 (hb.trans dK);rw[List.take_add_one,KI,Option.toList_some,eT];exact r'
  obtain⟨b,h1,h2,h3⟩:=hp j o d KI;rw[List.range'_succ,List.cons_append];unfold wpOpsIn;simp only[ug];rw[pZ h1 r]
  cases b with
  | true=>
   rw[if_pos rfl];exact JS (J5 hod) (tA hT r IA za (by omega) (h2 rfl) _ _ step)
  | false=>
   rw[if_neg (by simp)];refine⟨fun _ _=>trivial,?_⟩;rw[h3 rfl] at step;exact step E undef w (r.app IA (Mv.refl _ _ _ _ _) (lM ⟨fun b hb=>(by cases hb),fun p hp=>(by cases hp)⟩) ⟨[],rfl,.nil⟩ (fun _ _ h=>by cases h) fun _ _ h=>by cases h) (Below.refl _ _)
theorem xu {E0:Env}{w:World}{vs:List Value}{dh:List AV}{N:Nat}(mY:Gl w)(om:dh.all AV.plain=true)(hn:dh.length<=N)(ha:A2 (R1 E0 w) vs dh):∃ E:Env,(∀ b,E.rl b=.bH->E0.rl b=.bH)/\(∀ b,E.rl b=.bH\/E.rl b=.eH)/\iE ⟨fun b=>E0.rl b=.bH,fun b=>if b=0 then w.heap[0]? else none,fun _=>none,fun _=>none,0,[]⟩ E w w.heap.size N ⟨kx 0 dh,[],[],0⟩ { tmps:=vs.toArray++Array.replicate (N - vs.toArray.size) undef,defers:=[] }:=by
 have hlen:=ha.len
 obtain⟨E,IG,Cw,Rj⟩:∃ E:Env,(∀ b,b < w.heap.size->E0.rl b=.bH->E.rl b=.bH)/\(∀ b,E.rl b=.bH->E0.rl b=.bH)/\(∀ b,E.rl b=.bH\/E.rl b=.eH):=by
  refine⟨⟨fun b=>match E0.rl b with
   | .bH=>.bH
   | _=>.eH,fun _=>0,fun _ _=>undef⟩,fun b _ h=>by simp only[h],fun b h=>?_,fun b=>?_⟩
  ·simp only at h;split at h
   ·rename_i e;exact e
   ·cases h
  ·simp only;split
   ·exact .inl rfl
   ·exact .inr rfl
 have rt:∀ {v t},RT E0.F w v t->RT E.F w v t:=fun h=>by
  refine h.frame (ak _) (fun _ _ _=>rfl) fun b hb aU=>IG b aU hb
 have Yy:∀ {v t},jK E0.F w v t->jK E.F w v t:=fun h=>by
  refine h.frame (ak _) (fun _ _ _=>rfl) fun b hb aU=>IG b aU hb
 have rc:∀ {v c},Ce.plain c=true->RC E0 w v c->RC E w v c:=fun {v c} hp h=>by
  cases c with
  | t x=>exact rt h
  | nil=>exact h
  | _=>cases hp
 have a2:∀ {vs cs},cs.all Ce.plain=true->A2 (RC E0 w) vs cs->A2 (RC E w) vs cs:=fun {vs cs} hp h=>by
  induction h with
  | nil=>exact .nil
  | cons h1 _ ih=>
   rw[List.all_cons,ah] at hp;exact .cons (rc hp.1 h1) (ih hp.2)
 have ri:∀ {v:Value} {xs:List Tr} {o:Nat},RI E0 w v xs o->RI E w v xs o:=fun h=>by
  obtain⟨g,p,vs,rfl,h1,h2,h3,h4⟩:=h;exact⟨g,p,vs,rfl,IG g h2 h1,h2,h3,Yy h4⟩
 have r1:∀ {v a},AV.plain a=true->R1 E0 w v a->R1 E w v a:=fun {v a} hp h=>by
  cases a with
  | c x=>exact rc hp h
  | agg xs=>
   obtain⟨vs,rfl,h⟩:=h;exact⟨vs,rfl,a2 hp h⟩
  | e9=>exact h
  | dL xs o=>exact ri h
  | lL f cs=>
   obtain⟨us,rfl,h⟩:=h;exact⟨us,rfl,h.imp fun _ _ _ h=>ri h⟩
  | _=>cases hp
 refine⟨E,Cw,Rj,?_⟩
 ·skip
  have slot:∀ t,∀ a,dh[t]? = some a->AV.plain a=true:=fun t a ht=>aN.1 om a (bc ht)
  refine⟨rfl,by simp only[Array.size_append,List.size_toArray,Array.size_replicate];omega,fun t=>?_,fun _ _ h=>(by cases h),fun _ _ h=>(by cases h),⟨fun t b hb=>?_,fun t p hp=>?_,fun _ _ h=>(by cases h),fun _ _ h=>(by cases h),fun _ _ h=>(by cases h),fun _ _ _ h=>(by cases h)⟩,ak _,fun b _=>(Rj b).elim (fun h=>.inl ⟨h,Cw b h⟩) .inr,fun b x hb=>(by
   have hb:(if b=0 then w.heap[0]? else none)=some x:=hb;split at hb
   ·rename_i h0;subst h0;exact⟨hb,(Rj 0).elim (fun h=>.inl ⟨h,Cw 0 h⟩) fun h=>.inr ⟨h,fun hc=>by rw[IG 0 mY.lt hc] at h;cases h⟩⟩
   ·cases hb),fun _ _ h=>(by cases h),fun _ _ h=>(by cases h),aA _⟩
  ·show RV E w _ (match lk (kx 0 dh) t with|some v=>v|none=>.bot);rw[j6,if_pos (aA _),Nat.sub_zero]
   cases ht:dh[t]? with
   | none=>exact⟨⟩
   | some a=>
    obtain⟨u,hu,hr⟩:=ha.get t a ht;have aU:=(an.1 hu).1;rw[Array.getD_eq_getD_getElem?,Array.getElem?_append_left (by simpa using aU),List.getElem?_toArray,hu];exact(r1 (slot t a ht) hr).rv
  ·have hb:b∈(match lk (kx 0 dh) t with|some v=>v|none=>AV.bot).ed:=hb;rw[j6,if_pos (aA _),Nat.sub_zero] at hb
   cases ht:dh[t]? with
   | none=>rw[ht] at hb;cases hb
   | some a=>
    rw[ht] at hb;have hb:b∈a.ed:=hb;rw[(oP (slot t a ht)).1] at hb
    cases hb
  ·have hp:p∈(match lk (kx 0 dh) t with|some v=>v|none=>AV.bot).cP:=hp;rw[j6,if_pos (aA _),Nat.sub_zero] at hp
   cases ht:dh[t]? with
   | none=>rw[ht] at hp;cases hp
   | some a=>
    rw[ht] at hp;have hp:p∈a.cP:=hp;rw[(oP (slot t a ht)).2] at hp
    cases hp
section
variable {J:JT}{E0:Env}{n0 N:Nat}
theorem QG {st:St}{n:Nat}(h:Kb st n)(t:Option Nat)(v:AV):Kb (st.app t (.val v)) n:=by
 refine⟨fun b cs hb=>h.1 b cs ?_,fun τ R hR=>h.2 τ R ?_⟩
 ·cases t <;> exact hb
 ·cases t <;> exact hR
theorem gg.yield {id l k:Nat}{ops:Array Oper}{st:St}{Q:Ex->St->Nat->Prop}(hJ:WX J){x:AV}(hR:NI P l J n0 E0 k x)(pre post:List Oper)(f y:Operand)(s7:Array TypeId)(dst:Option Nat)(ty:TypeId)(pos:String)(N2:Array Edge)(Q4:ops.toList=pre++⟨dst,.call ⟨.value f,#[y],s7⟩,ty,pos,N2,none⟩ :: post)(pA:ops.toList.all w9=true)
  (h:kg P T ops st.nx 0 pre st fun od=>ev od f=.c (.t (.lit (.func (.yield l) #[] #[])))/\((ev od y).cP=[]/\(ev od y).ed=[]/\Fit od (ev od y) x)/\kg P T ops (st.nx+128*(pre.length+1)) 0 post (od.app dst (.val (aEo true))) fun Tw=>match Tw with
   | ⟨sl,bx,rw,_⟩=>nY (st.nx+128*ops.size) fun nx=>Q .iV ⟨sl,bx,rw,nx⟩ (k+1)):gg P T J E0 n0 N (.region id ops false) st k Q:=fun hT hc O E a w K Ko hO hd r j=>by
 have ja:kC N ops false=true:=hc;obtain⟨L,hL,hp,od,⟨hf,hy,Q2⟩,he⟩:=jA pre [] st _ (kT.refl _) (fun j o d hj=>by simp at hj) h;rw[bE] at hp he;obtain⟨L2,IF,uf,Tw,hK2,qP⟩:=jA post [] (od.app dst (.val (aEo true))) _ (kT.refl _) (fun j o d hj=>by simp at hj) Q2;simp only[bE] at uf qP;have hlp:L.length=pre.length:=by rw[<- hL,Lm]
 have aaI:L2.length=post.length:=by rw[<- IF,Lm]
 have lY:ops.size=pre.length+1+post.length:=by rw[<- bP,Q4,al,aZ];omega
 have Di:∀ i,ops[i]? = (pre++⟨dst,.call ⟨.value f,#[y],s7⟩,ty,pos,N2,none⟩ :: post)[i]?:=fun i=>by rw[<- Q4,dF]
 haveI:=hO
 haveI:eQ (Gj E w K O.d):=nV r.gl
 have k0:Kb st st.nx:=r.kb;have hlen:st.nx+128*ops.size=st.nx+128*(pre.length+1)+128*post.length:=by rw[lY];omega
 have r0:=(j.rep r).mono (m':=st.nx+128*ops.size) (Nat.le_add_right _ _)
 have IA:∀ t,dst=some t->t < N:=fun t ht=>by
  have:=kY ja (j:=pre.length) (o:=⟨dst,.call ⟨.value f,#[y],s7⟩,ty,pos,N2,none⟩) (by rw[Di,bm (ak _),Nat.sub_self];rfl);exact this t ht
 refine(wpIn_wide (n:=0)).1 (wpIn_region ?_)
 rw[List.range_eq_range',show List.range' 0 ops.size=List.range' (0+0) pre.length++(pre.length :: (List.range' (pre.length+1+0) post.length++[])) by
  rw[aW,dm,dm,lY,<- List.range'_succ,show pre.length+1+post.length=pre.length+(post.length+1) by omega];have:=List.range'_append_1 (s:=0) (m:=pre.length) (n:=post.length+1);rw[bw] at this;exact this.symm]
 refine lF (ro:=none) hT ja pA (fun i o d hi=>?_) hp k0 (m:=st.nx+128*ops.size) (by rw[hlp];omega) pre.length 0 E w a (by omega) (by simpa [bU] using r0) fun E1 w1 a1 r1 pS=>?_
 ·have:pre[i]? = some o:=by rw[<- hL,bI,hi];rfl
  rw[Di,bw,bz (an.1 this).1,this]
 have r1:=he.rep r1;have j1:=j.next hJ r1 pS
 have mn:=dy r1 f;rw[hf] at mn;have hfv:a1.eval f=.func (.yield l) #[] #[]:=eC mn;obtain⟨hy1,hy2,hy3⟩:=hy;have hx:R1 E1 w1 (a1.eval y) x:=IL r1 (fun _ h=>h) (.inl ⟨hy1,hy2⟩) hy3 (dy r1 y)
 obtain⟨fn,tmps,assign,body,lI,aaA⟩:=hR K Ko w1 E1 (a1.eval y) j1.j hx j1.e0 fun b hb he=>by
  rw[j1.ko b hb] at he
  cases he
 unfold wpOpsIn;have hoy:ops[pre.length]? = some ⟨dst,.call ⟨.value f,#[y],s7⟩,ty,pos,N2,none⟩:=by rw[Di,bm (ak _),Nat.sub_self];rfl
 simp only[hoy];rw[if_pos (by rfl)];refine⟨fun _ _=>trivial,?_⟩
 have aiT:(Oper.semAt (wid none).round a1.eval ⟨dst,.call ⟨.value f,#[y],s7⟩,ty,pos,N2,none⟩).run P w1=.ok (.round l fn tmps assign body) w1:=by
  rw[show(wid none).round=none from rfl,Oper.semAt_none,<- lI];unfold execOp;simp only[resolve,hfv,Deferred.ofValue,Sem.run_bind,Sem.run_pure,Result.andThen_ok,invoke];rw[show(#[]++Array.map a1.eval #[y])=#[a1.eval y] from by simp]
 rw[aiT];refine⟨fun h=>(by cases h),RoundIn.mono aaA fun e w2 aaE=>?_⟩;obtain⟨rfl,MT,K',I8,hj',fu,Fc,arC⟩:=aaE;show wpOpsIn (wid none) 0 P ops (cpJ J E0 n0 N Q) (List.range' (pre.length+1+0) post.length++[]) (a1.put dst (.bool true)) w2;have r1b:=r1.re (fun _=>none) 0 (aA _) fun _ _ h=>(by cases h)
 have r2:=r1b.fr (E':=⟨fun b=>if b < w1.heap.size then E1.rl b else .eH,E1.bk,E1.vl⟩) (w':=w2) (fun _=>rfl) (fun _=>rfl) (fun _=>rfl) fu.size (fun b hb hn=>fu.block b hb (by
  by_cases hkb:K b
  ·exact .inr ((j1.ki b hkb).resolve_right hn)
  ·exact .inl hkb)) (fun b hb _=>if_pos hb) (fun b hb hn=>by
   show(if b < w1.heap.size then E1.rl b else .eH)=.eH;split
   ·exact hn
   ·rfl) rfl rfl
 have r3:=r2.app IA (Mv.refl _ _ _ _ _) (d:=.val (aEo true)) (lM (J6 _ (.bool true))) (v:=.bool true) (RT.lit (v:=.bool true) rfl) (fun _ _ h=>by cases h) fun _ _ h=>by cases h
 have j2:JI J E0 n0 (k+1) ⟨fun b=>if b < w1.heap.size then E1.rl b else .eH,E1.bk,E1.vl⟩ w2 K' I8:=by
  refine⟨hj',fun b hb=>?_,fun b hb=>?_,fun b hb qP=>?_⟩
  ·show(if b < w1.heap.size then E1.rl b else .eH)=.eH;split
   ·rename_i aU;rcases arC b hb with h1|h1
    ·exact j1.ko b h1
    ·omega
   ·rfl
  ·show(if b < w1.heap.size then E1.rl b else .eH)=.bH\/(if b < w1.heap.size then E1.rl b else .eH)=.eH;split
   ·rename_i aU;rcases Fc b hb with h1|h1|h1
    ·exact j1.ki b h1
    ·exact .inl h1
    ·omega
   ·exact .inr rfl
  ·have qP:(if b < w1.heap.size then E1.rl b else .eH)=.bH:=qP;split at qP
   ·exact j1.e0 b hb qP
   ·cases qP
 have kb1:Kb (od.app dst (.val (aEo true))) (st.nx+128*(pre.length+1)):=by
  refine QG ?_ _ _;have:=nK hp k0 L.length (ak _);rw[bj,hlp] at this;exact⟨fun b cs hb=>by have:=this.1 b cs (by rw[<- he.bx];exact hb);omega,fun τ R hR=>by have:=this.2 τ R (by rw[<- he.rw];exact hR);omega⟩
 have r4:cx (Gj ⟨fun b=>if b < w1.heap.size then E1.rl b else .eH,E1.bk,E1.vl⟩ w2 K' O.d) ⟨fun b=>if b < w1.heap.size then E1.rl b else .eH,E1.bk,E1.vl⟩ w2 n0 N (st.nx+128*ops.size) (od.app dst (.val (aEo true))) (a1.put dst (.bool true)):=j2.agD (O:=⟨fun b=>E1.rl b=.bH,fun _=>none,fun _=>none,fun _=>none,0,O.d⟩) (by
  show(if 0 < w1.heap.size then E1.rl 0 else .eH)=.bH\/(if 0 < w1.heap.size then E1.rl 0 else .eH)=.eH;rw[if_pos r1.gl.lt];exact r1.W9) r3
 haveI:eQ (Gj ⟨fun b=>if b < w1.heap.size then E1.rl b else .eH,E1.bk,E1.vl⟩ w2 K' O.d):=nV MT
 refine lF (ro:=none) hT ja pA (fun i o d hi=>?_) (L:=L2) uf kb1 (m:=st.nx+128*ops.size) (by rw[aaI,hlen];omega) post.length 0 _ w2 _ (by omega) (by rw[List.take_zero];exact r4) fun E3 w3 a3 r5 IE=>?_
 ·have:post[i]? = some o:=by rw[<- IF,bI,hi];rfl
  rw[Di,bm (by omega),show pre.length+1+i - pre.length=i+1 by omega,List.getElem?_cons_succ,this]
 show PJ J E0 n0 N (Q .iV) a3 w3;obtain⟨sl,bx,dU,nx⟩:=Tw;simp only[la] at hK2;have he3:kT (bU (od.app dst (.val (aEo true))) L2) ⟨sl,bx,dU,st.nx+128*ops.size⟩:=⟨qP.sl,qP.bx,qP.rw⟩
 exact⟨_,k+1,Gj ⟨fun b=>if b < w1.heap.size then E1.rl b else .eH,E1.bk,E1.vl⟩ w2 K' O.d,E3,K',I8,hK2,nV MT,hd,he3.rep r5,j2.next hJ (he3.rep r5) IE⟩
end
theorem afN {g:FuncId}{fn:Func}{c:Code}{caps xs:List AV}(hf:P.funcs[g]? = some fn)(hb:fn.body=some c)(he:N3 P g)(hT:dz P T)(hc:alN fn.ntmps c=true)(hn:Nat.ble (caps.length+1) fn.ntmps=true)(om:caps.all AV.plain=true)
  (h:∀ l J n0 E0,WX J->(∀ k (hk:k < xs.length),NI P l J n0 E0 k xs[k])->gg P T J E0 n0 fn.ntmps c ⟨kx 0 (.c (.t (.lit (.func (.yield l) #[] #[]))) :: caps),[],[],0⟩ 0 fun e st k=>zi T fn (.gi []) [] e st/\k=xs.length):Sq P g caps xs:=by
 refine⟨he,fun w us E0 mY ha l J hJ hR K Ko hj hko=>?_⟩;have uj:A2 (R1 E0 w) (.func (.yield l) #[] #[] :: us) (.c (.t (.lit (.func (.yield l) #[] #[]))) :: caps):=.cons (RT.lit rfl) ha;obtain⟨E,Cw,Rj,jO⟩:=xu (N:=fn.ntmps) mY (by rw[List.all_cons,om];rfl) (by rw[aZ];exact Nb hn) uj;refine calls_of_wp hf hb ?_;have xB:(#[Value.func (.yield l) #[] #[]]++us.toArray)=(Value.func (.yield l) #[] #[] :: us).toArray:=by simp
 rw[xB];refine wp_mono (h l J w.heap.size E0 hJ hR hT hc ⟨fun b=>E0.rl b=.bH,fun b=>if b=0 then w.heap[0]? else none,fun _=>none,fun _=>none,0,[]⟩ E _ w K Ko (rL (fun _=>rfl) (fun _=>rfl) mY rfl) rfl jO ⟨hj,fun b hb=>(Rj b).resolve_left fun hc=>hko b hb (Cw b hc),fun b _=>Rj b,fun b _ hc=>Cw b hc⟩) fun e a' w' hp=>?_
 have fin:∀ Q:St->Nat->Prop,(∀ st k,Q st k->(∃ m,Fin T fn st m (.gi []) [])/\k=xs.length)->PJ J E0 w.heap.size fn.ntmps Q a' w'->a'.defers=[]/\∃ v,(results fn a'.tmps).run P w'=.ok v w'/\((∃ v',Ending.returned v=.returned v')/\∃ K Ko,J xs.length K Ko w'):=fun Q hQ ⟨st,k,O,E',K',I8,hq,hO,hd,r,j⟩=>by
  obtain⟨⟨m,qz⟩,rfl⟩:=hQ st k hq;obtain⟨u,hu,_⟩:=CJ hT r qz;exact⟨r.yn.trans hd,u,hu,⟨u,rfl⟩,K',I8,j.j⟩
 cases e with
 | normal=>exact fin _ (fun _ _ h=>h) hp
 | ret=>exact fin _ (fun _ _ h=>h) hp
 | exit id=>
  obtain⟨st,k,O,E',K',I8,hq,_⟩:=hp;exact hq.1.elim
 | goto l=>exact hp.elim
 | panic ch=>exact hp.elim
 | outgrown=>exact hp.elim
end
section
variable {P:Program}{T:Nat->Option Ty}{O:iy}
theorem Yb (hv:∀ j,O.v j=none){st:St}(m:List (Nat × Nat)){ox:List (Nat × AV)}{fG:List (Nat × List Ce)}{dU:List (Nat × Row)}{w8:Nat}(hB:∀ j b,O.b j=some b->∃ cs,lk fG j=some cs)(hm:SU m=true)(hn:below w8 fG dU=true)(hs:SlM st m dU fG ox)(hb:BxM st m dU fG)(hr:X3 st m dU):∀ (E:Env) (w:World) (n0 N:Nat) (a:Act),iE O E w n0 N st a->∃ E',iE O E' w n0 N ⟨ox,fG,dU,w8⟩ a:=by
 intro E w n0 N a r
 have get:∀ t,(St.get ⟨ox,fG,dU,w8⟩ t)=.bot\/Jb st m dU fG (st.get t) (St.get ⟨ox,fG,dU,w8⟩ t):=fun t=>by
  show(match lk ox t with|some v=>v|none=>.bot)=.bot\/Jb st m dU fG (st.get t) (match lk ox t with|some v=>v|none=>.bot)
  cases hq:lk ox t with
  | none=>exact .inl rfl
  | some v=>exact .inr (BA hs t v (eD hq))
 have vF:=hn;unfold below at vF;rw[ah] at vF;refine⟨E.ma st m,⟨r.yn,r.sz,fun t=>?_,fun i iH hi=>?_,fun τ' R' hR=>tE r hm (nG hr τ' R' (eD hR)),⟨fun t b hb=>?_,fun t p hp=>?_,fun b cs en p hp=>?_,fun b cs en=>?_,fun τ R hR=>?_,fun τ R d hR hd l hl=>(by rw[kL (wq hr τ R (eD hR)) hd] at hl;cases hl)⟩,r.hi,fun b hb=>?_,fun b x hx=>?_,fun j V hj=>(by rw[hv] at hj;cases hj),fun j b hj=>⟨(r.MA j b hj).1,hB j b hj⟩,r.sn⟩⟩
 ·rcases get t with h|h
  ·rw[h];exact⟨⟩
  ·exact(jJ r h (r.slt t)).rv
 ·obtain⟨cs,h1,h2⟩:=pJ hb i iH (eD hi);obtain⟨vs,t,g1,g2,g3,g4⟩:=r.box i cs h1;refine⟨vs,t,g1,g2,?_,pF r h2 g4⟩;unfold Env.ma;simp only[g3]
 ·rcases get t with h|h
  ·rw[h] at hb;cases hb
  ·exact(jd h).1 b hb
 ·rcases get t with h|h
  ·rw[h] at hp;cases hp
  ·obtain⟨R,h1,h2⟩:=(jd h).2 p hp;exact⟨R,h1,Nat.le_of_eq h2.symm⟩
 ·obtain⟨Gz,h1,h2⟩:=pJ hb b cs (eD en);obtain⟨R,h3,h4⟩:=pE h2 p hp;exact⟨R,h3,Nat.le_of_eq h4.symm⟩
 ·exact Nb (aN.1 vF.1 (b,cs) (eD en))
 ·exact Nb (aN.1 vF.2 (τ,R) (eD hR))
 ·rcases r.nM b hb with⟨h1,h2⟩|h1
  ·exact .inl ⟨iA b h1,h2⟩
  ·exact .inr (nQ b h1)
 ·obtain⟨h1,h2⟩:=r.gh b x hx;exact⟨h1,h2.elim (fun h=>.inl ⟨iA b h.1,h.2⟩) fun h=>.inr ⟨nQ b h.1,h.2⟩⟩
section
variable {E:Env}{w:World}{n0 N m:Nat}{st:St}{a:Act}
theorem cx.re2 (h:cx O E w n0 N m st a)(G:Nat->Option Obj)(B:Nat->Option Nat)(n:Nat)(hn:n<=w.heap.size)(hG:∀ b x,G b=some x->w.heap[b]? = some x/\(E.rl b=.bH\/E.rl b=.eH))(hB:∀ j b,B j=some b->E.bk j=b/\∃ cs,lk st.bx j=some cs):cx ⟨fun b=>E.rl b=.bH,G,fun _=>none,B,n,O.d⟩ E w n0 N m st a:=
 ⟨h.yn,h.sz,h.slt,h.box,h.row,h.sc,h.hi,fun b hb=>(h.nM b hb).elim (fun h=>.inl ⟨h.1,h.1⟩) .inr,fun b x hx=>(by
  obtain⟨h1,h2⟩:=hG b x hx;refine⟨h1,h2.elim (fun h=>.inl ⟨h,h⟩) fun h=>.inr ⟨h,fun hc=>?_⟩⟩;have hc:E.rl b=.bH:=hc;rw[h] at hc
  cases hc),fun _ _ h=>(by cases h),hB,hn⟩
theorem cx.fr2 (h:cx O E w n0 N m st a){E':Env}{w':World}(hg:∀ b x,O.g b=some x->w'.heap[b]? = w.heap[b]?/\E'.rl b=E.rl b)(hv:∀ b,O.v b=none)(hs:w.heap.size<=w'.heap.size)(hk:∀ b,b < w.heap.size->E.rl b≠.eH->w'.heap[b]? = w.heap[b]?)(hE:∀ b,b < w.heap.size->E.rl b≠.eH->E'.rl b=E.rl b)(ho:∀ b,b < n0->E.rl b=.eH->E'.rl b=.eH)(ID:E'.bk=E.bk)(Ip:E'.vl=E.vl):cx O E' w' n0 N m st a:=by
 have hc:∀ b,E.rl b=.bH->b < w.heap.size->w'.heap[b]? = w.heap[b]?/\E'.rl b=.bH:=fun b h1 h2=>⟨hk b h2 (by rw[h1];intro h;cases h),by rw[hE b h2 (by rw[h1];intro h;cases h),h1]⟩
 refine⟨h.yn,h.sz,fun t=>(h.slt t).fr hs hc (fun p _=>by rw[Ip]) (fun b _=>by rw[ID]),fun i cs hi=>(h.box i cs hi).fr hs hc (fun p _=>by rw[Ip]) (by rw[ID]) fun h1 h2=>⟨hk _ h1 (by rw[h2];intro h;cases h),by rw[hE _ h1 (by rw[h2];intro h;cases h),h2]⟩,
  fun τ R hR=>(h.row τ R hR).fr hs hc (by rw[Ip]) (fun d _ l _=>by rw[Ip]) (fun g _ h1 h2=>⟨hk _ h1 (by rw[h2];intro h;cases h),by rw[hE _ h1 (by rw[h2];intro h;cases h),h2]⟩) fun g j o h1 h2=>⟨hk _ h1 (by rw[h2];intro h;cases h),by rw[hE _ h1 (by rw[h2];intro h;cases h),h2]⟩,
  h.sc,aX h.hi hs,fun b Ff=>?_,fun b x hx=>?_,fun j V hj=>(by rw[hv j] at hj;cases hj),fun j b hj=>(by rw[ID];exact h.MA j b hj),aX h.sn hs⟩
 ·rcases h.nM b Ff with⟨h1,h2⟩|h1
  ·exact .inl ⟨by rw[hE b (cA Ff h.hi) (by rw[h1];intro h;cases h),h1],h2⟩
  ·exact .inr (ho b Ff h1)
 ·obtain⟨g1,g2⟩:=h.gh b x hx;obtain⟨e1,e2⟩:=hg b x hx;exact⟨e1.trans g1,by rw[e2];exact g2⟩
end
end
section
variable {P:Program}{T:Nat->Option Ty}{O:iy}
def nH (fn:FuncId)(tmps:Array Value)(p:Tmp)(assign body:Code)(D:Nat)(s:LoopState)(pe:Option Code):Loop:={ state:=s,pending:=pe,fn,tmps,params:=#[p],assign,body,defers:=D }
def Yr (pins:List Nat)(sl:List (Nat × AV)):Bool:=sl.all fun p=>p.2.cP.isEmpty&&p.2.ed.all fun b=>pM b pins
theorem Ke {n:Nat}:∀ {l:List Nat},pM n l=true->n∈l
 | [],h=>by cases h
 | m :: r,h=>by
  unfold pM at h
  cases hq:Nat.beq m n with
  | true=>exact List.mem_cons.2 (.inl (ai hq).symm)
  | false=>
   rw[hq] at h;exact aM _ (Ke h)
theorem wh {pins:List Nat}{sl:List (Nat × AV)}(h:Yr pins sl=true){bx:List (Nat × List Ce)}{rw:List (Nat × Row)}{nx:Nat}(t:Nat):(St.get ⟨sl,bx,rw,nx⟩ t).cP=[]/\∀ b∈(St.get ⟨sl,bx,rw,nx⟩ t).ed,b∈pins:=by
 show(match lk sl t with|some v=>v|none=>AV.bot).cP=[]/\∀ b∈(match lk sl t with|some v=>v|none=>AV.bot).ed,b∈pins
 cases hq:lk sl t with
 | none=>exact⟨rfl,fun _ h=>by cases h⟩
 | some v=>
  have:=aN.1 h (t,v) (eD hq);rw[ah] at this;exact⟨List.isEmpty_iff.1 this.1,fun b hb=>Ke (aN.1 this.2 b hb)⟩
noncomputable def Op (E:Env)(W:World)(B:Nat->Option Nat):iy:=⟨fun b=>E.rl b=.bH,fun b=>if E.rl b=.bH\/E.rl b=.eH then W.heap[b]? else none,fun _=>none,B,W.heap.size,[]⟩
theorem BV {E E':Env}{W w':World}{B:Nat->Option Nat}{n0 N m:Nat}{st:St}{a:Act}(r:cx (Op E W B) E' w' n0 N m st a)(b:Nat)(hb:b < W.heap.size)(hr:E.rl b=.bH\/E.rl b=.eH):w'.heap[b]? = W.heap[b]?/\E'.rl b=E.rl b:=by
 obtain⟨x,hx⟩:∃ x,W.heap[b]? = some x:=⟨_,Array.getElem?_eq_getElem hb⟩
 obtain⟨h1,h2⟩:=r.gh b x (by
  show(if E.rl b=.bH\/E.rl b=.eH then W.heap[b]? else none)=_;rw[if_pos hr];exact hx)
 refine⟨h1.trans hx.symm,?_⟩;rcases h2 with⟨h3,h4⟩|⟨h3,h4⟩
 ·have h4:E.rl b=.bH:=h4;rw[h3,h4]
 ·have h4:¬ E.rl b=.bH:=h4;rcases hr with hr|hr
  ·exact absurd hr h4
  ·rw[h3,hr]
theorem Ep {E:Env}{W:World}{n0 N m:Nat}{st:St}{a:Act}(r:cx O E W n0 N m st a)(B:Nat->Option Nat)(hB:∀ j b,B j=some b->E.bk j=b/\∃ cs,lk st.bx j=some cs):cx (Op E W B) E W n0 N m st { tmps:=a.tmps,defers:=[] }:=by
 have h:=r.re2 (fun b=>if E.rl b=.bH\/E.rl b=.eH then W.heap[b]? else none) B W.heap.size (ak _) (fun b x hx=>by
  split at hx
  ·rename_i hq;exact⟨hx,hq⟩
  ·cases hx) hB
 exact⟨rfl,h.sz,h.slt,h.box,h.row,h.sc,h.hi,h.nM,h.gh,fun _ _ h=>(by cases h),h.MA,h.sn⟩
theorem Xe {E:Env}{W:World}{B:Nat->Option Nat}(h:Gl W)(h0:E.rl 0=.bH\/E.rl 0=.eH):GlC (Op E W B):=Cy h (if_pos h0)
def WkP (pins:List Nat)(st dc:St):Prop:=∀ O:iy,(∀ j,O.v j=none)->(∀ j b,O.b j=some b->j∈pins)->∀ (E:Env) (w:World) (n0 N:Nat) (a:Act),iE O E w n0 N st a->∃ E',iE O E' w n0 N dc a
theorem N8 {pins:List Nat}{st:St}(m:List (Nat × Nat)){ox:List (Nat × AV)}{fG:List (Nat × List Ce)}{dU:List (Nat × Row)}{w8:Nat}(hB:∀ j∈pins,∃ cs,lk fG j=some cs)(hm:SU m=true)(hn:below w8 fG dU=true)(hs:SlM st m dU fG ox)(hb:BxM st m dU fG)(hr:X3 st m dU):WkP pins st ⟨ox,fG,dU,w8⟩:=fun _O hv hO E w n0 N a r=>
 Yb hv m (fun j b hj=>hB j (hO j b hj)) hm hn hs hb hr E w n0 N a r
def alP (P:Program)(T:Nat->Option Ty)(N:Nat)(w0:World)(pins:List Nat)(l:Nat)(assign body:Code)(st dc:St):Prop:=
 ∀ O:iy,GlC O->(∀ j,O.v j=none)->(∀ j b,O.b j=some b->j∈pins)->NH P T N w0 O (some l) assign st fun e s1=>e=.iV/\∀ O':iy,GlC O'->(∀ j,O'.v j=none)->(∀ j b,O'.b j=some b->j∈pins)->NH P T N w0 O' (some l) body s1 fun e s2=>e=.iV/\WkP pins s2 dc
open Classical in
structure JC (O:iy)(n0 N:Nat)(a:Act)(sl:List (Nat × AV))(bx:Nat->List (Nat × List Ce))(rw:Nat->List (Nat × Row))(nx:Nat)(E0:Env)(n1:Nat)(wb:World)(rc:Loop)(D l k:Nat)(E:Env)(W:World):Prop where
 rep:cx O E W n0 N nx ⟨sl,bx k,rw k,nx⟩ a
 hi:∀ b,W.heap.size<=b->E.rl b=.eH
 bH:∀ b,b < n1->E0.rl b=.bH->E.rl b=.bH
 below:Below n0 wb W
 hl:W.heap[l]? = some (.loop rc)
 hD:W.heap[D]? = some (.deferred (some []))
 rl:E.rl l=.eH
 rD:E.rl D=.eH
 sz:n1<=W.heap.size
def KC (O:iy)(n0 D l:Nat)(E:Env)(b:Nat):Prop:=b < n0\/E.rl b≠.eH\/O.g b≠none\/b=l\/b=D
def OwC (E:Env)(b:Nat):Prop:=E.rl b≠.eH/\E.rl b≠.bH
section
variable {n0 N:Nat}{a:Act}{sl:List (Nat × AV)}{bx:Nat->List (Nat × List Ce)}{rw:Nat->List (Nat × Row)}{nx:Nat}{E0:Env}{n1:Nat}{wb:World}{rc:Loop}{D l:Nat}
theorem JC.lt {k:Nat}{E:Env}{W:World}(j:JC O n0 N a sl bx rw nx E0 n1 wb rc D l k E W){b:Nat}(h:KC O n0 D l E b):b < W.heap.size:=by
 rcases h with h|h|h|h|h
 ·exact cA h j.rep.hi
 ·by_cases hb:b < W.heap.size
  ·exact hb
  ·exact absurd (j.hi b (by omega)) h
 ·cases hx:O.g b with
  | none=>exact absurd hx h
  | some x=>exact(Array.getElem?_eq_some_iff.1 (j.rep.gh b x hx).1).1
 ·subst h;exact(Array.getElem?_eq_some_iff.1 j.hl).1
 ·subst h;exact(Array.getElem?_eq_some_iff.1 j.hD).1
theorem JC.stay [eQ O]{k:Nat}{E:Env}{W W':World}(j:JC O n0 N a sl bx rw nx E0 n1 wb rc D l k E W)(h:SF (KC O n0 D l E) W W'):JC O n0 N a sl bx rw nx E0 n1 wb rc D l k E W':=by
 have hb:∀ b,KC O n0 D l E b->W'.heap[b]? = W.heap[b]?:=fun b hb=>h.block b (j.lt hb) hb
 refine⟨j.rep.fr2 (fun b x hx=>⟨hb b (.inr (.inr (.inl (by rw[hx];intro h;cases h)))),rfl⟩) eQ.v h.size (fun b _ hn=>hb b (.inr (.inl hn))) (fun _ _ _=>rfl) (fun _ _ h=>h) rfl rfl,fun b hs=>j.hi b (aX h.size hs),j.bH,j.below.trans ⟨h.os,h.tape,h.output,h.size,fun b hn=>hb b (.inl hn)⟩,
  (hb l (.inr (.inr (.inr (.inl rfl))))).trans j.hl,(hb D (.inr (.inr (.inr (.inr rfl))))).trans j.hD,j.rl,j.rD,aX j.sz h.size⟩
def JJ (O:iy)(n0 N:Nat)(a:Act)(sl:List (Nat × AV))(bx:Nat->List (Nat × List Ce))(rw:Nat->List (Nat × Row))(nx:Nat)(E0:Env)(n1:Nat)(wb:World)(rc:Loop)(D l:Nat):JT:=fun k K Ko W=>∃ E,JC O n0 N a sl bx rw nx E0 n1 wb rc D l k E W/\(∀ b,K b↔KC O n0 D l E b)/\∀ b,Ko b↔OwC E b
theorem ahY [eQ O]:WX (JJ O n0 N a sl bx rw nx E0 n1 wb rc D l):=by
 refine⟨fun k K Ko W W' ⟨E,j,h1,h2⟩ hs=>⟨E,j.stay ⟨hs.os,hs.tape,hs.output,hs.size,fun b hb hk=>hs.block b hb ((h1 b).2 hk)⟩,h1,h2⟩,fun k K Ko W ⟨E,j,h1,h2⟩ b hb=>j.lt ((h1 b).1 hb),fun k K Ko W ⟨E,j,h1,h2⟩ b hb=>(h1 b).2 (.inr (.inl ((h2 b).1 hb).1))⟩
theorem cx.putObj {E:Env}{w:World}{m:Nat}{st:St}(h:cx O E w n0 N m st a)(hv:∀ j,O.v j=none){b:Nat}(x:Obj)(hb:E.rl b=.eH)(hg:O.g b=none):cx O E (w.putObj b x) n0 N m st a:=
 h.fr2 (fun c y hc=>⟨World.putObj_heap_other (fun e=>by subst e;rw[hg] at hc;cases hc),rfl⟩) hv (by rw[World.putObj_size];exact ak _) (fun c _ hn=>World.putObj_heap_other fun e=>by subst e;exact hn hb) (fun _ _ _=>rfl) (fun _ _ h=>h) rfl rfl
theorem cx.akU {E:Env}{w:World}{m:Nat}{st:St}(h:cx O E w n0 N m st a)(hv:∀ j,O.v j=none):cx O ⟨fun b=>if b < w.heap.size then E.rl b else .eH,E.bk,E.vl⟩ w n0 N m st a:=
 h.fr2 (fun c y hc=>⟨rfl,if_pos ((Array.getElem?_eq_some_iff.1 (h.gh c y hc).1).1)⟩) hv (ak _) (fun _ _ _=>rfl) (fun c hc _=>if_pos hc) (fun c _ hn=>by
  show(if c < w.heap.size then E.rl c else .eH)=.eH;split
  ·exact hn
  ·rfl) rfl rfl
end
end
section
variable {P:Program}{T:Nat->Option Ty}{O:iy}
theorem nh {n0:Nat}{w0 w:World}(h:Below n0 w0 w){l:Nat}(hl:n0<=l)(o:Obj):Below n0 w0 (w.putObj l o):=
 h.trans ⟨rfl,rfl,rfl,by rw[World.putObj_size];exact ak _,fun b hb=>World.putObj_heap_other (by omega)⟩
theorem QK [eQ O](hT:dz P T){w0:World}{N:Nat}{a:Act}{sl:List (Nat × AV)}{bx:Nat->List (Nat × List Ce)}{rw:Nat->List (Nat × Row)}{nx:Nat}{E0:Env}{n1:Nat}{fn:FuncId}{p:Nat}{assign body:Code}{D l:Nat}{pins:List Nat}{xs:List AV}
  (hOg:∀ b,O.g b≠none->b < n1/\b≠l) (Z8:Yr pins sl=true) (VS:∀ k,∀ j∈pins,∃ cs,lk (bx k) j=some cs) (KF:alN N assign=true) (nv:alN N body=true) (hp:p < N) (hl:w0.heap.size<=l) (qN:l < n1) (hDn:D < n1) (hlD:D≠l)
  (hx:∀ x∈xs,x.plain=true) (hr:∀ k (hk:k < xs.length),alP P T N w0 pins l assign body ⟨(p,xs[k]) :: sl,bx k,rw k,nx⟩ ⟨[],bx (k+1),rw (k+1),nx⟩) :
  ∀ k (hk:k < xs.length),NI P l (JJ O w0.heap.size N a sl bx rw nx E0 n1 w0 (nH fn a.tmps p assign body D .ready none) D l) n1 E0 k xs[k]:=by
 intro k hk K Ko W1 E1 v ⟨E,j,hK,hKo⟩ SV Ao iB;have aAf:w0.heap.size<=n1:=by omega
 have hxp:=oP (hx _ (aH hk));obtain⟨E2,Cw⟩:∃ E2:Env,E2=⟨fun b=>if E.rl b=.eH/\E1.rl b=.bH then .bH else E.rl b,E.bk,E.vl⟩:=⟨_,rfl⟩
 have key:∀ b,b < n1->E1.rl b=.bH->E.rl b=.bH:=fun b hb hc=>j.bH b hb (Ao b hb hc);have e2a:∀ b,E.rl b≠.eH->E2.rl b=E.rl b:=fun b hb=>by rw[Cw];exact if_neg fun h=>hb h.1
 have e2b:∀ b,E1.rl b≠.bH->E2.rl b=E.rl b:=fun b hb=>by rw[Cw];exact if_neg fun h=>hb h.2
 have e2c:∀ b,b < n1->E2.rl b=E.rl b:=fun b hb=>by
  by_cases h:E1.rl b=.bH
  ·exact e2a b (by rw[key b hb h];intro h;cases h)
  ·exact e2b b h
 have e2d:∀ b,E1.rl b=.bH->E2.rl b=.bH:=fun b hc=>by
  by_cases h1:E.rl b=.eH
  ·rw[Cw];exact if_pos ⟨h1,hc⟩
  ·rw[e2a b h1]
   by_cases h2:E.rl b=.bH
   ·exact h2
   ·exact absurd hc (iB b ((hKo b).2 ⟨h1,h2⟩))
 have e2k:E2.bk=E.bk:=by rw[Cw]
 have e2v:E2.vl=E.vl:=by rw[Cw]
 have r2:cx O E2 W1 w0.heap.size N nx ⟨sl,bx k,rw k,nx⟩ a:=j.rep.fr2 (fun b x hb=>⟨rfl,e2c b (hOg b (by rw[hb];intro h;cases h)).1⟩) eQ.v (ak _) (fun _ _ _=>rfl) (fun b _ hn=>e2a b hn) (fun b hb hn=>by rw[e2c b (by omega)];exact hn) e2k e2v
 have mn:R1 E2 W1 v xs[k]:=R1.fr (E:=E1) (ak _) (fun b hb _=>⟨rfl,e2d b hb⟩) (fun q hq=>by
  have:q∈xs[k].cP:=by
   cases h:xs[k] with
   | gi _=>have h3:=hx _ (aH hk);rw[h] at h3;cases h3
   | _=>rw[h] at hq;exact hq
  rw[hxp.2] at this
  cases this) (fun q hq=>by
  have:q∈xs[k].ed:=by
   cases h:xs[k] with
   | gi _=>have h3:=hx _ (aH hk);rw[h] at h3;cases h3
   | _=>rw[h] at hq;exact hq
  rw[hxp.1] at this
  cases this) SV
 obtain⟨B,hB⟩:∃ B:Nat->Option Nat,B=fun i=>if i∈pins then some (E.bk i) else none:=⟨_,rfl⟩
 have hBp:∀ i b,B i=some b->i∈pins/\b=E.bk i:=fun i b hi=>by
  rw[hB] at hi;simp only at hi;split at hi
  ·rename_i h;exact⟨h,(aY hi).symm⟩
  ·cases hi
 have hBi:∀ i∈pins,B i=some (E.bk i):=fun i hi=>by rw[hB];exact if_pos hi
 have r3:=Ep r2 B fun i b hi=>⟨by rw[e2k,(hBp i b hi).2],VS k i (hBp i b hi).1⟩
 have r4:=r3.app (t:=some p) (fun q hq=>by cases hq;exact hp) (Mv.refl _ _ _ _ _) (lM (m:=nx) (v:=xs[k]) ⟨fun b hb=>(by rw[hxp.1] at hb;cases hb),fun q hq=>(by rw[hxp.2] at hq;cases hq)⟩) mn.rv (fun _ _ h=>by cases h) (fun _ _ h=>by cases h);have aU:∀ b,b < n1->b < W1.heap.size:=fun b hb=>cA hb j.sz;refine⟨fn,a.tmps.setIfInBounds p v,assign,body,?_,roundIn_of_wpIn trivial ?_⟩
 ·have:=run_yield (P:=P) (args:=#[v]) j.hl rfl;rw[this];simp[nH]
 have A:=hr k hk (Op E2 W1 B) (Xe r2.gl r2.W9) (fun _=>rfl) (fun i b hi=>(hBp i b hi).1) hT KF 0 E2 _ W1 r4 j.below;refine wpIn_mono A fun e a2 w2 hp=>?_
 cases e with
 | exit id=>
  obtain⟨_,_,⟨h,_⟩,_⟩:=hp
  cases h
 | ret=>
  obtain⟨_,_,⟨h,_⟩,_⟩:=hp
  cases h
 | goto t=>exact hp.elim
 | panic ch=>exact hp.elim
 | outgrown=>exact hp.elim
 | normal=>
  obtain⟨s1,E3,⟨_,hb⟩,r5,S4⟩:=hp;have Rk:E2.rl l=.eH:=by rw[e2c l qN,j.rl]
  have hk5:=fun b hb hr=>BV r5 b hb hr;have qO:w2.heap[l]? = some (.loop (nH fn a.tmps p assign body D .ready none)):=(hk5 l (aU l qN) (.inr Rk)).1.trans j.hl;have akE:E3.rl l=.eH:=(hk5 l (aU l qN) (.inr Rk)).2.trans Rk;refine⟨_,run_beginRound qO rfl,?_⟩;have s5:W1.heap.size<=w2.heap.size:=r5.sn;have r5n:=r5.re2 (fun _=>none) B 0 (aA _) (fun _ _ h=>by cases h) fun i b hi=>r5.MA i b hi;have r6:=r5n.putObj (fun _=>rfl) (.loop { nH fn a.tmps p assign body D .ready none with state:=.busy }) akE rfl;have r7:=Ep r6 B fun i b hi=>r6.MA i b hi;have aqK:E3.rl 0=.bH\/E3.rl 0=.eH:=by rw[(hk5 0 r2.gl.lt r2.W9).2];exact r2.W9
  have arR:Gl (w2.putObj l (.loop { nH fn a.tmps p assign body D .ready none with state:=.busy })):=Rm r2.gl ((World.putObj_heap_other fun e=>by have h:=r2.gl;rw[<- e] at qO;obtain⟨m,h⟩:=Rm h (hk5 0 r2.gl.lt r2.W9).1;unfold World.cell? at h;simp only[qO] at h;cases h).trans (hk5 0 r2.gl.lt r2.W9).1)
  have uj:a2={ tmps:=a2.tmps,defers:=[] }:=by
   have:a2.defers=[]:=r5.yn
   cases a2
   simp only at this;rw[this]
  rw[uj];refine wpIn_mono (hb (Op E3 _ B) (Xe arR aqK) (fun _=>rfl) (fun i b hi=>(hBp i b hi).1) hT nv 0 E3 _ _ r7 (nh S4 hl _)) fun e a4 w4 hp=>?_
  cases e with
  | exit id=>
   obtain⟨_,_,⟨h,_⟩,_⟩:=hp
   cases h
  | ret=>
   obtain⟨_,_,⟨h,_⟩,_⟩:=hp
   cases h
  | goto t=>exact hp.elim
  | panic ch=>exact hp.elim
  | outgrown=>exact hp.elim
  | normal=>
   obtain⟨s2,E4,⟨_,hw⟩,r8,hb8⟩:=hp;obtain⟨E5,r9⟩:=hw _ (fun _=>rfl) (fun i b hi=>(hBp i b hi).1) E4 w4 _ N a4 r8
   have s9:W1.heap.size<=w4.heap.size:=by
    have:=r9.sn;have h2:(w2.putObj l (.loop { nH fn a.tmps p assign body D .ready none with state:=.busy })).heap.size<=w4.heap.size:=this;rw[World.putObj_size] at h2;omega
   have comb:∀ b,b < W1.heap.size->E2.rl b=.bH\/E2.rl b=.eH->(b≠l->w4.heap[b]? = W1.heap[b]?)/\E5.rl b=E2.rl b:=fun b hb hr=>by
    obtain⟨h1,h2⟩:=hk5 b hb hr;obtain⟨h3,h4⟩:=BV r9 b (by rw[World.putObj_size];omega) (by rw[h2];exact hr);exact⟨fun hn=>h3.trans ((World.putObj_heap_other hn).trans h1),h4.trans h2⟩
   have hl4:w4.heap[l]? = some (.loop { nH fn a.tmps p assign body D .ready none with state:=.busy }):=(BV r9 l (by rw[World.putObj_size];have:=aU l qN;omega) (.inr akE)).1.trans (World.putObj_heap_same (by have:=aU l qN;omega));have akD:E5.rl l=.eH:=(comb l (aU l qN) (.inr Rk)).2.trans Rk;have abJ:E2.rl D=.eH:=by rw[e2c D hDn,j.rD]
   have hD4:w4.heap[D]? = some (.deferred (some [])):=((comb D (aU D hDn) (.inr abJ)).1 hlD).trans j.hD;have asP:E5.rl D=.eH:=(comb D (aU D hDn) (.inr abJ)).2.trans abJ;have r9n:=r9.re2 (fun _=>none) (fun _=>none) 0 (aA _) (fun _ _ h=>by cases h) fun i b hi=>by cases hi
   have Uj:=(r9n.putObj (fun _=>rfl) (.loop (nH fn a.tmps p assign body D .ready none)) akD rfl).akU fun _=>rfl;obtain⟨W5,S6⟩:∃ W5,W5=w4.putObj l (.loop (nH fn a.tmps p assign body D .ready none)):=⟨_,rfl⟩
   rw[<- S6] at Uj;have hs5:W5.heap.size=w4.heap.size:=by rw[S6,World.putObj_size]
   obtain⟨E6,hE6⟩:∃ E6:Env,E6=⟨fun b=>if b < W5.heap.size then E5.rl b else .eH,E5.bk,E5.vl⟩:=⟨_,rfl⟩
   rw[<- hE6] at Uj;have e6:∀ b,b < W1.heap.size->E6.rl b=E5.rl b:=fun b hb=>by rw[hE6];exact if_pos (by omega)
   have c6:∀ b,b < W1.heap.size->E2.rl b=.bH\/E2.rl b=.eH->(b≠l->W5.heap[b]? = W1.heap[b]?)/\E6.rl b=E2.rl b:=fun b hb hr=>by
    obtain⟨h1,h2⟩:=comb b hb hr;exact⟨fun hn=>by rw[S6,World.putObj_heap_other hn];exact h1 hn,(e6 b hb).trans h2⟩
   have IB:∀ b,E.rl b=.bH->b < W1.heap.size->W5.heap[b]? = W1.heap[b]?/\E6.rl b=.bH:=fun b hcc xx=>by
    have h2:E2.rl b=.bH:=(e2a b (by rw[hcc];intro h;cases h)).trans hcc;obtain⟨h3,h4⟩:=c6 b xx (.inl h2);exact⟨h3 (fun e=>by rw[e,j.rl] at hcc;cases hcc),h4.trans h2⟩
   have akT:cx O E6 W5 w0.heap.size N nx ⟨sl,bx (k+1),rw (k+1),nx⟩ a:=by
    refine⟨j.rep.yn,j.rep.sz,fun t=>?_,Uj.box,Uj.row,⟨fun t b dK=>?_,fun t q hq=>?_,Uj.sc.br,Uj.sc.fb,Uj.sc.fr,Uj.sc.rl⟩,Uj.hi,fun b dK=>?_,fun b x dK=>?_,fun i V hi=>(by rw[eQ.v] at hi;cases hi),fun i b hi=>(by rw[eQ.b] at hi;cases hi),by have:=j.rep.sn;omega⟩
    ·have hs:=wh Z8 (bx:=bx k) (rw:=rw k) (nx:=nx) t;refine RV.fr (E:=E) (E':=E6) (w:=W1) (w':=W5) (by omega) IB (fun q hq=>?_) (fun b dK=>?_) (j.rep.slt t)
     ·have hq:q∈(St.get ⟨sl,bx k,rw k,nx⟩ t).cP:=hq;rw[hs.1] at hq
      cases hq
     ·have dK:b∈(St.get ⟨sl,bx k,rw k,nx⟩ t).ed:=dK;have:=(r9.MA b (E.bk b) (hBi b (hs.2 b dK))).1;rw[hE6];exact this
    ·exact VS (k+1) b ((wh Z8 (bx:=bx (k+1)) (rw:=rw (k+1)) (nx:=nx) t).2 b dK)
    ·rw[(wh Z8 (bx:=bx (k+1)) (rw:=rw (k+1)) (nx:=nx) t).1] at hq
     cases hq
    ·have pS:b < W1.heap.size:=cA dK j.rep.hi;rcases r2.nM b dK with⟨h1,h2⟩|h1
     ·exact .inl ⟨(c6 b pS (.inl h1)).2.trans h1,h2⟩
     ·exact .inr ((c6 b pS (.inr h1)).2.trans h1)
    ·obtain⟨h1,h2⟩:=r2.gh b x dK;have pS:=(Array.getElem?_eq_some_iff.1 h1).1;have hbl:=(hOg b (by rw[dK];intro h;cases h)).2;rcases h2 with⟨h3,h4⟩|⟨h3,h4⟩
     ·obtain⟨g1,g2⟩:=c6 b pS (.inl h3);exact⟨(g1 hbl).trans h1,.inl ⟨g2.trans h3,h4⟩⟩
     ·obtain⟨g1,g2⟩:=c6 b pS (.inr h3);exact⟨(g1 hbl).trans h1,.inr ⟨g2.trans h3,h4⟩⟩
   have iR:∀ b,b < W1.heap.size->E.rl b=.eH->E1.rl b≠.bH->E6.rl b=.eH:=fun b hb h1 h2=>(c6 b hb (.inr ((e2b b h2).trans h1))).2.trans ((e2b b h2).trans h1)
   refine⟨_,_,run_endRound none hl4,rfl,(by
    show Gl (w4.putObj l (.loop (nH fn a.tmps p assign body D .ready none)));rw[<- S6];exact akT.gl),KC O w0.heap.size D l E6,OwC E6,⟨E6,?_,fun _=>Iff.rfl,fun _=>Iff.rfl⟩,?_,fun b dK=>?_,fun b dK=>?_⟩
   ·show JC O w0.heap.size N a sl bx rw nx E0 n1 w0 (nH fn a.tmps p assign body D .ready none) D l (k+1) E6 (w4.putObj l (.loop (nH fn a.tmps p assign body D .ready none)));rw[<- S6];refine⟨akT,fun b dK=>?_,fun b dK h0=>?_,?_,?_,?_,?_,?_,by have:=j.sz;omega⟩
    ·rw[hE6];exact if_neg (by omega)
    ·exact(IB b (j.bH b dK h0) (aU b dK)).2
    ·rw[S6];exact nh hb8 hl _
    ·rw[S6];exact World.putObj_heap_same (Array.getElem?_eq_some_iff.1 hl4).1
    ·rw[S6,World.putObj_heap_other hlD];exact hD4
    ·rw[e6 l (aU l qN)];exact akD
    ·rw[e6 D (aU D hDn)];exact asP
   ·show SF _ W1 (w4.putObj l (.loop (nH fn a.tmps p assign body D .ready none)));rw[<- S6];have abG:Below w0.heap.size w0 W5:=by rw[S6];exact nh hb8 hl _
    refine⟨abG.os.trans j.below.os.symm,abG.tape.trans j.below.tape.symm,abG.output.trans j.below.output.symm,by omega,fun b dK hc=>?_⟩;rcases hc with hc|hc
    ·have hnk:¬ KC O w0.heap.size D l E b:=fun h=>hc ((hK b).2 h);have h1:E.rl b=.eH:=Classical.byContradiction fun h=>hnk (.inr (.inl h));have h2:b≠l:=fun h=>hnk (.inr (.inr (.inr (.inl h))))
     by_cases h3:E1.rl b=.bH
     ·exact(c6 b dK (.inl (e2d b h3))).1 h2
     ·exact(c6 b dK (.inr ((e2b b h3).trans h1))).1 h2
    ·refine(c6 b dK (.inl (e2d b hc))).1 fun e=>?_;subst e;have:=key b qN hc;rw[j.rl] at this
     cases this
   ·by_cases xx:b < W1.heap.size
    ·by_cases h1:E1.rl b=.bH
     ·exact .inr (.inl h1)
     ·refine .inl ((hK b).2 ?_);rcases dK with h|h|h
      ·exact .inl h
      ·exact .inr (.inl fun h2=>h (iR b xx h2 h1))
      ·exact .inr (.inr h)
    ·exact .inr (.inr (by omega))
   ·by_cases xx:b < W1.heap.size
    ·refine .inl ((hKo b).2 ?_);refine Classical.byContradiction fun fk=>?_
     by_cases h1:E.rl b=.eH
     ·by_cases h2:E1.rl b=.bH
      ·exact dK.2 ((c6 b xx (.inl (e2d b h2))).2.trans (e2d b h2))
      ·exact dK.1 (iR b xx h1 h2)
     ·by_cases h2:E.rl b=.bH
      ·exact dK.2 (IB b h2 xx).2
      ·exact fk ⟨h1,h2⟩
    ·exact .inr (by omega)
end
section
variable {P:Program}{T:Nat->Option Ty}
def mkD (D:Nat):Deferred:={ target:=.collected D,args:=#[] }
structure ORg (w0:World)(O:iy):Prop where
 o:∀ b,O.o b->b < w0.heap.size
 gl:GlC O
 pos:0 < w0.heap.size
def OM (O:iy)(Ds:List Nat):iy:=⟨O.o,fun b=>if b∈Ds then some (.deferred (some [])) else if b=0 then O.g 0 else none,fun _=>none,fun _=>none,O.n,Ds.map mkD++O.d⟩
theorem aoR {w0:World}{O:iy}{Ds:List Nat}(hO:ORg w0 O)(hd:∀ d∈Ds,w0.heap.size<=d):0∉Ds:=fun h=>by
 have h1:=hd 0 h;have h2:=hO.pos;omega
theorem BW {w0:World}{O:iy}{Ds:List Nat}(hO:ORg w0 O)(hd:∀ d∈Ds,w0.heap.size<=d):eQ (OM O Ds):=by
 obtain⟨x,h1,h2⟩:=hO.gl.gl
 exact { gl:=⟨x,by
  show(if 0∈Ds then some (Obj.deferred (some [])) else if 0=0 then O.g 0 else none)=some x;rw[if_neg (aoR hO hd),if_pos rfl];exact h1,h2⟩,v:=fun _=>rfl,b:=fun _=>rfl }
def cpR (w0:World)(N:Nat)(O:iy)(Q:Ex->St->Prop):Exit->Act->World->Prop
 | .normal,a,w=>∃ st E Ds,Q .iV st/\iE (OM O Ds) E w w0.heap.size N st a/\Below w0.heap.size w0 w/\Ds.Nodup/\∀ d∈Ds,w0.heap.size<=d
 | .exit id,a,w=>∃ st E Ds,Q (.exit id) st/\iE (OM O Ds) E w w0.heap.size N st a/\Below w0.heap.size w0 w/\Ds.Nodup/\∀ d∈Ds,w0.heap.size<=d
 | .ret,a,w=>∃ st E Ds,Q .ret st/\iE (OM O Ds) E w w0.heap.size N st a/\Below w0.heap.size w0 w/\Ds.Nodup/\∀ d∈Ds,w0.heap.size<=d
 | _,_,_=>False
def pW (P:Program)(T:Nat->Option Ty)(N:Nat)(w0:World)(c:Code)(st:St)(Q:Ex->St->Prop):Prop:=
 dz P T->∀ O:iy,ORg w0 O->∀ (Ds:List Nat) (E:Env) (a:Act) (w:World),Ds.Nodup->(∀ d∈Ds,w0.heap.size<=d)->iE (OM O Ds) E w w0.heap.size N st a->Below w0.heap.size w0 w->c.wp P (cpR w0 N O Q) a w
section
variable {N:Nat}{w0:World}
theorem pW.zE {c:Code}{st:St}{Q:Ex->St->Prop}(hc:alN N c=true)(h:∀ O [eQ O],Tp P T N w0 O c st Q):pW P T N w0 c st Q:=fun hT O hO Ds E a w hn hd r hb=>
 haveI:=BW hO hd
 wp_mono (h (OM O Ds) hT hc E a w r hb) fun e a' w' hp=>by
  cases e <;> first
   | exact hp.elim
   | (obtain⟨dc,E',h1,h2,h3⟩:=hp;exact⟨dc,E',Ds,h1,h2,h3,hn,hd⟩)
theorem pW.seq {x y:Code}{st:St}{Q:Ex->St->Prop}(h:pW P T N w0 x st (xb (fun dc=>pW P T N w0 y dc Q) Q)):pW P T N w0 (.seq x y) st Q:=fun hT O hO Ds E a w hn hd r hb=>by
 refine wp_seq (wp_mono (h hT O hO Ds E a w hn hd r hb) fun e a' w' hp=>?_)
 cases e with
 | normal=>
  obtain⟨dc,E',Ds',hq,r',fa,hn',kH⟩:=hp;exact hq hT O hO Ds' E' a' w' hn' kH r' fa
 | exit id=>exact hp
 | ret=>exact hp
 | goto l=>exact hp.elim
 | panic ch=>exact hp.elim
 | outgrown=>exact hp.elim
theorem pW.wk {c:Code}{st dc:St}{Q:Ex->St->Prop}(hw:Wk st dc)(h:pW P T N w0 c dc Q):pW P T N w0 c st Q:=fun hT O hO Ds E a w hn hd r hb=>by
 haveI:=BW hO hd
 obtain⟨E',r'⟩:=hw (OM O Ds) E w w0.heap.size N a r;exact h hT O hO Ds E' a w hn hd r' hb
theorem SB {α β γ:Type}{R:α->γ->Prop}{f:β->γ}:∀ {us:List α} {cs:List β},A2 (fun u c=>R u (f c)) us cs->A2 R us (cs.map f)
 | _,_,.nil=>.nil
 | _,_,.cons h1 h2=>.cons h1 (SB h2)
theorem pW.O3 {g:Operand}{p:Nat}{assign body:Code}{sl:List (Nat × AV)}{bx:Nat->List (Nat × List Ce)}{rw:Nat->List (Nat × Row)}{nx:Nat}{pins:List Nat}{xs:List AV}{gf:Nat}{caps:List (List Tr × Nat)}{Q:Ex->St->Prop}
  (hg:ev ⟨sl,bx 0,rw 0,nx⟩ g=.lL gf caps) (hsq:Sq P gf (caps.map fun c=>.dL c.1 c.2) xs) (Z8:Yr pins sl=true) (VS:∀ k,∀ j∈pins,∃ cs,lk (bx k) j=some cs) (KF:alN N assign=true) (nv:alN N body=true) (hp:Nat.blt p N=true)
  (hx:∀ x∈xs,x.plain=true) (hr:∀ l k (hk:k < xs.length),alP P T N w0 pins l assign body ⟨(p,xs[k]) :: sl,bx k,rw k,nx⟩ ⟨[],bx (k+1),rw (k+1),nx⟩)
  (h:Q .iV ⟨sl,bx xs.length,rw xs.length,nx⟩):pW P T N w0 (.rangeFunc g #[p] assign body) ⟨sl,bx 0,rw 0,nx⟩ Q:=fun hT O hO Ds E a w hn hd r hb=>by
 haveI:=BW hO hd
 refine(wpIn_wide (n:=0)).1 (wpIn_rangeFunc ?_);intro fn _;have hv:=dy r g;rw[hg] at hv;obtain⟨us,hfv,ajR⟩:=hv;have hp:p < N:=Nb hp;obtain⟨W1,hW1⟩:∃ W1,W1=(w.alloc (.deferred (some []))).alloc (.loop (nH fn a.tmps p assign body w.heap.size .ready none)):=⟨_,rfl⟩
 have qL:W1.heap.size=w.heap.size+2:=by rw[hW1,World.size_alloc,World.size_alloc]
 have Iw:∀ b,b < w.heap.size->W1.heap[b]? = w.heap[b]?:=fun b hb=>by
  rw[hW1,Below.heap_alloc _ _ _ (by rw[World.size_alloc];omega),Below.heap_alloc _ _ _ hb]
 have hL1:W1.heap[w.heap.size+1]? = some (.loop (nH fn a.tmps p assign body w.heap.size .ready none)):=by
  rw[hW1];have:=World.alloc_heap_new (w.alloc (.deferred (some []))) (.loop (nH fn a.tmps p assign body w.heap.size .ready none));rwa [World.size_alloc] at this
 have hK1:W1.heap[w.heap.size]? = some (.deferred (some [])):=by
  rw[hW1];exact(Below.heap_alloc _ _ _ (by simp)).trans (World.alloc_heap_new w _)
 obtain⟨E1,IG⟩:∃ E1:Env,E1=⟨fun b=>if b < w.heap.size then E.rl b else .eH,E.bk,E.vl⟩:=⟨_,rfl⟩
 have rc:=r.akU fun _=>rfl;rw[<- IG] at rc
 have mY:∀ b,(OM O Ds).g b≠none->b < w.heap.size:=fun b dK=>by
  cases hq:(OM O Ds).g b with
  | none=>exact absurd hq dK
  | some x=>exact(Array.getElem?_eq_some_iff.1 (r.gh b x hq).1).1
 have r1:cx (OM O Ds) E1 W1 w0.heap.size N nx ⟨sl,bx 0,rw 0,nx⟩ a:=rc.fr2 (fun b x hx=>⟨Iw b (mY b (by rw[hx];intro h;cases h)),rfl⟩) (fun _=>rfl) (by omega) (fun b dK _=>Iw b dK) (fun _ _ _=>rfl) (fun _ _ h=>h) rfl rfl
 have pS:Below w0.heap.size w0 W1:=by
  rw[hW1];exact(hb.alloc r.hi _).alloc (by rw[World.size_alloc];have:=r.hi;omega) _
 have MS:∀ b,w.heap.size<=b->E1.rl b=.eH:=fun b dK=>by rw[IG];exact if_neg (by omega)
 have j0:JC (OM O Ds) w0.heap.size N a sl bx rw nx E1 W1.heap.size w0 (nH fn a.tmps p assign body w.heap.size .ready none) w.heap.size (w.heap.size+1) 0 E1 W1:=
  ⟨r1,fun b dK=>MS b (by omega),fun _ _ h=>h,pS,hL1,hK1,MS _ (by omega),MS _ (ak _),ak _⟩
 have ha:A2 (R1 E1 W1) us (caps.map fun c=>.dL c.1 c.2):=SB (ajR.imp fun u c _ hri=>by
  refine R1.fr (E:=E) (E':=E1) (w:=w) (w':=W1) (a:=.dL c.1 c.2) (by omega) (fun b dK aU=>⟨Iw b aU,by rw[IG];exact(if_pos aU).trans dK⟩) (fun _ h=>by cases h) (fun _ h=>by cases h) hri)
 refine⟨w.heap.size+1,[mkD w.heap.size],W1,{ target:=.fn (.func gf) us.toArray,args:=#[.func (.yield (w.heap.size+1)) #[] #[]] },W1,gf,#[.func (.yield (w.heap.size+1)) #[] #[]]++us.toArray,W1,?_,?_,fun _ _=>trivial,?_,fun h=>(by cases h),?_⟩
 ·rw[hW1];exact run_enterLoop_outer _ _ _ _ _
 ·simp only[resolve,hfv];simp[go_sem]
 ·have eg:∀ args w,(callFunc gf args).run P w=.ok (.enter gf args) w:=hsq.RJ;simp[invoke,go_sem,eg]
 refine callsIn_wide.2 (Calls.mono (hsq.run W1 us E1 r1.gl ha (w.heap.size+1) (JJ (OM O Ds) w0.heap.size N a sl bx rw nx E1 W1.heap.size w0 (nH fn a.tmps p assign body w.heap.size .ready none) w.heap.size (w.heap.size+1)) ahY
  (QK hT (fun b dK=>by have:=mY b dK;omega) Z8 VS KF nv hp (by have:=r.hi;omega) (by omega) (by omega) (by omega) hx fun k hk=>hr _ k hk) (KC (OM O Ds) w0.heap.size w.heap.size (w.heap.size+1) E1) (OwC E1) ⟨E1,j0,fun _=>Iff.rfl,fun _=>Iff.rfl⟩ fun b dK=>dK.2) ?_)
 rintro e W2 ⟨⟨v,rfl⟩,K,Ko,E2,j2,_,_⟩;refine⟨none,_,run_endLoop j2.hl (fun h=>by cases h),?_⟩
 have hlD:(OM O Ds).g (w.heap.size+1)=none:=by
  cases hq:(OM O Ds).g (w.heap.size+1) with
  | none=>rfl
  | some x=>exact absurd (mY _ (by rw[hq];intro h;cases h)) (by omega)
 have hDn:w.heap.size∉Ds:=fun hm=>by
  have:=mY w.heap.size (by
   show(if w.heap.size∈Ds then some (Obj.deferred (some [])) else if w.heap.size=0 then O.g 0 else none)≠none;rw[if_pos hm];intro h;cases h)
  omega
 have r3:=j2.rep.putObj (fun _=>rfl) (.loop { nH fn a.tmps p assign body w.heap.size .ready none with state:=.exhausted }) j2.rl hlD;refine⟨⟨sl,bx xs.length,rw xs.length,nx⟩,E2,w.heap.size :: Ds,h,⟨?_,r3.sz,r3.slt,r3.box,r3.row,r3.sc,r3.hi,r3.nM,fun b x dK=>?_,fun _ _ h=>(by cases h),fun _ _ h=>(by cases h),r3.sn⟩,nh j2.below (by have:=r.hi;omega) _,List.nodup_cons.2 ⟨hDn,hn⟩,fun d xA=>?_⟩
 ·show [mkD w.heap.size]++a.defers=_;rw[r.yn];rfl
 ·have dK:(if b∈w.heap.size :: Ds then some (Obj.deferred (some [])) else if b=0 then O.g 0 else none)=some x:=dK;split at dK
  ·rename_i hm
   cases dK
   by_cases e:b=w.heap.size
   ·subst e;refine⟨(World.putObj_heap_other (by omega)).trans j2.hD,.inr ⟨j2.rD,fun ho=>?_⟩⟩;have h1:=hO.o _ ho;have h2:=r.hi;omega
   ·refine r3.gh b _ ?_;show(if b∈Ds then some (Obj.deferred (some [])) else if b=0 then O.g 0 else none)=_;rw[if_pos ((List.mem_cons.1 hm).resolve_left e)]
  ·rename_i hm;refine r3.gh b x ?_;show(if b∈Ds then some (Obj.deferred (some [])) else if b=0 then O.g 0 else none)=some x;rw[if_neg fun h=>hm (aM _ h)];exact dK
 ·rcases List.mem_cons.1 xA with rfl|xA
  ·exact r.hi
  ·exact hd d xA
end
theorem rW {O:iy}{w0:World}{fn:Func}{R:Ending->World->Prop}{E:Env}{N m:Nat}{st:St}(hO:ORg w0 O)(hOd:O.d=[]):∀ (Ds:List Nat) (w:World) (a:Act),Ds.Nodup->(∀ d∈Ds,w0.heap.size<=d)->cx (OM O Ds) E w w0.heap.size N m st a->Below w0.heap.size w0 w->
  (∀ w' a',a'.tmps=a.tmps->cx (OM O []) E w' w0.heap.size N m st a'->Below w0.heap.size w0 w'->∃ v,(results fn a.tmps).run P w'=.ok v w'/\R (.returned v) w')->LeavesInM Fence.wide 0 P fn a.tmps R (Ds.map mkD) .returning w
 | [],w,a,_,_,r,hb,hK=>by
  obtain⟨v,h1,h2⟩:=hK w a rfl r hb;exact⟨v,h1,h2⟩
 | D :: Ds,w,a,hn,hd,r,hb,hK=>by
  have Cp:=List.nodup_cons.1 hn;have hD0:=hd D aB
  obtain⟨h1,h2⟩:=r.gh D (.deferred (some [])) (by
   show(if D∈D :: Ds then some (Obj.deferred (some [])) else if D=0 then O.g 0 else none)=_;rw[if_pos aB])
  have hrD:E.rl D=.eH:=by
   rcases h2 with⟨_,h3⟩|⟨h3,_⟩
   ·have:=hO.o D h3;omega
   ·exact h3
  refine⟨fun h=>(by cases h),.inl ⟨D,_,rfl,run_takeDeferred h1,?_⟩⟩
  have r2:cx (OM O Ds) E w w0.heap.size N m st { tmps:=a.tmps,defers:=(OM O Ds).d }:=⟨rfl,r.sz,r.slt,r.box,r.row,r.sc,r.hi,r.nM,fun b x dK=>r.gh b x (by
   have dK:(if b∈Ds then some (Obj.deferred (some [])) else if b=0 then O.g 0 else none)=some x:=dK;show(if b∈D :: Ds then some (Obj.deferred (some [])) else if b=0 then O.g 0 else none)=some x;split at dK
   ·rename_i hm;rw[if_pos (aM _ hm)];exact dK
   ·rename_i hm;have h0:=hO.pos;split at dK
    ·rename_i e;rw[if_neg fun h=>(List.mem_cons.1 h).elim (fun h=>by omega) hm,if_pos e];exact dK
    ·cases dK),fun _ _ h=>(by cases h),fun _ _ h=>(by cases h),r.sn⟩
  have r3:=r2.putObj (fun _=>rfl) (.deferred none) hrD (by
   show(if D∈Ds then some (Obj.deferred (some [])) else if D=0 then O.g 0 else none)=none;have h0:=hO.pos;rw[if_neg Cp.1,if_neg (by omega)])
  exact rW hO hOd Ds _ { tmps:=a.tmps,defers:=(OM O Ds).d } Cp.2 (fun d h=>hd d (aM _ h)) r3 (nh hb hD0 _) hK
theorem acF {f:FuncId}{fn:Func}{c:Code}{dh:List AV}{rv:AV}{rs:List Row}(hf:P.funcs[f]? = some fn)(hb:fn.body=some c)(he:N3 P f)(hT:dz P T)(hn:Nat.ble dh.length fn.ntmps=true)(om:dh.all AV.plain=true)(aaS:Nat.ble rs.length 128=true)(oA:yT rv rs=true)
  (h:∀ w0,pW P T fn.ntmps w0 c ⟨kx 0 dh,[],[],0⟩ (zi T fn rv rs)):Ct P f dh rv rs false:=by
 have oA:=BJ oA;refine⟨he,Nb aaS,oA.2.2,om,oA.1,oA.2.1,fun w vs E0 mY ha=>?_⟩;obtain⟨E,Cw,Rj,jO⟩:=xu (N:=fn.ntmps) mY om (Nb hn) ha;have hO:ORg w ⟨fun b=>b < w.heap.size/\E0.rl b=.bH,fun b=>if b=0 then w.heap[0]? else none,fun _=>none,fun _=>none,0,[]⟩:=⟨fun b h=>h.1,Cy mY rfl,mY.lt⟩
 have qy:iE (OM ⟨fun b=>b < w.heap.size/\E0.rl b=.bH,fun b=>if b=0 then w.heap[0]? else none,fun _=>none,fun _=>none,0,[]⟩ []) E w w.heap.size fn.ntmps ⟨kx 0 dh,[],[],0⟩ { tmps:=vs.toArray++Array.replicate (fn.ntmps - vs.toArray.size) undef,defers:=[] }:=
  ⟨jO.yn,jO.sz,jO.slt,jO.box,jO.row,jO.sc,jO.hi,fun b dK=>(jO.nM b dK).imp (fun h=>⟨h.1,dK,h.2⟩) id,fun b x dK=>(by
   have dK:(if b∈([]:List Nat) then some (Obj.deferred (some [])) else if b=0 then(if (0:Nat)=0 then w.heap[0]? else none) else none)=some x:=dK;rw[if_neg List.not_mem_nil,if_pos rfl] at dK;obtain⟨h1,h2⟩:=jO.gh b x dK;exact⟨h1,h2.imp (fun h=>⟨h.1,(Array.getElem?_eq_some_iff.1 h1).1,h.2⟩) fun h=>⟨h.1,fun hc=>h.2 hc.2⟩⟩),fun _ _ h=>(by cases h),fun _ _ h=>(by cases h),jO.sn⟩
 refine callsIn_wide.1 (callsIn_of_wp_marks (F:=Fence.wide) (n:=0) hf hb trivial ?_ rfl);refine wpIn_wide.2 (wp_mono (h w hT _ hO [] E _ w List.nodup_nil (fun _ h=>by cases h) qy (Below.refl _ _)) fun e a' w' hp=>?_)
 have fin:∀ x:Ex,(∀ st,zi T fn rv rs x st->∃ m,Fin T fn st m rv rs)->(∃ st E' Ds,zi T fn rv rs x st/\iE (OM ⟨fun b=>b < w.heap.size/\E0.rl b=.bH,fun b=>if b=0 then w.heap[0]? else none,fun _=>none,fun _=>none,0,[]⟩ Ds) E' w' w.heap.size fn.ntmps st a'/\Below w.heap.size w w'/\Ds.Nodup/\∀ d∈Ds,w.heap.size<=d)->LeavesInM Fence.wide 0 P fn a'.tmps (fun e w'=>∃ v,e=.returned v/\Below w.heap.size w w'/\∃ E,RV E w' v rv/\(∀ j R,rs[j]? = some R->RR E w' w.heap.size j R)/\(∀ b,b < w.heap.size->E.rl b=.bH->false=false/\E0.rl b=.bH)) a'.defers .returning w':=fun x hx ⟨st,E',Ds,hq,r,fa,pA,hds⟩=>by
  obtain⟨m,qz⟩:=hx st hq;have hd:a'.defers=Ds.map mkD:=by rw[r.yn];exact aW _
  rw[hd];refine rW hO rfl Ds w' a' pA hds r fa fun w2 a2 uj r2 dK=>?_;obtain⟨u,hu,hr⟩:=CJ hT r2 qz;rw[uj] at hu;refine⟨u,hu,u,rfl,dK,E'.ma st m,hr,fun j R hj=>?_,fun b IE hc=>⟨rfl,?_⟩⟩
  ·refine tE r2 qz.1 (nG qz.2.1 j R (eD ?_));rw[fc,if_pos (by omega)];simpa using hj
  ·rcases r2.nM b IE with⟨_,h2⟩|h1
   ·exact h2.2
   ·rw[nQ b h1] at hc
    cases hc
 cases e with
 | normal=>exact fin .iV (fun _ h=>h) hp
 | ret=>exact fin .ret (fun _ h=>h) hp
 | exit id=>
  obtain⟨st,E',Ds,hq,_⟩:=hp;exact hq.elim
 | goto l=>exact hp.elim
 | panic ch=>exact hp.elim
 | outgrown=>exact hp.elim
end
section
variable {P:Program}{T:Nat->Option Ty}
def alV (T:Nat->Option Ty)(fn:Func)(rv:AV)(e:Ex)(st:St):Prop:=match e with
 | .exit _=>False
 | _=>match fn.results.toList with
  | [x]=>(match BK T st x with
   | some v=>Fit st v rv
   | none=>False)
  | _=>False
theorem Wu {E:Env}{b:Nat}(h:E.rl b=.bH):E.co.rl b=.bH:=by
 unfold Env.co;simp only[h]
theorem acG {f:FuncId}{fn:Func}{c:Code}{dh:List AV}{rv:AV}(hf:P.funcs[f]? = some fn)(hb:fn.body=some c)(he:N3 P f)(hT:dz P T)(hc:alN fn.ntmps c=true)(hn:Nat.ble dh.length fn.ntmps=true)(om:dh.all AV.plain=true)(oA:yT rv []=true)
  (h:∀ w0 O [eQ O],Tp P T fn.ntmps w0 O c ⟨kx 0 dh,[],[],0⟩ (alV T fn rv)):Ct P f dh rv [] false:=by
 have oA:=BJ oA;refine⟨he,by decide,fun _ h=>(by cases h),om,oA.1,oA.2.1,fun w vs E0 mY ha=>?_⟩;obtain⟨E,Cw,Rj,jO⟩:=xu (N:=fn.ntmps) mY om (Nb hn) ha;refine calls_of_wp hf hb ?_
 haveI:eQ ⟨fun b=>E0.rl b=.bH,fun b=>if b=0 then w.heap[0]? else none,fun _=>none,fun _=>none,0,[]⟩:=rL (fun _=>rfl) (fun _=>rfl) mY rfl
 refine wp_mono (h w ⟨fun b=>E0.rl b=.bH,fun b=>if b=0 then w.heap[0]? else none,fun _=>none,fun _=>none,0,[]⟩ hT hc E _ w jO (Below.refl _ _)) fun e a' w' hp=>?_
 have fin:∀ x:Ex,(∃ st E',alV T fn rv x st/\iE ⟨fun b=>E0.rl b=.bH,fun b=>if b=0 then w.heap[0]? else none,fun _=>none,fun _=>none,0,[]⟩ E' w' w.heap.size fn.ntmps st a'/\Below w.heap.size w w')->(∀ i,x≠.exit i)->a'.defers=[]/\∃ v,(results fn a'.tmps).run P w'=.ok v w'/\∃ v',Ending.returned v=.returned v'/\Below w.heap.size w w'/\∃ E,RV E w' v' rv/\(∀ j R,([]:List Row)[j]? = some R->RR E w' w.heap.size j R)/\(∀ b,b < w.heap.size->E.rl b=.bH->false=false/\E0.rl b=.bH):=fun x ⟨st,E',hq,r,fa⟩ hx=>by
  have VR:match fn.results.toList with
    | [x]=>(match BK T st x with
     | some v=>Fit st v rv
     | none=>False)
    | _=>False:=by
   cases x with
   | iV=>exact hq
   | ret=>exact hq
   | exit i=>exact absurd rfl (hx i)
  split at VR
  ·rename_i y hy;split at VR
   ·rename_i v hv;obtain⟨u,hu,hr⟩:=lu hT r hv
    have hr1:=IL (E0:=E'.co) r (fun b hb=>Wu hb) (.inr ⟨fun b τ hb=>by
     rcases hb with hb|⟨j,o,hb⟩
     ·unfold Env.co;simp only[hb]
     ·unfold Env.co;simp only[hb],fun b τ hb=>by unfold Env.co;simp only[hb]⟩) VR hr
    have lI:(results fn a'.tmps).run P w'=.ok u w':=by
     have e3:results fn a'.tmps=(do
       let vs <- fn.results.mapM (lv a')
       Pure.pure (if h:vs.size=1 then vs[0] else .tuple vs)):=by
      unfold results
      exact congrArg (fun g:ResultVar->Sem Value=>(do
       let vs <- fn.results.mapM g
       Pure.pure (if h:vs.size=1 then vs[0] else .tuple vs):Sem Value)) (funext fun x=>by cases x <;> rfl)
     rw[e3,Array.mapM_eq_mapM_toList,hy];simp only[Sem.run_bind,Sem.run_map,Sem.run_pure,List.mapM_cons,List.mapM_nil];rw[hu];simp
    refine⟨r.yn,u,lI,u,rfl,fa,E'.co,hr1.rv,fun j R hj=>(by cases hj),fun b hb hc=>⟨rfl,?_⟩⟩;rcases r.nM b hb with⟨_,h2⟩|h1
    ·exact h2
    ·unfold Env.co at hc;simp only[h1] at hc
     cases hc
   ·exact VR.elim
  ·exact VR.elim
 cases e with
 | normal=>exact fin .iV hp (fun _ h=>by cases h)
 | ret=>exact fin .ret hp (fun _ h=>by cases h)
 | exit id=>
  obtain⟨st,E',hq,r,fa⟩:=hp;exact hq.elim
 | goto l=>exact hp.elim
 | panic ch=>exact hp.elim
 | outgrown=>exact hp.elim
end
end
end Cg
namespace Go.Proofs.YtbmdcnkidjlbbaaGreat
section
open Go Cg Go.RowKit Go.Sort
theorem H8 (a:Int):∃ r:Bool,(r=(tX a))/\Ct ae 64 [.c (.t (iv a))] (aEo r) [] true:=by
 refine cU (Φ:=fun (r:Bool)=>r=(tX a)) cO (cX Tryz.func64 rfl (by kernel_rfl) rfl (aEl [] [] ?_))
 repeat' (first|(apply bN <;> intro _)|(apply ej <;> intro _)|(apply cQ <;> intro _)|apply cj|(apply cS <;> intro _)|(exact bo _ (Ei [] (Ai rfl (Ai ea rfl))) (by rw[Bool.eq_iff_iff];simp_all[tX]) rfl))
theorem My (a:Int):Ct ae 64 [.c (.t (iv a))] (aEo (tX a)) [] true:=by
 obtain⟨r,hr,h⟩:=H8 a;rw[hr] at h;exact h
theorem LJ (a:Int):∃ r:Bool,(r=(tX a))/\Ct ae 75 [.c (.t (iv a))] (aEo r) [] true:=by
 refine cU (Φ:=fun (r:Bool)=>r=(tX a)) cO (cX Tryz.func75 rfl (by kernel_rfl) rfl (aEl [] [] ?_))
 repeat' (first|(apply bN <;> intro _)|(apply ej <;> intro _)|(apply cQ <;> intro _)|apply cj|(apply cS <;> intro _)|(exact bo _ (Ei [] (Ai rfl (Ai ea rfl))) (by rw[Bool.eq_iff_iff];simp_all[tX]) rfl))
theorem O5 (a:Int):Ct ae 75 [.c (.t (iv a))] (aEo (tX a)) [] true:=by
 obtain⟨r,hr,h⟩:=LJ a;rw[hr] at h;exact h
theorem Vv (a:Int):∃ r:Int,(r=(vi a))/\Ct ae 68 [.c (.t (iv a))] (aEn r) [] true:=by
 refine cU (Φ:=fun (r:Int)=>r=(vi a)) kF (cX Tryz.func68 rfl (by kernel_rfl) rfl (aEl [] [] ?_))
 repeat' (first|(apply bN <;> intro _)|(apply ej <;> intro _)|(apply cQ <;> intro _)|apply cj|(apply cS <;> intro _)|(exact bo _ (Ei [] (Ai rfl (Ai ea rfl))) (by simp[vi, *]) rfl))
theorem ZB (a:Int):Ct ae 68 [.c (.t (iv a))] (aEn (vi a)) [] true:=by
 obtain⟨r,hr,h⟩:=Vv a;rw[hr] at h;exact h
theorem zn (all:List aD)(k:Nat)(_hall:all.length*176<=aV):Ct ae 63 [.c (.t (.sl 17 (all.map aD.enc))),.c (.t (iv (k:Int)))] (.agg ((eP all k).enc.map .t)) [] false:=by
 generalize hS:eP all k=S;refine cT Tryz.func63 rfl (by kernel_rfl) rfl fun w0 O _=>aEk [2,3] ?_;refine cS (fun h=>?_) fun h=>?_
 ·have aU:=cJ h;rw[tv aU] at hS;subst hS;refine aEk [] (Ei k (Ei (all[k].enc) (Ai rfl (Ai (aK _ _ k aU) ?_))));refine Ei [] ?_
  repeat' constructor
 ·have ui:all.length<=k:=by
   have:=of_decide_eq_false h;rw[Lm] at this;omega
  rw[Bp ui] at hS;subst hS;refine aEk [] (Ei [] ?_)
  repeat' constructor
theorem zM (all:List aD)(k:Nat)(_hall:all.length*176<=aV):Ct ae 74 [.c (.t (.sl 17 (all.map aD.enc))),.c (.t (iv (k:Int)))] (.agg ((eP all k).enc.map .t)) [] false:=by
 generalize hS:eP all k=S;refine cT Tryz.func74 rfl (by kernel_rfl) rfl fun w0 O _=>aEk [2,3] ?_;refine cS (fun h=>?_) fun h=>?_
 ·have aU:=cJ h;rw[tv aU] at hS;subst hS;refine aEk [] (Ei k (Ei (all[k].enc) (Ai rfl (Ai (aK _ _ k aU) ?_))));refine Ei [] ?_
  repeat' constructor
 ·have ui:all.length<=k:=by
   have:=of_decide_eq_false h;rw[Lm] at this;omega
  rw[Bp ui] at hS;subst hS;refine aEk [] (Ei [] ?_)
  repeat' constructor
theorem CF (s:aq)(all:List aD)(w:aG)(id:Int)(hs:s.aa.length*128<=aV)(iN:all.length*176<=aV)(tT:∀ y∈all,aD.ok y):Ct ae 70 [.agg (s.enc.map .t),.c (.t (.sl 17 (all.map aD.enc))),.agg (w.enc.map .t),.c (.t (iv id))] (aEo (iP s.aa all id w.you w.id w.aj.aF.filter)) [] true:=by
 refine aEs (b:=false) ?_ rfl;refine cT Tryz.func70 rfl (by kernel_rfl) rfl fun w0 O _=>aEk [] ?_;refine aEm (fun k:Nat=>⟨[(1,.c (.t (.sl 17 (all.map aD.enc)))),(3,.c (.t (iv id))),(6,.ptr 128 0),(12,.c (.t (.sl 19 (s.aa.map az.enc)))),(13,aEn (s.aa.map az.enc).length),(14,aEn k)],[(128,w.enc.map .t)],[],10000⟩) (fun k=>k<=s.aa.length/\∀ j (h:j < s.aa.length),j < k->(s.aa[j].id==id)=false) (fun k=>s.aa.length - k) 0 ?_ ⟨aA _,fun j _ hj=>absurd hj (Nat.not_lt_zero j)⟩ ?_
 ·refine ba [] rfl rfl ?_ ⟨aC _ rfl,ea⟩ ?_
  repeat' constructor
 rintro k ⟨hk,fk⟩;refine aEk [5,6] (cS (fun h=>?_) fun h=>?_)
 ·have aU:=cJ h;refine Ei k (Ei (s.aa[k].enc) (Ai rfl (Ai (aK _ _ k aU) ?_)));refine cS (fun h=>?_) fun h=>?_
  ·refine aEk [] (cR (zn all k iN) ⟨rfl,rfl,ea⟩ ?_);refine cF (Vb s.aa[k] (eP all k) w.you w.id w.aj.aF.filter (tu tT k)) ⟨fL s.aa[k].enc,fL (eP all k).enc,rfl,rfl,fL w.aj.aF.filter.enc,ea⟩ ?_;refine Ei [] (Ai rfl (Ai ea ?_));rw[xI k aU h fk];exact rfl
  ·refine aEk [] (Ei (k+1) (Ai ⟨by omega,fun j hj Am=>?_⟩ (Ai (show s.aa.length - (k+1) < s.aa.length - k by omega) ?_)))
   ·by_cases e:j=k
    ·subst e;exact h
    ·exact fk j hj (by omega)
   refine ba [] rfl rfl ?_ ⟨aC _ rfl,ea⟩ ?_
   repeat' constructor
   exact cZ k aU 128 (by decide) hs
 ·have fp:=dM h hk;refine Ei [] (Ai rfl (Ai ea ?_));rw[Ar (fun j hj=>fk j hj (by omega))];exact rfl
theorem j5 (s:aq)(all:List aD)(id:Int)(w:bq)(hs:s.aa.length*128<=aV)(iN:all.length*176<=aV)(tT:∀ y∈all,aD.ok y):Ct ae 34 [.agg (s.enc.map .t),.c (.t (.sl 17 (all.map aD.enc))),.c (.t (iv id)),.agg (w.enc.map .t)] (aEo (iP s.aa all id w.you w.id w.a.aF.filter)) [] true:=by
 refine aEs (b:=false) ?_ rfl;refine cT Tryz.func34 rfl (by kernel_rfl) rfl fun w0 O _=>aEk [] ?_;refine aEm (fun k:Nat=>⟨[(1,.c (.t (.sl 17 (all.map aD.enc)))),(2,.c (.t (iv id))),(4,.ptr 0 0),(7,.ptr 128 0),(9,aEn k)],[(0,s.enc.map .t),(128,w.enc.map .t)],[],10000⟩) (fun k=>k<=s.aa.length/\∀ j (h:j < s.aa.length),j < k->(s.aa[j].id==id)=false) (fun k=>s.aa.length - k) 0 ?_ ⟨aA _,fun j _ hj=>absurd hj (Nat.not_lt_zero j)⟩ ?_
 ·refine ba [] rfl rfl ?_ ⟨aC _ rfl,aC _ rfl,ea⟩ ?_
  repeat' constructor
 rintro k ⟨hk,fk⟩;refine aEk [5,3] (cS (fun h=>?_) fun h=>?_)
 ·have aU:=cJ h;refine Ei k (Ei (s.aa[k].enc) (Ai rfl (Ai (aK _ _ k aU) ?_)));refine cS (fun h=>?_) fun h=>?_
  ·refine aEk [] (Ei k (Ei (s.aa[k].enc) (Ai rfl (Ai (aK _ _ k aU) ?_))));refine cR (zM all k iN) ⟨rfl,rfl,ea⟩ ?_;refine cF (tG s.aa[k] (eP all k) w.you w.id w.a.aF.filter (tu tT k)) ⟨fL s.aa[k].enc,fL (eP all k).enc,rfl,rfl,fL w.a.aF.filter.enc,ea⟩ ?_;refine Ei [] (Ai rfl (Ai ea ?_));rw[xI k aU h fk];exact rfl
  ·refine aEk [] (Ei (k+1) (Ai ⟨by omega,fun j hj Am=>?_⟩ (Ai (show s.aa.length - (k+1) < s.aa.length - k by omega) ?_)))
   ·by_cases e:j=k
    ·subst e;exact h
    ·exact fk j hj (by omega)
   refine ba [] rfl rfl ?_ ⟨aC _ rfl,aC _ rfl,ea⟩ ?_
   repeat' constructor
   exact cZ k aU 128 (by decide) hs
 ·have fp:=dM h hk;refine Ei [] (Ai rfl (Ai ea ?_));rw[Ar (fun j hj=>fk j hj (by omega))];exact rfl
def rU (c:eB):Bool:=c.e.kind==2&&(eh c.before.aa c.e.aL&&((cb c.before.aa c.e.aL).cn==0&&!eh c.after.aa c.e.aL))
def wQ (c:eB)(w:bq):Bool:=kD c.after.aw c.e.bK w.you w.a.aF.j7
def RA (c:eB)(id:Int)(w:bq):Bool:=iP c.before.aa c.ca id w.you w.id w.a.aF.filter
def sC (c:eB)(id:Int)(w:bq):Bool:=iP c.after.aa c.cg id w.you w.id w.a.aF.filter
def tM (c:eB)(w:bq):Bool:=
 if w.a.aF.when=2 then rU c&&RA c c.e.aL w
 else if w.a.aF.when=3 then rU c&&((c.e.nk==3)&&RA c c.e.aL w)
 else if w.a.aF.when=4 then(c.e.kind==12)&&sC c c.e.aL w
 else if w.a.aF.when=5 then(c.e.kind==13)&&sC c c.e.aL w
 else if w.a.aF.when=14 then(c.e.kind==8)&&sC c c.e.aL w
 else if w.a.aF.when=6 then(c.e.kind==1)&&RA c c.e.dC w
 else if w.a.aF.when=7 then(c.e.kind==1)&&((c.e.aL != 0)&&RA c c.e.aL w)
 else false
def tK (c:eB)(w:bq):Bool:=
 if w.a.aF.when=8 then(c.e.kind==3)&&wQ c w
 else if w.a.aF.when=10 then(c.e.kind==14)&&wQ c w
 else if w.a.aF.when=11 then(c.e.kind==15)&&wQ c w
 else if w.a.aF.when=12 then(c.e.kind==4)&&wQ c w
 else if w.a.aF.when=13 then(c.e.kind==5)&&wQ c w
 else if w.a.aF.when=9 then(c.e.kind==11)&&(wQ c w&&sC c c.e.aL w)
 else false
theorem Jz (c:eB)(qL:c.before.aa.length*128<=aV)(mX:c.after.aa.length*128<=aV):Ct ae 77 [.agg (c.enc.map .t)] (aEo (rU c)) [] true:=by
 refine aEs (b:=false) ?_ rfl;generalize hM:rU c=M;unfold rU at hM;refine cT Tryz.func77 rfl (by kernel_rfl) rfl fun w0 O _=>aEk [] ?_;refine cF (fP c.before c.e.aL qL) ⟨fL c.before.enc,rfl,ea⟩ ?_;refine cF (fP c.after c.e.aL mX) ⟨fL c.after.enc,rfl,ea⟩ ?_;refine cS (fun h=>?_) fun h=>?_
 ·rw[show(c.e.kind==2)=true from h,cq] at hM;refine cS (fun h=>?_) fun h=>?_
  ·rw[show eh c.before.aa c.e.aL=true from h,cq] at hM;refine cS (fun h=>?_) fun h=>?_
   ·rw[show((cb c.before.aa c.e.aL).cn==0)=true from h,cq] at hM;subst hM;refine Ei [] ?_
    repeat' constructor
   ·rw[show((cb c.before.aa c.e.aL).cn==0)=false from h,cm] at hM;subst hM;refine Ei [] ?_
    repeat' constructor
  ·rw[show eh c.before.aa c.e.aL=false from h,cm] at hM;subst hM;refine Ei [] ?_
   repeat' constructor
 ·rw[show(c.e.kind==2)=false from h,cm] at hM;subst hM;refine Ei [] ?_
  repeat' constructor
theorem kZ (c:eB)(w:bq)(hp:c.after.ok):Ct ae 78 [.agg (c.enc.map .t),.agg (w.enc.map .t)] (aEo (wQ c w)) [] true:=by
 refine aEs (b:=false) ?_ rfl;unfold wQ;refine cT Tryz.func78 rfl (by kernel_rfl) rfl fun w0 O _=>aEk [] ?_;refine cF (LV c.after c.e.bK w.you w.a.aF.j7 hp) ⟨fL c.after.enc,rfl,rfl,rfl,ea⟩ ?_;refine Ei [] ?_
 repeat' constructor
theorem LI (c:eB)(w:bq)(qL:c.before.aa.length*128<=aV)(mX:c.after.aa.length*128<=aV)(S5:c.ca.length*176<=aV)(uj:c.cg.length*176<=aV)(Xo:∀ y∈c.ca,aD.ok y)(Qj:∀ y∈c.cg,aD.ok y):Ct ae 35 [.agg (c.enc.map .t),.agg (w.enc.map .t)] (aEo (tM c w)) [] true:=by
 refine aEs (b:=false) ?_ rfl;generalize hM:tM c w=M;unfold tM at hM;refine cT Tryz.func35 rfl (by kernel_rfl) rfl fun w0 O _=>aEk [] ?_;refine cS (fun h=>?_) fun h=>?_
 ·have h:(w.a.aF.when==2)=true:=h;rw[if_pos (by simpa using h)] at hM;refine cF (Jz c qL mX) ⟨fL c.enc,ea⟩ ?_;refine cS (fun h=>?_) fun h=>?_
  ·rw[show rU c=true from h,cq] at hM;refine cF (j5 c.before c.ca c.e.aL w qL S5 Xo) ⟨fL c.before.enc,rfl,rfl,fL w.enc,ea⟩ ?_;subst hM;refine Ei [] ?_
   repeat' constructor
  ·rw[show rU c=false from h,cm] at hM;subst hM;refine Ei [] ?_
   repeat' constructor
 ·have h:(w.a.aF.when==2)=false:=h;rw[if_neg (by simpa using h)] at hM;refine cS (fun h=>?_) fun h=>?_
  ·have h:(w.a.aF.when==3)=true:=h;rw[if_pos (by simpa using h)] at hM;refine cF (Jz c qL mX) ⟨fL c.enc,ea⟩ ?_;refine cS (fun h=>?_) fun h=>?_
   ·rw[show rU c=true from h,cq] at hM;refine cS (fun h=>?_) fun h=>?_
    ·rw[show(c.e.nk==3)=true from h,cq] at hM;refine cF (j5 c.before c.ca c.e.aL w qL S5 Xo) ⟨fL c.before.enc,rfl,rfl,fL w.enc,ea⟩ ?_;subst hM;refine Ei [] ?_
     repeat' constructor
    ·rw[show(c.e.nk==3)=false from h,cm] at hM;subst hM;refine Ei [] ?_
     repeat' constructor
   ·rw[show rU c=false from h,cm] at hM;subst hM;refine Ei [] ?_
    repeat' constructor
  ·have h:(w.a.aF.when==3)=false:=h;rw[if_neg (by simpa using h)] at hM;refine cS (fun h=>?_) fun h=>?_
   ·have h:(w.a.aF.when==4)=true:=h;rw[if_pos (by simpa using h)] at hM;refine cS (fun h=>?_) fun h=>?_
    ·rw[show(c.e.kind==12)=true from h,cq] at hM;refine cF (j5 c.after c.cg c.e.aL w mX uj Qj) ⟨fL c.after.enc,rfl,rfl,fL w.enc,ea⟩ ?_;subst hM;refine Ei [] ?_
     repeat' constructor
    ·rw[show(c.e.kind==12)=false from h,cm] at hM;subst hM;refine Ei [] ?_
     repeat' constructor
   ·have h:(w.a.aF.when==4)=false:=h;rw[if_neg (by simpa using h)] at hM;refine cS (fun h=>?_) fun h=>?_
    ·have h:(w.a.aF.when==5)=true:=h;rw[if_pos (by simpa using h)] at hM;refine cS (fun h=>?_) fun h=>?_
     ·rw[show(c.e.kind==13)=true from h,cq] at hM;refine cF (j5 c.after c.cg c.e.aL w mX uj Qj) ⟨fL c.after.enc,rfl,rfl,fL w.enc,ea⟩ ?_;subst hM;refine Ei [] ?_
      repeat' constructor
     ·rw[show(c.e.kind==13)=false from h,cm] at hM;subst hM;refine Ei [] ?_
      repeat' constructor
    ·have h:(w.a.aF.when==5)=false:=h;rw[if_neg (by simpa using h)] at hM;refine cS (fun h=>?_) fun h=>?_
     ·have h:(w.a.aF.when==14)=true:=h;rw[if_pos (by simpa using h)] at hM;refine cS (fun h=>?_) fun h=>?_
      ·rw[show(c.e.kind==8)=true from h,cq] at hM;refine cF (j5 c.after c.cg c.e.aL w mX uj Qj) ⟨fL c.after.enc,rfl,rfl,fL w.enc,ea⟩ ?_;subst hM;refine Ei [] ?_
       repeat' constructor
      ·rw[show(c.e.kind==8)=false from h,cm] at hM;subst hM;refine Ei [] ?_
       repeat' constructor
     ·have h:(w.a.aF.when==14)=false:=h;rw[if_neg (by simpa using h)] at hM;refine cS (fun h=>?_) fun h=>?_
      ·have h:(w.a.aF.when==6)=true:=h;rw[if_pos (by simpa using h)] at hM;refine cS (fun h=>?_) fun h=>?_
       ·rw[show(c.e.kind==1)=true from h,cq] at hM;refine cF (j5 c.before c.ca c.e.dC w qL S5 Xo) ⟨fL c.before.enc,rfl,rfl,fL w.enc,ea⟩ ?_;subst hM;refine Ei [] ?_
        repeat' constructor
       ·rw[show(c.e.kind==1)=false from h,cm] at hM;subst hM;refine Ei [] ?_
        repeat' constructor
      ·have h:(w.a.aF.when==6)=false:=h;rw[if_neg (by simpa using h)] at hM;refine cS (fun h=>?_) fun h=>?_
       ·have h:(w.a.aF.when==7)=true:=h;rw[if_pos (by simpa using h)] at hM;refine cS (fun h=>?_) fun h=>?_
        ·rw[show(c.e.kind==1)=true from h,cq] at hM;refine cS (fun h=>?_) fun h=>?_
         ·rw[show(c.e.aL != 0)=true from h,cq] at hM;refine cF (j5 c.before c.ca c.e.aL w qL S5 Xo) ⟨fL c.before.enc,rfl,rfl,fL w.enc,ea⟩ ?_;subst hM;refine Ei [] ?_
          repeat' constructor
         ·rw[show(c.e.aL != 0)=false from h,cm] at hM;subst hM;refine Ei [] ?_
          repeat' constructor
        ·rw[show(c.e.kind==1)=false from h,cm] at hM;subst hM;refine Ei [] ?_
         repeat' constructor
       ·have h:(w.a.aF.when==7)=false:=h;rw[if_neg (by simpa using h)] at hM;subst hM;refine Ei [] ?_
        repeat' constructor
theorem O4 (c:eB)(w:bq)(_hs1:c.before.aa.length*128<=aV)(mX:c.after.aa.length*128<=aV)(_ha1:c.ca.length*176<=aV)(uj:c.cg.length*176<=aV)(_ma1:∀ y∈c.ca,aD.ok y)(Qj:∀ y∈c.cg,aD.ok y)(hp:c.after.ok):Ct ae 36 [.agg (c.enc.map .t),.agg (w.enc.map .t)] (aEo (tK c w)) [] true:=by
 refine aEs (b:=false) ?_ rfl;generalize hM:tK c w=M;unfold tK at hM;refine cT Tryz.func36 rfl (by kernel_rfl) rfl fun w0 O _=>aEk [] ?_;refine cS (fun h=>?_) fun h=>?_
 ·have h:(w.a.aF.when==8)=true:=h;rw[if_pos (by simpa using h)] at hM;refine cS (fun h=>?_) fun h=>?_
  ·rw[show(c.e.kind==3)=true from h,cq] at hM;refine cF (kZ c w hp) ⟨fL c.enc,fL w.enc,ea⟩ ?_;subst hM;refine Ei [] ?_
   repeat' constructor
  ·rw[show(c.e.kind==3)=false from h,cm] at hM;subst hM;refine Ei [] ?_
   repeat' constructor
 ·have h:(w.a.aF.when==8)=false:=h;rw[if_neg (by simpa using h)] at hM;refine cS (fun h=>?_) fun h=>?_
  ·have h:(w.a.aF.when==10)=true:=h;rw[if_pos (by simpa using h)] at hM;refine cS (fun h=>?_) fun h=>?_
   ·rw[show(c.e.kind==14)=true from h,cq] at hM;refine cF (kZ c w hp) ⟨fL c.enc,fL w.enc,ea⟩ ?_;subst hM;refine Ei [] ?_
    repeat' constructor
   ·rw[show(c.e.kind==14)=false from h,cm] at hM;subst hM;refine Ei [] ?_
    repeat' constructor
  ·have h:(w.a.aF.when==10)=false:=h;rw[if_neg (by simpa using h)] at hM;refine cS (fun h=>?_) fun h=>?_
   ·have h:(w.a.aF.when==11)=true:=h;rw[if_pos (by simpa using h)] at hM;refine cS (fun h=>?_) fun h=>?_
    ·rw[show(c.e.kind==15)=true from h,cq] at hM;refine cF (kZ c w hp) ⟨fL c.enc,fL w.enc,ea⟩ ?_;subst hM;refine Ei [] ?_
     repeat' constructor
    ·rw[show(c.e.kind==15)=false from h,cm] at hM;subst hM;refine Ei [] ?_
     repeat' constructor
   ·have h:(w.a.aF.when==11)=false:=h;rw[if_neg (by simpa using h)] at hM;refine cS (fun h=>?_) fun h=>?_
    ·have h:(w.a.aF.when==12)=true:=h;rw[if_pos (by simpa using h)] at hM;refine cS (fun h=>?_) fun h=>?_
     ·rw[show(c.e.kind==4)=true from h,cq] at hM;refine cF (kZ c w hp) ⟨fL c.enc,fL w.enc,ea⟩ ?_;subst hM;refine Ei [] ?_
      repeat' constructor
     ·rw[show(c.e.kind==4)=false from h,cm] at hM;subst hM;refine Ei [] ?_
      repeat' constructor
    ·have h:(w.a.aF.when==12)=false:=h;rw[if_neg (by simpa using h)] at hM;refine cS (fun h=>?_) fun h=>?_
     ·have h:(w.a.aF.when==13)=true:=h;rw[if_pos (by simpa using h)] at hM;refine cS (fun h=>?_) fun h=>?_
      ·rw[show(c.e.kind==5)=true from h,cq] at hM;refine cF (kZ c w hp) ⟨fL c.enc,fL w.enc,ea⟩ ?_;subst hM;refine Ei [] ?_
       repeat' constructor
      ·rw[show(c.e.kind==5)=false from h,cm] at hM;subst hM;refine Ei [] ?_
       repeat' constructor
     ·have h:(w.a.aF.when==13)=false:=h;rw[if_neg (by simpa using h)] at hM;refine cS (fun h=>?_) fun h=>?_
      ·have h:(w.a.aF.when==9)=true:=h;rw[if_pos (by simpa using h)] at hM;refine cS (fun h=>?_) fun h=>?_
       ·rw[show(c.e.kind==11)=true from h,cq] at hM;refine cF (kZ c w hp) ⟨fL c.enc,fL w.enc,ea⟩ ?_;refine cS (fun h=>?_) fun h=>?_
        ·rw[show wQ c w=true from h,cq] at hM;refine cF (j5 c.after c.cg c.e.aL w mX uj Qj) ⟨fL c.after.enc,rfl,rfl,fL w.enc,ea⟩ ?_;subst hM;refine Ei [] ?_
         repeat' constructor
        ·rw[show wQ c w=false from h,cm] at hM;subst hM;refine Ei [] ?_
         repeat' constructor
       ·rw[show(c.e.kind==11)=false from h,cm] at hM;subst hM;refine Ei [] ?_
        repeat' constructor
      ·have h:(w.a.aF.when==9)=false:=h;rw[if_neg (by simpa using h)] at hM;subst hM;refine Ei [] ?_
       repeat' constructor
end
end Go.Proofs.YtbmdcnkidjlbbaaGreat
