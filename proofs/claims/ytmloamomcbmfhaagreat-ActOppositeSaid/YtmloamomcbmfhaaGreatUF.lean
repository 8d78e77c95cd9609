/- Parts of the proof, joined: Chapter 33: the law Keeps; The closed facts of the row actOppositeRow; Chapter 33: opposite events undo each other (for ActOpposite). No program in sight; Chapter 33: the law Opposite. -/
import Derived.Test.YtmloamomcbmfhaaGreatUE
set_option maxRecDepth 100000
set_option maxHeartbeats 4000000
section
namespace Go.Proofs.YtmloamomcbmfhaaGreat
open Go Cg Go.RowKit Go.Sort
theorem neF {a b:Int} (h:a=b):(a != b)=false:=by rw [h];simp
theorem actKeeps_ct (a:GAsk) (h:a.ok):Ct Tryz.prog 5 [.agg (a.enc.map .t)] (AV.b true) [] true:=by
 refine Ct.lit (b:=false) ?_ rfl
 obtain ⟨r,hr,hfit⟩:=fits33 a h
 cases r with
 | false=>
  refine ct_of Tryz.func5 rfl (enters_of Tryz.func5 (by kernel_rfl) rfl) tabOk (by kernel_rfl) rfl rfl rfl rfl fun w0 O _=>Tp.run [2,3] ?_
  refine cI hfit ⟨fL a.enc,trivial⟩ (.inl rfl) ?_
  refine Tp.run [] ?_
  refine cI alive33 trivial (.inl rfl) ?_
  refine Ei [] (Ai rfl (Ai ?_ ?_))
  all_goals repeat' first|refine Ai ?_ ?_|exact rfl|exact trivial|exact Ei _ rfl|refine lN ?_|refine bS ?_|fail
 | true=>
  by_cases hb:a.e.kind=10∧a.e.amount > 100
  ·refine ct_of Tryz.func5 rfl (enters_of Tryz.func5 (by kernel_rfl) rfl) tabOk (by kernel_rfl) rfl rfl rfl rfl fun w0 O _=>Tp.run [2,3] ?_
   refine cI hfit ⟨fL a.enc,trivial⟩ (.inl rfl) ?_
   refine cond_t (beq_t hb.1) ?_
   refine cond_t (decide_eq_true hb.2) ?_
   refine Tp.run [] ?_
   refine cI alive33 trivial (.inl rfl) ?_
   refine Ei [] (Ai rfl (Ai ?_ ?_))
   all_goals repeat' first|refine Ai ?_ ?_|exact rfl|exact trivial|exact Ei _ rfl|refine lN ?_|refine bS ?_|fail
  have H:=fit_doH h (hr rfl) fun hk=>by have:¬ a.e.amount > 100:=fun hx=>hb ⟨hk,hx⟩;omega
  have h1:=actdo H
  have hK:=keeps_do H
  have hP:=kp_do a.cards a.s a.all a.e
  have hok:=H.ok
  have hsok:=H.h
  generalize doR a.cards a.s a.all a.e=t at h1 hK hP hok
  have hpl:((((t.players.map GPlayer.enc).length:Nat):Int) != (((a.s.players.map GPlayer.enc).length:Nat):Int))=false:=neF (by rw [Lm,Lm,hP.pl])
  have hni:decide (t.nextId < a.s.nextId)=false:=decide_eq_false (by have:=hK.ks.nid;omega)
  have htn:(t.turn != a.s.turn)=false:=neF hP.tn
  have hov:(t.over != a.s.over)=false:=neF hP.ov
  refine ct_of Tryz.func5 rfl (enters_of Tryz.func5 (by kernel_rfl) rfl) tabOk (by kernel_rfl) rfl rfl rfl rfl fun w0 O _=>Tp.run [2,3,5,6,15,21] ?_
  refine cI hfit ⟨fL a.enc,trivial⟩ (.inl rfl) ?_
  apply joinK (P:=Tryz.prog) (T:=T) (N:=Tryz.f5.ntmps) (w0:=w0) (O:=O) ⟨[(1,.ptr 0 0)],[(0,a.enc.map .t)],[],2176⟩
  case h=>
   intro K
   refine cS (fun hk=>?_) (fun hk=>?_)
   ·refine cond_f (decide_eq_false fun hx=>hb ⟨by simpa using hk,hx⟩) ?_
    refine Tp.wk (wk_of [] rfl rfl ?_ ?_ ?_) K
    all_goals repeat' first|refine Ai ?_ ?_|exact rfl|exact trivial|exact Ei _ rfl|refine lN ?_|refine bS ?_|fail
   ·refine Tp.wk (wk_of [] rfl rfl ?_ ?_ ?_) K
    all_goals repeat' first|refine Ai ?_ ?_|exact rfl|exact trivial|exact Ei _ rfl|refine lN ?_|refine bS ?_|fail
  case key=>
   refine Tp.run [] ?_
   refine cI h1 ⟨rfl,fL a.s.enc,rfl,fL a.e.enc,trivial⟩ (.inr rfl) ?_
   refine cond_f hpl ?_
   refine cond_f hni ?_
   refine cond_f htn ?_
   refine cond_f hov ?_
   refine Tp.run [] ?_
   refine Tp.loop (fun k:Nat=>⟨[(1,.ptr 0 0),(3,.ptr 3328 0),(67,AV.i (t.players.map GPlayer.enc).length),(68,AV.i k)],[(0,a.enc.map .t),(3328,t.enc.map .t)],[],10000⟩) (fun k=>k≤t.players.length) (fun k=>t.players.length - k) 0 ?_ (Nat.zero_le _) ?_
   ·refine wk_of [] rfl rfl ?_ ?_ ?_
    all_goals repeat' first|refine Ai ?_ ?_|exact rfl|exact trivial|exact Ei _ rfl|refine lN ?_|refine bS ?_|fail
   rintro k hk
   refine Tp.run [8,11,12,13,14] ?_
   refine cS (fun hc=>?_) (fun hc=>?_)
   ·have hlt:=len_lt hc
    have hlts:k < a.s.players.length:=by rw [← hP.pl];exact hlt
    have hlf:¬ ((a.e.kind=4∨a.e.kind=5)∧a.e.player=(k:Int))→t.players[k].life=a.s.players[k].life:=fun hx=>by
     have:=hK.lf k hx
     rw [List.getElem?_eq_getElem hlt,List.getElem?_eq_getElem hlts] at this
     exact Option.some.inj this
    have o1:=owned33 t k hok
    have o2:=owned33 a.s k hsok
    rw [hK.ks.own k] at o1
    refine Tp.run [] ?_
    refine cI o1 ⟨fL t.enc,rfl,trivial⟩ (.inl rfl) ?_
    refine cI o2 ⟨fL a.s.enc,rfl,trivial⟩ (.inl rfl) ?_
    refine cond_f (neF rfl) ?_
    refine Tp.run [] ?_
    refine cS (fun k4=>?_) (fun k4=>?_)
    ·refine Tp.run [] ?_
     refine cond_n (cS (fun hq=>?_) (fun hq=>?_))
     ·refine Tp.run [] ?_
      refine Ei (k+1) (Ai (show k+1≤_ by omega) (Ai (show t.players.length - (k+1) < t.players.length - k by omega) ?_))
      refine wk_of [] rfl rfl ?_ ?_ ?_
      ·repeat' first|refine Ai ?_ ?_|exact rfl|exact trivial|exact Ei _ rfl|refine lN ?_|refine bS ?_|fail
       exact succ_eq k hlt 152 (by decide) hok.1
      all_goals repeat' first|refine Ai ?_ ?_|exact rfl|exact trivial|exact Ei _ rfl|refine lN ?_|refine bS ?_|fail
     ·have hq:¬ a.e.player=(k:Int):=fun hx=>by
       rw [hx] at hq
       simp at hq
      refine Ei k (Ei _ (Ai rfl (Ai (map_get _ _ k hlt) ?_)))
      refine Ei k (Ei _ (Ai rfl (Ai (map_get _ _ k hlts) ?_)))
      refine cond_f (neF (hlf fun hx=>hq hx.2)) ?_
      refine Tp.run [] ?_
      refine Ei (k+1) (Ai (show k+1≤_ by omega) (Ai (show t.players.length - (k+1) < t.players.length - k by omega) ?_))
      refine wk_of [] rfl rfl ?_ ?_ ?_
      ·repeat' first|refine Ai ?_ ?_|exact rfl|exact trivial|exact Ei _ rfl|refine lN ?_|refine bS ?_|fail
       exact succ_eq k hlt 152 (by decide) hok.1
      all_goals repeat' first|refine Ai ?_ ?_|exact rfl|exact trivial|exact Ei _ rfl|refine lN ?_|refine bS ?_|fail
    ·by_cases k5:a.e.kind=5
     ·refine Tp.run [] ?_
      refine cond_t (beq_t k5) ?_
      refine cond_n (cS (fun hq=>?_) (fun hq=>?_))
      ·refine Tp.run [] ?_
       refine Ei (k+1) (Ai (show k+1≤_ by omega) (Ai (show t.players.length - (k+1) < t.players.length - k by omega) ?_))
       refine wk_of [] rfl rfl ?_ ?_ ?_
       ·repeat' first|refine Ai ?_ ?_|exact rfl|exact trivial|exact Ei _ rfl|refine lN ?_|refine bS ?_|fail
        exact succ_eq k hlt 152 (by decide) hok.1
       all_goals repeat' first|refine Ai ?_ ?_|exact rfl|exact trivial|exact Ei _ rfl|refine lN ?_|refine bS ?_|fail
      ·have hq:¬ a.e.player=(k:Int):=fun hx=>by
        rw [hx] at hq
        simp at hq
       refine Ei k (Ei _ (Ai rfl (Ai (map_get _ _ k hlt) ?_)))
       refine Ei k (Ei _ (Ai rfl (Ai (map_get _ _ k hlts) ?_)))
       refine cond_f (neF (hlf fun hx=>hq hx.2)) ?_
       refine Tp.run [] ?_
       refine Ei (k+1) (Ai (show k+1≤_ by omega) (Ai (show t.players.length - (k+1) < t.players.length - k by omega) ?_))
       refine wk_of [] rfl rfl ?_ ?_ ?_
       ·repeat' first|refine Ai ?_ ?_|exact rfl|exact trivial|exact Ei _ rfl|refine lN ?_|refine bS ?_|fail
        exact succ_eq k hlt 152 (by decide) hok.1
       all_goals repeat' first|refine Ai ?_ ?_|exact rfl|exact trivial|exact Ei _ rfl|refine lN ?_|refine bS ?_|fail
     ·have k4:¬ a.e.kind=4:=by simpa using k4
      refine Tp.run [] ?_
      refine cond_f (beq_eq_false_iff_ne.2 k5) ?_
      refine Ei k (Ei _ (Ai rfl (Ai (map_get _ _ k hlt) ?_)))
      refine Ei k (Ei _ (Ai rfl (Ai (map_get _ _ k hlts) ?_)))
      refine cond_f (neF (hlf fun hx=>hx.1.elim k4 k5)) ?_
      refine Tp.run [] ?_
      refine Ei (k+1) (Ai (show k+1≤_ by omega) (Ai (show t.players.length - (k+1) < t.players.length - k by omega) ?_))
      refine wk_of [] rfl rfl ?_ ?_ ?_
      ·repeat' first|refine Ai ?_ ?_|exact rfl|exact trivial|exact Ei _ rfl|refine lN ?_|refine bS ?_|fail
       exact succ_eq k hlt 152 (by decide) hok.1
      all_goals repeat' first|refine Ai ?_ ?_|exact rfl|exact trivial|exact Ei _ rfl|refine lN ?_|refine bS ?_|fail
   ·have hke:=len_ge hc hk
    subst hke
    refine Tp.run [] ?_
    refine Tp.loop (fun k:Nat=>⟨[(1,.ptr 0 0),(3,.ptr 3328 0),(116,.c (.t (.sl 19 (t.objects.map GObject.enc)))),(117,AV.i (t.objects.map GObject.enc).length),(118,AV.i k)],[(0,a.enc.map .t),(3328,t.enc.map .t)],[],20000⟩) (fun k=>k≤t.objects.length) (fun k=>t.objects.length - k) 0 ?_ (Nat.zero_le _) ?_
    ·refine wk_of [] rfl rfl ?_ ?_ ?_
     all_goals repeat' first|refine Ai ?_ ?_|exact rfl|exact trivial|exact Ei _ rfl|refine lN ?_|refine bS ?_|fail
    rintro k hk
    refine Tp.run [18,20,21] ?_
    refine cS (fun hc=>?_) (fun hc=>?_)
    ·have hlt:=len_lt hc
     have hn:=hK.ks.new t.objects[k] (List.getElem_mem hlt)
     have hh:=has33 a.s t.objects[k].id hsok
     refine Ei k (Ei _ (Ai rfl (Ai (map_get _ _ k hlt) ?_)))
     refine Tp.run [] ?_
     refine cS (fun hi=>?_) (fun hi=>?_)
     ·rw [hn (of_decide_eq_true hi)] at hh
      refine cI hh ⟨fL a.s.enc,rfl,trivial⟩ (.inl rfl) ?_
      refine Tp.run [] ?_
      refine Ei (k+1) (Ai (show k+1≤_ by omega) (Ai (show t.objects.length - (k+1) < t.objects.length - k by omega) ?_))
      refine wk_of [] rfl rfl ?_ ?_ ?_
      ·repeat' first|refine Ai ?_ ?_|exact rfl|exact trivial|exact Ei _ rfl|refine lN ?_|refine bS ?_|fail
       exact succ_eq k hlt 128 (by decide) hok.2.2.1
      all_goals repeat' first|refine Ai ?_ ?_|exact rfl|exact trivial|exact Ei _ rfl|refine lN ?_|refine bS ?_|fail
     ·refine Tp.run [] ?_
      refine Ei (k+1) (Ai (show k+1≤_ by omega) (Ai (show t.objects.length - (k+1) < t.objects.length - k by omega) ?_))
      refine wk_of [] rfl rfl ?_ ?_ ?_
      ·repeat' first|refine Ai ?_ ?_|exact rfl|exact trivial|exact Ei _ rfl|refine lN ?_|refine bS ?_|fail
       exact succ_eq k hlt 128 (by decide) hok.2.2.1
      all_goals repeat' first|refine Ai ?_ ?_|exact rfl|exact trivial|exact Ei _ rfl|refine lN ?_|refine bS ?_|fail
    ·refine Tp.run [] ?_
     refine cI alive33 trivial (.inl rfl) ?_
     refine Ei [] (Ai rfl (Ai ?_ ?_))
     all_goals repeat' first|refine Ai ?_ ?_|exact rfl|exact trivial|exact Ei _ rfl|refine lN ?_|refine bS ?_|fail
end Go.Proofs.YtmloamomcbmfhaaGreat
end
section
namespace Go.Proofs.YtmloamomcbmfhaaGreat
open Go
theorem actOpposite_k0:(Rows.actOppositeRow.wf (OpenSpec.ofChange Rows.actOppositeSpec))=true:=by kernel_rfl
theorem actOpposite_k3:(Tryz.f6.params.all (Tryz.prog.readableRec ·))=true:=by kernel_rfl
theorem actOpposite_k4:(namedTie Tryz.prog Rows.actOppositeRow.named Rows.actOppositeSpec.vars)=true:=by kernel_rfl
theorem actOpposite_k5:((Rows.actOppositeRow.stops==[]))=true:=by kernel_rfl
theorem actOpposite_k7:((Rows.actOppositeRow.knobs==[]))=true:=by kernel_rfl
theorem actOpposite_k9:((Rows.actOppositeRow.inPlace==Tryz.prog.inPlace 6))=true:=by kernel_rfl
theorem actOpposite_k10:((Rows.actOppositeRow.unfollowed==Tryz.prog.unfollowed 6))=true:=by kernel_rfl
theorem actOpposite_k11:((Rows.actOppositeRow.recurses==Tryz.prog.recurses 6))=true:=by kernel_rfl
theorem actOpposite_k12:((Rows.actOppositeRow.named==Tryz.prog.varsNamed 6))=true:=by kernel_rfl
theorem actOpposite_k13:((Rows.actOppositeRow.maps==(Tryz.f6.params.toList++Rows.actOppositeSpec.plain.varTypes Tryz.prog).any (Tryz.prog.mapsRec ·)))=true:=by kernel_rfl
theorem actOpposite_k14:((Rows.actOppositeRow.ifaces==(Tryz.f6.params.toList++Rows.actOppositeSpec.plain.varTypes Tryz.prog).any (Tryz.prog.ifacesRec ·)))=true:=by kernel_rfl
theorem actOpposite_k15:((Rows.actOppositeRow.mapsOut==Tryz.prog.mapsAmong Tryz.f6.resultTypes.toList))=true:=by kernel_rfl
theorem actOpposite_k16:((Rows.actOppositeRow.loops==(Tryz.f6.params.toList++Rows.actOppositeSpec.plain.varTypes Tryz.prog).any (Tryz.prog.loopsFrom ·)))=true:=by kernel_rfl
theorem actOpposite_k17:((Rows.actOppositeRow.wideKeys==(Tryz.f6.params.toList++Rows.actOppositeSpec.plain.varTypes Tryz.prog++Tryz.f6.resultTypes.toList).any (Tryz.prog.wideKeysFrom ·)))=true:=by kernel_rfl
theorem actOpposite_k18:(Rows.actOppositeSpec.vars.all (Tryz.prog.varReadable ·))=true:=by kernel_rfl
theorem actOpposite_k19:(Tryz.f6.resultTypes.all (fun t=>Tryz.prog.readableRec t&&decide (t < Tryz.prog.types.size)))=true:=by kernel_rfl
theorem actOpposite_k20:((Rows.actOppositeRow.ifacesOut==Tryz.f6.resultTypes.toList.any (Tryz.prog.ifacesRec ·)))=true:=by kernel_rfl
theorem actOpposite_k21:((Rows.actOppositeRow.loopsOut==Tryz.f6.resultTypes.toList.any (Tryz.prog.loopsFrom ·)))=true:=by kernel_rfl
theorem actOpposite_k22:((Rows.actOppositeRow.plainKeys==Tryz.prog.plainKeys))=true:=by kernel_rfl
theorem actOpposite_k23:(Rows.actOppositeRow.shortTexts.isNone)=true:=by kernel_rfl
theorem actOpposite_k26:((Rows.actOppositeRow.lifted==Tryz.prog.liftsFinal))=true:=by kernel_rfl
theorem actOpposite_k27:((Tryz.prog.make==some Rows.actOppositeRow.make))=true:=by kernel_rfl
theorem actOpposite_k28:((Rows.actOppositeRow.kinds==(if Rows.actOppositeRow.domain.isEmpty then [] else Tryz.f6.params.toList.map fun t=>match Tryz.prog.underlying t with|some (.int k)=>some k|_=>none)))=true:=by kernel_rfl
theorem actOpposite_k29:((Rows.actOppositeRow.pinned==Rows.actOppositeRow.pinnedBy))=true:=by kernel_rfl
theorem actOpposite_k30:((Rows.actOppositeRow.veiled==(Tryz.f6.params.toList++Rows.actOppositeSpec.plain.varTypes Tryz.prog++Tryz.f6.resultTypes.toList).any (Tryz.prog.veiledRec ·)))=true:=by kernel_rfl
theorem actOpposite_k31:(Rows.actOppositeRow.veiledFits Tryz.prog Tryz.f6.params.toList (Tryz.f6.params.toList++Rows.actOppositeSpec.plain.varTypes Tryz.prog++Tryz.f6.resultTypes.toList))=true:=by kernel_rfl
theorem actOpposite_closed:joinedFacts Tryz.prog 6 Tryz.f6 Rows.actOppositeSpec Rows.actOppositeRow=true:=by
 unfold joinedFacts
 exact band (band (band (band (band (band (band (band (band (band (band (band (band (band (band (band (band (band (band (band (band (band (band (band (band (band (band (band (band (band (band (actOpposite_k0) pf_1) pf_2) actOpposite_k3) actOpposite_k4) actOpposite_k5) pf_6) actOpposite_k7) pf_8) actOpposite_k9) actOpposite_k10) actOpposite_k11) actOpposite_k12) actOpposite_k13) actOpposite_k14) actOpposite_k15) actOpposite_k16) actOpposite_k17) actOpposite_k18) actOpposite_k19) actOpposite_k20) actOpposite_k21) actOpposite_k22) actOpposite_k23) pf_24) pf_25) actOpposite_k26) actOpposite_k27) actOpposite_k28) actOpposite_k29) actOpposite_k30) actOpposite_k31
theorem actOpposite_inst:Tryz.f6.isInstance Tryz.prog Rows.actOppositeRow.origin Rows.actOppositeRow.targs:=of_decide_eq_true (by kernel_rfl)
theorem actOpposite_wrap:Tryz.f6.isWrapper Tryz.prog Rows.actOppositeRow.wrapper Rows.actOppositeRow.mainSum:=by unfold Func.isWrapper;first|(rw [if_pos (by decide +kernel)];kernel_rfl)|(rw [if_neg (by decide +kernel)];exact ⟨rfl,rfl⟩)
theorem actOpposite_named:Tryz.prog.funcNamed Rows.actOppositeRow.func=some 6:=by kernel_rfl
end Go.Proofs.YtmloamomcbmfhaaGreat
end
section
namespace Go.Proofs.YtmloamomcbmfhaaGreat
open Go Cg
section
variable {q:Opq}
def backE (e:GEvent):GEvent:={ e with kind:=if e.kind=4 then 5 else if e.kind=8 then 9 else 7 }
structure OppH (s:GState) (e:GEvent):Prop where
 k:e.kind=4∨e.kind=8∨e.kind=6
 am:e.amount≤1000
 lf:∀ p∈s.players,p.life≤900000
 ct:∀ o∈s.objects,o.counters0≤900000∧o.counters1≤900000∧o.counters2≤900000
theorem add_back {c n:Int} (h0:-1000000≤c) (h1:c≤900000) (h2:1≤n) (h3:n≤1000):addM c n=c+n∧subM (c+n) n=c:=by
 unfold addM subM
 rw [clamp_eq h0 (by omega),clamp_eq (n:=n) (by omega) (by omega),clamp_eq (n:=c+n) (by omega) (by omega)]
 exact ⟨rfl,by rw [show c+n - n=c by omega,clamp_eq h0 (by omega)]⟩
theorem cup_back {i k c n:Int} (h0:0≤c) (h1:c≤900000) (h2:1≤n) (h3:n≤1000):upC i k (upC i k c n) (IntKind.i64.wrap (0 - n))=c:=by
 have hw:IntKind.i64.wrap (0 - n) = -n:=by rw [IntKind.wrap_i64];omega
 rw [hw]
 unfold upC
 by_cases hk:k=i
 ·rw [if_pos hk,if_pos hk]
  unfold cupM addM
  rw [clamp_eq (n:=c) (by omega) (by omega),clamp_eq (n:=n) (by omega) (by omega),clamp_eq (n:=c+n) (by omega) (by omega),if_pos (show c+n > 0 by omega),clamp_eq (n:=c+n) (by omega) (by omega),clamp_eq (n:=-n) (by omega) (by omega),show c+n+-n=c by omega,clamp_eq (n:=c) (by omega) (by omega)]
  split
  ·rfl
  ·omega
 ·rw [if_neg hk,if_neg hk]
theorem set_back {α:Type} {l:List α} {i:Nat} {x:α} (y:α) (h:l[i]? = some x):(l.set i y).set i x=l:=by
 rw [List.set_set]
 exact set_eq_self h
theorem mark_back {c:Int} {n:Int} {o:GObject} (hv:ObjV c n o) (d d':Bool) (e:GEvent) (hk:e.kind=8∨e.kind=6) (hb:o.counters0≤900000∧o.counters1≤900000∧o.counters2≤900000) (ha:e.kind=8→1≤e.amount∧e.amount≤1000) (ht:e.kind=6→o.tapped=false):markM d' (backE e) (markM d e o)=o:=by
 rcases hk with hk|hk
 ·have hbk:(backE e).kind=9:=by show (if e.kind=4 then (5:Int) else if e.kind=8 then 9 else 7)=9;rw [hk];rfl
  have c0:=hv.c0
  have c1:=hv.c1
  have c2:=hv.c2
  obtain ⟨a1,a2⟩:=ha hk
  unfold markM
  rw [hk,hbk]
  show ({ o with counters0:=upC 0 e.counter (upC 0 e.counter o.counters0 e.amount) (IntKind.i64.wrap (0 - e.amount)),counters1:=upC 1 e.counter (upC 1 e.counter o.counters1 e.amount) (IntKind.i64.wrap (0 - e.amount)),counters2:=upC 2 e.counter (upC 2 e.counter o.counters2 e.amount) (IntKind.i64.wrap (0 - e.amount)) }:GObject)=o
  rw [cup_back c0.1 hb.1 a1 a2,cup_back c1.1 hb.2.1 a1 a2,cup_back c2.1 hb.2.2 a1 a2]
 ·have hbk:(backE e).kind=7:=by show (if e.kind=4 then (5:Int) else if e.kind=8 then 9 else 7)=7;rw [hk];rfl
  unfold markM
  rw [hk,hbk]
  show ({ o with tapped:=false }:GObject)=o
  rw [← ht hk]
theorem idx_same {l:List GObject} (hs:l.Pairwise fun a b=>a.id < b.id) {i j:Nat} (hi:i < l.length) (hj:j < l.length) (e:l[i].id=l[j].id):i=j:=by
 have hp:=List.pairwise_iff_getElem.1 hs
 rcases Nat.lt_trichotomy i j with h|h|h
 ·have:=hp i j hi hj h
  omega
 ·exact h
 ·have:=hp j i hj hi h
  omega
theorem opp_back {cards:List GCard} {s:GState} {all:List GTraits} {e:GEvent} (H:DoH q cards s all e) (O:OppH s e) (hev:evM cards s e=true):DoH q cards (doR cards s all e) all (backE e)∧doR cards (doR cards s all e) all (backE e)=s:=by
 have hst:=H.step.val
 have hok:=H.ok
 obtain ⟨hc,mc,h,ha,ma,hv,hn,_⟩:=H
 have hkb:(backE e).kind≠10:=by
  show (if e.kind=4 then (5:Int) else if e.kind=8 then 9 else 7)≠10
  split
  ·decide
  split <;> decide
 rcases ev_cases hv hev with ⟨hk,_,_,_⟩|⟨hk,_,_,_⟩|⟨hk,_⟩|⟨hk,a1,a2⟩|⟨hk,a1,am,a6,a8,_⟩|⟨hk,_⟩|hk
 ·have:=O.k;omega
 ·have:=O.k;omega
 ·have:=O.k;omega
 ·have k4:e.kind=4:=by have:=O.k;omega
  have am:amtM e.amount=true:=a2.resolve_left (by omega)
  have hbk:(backE e).kind=5:=by show (if e.kind=4 then (5:Int) else _)=5;rw [if_pos k4]
  obtain ⟨p1,p2⟩:=livM_t a1
  obtain ⟨i,hpe⟩:∃ i:Nat,e.player=i:=⟨e.player.toNat,by omega⟩
  have hi:i < s.players.length:=by omega
  have hg:s.players[i]? = some s.players[i]:=List.getElem?_eq_getElem hi
  have hply:=plyN_iff.1 (hv.ply _ (List.getElem_mem hi))
  obtain ⟨b1,b2⟩:=add_back hply.1.1 (O.lf _ (List.getElem_mem hi)) (amtM_t am).1 O.am
  have hm:doR cards s all e={ s with players:=s.players.set i { s.players[i] with life:=addM s.players[i].life e.amount } }:=by
   rw [do_life hev (.inl k4),lifeM_eq hi hpe]
   unfold chM
   rw [if_pos k4]
  rw [hm] at hst hok ⊢
  have hlv:livM { s with players:=s.players.set i { s.players[i] with life:=addM s.players[i].life e.amount } } e.player=true:=by
   unfold livM at a1 ⊢
   rw [hpe,Int.toNat_natCast] at a1 ⊢
   rw [hg] at a1
   rw [List.getElem?_set_self hi]
   exact a1
  have hev2:evM cards { s with players:=s.players.set i { s.players[i] with life:=addM s.players[i].life e.amount } } (backE e)=true:=by
   unfold evM
   rw [hbk,if_neg (by decide),if_neg (by decide),if_neg (by decide),if_pos (by decide),Bool.and_eq_true]
   exact ⟨hlv,am⟩
  refine ⟨⟨hc,mc,hok,ha,ma,hst,hn,fun h=>absurd h hkb⟩,?_⟩
  have hi2:i < (s.players.set i { s.players[i] with life:=addM s.players[i].life e.amount }).length:=by rw [List.length_set];exact hi
  rw [do_life hev2 (by omega),lifeM_eq (e:=backE e) hi2 hpe]
  unfold chM
  rw [hbk]
  simp only [List.getElem_set_self]
  rw [if_neg (by decide),if_pos (by decide),show (backE e).amount=e.amount from rfl,b1,b2]
  simp only
  rw [set_back (l:=s.players) (x:=s.players[i]) _ hg]
 ·have hk':e.kind=8∨e.kind=6:=by have:=O.k;omega
  have hh:=(here_t a1).1
  obtain ⟨i,hi,h1,h2,h3⟩:=has_idx hh
  have hb:=obj_val hv (List.getElem_mem hi)
  have hmk:=mark_back hb (deadM s all e.source) (deadM (doR cards s all e) all (backE e).source) e hk' (O.ct _ (List.getElem_mem hi)) (fun h8=>⟨(amtM_t (am (.inr (.inl h8)))).1,O.am⟩) (fun h6=>by have:=a6 h6;rwa [h2] at this)
  have hm:doR cards s all e={ s with objects:=s.objects.set i (markM (deadM s all e.source) e s.objects[i]) }:=by rw [do_obj hev hk,objM_eq hi h1 h2 h3 hh (by omega)]
  have hput:putM s (markM (deadM s all e.source) e s.objects[i])={ s with objects:=s.objects.set i (markM (deadM s all e.source) e s.objects[i]) }:=put_at h1 ((mark_f _ e _).1.trans h3)
  have mf:=mark_f (deadM s all e.source) e s.objects[i]
  have hr2:=put_here hv (List.getElem_mem hi) (o':=markM (deadM s all e.source) e s.objects[i]) mf.1 mf.2.1 a1
  rw [hput,← hm] at hr2
  have hmo:(doR cards s all e).objects=s.objects.set i (markM (deadM s all e.source) e s.objects[i]):=by rw [hm]
  have hi2:i < (doR cards s all e).objects.length:=by rw [hmo,List.length_set];exact hi
  have hgi:(doR cards s all e).objects[i]=markM (deadM s all e.source) e s.objects[i]:=by simp only [hmo,List.getElem_set_self]
  have hh2:=(here_t hr2).1
  obtain ⟨j,hj,g1,g2,g3⟩:=has_idx hh2
  have hji:j=i:=idx_same hst.srt hj hi2 (by rw [g3,hgi,mf.1,h3])
  subst hji
  have hev2:evM cards (doR cards s all e) (backE e)=true:=by
   rcases hk' with h8|h6
   ·have hbk:(backE e).kind=9:=by show (if e.kind=4 then (5:Int) else if e.kind=8 then 9 else 7)=9;rw [h8];rfl
    obtain ⟨b1,b2⟩:=a8 (.inl h8)
    unfold evM
    rw [hbk,if_neg (by decide),if_neg (by decide),if_neg (by decide),if_neg (by decide),if_neg (by decide),if_neg (by decide),if_pos (by decide)]
    simp only [Bool.and_eq_true,decide_eq_true_eq]
    exact ⟨hr2,b1,b2,am (.inr (.inl h8))⟩
   ·have hbk:(backE e).kind=7:=by show (if e.kind=4 then (5:Int) else if e.kind=8 then 9 else 7)=7;rw [h6];rfl
    unfold evM
    rw [hbk,if_neg (by decide),if_neg (by decide),if_neg (by decide),if_neg (by decide),if_neg (by decide),if_pos (by decide),Bool.and_eq_true]
    refine ⟨hr2,?_⟩
    show (findM (doR cards s all e).objects e.object).tapped=true
    rw [g2,hgi]
    unfold markM
    rw [h6]
    rfl
  have hbo:(backE e).kind=9∨(backE e).kind=7:=by
   show (if e.kind=4 then (5:Int) else if e.kind=8 then 9 else 7)=9∨(if e.kind=4 then (5:Int) else if e.kind=8 then 9 else 7)=7
   rcases hk' with h8|h6
   ·rw [h8];exact .inl rfl
   ·rw [h6];exact .inr rfl
  have hnx:(doR cards s all e).nextId=s.nextId∧(doR cards s all e).nextStamp=s.nextStamp:=by rw [hm];exact ⟨rfl,rfl⟩
  refine ⟨⟨hc,mc,hok,ha,ma,hst,by omega,fun h=>absurd h hkb⟩,?_⟩
  rw [do_obj hev2 (by omega),objM_eq (e:=backE e) hj g1 g2 g3 hh2 (by omega),hgi,hmk,hmo]
  rw [set_back _ (List.getElem?_eq_getElem hi),hm]
 ·have:=O.k;omega
 ·have:=O.k;omega
end
end Go.Proofs.YtmloamomcbmfhaaGreat
end
section
namespace Go.Proofs.YtmloamomcbmfhaaGreat
open Go Cg Go.RowKit Go.Sort
theorem actOpposite_ct (a:GAsk) (h:a.ok):Ct Tryz.prog 6 [.agg (a.enc.map .t)] (AV.b true) [] true:=by
 refine Ct.lit (b:=false) ?_ rfl
 obtain ⟨r,hr,hfit⟩:=fits33 a h
 by_cases hK:a.e.kind=4∨a.e.kind=8∨a.e.kind=6
 case neg=>
  have n4:¬ a.e.kind=4:=fun h=>hK (.inl h)
  have n8:¬ a.e.kind=8:=fun h=>hK (.inr (.inl h))
  have n6:¬ a.e.kind=6:=fun h=>hK (.inr (.inr h))
  refine ct_of Tryz.func6 rfl (enters_of Tryz.func6 (by kernel_rfl) rfl) tabOk (by kernel_rfl) rfl rfl rfl rfl fun w0 O _=>Tp.run [2,3,5,7,9,10,11,12,16,18,22,24,26,27] ?_
  refine Tp.run [] ?_
  refine cond_f (beq_eq_false_iff_ne.2 n4) ?_
  refine cond_f (beq_eq_false_iff_ne.2 n8) ?_
  refine cond_f (beq_eq_false_iff_ne.2 n6) ?_
  refine Tp.run [] ?_
  refine cI alive33 trivial (.inl rfl) ?_
  refine Ei [] (Ai rfl (Ai ?_ ?_))
  all_goals repeat' first|refine Ai ?_ ?_|exact rfl|exact trivial|exact Ei _ rfl|refine lN ?_|refine bS ?_|fail
 refine ct_of Tryz.func6 rfl (enters_of Tryz.func6 (by kernel_rfl) rfl) tabOk (by kernel_rfl) rfl rfl rfl rfl fun w0 O _=>Tp.run [2,3,5,7,9,10,11,12,16,18,22,24,26,27] ?_
 apply joinK (P:=Tryz.prog) (T:=T) (N:=Tryz.f6.ntmps) (w0:=w0) (O:=O) ⟨[(1,.ptr 0 0),(3,.ptr 768 0),(4,.ptr 896 0)],[(0,a.enc.map .t),(768,a.e.enc.map .t),(896,(backE a.e).enc.map .t)],[],20000⟩
 case h=>
  intro K
  refine Tp.run [] ?_
  rcases hK with hk|hk|hk
  all_goals
   repeat' (first|refine cond_t (beq_t hk) ?_|refine cond_f (beq_f hk (by decide)) ?_)
   refine Tp.run [] ?_
   refine Tp.wk (wk_of [] rfl rfl ?_ ?_ ?_) K
   ·repeat' first|refine Ai ?_ ?_|exact rfl|exact trivial|exact Ei _ rfl|refine lN ?_|refine bS ?_|fail
   ·repeat' first|refine Ai ?_ ?_|exact rfl|exact trivial|exact Ei _ rfl|refine lN ?_|refine bS ?_|fail
    all_goals exact congrArg iv (by show _=(if a.e.kind=4 then (5:Int) else if a.e.kind=8 then 9 else 7);rw [hk];rfl)
   ·repeat' first|refine Ai ?_ ?_|exact rfl|exact trivial|exact Ei _ rfl|refine lN ?_|refine bS ?_|fail
 case key=>
  refine Tp.run [] ?_
  refine cI hfit ⟨fL a.enc,trivial⟩ (.inl rfl) ?_
  cases r with
  | false=>
   refine Tp.run [] ?_
   refine cI alive33 trivial (.inl rfl) ?_
   refine Ei [] (Ai rfl (Ai ?_ ?_))
   all_goals repeat' first|refine Ai ?_ ?_|exact rfl|exact trivial|exact Ei _ rfl|refine lN ?_|refine bS ?_|fail
  | true=>
   refine cS (fun hb=>?_) (fun hb=>?_)
   ·refine Tp.run [] ?_
    refine cI alive33 trivial (.inl rfl) ?_
    refine Ei [] (Ai rfl (Ai ?_ ?_))
    all_goals repeat' first|refine Ai ?_ ?_|exact rfl|exact trivial|exact Ei _ rfl|refine lN ?_|refine bS ?_|fail
   have hb:a.e.amount≤1000:=by have:=of_decide_eq_false hb;omega
   have H:=fit_doH h (hr rfl) fun hk=>by omega
   have hsok:=H.h
   refine Tp.run [] ?_
   refine Tp.loop (fun k:Nat=>⟨[(1,.ptr 0 0),(3,.ptr 768 0),(4,.ptr 896 0),(37,.c (.t (.sl 14 (a.s.players.map GPlayer.enc)))),(38,AV.i (a.s.players.map GPlayer.enc).length),(39,AV.i k)],[(0,a.enc.map .t),(768,a.e.enc.map .t),(896,(backE a.e).enc.map .t)],[],30000⟩) (fun k=>k≤a.s.players.length∧∀ j (h:j < a.s.players.length),j < k→a.s.players[j].life≤900000) (fun k=>a.s.players.length - k) 0 ?_ ⟨Nat.zero_le _,fun j _ hj=>by omega⟩ ?_
   ·refine wk_of [] rfl rfl ?_ ?_ ?_
    all_goals repeat' first|refine Ai ?_ ?_|exact rfl|exact trivial|exact Ei _ rfl|refine lN ?_|refine bS ?_|fail
   rintro k ⟨hk,hlf⟩
   refine Tp.run [15,16,17,18] ?_
   refine cS (fun hc=>?_) (fun hc=>?_)
   ·have hlt:=len_lt hc
    refine Ei k (Ei _ (Ai rfl (Ai (map_get _ _ k hlt) ?_)))
    refine Tp.run [] ?_
    refine cS (fun hq=>?_) (fun hq=>?_)
    ·refine Tp.run [] ?_
     refine cI alive33 trivial (.inl rfl) ?_
     refine Ei [] (Ai rfl (Ai ?_ ?_))
     all_goals repeat' first|refine Ai ?_ ?_|exact rfl|exact trivial|exact Ei _ rfl|refine lN ?_|refine bS ?_|fail
    have hq:a.s.players[k].life≤900000:=by have:=of_decide_eq_false hq;omega
    refine Tp.run [] ?_
    refine Ei (k+1) (Ai ⟨by omega,fun j hj hjk=>(show j < k∨j=k by omega).elim (hlf j hj) fun e=>by subst e;exact hq⟩ (Ai (show a.s.players.length - (k+1) < a.s.players.length - k by omega) ?_))
    refine wk_of [] rfl rfl ?_ ?_ ?_
    ·repeat' first|refine Ai ?_ ?_|exact rfl|exact trivial|exact Ei _ rfl|refine lN ?_|refine bS ?_|fail
     exact succ_eq k hlt 152 (by decide) hsok.1
    all_goals repeat' first|refine Ai ?_ ?_|exact rfl|exact trivial|exact Ei _ rfl|refine lN ?_|refine bS ?_|fail
   have hke:=len_ge hc hk
   subst hke
   clear hc hk
   refine Tp.run [] ?_
   refine Tp.loop (fun k:Nat=>⟨[(1,.ptr 0 0),(3,.ptr 768 0),(4,.ptr 896 0),(50,.c (.t (.sl 19 (a.s.objects.map GObject.enc)))),(51,AV.i (a.s.objects.map GObject.enc).length),(52,AV.i k)],[(0,a.enc.map .t),(768,a.e.enc.map .t),(896,(backE a.e).enc.map .t)],[],40000⟩) (fun k=>k≤a.s.objects.length∧∀ j (h:j < a.s.objects.length),j < k→a.s.objects[j].counters0≤900000∧a.s.objects[j].counters1≤900000∧a.s.objects[j].counters2≤900000) (fun k=>a.s.objects.length - k) 0 ?_ ⟨Nat.zero_le _,fun j _ hj=>by omega⟩ ?_
   ·refine wk_of [] rfl rfl ?_ ?_ ?_
    all_goals repeat' first|refine Ai ?_ ?_|exact rfl|exact trivial|exact Ei _ rfl|refine lN ?_|refine bS ?_|fail
   rintro k ⟨hk,hct⟩
   refine Tp.run [21,22,23,24] ?_
   refine cS (fun hc=>?_) (fun hc=>?_)
   ·have hlt:=len_lt hc
    refine Ei k (Ei _ (Ai rfl (Ai (map_get _ _ k hlt) ?_)))
    refine Tp.run [] ?_
    refine Ei 0 (Ai rfl (Ai (by decide) ?_))
    refine cS (fun q0=>?_) (fun q0=>?_)
    ·refine Tp.run [] ?_
     refine cI alive33 trivial (.inl rfl) ?_
     refine Ei [] (Ai rfl (Ai ?_ ?_))
     all_goals repeat' first|refine Ai ?_ ?_|exact rfl|exact trivial|exact Ei _ rfl|refine lN ?_|refine bS ?_|fail
    refine Ei 1 (Ai rfl (Ai (by decide) ?_))
    refine cS (fun q1=>?_) (fun q1=>?_)
    ·refine Tp.run [] ?_
     refine cI alive33 trivial (.inl rfl) ?_
     refine Ei [] (Ai rfl (Ai ?_ ?_))
     all_goals repeat' first|refine Ai ?_ ?_|exact rfl|exact trivial|exact Ei _ rfl|refine lN ?_|refine bS ?_|fail
    refine Ei 2 (Ai rfl (Ai (by decide) ?_))
    refine cS (fun q2=>?_) (fun q2=>?_)
    ·refine Tp.run [] ?_
     refine cI alive33 trivial (.inl rfl) ?_
     refine Ei [] (Ai rfl (Ai ?_ ?_))
     all_goals repeat' first|refine Ai ?_ ?_|exact rfl|exact trivial|exact Ei _ rfl|refine lN ?_|refine bS ?_|fail
    have q0:a.s.objects[k].counters0≤900000:=by have:=of_decide_eq_false q0;omega
    have q1:a.s.objects[k].counters1≤900000:=by have:=of_decide_eq_false q1;omega
    have q2:a.s.objects[k].counters2≤900000:=by have:=of_decide_eq_false q2;omega
    refine Tp.run [] ?_
    refine Ei (k+1) (Ai ⟨by omega,fun j hj hjk=>(show j < k∨j=k by omega).elim (hct j hj) fun e=>by subst e;exact ⟨q0,q1,q2⟩⟩ (Ai (show a.s.objects.length - (k+1) < a.s.objects.length - k by omega) ?_))
    refine wk_of [] rfl rfl ?_ ?_ ?_
    ·repeat' first|refine Ai ?_ ?_|exact rfl|exact trivial|exact Ei _ rfl|refine lN ?_|refine bS ?_|fail
     exact succ_eq k hlt 128 (by decide) hsok.2.2.1
    all_goals repeat' first|refine Ai ?_ ?_|exact rfl|exact trivial|exact Ei _ rfl|refine lN ?_|refine bS ?_|fail
   have hke:=len_ge hc hk
   subst hke
   clear hc hk
   have O:OppH a.s a.e:=⟨hK,hb,fun p hp=>by
    obtain ⟨j,hj,rfl⟩:=List.mem_iff_getElem.1 hp
    exact hlf j hj hj,fun o ho=>by
    obtain ⟨j,hj,rfl⟩:=List.mem_iff_getElem.1 ho
    exact hct j hj hj⟩
   clear hlf hct
   have h1:=actdo H
   by_cases hev:evM a.cards a.s a.e=true
   ·obtain ⟨H2,hback⟩:=opp_back H O hev
    have h2:=actdo H2
    rw [hback] at h2
    obtain ⟨r2,_,h3⟩:=r26same (doR a.cards a.s a.all a.e) a.s H.ok hsok
    have h4:=r26sameR a.s hsok
    generalize doR a.cards a.s a.all a.e=t at h1 h2 h3
    refine Tp.run [] ?_
    refine cI h1 ⟨rfl,fL a.s.enc,rfl,fL a.e.enc,trivial⟩ (.inr rfl) ?_
    refine cI h3 ⟨fL t.enc,fL a.s.enc,trivial⟩ (.inl rfl) ?_
    cases r2 with
    | true=>
     refine Tp.run [] ?_
     refine cI alive33 trivial (.inl rfl) ?_
     refine Ei [] (Ai rfl (Ai ?_ ?_))
     all_goals repeat' first|refine Ai ?_ ?_|exact rfl|exact trivial|exact Ei _ rfl|refine lN ?_|refine bS ?_|fail
    | false=>
     refine Tp.run [] ?_
     refine cI h2 ⟨rfl,fL t.enc,rfl,fL (backE a.e).enc,trivial⟩ (.inr rfl) ?_
     refine cI h4 ⟨fL a.s.enc,fL a.s.enc,trivial⟩ (.inl rfl) ?_
     refine cI alive33 trivial (.inl rfl) ?_
     refine Ei [] (Ai rfl (Ai ?_ ?_))
     all_goals repeat' first|refine Ai ?_ ?_|exact rfl|exact trivial|exact Ei _ rfl|refine lN ?_|refine bS ?_|fail
   ·have hev:evM a.cards a.s a.e=false:=by simpa using hev
    rw [do_no hev] at h1
    have h4:=r26sameR a.s hsok
    refine Tp.run [] ?_
    refine cI h1 ⟨rfl,fL a.s.enc,rfl,fL a.e.enc,trivial⟩ (.inr rfl) ?_
    refine cI h4 ⟨fL a.s.enc,fL a.s.enc,trivial⟩ (.inl rfl) ?_
    refine Tp.run [] ?_
    refine cI alive33 trivial (.inl rfl) ?_
    refine Ei [] (Ai rfl (Ai ?_ ?_))
    all_goals repeat' first|refine Ai ?_ ?_|exact rfl|exact trivial|exact Ei _ rfl|refine lN ?_|refine bS ?_|fail
end Go.Proofs.YtmloamomcbmfhaaGreat
end
