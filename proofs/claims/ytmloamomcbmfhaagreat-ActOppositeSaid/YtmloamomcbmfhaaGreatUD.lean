/- Parts of the proof, joined: Chapter 33: what no event changes; results are small. No program in sight; Evaluation on trees: steps that need no names, for functions of which only the kind of the result counts. No program in sight; Evaluation on trees: an empty list reads as an empty list of any width. No program in sight; The program's act: Entered; Functions of the reference: they answer for every input (conditions of cards); Functions of the reference: they answer for every input (texts); Functions of the reference: they answer for every input (texts of filters and modifications); Functions of the reference: they answer for every input (abilities, cards, catalogues); Functions of the reference: equality of states; Functions of the reference: what is asked of a state; Functions of the reference: a valid state; Functions of the reference: they answer for every input (cards, catalogues, small states); Functions of the reference: a valid state; small states; Numbers and counters of chapters 1 and 12 (program and reference); Chapter 33: parts of an event (reference); Chapter 6: shuffles (program and reference); Chapter 26: the first state of a game of two; The program's zones, on trees: Copy; The program's zones: Copy, with players and objects as plain rows; The program's zones, on trees: the list of a zone; The program's zones, on trees: the place of an object; The program's zones, on trees: contracts of functions that take a list of the caller's and answer with it, changed; Chapter 25: place, Find (both);. -/
import Derived.Test.YtmloamomcbmfhaaGreatUC
import Derived.Shelf.Abstract
import Derived.Deep.RegionHeld3
import Derived.Deep.RegionLaw
import Derived.Laws.IdiomCopy
import Derived.Lib.AppendZerosOnto
import Derived.Lib.Overlaps
import Derived.Shelf.Spec.SlicesInsertGrow
import Derived.Lib.SliceRun
set_option maxRecDepth 100000
set_option maxHeartbeats 4000000
section
namespace Go.Proofs.YtmloamomcbmfhaaGreat
open Go Cg
section
variable {q:Opq} {c:Int}
structure Kpt (s t:GState):Prop where
 stk:∀ x∈t.stack,x∈s.stack
 wt:t.waiting=s.waiting
 ct:t.conts=s.conts
 ex:t.extra=s.extra
 tn:t.turn=s.turn
 ov:t.over=s.over
 pl:t.players.length=s.players.length
theorem Kpt.refl (s:GState):Kpt s s:=⟨fun _ h=>h,rfl,rfl,rfl,rfl,rfl,rfl⟩
theorem Kpt.trans {s t u:GState} (h1:Kpt s t) (h2:Kpt t u):Kpt s u:=⟨fun x h=>h1.stk x (h2.stk x h),h2.wt.trans h1.wt,h2.ct.trans h1.ct,h2.ex.trans h1.ex,h2.tn.trans h1.tn,h2.ov.trans h1.ov,h2.pl.trans h1.pl⟩
theorem kp_obj (s:GState) (l:List GObject):Kpt s { s with objects:=l }:=⟨fun _ h=>h,rfl,rfl,rfl,rfl,rfl,rfl⟩
theorem kp_put (s:GState) (o:GObject):Kpt s (putM s o):=kp_obj s _
theorem kp_unc (s:GState) (k:Int):Kpt s (uncM s k):=kp_obj s _
theorem kp_arr (s:GState) (id:Int) (e:GEvent):Kpt s (arrM s id e):=by
 unfold arrM
 split
 ·exact kp_put s _
 ·exact Kpt.refl s
theorem kp_set (s:GState) (z p:Int) (l:List Int):Kpt s (setM s z p l):=by
 obtain ⟨b,x,pl,e,hl,_⟩:=setM_form s z p l
 rw [e]
 exact ⟨fun _ h=>h,rfl,rfl,rfl,rfl,rfl,hl⟩
theorem kp_rem (s:GState) (id:Int) (i:Nat) (o:GObject):Kpt s (remM s id i o):=by
 have h:=kp_set s o.zone o.owner ((listM s o.zone o.owner).filter fun i=>i != id)
 exact ⟨fun x hx=>(List.mem_filter.1 hx).1,h.wt,h.ct,h.ex,h.tn,h.ov,h.pl⟩
theorem kp_end (s:GState) (x:GObject) (z:Int) (b:Bool):Kpt s (mvEnd s x z b):=by
 have h:=kp_set s z x.owner (if (z==2&&!b)=true then x.id :: listM s z x.owner else listM s z x.owner++[x.id])
 exact ⟨h.stk,h.wt,h.ct,h.ex,h.tn,h.ov,h.pl⟩
theorem kp_move (s:GState) (id z p:Int) (b:Bool):Kpt s (moveM s id z p b).1:=by
 unfold moveM
 split
 ·exact Kpt.refl s
 ·split
  ·unfold mvFound
   split
   ·exact Kpt.refl s
   split
   ·exact kp_rem s _ _ _
   ·exact ((kp_rem s _ _ _).trans (kp_put _ _)).trans (kp_end _ _ _ _)
  ·exact Kpt.refl s
theorem kp_make (s:GState) (a p:Int):Kpt s (makeM s a p).1:=⟨fun _ h=>h,rfl,rfl,rfl,rfl,rfl,rfl⟩
theorem kp_mk (e:GEvent):∀ (n:Nat) (s:GState),Kpt s (mkM s e n)
 | 0,s=>Kpt.refl s
 | n+1,s=>by
  unfold mkM
  split
  ·exact ((kp_make s _ _).trans (kp_arr _ _ _)).trans (kp_mk e n _)
  ·exact Kpt.refl s
theorem kp_upd (s:GState) (p:Int) (f:GPlayer→GPlayer):Kpt s (updP s p f):=by
 unfold updP
 split
 ·exact ⟨fun _ h=>h,rfl,rfl,rfl,rfl,rfl,List.length_set⟩
 ·exact Kpt.refl s
theorem kp_draw (s:GState) (p:Int):Kpt s (drawM s p):=by
 unfold drawM
 split
 ·split
  ·exact kp_upd s _ _
  ·exact kp_move s _ _ _ _
 ·exact Kpt.refl s
theorem kp_life (s:GState) (e:GEvent):Kpt s (lifeM s e):=by
 unfold lifeM
 split
 ·exact ⟨fun _ h=>h,rfl,rfl,rfl,rfl,rfl,List.length_set⟩
 ·exact Kpt.refl s
theorem kp_objM (s:GState) (all:List GTraits) (e:GEvent):Kpt s (objM s all e):=by
 unfold objM
 split
 ·dsimp only
  split
  ·exact (kp_put s _).trans (kp_put _ _)
  ·exact kp_put s _
 ·exact Kpt.refl s
theorem kp_mvR (s:GState) (e:GEvent):Kpt s (mvR s e):=by
 have h:Kpt s (if e.from_=0 then uncM s e.object else s):=by
  split
  ·exact kp_unc s _
  ·exact Kpt.refl s
 unfold mvR
 dsimp only
 split
 ·exact (h.trans (kp_move _ _ _ _ _)).trans (kp_arr _ _ _)
 ·exact h.trans (kp_move _ _ _ _ _)
theorem kp_do (cards:List GCard) (s:GState) (all:List GTraits) (e:GEvent):Kpt s (doR cards s all e):=by
 unfold doR
 split
 ·split
  ·exact kp_mvR s e
  ·unfold restM
   split
   ·exact kp_draw s _
   split
   ·exact kp_life s e
   split
   ·exact kp_mk e _ s
   split
   ·exact kp_objM s all e
   ·exact Kpt.refl s
 ·exact Kpt.refl s
theorem len_sub {α:Type} [DecidableEq α]:∀ {l m:List α},l.Nodup→(∀ x∈l,x∈m)→l.length≤m.length
 | [],_,_,_=>Nat.zero_le _
 | x :: l,m,h,hm=>by
  obtain ⟨h1,h2⟩:=List.nodup_cons.1 h
  have hx:=hm x List.mem_cons_self
  have:=len_sub (m:=m.erase x) h2 fun y hy=>(List.mem_erase_of_ne (fun e=>h1 (by rw [← e];exact hy))).2 (hm y (List.mem_cons_of_mem _ hy))
  rw [List.length_erase_of_mem hx] at this
  have:=List.length_pos_of_mem hx
  rw [List.length_cons]
  omega
theorem list_short {s:GState} (h:Val q c s) (z p:Int):(listM s z p).length≤2048:=by
 have:=len_sub (m:=s.objects.map GObject.id) (h.nod z p) fun id hid=>by
  obtain ⟨o,ho,e,_⟩:=h.lst z p id hid
  exact List.mem_map.2 ⟨o,ho,e⟩
 rw [Lm] at this
 have:=h.nobj
 omega
theorem short_le {n:Nat} (h:n≤2048):n*8≤limB:=by unfold limB;omega
theorem ply_short {s:GState} (h:Val q c s) {p:GPlayer} (hp:p∈s.players):p.library.length≤2048∧p.hand.length≤2048∧p.graveyard.length≤2048:=by
 obtain ⟨i,hi,rfl⟩:=List.mem_iff_getElem.1 hp
 have h1:=list_short h 2 i
 have h2:=list_short h 1 i
 have h3:=list_short h 3 i
 rw [listM_lb hi] at h1
 rw [listM_hd hi] at h2
 rw [listM_gy hi] at h3
 exact ⟨h1,h2,h3⟩
theorem ok_val {s t:GState} (hs:s.ok) (hv:Val q c t) (hk:Kpt s t):t.ok:=by
 obtain ⟨_,_,_,_,_,_,_,g8,g9,g10,g11,g12,g13⟩:=hs
 have hb:=list_short hv 0 0
 have hx:=list_short hv 4 0
 rw [listM_bf] at hb
 rw [listM_ex] at hx
 have h1:=hv.npl
 have h2:=hv.nobj
 have h3:=hv.nstk
 refine ⟨by unfold limB;omega,fun y hy=>?_,by unfold limB;omega,fun y _=>obj_ok y,short_le hb,short_le hx,by unfold limB;omega,fun y hy=>g8 y (hk.stk y hy),by rw [hk.wt];exact g9,by rw [hk.wt];exact g10,by rw [hk.ct];exact g11,by rw [hk.ct];exact g12,by rw [hk.ex];exact g13⟩
 obtain ⟨a1,a2,a3⟩:=ply_short hv hy
 exact ⟨short_le a1,short_le a2,short_le a3⟩
theorem put_at {s:GState} {o':GObject} {i:Nat} {id:Int} (h1:s.objects.findIdx? (fun o=>o.id==id)=some i) (h:o'.id=id):putM s o'={ s with objects:=s.objects.set i o' }:=by
 unfold putM putL
 rw [h,h1]
theorem has_set {l:List GObject} {i:Nat} (hi:i < l.length) {x:GObject} (hx:x.id=l[i].id) {id:Int} (h:hasM l id=true):hasM (l.set i x) id=true:=by
 obtain ⟨o,ho,rfl⟩:=hasM_iff.1 h
 obtain ⟨j,hj,rfl⟩:=List.mem_iff_getElem.1 ho
 by_cases e:i=j
 ·subst e
  exact hasM_iff.2 ⟨x,List.mem_iff_getElem.2 ⟨i,by rw [List.length_set];exact hi,List.getElem_set_self ..⟩,hx⟩
 ·exact hasM_iff.2 ⟨l[j],List.mem_iff_getElem.2 ⟨j,by rw [List.length_set];exact hj,List.getElem_set_ne e ..⟩,rfl⟩
theorem objM_eq {s:GState} {all:List GTraits} {e:GEvent} {i:Nat} (hi:i < s.objects.length) (h1:s.objects.findIdx? (fun o=>o.id==e.object)=some i) (h2:findM s.objects e.object=s.objects[i]) (h3:s.objects[i].id=e.object) (hh:hasM s.objects e.object=true) (hk:¬ e.kind=13):objM s all e={ s with objects:=s.objects.set i (markM (deadM s all e.source) e s.objects[i]) }:=by
 unfold objM
 rw [if_pos hh]
 simp only [if_neg hk]
 rw [h2]
 exact put_at h1 ((mark_f _ e _).1.trans h3)
theorem objM_13 {s:GState} {all:List GTraits} {e:GEvent} {i j:Nat} (hi:i < s.objects.length) (h1:s.objects.findIdx? (fun o=>o.id==e.object)=some i) (h2:findM s.objects e.object=s.objects[i]) (h3:s.objects[i].id=e.object) (hh:hasM s.objects e.object=true) (hk:e.kind=13) {l:List GObject} (hl:s.objects.set i (markM (deadM s all e.source) e s.objects[i])=l) (hj:j < l.length) (g1:l.findIdx? (fun o=>o.id==e.source)=some j) (g2:findM l e.source=l[j]) (g3:l[j].id=e.source):objM s all e={ s with objects:=l.set j { l[j] with blocked:=true } }:=by
 unfold objM
 rw [if_pos hh]
 simp only [if_pos hk]
 rw [h2,put_at (s:=s) h1 ((mark_f _ e _).1.trans h3),hl]
 simp only [g2]
 exact put_at (s:={ s with objects:=l }) g1 g3
theorem lifeM_eq {s:GState} {e:GEvent} {i:Nat} (hi:i < s.players.length) (he:e.player=i):lifeM s e={ s with players:=s.players.set i (chM e s.seed s.players[i]).1,seed:=(chM e s.seed s.players[i]).2 }:=by
 unfold lifeM
 rw [he,Int.toNat_natCast,List.getElem?_eq_getElem hi]
end
end Go.Proofs.YtmloamomcbmfhaaGreat
end
section
namespace Cg
open Go Go.RowKit Go.Sort Go.Lib
section
variable {P:Program} {T:Nat→Option Ty} {N:Nat}
theorem cond_p {p:Prop} [Decidable p] {A B:Prop} (h1:p→A) (h2:¬ p→B):cond (decide p) A B:=by
 by_cases h:p
 ·rw [decide_eq_true h];exact h1 h
 ·rw [decide_eq_false h];exact h2 h
theorem cond_e {x y:Int} {A B:Prop} (h1:x=y→A) (h2:¬ x=y→B):cond (x==y) A B:=by
 by_cases h:x=y
 ·rw [beq_iff_eq.2 h];exact h1 h
 ·rw [beq_false_of_ne h];exact h2 h
theorem cond_n {b:Bool} {A B:Prop} (h:cond b B A):cond (!b) A B:=by cases b <;> exact h
theorem cond_ne {x y:Int} {A B:Prop} (h1:¬ x=y→A) (h2:x=y→B):cond (x != y) A B:=cond_n (cond_e h2 h1)
theorem ix_map {α:Type} {l:List α} {f:α→List Tr} {n:Int} {K:List Tr→Prop} (h0:0≤n) (h1:n < ((l.map f).length:Int)) (h:∀ x,x∈l→K (f x)):∃ (j:Nat) (ts:List Tr),n=j∧(l.map f)[j]? = some ts∧K ts:=by
 rw [Lm] at h1
 have hl:n.toNat < l.length:=by omega
 exact ⟨n.toNat,f l[n.toNat],by omega,by rw [List.getElem?_map,List.getElem?_eq_getElem hl];rfl,h _ (List.getElem_mem hl)⟩
theorem ix_mp {α:Type} {l:List α} {p:α→Prop} (hp:∀ y∈l,p y) {f:α→List Tr} {n:Int} {K:List Tr→Prop} (h0:0≤n) (h1:n < ((l.map f).length:Int)) (h:∀ x,x∈l→p x→K (f x)):∃ (j:Nat) (ts:List Tr),n=j∧(l.map f)[j]? = some ts∧K ts:=ix_map h0 h1 fun x hx=>h x hx (hp x hx)
theorem ix_str {s:ByteArray} {n:Int} {R:(j:Nat)→j < s.size→Prop} (h0:0≤n) (h1:n < (s.size:Int)) (h:∀ hl:n.toNat < s.size,R n.toNat hl):∃ (j:Nat) (h:j < s.size),n=j∧R j h:=by
 have hl:n.toNat < s.size:=by omega
 exact ⟨n.toNat,hl,by omega,h hl⟩
theorem sl_str {s:ByteArray} {A B:Nat→Prop} {R:Nat→Nat→Prop} (l h:Nat) (ha:A l) (hb:B h) (h1:l≤h) (h2:h≤s.size) (hk:(s.extract l h).size=h - l→R l h):∃ l h:Nat,A l∧B h∧l≤h∧h≤s.size∧R l h:=⟨l,h,ha,hb,h1,h2,hk (by rw [ByteArray.size_extract];omega)⟩
theorem cat_s {a b:ByteArray} {R:Prop} (h:a.size+b.size≤9223372036854775807) (hk:(a++b).size=a.size+b.size→R):a.size+b.size≤9223372036854775807∧R:=⟨h,hk ByteArray.size_append⟩
theorem call_x {ι:Type} {mk:ι→AV} {Φ:ι→Prop} {f:FuncId} {ars:List AV} {A:List AV→Prop} {B:Bool→Prop} {K:AV→List Row→Prop} {X:Prop} (ct:∃ b,Φ b∧Ct P f ars (mk b) [] true) (h1:A ars) (h2:B true) (h3:∀ b,Φ b→K (mk b) []):(∃ ars r rs fresh,A ars∧Ct P f ars r rs fresh∧B fresh∧K r rs)∨X:=by
 obtain ⟨b,hb,h⟩:=ct
 exact .inl ⟨ars,mk b,[],true,h1,h,h2,h3 b hb⟩
theorem call_f (f:FuncId) {A:List AV→Prop} {B:Bool→Prop} {K:AV→List Row→Prop} {X:Prop} (h:(∃ ars r rs fresh,A ars∧Ct P f ars r rs fresh∧B fresh∧K r rs)∨X):(∃ ars r rs fresh,A ars∧Ct P f ars r rs fresh∧B fresh∧K r rs)∨X:=h
theorem leaf_x {ι:Type} {mk:ι→AV} {Φ:ι→Prop} {fn:Func} {e:Ex} {st:St} (b:ι) (h:FinE T fn (mk b) [] e st) (hb:Φ b) (hr:resB (mk b) []=true):∃ rv rs,(∃ b,rv=mk b∧rs=[]∧Φ b)∧(Nat.ble rs.length 128=true∧resB rv rs=true)∧FinE T fn rv rs e st:=⟨mk b,[],⟨b,rfl,rfl,hb⟩,⟨rfl,hr⟩,h⟩
theorem ct_x {ι:Type} {mk:ι→AV} {Φ:ι→Prop} {f:FuncId} {ars:List AV} (hl:∀ b,litT (mk b)=true) (h:∃ rv rs,(∃ b,rv=mk b∧rs=[]∧Φ b)∧Ct P f ars rv rs false):∃ b,Φ b∧Ct P f ars (mk b) [] true:=by
 obtain ⟨rv,rs,⟨b,rfl,rfl,hb⟩,hc⟩:=h
 exact ⟨b,hb,Ct.litT hc (hl b)⟩
theorem lit_b (b:Bool):litT (AV.b b)=true:=rfl
theorem lit_i (b:Int):litT (AV.i b)=true:=rfl
theorem lit_s (b:ByteArray):litT (AV.s b)=true:=rfl
noncomputable def firstR (c:Code):Nat:=Code.rec (motive:=fun _=>Nat) 9999 (fun id _ _=>id) (fun _ _ a _=>a) (fun _ _ _ a _=>a+1000) (fun _ _ a=>a) (fun _ a=>a+2000) (fun _ _ _ _ _ _=>9999) (fun _=>9999) (fun _ _=>9999) (fun _=>9999) (fun _=>9999) 9999 (fun _=>9999) c
def WPY (P:Program) (T:Nat→Option Ty) (N:Nat) (cs ct:List Nat) (c:Code):St→(Ex→St→Prop)→Prop:=
 Code.rec (motive:=fun _=>St→(Ex→St→Prop)→Prop) (fun st Q=>Q .nrm st) (fun id ops d st Q=>WPrX P T N cs id ops d st Q) (fun a b iha ihb st Q=>match memb (firstR b) ct with
   | true=>TpX P T N (.seq a b) st Q
   | false=>iha st (nextQ (fun st'=>ihb st' Q) Q))
  (fun c _ _ iha ihb st Q=>WPc c st (iha st Q) (ihb st Q)) (fun id _ ih st Q=>ih st (blkQ id Q)) (fun c _ st Q=>LpX P T N c st Q) (fun _ _ _ _ _ _ _ _=>False) (fun id st Q=>Q (.exit id) st)
  (fun _ _ _ _=>False) (fun _ _ _=>False) (fun _ _ _=>False) (fun st Q=>Q .ret st) (fun _ _ _=>False) c
theorem TpX.mono {c:Code} {s:St} {Q Q':Ex→St→Prop} (h:TpX P T N c s Q) (hq:∀ e s,Q e s→Q' e s):TpX P T N c s Q':=by
 obtain ⟨e,s',h1,h2⟩:=h
 exact ⟨e,s',h1,hq _ _ h2⟩
theorem TpX.seq {a b:Code} {s:St} {Q:Ex→St→Prop} (h:TpX P T N a s (fun e s1=>match e with
  | .nrm=>TpX P T N b s1 Q
  | e=>Q e s1)):TpX P T N (.seq a b) s Q:=by
 obtain ⟨e,s1,h1,h2⟩:=h
 cases e with
 | nrm=>
  obtain ⟨e2,s2,h3,h4⟩:=h2
  exact ⟨e2,s2,h1.seq h3,h4⟩
 | exit id=>exact ⟨_,_,h1.out (by simp),h2⟩
 | ret=>exact ⟨_,_,h1.out (by simp),h2⟩
theorem TpX.block {id:Nat} {c:Code} {s:St} {Q:Ex→St→Prop} (h:TpX P T N c s (blkQ id Q)):TpX P T N (.block id c) s Q:=by
 obtain ⟨e,s',h1,h2⟩:=h
 cases e with
 | nrm=>exact ⟨.nrm,s',h1.block rfl,h2⟩
 | ret=>exact ⟨.ret,s',h1.block rfl,h2⟩
 | exit i=>
  unfold blkQ at h2
  cases hb:Nat.beq i id with
  | true=>
   simp only [hb] at h2
   exact ⟨.nrm,s',h1.block (by show _=(bif Nat.beq i id then Ex.nrm else Ex.exit i);rw [hb];rfl),h2⟩
  | false=>
   simp only [hb] at h2
   exact ⟨.exit i,s',h1.block (by show _=(bif Nat.beq i id then Ex.nrm else Ex.exit i);rw [hb];rfl),h2⟩
theorem TpX.cond {c:Operand} {a b:Code} {s:St} {Q:Ex→St→Prop} (h:WPc c s (TpX P T N a s Q) (TpX P T N b s Q)):TpX P T N (.cond c a b) s Q:=by
 unfold WPc at h
 split at h
 ·rename_i t ht
  cases t with
  | true=>
   obtain ⟨e,s',h1,h2⟩:=h
   exact ⟨e,s',Run.cond ht (fun _=>h1) (fun h=>by cases h),h2⟩
  | false=>
   obtain ⟨e,s',h1,h2⟩:=h
   exact ⟨e,s',Run.cond ht (fun h=>by cases h) (fun _=>h1),h2⟩
 ·exact h.elim
theorem TpX.runY (cs ct:List Nat):∀ {c:Code} {st:St} {Q:Ex→St→Prop},WPY P T N cs ct c st Q→TpX P T N c st Q
 | .skip,st,_,h=>⟨_,_,Run.skip st,h⟩
 | .region _ _ _,_,_,h=>TpX.run cs (c:=.region _ _ _) h
 | .seq a b,st,Q,h=>by
  change (match memb (firstR b) ct with
   | true=>TpX P T N (.seq a b) st Q
   | false=>WPY P T N cs ct a st (nextQ (fun st'=>WPY P T N cs ct b st' Q) Q)) at h
  split at h
  ·exact h
  ·refine TpX.seq ((TpX.runY cs ct h).mono fun e s hq=>?_)
   cases e with
   | nrm=>exact TpX.runY cs ct hq
   | exit id=>exact hq
   | ret=>exact hq
 | .cond c a b,st,Q,h=>by
  change WPc c st (WPY P T N cs ct a st Q) (WPY P T N cs ct b st Q) at h
  refine TpX.cond ?_
  unfold WPc at h ⊢
  split at h
  ·rename_i t ht
   cases t with
   | true=>exact TpX.runY cs ct (show WPY P T N cs ct a st Q from h)
   | false=>exact TpX.runY cs ct (show WPY P T N cs ct b st Q from h)
  ·exact h.elim
 | .block id c,st,Q,h=>TpX.block (TpX.runY cs ct (show WPY P T N cs ct c st (blkQ id Q) from h))
 | .loop c,st,Q,h=>LpX.tpx (show LpX P T N c st Q from h)
 | .scope ..,_,_,h=>h.elim
 | .exit id,st,Q,h=>⟨_,_,Run.exit id st,h⟩
 | .ret,st,Q,h=>⟨_,_,Run.ret st,h⟩
 | .label _,_,_,h=>h.elim
 | .goto _,_,_,h=>h.elim
 | .rangeFunc ..,_,_,h=>h.elim
 | .refuse _,_,_,h=>h.elim
def selfOk (bx:List (Nat × List Ce)) (v:AV):Bool:=match v with
 | .c x=>x.plain
 | .agg xs=>xs.all Ce.plain
 | .ptr b _=>hasK bx b
 | .nilp=>true
 | .iptr _ _=>true
 | .fn _ caps=>caps.all fun p=>hasK bx p.1
 | .fnI _ _=>true
 | _=>false
theorem selfOk_m {st:St} {m:List (Nat × Nat)} {rw':List (Nat × Row)} {bx:List (Nat × List Ce)} {v:AV} (h:selfOk bx v=true):AvM st m rw' bx v v:=by
 cases v with
 | c x=>cases x with
  | t _=>exact rfl
  | nil=>exact trivial
  | row _ _=>cases h
  | bot=>cases h
 | agg xs=>exact cesM_refl xs h
 | ptr b o=>exact ⟨rfl,rfl,h⟩
 | nilp=>exact trivial
 | iptr _ _=>exact ⟨rfl,rfl⟩
 | fn f caps=>exact ⟨rfl,rfl,h⟩
 | fnI _ _=>exact ⟨rfl,rfl⟩
 | eptr _ _ _ _ _=>cases h
 | sub _ _ _ _=>cases h
 | tup _=>cases h
 | bot=>cases h
theorem slM_self {st:St} {m:List (Nat × Nat)} {rw':List (Nat × Row)} {bx:List (Nat × List Ce)}:∀ {sl:List (Nat × AV)},sl.map (fun p=>(p.1,st.get p.1))=sl→sl.all (fun p=>selfOk bx p.2)=true→SlM st m rw' bx sl
 | [],_,_=>trivial
 | (t,v) :: r,h,h2=>by
  rw [List.map_cons] at h
  rw [List.all_cons,Bool.and_eq_true] at h2
  have h1:st.get t=v:=congrArg Prod.snd (List.cons.inj h).1
  refine ⟨?_,slM_self (List.cons.inj h).2 h2.2⟩
  rw [h1]
  exact selfOk_m h2.1
theorem bxM_self {st:St} {m:List (Nat × Nat)} {rw':List (Nat × Row)}:∀ {bx:List (Nat × List Ce)},bx.map (fun p=>lk st.bx p.1)=bx.map (fun p=>some p.2)→bx.all (fun p=>p.2.all Ce.plain)=true→BxM st m rw' bx
 | [],_,_=>trivial
 | (b,cs) :: r,h,h2=>by
  rw [List.map_cons,List.map_cons] at h
  rw [List.all_cons,Bool.and_eq_true] at h2
  refine ⟨?_,bxM_self (List.cons.inj h).2 h2.2⟩
  rw [(List.cons.inj h).1]
  exact cesM_refl cs h2.1
theorem wk_slim {st:St} {sl:List (Nat × AV)} {bx:List (Nat × List Ce)} {M:Nat} (h1:sl.map (fun p=>(p.1,st.get p.1))=sl) (h2:bx.map (fun p=>lk st.bx p.1)=bx.map (fun p=>some p.2)) (h3:(sl.all (fun p=>selfOk bx p.2)&&bx.all (fun p=>p.2.all Ce.plain))=true) (hn:below M bx []=true):Wk st ⟨sl,bx,[],M⟩:=by
 rw [Bool.and_eq_true] at h3
 exact wk_of [] rfl hn (slM_self h1 h3.1) (bxM_self h2 h3.2) trivial
def kpK (st:St):List Nat→(List (Nat × AV)→Prop)→Prop
 | [],K=>K []
 | t :: r,K=>(st.get t).open_ fun v=>kpK st r fun sl=>K ((t,v) :: sl)
theorem kpK_eq (st:St):∀ (ks:List Nat) (K:List (Nat × AV)→Prop),kpK st ks K=K (ks.map fun t=>(t,st.get t))
 | [],K=>rfl
 | t :: r,K=>by rw [kpK,AV.open_eq,kpK_eq st r];rfl
def kpB (st:St):List Nat→(List (Nat × List Ce)→Prop)→Prop
 | [],K=>K []
 | b :: r,K=>match lk st.bx b with
  | some cs=>forceSp cs fun cs=>kpB st r fun bx=>K ((b,cs) :: bx)
  | none=>False
theorem kpB_eq (st:St):∀ (bs:List Nat) (K:List (Nat × List Ce)→Prop),kpB st bs K→∃ bx,K bx
 | [],K,h=>⟨_,h⟩
 | b :: r,K,h=>by
  rw [kpB] at h
  split at h
  ·rw [forceSp_eq] at h
   obtain ⟨bx,h⟩:=kpB_eq st r _ h
   exact ⟨_,h⟩
  ·exact h.elim
theorem TpX.cut {α:Type} (id:Nat) (vs:α→List (Nat × AV)) (Φ:α→Prop) (ks bs:List Nat) (M:Nat) {a b:Code} {st:St} {Q:Ex→St→Prop} (_:firstR b=id)
  (h:kpK st ks fun sl=>kpB st bs fun bx=>TpX P T N a st (fun e s=>match e with
   | .nrm=>∃ x,Φ x∧Wk s ⟨vs x++sl,bx,[],M⟩
   | e=>Q e s)∧∀ x,Φ x→TpX P T N b ⟨vs x++sl,bx,[],M⟩ Q):TpX P T N (.seq a b) st Q:=by
 rw [kpK_eq] at h
 obtain ⟨bx,h1,h2⟩:=kpB_eq st bs _ h
 refine TpX.seq (h1.mono fun e s hq=>?_)
 cases e with
 | nrm=>
  obtain ⟨x,hx,hw⟩:=hq
  exact (h2 x hx).wk hw
 | exit id=>exact hq
 | ret=>exact hq
theorem LpX.at {α:Type} (id:Nat) (vs:α→List (Nat × AV)) (ok:α→Prop) (μ:α→Nat) (ks bs:List Nat) (M:Nat) {c:Code} {st:St} {Q:Ex→St→Prop} (_:firstR c=id)
  (h:kpK st ks fun sl=>kpB st bs fun bx=>(∃ x,ok x∧Wk st ⟨vs x++sl,bx,[],M⟩)∧∀ x,ok x→TpX P T N c ⟨vs x++sl,bx,[],M⟩ (fun e s=>match e with
   | .nrm=>∃ y,(ok y∧μ y < μ x)∧Wk s ⟨vs y++sl,bx,[],M⟩
   | e=>Q e s)):LpX P T N c st Q:=by
 rw [kpK_eq] at h
 obtain ⟨bx,⟨x0,h0,hw⟩,h2⟩:=kpB_eq st bs _ h
 refine LpX.loop (fun x=>⟨vs x++ks.map (fun t=>(t,st.get t)),bx,[],M⟩) ok μ x0 hw h0 fun x hx=>(h2 x hx).mono fun e s hq=>?_
 cases e with
 | nrm=>
  obtain ⟨y,⟨h3,h4⟩,h5⟩:=hq
  exact ⟨y,h3,h4,h5⟩
 | exit id=>exact hq
 | ret=>exact hq
theorem LpX.up {β:Type} (id t:Nat) (n:Int) (hn:n≤4611686018427387904) (hn0:0≤n) (vs:β→List (Nat × AV)) (Φ:Int→β→Prop) (ks bs:List Nat) (M:Nat) {c:Code} {st:St} {Q:Ex→St→Prop} (_:firstR c=id)
  (h:kpK st ks fun sl=>kpB st bs fun bx=>(∃ b,Φ 0 b∧Wk st ⟨(t,AV.i 0) :: (vs b++sl),bx,[],M⟩)∧∀ i b,0≤i→i≤n→Φ i b→TpX P T N c ⟨(t,AV.i i) :: (vs b++sl),bx,[],M⟩ (fun e s=>match e with
   | .nrm=>i < n∧∃ b,Φ (i+1) b∧Wk s ⟨(t,AV.i (IntKind.i64.wrap (i+1))) :: (vs b++sl),bx,[],M⟩
   | e=>Q e s)):LpX P T N c st Q:=by
 rw [kpK_eq] at h
 obtain ⟨bx,⟨b0,h0,hw⟩,h2⟩:=kpB_eq st bs _ h
 refine LpX.loop (fun x:Int × β=>⟨(t,AV.i x.1) :: (vs x.2++ks.map (fun t=>(t,st.get t))),bx,[],M⟩) (fun x=>0≤x.1∧x.1≤n∧Φ x.1 x.2) (fun x=>(n - x.1).toNat) (0,b0) hw ⟨Int.le_refl _,hn0,h0⟩ fun x hx=>(h2 x.1 x.2 hx.1 hx.2.1 hx.2.2).mono fun e s hq=>?_
 cases e with
 | nrm=>
  obtain ⟨h3,b,h4,h5⟩:=hq
  rw [IntKind.wrap_i64,show (x.1+1+9223372036854775808) % 18446744073709551616 - 9223372036854775808=x.1+1 by omega] at h5
  exact ⟨(x.1+1,b),⟨by have:=hx.1;show 0≤x.1+1;omega,by show x.1+1≤n;omega,h4⟩,by have:=hx.1;show (n - (x.1+1)).toNat < (n - x.1).toNat;omega,h5⟩
 | exit id=>exact hq
 | ret=>exact hq
theorem LpX.one (id:Nat) {c:Code} {st:St} {Q:Ex→St→Prop} (_:firstR c=id) (h:TpX P T N c st (fun e s1=>match e with
  | .nrm=>LpX P T N c s1 Q
  | e=>Q e s1)):LpX P T N c st Q:=LpX.once h
theorem len62 {α β:Type} {l:List α} {f:α→β} {b:Nat} (h:l.length*b≤limB) (hb:Nat.blt 0 b=true):(((l.map f).length:Nat):Int)≤4611686018427387904:=by
 unfold limB at h
 rw [Lm]
 have:=Nb hb
 have:l.length*1≤l.length*b:=Nat.mul_le_mul (Nat.le_refl _) this
 omega
theorem cat_l {a b:ByteArray} {R:Prop} (hl:Nat.ble a.size 40=true) (h:40+b.size≤9223372036854775807) (hk:(a++b).size≤40+b.size→R):a.size+b.size≤9223372036854775807∧R:=by
 have:=Nb hl
 exact ⟨by omega,hk (by rw [ByteArray.size_append];omega)⟩
theorem cat_r {a b:ByteArray} {R:Prop} (hl:Nat.ble b.size 40=true) (h:a.size+40≤9223372036854775807) (hk:(a++b).size≤a.size+40→R):a.size+b.size≤9223372036854775807∧R:=by
 have:=Nb hl
 exact ⟨by omega,hk (by rw [ByteArray.size_append];omega)⟩
theorem ix_n {n:Int} {m:Nat} {K:Nat→Prop} (h0:0≤n) (h1:n < (m:Int)) (h:n.toNat < m→K n.toNat):∃ j:Nat,n=j∧j < m∧K j:=⟨n.toNat,by omega,by omega,h (by omega)⟩
def allS:List (List Tr)→Bool
 | []=>true
 | [.lit (.string s)] :: r=>Nat.ble s.size 40&&allS r
 | _ :: _=>false
theorem allS_get:∀ {xs:List (List Tr)},allS xs=true→∀ (i:Nat),i < xs.length→∃ s:ByteArray,s.size≤40∧xs[i]? = some (eS s)
 | [.lit (.string s)] :: r,h,0,_=>by
  rw [allS,Bool.and_eq_true] at h
  exact ⟨s,Nb h.1,rfl⟩
 | [.lit (.string s)] :: r,h,i+1,hi=>by
  rw [allS,Bool.and_eq_true] at h
  obtain ⟨s,h1,h2⟩:=allS_get h.2 i (Nat.lt_of_succ_lt_succ hi)
  exact ⟨s,h1,by rw [List.getElem?_cons_succ];exact h2⟩
theorem ld_lit {xs:List (List Tr)} {i:Nat} {y:Ty} {K:AV→Prop} (ha:allS xs=true) (hi:i < xs.length) (hy:y.isAgg=false) (h:∀ s:ByteArray,s.size≤40→K (AV.s s)):∃ ts v,xs[i]? = some ts∧cutT y ts 0=some v∧K v:=by
 obtain ⟨s,h1,h2⟩:=allS_get ha i hi
 exact ⟨_,_,h2,by unfold cutT;rw [hy];rfl,h s h1⟩
theorem toList_len (s:ByteArray):s.toList.length=s.size:=by
 rw [ByteArray.toList_eq]
 rfl
theorem str_nil {s:ByteArray} (h:(s.toList==(⟨#[]⟩:ByteArray).toList)=true):s.size≤32:=by
 have:=toList_len s
 rw [eq_of_beq h,toList_len] at this
 rw [← this]
 exact Nat.zero_le _
theorem lp_at (id:Nat) {c:Code} {st:St} {Q:Ex→St→Prop} (_:firstR c=id) (h:LpX P T N c st Q):LpX P T N c st Q:=h
theorem wk_rr {st:St} {t r ρ ver ty k M:Nat} {X:List (List Tr)} {sl:List (Nat × AV)} {bx:List (Nat × List Ce)} (hg:st.get t=.c (.row ρ ver)) (hr:lk st.rw ρ=some ⟨ty,k,ver,X,none⟩) (h1:sl.map (fun p=>(p.1,st.get p.1))=sl) (h2:bx.map (fun p=>lk st.bx p.1)=bx.map (fun p=>some p.2)) (h3:(sl.all (fun p=>selfOk bx p.2)&&bx.all (fun p=>p.2.all Ce.plain))=true) (hn:below M bx [(r,⟨ty,k,0,X,none⟩)]=true):Wk st ⟨(t,.c (.row r 0)) :: sl,bx,[(r,⟨ty,k,0,X,none⟩)],M⟩:=by
 rw [Bool.and_eq_true] at h3
 refine wk_of [(r,ρ)] (by simp [mOk,lk,sw]) hn ⟨?_,slM_self h1 h3.1⟩ (bxM_self h2 h3.2) ⟨?_,trivial⟩
 ·rw [hg]
  show (match lk [(r,(⟨ty,k,0,X,none⟩:Row))] r with
   | some R'=>R'.ver=0∧(lk [(r,ρ)] r=some ρ∧(match lk st.rw ρ with
    | some R=>R.ver=ver
    | none=>False))
   | none=>False)
  simp [lk,hr]
 ·show (match lk [(r,ρ)] r with
   | some τ=>(match lk st.rw τ with
    | some R=>R.ty=ty∧R.k=k∧R.like ⟨ty,k,0,X,none⟩
    | none=>False)
   | none=>bi _ _)
  simp [lk,hr]
  exact lN rfl
theorem wk_rn {st:St} {t r ty k M:Nat} {sl:List (Nat × AV)} {bx:List (Nat × List Ce)} (hg:st.get t=.c .nil) (h1:sl.map (fun p=>(p.1,st.get p.1))=sl) (h2:bx.map (fun p=>lk st.bx p.1)=bx.map (fun p=>some p.2)) (h3:(sl.all (fun p=>selfOk bx p.2)&&bx.all (fun p=>p.2.all Ce.plain))=true) (hn:below M bx [(r,⟨ty,k,0,[],none⟩)]=true):Wk st ⟨(t,.c (.row r 0)) :: sl,bx,[(r,⟨ty,k,0,[],none⟩)],M⟩:=by
 rw [Bool.and_eq_true] at h3
 refine wk_of [] rfl hn ⟨?_,slM_self h1 h3.1⟩ (bxM_self h2 h3.2) ⟨?_,trivial⟩
 ·rw [hg]
  show (match lk [(r,(⟨ty,k,0,[],none⟩:Row))] r with
   | some R'=>R'.ver=0∧lk ([]:List (Nat × Nat)) r=none
   | none=>False)
  simp [lk]
 ·exact bS rfl
theorem TpX.cutL (id t r ty k:Nat) (Φ:List (List Tr)→Prop) (ks bs:List Nat) (M:Nat) {a b:Code} {st:St} {Q:Ex→St→Prop} (_:firstR b=id)
  (h:kpK st ks fun sl=>kpB st bs fun bx=>TpX P T N a st (fun e s=>match e with
   | .nrm=>∃ X,Φ X∧Wk s ⟨(t,.c (.row r 0)) :: sl,bx,[(r,⟨ty,k,0,X,none⟩)],M⟩
   | e=>Q e s)∧∀ X,Φ X→TpX P T N b ⟨(t,.c (.row r 0)) :: sl,bx,[(r,⟨ty,k,0,X,none⟩)],M⟩ Q):TpX P T N (.seq a b) st Q:=by
 rw [kpK_eq] at h
 obtain ⟨bx,h1,h2⟩:=kpB_eq st bs _ h
 refine TpX.seq (h1.mono fun e s hq=>?_)
 cases e with
 | nrm=>
  obtain ⟨x,hx,hw⟩:=hq
  exact (h2 x hx).wk hw
 | exit id=>exact hq
 | ret=>exact hq
theorem LpX.upL (id t u r ty k:Nat) (n:Int) (hn:n≤4611686018427387904) (hn0:0≤n) (Φ:Int→List (List Tr)→Prop) (ks bs:List Nat) (M:Nat) {c:Code} {st:St} {Q:Ex→St→Prop} (_:firstR c=id)
  (h:kpK st ks fun sl=>kpB st bs fun bx=>(∃ X,Φ 0 X∧Wk st ⟨(u,.c (.row r 0)) :: (t,AV.i 0) :: sl,bx,[(r,⟨ty,k,0,X,none⟩)],M⟩)∧∀ i X,0≤i→i≤n→Φ i X→TpX P T N c ⟨(u,.c (.row r 0)) :: (t,AV.i i) :: sl,bx,[(r,⟨ty,k,0,X,none⟩)],M⟩ (fun e s=>match e with
   | .nrm=>i < n∧∃ X,Φ (i+1) X∧Wk s ⟨(u,.c (.row r 0)) :: (t,AV.i (IntKind.i64.wrap (i+1))) :: sl,bx,[(r,⟨ty,k,0,X,none⟩)],M⟩
   | e=>Q e s)):LpX P T N c st Q:=by
 rw [kpK_eq] at h
 obtain ⟨bx,⟨b0,h0,hw⟩,h2⟩:=kpB_eq st bs _ h
 refine LpX.loop (fun x:Int × List (List Tr)=>⟨(u,.c (.row r 0)) :: (t,AV.i x.1) :: ks.map (fun t=>(t,st.get t)),bx,[(r,⟨ty,k,0,x.2,none⟩)],M⟩) (fun x=>0≤x.1∧x.1≤n∧Φ x.1 x.2) (fun x=>(n - x.1).toNat) (0,b0) hw ⟨Int.le_refl _,hn0,h0⟩ fun x hx=>(h2 x.1 x.2 hx.1 hx.2.1 hx.2.2).mono fun e s hq=>?_
 cases e with
 | nrm=>
  obtain ⟨h3,b,h4,h5⟩:=hq
  rw [IntKind.wrap_i64,show (x.1+1+9223372036854775808) % 18446744073709551616 - 9223372036854775808=x.1+1 by omega] at h5
  exact ⟨(x.1+1,b),⟨by have:=hx.1;show 0≤x.1+1;omega,by show x.1+1≤n;omega,h4⟩,by have:=hx.1;show (n - (x.1+1)).toNat < (n - x.1).toNat;omega,h5⟩
 | exit id=>exact hq
 | ret=>exact hq
def Shs (n:Int) (X:List (List Tr)):Prop:=(∀ ts∈X,∃ s:ByteArray,s.size≤2000∧ts=eS s)∧(X.length:Int)≤n
theorem Shs.nil {n:Int} (h:0≤n):Shs n []:=⟨fun _ h=>(by cases h),h⟩
theorem Shs.up {n m:Int} {X:List (List Tr)} (h:Shs n X) (hm:n≤m):Shs m X:=⟨h.1,Int.le_trans h.2 hm⟩
theorem Shs.snoc {n m:Int} {X:List (List Tr)} {s:ByteArray} (h:Shs n X) (hs:s.size≤2000) (hm:n+1≤m):Shs m (X++[[sv s]]):=⟨fun ts ht=>by
 rcases List.mem_append.1 ht with ht|ht
 ·exact h.1 ts ht
 ·exact ⟨s,hs,List.mem_singleton.1 ht⟩,by
 have:=h.2
 rw [List.length_append]
 simp
 omega⟩
theorem Shs.list:∀ {X:List (List Tr)} {n:Int},Shs n X→∃ L:List ByteArray,X=L.map eS∧(∀ y∈L,y.size≤2000)∧(L.length:Int)≤n
 | [],_,h=>⟨[],rfl,fun _ h=>(by cases h),h.2⟩
 | x :: X,n,h=>by
  obtain ⟨s,h1,rfl⟩:=h.1 x List.mem_cons_self
  obtain ⟨L,rfl,h2,h3⟩:=Shs.list (X:=X) (n:=n - 1) ⟨fun ts ht=>h.1 ts (List.mem_cons_of_mem _ ht),by have:=h.2;simp at this;omega⟩
  exact ⟨s :: L,rfl,fun y hy=>by
   rcases List.mem_cons.1 hy with rfl|hy
   ·exact h1
   ·exact h2 y hy,by simp;omega⟩
theorem ix_lit {xs:List (List Tr)} {n:Int} {K:List Tr→Prop} (ha:allS xs=true) (h0:0≤n) (h1:n < (xs.length:Int)) (h:∀ s:ByteArray,s.size≤40→K (eS s)):∃ (j:Nat) (ts:List Tr),n=j∧xs[j]? = some ts∧K ts:=by
 have hl:n.toNat < xs.length:=by omega
 obtain ⟨s,h2,h3⟩:=allS_get ha n.toNat hl
 exact ⟨n.toNat,eS s,by omega,h3,h s h2⟩
theorem sl_lit {s:ByteArray} {n m:Int} {A B:Nat→Prop} {R:Nat→Nat→Prop} (ha:∀ l:Nat,n=l→A l) (hb:∀ l:Nat,m=l→B l) (h0:0≤n) (h1:n≤m) (h2:m≤(s.size:Int)) (hk:(s.extract n.toNat m.toNat).size=m.toNat - n.toNat→R n.toNat m.toNat):∃ l h:Nat,A l∧B h∧l≤h∧h≤s.size∧R l h:=
 sl_str n.toNat m.toNat (ha _ (by omega)) (hb _ (by omega)) (by omega) (by omega) hk
def tupE (p:Int × Int):AV:=.tup [AV.i p.1,AV.i p.2]
theorem lit_e (p:Int × Int):litT (tupE p)=true:=rfl
theorem ix_k {α:Type} {l:List α} {f:α→List Tr} {n:Int} {K:List Tr→Prop} (h0:0≤n) (h1:n < ((l.map f).length:Int)) (h:∀ hl:n.toNat < l.length,K (f (l[n.toNat]'hl))):∃ (j:Nat) (ts:List Tr),n=j∧(l.map f)[j]? = some ts∧K ts:=by
 rw [Lm] at h1
 have hl:n.toNat < l.length:=by omega
 exact ⟨n.toNat,f l[n.toNat],by omega,by rw [List.getElem?_map,List.getElem?_eq_getElem hl];rfl,h hl⟩
theorem okmr {α:Type} {l:List α} {p:α→Prop} {x:α} (hx:x∈l) (h:∀ y∈l,p y):p x:=h x hx
theorem okmg {α:Type} {l:List α} {p:α→Prop} {n:Nat} (hn:n < l.length) (h:∀ y∈l,p y):p (l[n]'hn):=h _ (List.getElem_mem hn)
theorem ix_prev {α:Type} {l:List α} {f:α→List Tr} {i:Int} {K:List Tr→Prop} (d:α) (b:Nat) (hb:l.length*b≤limB) (hb0:Nat.blt 0 b=true) (h0:i > 0) (h1:i < ((l.map f).length:Int)) (h:i.toNat - 1 < l.length→K (f (l.getD (i.toNat - 1) d))):∃ (j:Nat) (ts:List Tr),IntKind.i64.wrap (i - 1)=j∧(l.map f)[j]? = some ts∧K ts:=by
 rw [Lm] at h1
 unfold limB at hb
 have hb1:=Nb hb0
 have:l.length*1≤l.length*b:=Nat.mul_le_mul (Nat.le_refl _) hb1
 have hl:i.toNat - 1 < l.length:=by omega
 refine ⟨i.toNat - 1,_,?_,?_,h hl⟩
 ·rw [IntKind.wrap_i64];omega
 ·rw [List.getElem?_map,List.getD_eq_getElem?_getD,List.getElem?_eq_getElem hl];rfl
theorem cut_at (id:Nat) {a b:Code} {st:St} {Q:Ex→St→Prop} (_:firstR b=id) (h:TpX P T N (.seq a b) st Q):TpX P T N (.seq a b) st Q:=h
end
end Cg
end
section
namespace Cg
open Go Go.RowKit
mutual
inductive TS:Tr→Tr→Prop
 | lit (v:Value):TS (.lit v) (.lit v)
 | nil (k k':Nat):TS (.sl k []) (.sl k' [])
 | sl (k:Nat) {xs ys:List (List Tr)}:TSE xs ys→TS (.sl k xs) (.sl k ys)
inductive TSL:List Tr→List Tr→Prop
 | nil:TSL [] []
 | cons {t u:Tr} {ts us:List Tr}:TS t u→TSL ts us→TSL (t :: ts) (u :: us)
inductive TSE:List (List Tr)→List (List Tr)→Prop
 | nil:TSE [] []
 | cons {t u:List Tr} {ts us:List (List Tr)}:TSL t u→TSE ts us→TSE (t :: ts) (u :: us)
end
theorem TSE.len:∀ {xs ys:List (List Tr)},TSE xs ys→xs.length=ys.length
 | _,_,.nil=>rfl
 | _,_,.cons _ h=>by rw [List.length_cons,List.length_cons,TSE.len h]
theorem RT.ts {F:Nat→Prop} {w:World} {v:Value} {t:Tr} (h:RT F w v t):∀ u,TS t u→RT F w v u:=by
 refine RT.rec (motive_1:=fun v t _=>∀ u,TS t u→RT F w v u) (motive_2:=fun vs ts _=>∀ us,TSL ts us→RTL F w vs us) (motive_3:=fun k g o xs _=>∀ ys,TSE xs ys→RTE F w k g o ys) ?_ ?_ ?_ ?_ ?_ ?_ ?_ h
 ·intro v hl u hu
  cases hu
  exact .lit hl
 ·intro k ao cap hc u hu
  cases hu with
  | nil _ k'=>exact .slNil hc
  | sl _ he=>
   cases he
   exact .slNil hc
 ·intro k g o n cap xs h1 h2 h3 h4 h5 ih u hu
  cases hu with
  | nil _ k'=>
   have:n=0:=h1
   subst this
   exact .slNil fun h=>by cases h
  | sl _ he=>exact .slSome (h1.trans he.len) h2 h3 h4 (ih _ he)
 ·intro us hu
  cases hu
  exact .nil
 ·intro v t vs ts _ _ ih1 ih2 us hu
  cases hu with
  | cons a b=>exact .cons (ih1 _ a) (ih2 _ b)
 ·intro k g o ys hy
  cases hy
  exact .nil
 ·intro k g o vs ts xs hl hc _ _ ih1 ih2 ys hy
  cases hy with
  | cons a b=>exact .cons hl hc (ih1 _ a) (ih2 _ b)
theorem rtl_ts {E:Env} {w:World}:∀ {vs:List Value} {ts us:List Tr},TSL ts us→A2 (RC E w) vs (ts.map .t)→A2 (RC E w) vs (us.map .t)
 | [],_,_,.nil,h=>h
 | _ :: _,_,_,.nil,h=>nomatch h
 | _,_,_,.cons a b,.cons h1 h2=>.cons (RT.ts (show RT _ _ _ _ from h1) _ a) (rtl_ts b h2)
theorem Ct.ts {P:Program} {f:FuncId} {ars:List AV} {ts us:List Tr} {b:Bool} (h:Ct P f ars (.agg (ts.map .t)) [] b) (hu:TSL ts us):Ct P f ars (.agg (us.map .t)) [] b:=by
 refine ⟨h.ent,h.few,h.shut,h.plain,fun x hx=>?_,fun x hx=>?_,fun w vs E0 ha=>(h.run w vs E0 ha).mono ?_⟩
 ·exact absurd hx (by simp [AV.bids,AV.bid1])
 ·refine absurd hx ?_
  have:(AV.agg (us.map .t)).rids=[]:=by
   show (us.map Ce.t).flatMap Ce.rids=[]
   clear h hu hx
   induction us with
   | nil=>rfl
   | cons u us ih=>simp [Ce.rids]
  rw [this]
  exact List.not_mem_nil
 ·rintro e w' ⟨v,rfl,hb,E,hr,h1,h2⟩
  refine ⟨v,rfl,hb,E,?_,h1,h2⟩
  obtain ⟨vs',rfl,h3⟩:=(show R1 E w' v (.agg (ts.map .t)) from hr)
  exact (show R1 E w' _ (.agg (us.map .t)) from ⟨vs',rfl,rtl_ts hu h3⟩)
end Cg
end
section
namespace Go.Proofs.YtmloamomcbmfhaaGreat
open Go Cg Go.RowKit Go.Sort
def presM (l:List GObject):List Int:=(l.filter fun o=>o.zone==0).map GObject.id
theorem pres_step (l:List GObject) (k:Nat) (hk:k < l.length):presM (l.take (k+1))=presM (l.take k)++(if l[k].zone==0 then [l[k].id] else []):=by
 unfold presM
 rw [List.take_succ_eq_append_getElem hk,List.filter_append,List.map_append]
 congr 1
 by_cases h:(l[k].zone==0)=true
 ·rw [if_pos h]
  simp [h]
 ·rw [if_neg h]
  simp [h]
theorem pres_len (l:List GObject):(presM l).length≤l.length:=by
 unfold presM
 rw [Lm]
 exact List.length_filter_le _ _
theorem present_ct (s:GState) (h:s.objects.length*128≤limB):Ct Tryz.prog 46 [.agg (s.enc.map .t)] (.c (.t (.sl 1 ((presM s.objects).map eI)))) [] false:=by
 refine ct_of Tryz.func46 rfl (enters_of Tryz.func46 (by kernel_rfl) rfl) tabOk (by kernel_rfl) rfl rfl rfl rfl fun w0 O _=>Tp.run [8] ?_
 refine Tp.loop (fun k:Nat=>⟨[(3,.c (.row 9000 0)),(7,.c (.t (.sl 19 (s.objects.map GObject.enc)))),(8,AV.i (s.objects.map GObject.enc).length),(9,AV.i k)],[],[(9000,⟨3,1,0,(presM (s.objects.take k)).map eI,none⟩)],10000⟩) (fun k=>k≤s.objects.length) (fun k=>s.objects.length - k) 0 ?_ (Nat.zero_le _) ?_
 ·refine wk_of [] rfl rfl ?_ ?_ ?_
  all_goals repeat' first|refine Ai ?_ ?_|exact rfl|exact trivial|exact Ei _ rfl|refine lN ?_|refine bS ?_|fail
 rintro k hk
 refine Tp.run [6,7,8] ?_
 refine cS (fun hc=>?_) (fun hc=>?_)
 ·have hlt:=len_lt hc
  have hst:=pres_step s.objects k hlt
  refine Ei k (Ei _ (Ai rfl (Ai (map_get _ _ k hlt) ?_)))
  refine cS (fun hz=>?_) (fun hz=>?_)
  ·have hz:(s.objects[k].zone==0)=true:=hz
   rw [if_pos hz] at hst
   have hpl:=pres_len (s.objects.take k)
   rw [List.length_take] at hpl
   refine Tp.run [] ?_
   refine Ai (.inl rfl) (Ai ?_ (Ai ?_ ?_))
   ·rw [Lm]
    show ((presM (s.objects.take k)).length+1)*8≤_
    unfold limB at h
    omega
   ·rw [Lm]
    show (presM (s.objects.take k)).length+1 < _
    unfold limB at h
    omega
   refine Tp.run [] ?_
   refine Ei (k+1) (Ai (show k+1≤_ by omega) (Ai (show s.objects.length - (k+1) < s.objects.length - k by omega) ?_))
   refine wk_of [(9000,9000)] rfl rfl ?_ ?_ ?_
   ·repeat' first|refine Ai ?_ ?_|exact rfl|exact trivial|exact Ei _ rfl|refine lN ?_|refine bS ?_|fail
    exact succ_eq k hlt 128 (by decide) h
   ·repeat' first|refine Ai ?_ ?_|exact rfl|exact trivial|exact Ei _ rfl|refine lN ?_|refine bS ?_|fail
   ·repeat' first|refine Ai ?_ ?_|exact rfl|exact trivial|exact Ei _ rfl|refine lN ?_|refine bS ?_|fail
    rw [hst,List.map_append]
    rfl
  ·have hz:(s.objects[k].zone==0)=false:=hz
   rw [hz,if_neg (by decide),List.append_nil] at hst
   refine Tp.run [] ?_
   refine Ei (k+1) (Ai (show k+1≤_ by omega) (Ai (show s.objects.length - (k+1) < s.objects.length - k by omega) ?_))
   refine wk_of [(9000,9000)] rfl rfl ?_ ?_ ?_
   ·repeat' first|refine Ai ?_ ?_|exact rfl|exact trivial|exact Ei _ rfl|refine lN ?_|refine bS ?_|fail
    exact succ_eq k hlt 128 (by decide) h
   ·repeat' first|refine Ai ?_ ?_|exact rfl|exact trivial|exact Ei _ rfl|refine lN ?_|refine bS ?_|fail
   ·repeat' first|refine Ai ?_ ?_|exact rfl|exact trivial|exact Ei _ rfl|refine lN ?_|refine bS ?_|fail
    rw [hst]
 ·have hke:=len_ge hc hk
  subst hke
  rw [List.take_length]
  refine Tp.run [] ?_
  refine Ei [] (Ai rfl (Ai ?_ ?_))
  all_goals repeat' first|refine Ai ?_ ?_|exact rfl|exact trivial|exact Ei _ rfl|refine lN ?_|refine bS ?_|fail
theorem entered_ct (s t:GState) (hs:s.objects.length≤1000000) (ht:t.objects.length≤1000000):Ct Tryz.prog 18 [.agg (s.enc.map .t),.agg (t.enc.map .t)] (.c (.t (.sl 1 ((fminus (presM t.objects) (presM s.objects)).map eI)))) [] false:=by
 have h1:=present_ct s (by unfold limB;omega)
 have h2:=present_ct t (by unfold limB;omega)
 have h3:=minusP_ct (presM t.objects) (presM s.objects) (Nat.le_trans (pres_len _) ht) (Nat.le_trans (pres_len _) hs)
 refine ct_of Tryz.func18 rfl (enters_of Tryz.func18 (by kernel_rfl) rfl) tabOk (by kernel_rfl) rfl rfl rfl rfl fun w0 O _=>Tp.run [] ?_
 refine cI h2 ⟨fL t.enc,trivial⟩ (.inr rfl) ?_
 refine cI h1 ⟨fL s.enc,trivial⟩ (.inr rfl) ?_
 refine cI h3 ⟨rfl,rfl,trivial⟩ (.inr rfl) ?_
 refine Ei [] (Ai rfl (Ai ?_ ?_))
 all_goals repeat' first|refine Ai ?_ ?_|exact rfl|exact trivial|exact Ei _ rfl|refine lN ?_|refine bS ?_|fail
end Go.Proofs.YtmloamomcbmfhaaGreat
end
section
namespace Go.Proofs.YtmloamomcbmfhaaGreat
open Go Cg Go.RowKit Go.Shelf
theorem r02low (a:Int):∃ r:Bool,True∧Ct Tryz.prog 153 [.c (.t (.lit (.int .u8 a)))] (AV.b r) [] true:=by
 refine ct_x (Φ:=fun _=>True) lit_b (ctx_of Tryz.func153 rfl (enters_of Tryz.func153 (by kernel_rfl) rfl) tabOk (by kernel_rfl) rfl rfl (TpX.runY [] [] ?_))
 repeat' (first|(apply cond_p <;> intro _)|(apply leaf_x;exact Ei [] (Ai rfl (Ai trivial rfl));exact (trivial);rfl)|fail)
theorem r02is (a:ByteArray):∃ r:Bool,(r=true→a.size≤32)∧Ct Tryz.prog 104 [AV.s a] (AV.b r) [] true:=by
 refine ct_x (Φ:=fun (r:Bool)=>r=true→a.size≤32) lit_b (ctx_of Tryz.func104 rfl (enters_of Tryz.func104 (by kernel_rfl) rfl) tabOk (by kernel_rfl) rfl rfl (TpX.runY [] [] ?_))
 repeat' (first|(apply cond_p <;> intro _)|(apply cond_ne <;> intro _)|apply cond_n|(apply cS <;> intro _)|(apply leaf_x;exact Ei [] (Ai rfl (Ai trivial rfl));exact (by intro hr;first|exact Bool.noConfusion hr|omega);rfl)|(apply lp_at 4 rfl;refine LpX.up (β:=Unit) 4 3 (((a.size:Nat):Int)) (by first|omega|exact len62 (by first|assumption|exact okmr ‹_› ‹_› | exact okmg _ ‹_›) rfl) (by omega) (fun _=>[]) (fun _ _=>True) [0] [] 200000 rfl ?_;refine Ai ?_ (fun _ _ _ _ _=>TpX.runY [] [] ?_))|exact Ei () (Ai (trivial) (wk_slim rfl rfl rfl rfl))|exact Ai (by first|assumption|omega) (Ei () (Ai (trivial) (wk_slim rfl rfl rfl rfl)))|(apply ix_str;(first|assumption|omega|(simp only [IntKind.wrap_i64];omega)|(simp only [Lm] at *;omega)|decide);(first|assumption|omega|(simp only [IntKind.wrap_i64];omega)|(simp only [Lm] at *;omega)|decide);intro _)|(apply call_f 153;refine call_x (r02low _) ⟨rfl,trivial⟩ (.inl rfl) (fun _ _=>?_))|fail)
def r10superL:List ByteArray:=[⟨#[98,97,115,105,99]⟩,⟨#[117,110,105,113,117,101]⟩]
theorem r10super:Ct Tryz.prog 193 [] (.c (.row 0 0)) [⟨9,1,0,r10superL.map eS,none⟩] false:=by
 refine ct_of Tryz.func193 rfl (enters_of Tryz.func193 (by kernel_rfl) rfl) tabOk (by kernel_rfl) rfl rfl rfl rfl fun w0 O _=>Tp.run [] ?_
 refine Ei [(0,128)] (Ai rfl (Ai ?_ ?_))
 all_goals repeat' first|refine Ai ?_ ?_|exact rfl|exact trivial|exact Ei _ rfl|refine lN ?_|refine bS ?_|fail
def r10typeL:List ByteArray:=[⟨#[99,114,101,97,116,117,114,101]⟩,⟨#[105,110,115,116,97,110,116]⟩,⟨#[114,105,116,117,97,108]⟩,⟨#[114,101,108,105,99]⟩,⟨#[99,104,97,114,109]⟩,⟨#[108,97,110,100]⟩]
theorem r10type:Ct Tryz.prog 194 [] (.c (.row 0 0)) [⟨9,1,0,r10typeL.map eS,none⟩] false:=by
 refine ct_of Tryz.func194 rfl (enters_of Tryz.func194 (by kernel_rfl) rfl) tabOk (by kernel_rfl) rfl rfl rfl rfl fun w0 O _=>Tp.run [] ?_
 refine Ei [(0,128)] (Ai rfl (Ai ?_ ?_))
 all_goals repeat' first|refine Ai ?_ ?_|exact rfl|exact trivial|exact Ei _ rfl|refine lN ?_|refine bS ?_|fail
theorem r10index (a:List ByteArray) (b:ByteArray) (ha:a.length*16≤limB):∃ r:Int,True∧Ct Tryz.prog 192 [.c (.t (.sl 1 (a.map eS))),AV.s b] (AV.i r) [] true:=by
 refine ct_x (Φ:=fun _=>True) lit_i (ctx_of Tryz.func192 rfl (enters_of Tryz.func192 (by kernel_rfl) rfl) tabOk (by kernel_rfl) rfl rfl (TpX.runY [] [] ?_))
 repeat' (first|(apply cond_p <;> intro _)|(apply cS <;> intro _)|(apply leaf_x;exact Ei [] (Ai rfl (Ai trivial rfl));exact (trivial);rfl)|(apply lp_at 2 rfl;refine LpX.up (β:=Unit) 2 5 ((((a.map eS).length:Nat):Int)) (by first|omega|exact len62 (by first|assumption|exact okmr ‹_› ‹_› | exact okmg _ ‹_›) rfl) (by omega) (fun _=>[]) (fun _ _=>True) [0,1] [] 200000 rfl ?_;refine Ai ?_ (fun _ _ _ _ _=>TpX.runY [] [] ?_))|exact Ei () (Ai (trivial) (wk_slim rfl rfl rfl rfl))|exact Ai (by first|assumption|omega) (Ei () (Ai (trivial) (wk_slim rfl rfl rfl rfl)))|(apply ix_map;(first|assumption|omega|(simp only [IntKind.wrap_i64,IntKind.wrap_u64,List.length_cons,List.length_nil];omega)|(simp only [Lm] at *;omega)|decide);(first|assumption|omega|(simp only [IntKind.wrap_i64,IntKind.wrap_u64,List.length_cons,List.length_nil];omega)|(simp only [Lm] at *;omega)|decide);intro _ _)|fail)
theorem r10isSub (a:ByteArray):∃ r:Bool,(r=true→a.size≤32)∧Ct Tryz.prog 154 [AV.s a] (AV.b r) [] true:=by
 refine ct_x (Φ:=fun (r:Bool)=>r=true→a.size≤32) lit_b (ctx_of Tryz.func154 rfl (enters_of Tryz.func154 (by kernel_rfl) rfl) tabOk (by kernel_rfl) rfl rfl (TpX.runY [] [] ?_))
 repeat' (first|(apply cond_p <;> intro _)|(apply cS <;> intro _)|(apply leaf_x;exact Ei [] (Ai rfl (Ai trivial rfl));exact (by intro hr;first|exact Bool.noConfusion hr|solve_by_elim);rfl)|(apply call_f 104;refine call_x (r02is _) ⟨rfl,trivial⟩ (.inl rfl) (fun _ _=>?_))|(apply call_f 193;refine cI r10super trivial (.inr rfl) ?_)|(apply call_f 194;refine cI r10type trivial (.inr rfl) ?_)|(apply call_f 192;refine call_x (r10index r10superL _ (Nb rfl)) ⟨⟨rfl,rfl⟩,rfl,trivial⟩ (.inl rfl) (fun _ _=>?_))|(apply call_f 192;refine call_x (r10index r10typeL _ (Nb rfl)) ⟨⟨rfl,rfl⟩,rfl,trivial⟩ (.inl rfl) (fun _ _=>?_))|fail)
theorem r10bit (a:Int) (b:Int)  (hb:0≤b) (hb2:b≤64):∃ r:Bool,True∧Ct Tryz.prog 155 [.c (.t (iv a)),.c (.t (iv b))] (AV.b r) [] true:=by
 refine ct_x (Φ:=fun _=>True) lit_b (ctx_of Tryz.func155 rfl (enters_of Tryz.func155 (by kernel_rfl) rfl) tabOk (by kernel_rfl) rfl rfl (TpX.runY [] [] ?_))
 repeat' (first|(apply cond_p <;> intro _)|(apply leaf_x;exact Ei [] (Ai rfl (Ai trivial rfl));exact (trivial);rfl)|(apply lp_at 2 rfl;refine LpX.up (β:=Int) 2 5 (b) (by first|omega|exact len62 (by first|assumption|exact okmr ‹_› ‹_› | exact okmg _ ‹_›) rfl) (by omega) (fun p=>[(0,AV.i p)]) (fun _ _=>True) [1] [] 200000 rfl ?_;refine Ai ?_ (fun _ _ _ _ _=>TpX.runY [] [] ?_))|exact Ei _ (Ai (trivial) (wk_slim rfl rfl rfl rfl))|exact Ai (by first|assumption|omega) (Ei _ (Ai (trivial) (wk_slim rfl rfl rfl rfl)))|(refine Ai rfl (Ai (by first|decide|assumption|omega) ?_))|fail)
theorem r10is (a:GLine) (_ha:a.ok):∃ r:Bool,True∧Ct Tryz.prog 106 [.agg (a.enc.map .t)] (AV.b r) [] true:=by
 refine ct_x (Φ:=fun _=>True) lit_b (ctx_of Tryz.func106 rfl (enters_of Tryz.func106 (by kernel_rfl) rfl) tabOk (by kernel_rfl) rfl rfl (TpX.runY [] [] ?_))
 repeat' (first|(apply cond_p <;> intro _)|apply cond_n|(apply cS <;> intro _)|(apply leaf_x;exact Ei [] (Ai rfl (Ai trivial rfl));exact (trivial);rfl)|(apply lp_at 4 rfl;refine LpX.up (β:=Unit) 4 3 ((((a.subs.map eS).length:Nat):Int)) (by first|omega|exact len62 (by first|assumption|exact okmr ‹_› ‹_› | exact okmg _ ‹_›) rfl) (by omega) (fun _=>[]) (fun _ _=>True) [1] [0] 200000 rfl ?_;refine Ai ?_ (fun _ _ _ _ _=>TpX.runY [] [] ?_))|exact Ei () (Ai (trivial) (wk_slim rfl rfl rfl rfl))|exact Ai (by first|assumption|omega) (Ei () (Ai (trivial) (wk_slim rfl rfl rfl rfl)))|(apply ix_map;(first|assumption|omega|(simp only [IntKind.wrap_i64];omega)|(simp only [Lm] at *;omega)|decide);(first|assumption|omega|(simp only [IntKind.wrap_i64];omega)|(simp only [Lm] at *;omega)|decide);intro _ _)|(apply call_f 154;refine call_x (r10isSub _) ⟨rfl,trivial⟩ (.inl rfl) (fun _ _=>?_))|(apply call_f 155;refine call_x (r10bit _ _ (by first|assumption|omega|(simp only [IntKind.wrap_i64,IntKind.wrap_u64,List.length_cons,List.length_nil];omega)|(simp only [Lm] at *;omega)|decide) (by first|assumption|omega|(simp only [IntKind.wrap_i64,IntKind.wrap_u64,List.length_cons,List.length_nil];omega)|(simp only [Lm] at *;omega)|decide)) ⟨rfl,rfl,trivial⟩ (.inl rfl) (fun _ _=>?_))|fail)
theorem r11is (a:Int):∃ r:Bool,True∧Ct Tryz.prog 107 [.c (.t (iv a))] (AV.b r) [] true:=by
 refine ct_x (Φ:=fun _=>True) lit_b (ctx_of Tryz.func107 rfl (enters_of Tryz.func107 (by kernel_rfl) rfl) tabOk (by kernel_rfl) rfl rfl (TpX.runY [] [] ?_))
 repeat' (first|(apply cond_p <;> intro _)|(apply leaf_x;exact Ei [] (Ai rfl (Ai trivial rfl));exact (trivial);rfl)|fail)
theorem r08is (a:GCost):∃ r:Bool,(r=true→(0≤a.generic∧a.generic≤99)∧(0≤a.x∧a.x≤2)∧(0≤a.color0∧a.color0≤9)∧(0≤a.color1∧a.color1≤9)∧(0≤a.color2∧a.color2≤9)∧(0≤a.color3∧a.color3≤9)∧(0≤a.color4∧a.color4≤9))∧Ct Tryz.prog 105 [.agg (a.enc.map .t)] (AV.b r) [] true:=by
 refine ct_x (Φ:=fun (r:Bool)=>r=true→(0≤a.generic∧a.generic≤99)∧(0≤a.x∧a.x≤2)∧(0≤a.color0∧a.color0≤9)∧(0≤a.color1∧a.color1≤9)∧(0≤a.color2∧a.color2≤9)∧(0≤a.color3∧a.color3≤9)∧(0≤a.color4∧a.color4≤9)) lit_b (ctx_of Tryz.func105 rfl (enters_of Tryz.func105 (by kernel_rfl) rfl) tabOk (by kernel_rfl) rfl rfl (TpX.runY [] [] ?_))
 repeat' (first|(apply cond_p <;> intro _)|(apply leaf_x;exact Ei [] (Ai rfl (Ai trivial rfl));exact (by intro hr;first|exact Bool.noConfusion hr|omega|(simp only [IntKind.wrap_i64] at *;omega));rfl)|(apply lp_at 4 rfl;refine LpX.one 4 rfl (TpX.runY [] [] ?_))|(apply ix_n;(first|assumption|omega|(simp only [IntKind.wrap_i64];omega)|(simp only [Lm] at *;omega)|decide);(first|assumption|omega|(simp only [IntKind.wrap_i64];omega)|(simp only [Lm] at *;omega)|decide);intro _)|fail)
theorem r13bound (a:GBound):∃ r:Bool,(r=true→0≤a.kind∧a.kind≤3)∧Ct Tryz.prog 176 [.agg (a.enc.map .t)] (AV.b r) [] true:=by
 refine ct_x (Φ:=fun (r:Bool)=>r=true→0≤a.kind∧a.kind≤3) lit_b (ctx_of Tryz.func176 rfl (enters_of Tryz.func176 (by kernel_rfl) rfl) tabOk (by kernel_rfl) rfl rfl (TpX.runY [] [] ?_))
 repeat' (first|(apply cond_p <;> intro _)|(apply cond_ne <;> intro _)|(apply leaf_x;exact Ei [] (Ai rfl (Ai trivial rfl));exact (by intro hr;first|exact Bool.noConfusion hr|omega);rfl)|fail)
theorem r13apart (a:Int) (b:Int) (c:Int):∃ r:Bool,True∧Ct Tryz.prog 175 [.c (.t (iv a)),.c (.t (iv b)),.c (.t (iv c))] (AV.b r) [] true:=by
 refine ct_x (Φ:=fun _=>True) lit_b (ctx_of Tryz.func175 rfl (enters_of Tryz.func175 (by kernel_rfl) rfl) tabOk (by kernel_rfl) rfl rfl (TpX.runY [] [] ?_))
 repeat' (first|(apply cond_p <;> intro _)|(apply leaf_x;exact Ei [] (Ai rfl (Ai trivial rfl));exact (trivial);rfl)|(apply lp_at 4 rfl;refine LpX.up (β:=Int × Int) 4 7 (6) (by first|omega|exact len62 (by first|assumption|exact okmr ‹_› ‹_› | exact okmg _ ‹_›) rfl) (by omega) (fun p=>[(0,AV.i p.1),(1,AV.i p.2)]) (fun _ _=>True) [] [] 200000 rfl ?_;refine Ai ?_ (fun _ p _ _ hp=>?_);rotate_left;obtain ⟨p_,p_⟩:=p;(try dsimp only at hp);apply TpX.runY [] [])|exact Ei ⟨_,_⟩ (Ai (trivial) (wk_slim rfl rfl rfl rfl))|exact Ai (by first|assumption|omega) (Ei ⟨_,_⟩ (Ai (trivial) (wk_slim rfl rfl rfl rfl)))|(refine Ai rfl (Ai (by first|decide|assumption|omega) ?_))|fail)
theorem r13is (a:GFilter):∃ r:Bool,(r=true→(0≤a.zone∧a.zone≤5)∧(0≤a.who∧a.who≤2)∧(0≤a.self∧a.self≤2)∧(0≤a.tap∧a.tap≤2)∧(0≤a.power.kind∧a.power.kind≤3)∧(0≤a.tough.kind∧a.tough.kind≤3)∧(0≤a.value.kind∧a.value.kind≤3)∧a.sub.size≤32)∧Ct Tryz.prog 144 [.agg (a.enc.map .t)] (AV.b r) [] true:=by
 refine ct_x (Φ:=fun (r:Bool)=>r=true→(0≤a.zone∧a.zone≤5)∧(0≤a.who∧a.who≤2)∧(0≤a.self∧a.self≤2)∧(0≤a.tap∧a.tap≤2)∧(0≤a.power.kind∧a.power.kind≤3)∧(0≤a.tough.kind∧a.tough.kind≤3)∧(0≤a.value.kind∧a.value.kind≤3)∧a.sub.size≤32) lit_b (ctx_of Tryz.func144 rfl (enters_of Tryz.func144 (by kernel_rfl) rfl) tabOk (by kernel_rfl) rfl rfl (TpX.runY [] [] ?_))
 repeat' (first|(apply cond_p <;> intro _)|apply cond_n|(apply cS <;> intro _)|(apply leaf_x;exact Ei [] (Ai rfl (Ai trivial rfl));exact (by intro hr;first|exact Bool.noConfusion hr|(have hs:a.sub.size≤32:=by first|exact str_nil ‹_› | solve_by_elim);simp_all <;> omega);rfl)|(apply call_f 175;refine call_x (r13apart _ _ _) ⟨rfl,rfl,rfl,trivial⟩ (.inl rfl) (fun _ _=>?_))|(apply call_f 154;refine call_x (r10isSub _) ⟨rfl,trivial⟩ (.inl rfl) (fun _ _=>?_))|(apply call_f 176;refine call_x (r13bound _) ⟨fL (GBound.enc _),trivial⟩ (.inl rfl) (fun _ _=>?_))|fail)
theorem r12name (a:Int):∃ r:ByteArray,(r.size≤40)∧Ct Tryz.prog 208 [.c (.t (iv a))] (AV.s r) [] true:=by
 refine ct_x (Φ:=fun (r:ByteArray)=>r.size≤40) lit_s (ctx_of Tryz.func208 rfl (enters_of Tryz.func208 (by kernel_rfl) rfl) tabOk (by kernel_rfl) rfl rfl (TpX.runY [] [] ?_))
 repeat' (first|(apply cond_p <;> intro _)|(apply leaf_x;exact Ei [] (Ai rfl (Ai trivial rfl));exact (by first|exact Nb rfl|omega|(simp only [Lm] at *;omega));rfl)|fail)
theorem r09name (a:Int):∃ r:ByteArray,(r.size≤40)∧Ct Tryz.prog 215 [.c (.t (iv a))] (AV.s r) [] true:=by
 refine ct_x (Φ:=fun (r:ByteArray)=>r.size≤40) lit_s (ctx_of Tryz.func215 rfl (enters_of Tryz.func215 (by kernel_rfl) rfl) tabOk (by kernel_rfl) rfl rfl (TpX.runY [] [] ?_))
 repeat' (first|(apply cond_p <;> intro _)|(apply leaf_x;exact Ei [] (Ai rfl (Ai trivial rfl));exact (by first|exact Nb rfl|omega|(simp only [Lm] at *;omega));rfl)|fail)
theorem r18word (a:Int):∃ r:ByteArray,(r.size≤40)∧Ct Tryz.prog 177 [.c (.t (iv a))] (AV.s r) [] true:=by
 refine ct_x (Φ:=fun (r:ByteArray)=>r.size≤40) lit_s (ctx_of Tryz.func177 rfl (enters_of Tryz.func177 (by kernel_rfl) rfl) tabOk (by kernel_rfl) rfl rfl (TpX.runY [] [] ?_))
 repeat' (first|(apply cond_p <;> intro _)|(apply leaf_x;exact Ei [] (Ai rfl (Ai trivial rfl));exact (by first|exact Nb rfl|omega|(simp only [Lm] at *;omega));rfl)|fail)
theorem r18hasWho (a:Int):∃ r:Bool,True∧Ct Tryz.prog 178 [.c (.t (iv a))] (AV.b r) [] true:=by
 refine ct_x (Φ:=fun _=>True) lit_b (ctx_of Tryz.func178 rfl (enters_of Tryz.func178 (by kernel_rfl) rfl) tabOk (by kernel_rfl) rfl rfl (TpX.runY [] [] ?_))
 repeat' (first|(apply cond_p <;> intro _)|(apply leaf_x;exact Ei [] (Ai rfl (Ai trivial rfl));exact (trivial);rfl)|fail)
theorem r18hasFilter (a:Int):∃ r:Bool,True∧Ct Tryz.prog 179 [.c (.t (iv a))] (AV.b r) [] true:=by
 refine ct_x (Φ:=fun _=>True) lit_b (ctx_of Tryz.func179 rfl (enters_of Tryz.func179 (by kernel_rfl) rfl) tabOk (by kernel_rfl) rfl rfl (TpX.runY [] [] ?_))
 repeat' (first|apply cond_n|(apply cS <;> intro _)|(apply leaf_x;exact Ei [] (Ai rfl (Ai trivial rfl));exact (trivial);rfl)|(apply call_f 177;refine call_x (r18word _) ⟨rfl,trivial⟩ (.inl rfl) (fun _ _=>?_))|(apply call_f 178;refine call_x (r18hasWho _) ⟨rfl,trivial⟩ (.inl rfl) (fun _ _=>?_))|fail)
theorem r18is (a:GTrigger):∃ r:Bool,True∧Ct Tryz.prog 146 [.agg (a.enc.map .t)] (AV.b r) [] true:=by
 refine ct_x (Φ:=fun _=>True) lit_b (ctx_of Tryz.func146 rfl (enters_of Tryz.func146 (by kernel_rfl) rfl) tabOk (by kernel_rfl) rfl rfl (TpX.runY [] [] ?_))
 repeat' (first|(apply cond_p <;> intro _)|(apply cond_ne <;> intro _)|apply cond_n|(apply cS <;> intro _)|(apply leaf_x;exact Ei [] (Ai rfl (Ai trivial rfl));exact (trivial);rfl)|(apply call_f 177;refine call_x (r18word _) ⟨rfl,trivial⟩ (.inl rfl) (fun _ _=>?_))|(apply call_f 178;refine call_x (r18hasWho _) ⟨rfl,trivial⟩ (.inl rfl) (fun _ _=>?_))|(apply call_f 179;refine call_x (r18hasFilter _) ⟨rfl,trivial⟩ (.inl rfl) (fun _ _=>?_))|(apply call_f 144;refine call_x (r13is _) ⟨fL (GFilter.enc _),trivial⟩ (.inl rfl) (fun _ _=>?_))|fail)
theorem r19field (a:GFilter):∃ r:Bool,True∧Ct Tryz.prog 182 [.agg (a.enc.map .t)] (AV.b r) [] true:=by
 refine ct_x (Φ:=fun _=>True) lit_b (ctx_of Tryz.func182 rfl (enters_of Tryz.func182 (by kernel_rfl) rfl) tabOk (by kernel_rfl) rfl rfl (TpX.runY [] [] ?_))
 repeat' (first|(apply cS <;> intro _)|(apply leaf_x;exact Ei [] (Ai rfl (Ai trivial rfl));exact (trivial);rfl)|(apply call_f 144;refine call_x (r13is _) ⟨fL (GFilter.enc _),trivial⟩ (.inl rfl) (fun _ _=>?_))|fail)
theorem r19plain (a:GReplace):∃ r:Bool,True∧Ct Tryz.prog 181 [.agg (a.enc.map .t)] (AV.b r) [] true:=by
 refine ct_x (Φ:=fun _=>True) lit_b (ctx_of Tryz.func181 rfl (enters_of Tryz.func181 (by kernel_rfl) rfl) tabOk (by kernel_rfl) rfl rfl (TpX.runY [] [] ?_))
 repeat' (first|(apply cond_p <;> intro _)|(apply cond_ne <;> intro _)|(apply leaf_x;exact Ei [] (Ai rfl (Ai trivial rfl));exact (trivial);rfl)|fail)
theorem r19moves (a:GReplace):∃ r:Bool,True∧Ct Tryz.prog 180 [.agg (a.enc.map .t)] (AV.b r) [] true:=by
 refine ct_x (Φ:=fun _=>True) lit_b (ctx_of Tryz.func180 rfl (enters_of Tryz.func180 (by kernel_rfl) rfl) tabOk (by kernel_rfl) rfl rfl (TpX.runY [] [] ?_))
 repeat' (first|(apply cond_p <;> intro _)|(apply cond_ne <;> intro _)|apply cond_n|(apply cS <;> intro _)|(apply leaf_x;exact Ei [] (Ai rfl (Ai trivial rfl));exact (trivial);rfl)|(apply call_f 182;refine call_x (r19field _) ⟨fL (GFilter.enc _),trivial⟩ (.inl rfl) (fun _ _=>?_))|fail)
theorem r19is (a:GReplace):∃ r:Bool,True∧Ct Tryz.prog 147 [.agg (a.enc.map .t)] (AV.b r) [] true:=by
 refine ct_x (Φ:=fun _=>True) lit_b (ctx_of Tryz.func147 rfl (enters_of Tryz.func147 (by kernel_rfl) rfl) tabOk (by kernel_rfl) rfl rfl (TpX.runY [] [] ?_))
 repeat' (first|(apply cond_p <;> intro _)|(apply cond_ne <;> intro _)|apply cond_n|(apply cS <;> intro _)|(apply leaf_x;exact Ei [] (Ai rfl (Ai trivial rfl));exact (trivial);rfl)|(apply call_f 180;refine call_x (r19moves _) ⟨fL (GReplace.enc _),trivial⟩ (.inl rfl) (fun _ _=>?_))|(apply call_f 181;refine call_x (r19plain _) ⟨fL (GReplace.enc _),trivial⟩ (.inl rfl) (fun _ _=>?_))|(apply call_f 182;refine call_x (r19field _) ⟨fL (GFilter.enc _),trivial⟩ (.inl rfl) (fun _ _=>?_))|fail)
theorem r20spec (a:GSpec):∃ r:Bool,True∧Ct Tryz.prog 183 [.agg (a.enc.map .t)] (AV.b r) [] true:=by
 refine ct_x (Φ:=fun _=>True) lit_b (ctx_of Tryz.func183 rfl (enters_of Tryz.func183 (by kernel_rfl) rfl) tabOk (by kernel_rfl) rfl rfl (TpX.runY [] [] ?_))
 repeat' (first|(apply cond_p <;> intro _)|apply cond_n|(apply cS <;> intro _)|(apply leaf_x;exact Ei [] (Ai rfl (Ai trivial rfl));exact (trivial);rfl)|(apply call_f 144;refine call_x (r13is _) ⟨fL (GFilter.enc _),trivial⟩ (.inl rfl) (fun _ _=>?_))|fail)
theorem r20specs (a:List GSpec) (ha:a.length*144≤limB):∃ r:Bool,True∧Ct Tryz.prog 148 [.c (.t (.sl 18 (a.map GSpec.enc)))] (AV.b r) [] true:=by
 refine ct_x (Φ:=fun _=>True) lit_b (ctx_of Tryz.func148 rfl (enters_of Tryz.func148 (by kernel_rfl) rfl) tabOk (by kernel_rfl) rfl rfl (TpX.runY [] [] ?_))
 repeat' (first|(apply cond_p <;> intro _)|apply cond_n|(apply cS <;> intro _)|(apply leaf_x;exact Ei [] (Ai rfl (Ai trivial rfl));exact (trivial);rfl)|(apply lp_at 2 rfl;refine LpX.up (β:=Unit) 2 3 ((((a.map GSpec.enc).length:Nat):Int)) (by first|omega|exact len62 (by first|assumption|exact okmr ‹_› ‹_› | exact okmg _ ‹_›) rfl) (by omega) (fun _=>[]) (fun _ _=>True) [0] [] 200000 rfl ?_;refine Ai ?_ (fun _ _ _ _ _=>TpX.runY [] [] ?_))|exact Ei () (Ai (trivial) (wk_slim rfl rfl rfl rfl))|exact Ai (by first|assumption|omega) (Ei () (Ai (trivial) (wk_slim rfl rfl rfl rfl)))|(apply ix_map;(first|assumption|omega|(simp only [IntKind.wrap_i64,IntKind.wrap_u64,List.length_cons,List.length_nil];omega)|(simp only [Lm] at *;omega)|decide);(first|assumption|omega|(simp only [IntKind.wrap_i64,IntKind.wrap_u64,List.length_cons,List.length_nil];omega)|(simp only [Lm] at *;omega)|decide);intro _ _)|(apply call_f 183;refine call_x (r20spec _) ⟨fL (GSpec.enc _),trivial⟩ (.inl rfl) (fun _ _=>?_))|fail)
theorem r20price (a:GPrice):∃ r:Bool,True∧Ct Tryz.prog 145 [.agg (a.enc.map .t)] (AV.b r) [] true:=by
 refine ct_x (Φ:=fun _=>True) lit_b (ctx_of Tryz.func145 rfl (enters_of Tryz.func145 (by kernel_rfl) rfl) tabOk (by kernel_rfl) rfl rfl (TpX.runY [] [] ?_))
 repeat' (first|(apply cond_p <;> intro _)|(apply cS <;> intro _)|(apply leaf_x;exact Ei [] (Ai rfl (Ai trivial rfl));exact (trivial);rfl)|(apply call_f 105;refine call_x (r08is _) ⟨fL (GCost.enc _),trivial⟩ (.inl rfl) (fun _ _=>?_))|fail)
theorem r16numbered (a:Int):∃ r:Bool,True∧Ct Tryz.prog 232 [.c (.t (iv a))] (AV.b r) [] true:=by
 refine ct_x (Φ:=fun _=>True) lit_b (ctx_of Tryz.func232 rfl (enters_of Tryz.func232 (by kernel_rfl) rfl) tabOk (by kernel_rfl) rfl rfl (TpX.runY [] [] ?_))
 repeat' (first|(apply cond_p <;> intro _)|(apply leaf_x;exact Ei [] (Ai rfl (Ai trivial rfl));exact (trivial);rfl)|fail)
theorem r16is (a:GRef) (b:Int):∃ r:Bool,True∧Ct Tryz.prog 207 [.agg (a.enc.map .t),.c (.t (iv b))] (AV.b r) [] true:=by
 refine ct_x (Φ:=fun _=>True) lit_b (ctx_of Tryz.func207 rfl (enters_of Tryz.func207 (by kernel_rfl) rfl) tabOk (by kernel_rfl) rfl rfl (TpX.runY [] [] ?_))
 repeat' (first|(apply cond_p <;> intro _)|(apply cond_ne <;> intro _)|(apply cS <;> intro _)|(apply leaf_x;exact Ei [] (Ai rfl (Ai trivial rfl));exact (trivial);rfl)|(apply call_f 232;refine call_x (r16numbered _) ⟨rfl,trivial⟩ (.inl rfl) (fun _ _=>?_))|(apply call_f 144;refine call_x (r13is _) ⟨fL (GFilter.enc _),trivial⟩ (.inl rfl) (fun _ _=>?_))|fail)
theorem r14is (a:GAmount):∃ r:Bool,True∧Ct Tryz.prog 209 [.agg (a.enc.map .t)] (AV.b r) [] true:=by
 refine ct_x (Φ:=fun _=>True) lit_b (ctx_of Tryz.func209 rfl (enters_of Tryz.func209 (by kernel_rfl) rfl) tabOk (by kernel_rfl) rfl rfl (TpX.runY [] [] ?_))
 repeat' (first|(apply cond_p <;> intro _)|apply cond_n|(apply cS <;> intro _)|(apply leaf_x;exact Ei [] (Ai rfl (Ai trivial rfl));exact (trivial);rfl)|(apply call_f 144;refine call_x (r13is _) ⟨fL (GFilter.enc _),trivial⟩ (.inl rfl) (fun _ _=>?_))|(apply call_f 208;refine call_x (r12name _) ⟨rfl,trivial⟩ (.inl rfl) (fun _ _=>?_))|fail)
theorem r17filter (a:Int) (b:GFilter):∃ r:Bool,True∧Ct Tryz.prog 212 [.c (.t (iv a)),.agg (b.enc.map .t)] (AV.b r) [] true:=by
 refine ct_x (Φ:=fun _=>True) lit_b (ctx_of Tryz.func212 rfl (enters_of Tryz.func212 (by kernel_rfl) rfl) tabOk (by kernel_rfl) rfl rfl (TpX.runY [] [] ?_))
 repeat' (first|(apply cond_p <;> intro _)|(apply cS <;> intro _)|(apply leaf_x;exact Ei [] (Ai rfl (Ai trivial rfl));exact (trivial);rfl)|(apply call_f 144;refine call_x (r13is _) ⟨fL (GFilter.enc _),trivial⟩ (.inl rfl) (fun _ _=>?_))|fail)
theorem r17word (a:Int):∃ r:ByteArray,(r.size≤40)∧Ct Tryz.prog 205 [.c (.t (iv a))] (AV.s r) [] true:=by
 refine ct_x (Φ:=fun (r:ByteArray)=>r.size≤40) lit_s (ctx_of Tryz.func205 rfl (enters_of Tryz.func205 (by kernel_rfl) rfl) tabOk (by kernel_rfl) rfl rfl (TpX.runY [] [] ?_))
 repeat' (first|(apply cond_p <;> intro _)|(apply leaf_x;exact Ei [] (Ai rfl (Ai trivial rfl));exact (by first|exact Nb rfl|omega|(simp only [Lm] at *;omega));rfl)|(apply ix_n;(first|assumption|omega|(simp only [IntKind.wrap_i64];omega)|(simp only [Lm] at *;omega)|decide);(first|assumption|omega|(simp only [IntKind.wrap_i64,List.length_cons,List.length_nil];omega)|(simp only [Lm] at *;omega)|decide);intro _)|(apply ld_lit;exact rfl;assumption;exact rfl;intro _ _)|fail)
theorem r17Uses (a:Int):∃ r:ByteArray,(r.size≤40)∧Ct Tryz.prog 231 [.c (.t (iv a))] (AV.s r) [] true:=by
 refine ct_x (Φ:=fun (r:ByteArray)=>r.size≤40) lit_s (ctx_of Tryz.func231 rfl (enters_of Tryz.func231 (by kernel_rfl) rfl) tabOk (by kernel_rfl) rfl rfl (TpX.runY [] [1009,1014,1029,30] ?_))
 repeat' (first|(apply cond_p <;> intro _)|(apply cS <;> intro _)|(apply leaf_x;exact Ei [] (Ai rfl (Ai trivial rfl));exact (by first|exact Nb rfl|omega|(simp only [Lm] at *;omega));rfl)|(apply cut_at 1009 rfl;refine TpX.cut (α:=Bool) 1009 (fun p=>[(4,AV.b p)]) (fun _=>True) [3] [] 200000 rfl ?_;refine Ai (TpX.runY [] [1009,1014,1029,30] ?_) (fun _ _=>TpX.runY [] [1009,1014,1029,30] ?_))|(apply cut_at 1014 rfl;refine TpX.cut (α:=Bool) 1014 (fun p=>[(14,AV.b p)]) (fun _=>True) [3] [] 300000 rfl ?_;refine Ai (TpX.runY [] [1009,1014,1029,30] ?_) (fun _ _=>TpX.runY [] [1009,1014,1029,30] ?_))|(apply cut_at 1029 rfl;refine TpX.cut (α:=Bool) 1029 (fun p=>[(29,AV.b p)]) (fun _=>True) [] [] 400000 rfl ?_;refine Ai (TpX.runY [] [1009,1014,1029,30] ?_) (fun _ _=>TpX.runY [] [1009,1014,1029,30] ?_))|(apply cut_at 30 rfl;refine TpX.cut (α:=Unit) 30 (fun _=>[]) (fun _=>True) [] [] 500000 rfl ?_;refine Ai (TpX.runY [] [1009,1014,1029,30] ?_) (fun _ _=>TpX.runY [] [1009,1014,1029,30] ?_))|exact Ei () (Ai (trivial) (wk_slim rfl rfl rfl rfl))|exact Ei _ (Ai (trivial) (wk_slim rfl rfl rfl rfl))|fail)
theorem r17uses (a:Int) (b:Int):∃ r:Bool,True∧Ct Tryz.prog 206 [.c (.t (iv a)),.c (.t (.lit (.int .u8 b)))] (AV.b r) [] true:=by
 refine ct_x (Φ:=fun _=>True) lit_b (ctx_of Tryz.func206 rfl (enters_of Tryz.func206 (by kernel_rfl) rfl) tabOk (by kernel_rfl) rfl rfl (TpX.runY [] [] ?_))
 repeat' (first|(apply cond_p <;> intro _)|(apply leaf_x;exact Ei [] (Ai rfl (Ai trivial rfl));exact (trivial);rfl)|(apply lp_at 3 rfl;rename_i s hs;refine LpX.up (β:=Unit) 3 6 (((s.size:Nat):Int)) (by first|omega|exact len62 (by first|assumption|exact okmr ‹_› ‹_› | exact okmg _ ‹_›) rfl) (by omega) (fun _=>[]) (fun _ _=>True) [1,5] [] 200000 rfl ?_;refine Ai ?_ (fun _ _ _ _ _=>TpX.runY [] [] ?_))|exact Ei () (Ai (trivial) (wk_slim rfl rfl rfl rfl))|exact Ai (by first|assumption|omega) (Ei () (Ai (trivial) (wk_slim rfl rfl rfl rfl)))|(apply ix_str;(first|assumption|omega|(simp only [IntKind.wrap_i64,IntKind.wrap_u64,List.length_cons,List.length_nil];omega)|(simp only [Lm] at *;omega)|decide);(first|assumption|omega|(simp only [IntKind.wrap_i64,IntKind.wrap_u64,List.length_cons,List.length_nil];omega)|(simp only [Lm] at *;omega)|decide);intro _)|(apply call_f 231;refine call_x (r17Uses _) ⟨rfl,trivial⟩ (.inl rfl) (fun _ _=>?_))|fail)
theorem one_cat {c:UInt8} {s:ByteArray} {R:Prop} (h:s.size≤9223372036854775806) (hk:((⟨[c].toArray⟩:ByteArray)++s).size=1+s.size→R):(⟨[c].toArray⟩:ByteArray).size+s.size≤9223372036854775807∧R:=cat_s (by have:(⟨[c].toArray⟩:ByteArray).size=1:=rfl;omega) hk
theorem r01digits (u:Int) (h0:0≤u) (_h1:u < 18446744073709551616):∃ r:ByteArray,r.size≤70∧Ct Tryz.prog 226 [.c (.t (.lit (.int .u64 u)))] (AV.s r) [] true:=by
 refine ct_x (Φ:=fun (r:ByteArray)=>r.size≤70) lit_s (ctx_of Tryz.func226 rfl (enters_of Tryz.func226 (by kernel_rfl) rfl) tabOk (by kernel_rfl) rfl rfl (TpX.runY [] [] ?_))
 refine Ai rfl (Ai (by decide) ?_)
 refine Ai rfl (Ai (by decide) ?_)
 refine LpX.at (α:=Int × ByteArray × Nat) 3 (fun p=>[(0,.c (.t (.lit (.int .u64 p.1)))),(3,AV.s p.2.1)]) (fun p=>0≤p.1∧p.1 < 2 ^ p.2.2∧p.2.1.size+p.2.2≤66) (fun p=>p.2.2) [] [] 100000 rfl ?_
 refine Ai (Ei (_,_,64) (Ai ?_ (wk_slim rfl rfl rfl rfl))) ?_
 ·have hd:u.tdiv 10=u / 10:=Int.tdiv_eq_ediv_of_nonneg h0
  show 0≤IntKind.u64.wrap (u.tdiv 10)∧IntKind.u64.wrap (u.tdiv 10) < 18446744073709551616∧_
  refine ⟨?_,?_,Nb rfl⟩
  ·simp only [IntKind.wrap_u64,hd]
   omega
  ·simp only [IntKind.wrap_u64,hd]
   omega
 rintro ⟨n,s,k⟩ ⟨g0,g1,g2⟩
 simp only at g0 g1 g2
 refine TpX.runY [] [] ?_
 refine cond_p (fun hn=>?_) (fun _=>?_)
 ·have hk:∃ j,k=j+1:=by
   cases k with
   | zero=>simp at g1;omega
   | succ j=>exact ⟨j,rfl⟩
  obtain ⟨j,rfl⟩:=hk
  have g3:n < 2 ^ j*2:=by rw [← Int.pow_succ];exact g1
  have hj:(0:Int) < 2 ^ j:=Int.pow_pos (by decide)
  have hd:n.tdiv 10=n / 10:=Int.tdiv_eq_ediv_of_nonneg g0
  refine Ai rfl (Ai (by decide) ?_)
  refine one_cat (s:=s) (by omega) (fun hs=>?_)
  refine Ai rfl (Ai (by decide) ?_)
  refine Ei (_,_,j) (Ai (Ai ⟨?_,?_,?_⟩ (Nat.lt_succ_self j)) (wk_slim rfl rfl rfl rfl))
  ·simp only [hd]
   omega
  ·show IntKind.u64.wrap (n.tdiv 10) < 2 ^ j
   rw [hd,IntKind.wrap_u64]
   have h8:n / 10 % 18446744073709551616≤n / 10:=by omega
   omega
  ·exact Nat.le_trans (Nat.add_le_add_right (Nat.le_of_eq hs) j) (show 1+s.size+j≤66 by omega)
 ·exact leaf_x s (Ei [] (Ai rfl (Ai trivial rfl))) (by omega) rfl
theorem r01text (a:Int):∃ r:ByteArray,(r.size≤110)∧Ct Tryz.prog 191 [.c (.t (iv a))] (AV.s r) [] true:=by
 refine ct_x (Φ:=fun (r:ByteArray)=>r.size≤110) lit_s (ctx_of Tryz.func191 rfl (enters_of Tryz.func191 (by kernel_rfl) rfl) tabOk (by kernel_rfl) rfl rfl (TpX.runY [] [] ?_))
 repeat' (first|(apply cond_p <;> intro _)|(apply leaf_x;exact Ei [] (Ai rfl (Ai trivial rfl));exact (by first|exact Nb rfl|((try dsimp only at *);omega)|exact Int.le_refl 0|(simp only [Lm] at *;omega));rfl)|(apply cat_l;exact rfl;(first|exact Nb rfl|omega|(simp only [Lm] at *;omega));intro _)|(apply call_f 226;refine call_x (r01digits _ (by first|assumption|omega|(simp only [IntKind.wrap_u64];omega)|(simp only [Lm] at *;omega)|decide) (by first|assumption|omega|(simp only [IntKind.wrap_u64];omega)|(simp only [Lm] at *;omega)|decide)) ⟨rfl,trivial⟩ (.inl rfl) (fun _ _=>?_))|fail)
theorem r02join (a:List ByteArray) (b:ByteArray) (ha:a.length*16≤limB) (hs:∀ y∈a,y.size≤2000) (hn:a.length≤100) (hc:b.size≤10):∃ r:ByteArray,(r.size≤201000)∧Ct Tryz.prog 225 [.c (.t (.sl 1 (a.map eS))),AV.s b] (AV.s r) [] true:=by
 refine ct_x (Φ:=fun (r:ByteArray)=>r.size≤201000) lit_s (ctx_of Tryz.func225 rfl (enters_of Tryz.func225 (by kernel_rfl) rfl) tabOk (by kernel_rfl) rfl rfl (TpX.runY [] [] ?_))
 repeat' (first|(apply ix_mp hs;(first|assumption|omega|(simp only [IntKind.wrap_i64,IntKind.wrap_u64,List.length_cons,List.length_nil];omega)|(simp only [Lm] at *;omega)|decide);(first|assumption|omega|(simp only [IntKind.wrap_i64,IntKind.wrap_u64,List.length_cons,List.length_nil];omega)|(simp only [Lm] at *;omega)|decide);intro _ _ _)|(apply cond_p <;> intro _)|(apply leaf_x;exact Ei [] (Ai rfl (Ai trivial rfl));exact (by first|exact Nb rfl|((try dsimp only at *);omega)|exact Int.le_refl 0|(simp only [Lm] at *;omega));rfl)|(apply lp_at 3 rfl;refine LpX.up (β:=ByteArray) 3 6 ((((a.map eS).length:Nat):Int)) (by first|omega|exact len62 (by first|assumption|exact okmr ‹_› ‹_› | exact okmg _ ‹_›) rfl) (by omega) (fun p=>[(5,AV.s p)]) (fun i (p:ByteArray)=>(p.size:Int)≤i*2010) [0,1] [] 200000 rfl ?_;refine Ai ?_ (fun _ _ _ _ _=>TpX.runY [] [] ?_))|exact Ei _ (Ai (by first|exact Nb rfl|((try dsimp only at *);omega)|exact Int.le_refl 0|(simp only [Lm] at *;omega)) (wk_slim rfl rfl rfl rfl))|exact Ai (by first|assumption|omega) (Ei _ (Ai (by first|exact Nb rfl|((try dsimp only at *);omega)|exact Int.le_refl 0|(simp only [Lm] at *;omega)) (wk_slim rfl rfl rfl rfl)))|(apply cat_s;(first|exact Nb rfl|omega|(simp only [Lm] at *;omega));intro _)|fail)
theorem r10joined (a:List ByteArray) (b:Int) (c:ByteArray) (ha:a.length*16≤limB) (hs:∀ y∈a,y.size≤40) (hn:a.length≤20) (hc:c.size≤10):∃ r:ByteArray,(r.size≤1000)∧Ct Tryz.prog 213 [.c (.t (.sl 1 (a.map eS))),.c (.t (iv b)),AV.s c] (AV.s r) [] true:=by
 refine ct_x (Φ:=fun (r:ByteArray)=>r.size≤1000) lit_s (ctx_of Tryz.func213 rfl (enters_of Tryz.func213 (by kernel_rfl) rfl) tabOk (by kernel_rfl) rfl rfl (TpX.runY [] [] ?_))
 repeat' (first|(apply ix_mp hs;(first|assumption|omega|(simp only [IntKind.wrap_i64,IntKind.wrap_u64,List.length_cons,List.length_nil];omega)|(simp only [Lm] at *;omega)|decide);(first|assumption|omega|(simp only [IntKind.wrap_i64,IntKind.wrap_u64,List.length_cons,List.length_nil];omega)|(simp only [Lm] at *;omega)|decide);intro _ _ _)|(apply cond_p <;> intro _)|apply cond_n|(apply cS <;> intro _)|(apply leaf_x;exact Ei [] (Ai rfl (Ai trivial rfl));exact (by first|exact Nb rfl|((try dsimp only at *);omega)|exact Int.le_refl 0|(simp only [Lm] at *;omega));rfl)|(apply lp_at 3 rfl;refine LpX.up (β:=ByteArray) 3 8 ((((a.map eS).length:Nat):Int)) (by first|omega|exact len62 (by first|assumption|exact okmr ‹_› ‹_› | exact okmg _ ‹_›) rfl) (by omega) (fun p=>[(7,AV.s p)]) (fun i (p:ByteArray)=>(p.size:Int)≤i*50) [0,1,2] [] 200000 rfl ?_;refine Ai ?_ (fun _ _ _ _ _=>TpX.runY [] [] ?_))|exact Ei _ (Ai (by first|exact Nb rfl|((try dsimp only at *);omega)|exact Int.le_refl 0|(simp only [Lm] at *;omega)) (wk_slim rfl rfl rfl rfl))|exact Ai (by first|assumption|omega) (Ei _ (Ai (by first|exact Nb rfl|((try dsimp only at *);omega)|exact Int.le_refl 0|(simp only [Lm] at *;omega)) (wk_slim rfl rfl rfl rfl)))|(apply cat_s;(first|exact Nb rfl|omega|(simp only [Lm] at *;omega));intro _)|(apply call_f 155;refine call_x (r10bit _ _ (by first|assumption|omega|(simp only [IntKind.wrap_i64,IntKind.wrap_u64,List.length_cons,List.length_nil];omega)|(simp only [Lm] at *;omega)|decide) (by first|assumption|omega|(simp only [IntKind.wrap_i64,IntKind.wrap_u64,List.length_cons,List.length_nil];omega)|(simp only [Lm] at *;omega)|decide)) ⟨rfl,rfl,trivial⟩ (.inl rfl) (fun _ _=>?_))|fail)
theorem r10type_sz:∀ y∈r10typeL,y.size≤40:=by decide
theorem r10typesText (a:Int):∃ r:ByteArray,(r.size≤1000)∧Ct Tryz.prog 187 [.c (.t (iv a))] (AV.s r) [] true:=by
 refine ct_x (Φ:=fun (r:ByteArray)=>r.size≤1000) lit_s (ctx_of Tryz.func187 rfl (enters_of Tryz.func187 (by kernel_rfl) rfl) tabOk (by kernel_rfl) rfl rfl (TpX.runY [] [] ?_))
 repeat' (first|(apply cond_p <;> intro _)|(apply leaf_x;exact Ei [] (Ai rfl (Ai trivial rfl));exact (by first|exact Nb rfl|((try dsimp only at *);omega)|exact Int.le_refl 0|(simp only [Lm] at *;omega));rfl)|(apply call_f 194;refine cI r10type trivial (.inr rfl) ?_)|(apply call_f 213;refine call_x (r10joined r10typeL _ _ (Nb rfl) r10type_sz (Nb rfl) (Nb rfl)) ⟨⟨rfl,rfl⟩,rfl,rfl,trivial⟩ (.inl rfl) (fun _ _=>?_))|fail)
theorem r09is (a:Int):∃ r:Bool,True∧Ct Tryz.prog 214 [.c (.t (iv a))] (AV.b r) [] true:=by
 refine ct_x (Φ:=fun _=>True) lit_b (ctx_of Tryz.func214 rfl (enters_of Tryz.func214 (by kernel_rfl) rfl) tabOk (by kernel_rfl) rfl rfl (TpX.runY [] [] ?_))
 repeat' (first|(apply cond_p <;> intro _)|(apply leaf_x;exact Ei [] (Ai rfl (Ai trivial rfl));exact (trivial);rfl)|fail)
theorem r09text (a:Int):∃ r:ByteArray,(r.size≤500)∧Ct Tryz.prog 188 [.c (.t (iv a))] (AV.s r) [] true:=by
 refine ct_x (Φ:=fun (r:ByteArray)=>r.size≤500) lit_s (ctx_of Tryz.func188 rfl (enters_of Tryz.func188 (by kernel_rfl) rfl) tabOk (by kernel_rfl) rfl rfl (TpX.runY [] [] ?_))
 repeat' (first|(apply cond_p <;> intro _)|apply cond_n|(apply cS <;> intro _)|(apply leaf_x;exact Ei [] (Ai rfl (Ai trivial rfl));exact (by first|exact Nb rfl|((try dsimp only at *);omega)|exact Int.le_refl 0|(simp only [Lm] at *;omega));rfl)|(apply lp_at 7 rfl;refine LpX.up (β:=ByteArray) 7 4 (5) (by first|omega|exact len62 (by first|assumption|exact okmr ‹_› ‹_› | exact okmg _ ‹_›) rfl) (by omega) (fun p=>[(3,AV.s p)]) (fun i (p:ByteArray)=>(p.size:Int)≤i*90) [0] [] 200000 rfl ?_;refine Ai ?_ ?_;rotate_left;intro i p h0 h1 hp;(rcases (by omega:i=0∨i=1∨i=2∨i=3∨i=4∨i=5) with rfl|rfl|rfl|rfl|rfl|rfl) <;> apply TpX.runY [] [])|exact Ei _ (Ai (by first|exact Nb rfl|((try dsimp only at *);omega)|exact Int.le_refl 0|(simp only [Lm] at *;omega)) (wk_slim rfl rfl rfl rfl))|exact Ai (by first|assumption|omega) (Ei _ (Ai (by first|exact Nb rfl|((try dsimp only at *);omega)|exact Int.le_refl 0|(simp only [Lm] at *;omega)) (wk_slim rfl rfl rfl rfl)))|(apply cat_r;exact rfl;(first|exact Nb rfl|omega|(simp only [Lm] at *;omega));intro _)|(apply cat_s;(first|exact Nb rfl|omega|(simp only [Lm] at *;omega));intro _)|(refine Ai rfl (Ai (by first|decide|assumption|omega) ?_))|(apply call_f 214;refine call_x (r09is _) ⟨rfl,trivial⟩ (.inl rfl) (fun _ _=>?_))|(apply call_f 215;refine call_x (r09name _) ⟨rfl,trivial⟩ (.inl rfl) (fun _ _=>?_))|fail)
theorem r11names:Ct Tryz.prog 235 [] (.c (.row 0 0)) [⟨9,1,0,[eS ⟨#[102,108,121,105,110,103]⟩,eS ⟨#[114,101,97,99,104]⟩,eS ⟨#[104,97,115,116,101]⟩,eS ⟨#[118,105,103,105,108,97,110,116]⟩,eS ⟨#[116,114,97,109,112,108,101]⟩,eS ⟨#[102,105,114,115,116,45,115,116,114,105,107,101]⟩,eS ⟨#[100,111,117,98,108,101,45,115,116,114,105,107,101]⟩,eS ⟨#[100,101,97,100,108,121]⟩,eS ⟨#[108,105,102,101,108,105,110,107]⟩,eS ⟨#[109,101,110,97,99,101]⟩,eS ⟨#[100,101,102,101,110,100,101,114]⟩,eS ⟨#[119,97,114,100,101,100]⟩,eS ⟨#[115,116,117,114,100,121]⟩,eS ⟨#[101,108,117,115,105,118,101]⟩,eS ⟨#[110,111,45,97,116,116,97,99,107]⟩,eS ⟨#[110,111,45,98,108,111,99,107]⟩,eS ⟨#[109,117,115,116,45,97,116,116,97,99,107]⟩],none⟩] false:=by
 refine ct_of Tryz.func235 rfl (enters_of Tryz.func235 (by kernel_rfl) rfl) tabOk (by kernel_rfl) rfl rfl rfl rfl fun w0 O _=>Tp.run [] ?_
 refine Ei [(0,128)] (Ai rfl (Ai ?_ ?_))
 all_goals repeat' first|refine Ai ?_ ?_|exact rfl|exact trivial|exact Ei _ rfl|refine lN ?_|refine bS ?_|fail
theorem r11name (a:Int):∃ r:ByteArray,(r.size≤40)∧Ct Tryz.prog 216 [.c (.t (iv a))] (AV.s r) [] true:=by
 refine ct_x (Φ:=fun (r:ByteArray)=>r.size≤40) lit_s (ctx_of Tryz.func216 rfl (enters_of Tryz.func216 (by kernel_rfl) rfl) tabOk (by kernel_rfl) rfl rfl (TpX.runY [] [] ?_))
 repeat' (first|(apply cond_p <;> intro _)|(apply leaf_x;exact Ei [] (Ai rfl (Ai trivial rfl));exact (by first|exact Nb rfl|((try dsimp only at *);omega)|exact Int.le_refl 0|(simp only [Lm] at *;omega));rfl)|(apply call_f 235;refine cI r11names trivial (.inr rfl) ?_)|(apply ix_n;(first|assumption|omega|(simp only [IntKind.wrap_i64,IntKind.wrap_u64,List.length_cons,List.length_nil];omega)|(simp only [Lm] at *;omega)|decide);(first|assumption|omega|(simp only [List.length_cons,List.length_nil];omega)|(simp only [Lm] at *;omega)|decide);intro _)|(apply ld_lit;exact rfl;assumption;exact rfl;intro _ _)|fail)
theorem r11text (a:Int):∃ r:ByteArray,(r.size≤2000)∧Ct Tryz.prog 189 [.c (.t (iv a))] (AV.s r) [] true:=by
 refine ct_x (Φ:=fun (r:ByteArray)=>r.size≤2000) lit_s (ctx_of Tryz.func189 rfl (enters_of Tryz.func189 (by kernel_rfl) rfl) tabOk (by kernel_rfl) rfl rfl (TpX.runY [] [] ?_))
 repeat' (first|(apply cond_p <;> intro _)|apply cond_n|(apply cS <;> intro _)|(apply leaf_x;exact Ei [] (Ai rfl (Ai trivial rfl));exact (by first|exact Nb rfl|((try dsimp only at *);omega)|exact Int.le_refl 0|(simp only [Lm] at *;omega));rfl)|(apply lp_at 5 rfl;refine LpX.up (β:=Int × ByteArray) 5 4 (17) (by first|omega|exact len62 (by first|assumption|exact okmr ‹_› ‹_› | exact okmg _ ‹_›) rfl) (by omega) (fun p=>[(0,AV.i p.1),(3,AV.s p.2)]) (fun i p=>(p.2.size:Int)≤i*90) [] [] 200000 rfl ?_;refine Ai ?_ (fun _ p _ _ hp=>?_);rotate_left;obtain ⟨p_,p_⟩:=p;(try dsimp only at hp);apply TpX.runY [] [])|exact Ei ⟨_,_⟩ (Ai (by first|exact Nb rfl|((try dsimp only at *);omega)|exact Int.le_refl 0|(simp only [Lm] at *;omega)) (wk_slim rfl rfl rfl rfl))|exact Ai (by first|assumption|omega) (Ei ⟨_,_⟩ (Ai (by first|exact Nb rfl|((try dsimp only at *);omega)|exact Int.le_refl 0|(simp only [Lm] at *;omega)) (wk_slim rfl rfl rfl rfl)))|(apply cat_r;exact rfl;(first|exact Nb rfl|omega|(simp only at *;omega));intro _)|(apply cat_s;(first|exact Nb rfl|omega|(simp only at *;omega));intro _)|(refine Ai rfl (Ai (by first|decide|assumption|omega) ?_))|(apply call_f 107;refine call_x (r11is _) ⟨rfl,trivial⟩ (.inl rfl) (fun _ _=>?_))|(apply call_f 216;refine call_x (r11name _) ⟨rfl,trivial⟩ (.inl rfl) (fun _ _=>?_))|fail)
theorem r13zone:Ct Tryz.prog 217 [] (.c (.row 0 0)) [⟨9,1,0,[eS ⟨#[]⟩,eS ⟨#[105,110,45,104,97,110,100]⟩,eS ⟨#[105,110,45,108,105,98,114,97,114,121]⟩,eS ⟨#[105,110,45,103,114,97,118,101,121,97,114,100]⟩,eS ⟨#[105,110,45,101,120,105,108,101]⟩,eS ⟨#[111,110,45,115,116,97,99,107]⟩],none⟩] false:=by
 refine ct_of Tryz.func217 rfl (enters_of Tryz.func217 (by kernel_rfl) rfl) tabOk (by kernel_rfl) rfl rfl rfl rfl fun w0 O _=>Tp.run [] ?_
 refine Ei [(0,128)] (Ai rfl (Ai ?_ ?_))
 all_goals repeat' first|refine Ai ?_ ?_|exact rfl|exact trivial|exact Ei _ rfl|refine lN ?_|refine bS ?_|fail
theorem r13who:Ct Tryz.prog 218 [] (.c (.row 0 0)) [⟨9,1,0,[eS ⟨#[]⟩,eS ⟨#[121,111,117,114,115]⟩,eS ⟨#[116,104,101,105,114,115]⟩],none⟩] false:=by
 refine ct_of Tryz.func218 rfl (enters_of Tryz.func218 (by kernel_rfl) rfl) tabOk (by kernel_rfl) rfl rfl rfl rfl fun w0 O _=>Tp.run [] ?_
 refine Ei [(0,128)] (Ai rfl (Ai ?_ ?_))
 all_goals repeat' first|refine Ai ?_ ?_|exact rfl|exact trivial|exact Ei _ rfl|refine lN ?_|refine bS ?_|fail
theorem r13self:Ct Tryz.prog 219 [] (.c (.row 0 0)) [⟨9,1,0,[eS ⟨#[]⟩,eS ⟨#[115,101,108,102]⟩,eS ⟨#[111,116,104,101,114]⟩],none⟩] false:=by
 refine ct_of Tryz.func219 rfl (enters_of Tryz.func219 (by kernel_rfl) rfl) tabOk (by kernel_rfl) rfl rfl rfl rfl fun w0 O _=>Tp.run [] ?_
 refine Ei [(0,128)] (Ai rfl (Ai ?_ ?_))
 all_goals repeat' first|refine Ai ?_ ?_|exact rfl|exact trivial|exact Ei _ rfl|refine lN ?_|refine bS ?_|fail
theorem r13tap:Ct Tryz.prog 220 [] (.c (.row 0 0)) [⟨9,1,0,[eS ⟨#[]⟩,eS ⟨#[116,97,112,112,101,100]⟩,eS ⟨#[117,110,116,97,112,112,101,100]⟩],none⟩] false:=by
 refine ct_of Tryz.func220 rfl (enters_of Tryz.func220 (by kernel_rfl) rfl) tabOk (by kernel_rfl) rfl rfl rfl rfl fun w0 O _=>Tp.run [] ?_
 refine Ei [(0,128)] (Ai rfl (Ai ?_ ?_))
 all_goals repeat' first|refine Ai ?_ ?_|exact rfl|exact trivial|exact Ei _ rfl|refine lN ?_|refine bS ?_|fail
theorem r13signs:Ct Tryz.prog 236 [] (.c (.row 0 0)) [⟨9,1,0,[eS ⟨#[]⟩,eS ⟨#[62,61]⟩,eS ⟨#[60,61]⟩,eS ⟨#[61]⟩],none⟩] false:=by
 refine ct_of Tryz.func236 rfl (enters_of Tryz.func236 (by kernel_rfl) rfl) tabOk (by kernel_rfl) rfl rfl rfl rfl fun w0 O _=>Tp.run [] ?_
 refine Ei [(0,128)] (Ai rfl (Ai ?_ ?_))
 all_goals repeat' first|refine Ai ?_ ?_|exact rfl|exact trivial|exact Ei _ rfl|refine lN ?_|refine bS ?_|fail
theorem r13bit (a:Int) (b:Int)  (hb:0≤b) (hb2:b≤64):∃ r:Bool,True∧Ct Tryz.prog 222 [.c (.t (iv a)),.c (.t (iv b))] (AV.b r) [] true:=by
 refine ct_x (Φ:=fun _=>True) lit_b (ctx_of Tryz.func222 rfl (enters_of Tryz.func222 (by kernel_rfl) rfl) tabOk (by kernel_rfl) rfl rfl (TpX.runY [] [] ?_))
 repeat' (first|(apply cond_p <;> intro _)|(apply leaf_x;exact Ei [] (Ai rfl (Ai trivial rfl));exact (trivial);rfl)|(apply lp_at 2 rfl;refine LpX.up (β:=Int) 2 5 (b) (by first|omega|exact len62 (by first|assumption|exact okmr ‹_› ‹_› | exact okmg _ ‹_›) rfl) (by omega) (fun p=>[(0,AV.i p)]) (fun _ _=>True) [1] [] 200000 rfl ?_;refine Ai ?_ (fun _ _ _ _ _=>TpX.runY [] [] ?_))|exact Ei _ (Ai (trivial) (wk_slim rfl rfl rfl rfl))|exact Ai (by first|assumption|omega) (Ei _ (Ai (trivial) (wk_slim rfl rfl rfl rfl)))|(refine Ai rfl (Ai (by first|decide|assumption|omega) ?_))|fail)
theorem r13typeWord (a:Int)  (ha:0≤a) (ha2:a≤64):∃ r:ByteArray,(r.size≤1000)∧Ct Tryz.prog 223 [.c (.t (iv a))] (AV.s r) [] true:=by
 refine ct_x (Φ:=fun (r:ByteArray)=>r.size≤1000) lit_s (ctx_of Tryz.func223 rfl (enters_of Tryz.func223 (by kernel_rfl) rfl) tabOk (by kernel_rfl) rfl rfl (TpX.runY [] [] ?_))
 repeat' (first|(apply cond_p <;> intro _)|(apply leaf_x;exact Ei [] (Ai rfl (Ai trivial rfl));exact (by first|exact Nb rfl|((try dsimp only at *);omega)|exact Int.le_refl 0|(simp only [Lm] at *;omega));rfl)|(apply lp_at 3 rfl;refine LpX.up (β:=Int) 3 4 (a) (by first|omega|exact len62 (by first|assumption|exact okmr ‹_› ‹_› | exact okmg _ ‹_›) rfl) (by omega) (fun p=>[(3,AV.i p)]) (fun _ _=>True) [0] [] 200000 rfl ?_;refine Ai ?_ (fun _ _ _ _ _=>TpX.runY [] [] ?_))|exact Ei _ (Ai (trivial) (wk_slim rfl rfl rfl rfl))|exact Ai (by first|assumption|omega) (Ei _ (Ai (trivial) (wk_slim rfl rfl rfl rfl)))|(apply call_f 187;refine call_x (r10typesText _) ⟨rfl,trivial⟩ (.inl rfl) (fun _ _=>?_))|fail)
theorem r13boundWord (a:ByteArray) (b:GBound)  (hs:a.size≤20) (hk:0≤b.kind) (hk2:b.kind≤3):∃ r:ByteArray,(r.size≤1000)∧Ct Tryz.prog 224 [AV.s a,.agg (b.enc.map .t)] (AV.s r) [] true:=by
 refine ct_x (Φ:=fun (r:ByteArray)=>r.size≤1000) lit_s (ctx_of Tryz.func224 rfl (enters_of Tryz.func224 (by kernel_rfl) rfl) tabOk (by kernel_rfl) rfl rfl (TpX.runY [] [] ?_))
 repeat' (first|(apply cond_p <;> intro _)|(apply leaf_x;exact Ei [] (Ai rfl (Ai trivial rfl));exact (by first|exact Nb rfl|((try dsimp only at *);omega)|exact Int.le_refl 0|(simp only [Lm] at *;omega));rfl)|(apply cat_s;(first|exact Nb rfl|omega|(simp only [Lm] at *;omega));intro _)|(apply call_f 191;refine call_x (r01text _) ⟨rfl,trivial⟩ (.inl rfl) (fun _ _=>?_))|(apply call_f 236;refine cI r13signs trivial (.inr rfl) ?_)|(apply ix_n;(first|assumption|omega|(simp only [IntKind.wrap_i64,IntKind.wrap_u64,List.length_cons,List.length_nil];omega)|(simp only [Lm] at *;omega)|decide);(first|assumption|omega|(simp only [List.length_cons,List.length_nil];omega)|(simp only [Lm] at *;omega)|decide);intro _)|(apply ld_lit;exact rfl;assumption;exact rfl;intro _ _)|fail)
theorem r13add (X:List (List Tr)) (s:ByteArray) (hX:X.length≤1000):CtM Tryz.prog 221 [.c (.row 0 0),AV.s s] [] [⟨9,1,0,X,none⟩] (.c (.row 0 0)) [] [⟨9,1,0,X,none⟩] []∨CtM Tryz.prog 221 [.c (.row 0 0),AV.s s] [] [⟨9,1,0,X,none⟩] (.c (.row 0 1)) [] [⟨9,1,1,X++[[sv s]],none⟩] []:=by
 cases h:(s.toList==(⟨#[]⟩:ByteArray).toList) with
 | true=>
  refine .inl ?_
  refine ctm_of 2 Tryz.func221 rfl (enters_of Tryz.func221 (by kernel_rfl) rfl) tabOk (by kernel_rfl) rfl rfl rfl rfl rfl fun w0 O _=>Tp.run [2,3] ?_
  refine cond_t h ?_
  refine Tp.run [] ?_
  refine Ei [(0,0)] (Ai (Ai rfl (Ai ?_ (Ai ?_ ?_))) ?_)
  all_goals repeat' first|refine Ai ?_ ?_|exact rfl|exact trivial|exact Ei _ rfl|refine lN ?_|refine bS ?_|fail
 | false=>
  refine .inr ?_
  refine ctm_of 2 Tryz.func221 rfl (enters_of Tryz.func221 (by kernel_rfl) rfl) tabOk (by kernel_rfl) rfl rfl rfl rfl rfl fun w0 O _=>Tp.run [2,3] ?_
  refine cond_f h ?_
  refine Tp.run [] ?_
  refine Ai (.inl rfl) (Ai (show (X.length+1)*16≤140737488355328 by omega) (Ai (show X.length+1 < 140737488355328 by omega) ?_))
  refine Ei [(0,0)] (Ai (Ai rfl (Ai ?_ (Ai ?_ ?_))) ?_)
  all_goals repeat' first|refine Ai ?_ ?_|exact rfl|exact trivial|exact Ei _ rfl|refine lN ?_|refine bS ?_|fail
theorem r13text (a:GFilter):∃ r:ByteArray,(r.size≤201000)∧Ct Tryz.prog 190 [.agg (a.enc.map .t)] (AV.s r) [] true:=by
 refine ct_x (Φ:=fun (r:ByteArray)=>r.size≤201000) lit_s (ctx_of Tryz.func190 rfl (enters_of Tryz.func190 (by kernel_rfl) rfl) tabOk (by kernel_rfl) rfl rfl (TpX.runY [] [8,9,10,11,33,39,40,41,42] ?_))
 refine call_x (r13is a) ⟨fL (GFilter.enc _),trivial⟩ (.inl rfl) (fun b hb=>?_)
 refine cond_n (cS (fun hc=>?_) (fun hc=>?_))
 rotate_left
 ·exact leaf_x _ (Ei [] (Ai rfl (Ai trivial rfl))) (by first|exact Nb rfl|((try dsimp only at *);omega)|exact Int.le_refl 0|(simp only [Lm] at *;omega)) rfl
 obtain ⟨k1,k2,k3,k4,k5,k6,k7,k8⟩:=hb hc
 repeat' (first|(apply cond_p <;> intro _)|apply cond_n|(apply cS <;> intro _)|(apply leaf_x;exact Ei [] (Ai rfl (Ai trivial rfl));exact (by first|exact Nb rfl|((try dsimp only at *);omega)|exact Int.le_refl 0|(simp only [Lm] at *;omega));rfl)|(apply cut_at 8 rfl;refine TpX.frz [] ?_;refine TpX.cutL 8 7 500000 9 1 (Shs 0) [1,3,4,5,6] [0] 500001 rfl ?_;refine Ai (TpX.runY [] [8,9,10,11,33,39,40,41,42] ?_) (fun X hX=>TpX.runY [] [8,9,10,11,33,39,40,41,42] ?_))|(refine TpX.cutL 9 7 500000 9 1 (Shs 1) [1,4,5,6] [0] 500001 rfl ?_;refine Ai (TpX.runY [] [8,9,10,11,33,39,40,41,42] ?_) (fun X hX=>TpX.runY [] [8,9,10,11,33,39,40,41,42] ?_))|(refine TpX.cutL 10 7 500000 9 1 (Shs 2) [1,5,6] [0] 500001 rfl ?_;refine Ai (TpX.runY [] [8,9,10,11,33,39,40,41,42] ?_) (fun X hX=>TpX.runY [] [8,9,10,11,33,39,40,41,42] ?_))|(refine TpX.cutL 11 7 500000 9 1 (Shs 3) [1,6] [0] 500001 rfl ?_;refine Ai (TpX.runY [] [8,9,10,11,33,39,40,41,42] ?_) (fun X hX=>TpX.runY [] [8,9,10,11,33,39,40,41,42] ?_))|(refine TpX.cutL 33 7 500000 9 1 (Shs 26) [1,6] [0] 500001 rfl ?_;refine Ai (TpX.runY [] [8,9,10,11,33,39,40,41,42] ?_) (fun X hX=>TpX.runY [] [8,9,10,11,33,39,40,41,42] ?_))|(refine TpX.cutL 39 7 500000 9 1 (Shs 44) [1] [0] 500001 rfl ?_;refine Ai (TpX.runY [] [8,9,10,11,33,39,40,41,42] ?_) (fun X hX=>TpX.runY [] [8,9,10,11,33,39,40,41,42] ?_))|(refine TpX.cutL 40 7 500000 9 1 (Shs 45) [1] [0] 500001 rfl ?_;refine Ai (TpX.runY [] [8,9,10,11,33,39,40,41,42] ?_) (fun X hX=>TpX.runY [] [8,9,10,11,33,39,40,41,42] ?_))|(refine TpX.cutL 41 7 500000 9 1 (Shs 46) [1] [0] 500001 rfl ?_;refine Ai (TpX.runY [] [8,9,10,11,33,39,40,41,42] ?_) (fun X hX=>TpX.runY [] [8,9,10,11,33,39,40,41,42] ?_))|(refine TpX.cutL 42 7 500000 9 1 (Shs 47) [] [] 500001 rfl ?_;refine Ai (TpX.runY [] [8,9,10,11,33,39,40,41,42] ?_) (fun X hX=>TpX.runY [] [8,9,10,11,33,39,40,41,42] ?_))|(refine LpX.upL 12 8 7 500000 9 1 6 (by omega) (by omega) (fun i=>Shs (3+i)) [1,6] [0] 500001 rfl ?_;refine Ai ?_ (fun i X h0 h1 hX=>TpX.runY [] [8,9,10,11,33,39,40,41,42] ?_))|(refine LpX.upL 17 9 7 500000 9 1 6 (by omega) (by omega) (fun i=>Shs (9+i)) [1,6] [0] 500001 rfl ?_;refine Ai ?_ (fun i X h0 h1 hX=>TpX.runY [] [8,9,10,11,33,39,40,41,42] ?_))|(refine LpX.upL 22 10 7 500000 9 1 5 (by omega) (by omega) (fun i=>Shs (15+i)) [1,6] [0] 500001 rfl ?_;refine Ai ?_ (fun i X h0 h1 hX=>TpX.runY [] [8,9,10,11,33,39,40,41,42] ?_))|(refine LpX.upL 27 11 7 500000 9 1 5 (by omega) (by omega) (fun i=>Shs (20+i)) [1,6] [0] 500001 rfl ?_;refine Ai ?_ (fun i X h0 h1 hX=>TpX.runY [] [8,9,10,11,33,39,40,41,42] ?_))|(refine LpX.upL 34 12 7 500000 9 1 17 (by omega) (by omega) (fun i=>Shs (26+i)) [1,6] [0] 500001 rfl ?_;refine Ai ?_ (fun i X h0 h1 hX=>TpX.runY [] [8,9,10,11,33,39,40,41,42] ?_))|exact Ei [] (Ai (Shs.nil (by omega)) (wk_rn rfl rfl rfl rfl rfl))|exact Ei _ (Ai (by first|exact hX|exact hX.up (by omega)|exact hX.snoc (by omega) (by omega)) (wk_rr rfl rfl rfl rfl rfl rfl))|exact Ai ‹_› (Ei _ (Ai (by first|exact hX|exact hX.up (by omega)|exact hX.snoc (by omega) (by omega)) (wk_rr rfl rfl rfl rfl rfl rfl)))|(apply ix_lit;exact rfl;(first|assumption|omega|(simp only [IntKind.wrap_i64,IntKind.wrap_u64,List.length_cons,List.length_nil];omega)|(simp only [Lm] at *;omega)|decide);(first|assumption|omega|(simp only [List.length_cons,List.length_nil];omega)|(simp only [Lm] at *;omega)|decide);intro s hs)|(apply call_f 217;refine cI r13zone trivial (.inr rfl) ?_)|(apply call_f 218;refine cI r13who trivial (.inr rfl) ?_)|(apply call_f 219;refine cI r13self trivial (.inr rfl) ?_)|(apply call_f 220;refine cI r13tap trivial (.inr rfl) ?_)|(apply call_f 221;rcases r13add X s (by have:=hX.2;omega) with hc|hc <;> refine cM [] [(500000,0)] hc ⟨⟨⟨rfl,rfl⟩,rfl,trivial⟩,trivial,⟨⟨rfl,rfl,rfl,rfl,rfl,rfl,rfl⟩,trivial⟩⟩ rfl ?_)|(apply call_f 222;refine call_x (r13bit _ _ (by first|assumption|omega|(simp only [IntKind.wrap_i64,IntKind.wrap_u64,List.length_cons,List.length_nil];omega)|(simp only [Lm] at *;omega)|decide) (by first|assumption|omega|(simp only [IntKind.wrap_i64,IntKind.wrap_u64,List.length_cons,List.length_nil];omega)|(simp only [Lm] at *;omega)|decide)) ⟨rfl,rfl,trivial⟩ (.inl rfl) (fun _ _=>?_))|(apply call_f 223;refine call_x (r13typeWord _ (by first|assumption|omega|(simp only [IntKind.wrap_i64,IntKind.wrap_u64,List.length_cons,List.length_nil];omega)|(simp only [Lm] at *;omega)|decide) (by first|assumption|omega|(simp only [IntKind.wrap_i64,IntKind.wrap_u64,List.length_cons,List.length_nil];omega)|(simp only [Lm] at *;omega)|decide)) ⟨rfl,trivial⟩ (.inl rfl) (fun s hs=>?_))|(apply call_f 224;refine call_x (r13boundWord _ _ (Nb rfl) (by first|assumption|omega|(simp only [IntKind.wrap_i64,IntKind.wrap_u64,List.length_cons,List.length_nil];omega)|(simp only [Lm] at *;omega)|decide) (by first|assumption|omega|(simp only [IntKind.wrap_i64,IntKind.wrap_u64,List.length_cons,List.length_nil];omega)|(simp only [Lm] at *;omega)|decide)) ⟨rfl,fL (GBound.enc _),trivial⟩ (.inl rfl) (fun s hs=>?_))|(apply call_f 215;refine call_x (r09name _) ⟨rfl,trivial⟩ (.inl rfl) (fun s hs=>?_))|(apply call_f 216;refine call_x (r11name _) ⟨rfl,trivial⟩ (.inl rfl) (fun s hs=>?_))|(apply cat_l;exact rfl;(first|exact Nb rfl|omega|(simp only [Lm] at *;omega));intro _)|refine Ai (.inl rfl) (Ai (by have:=hX.2;exact (show (X.length+1)*16≤140737488355328 by omega)) (Ai (by have:=hX.2;exact (show X.length+1 < 140737488355328 by omega)) ?_))|(apply call_f 225;obtain ⟨L,rfl,g1,g2⟩:=hX.list;refine call_x (r02join L _ (by unfold limB;omega) g1 (by omega) (Nb rfl)) ⟨⟨rfl,rfl⟩,rfl,trivial⟩ (.inl rfl) (fun _ _=>?_))|fail)
theorem r15types (a:Int):∃ r:Bool,True∧Ct Tryz.prog 186 [.c (.t (iv a))] (AV.b r) [] true:=by
 refine ct_x (Φ:=fun _=>True) lit_b (ctx_of Tryz.func186 rfl (enters_of Tryz.func186 (by kernel_rfl) rfl) tabOk (by kernel_rfl) rfl rfl (TpX.runY [] [] ?_))
 repeat' (first|(apply cond_p <;> intro _)|(apply leaf_x;exact Ei [] (Ai rfl (Ai trivial rfl));exact (trivial);rfl)|fail)
theorem r15used (a:GMod):∃ r:GMod,True∧Ct Tryz.prog 185 [.agg (a.enc.map .t)] ((fun r=>.agg (r.enc.map .t)) r) [] true:=by
 refine ct_x (Φ:=fun _=>True) (fun _=>rfl) (ctx_of Tryz.func185 rfl (enters_of Tryz.func185 (by kernel_rfl) rfl) tabOk (by kernel_rfl) rfl rfl (TpX.runY [] [] ?_))
 repeat' (first|(apply cond_p <;> intro _)|(apply leaf_x ⟨_,_,_,_,⟨_,_,_,_,_,_,_,_,_,_,⟨_,_⟩,⟨_,_⟩,⟨_,_⟩⟩⟩;refine Ei [] (Ai rfl (Ai trivial ?_));(repeat' first|refine Ai ?_ ?_|exact rfl|exact trivial|exact Ei _ rfl|refine lN ?_|refine bS ?_|fail);done)|fail)
theorem r15is (a:GMod):∃ r:Bool,(r=true→(a.kind=4∨a.kind=5)→a.sub.size≤32)∧Ct Tryz.prog 150 [.agg (a.enc.map .t)] (AV.b r) [] true:=by
 refine ct_x (Φ:=fun (r:Bool)=>r=true→(a.kind=4∨a.kind=5)→a.sub.size≤32) lit_b (ctx_of Tryz.func150 rfl (enters_of Tryz.func150 (by kernel_rfl) rfl) tabOk (by kernel_rfl) rfl rfl (TpX.runY [] [] ?_))
 repeat' (first|(apply cond_p <;> intro _)|apply cond_n|(apply cS <;> intro _)|(apply leaf_x;exact Ei [] (Ai rfl (Ai trivial rfl));exact (by intro hr hk;first|exact Bool.noConfusion hr|(apply_assumption;assumption)|(exfalso;omega));rfl)|(apply call_f 185;refine call_x (r15used _) ⟨fL (GMod.enc _),trivial⟩ (.inl rfl) (fun _ _=>?_))|(apply call_f 186;refine call_x (r15types _) ⟨rfl,trivial⟩ (.inl rfl) (fun _ _=>?_))|(apply call_f 154;refine call_x (r10isSub _) ⟨rfl,trivial⟩ (.inl rfl) (fun _ _=>?_))|(apply call_f 144;refine call_x (r13is _) ⟨fL (GFilter.enc _),trivial⟩ (.inl rfl) (fun _ _=>?_))|fail)
theorem r15text (a:GMod):∃ r:ByteArray,(r.size≤300000)∧Ct Tryz.prog 151 [.agg (a.enc.map .t)] (AV.s r) [] true:=by
 refine ct_x (Φ:=fun (r:ByteArray)=>r.size≤300000) lit_s (ctx_of Tryz.func151 rfl (enters_of Tryz.func151 (by kernel_rfl) rfl) tabOk (by kernel_rfl) rfl rfl (TpX.runY [] [] ?_))
 repeat' (first|(apply cat_l;exact rfl;((have hh:a.sub.size≤32:=by solve_by_elim [Or.inl,Or.inr]);omega);intro _)|(apply cond_p <;> intro _)|apply cond_n|(apply cS <;> intro _)|(apply leaf_x;exact Ei [] (Ai rfl (Ai trivial rfl));exact (by first|exact Nb rfl|omega|(have hh:a.sub.size≤32:=by solve_by_elim [Or.inl,Or.inr]);omega);rfl)|(apply cat_l;exact rfl;(first|exact Nb rfl|omega|(simp only [Lm] at *;omega));intro _)|(apply cat_r;exact rfl;(first|exact Nb rfl|omega|(simp only [Lm] at *;omega));intro _)|(apply cat_s;(first|exact Nb rfl|omega|(simp only [Lm] at *;omega));intro _)|(apply call_f 150;refine call_x (r15is _) ⟨fL (GMod.enc _),trivial⟩ (.inl rfl) (fun _ _=>?_))|(apply call_f 187;refine call_x (r10typesText _) ⟨rfl,trivial⟩ (.inl rfl) (fun _ _=>?_))|(apply call_f 188;refine call_x (r09text _) ⟨rfl,trivial⟩ (.inl rfl) (fun _ _=>?_))|(apply call_f 189;refine call_x (r11text _) ⟨rfl,trivial⟩ (.inl rfl) (fun _ _=>?_))|(apply call_f 190;refine call_x (r13text _) ⟨fL (GFilter.enc _),trivial⟩ (.inl rfl) (fun _ _=>?_))|(apply call_f 191;refine call_x (r01text _) ⟨rfl,trivial⟩ (.inl rfl) (fun _ _=>?_))|fail)
theorem r15listText (a:List GMod) (_ha:a.length*176≤limB):∃ r:ByteArray,True∧Ct Tryz.prog 102 [.c (.t (.sl 20 (a.map GMod.enc)))] (AV.s r) [] true:=by
 refine ct_x (Φ:=fun _=>True) lit_s (ctx_of Tryz.func102 rfl (enters_of Tryz.func102 (by kernel_rfl) rfl) tabOk (by kernel_rfl) rfl rfl (TpX.runY [] [] ?_))
 repeat' (first|(apply cond_p <;> intro _)|apply cond_n|(apply cS <;> intro _)|(apply leaf_x;exact Ei [] (Ai rfl (Ai trivial rfl));exact (trivial);rfl)|(apply lp_at 5 rfl;refine LpX.up (β:=ByteArray) 5 4 ((((a.map GMod.enc).length:Nat):Int)) (by first|omega|exact len62 (by first|assumption|exact okmr ‹_› ‹_› | exact okmg _ ‹_›) rfl) (by omega) (fun p=>[(3,AV.s p)]) (fun i (p:ByteArray)=>(p.size:Int)≤i*400000) [0] [] 200000 rfl ?_;refine Ai ?_ (fun _ _ _ _ _=>TpX.runY [] [] ?_))|exact Ei _ (Ai (by first|exact Nb rfl|((try dsimp only at *);omega)|exact Int.le_refl 0|(simp only [Lm] at *;omega)) (wk_slim rfl rfl rfl rfl))|exact Ai (by first|assumption|omega) (Ei _ (Ai (by first|exact Nb rfl|((try dsimp only at *);omega)|exact Int.le_refl 0|(simp only [Lm] at *;omega)) (wk_slim rfl rfl rfl rfl)))|(apply ix_map;(first|assumption|omega|(simp only [IntKind.wrap_i64,IntKind.wrap_u64,List.length_cons,List.length_nil];omega)|(simp only [Lm] at *;omega)|decide);(first|assumption|omega|(simp only [IntKind.wrap_i64,IntKind.wrap_u64,List.length_cons,List.length_nil];omega)|(simp only [Lm] at *;omega)|decide);intro _ _)|(apply cat_r;exact rfl;(first|exact Nb rfl|omega|(simp only [Lm] at *;omega));intro _)|(apply cat_s;(first|exact Nb rfl|omega|(simp only [Lm] at *;omega));intro _)|(apply call_f 150;refine call_x (r15is _) ⟨fL (GMod.enc _),trivial⟩ (.inl rfl) (fun _ _=>?_))|(apply call_f 151;refine call_x (r15text _) ⟨fL (GMod.enc _),trivial⟩ (.inl rfl) (fun _ _=>?_))|fail)
theorem r17mods (a:List GMod) (ha:a.length*176≤limB):∃ r:Bool,True∧Ct Tryz.prog 210 [.c (.t (.sl 20 (a.map GMod.enc)))] (AV.b r) [] true:=by
 refine ct_x (Φ:=fun _=>True) lit_b (ctx_of Tryz.func210 rfl (enters_of Tryz.func210 (by kernel_rfl) rfl) tabOk (by kernel_rfl) rfl rfl (TpX.runY [] [] ?_))
 repeat' (first|(apply leaf_x;exact Ei [] (Ai rfl (Ai trivial rfl));exact (trivial);rfl)|(apply call_f 102;refine call_x (r15listText _ (by first|assumption|exact okmr ‹_› ‹_› | exact okmg _ ‹_›)) ⟨rfl,trivial⟩ (.inl rfl) (fun _ _=>?_))|fail)
theorem r08cost (a0:Int) (a1:Int) (a2:Int) (a3:Int) (a4:Int) (a5:Int):∃ r:GCost,True∧Ct Tryz.prog 234 [.agg [.t (iv a0),.t (iv a1),.t (iv a2),.t (iv a3),.t (iv a4),.t (iv a5)]] ((fun r=>.agg (r.enc.map .t)) r) [] true:=by
 refine ct_x (Φ:=fun _=>True) (fun _=>rfl) (ctx_of Tryz.func234 rfl (enters_of Tryz.func234 (by kernel_rfl) rfl) tabOk (by kernel_rfl) rfl rfl (TpX.runY [] [] ?_))
 repeat' (first|(apply leaf_x ⟨_,_,_,_,_,_,_⟩;refine Ei [] (Ai rfl (Ai trivial ?_));(repeat' first|refine Ai ?_ ?_|exact rfl|exact trivial|exact Ei _ rfl|refine lN ?_|refine bS ?_|fail);done)|(apply lp_at 3 rfl;refine LpX.one 3 rfl (TpX.runY [] [] ?_))|(apply ix_n;(first|assumption|omega|(simp only [IntKind.wrap_i64];omega)|(simp only [Lm] at *;omega)|decide);(first|assumption|omega|(simp only [IntKind.wrap_i64];omega)|(simp only [Lm] at *;omega)|decide);intro _)|fail)
theorem r08text (a:GCost):∃ r:ByteArray,(r.size≤5000)∧Ct Tryz.prog 233 [.agg (a.enc.map .t)] (AV.s r) [] true:=by
 refine ct_x (Φ:=fun (r:ByteArray)=>r.size≤5000) lit_s (ctx_of Tryz.func233 rfl (enters_of Tryz.func233 (by kernel_rfl) rfl) tabOk (by kernel_rfl) rfl rfl (TpX.runY [] [] ?_))
 refine call_x (r08is a) ⟨fL (GCost.enc _),trivial⟩ (.inl rfl) (fun b hb=>?_)
 refine cond_n (cS (fun hc=>?_) (fun hc=>?_))
 rotate_left
 ·exact leaf_x _ (Ei [] (Ai rfl (Ai trivial rfl))) (by first|exact Nb rfl|((try dsimp only at *);omega)|exact Int.le_refl 0|(simp only [Lm] at *;omega)) rfl
 obtain ⟨k1,k2,k3,k4,k5,k6,k7⟩:=hb hc
 repeat' (first|(apply cond_p <;> intro _)|(apply cond_ne <;> intro _)|(apply cS <;> intro _)|(apply leaf_x;exact Ei [] (Ai rfl (Ai trivial rfl));exact (by first|exact Nb rfl|((try dsimp only at *);omega)|exact Int.le_refl 0|(simp only [Lm] at *;omega));rfl)|(apply lp_at 5 rfl;refine LpX.up (β:=ByteArray) 5 4 (2) (by first|omega|exact len62 (by first|assumption|exact okmr ‹_› ‹_› | exact okmg _ ‹_›) rfl) (by omega) (fun p=>[(3,AV.s p)]) (fun i (p:ByteArray)=>(p.size:Int)≤i*40) [1] [0] 200000 rfl ?_;refine Ai ?_ (fun _ _ _ _ _=>TpX.runY [] [] ?_))|(apply lp_at 11 rfl;refine LpX.up (β:=ByteArray) 11 5 (5) (by first|omega|exact len62 (by first|assumption|exact okmr ‹_› ‹_› | exact okmg _ ‹_›) rfl) (by omega) (fun p=>[(3,AV.s p)]) (fun i (p:ByteArray)=>(p.size:Int)≤300+i*400) [1] [0] 300000 rfl ?_;refine Ai ?_ ?_;rotate_left;intro i p h0 h1 hp;(rcases (by omega:i=0∨i=1∨i=2∨i=3∨i=4∨i=5) with rfl|rfl|rfl|rfl|rfl|rfl) <;> apply TpX.runY [] [])|(apply lp_at 14 rfl;refine LpX.up (β:=ByteArray) 14 6 (9) (by first|omega|exact len62 (by first|assumption|exact okmr ‹_› ‹_› | exact okmg _ ‹_›) rfl) (by omega) (fun p=>[(3,AV.s p)]) (fun i (q:ByteArray)=>(q.size:Int)≤p.size+i*40) [1,5] [0] 400000 rfl ?_;refine Ai ?_ (fun _ _ _ _ _=>TpX.runY [] [] ?_))|exact Ei _ (Ai (by first|exact Nb rfl|((try dsimp only at *);omega)|exact Int.le_refl 0|(simp only [Lm] at *;omega)) (wk_slim rfl rfl rfl rfl))|exact Ai (by first|assumption|omega) (Ei _ (Ai (by first|exact Nb rfl|((try dsimp only at *);omega)|exact Int.le_refl 0|(simp only [Lm] at *;omega)) (wk_slim rfl rfl rfl rfl)))|(apply sl_lit;(intro _ hh;exact hh);(intro _ hh;exact hh);(first|assumption|omega|(simp only [IntKind.wrap_i64,IntKind.wrap_u64,List.length_cons,List.length_nil];omega)|(simp only [Lm] at *;omega)|decide);(first|assumption|omega|(simp only [IntKind.wrap_i64];omega)|(simp only [Lm] at *;omega)|decide);(first|assumption|omega|(simp only [IntKind.wrap_i64];omega)|(simp only [Lm] at *;omega)|decide);intro _)|(apply ix_n;(first|assumption|omega|(simp only [IntKind.wrap_i64,IntKind.wrap_u64,List.length_cons,List.length_nil];omega)|(simp only [Lm] at *;omega)|decide);(first|assumption|omega|(simp only [IntKind.wrap_i64,IntKind.wrap_u64,List.length_cons,List.length_nil];omega)|(simp only [Lm] at *;omega)|decide);intro _)|(apply cat_r;exact rfl;(first|exact Nb rfl|omega|(simp only [Lm] at *;omega));intro _)|(apply cat_s;(first|exact Nb rfl|omega|(simp only [Lm] at *;omega));intro _)|(apply call_f 191;refine call_x (r01text _) ⟨rfl,trivial⟩ (.inl rfl) (fun _ _=>?_))|fail)
theorem r08poolText (a0:Int) (a1:Int) (a2:Int) (a3:Int) (a4:Int) (a5:Int):∃ r:ByteArray,(r.size≤5000)∧Ct Tryz.prog 211 [.agg [.t (iv a0),.t (iv a1),.t (iv a2),.t (iv a3),.t (iv a4),.t (iv a5)]] (AV.s r) [] true:=by
 refine ct_x (Φ:=fun (r:ByteArray)=>r.size≤5000) lit_s (ctx_of Tryz.func211 rfl (enters_of Tryz.func211 (by kernel_rfl) rfl) tabOk (by kernel_rfl) rfl rfl (TpX.runY [] [] ?_))
 repeat' (first|(apply leaf_x;exact Ei [] (Ai rfl (Ai trivial rfl));exact (by first|exact Nb rfl|((try dsimp only at *);omega)|exact Int.le_refl 0|(simp only [Lm] at *;omega));rfl)|(apply call_f 234;refine call_x (r08cost _ _ _ _ _ _) ⟨⟨rfl,rfl,rfl,rfl,rfl,rfl,trivial⟩,trivial⟩ (.inl rfl) (fun _ _=>?_))|(apply call_f 233;refine call_x (r08text _) ⟨fL (GCost.enc _),trivial⟩ (.inl rfl) (fun _ _=>?_))|fail)
theorem r17is (a:GEffect) (b:Int) (ha:a.ok):∃ r:Bool,True∧Ct Tryz.prog 184 [.agg (a.enc.map .t),.c (.t (iv b))] (AV.b r) [] true:=by
 have ha_:=ha
 obtain ⟨oa0,oa1,oa2,oa3,oa4⟩:=ha_
 refine ct_x (Φ:=fun _=>True) lit_b (ctx_of Tryz.func184 rfl (enters_of Tryz.func184 (by kernel_rfl) rfl) tabOk (by kernel_rfl) rfl rfl (TpX.runY [] [6,7,8,11,14,17,20,23] ?_))
 repeat' (first|(apply cond_p <;> intro _)|apply cond_n|(apply cS <;> intro _)|(apply leaf_x;exact Ei [] (Ai rfl (Ai trivial rfl));exact (trivial);rfl)|(apply cut_at 6 rfl;refine TpX.cut (α:=Bool) 6 (fun p=>[(5,AV.b p)]) (fun _=>True) [2] [0] 200000 rfl ?_;refine Ai (TpX.runY [] [6,7,8,11,14,17,20,23] ?_) (fun _ _=>TpX.runY [] [6,7,8,11,14,17,20,23] ?_))|(apply cut_at 7 rfl;refine TpX.cut (α:=Bool) 7 (fun p=>[(6,AV.b p)]) (fun _=>True) [2,5] [0] 300000 rfl ?_;refine Ai (TpX.runY [] [6,7,8,11,14,17,20,23] ?_) (fun _ _=>TpX.runY [] [6,7,8,11,14,17,20,23] ?_))|(apply cut_at 8 rfl;refine TpX.cut (α:=Bool) 8 (fun p=>[(7,AV.b p)]) (fun _=>True) [2,5,6] [0] 400000 rfl ?_;refine Ai (TpX.runY [] [6,7,8,11,14,17,20,23] ?_) (fun _ _=>TpX.runY [] [6,7,8,11,14,17,20,23] ?_))|(apply cut_at 11 rfl;refine TpX.cut (α:=Bool) 11 (fun p=>[(8,AV.b p)]) (fun _=>True) [2,5,6,7] [0] 500000 rfl ?_;refine Ai (TpX.runY [] [6,7,8,11,14,17,20,23] ?_) (fun _ _=>TpX.runY [] [6,7,8,11,14,17,20,23] ?_))|(apply cut_at 14 rfl;refine TpX.cut (α:=Bool) 14 (fun p=>[(9,AV.b p)]) (fun _=>True) [2,5,6,7,8] [0] 600000 rfl ?_;refine Ai (TpX.runY [] [6,7,8,11,14,17,20,23] ?_) (fun _ _=>TpX.runY [] [6,7,8,11,14,17,20,23] ?_))|(apply cut_at 17 rfl;refine TpX.cut (α:=Bool) 17 (fun p=>[(10,AV.b p)]) (fun _=>True) [2,5,6,7,8,9] [0] 700000 rfl ?_;refine Ai (TpX.runY [] [6,7,8,11,14,17,20,23] ?_) (fun _ _=>TpX.runY [] [6,7,8,11,14,17,20,23] ?_))|(apply cut_at 20 rfl;refine TpX.cut (α:=Bool) 20 (fun p=>[(11,AV.b p)]) (fun _=>True) [2,5,6,7,8,9,10] [0] 800000 rfl ?_;refine Ai (TpX.runY [] [6,7,8,11,14,17,20,23] ?_) (fun _ _=>TpX.runY [] [6,7,8,11,14,17,20,23] ?_))|(apply cut_at 23 rfl;refine TpX.cut (α:=Bool) 23 (fun p=>[(12,AV.b p)]) (fun _=>True) [5,6,7,8,9,10,11] [] 900000 rfl ?_;refine Ai (TpX.runY [] [6,7,8,11,14,17,20,23] ?_) (fun _ _=>TpX.runY [] [6,7,8,11,14,17,20,23] ?_))|exact Ei _ (Ai (trivial) (wk_slim rfl rfl rfl rfl))|(apply call_f 205;refine call_x (r17word _) ⟨rfl,trivial⟩ (.inl rfl) (fun _ _=>?_))|(apply call_f 206;refine call_x (r17uses _ _) ⟨rfl,rfl,trivial⟩ (.inl rfl) (fun _ _=>?_))|(apply call_f 207;refine call_x (r16is _ _) ⟨fL (GRef.enc _),rfl,trivial⟩ (.inl rfl) (fun _ _=>?_))|(apply call_f 208;refine call_x (r12name _) ⟨rfl,trivial⟩ (.inl rfl) (fun _ _=>?_))|(apply call_f 104;refine call_x (r02is _) ⟨rfl,trivial⟩ (.inl rfl) (fun _ _=>?_))|(apply call_f 209;refine call_x (r14is _) ⟨fL (GAmount.enc _),trivial⟩ (.inl rfl) (fun _ _=>?_))|(apply call_f 210;refine call_x (r17mods _ (by first|assumption|exact okmr ‹_› ‹_› | exact okmg _ ‹_›)) ⟨rfl,trivial⟩ (.inl rfl) (fun _ _=>?_))|(apply call_f 211;refine call_x (r08poolText _ _ _ _ _ _) ⟨⟨rfl,rfl,rfl,rfl,rfl,rfl,trivial⟩,trivial⟩ (.inl rfl) (fun _ _=>?_))|(apply call_f 212;refine call_x (r17filter _ _) ⟨rfl,fL (GFilter.enc _),trivial⟩ (.inl rfl) (fun _ _=>?_))|fail)
theorem r20effects (a:List GEffect) (b:Int) (ha:a.length*560≤limB) (ma:∀ y∈a,GEffect.ok y):∃ r:Bool,True∧Ct Tryz.prog 149 [.c (.t (.sl 64 (a.map GEffect.enc))),.c (.t (iv b))] (AV.b r) [] true:=by
 refine ct_x (Φ:=fun _=>True) lit_b (ctx_of Tryz.func149 rfl (enters_of Tryz.func149 (by kernel_rfl) rfl) tabOk (by kernel_rfl) rfl rfl (TpX.runY [] [] ?_))
 repeat' (first|(apply cond_p <;> intro _)|apply cond_n|(apply cS <;> intro _)|(apply leaf_x;exact Ei [] (Ai rfl (Ai trivial rfl));exact (trivial);rfl)|(apply lp_at 2 rfl;refine LpX.up (β:=Unit) 2 5 ((((a.map GEffect.enc).length:Nat):Int)) (by first|omega|exact len62 (by first|assumption|exact okmr ‹_› ‹_› | exact okmg _ ‹_›) rfl) (by omega) (fun _=>[]) (fun _ _=>True) [0,1] [] 200000 rfl ?_;refine Ai ?_ (fun _ _ _ _ _=>TpX.runY [] [] ?_))|exact Ei () (Ai (trivial) (wk_slim rfl rfl rfl rfl))|exact Ai (by first|assumption|omega) (Ei () (Ai (trivial) (wk_slim rfl rfl rfl rfl)))|(apply ix_map;(first|assumption|omega|(simp only [IntKind.wrap_i64,IntKind.wrap_u64,List.length_cons,List.length_nil];omega)|(simp only [Lm] at *;omega)|decide);(first|assumption|omega|(simp only [IntKind.wrap_i64,IntKind.wrap_u64,List.length_cons,List.length_nil];omega)|(simp only [Lm] at *;omega)|decide);intro _ _)|(apply call_f 184;refine call_x (r17is _ _ (by first|assumption|exact okmr ‹_› ‹_› | exact okmg _ ‹_›)) ⟨fL (GEffect.enc _),rfl,trivial⟩ (.inl rfl) (fun _ _=>?_))|fail)
theorem r20is (a:GAbility) (ha:a.ok):∃ r:Bool,True∧Ct Tryz.prog 100 [.agg (a.enc.map .t)] (AV.b r) [] true:=by
 have ha_:=ha
 obtain ⟨oa0,oa1,oa2,oa3,oa4,oa5,oa6,oa7,oa8,oa9⟩:=ha_
 refine ct_x (Φ:=fun _=>True) lit_b (ctx_of Tryz.func100 rfl (enters_of Tryz.func100 (by kernel_rfl) rfl) tabOk (by kernel_rfl) rfl rfl (TpX.runY [] [1002,3,4,1006,1008,9,1013,14,1018,19,24] ?_))
 repeat' (first|(apply cond_p <;> intro _)|(apply cond_ne <;> intro _)|apply cond_n|(apply cS <;> intro _)|(apply leaf_x;exact Ei [] (Ai rfl (Ai trivial rfl));exact (trivial);rfl)|(apply cut_at 1002 rfl;refine TpX.cut (α:=Bool) 1002 (fun p=>[(11,AV.b p)]) (fun _=>True) [1] [0] 200000 rfl ?_;refine Ai (TpX.runY [] [1002,3,4,1006,1008,9,1013,14,1018,19,24] ?_) (fun _ _=>TpX.runY [] [1002,3,4,1006,1008,9,1013,14,1018,19,24] ?_))|(apply cut_at 3 rfl;refine TpX.cut (α:=Unit) 3 (fun _=>[]) (fun _=>True) [1] [0] 300000 rfl ?_;refine Ai (TpX.runY [] [1002,3,4,1006,1008,9,1013,14,1018,19,24] ?_) (fun _ _=>TpX.runY [] [1002,3,4,1006,1008,9,1013,14,1018,19,24] ?_))|(apply cut_at 4 rfl;refine TpX.cut (α:=Bool) 4 (fun p=>[(3,AV.b p)]) (fun _=>True) [1] [0] 400000 rfl ?_;refine Ai (TpX.runY [] [1002,3,4,1006,1008,9,1013,14,1018,19,24] ?_) (fun _ _=>TpX.runY [] [1002,3,4,1006,1008,9,1013,14,1018,19,24] ?_))|(apply cut_at 1006 rfl;refine TpX.cut (α:=Bool) 1006 (fun p=>[(43,AV.b p)]) (fun _=>True) [1,3] [0] 500000 rfl ?_;refine Ai (TpX.runY [] [1002,3,4,1006,1008,9,1013,14,1018,19,24] ?_) (fun _ _=>TpX.runY [] [1002,3,4,1006,1008,9,1013,14,1018,19,24] ?_))|(apply cut_at 1008 rfl;refine TpX.cut (α:=Bool) 1008 (fun p=>[(53,AV.b p)]) (fun _=>True) [1,3] [0] 600000 rfl ?_;refine Ai (TpX.runY [] [1002,3,4,1006,1008,9,1013,14,1018,19,24] ?_) (fun _ _=>TpX.runY [] [1002,3,4,1006,1008,9,1013,14,1018,19,24] ?_))|(apply cut_at 9 rfl;refine TpX.cut (α:=Unit) 9 (fun _=>[]) (fun _=>True) [1,3] [0] 700000 rfl ?_;refine Ai (TpX.runY [] [1002,3,4,1006,1008,9,1013,14,1018,19,24] ?_) (fun _ _=>TpX.runY [] [1002,3,4,1006,1008,9,1013,14,1018,19,24] ?_))|(apply cut_at 1013 rfl;refine TpX.cut (α:=Bool) 1013 (fun p=>[(68,AV.b p)]) (fun _=>True) [1,3] [0] 800000 rfl ?_;refine Ai (TpX.runY [] [1002,3,4,1006,1008,9,1013,14,1018,19,24] ?_) (fun _ _=>TpX.runY [] [1002,3,4,1006,1008,9,1013,14,1018,19,24] ?_))|(apply cut_at 14 rfl;refine TpX.cut (α:=Unit) 14 (fun _=>[]) (fun _=>True) [1,3] [0] 900000 rfl ?_;refine Ai (TpX.runY [] [1002,3,4,1006,1008,9,1013,14,1018,19,24] ?_) (fun _ _=>TpX.runY [] [1002,3,4,1006,1008,9,1013,14,1018,19,24] ?_))|(apply cut_at 1018 rfl;refine TpX.cut (α:=Bool) 1018 (fun p=>[(83,AV.b p)]) (fun _=>True) [1,3] [0] 1000000 rfl ?_;refine Ai (TpX.runY [] [1002,3,4,1006,1008,9,1013,14,1018,19,24] ?_) (fun _ _=>TpX.runY [] [1002,3,4,1006,1008,9,1013,14,1018,19,24] ?_))|(apply cut_at 19 rfl;refine TpX.cut (α:=Unit) 19 (fun _=>[]) (fun _=>True) [1,3] [0] 1100000 rfl ?_;refine Ai (TpX.runY [] [1002,3,4,1006,1008,9,1013,14,1018,19,24] ?_) (fun _ _=>TpX.runY [] [1002,3,4,1006,1008,9,1013,14,1018,19,24] ?_))|(apply cut_at 24 rfl;refine TpX.cut (α:=Unit) 24 (fun _=>[]) (fun _=>True) [1,3] [0] 1200000 rfl ?_;refine Ai (TpX.runY [] [1002,3,4,1006,1008,9,1013,14,1018,19,24] ?_) (fun _ _=>TpX.runY [] [1002,3,4,1006,1008,9,1013,14,1018,19,24] ?_))|exact Ei () (Ai (trivial) (wk_slim rfl rfl rfl rfl))|exact Ei _ (Ai (trivial) (wk_slim rfl rfl rfl rfl))|(apply call_f 144;refine call_x (r13is _) ⟨fL (GFilter.enc _),trivial⟩ (.inl rfl) (fun _ _=>?_))|(apply call_f 102;refine call_x (r15listText _ (by first|assumption|exact okmr ‹_› ‹_› | exact okmg _ ‹_›)) ⟨rfl,trivial⟩ (.inl rfl) (fun _ _=>?_))|(apply call_f 145;refine call_x (r20price _) ⟨fL (GPrice.enc _),trivial⟩ (.inl rfl) (fun _ _=>?_))|(apply call_f 146;refine call_x (r18is _) ⟨fL (GTrigger.enc _),trivial⟩ (.inl rfl) (fun _ _=>?_))|(apply call_f 147;refine call_x (r19is _) ⟨fL (GReplace.enc _),trivial⟩ (.inl rfl) (fun _ _=>?_))|(apply call_f 148;refine call_x (r20specs _ (by first|assumption|exact okmr ‹_› ‹_› | exact okmg _ ‹_›)) ⟨rfl,trivial⟩ (.inl rfl) (fun _ _=>?_))|(apply call_f 149;refine call_x (r20effects _ _ (by first|assumption|exact okmr ‹_› ‹_› | exact okmg _ ‹_›) (by first|assumption|exact okmr ‹_› ‹_› | exact okmg _ ‹_›)) ⟨rfl,rfl,trivial⟩ (.inl rfl) (fun _ _=>?_))|fail)
theorem r03sameR_ (a:List Int) (ha:a.length*8≤limB):∃ r:Bool,(r=true)∧Ct Tryz.prog 20 [.c (.t (.sl 1 (a.map eI))),.c (.t (.sl 1 (a.map eI)))] (AV.b r) [] true:=by
 refine ct_x (Φ:=fun (r:Bool)=>r=true) lit_b (ctx_of Tryz.func20 rfl (enters_of Tryz.func20 (by kernel_rfl) rfl) tabOk (by kernel_rfl) rfl rfl (TpX.runY [] [] ?_))
 repeat' (first|(apply cond_f;(focus (simp;done)))|(apply ix_k;(first|assumption|omega|(simp only [IntKind.wrap_i64,IntKind.wrap_u64,List.length_cons,List.length_nil];omega)|(simp only [Lm] at *;omega)|decide);(first|assumption|omega|(simp only [IntKind.wrap_i64,IntKind.wrap_u64,List.length_cons,List.length_nil];omega)|(simp only [Lm] at *;omega)|decide);intro _)|exact leaf_x true (Ei [] (Ai rfl (Ai trivial rfl))) rfl rfl|(apply cond_p <;> intro _)|(apply lp_at 4 rfl;refine LpX.up (β:=Unit) 4 5 ((((a.map eI).length:Nat):Int)) (by first|omega|exact len62 (by first|assumption|exact okmr ‹_› ‹_› | exact okmg _ ‹_›) rfl) (by omega) (fun _=>[]) (fun _ _=>True) [0,1] [] 200000 rfl ?_;refine Ai ?_ (fun _ _ _ _ _=>TpX.runY [] [] ?_))|exact Ei () (Ai (trivial) (wk_slim rfl rfl rfl rfl))|exact Ai (by first|assumption|omega) (Ei () (Ai (trivial) (wk_slim rfl rfl rfl rfl)))|fail)
theorem r03sameR (a:List Int) (ha:a.length*8≤limB):Ct Tryz.prog 20 [.c (.t (.sl 1 (a.map eI))),.c (.t (.sl 1 (a.map eI)))] (AV.b true) [] true:=by
 obtain ⟨r,rfl,h⟩:=r03sameR_ a ha
 exact h
theorem r26sameModsR_ (a:List GMod) (ha:a.length*176≤limB):∃ r:Bool,(r=true)∧Ct Tryz.prog 115 [.c (.t (.sl 20 (a.map GMod.enc))),.c (.t (.sl 20 (a.map GMod.enc)))] (AV.b r) [] true:=by
 refine ct_x (Φ:=fun (r:Bool)=>r=true) lit_b (ctx_of Tryz.func115 rfl (enters_of Tryz.func115 (by kernel_rfl) rfl) tabOk (by kernel_rfl) rfl rfl (TpX.runY [] [] ?_))
 repeat' (first|(apply cond_f;(focus (simp [lksEq,lkEq];done)))|(apply ix_k;(first|assumption|omega|(simp only [IntKind.wrap_i64,IntKind.wrap_u64,List.length_cons,List.length_nil];omega)|(simp only [Lm] at *;omega)|decide);(first|assumption|omega|(simp only [IntKind.wrap_i64,IntKind.wrap_u64,List.length_cons,List.length_nil];omega)|(simp only [Lm] at *;omega)|decide);intro _)|exact leaf_x true (Ei [] (Ai rfl (Ai trivial rfl))) rfl rfl|(apply cond_p <;> intro _)|(apply lp_at 4 rfl;refine LpX.up (β:=Unit) 4 5 ((((a.map GMod.enc).length:Nat):Int)) (by first|omega|exact len62 (by first|assumption|exact okmr ‹_› ‹_› | exact okmg _ ‹_›) rfl) (by omega) (fun _=>[]) (fun _ _=>True) [0,1] [] 200000 rfl ?_;refine Ai ?_ (fun _ _ _ _ _=>TpX.runY [] [] ?_))|exact Ei () (Ai (trivial) (wk_slim rfl rfl rfl rfl))|exact Ai (by first|assumption|omega) (Ei () (Ai (trivial) (wk_slim rfl rfl rfl rfl)))|fail)
theorem r26sameModsR (a:List GMod) (ha:a.length*176≤limB):Ct Tryz.prog 115 [.c (.t (.sl 20 (a.map GMod.enc))),.c (.t (.sl 20 (a.map GMod.enc)))] (AV.b true) [] true:=by
 obtain ⟨r,rfl,h⟩:=r26sameModsR_ a ha
 exact h
theorem r17sameModsR_ (a:List GMod) (ha:a.length*176≤limB):∃ r:Bool,(r=true)∧Ct Tryz.prog 160 [.c (.t (.sl 20 (a.map GMod.enc))),.c (.t (.sl 20 (a.map GMod.enc)))] (AV.b r) [] true:=by
 refine ct_x (Φ:=fun (r:Bool)=>r=true) lit_b (ctx_of Tryz.func160 rfl (enters_of Tryz.func160 (by kernel_rfl) rfl) tabOk (by kernel_rfl) rfl rfl (TpX.runY [] [] ?_))
 repeat' (first|(apply cond_f;(focus (simp [lksEq,lkEq];done)))|(apply ix_k;(first|assumption|omega|(simp only [IntKind.wrap_i64,IntKind.wrap_u64,List.length_cons,List.length_nil];omega)|(simp only [Lm] at *;omega)|decide);(first|assumption|omega|(simp only [IntKind.wrap_i64,IntKind.wrap_u64,List.length_cons,List.length_nil];omega)|(simp only [Lm] at *;omega)|decide);intro _)|exact leaf_x true (Ei [] (Ai rfl (Ai trivial rfl))) rfl rfl|(apply cond_p <;> intro _)|(apply lp_at 4 rfl;refine LpX.up (β:=Unit) 4 5 ((((a.map GMod.enc).length:Nat):Int)) (by first|omega|exact len62 (by first|assumption|exact okmr ‹_› ‹_› | exact okmg _ ‹_›) rfl) (by omega) (fun _=>[]) (fun _ _=>True) [0,1] [] 200000 rfl ?_;refine Ai ?_ (fun _ _ _ _ _=>TpX.runY [] [] ?_))|exact Ei () (Ai (trivial) (wk_slim rfl rfl rfl rfl))|exact Ai (by first|assumption|omega) (Ei () (Ai (trivial) (wk_slim rfl rfl rfl rfl)))|fail)
theorem r17sameModsR (a:List GMod) (ha:a.length*176≤limB):Ct Tryz.prog 160 [.c (.t (.sl 20 (a.map GMod.enc))),.c (.t (.sl 20 (a.map GMod.enc)))] (AV.b true) [] true:=by
 obtain ⟨r,rfl,h⟩:=r17sameModsR_ a ha
 exact h
theorem r17sameR_ (a:GEffect) (ha:a.ok):∃ r:Bool,(r=true)∧Ct Tryz.prog 199 [.agg (a.enc.map .t),.agg (a.enc.map .t)] (AV.b r) [] true:=by
 have ha_:=ha
 obtain ⟨oa0,oa1,oa2,oa3,oa4⟩:=ha_
 refine ct_x (Φ:=fun (r:Bool)=>r=true) lit_b (ctx_of Tryz.func199 rfl (enters_of Tryz.func199 (by kernel_rfl) rfl) tabOk (by kernel_rfl) rfl rfl (TpX.runY [] [] ?_))
 repeat' (first|(apply cond_t;(focus (simp [lksEq,lkEq];done)))|exact leaf_x true (Ei [] (Ai rfl (Ai trivial rfl))) rfl rfl|(apply call_f 160;refine cI (r17sameModsR _ (by first|assumption|exact okmr ‹_› ‹_› | exact okmg _ ‹_›)) ⟨rfl,rfl,trivial⟩ (.inl rfl) ?_)|fail)
theorem r17sameR (a:GEffect) (ha:a.ok):Ct Tryz.prog 199 [.agg (a.enc.map .t),.agg (a.enc.map .t)] (AV.b true) [] true:=by
 obtain ⟨r,rfl,h⟩:=r17sameR_ a ha
 exact h
theorem r17sameListR_ (a:List GEffect) (ha:a.length*560≤limB) (ma:∀ y∈a,GEffect.ok y):∃ r:Bool,(r=true)∧Ct Tryz.prog 161 [.c (.t (.sl 64 (a.map GEffect.enc))),.c (.t (.sl 64 (a.map GEffect.enc)))] (AV.b r) [] true:=by
 refine ct_x (Φ:=fun (r:Bool)=>r=true) lit_b (ctx_of Tryz.func161 rfl (enters_of Tryz.func161 (by kernel_rfl) rfl) tabOk (by kernel_rfl) rfl rfl (TpX.runY [] [] ?_))
 repeat' (first|(apply cond_f;(focus (simp;done)))|(apply ix_k;(first|assumption|omega|(simp only [IntKind.wrap_i64,IntKind.wrap_u64,List.length_cons,List.length_nil];omega)|(simp only [Lm] at *;omega)|decide);(first|assumption|omega|(simp only [IntKind.wrap_i64,IntKind.wrap_u64,List.length_cons,List.length_nil];omega)|(simp only [Lm] at *;omega)|decide);intro _)|exact leaf_x true (Ei [] (Ai rfl (Ai trivial rfl))) rfl rfl|(apply cond_p <;> intro _)|(apply lp_at 4 rfl;refine LpX.up (β:=Unit) 4 5 ((((a.map GEffect.enc).length:Nat):Int)) (by first|omega|exact len62 (by first|assumption|exact okmr ‹_› ‹_› | exact okmg _ ‹_›) rfl) (by omega) (fun _=>[]) (fun _ _=>True) [0,1] [] 200000 rfl ?_;refine Ai ?_ (fun _ _ _ _ _=>TpX.runY [] [] ?_))|exact Ei () (Ai (trivial) (wk_slim rfl rfl rfl rfl))|exact Ai (by first|assumption|omega) (Ei () (Ai (trivial) (wk_slim rfl rfl rfl rfl)))|(apply call_f 199;refine cI (r17sameR _ (by first|assumption|exact okmr ‹_› ‹_› | exact okmg _ ‹_›)) ⟨fL (GEffect.enc _),fL (GEffect.enc _),trivial⟩ (.inl rfl) ?_)|fail)
theorem r17sameListR (a:List GEffect) (ha:a.length*560≤limB) (ma:∀ y∈a,GEffect.ok y):Ct Tryz.prog 161 [.c (.t (.sl 64 (a.map GEffect.enc))),.c (.t (.sl 64 (a.map GEffect.enc)))] (AV.b true) [] true:=by
 obtain ⟨r,rfl,h⟩:=r17sameListR_ a ha ma
 exact h
theorem r20sameR_ (a:GAbility) (ha:a.ok):∃ r:Bool,(r=true)∧Ct Tryz.prog 114 [.agg (a.enc.map .t),.agg (a.enc.map .t)] (AV.b r) [] true:=by
 have ha_:=ha
 obtain ⟨oa0,oa1,oa2,oa3,oa4,oa5,oa6,oa7,oa8,oa9⟩:=ha_
 refine ct_x (Φ:=fun (r:Bool)=>r=true) lit_b (ctx_of Tryz.func114 rfl (enters_of Tryz.func114 (by kernel_rfl) rfl) tabOk (by kernel_rfl) rfl rfl (TpX.runY [] [] ?_))
 repeat' (first|(apply cond_f;(focus (simp [lksEq,lkEq];done)))|(apply cond_t;(focus (simp [lksEq,lkEq];done)))|(apply ix_k;(first|assumption|omega|(simp only [IntKind.wrap_i64,IntKind.wrap_u64,List.length_cons,List.length_nil];omega)|(simp only [Lm] at *;omega)|decide);(first|assumption|omega|(simp only [IntKind.wrap_i64,IntKind.wrap_u64,List.length_cons,List.length_nil];omega)|(simp only [Lm] at *;omega)|decide);intro _)|(apply leaf_x;exact Ei [] (Ai rfl (Ai trivial rfl));(focus (simp [lksEq,lkEq];done));rfl)|(apply cond_p <;> intro _)|(apply lp_at 4 rfl;refine LpX.up (β:=Unit) 4 5 ((((a.specs.map GSpec.enc).length:Nat):Int)) (by first|omega|exact len62 (by first|assumption|exact okmr ‹_› ‹_› | exact okmg _ ‹_›) rfl) (by omega) (fun _=>[]) (fun _ _=>True) [2,3] [0,128] 200000 rfl ?_;refine Ai ?_ (fun _ _ _ _ _=>TpX.runY [] [] ?_))|exact Ei () (Ai (trivial) (wk_slim rfl rfl rfl rfl))|exact Ai (by first|assumption|omega) (Ei () (Ai (trivial) (wk_slim rfl rfl rfl rfl)))|(apply call_f 160;refine cI (r17sameModsR _ (by first|assumption|exact okmr ‹_› ‹_› | exact okmg _ ‹_›)) ⟨rfl,rfl,trivial⟩ (.inl rfl) ?_)|(apply call_f 161;refine cI (r17sameListR _ (by first|assumption|exact okmr ‹_› ‹_› | exact okmg _ ‹_›) (by first|assumption|exact okmr ‹_› ‹_› | exact okmg _ ‹_›)) ⟨rfl,rfl,trivial⟩ (.inl rfl) ?_)|fail)
theorem r20sameR (a:GAbility) (ha:a.ok):Ct Tryz.prog 114 [.agg (a.enc.map .t),.agg (a.enc.map .t)] (AV.b true) [] true:=by
 obtain ⟨r,rfl,h⟩:=r20sameR_ a ha
 exact h
theorem r26samePlayerR_ (a:GPlayer) (ha:a.ok):∃ r:Bool,(r=true)∧Ct Tryz.prog 48 [.agg (a.enc.map .t),.agg (a.enc.map .t)] (AV.b r) [] true:=by
 have ha_:=ha
 obtain ⟨oa0,oa1,oa2⟩:=ha_
 refine ct_x (Φ:=fun (r:Bool)=>r=true) lit_b (ctx_of Tryz.func48 rfl (enters_of Tryz.func48 (by kernel_rfl) rfl) tabOk (by kernel_rfl) rfl rfl (TpX.runY [] [] ?_))
 repeat' (first|(apply cond_f;(focus (simp [lksEq,lkEq];done)))|exact leaf_x true (Ei [] (Ai rfl (Ai trivial rfl))) rfl rfl|(apply call_f 20;refine cI (r03sameR _ (by first|assumption|exact okmr ‹_› ‹_› | exact okmg _ ‹_›)) ⟨rfl,rfl,trivial⟩ (.inl rfl) ?_)|fail)
theorem r26samePlayerR (a:GPlayer) (ha:a.ok):Ct Tryz.prog 48 [.agg (a.enc.map .t),.agg (a.enc.map .t)] (AV.b true) [] true:=by
 obtain ⟨r,rfl,h⟩:=r26samePlayerR_ a ha
 exact h
theorem r26sameItemR_ (a:GItem) (ha:a.ok):∃ r:Bool,(r=true)∧Ct Tryz.prog 49 [.agg (a.enc.map .t),.agg (a.enc.map .t)] (AV.b r) [] true:=by
 have ha_:=ha
 obtain ⟨oa0,oa1,oa2,oa3⟩:=ha_
 refine ct_x (Φ:=fun (r:Bool)=>r=true) lit_b (ctx_of Tryz.func49 rfl (enters_of Tryz.func49 (by kernel_rfl) rfl) tabOk (by kernel_rfl) rfl rfl (TpX.runY [] [] ?_))
 repeat' (first|(apply cond_f;(focus (simp [lksEq,lkEq];done)))|(apply cond_t;(focus (simp;done)))|(apply ix_k;(first|assumption|omega|(simp only [IntKind.wrap_i64,IntKind.wrap_u64,List.length_cons,List.length_nil];omega)|(simp only [Lm] at *;omega)|decide);(first|assumption|omega|(simp only [IntKind.wrap_i64,IntKind.wrap_u64,List.length_cons,List.length_nil];omega)|(simp only [Lm] at *;omega)|decide);intro _)|(apply leaf_x;exact Ei [] (Ai rfl (Ai trivial rfl));(focus (simp [lksEq,lkEq];done));rfl)|(apply cond_p <;> intro _)|(apply lp_at 4 rfl;refine LpX.up (β:=Unit) 4 5 ((((a.targets.map GTarget.enc).length:Nat):Int)) (by first|omega|exact len62 (by first|assumption|exact okmr ‹_› ‹_› | exact okmg _ ‹_›) rfl) (by omega) (fun _=>[]) (fun _ _=>True) [2,3] [0,128] 200000 rfl ?_;refine Ai ?_ (fun _ _ _ _ _=>TpX.runY [] [] ?_))|exact Ei () (Ai (trivial) (wk_slim rfl rfl rfl rfl))|exact Ai (by first|assumption|omega) (Ei () (Ai (trivial) (wk_slim rfl rfl rfl rfl)))|(apply call_f 114;refine cI (r20sameR _ (by first|assumption|exact okmr ‹_› ‹_› | exact okmg _ ‹_›)) ⟨fL (GAbility.enc _),fL (GAbility.enc _),trivial⟩ (.inl rfl) ?_)|fail)
theorem r26sameItemR (a:GItem) (ha:a.ok):Ct Tryz.prog 49 [.agg (a.enc.map .t),.agg (a.enc.map .t)] (AV.b true) [] true:=by
 obtain ⟨r,rfl,h⟩:=r26sameItemR_ a ha
 exact h
theorem r26sameWaitingR_ (a:GWaiting) (ha:a.ok):∃ r:Bool,(r=true)∧Ct Tryz.prog 50 [.agg (a.enc.map .t),.agg (a.enc.map .t)] (AV.b r) [] true:=by
 have ha_:=ha
 obtain ⟨oa0,oa1⟩:=ha_
 refine ct_x (Φ:=fun (r:Bool)=>r=true) lit_b (ctx_of Tryz.func50 rfl (enters_of Tryz.func50 (by kernel_rfl) rfl) tabOk (by kernel_rfl) rfl rfl (TpX.runY [] [] ?_))
 repeat' (first|(apply cond_t;(focus (simp;done)))|(apply leaf_x;exact Ei [] (Ai rfl (Ai trivial rfl));(focus (simp [lksEq,lkEq];done));rfl)|(apply call_f 114;refine cI (r20sameR _ (by first|assumption|exact okmr ‹_› ‹_› | exact okmg _ ‹_›)) ⟨fL (GAbility.enc _),fL (GAbility.enc _),trivial⟩ (.inl rfl) ?_)|fail)
theorem r26sameWaitingR (a:GWaiting) (ha:a.ok):Ct Tryz.prog 50 [.agg (a.enc.map .t),.agg (a.enc.map .t)] (AV.b true) [] true:=by
 obtain ⟨r,rfl,h⟩:=r26sameWaitingR_ a ha
 exact h
theorem r26sameContR_ (a:GCont) (ha:a.ok):∃ r:Bool,(r=true)∧Ct Tryz.prog 51 [.agg (a.enc.map .t),.agg (a.enc.map .t)] (AV.b r) [] true:=by
 have ha_:=ha
 obtain ⟨oa0,oa1,oa2⟩:=ha_
 refine ct_x (Φ:=fun (r:Bool)=>r=true) lit_b (ctx_of Tryz.func51 rfl (enters_of Tryz.func51 (by kernel_rfl) rfl) tabOk (by kernel_rfl) rfl rfl (TpX.runY [] [] ?_))
 repeat' (first|(apply cond_t;(focus (simp;done)))|exact leaf_x true (Ei [] (Ai rfl (Ai trivial rfl))) rfl rfl|(apply call_f 20;refine cI (r03sameR _ (by first|assumption|exact okmr ‹_› ‹_› | exact okmg _ ‹_›)) ⟨rfl,rfl,trivial⟩ (.inl rfl) ?_)|(apply call_f 115;refine cI (r26sameModsR _ (by first|assumption|exact okmr ‹_› ‹_› | exact okmg _ ‹_›)) ⟨rfl,rfl,trivial⟩ (.inl rfl) ?_)|fail)
theorem r26sameContR (a:GCont) (ha:a.ok):Ct Tryz.prog 51 [.agg (a.enc.map .t),.agg (a.enc.map .t)] (AV.b true) [] true:=by
 obtain ⟨r,rfl,h⟩:=r26sameContR_ a ha
 exact h
theorem r26listsR_ (a:GState) (ha:a.ok):∃ r:Bool,(r=true)∧Ct Tryz.prog 19 [.agg (a.enc.map .t),.agg (a.enc.map .t)] (AV.b r) [] true:=by
 have ha_:=ha
 obtain ⟨oa0,oa1,oa2,oa3,oa4,oa5,oa6,oa7,oa8,oa9,oa10,oa11,oa12⟩:=ha_
 refine ct_x (Φ:=fun (r:Bool)=>r=true) lit_b (ctx_of Tryz.func19 rfl (enters_of Tryz.func19 (by kernel_rfl) rfl) tabOk (by kernel_rfl) rfl rfl (TpX.runY [] [] ?_))
 repeat' (first|(apply cond_f;(focus (simp [lksEq,lkEq];done)))|(apply ix_k;(first|assumption|omega|(simp only [IntKind.wrap_i64,IntKind.wrap_u64,List.length_cons,List.length_nil];omega)|(simp only [Lm] at *;omega)|decide);(first|assumption|omega|(simp only [IntKind.wrap_i64,IntKind.wrap_u64,List.length_cons,List.length_nil];omega)|(simp only [Lm] at *;omega)|decide);intro _)|exact leaf_x true (Ei [] (Ai rfl (Ai trivial rfl))) rfl rfl|(apply cond_p <;> intro _)|(apply lp_at 4 rfl;refine LpX.up (β:=Unit) 4 5 ((((a.players.map GPlayer.enc).length:Nat):Int)) (by first|omega|exact len62 (by first|assumption|exact okmr ‹_› ‹_› | exact okmg _ ‹_›) rfl) (by omega) (fun _=>[]) (fun _ _=>True) [2,3] [0,128] 200000 rfl ?_;refine Ai ?_ (fun _ _ _ _ _=>TpX.runY [] [] ?_))|(apply lp_at 9 rfl;refine LpX.up (β:=Unit) 9 6 ((((a.objects.map GObject.enc).length:Nat):Int)) (by first|omega|exact len62 (by first|assumption|exact okmr ‹_› ‹_› | exact okmg _ ‹_›) rfl) (by omega) (fun _=>[]) (fun _ _=>True) [2,3] [0,128] 300000 rfl ?_;refine Ai ?_ (fun _ _ _ _ _=>TpX.runY [] [] ?_))|(apply lp_at 14 rfl;refine LpX.up (β:=Unit) 14 7 ((((a.stack.map GItem.enc).length:Nat):Int)) (by first|omega|exact len62 (by first|assumption|exact okmr ‹_› ‹_› | exact okmg _ ‹_›) rfl) (by omega) (fun _=>[]) (fun _ _=>True) [2,3] [0,128] 400000 rfl ?_;refine Ai ?_ (fun _ _ _ _ _=>TpX.runY [] [] ?_))|(apply lp_at 19 rfl;refine LpX.up (β:=Unit) 19 8 ((((a.waiting.map GWaiting.enc).length:Nat):Int)) (by first|omega|exact len62 (by first|assumption|exact okmr ‹_› ‹_› | exact okmg _ ‹_›) rfl) (by omega) (fun _=>[]) (fun _ _=>True) [2,3] [0,128] 500000 rfl ?_;refine Ai ?_ (fun _ _ _ _ _=>TpX.runY [] [] ?_))|(apply lp_at 24 rfl;refine LpX.up (β:=Unit) 24 9 ((((a.conts.map GCont.enc).length:Nat):Int)) (by first|omega|exact len62 (by first|assumption|exact okmr ‹_› ‹_› | exact okmg _ ‹_›) rfl) (by omega) (fun _=>[]) (fun _ _=>True) [2,3] [0,128] 600000 rfl ?_;refine Ai ?_ (fun _ _ _ _ _=>TpX.runY [] [] ?_))|exact Ei () (Ai (trivial) (wk_slim rfl rfl rfl rfl))|exact Ai (by first|assumption|omega) (Ei () (Ai (trivial) (wk_slim rfl rfl rfl rfl)))|(apply call_f 48;refine cI (r26samePlayerR _ (by first|assumption|exact okmr ‹_› ‹_› | exact okmg _ ‹_›)) ⟨fL (GPlayer.enc _),fL (GPlayer.enc _),trivial⟩ (.inl rfl) ?_)|(apply call_f 49;refine cI (r26sameItemR _ (by first|assumption|exact okmr ‹_› ‹_› | exact okmg _ ‹_›)) ⟨fL (GItem.enc _),fL (GItem.enc _),trivial⟩ (.inl rfl) ?_)|(apply call_f 50;refine cI (r26sameWaitingR _ (by first|assumption|exact okmr ‹_› ‹_› | exact okmg _ ‹_›)) ⟨fL (GWaiting.enc _),fL (GWaiting.enc _),trivial⟩ (.inl rfl) ?_)|(apply call_f 51;refine cI (r26sameContR _ (by first|assumption|exact okmr ‹_› ‹_› | exact okmg _ ‹_›)) ⟨fL (GCont.enc _),fL (GCont.enc _),trivial⟩ (.inl rfl) ?_)|fail)
theorem r26listsR (a:GState) (ha:a.ok):Ct Tryz.prog 19 [.agg (a.enc.map .t),.agg (a.enc.map .t)] (AV.b true) [] true:=by
 obtain ⟨r,rfl,h⟩:=r26listsR_ a ha
 exact h
theorem r26sameR_ (a:GState) (ha:a.ok):∃ r:Bool,(r=true)∧Ct Tryz.prog 9 [.agg (a.enc.map .t),.agg (a.enc.map .t)] (AV.b r) [] true:=by
 have ha_:=ha
 obtain ⟨oa0,oa1,oa2,oa3,oa4,oa5,oa6,oa7,oa8,oa9,oa10,oa11,oa12⟩:=ha_
 refine ct_x (Φ:=fun (r:Bool)=>r=true) lit_b (ctx_of Tryz.func9 rfl (enters_of Tryz.func9 (by kernel_rfl) rfl) tabOk (by kernel_rfl) rfl rfl (TpX.runY [] [] ?_))
 repeat' (first|(apply cond_f;(focus (simp;done)))|exact leaf_x true (Ei [] (Ai rfl (Ai trivial rfl))) rfl rfl|(apply call_f 19;refine cI (r26listsR _ (by first|assumption|exact okmr ‹_› ‹_› | exact okmg _ ‹_›)) ⟨fL (GState.enc _),fL (GState.enc _),trivial⟩ (.inl rfl) ?_)|(apply call_f 20;refine cI (r03sameR _ (by first|assumption|exact okmr ‹_› ‹_› | exact okmg _ ‹_›)) ⟨rfl,rfl,trivial⟩ (.inl rfl) ?_)|fail)
theorem r26sameR (a:GState) (ha:a.ok):Ct Tryz.prog 9 [.agg (a.enc.map .t),.agg (a.enc.map .t)] (AV.b true) [] true:=by
 obtain ⟨r,rfl,h⟩:=r26sameR_ a ha
 exact h
theorem r03same (a:List Int) (b:List Int) (ha:a.length*8≤limB) (_hb:b.length*8≤limB):∃ r:Bool,True∧Ct Tryz.prog 20 [.c (.t (.sl 1 (a.map eI))),.c (.t (.sl 1 (b.map eI)))] (AV.b r) [] true:=by
 refine ct_x (Φ:=fun _=>True) lit_b (ctx_of Tryz.func20 rfl (enters_of Tryz.func20 (by kernel_rfl) rfl) tabOk (by kernel_rfl) rfl rfl (TpX.runY [] [] ?_))
 repeat' (first|(apply cond_p <;> intro _)|(apply cond_ne <;> intro _)|(apply leaf_x;exact Ei [] (Ai rfl (Ai trivial rfl));exact (trivial);rfl)|(apply lp_at 4 rfl;refine LpX.up (β:=Unit) 4 5 ((((a.map eI).length:Nat):Int)) (by first|omega|exact len62 (by first|assumption|exact okmr ‹_› ‹_› | exact okmg _ ‹_›) rfl) (by omega) (fun _=>[]) (fun _ _=>True) [0,1] [] 200000 rfl ?_;refine Ai ?_ (fun _ _ _ _ _=>TpX.runY [] [] ?_))|exact Ei () (Ai (trivial) (wk_slim rfl rfl rfl rfl))|exact Ai (by first|assumption|omega) (Ei () (Ai (trivial) (wk_slim rfl rfl rfl rfl)))|(apply ix_map;(first|assumption|omega|(simp only [IntKind.wrap_i64,IntKind.wrap_u64,List.length_cons,List.length_nil];omega)|(simp only [Lm] at *;omega)|decide);(first|assumption|omega|(simp only [IntKind.wrap_i64,IntKind.wrap_u64,List.length_cons,List.length_nil];omega)|(simp only [Lm] at *;omega)|decide);intro _ _)|fail)
theorem r26sameMods (a:List GMod) (b:List GMod) (ha:a.length*176≤limB) (_hb:b.length*176≤limB):∃ r:Bool,True∧Ct Tryz.prog 115 [.c (.t (.sl 20 (a.map GMod.enc))),.c (.t (.sl 20 (b.map GMod.enc)))] (AV.b r) [] true:=by
 refine ct_x (Φ:=fun _=>True) lit_b (ctx_of Tryz.func115 rfl (enters_of Tryz.func115 (by kernel_rfl) rfl) tabOk (by kernel_rfl) rfl rfl (TpX.runY [] [] ?_))
 repeat' (first|(apply cond_p <;> intro _)|(apply cond_ne <;> intro _)|apply cond_n|(apply cS <;> intro _)|(apply leaf_x;exact Ei [] (Ai rfl (Ai trivial rfl));exact (trivial);rfl)|(apply lp_at 4 rfl;refine LpX.up (β:=Unit) 4 5 ((((a.map GMod.enc).length:Nat):Int)) (by first|omega|exact len62 (by first|assumption|exact okmr ‹_› ‹_› | exact okmg _ ‹_›) rfl) (by omega) (fun _=>[]) (fun _ _=>True) [0,1] [] 200000 rfl ?_;refine Ai ?_ (fun _ _ _ _ _=>TpX.runY [] [] ?_))|exact Ei () (Ai (trivial) (wk_slim rfl rfl rfl rfl))|exact Ai (by first|assumption|omega) (Ei () (Ai (trivial) (wk_slim rfl rfl rfl rfl)))|(apply ix_map;(first|assumption|omega|(simp only [IntKind.wrap_i64,IntKind.wrap_u64,List.length_cons,List.length_nil];omega)|(simp only [Lm] at *;omega)|decide);(first|assumption|omega|(simp only [IntKind.wrap_i64,IntKind.wrap_u64,List.length_cons,List.length_nil];omega)|(simp only [Lm] at *;omega)|decide);intro _ _)|fail)
theorem r17sameMods (a:List GMod) (b:List GMod) (ha:a.length*176≤limB) (_hb:b.length*176≤limB):∃ r:Bool,True∧Ct Tryz.prog 160 [.c (.t (.sl 20 (a.map GMod.enc))),.c (.t (.sl 20 (b.map GMod.enc)))] (AV.b r) [] true:=by
 refine ct_x (Φ:=fun _=>True) lit_b (ctx_of Tryz.func160 rfl (enters_of Tryz.func160 (by kernel_rfl) rfl) tabOk (by kernel_rfl) rfl rfl (TpX.runY [] [] ?_))
 repeat' (first|(apply cond_p <;> intro _)|(apply cond_ne <;> intro _)|apply cond_n|(apply cS <;> intro _)|(apply leaf_x;exact Ei [] (Ai rfl (Ai trivial rfl));exact (trivial);rfl)|(apply lp_at 4 rfl;refine LpX.up (β:=Unit) 4 5 ((((a.map GMod.enc).length:Nat):Int)) (by first|omega|exact len62 (by first|assumption|exact okmr ‹_› ‹_› | exact okmg _ ‹_›) rfl) (by omega) (fun _=>[]) (fun _ _=>True) [0,1] [] 200000 rfl ?_;refine Ai ?_ (fun _ _ _ _ _=>TpX.runY [] [] ?_))|exact Ei () (Ai (trivial) (wk_slim rfl rfl rfl rfl))|exact Ai (by first|assumption|omega) (Ei () (Ai (trivial) (wk_slim rfl rfl rfl rfl)))|(apply ix_map;(first|assumption|omega|(simp only [IntKind.wrap_i64,IntKind.wrap_u64,List.length_cons,List.length_nil];omega)|(simp only [Lm] at *;omega)|decide);(first|assumption|omega|(simp only [IntKind.wrap_i64,IntKind.wrap_u64,List.length_cons,List.length_nil];omega)|(simp only [Lm] at *;omega)|decide);intro _ _)|fail)
theorem r17same (a:GEffect) (b:GEffect) (ha:a.ok) (hb:b.ok):∃ r:Bool,True∧Ct Tryz.prog 199 [.agg (a.enc.map .t),.agg (b.enc.map .t)] (AV.b r) [] true:=by
 have ha_:=ha
 obtain ⟨oa0,oa1,oa2,oa3,oa4⟩:=ha_
 have hb_:=hb
 obtain ⟨ob0,ob1,ob2,ob3,ob4⟩:=hb_
 refine ct_x (Φ:=fun _=>True) lit_b (ctx_of Tryz.func199 rfl (enters_of Tryz.func199 (by kernel_rfl) rfl) tabOk (by kernel_rfl) rfl rfl (TpX.runY [] [] ?_))
 repeat' (first|(apply cond_p <;> intro _)|(apply cS <;> intro _)|(apply leaf_x;exact Ei [] (Ai rfl (Ai trivial rfl));exact (trivial);rfl)|(apply call_f 160;refine call_x (r17sameMods _ _ (by first|assumption|exact okmr ‹_› ‹_› | exact okmg _ ‹_›) (by first|assumption|exact okmr ‹_› ‹_› | exact okmg _ ‹_›)) ⟨rfl,rfl,trivial⟩ (.inl rfl) (fun _ _=>?_))|fail)
theorem r17sameList (a:List GEffect) (b:List GEffect) (ha:a.length*560≤limB) (ma:∀ y∈a,GEffect.ok y) (_hb:b.length*560≤limB) (mb:∀ y∈b,GEffect.ok y):∃ r:Bool,True∧Ct Tryz.prog 161 [.c (.t (.sl 64 (a.map GEffect.enc))),.c (.t (.sl 64 (b.map GEffect.enc)))] (AV.b r) [] true:=by
 refine ct_x (Φ:=fun _=>True) lit_b (ctx_of Tryz.func161 rfl (enters_of Tryz.func161 (by kernel_rfl) rfl) tabOk (by kernel_rfl) rfl rfl (TpX.runY [] [] ?_))
 repeat' (first|(apply cond_p <;> intro _)|(apply cond_ne <;> intro _)|apply cond_n|(apply cS <;> intro _)|(apply leaf_x;exact Ei [] (Ai rfl (Ai trivial rfl));exact (trivial);rfl)|(apply lp_at 4 rfl;refine LpX.up (β:=Unit) 4 5 ((((a.map GEffect.enc).length:Nat):Int)) (by first|omega|exact len62 (by first|assumption|exact okmr ‹_› ‹_› | exact okmg _ ‹_›) rfl) (by omega) (fun _=>[]) (fun _ _=>True) [0,1] [] 200000 rfl ?_;refine Ai ?_ (fun _ _ _ _ _=>TpX.runY [] [] ?_))|exact Ei () (Ai (trivial) (wk_slim rfl rfl rfl rfl))|exact Ai (by first|assumption|omega) (Ei () (Ai (trivial) (wk_slim rfl rfl rfl rfl)))|(apply ix_map;(first|assumption|omega|(simp only [IntKind.wrap_i64,IntKind.wrap_u64,List.length_cons,List.length_nil];omega)|(simp only [Lm] at *;omega)|decide);(first|assumption|omega|(simp only [IntKind.wrap_i64,IntKind.wrap_u64,List.length_cons,List.length_nil];omega)|(simp only [Lm] at *;omega)|decide);intro _ _)|(apply call_f 199;refine call_x (r17same _ _ (by first|assumption|exact okmr ‹_› ‹_› | exact okmg _ ‹_›) (by first|assumption|exact okmr ‹_› ‹_› | exact okmg _ ‹_›)) ⟨fL (GEffect.enc _),fL (GEffect.enc _),trivial⟩ (.inl rfl) (fun _ _=>?_))|fail)
theorem r20same (a:GAbility) (b:GAbility) (ha:a.ok) (hb:b.ok):∃ r:Bool,True∧Ct Tryz.prog 114 [.agg (a.enc.map .t),.agg (b.enc.map .t)] (AV.b r) [] true:=by
 have ha_:=ha
 obtain ⟨oa0,oa1,oa2,oa3,oa4,oa5,oa6,oa7,oa8,oa9⟩:=ha_
 have hb_:=hb
 obtain ⟨ob0,ob1,ob2,ob3,ob4,ob5,ob6,ob7,ob8,ob9⟩:=hb_
 refine ct_x (Φ:=fun _=>True) lit_b (ctx_of Tryz.func114 rfl (enters_of Tryz.func114 (by kernel_rfl) rfl) tabOk (by kernel_rfl) rfl rfl (TpX.runY [] [] ?_))
 repeat' (first|(apply cond_p <;> intro _)|(apply cond_ne <;> intro _)|apply cond_n|(apply cS <;> intro _)|(apply leaf_x;exact Ei [] (Ai rfl (Ai trivial rfl));exact (trivial);rfl)|(apply lp_at 4 rfl;refine LpX.up (β:=Unit) 4 5 ((((a.specs.map GSpec.enc).length:Nat):Int)) (by first|omega|exact len62 (by first|assumption|exact okmr ‹_› ‹_› | exact okmg _ ‹_›) rfl) (by omega) (fun _=>[]) (fun _ _=>True) [2,3] [0,128] 200000 rfl ?_;refine Ai ?_ (fun _ _ _ _ _=>TpX.runY [] [] ?_))|exact Ei () (Ai (trivial) (wk_slim rfl rfl rfl rfl))|exact Ai (by first|assumption|omega) (Ei () (Ai (trivial) (wk_slim rfl rfl rfl rfl)))|(apply ix_map;(first|assumption|omega|(simp only [IntKind.wrap_i64,IntKind.wrap_u64,List.length_cons,List.length_nil];omega)|(simp only [Lm] at *;omega)|decide);(first|assumption|omega|(simp only [IntKind.wrap_i64,IntKind.wrap_u64,List.length_cons,List.length_nil];omega)|(simp only [Lm] at *;omega)|decide);intro _ _)|(apply call_f 160;refine call_x (r17sameMods _ _ (by first|assumption|exact okmr ‹_› ‹_› | exact okmg _ ‹_›) (by first|assumption|exact okmr ‹_› ‹_› | exact okmg _ ‹_›)) ⟨rfl,rfl,trivial⟩ (.inl rfl) (fun _ _=>?_))|(apply call_f 161;refine call_x (r17sameList _ _ (by first|assumption|exact okmr ‹_› ‹_› | exact okmg _ ‹_›) (by first|assumption|exact okmr ‹_› ‹_› | exact okmg _ ‹_›) (by first|assumption|exact okmr ‹_› ‹_› | exact okmg _ ‹_›) (by first|assumption|exact okmr ‹_› ‹_› | exact okmg _ ‹_›)) ⟨rfl,rfl,trivial⟩ (.inl rfl) (fun _ _=>?_))|fail)
theorem r26samePlayer (a:GPlayer) (b:GPlayer) (ha:a.ok) (hb:b.ok):∃ r:Bool,True∧Ct Tryz.prog 48 [.agg (a.enc.map .t),.agg (b.enc.map .t)] (AV.b r) [] true:=by
 have ha_:=ha
 obtain ⟨oa0,oa1,oa2⟩:=ha_
 have hb_:=hb
 obtain ⟨ob0,ob1,ob2⟩:=hb_
 refine ct_x (Φ:=fun _=>True) lit_b (ctx_of Tryz.func48 rfl (enters_of Tryz.func48 (by kernel_rfl) rfl) tabOk (by kernel_rfl) rfl rfl (TpX.runY [] [] ?_))
 repeat' (first|(apply cond_p <;> intro _)|(apply cond_ne <;> intro _)|apply cond_n|(apply cS <;> intro _)|(apply leaf_x;exact Ei [] (Ai rfl (Ai trivial rfl));exact (trivial);rfl)|(apply call_f 20;refine call_x (r03same _ _ (by first|assumption|exact okmr ‹_› ‹_› | exact okmg _ ‹_›) (by first|assumption|exact okmr ‹_› ‹_› | exact okmg _ ‹_›)) ⟨rfl,rfl,trivial⟩ (.inl rfl) (fun _ _=>?_))|fail)
theorem r26sameItem (a:GItem) (b:GItem) (ha:a.ok) (hb:b.ok):∃ r:Bool,True∧Ct Tryz.prog 49 [.agg (a.enc.map .t),.agg (b.enc.map .t)] (AV.b r) [] true:=by
 have ha_:=ha
 obtain ⟨oa0,oa1,oa2,oa3⟩:=ha_
 have hb_:=hb
 obtain ⟨ob0,ob1,ob2,ob3⟩:=hb_
 refine ct_x (Φ:=fun _=>True) lit_b (ctx_of Tryz.func49 rfl (enters_of Tryz.func49 (by kernel_rfl) rfl) tabOk (by kernel_rfl) rfl rfl (TpX.runY [] [] ?_))
 repeat' (first|(apply cond_p <;> intro _)|(apply cond_ne <;> intro _)|apply cond_n|(apply cS <;> intro _)|(apply leaf_x;exact Ei [] (Ai rfl (Ai trivial rfl));exact (trivial);rfl)|(apply lp_at 4 rfl;refine LpX.up (β:=Unit) 4 5 ((((a.targets.map GTarget.enc).length:Nat):Int)) (by first|omega|exact len62 (by first|assumption|exact okmr ‹_› ‹_› | exact okmg _ ‹_›) rfl) (by omega) (fun _=>[]) (fun _ _=>True) [2,3] [0,128] 200000 rfl ?_;refine Ai ?_ (fun _ _ _ _ _=>TpX.runY [] [] ?_))|exact Ei () (Ai (trivial) (wk_slim rfl rfl rfl rfl))|exact Ai (by first|assumption|omega) (Ei () (Ai (trivial) (wk_slim rfl rfl rfl rfl)))|(apply ix_map;(first|assumption|omega|(simp only [IntKind.wrap_i64,IntKind.wrap_u64,List.length_cons,List.length_nil];omega)|(simp only [Lm] at *;omega)|decide);(first|assumption|omega|(simp only [IntKind.wrap_i64,IntKind.wrap_u64,List.length_cons,List.length_nil];omega)|(simp only [Lm] at *;omega)|decide);intro _ _)|(apply call_f 114;refine call_x (r20same _ _ (by first|assumption|exact okmr ‹_› ‹_› | exact okmg _ ‹_›) (by first|assumption|exact okmr ‹_› ‹_› | exact okmg _ ‹_›)) ⟨fL (GAbility.enc _),fL (GAbility.enc _),trivial⟩ (.inl rfl) (fun _ _=>?_))|fail)
theorem r26sameWaiting (a:GWaiting) (b:GWaiting) (ha:a.ok) (hb:b.ok):∃ r:Bool,True∧Ct Tryz.prog 50 [.agg (a.enc.map .t),.agg (b.enc.map .t)] (AV.b r) [] true:=by
 have ha_:=ha
 obtain ⟨oa0,oa1⟩:=ha_
 have hb_:=hb
 obtain ⟨ob0,ob1⟩:=hb_
 refine ct_x (Φ:=fun _=>True) lit_b (ctx_of Tryz.func50 rfl (enters_of Tryz.func50 (by kernel_rfl) rfl) tabOk (by kernel_rfl) rfl rfl (TpX.runY [] [] ?_))
 repeat' (first|(apply cond_p <;> intro _)|(apply cS <;> intro _)|(apply leaf_x;exact Ei [] (Ai rfl (Ai trivial rfl));exact (trivial);rfl)|(apply call_f 114;refine call_x (r20same _ _ (by first|assumption|exact okmr ‹_› ‹_› | exact okmg _ ‹_›) (by first|assumption|exact okmr ‹_› ‹_› | exact okmg _ ‹_›)) ⟨fL (GAbility.enc _),fL (GAbility.enc _),trivial⟩ (.inl rfl) (fun _ _=>?_))|fail)
theorem r26sameCont (a:GCont) (b:GCont) (ha:a.ok) (hb:b.ok):∃ r:Bool,True∧Ct Tryz.prog 51 [.agg (a.enc.map .t),.agg (b.enc.map .t)] (AV.b r) [] true:=by
 have ha_:=ha
 obtain ⟨oa0,oa1,oa2⟩:=ha_
 have hb_:=hb
 obtain ⟨ob0,ob1,ob2⟩:=hb_
 refine ct_x (Φ:=fun _=>True) lit_b (ctx_of Tryz.func51 rfl (enters_of Tryz.func51 (by kernel_rfl) rfl) tabOk (by kernel_rfl) rfl rfl (TpX.runY [] [] ?_))
 repeat' (first|(apply cond_p <;> intro _)|(apply cS <;> intro _)|(apply leaf_x;exact Ei [] (Ai rfl (Ai trivial rfl));exact (trivial);rfl)|(apply call_f 20;refine call_x (r03same _ _ (by first|assumption|exact okmr ‹_› ‹_› | exact okmg _ ‹_›) (by first|assumption|exact okmr ‹_› ‹_› | exact okmg _ ‹_›)) ⟨rfl,rfl,trivial⟩ (.inl rfl) (fun _ _=>?_))|(apply call_f 115;refine call_x (r26sameMods _ _ (by first|assumption|exact okmr ‹_› ‹_› | exact okmg _ ‹_›) (by first|assumption|exact okmr ‹_› ‹_› | exact okmg _ ‹_›)) ⟨rfl,rfl,trivial⟩ (.inl rfl) (fun _ _=>?_))|fail)
theorem r26lists (a:GState) (b:GState) (ha:a.ok) (hb:b.ok):∃ r:Bool,True∧Ct Tryz.prog 19 [.agg (a.enc.map .t),.agg (b.enc.map .t)] (AV.b r) [] true:=by
 have ha_:=ha
 obtain ⟨oa0,oa1,oa2,oa3,oa4,oa5,oa6,oa7,oa8,oa9,oa10,oa11,oa12⟩:=ha_
 have hb_:=hb
 obtain ⟨ob0,ob1,ob2,ob3,ob4,ob5,ob6,ob7,ob8,ob9,ob10,ob11,ob12⟩:=hb_
 refine ct_x (Φ:=fun _=>True) lit_b (ctx_of Tryz.func19 rfl (enters_of Tryz.func19 (by kernel_rfl) rfl) tabOk (by kernel_rfl) rfl rfl (TpX.runY [] [] ?_))
 repeat' (first|(apply cond_p <;> intro _)|(apply cond_ne <;> intro _)|apply cond_n|(apply cS <;> intro _)|(apply leaf_x;exact Ei [] (Ai rfl (Ai trivial rfl));exact (trivial);rfl)|(apply lp_at 4 rfl;refine LpX.up (β:=Unit) 4 5 ((((a.players.map GPlayer.enc).length:Nat):Int)) (by first|omega|exact len62 (by first|assumption|exact okmr ‹_› ‹_› | exact okmg _ ‹_›) rfl) (by omega) (fun _=>[]) (fun _ _=>True) [2,3] [0,128] 200000 rfl ?_;refine Ai ?_ (fun _ _ _ _ _=>TpX.runY [] [] ?_))|(apply lp_at 9 rfl;refine LpX.up (β:=Unit) 9 6 ((((a.objects.map GObject.enc).length:Nat):Int)) (by first|omega|exact len62 (by first|assumption|exact okmr ‹_› ‹_› | exact okmg _ ‹_›) rfl) (by omega) (fun _=>[]) (fun _ _=>True) [2,3] [0,128] 300000 rfl ?_;refine Ai ?_ (fun _ _ _ _ _=>TpX.runY [] [] ?_))|(apply lp_at 14 rfl;refine LpX.up (β:=Unit) 14 7 ((((a.stack.map GItem.enc).length:Nat):Int)) (by first|omega|exact len62 (by first|assumption|exact okmr ‹_› ‹_› | exact okmg _ ‹_›) rfl) (by omega) (fun _=>[]) (fun _ _=>True) [2,3] [0,128] 400000 rfl ?_;refine Ai ?_ (fun _ _ _ _ _=>TpX.runY [] [] ?_))|(apply lp_at 19 rfl;refine LpX.up (β:=Unit) 19 8 ((((a.waiting.map GWaiting.enc).length:Nat):Int)) (by first|omega|exact len62 (by first|assumption|exact okmr ‹_› ‹_› | exact okmg _ ‹_›) rfl) (by omega) (fun _=>[]) (fun _ _=>True) [2,3] [0,128] 500000 rfl ?_;refine Ai ?_ (fun _ _ _ _ _=>TpX.runY [] [] ?_))|(apply lp_at 24 rfl;refine LpX.up (β:=Unit) 24 9 ((((a.conts.map GCont.enc).length:Nat):Int)) (by first|omega|exact len62 (by first|assumption|exact okmr ‹_› ‹_› | exact okmg _ ‹_›) rfl) (by omega) (fun _=>[]) (fun _ _=>True) [2,3] [0,128] 600000 rfl ?_;refine Ai ?_ (fun _ _ _ _ _=>TpX.runY [] [] ?_))|exact Ei () (Ai (trivial) (wk_slim rfl rfl rfl rfl))|exact Ai (by first|assumption|omega) (Ei () (Ai (trivial) (wk_slim rfl rfl rfl rfl)))|(apply ix_map;(first|assumption|omega|(simp only [IntKind.wrap_i64,IntKind.wrap_u64,List.length_cons,List.length_nil];omega)|(simp only [Lm] at *;omega)|decide);(first|assumption|omega|(simp only [IntKind.wrap_i64,IntKind.wrap_u64,List.length_cons,List.length_nil];omega)|(simp only [Lm] at *;omega)|decide);intro _ _)|(apply call_f 48;refine call_x (r26samePlayer _ _ (by first|assumption|exact okmr ‹_› ‹_› | exact okmg _ ‹_›) (by first|assumption|exact okmr ‹_› ‹_› | exact okmg _ ‹_›)) ⟨fL (GPlayer.enc _),fL (GPlayer.enc _),trivial⟩ (.inl rfl) (fun _ _=>?_))|(apply call_f 49;refine call_x (r26sameItem _ _ (by first|assumption|exact okmr ‹_› ‹_› | exact okmg _ ‹_›) (by first|assumption|exact okmr ‹_› ‹_› | exact okmg _ ‹_›)) ⟨fL (GItem.enc _),fL (GItem.enc _),trivial⟩ (.inl rfl) (fun _ _=>?_))|(apply call_f 50;refine call_x (r26sameWaiting _ _ (by first|assumption|exact okmr ‹_› ‹_› | exact okmg _ ‹_›) (by first|assumption|exact okmr ‹_› ‹_› | exact okmg _ ‹_›)) ⟨fL (GWaiting.enc _),fL (GWaiting.enc _),trivial⟩ (.inl rfl) (fun _ _=>?_))|(apply call_f 51;refine call_x (r26sameCont _ _ (by first|assumption|exact okmr ‹_› ‹_› | exact okmg _ ‹_›) (by first|assumption|exact okmr ‹_› ‹_› | exact okmg _ ‹_›)) ⟨fL (GCont.enc _),fL (GCont.enc _),trivial⟩ (.inl rfl) (fun _ _=>?_))|fail)
theorem r26same (a:GState) (b:GState) (ha:a.ok) (hb:b.ok):∃ r:Bool,True∧Ct Tryz.prog 9 [.agg (a.enc.map .t),.agg (b.enc.map .t)] (AV.b r) [] true:=by
 have ha_:=ha
 obtain ⟨oa0,oa1,oa2,oa3,oa4,oa5,oa6,oa7,oa8,oa9,oa10,oa11,oa12⟩:=ha_
 have hb_:=hb
 obtain ⟨ob0,ob1,ob2,ob3,ob4,ob5,ob6,ob7,ob8,ob9,ob10,ob11,ob12⟩:=hb_
 refine ct_x (Φ:=fun _=>True) lit_b (ctx_of Tryz.func9 rfl (enters_of Tryz.func9 (by kernel_rfl) rfl) tabOk (by kernel_rfl) rfl rfl (TpX.runY [] [] ?_))
 repeat' (first|(apply cond_p <;> intro _)|(apply cond_ne <;> intro _)|apply cond_n|(apply cS <;> intro _)|(apply leaf_x;exact Ei [] (Ai rfl (Ai trivial rfl));exact (trivial);rfl)|(apply call_f 19;refine call_x (r26lists _ _ (by first|assumption|exact okmr ‹_› ‹_› | exact okmg _ ‹_›) (by first|assumption|exact okmr ‹_› ‹_› | exact okmg _ ‹_›)) ⟨fL (GState.enc _),fL (GState.enc _),trivial⟩ (.inl rfl) (fun _ _=>?_))|(apply call_f 20;refine call_x (r03same _ _ (by first|assumption|exact okmr ‹_› ‹_› | exact okmg _ ‹_›) (by first|assumption|exact okmr ‹_› ‹_› | exact okmg _ ‹_›)) ⟨rfl,rfl,trivial⟩ (.inl rfl) (fun _ _=>?_))|fail)
theorem r26in_ (a:Int) (b:Int) (c:Int):∃ r:Bool,(r=(inM a b c))∧Ct Tryz.prog 37 [.c (.t (iv a)),.c (.t (iv b)),.c (.t (iv c))] (AV.b r) [] true:=by
 refine ct_x (Φ:=fun (r:Bool)=>r=(inM a b c)) lit_b (ctx_of Tryz.func37 rfl (enters_of Tryz.func37 (by kernel_rfl) rfl) tabOk (by kernel_rfl) rfl rfl (TpX.runY [] [] ?_))
 repeat' (first|(apply cond_p <;> intro _)|(apply leaf_x;exact Ei [] (Ai rfl (Ai trivial rfl));exact (by simp [inM, *]);rfl)|fail)
theorem r26in (a:Int) (b:Int) (c:Int):Ct Tryz.prog 37 [.c (.t (iv a)),.c (.t (iv b)),.c (.t (iv c))] (AV.b (inM a b c)) [] true:=by
 obtain ⟨r,hr,h⟩:=r26in_ a b c
 rw [hr] at h
 exact h
theorem r26times_ (a:List Int) (b:Int) (ha:a.length*8≤limB):∃ r:Int,(r=(timesM a b))∧Ct Tryz.prog 139 [.c (.t (.sl 1 (a.map eI))),.c (.t (iv b))] (AV.i r) [] true:=by
 refine ct_x (Φ:=fun (r:Int)=>r=(timesM a b)) lit_i (ctx_of Tryz.func139 rfl (enters_of Tryz.func139 (by kernel_rfl) rfl) tabOk (by kernel_rfl) rfl rfl (TpX.runY [] [] ?_))
 repeat' (first|(apply ix_k;(first|assumption|omega|(simp only [IntKind.wrap_i64,IntKind.wrap_u64,List.length_cons,List.length_nil];omega)|(simp only [Lm] at *;omega)|decide);(first|assumption|omega|(simp only [IntKind.wrap_i64,IntKind.wrap_u64,List.length_cons,List.length_nil];omega)|(simp only [Lm] at *;omega)|decide);intro _)|(apply cond_p <;> intro _)|(apply leaf_x;exact Ei [] (Ai rfl (Ai trivial rfl));exact (times_end ‹_› ‹_›);rfl)|(apply lp_at 3 rfl;refine LpX.up (β:=Int) 3 6 ((((a.map eI).length:Nat):Int)) (by first|omega|exact len62 (by first|assumption|exact okmr ‹_› ‹_› | exact okmg _ ‹_›) rfl) (by omega) (fun p=>[(5,AV.i p)]) (fun i (p:Int)=>p=((a.take i.toNat).count b:Nat)∧p≤i) [0,1] [] 200000 rfl ?_;refine Ai ?_ (fun _ _ _ _ _=>TpX.runY [] [] ?_))|exact Ei _ (Ai (by first|exact ⟨rfl,Int.le_refl 0⟩|exact times_up1 ‹_› ‹_› ‹_› ‹_› ‹_› ‹_› | exact times_up0 ‹_› ‹_› ‹_› ‹_›) (wk_slim rfl rfl rfl rfl))|exact Ai (by first|assumption|omega) (Ei _ (Ai (by first|exact ⟨rfl,Int.le_refl 0⟩|exact times_up1 ‹_› ‹_› ‹_› ‹_› ‹_› ‹_› | exact times_up0 ‹_› ‹_› ‹_› ‹_›) (wk_slim rfl rfl rfl rfl)))|fail)
theorem r26times (a:List Int) (b:Int) (ha:a.length*8≤limB):Ct Tryz.prog 139 [.c (.t (.sl 1 (a.map eI))),.c (.t (iv b))] (AV.i (timesM a b)) [] true:=by
 obtain ⟨r,hr,h⟩:=r26times_ a b ha
 rw [hr] at h
 exact h
theorem r26object (a:GState) (b:Int) (ha:a.objects.length*128≤limB):Ct Tryz.prog 138 [.agg (a.enc.map .t),.c (.t (iv b))] (.tup [.agg ((findM a.objects b).enc.map .t),AV.b (hasM a.objects b)]) [] true:=by
 refine Ct.litT (b:=false) ?_ rfl
 refine ct_of Tryz.func138 rfl (enters_of Tryz.func138 (by kernel_rfl) rfl) tabOk (by kernel_rfl) rfl rfl rfl rfl fun w0 O _=>Tp.run [] ?_
 refine cI (find_ct a b ha) ⟨fL a.enc,rfl,trivial⟩ (.inl rfl) ?_
 refine Ei [] (Ai rfl (Ai trivial ?_))
 repeat' first|refine Ai ?_ ?_|exact rfl|exact trivial|exact Ei _ rfl|refine lN ?_|refine bS ?_|fail
theorem r26list_ (a:GState) (b:List Int) (c:Int) (d:Int) (ha:a.ok) (hb:b.length*8≤limB):∃ r:Bool,(r=(listOk a c d b))∧Ct Tryz.prog 96 [.agg (a.enc.map .t),.c (.t (.sl 1 (b.map eI))),.c (.t (iv c)),.c (.t (iv d))] (AV.b r) [] true:=by
 have ha_:=ha
 obtain ⟨oa0,oa1,oa2,oa3,oa4,oa5,oa6,oa7,oa8,oa9,oa10,oa11,oa12⟩:=ha_
 refine ct_x (Φ:=fun (r:Bool)=>r=(listOk a c d b)) lit_b (ctx_of Tryz.func96 rfl (enters_of Tryz.func96 (by kernel_rfl) rfl) tabOk (by kernel_rfl) rfl rfl (TpX.runY [] [] ?_))
 repeat' (first|(apply ix_k;(first|assumption|omega|(simp only [IntKind.wrap_i64,IntKind.wrap_u64,List.length_cons,List.length_nil];omega)|(simp only [Lm] at *;omega)|decide);(first|assumption|omega|(simp only [IntKind.wrap_i64,IntKind.wrap_u64,List.length_cons,List.length_nil];omega)|(simp only [Lm] at *;omega)|decide);intro _)|(apply cond_p <;> intro _)|(apply cond_ne <;> intro _)|apply cond_n|(apply cS <;> intro _)|(apply leaf_x;exact Ei [] (Ai rfl (Ai trivial rfl));exact (by first|exact (all_no (p:=fun id=>hasM a.objects id&&((findM a.objects id).zone==c&&((!decide (d≥0)||(findM a.objects id).owner==d)&&timesM b id==1))) ‹_› (by simp [*])).symm|exact (Up.all' (p:=fun id=>hasM a.objects id&&((findM a.objects id).zone==c&&((!decide (d≥0)||(findM a.objects id).owner==d)&&timesM b id==1))) ‹_› (by rwa [Lm] at *)).symm);rfl)|(apply lp_at 2 rfl;refine LpX.up (β:=Unit) 2 9 ((((b.map eI).length:Nat):Int)) (by first|omega|exact len62 (by first|assumption|exact okmr ‹_› ‹_› | exact okmg _ ‹_›) rfl) (by omega) (fun _=>[]) (fun i _=>Up (fun _=>fun id=>hasM a.objects id&&((findM a.objects id).zone==c&&((!decide (d≥0)||(findM a.objects id).owner==d)&&timesM b id==1))) b i) [1,2,3,4] [0] 200000 rfl ?_;refine Ai ?_ (fun _ _ _ _ _=>TpX.runY [] [] ?_))|exact Ei () (Ai (by first|exact Up.zero|exact Up.step ‹_› ‹_› ‹_› (by simp [*])) (wk_slim rfl rfl rfl rfl))|exact Ai (by first|assumption|omega) (Ei () (Ai (by first|exact Up.zero|exact Up.step ‹_› ‹_› ‹_› (by simp [*])) (wk_slim rfl rfl rfl rfl)))|(apply call_f 138;refine cI (r26object _ _ (by first|assumption|exact okmr ‹_› ‹_› | exact okmg _ ‹_›)) ⟨fL (GState.enc _),rfl,trivial⟩ (.inl rfl) ?_)|(apply call_f 139;refine cI (r26times _ _ (by first|assumption|exact okmr ‹_› ‹_› | exact okmg _ ‹_›)) ⟨rfl,rfl,trivial⟩ (.inl rfl) ?_)|fail)
theorem r26list (a:GState) (b:List Int) (c:Int) (d:Int) (ha:a.ok) (hb:b.length*8≤limB):Ct Tryz.prog 96 [.agg (a.enc.map .t),.c (.t (.sl 1 (b.map eI))),.c (.t (iv c)),.c (.t (iv d))] (AV.b (listOk a c d b)) [] true:=by
 obtain ⟨r,hr,h⟩:=r26list_ a b c d ha hb
 rw [hr] at h
 exact h
theorem r26player_ (a:GState) (b:Int) (ha:a.ok):∃ r:Bool,(r=(plM a b))∧Ct Tryz.prog 39 [.agg (a.enc.map .t),.c (.t (iv b))] (AV.b r) [] true:=by
 have ha_:=ha
 obtain ⟨oa0,oa1,oa2,oa3,oa4,oa5,oa6,oa7,oa8,oa9,oa10,oa11,oa12⟩:=ha_
 refine ct_x (Φ:=fun (r:Bool)=>r=(plM a b)) lit_b (ctx_of Tryz.func39 rfl (enters_of Tryz.func39 (by kernel_rfl) rfl) tabOk (by kernel_rfl) rfl rfl (TpX.runY [] [] ?_))
 repeat' (first|(apply leaf_x;exact Ei [] (Ai rfl (Ai trivial rfl));exact (by simp [plM,inM,wrap_sub1 oa0 rfl]);rfl)|(apply call_f 37;refine cI (r26in _ _ _) ⟨rfl,rfl,rfl,trivial⟩ (.inl rfl) ?_)|fail)
theorem r26player (a:GState) (b:Int) (ha:a.ok):Ct Tryz.prog 39 [.agg (a.enc.map .t),.c (.t (iv b))] (AV.b (plM a b)) [] true:=by
 obtain ⟨r,hr,h⟩:=r26player_ a b ha
 rw [hr] at h
 exact h
theorem r08whole_ (a0:Int) (a1:Int) (a2:Int) (a3:Int) (a4:Int) (a5:Int):∃ r:Bool,(r=(wholeM a0 a1 a2 a3 a4 a5))∧Ct Tryz.prog 95 [.agg [.t (iv a0),.t (iv a1),.t (iv a2),.t (iv a3),.t (iv a4),.t (iv a5)]] (AV.b r) [] true:=by
 refine ct_x (Φ:=fun (r:Bool)=>r=(wholeM a0 a1 a2 a3 a4 a5)) lit_b (ctx_of Tryz.func95 rfl (enters_of Tryz.func95 (by kernel_rfl) rfl) tabOk (by kernel_rfl) rfl rfl (TpX.runY [] [] ?_))
 repeat' (first|(apply cond_p <;> intro _)|(apply leaf_x;exact Ei [] (Ai rfl (Ai trivial rfl));exact (by simp [wholeM, *]);rfl)|(apply lp_at 2 rfl;refine LpX.one 2 rfl (TpX.runY [] [] ?_))|(apply ix_n;(first|assumption|omega|(simp only [IntKind.wrap_i64];omega)|(simp only [Lm] at *;omega)|decide);(first|assumption|omega|(simp only [IntKind.wrap_i64];omega)|(simp only [Lm] at *;omega)|decide);intro _)|fail)
theorem r08whole (a0:Int) (a1:Int) (a2:Int) (a3:Int) (a4:Int) (a5:Int):Ct Tryz.prog 95 [.agg [.t (iv a0),.t (iv a1),.t (iv a2),.t (iv a3),.t (iv a4),.t (iv a5)]] (AV.b (wholeM a0 a1 a2 a3 a4 a5)) [] true:=by
 obtain ⟨r,hr,h⟩:=r08whole_ a0 a1 a2 a3 a4 a5
 rw [hr] at h
 exact h
theorem r12is_ (a0:Int) (a1:Int) (a2:Int):∃ r:Bool,(r=(cntOk a0 a1 a2))∧Ct Tryz.prog 140 [.agg [.t (iv a0),.t (iv a1),.t (iv a2)]] (AV.b r) [] true:=by
 refine ct_x (Φ:=fun (r:Bool)=>r=(cntOk a0 a1 a2)) lit_b (ctx_of Tryz.func140 rfl (enters_of Tryz.func140 (by kernel_rfl) rfl) tabOk (by kernel_rfl) rfl rfl (TpX.runY [] [] ?_))
 repeat' (first|(apply cond_p <;> intro _)|(apply leaf_x;exact Ei [] (Ai rfl (Ai trivial rfl));exact (by simp [cntOk, *]);rfl)|(apply lp_at 2 rfl;refine LpX.one 2 rfl (TpX.runY [] [] ?_))|(apply ix_n;(first|assumption|omega|(simp only [IntKind.wrap_i64];omega)|(simp only [Lm] at *;omega)|decide);(first|assumption|omega|(simp only [IntKind.wrap_i64];omega)|(simp only [Lm] at *;omega)|decide);intro _)|fail)
theorem r12is (a0:Int) (a1:Int) (a2:Int):Ct Tryz.prog 140 [.agg [.t (iv a0),.t (iv a1),.t (iv a2)]] (AV.b (cntOk a0 a1 a2)) [] true:=by
 obtain ⟨r,hr,h⟩:=r12is_ a0 a1 a2
 rw [hr] at h
 exact h
theorem r26spells_ (a:GState) (b:Int) (ha:a.ok):∃ r:Int,(r=(spellsM a b))∧Ct Tryz.prog 143 [.agg (a.enc.map .t),.c (.t (iv b))] (AV.i r) [] true:=by
 have ha_:=ha
 obtain ⟨oa0,oa1,oa2,oa3,oa4,oa5,oa6,oa7,oa8,oa9,oa10,oa11,oa12⟩:=ha_
 refine ct_x (Φ:=fun (r:Int)=>r=(spellsM a b)) lit_i (ctx_of Tryz.func143 rfl (enters_of Tryz.func143 (by kernel_rfl) rfl) tabOk (by kernel_rfl) rfl rfl (TpX.runY [] [] ?_))
 repeat' (first|(apply ix_k;(first|assumption|omega|(simp only [IntKind.wrap_i64,IntKind.wrap_u64,List.length_cons,List.length_nil];omega)|(simp only [Lm] at *;omega)|decide);(first|assumption|omega|(simp only [IntKind.wrap_i64,IntKind.wrap_u64,List.length_cons,List.length_nil];omega)|(simp only [Lm] at *;omega)|decide);intro _)|(apply cond_p <;> intro _)|(apply leaf_x;exact Ei [] (Ai rfl (Ai trivial rfl));exact (cntP_end ‹_› ‹_›);rfl)|(apply lp_at 3 rfl;refine LpX.up (β:=Int) 3 6 ((((a.stack.map GItem.enc).length:Nat):Int)) (by first|omega|exact len62 (by first|assumption|exact okmr ‹_› ‹_› | exact okmg _ ‹_›) rfl) (by omega) (fun p=>[(5,AV.i p)]) (fun i (p:Int)=>p=((a.stack.take i.toNat).countP (fun x=>x.kind==1&&x.id==b):Nat)∧p≤i) [1,2] [0] 200000 rfl ?_;refine Ai ?_ (fun _ _ _ _ _=>TpX.runY [] [] ?_))|exact Ei _ (Ai (by first|exact ⟨rfl,Int.le_refl 0⟩|exact cntP_up1 ‹_› ‹_› oa6 rfl ‹_› ‹_› (by simp [*])|exact cntP_up0 ‹_› ‹_› ‹_› (by simp [*])) (wk_slim rfl rfl rfl rfl))|exact Ai (by first|assumption|omega) (Ei _ (Ai (by first|exact ⟨rfl,Int.le_refl 0⟩|exact cntP_up1 ‹_› ‹_› oa6 rfl ‹_› ‹_› (by simp [*])|exact cntP_up0 ‹_› ‹_› ‹_› (by simp [*])) (wk_slim rfl rfl rfl rfl)))|fail)
theorem r26spells (a:GState) (b:Int) (ha:a.ok):Ct Tryz.prog 143 [.agg (a.enc.map .t),.c (.t (iv b))] (AV.i (spellsM a b)) [] true:=by
 obtain ⟨r,hr,h⟩:=r26spells_ a b ha
 rw [hr] at h
 exact h
theorem r24calm_ (a:GObject):∃ r:GObject,(r=(calmM a))∧Ct Tryz.prog 141 [.agg (a.enc.map .t)] ((fun r=>.agg (r.enc.map .t)) r) [] true:=by
 refine ct_x (Φ:=fun (r:GObject)=>r=(calmM a)) (fun _=>rfl) (ctx_of Tryz.func141 rfl (enters_of Tryz.func141 (by kernel_rfl) rfl) tabOk (by kernel_rfl) rfl rfl (TpX.runY [] [] ?_))
 repeat' (first|(refine leaf_x (calmM a) (Ei [] (Ai rfl (Ai trivial ?_))) rfl rfl;(repeat' first|refine Ai ?_ ?_|exact rfl|exact trivial|exact Ei _ rfl|refine lN ?_|refine bS ?_|fail);done)|fail)
theorem r24calm (a:GObject):Ct Tryz.prog 141 [.agg (a.enc.map .t)] (.agg ((calmM a).enc.map .t)) [] true:=by
 obtain ⟨r,hr,h⟩:=r24calm_ a
 rw [hr] at h
 exact h
theorem r24ended_ (a:GObject):∃ r:GObject,(r=(endedM a))∧Ct Tryz.prog 142 [.agg (a.enc.map .t)] ((fun r=>.agg (r.enc.map .t)) r) [] true:=by
 refine ct_x (Φ:=fun (r:GObject)=>r=(endedM a)) (fun _=>rfl) (ctx_of Tryz.func142 rfl (enters_of Tryz.func142 (by kernel_rfl) rfl) tabOk (by kernel_rfl) rfl rfl (TpX.runY [] [] ?_))
 repeat' (first|(refine leaf_x (endedM a) (Ei [] (Ai rfl (Ai trivial ?_))) rfl rfl;(repeat' first|refine Ai ?_ ?_|exact rfl|exact trivial|exact Ei _ rfl|refine lN ?_|refine bS ?_|fail);done)|fail)
theorem r24ended (a:GObject):Ct Tryz.prog 142 [.agg (a.enc.map .t)] (.agg ((endedM a).enc.map .t)) [] true:=by
 obtain ⟨r,hr,h⟩:=r24ended_ a
 rw [hr] at h
 exact h
theorem r24is_ (a:GObject) (b:Int) (c:Int):∃ r:Bool,(r=(objOk a b c))∧Ct Tryz.prog 97 [.agg (a.enc.map .t),.c (.t (iv b)),.c (.t (iv c))] (AV.b r) [] true:=by
 refine ct_x (Φ:=fun (r:Bool)=>r=(objOk a b c)) lit_b (ctx_of Tryz.func97 rfl (enters_of Tryz.func97 (by kernel_rfl) rfl) tabOk (by kernel_rfl) rfl rfl (TpX.runY [] [] ?_))
 repeat' (first|(apply cond_p <;> intro _)|apply cond_n|(apply cS <;> intro _)|(apply leaf_x;exact Ei [] (Ai rfl (Ai trivial rfl));exact (by simp [objOk,restOk, *] <;> simp_all [lksEq,lkEq,calmM,endedM]);rfl)|(apply call_f 140;refine cI (r12is _ _ _) ⟨⟨rfl,rfl,rfl,trivial⟩,trivial⟩ (.inl rfl) ?_)|(apply call_f 141;refine cI (r24calm _) ⟨fL (GObject.enc _),trivial⟩ (.inl rfl) ?_)|(apply call_f 142;refine cI (r24ended _) ⟨fL (GObject.enc _),trivial⟩ (.inl rfl) ?_)|fail)
theorem r24is (a:GObject) (b:Int) (c:Int):Ct Tryz.prog 97 [.agg (a.enc.map .t),.c (.t (iv b)),.c (.t (iv c))] (AV.b (objOk a b c)) [] true:=by
 obtain ⟨r,hr,h⟩:=r24is_ a b c
 rw [hr] at h
 exact h
theorem r26placed_ (a:GState) (b:GObject) (ha:a.ok):∃ r:Bool,(r=(placedOk a b))∧Ct Tryz.prog 98 [.agg (a.enc.map .t),.agg (b.enc.map .t)] (AV.b r) [] true:=by
 have ha_:=ha
 obtain ⟨oa0,oa1,oa2,oa3,oa4,oa5,oa6,oa7,oa8,oa9,oa10,oa11,oa12⟩:=ha_
 refine ct_x (Φ:=fun (r:Bool)=>r=(placedOk a b)) lit_b (ctx_of Tryz.func98 rfl (enters_of Tryz.func98 (by kernel_rfl) rfl) tabOk (by kernel_rfl) rfl rfl (TpX.runY [] [] ?_))
 repeat' (first|(apply cond_p <;> intro _)|(apply leaf_x;exact Ei [] (Ai rfl (Ai trivial rfl));exact (by simp [placedOk, *]);rfl)|(apply call_f 143;refine cI (r26spells _ _ (by first|assumption|exact okmr ‹_› ‹_› | exact okmg _ ‹_› | exact listM_le ‹_› _ _)) ⟨fL (GState.enc _),rfl,trivial⟩ (.inl rfl) ?_)|(apply call_f 131;refine cI (list_ct _ _ _ (by first|assumption|exact okmr ‹_› ‹_› | exact okmg _ ‹_› | exact listM_le ‹_› _ _)) ⟨fL (GState.enc _),rfl,rfl,trivial⟩ (.inr rfl) ?_)|(apply call_f 139;refine cI (r26times _ _ (by first|assumption|exact okmr ‹_› ‹_› | exact okmg _ ‹_› | exact listM_le ‹_› _ _)) ⟨rfl,rfl,trivial⟩ (.inl rfl) ?_)|fail)
theorem r26placed (a:GState) (b:GObject) (ha:a.ok):Ct Tryz.prog 98 [.agg (a.enc.map .t),.agg (b.enc.map .t)] (AV.b (placedOk a b)) [] true:=by
 obtain ⟨r,hr,h⟩:=r26placed_ a b ha
 rw [hr] at h
 exact h
theorem r26objects_ (a:List GCard) (b:GState) (_ha:a.length*176≤limB) (_ma:∀ y∈a,GCard.ok y) (hb:b.ok):∃ r:Bool,(r=(objsOk ((a.length:Nat):Int) b))∧Ct Tryz.prog 40 [.c (.t (.sl 17 (a.map GCard.enc))),.agg (b.enc.map .t)] (AV.b r) [] true:=by
 have hb_:=hb
 obtain ⟨ob0,ob1,ob2,ob3,ob4,ob5,ob6,ob7,ob8,ob9,ob10,ob11,ob12⟩:=hb_
 refine ct_x (Φ:=fun (r:Bool)=>r=(objsOk ((a.length:Nat):Int) b)) lit_b (ctx_of Tryz.func40 rfl (enters_of Tryz.func40 (by kernel_rfl) rfl) tabOk (by kernel_rfl) rfl rfl (TpX.runY [] [] ?_))
 repeat' (first|(apply ix_prev zeroObj 128 ‹_› rfl ‹_› ‹_›;intro _)|(apply ix_k;(first|assumption|omega|(simp only [IntKind.wrap_i64,IntKind.wrap_u64,List.length_cons,List.length_nil];omega)|(simp only [Lm] at *;omega)|decide);(first|assumption|omega|(simp only [IntKind.wrap_i64,IntKind.wrap_u64,List.length_cons,List.length_nil];omega)|(simp only [Lm] at *;omega)|decide);intro _)|(apply cond_p <;> intro _)|apply cond_n|(apply cS <;> intro _)|(apply leaf_x;exact Ei [] (Ai rfl (Ai trivial rfl));exact (by first|(simp [objsOk, *];done)|((try simp only [Lm] at *);simp [objsOk, *];done)|exact objs_no ‹_› ‹_› (by first|exact objAt_n1 ‹_› | exact objAt_n2 ‹_› | exact objAt_n3 ‹_› | exact objAt_n4 ‹_› ‹_› | exact objAt_n5 ‹_›)|exact objs_yes ‹_› ‹_› ‹_›);rfl)|(apply lp_at 4 rfl;refine LpX.up (β:=Unit) 4 5 ((((b.objects.map GObject.enc).length:Nat):Int)) (by first|omega|exact len62 (by first|assumption|exact okmr ‹_› ‹_› | exact okmg _ ‹_›) rfl) (by omega) (fun _=>[]) (fun i _=>Up (objAt ((a.length:Nat):Int) b) b.objects i) [0,3] [0] 200000 rfl ?_;refine Ai ?_ (fun _ _ _ _ _=>TpX.runY [] [] ?_))|exact Ei () (Ai (by first|exact Up.zero|exact Up.step ‹_› ‹_› ‹_› (objAt_yes ‹_› ‹_› ‹_› (by first|exact .inl (by omega)|exact .inr ‹_›) ‹_›)) (wk_slim rfl rfl rfl rfl))|exact Ai (by first|assumption|omega) (Ei () (Ai (by first|exact Up.zero|exact Up.step ‹_› ‹_› ‹_› (objAt_yes ‹_› ‹_› ‹_› (by first|exact .inl (by omega)|exact .inr ‹_›) ‹_›)) (wk_slim rfl rfl rfl rfl)))|(apply call_f 97;refine cI (r24is _ _ _) ⟨fL (GObject.enc _),rfl,rfl,trivial⟩ (.inl rfl) ?_)|(apply call_f 98;refine cI (r26placed _ _ (by first|assumption|exact okmr ‹_› ‹_› | exact okmg _ ‹_›)) ⟨fL (GState.enc _),fL (GObject.enc _),trivial⟩ (.inl rfl) ?_)|fail)
theorem r26objects (a:List GCard) (b:GState) (ha:a.length*176≤limB) (ma:∀ y∈a,GCard.ok y) (hb:b.ok):Ct Tryz.prog 40 [.c (.t (.sl 17 (a.map GCard.enc))),.agg (b.enc.map .t)] (AV.b (objsOk ((a.length:Nat):Int) b)) [] true:=by
 obtain ⟨r,hr,h⟩:=r26objects_ a b ha ma hb
 rw [hr] at h
 exact h
theorem r26players_ (a:GState) (ha:a.ok):∃ r:Bool,(r=(playersOk a))∧Ct Tryz.prog 38 [.agg (a.enc.map .t)] (AV.b r) [] true:=by
 have ha_:=ha
 obtain ⟨oa0,oa1,oa2,oa3,oa4,oa5,oa6,oa7,oa8,oa9,oa10,oa11,oa12⟩:=ha_
 refine ct_x (Φ:=fun (r:Bool)=>r=(playersOk a)) lit_b (ctx_of Tryz.func38 rfl (enters_of Tryz.func38 (by kernel_rfl) rfl) tabOk (by kernel_rfl) rfl rfl (TpX.runY [] [] ?_))
 repeat' (first|(apply ix_k;(first|assumption|omega|(simp only [IntKind.wrap_i64,IntKind.wrap_u64,List.length_cons,List.length_nil];omega)|(simp only [Lm] at *;omega)|decide);(first|assumption|omega|(simp only [IntKind.wrap_i64,IntKind.wrap_u64,List.length_cons,List.length_nil];omega)|(simp only [Lm] at *;omega)|decide);intro _)|(apply cond_p <;> intro _)|apply cond_n|(apply cS <;> intro _)|(apply leaf_x;exact Ei [] (Ai rfl (Ai trivial rfl));exact (by first|exact plys_n1 ‹_› | exact plys_no ‹_› (by rw [plyOk_eq ‹_›];simp [*])|exact plys_yes ‹_› ‹_› ‹_› (by simp [*]));rfl)|(apply lp_at 4 rfl;refine LpX.up (β:=Unit) 4 3 ((((a.players.map GPlayer.enc).length:Nat):Int)) (by first|omega|exact len62 (by first|assumption|exact okmr ‹_› ‹_› | exact okmg _ ‹_› | exact GPlayer.ok_library (okmg _ ‹_›)|exact GPlayer.ok_hand (okmg _ ‹_›)|exact GPlayer.ok_graveyard (okmg _ ‹_›)) rfl) (by omega) (fun _=>[]) (fun i _=>Up (plyOk a) a.players i) [1] [0] 200000 rfl ?_;refine Ai ?_ (fun _ _ _ _ _=>TpX.runY [] [] ?_))|exact Ei () (Ai (by first|exact Up.zero|exact Up.step ‹_› ‹_› ‹_› (by rw [plyOk_eq ‹_›];simp [*])) (wk_slim rfl rfl rfl rfl))|exact Ai (by first|assumption|omega) (Ei () (Ai (by first|exact Up.zero|exact Up.step ‹_› ‹_› ‹_› (by rw [plyOk_eq ‹_›];simp [*])) (wk_slim rfl rfl rfl rfl)))|(apply call_f 37;refine cI (r26in _ _ _) ⟨rfl,rfl,rfl,trivial⟩ (.inl rfl) ?_)|(apply call_f 95;refine cI (r08whole _ _ _ _ _ _) ⟨⟨rfl,rfl,rfl,rfl,rfl,rfl,trivial⟩,trivial⟩ (.inl rfl) ?_)|(apply call_f 96;refine cI (r26list _ _ _ _ (by first|assumption|exact okmr ‹_› ‹_› | exact okmg _ ‹_› | exact GPlayer.ok_library (okmg _ ‹_›)|exact GPlayer.ok_hand (okmg _ ‹_›)|exact GPlayer.ok_graveyard (okmg _ ‹_›)) (by first|assumption|exact okmr ‹_› ‹_› | exact okmg _ ‹_› | exact GPlayer.ok_library (okmg _ ‹_›)|exact GPlayer.ok_hand (okmg _ ‹_›)|exact GPlayer.ok_graveyard (okmg _ ‹_›))) ⟨fL (GState.enc _),rfl,rfl,rfl,trivial⟩ (.inl rfl) ?_)|fail)
theorem r26players (a:GState) (ha:a.ok):Ct Tryz.prog 38 [.agg (a.enc.map .t)] (AV.b (playersOk a)) [] true:=by
 obtain ⟨r,hr,h⟩:=r26players_ a ha
 rw [hr] at h
 exact h
end Go.Proofs.YtmloamomcbmfhaaGreat
end
section
namespace Go.Proofs.YtmloamomcbmfhaaGreat
open Go Cg Go.RowKit Go.Shelf
open Classical in
section
noncomputable def opqB (f:FuncId) (ars:List AV):Bool:=if h:∃ b,Ct Tryz.prog f ars (AV.b b) [] true then h.choose else false
theorem opqB_ct {Φ:Bool→Prop} {f:FuncId} {ars:List AV} (h:∃ b,Φ b∧Ct Tryz.prog f ars (AV.b b) [] true):Ct Tryz.prog f ars (AV.b (opqB f ars)) [] true:=by
 obtain ⟨b,_,hb⟩:=h
 have h:∃ b,Ct Tryz.prog f ars (AV.b b) [] true:=⟨b,hb⟩
 unfold opqB
 rw [dif_pos h]
 exact h.choose_spec
open Classical in
noncomputable def opqS (f:FuncId) (ars:List AV):ByteArray:=if h:∃ b,Ct Tryz.prog f ars (AV.s b) [] true then h.choose else ⟨#[]⟩
theorem opqS_ct {Φ:ByteArray→Prop} {f:FuncId} {ars:List AV} (h:∃ b,Φ b∧Ct Tryz.prog f ars (AV.s b) [] true):Ct Tryz.prog f ars (AV.s (opqS f ars)) [] true:=by
 obtain ⟨b,_,hb⟩:=h
 have h:∃ b,Ct Tryz.prog f ars (AV.s b) [] true:=⟨b,hb⟩
 unfold opqS
 rw [dif_pos h]
 exact h.choose_spec
theorem r03is (a:List Int) (ha:a.length*8≤limB):∃ r:Bool,True∧Ct Tryz.prog 101 [.c (.t (.sl 1 (a.map eI)))] (AV.b r) [] true:=by
 refine ct_x (Φ:=fun _=>True) lit_b (ctx_of Tryz.func101 rfl (enters_of Tryz.func101 (by kernel_rfl) rfl) tabOk (by kernel_rfl) rfl rfl (TpX.runY [] [] ?_))
 repeat' (first|(apply ix_prev 0 8 ‹_› rfl (by omega) ‹_›;intro _)|(apply cond_p <;> intro _)|(apply leaf_x;exact Ei [] (Ai rfl (Ai trivial rfl));exact (trivial);rfl)|(apply ix_map;(first|assumption|omega|(simp only [IntKind.wrap_i64,IntKind.wrap_u64,List.length_cons,List.length_nil];omega)|(simp only [Lm] at *;omega)|decide);(first|assumption|omega|(simp only [IntKind.wrap_i64,IntKind.wrap_u64,List.length_cons,List.length_nil];omega)|(simp only [Lm] at *;omega)|decide);intro _ _)|(apply lp_at 2 rfl;refine LpX.at (α:=Int) 2 (fun i=>[(3,AV.i i)]) (fun i=>1≤i∧i≤17592186044416) (fun i=>(17592186044416 - i).toNat) [0] [] 200000 rfl ?_;refine Ai (Ei 1 (Ai ⟨by omega,by omega⟩ (wk_slim rfl rfl rfl rfl))) (fun i hi=>TpX.runY [] [] ?_))|exact Ei _ (Ai (Ai (by (simp only [IntKind.wrap_i64,Lm] at *;unfold limB at ha;omega)) (by (simp only [IntKind.wrap_i64,Lm] at *;unfold limB at ha;omega))) (wk_slim rfl rfl rfl rfl))|fail)
def zeroAb:GAbility:=⟨0,⟨0,0,0,0,0,0,0,⟨#[]⟩,0,0,⟨0,0⟩,⟨0,0⟩,⟨0,0⟩⟩,[],⟨⟨0,0,0,0,0,0,0⟩,false,false,0⟩,false,⟨0,0,⟨0,0,0,0,0,0,0,⟨#[]⟩,0,0,⟨0,0⟩,⟨0,0⟩,⟨0,0⟩⟩⟩,false,[],[],⟨0,0,⟨0,0,0,0,0,0,0,⟨#[]⟩,0,0,⟨0,0⟩,⟨0,0⟩,⟨0,0⟩⟩,0,0,0,0⟩⟩
theorem zeroAb_ok:zeroAb.ok:=⟨⟨trivial,trivial,trivial⟩,Nat.zero_le _,fun _ h=>(by cases h),trivial,⟨trivial,trivial,trivial⟩,Nat.zero_le _,fun _ h=>(by cases h),Nat.zero_le _,fun _ h=>(by cases h),⟨trivial,trivial,trivial⟩⟩
theorem opq_ex:∃ q:Opq,(∀ a:GAbility,a.ok→Ct Tryz.prog 100 [.agg (a.enc.map .t)] (AV.b (q.ab a)) [] true)∧(∀ a:GAbility,a.ok→Ct Tryz.prog 114 [.agg (a.enc.map .t),.agg (zeroAb.enc.map .t)] (AV.b (q.zero a)) [] true)∧(∀ l:List Int,l.length*8≤limB→Ct Tryz.prog 101 [.c (.t (.sl 1 (l.map eI)))] (AV.b (q.set l)) [] true)∧∀ l:List GMod,l.length*176≤limB→Ct Tryz.prog 102 [.c (.t (.sl 20 (l.map GMod.enc)))] (AV.s (q.txt l)) [] true:=
 ⟨⟨fun a=>opqB 100 [.agg (a.enc.map .t)],fun a=>opqB 114 [.agg (a.enc.map .t),.agg (zeroAb.enc.map .t)],fun l=>opqB 101 [.c (.t (.sl 1 (l.map eI)))],fun l=>opqS 102 [.c (.t (.sl 20 (l.map GMod.enc)))]⟩,fun a ha=>opqB_ct (r20is a ha),fun a ha=>opqB_ct (r20same a zeroAb ha zeroAb_ok),fun l hl=>opqB_ct (r03is l hl),fun l hl=>opqS_ct (r15listText l hl)⟩
noncomputable def opq:Opq:=Classical.choose opq_ex
theorem ab_ct (a:GAbility) (ha:a.ok):Ct Tryz.prog 100 [.agg (a.enc.map .t)] (AV.b (opq.ab a)) [] true:=(Classical.choose_spec opq_ex).1 a ha
theorem zero_ct (a:GAbility) (ha:a.ok):Ct Tryz.prog 114 [.agg (a.enc.map .t),.agg (zeroAb.enc.map .t)] (AV.b (opq.zero a)) [] true:=(Classical.choose_spec opq_ex).2.1 a ha
theorem set_ct' (l:List Int) (hl:l.length*8≤limB):Ct Tryz.prog 101 [.c (.t (.sl 1 (l.map eI)))] (AV.b (opq.set l)) [] true:=(Classical.choose_spec opq_ex).2.2.1 l hl
theorem mods_ct (l:List GMod) (hl:l.length*176≤limB):Ct Tryz.prog 102 [.c (.t (.sl 20 (l.map GMod.enc)))] (AV.s (opq.txt l)) [] true:=(Classical.choose_spec opq_ex).2.2.2 l hl
theorem r26item_ (a:GState) (b:GItem) (ha:a.ok) (hb:b.ok) (hn:inM a.nextId 1 1000000=true):∃ r:Bool,(r=(itemOk opq a b))∧Ct Tryz.prog 99 [.agg (a.enc.map .t),.agg (b.enc.map .t)] (AV.b r) [] true:=by
 have ha_:=ha
 obtain ⟨oa0,oa1,oa2,oa3,oa4,oa5,oa6,oa7,oa8,oa9,oa10,oa11,oa12⟩:=ha_
 have hb_:=hb
 obtain ⟨ob0,ob1,ob2,ob3⟩:=hb_
 refine ct_x (Φ:=fun (r:Bool)=>r=(itemOk opq a b)) lit_b (ctx_of Tryz.func99 rfl (enters_of Tryz.func99 (by kernel_rfl) rfl) tabOk (by kernel_rfl) rfl rfl (TpX.runY [] [] ?_))
 repeat' (first|(apply call_f 114;refine cI (zero_ct _ (by first|assumption|exact okmr ‹_› ‹_› | exact okmg _ ‹_›)) ⟨fL (GAbility.enc _),(by repeat' first|refine Ai ?_ ?_|exact rfl|exact trivial|exact Ei _ rfl|refine lN ?_|refine bS ?_|fail),trivial⟩ (.inl rfl) ?_)|(apply cond_p <;> intro _)|apply cond_n|(apply cS <;> intro _)|(apply leaf_x;exact Ei [] (Ai rfl (Ai trivial rfl));exact (by (try simp only [Lm,wrapN hn] at *);simp [itemOk, *]);rfl)|(apply call_f 37;refine cI (r26in _ _ _) ⟨rfl,rfl,rfl,trivial⟩ (.inl rfl) ?_)|(apply call_f 39;refine cI (r26player _ _ (by first|assumption|exact okmr ‹_› ‹_› | exact okmg _ ‹_›)) ⟨fL (GState.enc _),rfl,trivial⟩ (.inl rfl) ?_)|(apply call_f 138;refine cI (r26object _ _ (by first|assumption|exact okmr ‹_› ‹_› | exact okmg _ ‹_›)) ⟨fL (GState.enc _),rfl,trivial⟩ (.inl rfl) ?_)|(apply call_f 100;refine cI (ab_ct _ (by first|assumption|exact okmr ‹_› ‹_› | exact okmg _ ‹_›)) ⟨fL (GAbility.enc _),trivial⟩ (.inl rfl) ?_)|fail)
theorem r26item (a:GState) (b:GItem) (ha:a.ok) (hb:b.ok) (hn:inM a.nextId 1 1000000=true):Ct Tryz.prog 99 [.agg (a.enc.map .t),.agg (b.enc.map .t)] (AV.b (itemOk opq a b)) [] true:=by
 obtain ⟨r,hr,h⟩:=r26item_ a b ha hb hn
 rw [hr] at h
 exact h
theorem r26stack_ (a:GState) (ha:a.ok) (hn:inM a.nextId 1 1000000=true):∃ r:Bool,(r=(stackOk opq a))∧Ct Tryz.prog 41 [.agg (a.enc.map .t)] (AV.b r) [] true:=by
 have ha_:=ha
 obtain ⟨oa0,oa1,oa2,oa3,oa4,oa5,oa6,oa7,oa8,oa9,oa10,oa11,oa12⟩:=ha_
 refine ct_x (Φ:=fun (r:Bool)=>r=(stackOk opq a)) lit_b (ctx_of Tryz.func41 rfl (enters_of Tryz.func41 (by kernel_rfl) rfl) tabOk (by kernel_rfl) rfl rfl (TpX.runY [] [] ?_))
 repeat' (first|(apply ix_k;(first|assumption|omega|(simp only [IntKind.wrap_i64,IntKind.wrap_u64,List.length_cons,List.length_nil];omega)|(simp only [Lm] at *;omega)|decide);(first|assumption|omega|(simp only [IntKind.wrap_i64,IntKind.wrap_u64,List.length_cons,List.length_nil];omega)|(simp only [Lm] at *;omega)|decide);intro _)|(apply cond_p <;> intro _)|(apply cond_ne <;> intro _)|apply cond_n|(apply cS <;> intro _)|(apply leaf_x;exact Ei [] (Ai rfl (Ai trivial rfl));exact (by first|exact stk_n0 (f:=GItem.enc) (g:=GWaiting.enc) (c:=GCont.enc) (.inl ‹_›)|exact stk_n0 (f:=GItem.enc) (g:=GWaiting.enc) (c:=GCont.enc) (.inr (.inl ‹_›))|exact stk_n0 (f:=GItem.enc) (g:=GWaiting.enc) (c:=GCont.enc) (.inr (.inr ‹_›))|exact stk_n1 ‹_› (by first|exact item_n1 ‹_› | exact item_n2 ‹_› ‹_› ‹_› ‹_›)|exact stk_n2 ‹_› (by (try simp only [Lm] at *);simp [waitOk, *])|exact stk_n3 ‹_› (by first|exact cont_yes ‹_› ‹_› ‹_› ‹_› ‹_› | exact cont_n1 ‹_› | exact cont_n2 ‹_› | exact cont_n3 ‹_› | exact cont_n4 ‹_› | exact cont_n5 ‹_›)|exact stk_yes ‹_› ‹_› ‹_› ‹_› ‹_› ‹_› ‹_› ‹_› ‹_›);rfl)|(apply lp_at 4 rfl;refine LpX.up (β:=Unit) 4 3 ((((a.stack.map GItem.enc).length:Nat):Int)) (by first|omega|exact len62 (by first|assumption|exact okmr ‹_› ‹_› | exact okmg _ ‹_› | exact GWaiting.ok_ability (okmg _ ‹_›)|exact GCont.ok_objects (okmg _ ‹_›)|exact GCont.ok_mods (okmg _ ‹_›)) rfl) (by omega) (fun _=>[]) (fun i _=>Up (itemAt opq a) a.stack i) [1] [0] 200000 rfl ?_;refine Ai ?_ (fun _ _ _ _ _=>TpX.runY [] [] ?_))|(apply lp_at 9 rfl;rename_i i _ _ _ _ hi hl _;refine LpX.up (β:=Unit) 9 4 (i) (by (simp only [Lm] at *;have:=oa6;unfold limB at this;omega)) ‹_› (fun _=>[]) (fun k _=>Up (fun _ (y:GItem)=>!(y.id==a.stack[i.toNat].id)) a.stack k) [1,3] [0] 300000 rfl ?_;refine Ai ?_ (fun _ _ _ _ _=>TpX.runY [] [] ?_))|(apply lp_at 14 rfl;refine LpX.up (β:=Unit) 14 5 ((((a.waiting.map GWaiting.enc).length:Nat):Int)) (by first|omega|exact len62 (by first|assumption|exact okmr ‹_› ‹_› | exact okmg _ ‹_› | exact GWaiting.ok_ability (okmg _ ‹_›)|exact GCont.ok_objects (okmg _ ‹_›)|exact GCont.ok_mods (okmg _ ‹_›)) rfl) (by omega) (fun _=>[]) (fun i _=>Up (fun _=>waitOk opq a) a.waiting i) [1] [0] 400000 rfl ?_;refine Ai ?_ (fun _ _ _ _ _=>TpX.runY [] [] ?_))|(apply lp_at 20 rfl;refine LpX.up (β:=Unit) 20 7 ((((a.conts.map GCont.enc).length:Nat):Int)) (by first|omega|exact len62 (by first|assumption|exact okmr ‹_› ‹_› | exact okmg _ ‹_› | exact GWaiting.ok_ability (okmg _ ‹_›)|exact GCont.ok_objects (okmg _ ‹_›)|exact GCont.ok_mods (okmg _ ‹_›)) rfl) (by omega) (fun _=>[]) (fun i _=>Up (fun _=>contOk opq a) a.conts i) [1] [0] 500000 rfl ?_;refine Ai ?_ (fun _ _ _ _ _=>TpX.runY [] [] ?_))|exact Ei () (Ai (by first|exact Up.zero|exact Up.step ‹_› ‹_› ‹_› (item_yes ‹_› ‹_› ‹_› ‹_›)|exact Up.step ‹_› ‹_› ‹_› (by simp [*])|exact Up.step ‹_› ‹_› ‹_› (by (try simp only [Lm] at *);simp [waitOk, *])|exact Up.step ‹_› ‹_› ‹_› (by first|exact cont_yes ‹_› ‹_› ‹_› ‹_› ‹_› | exact cont_n1 ‹_› | exact cont_n2 ‹_› | exact cont_n3 ‹_› | exact cont_n4 ‹_› | exact cont_n5 ‹_›)) (wk_slim rfl rfl rfl rfl))|exact Ai (by first|assumption|omega) (Ei () (Ai (by first|exact Up.zero|exact Up.step ‹_› ‹_› ‹_› (item_yes ‹_› ‹_› ‹_› ‹_›)|exact Up.step ‹_› ‹_› ‹_› (by simp [*])|exact Up.step ‹_› ‹_› ‹_› (by (try simp only [Lm] at *);simp [waitOk, *])|exact Up.step ‹_› ‹_› ‹_› (by first|exact cont_yes ‹_› ‹_› ‹_› ‹_› ‹_› | exact cont_n1 ‹_› | exact cont_n2 ‹_› | exact cont_n3 ‹_› | exact cont_n4 ‹_› | exact cont_n5 ‹_›)) (wk_slim rfl rfl rfl rfl)))|(apply call_f 99;refine cI (r26item _ _ (by first|assumption|exact okmr ‹_› ‹_› | exact okmg _ ‹_› | exact GWaiting.ok_ability (okmg _ ‹_›)|exact GCont.ok_objects (okmg _ ‹_›)|exact GCont.ok_mods (okmg _ ‹_›)) (by first|assumption|exact okmr ‹_› ‹_› | exact okmg _ ‹_› | exact GWaiting.ok_ability (okmg _ ‹_›)|exact GCont.ok_objects (okmg _ ‹_›)|exact GCont.ok_mods (okmg _ ‹_›)) (by first|assumption|omega|(simp only [IntKind.wrap_i64,IntKind.wrap_u64,List.length_cons,List.length_nil];omega)|(simp only [Lm] at *;omega)|decide)) ⟨fL (GState.enc _),fL (GItem.enc _),trivial⟩ (.inl rfl) ?_)|(apply call_f 39;refine cI (r26player _ _ (by first|assumption|exact okmr ‹_› ‹_› | exact okmg _ ‹_› | exact GWaiting.ok_ability (okmg _ ‹_›)|exact GCont.ok_objects (okmg _ ‹_›)|exact GCont.ok_mods (okmg _ ‹_›))) ⟨fL (GState.enc _),rfl,trivial⟩ (.inl rfl) ?_)|(apply call_f 100;refine cI (ab_ct _ (by first|assumption|exact okmr ‹_› ‹_› | exact okmg _ ‹_› | exact GWaiting.ok_ability (okmg _ ‹_›)|exact GCont.ok_objects (okmg _ ‹_›)|exact GCont.ok_mods (okmg _ ‹_›))) ⟨fL (GAbility.enc _),trivial⟩ (.inl rfl) ?_)|(apply call_f 37;refine cI (r26in _ _ _) ⟨rfl,rfl,rfl,trivial⟩ (.inl rfl) ?_)|(apply call_f 101;refine cI (set_ct' _ (by first|assumption|exact okmr ‹_› ‹_› | exact okmg _ ‹_› | exact GWaiting.ok_ability (okmg _ ‹_›)|exact GCont.ok_objects (okmg _ ‹_›)|exact GCont.ok_mods (okmg _ ‹_›))) ⟨rfl,trivial⟩ (.inl rfl) ?_)|(apply call_f 102;refine cI (mods_ct _ (by first|assumption|exact okmr ‹_› ‹_› | exact okmg _ ‹_› | exact GWaiting.ok_ability (okmg _ ‹_›)|exact GCont.ok_objects (okmg _ ‹_›)|exact GCont.ok_mods (okmg _ ‹_›))) ⟨rfl,trivial⟩ (.inl rfl) ?_)|fail)
theorem r26stack (a:GState) (ha:a.ok) (hn:inM a.nextId 1 1000000=true):Ct Tryz.prog 41 [.agg (a.enc.map .t)] (AV.b (stackOk opq a)) [] true:=by
 obtain ⟨r,hr,h⟩:=r26stack_ a ha hn
 rw [hr] at h
 exact h
end
end Go.Proofs.YtmloamomcbmfhaaGreat
end
section
namespace Go.Proofs.YtmloamomcbmfhaaGreat
open Go Cg Go.RowKit Go.Shelf
theorem r17light (a:GEffect) (ha:a.ok):∃ r:Bool,True∧Ct Tryz.prog 152 [.agg (a.enc.map .t)] (AV.b r) [] true:=by
 have ha_:=ha
 obtain ⟨oa0,oa1,oa2,oa3,oa4⟩:=ha_
 refine ct_x (Φ:=fun _=>True) lit_b (ctx_of Tryz.func152 rfl (enters_of Tryz.func152 (by kernel_rfl) rfl) tabOk (by kernel_rfl) rfl rfl (TpX.runY [] [] ?_))
 repeat' (first|(apply cond_p <;> intro _)|(apply leaf_x;exact Ei [] (Ai rfl (Ai trivial rfl));exact (trivial);rfl)|(apply lp_at 4 rfl;refine LpX.up (β:=Unit) 4 3 ((((a.mods.map GMod.enc).length:Nat):Int)) (by first|omega|exact len62 (by first|assumption|exact okmr ‹_› ‹_› | exact okmg _ ‹_›) rfl) (by omega) (fun _=>[]) (fun _ _=>True) [1] [0] 200000 rfl ?_;refine Ai ?_ (fun _ _ _ _ _=>TpX.runY [] [] ?_))|exact Ei () (Ai (trivial) (wk_slim rfl rfl rfl rfl))|exact Ai (by first|assumption|omega) (Ei () (Ai (trivial) (wk_slim rfl rfl rfl rfl)))|(apply ix_map;(first|assumption|omega|(simp only [IntKind.wrap_i64,IntKind.wrap_u64,List.length_cons,List.length_nil];omega)|(simp only [Lm] at *;omega)|decide);(first|assumption|omega|(simp only [IntKind.wrap_i64,IntKind.wrap_u64,List.length_cons,List.length_nil];omega)|(simp only [Lm] at *;omega)|decide);intro _ _)|fail)
theorem r17lightList (a:List GEffect) (ha:a.length*560≤limB) (ma:∀ y∈a,GEffect.ok y):∃ r:Bool,True∧Ct Tryz.prog 103 [.c (.t (.sl 64 (a.map GEffect.enc)))] (AV.b r) [] true:=by
 refine ct_x (Φ:=fun _=>True) lit_b (ctx_of Tryz.func103 rfl (enters_of Tryz.func103 (by kernel_rfl) rfl) tabOk (by kernel_rfl) rfl rfl (TpX.runY [] [] ?_))
 repeat' (first|(apply cond_p <;> intro _)|apply cond_n|(apply cS <;> intro _)|(apply leaf_x;exact Ei [] (Ai rfl (Ai trivial rfl));exact (trivial);rfl)|(apply lp_at 2 rfl;refine LpX.up (β:=Unit) 2 3 ((((a.map GEffect.enc).length:Nat):Int)) (by first|omega|exact len62 (by first|assumption|exact okmr ‹_› ‹_› | exact okmg _ ‹_›) rfl) (by omega) (fun _=>[]) (fun _ _=>True) [0] [] 200000 rfl ?_;refine Ai ?_ (fun _ _ _ _ _=>TpX.runY [] [] ?_))|exact Ei () (Ai (trivial) (wk_slim rfl rfl rfl rfl))|exact Ai (by first|assumption|omega) (Ei () (Ai (trivial) (wk_slim rfl rfl rfl rfl)))|(apply ix_map;(first|assumption|omega|(simp only [IntKind.wrap_i64,IntKind.wrap_u64,List.length_cons,List.length_nil];omega)|(simp only [Lm] at *;omega)|decide);(first|assumption|omega|(simp only [IntKind.wrap_i64,IntKind.wrap_u64,List.length_cons,List.length_nil];omega)|(simp only [Lm] at *;omega)|decide);intro _ _)|(apply call_f 152;refine call_x (r17light _ (by first|assumption|exact okmr ‹_› ‹_› | exact okmg _ ‹_›)) ⟨fL (GEffect.enc _),trivial⟩ (.inl rfl) (fun _ _=>?_))|fail)
theorem r20light (a:GAbility) (ha:a.ok):∃ r:Bool,True∧Ct Tryz.prog 42 [.agg (a.enc.map .t)] (AV.b r) [] true:=by
 have ha_:=ha
 obtain ⟨oa0,oa1,oa2,oa3,oa4,oa5,oa6,oa7,oa8,oa9⟩:=ha_
 refine ct_x (Φ:=fun _=>True) lit_b (ctx_of Tryz.func42 rfl (enters_of Tryz.func42 (by kernel_rfl) rfl) tabOk (by kernel_rfl) rfl rfl (TpX.runY [] [] ?_))
 repeat' (first|(apply cond_p <;> intro _)|apply cond_n|(apply cS <;> intro _)|(apply leaf_x;exact Ei [] (Ai rfl (Ai trivial rfl));exact (trivial);rfl)|(apply lp_at 4 rfl;refine LpX.up (β:=Unit) 4 3 ((((a.mods.map GMod.enc).length:Nat):Int)) (by first|omega|exact len62 (by first|assumption|exact okmr ‹_› ‹_› | exact okmg _ ‹_›) rfl) (by omega) (fun _=>[]) (fun _ _=>True) [1] [0] 200000 rfl ?_;refine Ai ?_ (fun _ _ _ _ _=>TpX.runY [] [] ?_))|(apply lp_at 9 rfl;refine LpX.up (β:=Unit) 9 4 ((((a.specs.map GSpec.enc).length:Nat):Int)) (by first|omega|exact len62 (by first|assumption|exact okmr ‹_› ‹_› | exact okmg _ ‹_›) rfl) (by omega) (fun _=>[]) (fun _ _=>True) [1] [0] 300000 rfl ?_;refine Ai ?_ (fun _ _ _ _ _=>TpX.runY [] [] ?_))|exact Ei () (Ai (trivial) (wk_slim rfl rfl rfl rfl))|exact Ai (by first|assumption|omega) (Ei () (Ai (trivial) (wk_slim rfl rfl rfl rfl)))|(apply ix_map;(first|assumption|omega|(simp only [IntKind.wrap_i64,IntKind.wrap_u64,List.length_cons,List.length_nil];omega)|(simp only [Lm] at *;omega)|decide);(first|assumption|omega|(simp only [IntKind.wrap_i64,IntKind.wrap_u64,List.length_cons,List.length_nil];omega)|(simp only [Lm] at *;omega)|decide);intro _ _)|(apply call_f 103;refine call_x (r17lightList _ (by first|assumption|exact okmr ‹_› ‹_› | exact okmg _ ‹_›) (by first|assumption|exact okmr ‹_› ‹_› | exact okmg _ ‹_›)) ⟨rfl,trivial⟩ (.inl rfl) (fun _ _=>?_))|fail)
theorem r21creature (a:GCard) (ha:a.ok):∃ r:Bool,True∧Ct Tryz.prog 108 [.agg (a.enc.map .t)] (AV.b r) [] true:=by
 have ha_:=ha
 obtain ⟨oa0,oa1,oa2,oa3⟩:=ha_
 refine ct_x (Φ:=fun _=>True) lit_b (ctx_of Tryz.func108 rfl (enters_of Tryz.func108 (by kernel_rfl) rfl) tabOk (by kernel_rfl) rfl rfl (TpX.runY [] [] ?_))
 repeat' (first|(apply leaf_x;exact Ei [] (Ai rfl (Ai trivial rfl));exact (trivial);rfl)|fail)
theorem r21fast (a:GCard) (ha:a.ok):∃ r:Bool,True∧Ct Tryz.prog 109 [.agg (a.enc.map .t)] (AV.b r) [] true:=by
 have ha_:=ha
 obtain ⟨oa0,oa1,oa2,oa3⟩:=ha_
 refine ct_x (Φ:=fun _=>True) lit_b (ctx_of Tryz.func109 rfl (enters_of Tryz.func109 (by kernel_rfl) rfl) tabOk (by kernel_rfl) rfl rfl (TpX.runY [] [] ?_))
 repeat' (first|(apply cond_p <;> intro _)|(apply leaf_x;exact Ei [] (Ai rfl (Ai trivial rfl));exact (trivial);rfl)|fail)
theorem r21is (a:GCard) (ha:a.ok):∃ r:Bool,True∧Ct Tryz.prog 43 [.agg (a.enc.map .t)] (AV.b r) [] true:=by
 have ha_:=ha
 obtain ⟨oa0,oa1,oa2,oa3⟩:=ha_
 refine ct_x (Φ:=fun _=>True) lit_b (ctx_of Tryz.func43 rfl (enters_of Tryz.func43 (by kernel_rfl) rfl) tabOk (by kernel_rfl) rfl rfl (TpX.runY [] [1002,3,1004,5,8] ?_))
 repeat' (first|(apply cond_p <;> intro _)|(apply cond_ne <;> intro _)|apply cond_n|(apply cS <;> intro _)|(apply leaf_x;exact Ei [] (Ai rfl (Ai trivial rfl));exact (trivial);rfl)|(apply cut_at 1002 rfl;refine TpX.cut (α:=Bool) 1002 (fun p=>[(36,AV.b p)]) (fun _=>True) [1] [0] 200000 rfl ?_;refine Ai (TpX.runY [] [1002,3,1004,5,8] ?_) (fun _ _=>TpX.runY [] [1002,3,1004,5,8] ?_))|(apply cut_at 3 rfl;refine TpX.cut (α:=Unit) 3 (fun _=>[]) (fun _=>True) [1] [0] 300000 rfl ?_;refine Ai (TpX.runY [] [1002,3,1004,5,8] ?_) (fun _ _=>TpX.runY [] [1002,3,1004,5,8] ?_))|(apply cut_at 1004 rfl;refine TpX.cut (α:=Bool) 1004 (fun p=>[(75,AV.b p)]) (fun _=>True) [1] [0] 400000 rfl ?_;refine Ai (TpX.runY [] [1002,3,1004,5,8] ?_) (fun _ _=>TpX.runY [] [1002,3,1004,5,8] ?_))|(apply cut_at 5 rfl;refine TpX.cut (α:=Unit) 5 (fun _=>[]) (fun _=>True) [1] [0] 500000 rfl ?_;refine Ai (TpX.runY [] [1002,3,1004,5,8] ?_) (fun _ _=>TpX.runY [] [1002,3,1004,5,8] ?_))|(apply cut_at 8 rfl;refine TpX.cut (α:=Int) 8 (fun p=>[(3,AV.i p)]) (fun _=>True) [1,4] [0] 600000 rfl ?_;refine Ai (TpX.runY [] [1002,3,1004,5,8] ?_) (fun _ _=>TpX.runY [] [1002,3,1004,5,8] ?_))|(apply lp_at 7 rfl;refine LpX.up (β:=Int) 7 4 ((((a.abilities.map GAbility.enc).length:Nat):Int)) (by first|omega|exact len62 (by first|assumption|exact okmr ‹_› ‹_› | exact okmg _ ‹_›) rfl) (by omega) (fun p=>[(3,AV.i p)]) (fun _ _=>True) [1] [0] 700000 rfl ?_;refine Ai ?_ (fun _ _ _ _ _=>TpX.runY [] [1002,3,1004,5,8] ?_))|exact Ei () (Ai (trivial) (wk_slim rfl rfl rfl rfl))|exact Ei _ (Ai (trivial) (wk_slim rfl rfl rfl rfl))|exact Ai (by first|assumption|omega) (Ei _ (Ai (trivial) (wk_slim rfl rfl rfl rfl)))|(apply ix_map;(first|assumption|omega|(simp only [IntKind.wrap_i64,IntKind.wrap_u64,List.length_cons,List.length_nil];omega)|(simp only [Lm] at *;omega)|decide);(first|assumption|omega|(simp only [IntKind.wrap_i64,IntKind.wrap_u64,List.length_cons,List.length_nil];omega)|(simp only [Lm] at *;omega)|decide);intro _ _)|(apply call_f 104;refine call_x (r02is _) ⟨rfl,trivial⟩ (.inl rfl) (fun _ _=>?_))|(apply call_f 105;refine call_x (r08is _) ⟨fL (GCost.enc _),trivial⟩ (.inl rfl) (fun _ _=>?_))|(apply call_f 106;refine call_x (r10is _ (by first|assumption|exact okmr ‹_› ‹_› | exact okmg _ ‹_›)) ⟨fL (GLine.enc _),trivial⟩ (.inl rfl) (fun _ _=>?_))|(apply call_f 107;refine call_x (r11is _) ⟨rfl,trivial⟩ (.inl rfl) (fun _ _=>?_))|(apply call_f 108;refine call_x (r21creature _ (by first|assumption|exact okmr ‹_› ‹_› | exact okmg _ ‹_›)) ⟨fL (GCard.enc _),trivial⟩ (.inl rfl) (fun _ _=>?_))|(apply call_f 100;refine call_x (r20is _ (by first|assumption|exact okmr ‹_› ‹_› | exact okmg _ ‹_›)) ⟨fL (GAbility.enc _),trivial⟩ (.inl rfl) (fun _ _=>?_))|(apply call_f 109;refine call_x (r21fast _ (by first|assumption|exact okmr ‹_› ‹_› | exact okmg _ ‹_›)) ⟨fL (GCard.enc _),trivial⟩ (.inl rfl) (fun _ _=>?_))|fail)
theorem r22find (a:List GCard) (b:ByteArray) (ha:a.length*176≤limB) (_ma:∀ y∈a,GCard.ok y):∃ r:Int,True∧Ct Tryz.prog 44 [.c (.t (.sl 17 (a.map GCard.enc))),AV.s b] (AV.i r) [] true:=by
 refine ct_x (Φ:=fun _=>True) lit_i (ctx_of Tryz.func44 rfl (enters_of Tryz.func44 (by kernel_rfl) rfl) tabOk (by kernel_rfl) rfl rfl (TpX.runY [] [] ?_))
 repeat' (first|(apply cond_p <;> intro _)|(apply cS <;> intro _)|(apply leaf_x;exact Ei [] (Ai rfl (Ai trivial rfl));exact (trivial);rfl)|(apply lp_at 2 rfl;refine LpX.up (β:=Unit) 2 5 ((((a.map GCard.enc).length:Nat):Int)) (by first|omega|exact len62 (by first|assumption|exact okmr ‹_› ‹_› | exact okmg _ ‹_›) rfl) (by omega) (fun _=>[]) (fun _ _=>True) [0,1] [] 200000 rfl ?_;refine Ai ?_ (fun _ _ _ _ _=>TpX.runY [] [] ?_))|exact Ei () (Ai (trivial) (wk_slim rfl rfl rfl rfl))|exact Ai (by first|assumption|omega) (Ei () (Ai (trivial) (wk_slim rfl rfl rfl rfl)))|(apply ix_map;(first|assumption|omega|(simp only [IntKind.wrap_i64,IntKind.wrap_u64,List.length_cons,List.length_nil];omega)|(simp only [Lm] at *;omega)|decide);(first|assumption|omega|(simp only [IntKind.wrap_i64,IntKind.wrap_u64,List.length_cons,List.length_nil];omega)|(simp only [Lm] at *;omega)|decide);intro _ _)|fail)
theorem r22token (a:List GCard) (b:ByteArray) (ha:a.length*176≤limB) (_ma:∀ y∈a,GCard.ok y):∃ r:Bool,True∧Ct Tryz.prog 110 [.c (.t (.sl 17 (a.map GCard.enc))),AV.s b] (AV.b r) [] true:=by
 refine ct_x (Φ:=fun _=>True) lit_b (ctx_of Tryz.func110 rfl (enters_of Tryz.func110 (by kernel_rfl) rfl) tabOk (by kernel_rfl) rfl rfl (TpX.runY [] [] ?_))
 repeat' (first|(apply cond_p <;> intro _)|(apply cS <;> intro _)|(apply leaf_x;exact Ei [] (Ai rfl (Ai trivial rfl));exact (trivial);rfl)|(apply lp_at 2 rfl;refine LpX.up (β:=Unit) 2 5 ((((a.map GCard.enc).length:Nat):Int)) (by first|omega|exact len62 (by first|assumption|exact okmr ‹_› ‹_› | exact okmg _ ‹_›) rfl) (by omega) (fun _=>[]) (fun _ _=>True) [0,1] [] 200000 rfl ?_;refine Ai ?_ (fun _ _ _ _ _=>TpX.runY [] [] ?_))|exact Ei () (Ai (trivial) (wk_slim rfl rfl rfl rfl))|exact Ai (by first|assumption|omega) (Ei () (Ai (trivial) (wk_slim rfl rfl rfl rfl)))|(apply ix_map;(first|assumption|omega|(simp only [IntKind.wrap_i64,IntKind.wrap_u64,List.length_cons,List.length_nil];omega)|(simp only [Lm] at *;omega)|decide);(first|assumption|omega|(simp only [IntKind.wrap_i64,IntKind.wrap_u64,List.length_cons,List.length_nil];omega)|(simp only [Lm] at *;omega)|decide);intro _ _)|fail)
theorem r22creates (a:List GCard) (b:GCard) (ha:a.length*176≤limB) (ma:∀ y∈a,GCard.ok y) (hb:b.ok):∃ r:Bool,True∧Ct Tryz.prog 45 [.c (.t (.sl 17 (a.map GCard.enc))),.agg (b.enc.map .t)] (AV.b r) [] true:=by
 have hb_:=hb
 obtain ⟨ob0,ob1,ob2,ob3⟩:=hb_
 refine ct_x (Φ:=fun _=>True) lit_b (ctx_of Tryz.func45 rfl (enters_of Tryz.func45 (by kernel_rfl) rfl) tabOk (by kernel_rfl) rfl rfl (TpX.runY [] [] ?_))
 repeat' (first|(apply ix_k;(first|assumption|omega|(simp only [IntKind.wrap_i64,IntKind.wrap_u64,List.length_cons,List.length_nil];omega)|(simp only [Lm] at *;omega)|decide);(first|assumption|omega|(simp only [IntKind.wrap_i64,IntKind.wrap_u64,List.length_cons,List.length_nil];omega)|(simp only [Lm] at *;omega)|decide);intro _)|(apply cond_p <;> intro _)|apply cond_n|(apply cS <;> intro _)|(apply leaf_x;exact Ei [] (Ai rfl (Ai trivial rfl));exact (trivial);rfl)|(apply lp_at 2 rfl;refine LpX.up (β:=Unit) 2 5 ((((b.abilities.map GAbility.enc).length:Nat):Int)) (by first|omega|exact len62 (by first|assumption|exact okmr ‹_› ‹_› | exact okmg _ ‹_› | exact GAbility.ok_effects (okmg _ ‹_›)) rfl) (by omega) (fun _=>[]) (fun _ _=>True) [0,3] [0] 200000 rfl ?_;refine Ai ?_ (fun _ _ _ _ _=>TpX.runY [] [] ?_))|(apply lp_at 5 rfl;rename_i i _ _ _ _ hi;(have hk:i.toNat < b.abilities.length:=by (simp only [Lm] at *;omega));refine LpX.up (β:=Unit) 5 6 ((((b.abilities[i.toNat].effects.map GEffect.enc).length:Nat):Int)) (by first|omega|exact len62 (by first|assumption|exact okmr ‹_› ‹_› | exact okmg _ ‹_› | exact GAbility.ok_effects (okmg _ ‹_›)) rfl) (by omega) (fun _=>[]) (fun _ _=>True) [0,3,5] [0] 300000 rfl ?_;refine Ai ?_ (fun _ _ _ _ _=>TpX.runY [] [] ?_))|exact Ei () (Ai (trivial) (wk_slim rfl rfl rfl rfl))|exact Ai (by first|assumption|omega) (Ei () (Ai (trivial) (wk_slim rfl rfl rfl rfl)))|(apply call_f 110;refine call_x (r22token _ _ (by first|assumption|exact okmr ‹_› ‹_› | exact okmg _ ‹_› | exact GAbility.ok_effects (okmg _ ‹_›)) (by first|assumption|exact okmr ‹_› ‹_› | exact okmg _ ‹_› | exact GAbility.ok_effects (okmg _ ‹_›))) ⟨rfl,rfl,trivial⟩ (.inl rfl) (fun _ _=>?_))|fail)
theorem r22check (a:List GCard) (ha:a.length*176≤limB) (ma:∀ y∈a,GCard.ok y):∃ r:Int × Int,True∧Ct Tryz.prog 16 [.c (.t (.sl 17 (a.map GCard.enc)))] (tupE r) [] true:=by
 refine ct_x (Φ:=fun _=>True) lit_e (ctx_of Tryz.func16 rfl (enters_of Tryz.func16 (by kernel_rfl) rfl) tabOk (by kernel_rfl) rfl rfl (TpX.runY [] [] ?_))
 repeat' (first|(apply cond_p <;> intro _)|apply cond_n|(apply cS <;> intro _)|(refine leaf_x (_,_) (Ei [] (Ai rfl (Ai trivial (Ai rfl (Ai rfl trivial))))) trivial rfl)|(apply lp_at 4 rfl;refine LpX.up (β:=Unit) 4 4 ((((a.map GCard.enc).length:Nat):Int)) (by first|omega|exact len62 (by first|assumption|exact okmr ‹_› ‹_› | exact okmg _ ‹_›) rfl) (by omega) (fun _=>[]) (fun _ _=>True) [0] [] 200000 rfl ?_;refine Ai ?_ (fun _ _ _ _ _=>TpX.runY [] [] ?_))|exact Ei () (Ai (trivial) (wk_slim rfl rfl rfl rfl))|exact Ai (by first|assumption|omega) (Ei () (Ai (trivial) (wk_slim rfl rfl rfl rfl)))|(apply ix_map;(first|assumption|omega|(simp only [IntKind.wrap_i64,IntKind.wrap_u64,List.length_cons,List.length_nil];omega)|(simp only [Lm] at *;omega)|decide);(first|assumption|omega|(simp only [IntKind.wrap_i64,IntKind.wrap_u64,List.length_cons,List.length_nil];omega)|(simp only [Lm] at *;omega)|decide);intro _ _)|(apply call_f 43;refine call_x (r21is _ (by first|assumption|exact okmr ‹_› ‹_› | exact okmg _ ‹_›)) ⟨fL (GCard.enc _),trivial⟩ (.inl rfl) (fun _ _=>?_))|(apply call_f 44;refine call_x (r22find _ _ (by first|assumption|exact okmr ‹_› ‹_› | exact okmg _ ‹_›) (by first|assumption|exact okmr ‹_› ‹_› | exact okmg _ ‹_›)) ⟨rfl,rfl,trivial⟩ (.inl rfl) (fun _ _=>?_))|(apply call_f 45;refine call_x (r22creates _ _ (by first|assumption|exact okmr ‹_› ‹_› | exact okmg _ ‹_›) (by first|assumption|exact okmr ‹_› ‹_› | exact okmg _ ‹_›) (by first|assumption|exact okmr ‹_› ‹_› | exact okmg _ ‹_›)) ⟨rfl,fL (GCard.enc _),trivial⟩ (.inl rfl) (fun _ _=>?_))|fail)
theorem r26is_ (a:List GCard) (b:GState) (ha:a.length*176≤limB) (ma:∀ y∈a,GCard.ok y) (hb:b.ok):∃ r:Bool,(r=(isM opq ((a.length:Nat):Int) b))∧Ct Tryz.prog 12 [.c (.t (.sl 17 (a.map GCard.enc))),.agg (b.enc.map .t)] (AV.b r) [] true:=by
 have hb_:=hb
 obtain ⟨ob0,ob1,ob2,ob3,ob4,ob5,ob6,ob7,ob8,ob9,ob10,ob11,ob12⟩:=hb_
 refine ct_x (Φ:=fun (r:Bool)=>r=(isM opq ((a.length:Nat):Int) b)) lit_b (ctx_of Tryz.func12 rfl (enters_of Tryz.func12 (by kernel_rfl) rfl) tabOk (by kernel_rfl) rfl rfl (TpX.runY [] [] ?_))
 repeat' (first|(apply ix_k;(first|assumption|omega|(simp only [IntKind.wrap_i64,IntKind.wrap_u64,List.length_cons,List.length_nil];omega)|(simp only [Lm] at *;omega)|decide);(first|assumption|omega|(simp only [IntKind.wrap_i64,IntKind.wrap_u64,List.length_cons,List.length_nil];omega)|(simp only [Lm] at *;omega)|decide);intro _)|(apply cond_p <;> intro _)|(apply cond_ne <;> intro _)|apply cond_n|(apply cS <;> intro _)|(apply leaf_x;exact Ei [] (Ai rfl (Ai trivial rfl));exact (by first|contradiction|exact is_nE ‹_› ‹_› | exact is_nW (by first|exact isW_f1 ‹_› ‹_› | exact isW_f2 ‹_› ‹_›)|exact is_yes (isA_t ‹_› ‹_› ‹_› ‹_› ‹_›) (isB_t ‹_› ‹_› ‹_› ‹_› ‹_› ‹_›) ‹_› ‹_› (by first|exact isW_t1 ‹_› ‹_› | exact isW_t2 ‹_› ‹_›) (by simp [*])|exact is_nA (by first|exact isA_f1 ‹_› | exact isA_f2 ‹_› | exact isA_f3 ‹_› | exact isA_f4 ‹_› | exact isA_f5 ‹_›)|exact is_nB (by first|exact isB_f1 ‹_› | exact isB_f2 ‹_› | exact isB_f3 ‹_› | exact isB_f4 ‹_› | exact isB_f5 ‹_› | exact isB_f6 ‹_›));rfl)|(apply lp_at 6 rfl;refine LpX.up (β:=Unit) 6 5 ((((b.extra.map eI).length:Nat):Int)) (by first|omega|exact len62 (by first|assumption|exact okmr ‹_› ‹_› | exact okmg _ ‹_›) rfl) (by omega) (fun _=>[]) (fun i _=>Up (fun _=>plM b) b.extra i) [0,3] [0] 200000 rfl ?_;refine Ai ?_ (fun _ _ _ _ _=>TpX.runY [] [] ?_))|exact Ei () (Ai (by first|exact Up.zero|exact Up.step ‹_› ‹_› ‹_› (by simp [*])) (wk_slim rfl rfl rfl rfl))|exact Ai (by first|assumption|omega) (Ei () (Ai (by first|exact Up.zero|exact Up.step ‹_› ‹_› ‹_› (by simp [*])) (wk_slim rfl rfl rfl rfl)))|(apply call_f 37;refine cI (r26in _ _ _) ⟨rfl,rfl,rfl,trivial⟩ (.inl rfl) ?_)|(apply call_f 38;refine cI (r26players _ (by first|assumption|exact okmr ‹_› ‹_› | exact okmg _ ‹_›)) ⟨fL (GState.enc _),trivial⟩ (.inl rfl) ?_)|(apply call_f 39;refine cI (r26player _ _ (by first|assumption|exact okmr ‹_› ‹_› | exact okmg _ ‹_›)) ⟨fL (GState.enc _),rfl,trivial⟩ (.inl rfl) ?_)|(apply call_f 40;refine cI (r26objects _ _ (by first|assumption|exact okmr ‹_› ‹_› | exact okmg _ ‹_›) (by first|assumption|exact okmr ‹_› ‹_› | exact okmg _ ‹_›) (by first|assumption|exact okmr ‹_› ‹_› | exact okmg _ ‹_›)) ⟨rfl,fL (GState.enc _),trivial⟩ (.inl rfl) ?_)|(apply call_f 41;refine cI (r26stack _ ‹_› ‹_›) ⟨fL (GState.enc _),trivial⟩ (.inl rfl) ?_)|fail)
theorem r26is (a:List GCard) (b:GState) (ha:a.length*176≤limB) (ma:∀ y∈a,GCard.ok y) (hb:b.ok):Ct Tryz.prog 12 [.c (.t (.sl 17 (a.map GCard.enc))),.agg (b.enc.map .t)] (AV.b (isM opq ((a.length:Nat):Int) b)) [] true:=by
 obtain ⟨r,hr,h⟩:=r26is_ a b ha ma hb
 rw [hr] at h
 exact h
theorem wrap_add (a b:Int):IntKind.i64.wrap (clampM a+clampM b)=clampM a+clampM b:=by
 have:=clamp_range a
 have:=clamp_range b
 rw [IntKind.wrap_i64]
 omega
theorem wrap_sub (a b:Int):IntKind.i64.wrap (clampM a - clampM b)=clampM a - clampM b:=by
 have:=clamp_range a
 have:=clamp_range b
 rw [IntKind.wrap_i64]
 omega
theorem numclamp_ (a:Int):∃ r:Int,(r=(clampM a))∧Ct Tryz.prog 126 [.c (.t (iv a))] (AV.i r) [] true:=by
 refine ct_x (Φ:=fun (r:Int)=>r=(clampM a)) lit_i (ctx_of Tryz.func126 rfl (enters_of Tryz.func126 (by kernel_rfl) rfl) tabOk (by kernel_rfl) rfl rfl (TpX.runY [] [] ?_))
 repeat' (first|(apply leaf_x;exact Ei [] (Ai rfl (Ai trivial rfl));exact (by unfold clampM;(repeat' split) <;> omega);rfl)|fail)
theorem numclamp (a:Int):Ct Tryz.prog 126 [.c (.t (iv a))] (AV.i (clampM a)) [] true:=by
 obtain ⟨r,hr,h⟩:=numclamp_ a
 rw [hr] at h
 exact h
theorem numadd_ (a:Int) (b:Int):∃ r:Int,(r=(addM a b))∧Ct Tryz.prog 73 [.c (.t (iv a)),.c (.t (iv b))] (AV.i r) [] true:=by
 refine ct_x (Φ:=fun (r:Int)=>r=(addM a b)) lit_i (ctx_of Tryz.func73 rfl (enters_of Tryz.func73 (by kernel_rfl) rfl) tabOk (by kernel_rfl) rfl rfl (TpX.runY [] [] ?_))
 repeat' (first|(apply leaf_x;exact Ei [] (Ai rfl (Ai trivial rfl));exact (by unfold addM;rw [wrap_add]);rfl)|(apply call_f 126;refine cI (numclamp _) ⟨rfl,trivial⟩ (.inl rfl) ?_)|fail)
theorem numadd (a:Int) (b:Int):Ct Tryz.prog 73 [.c (.t (iv a)),.c (.t (iv b))] (AV.i (addM a b)) [] true:=by
 obtain ⟨r,hr,h⟩:=numadd_ a b
 rw [hr] at h
 exact h
theorem numsub_ (a:Int) (b:Int):∃ r:Int,(r=(subM a b))∧Ct Tryz.prog 74 [.c (.t (iv a)),.c (.t (iv b))] (AV.i r) [] true:=by
 refine ct_x (Φ:=fun (r:Int)=>r=(subM a b)) lit_i (ctx_of Tryz.func74 rfl (enters_of Tryz.func74 (by kernel_rfl) rfl) tabOk (by kernel_rfl) rfl rfl (TpX.runY [] [] ?_))
 repeat' (first|(apply leaf_x;exact Ei [] (Ai rfl (Ai trivial rfl));exact (by unfold subM;rw [wrap_sub]);rfl)|(apply call_f 126;refine cI (numclamp _) ⟨rfl,trivial⟩ (.inl rfl) ?_)|fail)
theorem numsub (a:Int) (b:Int):Ct Tryz.prog 74 [.c (.t (iv a)),.c (.t (iv b))] (AV.i (subM a b)) [] true:=by
 obtain ⟨r,hr,h⟩:=numsub_ a b
 rw [hr] at h
 exact h
theorem cup_rev (c n:Int):cupM c n=if (0:Int) > addM c n then 0 else addM c n:=by
 unfold cupM
 by_cases h:addM c n > 0
 ·rw [if_pos h,if_neg (by omega)]
 ·by_cases h2:(0:Int) > addM c n
  ·rw [if_neg h,if_pos h2]
  ·rw [if_neg h,if_neg h2]
   omega
theorem cnt_add (c0 c1 c2 k n:Int):Ct Tryz.prog 76 [.agg [.t (iv c0),.t (iv c1),.t (iv c2)],.c (.t (iv k)),.c (.t (iv n))] (.agg [.t (iv (upC 0 k c0 n)),.t (iv (upC 1 k c1 n)),.t (iv (upC 2 k c2 n))]) [] true:=by
 refine Ct.litT (b:=false) ?_ rfl
 by_cases h0:k≥0
 ·by_cases h3:k < 3
  ·rcases (by omega:k=0∨k=1∨k=2) with rfl|rfl|rfl
   ·rw [show upC 0 0 c0 n=(if (0:Int) > addM c0 n then 0 else addM c0 n) from (if_pos rfl).trans (cup_rev _ _),show upC 1 0 c1 n=c1 from if_neg (by decide),show upC 2 0 c2 n=c2 from if_neg (by decide)]
    refine ct_of Tryz.func76 rfl (enters_of Tryz.func76 (by kernel_rfl) rfl) tabOk (by kernel_rfl) rfl rfl rfl rfl fun w0 O _=>Tp.run [] ?_
    refine Ei 0 (Ai rfl (Ai (by decide) ?_))
    refine cI (numadd c0 n) ⟨rfl,rfl,trivial⟩ (.inl rfl) ?_
    refine Ei 0 (Ai rfl (Ai (by decide) ?_))
    refine Ei [] (Ai rfl (Ai trivial ?_))
    repeat' first|refine Ai ?_ ?_|exact rfl|exact trivial|exact Ei _ rfl|refine lN ?_|refine bS ?_|fail
   ·rw [show upC 0 1 c0 n=c0 from if_neg (by decide),show upC 1 1 c1 n=(if (0:Int) > addM c1 n then 0 else addM c1 n) from (if_pos rfl).trans (cup_rev _ _),show upC 2 1 c2 n=c2 from if_neg (by decide)]
    refine ct_of Tryz.func76 rfl (enters_of Tryz.func76 (by kernel_rfl) rfl) tabOk (by kernel_rfl) rfl rfl rfl rfl fun w0 O _=>Tp.run [] ?_
    refine Ei 1 (Ai rfl (Ai (by decide) ?_))
    refine cI (numadd c1 n) ⟨rfl,rfl,trivial⟩ (.inl rfl) ?_
    refine Ei 1 (Ai rfl (Ai (by decide) ?_))
    refine Ei [] (Ai rfl (Ai trivial ?_))
    repeat' first|refine Ai ?_ ?_|exact rfl|exact trivial|exact Ei _ rfl|refine lN ?_|refine bS ?_|fail
   ·rw [show upC 0 2 c0 n=c0 from if_neg (by decide),show upC 1 2 c1 n=c1 from if_neg (by decide),show upC 2 2 c2 n=(if (0:Int) > addM c2 n then 0 else addM c2 n) from (if_pos rfl).trans (cup_rev _ _)]
    refine ct_of Tryz.func76 rfl (enters_of Tryz.func76 (by kernel_rfl) rfl) tabOk (by kernel_rfl) rfl rfl rfl rfl fun w0 O _=>Tp.run [] ?_
    refine Ei 2 (Ai rfl (Ai (by decide) ?_))
    refine cI (numadd c2 n) ⟨rfl,rfl,trivial⟩ (.inl rfl) ?_
    refine Ei 2 (Ai rfl (Ai (by decide) ?_))
    refine Ei [] (Ai rfl (Ai trivial ?_))
    repeat' first|refine Ai ?_ ?_|exact rfl|exact trivial|exact Ei _ rfl|refine lN ?_|refine bS ?_|fail
  ·rw [show upC 0 k c0 n=c0 from if_neg (by omega),show upC 1 k c1 n=c1 from if_neg (by omega),show upC 2 k c2 n=c2 from if_neg (by omega)]
   refine ct_of Tryz.func76 rfl (enters_of Tryz.func76 (by kernel_rfl) rfl) tabOk (by kernel_rfl) rfl rfl rfl rfl fun w0 O _=>Tp.run [] ?_
   refine cond_t (decide_eq_true h0) ?_
   refine cond_f (decide_eq_false h3) ?_
   refine Ei [] (Ai rfl (Ai trivial ?_))
   repeat' first|refine Ai ?_ ?_|exact rfl|exact trivial|exact Ei _ rfl|refine lN ?_|refine bS ?_|fail
 ·rw [show upC 0 k c0 n=c0 from if_neg (by omega),show upC 1 k c1 n=c1 from if_neg (by omega),show upC 2 k c2 n=c2 from if_neg (by omega)]
  refine ct_of Tryz.func76 rfl (enters_of Tryz.func76 (by kernel_rfl) rfl) tabOk (by kernel_rfl) rfl rfl rfl rfl fun w0 O _=>Tp.run [] ?_
  refine cond_f (decide_eq_false h0) ?_
  refine Ei [] (Ai rfl (Ai trivial ?_))
  repeat' first|refine Ai ?_ ?_|exact rfl|exact trivial|exact Ei _ rfl|refine lN ?_|refine bS ?_|fail
def arrE (p:Int × Int × Int):AV:=.agg [.t (iv p.1),.t (iv p.2.1),.t (iv p.2.2)]
theorem lit_a (p:Int × Int × Int):litT (arrE p)=true:=rfl
theorem cnt_sum_ (a0:Int) (a1:Int) (a2:Int) (b0:Int) (b1:Int) (b2:Int):∃ r:Int × Int × Int,(r=((cupM a0 b0,cupM a1 b1,cupM a2 b2)))∧Ct Tryz.prog 124 [.agg [.t (iv a0),.t (iv a1),.t (iv a2)],.agg [.t (iv b0),.t (iv b1),.t (iv b2)]] (arrE r) [] true:=by
 refine ct_x (Φ:=fun (r:Int × Int × Int)=>r=((cupM a0 b0,cupM a1 b1,cupM a2 b2))) lit_a (ctx_of Tryz.func124 rfl (enters_of Tryz.func124 (by kernel_rfl) rfl) tabOk (by kernel_rfl) rfl rfl (TpX.runY [] [] ?_))
 repeat' (first|(refine leaf_x (cupM a0 b0,cupM a1 b1,cupM a2 b2) (Ei [] (Ai rfl (Ai trivial ?_))) rfl rfl;(repeat' first|refine Ai ?_ ?_|exact rfl|exact trivial|exact Ei _ rfl|refine lN ?_|refine bS ?_|fail);done)|(apply lp_at 2 rfl;refine LpX.one 2 rfl (TpX.runY [] [] ?_))|(apply call_f 76;refine cI (cnt_add _ _ _ _ _) ⟨⟨rfl,rfl,rfl,trivial⟩,rfl,rfl,trivial⟩ (.inl rfl) ?_)|(refine Ei 0 (Ei _ (Ai rfl (Ai (Nb rfl) (Ai rfl ?_)))))|(refine Ei 1 (Ei _ (Ai rfl (Ai (Nb rfl) (Ai rfl ?_)))))|(refine Ei 2 (Ei _ (Ai rfl (Ai (Nb rfl) (Ai rfl ?_)))))|fail)
theorem cnt_sum (a0:Int) (a1:Int) (a2:Int) (b0:Int) (b1:Int) (b2:Int):Ct Tryz.prog 124 [.agg [.t (iv a0),.t (iv a1),.t (iv a2)],.agg [.t (iv b0),.t (iv b1),.t (iv b2)]] (arrE ((cupM a0 b0,cupM a1 b1,cupM a2 b2))) [] true:=by
 obtain ⟨r,hr,h⟩:=cnt_sum_ a0 a1 a2 b0 b1 b2
 rw [hr] at h
 exact h
end Go.Proofs.YtmloamomcbmfhaaGreat
end
section
namespace Go.Proofs.YtmloamomcbmfhaaGreat
open Go Cg Go.RowKit
theorem beq_f {a k j:Int} (h:a=k) (hn:k≠j):(a==j)=false:=by rw [h];simpa using hn
theorem beq_t {a k:Int} (h:a=k):(a==k)=true:=by rw [h];simp
def uvA (n:Int):AV:=.c (.t (.lit (.int .u64 n)))
theorem ne_wrap {n:Int} (h:¬ n < 1) (h2:n≤1099511627776):IntKind.u64.wrap n≠0:=by
 rw [IntKind.wrap_u64]
 omega
theorem dnext (s:Int):Ct Tryz.prog 172 [uvA s] (.tup [uvA (nextM s),uvA (seedM s)]) [] true:=by
 refine Ct.litT (b:=false) ?_ rfl
 obtain ⟨z,hz⟩:∃ z,seedM s=z:=⟨_,rfl⟩
 obtain ⟨a,ha⟩:∃ a,mix1 z=a:=⟨_,rfl⟩
 obtain ⟨b,hb⟩:∃ b,mix2 a=b:=⟨_,rfl⟩
 obtain ⟨c,hc⟩:∃ c,mix3 b=c:=⟨_,rfl⟩
 rw [show nextM s=c from by unfold nextM;rw [hz,ha,hb,hc],hz]
 refine ct_of Tryz.func172 rfl (enters_of Tryz.func172 (by kernel_rfl) rfl) tabOk (by kernel_rfl) rfl rfl rfl rfl fun w0 O _=>Tp.run [2,3,4,5] ?_
 refine Tp.wk (wk_of [] (sl':=[(0,uvA z)]) (bx':=[]) (rw':=[]) (nx':=10000) rfl rfl ?_ ?_ ?_) ?_
 ·repeat' first|refine Ai ?_ ?_|exact rfl|exact trivial|exact Ei _ rfl|refine lN ?_|refine bS ?_|fail
  exact congrArg (fun n=>Tr.lit (.int .u64 n)) hz
 ·repeat' first|refine Ai ?_ ?_|exact rfl|exact trivial|exact Ei _ rfl|refine lN ?_|refine bS ?_|fail
 ·repeat' first|refine Ai ?_ ?_|exact rfl|exact trivial|exact Ei _ rfl|refine lN ?_|refine bS ?_|fail
 refine Tp.run [] ?_
 refine Tp.run [] ?_
 refine Tp.wk (wk_of [] (sl':=[(0,uvA z),(4,uvA a)]) (bx':=[]) (rw':=[]) (nx':=10000) rfl rfl ?_ ?_ ?_) ?_
 ·repeat' first|refine Ai ?_ ?_|exact rfl|exact trivial|exact Ei _ rfl|refine lN ?_|refine bS ?_|fail
  exact congrArg (fun n=>Tr.lit (.int .u64 n)) ha
 ·repeat' first|refine Ai ?_ ?_|exact rfl|exact trivial|exact Ei _ rfl|refine lN ?_|refine bS ?_|fail
 ·repeat' first|refine Ai ?_ ?_|exact rfl|exact trivial|exact Ei _ rfl|refine lN ?_|refine bS ?_|fail
 refine Tp.run [] ?_
 refine Tp.wk (wk_of [] (sl':=[(0,uvA z),(4,uvA b)]) (bx':=[]) (rw':=[]) (nx':=10000) rfl rfl ?_ ?_ ?_) ?_
 ·repeat' first|refine Ai ?_ ?_|exact rfl|exact trivial|exact Ei _ rfl|refine lN ?_|refine bS ?_|fail
  exact congrArg (fun n=>Tr.lit (.int .u64 n)) hb
 ·repeat' first|refine Ai ?_ ?_|exact rfl|exact trivial|exact Ei _ rfl|refine lN ?_|refine bS ?_|fail
 ·repeat' first|refine Ai ?_ ?_|exact rfl|exact trivial|exact Ei _ rfl|refine lN ?_|refine bS ?_|fail
 refine Tp.run [] ?_
 refine Ei [] (Ai rfl (Ai ?_ ?_))
 ·repeat' first|refine Ai ?_ ?_|exact rfl|exact trivial|exact Ei _ rfl|refine lN ?_|refine bS ?_|fail
 ·repeat' first|refine Ai ?_ ?_|exact rfl|exact trivial|exact Ei _ rfl|refine lN ?_|refine bS ?_|fail
  exact congrArg (fun n=>Tr.lit (.int .u64 n)) hc
theorem dbelow (s n:Int) (h2:n≤1099511627776):Ct Tryz.prog 127 [uvA s,.c (.t (iv n))] (.tup [AV.i (belowM s n).1,uvA (belowM s n).2]) [] true:=by
 refine Ct.litT (b:=false) ?_ rfl
 by_cases h:n < 1
 ·rw [show belowM s n=(0,s) from if_pos h]
  refine ct_of Tryz.func127 rfl (enters_of Tryz.func127 (by kernel_rfl) rfl) tabOk (by kernel_rfl) rfl rfl rfl rfl fun w0 O _=>Tp.run [2,3] ?_
  refine cond_t (decide_eq_true h) (Tp.run [] ?_)
  refine Ei [] (Ai rfl (Ai trivial ?_))
  repeat' first|refine Ai ?_ ?_|exact rfl|exact trivial|exact Ei _ rfl|refine lN ?_|refine bS ?_|fail
 ·rw [show belowM s n=_ from if_neg h]
  refine ct_of Tryz.func127 rfl (enters_of Tryz.func127 (by kernel_rfl) rfl) tabOk (by kernel_rfl) rfl rfl rfl rfl fun w0 O _=>Tp.run [2,3] ?_
  refine cond_f (decide_eq_false h) (Tp.run [] ?_)
  refine cI (dnext s) ⟨rfl,trivial⟩ (.inl rfl) ?_
  refine Ai rfl (Ai (ne_wrap h h2) ?_)
  refine Ei [] (Ai rfl (Ai trivial ?_))
  repeat' first|refine Ai ?_ ?_|exact rfl|exact trivial|exact Ei _ rfl|refine lN ?_|refine bS ?_|fail
structure ShOk (s:Int) (l:List Int) (x:Int × List Int × Int):Prop where
 lo:-1≤x.1
 hi:x.1 < (x.2.1.length:Int)
 len:x.2.1.length=l.length
 eq:shufG x.1.toNat x.2.2 x.2.1=shufM s l
theorem ShOk.start (s:Int) (l:List Int) (h:l.length*8≤limB):ShOk s l (IntKind.i64.wrap (((l.length:Nat):Int) - 1),l,s):=by
 have e:IntKind.i64.wrap ((l.length:Int) - 1)=(l.length:Int) - 1:=wrap_sub1 h rfl
 refine ⟨?_,?_,rfl,?_⟩
 ·show -1≤IntKind.i64.wrap ((l.length:Int) - 1)
  omega
 ·show IntKind.i64.wrap ((l.length:Int) - 1) < (l.length:Int)
  omega
 ·show shufG (IntKind.i64.wrap ((l.length:Int) - 1)).toNat s l=shufM s l
  unfold shufM
  rw [e]
  congr 1
  omega
theorem ShOk.step {s:Int} {l:List Int} {i:Int} {L:List Int} {S:Int} (h:ShOk s l (i,L,S)) (hi:1≤i) (hb:l.length≤1099511627776):(IntKind.i64.wrap (i+1)=i+1∧i+1≤1099511627776)∧(0≤(belowM S (i+1)).1∧(belowM S (i+1)).1 < (L.length:Int))∧(IntKind.i64.wrap (i - 1)=i - 1∧ShOk s l (i - 1,swapM L i.toNat (belowM S (i+1)).1.toNat,(belowM S (i+1)).2)):=by
 obtain ⟨h1,h2,h3,h4⟩:=h
 simp only at h1 h2 h3 h4
 have hr:=below_range (s:=S) (n:=i+1) (by omega) (by omega)
 refine ⟨⟨by rw [IntKind.wrap_i64];omega,by omega⟩,⟨hr.1,by omega⟩,by rw [IntKind.wrap_i64];omega,?_,?_,?_,?_⟩
 ·show -1≤i - 1
  omega
 ·show i - 1 < ((swapM L i.toNat (belowM S (i+1)).1.toNat).length:Int)
  rw [swap_len]
  omega
 ·show (swapM L i.toNat (belowM S (i+1)).1.toNat).length=l.length
  rw [swap_len,h3]
 ·show shufG (i - 1).toNat (belowM S (i+1)).2 (swapM L i.toNat (belowM S (i+1)).1.toNat)=shufM s l
  obtain ⟨j,rfl⟩:∃ j:Nat,i=(j:Int)+1:=⟨(i - 1).toNat,by omega⟩
  rw [show ((j:Int)+1).toNat=j+1 by omega] at h4 ⊢
  unfold shufG at h4
  rw [show ((j:Int)+1 - 1).toNat=j by omega,show (j:Int)+1+1=(j:Int)+2 by omega]
  exact h4
theorem ShOk.fin {s:Int} {l:List Int} {i:Int} {L:List Int} {S:Int} (h:ShOk s l (i,L,S)) (hi:¬ 1≤i):shufM s l=(L,S):=by
 have h4:=h.eq
 simp only at h4
 rw [show i.toNat=0 by omega] at h4
 exact h4.symm
theorem sw_get {L:List Int} {i k:Nat} {a:Int} (hk:k < L.length):((L.map eI).set i (eI a))[k]? = some (eI ((L.set i a)[k]'(by rw [List.length_set];exact hk))):=by
 rw [← List.map_set]
 exact map_get _ _ k _
theorem sw_eq {L:List Int} {i k:Nat} (hi:i < L.length) (hk:k < L.length):((L.map eI).set i (eI L[k])).set k (eI L[i])=(swapM L i k).map eI:=by
 unfold swapM
 rw [List.map_set,List.map_set,List.getD_eq_getElem?_getD,List.getD_eq_getElem?_getD,List.getElem?_eq_getElem hi,List.getElem?_eq_getElem hk]
 rfl
def p20:GPlayer:=⟨20,0,0,0,0,0,0,0,0,false,false,[],[],[]⟩
def newS (seed:Int):GState:=⟨[p20,p20],[],[],[],[],[],[],0,0,0,false,0,0,1,1,seed,[],0,-1⟩
def rp20:List Tr:=[iv 20,iv 0,iv 0,iv 0,iv 0,iv 0,iv 0,iv 0,iv 0,bv false,bv false,.sl 0 [],.sl 0 [],.sl 0 []]
theorem rp20_ts:TSL rp20 p20.enc:=by repeat' constructor
theorem r26new (seed:Int):Ct Tryz.prog 17 [.c (.t (iv 2)),.c (.t (iv 0)),uvA seed] (.agg ((newS seed).enc.map .t)) [] false:=by
 refine Ct.ts (ts:=(newS seed).enc.set 0 (.sl 14 [rp20,rp20])) ?_ ?_
 case refine_2=>
  repeat' (first|exact rp20_ts|constructor)
 refine ct_of Tryz.func17 rfl (enters_of Tryz.func17 (by kernel_rfl) rfl) tabOk (by kernel_rfl) rfl rfl rfl rfl fun w0 O _=>Tp.run [7,8,10] ?_
 refine Tp.loop (fun k:Nat=>⟨[(1,.c (.t (iv 0))),(6,.ptr 0 0),(7,.c (.t (iv 2))),(8,.ptr 896 0),(9,AV.i k)],[(0,List.replicate 19 .bot),(896,(((newS seed).enc.map .t).set 0 (.row 9000 0)))],[(9000,⟨47,14,0,List.replicate k rp20,none⟩)],10000⟩) (fun k=>k≤2) (fun k=>2 - k) 0 ?_ (Nat.zero_le _) ?_
 ·refine wk_of [] rfl rfl ?_ ?_ ?_
  all_goals repeat' first|refine Ai ?_ ?_|exact rfl|exact trivial|exact Ei _ rfl|refine lN ?_|refine bS ?_|fail
 rintro k hk
 refine Tp.run [5,6,7] ?_
 refine cS (fun hc=>?_) (fun hc=>?_)
 ·have hlt:k < 2:=by have:=of_decide_eq_true hc;omega
  refine Tp.run [] ?_
  refine Ai (.inl rfl) (Ai ?_ (Ai ?_ ?_))
  ·rw [List.length_replicate]
   show (k+1)*152≤_
   omega
  ·rw [List.length_replicate]
   show k+1 < _
   omega
  refine Tp.run [] ?_
  refine Ei (k+1) (Ai (show k+1≤2 by omega) (Ai (show 2 - (k+1) < 2 - k by omega) ?_))
  refine wk_of [(9000,9000)] rfl rfl ?_ ?_ ?_
  ·repeat' first|refine Ai ?_ ?_|exact rfl|exact trivial|exact Ei _ rfl|refine lN ?_|refine bS ?_|fail
   exact congrArg iv (wrap_succ k (by omega))
  ·repeat' first|refine Ai ?_ ?_|exact rfl|exact trivial|exact Ei _ rfl|refine lN ?_|refine bS ?_|fail
  ·repeat' first|refine Ai ?_ ?_|exact rfl|exact trivial|exact Ei _ rfl|refine lN ?_|refine bS ?_|fail
   exact (List.replicate_succ' (n:=k) (a:=rp20)).symm
 ·have:k=2:=by have:=of_decide_eq_false hc;omega
  subst this
  refine Tp.run [] ?_
  refine Tp.run [] ?_
  refine Tp.run [] ?_
  refine Ei [] (Ai rfl (Ai ?_ ?_))
  all_goals repeat' first|refine Ai ?_ ?_|exact rfl|exact trivial|exact Ei _ rfl|refine lN ?_|refine bS ?_|fail
end Go.Proofs.YtmloamomcbmfhaaGreat
end
section
namespace Go.Proofs.YtmloamomcbmfhaaGreat
open Go Cg Go.RowKit Go.Sort
def plD:List (Nat × Nat × Nat):=[(11,3,1),(12,3,1),(13,3,1)]
def plR (s:GState):Row:=⟨47,14,0,s.players.map GPlayer.enc,some ⟨plD,s.players.length,[]⟩⟩
theorem set2_same {α:Type} {xs:List α} {i:Nat} {t u:α} (h:xs[i]? = some t):(xs.set i u).set i t=xs:=by
 rw [List.set_set]
 exact set_same h
theorem copyP_ct (s:GState) (h:s.ok):Ct Tryz.prog 21 [.agg (s.enc.map .t)] (.agg ([.row 0 0,.row 1 0,.row 2 0,.row 3 0,.row 4 0]++(s.enc.drop 5).map .t)) [plR s,⟨49,19,0,s.objects.map GObject.enc,none⟩,⟨3,1,0,s.battlefield.map eI,none⟩,⟨3,1,0,s.exile.map eI,none⟩,⟨91,94,0,s.stack.map GItem.enc,none⟩] false:=by
 obtain ⟨hp,hp2,ho,ho2,hb,hx,hs,hs2,hw,hw2,hc,hc2,hxt⟩:=h
 refine ct_of Tryz.func21 rfl (enters_of Tryz.func21 (by kernel_rfl) rfl) tabOk (by kernel_rfl) rfl rfl rfl rfl fun w0 O _=>Tp.run [7,17,23,30] ?_
 refine cI (clonePlayer_ct _ (map_bound _ _ _ hp)) ⟨rfl,trivial⟩ (.inr rfl) ?_
 refine Tp.deep 512 plD rfl rfl ?_
 refine Tp.loop (fun k:Nat=>⟨[(1,.ptr 0 0),(2,.ptr 128 0),(13,AV.i (s.players.map GPlayer.enc).length),(14,AV.i k)],[(0,(s.enc.map .t).set 0 (.row 9000 0)),(128,List.replicate 19 .bot)],[(9000,⟨47,14,0,s.players.map GPlayer.enc,some ⟨plD,k,[]⟩⟩)],10000⟩) (fun k=>k≤s.players.length) (fun k=>s.players.length - k) 0 ?_ (Nat.zero_le _) ?_
 ·refine wk_of [(9000,512)] rfl rfl ?_ ?_ ?_
  all_goals repeat' first|refine Ai ?_ ?_|exact rfl|exact trivial|exact Ei _ rfl|refine lN ?_|refine bS ?_|fail
 rintro k hk
 refine Tp.run [6,7] ?_
 refine cS (fun h=>?_) (fun h=>?_)
 ·have hlt:=len_lt h
  have hkl:k < (s.players.map GPlayer.enc).length:=by rw [Lm];exact hlt
  refine Ei k (Ai rfl (Ai hkl ?_))
  refine Ei (s.players[k].enc) (Ei _ (Ai (map_get _ _ k hlt) (Ai rfl (Ai (.inr (Nat.le_refl k)) ?_))))
  refine cI (copyPlayer_ct s.players[k] (hp2 _ (List.getElem_mem hlt))) ⟨fL s.players[k].enc,trivial⟩ (.inr rfl) ?_
  refine Ei k (Ai rfl (Ai hkl ?_))
  refine Ei (s.players[k].enc) (Ai (map_get _ _ k hlt) (Ai (Nb rfl) (Ai trivial (Ai (.inr (Nat.le_refl k)) ?_))))
  refine Tp.put 9000 k (k+1) (ts:=s.players[k].enc) rfl rfl (List.getElem?_set_self hkl) rfl (Ai rfl (Ai rfl (Ai rfl trivial))) rfl (.inr (Ai rfl (Ai rfl rfl))) ?_
  refine Tp.run [] ?_
  refine Ei (k+1) (Ai (show k+1≤_ by omega) (Ai (show s.players.length - (k+1) < s.players.length - k by omega) ?_))
  refine wk_of [(9000,9000)] rfl rfl ?_ ?_ ?_
  ·repeat' first|refine Ai ?_ ?_|exact rfl|exact trivial|exact Ei _ rfl|refine lN ?_|refine bS ?_|fail
   exact succ_eq k hlt 152 (by decide) hp
  ·repeat' first|refine Ai ?_ ?_|exact rfl|exact trivial|exact Ei _ rfl|refine lN ?_|refine bS ?_|fail
  ·repeat' first|refine Ai ?_ ?_|exact rfl|exact trivial|exact Ei _ rfl|refine lN ?_|refine bS ?_|fail
   exact set2_same (map_get _ _ k hlt)
 have hk0:=len_ge h hk
 subst hk0
 clear h hk
 refine Tp.run [17,23,30] ?_
 refine cI (cloneObject_ct _ (map_bound _ _ _ ho)) ⟨rfl,trivial⟩ (.inr rfl) ?_
 refine cI (cloneInt_ct _ (map_bound _ _ _ hb)) ⟨rfl,trivial⟩ (.inr rfl) ?_
 refine cI (cloneInt_ct _ (map_bound _ _ _ hx)) ⟨rfl,trivial⟩ (.inr rfl) ?_
 refine cI (cloneItem_ct _ (map_bound _ _ _ hs)) ⟨rfl,trivial⟩ (.inr rfl) ?_
 refine Tp.loop (fun k:Nat=>⟨[(1,.ptr 0 0),(2,.ptr 128 0),(46,AV.i (s.stack.map GItem.enc).length),(47,AV.i k)],[(0,(((((s.enc.map .t).set 0 (.row 9000 0)).set 1 (.row 9001 0)).set 2 (.row 9002 0)).set 3 (.row 9003 0)).set 4 (.row 9004 0)),(128,List.replicate 19 .bot)],[(9000,plR s),(9001,⟨49,19,0,s.objects.map GObject.enc,none⟩),(9002,⟨3,1,0,s.battlefield.map eI,none⟩),(9003,⟨3,1,0,s.exile.map eI,none⟩),(9004,⟨91,94,0,s.stack.map GItem.enc,none⟩)],20000⟩) (fun k=>k≤s.stack.length) (fun k=>s.stack.length - k) 0 ?_ (Nat.zero_le _) ?_
 ·refine wk_of [(9000,9000),(9001,10384),(9002,11024),(9003,11664),(9004,12304)] rfl rfl ?_ ?_ ?_
  all_goals repeat' first|refine Ai ?_ ?_|exact rfl|exact trivial|exact Ei _ rfl|refine lN ?_|refine bS ?_|fail
 rintro k hk
 refine Tp.run [17] ?_
 refine cS (fun h=>?_) (fun h=>?_)
 ·have hlt:=len_lt h
  have hkl:k < (s.stack.map GItem.enc).length:=by rw [Lm];exact hlt
  obtain ⟨e1,e2,_⟩:=hs2 s.stack[k] (List.getElem_mem hlt)
  refine Ei k (Ai rfl (Ai hkl ?_))
  refine Ei (s.stack[k].enc) (Ei _ (Ai (map_get _ _ k hlt) (Ai rfl ?_)))
  refine cI (copyAbility_ct s.stack[k].ability e1) ⟨fL s.stack[k].ability.enc,trivial⟩ (.inr rfl) ?_
  refine Ei k (Ai rfl (Ai hkl ?_))
  refine Ei (s.stack[k].enc) (Ai (map_get _ _ k hlt) (Ai (Nb rfl) ?_))
  refine Ei k (Ai rfl (Ai (by rw [List.length_set];exact hkl) ?_))
  refine Ei (s.stack[k].enc) (Ei _ (Ai (List.getElem?_set_self hkl) (Ai rfl ?_)))
  refine cI (ct_tree (cloneTarget_ct _ (map_bound _ _ _ e2))) ⟨rfl,trivial⟩ (.inr rfl) ?_
  refine Ei k (Ai rfl (Ai (by rw [List.length_set];exact hkl) ?_))
  refine Ei (s.stack[k].enc) (Ai (List.getElem?_set_self hkl) (Ai (Nb rfl) ?_))
  refine Ei (k+1) (Ai (show k+1≤_ by omega) (Ai (show s.stack.length - (k+1) < s.stack.length - k by omega) ?_))
  refine wk_of [(9000,9000),(9001,9001),(9002,9002),(9003,9003),(9004,9004)] rfl rfl ?_ ?_ ?_
  ·repeat' first|refine Ai ?_ ?_|exact rfl|exact trivial|exact Ei _ rfl|refine lN ?_|refine bS ?_|fail
   exact succ_eq k hlt 824 (by decide) hs
  ·repeat' first|refine Ai ?_ ?_|exact rfl|exact trivial|exact Ei _ rfl|refine lN ?_|refine bS ?_|fail
  ·repeat' first|refine Ai ?_ ?_|exact rfl|exact trivial|exact Ei _ rfl|refine lN ?_|refine bS ?_|fail
   exact set2_same (map_get _ _ k hlt)
 have hk1:=len_ge h hk
 subst hk1
 clear h hk
 refine Tp.run [23,30] ?_
 refine cI (cloneWaiting_ct _ (map_bound _ _ _ hw)) ⟨rfl,trivial⟩ (.inr rfl) ?_
 refine Tp.loop (fun k:Nat=>⟨[(1,.ptr 0 0),(2,.ptr 128 0),(81,AV.i (s.waiting.map GWaiting.enc).length),(82,AV.i k)],[(0,((((((s.enc.map .t).set 0 (.row 9000 0)).set 1 (.row 9001 0)).set 2 (.row 9002 0)).set 3 (.row 9003 0)).set 4 (.row 9004 0)).set 5 (.row 9005 0)),(128,List.replicate 19 .bot)],[(9000,plR s),(9001,⟨49,19,0,s.objects.map GObject.enc,none⟩),(9002,⟨3,1,0,s.battlefield.map eI,none⟩),(9003,⟨3,1,0,s.exile.map eI,none⟩),(9004,⟨91,94,0,s.stack.map GItem.enc,none⟩),(9005,⟨94,89,0,s.waiting.map GWaiting.enc,none⟩)],30000⟩) (fun k=>k≤s.waiting.length) (fun k=>s.waiting.length - k) 0 ?_ (Nat.zero_le _) ?_
 ·refine wk_of [(9000,9000),(9001,9001),(9002,9002),(9003,9003),(9004,9004),(9005,20384)] rfl rfl ?_ ?_ ?_
  all_goals repeat' first|refine Ai ?_ ?_|exact rfl|exact trivial|exact Ei _ rfl|refine lN ?_|refine bS ?_|fail
 rintro k hk
 refine Tp.run [23] ?_
 refine cS (fun h=>?_) (fun h=>?_)
 ·have hlt:=len_lt h
  have hkl:k < (s.waiting.map GWaiting.enc).length:=by rw [Lm];exact hlt
  obtain ⟨e1,_⟩:=hw2 s.waiting[k] (List.getElem_mem hlt)
  refine Ei k (Ai rfl (Ai hkl ?_))
  refine Ei (s.waiting[k].enc) (Ei _ (Ai (map_get _ _ k hlt) (Ai rfl ?_)))
  refine cI (copyAbility_ct s.waiting[k].ability e1) ⟨fL s.waiting[k].ability.enc,trivial⟩ (.inr rfl) ?_
  refine Ei k (Ai rfl (Ai hkl ?_))
  refine Ei (s.waiting[k].enc) (Ai (map_get _ _ k hlt) (Ai (Nb rfl) ?_))
  refine Ei (k+1) (Ai (show k+1≤_ by omega) (Ai (show s.waiting.length - (k+1) < s.waiting.length - k by omega) ?_))
  refine wk_of [(9000,9000),(9001,9001),(9002,9002),(9003,9003),(9004,9004),(9005,9005)] rfl rfl ?_ ?_ ?_
  ·repeat' first|refine Ai ?_ ?_|exact rfl|exact trivial|exact Ei _ rfl|refine lN ?_|refine bS ?_|fail
   exact succ_eq k hlt 768 (by decide) hw
  ·repeat' first|refine Ai ?_ ?_|exact rfl|exact trivial|exact Ei _ rfl|refine lN ?_|refine bS ?_|fail
  ·repeat' first|refine Ai ?_ ?_|exact rfl|exact trivial|exact Ei _ rfl|refine lN ?_|refine bS ?_|fail
   exact set_same (map_get _ _ k hlt)
 have hk2:=len_ge h hk
 subst hk2
 clear h hk
 refine Tp.run [30] ?_
 refine cI (cloneCont_ct _ (map_bound _ _ _ hc)) ⟨rfl,trivial⟩ (.inr rfl) ?_
 refine Tp.loop (fun k:Nat=>⟨[(1,.ptr 0 0),(2,.ptr 128 0),(104,AV.i (s.conts.map GCont.enc).length),(105,AV.i k)],[(0,(((((((s.enc.map .t).set 0 (.row 9000 0)).set 1 (.row 9001 0)).set 2 (.row 9002 0)).set 3 (.row 9003 0)).set 4 (.row 9004 0)).set 5 (.row 9005 0)).set 6 (.row 9006 0)),(128,List.replicate 19 .bot)],[(9000,plR s),(9001,⟨49,19,0,s.objects.map GObject.enc,none⟩),(9002,⟨3,1,0,s.battlefield.map eI,none⟩),(9003,⟨3,1,0,s.exile.map eI,none⟩),(9004,⟨91,94,0,s.stack.map GItem.enc,none⟩),(9005,⟨94,89,0,s.waiting.map GWaiting.enc,none⟩),(9006,⟨96,6,0,s.conts.map GCont.enc,none⟩)],40000⟩) (fun k=>k≤s.conts.length) (fun k=>s.conts.length - k) 0 ?_ (Nat.zero_le _) ?_
 ·refine wk_of [(9000,9000),(9001,9001),(9002,9002),(9003,9003),(9004,9004),(9005,9005),(9006,30384)] rfl rfl ?_ ?_ ?_
  all_goals repeat' first|refine Ai ?_ ?_|exact rfl|exact trivial|exact Ei _ rfl|refine lN ?_|refine bS ?_|fail
 rintro k hk
 refine Tp.run [30] ?_
 refine cS (fun h=>?_) (fun h=>?_)
 ·have hlt:=len_lt h
  have hkl:k < (s.conts.map GCont.enc).length:=by rw [Lm];exact hlt
  obtain ⟨e1,e2,_⟩:=hc2 s.conts[k] (List.getElem_mem hlt)
  refine Ei k (Ai rfl (Ai hkl ?_))
  refine Ei (s.conts[k].enc) (Ei _ (Ai (map_get _ _ k hlt) (Ai rfl ?_)))
  refine cI (ct_tree (cloneInt_ct _ (map_bound _ _ _ e1))) ⟨rfl,trivial⟩ (.inr rfl) ?_
  refine Ei k (Ai rfl (Ai hkl ?_))
  refine Ei (s.conts[k].enc) (Ai (map_get _ _ k hlt) (Ai (Nb rfl) ?_))
  refine Ei k (Ai rfl (Ai (by rw [List.length_set];exact hkl) ?_))
  refine Ei (s.conts[k].enc) (Ei _ (Ai (List.getElem?_set_self hkl) (Ai rfl ?_)))
  refine cI (ct_tree (cloneMod_ct _ (map_bound _ _ _ e2))) ⟨rfl,trivial⟩ (.inr rfl) ?_
  refine Ei k (Ai rfl (Ai (by rw [List.length_set];exact hkl) ?_))
  refine Ei (s.conts[k].enc) (Ai (List.getElem?_set_self hkl) (Ai (Nb rfl) ?_))
  refine Ei (k+1) (Ai (show k+1≤_ by omega) (Ai (show s.conts.length - (k+1) < s.conts.length - k by omega) ?_))
  refine wk_of [(9000,9000),(9001,9001),(9002,9002),(9003,9003),(9004,9004),(9005,9005),(9006,9006)] rfl rfl ?_ ?_ ?_
  ·repeat' first|refine Ai ?_ ?_|exact rfl|exact trivial|exact Ei _ rfl|refine lN ?_|refine bS ?_|fail
   exact succ_eq k hlt 80 (by decide) hc
  ·repeat' first|refine Ai ?_ ?_|exact rfl|exact trivial|exact Ei _ rfl|refine lN ?_|refine bS ?_|fail
  ·repeat' first|refine Ai ?_ ?_|exact rfl|exact trivial|exact Ei _ rfl|refine lN ?_|refine bS ?_|fail
   exact set2_same (map_get _ _ k hlt)
 have hk3:=len_ge h hk
 subst hk3
 clear h hk
 refine Tp.run [] ?_
 refine cI (ct_tree (cloneInt_ct _ (map_bound _ _ _ hxt))) ⟨rfl,trivial⟩ (.inr rfl) ?_
 refine Ei [(0,9000),(1,9001),(2,9002),(3,9003),(4,9004)] (Ai rfl (Ai ?_ ?_))
 all_goals repeat' first|refine Ai ?_ ?_|exact rfl|exact trivial|exact Ei _ rfl|refine lN ?_|refine bS ?_|fail
def plS (s:GState):Row:=⟨47,14,0,s.players.map GPlayer.enc,none⟩
theorem copyPlayerT_ct (p:GPlayer) (h:p.ok):Ct Tryz.prog 53 [.agg (p.enc.map .t)] (.agg (p.enc.map .t)) [] false:=by
 refine ct_of Tryz.func53 rfl (enters_of Tryz.func53 (by kernel_rfl) rfl) tabOk (by kernel_rfl) rfl rfl rfl rfl fun w0 O _=>Tp.run [] ?_
 obtain ⟨h1,h2,h3⟩:=h
 refine cI (ct_tree (cloneInt_ct _ (map_bound _ _ _ h1))) ⟨rfl,trivial⟩ (.inr rfl) ?_
 refine cI (ct_tree (cloneInt_ct _ (map_bound _ _ _ h2))) ⟨rfl,trivial⟩ (.inr rfl) ?_
 refine cI (ct_tree (cloneInt_ct _ (map_bound _ _ _ h3))) ⟨rfl,trivial⟩ (.inr rfl) ?_
 refine Ei [] (Ai rfl (Ai ?_ ?_))
 all_goals repeat' first|refine Ai ?_ ?_|exact rfl|exact trivial|exact Ei _ rfl|refine lN ?_|refine bS ?_|fail
theorem copyP2_ct (s:GState) (h:s.ok):Ct Tryz.prog 21 [.agg (s.enc.map .t)] (.agg ([.row 0 0,.row 1 0]++(s.enc.drop 2).map .t)) [plS s,⟨49,19,0,s.objects.map GObject.enc,none⟩] false:=by
 obtain ⟨hp,hp2,ho,ho2,hb,hx,hs,hs2,hw,hw2,hc,hc2,hxt⟩:=h
 refine ct_of Tryz.func21 rfl (enters_of Tryz.func21 (by kernel_rfl) rfl) tabOk (by kernel_rfl) rfl rfl rfl rfl fun w0 O _=>Tp.run [7,17,23,30] ?_
 refine cI (clonePlayer_ct _ (map_bound _ _ _ hp)) ⟨rfl,trivial⟩ (.inr rfl) ?_
 refine Tp.loop (fun k:Nat=>⟨[(1,.ptr 0 0),(2,.ptr 128 0),(13,AV.i (s.players.map GPlayer.enc).length),(14,AV.i k)],[(0,(s.enc.map .t).set 0 (.row 9000 0)),(128,List.replicate 19 .bot)],[(9000,plS s)],10000⟩) (fun k=>k≤s.players.length) (fun k=>s.players.length - k) 0 ?_ (Nat.zero_le _) ?_
 ·refine wk_of [(9000,512)] rfl rfl ?_ ?_ ?_
  all_goals repeat' first|refine Ai ?_ ?_|exact rfl|exact trivial|exact Ei _ rfl|refine lN ?_|refine bS ?_|fail
 rintro k hk
 refine Tp.run [6,7] ?_
 refine cS (fun h=>?_) (fun h=>?_)
 ·have hlt:=len_lt h
  have hkl:k < (s.players.map GPlayer.enc).length:=by rw [Lm];exact hlt
  refine Ei k (Ai rfl (Ai hkl ?_))
  refine Ei (s.players[k].enc) (Ei _ (Ai (map_get _ _ k hlt) (Ai rfl ?_)))
  refine cI (copyPlayerT_ct s.players[k] (hp2 _ (List.getElem_mem hlt))) ⟨fL s.players[k].enc,trivial⟩ (.inr rfl) ?_
  refine Ei k (Ai rfl (Ai hkl ?_))
  refine Ei (s.players[k].enc) (Ai (map_get _ _ k hlt) (Ai (Nb rfl) ?_))
  refine Tp.run [] ?_
  refine Ei (k+1) (Ai (show k+1≤_ by omega) (Ai (show s.players.length - (k+1) < s.players.length - k by omega) ?_))
  refine wk_of [(9000,9000)] rfl rfl ?_ ?_ ?_
  ·repeat' first|refine Ai ?_ ?_|exact rfl|exact trivial|exact Ei _ rfl|refine lN ?_|refine bS ?_|fail
   exact succ_eq k hlt 152 (by decide) hp
  ·repeat' first|refine Ai ?_ ?_|exact rfl|exact trivial|exact Ei _ rfl|refine lN ?_|refine bS ?_|fail
  ·repeat' first|refine Ai ?_ ?_|exact rfl|exact trivial|exact Ei _ rfl|refine lN ?_|refine bS ?_|fail
   exact set_same (map_get _ _ k hlt)
 have hk0:=len_ge h hk
 subst hk0
 clear h hk
 refine Tp.run [17,23,30] ?_
 refine cI (cloneObject_ct _ (map_bound _ _ _ ho)) ⟨rfl,trivial⟩ (.inr rfl) ?_
 refine cI (cloneInt_ct _ (map_bound _ _ _ hb)) ⟨rfl,trivial⟩ (.inr rfl) ?_
 refine cI (cloneInt_ct _ (map_bound _ _ _ hx)) ⟨rfl,trivial⟩ (.inr rfl) ?_
 refine cI (cloneItem_ct _ (map_bound _ _ _ hs)) ⟨rfl,trivial⟩ (.inr rfl) ?_
 refine Tp.loop (fun k:Nat=>⟨[(1,.ptr 0 0),(2,.ptr 128 0),(46,AV.i (s.stack.map GItem.enc).length),(47,AV.i k)],[(0,(((((s.enc.map .t).set 0 (.row 9000 0)).set 1 (.row 9001 0)).set 2 (.row 9002 0)).set 3 (.row 9003 0)).set 4 (.row 9004 0)),(128,List.replicate 19 .bot)],[(9000,plS s),(9001,⟨49,19,0,s.objects.map GObject.enc,none⟩),(9002,⟨3,1,0,s.battlefield.map eI,none⟩),(9003,⟨3,1,0,s.exile.map eI,none⟩),(9004,⟨91,94,0,s.stack.map GItem.enc,none⟩)],20000⟩) (fun k=>k≤s.stack.length) (fun k=>s.stack.length - k) 0 ?_ (Nat.zero_le _) ?_
 ·refine wk_of [(9000,9000),(9001,10384),(9002,11024),(9003,11664),(9004,12304)] rfl rfl ?_ ?_ ?_
  all_goals repeat' first|refine Ai ?_ ?_|exact rfl|exact trivial|exact Ei _ rfl|refine lN ?_|refine bS ?_|fail
 rintro k hk
 refine Tp.run [17] ?_
 refine cS (fun h=>?_) (fun h=>?_)
 ·have hlt:=len_lt h
  have hkl:k < (s.stack.map GItem.enc).length:=by rw [Lm];exact hlt
  obtain ⟨e1,e2,_⟩:=hs2 s.stack[k] (List.getElem_mem hlt)
  refine Ei k (Ai rfl (Ai hkl ?_))
  refine Ei (s.stack[k].enc) (Ei _ (Ai (map_get _ _ k hlt) (Ai rfl ?_)))
  refine cI (copyAbility_ct s.stack[k].ability e1) ⟨fL s.stack[k].ability.enc,trivial⟩ (.inr rfl) ?_
  refine Ei k (Ai rfl (Ai hkl ?_))
  refine Ei (s.stack[k].enc) (Ai (map_get _ _ k hlt) (Ai (Nb rfl) ?_))
  refine Ei k (Ai rfl (Ai (by rw [List.length_set];exact hkl) ?_))
  refine Ei (s.stack[k].enc) (Ei _ (Ai (List.getElem?_set_self hkl) (Ai rfl ?_)))
  refine cI (ct_tree (cloneTarget_ct _ (map_bound _ _ _ e2))) ⟨rfl,trivial⟩ (.inr rfl) ?_
  refine Ei k (Ai rfl (Ai (by rw [List.length_set];exact hkl) ?_))
  refine Ei (s.stack[k].enc) (Ai (List.getElem?_set_self hkl) (Ai (Nb rfl) ?_))
  refine Ei (k+1) (Ai (show k+1≤_ by omega) (Ai (show s.stack.length - (k+1) < s.stack.length - k by omega) ?_))
  refine wk_of [(9000,9000),(9001,9001),(9002,9002),(9003,9003),(9004,9004)] rfl rfl ?_ ?_ ?_
  ·repeat' first|refine Ai ?_ ?_|exact rfl|exact trivial|exact Ei _ rfl|refine lN ?_|refine bS ?_|fail
   exact succ_eq k hlt 824 (by decide) hs
  ·repeat' first|refine Ai ?_ ?_|exact rfl|exact trivial|exact Ei _ rfl|refine lN ?_|refine bS ?_|fail
  ·repeat' first|refine Ai ?_ ?_|exact rfl|exact trivial|exact Ei _ rfl|refine lN ?_|refine bS ?_|fail
   exact set2_same (map_get _ _ k hlt)
 have hk1:=len_ge h hk
 subst hk1
 clear h hk
 refine Tp.run [23,30] ?_
 refine cI (cloneWaiting_ct _ (map_bound _ _ _ hw)) ⟨rfl,trivial⟩ (.inr rfl) ?_
 refine Tp.loop (fun k:Nat=>⟨[(1,.ptr 0 0),(2,.ptr 128 0),(81,AV.i (s.waiting.map GWaiting.enc).length),(82,AV.i k)],[(0,((((((s.enc.map .t).set 0 (.row 9000 0)).set 1 (.row 9001 0)).set 2 (.row 9002 0)).set 3 (.row 9003 0)).set 4 (.row 9004 0)).set 5 (.row 9005 0)),(128,List.replicate 19 .bot)],[(9000,plS s),(9001,⟨49,19,0,s.objects.map GObject.enc,none⟩),(9002,⟨3,1,0,s.battlefield.map eI,none⟩),(9003,⟨3,1,0,s.exile.map eI,none⟩),(9004,⟨91,94,0,s.stack.map GItem.enc,none⟩),(9005,⟨94,89,0,s.waiting.map GWaiting.enc,none⟩)],30000⟩) (fun k=>k≤s.waiting.length) (fun k=>s.waiting.length - k) 0 ?_ (Nat.zero_le _) ?_
 ·refine wk_of [(9000,9000),(9001,9001),(9002,9002),(9003,9003),(9004,9004),(9005,20384)] rfl rfl ?_ ?_ ?_
  all_goals repeat' first|refine Ai ?_ ?_|exact rfl|exact trivial|exact Ei _ rfl|refine lN ?_|refine bS ?_|fail
 rintro k hk
 refine Tp.run [23] ?_
 refine cS (fun h=>?_) (fun h=>?_)
 ·have hlt:=len_lt h
  have hkl:k < (s.waiting.map GWaiting.enc).length:=by rw [Lm];exact hlt
  obtain ⟨e1,_⟩:=hw2 s.waiting[k] (List.getElem_mem hlt)
  refine Ei k (Ai rfl (Ai hkl ?_))
  refine Ei (s.waiting[k].enc) (Ei _ (Ai (map_get _ _ k hlt) (Ai rfl ?_)))
  refine cI (copyAbility_ct s.waiting[k].ability e1) ⟨fL s.waiting[k].ability.enc,trivial⟩ (.inr rfl) ?_
  refine Ei k (Ai rfl (Ai hkl ?_))
  refine Ei (s.waiting[k].enc) (Ai (map_get _ _ k hlt) (Ai (Nb rfl) ?_))
  refine Ei (k+1) (Ai (show k+1≤_ by omega) (Ai (show s.waiting.length - (k+1) < s.waiting.length - k by omega) ?_))
  refine wk_of [(9000,9000),(9001,9001),(9002,9002),(9003,9003),(9004,9004),(9005,9005)] rfl rfl ?_ ?_ ?_
  ·repeat' first|refine Ai ?_ ?_|exact rfl|exact trivial|exact Ei _ rfl|refine lN ?_|refine bS ?_|fail
   exact succ_eq k hlt 768 (by decide) hw
  ·repeat' first|refine Ai ?_ ?_|exact rfl|exact trivial|exact Ei _ rfl|refine lN ?_|refine bS ?_|fail
  ·repeat' first|refine Ai ?_ ?_|exact rfl|exact trivial|exact Ei _ rfl|refine lN ?_|refine bS ?_|fail
   exact set_same (map_get _ _ k hlt)
 have hk2:=len_ge h hk
 subst hk2
 clear h hk
 refine Tp.run [30] ?_
 refine cI (cloneCont_ct _ (map_bound _ _ _ hc)) ⟨rfl,trivial⟩ (.inr rfl) ?_
 refine Tp.loop (fun k:Nat=>⟨[(1,.ptr 0 0),(2,.ptr 128 0),(104,AV.i (s.conts.map GCont.enc).length),(105,AV.i k)],[(0,(((((((s.enc.map .t).set 0 (.row 9000 0)).set 1 (.row 9001 0)).set 2 (.row 9002 0)).set 3 (.row 9003 0)).set 4 (.row 9004 0)).set 5 (.row 9005 0)).set 6 (.row 9006 0)),(128,List.replicate 19 .bot)],[(9000,plS s),(9001,⟨49,19,0,s.objects.map GObject.enc,none⟩),(9002,⟨3,1,0,s.battlefield.map eI,none⟩),(9003,⟨3,1,0,s.exile.map eI,none⟩),(9004,⟨91,94,0,s.stack.map GItem.enc,none⟩),(9005,⟨94,89,0,s.waiting.map GWaiting.enc,none⟩),(9006,⟨96,6,0,s.conts.map GCont.enc,none⟩)],40000⟩) (fun k=>k≤s.conts.length) (fun k=>s.conts.length - k) 0 ?_ (Nat.zero_le _) ?_
 ·refine wk_of [(9000,9000),(9001,9001),(9002,9002),(9003,9003),(9004,9004),(9005,9005),(9006,30384)] rfl rfl ?_ ?_ ?_
  all_goals repeat' first|refine Ai ?_ ?_|exact rfl|exact trivial|exact Ei _ rfl|refine lN ?_|refine bS ?_|fail
 rintro k hk
 refine Tp.run [30] ?_
 refine cS (fun h=>?_) (fun h=>?_)
 ·have hlt:=len_lt h
  have hkl:k < (s.conts.map GCont.enc).length:=by rw [Lm];exact hlt
  obtain ⟨e1,e2,_⟩:=hc2 s.conts[k] (List.getElem_mem hlt)
  refine Ei k (Ai rfl (Ai hkl ?_))
  refine Ei (s.conts[k].enc) (Ei _ (Ai (map_get _ _ k hlt) (Ai rfl ?_)))
  refine cI (ct_tree (cloneInt_ct _ (map_bound _ _ _ e1))) ⟨rfl,trivial⟩ (.inr rfl) ?_
  refine Ei k (Ai rfl (Ai hkl ?_))
  refine Ei (s.conts[k].enc) (Ai (map_get _ _ k hlt) (Ai (Nb rfl) ?_))
  refine Ei k (Ai rfl (Ai (by rw [List.length_set];exact hkl) ?_))
  refine Ei (s.conts[k].enc) (Ei _ (Ai (List.getElem?_set_self hkl) (Ai rfl ?_)))
  refine cI (ct_tree (cloneMod_ct _ (map_bound _ _ _ e2))) ⟨rfl,trivial⟩ (.inr rfl) ?_
  refine Ei k (Ai rfl (Ai (by rw [List.length_set];exact hkl) ?_))
  refine Ei (s.conts[k].enc) (Ai (List.getElem?_set_self hkl) (Ai (Nb rfl) ?_))
  refine Ei (k+1) (Ai (show k+1≤_ by omega) (Ai (show s.conts.length - (k+1) < s.conts.length - k by omega) ?_))
  refine wk_of [(9000,9000),(9001,9001),(9002,9002),(9003,9003),(9004,9004),(9005,9005),(9006,9006)] rfl rfl ?_ ?_ ?_
  ·repeat' first|refine Ai ?_ ?_|exact rfl|exact trivial|exact Ei _ rfl|refine lN ?_|refine bS ?_|fail
   exact succ_eq k hlt 80 (by decide) hc
  ·repeat' first|refine Ai ?_ ?_|exact rfl|exact trivial|exact Ei _ rfl|refine lN ?_|refine bS ?_|fail
  ·repeat' first|refine Ai ?_ ?_|exact rfl|exact trivial|exact Ei _ rfl|refine lN ?_|refine bS ?_|fail
   exact set2_same (map_get _ _ k hlt)
 have hk3:=len_ge h hk
 subst hk3
 clear h hk
 refine Tp.run [] ?_
 refine cI (ct_tree (cloneInt_ct _ (map_bound _ _ _ hxt))) ⟨rfl,trivial⟩ (.inr rfl) ?_
 refine Ei [(0,9000),(1,9001)] (Ai rfl (Ai ?_ ?_))
 all_goals repeat' first|refine Ai ?_ ?_|exact rfl|exact trivial|exact Ei _ rfl|refine lN ?_|refine bS ?_|fail
def rows5 (s:GState):List Row:=[plR s,⟨49,19,0,s.objects.map GObject.enc,none⟩,⟨3,1,0,s.battlefield.map eI,none⟩,⟨3,1,0,s.exile.map eI,none⟩,⟨91,94,0,s.stack.map GItem.enc,none⟩]
def cells5 (s:GState):List Ce:=[.row 0 0,.row 1 0,.row 2 0,.row 3 0,.row 4 0]++(s.enc.drop 5).map .t
theorem list_bf (s:GState) (p:Int):CtM Tryz.prog 122 [.ptr 0 0,.c (.t (iv 0)),.c (.t (iv p))] [cells5 s] (rows5 s) (.ptr 0 2) [cells5 s] (rows5 s) []:=by
 refine ctm_of 5 Tryz.func122 rfl (enters_of Tryz.func122 (by kernel_rfl) rfl) tabOk (by kernel_rfl) rfl rfl rfl rfl rfl fun w0 O _=>Tp.run [6] ?_
 refine Ei [(0,0),(1,1),(2,2),(3,3),(4,4)] (Ai (Ai rfl (Ai ?_ (Ai ?_ ?_))) ?_)
 all_goals repeat' first|refine Ai ?_ ?_|exact rfl|exact trivial|exact Ei _ rfl|refine lN ?_|refine bS ?_|fail
theorem list_hand (s:GState) (p:Nat) (hp:p < s.players.length):CtM Tryz.prog 122 [.ptr 0 0,.c (.t (iv 1)),.c (.t (iv p))] [cells5 s] (rows5 s) (.eptr 0 0 14 p 12) [cells5 s] (rows5 s) []:=by
 refine ctm_of 5 Tryz.func122 rfl (enters_of Tryz.func122 (by kernel_rfl) rfl) tabOk (by kernel_rfl) rfl rfl rfl rfl rfl fun w0 O _=>Tp.run [8] ?_
 refine cond_f (by simp [plR];omega) ?_
 refine Tp.run [] ?_
 refine Ei p (Ai rfl (Ai (show p < (s.players.map GPlayer.enc).length by rw [Lm];exact hp) ?_))
 refine Ei [(0,0),(1,1),(2,2),(3,3),(4,4)] (Ai (Ai rfl (Ai ?_ (Ai ?_ ?_))) ?_)
 all_goals repeat' first|refine Ai ?_ ?_|exact rfl|exact trivial|exact Ei _ rfl|refine lN ?_|refine bS ?_|fail
theorem list_ex (s:GState) (p:Int):CtM Tryz.prog 122 [.ptr 0 0,.c (.t (iv 4)),.c (.t (iv p))] [cells5 s] (rows5 s) (.ptr 0 3) [cells5 s] (rows5 s) []:=by
 refine ctm_of 5 Tryz.func122 rfl (enters_of Tryz.func122 (by kernel_rfl) rfl) tabOk (by kernel_rfl) rfl rfl rfl rfl rfl fun w0 O _=>Tp.run [6] ?_
 refine Ei [(0,0),(1,1),(2,2),(3,3),(4,4)] (Ai (Ai rfl (Ai ?_ (Ai ?_ ?_))) ?_)
 all_goals repeat' first|refine Ai ?_ ?_|exact rfl|exact trivial|exact Ei _ rfl|refine lN ?_|refine bS ?_|fail
theorem list_lib (s:GState) (p:Nat) (hp:p < s.players.length):CtM Tryz.prog 122 [.ptr 0 0,.c (.t (iv 2)),.c (.t (iv p))] [cells5 s] (rows5 s) (.eptr 0 0 14 p 11) [cells5 s] (rows5 s) []:=by
 refine ctm_of 5 Tryz.func122 rfl (enters_of Tryz.func122 (by kernel_rfl) rfl) tabOk (by kernel_rfl) rfl rfl rfl rfl rfl fun w0 O _=>Tp.run [8] ?_
 refine cond_f (by simp [plR];omega) ?_
 refine Tp.run [] ?_
 refine Ei p (Ai rfl (Ai (show p < (s.players.map GPlayer.enc).length by rw [Lm];exact hp) ?_))
 refine Ei [(0,0),(1,1),(2,2),(3,3),(4,4)] (Ai (Ai rfl (Ai ?_ (Ai ?_ ?_))) ?_)
 all_goals repeat' first|refine Ai ?_ ?_|exact rfl|exact trivial|exact Ei _ rfl|refine lN ?_|refine bS ?_|fail
theorem list_grave (s:GState) (p:Nat) (hp:p < s.players.length):CtM Tryz.prog 122 [.ptr 0 0,.c (.t (iv 3)),.c (.t (iv p))] [cells5 s] (rows5 s) (.eptr 0 0 14 p 13) [cells5 s] (rows5 s) []:=by
 refine ctm_of 5 Tryz.func122 rfl (enters_of Tryz.func122 (by kernel_rfl) rfl) tabOk (by kernel_rfl) rfl rfl rfl rfl rfl fun w0 O _=>Tp.run [8] ?_
 refine cond_f (by simp [plR];omega) ?_
 refine Tp.run [] ?_
 refine Ei p (Ai rfl (Ai (show p < (s.players.map GPlayer.enc).length by rw [Lm];exact hp) ?_))
 refine Ei [(0,0),(1,1),(2,2),(3,3),(4,4)] (Ai (Ai rfl (Ai ?_ (Ai ?_ ?_))) ?_)
 all_goals repeat' first|refine Ai ?_ ?_|exact rfl|exact trivial|exact Ei _ rfl|refine lN ?_|refine bS ?_|fail
theorem list_stk (s:GState) (p:Nat) (hp:p < s.players.length):CtM Tryz.prog 122 [.ptr 0 0,.c (.t (iv 5)),.c (.t (iv p))] [cells5 s] (rows5 s) .nilp [cells5 s] (rows5 s) []:=by
 refine ctm_of 5 Tryz.func122 rfl (enters_of Tryz.func122 (by kernel_rfl) rfl) tabOk (by kernel_rfl) rfl rfl rfl rfl rfl fun w0 O _=>Tp.run [8] ?_
 refine cond_f (by simp [plR];omega) ?_
 refine Tp.run [] ?_
 refine Ei p (Ai rfl (Ai (show p < (s.players.map GPlayer.enc).length by rw [Lm];exact hp) ?_))
 refine Ei [(0,0),(1,1),(2,2),(3,3),(4,4)] (Ai (Ai rfl (Ai ?_ (Ai ?_ ?_))) ?_)
 all_goals repeat' first|refine Ai ?_ ?_|exact rfl|exact trivial|exact Ei _ rfl|refine lN ?_|refine bS ?_|fail
theorem placeF_ct (o:GObject) (id:Int):Ct Tryz.prog 163 [.agg (o.enc.map .t),.iptr [iv id] 0] (AV.b (o.id==id)) [] true:=by
 refine Ct.lit (b:=false) ?_ rfl
 refine ct_of Tryz.func163 rfl (enters_of Tryz.func163 (by kernel_rfl) rfl) tabOk (by kernel_rfl) rfl rfl rfl rfl fun w0 O _=>Tp.run [] ?_
 refine Ei [] (Ai rfl (Ai trivial ?_))
 repeat' first|refine Ai ?_ ?_|exact rfl|exact trivial|exact Ei _ rfl|refine lN ?_|refine bS ?_|fail
theorem fits_caps {st:St}:∀ caps:List (List Tr × Nat),Fits st (caps.map fun c=>.iptr c.1 c.2) (caps.map fun c=>.iptr c.1 c.2)
 | []=>trivial
 | _ :: r=>⟨⟨rfl,rfl⟩,fits_caps r⟩
theorem indexO_ct (l:List GObject) (q:GObject→Bool) (f:Nat) (caps:List (List Tr × Nat)) (hq:∀ o:GObject,Ct Tryz.prog f ((.agg (o.enc.map .t)) :: caps.map fun c=>.iptr c.1 c.2) (AV.b (q o)) [] true) (hl:l.length*128≤limB):Ct Tryz.prog 162 [.c (.t (.sl 19 (l.map GObject.enc))),.fnI f caps] (AV.i (fidx q l)) [] true:=by
 refine Ct.lit (b:=false) ?_ rfl
 refine ct_of Tryz.func162 rfl (enters_of Tryz.func162 (by kernel_rfl) rfl) tabOk (by kernel_rfl) rfl rfl rfl rfl fun w0 O _=>Tp.run [] ?_
 refine Tp.loop (fun k:Nat=>⟨[(0,.c (.t (.sl 19 (l.map GObject.enc)))),(1,.fnI f caps),(7,AV.i (l.map GObject.enc).length),(8,AV.i k)],[],[],10000⟩) (fun k=>k≤l.length∧∀ j (h:j < l.length),j < k→q l[j]=false) (fun k=>l.length - k) 0 ?_ ⟨Nat.zero_le _,fun j _ hj=>absurd hj (Nat.not_lt_zero j)⟩ ?_
 ·refine wk_of [] rfl rfl ?_ ?_ ?_
  all_goals repeat' first|refine Ai ?_ ?_|exact rfl|exact trivial|exact Ei _ rfl|refine lN ?_|refine bS ?_|fail
 rintro k ⟨hk,hno⟩
 refine Tp.run [5,6] ?_
 refine cS (fun h=>?_) (fun h=>?_)
 ·have hlt:=len_lt h
  refine Ei k (Ei (l[k].enc) (Ai rfl (Ai (map_get _ _ k hlt) ?_)))
  refine cI (hq l[k]) ⟨fL l[k].enc,fits_caps caps⟩ (.inl rfl) ?_
  refine cS (fun h=>?_) (fun h=>?_)
  ·refine Tp.run [] ?_
   refine Ei [] (Ai rfl (Ai trivial ?_))
   rw [fidx_hit _ _ k hlt h hno]
   exact rfl
  ·refine Tp.run [] ?_
   refine Ei (k+1) (Ai ⟨by omega,fun j hj hjk=>?_⟩ (Ai (show l.length - (k+1) < l.length - k by omega) ?_))
   ·by_cases e:j=k
    ·subst e;exact h
    ·exact hno j hj (by omega)
   refine wk_of [] rfl rfl ?_ ?_ ?_
   ·repeat' first|refine Ai ?_ ?_|exact rfl|exact trivial|exact Ei _ rfl|refine lN ?_|refine bS ?_|fail
    exact succ_eq k hlt 128 (by decide) hl
   all_goals repeat' first|refine Ai ?_ ?_|exact rfl|exact trivial|exact Ei _ rfl|refine lN ?_|refine bS ?_|fail
 ·have hk2:=len_ge h hk
  refine Ei [] (Ai rfl (Ai trivial ?_))
  rw [fidx_miss _ _ (fun j hj=>hno j hj (by omega))]
  exact rfl
theorem placeP_ct (s:GState) (id:Int) (hs:s.objects.length*128≤limB):Ct Tryz.prog 118 [.agg (s.enc.map .t),.c (.t (iv id))] (AV.i (placeM s.objects id)) [] true:=by
 refine Ct.lit (b:=false) ?_ rfl
 refine ct_of Tryz.func118 rfl (enters_of Tryz.func118 (by kernel_rfl) rfl) tabOk (by kernel_rfl) rfl rfl rfl rfl fun w0 O _=>Tp.run [] ?_
 refine cI (indexO_ct s.objects (fun o=>o.id==id) 163 [([iv id],0)] (fun o=>placeF_ct o id) hs) ⟨rfl,⟨rfl,⟨⟨rfl,rfl⟩,trivial⟩⟩,trivial⟩ (.inl rfl) ?_
 refine Ei [] (Ai rfl (Ai trivial ?_))
 repeat' first|refine Ai ?_ ?_|exact rfl|exact trivial|exact Ei _ rfl|refine lN ?_|refine bS ?_|fail
theorem findP_ct (s:GState) (id:Int) (hs:s.objects.length*128≤limB):Ct Tryz.prog 69 [.agg (s.enc.map .t),.c (.t (iv id))] (.tup [.agg ((findM s.objects id).enc.map .t),AV.b (hasM s.objects id)]) [] true:=by
 refine Ct.litT (b:=false) ?_ rfl
 have hp:=placeP_ct s id hs
 unfold placeM at hp
 rcases fidx_cases (fun o:GObject=>o.id==id) s.objects with ⟨e1,_,e2⟩|⟨i,hi,e1,_,e2⟩
 ·rw [e1] at hp
  unfold findM hasM
  rw [e2]
  refine ct_of Tryz.func69 rfl (enters_of Tryz.func69 (by kernel_rfl) rfl) tabOk (by kernel_rfl) rfl rfl rfl rfl fun w0 O _=>Tp.run [] ?_
  refine cI hp ⟨fL s.enc,rfl,trivial⟩ (.inr rfl) ?_
  refine Ei [] (Ai rfl (Ai trivial ?_))
  repeat' first|refine Ai ?_ ?_|exact rfl|exact trivial|exact Ei _ rfl|refine lN ?_|refine bS ?_|fail
 ·revert hp
  generalize fidx (fun o:GObject=>o.id==id) s.objects=v at e1
  intro hp
  unfold findM hasM
  rw [e2]
  refine ct_of Tryz.func69 rfl (enters_of Tryz.func69 (by kernel_rfl) rfl) tabOk (by kernel_rfl) rfl rfl rfl rfl fun w0 O _=>Tp.run [3,4] ?_
  refine cI hp ⟨fL s.enc,rfl,trivial⟩ (.inr rfl) ?_
  refine cS (fun h=>by have:=of_decide_eq_true h;omega) (fun _=>?_)
  subst e1
  refine Tp.run [] ?_
  refine Ei i (Ei (s.objects[i].enc) (Ai rfl (Ai (map_get _ _ i hi) ?_)))
  refine Ei [] (Ai rfl (Ai trivial ?_))
  repeat' first|refine Ai ?_ ?_|exact rfl|exact trivial|exact Ei _ rfl|refine lN ?_|refine bS ?_|fail
theorem own_ctm {P:Program} {f:FuncId} {ty k:Nat} {ars:List AV} {xs xs':List (List Tr)} (he:Ent P f)
  (hr:∀ (n0:Nat) (w:World) (v:Value) (us:List Value) (es:List (Cl k)) (E0:Env),n0≤w.heap.size→w.ownsRow n0 ty k v es.length (es.flatMap Subtype.val)→Ets E0.F w es xs→(∀ g,v.ownBlock=some g→E0.rl g=.rw 0)→A2 (R1 E0 w) us ars→Calls P f (v :: us).toArray w fun e w'=>∃ (v':Value) (es':List (Cl k)),e=.returned v'∧w'.ownsRow n0 ty k v' es'.length (es'.flatMap Subtype.val)∧w.grownBy w' v.ownBlock∧(∀ g,v'.ownBlock=some g→v.ownBlock=some g∨w.heap.size≤g)∧∀ F:Nat→Prop,Ets F w es xs→(∀ b,F b→b < w.heap.size→w'.heap[b]? = w.heap[b]?)→Ets F w' es' xs') :
  CtM P f (.c (.row 0 0) :: ars) [] [⟨ty,k,0,xs,none⟩] (.c (.row 0 1)) [] [⟨ty,k,1,xs',none⟩] []:=by
 refine ⟨he,Nat.zero_le _,fun R hR=>?_,rfl,rfl,fun b hb=>(by cases hb),fun p hp=>?_,fun i cs h=>(by simp at h),fun w0 w vs E0 hb0 ha hbx hrw hrl hlow=>?_⟩
 ·obtain rfl:R=_:=List.mem_singleton.1 hR
  rfl
 ·obtain rfl:p=(0,1):=by simpa [AV.rids,AV.rid1,Ce.rids] using hp
  exact ⟨_,rfl,Nat.le_refl _⟩
 cases ha with
 | cons hv hus=>
  rename_i v us
  obtain ⟨es,h1,h2,h3⟩:=(hrw 0 _ rfl).ow rfl
  have hv0:v=E0.vl 0 0:=hv.1
  simp only at h1 h3
  rw [← hv0] at h1 h3
  refine (hr w0.heap.size w v us es E0 hb0.size h1 h2 h3 hus).mono ?_
  rintro e w' ⟨v',es',rfl,hown,hg,hob,hets⟩
  have hne:∀ b,b < w.heap.size→E0.rl b=.cold∨E0.rl b=.non→w'.heap[b]? = w.heap[b]?:=fun b hlt hc=>hg.block b hlt fun e=>by
   rw [h3 b e.symm] at hc
   rcases hc with h|h <;> cases h
  refine ⟨v',rfl,⟨hg.os.trans hb0.os,hg.tape.trans hb0.tape,hg.output.trans hb0.output,Nat.le_trans hb0.size hg.size,fun b hb=>(hne b (Nat.lt_of_lt_of_le hb hb0.size) (hlow b hb)).trans (hb0.block b hb)⟩,hg.size,⟨fun b=>if b < w.heap.size then E0.rl b else .rw 0,E0.bk,fun j u=>if j=0∧u=1 then v' else E0.vl j u⟩,⟨by simp,own_one hown⟩,fun i hi=>(by simp at hi),fun i cs h=>(by simp at h),fun j R hj=>?_,fun j hj=>?_,fun b hlt hc=>⟨hne b hlt hc,?_⟩⟩
  ·cases j with
   | succ j=>simp at hj
   | zero=>
    obtain rfl:=Option.some.inj hj
    refine Ow.rr rfl ⟨es',by simpa using hown,?_,fun g hg2=>?_⟩
    ·refine (hets (fun b=>E0.rl b=.cold∧b < w.heap.size) (h2.fr (Nat.le_refl _) (fun _ _ _=>rfl) fun b hb hlt=>⟨hb,hlt⟩) (fun b hb hlt=>hne b hlt (.inl hb.1))).fr (Nat.le_refl _) (fun _ _ _=>rfl) fun b hb _=>?_
     show (if b < w.heap.size then E0.rl b else BRole.rw 0)=.cold
     rw [if_pos hb.2]
     exact hb.1
    ·have hg2:v'.ownBlock=some g:=by simpa using hg2
     show (if g < w.heap.size then E0.rl g else BRole.rw 0)=.rw 0
     split
     ·rename_i hlt
      rcases hob g hg2 with h|h
      ·exact h3 g h
      ·omega
     ·rfl
  ·have:j=0:=by simpa using hj
   subst this
   simp
  ·show (if b < w.heap.size then E0.rl b else BRole.rw 0)=E0.rl b
   rw [if_pos hlt]
end Go.Proofs.YtmloamomcbmfhaaGreat
end
section
namespace Go.Proofs.YtmloamomcbmfhaaGreat
open Go Go.RowKit Go.Sort Cg

theorem below_setCell {B:Nat} {w wr:World} (h:Below B w wr) (a:Addr) (ha:B≤a.block) (u:Value):Below B w (wr.setCell a u):=
 ⟨h.os,h.tape,h.output,by have:=h.size;simpa [World.setCell] using this,fun k hk=>(Below.heap_setCell wr a u k (by omega)).trans (h.block k hk)⟩
theorem below_set {B:Nat} {w w':World} (h:Below B w w') (b i:Nat) (u:Value) (hb:B≤b):Below B w (w'.setCell ⟨b,i,none⟩ u):=below_setCell h _ hb _
theorem below_sets {B:Nat} {w:World}:∀ (us:List Value) (i:Nat) (w':World),Below B w w'→∀ b,B≤b→Below B w (w'.setCells b i us)
 | [],_,_,h,_,_=>h
 | _ :: r,i,_,h,b,hb=>below_sets r (i+1) _ (below_set h b i _ hb) b hb
theorem heap_sets (b:Nat):∀ (us:List Value) (o:Nat) (w:World) (k:Nat),k≠b→(w.setCells b o us).heap[k]? = w.heap[k]?
 | [],_,_,_,_=>rfl
 | u :: r,o,w,k,hk=>(heap_sets b r (o+1) _ k hk).trans (Below.heap_setCell w ⟨b,o,none⟩ u k hk)

end Go.Proofs.YtmloamomcbmfhaaGreat
end
section
namespace Cg
open Go Go.RowKit Go.Sort Go.Lib
abbrev BlkC (k:Nat) (t:TypeId) (w:World) (g:Nat) (es:List (Cl k)):=BlkK k Subtype.val t w g es
end Cg
end
section
namespace Go.Proofs.YtmloamomcbmfhaaGreat
open Go Go.RowKit Go.Sort Cg
theorem own_form {w:World} {B e k n:Nat} {v:Value} {xs:List Value} (h:w.ownsRow B e k v n xs):(∃ cap,v=.slice none n cap∧n=0)∨∃ g cap,v=.slice (some ⟨g,0,none⟩) n cap:=by
 rcases h.2 with ⟨rfl,rfl⟩|⟨g,cap,cur,rfl,_⟩
 ·exact .inl ⟨0,rfl,rfl⟩
 ·exact .inr ⟨g,cap,rfl⟩
theorem own_sl {w:World} {B e k n:Nat} {v:Value} {xs:List Value} (h:w.ownsRow B e k v n xs):∃ ao m c,v=.slice ao m c:=by
 rcases h.2 with ⟨rfl,_⟩|⟨g,cap,cur,rfl,_⟩
 ·exact ⟨_,_,_,rfl⟩
 ·exact ⟨_,_,_,rfl⟩
theorem own_blkC {k:Nat} {w:World} {base e g n cap:Nat} {es:List (Cl k)} (h:w.ownsRow base e k (.slice (some ⟨g,0,none⟩) n cap) n (es.flatMap Subtype.val)) (hn:es.length=n):BlkC k e w g es:=by
 rcases h.2 with ⟨hv,_⟩|⟨g',cap',cur,hv,_,hg,hc,_,hs,ht⟩
 ·cases hv
 ·cases hv
  refine ⟨cur,hg,by rw [hs,hn];exact Nat.mul_le_mul_right k hc,fun j x hj i u hu=>?_⟩
  have hi:=(List.getElem?_eq_some_iff.1 hu).1
  rw [Cl.len x] at hi
  have hjl:=(List.getElem?_eq_some_iff.1 hj).1
  have hjk:j*k+i < n*k:=by
   have:(j+1)*k≤n*k:=Nat.mul_le_mul_right k (by omega)
   rw [Nat.add_mul] at this
   omega
  have:=flat_get (enc:=Subtype.val) Cl.len es j x hj i hi
  rw [← ht,List.getElem?_take,if_pos hjk,hu] at this
  rw [← Array.getElem?_toList]
  exact this
theorem sets_size (b:Nat):∀ (us:List Value) (o:Nat) (w:World),(w.setCells b o us).heap.size=w.heap.size
 | [],_,_=>rfl
 | u :: r,o,w=>by rw [World.setCells,sets_size b r];simp [World.setCell]
def HdC (B:Nat) (t:TypeId) (k:Nat) (w:World) (g cap:Nat):Prop:=B≤g∧cap≤maxLen∧∃ cur,w.heap[g]? = some (.cells cur t (0,0))∧cur.size=cap*k
theorem HdC.set {B:Nat} {t:TypeId} {k:Nat} {w:World} {g cap:Nat} (h:HdC B t k w g cap) (o:Nat) (u:Value):HdC B t k (w.setCell ⟨g,o,none⟩ u) g cap:=by
 obtain ⟨h1,h2,cur,h3,h4⟩:=h
 refine ⟨h1,h2,cur.setIfInBounds o u,?_,by rw [Array.size_setIfInBounds];exact h4⟩
 simp only [World.setCell,Array.getElem?_modify]
 simp [h3]
theorem HdC.sets {B:Nat} {t:TypeId} {k g cap:Nat}:∀ (us:List Value) (o:Nat) (w:World),HdC B t k w g cap→HdC B t k (w.setCells g o us) g cap
 | [],_,_,h=>h
 | u :: r,o,_,h=>HdC.sets r (o+1) _ (h.set o u)
theorem hdC_of {B:Nat} {t:TypeId} {k n g cap:Nat} {w:World} {xs:List Value} (h:w.ownsRow B t k (.slice (some ⟨g,0,none⟩) n cap) n xs):HdC B t k w g cap:=by
 rcases h.2 with ⟨hv,_⟩|⟨g',cap',cur,hv,hB,hg,hc,hm,hs,ht⟩
 ·cases hv
 ·simp only [Value.slice.injEq,Option.some.injEq,Addr.mk.injEq] at hv
  obtain ⟨⟨rfl,_⟩,_,rfl⟩:=hv
  exact ⟨hB,hm,cur,hg,hs⟩
theorem own_of {B:Nat} {t:TypeId} {k g cap:Nat} {w:World} {es:List (Cl k)} (h:BlkC k t w g es) (hh:HdC B t k w g cap) (hc:es.length≤cap):w.ownsRow B t k (.slice (some ⟨g,0,none⟩) es.length cap) es.length (es.flatMap Subtype.val):=by
 obtain ⟨h1,h2,cur,h3,h4⟩:=hh
 obtain ⟨cur',h5,h6,h7⟩:=h
 rw [h3] at h5
 obtain rfl:cur=cur':=by simpa using h5
 refine ⟨flat_len Cl.len es,.inr ⟨g,cap,cur,rfl,h1,h3,hc,h2,h4,?_⟩⟩
 apply List.ext_getElem?
 intro i
 rw [List.getElem?_take]
 by_cases hi:i < es.length*k
 ·rw [if_pos hi]
  have hk:0 < k:=Nat.pos_of_ne_zero (fun e=>by have h0:es.length*k=0:=Nat.mul_eq_zero.2 (.inr e);omega)
  have hq:i / k < es.length:=Nat.div_lt_of_lt_mul (by rw [Nat.mul_comm];exact hi)
  have hm:i % k < k:=Nat.mod_lt _ hk
  have hij:i=i / k*k+i % k:=by rw [Nat.mul_comm];exact (Nat.div_add_mod i k).symm
  have hg:=flat_get (enc:=Subtype.val) Cl.len es (i / k) _ (List.getElem?_eq_getElem hq) (i % k) hm
  have hu:(es[i / k].1)[i % k]? = some ((es[i / k].1)[i % k]'(by rw [Cl.len];exact hm)):=List.getElem?_eq_getElem _
  have:=h7 (i / k) _ (List.getElem?_eq_getElem hq) (i % k) _ hu
  rw [← hij] at this hg
  rw [hg,hu,← this,Array.getElem?_toList]
 ·rw [if_neg hi,List.getElem?_eq_none (by rw [flat_len Cl.len];omega)]
theorem own_cap {w:World} {B e k n m c:Nat} {ao:Option Addr} {xs:List Value} (h:w.ownsRow B e k (.slice ao m c) n xs):m=n∧n≤c∧(ao=none→c=0)∧∀ g,ao=some g→g.off=0∧g.spot=none:=by
 rcases h.2 with ⟨hv,hn⟩|⟨g,cap,cur,hv,_,_,hc,_⟩
 ·simp only [Value.slice.injEq] at hv
  obtain ⟨rfl,rfl,rfl⟩:=hv
  exact ⟨hn.symm,by omega,fun _=>rfl,fun g hg=>by cases hg⟩
 ·simp only [Value.slice.injEq] at hv
  obtain ⟨rfl,rfl,rfl⟩:=hv
  exact ⟨rfl,hc,(fun h=>by cases h),(fun g hg=>by cases hg;exact ⟨rfl,rfl⟩)⟩
theorem setCells_arr {t:TypeId} {g:Nat}:∀ (vs:List Value) (o:Nat) (w:World) (cur:Array Value),w.heap[g]? = some (.cells cur t (0,0))→o+vs.length≤cur.size→
  ∃ cur',(w.setCells g o vs).heap[g]? = some (.cells cur' t (0,0))∧cur'.size=cur.size∧∀ m,cur'[m]? = if o≤m∧m < o+vs.length then vs[m - o]? else cur[m]?
 | [],o,w,cur,hg,_=>⟨cur,hg,rfl,fun m=>by rw [if_neg (by simp)]⟩
 | v :: vs,o,w,cur,hg,hl=>by
  rw [List.length_cons] at hl
  have hg2:(w.setCell ⟨g,o,none⟩ v).heap[g]? = some (.cells (cur.setIfInBounds o v) t (0,0)):=by
   simp only [World.setCell,Array.getElem?_modify]
   simp [hg]
  obtain ⟨cur',h1,h2,h3⟩:=setCells_arr vs (o+1) _ _ hg2 (by rw [Array.size_setIfInBounds];omega)
  refine ⟨cur',h1,by rw [h2,Array.size_setIfInBounds],fun m=>?_⟩
  rw [h3 m,List.length_cons]
  by_cases hm:m=o
  ·subst hm
   rw [if_neg (by omega),if_pos (by omega),Nat.sub_self,Array.getElem?_setIfInBounds,if_pos rfl,if_pos (by omega)]
   simp
  ·by_cases hr:o+1≤m∧m < o+1+vs.length
   ·rw [if_pos hr,if_pos (by omega),show m - o=m - (o+1)+1 by omega,List.getElem?_cons_succ]
   ·rw [if_neg hr,if_neg (by omega),Array.getElem?_setIfInBounds,if_neg (fun e=>hm e.symm)]
theorem BlkC.write {k:Nat} {t:TypeId} {B g cap:Nat} {w:World} {es:List (Cl k)} (h:BlkC k t w g es) (hd:HdC B t k w g cap) (j:Nat) (ys:List (Cl k)) (hj:j≤es.length) (hc:j+ys.length≤cap) :
  BlkC k t (w.setCells g (j*k) (ys.flatMap Subtype.val)) g (es.take j++ys++es.drop (j+ys.length))∧HdC B t k (w.setCells g (j*k) (ys.flatMap Subtype.val)) g cap:=by
 refine ⟨?_,hd.sets _ _ _⟩
 obtain ⟨cur,hg,hl,hcell⟩:=h
 obtain ⟨_,_,cur0,hg0,hs0⟩:=hd
 rw [hg] at hg0
 obtain rfl:cur=cur0:=by simpa using hg0
 have hyl:=flat_len (enc:=Subtype.val) Cl.len ys
 have hle:j*k+ys.length*k≤cap*k:=by rw [← Nat.add_mul];exact Nat.mul_le_mul_right k hc
 obtain ⟨cur',h1,h2,h3⟩:=setCells_arr (t:=t) (g:=g) (ys.flatMap Subtype.val) (j*k) w cur hg (by rw [hyl,hs0];exact hle)
 refine ⟨cur',h1,?_,fun q x hq i u hu=>?_⟩
 ·rw [h2]
  simp only [List.length_append,List.length_take,List.length_drop]
  by_cases hx:j+ys.length≤es.length
  ·rw [show min j es.length+ys.length+(es.length - (j+ys.length))=es.length by omega];exact hl
  ·rw [show min j es.length+ys.length+(es.length - (j+ys.length))=j+ys.length by omega,Nat.add_mul,hs0];exact hle
 ·have hik:i < k:=by have:=(List.getElem?_eq_some_iff.1 hu).1;rwa [Cl.len] at this
  have htl:(es.take j).length=j:=by rw [List.length_take];omega
  rw [h3,hyl]
  rcases Nat.lt_trichotomy q j with hlt|heq|hgt
  ·have:q*k+k≤j*k:=by rw [← Nat.succ_mul];exact Nat.mul_le_mul_right k hlt
   rw [if_neg (by omega)]
   rw [List.append_assoc,List.getElem?_append_left (by omega),List.getElem?_take,if_pos hlt] at hq
   exact hcell q x hq i u hu
  ·subst heq
   rw [List.append_assoc,List.getElem?_append_right (by omega),htl,Nat.sub_self] at hq
   by_cases hy0:0 < ys.length
   ·rw [List.getElem?_append_left hy0] at hq
    have hk1:k≤ys.length*k:=Nat.le_mul_of_pos_left k hy0
    rw [if_pos (by omega),show q*k+i - q*k=0*k+i by omega]
    exact (flat_get Cl.len ys 0 x hq i hik).trans hu
   ·have hy:ys=[]:=List.eq_nil_of_length_eq_zero (by omega)
    subst hy
    rw [if_neg (by simp)]
    simp only [List.nil_append,List.length_nil,Nat.add_zero,List.getElem?_drop] at hq
    exact hcell q x hq i u hu
  ·rw [List.append_assoc,List.getElem?_append_right (by omega),htl] at hq
   by_cases hy:q - j < ys.length
   ·rw [List.getElem?_append_left hy] at hq
    have e1:j*k+(q - j)*k=q*k:=by rw [← Nat.add_mul];congr 1;omega
    have e2:(q - j)*k+k≤ys.length*k:=by rw [← Nat.succ_mul];exact Nat.mul_le_mul_right k hy
    rw [if_pos (by omega),show q*k+i - j*k=(q - j)*k+i by omega]
    exact (flat_get Cl.len ys (q - j) x hq i hik).trans hu
   ·rw [List.getElem?_append_right (by omega),List.getElem?_drop,show j+ys.length+(q - j - ys.length)=q by omega] at hq
    have e1:(j+ys.length)*k≤q*k:=Nat.mul_le_mul_right k (by omega)
    rw [Nat.add_mul] at e1
    rw [if_neg (by omega)]
    exact hcell q x hq i u hu
theorem BlkC.take {k:Nat} {t:TypeId} {g:Nat} {w:World} {es:List (Cl k)} (h:BlkC k t w g es) (n:Nat):BlkC k t w g (es.take n):=by
 obtain ⟨cur,hg,hl,hcell⟩:=h
 refine ⟨cur,hg,Nat.le_trans (Nat.mul_le_mul_right k (by rw [List.length_take];exact Nat.min_le_right _ _)) hl,fun j x hj=>?_⟩
 rw [List.getElem?_take] at hj
 split at hj
 ·exact hcell j x hj
 ·cases hj
theorem run_copy_cellsK {P:Program} (w:World) (dT sT ty elem:TypeId) (k b o dLen dCap:Nat) (a:Addr) (sLen sCap:Nat) (cs:List Value)
  (hu:P.underlying dT=some (.slice elem)) (hs:(P.info? elem).map (·.size)=some k) (hn:cs.length=Nat.min sLen dLen*k)
  (hsrc:∀ j v,cs[j]? = some v→w.cell? (a.add j)=some v) (hc:∀ j,j < cs.length→(w.cell? ⟨b,o+j,none⟩).isSome=true) (hf:∀ j,j < cs.length→w.frozen? ⟨b,o+j,none⟩=false) (h1:∀ v∈cs,v.oneCell'=true) :
  (Builtin.copy_ #[dT,sT] ty #[.slice (some ⟨b,o,none⟩) dLen dCap,.slice (some a) sLen sCap]).run P w=.ok (goInt (Nat.min sLen dLen)) (w.setCells b o cs):=by
 have hl:=run_loadCells_list (P:=P) w a cs hsrc
 have hst:=run_storeCells_cells (P:=P) b o cs 0 w (by simpa using hc) (by simpa using hf) h1
 cases hq:P.info? elem with
 | none=>simp [hq] at hs
 | some i=>
  have hi:i.size=k:=by simpa [hq] using hs
  simp [Builtin.copy_,run_underlying hu,Builtin.lenOf,Builtin.firstCells,sizeOf,typeInfo,hq,hi,← hn,hl,hst]
theorem run_append_own2 {P:Program} (w:World) (base:Nat) (t ty e:TypeId) {z:Value} {k bytes:Nat} (hE:ElemIs P t e z k bytes)
  (v:Value) (n:Nat) (xs:List Value) (hown:w.ownsRow base e k v n xs)
  (a:Addr) (m c:Nat) (news:List Value) (hl:news.length=m*k) (hnews:∀ j u,news[j]? = some u→w.cell? (a.add j)=some u) (h1:∀ u∈news,u.oneCell'=true)
  (h63:n+m≤maxLen) (hbytes:(n+m)*bytes≤140737488355328) (hbase:base≤w.heap.size) (hm:0 < m) :
  ∃ v' w',(Builtin.append_ #[t,t] ty #[v,.slice (some a) m c]).run P w=.ok v' w'∧w'.ownsRow base e k v' (n+m) (xs++news)∧w.grownBy w' v.ownBlock∧(v'.ownBlock=v.ownBlock∨v'.ownBlock=some w.heap.size):=by
 obtain ⟨ht,hzs,hsz,i,hi,hz,hsize,hby⟩:=hE
 obtain ⟨v',w',hr,h2,h3,_⟩:=run_append_own (P:=P) w base t ty e i z k bytes ht hi hz hsize hby hzs hsz v n xs hown a m c news hl hnews h1 h63 hbytes hbase
 refine ⟨v',w',hr,h2,h3,?_⟩
 have hsmall:n+m≤9223372036854775807:=by simp only [maxLen] at h63;omega
 subst hsize
 subst hby
 rcases hown.2 with ⟨rfl,rfl⟩|⟨g,cap,cur,rfl,hbg,hg,hnc,hcm,hcs,htake⟩
 ·have hq:=run_append_nil (P:=P) w t ty e i z ht hi hz a m c news hl hnews (by omega) (by omega) (by have hb:=hbytes;simp only [Nat.zero_add] at hb;omega)
  rw [hq] at hr
  cases hr
  exact .inr rfl
 ·by_cases hroom:n+m≤cap
  ·have hfit:n*i.size+news.length≤cur.size:=by rw [hl,hcs,← Nat.add_mul];exact Nat.mul_le_mul_right _ hroom
   have hq:=run_append_room (P:=P) w t ty e i ht hi g n cap cur hg a m c news hl hnews h1 hroom hfit
   rw [hq] at hr
   cases hr
   exact .inl rfl
  ·have holds:∀ j u,xs[j]? = some u→w.cell? ((⟨g,0,none⟩:Addr).add j)=some u:=hown.cells (g:=g) rfl
   have hq:=run_append_grow (P:=P) w t ty e i z ht hi hz ⟨g,0,none⟩ n cap xs hown.1 holds a m c news hl hnews (by omega) (by omega) (growslice_fits (by omega) hbytes)
   rw [hq] at hr
   cases hr
   exact .inr rfl
theorem wpList_append_own2 {P:Program} {w:World} {ops:Array Oper} {rest:List Oper} {o:Oper} {a:Act} {Q:Exit→Act→World→Prop} (hgd:o.guard=none) (s x:Operand) (t:TypeId)
  (ho:o.op=.call { callee:=.builtin .append,args:=#[s,x],argTypes:=#[t,t] })
  (base:Nat) {e:TypeId} {z:Value} {k bytes:Nat} (hE:ElemIs P t e z k bytes)
  (v:Value) (n:Nat) (xs:List Value) (hs:a.eval s=v) (hown:w.ownsRow base e k v n xs)
  (ad:Addr) (m c:Nat) (news:List Value) (hx:a.eval x=.slice (some ad) m c) (hl:news.length=m*k) (hnews:∀ j u,news[j]? = some u→w.cell? (ad.add j)=some u) (h1:∀ u∈news,u.oneCell'=true)
  (h63:n+m≤maxLen) (hbytes:(n+m)*bytes≤140737488355328) (hbase:base≤w.heap.size) (hm:0 < m)
  (h:∀ v' w',w'.ownsRow base e k v' (n+m) (xs++news)→w.grownBy w' v.ownBlock→(v'.ownBlock=v.ownBlock∨v'.ownBlock=some w.heap.size)→wpList P ops Q rest (a.put o.dst v') w') :
  wpList P ops Q (o :: rest) a w:=by
 refine wpList_plain hgd fun K hK=>?_
 obtain ⟨v',w',hr,h2,h3,h4⟩:=run_append_own2 w base t o.type e hE v n xs hown ad m c news hl hnews h1 h63 hbytes hbase hm
 exact Lib.wp_append_run w s x t t ho v _ hs hx v' w' hr (hK _ _ (h v' w' h2 h3 h4))
end Go.Proofs.YtmloamomcbmfhaaGreat
end
section
namespace Go.Proofs.YtmloamomcbmfhaaGreat
open Go Go.RowKit Go.Sort Go.Shelf Cg
theorem run_clear_K {P:Program} (w:World) (t e ty:TypeId) (z:Value) (ht:P.underlying t=some (.slice e)) (hv:∀ w,(zeroValue e).run P w=.ok z w) (n:Nat) (hn0:n≠0) (vs:List Value) (hz:(Builtin.zeroCells z.cells n).toList=vs) (h1:∀ u∈vs,u.oneCell'=true) (b o c:Nat)
  (hc:∀ j,j < vs.length→(w.cell? ⟨b,o+j,none⟩).isSome=true) (hf:∀ j,j < vs.length→w.frozen? ⟨b,o+j,none⟩=false) :
  (Builtin.clear_ #[t] ty #[.slice (some ⟨b,o,none⟩) n c]).run P w=.ok (.tuple #[]) (w.setCells b o vs):=by
 have hst:=run_storeCells_cells (P:=P) b o vs 0 w (by simpa using hc) (by simpa using hf) h1
 simp only [Nat.add_zero] at hst
 simp [Builtin.clear_,run_underlying ht,hn0,hv,hz,hst]
def zObj:Value:=.agg #[.int .i64 0,.int .i64 0,.int .i64 0,.int .i64 0,.int .i64 0,.bool false,.bool false,.bool false,.bool false,.int .i64 0,.int .i64 0,.int .i64 0,.int .i64 0,.int .i64 0,.int .i64 0,.int .i64 0,.bool false,.int .i64 0,.int .i64 0]
def zObjC:Cl 19:=⟨[.int .i64 0,.int .i64 0,.int .i64 0,.int .i64 0,.int .i64 0,.bool false,.bool false,.bool false,.bool false,.int .i64 0,.int .i64 0,.int .i64 0,.int .i64 0,.int .i64 0,.int .i64 0,.int .i64 0,.bool false,.int .i64 0,.int .i64 0],by decide,by decide⟩
theorem zObj_cells:(Builtin.zeroCells zObj.cells 1).toList=zObjC.1:=by kernel_rfl
theorem delete_obj (base g m c i:Nat) (es:List (Cl 19)) (w:World) (hb:BlkC 19 49 w g es) (hh:HdC base 49 19 w g c) (hm:es.length=m) (hi:i < m) (hc:m≤c) :
  Calls Tryz.prog 164 #[.slice (some ⟨g,0,none⟩) m c,.int .i64 i,.int .i64 ((i+1:Nat):Int)] w fun e w'=>e=.returned (.slice (some ⟨g,0,none⟩) (m - 1) c)∧w'.ownsRow base 49 19 (.slice (some ⟨g,0,none⟩) (m - 1) c) (m - 1) ((es.take i++es.drop (i+1)).flatMap Subtype.val)∧w.grownBy w' (some g):=by
 obtain ⟨z,e1,e2,e3,ii,hi0,hz0,hs0,hby0⟩:=elemObject
 have hd:(es.drop (i+1)).length=m - (i+1):=by rw [List.length_drop,hm]
 obtain ⟨W1,hW1⟩:∃ W1,W1=w.drew.setCells g (i*19) ((es.drop (i+1)).flatMap Subtype.val):=⟨_,rfl⟩
 obtain ⟨b1,d1⟩:=BlkC.write (w:=w.drew) hb hh i (es.drop (i+1)) (by omega) (by rw [hd];omega)
 rw [← hW1] at b1 d1
 obtain ⟨es1,hes1⟩:∃ es1,es1=es.take i++es.drop (i+1)++es.drop (i+(es.drop (i+1)).length):=⟨_,rfl⟩
 rw [← hes1] at b1
 have hl1:es1.length=m:=by
  rw [hes1]
  simp only [List.length_append,List.length_take,List.length_drop,hm]
  omega
 have htk:es1.take (m - 1)=es.take i++es.drop (i+1):=by
  have hlen:(es.take i++es.drop (i+1)).length=m - 1:=by rw [List.length_append,List.length_take,hd];omega
  rw [hes1,← hlen]
  exact List.take_left
 have s1:=Lib.hid (show ((es.drop (i+1)).flatMap Subtype.val).length=(m - (i+1))*19 by rw [flat_len Cl.len,hd])
 have s2:=Lib.hid (show ∀ u∈(es.drop (i+1)).flatMap Subtype.val,u.oneCell'=true from fun u hu=>by
  obtain ⟨y,_,hy⟩:=List.mem_flatMap.1 hu
  exact Cl.one y u hy)
 have cell:∀ (j:Nat),j < m*19→∃ u,w.cell? ⟨g,j,none⟩=some u:=fun j hj=>by
  have hq:j / 19 < es.length:=by omega
  have h8:j % 19 < es[j / 19].1.length:=by rw [Cl.len];omega
  have:=hb.cell _ _ (List.getElem?_eq_getElem hq) (j % 19) _ (List.getElem?_eq_getElem h8)
  rw [show j / 19*19+j % 19=j by omega] at this
  exact ⟨_,this⟩
 have s3:=Lib.hid (show ∀ t,t < ((es.drop (i+1)).flatMap Subtype.val).length→(w.drew.cell? ⟨g,0+i*19+t,none⟩).isSome=true∧w.drew.frozen? ⟨g,0+i*19+t,none⟩=false from fun t ht=>by
  rw [s1.out] at ht
  obtain ⟨u,hu⟩:=cell (0+i*19+t) (by omega)
  refine ⟨?_,hb.frozen _⟩
  show (w.cell? _).isSome=true
  rw [hu]
  rfl)
 obtain ⟨A,hA,hsrc⟩:∃ A:Addr,(if c=i+1 then some (⟨g,0,none⟩:Addr) else some ⟨g,(i+1)*19,none⟩)=some A∧Hid (∀ t u,((es.drop (i+1)).flatMap Subtype.val)[t]? = some u→w.drew.cell? (A.add t)=some u):=by
  by_cases h:c=i+1
  ·refine ⟨⟨g,0,none⟩,by simp [h],Lib.hid fun t u hu=>?_⟩
   have h0:((es.drop (i+1)).flatMap Subtype.val)=[]:=List.eq_nil_of_length_eq_zero (by rw [s1.out];omega)
   rw [h0] at hu
   simp at hu
  ·refine ⟨⟨g,(i+1)*19,none⟩,by simp [h],Lib.hid fun t u hu=>?_⟩
   rw [Addr.add_lit]
   have ht:=(List.getElem?_eq_some_iff.1 hu).1
   rw [s1.out] at ht
   have hq:t / 19 < (es.drop (i+1)).length:=by rw [hd];omega
   have hgg:=flat_get (enc:=Subtype.val) Cl.len (es.drop (i+1)) (t / 19) _ (List.getElem?_eq_getElem hq) (t % 19) (Nat.mod_lt _ (by omega))
   rw [show t / 19*19+t % 19=t by omega,hu] at hgg
   rw [List.getElem_drop] at hgg
   have:=hb.cell (i+1+t / 19) _ (List.getElem?_eq_getElem (by omega)) (t % 19) u hgg.symm
   rw [show (i+1+t / 19)*19+t % 19=(i+1)*19+t by omega] at this
   exact this
 have hcl:=Lib.hid (show ∀ ty cc,(Builtin.clear_ #[24] ty #[.slice (some ⟨g,(m - 1)*19,none⟩) 1 cc]).run Tryz.prog W1=.ok (.tuple #[]) (W1.setCells g ((m - 1)*19) zObjC.1) from fun ty cc=>
  run_clear_K W1 _ _ ty zObj Tryz.underlying24 (fun w=>by kernel_rfl) 1 (by decide) _ zObj_cells zObjC.one g ((m - 1)*19) cc (fun t ht=>by
    rw [Cl.len] at ht
    have hlt:m - 1 < es1.length:=by rw [hl1];omega
    have h8:t < es1[m - 1].1.length:=by rw [Cl.len];omega
    have:=b1.cell _ _ (List.getElem?_eq_getElem hlt) t _ (List.getElem?_eq_getElem h8)
    rw [this]
    rfl) (fun t _=>b1.frozen _))
 have HF:=Lib.hid (show (W1.setCells g ((m - 1)*19) zObjC.1).ownsRow base 49 19 (.slice (some ⟨g,0,none⟩) (m - 1) c) (m - 1) ((es.take i++es.drop (i+1)).flatMap Subtype.val) by
  have b2:=BlkK.setCells (enc:=Subtype.val) Cl.len b1 (m - 1) (by rw [hl1];omega) zObjC
  have b3:=BlkC.take b2 (m - 1)
  rw [List.take_set_of_le (Nat.le_refl _),htk] at b3
  have hlen:(es.take i++es.drop (i+1)).length=m - 1:=by rw [List.length_append,List.length_take,hd];omega
  have:=own_of b3 (d1.sets zObjC.1 _ _) (by rw [hlen];omega)
  rw [hlen] at this
  exact this)
 have HG:=Lib.hid (show w.grownBy (W1.setCells g ((m - 1)*19) zObjC.1) (some g) by
  have key:∀ (vs:List Value) (oo:Nat) (w':World),w.grownBy w' (some g)→w.grownBy (w'.setCells g oo vs) (some g):=by
   intro vs
   induction vs with
   | nil=>intro oo w' h;exact h
   | cons v r ih=>intro oo w' h;exact ih (oo+1) _ ⟨h.os,h.tape,h.output,by have:=h.size;simpa [World.setCell] using this,fun k hk hr=>(Below.heap_setCell _ _ _ _ (fun e=>hr (by rw [e]))).trans (h.block k hk hr)⟩
  rw [hW1]
  exact key _ _ _ (key _ _ _ ⟨rfl,rfl,rfl,Nat.le_refl _,fun _ _ _=>rfl⟩))
 have EI:=Lib.hid (show _∧_∧_ from ⟨e1,hi0,hs0⟩)
 have HW1:=Lib.hid (show w.drew.setCells g (0+i*19) ((es.drop (i+1)).flatMap Subtype.val)=W1 by rw [hW1,Nat.zero_add])
 clear b1 d1 hl1 htk cell hb hh hd hW1 e1 e2 e3 hi0 hz0 hs0 hby0 hes1
 generalize hj:i+1=j at *
 have HJ:=Lib.hid hj
 have hne:((i:Int)==(j:Int))=false:=beq_eq_false_iff_ne.2 (by omega)
 have hij:i≤j:=by omega
 have hjm:j≤m:=by omega
 have him:i≤m:=by omega
 have hic:i≤c:=by omega
 have hjc:j≤c:=by omega
 have hij2:=Lib.hid (show i+(m - j)=m - 1 by omega)
 have hcl2:∀ ty,(Builtin.clear_ #[24] ty #[.slice (some ⟨g,(i+(m - j))*19,none⟩) (m - (i+(m - j))) (c - (i+(m - j)))]).run Tryz.prog W1=.ok (.tuple #[]) (W1.setCells g ((m - 1)*19) zObjC.1):=fun ty=>by
  rw [hij2.out,show m - (m - 1)=1 by omega]
  exact hcl.out ty _
 have hcq:¬ c=i+(m - j):=by omega
 clear hj hcl
 go_enter Tryz.func164,Tryz.ntmps164
 go_wp2_with fail
 go_region_law (refine step_append_room rfl (.tmp 22) (.tmp 25) 24 rfl 49 ii 19 EI.out.1 EI.out.2.1 EI.out.2.2 g 0 i c (by simp [Act.eval,Act.put]) A (m - j) (c - j) _ (by simp [Act.eval,Act.put]) s1.out hsrc.out s2.out (by have:=HJ.out;omega) s3.out ?_;rw [HW1.out])
 simp only [List.getElem_toArray,List.getElem_cons_succ,List.getElem_cons_zero,Act.put,List.setIfInBounds_toArray,List.set_cons_zero]
 go_wp2
 go_ret
 exact ⟨by rw [hij2.out] <;> rfl,HF.out,HG.out⟩
end Go.Proofs.YtmloamomcbmfhaaGreat
end
section
namespace Go.Proofs.YtmloamomcbmfhaaGreat
open Go Cg Go.RowKit Go.Sort
theorem blk_of {B t k n g cap:Nat} {w:World} {es:List (Cl k)} (h:w.ownsRow B t k (.slice (some ⟨g,0,none⟩) n cap) es.length (es.flatMap Subtype.val)) (hn:0 < es.length):BlkC k t w g es∧n=es.length∧es.length≤cap:=by
 obtain ⟨x,hx⟩:∃ x,es[0]? = some x:=⟨_,List.getElem?_eq_getElem hn⟩
 obtain ⟨g',cap',cur,e1,_,h2,h3,_,h4,h5,_⟩:=own_at h hx
 cases e1
 refine ⟨⟨cur,h2,by rw [h4];exact Nat.mul_le_mul_right _ h3,fun j x hx i u hu=>?_⟩,rfl,h3⟩
 have hi:i < k:=by have:=(List.getElem?_eq_some_iff.1 hu).1;rwa [Cl.len] at this
 have:=flat_get (enc:=Subtype.val) Cl.len es j x hx i hi
 rw [← h5,List.getElem?_take] at this
 split at this
 ·rw [← Array.getElem?_toList,this]
  exact hu
 ·rw [hu] at this
  cases this
theorem deleteO_ctm (l:List GObject) (i:Nat) (hi:i < l.length):CtM Tryz.prog 164 [.c (.row 0 0),.c (.t (iv i)),.c (.t (iv ((i+1:Nat):Int)))] [] [⟨49,19,0,l.map GObject.enc,none⟩] (.c (.row 0 1)) [] [⟨49,19,1,(l.map GObject.enc).take i++(l.map GObject.enc).drop (i+1),none⟩] []:=by
 refine own_ctm (enters_of Tryz.func164 (by kernel_rfl) rfl) fun n0 w v us es E0 hn h1 h2 h3 hus=>?_
 have hlen:es.length=l.length:=by rw [h2.len,Lm]
 cases hus with
 | cons q1 hus=>
  cases hus with
  | cons q2 hus=>
   cases hus
   rename_i u1 u2
   have q1:RT E0.F w u1 (.lit (.int .i64 i)):=q1
   have q2:RT E0.F w u2 (.lit (.int .i64 ((i+1:Nat):Int))):=q2
   cases q1
   cases q2
   obtain ⟨g,cap,cur,rfl,_⟩:=own_at h1 (List.getElem?_eq_getElem (i:=i) (by omega))
   obtain ⟨b1,_,b3⟩:=blk_of h1 (by omega)
   refine (delete_obj n0 g es.length cap i es w b1 (hdC_of h1) rfl (by omega) b3).mono ?_
   rintro e w' ⟨rfl,p1,p2⟩
   have hl2:(es.take i++es.drop (i+1)).length=es.length - 1:=by rw [List.length_append,List.length_take,List.length_drop];omega
   refine ⟨_,es.take i++es.drop (i+1),rfl,by rw [hl2];exact p1,p2,fun g' hg'=>.inl hg',fun F hF hsame=>?_⟩
   have hF2:Ets F w' es (l.map GObject.enc):=hF.fr p2.size hsame fun b hb _=>hb
   refine ⟨by rw [hl2,List.length_append,List.length_take,List.length_drop,← hF2.len];omega,fun j vs ts e1 e2=>?_⟩
   by_cases hj:j < i
   ·rw [List.getElem?_append_left (by rw [List.length_take];omega),List.getElem?_take,if_pos hj] at e1
    rw [List.getElem?_append_left (by rw [List.length_take,← hF2.len];omega),List.getElem?_take,if_pos hj] at e2
    exact hF2.at_ j vs ts e1 e2
   ·rw [List.getElem?_append_right (by rw [List.length_take];omega),List.length_take,List.getElem?_drop,Nat.min_eq_left (by omega)] at e1
    rw [List.getElem?_append_right (by rw [List.length_take,← hF2.len];omega),List.length_take,List.getElem?_drop,Nat.min_eq_left (by rw [← hF2.len];omega)] at e2
    exact hF2.at_ _ vs ts e1 e2
end Go.Proofs.YtmloamomcbmfhaaGreat
end
