/- Parts of the proof, joined: Chapters 32 and 33: what the functions compute, on records. No program in sight; Valid states: what changes keep them valid. No program in sight; Chapter 33: moves as the program and as the reference make them. No program in sight; Chapter 33: an event of a valid state yields a valid state. No program in sight; Chapter 33: an event of a valid state yields a valid state, whole. No program in sight; Chapter 33: what no event changes; results are small. No program in sight; Evaluation on trees: steps that need no names, for functions of which only the kind of the result counts. No program in sight; Evaluation on trees: an empty list reads as an empty list of any width. No program in sight; The program's act: Entered; Functions of the reference: they answer for every input (conditions of cards); Functions of the reference: they answer for every input (texts); Functions of the reference: they answer for every input (texts of filters and modifications); Functions of the reference: they answer for every input (abilities, cards, catalogues); Functions of the reference: equality of states; Functions of the reference: what is asked of a state; Functions of the reference: a valid state; Functions of the reference: they answer for every input (cards, catalogues, small states); Functions of the reference: a valid state; small states; Numbers and counters of chapters 1 and 12 (program and reference); Chapter 33: parts of an event (reference). -/
import Derived.Test.YtmloamomcbmfhaaGreatNC
import Derived.Shelf.Abstract
set_option maxRecDepth 100000
set_option maxHeartbeats 4000000
section
namespace Go.Proofs.YtmloamomcbmfhaaGreat
open Go Cg
def clampM (n:Int):Int:=if n > 1000000 then 1000000 else if n < -1000000 then -1000000 else n
def addM (a b:Int):Int:=clampM (clampM a+clampM b)
def subM (a b:Int):Int:=clampM (clampM a - clampM b)
def cupM (c n:Int):Int:=if addM c n > 0 then addM c n else 0
def upC (i kind c n:Int):Int:=if kind=i then cupM c n else c
def livM (s:GState) (p:Int):Bool:=match s.players[p.toNat]? with
 | some x=>decide (p≥0)&&!x.lost
 | none=>false
def amtM (n:Int):Bool:=decide (n≥1)&&decide (n≤1000000)
def hereM (s:GState) (id:Int):Bool:=hasM s.objects id&&(findM s.objects id).zone==0
def tokM (cards:List GCard) (i:Int):Bool:=match cards[i.toNat]? with
 | some x=>decide (i≥0)&&x.token
 | none=>false
theorem livM_f1 {s:GState} {p:Int} (h:¬ p≥0):false=livM s p:=by
 unfold livM
 split
 ·rw [decide_eq_false h];rfl
 ·rfl
theorem livM_f2 {s:GState} {p:Int} {f:GPlayer→List Tr} (h:¬ p < (((s.players.map f).length:Nat):Int)):false=livM s p:=by
 rw [Lm] at h
 unfold livM
 rw [List.getElem?_eq_none (by omega)]
theorem livM_g {s:GState} {p:Int} (h:p≥0) (hl:p.toNat < s.players.length):livM s p=!s.players[p.toNat].lost:=by
 unfold livM
 rw [List.getElem?_eq_getElem hl,decide_eq_true h]
 rfl
theorem tokM_f1 {l:List GCard} {p:Int} (h:¬ p≥0):tokM l p=false:=by
 unfold tokM
 split
 ·rw [decide_eq_false h];rfl
 ·rfl
theorem tokM_f2 {l:List GCard} {p:Int} {f:GCard→List Tr} (h:¬ p < (((l.map f).length:Nat):Int)):tokM l p=false:=by
 rw [Lm] at h
 unfold tokM
 rw [List.getElem?_eq_none (by omega)]
theorem tokM_g {l:List GCard} {p:Int} (h:p≥0) (hl:p.toNat < l.length):tokM l p=l[p.toNat].token:=by
 unfold tokM
 rw [List.getElem?_eq_getElem hl,decide_eq_true h]
 rfl
def evM (cards:List GCard) (s:GState) (e:GEvent):Bool:=
 if e.kind=1 then amtM e.amount&&(hereM s e.object||(e.object==0&&livM s e.player))
 else if e.kind=2 then hasM s.objects e.object&&(e.from_==(findM s.objects e.object).zone&&(e.to_ != e.from_&&(decide (e.to_≥0)&&(decide (e.to_≤4)&&(decide (e.player≥0)&&decide (e.player < s.players.length))))))
 else if e.kind=3∨e.kind=14∨e.kind=15∨e.kind=17 then livM s e.player
 else if e.kind=4∨e.kind=5∨e.kind=16 then livM s e.player&&amtM e.amount
 else if e.kind=6 then hereM s e.object&&!(findM s.objects e.object).tapped
 else if e.kind=7 then hereM s e.object&&(findM s.objects e.object).tapped
 else if e.kind=8∨e.kind=9 then hereM s e.object&&(decide (e.counter≥0)&&(decide (e.counter < 3)&&amtM e.amount))
 else if e.kind=10 then livM s e.player&&(tokM cards e.card&&amtM e.amount)
 else if e.kind=11 then hasM s.objects e.object&&((findM s.objects e.object).zone==5&&livM s e.player)
 else if e.kind=12 then hereM s e.object&&livM s e.player
 else if e.kind=13 then hereM s e.object&&hereM s e.source
 else false
def evP (cards:List GCard) (s:GState) (e:GEvent):Bool:=if e.kind=1 then amtM e.amount&&(if e.object=0 then livM s e.player else hereM s e.object) else evM cards s e
theorem evM10 {cards:List GCard} {s:GState} {e:GEvent} (h:e.kind=10):evM cards s e=(livM s e.player&&(tokM cards e.card&&amtM e.amount)):=by
 unfold evM
 rw [h]
 rfl
def entM (e:GEvent) (o:GObject):GObject:={ o with tapped:=e.tapped,counters0:=cupM 0 e.extra0,counters1:=cupM 0 e.extra1,counters2:=cupM 0 e.extra2 }
def arrM (s:GState) (id:Int) (e:GEvent):GState:=if hasM s.objects id=true then putM s (entM e (findM s.objects id)) else s
def uncO (k:Int) (o:GObject):GObject:=if o.blocks==k then { o with blocks:=0 } else o
def uncM (s:GState) (k:Int):GState:={ s with objects:=s.objects.map (uncO k) }
def mvR (s:GState) (e:GEvent):GState:=
 let r:=moveM (if e.from_=0 then uncM s e.object else s) e.object e.to_ e.player (e.amount==1)
 if e.to_=0 then arrM r.1 r.2 e else r.1
def mvP (s:GState) (e:GEvent):GState:=
 let r:=moveM s e.object e.to_ e.player (e.amount==1)
 let t:=if e.to_=0 then arrM r.1 r.2 e else r.1
 if e.from_=0 then uncM t e.object else t
def updP (s:GState) (p:Int) (f:GPlayer→GPlayer):GState:=match s.players[p.toNat]? with
 | some x=>{ s with players:=s.players.set p.toNat (f x) }
 | none=>s
def drawM (s:GState) (p:Int):GState:=match s.players[p.toNat]? with
 | some x=>(match x.library with
  | []=>updP s p fun x=>{ x with failed:=true }
  | id :: _=>(moveM s id 1 p false).1)
 | none=>s
def hasK (k m:Int):Bool:=IntKind.i64.wrap (BitVec.ofInt IntKind.i64.bits k &&& BitVec.ofInt IntKind.i64.bits m).toNat==m
def deadM (s:GState) (all:List GTraits) (id:Int):Bool:=match s.objects.findIdx? fun o=>o.id==id with
 | some i=>(match all[i]? with
  | some t=>hasK t.keys 128
  | none=>false)
 | none=>false
def noD (all:List GTraits) (id:Int) (j:Nat) (y:GObject):Bool:=!(y.id==id)||decide (all.length≤j)
theorem dead_hit {s:GState} {all:List GTraits} {id i:Int} (h0:0≤i) (hU:Up (noD all id) s.objects i) (hl:i.toNat < s.objects.length) (hid:s.objects[i.toNat].id=id) (ha:i.toNat < all.length):hasK all[i.toNat].keys 128=deadM s all id:=by
 have e:s.objects.findIdx? (fun o=>o.id==id)=some i.toNat:=by
  rw [List.findIdx?_eq_some_iff_getElem]
  refine ⟨hl,by simpa using hid,fun j hj=>?_⟩
  have:=hU j (by omega) (by omega)
  unfold noD at this
  rw [Bool.or_eq_true,decide_eq_true_eq] at this
  rcases this with h|h
  ·simpa using h
  ·omega
 unfold deadM
 rw [e]
 simp only [List.getElem?_eq_getElem ha]
theorem dead_end {s:GState} {all:List GTraits} {id i:Int} (hU:Up (noD all id) s.objects i) (h1:∀ j:Nat,i≤j→j < s.objects.length→all.length≤j):false=deadM s all id:=by
 unfold deadM
 split
 ·rename_i k hk
  obtain ⟨h2,h3,_⟩:=List.findIdx?_eq_some_iff_getElem.1 hk
  have:all.length≤k:=by
   by_cases hik:(k:Int) < i
   ·have:=hU k h2 hik
    unfold noD at this
    rw [h3] at this
    simpa using this
   ·exact h1 k (by omega) h2
  rw [List.getElem?_eq_none this]
 ·rfl
theorem noD_1 {all:List GTraits} {id i:Int} {y:GObject} (h:¬ y.id=id):noD all id i.toNat y=true:=by unfold noD;simp [h]
theorem noD_2 {all:List GTraits} {id i:Int} {y:GObject} {f:GTraits→List Tr} (h0:0≤i) (h:¬ i < (((all.map f).length:Nat):Int)):noD all id i.toNat y=true:=by
 rw [Lm] at h
 unfold noD
 rw [Bool.or_eq_true,decide_eq_true_eq]
 right
 omega
theorem dead_e1 {s:GState} {all:List GTraits} {id i:Int} {f:GObject→List Tr} (hU:Up (noD all id) s.objects i) (h:¬ i < (((s.objects.map f).length:Nat):Int)):false=deadM s all id:=dead_end hU fun j h1 h2=>by
 rw [Lm] at h
 omega
theorem dead_e2 {s:GState} {all:List GTraits} {id i:Int} {f:GTraits→List Tr} (hU:Up (noD all id) s.objects i) (h:¬ i < (((all.map f).length:Nat):Int)):false=deadM s all id:=dead_end hU fun j h1 h2=>by
 rw [Lm] at h
 omega
structure SmallS (s:GState):Prop where
 ob:s.objects.length≤300
 bf:s.battlefield.length≤300
 ex:s.exile.length≤300
 np:s.players.length≤10
 pl:∀ p∈s.players,p.library.length≤300∧p.hand.length≤300∧p.graveyard.length≤300
structure SmI (s:GState) (i p:Int):Prop where
 up:p≤(i+1)*200000000000000
 ob:(s.objects.length:Int)≤p
 bf:(s.battlefield.length:Int)≤p
 ex:(s.exile.length:Int)≤p
 pl:∀ (j:Nat) (h:j < s.players.length),(j:Int) < i→(s.players[j].library.length:Int)≤p∧(s.players[j].hand.length:Int)≤p∧(s.players[j].graveyard.length:Int)≤p
theorem sm_wrap {n:Int} (h0:0≤n) (h1:n≤9000000000000000000):IntKind.i64.wrap n=n:=by
 rw [IntKind.wrap_i64]
 omega
theorem SmI.zero {s:GState} {f1:GObject→List Tr} {f2 f3 f4:Int→List Tr} {f5:GItem→List Tr} {f6:GWaiting→List Tr} {f7:GCont→List Tr} (h:s.ok):SmI s 0 (IntKind.i64.wrap (IntKind.i64.wrap (IntKind.i64.wrap (IntKind.i64.wrap (IntKind.i64.wrap (IntKind.i64.wrap ((((s.objects.map f1).length:Nat):Int)+(((s.battlefield.map f2).length:Nat):Int))+(((s.exile.map f3).length:Nat):Int))+(((s.extra.map f4).length:Nat):Int))+IntKind.i64.wrap (8*(((s.stack.map f5).length:Nat):Int)))+IntKind.i64.wrap (8*(((s.waiting.map f6).length:Nat):Int)))+IntKind.i64.wrap (4*(((s.conts.map f7).length:Nat):Int)))):=by
 obtain ⟨_,_,h3,_,h5,h6,h7,_,h9,_,h11,_,h13⟩:=h
 simp only [Lm]
 unfold limB at *
 have e8:IntKind.i64.wrap (8*(s.stack.length:Int))=8*s.stack.length:=sm_wrap (by omega) (by omega)
 have e9:IntKind.i64.wrap (8*(s.waiting.length:Int))=8*s.waiting.length:=sm_wrap (by omega) (by omega)
 have e10:IntKind.i64.wrap (4*(s.conts.length:Int))=4*s.conts.length:=sm_wrap (by omega) (by omega)
 rw [e8,e9,e10,sm_wrap (n:=(s.objects.length:Int)+s.battlefield.length) (by omega) (by omega),sm_wrap (n:=(s.objects.length:Int)+s.battlefield.length+s.exile.length) (by omega) (by omega),sm_wrap (n:=(s.objects.length:Int)+s.battlefield.length+s.exile.length+s.extra.length) (by omega) (by omega),
  sm_wrap (n:=(s.objects.length:Int)+s.battlefield.length+s.exile.length+s.extra.length+8*s.stack.length) (by omega) (by omega),sm_wrap (n:=(s.objects.length:Int)+s.battlefield.length+s.exile.length+s.extra.length+8*s.stack.length+8*s.waiting.length) (by omega) (by omega),sm_wrap (by omega) (by omega)]
 exact ⟨by omega,by omega,by omega,by omega,fun j h hj=>by omega⟩
theorem SmI.step {s:GState} {i p:Int} {f1 f2 f3:Int→List Tr} (h0:0≤i) (hi:i < 10) (h:SmI s i p) (hok:s.ok) (hl:i.toNat < s.players.length):SmI s (i+1) (IntKind.i64.wrap (IntKind.i64.wrap (IntKind.i64.wrap (p+(((s.players[i.toNat].library.map f1).length:Nat):Int))+(((s.players[i.toNat].hand.map f2).length:Nat):Int))+(((s.players[i.toNat].graveyard.map f3).length:Nat):Int))):=by
 obtain ⟨g1,g2,g3⟩:=hok.2.1 _ (List.getElem_mem hl)
 obtain ⟨k1,k2,k3,k4,k5⟩:=h
 simp only [Lm]
 unfold limB at *
 rw [sm_wrap (n:=p+s.players[i.toNat].library.length) (by omega) (by omega),sm_wrap (n:=p+s.players[i.toNat].library.length+s.players[i.toNat].hand.length) (by omega) (by omega),sm_wrap (by omega) (by omega)]
 refine ⟨by omega,by omega,by omega,by omega,fun j hj hji=>?_⟩
 by_cases e:j=i.toNat
 ·subst e
  exact ⟨by omega,by omega,by omega⟩
 ·obtain ⟨a1,a2,a3⟩:=k5 j hj (by omega)
  exact ⟨by omega,by omega,by omega⟩
def SmE (s:GState) (p:Int):Prop:=∃ i:Int,SmI s i p∧(¬ i < (s.players.length:Int)∨¬ i < 10)
theorem SmE.a {s:GState} {i p:Int} {f:GPlayer→List Tr} (h:SmI s i p) (h1:¬ i < (((s.players.map f).length:Nat):Int)):SmE s p:=⟨i,h,.inl (by rwa [Lm] at h1)⟩
theorem SmE.b {s:GState} {i p:Int} (h:SmI s i p) (h1:¬ i < 10):SmE s p:=⟨i,h,.inr h1⟩
theorem SmE.fin {s:GState} {p:Int} {g:GPlayer→List Tr} (h:SmE s p) (h2:¬ p > 300) (h3:¬ (((s.players.map g).length:Nat):Int) > 10):SmallS s:=by
 obtain ⟨i,h,h1⟩:=h
 rw [Lm] at h3
 obtain ⟨_,k2,k3,k4,k5⟩:=h
 refine ⟨by omega,by omega,by omega,by omega,fun q hq=>?_⟩
 obtain ⟨j,hj,rfl⟩:=List.mem_iff_getElem.1 hq
 obtain ⟨a1,a2,a3⟩:=k5 j hj (by omega)
 exact ⟨by omega,by omega,by omega⟩
def markM (d:Bool) (e:GEvent) (o:GObject):GObject:=
 if e.kind=1 then { o with damage:=addM o.damage e.amount,deadly:=o.deadly||d }
 else if e.kind=6 then { o with tapped:=true }
 else if e.kind=7 then { o with tapped:=false }
 else if e.kind=8 then { o with counters0:=upC 0 e.counter o.counters0 e.amount,counters1:=upC 1 e.counter o.counters1 e.amount,counters2:=upC 2 e.counter o.counters2 e.amount }
 else if e.kind=9 then { o with counters0:=upC 0 e.counter o.counters0 (IntKind.i64.wrap (0 - e.amount)),counters1:=upC 1 e.counter o.counters1 (IntKind.i64.wrap (0 - e.amount)),counters2:=upC 2 e.counter o.counters2 (IntKind.i64.wrap (0 - e.amount)) }
 else if e.kind=12 then { o with attack:=e.player }
 else if e.kind=13 then { o with blocks:=e.source }
 else o
def objM (s:GState) (all:List GTraits) (e:GEvent):GState:=
 if hasM s.objects e.object=true then
  let s1:=putM s (markM (deadM s all e.source) e (findM s.objects e.object))
  if e.kind=13 then putM s1 { findM s1.objects e.source with blocked:=true } else s1
 else s
def mkM (s:GState) (e:GEvent):Nat→GState
 | 0=>s
 | n+1=>if (s.objects.length:Int) < 2048 then mkM (arrM (makeM s e.card e.player).1 (makeM s e.card e.player).2 e) e n else s
def xorU (x y:Int):Int:=IntKind.u64.wrap (BitVec.ofInt IntKind.u64.bits x ^^^ BitVec.ofInt IntKind.u64.bits y).toNat
def shrU (x:Int) (n:Nat):Int:=x.fdiv (2 ^ min n IntKind.u64.bits)
def seedM (s:Int):Int:=IntKind.u64.wrap (s+11400714819323198485)
def mix1 (z:Int):Int:=IntKind.u64.wrap (xorU z (shrU z 30)*13787848793156543929)
def mix2 (z:Int):Int:=IntKind.u64.wrap (xorU z (shrU z 27)*10723151780598845931)
def mix3 (z:Int):Int:=xorU z (shrU z 31)
def nextM (s:Int):Int:=mix3 (mix2 (mix1 (seedM s)))
def belowM (s n:Int):Int × Int:=if n < 1 then (0,s) else (IntKind.i64.wrap ((nextM s).tmod (IntKind.u64.wrap n)),seedM s)
def swapM (l:List Int) (i j:Nat):List Int:=(l.set i (l.getD j 0)).set j (l.getD i 0)
def shufG:Nat→Int→List Int→List Int × Int
 | 0,s,l=>(l,s)
 | i+1,s,l=>shufG i (belowM s ((i:Int)+2)).2 (swapM l (i+1) (belowM s ((i:Int)+2)).1.toNat)
def shufM (s:Int) (l:List Int):List Int × Int:=shufG (l.length - 1) s l
theorem wrapU_range (n:Int):0≤IntKind.u64.wrap n∧IntKind.u64.wrap n < 18446744073709551616:=by
 rw [IntKind.wrap_u64]
 omega
theorem below_range {s n:Int} (h1:1≤n) (h2:n≤1099511627776):0≤(belowM s n).1∧(belowM s n).1 < n:=by
 unfold belowM
 rw [if_neg (by omega)]
 have hz:0≤nextM s:=(wrapU_range _).1
 have hn:IntKind.u64.wrap n=n:=by rw [IntKind.wrap_u64];omega
 simp only [hn]
 have h3:=Int.tmod_nonneg n hz
 have h4:=Int.tmod_lt_of_pos (nextM s) (b:=n) (by omega)
 have:IntKind.i64.wrap ((nextM s).tmod n)=(nextM s).tmod n:=by rw [IntKind.wrap_i64];omega
 rw [this]
 exact ⟨h3,h4⟩
theorem swap_perm (l:List Int) (i j:Nat) (hi:i < l.length) (hj:j < l.length):(swapM l i j).Perm l:=by
 rw [List.perm_iff_count]
 intro a
 unfold swapM
 have e1:l.getD j 0=l[j]:=by rw [List.getD_eq_getElem?_getD,List.getElem?_eq_getElem hj];rfl
 have e2:l.getD i 0=l[i]:=by rw [List.getD_eq_getElem?_getD,List.getElem?_eq_getElem hi];rfl
 rw [e1,e2,List.count_set (by rw [List.length_set];exact hj),List.count_set hi,List.getElem_set]
 have c1:(l[i]==a)=true→1≤l.count a:=fun h=>List.count_pos_iff.2 (by rw [← beq_iff_eq.1 h];exact List.getElem_mem hi)
 have c2:(l[j]==a)=true→1≤l.count a:=fun h=>List.count_pos_iff.2 (by rw [← beq_iff_eq.1 h];exact List.getElem_mem hj)
 by_cases hij:i=j
 ·subst hij
  simp only [if_pos]
  split
  ·rename_i h
   have:=c1 h
   omega
  ·omega
 ·rw [if_neg hij]
  by_cases ha:(l[i]==a)=true <;> by_cases hb:(l[j]==a)=true
  ·rw [if_pos ha,if_pos hb]
   have:=c1 ha
   omega
  ·rw [if_pos ha,if_neg hb]
   have:=c1 ha
   omega
  ·rw [if_neg ha,if_pos hb]
   have:=c2 hb
   omega
  ·rw [if_neg ha,if_neg hb]
   omega
theorem swap_len (l:List Int) (i j:Nat):(swapM l i j).length=l.length:=by unfold swapM;rw [List.length_set,List.length_set]
theorem shufG_perm:∀ (i:Nat) (s:Int) (l:List Int),i < l.length∨i=0→l.length≤1099511627776→(shufG i s l).1.Perm l
 | 0,_,_,_,_=>.refl _
 | i+1,s,l,h,hb=>by
  unfold shufG
  have hr:=below_range (s:=s) (n:=(i:Int)+2) (by omega) (by omega)
  have hp:=swap_perm l (i+1) (belowM s ((i:Int)+2)).1.toNat (by omega) (by omega)
  exact (shufG_perm i _ _ (by rw [swap_len];omega) (by rw [swap_len];exact hb)).trans hp
theorem shufM_perm (s:Int) (l:List Int) (hb:l.length≤1099511627776):(shufM s l).1.Perm l:=shufG_perm _ s l (by omega) hb
def chM (e:GEvent) (sd:Int) (x:GPlayer):GPlayer × Int:=
 if e.kind=4 then ({ x with life:=addM x.life e.amount },sd)
 else if e.kind=5 then ({ x with life:=subM x.life e.amount },sd)
 else if e.kind=16 then ({ x with venom:=addM x.venom e.amount },sd)
 else if e.kind=17 then ({ x with library:=(shufM sd x.library).1 },(shufM sd x.library).2)
 else (x,sd)
def lifeM (s:GState) (e:GEvent):GState:=match s.players[e.player.toNat]? with
 | some x=>{ s with players:=s.players.set e.player.toNat (chM e s.seed x).1,seed:=(chM e s.seed x).2 }
 | none=>s
def restM (s:GState) (all:List GTraits) (e:GEvent):GState:=
 if e.kind=3 then drawM s e.player
 else if e.kind=4∨e.kind=5∨e.kind=16∨e.kind=17 then lifeM s e
 else if e.kind=10 then mkM s e e.amount.toNat
 else if e.kind=1∨e.kind=6∨e.kind=7∨e.kind=8∨e.kind=9∨e.kind=12∨e.kind=13 then objM s all e
 else s
def doR (cards:List GCard) (s:GState) (all:List GTraits) (e:GEvent):GState:=if evM cards s e=true then (if e.kind=2 then mvR s e else restM s all e) else s
section
variable {q:Opq} {c:Int} {s:GState}
theorem waitOk_n {s s':GState} (h:s'.players.length=s.players.length) (w:GWaiting):waitOk q s' w=waitOk q s w:=by
 unfold waitOk plM
 rw [h]
theorem contOk_n {s s':GState} (h:s'.players.length=s.players.length) (hs:s.nextStamp≤s'.nextStamp) {k:GCont} (hk:contOk q s k=true):contOk q s' k=true:=by
 unfold contOk plM at *
 rw [h]
 simp only [Bool.and_eq_true,Bool.not_eq_true',decide_eq_false_iff_not] at *
 exact ⟨hk.1,by omega,hk.2.2⟩
theorem plM_n {s s':GState} (h:s'.players.length=s.players.length) (p:Int):plM s' p=plM s p:=by
 unfold plM
 rw [h]
theorem _root_.Cg.Val.map (h:Val q c s) (g:GObject→GObject) (hg:∀ o∈s.objects,(g o).id=o.id∧(g o).zone=o.zone∧(g o).owner=o.owner∧(g o).stamp=o.stamp∧objOk (g o) c s.players.length=true):Val q c { s with objects:=s.objects.map g }:=by
 refine ⟨h.nid,h.nst,by rw [Lm];exact h.nobj,h.npl,h.sc,h.ply,?_,fun o ho=>?_,fun z p id hid=>?_,h.nod,fun o ho h5=>?_,fun o ho h5=>?_,h.nstk,h.stk,fun x hx=>?_,h.wt,h.cts⟩
 ·refine List.pairwise_map.2 (h.srt.imp_of_mem fun {a b} ha hb hab=>?_)
  rw [(hg a ha).1,(hg b hb).1]
  exact hab
 ·obtain ⟨o,hm,rfl⟩:=List.mem_map.1 ho
  obtain ⟨h1,h2,h3,h4,h5⟩:=hg o hm
  exact ⟨h5,by rw [h1];exact (h.obj o hm).2.1,by rw [h4];exact (h.obj o hm).2.2⟩
 ·obtain ⟨o,ho,h1,h2,h3⟩:=h.lst z p id hid
  obtain ⟨g1,g2,g3,_⟩:=hg o ho
  exact ⟨g o,List.mem_map_of_mem ho,by rw [g1];exact h1,by rw [g2];exact h2,by rw [g3];exact h3⟩
 ·obtain ⟨o,hm,rfl⟩:=List.mem_map.1 ho
  obtain ⟨h1,h2,h3,_⟩:=hg o hm
  rw [h2] at h5
  rw [h1,h2,h3]
  exact h.plc o hm h5
 ·obtain ⟨o,hm,rfl⟩:=List.mem_map.1 ho
  obtain ⟨h1,h2,_⟩:=hg o hm
  rw [h2] at h5
  rw [h1]
  exact h.plc5 o hm h5
 ·obtain ⟨h1,h2,h3⟩:=h.itm x hx
  refine ⟨h1,h2,?_⟩
  rcases h3 with ⟨g1,g2,⟨o,ho,g3,g4⟩,g5⟩|⟨g1,g2,g3⟩
  ·obtain ⟨e1,e2,_⟩:=hg o ho
   exact .inl ⟨g1,g2,⟨g o,List.mem_map_of_mem ho,by rw [e1];exact g3,by rw [e2];exact g4⟩,g5⟩
  ·refine .inr ⟨g1,fun o ho=>?_,g3⟩
   obtain ⟨o,hm,rfl⟩:=List.mem_map.1 ho
   rw [(hg o hm).1]
   exact g2 o hm
theorem _root_.Cg.Val.plys (h:Val q c s) (l:List GPlayer) (sd:Int) (hlen:l.length=s.players.length) (hp:∀ p∈l,plyN p=true) (hl:∀ z p,(listM { s with players:=l,seed:=sd } z p).Perm (listM s z p)):Val q c { s with players:=l,seed:=sd }:=by
 refine ⟨h.nid,h.nst,h.nobj,by rw [hlen];exact h.npl,?_,hp,h.srt,fun o ho=>?_,fun z p id hid=>h.lst z p id ((hl z p).mem_iff.1 hid),fun z p=>(hl z p).nodup_iff.2 (h.nod z p),fun o ho h5=>(hl _ _).mem_iff.2 (h.plc o ho h5),h.plc5,h.nstk,h.stk,fun x hx=>?_,⟨h.wt.1,fun w hw=>?_⟩,h.cts.1,fun k hk=>contOk_n (s:=s) (s':={ s with players:=l,seed:=sd }) hlen (Int.le_refl _) (h.cts.2 k hk)⟩
 ·have:=h.sc
  unfold scM isW at *
  simp only [plM_n (s:=s) (s':={ s with players:=l,seed:=sd }) hlen,hlen,List.all_eq_true,Bool.and_eq_true] at *
  exact this
 ·rw [hlen]
  exact h.obj o ho
 ·have:=h.itm x hx
  unfold itemV at *
  rw [plM_n (s:=s) hlen]
  exact this
 ·rw [waitOk_n (s:=s) hlen]
  exact h.wt.2 w hw
theorem plys_get {l _l':List GPlayer} {i:Nat} {x y:GPlayer} (_hx:l[i]? = some x) (h:∀ p∈l,plyN p=true) (hy:plyN y=true):∀ p∈l.set i y,plyN p=true:=fun p hp=>by
 rcases List.mem_or_eq_of_mem_set hp with hp|rfl
 ·exact h p hp
 ·exact hy
theorem listM_set {s:GState} {i:Nat} {x y:GPlayer} (sd:Int) (hx:s.players[i]? = some x) (h1:y.hand.Perm x.hand) (h2:y.library.Perm x.library) (h3:y.graveyard.Perm x.graveyard) (z p:Int):(listM { s with players:=s.players.set i y,seed:=sd } z p).Perm (listM s z p):=by
 unfold listM
 simp only [List.length_set]
 by_cases hi:i=p.toNat
 ·subst hi
  simp only [List.getElem?_set_self (List.getElem?_eq_some_iff.1 hx).1,hx]
  split
  ·exact .refl _
  split
  ·exact .refl _
  split
  ·exact .refl _
  split
  ·exact h1
  split
  ·exact h2
  split
  ·exact h3
  ·exact .refl _
 ·simp only [List.getElem?_set_ne hi]
  exact .refl _
theorem _root_.Cg.Val.ply1 (h:Val q c s) (i:Nat) (sd:Int) {x y:GPlayer} (hx:s.players[i]? = some x) (hy:plyN y=true) (h1:y.hand.Perm x.hand) (h2:y.library.Perm x.library) (h3:y.graveyard.Perm x.graveyard):Val q c { s with players:=s.players.set i y,seed:=sd }:=
 h.plys _ sd (by rw [List.length_set]) (plys_get (_l':=[]) (x:=x) hx h.ply hy) (listM_set sd hx h1 h2 h3)
theorem setM_form (s:GState) (z p:Int) (l:List Int):∃ b x pl,setM s z p l={ s with battlefield:=b,exile:=x,players:=pl }∧pl.length=s.players.length∧((∀ y∈s.players,plyN y=true)→∀ y∈pl,plyN y=true):=by
 unfold setM
 split
 ·exact ⟨l,s.exile,s.players,rfl,rfl,id⟩
 split
 ·exact ⟨s.battlefield,l,s.players,rfl,rfl,id⟩
 split
 ·exact ⟨s.battlefield,s.exile,s.players,rfl,rfl,id⟩
 split
 ·rename_i y hy
  refine ⟨s.battlefield,s.exile,_,rfl,by rw [List.length_set],fun h=>plys_get (_l':=[]) hy h ?_⟩
  have:plyN (setP y z l)=plyN y:=by
   unfold setP
   split
   ·rfl
   split
   ·rfl
   split <;> rfl
  rw [this]
  exact h y (List.mem_of_getElem? hy)
 ·exact ⟨s.battlefield,s.exile,s.players,rfl,rfl,id⟩
theorem sc_form {s:GState} {b x:List Int} {pl:List GPlayer} {ob:List GObject} {st:List GItem} {ni ns:Int} (hlen:pl.length=s.players.length) (h:scM s=true):scM { s with battlefield:=b,exile:=x,players:=pl,objects:=ob,stack:=st,nextId:=ni,nextStamp:=ns }=true:=by
 unfold scM isW at *
 simp only [plM_n (s:=s) (s':={ s with battlefield:=b,exile:=x,players:=pl,objects:=ob,stack:=st,nextId:=ni,nextStamp:=ns }) hlen,hlen,List.all_eq_true,Bool.and_eq_true] at *
 exact h
theorem set_eq_self {α:Type} {xs:List α} {i:Nat} {t:α} (h:xs[i]? = some t):xs.set i t=xs:=by
 refine List.ext_getElem? fun j=>?_
 by_cases e:i=j
 ·subst e
  rw [List.getElem?_set_self (List.getElem?_eq_some_iff.1 h).1,h]
 ·rw [List.getElem?_set_ne e]
def sameP (z w z' p':Int):Prop:=z=z'∧(z=0∨z=4∨w=p')
instance {z w z' p':Int}:Decidable (sameP z w z' p'):=by unfold sameP;exact inferInstance
theorem listM_setM (s:GState) (z w:Int) (l:List Int) (z' p':Int) (h:z=0∨z=4∨(1≤z∧z≤3∧0≤w∧w < s.players.length)):listM (setM s z w l) z' p'=if sameP z w z' p' then l else listM s z' p':=by
 rcases h with rfl|rfl|⟨h1,h2,h3,h4⟩
 ·have e:setM s 0 w l={ s with battlefield:=l }:=by unfold setM;rfl
  rw [e]
  by_cases hz:z'=0
  ·subst hz
   rw [if_pos ⟨rfl,.inl rfl⟩]
   exact listM_bf p'
  ·rw [if_neg fun h=>hz h.1.symm]
   unfold listM
   rw [if_neg (show ¬ (z'==0)=true by simpa using hz),if_neg (show ¬ (z'==0)=true by simpa using hz)]
 ·have e:setM s 4 w l={ s with exile:=l }:=by unfold setM;rfl
  rw [e]
  by_cases hz:z'=4
  ·subst hz
   rw [if_pos ⟨rfl,.inr (.inl rfl)⟩]
   exact listM_ex p'
  ·rw [if_neg fun h=>hz h.1.symm]
   unfold listM
   rw [if_neg (show ¬ (z'==4)=true by simpa using hz),if_neg (show ¬ (z'==4)=true by simpa using hz)]
 ·have hlt:w.toNat < s.players.length:=by omega
  obtain ⟨x,hx⟩:∃ x,s.players[w.toNat]? = some x:=⟨_,List.getElem?_eq_getElem hlt⟩
  have e:setM s z w l={ s with players:=s.players.set w.toNat (setP x z l) }:=by
   unfold setM
   rw [if_neg (by simp;omega),if_neg (by simp;omega),if_neg (by omega),hx]
  rw [e]
  by_cases hs:sameP z w z' p'
  ·rw [if_pos hs]
   obtain ⟨rfl,hs⟩:=hs
   obtain rfl:w=p':=hs.elim (fun h=>by omega) (fun h=>h.elim (fun h=>by omega) id)
   unfold listM
   rw [if_neg (by simp;omega),if_neg (by simp;omega),if_neg (by simp only [List.length_set];omega)]
   simp only [List.getElem?_set_self hlt]
   unfold setP
   rcases (by omega:z=1∨z=2∨z=3) with rfl|rfl|rfl <;> rfl
  ·rw [if_neg hs]
   unfold listM
   simp only [List.length_set]
   split
   ·rfl
   split
   ·rfl
   split
   ·rfl
   rename_i h0 h4' hp
   by_cases hw:w.toNat=p'.toNat
   ·have:w=p':=by omega
    subst this
    have hz:¬ z=z':=fun e=>hs ⟨e,.inr (.inr rfl)⟩
    simp only [List.getElem?_set_self hlt,hx]
    have hz2:¬ z'=z:=fun e=>hz e.symm
    rcases (by omega:z=1∨z=2∨z=3) with rfl|rfl|rfl <;> simp [setP,hz2]
   ·rw [List.getElem?_set_ne hw]
theorem out_iff {l:List GObject} (hs:l.Pairwise fun a b=>a.id < b.id) {i:Nat} (hi:i < l.length) {x:GObject}:x∈l.take i++l.drop (i+1)↔x∈l∧x.id≠l[i].id:=by
 have hp:=List.pairwise_iff_getElem.1 hs
 rw [List.mem_append]
 constructor
 ·rintro (h|h)
  ·obtain ⟨j,hj,rfl⟩:=List.mem_iff_getElem.1 h
   rw [List.length_take] at hj
   rw [List.getElem_take]
   have:=hp j i (by omega) hi (by omega)
   exact ⟨List.getElem_mem _,by omega⟩
  ·obtain ⟨j,hj,rfl⟩:=List.mem_iff_getElem.1 h
   rw [List.length_drop] at hj
   rw [List.getElem_drop]
   have:=hp i (i+1+j) hi (by omega) (by omega)
   exact ⟨List.getElem_mem _,by omega⟩
 ·rintro ⟨h,hne⟩
  obtain ⟨j,hj,rfl⟩:=List.mem_iff_getElem.1 h
  rcases Nat.lt_trichotomy j i with h|h|h
  ·exact .inl (List.mem_iff_getElem.2 ⟨j,by rw [List.length_take];omega,by rw [List.getElem_take]⟩)
  ·subst h
   exact absurd rfl hne
  ·exact .inr (List.mem_iff_getElem.2 ⟨j - (i+1),by rw [List.length_drop];omega,by rw [List.getElem_drop];congr 1;omega⟩)
theorem out_sub {l:List GObject} (i:Nat):(l.take i++l.drop (i+1)).Sublist l:=by
 rw [← List.eraseIdx_eq_take_drop_succ]
 exact List.eraseIdx_sublist l i
theorem rem_lists (h:Val q c s) {i:Nat} (hi:i < s.objects.length) (z p:Int):listM (remM s s.objects[i].id i s.objects[i]) z p=(listM s z p).filter fun x=>x != s.objects[i].id:=by
 have hm:=List.getElem_mem hi
 have ho:=(h.obj _ hm).1
 unfold objOk at ho
 simp only [Bool.and_eq_true,Bool.not_eq_true',decide_eq_false_iff_not] at ho
 have e:listM (remM s s.objects[i].id i s.objects[i]) z p=listM (setM s s.objects[i].zone s.objects[i].owner ((listM s s.objects[i].zone s.objects[i].owner).filter fun x=>x != s.objects[i].id)) z p:=rfl
 rw [e]
 have keep:¬ sameP s.objects[i].zone s.objects[i].owner z p→listM s z p=(listM s z p).filter fun x=>x != s.objects[i].id:=fun hs=>by
  refine (List.filter_eq_self.2 fun x hx=>?_).symm
  obtain ⟨o,ho,h1,h2,h3⟩:=h.lst z p x hx
  rw [bne_iff_ne]
  intro e
  have:=uniqO h.srt ho hm (h1.trans e)
  subst this
  refine hs ⟨h2,?_⟩
  rw [h2]
  rcases h3 with h3|h3|h3
  ·exact .inl h3
  ·exact .inr (.inl h3)
  ·exact .inr (.inr h3)
 by_cases h5:s.objects[i].zone=5
 ·rw [h5]
  have e5:∀ l,setM s 5 s.objects[i].owner l=s:=fun l=>by
   unfold setM
   rw [if_neg (by decide),if_neg (by decide)]
   split
   ·rfl
   ·split
    ·rename_i x hx
     have:setP x 5 l=x:=rfl
     rw [this]
     have:s.players.set s.objects[i].owner.toNat x=s.players:=set_eq_self hx
     rw [this]
    ·rfl
  rw [e5]
  refine (List.filter_eq_self.2 fun x hx=>?_).symm
  obtain ⟨o,ho,h1,h2,h3⟩:=h.lst z p x hx
  rw [bne_iff_ne]
  intro e
  have:=uniqO h.srt ho hm (h1.trans e)
  subst this
  rw [h5] at h2
  rcases listM_cases s z p with e|⟨rfl,e⟩|⟨rfl,e⟩|⟨j,hj,rfl,⟨rfl,e⟩|⟨rfl,e⟩|⟨rfl,e⟩⟩
  ·rw [e] at hx;cases hx
  all_goals omega
 ·rw [listM_setM _ _ _ _ _ _ (by omega)]
  split
  ·rename_i hs
   obtain ⟨h1,h2⟩:=hs
   have:listM s s.objects[i].zone s.objects[i].owner=listM s z p:=by
    rw [h1] at h2 ⊢
    rcases h2 with rfl|rfl|rfl
    ·rw [listM_bf,listM_bf]
    ·rw [listM_ex,listM_ex]
    ·rfl
   rw [this]
  ·rename_i hs
   exact keep hs
theorem _root_.Cg.Val.rem (h:Val q c s) {i:Nat} (hi:i < s.objects.length):Val q c (remM s s.objects[i].id i s.objects[i]):=by
 have hl:=rem_lists h hi
 obtain ⟨b,x,pl,e,hlen,hpl⟩:=setM_form s s.objects[i].zone s.objects[i].owner ((listM s s.objects[i].zone s.objects[i].owner).filter fun y=>y != s.objects[i].id)
 have hT:remM s s.objects[i].id i s.objects[i]={ s with battlefield:=b,exile:=x,players:=pl,objects:=s.objects.take i++s.objects.drop (i+1),stack:=s.stack.filter (keepM s.objects[i].id) }:=by
  unfold remM
  rw [e]
 rw [hT] at hl ⊢
 have hm:=List.getElem_mem hi
 have hout:=fun y=>out_iff h.srt hi (x:=y)
 refine ⟨h.nid,h.nst,?_,by rw [hlen];exact h.npl,sc_form hlen h.sc,hpl h.ply,h.srt.sublist (out_sub i),fun o ho=>?_,fun z p id hid=>?_,fun z p=>by rw [hl];exact List.Pairwise.filter _ (h.nod z p),fun o ho h5=>?_,fun o ho h5=>?_,?_,List.Pairwise.filter _ h.stk,fun y hy=>?_,⟨h.wt.1,fun y hy=>by rw [waitOk_n (s:=s) hlen];exact h.wt.2 y hy⟩,h.cts.1,fun y hy=>contOk_n (s:=s) (by exact hlen) (by exact Int.le_refl _) (h.cts.2 y hy)⟩
 ·have:=h.nobj
  simp only [List.length_append,List.length_take,List.length_drop]
  omega
 ·rw [hlen]
  exact h.obj o ((hout o).1 ho).1
 ·rw [hl] at hid
  obtain ⟨h1,h2⟩:=List.mem_filter.1 hid
  obtain ⟨o,g1,g2,g3⟩:=h.lst z p id h1
  rw [bne_iff_ne] at h2
  exact ⟨o,(hout o).2 ⟨g1,by rw [g2];exact h2⟩,g2,g3⟩
 ·obtain ⟨h1,h2⟩:=(hout o).1 ho
  rw [hl]
  exact List.mem_filter.2 ⟨h.plc o h1 h5,by rw [bne_iff_ne];exact h2⟩
 ·obtain ⟨h1,h2⟩:=(hout o).1 ho
  obtain ⟨y,hy,g1,g2⟩:=h.plc5 o h1 h5
  refine ⟨y,List.mem_filter.2 ⟨hy,?_⟩,g1,g2⟩
  unfold keepM
  rw [g2,Bool.or_eq_true]
  exact .inr (by rw [bne_iff_ne];exact h2)
 ·have:=h.nstk
  have:=List.length_filter_le (keepM s.objects[i].id) s.stack
  show ((s.stack.filter (keepM s.objects[i].id)).length:Int)≤64
  omega
 ·obtain ⟨hy,hk⟩:=List.mem_filter.1 hy
  obtain ⟨h1,⟨h2,h3,h4⟩,h5⟩:=h.itm y hy
  refine ⟨h1,⟨h2,h3,by rw [plM_n (s:=s) hlen];exact h4⟩,?_⟩
  rcases h5 with ⟨g1,g2,⟨o,g3,g4,g5⟩,g6⟩|⟨g1,g2,g3⟩
  ·refine .inl ⟨g1,g2,⟨o,(hout o).2 ⟨g3,?_⟩,g4,g5⟩,g6⟩
   unfold keepM at hk
   rw [g1] at hk
   simp at hk
   rw [g4]
   exact hk
  ·exact .inr ⟨g1,fun o ho=>g2 o ((hout o).1 ho).1,g3⟩
theorem _root_.Cg.Val.add {s':GState} (h:Val q c s) (x:GObject) (hn:s.nextId+1≤1000000∧s.nextStamp+1≤1000000) (e1:s'.nextId=s.nextId+1) (e2:s'.nextStamp=s.nextStamp+1) (eo:s'.objects=s.objects++[x]) (hl:s.objects.length+1≤2048) (ep:s'.players.length=s.players.length) (hp:∀ p∈s'.players,plyN p=true) (hsc:scM s'=true) (est:s'.stack=s.stack) (ew:s'.waiting=s.waiting) (ec:s'.conts=s.conts) (hx:objOk x c s.players.length=true∧x.id=s.nextId∧x.stamp=s.nextStamp∧x.zone≠5)
  (hL:∀ z p,(listM s' z p).Perm (if sameP x.zone x.owner z p then x.id :: listM s z p else listM s z p)):Val q c s':=by
 obtain ⟨hx1,hx2,hx3,hx5⟩:=hx
 have h0:=h.nid
 have h1:=h.nst
 have hold:∀ z p id,id∈listM s z p→id < s.nextId:=fun z p id hid=>by
  obtain ⟨o,ho,g1,_⟩:=h.lst z p id hid
  rw [← g1]
  exact (h.obj o ho).2.1
 refine ⟨by omega,by omega,by rw [eo,List.length_append];simp;omega,by rw [ep];exact h.npl,hsc,hp,?_,fun o ho=>?_,fun z p id hid=>?_,fun z p=>?_,fun o ho h5=>?_,fun o ho h5=>?_,by rw [est];exact h.nstk,by rw [est];exact h.stk,fun y hy=>?_,?_,?_⟩
 ·rw [eo,List.pairwise_append]
  refine ⟨h.srt,List.pairwise_singleton _ _,fun a ha b hb=>?_⟩
  rw [List.mem_singleton.1 hb,hx2]
  exact (h.obj a ha).2.1
 ·rw [ep,e1,e2]
  rw [eo] at ho
  rcases List.mem_append.1 ho with ho|ho
  ·have:=h.obj o ho
   exact ⟨this.1,by omega,by omega⟩
  ·rw [List.mem_singleton.1 ho]
   exact ⟨hx1,by omega,by omega⟩
 ·rw [eo]
  have hid:=(hL z p).mem_iff.1 hid
  have old:id∈listM s z p→∃ o∈s.objects++[x],o.id=id∧o.zone=z∧(z=0∨z=4∨o.owner=p):=fun hid=>by
   obtain ⟨o,ho,g⟩:=h.lst z p id hid
   exact ⟨o,List.mem_append_left _ ho,g⟩
  split at hid
  ·rename_i hs
   rcases List.mem_cons.1 hid with rfl|hid
   ·refine ⟨x,List.mem_append_right _ List.mem_cons_self,rfl,hs.1,?_⟩
    rw [← hs.1]
    exact hs.2
   ·exact old hid
  ·exact old hid
 ·refine (hL z p).nodup_iff.2 ?_
  split
  ·exact List.nodup_cons.2 ⟨fun hm=>by have:=hold z p _ hm;omega,h.nod z p⟩
  ·exact h.nod z p
 ·rw [eo] at ho
  refine (hL _ _).mem_iff.2 ?_
  rcases List.mem_append.1 ho with ho|ho
  ·have:=h.plc o ho h5
   split
   ·exact List.mem_cons_of_mem _ this
   ·exact this
  ·rw [List.mem_singleton.1 ho,if_pos ⟨rfl,.inr (.inr rfl)⟩]
   exact List.mem_cons_self
 ·rw [est]
  rw [eo] at ho
  rcases List.mem_append.1 ho with ho|ho
  ·exact h.plc5 o ho h5
  ·rw [List.mem_singleton.1 ho] at h5
   exact absurd h5 hx5
 ·rw [est] at hy
  obtain ⟨h1,⟨h2,h3,h4⟩,h5⟩:=h.itm y hy
  refine ⟨by rw [e1];omega,⟨h2,h3,by rw [plM_n (s:=s) ep];exact h4⟩,?_⟩
  rw [eo]
  rcases h5 with ⟨g1,g2,⟨o,g3,g4⟩,g6⟩|⟨g1,g2,g3⟩
  ·exact .inl ⟨g1,g2,⟨o,List.mem_append_left _ g3,g4⟩,g6⟩
  ·refine .inr ⟨g1,fun o ho=>?_,g3⟩
   rcases List.mem_append.1 ho with ho|ho
   ·exact g2 o ho
   ·rw [List.mem_singleton.1 ho]
    omega
 ·rw [ew]
  exact ⟨h.wt.1,fun y hy=>by rw [waitOk_n (s:=s) ep];exact h.wt.2 y hy⟩
 ·rw [ec]
  exact ⟨h.cts.1,fun y hy=>contOk_n (s:=s) ep (by omega) (h.cts.2 y hy)⟩
end
theorem uncO_f (k:Int) (o:GObject):(uncO k o).id=o.id∧(uncO k o).zone=o.zone∧(uncO k o).owner=o.owner∧(uncO k o).stamp=o.stamp∧(uncO k o).token=o.token∧(uncO k o).card=o.card:=by
 unfold uncO
 split <;> exact ⟨rfl,rfl,rfl,rfl,rfl,rfl⟩
theorem fidx_mapi (l:List GObject) (id:Int) (g:GObject→GObject) (hg:∀ o,(g o).id=o.id):(l.map g).findIdx? (fun o=>o.id==id)=l.findIdx? (fun o=>o.id==id):=by
 rw [List.findIdx?_map]
 congr 1
 funext o
 simp [hg]
theorem insM_map (l:List GObject) (x:GObject) (g:GObject→GObject) (hg:∀ o,(g o).id=o.id) (hx:g x=x):insM (l.map g) x=(insM l x).map g:=by
 unfold insM
 have e:((l.map g).takeWhile fun y=>decide (y.id < x.id)).length=(l.takeWhile fun y=>decide (y.id < x.id)).length:=by
  rw [List.takeWhile_map,Lm]
  congr 2
  funext o
  simp [hg]
 rw [e,List.map_append,List.map_append,List.map_take,List.map_drop,List.map_cons,hx,List.map_nil]
theorem putL_map1 (l:List GObject) (x:GObject) (g:GObject→GObject) (hg:∀ o,(g o).id=o.id) (hx:g x=x):putL (l.map g) x=(putL l x).map g:=by
 unfold putL
 rw [fidx_mapi l x.id g hg]
 split
 ·rw [List.map_set,hx]
 ·exact insM_map l x g hg hx
theorem put_unc (s:GState) (x:GObject) (k:Int) (hx:x.blocks=0):putM (uncM s k) x=uncM (putM s x) k:=by
 have hx2:uncO k x=x:=by
  unfold uncO
  split
  ·rw [← hx]
  ·rfl
 unfold putM uncM
 rw [show ({ s with objects:=s.objects.map (uncO k) }:GState).objects=s.objects.map (uncO k) from rfl,putL_map1 _ _ _ (fun o=>(uncO_f k o).1) hx2]
theorem setM_ob (s:GState) (l:List GObject) (z p:Int) (r:List Int):setM { s with objects:=l } z p r={ setM s z p r with objects:=l }:=by
 unfold setM
 by_cases h0:(z==0)=true
 ·rw [if_pos h0,if_pos h0]
 by_cases h4:(z==4)=true
 ·rw [if_neg h0,if_neg h0,if_pos h4,if_pos h4]
 by_cases hp:p < 0∨(s.players.length:Int)≤p
 ·rw [if_neg h0,if_neg h0,if_neg h4,if_neg h4,if_pos hp,if_pos hp]
 ·rw [if_neg h0,if_neg h0,if_neg h4,if_neg h4,if_neg hp,if_neg hp]
  cases s.players[p.toNat]? with
  | none=>rfl
  | some q=>rfl
theorem rem_unc (s:GState) (id:Int) (i:Nat) (o:GObject) (k:Int):remM (uncM s k) id i (uncO k o)=uncM (remM s id i o) k:=by
 obtain ⟨_,h2,h3,_⟩:=uncO_f k o
 unfold remM uncM
 rw [h2,h3,setM_ob]
 simp only [List.map_append,List.map_take,List.map_drop]
 rfl
theorem end_unc (s:GState) (x:GObject) (z:Int) (b:Bool) (k:Int):mvEnd (uncM s k) x z b=uncM (mvEnd s x z b) k:=by
 have e:listM (uncM s k) z x.owner=listM s z x.owner:=rfl
 unfold mvEnd
 rw [e]
 generalize (if (z==2&&!b)=true then x.id :: listM s z x.owner else listM s z x.owner++[x.id])=L
 unfold uncM
 rw [setM_ob,show (mvFin (setM s z x.owner L)).objects=s.objects from setM_objects s z x.owner L]
 rfl
theorem found_unc (s:GState) (id z p:Int) (b:Bool) (i:Nat) (o:GObject) (k:Int):mvFound (uncM s k) id z p b i (uncO k o)=(uncM (mvFound s id z p b i o).1 k,(mvFound s id z p b i o).2):=by
 obtain ⟨_,_,h3,_,h5,h6⟩:=uncO_f k o
 unfold mvFound
 rw [h5]
 split
 ·rfl
 split
 ·rw [rem_unc]
 ·have hn:mvNew (remM (uncM s k) id i (uncO k o)) (uncO k o) z p=mvNew (remM s id i o) o z p:=by
   rw [rem_unc]
   unfold mvNew movedM
   rw [h3,h5,h6]
   rfl
  rw [hn,rem_unc,put_unc _ _ _ rfl,end_unc]
theorem move_unc (s:GState) (id z p:Int) (b:Bool) (k:Int):moveM (uncM s k) id z p b=(uncM (moveM s id z p b).1 k,(moveM s id z p b).2):=by
 unfold moveM
 rw [show (uncM s k).objects=s.objects.map (uncO k) from rfl,fidx_mapi _ _ _ fun o=>(uncO_f k o).1]
 split
 ·rfl
 ·rename_i i hi
  rw [List.getElem?_map]
  cases ho:s.objects[i]? with
  | none=>rfl
  | some o=>exact found_unc s id z p b i o k
theorem has_map (l:List GObject) (id:Int) (g:GObject→GObject) (hg:∀ o,(g o).id=o.id):hasM (l.map g) id=hasM l id:=by
 unfold hasM
 rw [List.find?_map,Option.isSome_map]
 congr 2
 funext o
 simp [hg]
theorem find_mapi (l:List GObject) (id:Int) (g:GObject→GObject) (hg:∀ o,(g o).id=o.id) (h:hasM l id=true):findM (l.map g) id=g (findM l id):=by
 unfold hasM at h
 unfold findM
 rw [List.find?_map]
 have e:((fun o:GObject=>o.id==id) ∘ g)=fun o=>o.id==id:=by
  funext o
  simp [hg]
 rw [e]
 cases hf:l.find? fun o=>o.id==id with
 | none=>rw [hf] at h;cases h
 | some o=>rfl
theorem has_idx {l:List GObject} {id:Int} (h:hasM l id=true):∃ (i:Nat) (hi:i < l.length),l.findIdx? (fun o=>o.id==id)=some i∧findM l id=l[i]∧l[i].id=id:=by
 have hm:=findM_mem h
 unfold hasM at h
 unfold findM at hm ⊢
 rcases fidx_cases (fun o:GObject=>o.id==id) l with ⟨_,_,e⟩|⟨i,hi,_,e1,e2⟩
 ·rw [e] at h;cases h
 ·rw [e2] at hm ⊢
  exact ⟨i,hi,e1,rfl,hm.2⟩
theorem arr_unc (s:GState) (id:Int) (e:GEvent) (k:Int):arrM (uncM s k) id e=uncM (arrM s id e) k:=by
 have hg:∀ o,(uncO k o).id=o.id:=fun o=>(uncO_f k o).1
 unfold arrM
 rw [show (uncM s k).objects=s.objects.map (uncO k) from rfl,has_map _ _ _ hg]
 by_cases h:hasM s.objects id=true
 ·rw [if_pos h,if_pos h,find_mapi _ _ _ hg h]
  obtain ⟨i,hi,e1,e2,e3⟩:=has_idx h
  have e4:entM e (uncO k (findM s.objects id))=uncO k (entM e (findM s.objects id)):=by
   unfold uncO
   rw [show (entM e (findM s.objects id)).blocks=(findM s.objects id).blocks from rfl]
   split <;> rfl
  rw [e4]
  unfold putM uncM
  simp only
  congr 1
  unfold putL
  have e5:(entM e (findM s.objects id)).id=id:=by rw [e2];exact e3
  rw [hg,e5,fidx_mapi _ _ _ hg,e1]
  simp only [List.map_set]
 ·rw [if_neg h,if_neg h]
theorem mvP_eq (s:GState) (e:GEvent):mvP s e=mvR s e:=by
 unfold mvP mvR
 by_cases hf:e.from_=0
 ·simp only [if_pos hf,move_unc]
  by_cases ht:e.to_=0
  ·simp only [if_pos ht,arr_unc]
  ·simp only [if_neg ht]
 ·simp only [if_neg hf]
theorem ev_eq {cards:List GCard} {s:GState} {e:GEvent} (h0:hasM s.objects 0=false):evP cards s e=evM cards s e:=by
 unfold evP
 by_cases hk:e.kind=1
 ·rw [if_pos hk]
  unfold evM
  rw [if_pos hk]
  by_cases ho:e.object=0
  ·rw [if_pos ho,ho]
   unfold hereM
   rw [h0]
   simp
  ·rw [if_neg ho]
   have:(e.object==0)=false:=by simpa using ho
   rw [this]
   simp
 ·rw [if_neg hk]
section
variable {q:Opq} {c:Int} {s:GState}
theorem clamp_range (n:Int):-1000000≤clampM n∧clampM n≤1000000:=by
 unfold clampM
 split
 ·omega
 split <;> omega
theorem cup_range (a b:Int):0≤cupM a b∧cupM a b≤1000000:=by
 have:=clamp_range (clampM a+clampM b)
 unfold cupM addM
 split <;> omega
theorem clamp_eq {n:Int} (h0:-1000000≤n) (h1:n≤1000000):clampM n=n:=by
 unfold clampM
 rw [if_neg (by omega),if_neg (by omega)]
theorem zr:(0:Int)≤0∧(0:Int)≤1000000:=by decide
structure ObjV (c n:Int) (o:GObject):Prop where
 id:1≤o.id
 card:0≤o.card∧o.card < c
 own:0≤o.owner∧o.owner < n
 ctl:0≤o.control∧o.control < n
 zone:0≤o.zone∧o.zone≤5
 dmg:0≤o.damage∧o.damage≤1000000
 stamp:0≤o.stamp∧o.stamp≤1000000
 blocks:0≤o.blocks∧o.blocks≤1000000
 shield:0≤o.shield∧o.shield≤1000000
 c0:0≤o.counters0∧o.counters0≤1000000
 c1:0≤o.counters1∧o.counters1≤1000000
 c2:0≤o.counters2∧o.counters2≤1000000
 copy:-1≤o.copy∧o.copy < c
 att:-1≤o.attack∧o.attack < n
 rest:o.zone=0∨restOk o=true
theorem objV_iff {c n:Int} {o:GObject}:objOk o c n=true↔ObjV c n o:=by
 unfold objOk cntOk
 simp only [Bool.and_eq_true,Bool.or_eq_true,Bool.not_eq_true',decide_eq_false_iff_not,beq_iff_eq]
 refine ⟨fun ⟨⟨a1,a2,a3,a4,a5,a6,a7,a8,a9⟩,⟨b1,b2,b3,b4,b5,b6,b7,b8⟩,⟨⟨⟨c1,c2⟩,⟨c3,c4⟩,c5,c6⟩,d1,d2,d3,d4⟩,r⟩=>?_,fun h=>?_⟩
 ·exact ⟨by omega,by omega,by omega,by omega,by omega,by omega,by omega,by omega,by omega,by omega,by omega,by omega,by omega,by omega,r⟩
 ·obtain ⟨h1,h2,h3,h4,h5,h6,h7,h8,h9,k1,k2,k3,k4,k5,k6⟩:=h
  exact ⟨⟨by omega,by omega,by omega,by omega,by omega,by omega,by omega,by omega,by omega⟩,⟨by omega,by omega,by omega,by omega,by omega,by omega,by omega,by omega⟩,⟨⟨⟨by omega,by omega⟩,⟨by omega,by omega⟩,by omega,by omega⟩,by omega,by omega,by omega,by omega⟩,k6⟩
theorem putL_map {l:List GObject} (hs:l.Pairwise fun a b=>a.id < b.id) {o o':GObject} (ho:o∈l) (e:o'.id=o.id):putL l o'=l.map fun y=>if y.id=o.id then o' else y:=by
 obtain ⟨i,hi,e1,_,e3⟩:=has_idx (hasM_iff.2 ⟨o,ho,rfl⟩)
 unfold putL
 rw [e,e1]
 refine List.ext_getElem? fun j=>?_
 rw [List.getElem?_map]
 by_cases hj:i=j
 ·subst hj
  rw [List.getElem?_set_self hi,List.getElem?_eq_getElem hi]
  simp only [Option.map_some]
  rw [if_pos e3]
 ·rw [List.getElem?_set_ne hj]
  cases hq:l[j]? with
  | none=>rfl
  | some y=>
   obtain ⟨hjl,rfl⟩:=List.getElem?_eq_some_iff.1 hq
   have:¬ l[j].id=o.id:=fun e=>by
    have hp:=List.pairwise_iff_getElem.1 hs
    rcases Nat.lt_or_gt_of_ne hj with h|h
    ·have:=hp i j hi hjl h;omega
    ·have:=hp j i hjl hi h;omega
   simp only [Option.map_some]
   rw [if_neg this]
theorem put_val (h:Val q c s) {o o':GObject} (ho:o∈s.objects) (e:o'.id=o.id∧o'.zone=o.zone∧o'.owner=o.owner∧o'.stamp=o.stamp) (hok:ObjV c s.players.length o'):Val q c (putM s o'):=by
 unfold putM
 rw [putL_map h.srt ho e.1]
 refine h.map _ fun y hy=>?_
 split
 ·rename_i hid
  have:=uniqO h.srt hy ho hid
  subst this
  exact ⟨e.1,e.2.1,e.2.2.1,e.2.2.2,objV_iff.2 hok⟩
 ·exact ⟨rfl,rfl,rfl,rfl,(h.obj y hy).1⟩
theorem obj_val {o:GObject} (h:Val q c s) (ho:o∈s.objects):ObjV c s.players.length o:=objV_iff.1 (h.obj o ho).1
theorem unc_val (h:Val q c s) (k:Int):Val q c (uncM s k):=h.map _ fun o ho=>by
 obtain ⟨h1,h2,h3,h4,_⟩:=uncO_f k o
 refine ⟨h1,h2,h3,h4,?_⟩
 have hv:=obj_val h ho
 unfold uncO
 split
 ·obtain ⟨g1,g2,g3,g4,g5,g6,g7,g8,g9,k1,k2,k3,k4,k5,k6⟩:=hv
  refine objV_iff.2 ⟨g1,g2,g3,g4,g5,g6,g7,zr,g9,k1,k2,k3,k4,k5,k6.imp id fun hr=>?_⟩
  unfold restOk at *
  simp only [Bool.and_eq_true] at *
  obtain ⟨a,b,_,d⟩:=hr
  exact ⟨a,b,rfl,d⟩
 ·exact objV_iff.2 hv
theorem ent_val {n:Int} {o:GObject} (hv:ObjV c n o) (h0:o.zone=0) (e:GEvent):ObjV c n (entM e o):=by
 obtain ⟨g1,g2,g3,g4,g5,g6,g7,g8,g9,k1,k2,k3,k4,k5,k6⟩:=hv
 exact ⟨g1,g2,g3,g4,g5,g6,g7,g8,g9,cup_range _ _,cup_range _ _,cup_range _ _,k4,k5,.inl h0⟩
theorem arr_val (h:Val q c s) (id:Int) (e:GEvent) (h0:hasM s.objects id=true→(findM s.objects id).zone=0):Val q c (arrM s id e):=by
 unfold arrM
 by_cases hh:hasM s.objects id=true
 ·rw [if_pos hh]
  have hm:=(findM_mem hh).1
  exact put_val h hm ⟨rfl,rfl,rfl,rfl⟩ (ent_val (obj_val h hm) (h0 hh) e)
 ·rw [if_neg hh]
  exact h
theorem putL_end {l:List GObject} {x:GObject} (h:∀ y∈l,y.id < x.id):putL l x=l++[x]:=by
 unfold putL
 have e:l.findIdx? (fun y=>y.id==x.id)=none:=List.findIdx?_eq_none_iff.2 fun y hy=>by
  have:=h y hy
  simp only [beq_eq_false_iff_ne,ne_eq]
  omega
 rw [e]
 show insM l x=_
 unfold insM
 have e2:(l.takeWhile fun y=>decide (y.id < x.id)).length=l.length:=takeWhile_len _ l l.length (Nat.le_refl _) (fun j hj _=>decide_eq_true (h _ (List.getElem_mem hj))) (.inl rfl)
 rw [e2,List.take_length,List.drop_length,List.append_nil]
theorem new_val {n id card p z st:Int} (h1:1≤id) (h2:0≤card∧card < c) (h3:0≤p∧p < n) (h4:0≤z∧z≤4) (h5:0≤st∧st≤1000000) (tk:Bool) (ct:Int) (h6:0≤ct∧ct < n):ObjV c n { newM id card p z st with token:=tk,control:=ct,sick:=z==0 }:=by
 refine ⟨h1,h2,h3,h6,⟨h4.1,show z≤5 by omega⟩,zr,h5,zr,zr,zr,zr,zr,⟨Int.le_refl _,show (-1:Int) < c by omega⟩,⟨Int.le_refl _,show (-1:Int) < n by omega⟩,?_⟩
 by_cases hz:z=0
 ·exact .inl hz
 ·right
  have:(z==0)=false:=by simpa using hz
  unfold restOk newM zeroObj
  simp only [this]
  rfl
theorem next_rem (i:Nat) (o:GObject) (id:Int):(remM s id i o).nextId=s.nextId∧(remM s id i o).nextStamp=s.nextStamp∧(remM s id i o).players.length=s.players.length:=by
 obtain ⟨b,x,pl,e,hlen,_⟩:=setM_form s o.zone o.owner ((listM s o.zone o.owner).filter fun y=>y != id)
 unfold remM
 rw [e]
 exact ⟨rfl,rfl,hlen⟩
structure MoveV (q:Opq) (c:Int) (s:GState) (z:Int) (r:GState × Int):Prop where
 val:Val q c r.1
 nid:s.nextId≤r.1.nextId∧r.1.nextId≤s.nextId+1
 fnd:hasM r.1.objects r.2=true→(findM r.1.objects r.2).zone=z
theorem move_val (h:Val q c s) (id z p:Int) (b:Bool) (hid:hasM s.objects id=true) (hz:0≤z∧z≤4) (hp:0≤p∧p < s.players.length) (hn:s.nextId+1≤1000000∧s.nextStamp+1≤1000000):MoveV q c s z (moveM s id z p b):=by
 obtain ⟨i,hi,e1,_,rfl⟩:=has_idx hid
 have hv:=obj_val h (List.getElem_mem hi)
 have hR:=h.rem hi
 obtain ⟨n1,n2,n3⟩:=next_rem (s:=s) i s.objects[i] s.objects[i].id
 have n4:(remM s s.objects[i].id i s.objects[i]).objects.length+1=s.objects.length:=by
  show (s.objects.take i++s.objects.drop (i+1)).length+1=_
  simp only [List.length_append,List.length_take,List.length_drop]
  omega
 unfold moveM
 rw [e1]
 simp only [List.getElem?_eq_getElem hi]
 unfold mvFound
 rw [if_neg (by omega)]
 generalize remM s s.objects[i].id i s.objects[i]=R at *
 have h1:=hR.nid
 have h2:=hR.nst
 split
 ·refine ⟨hR,⟨by show s.nextId≤R.nextId;omega,by show R.nextId≤s.nextId+1;omega⟩,fun hh=>?_⟩
  obtain ⟨o,ho,e⟩:=hasM_iff.1 hh
  have h3:=(obj_val hR ho).id
  have e:o.id=0:=e
  omega
 ·obtain ⟨x,hx⟩:∃ x,x=mvNew R s.objects[i] z p:=⟨_,rfl⟩
  rw [← hx]
  have hxv:ObjV c R.players.length x:=by
   rw [hx,n3]
   refine new_val h1.1 hv.card hv.own hz ⟨by omega,by omega⟩ _ _ ?_
   have:=hv.own
   split <;> omega
  have x1:x.id=R.nextId:=by rw [hx];rfl
  have x2:x.stamp=R.nextStamp:=by rw [hx];rfl
  have x3:x.zone=z:=by rw [hx];rfl
  have x4:x.owner=s.objects[i].owner:=by rw [hx];rfl
  have hall:∀ y∈R.objects,y.id < x.id:=fun y hy=>by rw [x1];exact (hR.obj y hy).2.1
  have hput:putL R.objects x=R.objects++[x]:=putL_end hall
  unfold mvEnd
  generalize hL:(if (z==2&&!b)=true then x.id :: listM (putM R x) z x.owner else listM (putM R x) z x.owner++[x.id])=L
  have hLp:L.Perm (x.id :: listM R z x.owner):=by
   rw [← hL]
   split
   ·exact .refl _
   ·exact List.perm_append_singleton _ _
  obtain ⟨bf,ex,pl,e,hlen,hpl⟩:=setM_form (putM R x) z x.owner L
  have hw:∀ n:Int,1≤n→n≤1000000→IntKind.i64.wrap (n+1)=n+1:=fun n _ _=>by rw [IntKind.wrap_i64];omega
  have hT:mvFin (setM (putM R x) z x.owner L)={ R with battlefield:=bf,exile:=ex,players:=pl,objects:=R.objects++[x],nextId:=R.nextId+1,nextStamp:=R.nextStamp+1 }:=by
   rw [e]
   unfold mvFin putM
   simp only [hput,hw _ h1.1 h1.2,hw _ h2.1 h2.2]
  have hval:Val q c (mvFin (setM (putM R x) z x.owner L)):=by
   have hlists:∀ z' p',listM (mvFin (setM (putM R x) z x.owner L)) z' p'=listM (setM (putM R x) z x.owner L) z' p':=fun _ _=>rfl
   refine hR.add x ⟨by omega,by omega⟩ ?_ ?_ ?_ ?_ ?_ ?_ ?_ ?_ ?_ ?_ ⟨objV_iff.2 hxv,x1,x2,by omega⟩ fun z' p'=>?_
   ·rw [hT]
   ·rw [hT]
   ·rw [hT]
   ·have:=h.nobj
    omega
   ·rw [hT];exact hlen
   ·rw [hT];exact hpl hR.ply
   ·rw [hT];exact sc_form hlen hR.sc
   ·rw [hT]
   ·rw [hT]
   ·rw [hT]
   ·rw [hlists,listM_setM _ _ _ _ _ _ (by have:=hxv.own;have:(putM R x).players.length=R.players.length:=rfl;omega),x3]
    split
    ·rename_i hs
     have:listM R z x.owner=listM R z' p':=by
      obtain ⟨rfl,hs⟩:=hs
      rcases hs with rfl|rfl|rfl
      ·rw [listM_bf,listM_bf]
      ·rw [listM_ex,listM_ex]
      ·rfl
     rw [← this]
     exact hLp
    ·exact .refl _
  refine ⟨hval,?_,fun hh=>?_⟩
  ·show s.nextId≤(mvFin (setM (putM R x) z x.owner L)).nextId∧(mvFin (setM (putM R x) z x.owner L)).nextId≤s.nextId+1
   rw [hT]
   exact ⟨show s.nextId≤R.nextId+1 by omega,show R.nextId+1≤s.nextId+1 by omega⟩
  ·have hm:x∈(mvFin (setM (putM R x) z x.owner L)).objects:=by
    rw [hT]
    exact List.mem_append_right _ List.mem_cons_self
   show (findM (mvFin (setM (putM R x) z x.owner L)).objects x.id).zone=z
   rw [findM_of hval.srt hm]
   exact x3
end
section
variable {q:Opq} {c:Int} {s:GState}
theorem zero_no (h:Val q c s):hasM s.objects 0=false:=by
 rw [← Bool.not_eq_true,hasM_iff]
 rintro ⟨o,ho,e⟩
 have:=(obj_val h ho).id
 omega
structure StepV (q:Opq) (c k:Int) (s t:GState):Prop where
 val:Val q c t
 nid:s.nextId≤t.nextId∧t.nextId≤s.nextId+k
theorem StepV.refl (h:Val q c s) {k:Int} (hk:0≤k):StepV q c k s s:=⟨h,Int.le_refl _,by omega⟩
theorem arr_ids (id:Int) (e:GEvent):(arrM s id e).nextId=s.nextId∧(arrM s id e).nextStamp=s.nextStamp∧(arrM s id e).players=s.players:=by
 unfold arrM
 split <;> exact ⟨rfl,rfl,rfl⟩
theorem mv_val (h:Val q c s) (e:GEvent) (hid:hasM s.objects e.object=true) (hz:0≤e.to_∧e.to_≤4) (hp:0≤e.player∧e.player < s.players.length) (hn:s.nextId+1≤1000000∧s.nextStamp+1≤1000000):StepV q c 1 s (mvR s e):=by
 obtain ⟨s0,hs0⟩:∃ s0,s0=(if e.from_=0 then uncM s e.object else s):=⟨_,rfl⟩
 have h0:Val q c s0∧hasM s0.objects e.object=true∧s0.nextId=s.nextId∧s0.nextStamp=s.nextStamp∧s0.players=s.players:=by
  rw [hs0]
  split
  ·exact ⟨unc_val h _,by rw [show (uncM s e.object).objects=s.objects.map (uncO e.object) from rfl,has_map _ _ _ fun o=>(uncO_f _ o).1];exact hid,rfl,rfl,rfl⟩
  ·exact ⟨h,hid,rfl,rfl,rfl⟩
 obtain ⟨h1,h2,h3,h4,h5⟩:=h0
 have hm:=move_val h1 e.object e.to_ e.player (e.amount==1) h2 hz (by rw [h5];exact hp) (by omega)
 have hnid:=hm.nid
 unfold mvR
 rw [← hs0]
 simp only
 split
 ·rename_i ht
  refine ⟨arr_val hm.val _ _ fun hh=>by rw [hm.fnd hh,ht],?_⟩
  rw [(arr_ids _ _).1]
  omega
 ·exact ⟨hm.val,by omega⟩
theorem make_val (h:Val q c s) (card p:Int) (hc:0≤card∧card < c) (hp:0≤p∧p < s.players.length) (hl:(s.objects.length:Int) < 2048) (hn:s.nextId+1≤1000000∧s.nextStamp+1≤1000000):MoveV q c s 0 (makeM s card p)∧(makeM s card p).1.nextStamp=s.nextStamp+1∧(makeM s card p).1.players=s.players:=by
 have h1:=h.nid
 have h2:=h.nst
 obtain ⟨x,hx⟩:∃ x,x=({ newM s.nextId card p 0 s.nextStamp with token:=true,sick:=true }:GObject):=⟨_,rfl⟩
 have hxv:ObjV c s.players.length x:=by
  have:=new_val (z:=0) h1.1 hc hp (by omega) ⟨by omega,by omega⟩ true p hp (st:=s.nextStamp)
  rw [hx]
  exact this
 have x1:x.id=s.nextId:=by rw [hx];rfl
 have x2:x.stamp=s.nextStamp:=by rw [hx];rfl
 have x3:x.zone=0:=by rw [hx];rfl
 have hput:putL s.objects x=s.objects++[x]:=putL_end fun y hy=>by rw [x1];exact (h.obj y hy).2.1
 have hw:∀ n:Int,1≤n→n≤1000000→IntKind.i64.wrap (n+1)=n+1:=fun n _ _=>by rw [IntKind.wrap_i64];omega
 have hT:makeM s card p=({ s with objects:=s.objects++[x],battlefield:=s.battlefield++[s.nextId],nextId:=s.nextId+1,nextStamp:=s.nextStamp+1 },s.nextId):=by
  unfold makeM putM
  simp only [← hx,hput,hw _ h1.1 h1.2,hw _ h2.1 h2.2]
 rw [hT]
 have hval:Val q c { s with objects:=s.objects++[x],battlefield:=s.battlefield++[s.nextId],nextId:=s.nextId+1,nextStamp:=s.nextStamp+1 }:=by
  refine h.add x hn rfl rfl rfl (by omega) rfl h.ply (sc_form rfl h.sc) rfl rfl rfl ⟨objV_iff.2 hxv,x1,x2,by omega⟩ fun z' p'=>?_
  rw [x3,x1]
  by_cases hz:z'=0
  ·subst hz
   rw [if_pos ⟨rfl,.inl rfl⟩,listM_bf,listM_bf]
   exact List.perm_append_singleton _ _
  ·rw [if_neg fun hs=>hz hs.1.symm]
   have:listM { s with objects:=s.objects++[x],battlefield:=s.battlefield++[s.nextId],nextId:=s.nextId+1,nextStamp:=s.nextStamp+1 } z' p'=listM s z' p':=by
    unfold listM
    rw [if_neg (show ¬ (z'==0)=true by simpa using hz),if_neg (show ¬ (z'==0)=true by simpa using hz)]
   rw [this]
 refine ⟨⟨hval,⟨show s.nextId≤s.nextId+1 by omega,Int.le_refl _⟩,fun hh=>?_⟩,rfl,rfl⟩
 have hm:x∈s.objects++[x]:=List.mem_append_right _ List.mem_cons_self
 show (findM (s.objects++[x]) s.nextId).zone=0
 rw [← x1,findM_of hval.srt hm]
 exact x3
theorem mk_val (e:GEvent) (hc:0≤e.card∧e.card < c):∀ (n:Nat) (s:GState),Val q c s→0≤e.player∧e.player < s.players.length→s.nextId+n≤1000000∧s.nextStamp+n≤1000000→StepV q c n s (mkM s e n)
 | 0,s,h,_,_=>StepV.refl h (by omega)
 | n+1,s,h,hp,hn=>by
  unfold mkM
  split
  ·rename_i hl
   obtain ⟨hm,h2,h3⟩:=make_val h e.card e.player hc hp hl (by omega)
   have h1:=hm.nid
   obtain ⟨a1,a2,a3⟩:=arr_ids (s:=(makeM s e.card e.player).1) (makeM s e.card e.player).2 e
   have:=mk_val e hc n (arrM (makeM s e.card e.player).1 (makeM s e.card e.player).2 e) (arr_val hm.val _ _ hm.fnd) (by rw [a3,h3];exact hp) (by rw [a1,a2,h2];omega)
   exact ⟨this.val,by have:=this.nid;rw [a1] at this;omega⟩
  ·exact StepV.refl h (by omega)
theorem plyN_iff {p:GPlayer}:plyN p=true↔(-1000000≤p.life∧p.life≤1000000)∧(0≤p.venom∧p.venom≤1000000)∧(0≤p.lands∧p.lands≤1000000)∧wholeM p.pool0 p.pool1 p.pool2 p.pool3 p.pool4 p.pool5=true:=by
 unfold plyN
 rw [Bool.and_eq_true,Bool.and_eq_true,Bool.and_eq_true,inM_iff,inM_iff,inM_iff]
theorem life_val (h:Val q c s) (e:GEvent) (hp:0≤e.player∧e.player < s.players.length) (ha:e.kind≠17→1≤e.amount) (hb:∀ p∈s.players,p.library.length≤1099511627776):Val q c (lifeM s e):=by
 have hlt:e.player.toNat < s.players.length:=by omega
 have hx:s.players[e.player.toNat]? = some s.players[e.player.toNat]:=List.getElem?_eq_getElem hlt
 unfold lifeM
 rw [hx]
 simp only
 generalize hxx:s.players[e.player.toNat]=x at *
 have hm:x∈s.players:=by rw [← hxx];exact List.getElem_mem hlt
 have hN:=h.ply x hm
 have hN2:=plyN_iff.1 hN
 unfold chM
 split
 ·exact h.ply1 _ _ hx (plyN_iff.2 ⟨clamp_range _,hN2.2⟩) (.refl _) (.refl _) (.refl _)
 split
 ·exact h.ply1 _ _ hx (plyN_iff.2 ⟨clamp_range _,hN2.2⟩) (.refl _) (.refl _) (.refl _)
 split
 ·rename_i h16
  refine h.ply1 _ _ hx (plyN_iff.2 ⟨hN2.1,⟨?_,(clamp_range _).2⟩,hN2.2.2⟩) (.refl _) (.refl _) (.refl _)
  show 0≤clampM (clampM x.venom+clampM e.amount)
  have h1:=hN2.2.1
  rw [clamp_eq (n:=x.venom) (by omega) (by omega)]
  have h2:=ha (by omega)
  have h3:0≤clampM e.amount:=by
   unfold clampM
   split
   ·omega
   split <;> omega
  unfold clampM at h3 ⊢
  split
  ·omega
  split <;> omega
 split
 ·exact h.ply1 _ _ hx hN (.refl _) (shufM_perm _ _ (hb x hm)) (.refl _)
 ·exact h.ply1 _ _ hx hN (.refl _) (.refl _) (.refl _)
theorem draw_val (h:Val q c s) (p:Int) (hp:0≤p∧p < s.players.length) (hn:s.nextId+1≤1000000∧s.nextStamp+1≤1000000):StepV q c 1 s (drawM s p):=by
 have hlt:p.toNat < s.players.length:=by omega
 have hx:s.players[p.toNat]? = some s.players[p.toNat]:=List.getElem?_eq_getElem hlt
 unfold drawM
 rw [hx]
 simp only
 split
 ·unfold updP
  rw [hx]
  exact ⟨h.ply1 _ s.seed hx (show plyN s.players[p.toNat]=true from h.ply _ (List.getElem_mem hlt)) (.refl _) (.refl _) (.refl _),Int.le_refl _,show s.nextId≤s.nextId+1 by omega⟩
 ·rename_i id rest hl
  have hid:id∈listM s 2 p:=by
   obtain ⟨n,rfl⟩:∃ n:Nat,p=n:=⟨p.toNat,by omega⟩
   rw [listM_lb (by omega)]
   have:(n:Int).toNat=n:=by omega
   rw [show s.players[n]=s.players[(n:Int).toNat] from rfl,hl]
   exact List.mem_cons_self
  obtain ⟨o,ho,e1,_⟩:=h.lst 2 p id hid
  have hm:=move_val h id 1 p false (hasM_iff.2 ⟨o,ho,e1⟩) (by omega) hp hn
  exact ⟨hm.val,hm.nid⟩
theorem up_range {i k a n:Int} (h:0≤a∧a≤1000000):0≤upC i k a n∧upC i k a n≤1000000:=by
 unfold upC
 split
 ·exact cup_range _ _
 ·exact h
theorem mark_f (d:Bool) (e:GEvent) (o:GObject):(markM d e o).id=o.id∧(markM d e o).zone=o.zone∧(markM d e o).owner=o.owner∧(markM d e o).stamp=o.stamp:=by
 unfold markM
 repeat' (first|exact ⟨rfl,rfl,rfl,rfl⟩|split)
theorem mark_val {n:Int} {o:GObject} (hv:ObjV c n o) (h0:o.zone=0) (d:Bool) (e:GEvent) (ha:e.kind=1→1≤e.amount) (hp:e.kind=12→0≤e.player∧e.player < n) (hs:e.kind=13→0≤e.source∧e.source≤1000000):ObjV c n (markM d e o):=by
 obtain ⟨g1,g2,g3,g4,g5,g6,g7,g8,g9,k1,k2,k3,k4,k5,k6⟩:=hv
 unfold markM
 split
 ·rename_i hk
  refine ⟨g1,g2,g3,g4,g5,⟨?_,(clamp_range _).2⟩,g7,g8,g9,k1,k2,k3,k4,k5,.inl h0⟩
  show 0≤clampM (clampM o.damage+clampM e.amount)
  have h2:=ha hk
  rw [clamp_eq (n:=o.damage) (by omega) (by omega)]
  have h3:0≤clampM e.amount:=by
   unfold clampM
   split
   ·omega
   split <;> omega
  unfold clampM at h3 ⊢
  split
  ·omega
  split <;> omega
 split
 ·exact ⟨g1,g2,g3,g4,g5,g6,g7,g8,g9,k1,k2,k3,k4,k5,.inl h0⟩
 split
 ·exact ⟨g1,g2,g3,g4,g5,g6,g7,g8,g9,k1,k2,k3,k4,k5,.inl h0⟩
 split
 ·exact ⟨g1,g2,g3,g4,g5,g6,g7,g8,g9,up_range k1,up_range k2,up_range k3,k4,k5,.inl h0⟩
 split
 ·exact ⟨g1,g2,g3,g4,g5,g6,g7,g8,g9,up_range k1,up_range k2,up_range k3,k4,k5,.inl h0⟩
 split
 ·rename_i hk
  have:=hp hk
  exact ⟨g1,g2,g3,g4,g5,g6,g7,g8,g9,k1,k2,k3,k4,⟨show -1≤e.player by omega,this.2⟩,.inl h0⟩
 split
 ·rename_i hk
  exact ⟨g1,g2,g3,g4,g5,g6,g7,hs hk,g9,k1,k2,k3,k4,k5,.inl h0⟩
 ·exact ⟨g1,g2,g3,g4,g5,g6,g7,g8,g9,k1,k2,k3,k4,k5,k6⟩
theorem here_t {id:Int} (h:hereM s id=true):hasM s.objects id=true∧(findM s.objects id).zone=0:=by
 unfold hereM at h
 rw [Bool.and_eq_true,beq_iff_eq] at h
 exact h
theorem put_here (h:Val q c s) {o o':GObject} (ho:o∈s.objects) (e:o'.id=o.id) (ez:o'.zone=o.zone) {id:Int} (hh:hereM s id=true):hereM (putM s o') id=true:=by
 obtain ⟨h1,h2⟩:=here_t hh
 have hg:∀ y:GObject,((fun y:GObject=>if y.id=o.id then o' else y) y).id=y.id:=fun y=>by
  simp only
  split
  ·rename_i hy
   rw [e,hy]
  ·rfl
 unfold hereM
 rw [show (putM s o').objects=s.objects.map fun y=>if y.id=o.id then o' else y from putL_map h.srt ho e,has_map _ _ _ hg,h1,find_mapi _ _ _ hg h1]
 simp only [Bool.true_and,beq_iff_eq]
 split
 ·rename_i hy
  have:=uniqO h.srt (findM_mem h1).1 ho hy
  rw [ez,← this]
  exact h2
 ·exact h2
theorem objM_val (h:Val q c s) (all:List GTraits) (e:GEvent) (h0:hasM s.objects e.object=true→(findM s.objects e.object).zone=0) (ha:e.kind=1→1≤e.amount) (hp:e.kind=12→0≤e.player∧e.player < s.players.length) (hs:e.kind=13→hereM s e.source=true):Val q c (objM s all e)∧(objM s all e).nextId=s.nextId:=by
 unfold objM
 by_cases hh:hasM s.objects e.object=true
 ·rw [if_pos hh]
  have hm:=(findM_mem hh).1
  have hsrc:e.kind=13→0≤e.source∧e.source≤1000000:=fun hk=>by
   obtain ⟨g1,_⟩:=here_t (hs hk)
   obtain ⟨g2,g3⟩:=findM_mem g1
   have g4:=(obj_val h g2).id
   have g5:=(h.obj _ g2).2.1
   have:=h.nid
   omega
  have h1:=put_val h hm (mark_f (deadM s all e.source) e (findM s.objects e.object)) (mark_val (obj_val h hm) (h0 hh) _ e ha hp hsrc)
  simp only
  split
  ·rename_i hk
   have hq:=put_here h hm (mark_f (deadM s all e.source) e (findM s.objects e.object)).1 (mark_f (deadM s all e.source) e (findM s.objects e.object)).2.1 (hs hk)
   obtain ⟨s1,hs1⟩:∃ s1,s1=putM s (markM (deadM s all e.source) e (findM s.objects e.object)):=⟨_,rfl⟩
   have hn1:s1.nextId=s.nextId:=by rw [hs1];rfl
   rw [← hs1] at h1 hq ⊢
   obtain ⟨g1,g2⟩:=here_t hq
   have gm:=(findM_mem g1).1
   obtain ⟨v1,v2,v3,v4,v5,v6,v7,v8,v9,w1,w2,w3,w4,w5,_⟩:=obj_val h1 gm
   exact ⟨put_val (o':={ findM s1.objects e.source with blocked:=true }) h1 gm ⟨rfl,rfl,rfl,rfl⟩ ⟨v1,v2,v3,v4,v5,v6,v7,v8,v9,w1,w2,w3,w4,w5,.inl g2⟩,hn1⟩
  ·exact ⟨h1,rfl⟩
 ·rw [if_neg hh]
  exact ⟨h,rfl⟩
theorem livM_t {p:Int} (h:livM s p=true):0≤p∧p < s.players.length:=by
 unfold livM at h
 split at h
 ·rename_i x hx
  rw [Bool.and_eq_true,decide_eq_true_eq] at h
  have:=(List.getElem?_eq_some_iff.1 hx).1
  omega
 ·cases h
theorem tokM_t {l:List GCard} {p:Int} (h:tokM l p=true):0≤p∧p < l.length:=by
 unfold tokM at h
 split at h
 ·rename_i x hx
  rw [Bool.and_eq_true,decide_eq_true_eq] at h
  have:=(List.getElem?_eq_some_iff.1 hx).1
  omega
 ·cases h
theorem amtM_t {n:Int} (h:amtM n=true):1≤n∧n≤1000000:=by
 unfold amtM at h
 rw [Bool.and_eq_true,decide_eq_true_eq,decide_eq_true_eq] at h
 exact h
theorem do_val {cards:List GCard} (h:Val q cards.length s) (all:List GTraits) (e:GEvent) (hn:s.nextId≤100000∧s.nextStamp≤100000) (h10:e.kind=10→e.amount≤100) (hb:∀ p∈s.players,p.library.length≤1099511627776):StepV q cards.length 100 s (doR cards s all e):=by
 have up:∀ {t:GState} {k:Int},k≤100→StepV q cards.length k s t→StepV q cards.length 100 s t:=fun hk h=>⟨h.val,h.nid.1,by have:=h.nid;omega⟩
 unfold doR
 by_cases hev:evM cards s e=true
 case neg=>rw [if_neg hev];exact StepV.refl h (by decide)
 rw [if_pos hev]
 have obj:(e.kind=1∨e.kind=6∨e.kind=7∨e.kind=8∨e.kind=9∨e.kind=12∨e.kind=13)→restM s all e=objM s all e:=fun hk=>by
  unfold restM
  rw [if_neg (by omega),if_neg (by omega),if_neg (by omega),if_pos hk]
 have life:(e.kind=4∨e.kind=5∨e.kind=16∨e.kind=17)→restM s all e=lifeM s e:=fun hk=>by
  unfold restM
  rw [if_neg (by omega),if_pos hk]
 have objs:(e.kind=1∨e.kind=6∨e.kind=7∨e.kind=8∨e.kind=9∨e.kind=12∨e.kind=13)→(hasM s.objects e.object=true→(findM s.objects e.object).zone=0)→(e.kind=1→1≤e.amount)→(e.kind=12→0≤e.player∧e.player < s.players.length)→(e.kind=13→hereM s e.source=true)→StepV q cards.length 100 s (restM s all e):=fun hk g1 g2 g3 g4=>by
  rw [obj hk]
  obtain ⟨a1,a2⟩:=objM_val h all e g1 g2 g3 g4
  exact ⟨a1,by omega⟩
 have lifes:(e.kind=4∨e.kind=5∨e.kind=16∨e.kind=17)→0≤e.player∧e.player < s.players.length→(e.kind≠17→1≤e.amount)→StepV q cards.length 100 s (restM s all e):=fun hk g1 g2=>by
  rw [life hk]
  refine ⟨life_val h e g1 g2 hb,?_⟩
  have:(lifeM s e).nextId=s.nextId:=by unfold lifeM;split <;> rfl
  omega
 unfold evM at hev
 by_cases k1:e.kind=1
 ·rw [if_neg (by omega)]
  rw [if_pos k1,Bool.and_eq_true,Bool.or_eq_true,Bool.and_eq_true,beq_iff_eq] at hev
  refine objs (by omega) (fun hh=>?_) (fun _=>(amtM_t hev.1).1) (by omega) (by omega)
  rcases hev.2 with h1|h1
  ·exact (here_t h1).2
  ·rw [h1.1,zero_no h] at hh
   cases hh
 rw [if_neg k1] at hev
 by_cases k2:e.kind=2
 ·rw [if_pos k2]
  rw [if_pos k2] at hev
  simp only [Bool.and_eq_true,beq_iff_eq,decide_eq_true_eq] at hev
  obtain ⟨a1,_,_,a2,a3,a4,a5⟩:=hev
  exact up (by decide) (mv_val h e a1 ⟨a2,a3⟩ ⟨a4,a5⟩ (by omega))
 rw [if_neg k2]
 rw [if_neg k2] at hev
 by_cases k3:e.kind=3∨e.kind=14∨e.kind=15∨e.kind=17
 ·rw [if_pos k3] at hev
  have hp:=livM_t hev
  by_cases k17:e.kind=17
  ·exact lifes (by omega) hp (by omega)
  by_cases k33:e.kind=3
  ·have:restM s all e=drawM s e.player:=by unfold restM;rw [if_pos k33]
   rw [this]
   exact up (by decide) (draw_val h e.player hp (by omega))
  ·have:restM s all e=s:=by
    unfold restM
    rw [if_neg (by omega),if_neg (by omega),if_neg (by omega),if_neg (by omega)]
   rw [this]
   exact StepV.refl h (by decide)
 rw [if_neg k3] at hev
 by_cases k4:e.kind=4∨e.kind=5∨e.kind=16
 ·rw [if_pos k4,Bool.and_eq_true] at hev
  exact lifes (by omega) (livM_t hev.1) fun _=>(amtM_t hev.2).1
 rw [if_neg k4] at hev
 by_cases k6:e.kind=6
 ·rw [if_pos k6,Bool.and_eq_true] at hev
  exact objs (by omega) (fun _=>(here_t hev.1).2) (by omega) (by omega) (by omega)
 rw [if_neg k6] at hev
 by_cases k7:e.kind=7
 ·rw [if_pos k7,Bool.and_eq_true] at hev
  exact objs (by omega) (fun _=>(here_t hev.1).2) (by omega) (by omega) (by omega)
 rw [if_neg k7] at hev
 by_cases k8:e.kind=8∨e.kind=9
 ·rw [if_pos k8,Bool.and_eq_true] at hev
  exact objs (by omega) (fun _=>(here_t hev.1).2) (by omega) (by omega) (by omega)
 rw [if_neg k8] at hev
 by_cases k10:e.kind=10
 ·rw [if_pos k10,Bool.and_eq_true,Bool.and_eq_true] at hev
  have:restM s all e=mkM s e e.amount.toNat:=by
   unfold restM
   rw [if_neg (by omega),if_neg (by omega),if_pos k10]
  rw [this]
  have:=h10 k10
  have h3:=(amtM_t hev.2.2).1
  refine up (by omega) (mk_val e (tokM_t hev.2.1) e.amount.toNat s h (livM_t hev.1) (by omega))
 rw [if_neg k10] at hev
 by_cases k11:e.kind=11
 ·have:restM s all e=s:=by
   unfold restM
   rw [if_neg (by omega),if_neg (by omega),if_neg (by omega),if_neg (by omega)]
  rw [this]
  exact StepV.refl h (by decide)
 rw [if_neg k11] at hev
 by_cases k12:e.kind=12
 ·rw [if_pos k12,Bool.and_eq_true] at hev
  exact objs (by omega) (fun _=>(here_t hev.1).2) (by omega) (fun _=>livM_t hev.2) (by omega)
 rw [if_neg k12] at hev
 by_cases k13:e.kind=13
 ·rw [if_pos k13,Bool.and_eq_true] at hev
  exact objs (by omega) (fun _=>(here_t hev.1).2) (by omega) (by omega) (fun _=>hev.2)
 rw [if_neg k13] at hev
 cases hev
end
section
variable {q:Opq} {c:Int}
structure Kpt (s t:GState):Prop where
 stk:∀ x∈t.stack,x∈s.stack
 wt:t.waiting=s.waiting
 ct:t.conts=s.conts
 ex:t.extra=s.extra
 tn:t.turn=s.turn
 ov:t.over=s.over
 pl:t.players.length=s.players.length
theorem Kpt.refl (s:GState):Kpt s s:=⟨fun _ h=>h,rfl,rfl,rfl,rfl,rfl,rfl⟩
theorem Kpt.trans {s t u:GState} (h1:Kpt s t) (h2:Kpt t u):Kpt s u:=⟨fun x h=>h1.stk x (h2.stk x h),h2.wt.trans h1.wt,h2.ct.trans h1.ct,h2.ex.trans h1.ex,h2.tn.trans h1.tn,h2.ov.trans h1.ov,h2.pl.trans h1.pl⟩
theorem kp_obj (s:GState) (l:List GObject):Kpt s { s with objects:=l }:=⟨fun _ h=>h,rfl,rfl,rfl,rfl,rfl,rfl⟩
theorem kp_put (s:GState) (o:GObject):Kpt s (putM s o):=kp_obj s _
theorem kp_unc (s:GState) (k:Int):Kpt s (uncM s k):=kp_obj s _
theorem kp_arr (s:GState) (id:Int) (e:GEvent):Kpt s (arrM s id e):=by
 unfold arrM
 split
 ·exact kp_put s _
 ·exact Kpt.refl s
theorem kp_set (s:GState) (z p:Int) (l:List Int):Kpt s (setM s z p l):=by
 obtain ⟨b,x,pl,e,hl,_⟩:=setM_form s z p l
 rw [e]
 exact ⟨fun _ h=>h,rfl,rfl,rfl,rfl,rfl,hl⟩
theorem kp_rem (s:GState) (id:Int) (i:Nat) (o:GObject):Kpt s (remM s id i o):=by
 have h:=kp_set s o.zone o.owner ((listM s o.zone o.owner).filter fun i=>i != id)
 exact ⟨fun x hx=>(List.mem_filter.1 hx).1,h.wt,h.ct,h.ex,h.tn,h.ov,h.pl⟩
theorem kp_end (s:GState) (x:GObject) (z:Int) (b:Bool):Kpt s (mvEnd s x z b):=by
 have h:=kp_set s z x.owner (if (z==2&&!b)=true then x.id :: listM s z x.owner else listM s z x.owner++[x.id])
 exact ⟨h.stk,h.wt,h.ct,h.ex,h.tn,h.ov,h.pl⟩
theorem kp_move (s:GState) (id z p:Int) (b:Bool):Kpt s (moveM s id z p b).1:=by
 unfold moveM
 split
 ·exact Kpt.refl s
 ·split
  ·unfold mvFound
   split
   ·exact Kpt.refl s
   split
   ·exact kp_rem s _ _ _
   ·exact ((kp_rem s _ _ _).trans (kp_put _ _)).trans (kp_end _ _ _ _)
  ·exact Kpt.refl s
theorem kp_make (s:GState) (a p:Int):Kpt s (makeM s a p).1:=⟨fun _ h=>h,rfl,rfl,rfl,rfl,rfl,rfl⟩
theorem kp_mk (e:GEvent):∀ (n:Nat) (s:GState),Kpt s (mkM s e n)
 | 0,s=>Kpt.refl s
 | n+1,s=>by
  unfold mkM
  split
  ·exact ((kp_make s _ _).trans (kp_arr _ _ _)).trans (kp_mk e n _)
  ·exact Kpt.refl s
theorem kp_upd (s:GState) (p:Int) (f:GPlayer→GPlayer):Kpt s (updP s p f):=by
 unfold updP
 split
 ·exact ⟨fun _ h=>h,rfl,rfl,rfl,rfl,rfl,List.length_set⟩
 ·exact Kpt.refl s
theorem kp_draw (s:GState) (p:Int):Kpt s (drawM s p):=by
 unfold drawM
 split
 ·split
  ·exact kp_upd s _ _
  ·exact kp_move s _ _ _ _
 ·exact Kpt.refl s
theorem kp_life (s:GState) (e:GEvent):Kpt s (lifeM s e):=by
 unfold lifeM
 split
 ·exact ⟨fun _ h=>h,rfl,rfl,rfl,rfl,rfl,List.length_set⟩
 ·exact Kpt.refl s
theorem kp_objM (s:GState) (all:List GTraits) (e:GEvent):Kpt s (objM s all e):=by
 unfold objM
 split
 ·dsimp only
  split
  ·exact (kp_put s _).trans (kp_put _ _)
  ·exact kp_put s _
 ·exact Kpt.refl s
theorem kp_mvR (s:GState) (e:GEvent):Kpt s (mvR s e):=by
 have h:Kpt s (if e.from_=0 then uncM s e.object else s):=by
  split
  ·exact kp_unc s _
  ·exact Kpt.refl s
 unfold mvR
 dsimp only
 split
 ·exact (h.trans (kp_move _ _ _ _ _)).trans (kp_arr _ _ _)
 ·exact h.trans (kp_move _ _ _ _ _)
theorem kp_do (cards:List GCard) (s:GState) (all:List GTraits) (e:GEvent):Kpt s (doR cards s all e):=by
 unfold doR
 split
 ·split
  ·exact kp_mvR s e
  ·unfold restM
   split
   ·exact kp_draw s _
   split
   ·exact kp_life s e
   split
   ·exact kp_mk e _ s
   split
   ·exact kp_objM s all e
   ·exact Kpt.refl s
 ·exact Kpt.refl s
theorem len_sub {α:Type} [DecidableEq α]:∀ {l m:List α},l.Nodup→(∀ x∈l,x∈m)→l.length≤m.length
 | [],_,_,_=>Nat.zero_le _
 | x :: l,m,h,hm=>by
  obtain ⟨h1,h2⟩:=List.nodup_cons.1 h
  have hx:=hm x List.mem_cons_self
  have:=len_sub (m:=m.erase x) h2 fun y hy=>(List.mem_erase_of_ne (fun e=>h1 (by rw [← e];exact hy))).2 (hm y (List.mem_cons_of_mem _ hy))
  rw [List.length_erase_of_mem hx] at this
  have:=List.length_pos_of_mem hx
  rw [List.length_cons]
  omega
theorem list_short {s:GState} (h:Val q c s) (z p:Int):(listM s z p).length≤2048:=by
 have:=len_sub (m:=s.objects.map GObject.id) (h.nod z p) fun id hid=>by
  obtain ⟨o,ho,e,_⟩:=h.lst z p id hid
  exact List.mem_map.2 ⟨o,ho,e⟩
 rw [Lm] at this
 have:=h.nobj
 omega
theorem short_le {n:Nat} (h:n≤2048):n*8≤limB:=by unfold limB;omega
theorem ply_short {s:GState} (h:Val q c s) {p:GPlayer} (hp:p∈s.players):p.library.length≤2048∧p.hand.length≤2048∧p.graveyard.length≤2048:=by
 obtain ⟨i,hi,rfl⟩:=List.mem_iff_getElem.1 hp
 have h1:=list_short h 2 i
 have h2:=list_short h 1 i
 have h3:=list_short h 3 i
 rw [listM_lb hi] at h1
 rw [listM_hd hi] at h2
 rw [listM_gy hi] at h3
 exact ⟨h1,h2,h3⟩
theorem ok_val {s t:GState} (hs:s.ok) (hv:Val q c t) (hk:Kpt s t):t.ok:=by
 obtain ⟨_,_,_,_,_,_,_,g8,g9,g10,g11,g12,g13⟩:=hs
 have hb:=list_short hv 0 0
 have hx:=list_short hv 4 0
 rw [listM_bf] at hb
 rw [listM_ex] at hx
 have h1:=hv.npl
 have h2:=hv.nobj
 have h3:=hv.nstk
 refine ⟨by unfold limB;omega,fun y hy=>?_,by unfold limB;omega,fun y _=>obj_ok y,short_le hb,short_le hx,by unfold limB;omega,fun y hy=>g8 y (hk.stk y hy),by rw [hk.wt];exact g9,by rw [hk.wt];exact g10,by rw [hk.ct];exact g11,by rw [hk.ct];exact g12,by rw [hk.ex];exact g13⟩
 obtain ⟨a1,a2,a3⟩:=ply_short hv hy
 exact ⟨short_le a1,short_le a2,short_le a3⟩
theorem put_at {s:GState} {o':GObject} {i:Nat} {id:Int} (h1:s.objects.findIdx? (fun o=>o.id==id)=some i) (h:o'.id=id):putM s o'={ s with objects:=s.objects.set i o' }:=by
 unfold putM putL
 rw [h,h1]
theorem has_set {l:List GObject} {i:Nat} (hi:i < l.length) {x:GObject} (hx:x.id=l[i].id) {id:Int} (h:hasM l id=true):hasM (l.set i x) id=true:=by
 obtain ⟨o,ho,rfl⟩:=hasM_iff.1 h
 obtain ⟨j,hj,rfl⟩:=List.mem_iff_getElem.1 ho
 by_cases e:i=j
 ·subst e
  exact hasM_iff.2 ⟨x,List.mem_iff_getElem.2 ⟨i,by rw [List.length_set];exact hi,List.getElem_set_self ..⟩,hx⟩
 ·exact hasM_iff.2 ⟨l[j],List.mem_iff_getElem.2 ⟨j,by rw [List.length_set];exact hj,List.getElem_set_ne e ..⟩,rfl⟩
theorem objM_eq {s:GState} {all:List GTraits} {e:GEvent} {i:Nat} (hi:i < s.objects.length) (h1:s.objects.findIdx? (fun o=>o.id==e.object)=some i) (h2:findM s.objects e.object=s.objects[i]) (h3:s.objects[i].id=e.object) (hh:hasM s.objects e.object=true) (hk:¬ e.kind=13):objM s all e={ s with objects:=s.objects.set i (markM (deadM s all e.source) e s.objects[i]) }:=by
 unfold objM
 rw [if_pos hh]
 simp only [if_neg hk]
 rw [h2]
 exact put_at h1 ((mark_f _ e _).1.trans h3)
theorem objM_13 {s:GState} {all:List GTraits} {e:GEvent} {i j:Nat} (hi:i < s.objects.length) (h1:s.objects.findIdx? (fun o=>o.id==e.object)=some i) (h2:findM s.objects e.object=s.objects[i]) (h3:s.objects[i].id=e.object) (hh:hasM s.objects e.object=true) (hk:e.kind=13) {l:List GObject} (hl:s.objects.set i (markM (deadM s all e.source) e s.objects[i])=l) (hj:j < l.length) (g1:l.findIdx? (fun o=>o.id==e.source)=some j) (g2:findM l e.source=l[j]) (g3:l[j].id=e.source):objM s all e={ s with objects:=l.set j { l[j] with blocked:=true } }:=by
 unfold objM
 rw [if_pos hh]
 simp only [if_pos hk]
 rw [h2,put_at (s:=s) h1 ((mark_f _ e _).1.trans h3),hl]
 simp only [g2]
 exact put_at (s:={ s with objects:=l }) g1 g3
theorem lifeM_eq {s:GState} {e:GEvent} {i:Nat} (hi:i < s.players.length) (he:e.player=i):lifeM s e={ s with players:=s.players.set i (chM e s.seed s.players[i]).1,seed:=(chM e s.seed s.players[i]).2 }:=by
 unfold lifeM
 rw [he,Int.toNat_natCast,List.getElem?_eq_getElem hi]
end
end Go.Proofs.YtmloamomcbmfhaaGreat
end
section
namespace Cg
open Go Go.RowKit Go.Sort Go.Lib
section
variable {P:Program} {T:Nat→Option Ty} {N:Nat}
theorem cond_p {p:Prop} [Decidable p] {A B:Prop} (h1:p→A) (h2:¬ p→B):cond (decide p) A B:=by
 by_cases h:p
 ·rw [decide_eq_true h];exact h1 h
 ·rw [decide_eq_false h];exact h2 h
theorem cond_e {x y:Int} {A B:Prop} (h1:x=y→A) (h2:¬ x=y→B):cond (x==y) A B:=by
 by_cases h:x=y
 ·rw [beq_iff_eq.2 h];exact h1 h
 ·rw [beq_false_of_ne h];exact h2 h
theorem cond_n {b:Bool} {A B:Prop} (h:cond b B A):cond (!b) A B:=by cases b <;> exact h
theorem cond_ne {x y:Int} {A B:Prop} (h1:¬ x=y→A) (h2:x=y→B):cond (x != y) A B:=cond_n (cond_e h2 h1)
theorem ix_map {α:Type} {l:List α} {f:α→List Tr} {n:Int} {K:List Tr→Prop} (h0:0≤n) (h1:n < ((l.map f).length:Int)) (h:∀ x,x∈l→K (f x)):∃ (j:Nat) (ts:List Tr),n=j∧(l.map f)[j]? = some ts∧K ts:=by
 rw [Lm] at h1
 have hl:n.toNat < l.length:=by omega
 exact ⟨n.toNat,f l[n.toNat],by omega,by rw [List.getElem?_map,List.getElem?_eq_getElem hl];rfl,h _ (List.getElem_mem hl)⟩
theorem ix_mp {α:Type} {l:List α} {p:α→Prop} (hp:∀ y∈l,p y) {f:α→List Tr} {n:Int} {K:List Tr→Prop} (h0:0≤n) (h1:n < ((l.map f).length:Int)) (h:∀ x,x∈l→p x→K (f x)):∃ (j:Nat) (ts:List Tr),n=j∧(l.map f)[j]? = some ts∧K ts:=ix_map h0 h1 fun x hx=>h x hx (hp x hx)
theorem ix_str {s:ByteArray} {n:Int} {R:(j:Nat)→j < s.size→Prop} (h0:0≤n) (h1:n < (s.size:Int)) (h:∀ hl:n.toNat < s.size,R n.toNat hl):∃ (j:Nat) (h:j < s.size),n=j∧R j h:=by
 have hl:n.toNat < s.size:=by omega
 exact ⟨n.toNat,hl,by omega,h hl⟩
theorem sl_str {s:ByteArray} {A B:Nat→Prop} {R:Nat→Nat→Prop} (l h:Nat) (ha:A l) (hb:B h) (h1:l≤h) (h2:h≤s.size) (hk:(s.extract l h).size=h - l→R l h):∃ l h:Nat,A l∧B h∧l≤h∧h≤s.size∧R l h:=⟨l,h,ha,hb,h1,h2,hk (by rw [ByteArray.size_extract];omega)⟩
theorem cat_s {a b:ByteArray} {R:Prop} (h:a.size+b.size≤9223372036854775807) (hk:(a++b).size=a.size+b.size→R):a.size+b.size≤9223372036854775807∧R:=⟨h,hk ByteArray.size_append⟩
theorem call_x {ι:Type} {mk:ι→AV} {Φ:ι→Prop} {f:FuncId} {ars:List AV} {A:List AV→Prop} {B:Bool→Prop} {K:AV→List Row→Prop} {X:Prop} (ct:∃ b,Φ b∧Ct P f ars (mk b) [] true) (h1:A ars) (h2:B true) (h3:∀ b,Φ b→K (mk b) []):(∃ ars r rs fresh,A ars∧Ct P f ars r rs fresh∧B fresh∧K r rs)∨X:=by
 obtain ⟨b,hb,h⟩:=ct
 exact .inl ⟨ars,mk b,[],true,h1,h,h2,h3 b hb⟩
theorem call_f (f:FuncId) {A:List AV→Prop} {B:Bool→Prop} {K:AV→List Row→Prop} {X:Prop} (h:(∃ ars r rs fresh,A ars∧Ct P f ars r rs fresh∧B fresh∧K r rs)∨X):(∃ ars r rs fresh,A ars∧Ct P f ars r rs fresh∧B fresh∧K r rs)∨X:=h
theorem leaf_x {ι:Type} {mk:ι→AV} {Φ:ι→Prop} {fn:Func} {e:Ex} {st:St} (b:ι) (h:FinE T fn (mk b) [] e st) (hb:Φ b) (hr:resB (mk b) []=true):∃ rv rs,(∃ b,rv=mk b∧rs=[]∧Φ b)∧(Nat.ble rs.length 128=true∧resB rv rs=true)∧FinE T fn rv rs e st:=⟨mk b,[],⟨b,rfl,rfl,hb⟩,⟨rfl,hr⟩,h⟩
theorem ct_x {ι:Type} {mk:ι→AV} {Φ:ι→Prop} {f:FuncId} {ars:List AV} (hl:∀ b,litT (mk b)=true) (h:∃ rv rs,(∃ b,rv=mk b∧rs=[]∧Φ b)∧Ct P f ars rv rs false):∃ b,Φ b∧Ct P f ars (mk b) [] true:=by
 obtain ⟨rv,rs,⟨b,rfl,rfl,hb⟩,hc⟩:=h
 exact ⟨b,hb,Ct.litT hc (hl b)⟩
theorem lit_b (b:Bool):litT (AV.b b)=true:=rfl
theorem lit_i (b:Int):litT (AV.i b)=true:=rfl
theorem lit_s (b:ByteArray):litT (AV.s b)=true:=rfl
noncomputable def firstR (c:Code):Nat:=Code.rec (motive:=fun _=>Nat) 9999 (fun id _ _=>id) (fun _ _ a _=>a) (fun _ _ _ a _=>a+1000) (fun _ _ a=>a) (fun _ a=>a+2000) (fun _ _ _ _ _ _=>9999) (fun _=>9999) (fun _ _=>9999) (fun _=>9999) (fun _=>9999) 9999 (fun _=>9999) c
def WPY (P:Program) (T:Nat→Option Ty) (N:Nat) (cs ct:List Nat) (c:Code):St→(Ex→St→Prop)→Prop:=
 Code.rec (motive:=fun _=>St→(Ex→St→Prop)→Prop) (fun st Q=>Q .nrm st) (fun id ops d st Q=>WPrX P T N cs id ops d st Q) (fun a b iha ihb st Q=>match memb (firstR b) ct with
   | true=>TpX P T N (.seq a b) st Q
   | false=>iha st (nextQ (fun st'=>ihb st' Q) Q))
  (fun c _ _ iha ihb st Q=>WPc c st (iha st Q) (ihb st Q)) (fun id _ ih st Q=>ih st (blkQ id Q)) (fun c _ st Q=>LpX P T N c st Q) (fun _ _ _ _ _ _ _ _=>False) (fun id st Q=>Q (.exit id) st)
  (fun _ _ _ _=>False) (fun _ _ _=>False) (fun _ _ _=>False) (fun st Q=>Q .ret st) (fun _ _ _=>False) c
theorem TpX.mono {c:Code} {s:St} {Q Q':Ex→St→Prop} (h:TpX P T N c s Q) (hq:∀ e s,Q e s→Q' e s):TpX P T N c s Q':=by
 obtain ⟨e,s',h1,h2⟩:=h
 exact ⟨e,s',h1,hq _ _ h2⟩
theorem TpX.seq {a b:Code} {s:St} {Q:Ex→St→Prop} (h:TpX P T N a s (fun e s1=>match e with
  | .nrm=>TpX P T N b s1 Q
  | e=>Q e s1)):TpX P T N (.seq a b) s Q:=by
 obtain ⟨e,s1,h1,h2⟩:=h
 cases e with
 | nrm=>
  obtain ⟨e2,s2,h3,h4⟩:=h2
  exact ⟨e2,s2,h1.seq h3,h4⟩
 | exit id=>exact ⟨_,_,h1.out (by simp),h2⟩
 | ret=>exact ⟨_,_,h1.out (by simp),h2⟩
theorem TpX.block {id:Nat} {c:Code} {s:St} {Q:Ex→St→Prop} (h:TpX P T N c s (blkQ id Q)):TpX P T N (.block id c) s Q:=by
 obtain ⟨e,s',h1,h2⟩:=h
 cases e with
 | nrm=>exact ⟨.nrm,s',h1.block rfl,h2⟩
 | ret=>exact ⟨.ret,s',h1.block rfl,h2⟩
 | exit i=>
  unfold blkQ at h2
  cases hb:Nat.beq i id with
  | true=>
   simp only [hb] at h2
   exact ⟨.nrm,s',h1.block (by show _=(bif Nat.beq i id then Ex.nrm else Ex.exit i);rw [hb];rfl),h2⟩
  | false=>
   simp only [hb] at h2
   exact ⟨.exit i,s',h1.block (by show _=(bif Nat.beq i id then Ex.nrm else Ex.exit i);rw [hb];rfl),h2⟩
theorem TpX.cond {c:Operand} {a b:Code} {s:St} {Q:Ex→St→Prop} (h:WPc c s (TpX P T N a s Q) (TpX P T N b s Q)):TpX P T N (.cond c a b) s Q:=by
 unfold WPc at h
 split at h
 ·rename_i t ht
  cases t with
  | true=>
   obtain ⟨e,s',h1,h2⟩:=h
   exact ⟨e,s',Run.cond ht (fun _=>h1) (fun h=>by cases h),h2⟩
  | false=>
   obtain ⟨e,s',h1,h2⟩:=h
   exact ⟨e,s',Run.cond ht (fun h=>by cases h) (fun _=>h1),h2⟩
 ·exact h.elim
theorem TpX.runY (cs ct:List Nat):∀ {c:Code} {st:St} {Q:Ex→St→Prop},WPY P T N cs ct c st Q→TpX P T N c st Q
 | .skip,st,_,h=>⟨_,_,Run.skip st,h⟩
 | .region _ _ _,_,_,h=>TpX.run cs (c:=.region _ _ _) h
 | .seq a b,st,Q,h=>by
  change (match memb (firstR b) ct with
   | true=>TpX P T N (.seq a b) st Q
   | false=>WPY P T N cs ct a st (nextQ (fun st'=>WPY P T N cs ct b st' Q) Q)) at h
  split at h
  ·exact h
  ·refine TpX.seq ((TpX.runY cs ct h).mono fun e s hq=>?_)
   cases e with
   | nrm=>exact TpX.runY cs ct hq
   | exit id=>exact hq
   | ret=>exact hq
 | .cond c a b,st,Q,h=>by
  change WPc c st (WPY P T N cs ct a st Q) (WPY P T N cs ct b st Q) at h
  refine TpX.cond ?_
  unfold WPc at h ⊢
  split at h
  ·rename_i t ht
   cases t with
   | true=>exact TpX.runY cs ct (show WPY P T N cs ct a st Q from h)
   | false=>exact TpX.runY cs ct (show WPY P T N cs ct b st Q from h)
  ·exact h.elim
 | .block id c,st,Q,h=>TpX.block (TpX.runY cs ct (show WPY P T N cs ct c st (blkQ id Q) from h))
 | .loop c,st,Q,h=>LpX.tpx (show LpX P T N c st Q from h)
 | .scope ..,_,_,h=>h.elim
 | .exit id,st,Q,h=>⟨_,_,Run.exit id st,h⟩
 | .ret,st,Q,h=>⟨_,_,Run.ret st,h⟩
 | .label _,_,_,h=>h.elim
 | .goto _,_,_,h=>h.elim
 | .rangeFunc ..,_,_,h=>h.elim
 | .refuse _,_,_,h=>h.elim
def selfOk (bx:List (Nat × List Ce)) (v:AV):Bool:=match v with
 | .c x=>x.plain
 | .agg xs=>xs.all Ce.plain
 | .ptr b _=>hasK bx b
 | .nilp=>true
 | .iptr _ _=>true
 | .fn _ caps=>caps.all fun p=>hasK bx p.1
 | .fnI _ _=>true
 | _=>false
theorem selfOk_m {st:St} {m:List (Nat × Nat)} {rw':List (Nat × Row)} {bx:List (Nat × List Ce)} {v:AV} (h:selfOk bx v=true):AvM st m rw' bx v v:=by
 cases v with
 | c x=>cases x with
  | t _=>exact rfl
  | nil=>exact trivial
  | row _ _=>cases h
  | bot=>cases h
 | agg xs=>exact cesM_refl xs h
 | ptr b o=>exact ⟨rfl,rfl,h⟩
 | nilp=>exact trivial
 | iptr _ _=>exact ⟨rfl,rfl⟩
 | fn f caps=>exact ⟨rfl,rfl,h⟩
 | fnI _ _=>exact ⟨rfl,rfl⟩
 | eptr _ _ _ _ _=>cases h
 | sub _ _ _ _=>cases h
 | tup _=>cases h
 | bot=>cases h
theorem slM_self {st:St} {m:List (Nat × Nat)} {rw':List (Nat × Row)} {bx:List (Nat × List Ce)}:∀ {sl:List (Nat × AV)},sl.map (fun p=>(p.1,st.get p.1))=sl→sl.all (fun p=>selfOk bx p.2)=true→SlM st m rw' bx sl
 | [],_,_=>trivial
 | (t,v) :: r,h,h2=>by
  rw [List.map_cons] at h
  rw [List.all_cons,Bool.and_eq_true] at h2
  have h1:st.get t=v:=congrArg Prod.snd (List.cons.inj h).1
  refine ⟨?_,slM_self (List.cons.inj h).2 h2.2⟩
  rw [h1]
  exact selfOk_m h2.1
theorem bxM_self {st:St} {m:List (Nat × Nat)} {rw':List (Nat × Row)}:∀ {bx:List (Nat × List Ce)},bx.map (fun p=>lk st.bx p.1)=bx.map (fun p=>some p.2)→bx.all (fun p=>p.2.all Ce.plain)=true→BxM st m rw' bx
 | [],_,_=>trivial
 | (b,cs) :: r,h,h2=>by
  rw [List.map_cons,List.map_cons] at h
  rw [List.all_cons,Bool.and_eq_true] at h2
  refine ⟨?_,bxM_self (List.cons.inj h).2 h2.2⟩
  rw [(List.cons.inj h).1]
  exact cesM_refl cs h2.1
theorem wk_slim {st:St} {sl:List (Nat × AV)} {bx:List (Nat × List Ce)} {M:Nat} (h1:sl.map (fun p=>(p.1,st.get p.1))=sl) (h2:bx.map (fun p=>lk st.bx p.1)=bx.map (fun p=>some p.2)) (h3:(sl.all (fun p=>selfOk bx p.2)&&bx.all (fun p=>p.2.all Ce.plain))=true) (hn:below M bx []=true):Wk st ⟨sl,bx,[],M⟩:=by
 rw [Bool.and_eq_true] at h3
 exact wk_of [] rfl hn (slM_self h1 h3.1) (bxM_self h2 h3.2) trivial
def kpK (st:St):List Nat→(List (Nat × AV)→Prop)→Prop
 | [],K=>K []
 | t :: r,K=>(st.get t).open_ fun v=>kpK st r fun sl=>K ((t,v) :: sl)
theorem kpK_eq (st:St):∀ (ks:List Nat) (K:List (Nat × AV)→Prop),kpK st ks K=K (ks.map fun t=>(t,st.get t))
 | [],K=>rfl
 | t :: r,K=>by rw [kpK,AV.open_eq,kpK_eq st r];rfl
def kpB (st:St):List Nat→(List (Nat × List Ce)→Prop)→Prop
 | [],K=>K []
 | b :: r,K=>match lk st.bx b with
  | some cs=>forceSp cs fun cs=>kpB st r fun bx=>K ((b,cs) :: bx)
  | none=>False
theorem kpB_eq (st:St):∀ (bs:List Nat) (K:List (Nat × List Ce)→Prop),kpB st bs K→∃ bx,K bx
 | [],K,h=>⟨_,h⟩
 | b :: r,K,h=>by
  rw [kpB] at h
  split at h
  ·rw [forceSp_eq] at h
   obtain ⟨bx,h⟩:=kpB_eq st r _ h
   exact ⟨_,h⟩
  ·exact h.elim
theorem TpX.cut {α:Type} (id:Nat) (vs:α→List (Nat × AV)) (Φ:α→Prop) (ks bs:List Nat) (M:Nat) {a b:Code} {st:St} {Q:Ex→St→Prop} (_:firstR b=id)
  (h:kpK st ks fun sl=>kpB st bs fun bx=>TpX P T N a st (fun e s=>match e with
   | .nrm=>∃ x,Φ x∧Wk s ⟨vs x++sl,bx,[],M⟩
   | e=>Q e s)∧∀ x,Φ x→TpX P T N b ⟨vs x++sl,bx,[],M⟩ Q):TpX P T N (.seq a b) st Q:=by
 rw [kpK_eq] at h
 obtain ⟨bx,h1,h2⟩:=kpB_eq st bs _ h
 refine TpX.seq (h1.mono fun e s hq=>?_)
 cases e with
 | nrm=>
  obtain ⟨x,hx,hw⟩:=hq
  exact (h2 x hx).wk hw
 | exit id=>exact hq
 | ret=>exact hq
theorem LpX.at {α:Type} (id:Nat) (vs:α→List (Nat × AV)) (ok:α→Prop) (μ:α→Nat) (ks bs:List Nat) (M:Nat) {c:Code} {st:St} {Q:Ex→St→Prop} (_:firstR c=id)
  (h:kpK st ks fun sl=>kpB st bs fun bx=>(∃ x,ok x∧Wk st ⟨vs x++sl,bx,[],M⟩)∧∀ x,ok x→TpX P T N c ⟨vs x++sl,bx,[],M⟩ (fun e s=>match e with
   | .nrm=>∃ y,(ok y∧μ y < μ x)∧Wk s ⟨vs y++sl,bx,[],M⟩
   | e=>Q e s)):LpX P T N c st Q:=by
 rw [kpK_eq] at h
 obtain ⟨bx,⟨x0,h0,hw⟩,h2⟩:=kpB_eq st bs _ h
 refine LpX.loop (fun x=>⟨vs x++ks.map (fun t=>(t,st.get t)),bx,[],M⟩) ok μ x0 hw h0 fun x hx=>(h2 x hx).mono fun e s hq=>?_
 cases e with
 | nrm=>
  obtain ⟨y,⟨h3,h4⟩,h5⟩:=hq
  exact ⟨y,h3,h4,h5⟩
 | exit id=>exact hq
 | ret=>exact hq
theorem LpX.up {β:Type} (id t:Nat) (n:Int) (hn:n≤4611686018427387904) (hn0:0≤n) (vs:β→List (Nat × AV)) (Φ:Int→β→Prop) (ks bs:List Nat) (M:Nat) {c:Code} {st:St} {Q:Ex→St→Prop} (_:firstR c=id)
  (h:kpK st ks fun sl=>kpB st bs fun bx=>(∃ b,Φ 0 b∧Wk st ⟨(t,AV.i 0) :: (vs b++sl),bx,[],M⟩)∧∀ i b,0≤i→i≤n→Φ i b→TpX P T N c ⟨(t,AV.i i) :: (vs b++sl),bx,[],M⟩ (fun e s=>match e with
   | .nrm=>i < n∧∃ b,Φ (i+1) b∧Wk s ⟨(t,AV.i (IntKind.i64.wrap (i+1))) :: (vs b++sl),bx,[],M⟩
   | e=>Q e s)):LpX P T N c st Q:=by
 rw [kpK_eq] at h
 obtain ⟨bx,⟨b0,h0,hw⟩,h2⟩:=kpB_eq st bs _ h
 refine LpX.loop (fun x:Int × β=>⟨(t,AV.i x.1) :: (vs x.2++ks.map (fun t=>(t,st.get t))),bx,[],M⟩) (fun x=>0≤x.1∧x.1≤n∧Φ x.1 x.2) (fun x=>(n - x.1).toNat) (0,b0) hw ⟨Int.le_refl _,hn0,h0⟩ fun x hx=>(h2 x.1 x.2 hx.1 hx.2.1 hx.2.2).mono fun e s hq=>?_
 cases e with
 | nrm=>
  obtain ⟨h3,b,h4,h5⟩:=hq
  rw [IntKind.wrap_i64,show (x.1+1+9223372036854775808) % 18446744073709551616 - 9223372036854775808=x.1+1 by omega] at h5
  exact ⟨(x.1+1,b),⟨by have:=hx.1;show 0≤x.1+1;omega,by show x.1+1≤n;omega,h4⟩,by have:=hx.1;show (n - (x.1+1)).toNat < (n - x.1).toNat;omega,h5⟩
 | exit id=>exact hq
 | ret=>exact hq
theorem LpX.one (id:Nat) {c:Code} {st:St} {Q:Ex→St→Prop} (_:firstR c=id) (h:TpX P T N c st (fun e s1=>match e with
  | .nrm=>LpX P T N c s1 Q
  | e=>Q e s1)):LpX P T N c st Q:=LpX.once h
theorem len62 {α β:Type} {l:List α} {f:α→β} {b:Nat} (h:l.length*b≤limB) (hb:Nat.blt 0 b=true):(((l.map f).length:Nat):Int)≤4611686018427387904:=by
 unfold limB at h
 rw [Lm]
 have:=Nb hb
 have:l.length*1≤l.length*b:=Nat.mul_le_mul (Nat.le_refl _) this
 omega
theorem cat_l {a b:ByteArray} {R:Prop} (hl:Nat.ble a.size 40=true) (h:40+b.size≤9223372036854775807) (hk:(a++b).size≤40+b.size→R):a.size+b.size≤9223372036854775807∧R:=by
 have:=Nb hl
 exact ⟨by omega,hk (by rw [ByteArray.size_append];omega)⟩
theorem cat_r {a b:ByteArray} {R:Prop} (hl:Nat.ble b.size 40=true) (h:a.size+40≤9223372036854775807) (hk:(a++b).size≤a.size+40→R):a.size+b.size≤9223372036854775807∧R:=by
 have:=Nb hl
 exact ⟨by omega,hk (by rw [ByteArray.size_append];omega)⟩
theorem ix_n {n:Int} {m:Nat} {K:Nat→Prop} (h0:0≤n) (h1:n < (m:Int)) (h:n.toNat < m→K n.toNat):∃ j:Nat,n=j∧j < m∧K j:=⟨n.toNat,by omega,by omega,h (by omega)⟩
def allS:List (List Tr)→Bool
 | []=>true
 | [.lit (.string s)] :: r=>Nat.ble s.size 40&&allS r
 | _ :: _=>false
theorem allS_get:∀ {xs:List (List Tr)},allS xs=true→∀ (i:Nat),i < xs.length→∃ s:ByteArray,s.size≤40∧xs[i]? = some (eS s)
 | [.lit (.string s)] :: r,h,0,_=>by
  rw [allS,Bool.and_eq_true] at h
  exact ⟨s,Nb h.1,rfl⟩
 | [.lit (.string s)] :: r,h,i+1,hi=>by
  rw [allS,Bool.and_eq_true] at h
  obtain ⟨s,h1,h2⟩:=allS_get h.2 i (Nat.lt_of_succ_lt_succ hi)
  exact ⟨s,h1,by rw [List.getElem?_cons_succ];exact h2⟩
theorem ld_lit {xs:List (List Tr)} {i:Nat} {y:Ty} {K:AV→Prop} (ha:allS xs=true) (hi:i < xs.length) (hy:y.isAgg=false) (h:∀ s:ByteArray,s.size≤40→K (AV.s s)):∃ ts v,xs[i]? = some ts∧cutT y ts 0=some v∧K v:=by
 obtain ⟨s,h1,h2⟩:=allS_get ha i hi
 exact ⟨_,_,h2,by unfold cutT;rw [hy];rfl,h s h1⟩
theorem toList_len (s:ByteArray):s.toList.length=s.size:=by
 rw [ByteArray.toList_eq]
 rfl
theorem str_nil {s:ByteArray} (h:(s.toList==(⟨#[]⟩:ByteArray).toList)=true):s.size≤32:=by
 have:=toList_len s
 rw [eq_of_beq h,toList_len] at this
 rw [← this]
 exact Nat.zero_le _
theorem lp_at (id:Nat) {c:Code} {st:St} {Q:Ex→St→Prop} (_:firstR c=id) (h:LpX P T N c st Q):LpX P T N c st Q:=h
theorem wk_rr {st:St} {t r ρ ver ty k M:Nat} {X:List (List Tr)} {sl:List (Nat × AV)} {bx:List (Nat × List Ce)} (hg:st.get t=.c (.row ρ ver)) (hr:lk st.rw ρ=some ⟨ty,k,ver,X,none⟩) (h1:sl.map (fun p=>(p.1,st.get p.1))=sl) (h2:bx.map (fun p=>lk st.bx p.1)=bx.map (fun p=>some p.2)) (h3:(sl.all (fun p=>selfOk bx p.2)&&bx.all (fun p=>p.2.all Ce.plain))=true) (hn:below M bx [(r,⟨ty,k,0,X,none⟩)]=true):Wk st ⟨(t,.c (.row r 0)) :: sl,bx,[(r,⟨ty,k,0,X,none⟩)],M⟩:=by
 rw [Bool.and_eq_true] at h3
 refine wk_of [(r,ρ)] (by simp [mOk,lk,sw]) hn ⟨?_,slM_self h1 h3.1⟩ (bxM_self h2 h3.2) ⟨?_,trivial⟩
 ·rw [hg]
  show (match lk [(r,(⟨ty,k,0,X,none⟩:Row))] r with
   | some R'=>R'.ver=0∧(lk [(r,ρ)] r=some ρ∧(match lk st.rw ρ with
    | some R=>R.ver=ver
    | none=>False))
   | none=>False)
  simp [lk,hr]
 ·show (match lk [(r,ρ)] r with
   | some τ=>(match lk st.rw τ with
    | some R=>R.ty=ty∧R.k=k∧R.like ⟨ty,k,0,X,none⟩
    | none=>False)
   | none=>bi _ _)
  simp [lk,hr]
  exact lN rfl
theorem wk_rn {st:St} {t r ty k M:Nat} {sl:List (Nat × AV)} {bx:List (Nat × List Ce)} (hg:st.get t=.c .nil) (h1:sl.map (fun p=>(p.1,st.get p.1))=sl) (h2:bx.map (fun p=>lk st.bx p.1)=bx.map (fun p=>some p.2)) (h3:(sl.all (fun p=>selfOk bx p.2)&&bx.all (fun p=>p.2.all Ce.plain))=true) (hn:below M bx [(r,⟨ty,k,0,[],none⟩)]=true):Wk st ⟨(t,.c (.row r 0)) :: sl,bx,[(r,⟨ty,k,0,[],none⟩)],M⟩:=by
 rw [Bool.and_eq_true] at h3
 refine wk_of [] rfl hn ⟨?_,slM_self h1 h3.1⟩ (bxM_self h2 h3.2) ⟨?_,trivial⟩
 ·rw [hg]
  show (match lk [(r,(⟨ty,k,0,[],none⟩:Row))] r with
   | some R'=>R'.ver=0∧lk ([]:List (Nat × Nat)) r=none
   | none=>False)
  simp [lk]
 ·exact bS rfl
theorem TpX.cutL (id t r ty k:Nat) (Φ:List (List Tr)→Prop) (ks bs:List Nat) (M:Nat) {a b:Code} {st:St} {Q:Ex→St→Prop} (_:firstR b=id)
  (h:kpK st ks fun sl=>kpB st bs fun bx=>TpX P T N a st (fun e s=>match e with
   | .nrm=>∃ X,Φ X∧Wk s ⟨(t,.c (.row r 0)) :: sl,bx,[(r,⟨ty,k,0,X,none⟩)],M⟩
   | e=>Q e s)∧∀ X,Φ X→TpX P T N b ⟨(t,.c (.row r 0)) :: sl,bx,[(r,⟨ty,k,0,X,none⟩)],M⟩ Q):TpX P T N (.seq a b) st Q:=by
 rw [kpK_eq] at h
 obtain ⟨bx,h1,h2⟩:=kpB_eq st bs _ h
 refine TpX.seq (h1.mono fun e s hq=>?_)
 cases e with
 | nrm=>
  obtain ⟨x,hx,hw⟩:=hq
  exact (h2 x hx).wk hw
 | exit id=>exact hq
 | ret=>exact hq
theorem LpX.upL (id t u r ty k:Nat) (n:Int) (hn:n≤4611686018427387904) (hn0:0≤n) (Φ:Int→List (List Tr)→Prop) (ks bs:List Nat) (M:Nat) {c:Code} {st:St} {Q:Ex→St→Prop} (_:firstR c=id)
  (h:kpK st ks fun sl=>kpB st bs fun bx=>(∃ X,Φ 0 X∧Wk st ⟨(u,.c (.row r 0)) :: (t,AV.i 0) :: sl,bx,[(r,⟨ty,k,0,X,none⟩)],M⟩)∧∀ i X,0≤i→i≤n→Φ i X→TpX P T N c ⟨(u,.c (.row r 0)) :: (t,AV.i i) :: sl,bx,[(r,⟨ty,k,0,X,none⟩)],M⟩ (fun e s=>match e with
   | .nrm=>i < n∧∃ X,Φ (i+1) X∧Wk s ⟨(u,.c (.row r 0)) :: (t,AV.i (IntKind.i64.wrap (i+1))) :: sl,bx,[(r,⟨ty,k,0,X,none⟩)],M⟩
   | e=>Q e s)):LpX P T N c st Q:=by
 rw [kpK_eq] at h
 obtain ⟨bx,⟨b0,h0,hw⟩,h2⟩:=kpB_eq st bs _ h
 refine LpX.loop (fun x:Int × List (List Tr)=>⟨(u,.c (.row r 0)) :: (t,AV.i x.1) :: ks.map (fun t=>(t,st.get t)),bx,[(r,⟨ty,k,0,x.2,none⟩)],M⟩) (fun x=>0≤x.1∧x.1≤n∧Φ x.1 x.2) (fun x=>(n - x.1).toNat) (0,b0) hw ⟨Int.le_refl _,hn0,h0⟩ fun x hx=>(h2 x.1 x.2 hx.1 hx.2.1 hx.2.2).mono fun e s hq=>?_
 cases e with
 | nrm=>
  obtain ⟨h3,b,h4,h5⟩:=hq
  rw [IntKind.wrap_i64,show (x.1+1+9223372036854775808) % 18446744073709551616 - 9223372036854775808=x.1+1 by omega] at h5
  exact ⟨(x.1+1,b),⟨by have:=hx.1;show 0≤x.1+1;omega,by show x.1+1≤n;omega,h4⟩,by have:=hx.1;show (n - (x.1+1)).toNat < (n - x.1).toNat;omega,h5⟩
 | exit id=>exact hq
 | ret=>exact hq
def Shs (n:Int) (X:List (List Tr)):Prop:=(∀ ts∈X,∃ s:ByteArray,s.size≤2000∧ts=eS s)∧(X.length:Int)≤n
theorem Shs.nil {n:Int} (h:0≤n):Shs n []:=⟨fun _ h=>(by cases h),h⟩
theorem Shs.up {n m:Int} {X:List (List Tr)} (h:Shs n X) (hm:n≤m):Shs m X:=⟨h.1,Int.le_trans h.2 hm⟩
theorem Shs.snoc {n m:Int} {X:List (List Tr)} {s:ByteArray} (h:Shs n X) (hs:s.size≤2000) (hm:n+1≤m):Shs m (X++[[sv s]]):=⟨fun ts ht=>by
 rcases List.mem_append.1 ht with ht|ht
 ·exact h.1 ts ht
 ·exact ⟨s,hs,List.mem_singleton.1 ht⟩,by
 have:=h.2
 rw [List.length_append]
 simp
 omega⟩
theorem Shs.list:∀ {X:List (List Tr)} {n:Int},Shs n X→∃ L:List ByteArray,X=L.map eS∧(∀ y∈L,y.size≤2000)∧(L.length:Int)≤n
 | [],_,h=>⟨[],rfl,fun _ h=>(by cases h),h.2⟩
 | x :: X,n,h=>by
  obtain ⟨s,h1,rfl⟩:=h.1 x List.mem_cons_self
  obtain ⟨L,rfl,h2,h3⟩:=Shs.list (X:=X) (n:=n - 1) ⟨fun ts ht=>h.1 ts (List.mem_cons_of_mem _ ht),by have:=h.2;simp at this;omega⟩
  exact ⟨s :: L,rfl,fun y hy=>by
   rcases List.mem_cons.1 hy with rfl|hy
   ·exact h1
   ·exact h2 y hy,by simp;omega⟩
theorem ix_lit {xs:List (List Tr)} {n:Int} {K:List Tr→Prop} (ha:allS xs=true) (h0:0≤n) (h1:n < (xs.length:Int)) (h:∀ s:ByteArray,s.size≤40→K (eS s)):∃ (j:Nat) (ts:List Tr),n=j∧xs[j]? = some ts∧K ts:=by
 have hl:n.toNat < xs.length:=by omega
 obtain ⟨s,h2,h3⟩:=allS_get ha n.toNat hl
 exact ⟨n.toNat,eS s,by omega,h3,h s h2⟩
theorem sl_lit {s:ByteArray} {n m:Int} {A B:Nat→Prop} {R:Nat→Nat→Prop} (ha:∀ l:Nat,n=l→A l) (hb:∀ l:Nat,m=l→B l) (h0:0≤n) (h1:n≤m) (h2:m≤(s.size:Int)) (hk:(s.extract n.toNat m.toNat).size=m.toNat - n.toNat→R n.toNat m.toNat):∃ l h:Nat,A l∧B h∧l≤h∧h≤s.size∧R l h:=
 sl_str n.toNat m.toNat (ha _ (by omega)) (hb _ (by omega)) (by omega) (by omega) hk
def tupE (p:Int × Int):AV:=.tup [AV.i p.1,AV.i p.2]
theorem lit_e (p:Int × Int):litT (tupE p)=true:=rfl
theorem ix_k {α:Type} {l:List α} {f:α→List Tr} {n:Int} {K:List Tr→Prop} (h0:0≤n) (h1:n < ((l.map f).length:Int)) (h:∀ hl:n.toNat < l.length,K (f (l[n.toNat]'hl))):∃ (j:Nat) (ts:List Tr),n=j∧(l.map f)[j]? = some ts∧K ts:=by
 rw [Lm] at h1
 have hl:n.toNat < l.length:=by omega
 exact ⟨n.toNat,f l[n.toNat],by omega,by rw [List.getElem?_map,List.getElem?_eq_getElem hl];rfl,h hl⟩
theorem okmr {α:Type} {l:List α} {p:α→Prop} {x:α} (hx:x∈l) (h:∀ y∈l,p y):p x:=h x hx
theorem okmg {α:Type} {l:List α} {p:α→Prop} {n:Nat} (hn:n < l.length) (h:∀ y∈l,p y):p (l[n]'hn):=h _ (List.getElem_mem hn)
theorem ix_prev {α:Type} {l:List α} {f:α→List Tr} {i:Int} {K:List Tr→Prop} (d:α) (b:Nat) (hb:l.length*b≤limB) (hb0:Nat.blt 0 b=true) (h0:i > 0) (h1:i < ((l.map f).length:Int)) (h:i.toNat - 1 < l.length→K (f (l.getD (i.toNat - 1) d))):∃ (j:Nat) (ts:List Tr),IntKind.i64.wrap (i - 1)=j∧(l.map f)[j]? = some ts∧K ts:=by
 rw [Lm] at h1
 unfold limB at hb
 have hb1:=Nb hb0
 have:l.length*1≤l.length*b:=Nat.mul_le_mul (Nat.le_refl _) hb1
 have hl:i.toNat - 1 < l.length:=by omega
 refine ⟨i.toNat - 1,_,?_,?_,h hl⟩
 ·rw [IntKind.wrap_i64];omega
 ·rw [List.getElem?_map,List.getD_eq_getElem?_getD,List.getElem?_eq_getElem hl];rfl
theorem cut_at (id:Nat) {a b:Code} {st:St} {Q:Ex→St→Prop} (_:firstR b=id) (h:TpX P T N (.seq a b) st Q):TpX P T N (.seq a b) st Q:=h
end
end Cg
end
section
namespace Cg
open Go Go.RowKit
mutual
inductive TS:Tr→Tr→Prop
 | lit (v:Value):TS (.lit v) (.lit v)
 | nil (k k':Nat):TS (.sl k []) (.sl k' [])
 | sl (k:Nat) {xs ys:List (List Tr)}:TSE xs ys→TS (.sl k xs) (.sl k ys)
inductive TSL:List Tr→List Tr→Prop
 | nil:TSL [] []
 | cons {t u:Tr} {ts us:List Tr}:TS t u→TSL ts us→TSL (t :: ts) (u :: us)
inductive TSE:List (List Tr)→List (List Tr)→Prop
 | nil:TSE [] []
 | cons {t u:List Tr} {ts us:List (List Tr)}:TSL t u→TSE ts us→TSE (t :: ts) (u :: us)
end
theorem TSE.len:∀ {xs ys:List (List Tr)},TSE xs ys→xs.length=ys.length
 | _,_,.nil=>rfl
 | _,_,.cons _ h=>by rw [List.length_cons,List.length_cons,TSE.len h]
theorem RT.ts {F:Nat→Prop} {w:World} {v:Value} {t:Tr} (h:RT F w v t):∀ u,TS t u→RT F w v u:=by
 refine RT.rec (motive_1:=fun v t _=>∀ u,TS t u→RT F w v u) (motive_2:=fun vs ts _=>∀ us,TSL ts us→RTL F w vs us) (motive_3:=fun k g o xs _=>∀ ys,TSE xs ys→RTE F w k g o ys) ?_ ?_ ?_ ?_ ?_ ?_ ?_ h
 ·intro v hl u hu
  cases hu
  exact .lit hl
 ·intro k ao cap hc u hu
  cases hu with
  | nil _ k'=>exact .slNil hc
  | sl _ he=>
   cases he
   exact .slNil hc
 ·intro k g o n cap xs h1 h2 h3 h4 h5 ih u hu
  cases hu with
  | nil _ k'=>
   have:n=0:=h1
   subst this
   exact .slNil fun h=>by cases h
  | sl _ he=>exact .slSome (h1.trans he.len) h2 h3 h4 (ih _ he)
 ·intro us hu
  cases hu
  exact .nil
 ·intro v t vs ts _ _ ih1 ih2 us hu
  cases hu with
  | cons a b=>exact .cons (ih1 _ a) (ih2 _ b)
 ·intro k g o ys hy
  cases hy
  exact .nil
 ·intro k g o vs ts xs hl hc _ _ ih1 ih2 ys hy
  cases hy with
  | cons a b=>exact .cons hl hc (ih1 _ a) (ih2 _ b)
theorem rtl_ts {E:Env} {w:World}:∀ {vs:List Value} {ts us:List Tr},TSL ts us→A2 (RC E w) vs (ts.map .t)→A2 (RC E w) vs (us.map .t)
 | [],_,_,.nil,h=>h
 | _ :: _,_,_,.nil,h=>nomatch h
 | _,_,_,.cons a b,.cons h1 h2=>.cons (RT.ts (show RT _ _ _ _ from h1) _ a) (rtl_ts b h2)
theorem Ct.ts {P:Program} {f:FuncId} {ars:List AV} {ts us:List Tr} {b:Bool} (h:Ct P f ars (.agg (ts.map .t)) [] b) (hu:TSL ts us):Ct P f ars (.agg (us.map .t)) [] b:=by
 refine ⟨h.ent,h.few,h.shut,h.plain,fun x hx=>?_,fun x hx=>?_,fun w vs E0 ha=>(h.run w vs E0 ha).mono ?_⟩
 ·exact absurd hx (by simp [AV.bids,AV.bid1])
 ·refine absurd hx ?_
  have:(AV.agg (us.map .t)).rids=[]:=by
   show (us.map Ce.t).flatMap Ce.rids=[]
   clear h hu hx
   induction us with
   | nil=>rfl
   | cons u us ih=>simp [Ce.rids]
  rw [this]
  exact List.not_mem_nil
 ·rintro e w' ⟨v,rfl,hb,E,hr,h1,h2⟩
  refine ⟨v,rfl,hb,E,?_,h1,h2⟩
  obtain ⟨vs',rfl,h3⟩:=(show R1 E w' v (.agg (ts.map .t)) from hr)
  exact (show R1 E w' _ (.agg (us.map .t)) from ⟨vs',rfl,rtl_ts hu h3⟩)
end Cg
end
section
namespace Go.Proofs.YtmloamomcbmfhaaGreat
open Go Cg Go.RowKit Go.Sort
def presM (l:List GObject):List Int:=(l.filter fun o=>o.zone==0).map GObject.id
theorem pres_step (l:List GObject) (k:Nat) (hk:k < l.length):presM (l.take (k+1))=presM (l.take k)++(if l[k].zone==0 then [l[k].id] else []):=by
 unfold presM
 rw [List.take_succ_eq_append_getElem hk,List.filter_append,List.map_append]
 congr 1
 by_cases h:(l[k].zone==0)=true
 ·rw [if_pos h]
  simp [h]
 ·rw [if_neg h]
  simp [h]
theorem pres_len (l:List GObject):(presM l).length≤l.length:=by
 unfold presM
 rw [Lm]
 exact List.length_filter_le _ _
theorem present_ct (s:GState) (h:s.objects.length*128≤limB):Ct Tryz.prog 46 [.agg (s.enc.map .t)] (.c (.t (.sl 1 ((presM s.objects).map eI)))) [] false:=by
 refine ct_of Tryz.func46 rfl (enters_of Tryz.func46 (by kernel_rfl) rfl) tabOk (by kernel_rfl) rfl rfl rfl rfl fun w0 O _=>Tp.run [8] ?_
 refine Tp.loop (fun k:Nat=>⟨[(3,.c (.row 9000 0)),(7,.c (.t (.sl 19 (s.objects.map GObject.enc)))),(8,AV.i (s.objects.map GObject.enc).length),(9,AV.i k)],[],[(9000,⟨3,1,0,(presM (s.objects.take k)).map eI,none⟩)],10000⟩) (fun k=>k≤s.objects.length) (fun k=>s.objects.length - k) 0 ?_ (Nat.zero_le _) ?_
 ·refine wk_of [] rfl rfl ?_ ?_ ?_
  all_goals repeat' first|refine Ai ?_ ?_|exact rfl|exact trivial|exact Ei _ rfl|refine lN ?_|refine bS ?_|fail
 rintro k hk
 refine Tp.run [6,7,8] ?_
 refine cS (fun hc=>?_) (fun hc=>?_)
 ·have hlt:=len_lt hc
  have hst:=pres_step s.objects k hlt
  refine Ei k (Ei _ (Ai rfl (Ai (map_get _ _ k hlt) ?_)))
  refine cS (fun hz=>?_) (fun hz=>?_)
  ·have hz:(s.objects[k].zone==0)=true:=hz
   rw [if_pos hz] at hst
   have hpl:=pres_len (s.objects.take k)
   rw [List.length_take] at hpl
   refine Tp.run [] ?_
   refine Ai (.inl rfl) (Ai ?_ (Ai ?_ ?_))
   ·rw [Lm]
    show ((presM (s.objects.take k)).length+1)*8≤_
    unfold limB at h
    omega
   ·rw [Lm]
    show (presM (s.objects.take k)).length+1 < _
    unfold limB at h
    omega
   refine Tp.run [] ?_
   refine Ei (k+1) (Ai (show k+1≤_ by omega) (Ai (show s.objects.length - (k+1) < s.objects.length - k by omega) ?_))
   refine wk_of [(9000,9000)] rfl rfl ?_ ?_ ?_
   ·repeat' first|refine Ai ?_ ?_|exact rfl|exact trivial|exact Ei _ rfl|refine lN ?_|refine bS ?_|fail
    exact succ_eq k hlt 128 (by decide) h
   ·repeat' first|refine Ai ?_ ?_|exact rfl|exact trivial|exact Ei _ rfl|refine lN ?_|refine bS ?_|fail
   ·repeat' first|refine Ai ?_ ?_|exact rfl|exact trivial|exact Ei _ rfl|refine lN ?_|refine bS ?_|fail
    rw [hst,List.map_append]
    rfl
  ·have hz:(s.objects[k].zone==0)=false:=hz
   rw [hz,if_neg (by decide),List.append_nil] at hst
   refine Tp.run [] ?_
   refine Ei (k+1) (Ai (show k+1≤_ by omega) (Ai (show s.objects.length - (k+1) < s.objects.length - k by omega) ?_))
   refine wk_of [(9000,9000)] rfl rfl ?_ ?_ ?_
   ·repeat' first|refine Ai ?_ ?_|exact rfl|exact trivial|exact Ei _ rfl|refine lN ?_|refine bS ?_|fail
    exact succ_eq k hlt 128 (by decide) h
   ·repeat' first|refine Ai ?_ ?_|exact rfl|exact trivial|exact Ei _ rfl|refine lN ?_|refine bS ?_|fail
   ·repeat' first|refine Ai ?_ ?_|exact rfl|exact trivial|exact Ei _ rfl|refine lN ?_|refine bS ?_|fail
    rw [hst]
 ·have hke:=len_ge hc hk
  subst hke
  rw [List.take_length]
  refine Tp.run [] ?_
  refine Ei [] (Ai rfl (Ai ?_ ?_))
  all_goals repeat' first|refine Ai ?_ ?_|exact rfl|exact trivial|exact Ei _ rfl|refine lN ?_|refine bS ?_|fail
theorem entered_ct (s t:GState) (hs:s.objects.length≤1000000) (ht:t.objects.length≤1000000):Ct Tryz.prog 18 [.agg (s.enc.map .t),.agg (t.enc.map .t)] (.c (.t (.sl 1 ((fminus (presM t.objects) (presM s.objects)).map eI)))) [] false:=by
 have h1:=present_ct s (by unfold limB;omega)
 have h2:=present_ct t (by unfold limB;omega)
 have h3:=minusP_ct (presM t.objects) (presM s.objects) (Nat.le_trans (pres_len _) ht) (Nat.le_trans (pres_len _) hs)
 refine ct_of Tryz.func18 rfl (enters_of Tryz.func18 (by kernel_rfl) rfl) tabOk (by kernel_rfl) rfl rfl rfl rfl fun w0 O _=>Tp.run [] ?_
 refine cI h2 ⟨fL t.enc,trivial⟩ (.inr rfl) ?_
 refine cI h1 ⟨fL s.enc,trivial⟩ (.inr rfl) ?_
 refine cI h3 ⟨rfl,rfl,trivial⟩ (.inr rfl) ?_
 refine Ei [] (Ai rfl (Ai ?_ ?_))
 all_goals repeat' first|refine Ai ?_ ?_|exact rfl|exact trivial|exact Ei _ rfl|refine lN ?_|refine bS ?_|fail
end Go.Proofs.YtmloamomcbmfhaaGreat
end
section
namespace Go.Proofs.YtmloamomcbmfhaaGreat
open Go Cg Go.RowKit Go.Shelf
theorem r02low (a:Int):∃ r:Bool,True∧Ct Tryz.prog 153 [.c (.t (.lit (.int .u8 a)))] (AV.b r) [] true:=by
 refine ct_x (Φ:=fun _=>True) lit_b (ctx_of Tryz.func153 rfl (enters_of Tryz.func153 (by kernel_rfl) rfl) tabOk (by kernel_rfl) rfl rfl (TpX.runY [] [] ?_))
 repeat' (first|(apply cond_p <;> intro _)|(apply leaf_x;exact Ei [] (Ai rfl (Ai trivial rfl));exact (trivial);rfl)|fail)
theorem r02is (a:ByteArray):∃ r:Bool,(r=true→a.size≤32)∧Ct Tryz.prog 104 [AV.s a] (AV.b r) [] true:=by
 refine ct_x (Φ:=fun (r:Bool)=>r=true→a.size≤32) lit_b (ctx_of Tryz.func104 rfl (enters_of Tryz.func104 (by kernel_rfl) rfl) tabOk (by kernel_rfl) rfl rfl (TpX.runY [] [] ?_))
 repeat' (first|(apply cond_p <;> intro _)|(apply cond_ne <;> intro _)|apply cond_n|(apply cS <;> intro _)|(apply leaf_x;exact Ei [] (Ai rfl (Ai trivial rfl));exact (by intro hr;first|exact Bool.noConfusion hr|omega);rfl)|(apply lp_at 4 rfl;refine LpX.up (β:=Unit) 4 3 (((a.size:Nat):Int)) (by first|omega|exact len62 (by first|assumption|exact okmr ‹_› ‹_› | exact okmg _ ‹_›) rfl) (by omega) (fun _=>[]) (fun _ _=>True) [0] [] 200000 rfl ?_;refine Ai ?_ (fun _ _ _ _ _=>TpX.runY [] [] ?_))|exact Ei () (Ai (trivial) (wk_slim rfl rfl rfl rfl))|exact Ai (by first|assumption|omega) (Ei () (Ai (trivial) (wk_slim rfl rfl rfl rfl)))|(apply ix_str;(first|assumption|omega|(simp only [IntKind.wrap_i64];omega)|(simp only [Lm] at *;omega)|decide);(first|assumption|omega|(simp only [IntKind.wrap_i64];omega)|(simp only [Lm] at *;omega)|decide);intro _)|(apply call_f 153;refine call_x (r02low _) ⟨rfl,trivial⟩ (.inl rfl) (fun _ _=>?_))|fail)
def r10superL:List ByteArray:=[⟨#[98,97,115,105,99]⟩,⟨#[117,110,105,113,117,101]⟩]
theorem r10super:Ct Tryz.prog 193 [] (.c (.row 0 0)) [⟨9,1,0,r10superL.map eS,none⟩] false:=by
 refine ct_of Tryz.func193 rfl (enters_of Tryz.func193 (by kernel_rfl) rfl) tabOk (by kernel_rfl) rfl rfl rfl rfl fun w0 O _=>Tp.run [] ?_
 refine Ei [(0,128)] (Ai rfl (Ai ?_ ?_))
 all_goals repeat' first|refine Ai ?_ ?_|exact rfl|exact trivial|exact Ei _ rfl|refine lN ?_|refine bS ?_|fail
def r10typeL:List ByteArray:=[⟨#[99,114,101,97,116,117,114,101]⟩,⟨#[105,110,115,116,97,110,116]⟩,⟨#[114,105,116,117,97,108]⟩,⟨#[114,101,108,105,99]⟩,⟨#[99,104,97,114,109]⟩,⟨#[108,97,110,100]⟩]
theorem r10type:Ct Tryz.prog 194 [] (.c (.row 0 0)) [⟨9,1,0,r10typeL.map eS,none⟩] false:=by
 refine ct_of Tryz.func194 rfl (enters_of Tryz.func194 (by kernel_rfl) rfl) tabOk (by kernel_rfl) rfl rfl rfl rfl fun w0 O _=>Tp.run [] ?_
 refine Ei [(0,128)] (Ai rfl (Ai ?_ ?_))
 all_goals repeat' first|refine Ai ?_ ?_|exact rfl|exact trivial|exact Ei _ rfl|refine lN ?_|refine bS ?_|fail
theorem r10index (a:List ByteArray) (b:ByteArray) (ha:a.length*16≤limB):∃ r:Int,True∧Ct Tryz.prog 192 [.c (.t (.sl 1 (a.map eS))),AV.s b] (AV.i r) [] true:=by
 refine ct_x (Φ:=fun _=>True) lit_i (ctx_of Tryz.func192 rfl (enters_of Tryz.func192 (by kernel_rfl) rfl) tabOk (by kernel_rfl) rfl rfl (TpX.runY [] [] ?_))
 repeat' (first|(apply cond_p <;> intro _)|(apply cS <;> intro _)|(apply leaf_x;exact Ei [] (Ai rfl (Ai trivial rfl));exact (trivial);rfl)|(apply lp_at 2 rfl;refine LpX.up (β:=Unit) 2 5 ((((a.map eS).length:Nat):Int)) (by first|omega|exact len62 (by first|assumption|exact okmr ‹_› ‹_› | exact okmg _ ‹_›) rfl) (by omega) (fun _=>[]) (fun _ _=>True) [0,1] [] 200000 rfl ?_;refine Ai ?_ (fun _ _ _ _ _=>TpX.runY [] [] ?_))|exact Ei () (Ai (trivial) (wk_slim rfl rfl rfl rfl))|exact Ai (by first|assumption|omega) (Ei () (Ai (trivial) (wk_slim rfl rfl rfl rfl)))|(apply ix_map;(first|assumption|omega|(simp only [IntKind.wrap_i64,IntKind.wrap_u64,List.length_cons,List.length_nil];omega)|(simp only [Lm] at *;omega)|decide);(first|assumption|omega|(simp only [IntKind.wrap_i64,IntKind.wrap_u64,List.length_cons,List.length_nil];omega)|(simp only [Lm] at *;omega)|decide);intro _ _)|fail)
theorem r10isSub (a:ByteArray):∃ r:Bool,(r=true→a.size≤32)∧Ct Tryz.prog 154 [AV.s a] (AV.b r) [] true:=by
 refine ct_x (Φ:=fun (r:Bool)=>r=true→a.size≤32) lit_b (ctx_of Tryz.func154 rfl (enters_of Tryz.func154 (by kernel_rfl) rfl) tabOk (by kernel_rfl) rfl rfl (TpX.runY [] [] ?_))
 repeat' (first|(apply cond_p <;> intro _)|(apply cS <;> intro _)|(apply leaf_x;exact Ei [] (Ai rfl (Ai trivial rfl));exact (by intro hr;first|exact Bool.noConfusion hr|solve_by_elim);rfl)|(apply call_f 104;refine call_x (r02is _) ⟨rfl,trivial⟩ (.inl rfl) (fun _ _=>?_))|(apply call_f 193;refine cI r10super trivial (.inr rfl) ?_)|(apply call_f 194;refine cI r10type trivial (.inr rfl) ?_)|(apply call_f 192;refine call_x (r10index r10superL _ (Nb rfl)) ⟨⟨rfl,rfl⟩,rfl,trivial⟩ (.inl rfl) (fun _ _=>?_))|(apply call_f 192;refine call_x (r10index r10typeL _ (Nb rfl)) ⟨⟨rfl,rfl⟩,rfl,trivial⟩ (.inl rfl) (fun _ _=>?_))|fail)
theorem r10bit (a:Int) (b:Int)  (hb:0≤b) (hb2:b≤64):∃ r:Bool,True∧Ct Tryz.prog 155 [.c (.t (iv a)),.c (.t (iv b))] (AV.b r) [] true:=by
 refine ct_x (Φ:=fun _=>True) lit_b (ctx_of Tryz.func155 rfl (enters_of Tryz.func155 (by kernel_rfl) rfl) tabOk (by kernel_rfl) rfl rfl (TpX.runY [] [] ?_))
 repeat' (first|(apply cond_p <;> intro _)|(apply leaf_x;exact Ei [] (Ai rfl (Ai trivial rfl));exact (trivial);rfl)|(apply lp_at 2 rfl;refine LpX.up (β:=Int) 2 5 (b) (by first|omega|exact len62 (by first|assumption|exact okmr ‹_› ‹_› | exact okmg _ ‹_›) rfl) (by omega) (fun p=>[(0,AV.i p)]) (fun _ _=>True) [1] [] 200000 rfl ?_;refine Ai ?_ (fun _ _ _ _ _=>TpX.runY [] [] ?_))|exact Ei _ (Ai (trivial) (wk_slim rfl rfl rfl rfl))|exact Ai (by first|assumption|omega) (Ei _ (Ai (trivial) (wk_slim rfl rfl rfl rfl)))|(refine Ai rfl (Ai (by first|decide|assumption|omega) ?_))|fail)
theorem r10is (a:GLine) (_ha:a.ok):∃ r:Bool,True∧Ct Tryz.prog 106 [.agg (a.enc.map .t)] (AV.b r) [] true:=by
 refine ct_x (Φ:=fun _=>True) lit_b (ctx_of Tryz.func106 rfl (enters_of Tryz.func106 (by kernel_rfl) rfl) tabOk (by kernel_rfl) rfl rfl (TpX.runY [] [] ?_))
 repeat' (first|(apply cond_p <;> intro _)|apply cond_n|(apply cS <;> intro _)|(apply leaf_x;exact Ei [] (Ai rfl (Ai trivial rfl));exact (trivial);rfl)|(apply lp_at 4 rfl;refine LpX.up (β:=Unit) 4 3 ((((a.subs.map eS).length:Nat):Int)) (by first|omega|exact len62 (by first|assumption|exact okmr ‹_› ‹_› | exact okmg _ ‹_›) rfl) (by omega) (fun _=>[]) (fun _ _=>True) [1] [0] 200000 rfl ?_;refine Ai ?_ (fun _ _ _ _ _=>TpX.runY [] [] ?_))|exact Ei () (Ai (trivial) (wk_slim rfl rfl rfl rfl))|exact Ai (by first|assumption|omega) (Ei () (Ai (trivial) (wk_slim rfl rfl rfl rfl)))|(apply ix_map;(first|assumption|omega|(simp only [IntKind.wrap_i64];omega)|(simp only [Lm] at *;omega)|decide);(first|assumption|omega|(simp only [IntKind.wrap_i64];omega)|(simp only [Lm] at *;omega)|decide);intro _ _)|(apply call_f 154;refine call_x (r10isSub _) ⟨rfl,trivial⟩ (.inl rfl) (fun _ _=>?_))|(apply call_f 155;refine call_x (r10bit _ _ (by first|assumption|omega|(simp only [IntKind.wrap_i64,IntKind.wrap_u64,List.length_cons,List.length_nil];omega)|(simp only [Lm] at *;omega)|decide) (by first|assumption|omega|(simp only [IntKind.wrap_i64,IntKind.wrap_u64,List.length_cons,List.length_nil];omega)|(simp only [Lm] at *;omega)|decide)) ⟨rfl,rfl,trivial⟩ (.inl rfl) (fun _ _=>?_))|fail)
theorem r11is (a:Int):∃ r:Bool,True∧Ct Tryz.prog 107 [.c (.t (iv a))] (AV.b r) [] true:=by
 refine ct_x (Φ:=fun _=>True) lit_b (ctx_of Tryz.func107 rfl (enters_of Tryz.func107 (by kernel_rfl) rfl) tabOk (by kernel_rfl) rfl rfl (TpX.runY [] [] ?_))
 repeat' (first|(apply cond_p <;> intro _)|(apply leaf_x;exact Ei [] (Ai rfl (Ai trivial rfl));exact (trivial);rfl)|fail)
theorem r08is (a:GCost):∃ r:Bool,(r=true→(0≤a.generic∧a.generic≤99)∧(0≤a.x∧a.x≤2)∧(0≤a.color0∧a.color0≤9)∧(0≤a.color1∧a.color1≤9)∧(0≤a.color2∧a.color2≤9)∧(0≤a.color3∧a.color3≤9)∧(0≤a.color4∧a.color4≤9))∧Ct Tryz.prog 105 [.agg (a.enc.map .t)] (AV.b r) [] true:=by
 refine ct_x (Φ:=fun (r:Bool)=>r=true→(0≤a.generic∧a.generic≤99)∧(0≤a.x∧a.x≤2)∧(0≤a.color0∧a.color0≤9)∧(0≤a.color1∧a.color1≤9)∧(0≤a.color2∧a.color2≤9)∧(0≤a.color3∧a.color3≤9)∧(0≤a.color4∧a.color4≤9)) lit_b (ctx_of Tryz.func105 rfl (enters_of Tryz.func105 (by kernel_rfl) rfl) tabOk (by kernel_rfl) rfl rfl (TpX.runY [] [] ?_))
 repeat' (first|(apply cond_p <;> intro _)|(apply leaf_x;exact Ei [] (Ai rfl (Ai trivial rfl));exact (by intro hr;first|exact Bool.noConfusion hr|omega|(simp only [IntKind.wrap_i64] at *;omega));rfl)|(apply lp_at 4 rfl;refine LpX.one 4 rfl (TpX.runY [] [] ?_))|(apply ix_n;(first|assumption|omega|(simp only [IntKind.wrap_i64];omega)|(simp only [Lm] at *;omega)|decide);(first|assumption|omega|(simp only [IntKind.wrap_i64];omega)|(simp only [Lm] at *;omega)|decide);intro _)|fail)
theorem r13bound (a:GBound):∃ r:Bool,(r=true→0≤a.kind∧a.kind≤3)∧Ct Tryz.prog 176 [.agg (a.enc.map .t)] (AV.b r) [] true:=by
 refine ct_x (Φ:=fun (r:Bool)=>r=true→0≤a.kind∧a.kind≤3) lit_b (ctx_of Tryz.func176 rfl (enters_of Tryz.func176 (by kernel_rfl) rfl) tabOk (by kernel_rfl) rfl rfl (TpX.runY [] [] ?_))
 repeat' (first|(apply cond_p <;> intro _)|(apply cond_ne <;> intro _)|(apply leaf_x;exact Ei [] (Ai rfl (Ai trivial rfl));exact (by intro hr;first|exact Bool.noConfusion hr|omega);rfl)|fail)
theorem r13apart (a:Int) (b:Int) (c:Int):∃ r:Bool,True∧Ct Tryz.prog 175 [.c (.t (iv a)),.c (.t (iv b)),.c (.t (iv c))] (AV.b r) [] true:=by
 refine ct_x (Φ:=fun _=>True) lit_b (ctx_of Tryz.func175 rfl (enters_of Tryz.func175 (by kernel_rfl) rfl) tabOk (by kernel_rfl) rfl rfl (TpX.runY [] [] ?_))
 repeat' (first|(apply cond_p <;> intro _)|(apply leaf_x;exact Ei [] (Ai rfl (Ai trivial rfl));exact (trivial);rfl)|(apply lp_at 4 rfl;refine LpX.up (β:=Int × Int) 4 7 (6) (by first|omega|exact len62 (by first|assumption|exact okmr ‹_› ‹_› | exact okmg _ ‹_›) rfl) (by omega) (fun p=>[(0,AV.i p.1),(1,AV.i p.2)]) (fun _ _=>True) [] [] 200000 rfl ?_;refine Ai ?_ (fun _ p _ _ hp=>?_);rotate_left;obtain ⟨p_,p_⟩:=p;(try dsimp only at hp);apply TpX.runY [] [])|exact Ei ⟨_,_⟩ (Ai (trivial) (wk_slim rfl rfl rfl rfl))|exact Ai (by first|assumption|omega) (Ei ⟨_,_⟩ (Ai (trivial) (wk_slim rfl rfl rfl rfl)))|(refine Ai rfl (Ai (by first|decide|assumption|omega) ?_))|fail)
theorem r13is (a:GFilter):∃ r:Bool,(r=true→(0≤a.zone∧a.zone≤5)∧(0≤a.who∧a.who≤2)∧(0≤a.self∧a.self≤2)∧(0≤a.tap∧a.tap≤2)∧(0≤a.power.kind∧a.power.kind≤3)∧(0≤a.tough.kind∧a.tough.kind≤3)∧(0≤a.value.kind∧a.value.kind≤3)∧a.sub.size≤32)∧Ct Tryz.prog 144 [.agg (a.enc.map .t)] (AV.b r) [] true:=by
 refine ct_x (Φ:=fun (r:Bool)=>r=true→(0≤a.zone∧a.zone≤5)∧(0≤a.who∧a.who≤2)∧(0≤a.self∧a.self≤2)∧(0≤a.tap∧a.tap≤2)∧(0≤a.power.kind∧a.power.kind≤3)∧(0≤a.tough.kind∧a.tough.kind≤3)∧(0≤a.value.kind∧a.value.kind≤3)∧a.sub.size≤32) lit_b (ctx_of Tryz.func144 rfl (enters_of Tryz.func144 (by kernel_rfl) rfl) tabOk (by kernel_rfl) rfl rfl (TpX.runY [] [] ?_))
 repeat' (first|(apply cond_p <;> intro _)|apply cond_n|(apply cS <;> intro _)|(apply leaf_x;exact Ei [] (Ai rfl (Ai trivial rfl));exact (by intro hr;first|exact Bool.noConfusion hr|(have hs:a.sub.size≤32:=by first|exact str_nil ‹_› | solve_by_elim);simp_all <;> omega);rfl)|(apply call_f 175;refine call_x (r13apart _ _ _) ⟨rfl,rfl,rfl,trivial⟩ (.inl rfl) (fun _ _=>?_))|(apply call_f 154;refine call_x (r10isSub _) ⟨rfl,trivial⟩ (.inl rfl) (fun _ _=>?_))|(apply call_f 176;refine call_x (r13bound _) ⟨fL (GBound.enc _),trivial⟩ (.inl rfl) (fun _ _=>?_))|fail)
theorem r12name (a:Int):∃ r:ByteArray,(r.size≤40)∧Ct Tryz.prog 208 [.c (.t (iv a))] (AV.s r) [] true:=by
 refine ct_x (Φ:=fun (r:ByteArray)=>r.size≤40) lit_s (ctx_of Tryz.func208 rfl (enters_of Tryz.func208 (by kernel_rfl) rfl) tabOk (by kernel_rfl) rfl rfl (TpX.runY [] [] ?_))
 repeat' (first|(apply cond_p <;> intro _)|(apply leaf_x;exact Ei [] (Ai rfl (Ai trivial rfl));exact (by first|exact Nb rfl|omega|(simp only [Lm] at *;omega));rfl)|fail)
theorem r09name (a:Int):∃ r:ByteArray,(r.size≤40)∧Ct Tryz.prog 215 [.c (.t (iv a))] (AV.s r) [] true:=by
 refine ct_x (Φ:=fun (r:ByteArray)=>r.size≤40) lit_s (ctx_of Tryz.func215 rfl (enters_of Tryz.func215 (by kernel_rfl) rfl) tabOk (by kernel_rfl) rfl rfl (TpX.runY [] [] ?_))
 repeat' (first|(apply cond_p <;> intro _)|(apply leaf_x;exact Ei [] (Ai rfl (Ai trivial rfl));exact (by first|exact Nb rfl|omega|(simp only [Lm] at *;omega));rfl)|fail)
theorem r18word (a:Int):∃ r:ByteArray,(r.size≤40)∧Ct Tryz.prog 177 [.c (.t (iv a))] (AV.s r) [] true:=by
 refine ct_x (Φ:=fun (r:ByteArray)=>r.size≤40) lit_s (ctx_of Tryz.func177 rfl (enters_of Tryz.func177 (by kernel_rfl) rfl) tabOk (by kernel_rfl) rfl rfl (TpX.runY [] [] ?_))
 repeat' (first|(apply cond_p <;> intro _)|(apply leaf_x;exact Ei [] (Ai rfl (Ai trivial rfl));exact (by first|exact Nb rfl|omega|(simp only [Lm] at *;omega));rfl)|fail)
theorem r18hasWho (a:Int):∃ r:Bool,True∧Ct Tryz.prog 178 [.c (.t (iv a))] (AV.b r) [] true:=by
 refine ct_x (Φ:=fun _=>True) lit_b (ctx_of Tryz.func178 rfl (enters_of Tryz.func178 (by kernel_rfl) rfl) tabOk (by kernel_rfl) rfl rfl (TpX.runY [] [] ?_))
 repeat' (first|(apply cond_p <;> intro _)|(apply leaf_x;exact Ei [] (Ai rfl (Ai trivial rfl));exact (trivial);rfl)|fail)
theorem r18hasFilter (a:Int):∃ r:Bool,True∧Ct Tryz.prog 179 [.c (.t (iv a))] (AV.b r) [] true:=by
 refine ct_x (Φ:=fun _=>True) lit_b (ctx_of Tryz.func179 rfl (enters_of Tryz.func179 (by kernel_rfl) rfl) tabOk (by kernel_rfl) rfl rfl (TpX.runY [] [] ?_))
 repeat' (first|apply cond_n|(apply cS <;> intro _)|(apply leaf_x;exact Ei [] (Ai rfl (Ai trivial rfl));exact (trivial);rfl)|(apply call_f 177;refine call_x (r18word _) ⟨rfl,trivial⟩ (.inl rfl) (fun _ _=>?_))|(apply call_f 178;refine call_x (r18hasWho _) ⟨rfl,trivial⟩ (.inl rfl) (fun _ _=>?_))|fail)
theorem r18is (a:GTrigger):∃ r:Bool,True∧Ct Tryz.prog 146 [.agg (a.enc.map .t)] (AV.b r) [] true:=by
 refine ct_x (Φ:=fun _=>True) lit_b (ctx_of Tryz.func146 rfl (enters_of Tryz.func146 (by kernel_rfl) rfl) tabOk (by kernel_rfl) rfl rfl (TpX.runY [] [] ?_))
 repeat' (first|(apply cond_p <;> intro _)|(apply cond_ne <;> intro _)|apply cond_n|(apply cS <;> intro _)|(apply leaf_x;exact Ei [] (Ai rfl (Ai trivial rfl));exact (trivial);rfl)|(apply call_f 177;refine call_x (r18word _) ⟨rfl,trivial⟩ (.inl rfl) (fun _ _=>?_))|(apply call_f 178;refine call_x (r18hasWho _) ⟨rfl,trivial⟩ (.inl rfl) (fun _ _=>?_))|(apply call_f 179;refine call_x (r18hasFilter _) ⟨rfl,trivial⟩ (.inl rfl) (fun _ _=>?_))|(apply call_f 144;refine call_x (r13is _) ⟨fL (GFilter.enc _),trivial⟩ (.inl rfl) (fun _ _=>?_))|fail)
theorem r19field (a:GFilter):∃ r:Bool,True∧Ct Tryz.prog 182 [.agg (a.enc.map .t)] (AV.b r) [] true:=by
 refine ct_x (Φ:=fun _=>True) lit_b (ctx_of Tryz.func182 rfl (enters_of Tryz.func182 (by kernel_rfl) rfl) tabOk (by kernel_rfl) rfl rfl (TpX.runY [] [] ?_))
 repeat' (first|(apply cS <;> intro _)|(apply leaf_x;exact Ei [] (Ai rfl (Ai trivial rfl));exact (trivial);rfl)|(apply call_f 144;refine call_x (r13is _) ⟨fL (GFilter.enc _),trivial⟩ (.inl rfl) (fun _ _=>?_))|fail)
theorem r19plain (a:GReplace):∃ r:Bool,True∧Ct Tryz.prog 181 [.agg (a.enc.map .t)] (AV.b r) [] true:=by
 refine ct_x (Φ:=fun _=>True) lit_b (ctx_of Tryz.func181 rfl (enters_of Tryz.func181 (by kernel_rfl) rfl) tabOk (by kernel_rfl) rfl rfl (TpX.runY [] [] ?_))
 repeat' (first|(apply cond_p <;> intro _)|(apply cond_ne <;> intro _)|(apply leaf_x;exact Ei [] (Ai rfl (Ai trivial rfl));exact (trivial);rfl)|fail)
theorem r19moves (a:GReplace):∃ r:Bool,True∧Ct Tryz.prog 180 [.agg (a.enc.map .t)] (AV.b r) [] true:=by
 refine ct_x (Φ:=fun _=>True) lit_b (ctx_of Tryz.func180 rfl (enters_of Tryz.func180 (by kernel_rfl) rfl) tabOk (by kernel_rfl) rfl rfl (TpX.runY [] [] ?_))
 repeat' (first|(apply cond_p <;> intro _)|(apply cond_ne <;> intro _)|apply cond_n|(apply cS <;> intro _)|(apply leaf_x;exact Ei [] (Ai rfl (Ai trivial rfl));exact (trivial);rfl)|(apply call_f 182;refine call_x (r19field _) ⟨fL (GFilter.enc _),trivial⟩ (.inl rfl) (fun _ _=>?_))|fail)
theorem r19is (a:GReplace):∃ r:Bool,True∧Ct Tryz.prog 147 [.agg (a.enc.map .t)] (AV.b r) [] true:=by
 refine ct_x (Φ:=fun _=>True) lit_b (ctx_of Tryz.func147 rfl (enters_of Tryz.func147 (by kernel_rfl) rfl) tabOk (by kernel_rfl) rfl rfl (TpX.runY [] [] ?_))
 repeat' (first|(apply cond_p <;> intro _)|(apply cond_ne <;> intro _)|apply cond_n|(apply cS <;> intro _)|(apply leaf_x;exact Ei [] (Ai rfl (Ai trivial rfl));exact (trivial);rfl)|(apply call_f 180;refine call_x (r19moves _) ⟨fL (GReplace.enc _),trivial⟩ (.inl rfl) (fun _ _=>?_))|(apply call_f 181;refine call_x (r19plain _) ⟨fL (GReplace.enc _),trivial⟩ (.inl rfl) (fun _ _=>?_))|(apply call_f 182;refine call_x (r19field _) ⟨fL (GFilter.enc _),trivial⟩ (.inl rfl) (fun _ _=>?_))|fail)
theorem r20spec (a:GSpec):∃ r:Bool,True∧Ct Tryz.prog 183 [.agg (a.enc.map .t)] (AV.b r) [] true:=by
 refine ct_x (Φ:=fun _=>True) lit_b (ctx_of Tryz.func183 rfl (enters_of Tryz.func183 (by kernel_rfl) rfl) tabOk (by kernel_rfl) rfl rfl (TpX.runY [] [] ?_))
 repeat' (first|(apply cond_p <;> intro _)|apply cond_n|(apply cS <;> intro _)|(apply leaf_x;exact Ei [] (Ai rfl (Ai trivial rfl));exact (trivial);rfl)|(apply call_f 144;refine call_x (r13is _) ⟨fL (GFilter.enc _),trivial⟩ (.inl rfl) (fun _ _=>?_))|fail)
theorem r20specs (a:List GSpec) (ha:a.length*144≤limB):∃ r:Bool,True∧Ct Tryz.prog 148 [.c (.t (.sl 18 (a.map GSpec.enc)))] (AV.b r) [] true:=by
 refine ct_x (Φ:=fun _=>True) lit_b (ctx_of Tryz.func148 rfl (enters_of Tryz.func148 (by kernel_rfl) rfl) tabOk (by kernel_rfl) rfl rfl (TpX.runY [] [] ?_))
 repeat' (first|(apply cond_p <;> intro _)|apply cond_n|(apply cS <;> intro _)|(apply leaf_x;exact Ei [] (Ai rfl (Ai trivial rfl));exact (trivial);rfl)|(apply lp_at 2 rfl;refine LpX.up (β:=Unit) 2 3 ((((a.map GSpec.enc).length:Nat):Int)) (by first|omega|exact len62 (by first|assumption|exact okmr ‹_› ‹_› | exact okmg _ ‹_›) rfl) (by omega) (fun _=>[]) (fun _ _=>True) [0] [] 200000 rfl ?_;refine Ai ?_ (fun _ _ _ _ _=>TpX.runY [] [] ?_))|exact Ei () (Ai (trivial) (wk_slim rfl rfl rfl rfl))|exact Ai (by first|assumption|omega) (Ei () (Ai (trivial) (wk_slim rfl rfl rfl rfl)))|(apply ix_map;(first|assumption|omega|(simp only [IntKind.wrap_i64,IntKind.wrap_u64,List.length_cons,List.length_nil];omega)|(simp only [Lm] at *;omega)|decide);(first|assumption|omega|(simp only [IntKind.wrap_i64,IntKind.wrap_u64,List.length_cons,List.length_nil];omega)|(simp only [Lm] at *;omega)|decide);intro _ _)|(apply call_f 183;refine call_x (r20spec _) ⟨fL (GSpec.enc _),trivial⟩ (.inl rfl) (fun _ _=>?_))|fail)
theorem r20price (a:GPrice):∃ r:Bool,True∧Ct Tryz.prog 145 [.agg (a.enc.map .t)] (AV.b r) [] true:=by
 refine ct_x (Φ:=fun _=>True) lit_b (ctx_of Tryz.func145 rfl (enters_of Tryz.func145 (by kernel_rfl) rfl) tabOk (by kernel_rfl) rfl rfl (TpX.runY [] [] ?_))
 repeat' (first|(apply cond_p <;> intro _)|(apply cS <;> intro _)|(apply leaf_x;exact Ei [] (Ai rfl (Ai trivial rfl));exact (trivial);rfl)|(apply call_f 105;refine call_x (r08is _) ⟨fL (GCost.enc _),trivial⟩ (.inl rfl) (fun _ _=>?_))|fail)
theorem r16numbered (a:Int):∃ r:Bool,True∧Ct Tryz.prog 232 [.c (.t (iv a))] (AV.b r) [] true:=by
 refine ct_x (Φ:=fun _=>True) lit_b (ctx_of Tryz.func232 rfl (enters_of Tryz.func232 (by kernel_rfl) rfl) tabOk (by kernel_rfl) rfl rfl (TpX.runY [] [] ?_))
 repeat' (first|(apply cond_p <;> intro _)|(apply leaf_x;exact Ei [] (Ai rfl (Ai trivial rfl));exact (trivial);rfl)|fail)
theorem r16is (a:GRef) (b:Int):∃ r:Bool,True∧Ct Tryz.prog 207 [.agg (a.enc.map .t),.c (.t (iv b))] (AV.b r) [] true:=by
 refine ct_x (Φ:=fun _=>True) lit_b (ctx_of Tryz.func207 rfl (enters_of Tryz.func207 (by kernel_rfl) rfl) tabOk (by kernel_rfl) rfl rfl (TpX.runY [] [] ?_))
 repeat' (first|(apply cond_p <;> intro _)|(apply cond_ne <;> intro _)|(apply cS <;> intro _)|(apply leaf_x;exact Ei [] (Ai rfl (Ai trivial rfl));exact (trivial);rfl)|(apply call_f 232;refine call_x (r16numbered _) ⟨rfl,trivial⟩ (.inl rfl) (fun _ _=>?_))|(apply call_f 144;refine call_x (r13is _) ⟨fL (GFilter.enc _),trivial⟩ (.inl rfl) (fun _ _=>?_))|fail)
theorem r14is (a:GAmount):∃ r:Bool,True∧Ct Tryz.prog 209 [.agg (a.enc.map .t)] (AV.b r) [] true:=by
 refine ct_x (Φ:=fun _=>True) lit_b (ctx_of Tryz.func209 rfl (enters_of Tryz.func209 (by kernel_rfl) rfl) tabOk (by kernel_rfl) rfl rfl (TpX.runY [] [] ?_))
 repeat' (first|(apply cond_p <;> intro _)|apply cond_n|(apply cS <;> intro _)|(apply leaf_x;exact Ei [] (Ai rfl (Ai trivial rfl));exact (trivial);rfl)|(apply call_f 144;refine call_x (r13is _) ⟨fL (GFilter.enc _),trivial⟩ (.inl rfl) (fun _ _=>?_))|(apply call_f 208;refine call_x (r12name _) ⟨rfl,trivial⟩ (.inl rfl) (fun _ _=>?_))|fail)
theorem r17filter (a:Int) (b:GFilter):∃ r:Bool,True∧Ct Tryz.prog 212 [.c (.t (iv a)),.agg (b.enc.map .t)] (AV.b r) [] true:=by
 refine ct_x (Φ:=fun _=>True) lit_b (ctx_of Tryz.func212 rfl (enters_of Tryz.func212 (by kernel_rfl) rfl) tabOk (by kernel_rfl) rfl rfl (TpX.runY [] [] ?_))
 repeat' (first|(apply cond_p <;> intro _)|(apply cS <;> intro _)|(apply leaf_x;exact Ei [] (Ai rfl (Ai trivial rfl));exact (trivial);rfl)|(apply call_f 144;refine call_x (r13is _) ⟨fL (GFilter.enc _),trivial⟩ (.inl rfl) (fun _ _=>?_))|fail)
theorem r17word (a:Int):∃ r:ByteArray,(r.size≤40)∧Ct Tryz.prog 205 [.c (.t (iv a))] (AV.s r) [] true:=by
 refine ct_x (Φ:=fun (r:ByteArray)=>r.size≤40) lit_s (ctx_of Tryz.func205 rfl (enters_of Tryz.func205 (by kernel_rfl) rfl) tabOk (by kernel_rfl) rfl rfl (TpX.runY [] [] ?_))
 repeat' (first|(apply cond_p <;> intro _)|(apply leaf_x;exact Ei [] (Ai rfl (Ai trivial rfl));exact (by first|exact Nb rfl|omega|(simp only [Lm] at *;omega));rfl)|(apply ix_n;(first|assumption|omega|(simp only [IntKind.wrap_i64];omega)|(simp only [Lm] at *;omega)|decide);(first|assumption|omega|(simp only [IntKind.wrap_i64,List.length_cons,List.length_nil];omega)|(simp only [Lm] at *;omega)|decide);intro _)|(apply ld_lit;exact rfl;assumption;exact rfl;intro _ _)|fail)
theorem r17Uses (a:Int):∃ r:ByteArray,(r.size≤40)∧Ct Tryz.prog 231 [.c (.t (iv a))] (AV.s r) [] true:=by
 refine ct_x (Φ:=fun (r:ByteArray)=>r.size≤40) lit_s (ctx_of Tryz.func231 rfl (enters_of Tryz.func231 (by kernel_rfl) rfl) tabOk (by kernel_rfl) rfl rfl (TpX.runY [] [1009,1014,1029,30] ?_))
 repeat' (first|(apply cond_p <;> intro _)|(apply cS <;> intro _)|(apply leaf_x;exact Ei [] (Ai rfl (Ai trivial rfl));exact (by first|exact Nb rfl|omega|(simp only [Lm] at *;omega));rfl)|(apply cut_at 1009 rfl;refine TpX.cut (α:=Bool) 1009 (fun p=>[(4,AV.b p)]) (fun _=>True) [3] [] 200000 rfl ?_;refine Ai (TpX.runY [] [1009,1014,1029,30] ?_) (fun _ _=>TpX.runY [] [1009,1014,1029,30] ?_))|(apply cut_at 1014 rfl;refine TpX.cut (α:=Bool) 1014 (fun p=>[(14,AV.b p)]) (fun _=>True) [3] [] 300000 rfl ?_;refine Ai (TpX.runY [] [1009,1014,1029,30] ?_) (fun _ _=>TpX.runY [] [1009,1014,1029,30] ?_))|(apply cut_at 1029 rfl;refine TpX.cut (α:=Bool) 1029 (fun p=>[(29,AV.b p)]) (fun _=>True) [] [] 400000 rfl ?_;refine Ai (TpX.runY [] [1009,1014,1029,30] ?_) (fun _ _=>TpX.runY [] [1009,1014,1029,30] ?_))|(apply cut_at 30 rfl;refine TpX.cut (α:=Unit) 30 (fun _=>[]) (fun _=>True) [] [] 500000 rfl ?_;refine Ai (TpX.runY [] [1009,1014,1029,30] ?_) (fun _ _=>TpX.runY [] [1009,1014,1029,30] ?_))|exact Ei () (Ai (trivial) (wk_slim rfl rfl rfl rfl))|exact Ei _ (Ai (trivial) (wk_slim rfl rfl rfl rfl))|fail)
theorem r17uses (a:Int) (b:Int):∃ r:Bool,True∧Ct Tryz.prog 206 [.c (.t (iv a)),.c (.t (.lit (.int .u8 b)))] (AV.b r) [] true:=by
 refine ct_x (Φ:=fun _=>True) lit_b (ctx_of Tryz.func206 rfl (enters_of Tryz.func206 (by kernel_rfl) rfl) tabOk (by kernel_rfl) rfl rfl (TpX.runY [] [] ?_))
 repeat' (first|(apply cond_p <;> intro _)|(apply leaf_x;exact Ei [] (Ai rfl (Ai trivial rfl));exact (trivial);rfl)|(apply lp_at 3 rfl;rename_i s hs;refine LpX.up (β:=Unit) 3 6 (((s.size:Nat):Int)) (by first|omega|exact len62 (by first|assumption|exact okmr ‹_› ‹_› | exact okmg _ ‹_›) rfl) (by omega) (fun _=>[]) (fun _ _=>True) [1,5] [] 200000 rfl ?_;refine Ai ?_ (fun _ _ _ _ _=>TpX.runY [] [] ?_))|exact Ei () (Ai (trivial) (wk_slim rfl rfl rfl rfl))|exact Ai (by first|assumption|omega) (Ei () (Ai (trivial) (wk_slim rfl rfl rfl rfl)))|(apply ix_str;(first|assumption|omega|(simp only [IntKind.wrap_i64,IntKind.wrap_u64,List.length_cons,List.length_nil];omega)|(simp only [Lm] at *;omega)|decide);(first|assumption|omega|(simp only [IntKind.wrap_i64,IntKind.wrap_u64,List.length_cons,List.length_nil];omega)|(simp only [Lm] at *;omega)|decide);intro _)|(apply call_f 231;refine call_x (r17Uses _) ⟨rfl,trivial⟩ (.inl rfl) (fun _ _=>?_))|fail)
theorem one_cat {c:UInt8} {s:ByteArray} {R:Prop} (h:s.size≤9223372036854775806) (hk:((⟨[c].toArray⟩:ByteArray)++s).size=1+s.size→R):(⟨[c].toArray⟩:ByteArray).size+s.size≤9223372036854775807∧R:=cat_s (by have:(⟨[c].toArray⟩:ByteArray).size=1:=rfl;omega) hk
theorem r01digits (u:Int) (h0:0≤u) (_h1:u < 18446744073709551616):∃ r:ByteArray,r.size≤70∧Ct Tryz.prog 226 [.c (.t (.lit (.int .u64 u)))] (AV.s r) [] true:=by
 refine ct_x (Φ:=fun (r:ByteArray)=>r.size≤70) lit_s (ctx_of Tryz.func226 rfl (enters_of Tryz.func226 (by kernel_rfl) rfl) tabOk (by kernel_rfl) rfl rfl (TpX.runY [] [] ?_))
 refine Ai rfl (Ai (by decide) ?_)
 refine Ai rfl (Ai (by decide) ?_)
 refine LpX.at (α:=Int × ByteArray × Nat) 3 (fun p=>[(0,.c (.t (.lit (.int .u64 p.1)))),(3,AV.s p.2.1)]) (fun p=>0≤p.1∧p.1 < 2 ^ p.2.2∧p.2.1.size+p.2.2≤66) (fun p=>p.2.2) [] [] 100000 rfl ?_
 refine Ai (Ei (_,_,64) (Ai ?_ (wk_slim rfl rfl rfl rfl))) ?_
 ·have hd:u.tdiv 10=u / 10:=Int.tdiv_eq_ediv_of_nonneg h0
  show 0≤IntKind.u64.wrap (u.tdiv 10)∧IntKind.u64.wrap (u.tdiv 10) < 18446744073709551616∧_
  refine ⟨?_,?_,Nb rfl⟩
  ·simp only [IntKind.wrap_u64,hd]
   omega
  ·simp only [IntKind.wrap_u64,hd]
   omega
 rintro ⟨n,s,k⟩ ⟨g0,g1,g2⟩
 simp only at g0 g1 g2
 refine TpX.runY [] [] ?_
 refine cond_p (fun hn=>?_) (fun _=>?_)
 ·have hk:∃ j,k=j+1:=by
   cases k with
   | zero=>simp at g1;omega
   | succ j=>exact ⟨j,rfl⟩
  obtain ⟨j,rfl⟩:=hk
  have g3:n < 2 ^ j*2:=by rw [← Int.pow_succ];exact g1
  have hj:(0:Int) < 2 ^ j:=Int.pow_pos (by decide)
  have hd:n.tdiv 10=n / 10:=Int.tdiv_eq_ediv_of_nonneg g0
  refine Ai rfl (Ai (by decide) ?_)
  refine one_cat (s:=s) (by omega) (fun hs=>?_)
  refine Ai rfl (Ai (by decide) ?_)
  refine Ei (_,_,j) (Ai (Ai ⟨?_,?_,?_⟩ (Nat.lt_succ_self j)) (wk_slim rfl rfl rfl rfl))
  ·simp only [hd]
   omega
  ·show IntKind.u64.wrap (n.tdiv 10) < 2 ^ j
   rw [hd,IntKind.wrap_u64]
   have h8:n / 10 % 18446744073709551616≤n / 10:=by omega
   omega
  ·exact Nat.le_trans (Nat.add_le_add_right (Nat.le_of_eq hs) j) (show 1+s.size+j≤66 by omega)
 ·exact leaf_x s (Ei [] (Ai rfl (Ai trivial rfl))) (by omega) rfl
theorem r01text (a:Int):∃ r:ByteArray,(r.size≤110)∧Ct Tryz.prog 191 [.c (.t (iv a))] (AV.s r) [] true:=by
 refine ct_x (Φ:=fun (r:ByteArray)=>r.size≤110) lit_s (ctx_of Tryz.func191 rfl (enters_of Tryz.func191 (by kernel_rfl) rfl) tabOk (by kernel_rfl) rfl rfl (TpX.runY [] [] ?_))
 repeat' (first|(apply cond_p <;> intro _)|(apply leaf_x;exact Ei [] (Ai rfl (Ai trivial rfl));exact (by first|exact Nb rfl|((try dsimp only at *);omega)|exact Int.le_refl 0|(simp only [Lm] at *;omega));rfl)|(apply cat_l;exact rfl;(first|exact Nb rfl|omega|(simp only [Lm] at *;omega));intro _)|(apply call_f 226;refine call_x (r01digits _ (by first|assumption|omega|(simp only [IntKind.wrap_u64];omega)|(simp only [Lm] at *;omega)|decide) (by first|assumption|omega|(simp only [IntKind.wrap_u64];omega)|(simp only [Lm] at *;omega)|decide)) ⟨rfl,trivial⟩ (.inl rfl) (fun _ _=>?_))|fail)
theorem r02join (a:List ByteArray) (b:ByteArray) (ha:a.length*16≤limB) (hs:∀ y∈a,y.size≤2000) (hn:a.length≤100) (hc:b.size≤10):∃ r:ByteArray,(r.size≤201000)∧Ct Tryz.prog 225 [.c (.t (.sl 1 (a.map eS))),AV.s b] (AV.s r) [] true:=by
 refine ct_x (Φ:=fun (r:ByteArray)=>r.size≤201000) lit_s (ctx_of Tryz.func225 rfl (enters_of Tryz.func225 (by kernel_rfl) rfl) tabOk (by kernel_rfl) rfl rfl (TpX.runY [] [] ?_))
 repeat' (first|(apply ix_mp hs;(first|assumption|omega|(simp only [IntKind.wrap_i64,IntKind.wrap_u64,List.length_cons,List.length_nil];omega)|(simp only [Lm] at *;omega)|decide);(first|assumption|omega|(simp only [IntKind.wrap_i64,IntKind.wrap_u64,List.length_cons,List.length_nil];omega)|(simp only [Lm] at *;omega)|decide);intro _ _ _)|(apply cond_p <;> intro _)|(apply leaf_x;exact Ei [] (Ai rfl (Ai trivial rfl));exact (by first|exact Nb rfl|((try dsimp only at *);omega)|exact Int.le_refl 0|(simp only [Lm] at *;omega));rfl)|(apply lp_at 3 rfl;refine LpX.up (β:=ByteArray) 3 6 ((((a.map eS).length:Nat):Int)) (by first|omega|exact len62 (by first|assumption|exact okmr ‹_› ‹_› | exact okmg _ ‹_›) rfl) (by omega) (fun p=>[(5,AV.s p)]) (fun i (p:ByteArray)=>(p.size:Int)≤i*2010) [0,1] [] 200000 rfl ?_;refine Ai ?_ (fun _ _ _ _ _=>TpX.runY [] [] ?_))|exact Ei _ (Ai (by first|exact Nb rfl|((try dsimp only at *);omega)|exact Int.le_refl 0|(simp only [Lm] at *;omega)) (wk_slim rfl rfl rfl rfl))|exact Ai (by first|assumption|omega) (Ei _ (Ai (by first|exact Nb rfl|((try dsimp only at *);omega)|exact Int.le_refl 0|(simp only [Lm] at *;omega)) (wk_slim rfl rfl rfl rfl)))|(apply cat_s;(first|exact Nb rfl|omega|(simp only [Lm] at *;omega));intro _)|fail)
theorem r10joined (a:List ByteArray) (b:Int) (c:ByteArray) (ha:a.length*16≤limB) (hs:∀ y∈a,y.size≤40) (hn:a.length≤20) (hc:c.size≤10):∃ r:ByteArray,(r.size≤1000)∧Ct Tryz.prog 213 [.c (.t (.sl 1 (a.map eS))),.c (.t (iv b)),AV.s c] (AV.s r) [] true:=by
 refine ct_x (Φ:=fun (r:ByteArray)=>r.size≤1000) lit_s (ctx_of Tryz.func213 rfl (enters_of Tryz.func213 (by kernel_rfl) rfl) tabOk (by kernel_rfl) rfl rfl (TpX.runY [] [] ?_))
 repeat' (first|(apply ix_mp hs;(first|assumption|omega|(simp only [IntKind.wrap_i64,IntKind.wrap_u64,List.length_cons,List.length_nil];omega)|(simp only [Lm] at *;omega)|decide);(first|assumption|omega|(simp only [IntKind.wrap_i64,IntKind.wrap_u64,List.length_cons,List.length_nil];omega)|(simp only [Lm] at *;omega)|decide);intro _ _ _)|(apply cond_p <;> intro _)|apply cond_n|(apply cS <;> intro _)|(apply leaf_x;exact Ei [] (Ai rfl (Ai trivial rfl));exact (by first|exact Nb rfl|((try dsimp only at *);omega)|exact Int.le_refl 0|(simp only [Lm] at *;omega));rfl)|(apply lp_at 3 rfl;refine LpX.up (β:=ByteArray) 3 8 ((((a.map eS).length:Nat):Int)) (by first|omega|exact len62 (by first|assumption|exact okmr ‹_› ‹_› | exact okmg _ ‹_›) rfl) (by omega) (fun p=>[(7,AV.s p)]) (fun i (p:ByteArray)=>(p.size:Int)≤i*50) [0,1,2] [] 200000 rfl ?_;refine Ai ?_ (fun _ _ _ _ _=>TpX.runY [] [] ?_))|exact Ei _ (Ai (by first|exact Nb rfl|((try dsimp only at *);omega)|exact Int.le_refl 0|(simp only [Lm] at *;omega)) (wk_slim rfl rfl rfl rfl))|exact Ai (by first|assumption|omega) (Ei _ (Ai (by first|exact Nb rfl|((try dsimp only at *);omega)|exact Int.le_refl 0|(simp only [Lm] at *;omega)) (wk_slim rfl rfl rfl rfl)))|(apply cat_s;(first|exact Nb rfl|omega|(simp only [Lm] at *;omega));intro _)|(apply call_f 155;refine call_x (r10bit _ _ (by first|assumption|omega|(simp only [IntKind.wrap_i64,IntKind.wrap_u64,List.length_cons,List.length_nil];omega)|(simp only [Lm] at *;omega)|decide) (by first|assumption|omega|(simp only [IntKind.wrap_i64,IntKind.wrap_u64,List.length_cons,List.length_nil];omega)|(simp only [Lm] at *;omega)|decide)) ⟨rfl,rfl,trivial⟩ (.inl rfl) (fun _ _=>?_))|fail)
theorem r10type_sz:∀ y∈r10typeL,y.size≤40:=by decide
theorem r10typesText (a:Int):∃ r:ByteArray,(r.size≤1000)∧Ct Tryz.prog 187 [.c (.t (iv a))] (AV.s r) [] true:=by
 refine ct_x (Φ:=fun (r:ByteArray)=>r.size≤1000) lit_s (ctx_of Tryz.func187 rfl (enters_of Tryz.func187 (by kernel_rfl) rfl) tabOk (by kernel_rfl) rfl rfl (TpX.runY [] [] ?_))
 repeat' (first|(apply cond_p <;> intro _)|(apply leaf_x;exact Ei [] (Ai rfl (Ai trivial rfl));exact (by first|exact Nb rfl|((try dsimp only at *);omega)|exact Int.le_refl 0|(simp only [Lm] at *;omega));rfl)|(apply call_f 194;refine cI r10type trivial (.inr rfl) ?_)|(apply call_f 213;refine call_x (r10joined r10typeL _ _ (Nb rfl) r10type_sz (Nb rfl) (Nb rfl)) ⟨⟨rfl,rfl⟩,rfl,rfl,trivial⟩ (.inl rfl) (fun _ _=>?_))|fail)
theorem r09is (a:Int):∃ r:Bool,True∧Ct Tryz.prog 214 [.c (.t (iv a))] (AV.b r) [] true:=by
 refine ct_x (Φ:=fun _=>True) lit_b (ctx_of Tryz.func214 rfl (enters_of Tryz.func214 (by kernel_rfl) rfl) tabOk (by kernel_rfl) rfl rfl (TpX.runY [] [] ?_))
 repeat' (first|(apply cond_p <;> intro _)|(apply leaf_x;exact Ei [] (Ai rfl (Ai trivial rfl));exact (trivial);rfl)|fail)
theorem r09text (a:Int):∃ r:ByteArray,(r.size≤500)∧Ct Tryz.prog 188 [.c (.t (iv a))] (AV.s r) [] true:=by
 refine ct_x (Φ:=fun (r:ByteArray)=>r.size≤500) lit_s (ctx_of Tryz.func188 rfl (enters_of Tryz.func188 (by kernel_rfl) rfl) tabOk (by kernel_rfl) rfl rfl (TpX.runY [] [] ?_))
 repeat' (first|(apply cond_p <;> intro _)|apply cond_n|(apply cS <;> intro _)|(apply leaf_x;exact Ei [] (Ai rfl (Ai trivial rfl));exact (by first|exact Nb rfl|((try dsimp only at *);omega)|exact Int.le_refl 0|(simp only [Lm] at *;omega));rfl)|(apply lp_at 7 rfl;refine LpX.up (β:=ByteArray) 7 4 (5) (by first|omega|exact len62 (by first|assumption|exact okmr ‹_› ‹_› | exact okmg _ ‹_›) rfl) (by omega) (fun p=>[(3,AV.s p)]) (fun i (p:ByteArray)=>(p.size:Int)≤i*90) [0] [] 200000 rfl ?_;refine Ai ?_ ?_;rotate_left;intro i p h0 h1 hp;(rcases (by omega:i=0∨i=1∨i=2∨i=3∨i=4∨i=5) with rfl|rfl|rfl|rfl|rfl|rfl) <;> apply TpX.runY [] [])|exact Ei _ (Ai (by first|exact Nb rfl|((try dsimp only at *);omega)|exact Int.le_refl 0|(simp only [Lm] at *;omega)) (wk_slim rfl rfl rfl rfl))|exact Ai (by first|assumption|omega) (Ei _ (Ai (by first|exact Nb rfl|((try dsimp only at *);omega)|exact Int.le_refl 0|(simp only [Lm] at *;omega)) (wk_slim rfl rfl rfl rfl)))|(apply cat_r;exact rfl;(first|exact Nb rfl|omega|(simp only [Lm] at *;omega));intro _)|(apply cat_s;(first|exact Nb rfl|omega|(simp only [Lm] at *;omega));intro _)|(refine Ai rfl (Ai (by first|decide|assumption|omega) ?_))|(apply call_f 214;refine call_x (r09is _) ⟨rfl,trivial⟩ (.inl rfl) (fun _ _=>?_))|(apply call_f 215;refine call_x (r09name _) ⟨rfl,trivial⟩ (.inl rfl) (fun _ _=>?_))|fail)
theorem r11names:Ct Tryz.prog 235 [] (.c (.row 0 0)) [⟨9,1,0,[eS ⟨#[102,108,121,105,110,103]⟩,eS ⟨#[114,101,97,99,104]⟩,eS ⟨#[104,97,115,116,101]⟩,eS ⟨#[118,105,103,105,108,97,110,116]⟩,eS ⟨#[116,114,97,109,112,108,101]⟩,eS ⟨#[102,105,114,115,116,45,115,116,114,105,107,101]⟩,eS ⟨#[100,111,117,98,108,101,45,115,116,114,105,107,101]⟩,eS ⟨#[100,101,97,100,108,121]⟩,eS ⟨#[108,105,102,101,108,105,110,107]⟩,eS ⟨#[109,101,110,97,99,101]⟩,eS ⟨#[100,101,102,101,110,100,101,114]⟩,eS ⟨#[119,97,114,100,101,100]⟩,eS ⟨#[115,116,117,114,100,121]⟩,eS ⟨#[101,108,117,115,105,118,101]⟩,eS ⟨#[110,111,45,97,116,116,97,99,107]⟩,eS ⟨#[110,111,45,98,108,111,99,107]⟩,eS ⟨#[109,117,115,116,45,97,116,116,97,99,107]⟩],none⟩] false:=by
 refine ct_of Tryz.func235 rfl (enters_of Tryz.func235 (by kernel_rfl) rfl) tabOk (by kernel_rfl) rfl rfl rfl rfl fun w0 O _=>Tp.run [] ?_
 refine Ei [(0,128)] (Ai rfl (Ai ?_ ?_))
 all_goals repeat' first|refine Ai ?_ ?_|exact rfl|exact trivial|exact Ei _ rfl|refine lN ?_|refine bS ?_|fail
theorem r11name (a:Int):∃ r:ByteArray,(r.size≤40)∧Ct Tryz.prog 216 [.c (.t (iv a))] (AV.s r) [] true:=by
 refine ct_x (Φ:=fun (r:ByteArray)=>r.size≤40) lit_s (ctx_of Tryz.func216 rfl (enters_of Tryz.func216 (by kernel_rfl) rfl) tabOk (by kernel_rfl) rfl rfl (TpX.runY [] [] ?_))
 repeat' (first|(apply cond_p <;> intro _)|(apply leaf_x;exact Ei [] (Ai rfl (Ai trivial rfl));exact (by first|exact Nb rfl|((try dsimp only at *);omega)|exact Int.le_refl 0|(simp only [Lm] at *;omega));rfl)|(apply call_f 235;refine cI r11names trivial (.inr rfl) ?_)|(apply ix_n;(first|assumption|omega|(simp only [IntKind.wrap_i64,IntKind.wrap_u64,List.length_cons,List.length_nil];omega)|(simp only [Lm] at *;omega)|decide);(first|assumption|omega|(simp only [List.length_cons,List.length_nil];omega)|(simp only [Lm] at *;omega)|decide);intro _)|(apply ld_lit;exact rfl;assumption;exact rfl;intro _ _)|fail)
theorem r11text (a:Int):∃ r:ByteArray,(r.size≤2000)∧Ct Tryz.prog 189 [.c (.t (iv a))] (AV.s r) [] true:=by
 refine ct_x (Φ:=fun (r:ByteArray)=>r.size≤2000) lit_s (ctx_of Tryz.func189 rfl (enters_of Tryz.func189 (by kernel_rfl) rfl) tabOk (by kernel_rfl) rfl rfl (TpX.runY [] [] ?_))
 repeat' (first|(apply cond_p <;> intro _)|apply cond_n|(apply cS <;> intro _)|(apply leaf_x;exact Ei [] (Ai rfl (Ai trivial rfl));exact (by first|exact Nb rfl|((try dsimp only at *);omega)|exact Int.le_refl 0|(simp only [Lm] at *;omega));rfl)|(apply lp_at 5 rfl;refine LpX.up (β:=Int × ByteArray) 5 4 (17) (by first|omega|exact len62 (by first|assumption|exact okmr ‹_› ‹_› | exact okmg _ ‹_›) rfl) (by omega) (fun p=>[(0,AV.i p.1),(3,AV.s p.2)]) (fun i p=>(p.2.size:Int)≤i*90) [] [] 200000 rfl ?_;refine Ai ?_ (fun _ p _ _ hp=>?_);rotate_left;obtain ⟨p_,p_⟩:=p;(try dsimp only at hp);apply TpX.runY [] [])|exact Ei ⟨_,_⟩ (Ai (by first|exact Nb rfl|((try dsimp only at *);omega)|exact Int.le_refl 0|(simp only [Lm] at *;omega)) (wk_slim rfl rfl rfl rfl))|exact Ai (by first|assumption|omega) (Ei ⟨_,_⟩ (Ai (by first|exact Nb rfl|((try dsimp only at *);omega)|exact Int.le_refl 0|(simp only [Lm] at *;omega)) (wk_slim rfl rfl rfl rfl)))|(apply cat_r;exact rfl;(first|exact Nb rfl|omega|(simp only at *;omega));intro _)|(apply cat_s;(first|exact Nb rfl|omega|(simp only at *;omega));intro _)|(refine Ai rfl (Ai (by first|decide|assumption|omega) ?_))|(apply call_f 107;refine call_x (r11is _) ⟨rfl,trivial⟩ (.inl rfl) (fun _ _=>?_))|(apply call_f 216;refine call_x (r11name _) ⟨rfl,trivial⟩ (.inl rfl) (fun _ _=>?_))|fail)
theorem r13zone:Ct Tryz.prog 217 [] (.c (.row 0 0)) [⟨9,1,0,[eS ⟨#[]⟩,eS ⟨#[105,110,45,104,97,110,100]⟩,eS ⟨#[105,110,45,108,105,98,114,97,114,121]⟩,eS ⟨#[105,110,45,103,114,97,118,101,121,97,114,100]⟩,eS ⟨#[105,110,45,101,120,105,108,101]⟩,eS ⟨#[111,110,45,115,116,97,99,107]⟩],none⟩] false:=by
 refine ct_of Tryz.func217 rfl (enters_of Tryz.func217 (by kernel_rfl) rfl) tabOk (by kernel_rfl) rfl rfl rfl rfl fun w0 O _=>Tp.run [] ?_
 refine Ei [(0,128)] (Ai rfl (Ai ?_ ?_))
 all_goals repeat' first|refine Ai ?_ ?_|exact rfl|exact trivial|exact Ei _ rfl|refine lN ?_|refine bS ?_|fail
theorem r13who:Ct Tryz.prog 218 [] (.c (.row 0 0)) [⟨9,1,0,[eS ⟨#[]⟩,eS ⟨#[121,111,117,114,115]⟩,eS ⟨#[116,104,101,105,114,115]⟩],none⟩] false:=by
 refine ct_of Tryz.func218 rfl (enters_of Tryz.func218 (by kernel_rfl) rfl) tabOk (by kernel_rfl) rfl rfl rfl rfl fun w0 O _=>Tp.run [] ?_
 refine Ei [(0,128)] (Ai rfl (Ai ?_ ?_))
 all_goals repeat' first|refine Ai ?_ ?_|exact rfl|exact trivial|exact Ei _ rfl|refine lN ?_|refine bS ?_|fail
theorem r13self:Ct Tryz.prog 219 [] (.c (.row 0 0)) [⟨9,1,0,[eS ⟨#[]⟩,eS ⟨#[115,101,108,102]⟩,eS ⟨#[111,116,104,101,114]⟩],none⟩] false:=by
 refine ct_of Tryz.func219 rfl (enters_of Tryz.func219 (by kernel_rfl) rfl) tabOk (by kernel_rfl) rfl rfl rfl rfl fun w0 O _=>Tp.run [] ?_
 refine Ei [(0,128)] (Ai rfl (Ai ?_ ?_))
 all_goals repeat' first|refine Ai ?_ ?_|exact rfl|exact trivial|exact Ei _ rfl|refine lN ?_|refine bS ?_|fail
theorem r13tap:Ct Tryz.prog 220 [] (.c (.row 0 0)) [⟨9,1,0,[eS ⟨#[]⟩,eS ⟨#[116,97,112,112,101,100]⟩,eS ⟨#[117,110,116,97,112,112,101,100]⟩],none⟩] false:=by
 refine ct_of Tryz.func220 rfl (enters_of Tryz.func220 (by kernel_rfl) rfl) tabOk (by kernel_rfl) rfl rfl rfl rfl fun w0 O _=>Tp.run [] ?_
 refine Ei [(0,128)] (Ai rfl (Ai ?_ ?_))
 all_goals repeat' first|refine Ai ?_ ?_|exact rfl|exact trivial|exact Ei _ rfl|refine lN ?_|refine bS ?_|fail
theorem r13signs:Ct Tryz.prog 236 [] (.c (.row 0 0)) [⟨9,1,0,[eS ⟨#[]⟩,eS ⟨#[62,61]⟩,eS ⟨#[60,61]⟩,eS ⟨#[61]⟩],none⟩] false:=by
 refine ct_of Tryz.func236 rfl (enters_of Tryz.func236 (by kernel_rfl) rfl) tabOk (by kernel_rfl) rfl rfl rfl rfl fun w0 O _=>Tp.run [] ?_
 refine Ei [(0,128)] (Ai rfl (Ai ?_ ?_))
 all_goals repeat' first|refine Ai ?_ ?_|exact rfl|exact trivial|exact Ei _ rfl|refine lN ?_|refine bS ?_|fail
theorem r13bit (a:Int) (b:Int)  (hb:0≤b) (hb2:b≤64):∃ r:Bool,True∧Ct Tryz.prog 222 [.c (.t (iv a)),.c (.t (iv b))] (AV.b r) [] true:=by
 refine ct_x (Φ:=fun _=>True) lit_b (ctx_of Tryz.func222 rfl (enters_of Tryz.func222 (by kernel_rfl) rfl) tabOk (by kernel_rfl) rfl rfl (TpX.runY [] [] ?_))
 repeat' (first|(apply cond_p <;> intro _)|(apply leaf_x;exact Ei [] (Ai rfl (Ai trivial rfl));exact (trivial);rfl)|(apply lp_at 2 rfl;refine LpX.up (β:=Int) 2 5 (b) (by first|omega|exact len62 (by first|assumption|exact okmr ‹_› ‹_› | exact okmg _ ‹_›) rfl) (by omega) (fun p=>[(0,AV.i p)]) (fun _ _=>True) [1] [] 200000 rfl ?_;refine Ai ?_ (fun _ _ _ _ _=>TpX.runY [] [] ?_))|exact Ei _ (Ai (trivial) (wk_slim rfl rfl rfl rfl))|exact Ai (by first|assumption|omega) (Ei _ (Ai (trivial) (wk_slim rfl rfl rfl rfl)))|(refine Ai rfl (Ai (by first|decide|assumption|omega) ?_))|fail)
theorem r13typeWord (a:Int)  (ha:0≤a) (ha2:a≤64):∃ r:ByteArray,(r.size≤1000)∧Ct Tryz.prog 223 [.c (.t (iv a))] (AV.s r) [] true:=by
 refine ct_x (Φ:=fun (r:ByteArray)=>r.size≤1000) lit_s (ctx_of Tryz.func223 rfl (enters_of Tryz.func223 (by kernel_rfl) rfl) tabOk (by kernel_rfl) rfl rfl (TpX.runY [] [] ?_))
 repeat' (first|(apply cond_p <;> intro _)|(apply leaf_x;exact Ei [] (Ai rfl (Ai trivial rfl));exact (by first|exact Nb rfl|((try dsimp only at *);omega)|exact Int.le_refl 0|(simp only [Lm] at *;omega));rfl)|(apply lp_at 3 rfl;refine LpX.up (β:=Int) 3 4 (a) (by first|omega|exact len62 (by first|assumption|exact okmr ‹_› ‹_› | exact okmg _ ‹_›) rfl) (by omega) (fun p=>[(3,AV.i p)]) (fun _ _=>True) [0] [] 200000 rfl ?_;refine Ai ?_ (fun _ _ _ _ _=>TpX.runY [] [] ?_))|exact Ei _ (Ai (trivial) (wk_slim rfl rfl rfl rfl))|exact Ai (by first|assumption|omega) (Ei _ (Ai (trivial) (wk_slim rfl rfl rfl rfl)))|(apply call_f 187;refine call_x (r10typesText _) ⟨rfl,trivial⟩ (.inl rfl) (fun _ _=>?_))|fail)
theorem r13boundWord (a:ByteArray) (b:GBound)  (hs:a.size≤20) (hk:0≤b.kind) (hk2:b.kind≤3):∃ r:ByteArray,(r.size≤1000)∧Ct Tryz.prog 224 [AV.s a,.agg (b.enc.map .t)] (AV.s r) [] true:=by
 refine ct_x (Φ:=fun (r:ByteArray)=>r.size≤1000) lit_s (ctx_of Tryz.func224 rfl (enters_of Tryz.func224 (by kernel_rfl) rfl) tabOk (by kernel_rfl) rfl rfl (TpX.runY [] [] ?_))
 repeat' (first|(apply cond_p <;> intro _)|(apply leaf_x;exact Ei [] (Ai rfl (Ai trivial rfl));exact (by first|exact Nb rfl|((try dsimp only at *);omega)|exact Int.le_refl 0|(simp only [Lm] at *;omega));rfl)|(apply cat_s;(first|exact Nb rfl|omega|(simp only [Lm] at *;omega));intro _)|(apply call_f 191;refine call_x (r01text _) ⟨rfl,trivial⟩ (.inl rfl) (fun _ _=>?_))|(apply call_f 236;refine cI r13signs trivial (.inr rfl) ?_)|(apply ix_n;(first|assumption|omega|(simp only [IntKind.wrap_i64,IntKind.wrap_u64,List.length_cons,List.length_nil];omega)|(simp only [Lm] at *;omega)|decide);(first|assumption|omega|(simp only [List.length_cons,List.length_nil];omega)|(simp only [Lm] at *;omega)|decide);intro _)|(apply ld_lit;exact rfl;assumption;exact rfl;intro _ _)|fail)
theorem r13add (X:List (List Tr)) (s:ByteArray) (hX:X.length≤1000):CtM Tryz.prog 221 [.c (.row 0 0),AV.s s] [] [⟨9,1,0,X,none⟩] (.c (.row 0 0)) [] [⟨9,1,0,X,none⟩] []∨CtM Tryz.prog 221 [.c (.row 0 0),AV.s s] [] [⟨9,1,0,X,none⟩] (.c (.row 0 1)) [] [⟨9,1,1,X++[[sv s]],none⟩] []:=by
 cases h:(s.toList==(⟨#[]⟩:ByteArray).toList) with
 | true=>
  refine .inl ?_
  refine ctm_of 2 Tryz.func221 rfl (enters_of Tryz.func221 (by kernel_rfl) rfl) tabOk (by kernel_rfl) rfl rfl rfl rfl rfl fun w0 O _=>Tp.run [2,3] ?_
  refine cond_t h ?_
  refine Tp.run [] ?_
  refine Ei [(0,0)] (Ai (Ai rfl (Ai ?_ (Ai ?_ ?_))) ?_)
  all_goals repeat' first|refine Ai ?_ ?_|exact rfl|exact trivial|exact Ei _ rfl|refine lN ?_|refine bS ?_|fail
 | false=>
  refine .inr ?_
  refine ctm_of 2 Tryz.func221 rfl (enters_of Tryz.func221 (by kernel_rfl) rfl) tabOk (by kernel_rfl) rfl rfl rfl rfl rfl fun w0 O _=>Tp.run [2,3] ?_
  refine cond_f h ?_
  refine Tp.run [] ?_
  refine Ai (.inl rfl) (Ai (show (X.length+1)*16≤140737488355328 by omega) (Ai (show X.length+1 < 140737488355328 by omega) ?_))
  refine Ei [(0,0)] (Ai (Ai rfl (Ai ?_ (Ai ?_ ?_))) ?_)
  all_goals repeat' first|refine Ai ?_ ?_|exact rfl|exact trivial|exact Ei _ rfl|refine lN ?_|refine bS ?_|fail
theorem r13text (a:GFilter):∃ r:ByteArray,(r.size≤201000)∧Ct Tryz.prog 190 [.agg (a.enc.map .t)] (AV.s r) [] true:=by
 refine ct_x (Φ:=fun (r:ByteArray)=>r.size≤201000) lit_s (ctx_of Tryz.func190 rfl (enters_of Tryz.func190 (by kernel_rfl) rfl) tabOk (by kernel_rfl) rfl rfl (TpX.runY [] [8,9,10,11,33,39,40,41,42] ?_))
 refine call_x (r13is a) ⟨fL (GFilter.enc _),trivial⟩ (.inl rfl) (fun b hb=>?_)
 refine cond_n (cS (fun hc=>?_) (fun hc=>?_))
 rotate_left
 ·exact leaf_x _ (Ei [] (Ai rfl (Ai trivial rfl))) (by first|exact Nb rfl|((try dsimp only at *);omega)|exact Int.le_refl 0|(simp only [Lm] at *;omega)) rfl
 obtain ⟨k1,k2,k3,k4,k5,k6,k7,k8⟩:=hb hc
 repeat' (first|(apply cond_p <;> intro _)|apply cond_n|(apply cS <;> intro _)|(apply leaf_x;exact Ei [] (Ai rfl (Ai trivial rfl));exact (by first|exact Nb rfl|((try dsimp only at *);omega)|exact Int.le_refl 0|(simp only [Lm] at *;omega));rfl)|(apply cut_at 8 rfl;refine TpX.frz [] ?_;refine TpX.cutL 8 7 500000 9 1 (Shs 0) [1,3,4,5,6] [0] 500001 rfl ?_;refine Ai (TpX.runY [] [8,9,10,11,33,39,40,41,42] ?_) (fun X hX=>TpX.runY [] [8,9,10,11,33,39,40,41,42] ?_))|(refine TpX.cutL 9 7 500000 9 1 (Shs 1) [1,4,5,6] [0] 500001 rfl ?_;refine Ai (TpX.runY [] [8,9,10,11,33,39,40,41,42] ?_) (fun X hX=>TpX.runY [] [8,9,10,11,33,39,40,41,42] ?_))|(refine TpX.cutL 10 7 500000 9 1 (Shs 2) [1,5,6] [0] 500001 rfl ?_;refine Ai (TpX.runY [] [8,9,10,11,33,39,40,41,42] ?_) (fun X hX=>TpX.runY [] [8,9,10,11,33,39,40,41,42] ?_))|(refine TpX.cutL 11 7 500000 9 1 (Shs 3) [1,6] [0] 500001 rfl ?_;refine Ai (TpX.runY [] [8,9,10,11,33,39,40,41,42] ?_) (fun X hX=>TpX.runY [] [8,9,10,11,33,39,40,41,42] ?_))|(refine TpX.cutL 33 7 500000 9 1 (Shs 26) [1,6] [0] 500001 rfl ?_;refine Ai (TpX.runY [] [8,9,10,11,33,39,40,41,42] ?_) (fun X hX=>TpX.runY [] [8,9,10,11,33,39,40,41,42] ?_))|(refine TpX.cutL 39 7 500000 9 1 (Shs 44) [1] [0] 500001 rfl ?_;refine Ai (TpX.runY [] [8,9,10,11,33,39,40,41,42] ?_) (fun X hX=>TpX.runY [] [8,9,10,11,33,39,40,41,42] ?_))|(refine TpX.cutL 40 7 500000 9 1 (Shs 45) [1] [0] 500001 rfl ?_;refine Ai (TpX.runY [] [8,9,10,11,33,39,40,41,42] ?_) (fun X hX=>TpX.runY [] [8,9,10,11,33,39,40,41,42] ?_))|(refine TpX.cutL 41 7 500000 9 1 (Shs 46) [1] [0] 500001 rfl ?_;refine Ai (TpX.runY [] [8,9,10,11,33,39,40,41,42] ?_) (fun X hX=>TpX.runY [] [8,9,10,11,33,39,40,41,42] ?_))|(refine TpX.cutL 42 7 500000 9 1 (Shs 47) [] [] 500001 rfl ?_;refine Ai (TpX.runY [] [8,9,10,11,33,39,40,41,42] ?_) (fun X hX=>TpX.runY [] [8,9,10,11,33,39,40,41,42] ?_))|(refine LpX.upL 12 8 7 500000 9 1 6 (by omega) (by omega) (fun i=>Shs (3+i)) [1,6] [0] 500001 rfl ?_;refine Ai ?_ (fun i X h0 h1 hX=>TpX.runY [] [8,9,10,11,33,39,40,41,42] ?_))|(refine LpX.upL 17 9 7 500000 9 1 6 (by omega) (by omega) (fun i=>Shs (9+i)) [1,6] [0] 500001 rfl ?_;refine Ai ?_ (fun i X h0 h1 hX=>TpX.runY [] [8,9,10,11,33,39,40,41,42] ?_))|(refine LpX.upL 22 10 7 500000 9 1 5 (by omega) (by omega) (fun i=>Shs (15+i)) [1,6] [0] 500001 rfl ?_;refine Ai ?_ (fun i X h0 h1 hX=>TpX.runY [] [8,9,10,11,33,39,40,41,42] ?_))|(refine LpX.upL 27 11 7 500000 9 1 5 (by omega) (by omega) (fun i=>Shs (20+i)) [1,6] [0] 500001 rfl ?_;refine Ai ?_ (fun i X h0 h1 hX=>TpX.runY [] [8,9,10,11,33,39,40,41,42] ?_))|(refine LpX.upL 34 12 7 500000 9 1 17 (by omega) (by omega) (fun i=>Shs (26+i)) [1,6] [0] 500001 rfl ?_;refine Ai ?_ (fun i X h0 h1 hX=>TpX.runY [] [8,9,10,11,33,39,40,41,42] ?_))|exact Ei [] (Ai (Shs.nil (by omega)) (wk_rn rfl rfl rfl rfl rfl))|exact Ei _ (Ai (by first|exact hX|exact hX.up (by omega)|exact hX.snoc (by omega) (by omega)) (wk_rr rfl rfl rfl rfl rfl rfl))|exact Ai ‹_› (Ei _ (Ai (by first|exact hX|exact hX.up (by omega)|exact hX.snoc (by omega) (by omega)) (wk_rr rfl rfl rfl rfl rfl rfl)))|(apply ix_lit;exact rfl;(first|assumption|omega|(simp only [IntKind.wrap_i64,IntKind.wrap_u64,List.length_cons,List.length_nil];omega)|(simp only [Lm] at *;omega)|decide);(first|assumption|omega|(simp only [List.length_cons,List.length_nil];omega)|(simp only [Lm] at *;omega)|decide);intro s hs)|(apply call_f 217;refine cI r13zone trivial (.inr rfl) ?_)|(apply call_f 218;refine cI r13who trivial (.inr rfl) ?_)|(apply call_f 219;refine cI r13self trivial (.inr rfl) ?_)|(apply call_f 220;refine cI r13tap trivial (.inr rfl) ?_)|(apply call_f 221;rcases r13add X s (by have:=hX.2;omega) with hc|hc <;> refine cM [] [(500000,0)] hc ⟨⟨⟨rfl,rfl⟩,rfl,trivial⟩,trivial,⟨⟨rfl,rfl,rfl,rfl,rfl,rfl,rfl⟩,trivial⟩⟩ rfl ?_)|(apply call_f 222;refine call_x (r13bit _ _ (by first|assumption|omega|(simp only [IntKind.wrap_i64,IntKind.wrap_u64,List.length_cons,List.length_nil];omega)|(simp only [Lm] at *;omega)|decide) (by first|assumption|omega|(simp only [IntKind.wrap_i64,IntKind.wrap_u64,List.length_cons,List.length_nil];omega)|(simp only [Lm] at *;omega)|decide)) ⟨rfl,rfl,trivial⟩ (.inl rfl) (fun _ _=>?_))|(apply call_f 223;refine call_x (r13typeWord _ (by first|assumption|omega|(simp only [IntKind.wrap_i64,IntKind.wrap_u64,List.length_cons,List.length_nil];omega)|(simp only [Lm] at *;omega)|decide) (by first|assumption|omega|(simp only [IntKind.wrap_i64,IntKind.wrap_u64,List.length_cons,List.length_nil];omega)|(simp only [Lm] at *;omega)|decide)) ⟨rfl,trivial⟩ (.inl rfl) (fun s hs=>?_))|(apply call_f 224;refine call_x (r13boundWord _ _ (Nb rfl) (by first|assumption|omega|(simp only [IntKind.wrap_i64,IntKind.wrap_u64,List.length_cons,List.length_nil];omega)|(simp only [Lm] at *;omega)|decide) (by first|assumption|omega|(simp only [IntKind.wrap_i64,IntKind.wrap_u64,List.length_cons,List.length_nil];omega)|(simp only [Lm] at *;omega)|decide)) ⟨rfl,fL (GBound.enc _),trivial⟩ (.inl rfl) (fun s hs=>?_))|(apply call_f 215;refine call_x (r09name _) ⟨rfl,trivial⟩ (.inl rfl) (fun s hs=>?_))|(apply call_f 216;refine call_x (r11name _) ⟨rfl,trivial⟩ (.inl rfl) (fun s hs=>?_))|(apply cat_l;exact rfl;(first|exact Nb rfl|omega|(simp only [Lm] at *;omega));intro _)|refine Ai (.inl rfl) (Ai (by have:=hX.2;exact (show (X.length+1)*16≤140737488355328 by omega)) (Ai (by have:=hX.2;exact (show X.length+1 < 140737488355328 by omega)) ?_))|(apply call_f 225;obtain ⟨L,rfl,g1,g2⟩:=hX.list;refine call_x (r02join L _ (by unfold limB;omega) g1 (by omega) (Nb rfl)) ⟨⟨rfl,rfl⟩,rfl,trivial⟩ (.inl rfl) (fun _ _=>?_))|fail)
theorem r15types (a:Int):∃ r:Bool,True∧Ct Tryz.prog 186 [.c (.t (iv a))] (AV.b r) [] true:=by
 refine ct_x (Φ:=fun _=>True) lit_b (ctx_of Tryz.func186 rfl (enters_of Tryz.func186 (by kernel_rfl) rfl) tabOk (by kernel_rfl) rfl rfl (TpX.runY [] [] ?_))
 repeat' (first|(apply cond_p <;> intro _)|(apply leaf_x;exact Ei [] (Ai rfl (Ai trivial rfl));exact (trivial);rfl)|fail)
theorem r15used (a:GMod):∃ r:GMod,True∧Ct Tryz.prog 185 [.agg (a.enc.map .t)] ((fun r=>.agg (r.enc.map .t)) r) [] true:=by
 refine ct_x (Φ:=fun _=>True) (fun _=>rfl) (ctx_of Tryz.func185 rfl (enters_of Tryz.func185 (by kernel_rfl) rfl) tabOk (by kernel_rfl) rfl rfl (TpX.runY [] [] ?_))
 repeat' (first|(apply cond_p <;> intro _)|(apply leaf_x ⟨_,_,_,_,⟨_,_,_,_,_,_,_,_,_,_,⟨_,_⟩,⟨_,_⟩,⟨_,_⟩⟩⟩;refine Ei [] (Ai rfl (Ai trivial ?_));(repeat' first|refine Ai ?_ ?_|exact rfl|exact trivial|exact Ei _ rfl|refine lN ?_|refine bS ?_|fail);done)|fail)
theorem r15is (a:GMod):∃ r:Bool,(r=true→(a.kind=4∨a.kind=5)→a.sub.size≤32)∧Ct Tryz.prog 150 [.agg (a.enc.map .t)] (AV.b r) [] true:=by
 refine ct_x (Φ:=fun (r:Bool)=>r=true→(a.kind=4∨a.kind=5)→a.sub.size≤32) lit_b (ctx_of Tryz.func150 rfl (enters_of Tryz.func150 (by kernel_rfl) rfl) tabOk (by kernel_rfl) rfl rfl (TpX.runY [] [] ?_))
 repeat' (first|(apply cond_p <;> intro _)|apply cond_n|(apply cS <;> intro _)|(apply leaf_x;exact Ei [] (Ai rfl (Ai trivial rfl));exact (by intro hr hk;first|exact Bool.noConfusion hr|(apply_assumption;assumption)|(exfalso;omega));rfl)|(apply call_f 185;refine call_x (r15used _) ⟨fL (GMod.enc _),trivial⟩ (.inl rfl) (fun _ _=>?_))|(apply call_f 186;refine call_x (r15types _) ⟨rfl,trivial⟩ (.inl rfl) (fun _ _=>?_))|(apply call_f 154;refine call_x (r10isSub _) ⟨rfl,trivial⟩ (.inl rfl) (fun _ _=>?_))|(apply call_f 144;refine call_x (r13is _) ⟨fL (GFilter.enc _),trivial⟩ (.inl rfl) (fun _ _=>?_))|fail)
theorem r15text (a:GMod):∃ r:ByteArray,(r.size≤300000)∧Ct Tryz.prog 151 [.agg (a.enc.map .t)] (AV.s r) [] true:=by
 refine ct_x (Φ:=fun (r:ByteArray)=>r.size≤300000) lit_s (ctx_of Tryz.func151 rfl (enters_of Tryz.func151 (by kernel_rfl) rfl) tabOk (by kernel_rfl) rfl rfl (TpX.runY [] [] ?_))
 repeat' (first|(apply cat_l;exact rfl;((have hh:a.sub.size≤32:=by solve_by_elim [Or.inl,Or.inr]);omega);intro _)|(apply cond_p <;> intro _)|apply cond_n|(apply cS <;> intro _)|(apply leaf_x;exact Ei [] (Ai rfl (Ai trivial rfl));exact (by first|exact Nb rfl|omega|(have hh:a.sub.size≤32:=by solve_by_elim [Or.inl,Or.inr]);omega);rfl)|(apply cat_l;exact rfl;(first|exact Nb rfl|omega|(simp only [Lm] at *;omega));intro _)|(apply cat_r;exact rfl;(first|exact Nb rfl|omega|(simp only [Lm] at *;omega));intro _)|(apply cat_s;(first|exact Nb rfl|omega|(simp only [Lm] at *;omega));intro _)|(apply call_f 150;refine call_x (r15is _) ⟨fL (GMod.enc _),trivial⟩ (.inl rfl) (fun _ _=>?_))|(apply call_f 187;refine call_x (r10typesText _) ⟨rfl,trivial⟩ (.inl rfl) (fun _ _=>?_))|(apply call_f 188;refine call_x (r09text _) ⟨rfl,trivial⟩ (.inl rfl) (fun _ _=>?_))|(apply call_f 189;refine call_x (r11text _) ⟨rfl,trivial⟩ (.inl rfl) (fun _ _=>?_))|(apply call_f 190;refine call_x (r13text _) ⟨fL (GFilter.enc _),trivial⟩ (.inl rfl) (fun _ _=>?_))|(apply call_f 191;refine call_x (r01text _) ⟨rfl,trivial⟩ (.inl rfl) (fun _ _=>?_))|fail)
theorem r15listText (a:List GMod) (_ha:a.length*176≤limB):∃ r:ByteArray,True∧Ct Tryz.prog 102 [.c (.t (.sl 20 (a.map GMod.enc)))] (AV.s r) [] true:=by
 refine ct_x (Φ:=fun _=>True) lit_s (ctx_of Tryz.func102 rfl (enters_of Tryz.func102 (by kernel_rfl) rfl) tabOk (by kernel_rfl) rfl rfl (TpX.runY [] [] ?_))
 repeat' (first|(apply cond_p <;> intro _)|apply cond_n|(apply cS <;> intro _)|(apply leaf_x;exact Ei [] (Ai rfl (Ai trivial rfl));exact (trivial);rfl)|(apply lp_at 5 rfl;refine LpX.up (β:=ByteArray) 5 4 ((((a.map GMod.enc).length:Nat):Int)) (by first|omega|exact len62 (by first|assumption|exact okmr ‹_› ‹_› | exact okmg _ ‹_›) rfl) (by omega) (fun p=>[(3,AV.s p)]) (fun i (p:ByteArray)=>(p.size:Int)≤i*400000) [0] [] 200000 rfl ?_;refine Ai ?_ (fun _ _ _ _ _=>TpX.runY [] [] ?_))|exact Ei _ (Ai (by first|exact Nb rfl|((try dsimp only at *);omega)|exact Int.le_refl 0|(simp only [Lm] at *;omega)) (wk_slim rfl rfl rfl rfl))|exact Ai (by first|assumption|omega) (Ei _ (Ai (by first|exact Nb rfl|((try dsimp only at *);omega)|exact Int.le_refl 0|(simp only [Lm] at *;omega)) (wk_slim rfl rfl rfl rfl)))|(apply ix_map;(first|assumption|omega|(simp only [IntKind.wrap_i64,IntKind.wrap_u64,List.length_cons,List.length_nil];omega)|(simp only [Lm] at *;omega)|decide);(first|assumption|omega|(simp only [IntKind.wrap_i64,IntKind.wrap_u64,List.length_cons,List.length_nil];omega)|(simp only [Lm] at *;omega)|decide);intro _ _)|(apply cat_r;exact rfl;(first|exact Nb rfl|omega|(simp only [Lm] at *;omega));intro _)|(apply cat_s;(first|exact Nb rfl|omega|(simp only [Lm] at *;omega));intro _)|(apply call_f 150;refine call_x (r15is _) ⟨fL (GMod.enc _),trivial⟩ (.inl rfl) (fun _ _=>?_))|(apply call_f 151;refine call_x (r15text _) ⟨fL (GMod.enc _),trivial⟩ (.inl rfl) (fun _ _=>?_))|fail)
theorem r17mods (a:List GMod) (ha:a.length*176≤limB):∃ r:Bool,True∧Ct Tryz.prog 210 [.c (.t (.sl 20 (a.map GMod.enc)))] (AV.b r) [] true:=by
 refine ct_x (Φ:=fun _=>True) lit_b (ctx_of Tryz.func210 rfl (enters_of Tryz.func210 (by kernel_rfl) rfl) tabOk (by kernel_rfl) rfl rfl (TpX.runY [] [] ?_))
 repeat' (first|(apply leaf_x;exact Ei [] (Ai rfl (Ai trivial rfl));exact (trivial);rfl)|(apply call_f 102;refine call_x (r15listText _ (by first|assumption|exact okmr ‹_› ‹_› | exact okmg _ ‹_›)) ⟨rfl,trivial⟩ (.inl rfl) (fun _ _=>?_))|fail)
theorem r08cost (a0:Int) (a1:Int) (a2:Int) (a3:Int) (a4:Int) (a5:Int):∃ r:GCost,True∧Ct Tryz.prog 234 [.agg [.t (iv a0),.t (iv a1),.t (iv a2),.t (iv a3),.t (iv a4),.t (iv a5)]] ((fun r=>.agg (r.enc.map .t)) r) [] true:=by
 refine ct_x (Φ:=fun _=>True) (fun _=>rfl) (ctx_of Tryz.func234 rfl (enters_of Tryz.func234 (by kernel_rfl) rfl) tabOk (by kernel_rfl) rfl rfl (TpX.runY [] [] ?_))
 repeat' (first|(apply leaf_x ⟨_,_,_,_,_,_,_⟩;refine Ei [] (Ai rfl (Ai trivial ?_));(repeat' first|refine Ai ?_ ?_|exact rfl|exact trivial|exact Ei _ rfl|refine lN ?_|refine bS ?_|fail);done)|(apply lp_at 3 rfl;refine LpX.one 3 rfl (TpX.runY [] [] ?_))|(apply ix_n;(first|assumption|omega|(simp only [IntKind.wrap_i64];omega)|(simp only [Lm] at *;omega)|decide);(first|assumption|omega|(simp only [IntKind.wrap_i64];omega)|(simp only [Lm] at *;omega)|decide);intro _)|fail)
theorem r08text (a:GCost):∃ r:ByteArray,(r.size≤5000)∧Ct Tryz.prog 233 [.agg (a.enc.map .t)] (AV.s r) [] true:=by
 refine ct_x (Φ:=fun (r:ByteArray)=>r.size≤5000) lit_s (ctx_of Tryz.func233 rfl (enters_of Tryz.func233 (by kernel_rfl) rfl) tabOk (by kernel_rfl) rfl rfl (TpX.runY [] [] ?_))
 refine call_x (r08is a) ⟨fL (GCost.enc _),trivial⟩ (.inl rfl) (fun b hb=>?_)
 refine cond_n (cS (fun hc=>?_) (fun hc=>?_))
 rotate_left
 ·exact leaf_x _ (Ei [] (Ai rfl (Ai trivial rfl))) (by first|exact Nb rfl|((try dsimp only at *);omega)|exact Int.le_refl 0|(simp only [Lm] at *;omega)) rfl
 obtain ⟨k1,k2,k3,k4,k5,k6,k7⟩:=hb hc
 repeat' (first|(apply cond_p <;> intro _)|(apply cond_ne <;> intro _)|(apply cS <;> intro _)|(apply leaf_x;exact Ei [] (Ai rfl (Ai trivial rfl));exact (by first|exact Nb rfl|((try dsimp only at *);omega)|exact Int.le_refl 0|(simp only [Lm] at *;omega));rfl)|(apply lp_at 5 rfl;refine LpX.up (β:=ByteArray) 5 4 (2) (by first|omega|exact len62 (by first|assumption|exact okmr ‹_› ‹_› | exact okmg _ ‹_›) rfl) (by omega) (fun p=>[(3,AV.s p)]) (fun i (p:ByteArray)=>(p.size:Int)≤i*40) [1] [0] 200000 rfl ?_;refine Ai ?_ (fun _ _ _ _ _=>TpX.runY [] [] ?_))|(apply lp_at 11 rfl;refine LpX.up (β:=ByteArray) 11 5 (5) (by first|omega|exact len62 (by first|assumption|exact okmr ‹_› ‹_› | exact okmg _ ‹_›) rfl) (by omega) (fun p=>[(3,AV.s p)]) (fun i (p:ByteArray)=>(p.size:Int)≤300+i*400) [1] [0] 300000 rfl ?_;refine Ai ?_ ?_;rotate_left;intro i p h0 h1 hp;(rcases (by omega:i=0∨i=1∨i=2∨i=3∨i=4∨i=5) with rfl|rfl|rfl|rfl|rfl|rfl) <;> apply TpX.runY [] [])|(apply lp_at 14 rfl;refine LpX.up (β:=ByteArray) 14 6 (9) (by first|omega|exact len62 (by first|assumption|exact okmr ‹_› ‹_› | exact okmg _ ‹_›) rfl) (by omega) (fun p=>[(3,AV.s p)]) (fun i (q:ByteArray)=>(q.size:Int)≤p.size+i*40) [1,5] [0] 400000 rfl ?_;refine Ai ?_ (fun _ _ _ _ _=>TpX.runY [] [] ?_))|exact Ei _ (Ai (by first|exact Nb rfl|((try dsimp only at *);omega)|exact Int.le_refl 0|(simp only [Lm] at *;omega)) (wk_slim rfl rfl rfl rfl))|exact Ai (by first|assumption|omega) (Ei _ (Ai (by first|exact Nb rfl|((try dsimp only at *);omega)|exact Int.le_refl 0|(simp only [Lm] at *;omega)) (wk_slim rfl rfl rfl rfl)))|(apply sl_lit;(intro _ hh;exact hh);(intro _ hh;exact hh);(first|assumption|omega|(simp only [IntKind.wrap_i64,IntKind.wrap_u64,List.length_cons,List.length_nil];omega)|(simp only [Lm] at *;omega)|decide);(first|assumption|omega|(simp only [IntKind.wrap_i64];omega)|(simp only [Lm] at *;omega)|decide);(first|assumption|omega|(simp only [IntKind.wrap_i64];omega)|(simp only [Lm] at *;omega)|decide);intro _)|(apply ix_n;(first|assumption|omega|(simp only [IntKind.wrap_i64,IntKind.wrap_u64,List.length_cons,List.length_nil];omega)|(simp only [Lm] at *;omega)|decide);(first|assumption|omega|(simp only [IntKind.wrap_i64,IntKind.wrap_u64,List.length_cons,List.length_nil];omega)|(simp only [Lm] at *;omega)|decide);intro _)|(apply cat_r;exact rfl;(first|exact Nb rfl|omega|(simp only [Lm] at *;omega));intro _)|(apply cat_s;(first|exact Nb rfl|omega|(simp only [Lm] at *;omega));intro _)|(apply call_f 191;refine call_x (r01text _) ⟨rfl,trivial⟩ (.inl rfl) (fun _ _=>?_))|fail)
theorem r08poolText (a0:Int) (a1:Int) (a2:Int) (a3:Int) (a4:Int) (a5:Int):∃ r:ByteArray,(r.size≤5000)∧Ct Tryz.prog 211 [.agg [.t (iv a0),.t (iv a1),.t (iv a2),.t (iv a3),.t (iv a4),.t (iv a5)]] (AV.s r) [] true:=by
 refine ct_x (Φ:=fun (r:ByteArray)=>r.size≤5000) lit_s (ctx_of Tryz.func211 rfl (enters_of Tryz.func211 (by kernel_rfl) rfl) tabOk (by kernel_rfl) rfl rfl (TpX.runY [] [] ?_))
 repeat' (first|(apply leaf_x;exact Ei [] (Ai rfl (Ai trivial rfl));exact (by first|exact Nb rfl|((try dsimp only at *);omega)|exact Int.le_refl 0|(simp only [Lm] at *;omega));rfl)|(apply call_f 234;refine call_x (r08cost _ _ _ _ _ _) ⟨⟨rfl,rfl,rfl,rfl,rfl,rfl,trivial⟩,trivial⟩ (.inl rfl) (fun _ _=>?_))|(apply call_f 233;refine call_x (r08text _) ⟨fL (GCost.enc _),trivial⟩ (.inl rfl) (fun _ _=>?_))|fail)
theorem r17is (a:GEffect) (b:Int) (ha:a.ok):∃ r:Bool,True∧Ct Tryz.prog 184 [.agg (a.enc.map .t),.c (.t (iv b))] (AV.b r) [] true:=by
 have ha_:=ha
 obtain ⟨oa0,oa1,oa2,oa3,oa4⟩:=ha_
 refine ct_x (Φ:=fun _=>True) lit_b (ctx_of Tryz.func184 rfl (enters_of Tryz.func184 (by kernel_rfl) rfl) tabOk (by kernel_rfl) rfl rfl (TpX.runY [] [6,7,8,11,14,17,20,23] ?_))
 repeat' (first|(apply cond_p <;> intro _)|apply cond_n|(apply cS <;> intro _)|(apply leaf_x;exact Ei [] (Ai rfl (Ai trivial rfl));exact (trivial);rfl)|(apply cut_at 6 rfl;refine TpX.cut (α:=Bool) 6 (fun p=>[(5,AV.b p)]) (fun _=>True) [2] [0] 200000 rfl ?_;refine Ai (TpX.runY [] [6,7,8,11,14,17,20,23] ?_) (fun _ _=>TpX.runY [] [6,7,8,11,14,17,20,23] ?_))|(apply cut_at 7 rfl;refine TpX.cut (α:=Bool) 7 (fun p=>[(6,AV.b p)]) (fun _=>True) [2,5] [0] 300000 rfl ?_;refine Ai (TpX.runY [] [6,7,8,11,14,17,20,23] ?_) (fun _ _=>TpX.runY [] [6,7,8,11,14,17,20,23] ?_))|(apply cut_at 8 rfl;refine TpX.cut (α:=Bool) 8 (fun p=>[(7,AV.b p)]) (fun _=>True) [2,5,6] [0] 400000 rfl ?_;refine Ai (TpX.runY [] [6,7,8,11,14,17,20,23] ?_) (fun _ _=>TpX.runY [] [6,7,8,11,14,17,20,23] ?_))|(apply cut_at 11 rfl;refine TpX.cut (α:=Bool) 11 (fun p=>[(8,AV.b p)]) (fun _=>True) [2,5,6,7] [0] 500000 rfl ?_;refine Ai (TpX.runY [] [6,7,8,11,14,17,20,23] ?_) (fun _ _=>TpX.runY [] [6,7,8,11,14,17,20,23] ?_))|(apply cut_at 14 rfl;refine TpX.cut (α:=Bool) 14 (fun p=>[(9,AV.b p)]) (fun _=>True) [2,5,6,7,8] [0] 600000 rfl ?_;refine Ai (TpX.runY [] [6,7,8,11,14,17,20,23] ?_) (fun _ _=>TpX.runY [] [6,7,8,11,14,17,20,23] ?_))|(apply cut_at 17 rfl;refine TpX.cut (α:=Bool) 17 (fun p=>[(10,AV.b p)]) (fun _=>True) [2,5,6,7,8,9] [0] 700000 rfl ?_;refine Ai (TpX.runY [] [6,7,8,11,14,17,20,23] ?_) (fun _ _=>TpX.runY [] [6,7,8,11,14,17,20,23] ?_))|(apply cut_at 20 rfl;refine TpX.cut (α:=Bool) 20 (fun p=>[(11,AV.b p)]) (fun _=>True) [2,5,6,7,8,9,10] [0] 800000 rfl ?_;refine Ai (TpX.runY [] [6,7,8,11,14,17,20,23] ?_) (fun _ _=>TpX.runY [] [6,7,8,11,14,17,20,23] ?_))|(apply cut_at 23 rfl;refine TpX.cut (α:=Bool) 23 (fun p=>[(12,AV.b p)]) (fun _=>True) [5,6,7,8,9,10,11] [] 900000 rfl ?_;refine Ai (TpX.runY [] [6,7,8,11,14,17,20,23] ?_) (fun _ _=>TpX.runY [] [6,7,8,11,14,17,20,23] ?_))|exact Ei _ (Ai (trivial) (wk_slim rfl rfl rfl rfl))|(apply call_f 205;refine call_x (r17word _) ⟨rfl,trivial⟩ (.inl rfl) (fun _ _=>?_))|(apply call_f 206;refine call_x (r17uses _ _) ⟨rfl,rfl,trivial⟩ (.inl rfl) (fun _ _=>?_))|(apply call_f 207;refine call_x (r16is _ _) ⟨fL (GRef.enc _),rfl,trivial⟩ (.inl rfl) (fun _ _=>?_))|(apply call_f 208;refine call_x (r12name _) ⟨rfl,trivial⟩ (.inl rfl) (fun _ _=>?_))|(apply call_f 104;refine call_x (r02is _) ⟨rfl,trivial⟩ (.inl rfl) (fun _ _=>?_))|(apply call_f 209;refine call_x (r14is _) ⟨fL (GAmount.enc _),trivial⟩ (.inl rfl) (fun _ _=>?_))|(apply call_f 210;refine call_x (r17mods _ (by first|assumption|exact okmr ‹_› ‹_› | exact okmg _ ‹_›)) ⟨rfl,trivial⟩ (.inl rfl) (fun _ _=>?_))|(apply call_f 211;refine call_x (r08poolText _ _ _ _ _ _) ⟨⟨rfl,rfl,rfl,rfl,rfl,rfl,trivial⟩,trivial⟩ (.inl rfl) (fun _ _=>?_))|(apply call_f 212;refine call_x (r17filter _ _) ⟨rfl,fL (GFilter.enc _),trivial⟩ (.inl rfl) (fun _ _=>?_))|fail)
theorem r20effects (a:List GEffect) (b:Int) (ha:a.length*560≤limB) (ma:∀ y∈a,GEffect.ok y):∃ r:Bool,True∧Ct Tryz.prog 149 [.c (.t (.sl 64 (a.map GEffect.enc))),.c (.t (iv b))] (AV.b r) [] true:=by
 refine ct_x (Φ:=fun _=>True) lit_b (ctx_of Tryz.func149 rfl (enters_of Tryz.func149 (by kernel_rfl) rfl) tabOk (by kernel_rfl) rfl rfl (TpX.runY [] [] ?_))
 repeat' (first|(apply cond_p <;> intro _)|apply cond_n|(apply cS <;> intro _)|(apply leaf_x;exact Ei [] (Ai rfl (Ai trivial rfl));exact (trivial);rfl)|(apply lp_at 2 rfl;refine LpX.up (β:=Unit) 2 5 ((((a.map GEffect.enc).length:Nat):Int)) (by first|omega|exact len62 (by first|assumption|exact okmr ‹_› ‹_› | exact okmg _ ‹_›) rfl) (by omega) (fun _=>[]) (fun _ _=>True) [0,1] [] 200000 rfl ?_;refine Ai ?_ (fun _ _ _ _ _=>TpX.runY [] [] ?_))|exact Ei () (Ai (trivial) (wk_slim rfl rfl rfl rfl))|exact Ai (by first|assumption|omega) (Ei () (Ai (trivial) (wk_slim rfl rfl rfl rfl)))|(apply ix_map;(first|assumption|omega|(simp only [IntKind.wrap_i64,IntKind.wrap_u64,List.length_cons,List.length_nil];omega)|(simp only [Lm] at *;omega)|decide);(first|assumption|omega|(simp only [IntKind.wrap_i64,IntKind.wrap_u64,List.length_cons,List.length_nil];omega)|(simp only [Lm] at *;omega)|decide);intro _ _)|(apply call_f 184;refine call_x (r17is _ _ (by first|assumption|exact okmr ‹_› ‹_› | exact okmg _ ‹_›)) ⟨fL (GEffect.enc _),rfl,trivial⟩ (.inl rfl) (fun _ _=>?_))|fail)
theorem r20is (a:GAbility) (ha:a.ok):∃ r:Bool,True∧Ct Tryz.prog 100 [.agg (a.enc.map .t)] (AV.b r) [] true:=by
 have ha_:=ha
 obtain ⟨oa0,oa1,oa2,oa3,oa4,oa5,oa6,oa7,oa8,oa9⟩:=ha_
 refine ct_x (Φ:=fun _=>True) lit_b (ctx_of Tryz.func100 rfl (enters_of Tryz.func100 (by kernel_rfl) rfl) tabOk (by kernel_rfl) rfl rfl (TpX.runY [] [1002,3,4,1006,1008,9,1013,14,1018,19,24] ?_))
 repeat' (first|(apply cond_p <;> intro _)|(apply cond_ne <;> intro _)|apply cond_n|(apply cS <;> intro _)|(apply leaf_x;exact Ei [] (Ai rfl (Ai trivial rfl));exact (trivial);rfl)|(apply cut_at 1002 rfl;refine TpX.cut (α:=Bool) 1002 (fun p=>[(11,AV.b p)]) (fun _=>True) [1] [0] 200000 rfl ?_;refine Ai (TpX.runY [] [1002,3,4,1006,1008,9,1013,14,1018,19,24] ?_) (fun _ _=>TpX.runY [] [1002,3,4,1006,1008,9,1013,14,1018,19,24] ?_))|(apply cut_at 3 rfl;refine TpX.cut (α:=Unit) 3 (fun _=>[]) (fun _=>True) [1] [0] 300000 rfl ?_;refine Ai (TpX.runY [] [1002,3,4,1006,1008,9,1013,14,1018,19,24] ?_) (fun _ _=>TpX.runY [] [1002,3,4,1006,1008,9,1013,14,1018,19,24] ?_))|(apply cut_at 4 rfl;refine TpX.cut (α:=Bool) 4 (fun p=>[(3,AV.b p)]) (fun _=>True) [1] [0] 400000 rfl ?_;refine Ai (TpX.runY [] [1002,3,4,1006,1008,9,1013,14,1018,19,24] ?_) (fun _ _=>TpX.runY [] [1002,3,4,1006,1008,9,1013,14,1018,19,24] ?_))|(apply cut_at 1006 rfl;refine TpX.cut (α:=Bool) 1006 (fun p=>[(43,AV.b p)]) (fun _=>True) [1,3] [0] 500000 rfl ?_;refine Ai (TpX.runY [] [1002,3,4,1006,1008,9,1013,14,1018,19,24] ?_) (fun _ _=>TpX.runY [] [1002,3,4,1006,1008,9,1013,14,1018,19,24] ?_))|(apply cut_at 1008 rfl;refine TpX.cut (α:=Bool) 1008 (fun p=>[(53,AV.b p)]) (fun _=>True) [1,3] [0] 600000 rfl ?_;refine Ai (TpX.runY [] [1002,3,4,1006,1008,9,1013,14,1018,19,24] ?_) (fun _ _=>TpX.runY [] [1002,3,4,1006,1008,9,1013,14,1018,19,24] ?_))|(apply cut_at 9 rfl;refine TpX.cut (α:=Unit) 9 (fun _=>[]) (fun _=>True) [1,3] [0] 700000 rfl ?_;refine Ai (TpX.runY [] [1002,3,4,1006,1008,9,1013,14,1018,19,24] ?_) (fun _ _=>TpX.runY [] [1002,3,4,1006,1008,9,1013,14,1018,19,24] ?_))|(apply cut_at 1013 rfl;refine TpX.cut (α:=Bool) 1013 (fun p=>[(68,AV.b p)]) (fun _=>True) [1,3] [0] 800000 rfl ?_;refine Ai (TpX.runY [] [1002,3,4,1006,1008,9,1013,14,1018,19,24] ?_) (fun _ _=>TpX.runY [] [1002,3,4,1006,1008,9,1013,14,1018,19,24] ?_))|(apply cut_at 14 rfl;refine TpX.cut (α:=Unit) 14 (fun _=>[]) (fun _=>True) [1,3] [0] 900000 rfl ?_;refine Ai (TpX.runY [] [1002,3,4,1006,1008,9,1013,14,1018,19,24] ?_) (fun _ _=>TpX.runY [] [1002,3,4,1006,1008,9,1013,14,1018,19,24] ?_))|(apply cut_at 1018 rfl;refine TpX.cut (α:=Bool) 1018 (fun p=>[(83,AV.b p)]) (fun _=>True) [1,3] [0] 1000000 rfl ?_;refine Ai (TpX.runY [] [1002,3,4,1006,1008,9,1013,14,1018,19,24] ?_) (fun _ _=>TpX.runY [] [1002,3,4,1006,1008,9,1013,14,1018,19,24] ?_))|(apply cut_at 19 rfl;refine TpX.cut (α:=Unit) 19 (fun _=>[]) (fun _=>True) [1,3] [0] 1100000 rfl ?_;refine Ai (TpX.runY [] [1002,3,4,1006,1008,9,1013,14,1018,19,24] ?_) (fun _ _=>TpX.runY [] [1002,3,4,1006,1008,9,1013,14,1018,19,24] ?_))|(apply cut_at 24 rfl;refine TpX.cut (α:=Unit) 24 (fun _=>[]) (fun _=>True) [1,3] [0] 1200000 rfl ?_;refine Ai (TpX.runY [] [1002,3,4,1006,1008,9,1013,14,1018,19,24] ?_) (fun _ _=>TpX.runY [] [1002,3,4,1006,1008,9,1013,14,1018,19,24] ?_))|exact Ei () (Ai (trivial) (wk_slim rfl rfl rfl rfl))|exact Ei _ (Ai (trivial) (wk_slim rfl rfl rfl rfl))|(apply call_f 144;refine call_x (r13is _) ⟨fL (GFilter.enc _),trivial⟩ (.inl rfl) (fun _ _=>?_))|(apply call_f 102;refine call_x (r15listText _ (by first|assumption|exact okmr ‹_› ‹_› | exact okmg _ ‹_›)) ⟨rfl,trivial⟩ (.inl rfl) (fun _ _=>?_))|(apply call_f 145;refine call_x (r20price _) ⟨fL (GPrice.enc _),trivial⟩ (.inl rfl) (fun _ _=>?_))|(apply call_f 146;refine call_x (r18is _) ⟨fL (GTrigger.enc _),trivial⟩ (.inl rfl) (fun _ _=>?_))|(apply call_f 147;refine call_x (r19is _) ⟨fL (GReplace.enc _),trivial⟩ (.inl rfl) (fun _ _=>?_))|(apply call_f 148;refine call_x (r20specs _ (by first|assumption|exact okmr ‹_› ‹_› | exact okmg _ ‹_›)) ⟨rfl,trivial⟩ (.inl rfl) (fun _ _=>?_))|(apply call_f 149;refine call_x (r20effects _ _ (by first|assumption|exact okmr ‹_› ‹_› | exact okmg _ ‹_›) (by first|assumption|exact okmr ‹_› ‹_› | exact okmg _ ‹_›)) ⟨rfl,rfl,trivial⟩ (.inl rfl) (fun _ _=>?_))|fail)
theorem r03sameR_ (a:List Int) (ha:a.length*8≤limB):∃ r:Bool,(r=true)∧Ct Tryz.prog 20 [.c (.t (.sl 1 (a.map eI))),.c (.t (.sl 1 (a.map eI)))] (AV.b r) [] true:=by
 refine ct_x (Φ:=fun (r:Bool)=>r=true) lit_b (ctx_of Tryz.func20 rfl (enters_of Tryz.func20 (by kernel_rfl) rfl) tabOk (by kernel_rfl) rfl rfl (TpX.runY [] [] ?_))
 repeat' (first|(apply cond_f;(focus (simp;done)))|(apply ix_k;(first|assumption|omega|(simp only [IntKind.wrap_i64,IntKind.wrap_u64,List.length_cons,List.length_nil];omega)|(simp only [Lm] at *;omega)|decide);(first|assumption|omega|(simp only [IntKind.wrap_i64,IntKind.wrap_u64,List.length_cons,List.length_nil];omega)|(simp only [Lm] at *;omega)|decide);intro _)|exact leaf_x true (Ei [] (Ai rfl (Ai trivial rfl))) rfl rfl|(apply cond_p <;> intro _)|(apply lp_at 4 rfl;refine LpX.up (β:=Unit) 4 5 ((((a.map eI).length:Nat):Int)) (by first|omega|exact len62 (by first|assumption|exact okmr ‹_› ‹_› | exact okmg _ ‹_›) rfl) (by omega) (fun _=>[]) (fun _ _=>True) [0,1] [] 200000 rfl ?_;refine Ai ?_ (fun _ _ _ _ _=>TpX.runY [] [] ?_))|exact Ei () (Ai (trivial) (wk_slim rfl rfl rfl rfl))|exact Ai (by first|assumption|omega) (Ei () (Ai (trivial) (wk_slim rfl rfl rfl rfl)))|fail)
theorem r03sameR (a:List Int) (ha:a.length*8≤limB):Ct Tryz.prog 20 [.c (.t (.sl 1 (a.map eI))),.c (.t (.sl 1 (a.map eI)))] (AV.b true) [] true:=by
 obtain ⟨r,rfl,h⟩:=r03sameR_ a ha
 exact h
theorem r26sameModsR_ (a:List GMod) (ha:a.length*176≤limB):∃ r:Bool,(r=true)∧Ct Tryz.prog 115 [.c (.t (.sl 20 (a.map GMod.enc))),.c (.t (.sl 20 (a.map GMod.enc)))] (AV.b r) [] true:=by
 refine ct_x (Φ:=fun (r:Bool)=>r=true) lit_b (ctx_of Tryz.func115 rfl (enters_of Tryz.func115 (by kernel_rfl) rfl) tabOk (by kernel_rfl) rfl rfl (TpX.runY [] [] ?_))
 repeat' (first|(apply cond_f;(focus (simp [lksEq,lkEq];done)))|(apply ix_k;(first|assumption|omega|(simp only [IntKind.wrap_i64,IntKind.wrap_u64,List.length_cons,List.length_nil];omega)|(simp only [Lm] at *;omega)|decide);(first|assumption|omega|(simp only [IntKind.wrap_i64,IntKind.wrap_u64,List.length_cons,List.length_nil];omega)|(simp only [Lm] at *;omega)|decide);intro _)|exact leaf_x true (Ei [] (Ai rfl (Ai trivial rfl))) rfl rfl|(apply cond_p <;> intro _)|(apply lp_at 4 rfl;refine LpX.up (β:=Unit) 4 5 ((((a.map GMod.enc).length:Nat):Int)) (by first|omega|exact len62 (by first|assumption|exact okmr ‹_› ‹_› | exact okmg _ ‹_›) rfl) (by omega) (fun _=>[]) (fun _ _=>True) [0,1] [] 200000 rfl ?_;refine Ai ?_ (fun _ _ _ _ _=>TpX.runY [] [] ?_))|exact Ei () (Ai (trivial) (wk_slim rfl rfl rfl rfl))|exact Ai (by first|assumption|omega) (Ei () (Ai (trivial) (wk_slim rfl rfl rfl rfl)))|fail)
theorem r26sameModsR (a:List GMod) (ha:a.length*176≤limB):Ct Tryz.prog 115 [.c (.t (.sl 20 (a.map GMod.enc))),.c (.t (.sl 20 (a.map GMod.enc)))] (AV.b true) [] true:=by
 obtain ⟨r,rfl,h⟩:=r26sameModsR_ a ha
 exact h
theorem r17sameModsR_ (a:List GMod) (ha:a.length*176≤limB):∃ r:Bool,(r=true)∧Ct Tryz.prog 160 [.c (.t (.sl 20 (a.map GMod.enc))),.c (.t (.sl 20 (a.map GMod.enc)))] (AV.b r) [] true:=by
 refine ct_x (Φ:=fun (r:Bool)=>r=true) lit_b (ctx_of Tryz.func160 rfl (enters_of Tryz.func160 (by kernel_rfl) rfl) tabOk (by kernel_rfl) rfl rfl (TpX.runY [] [] ?_))
 repeat' (first|(apply cond_f;(focus (simp [lksEq,lkEq];done)))|(apply ix_k;(first|assumption|omega|(simp only [IntKind.wrap_i64,IntKind.wrap_u64,List.length_cons,List.length_nil];omega)|(simp only [Lm] at *;omega)|decide);(first|assumption|omega|(simp only [IntKind.wrap_i64,IntKind.wrap_u64,List.length_cons,List.length_nil];omega)|(simp only [Lm] at *;omega)|decide);intro _)|exact leaf_x true (Ei [] (Ai rfl (Ai trivial rfl))) rfl rfl|(apply cond_p <;> intro _)|(apply lp_at 4 rfl;refine LpX.up (β:=Unit) 4 5 ((((a.map GMod.enc).length:Nat):Int)) (by first|omega|exact len62 (by first|assumption|exact okmr ‹_› ‹_› | exact okmg _ ‹_›) rfl) (by omega) (fun _=>[]) (fun _ _=>True) [0,1] [] 200000 rfl ?_;refine Ai ?_ (fun _ _ _ _ _=>TpX.runY [] [] ?_))|exact Ei () (Ai (trivial) (wk_slim rfl rfl rfl rfl))|exact Ai (by first|assumption|omega) (Ei () (Ai (trivial) (wk_slim rfl rfl rfl rfl)))|fail)
theorem r17sameModsR (a:List GMod) (ha:a.length*176≤limB):Ct Tryz.prog 160 [.c (.t (.sl 20 (a.map GMod.enc))),.c (.t (.sl 20 (a.map GMod.enc)))] (AV.b true) [] true:=by
 obtain ⟨r,rfl,h⟩:=r17sameModsR_ a ha
 exact h
theorem r17sameR_ (a:GEffect) (ha:a.ok):∃ r:Bool,(r=true)∧Ct Tryz.prog 199 [.agg (a.enc.map .t),.agg (a.enc.map .t)] (AV.b r) [] true:=by
 have ha_:=ha
 obtain ⟨oa0,oa1,oa2,oa3,oa4⟩:=ha_
 refine ct_x (Φ:=fun (r:Bool)=>r=true) lit_b (ctx_of Tryz.func199 rfl (enters_of Tryz.func199 (by kernel_rfl) rfl) tabOk (by kernel_rfl) rfl rfl (TpX.runY [] [] ?_))
 repeat' (first|(apply cond_t;(focus (simp [lksEq,lkEq];done)))|exact leaf_x true (Ei [] (Ai rfl (Ai trivial rfl))) rfl rfl|(apply call_f 160;refine cI (r17sameModsR _ (by first|assumption|exact okmr ‹_› ‹_› | exact okmg _ ‹_›)) ⟨rfl,rfl,trivial⟩ (.inl rfl) ?_)|fail)
theorem r17sameR (a:GEffect) (ha:a.ok):Ct Tryz.prog 199 [.agg (a.enc.map .t),.agg (a.enc.map .t)] (AV.b true) [] true:=by
 obtain ⟨r,rfl,h⟩:=r17sameR_ a ha
 exact h
theorem r17sameListR_ (a:List GEffect) (ha:a.length*560≤limB) (ma:∀ y∈a,GEffect.ok y):∃ r:Bool,(r=true)∧Ct Tryz.prog 161 [.c (.t (.sl 64 (a.map GEffect.enc))),.c (.t (.sl 64 (a.map GEffect.enc)))] (AV.b r) [] true:=by
 refine ct_x (Φ:=fun (r:Bool)=>r=true) lit_b (ctx_of Tryz.func161 rfl (enters_of Tryz.func161 (by kernel_rfl) rfl) tabOk (by kernel_rfl) rfl rfl (TpX.runY [] [] ?_))
 repeat' (first|(apply cond_f;(focus (simp;done)))|(apply ix_k;(first|assumption|omega|(simp only [IntKind.wrap_i64,IntKind.wrap_u64,List.length_cons,List.length_nil];omega)|(simp only [Lm] at *;omega)|decide);(first|assumption|omega|(simp only [IntKind.wrap_i64,IntKind.wrap_u64,List.length_cons,List.length_nil];omega)|(simp only [Lm] at *;omega)|decide);intro _)|exact leaf_x true (Ei [] (Ai rfl (Ai trivial rfl))) rfl rfl|(apply cond_p <;> intro _)|(apply lp_at 4 rfl;refine LpX.up (β:=Unit) 4 5 ((((a.map GEffect.enc).length:Nat):Int)) (by first|omega|exact len62 (by first|assumption|exact okmr ‹_› ‹_› | exact okmg _ ‹_›) rfl) (by omega) (fun _=>[]) (fun _ _=>True) [0,1] [] 200000 rfl ?_;refine Ai ?_ (fun _ _ _ _ _=>TpX.runY [] [] ?_))|exact Ei () (Ai (trivial) (wk_slim rfl rfl rfl rfl))|exact Ai (by first|assumption|omega) (Ei () (Ai (trivial) (wk_slim rfl rfl rfl rfl)))|(apply call_f 199;refine cI (r17sameR _ (by first|assumption|exact okmr ‹_› ‹_› | exact okmg _ ‹_›)) ⟨fL (GEffect.enc _),fL (GEffect.enc _),trivial⟩ (.inl rfl) ?_)|fail)
theorem r17sameListR (a:List GEffect) (ha:a.length*560≤limB) (ma:∀ y∈a,GEffect.ok y):Ct Tryz.prog 161 [.c (.t (.sl 64 (a.map GEffect.enc))),.c (.t (.sl 64 (a.map GEffect.enc)))] (AV.b true) [] true:=by
 obtain ⟨r,rfl,h⟩:=r17sameListR_ a ha ma
 exact h
theorem r20sameR_ (a:GAbility) (ha:a.ok):∃ r:Bool,(r=true)∧Ct Tryz.prog 114 [.agg (a.enc.map .t),.agg (a.enc.map .t)] (AV.b r) [] true:=by
 have ha_:=ha
 obtain ⟨oa0,oa1,oa2,oa3,oa4,oa5,oa6,oa7,oa8,oa9⟩:=ha_
 refine ct_x (Φ:=fun (r:Bool)=>r=true) lit_b (ctx_of Tryz.func114 rfl (enters_of Tryz.func114 (by kernel_rfl) rfl) tabOk (by kernel_rfl) rfl rfl (TpX.runY [] [] ?_))
 repeat' (first|(apply cond_f;(focus (simp [lksEq,lkEq];done)))|(apply cond_t;(focus (simp [lksEq,lkEq];done)))|(apply ix_k;(first|assumption|omega|(simp only [IntKind.wrap_i64,IntKind.wrap_u64,List.length_cons,List.length_nil];omega)|(simp only [Lm] at *;omega)|decide);(first|assumption|omega|(simp only [IntKind.wrap_i64,IntKind.wrap_u64,List.length_cons,List.length_nil];omega)|(simp only [Lm] at *;omega)|decide);intro _)|(apply leaf_x;exact Ei [] (Ai rfl (Ai trivial rfl));(focus (simp [lksEq,lkEq];done));rfl)|(apply cond_p <;> intro _)|(apply lp_at 4 rfl;refine LpX.up (β:=Unit) 4 5 ((((a.specs.map GSpec.enc).length:Nat):Int)) (by first|omega|exact len62 (by first|assumption|exact okmr ‹_› ‹_› | exact okmg _ ‹_›) rfl) (by omega) (fun _=>[]) (fun _ _=>True) [2,3] [0,128] 200000 rfl ?_;refine Ai ?_ (fun _ _ _ _ _=>TpX.runY [] [] ?_))|exact Ei () (Ai (trivial) (wk_slim rfl rfl rfl rfl))|exact Ai (by first|assumption|omega) (Ei () (Ai (trivial) (wk_slim rfl rfl rfl rfl)))|(apply call_f 160;refine cI (r17sameModsR _ (by first|assumption|exact okmr ‹_› ‹_› | exact okmg _ ‹_›)) ⟨rfl,rfl,trivial⟩ (.inl rfl) ?_)|(apply call_f 161;refine cI (r17sameListR _ (by first|assumption|exact okmr ‹_› ‹_› | exact okmg _ ‹_›) (by first|assumption|exact okmr ‹_› ‹_› | exact okmg _ ‹_›)) ⟨rfl,rfl,trivial⟩ (.inl rfl) ?_)|fail)
theorem r20sameR (a:GAbility) (ha:a.ok):Ct Tryz.prog 114 [.agg (a.enc.map .t),.agg (a.enc.map .t)] (AV.b true) [] true:=by
 obtain ⟨r,rfl,h⟩:=r20sameR_ a ha
 exact h
theorem r26samePlayerR_ (a:GPlayer) (ha:a.ok):∃ r:Bool,(r=true)∧Ct Tryz.prog 48 [.agg (a.enc.map .t),.agg (a.enc.map .t)] (AV.b r) [] true:=by
 have ha_:=ha
 obtain ⟨oa0,oa1,oa2⟩:=ha_
 refine ct_x (Φ:=fun (r:Bool)=>r=true) lit_b (ctx_of Tryz.func48 rfl (enters_of Tryz.func48 (by kernel_rfl) rfl) tabOk (by kernel_rfl) rfl rfl (TpX.runY [] [] ?_))
 repeat' (first|(apply cond_f;(focus (simp [lksEq,lkEq];done)))|exact leaf_x true (Ei [] (Ai rfl (Ai trivial rfl))) rfl rfl|(apply call_f 20;refine cI (r03sameR _ (by first|assumption|exact okmr ‹_› ‹_› | exact okmg _ ‹_›)) ⟨rfl,rfl,trivial⟩ (.inl rfl) ?_)|fail)
theorem r26samePlayerR (a:GPlayer) (ha:a.ok):Ct Tryz.prog 48 [.agg (a.enc.map .t),.agg (a.enc.map .t)] (AV.b true) [] true:=by
 obtain ⟨r,rfl,h⟩:=r26samePlayerR_ a ha
 exact h
theorem r26sameItemR_ (a:GItem) (ha:a.ok):∃ r:Bool,(r=true)∧Ct Tryz.prog 49 [.agg (a.enc.map .t),.agg (a.enc.map .t)] (AV.b r) [] true:=by
 have ha_:=ha
 obtain ⟨oa0,oa1,oa2,oa3⟩:=ha_
 refine ct_x (Φ:=fun (r:Bool)=>r=true) lit_b (ctx_of Tryz.func49 rfl (enters_of Tryz.func49 (by kernel_rfl) rfl) tabOk (by kernel_rfl) rfl rfl (TpX.runY [] [] ?_))
 repeat' (first|(apply cond_f;(focus (simp [lksEq,lkEq];done)))|(apply cond_t;(focus (simp;done)))|(apply ix_k;(first|assumption|omega|(simp only [IntKind.wrap_i64,IntKind.wrap_u64,List.length_cons,List.length_nil];omega)|(simp only [Lm] at *;omega)|decide);(first|assumption|omega|(simp only [IntKind.wrap_i64,IntKind.wrap_u64,List.length_cons,List.length_nil];omega)|(simp only [Lm] at *;omega)|decide);intro _)|(apply leaf_x;exact Ei [] (Ai rfl (Ai trivial rfl));(focus (simp [lksEq,lkEq];done));rfl)|(apply cond_p <;> intro _)|(apply lp_at 4 rfl;refine LpX.up (β:=Unit) 4 5 ((((a.targets.map GTarget.enc).length:Nat):Int)) (by first|omega|exact len62 (by first|assumption|exact okmr ‹_› ‹_› | exact okmg _ ‹_›) rfl) (by omega) (fun _=>[]) (fun _ _=>True) [2,3] [0,128] 200000 rfl ?_;refine Ai ?_ (fun _ _ _ _ _=>TpX.runY [] [] ?_))|exact Ei () (Ai (trivial) (wk_slim rfl rfl rfl rfl))|exact Ai (by first|assumption|omega) (Ei () (Ai (trivial) (wk_slim rfl rfl rfl rfl)))|(apply call_f 114;refine cI (r20sameR _ (by first|assumption|exact okmr ‹_› ‹_› | exact okmg _ ‹_›)) ⟨fL (GAbility.enc _),fL (GAbility.enc _),trivial⟩ (.inl rfl) ?_)|fail)
theorem r26sameItemR (a:GItem) (ha:a.ok):Ct Tryz.prog 49 [.agg (a.enc.map .t),.agg (a.enc.map .t)] (AV.b true) [] true:=by
 obtain ⟨r,rfl,h⟩:=r26sameItemR_ a ha
 exact h
theorem r26sameWaitingR_ (a:GWaiting) (ha:a.ok):∃ r:Bool,(r=true)∧Ct Tryz.prog 50 [.agg (a.enc.map .t),.agg (a.enc.map .t)] (AV.b r) [] true:=by
 have ha_:=ha
 obtain ⟨oa0,oa1⟩:=ha_
 refine ct_x (Φ:=fun (r:Bool)=>r=true) lit_b (ctx_of Tryz.func50 rfl (enters_of Tryz.func50 (by kernel_rfl) rfl) tabOk (by kernel_rfl) rfl rfl (TpX.runY [] [] ?_))
 repeat' (first|(apply cond_t;(focus (simp;done)))|(apply leaf_x;exact Ei [] (Ai rfl (Ai trivial rfl));(focus (simp [lksEq,lkEq];done));rfl)|(apply call_f 114;refine cI (r20sameR _ (by first|assumption|exact okmr ‹_› ‹_› | exact okmg _ ‹_›)) ⟨fL (GAbility.enc _),fL (GAbility.enc _),trivial⟩ (.inl rfl) ?_)|fail)
theorem r26sameWaitingR (a:GWaiting) (ha:a.ok):Ct Tryz.prog 50 [.agg (a.enc.map .t),.agg (a.enc.map .t)] (AV.b true) [] true:=by
 obtain ⟨r,rfl,h⟩:=r26sameWaitingR_ a ha
 exact h
theorem r26sameContR_ (a:GCont) (ha:a.ok):∃ r:Bool,(r=true)∧Ct Tryz.prog 51 [.agg (a.enc.map .t),.agg (a.enc.map .t)] (AV.b r) [] true:=by
 have ha_:=ha
 obtain ⟨oa0,oa1,oa2⟩:=ha_
 refine ct_x (Φ:=fun (r:Bool)=>r=true) lit_b (ctx_of Tryz.func51 rfl (enters_of Tryz.func51 (by kernel_rfl) rfl) tabOk (by kernel_rfl) rfl rfl (TpX.runY [] [] ?_))
 repeat' (first|(apply cond_t;(focus (simp;done)))|exact leaf_x true (Ei [] (Ai rfl (Ai trivial rfl))) rfl rfl|(apply call_f 20;refine cI (r03sameR _ (by first|assumption|exact okmr ‹_› ‹_› | exact okmg _ ‹_›)) ⟨rfl,rfl,trivial⟩ (.inl rfl) ?_)|(apply call_f 115;refine cI (r26sameModsR _ (by first|assumption|exact okmr ‹_› ‹_› | exact okmg _ ‹_›)) ⟨rfl,rfl,trivial⟩ (.inl rfl) ?_)|fail)
theorem r26sameContR (a:GCont) (ha:a.ok):Ct Tryz.prog 51 [.agg (a.enc.map .t),.agg (a.enc.map .t)] (AV.b true) [] true:=by
 obtain ⟨r,rfl,h⟩:=r26sameContR_ a ha
 exact h
theorem r26listsR_ (a:GState) (ha:a.ok):∃ r:Bool,(r=true)∧Ct Tryz.prog 19 [.agg (a.enc.map .t),.agg (a.enc.map .t)] (AV.b r) [] true:=by
 have ha_:=ha
 obtain ⟨oa0,oa1,oa2,oa3,oa4,oa5,oa6,oa7,oa8,oa9,oa10,oa11,oa12⟩:=ha_
 refine ct_x (Φ:=fun (r:Bool)=>r=true) lit_b (ctx_of Tryz.func19 rfl (enters_of Tryz.func19 (by kernel_rfl) rfl) tabOk (by kernel_rfl) rfl rfl (TpX.runY [] [] ?_))
 repeat' (first|(apply cond_f;(focus (simp [lksEq,lkEq];done)))|(apply ix_k;(first|assumption|omega|(simp only [IntKind.wrap_i64,IntKind.wrap_u64,List.length_cons,List.length_nil];omega)|(simp only [Lm] at *;omega)|decide);(first|assumption|omega|(simp only [IntKind.wrap_i64,IntKind.wrap_u64,List.length_cons,List.length_nil];omega)|(simp only [Lm] at *;omega)|decide);intro _)|exact leaf_x true (Ei [] (Ai rfl (Ai trivial rfl))) rfl rfl|(apply cond_p <;> intro _)|(apply lp_at 4 rfl;refine LpX.up (β:=Unit) 4 5 ((((a.players.map GPlayer.enc).length:Nat):Int)) (by first|omega|exact len62 (by first|assumption|exact okmr ‹_› ‹_› | exact okmg _ ‹_›) rfl) (by omega) (fun _=>[]) (fun _ _=>True) [2,3] [0,128] 200000 rfl ?_;refine Ai ?_ (fun _ _ _ _ _=>TpX.runY [] [] ?_))|(apply lp_at 9 rfl;refine LpX.up (β:=Unit) 9 6 ((((a.objects.map GObject.enc).length:Nat):Int)) (by first|omega|exact len62 (by first|assumption|exact okmr ‹_› ‹_› | exact okmg _ ‹_›) rfl) (by omega) (fun _=>[]) (fun _ _=>True) [2,3] [0,128] 300000 rfl ?_;refine Ai ?_ (fun _ _ _ _ _=>TpX.runY [] [] ?_))|(apply lp_at 14 rfl;refine LpX.up (β:=Unit) 14 7 ((((a.stack.map GItem.enc).length:Nat):Int)) (by first|omega|exact len62 (by first|assumption|exact okmr ‹_› ‹_› | exact okmg _ ‹_›) rfl) (by omega) (fun _=>[]) (fun _ _=>True) [2,3] [0,128] 400000 rfl ?_;refine Ai ?_ (fun _ _ _ _ _=>TpX.runY [] [] ?_))|(apply lp_at 19 rfl;refine LpX.up (β:=Unit) 19 8 ((((a.waiting.map GWaiting.enc).length:Nat):Int)) (by first|omega|exact len62 (by first|assumption|exact okmr ‹_› ‹_› | exact okmg _ ‹_›) rfl) (by omega) (fun _=>[]) (fun _ _=>True) [2,3] [0,128] 500000 rfl ?_;refine Ai ?_ (fun _ _ _ _ _=>TpX.runY [] [] ?_))|(apply lp_at 24 rfl;refine LpX.up (β:=Unit) 24 9 ((((a.conts.map GCont.enc).length:Nat):Int)) (by first|omega|exact len62 (by first|assumption|exact okmr ‹_› ‹_› | exact okmg _ ‹_›) rfl) (by omega) (fun _=>[]) (fun _ _=>True) [2,3] [0,128] 600000 rfl ?_;refine Ai ?_ (fun _ _ _ _ _=>TpX.runY [] [] ?_))|exact Ei () (Ai (trivial) (wk_slim rfl rfl rfl rfl))|exact Ai (by first|assumption|omega) (Ei () (Ai (trivial) (wk_slim rfl rfl rfl rfl)))|(apply call_f 48;refine cI (r26samePlayerR _ (by first|assumption|exact okmr ‹_› ‹_› | exact okmg _ ‹_›)) ⟨fL (GPlayer.enc _),fL (GPlayer.enc _),trivial⟩ (.inl rfl) ?_)|(apply call_f 49;refine cI (r26sameItemR _ (by first|assumption|exact okmr ‹_› ‹_› | exact okmg _ ‹_›)) ⟨fL (GItem.enc _),fL (GItem.enc _),trivial⟩ (.inl rfl) ?_)|(apply call_f 50;refine cI (r26sameWaitingR _ (by first|assumption|exact okmr ‹_› ‹_› | exact okmg _ ‹_›)) ⟨fL (GWaiting.enc _),fL (GWaiting.enc _),trivial⟩ (.inl rfl) ?_)|(apply call_f 51;refine cI (r26sameContR _ (by first|assumption|exact okmr ‹_› ‹_› | exact okmg _ ‹_›)) ⟨fL (GCont.enc _),fL (GCont.enc _),trivial⟩ (.inl rfl) ?_)|fail)
theorem r26listsR (a:GState) (ha:a.ok):Ct Tryz.prog 19 [.agg (a.enc.map .t),.agg (a.enc.map .t)] (AV.b true) [] true:=by
 obtain ⟨r,rfl,h⟩:=r26listsR_ a ha
 exact h
theorem r26sameR_ (a:GState) (ha:a.ok):∃ r:Bool,(r=true)∧Ct Tryz.prog 9 [.agg (a.enc.map .t),.agg (a.enc.map .t)] (AV.b r) [] true:=by
 have ha_:=ha
 obtain ⟨oa0,oa1,oa2,oa3,oa4,oa5,oa6,oa7,oa8,oa9,oa10,oa11,oa12⟩:=ha_
 refine ct_x (Φ:=fun (r:Bool)=>r=true) lit_b (ctx_of Tryz.func9 rfl (enters_of Tryz.func9 (by kernel_rfl) rfl) tabOk (by kernel_rfl) rfl rfl (TpX.runY [] [] ?_))
 repeat' (first|(apply cond_f;(focus (simp;done)))|exact leaf_x true (Ei [] (Ai rfl (Ai trivial rfl))) rfl rfl|(apply call_f 19;refine cI (r26listsR _ (by first|assumption|exact okmr ‹_› ‹_› | exact okmg _ ‹_›)) ⟨fL (GState.enc _),fL (GState.enc _),trivial⟩ (.inl rfl) ?_)|(apply call_f 20;refine cI (r03sameR _ (by first|assumption|exact okmr ‹_› ‹_› | exact okmg _ ‹_›)) ⟨rfl,rfl,trivial⟩ (.inl rfl) ?_)|fail)
theorem r26sameR (a:GState) (ha:a.ok):Ct Tryz.prog 9 [.agg (a.enc.map .t),.agg (a.enc.map .t)] (AV.b true) [] true:=by
 obtain ⟨r,rfl,h⟩:=r26sameR_ a ha
 exact h
theorem r17sameMods (a:List GMod) (b:List GMod) (ha:a.length*176≤limB) (_hb:b.length*176≤limB):∃ r:Bool,True∧Ct Tryz.prog 160 [.c (.t (.sl 20 (a.map GMod.enc))),.c (.t (.sl 20 (b.map GMod.enc)))] (AV.b r) [] true:=by
 refine ct_x (Φ:=fun _=>True) lit_b (ctx_of Tryz.func160 rfl (enters_of Tryz.func160 (by kernel_rfl) rfl) tabOk (by kernel_rfl) rfl rfl (TpX.runY [] [] ?_))
 repeat' (first|(apply cond_p <;> intro _)|(apply cond_ne <;> intro _)|apply cond_n|(apply cS <;> intro _)|(apply leaf_x;exact Ei [] (Ai rfl (Ai trivial rfl));exact (trivial);rfl)|(apply lp_at 4 rfl;refine LpX.up (β:=Unit) 4 5 ((((a.map GMod.enc).length:Nat):Int)) (by first|omega|exact len62 (by first|assumption|exact okmr ‹_› ‹_› | exact okmg _ ‹_›) rfl) (by omega) (fun _=>[]) (fun _ _=>True) [0,1] [] 200000 rfl ?_;refine Ai ?_ (fun _ _ _ _ _=>TpX.runY [] [] ?_))|exact Ei () (Ai (trivial) (wk_slim rfl rfl rfl rfl))|exact Ai (by first|assumption|omega) (Ei () (Ai (trivial) (wk_slim rfl rfl rfl rfl)))|(apply ix_map;(first|assumption|omega|(simp only [IntKind.wrap_i64,IntKind.wrap_u64,List.length_cons,List.length_nil];omega)|(simp only [Lm] at *;omega)|decide);(first|assumption|omega|(simp only [IntKind.wrap_i64,IntKind.wrap_u64,List.length_cons,List.length_nil];omega)|(simp only [Lm] at *;omega)|decide);intro _ _)|fail)
theorem r17same (a:GEffect) (b:GEffect) (ha:a.ok) (hb:b.ok):∃ r:Bool,True∧Ct Tryz.prog 199 [.agg (a.enc.map .t),.agg (b.enc.map .t)] (AV.b r) [] true:=by
 have ha_:=ha
 obtain ⟨oa0,oa1,oa2,oa3,oa4⟩:=ha_
 have hb_:=hb
 obtain ⟨ob0,ob1,ob2,ob3,ob4⟩:=hb_
 refine ct_x (Φ:=fun _=>True) lit_b (ctx_of Tryz.func199 rfl (enters_of Tryz.func199 (by kernel_rfl) rfl) tabOk (by kernel_rfl) rfl rfl (TpX.runY [] [] ?_))
 repeat' (first|(apply cond_p <;> intro _)|(apply cS <;> intro _)|(apply leaf_x;exact Ei [] (Ai rfl (Ai trivial rfl));exact (trivial);rfl)|(apply call_f 160;refine call_x (r17sameMods _ _ (by first|assumption|exact okmr ‹_› ‹_› | exact okmg _ ‹_›) (by first|assumption|exact okmr ‹_› ‹_› | exact okmg _ ‹_›)) ⟨rfl,rfl,trivial⟩ (.inl rfl) (fun _ _=>?_))|fail)
theorem r17sameList (a:List GEffect) (b:List GEffect) (ha:a.length*560≤limB) (ma:∀ y∈a,GEffect.ok y) (_hb:b.length*560≤limB) (mb:∀ y∈b,GEffect.ok y):∃ r:Bool,True∧Ct Tryz.prog 161 [.c (.t (.sl 64 (a.map GEffect.enc))),.c (.t (.sl 64 (b.map GEffect.enc)))] (AV.b r) [] true:=by
 refine ct_x (Φ:=fun _=>True) lit_b (ctx_of Tryz.func161 rfl (enters_of Tryz.func161 (by kernel_rfl) rfl) tabOk (by kernel_rfl) rfl rfl (TpX.runY [] [] ?_))
 repeat' (first|(apply cond_p <;> intro _)|(apply cond_ne <;> intro _)|apply cond_n|(apply cS <;> intro _)|(apply leaf_x;exact Ei [] (Ai rfl (Ai trivial rfl));exact (trivial);rfl)|(apply lp_at 4 rfl;refine LpX.up (β:=Unit) 4 5 ((((a.map GEffect.enc).length:Nat):Int)) (by first|omega|exact len62 (by first|assumption|exact okmr ‹_› ‹_› | exact okmg _ ‹_›) rfl) (by omega) (fun _=>[]) (fun _ _=>True) [0,1] [] 200000 rfl ?_;refine Ai ?_ (fun _ _ _ _ _=>TpX.runY [] [] ?_))|exact Ei () (Ai (trivial) (wk_slim rfl rfl rfl rfl))|exact Ai (by first|assumption|omega) (Ei () (Ai (trivial) (wk_slim rfl rfl rfl rfl)))|(apply ix_map;(first|assumption|omega|(simp only [IntKind.wrap_i64,IntKind.wrap_u64,List.length_cons,List.length_nil];omega)|(simp only [Lm] at *;omega)|decide);(first|assumption|omega|(simp only [IntKind.wrap_i64,IntKind.wrap_u64,List.length_cons,List.length_nil];omega)|(simp only [Lm] at *;omega)|decide);intro _ _)|(apply call_f 199;refine call_x (r17same _ _ (by first|assumption|exact okmr ‹_› ‹_› | exact okmg _ ‹_›) (by first|assumption|exact okmr ‹_› ‹_› | exact okmg _ ‹_›)) ⟨fL (GEffect.enc _),fL (GEffect.enc _),trivial⟩ (.inl rfl) (fun _ _=>?_))|fail)
theorem r20same (a:GAbility) (b:GAbility) (ha:a.ok) (hb:b.ok):∃ r:Bool,True∧Ct Tryz.prog 114 [.agg (a.enc.map .t),.agg (b.enc.map .t)] (AV.b r) [] true:=by
 have ha_:=ha
 obtain ⟨oa0,oa1,oa2,oa3,oa4,oa5,oa6,oa7,oa8,oa9⟩:=ha_
 have hb_:=hb
 obtain ⟨ob0,ob1,ob2,ob3,ob4,ob5,ob6,ob7,ob8,ob9⟩:=hb_
 refine ct_x (Φ:=fun _=>True) lit_b (ctx_of Tryz.func114 rfl (enters_of Tryz.func114 (by kernel_rfl) rfl) tabOk (by kernel_rfl) rfl rfl (TpX.runY [] [] ?_))
 repeat' (first|(apply cond_p <;> intro _)|(apply cond_ne <;> intro _)|apply cond_n|(apply cS <;> intro _)|(apply leaf_x;exact Ei [] (Ai rfl (Ai trivial rfl));exact (trivial);rfl)|(apply lp_at 4 rfl;refine LpX.up (β:=Unit) 4 5 ((((a.specs.map GSpec.enc).length:Nat):Int)) (by first|omega|exact len62 (by first|assumption|exact okmr ‹_› ‹_› | exact okmg _ ‹_›) rfl) (by omega) (fun _=>[]) (fun _ _=>True) [2,3] [0,128] 200000 rfl ?_;refine Ai ?_ (fun _ _ _ _ _=>TpX.runY [] [] ?_))|exact Ei () (Ai (trivial) (wk_slim rfl rfl rfl rfl))|exact Ai (by first|assumption|omega) (Ei () (Ai (trivial) (wk_slim rfl rfl rfl rfl)))|(apply ix_map;(first|assumption|omega|(simp only [IntKind.wrap_i64,IntKind.wrap_u64,List.length_cons,List.length_nil];omega)|(simp only [Lm] at *;omega)|decide);(first|assumption|omega|(simp only [IntKind.wrap_i64,IntKind.wrap_u64,List.length_cons,List.length_nil];omega)|(simp only [Lm] at *;omega)|decide);intro _ _)|(apply call_f 160;refine call_x (r17sameMods _ _ (by first|assumption|exact okmr ‹_› ‹_› | exact okmg _ ‹_›) (by first|assumption|exact okmr ‹_› ‹_› | exact okmg _ ‹_›)) ⟨rfl,rfl,trivial⟩ (.inl rfl) (fun _ _=>?_))|(apply call_f 161;refine call_x (r17sameList _ _ (by first|assumption|exact okmr ‹_› ‹_› | exact okmg _ ‹_›) (by first|assumption|exact okmr ‹_› ‹_› | exact okmg _ ‹_›) (by first|assumption|exact okmr ‹_› ‹_› | exact okmg _ ‹_›) (by first|assumption|exact okmr ‹_› ‹_› | exact okmg _ ‹_›)) ⟨rfl,rfl,trivial⟩ (.inl rfl) (fun _ _=>?_))|fail)
theorem r26in_ (a:Int) (b:Int) (c:Int):∃ r:Bool,(r=(inM a b c))∧Ct Tryz.prog 37 [.c (.t (iv a)),.c (.t (iv b)),.c (.t (iv c))] (AV.b r) [] true:=by
 refine ct_x (Φ:=fun (r:Bool)=>r=(inM a b c)) lit_b (ctx_of Tryz.func37 rfl (enters_of Tryz.func37 (by kernel_rfl) rfl) tabOk (by kernel_rfl) rfl rfl (TpX.runY [] [] ?_))
 repeat' (first|(apply cond_p <;> intro _)|(apply leaf_x;exact Ei [] (Ai rfl (Ai trivial rfl));exact (by simp [inM, *]);rfl)|fail)
theorem r26in (a:Int) (b:Int) (c:Int):Ct Tryz.prog 37 [.c (.t (iv a)),.c (.t (iv b)),.c (.t (iv c))] (AV.b (inM a b c)) [] true:=by
 obtain ⟨r,hr,h⟩:=r26in_ a b c
 rw [hr] at h
 exact h
theorem r26times_ (a:List Int) (b:Int) (ha:a.length*8≤limB):∃ r:Int,(r=(timesM a b))∧Ct Tryz.prog 139 [.c (.t (.sl 1 (a.map eI))),.c (.t (iv b))] (AV.i r) [] true:=by
 refine ct_x (Φ:=fun (r:Int)=>r=(timesM a b)) lit_i (ctx_of Tryz.func139 rfl (enters_of Tryz.func139 (by kernel_rfl) rfl) tabOk (by kernel_rfl) rfl rfl (TpX.runY [] [] ?_))
 repeat' (first|(apply ix_k;(first|assumption|omega|(simp only [IntKind.wrap_i64,IntKind.wrap_u64,List.length_cons,List.length_nil];omega)|(simp only [Lm] at *;omega)|decide);(first|assumption|omega|(simp only [IntKind.wrap_i64,IntKind.wrap_u64,List.length_cons,List.length_nil];omega)|(simp only [Lm] at *;omega)|decide);intro _)|(apply cond_p <;> intro _)|(apply leaf_x;exact Ei [] (Ai rfl (Ai trivial rfl));exact (times_end ‹_› ‹_›);rfl)|(apply lp_at 3 rfl;refine LpX.up (β:=Int) 3 6 ((((a.map eI).length:Nat):Int)) (by first|omega|exact len62 (by first|assumption|exact okmr ‹_› ‹_› | exact okmg _ ‹_›) rfl) (by omega) (fun p=>[(5,AV.i p)]) (fun i (p:Int)=>p=((a.take i.toNat).count b:Nat)∧p≤i) [0,1] [] 200000 rfl ?_;refine Ai ?_ (fun _ _ _ _ _=>TpX.runY [] [] ?_))|exact Ei _ (Ai (by first|exact ⟨rfl,Int.le_refl 0⟩|exact times_up1 ‹_› ‹_› ‹_› ‹_› ‹_› ‹_› | exact times_up0 ‹_› ‹_› ‹_› ‹_›) (wk_slim rfl rfl rfl rfl))|exact Ai (by first|assumption|omega) (Ei _ (Ai (by first|exact ⟨rfl,Int.le_refl 0⟩|exact times_up1 ‹_› ‹_› ‹_› ‹_› ‹_› ‹_› | exact times_up0 ‹_› ‹_› ‹_› ‹_›) (wk_slim rfl rfl rfl rfl)))|fail)
theorem r26times (a:List Int) (b:Int) (ha:a.length*8≤limB):Ct Tryz.prog 139 [.c (.t (.sl 1 (a.map eI))),.c (.t (iv b))] (AV.i (timesM a b)) [] true:=by
 obtain ⟨r,hr,h⟩:=r26times_ a b ha
 rw [hr] at h
 exact h
theorem r26object (a:GState) (b:Int) (ha:a.objects.length*128≤limB):Ct Tryz.prog 138 [.agg (a.enc.map .t),.c (.t (iv b))] (.tup [.agg ((findM a.objects b).enc.map .t),AV.b (hasM a.objects b)]) [] true:=by
 refine Ct.litT (b:=false) ?_ rfl
 refine ct_of Tryz.func138 rfl (enters_of Tryz.func138 (by kernel_rfl) rfl) tabOk (by kernel_rfl) rfl rfl rfl rfl fun w0 O _=>Tp.run [] ?_
 refine cI (find_ct a b ha) ⟨fL a.enc,rfl,trivial⟩ (.inl rfl) ?_
 refine Ei [] (Ai rfl (Ai trivial ?_))
 repeat' first|refine Ai ?_ ?_|exact rfl|exact trivial|exact Ei _ rfl|refine lN ?_|refine bS ?_|fail
theorem r26list_ (a:GState) (b:List Int) (c:Int) (d:Int) (ha:a.ok) (hb:b.length*8≤limB):∃ r:Bool,(r=(listOk a c d b))∧Ct Tryz.prog 96 [.agg (a.enc.map .t),.c (.t (.sl 1 (b.map eI))),.c (.t (iv c)),.c (.t (iv d))] (AV.b r) [] true:=by
 have ha_:=ha
 obtain ⟨oa0,oa1,oa2,oa3,oa4,oa5,oa6,oa7,oa8,oa9,oa10,oa11,oa12⟩:=ha_
 refine ct_x (Φ:=fun (r:Bool)=>r=(listOk a c d b)) lit_b (ctx_of Tryz.func96 rfl (enters_of Tryz.func96 (by kernel_rfl) rfl) tabOk (by kernel_rfl) rfl rfl (TpX.runY [] [] ?_))
 repeat' (first|(apply ix_k;(first|assumption|omega|(simp only [IntKind.wrap_i64,IntKind.wrap_u64,List.length_cons,List.length_nil];omega)|(simp only [Lm] at *;omega)|decide);(first|assumption|omega|(simp only [IntKind.wrap_i64,IntKind.wrap_u64,List.length_cons,List.length_nil];omega)|(simp only [Lm] at *;omega)|decide);intro _)|(apply cond_p <;> intro _)|(apply cond_ne <;> intro _)|apply cond_n|(apply cS <;> intro _)|(apply leaf_x;exact Ei [] (Ai rfl (Ai trivial rfl));exact (by first|exact (all_no (p:=fun id=>hasM a.objects id&&((findM a.objects id).zone==c&&((!decide (d≥0)||(findM a.objects id).owner==d)&&timesM b id==1))) ‹_› (by simp [*])).symm|exact (Up.all' (p:=fun id=>hasM a.objects id&&((findM a.objects id).zone==c&&((!decide (d≥0)||(findM a.objects id).owner==d)&&timesM b id==1))) ‹_› (by rwa [Lm] at *)).symm);rfl)|(apply lp_at 2 rfl;refine LpX.up (β:=Unit) 2 9 ((((b.map eI).length:Nat):Int)) (by first|omega|exact len62 (by first|assumption|exact okmr ‹_› ‹_› | exact okmg _ ‹_›) rfl) (by omega) (fun _=>[]) (fun i _=>Up (fun _=>fun id=>hasM a.objects id&&((findM a.objects id).zone==c&&((!decide (d≥0)||(findM a.objects id).owner==d)&&timesM b id==1))) b i) [1,2,3,4] [0] 200000 rfl ?_;refine Ai ?_ (fun _ _ _ _ _=>TpX.runY [] [] ?_))|exact Ei () (Ai (by first|exact Up.zero|exact Up.step ‹_› ‹_› ‹_› (by simp [*])) (wk_slim rfl rfl rfl rfl))|exact Ai (by first|assumption|omega) (Ei () (Ai (by first|exact Up.zero|exact Up.step ‹_› ‹_› ‹_› (by simp [*])) (wk_slim rfl rfl rfl rfl)))|(apply call_f 138;refine cI (r26object _ _ (by first|assumption|exact okmr ‹_› ‹_› | exact okmg _ ‹_›)) ⟨fL (GState.enc _),rfl,trivial⟩ (.inl rfl) ?_)|(apply call_f 139;refine cI (r26times _ _ (by first|assumption|exact okmr ‹_› ‹_› | exact okmg _ ‹_›)) ⟨rfl,rfl,trivial⟩ (.inl rfl) ?_)|fail)
theorem r26list (a:GState) (b:List Int) (c:Int) (d:Int) (ha:a.ok) (hb:b.length*8≤limB):Ct Tryz.prog 96 [.agg (a.enc.map .t),.c (.t (.sl 1 (b.map eI))),.c (.t (iv c)),.c (.t (iv d))] (AV.b (listOk a c d b)) [] true:=by
 obtain ⟨r,hr,h⟩:=r26list_ a b c d ha hb
 rw [hr] at h
 exact h
theorem r26player_ (a:GState) (b:Int) (ha:a.ok):∃ r:Bool,(r=(plM a b))∧Ct Tryz.prog 39 [.agg (a.enc.map .t),.c (.t (iv b))] (AV.b r) [] true:=by
 have ha_:=ha
 obtain ⟨oa0,oa1,oa2,oa3,oa4,oa5,oa6,oa7,oa8,oa9,oa10,oa11,oa12⟩:=ha_
 refine ct_x (Φ:=fun (r:Bool)=>r=(plM a b)) lit_b (ctx_of Tryz.func39 rfl (enters_of Tryz.func39 (by kernel_rfl) rfl) tabOk (by kernel_rfl) rfl rfl (TpX.runY [] [] ?_))
 repeat' (first|(apply leaf_x;exact Ei [] (Ai rfl (Ai trivial rfl));exact (by simp [plM,inM,wrap_sub1 oa0 rfl]);rfl)|(apply call_f 37;refine cI (r26in _ _ _) ⟨rfl,rfl,rfl,trivial⟩ (.inl rfl) ?_)|fail)
theorem r26player (a:GState) (b:Int) (ha:a.ok):Ct Tryz.prog 39 [.agg (a.enc.map .t),.c (.t (iv b))] (AV.b (plM a b)) [] true:=by
 obtain ⟨r,hr,h⟩:=r26player_ a b ha
 rw [hr] at h
 exact h
theorem r08whole_ (a0:Int) (a1:Int) (a2:Int) (a3:Int) (a4:Int) (a5:Int):∃ r:Bool,(r=(wholeM a0 a1 a2 a3 a4 a5))∧Ct Tryz.prog 95 [.agg [.t (iv a0),.t (iv a1),.t (iv a2),.t (iv a3),.t (iv a4),.t (iv a5)]] (AV.b r) [] true:=by
 refine ct_x (Φ:=fun (r:Bool)=>r=(wholeM a0 a1 a2 a3 a4 a5)) lit_b (ctx_of Tryz.func95 rfl (enters_of Tryz.func95 (by kernel_rfl) rfl) tabOk (by kernel_rfl) rfl rfl (TpX.runY [] [] ?_))
 repeat' (first|(apply cond_p <;> intro _)|(apply leaf_x;exact Ei [] (Ai rfl (Ai trivial rfl));exact (by simp [wholeM, *]);rfl)|(apply lp_at 2 rfl;refine LpX.one 2 rfl (TpX.runY [] [] ?_))|(apply ix_n;(first|assumption|omega|(simp only [IntKind.wrap_i64];omega)|(simp only [Lm] at *;omega)|decide);(first|assumption|omega|(simp only [IntKind.wrap_i64];omega)|(simp only [Lm] at *;omega)|decide);intro _)|fail)
theorem r08whole (a0:Int) (a1:Int) (a2:Int) (a3:Int) (a4:Int) (a5:Int):Ct Tryz.prog 95 [.agg [.t (iv a0),.t (iv a1),.t (iv a2),.t (iv a3),.t (iv a4),.t (iv a5)]] (AV.b (wholeM a0 a1 a2 a3 a4 a5)) [] true:=by
 obtain ⟨r,hr,h⟩:=r08whole_ a0 a1 a2 a3 a4 a5
 rw [hr] at h
 exact h
theorem r12is_ (a0:Int) (a1:Int) (a2:Int):∃ r:Bool,(r=(cntOk a0 a1 a2))∧Ct Tryz.prog 140 [.agg [.t (iv a0),.t (iv a1),.t (iv a2)]] (AV.b r) [] true:=by
 refine ct_x (Φ:=fun (r:Bool)=>r=(cntOk a0 a1 a2)) lit_b (ctx_of Tryz.func140 rfl (enters_of Tryz.func140 (by kernel_rfl) rfl) tabOk (by kernel_rfl) rfl rfl (TpX.runY [] [] ?_))
 repeat' (first|(apply cond_p <;> intro _)|(apply leaf_x;exact Ei [] (Ai rfl (Ai trivial rfl));exact (by simp [cntOk, *]);rfl)|(apply lp_at 2 rfl;refine LpX.one 2 rfl (TpX.runY [] [] ?_))|(apply ix_n;(first|assumption|omega|(simp only [IntKind.wrap_i64];omega)|(simp only [Lm] at *;omega)|decide);(first|assumption|omega|(simp only [IntKind.wrap_i64];omega)|(simp only [Lm] at *;omega)|decide);intro _)|fail)
theorem r12is (a0:Int) (a1:Int) (a2:Int):Ct Tryz.prog 140 [.agg [.t (iv a0),.t (iv a1),.t (iv a2)]] (AV.b (cntOk a0 a1 a2)) [] true:=by
 obtain ⟨r,hr,h⟩:=r12is_ a0 a1 a2
 rw [hr] at h
 exact h
theorem r26spells_ (a:GState) (b:Int) (ha:a.ok):∃ r:Int,(r=(spellsM a b))∧Ct Tryz.prog 143 [.agg (a.enc.map .t),.c (.t (iv b))] (AV.i r) [] true:=by
 have ha_:=ha
 obtain ⟨oa0,oa1,oa2,oa3,oa4,oa5,oa6,oa7,oa8,oa9,oa10,oa11,oa12⟩:=ha_
 refine ct_x (Φ:=fun (r:Int)=>r=(spellsM a b)) lit_i (ctx_of Tryz.func143 rfl (enters_of Tryz.func143 (by kernel_rfl) rfl) tabOk (by kernel_rfl) rfl rfl (TpX.runY [] [] ?_))
 repeat' (first|(apply ix_k;(first|assumption|omega|(simp only [IntKind.wrap_i64,IntKind.wrap_u64,List.length_cons,List.length_nil];omega)|(simp only [Lm] at *;omega)|decide);(first|assumption|omega|(simp only [IntKind.wrap_i64,IntKind.wrap_u64,List.length_cons,List.length_nil];omega)|(simp only [Lm] at *;omega)|decide);intro _)|(apply cond_p <;> intro _)|(apply leaf_x;exact Ei [] (Ai rfl (Ai trivial rfl));exact (cntP_end ‹_› ‹_›);rfl)|(apply lp_at 3 rfl;refine LpX.up (β:=Int) 3 6 ((((a.stack.map GItem.enc).length:Nat):Int)) (by first|omega|exact len62 (by first|assumption|exact okmr ‹_› ‹_› | exact okmg _ ‹_›) rfl) (by omega) (fun p=>[(5,AV.i p)]) (fun i (p:Int)=>p=((a.stack.take i.toNat).countP (fun x=>x.kind==1&&x.id==b):Nat)∧p≤i) [1,2] [0] 200000 rfl ?_;refine Ai ?_ (fun _ _ _ _ _=>TpX.runY [] [] ?_))|exact Ei _ (Ai (by first|exact ⟨rfl,Int.le_refl 0⟩|exact cntP_up1 ‹_› ‹_› oa6 rfl ‹_› ‹_› (by simp [*])|exact cntP_up0 ‹_› ‹_› ‹_› (by simp [*])) (wk_slim rfl rfl rfl rfl))|exact Ai (by first|assumption|omega) (Ei _ (Ai (by first|exact ⟨rfl,Int.le_refl 0⟩|exact cntP_up1 ‹_› ‹_› oa6 rfl ‹_› ‹_› (by simp [*])|exact cntP_up0 ‹_› ‹_› ‹_› (by simp [*])) (wk_slim rfl rfl rfl rfl)))|fail)
theorem r26spells (a:GState) (b:Int) (ha:a.ok):Ct Tryz.prog 143 [.agg (a.enc.map .t),.c (.t (iv b))] (AV.i (spellsM a b)) [] true:=by
 obtain ⟨r,hr,h⟩:=r26spells_ a b ha
 rw [hr] at h
 exact h
theorem r24calm_ (a:GObject):∃ r:GObject,(r=(calmM a))∧Ct Tryz.prog 141 [.agg (a.enc.map .t)] ((fun r=>.agg (r.enc.map .t)) r) [] true:=by
 refine ct_x (Φ:=fun (r:GObject)=>r=(calmM a)) (fun _=>rfl) (ctx_of Tryz.func141 rfl (enters_of Tryz.func141 (by kernel_rfl) rfl) tabOk (by kernel_rfl) rfl rfl (TpX.runY [] [] ?_))
 repeat' (first|(refine leaf_x (calmM a) (Ei [] (Ai rfl (Ai trivial ?_))) rfl rfl;(repeat' first|refine Ai ?_ ?_|exact rfl|exact trivial|exact Ei _ rfl|refine lN ?_|refine bS ?_|fail);done)|fail)
theorem r24calm (a:GObject):Ct Tryz.prog 141 [.agg (a.enc.map .t)] (.agg ((calmM a).enc.map .t)) [] true:=by
 obtain ⟨r,hr,h⟩:=r24calm_ a
 rw [hr] at h
 exact h
theorem r24ended_ (a:GObject):∃ r:GObject,(r=(endedM a))∧Ct Tryz.prog 142 [.agg (a.enc.map .t)] ((fun r=>.agg (r.enc.map .t)) r) [] true:=by
 refine ct_x (Φ:=fun (r:GObject)=>r=(endedM a)) (fun _=>rfl) (ctx_of Tryz.func142 rfl (enters_of Tryz.func142 (by kernel_rfl) rfl) tabOk (by kernel_rfl) rfl rfl (TpX.runY [] [] ?_))
 repeat' (first|(refine leaf_x (endedM a) (Ei [] (Ai rfl (Ai trivial ?_))) rfl rfl;(repeat' first|refine Ai ?_ ?_|exact rfl|exact trivial|exact Ei _ rfl|refine lN ?_|refine bS ?_|fail);done)|fail)
theorem r24ended (a:GObject):Ct Tryz.prog 142 [.agg (a.enc.map .t)] (.agg ((endedM a).enc.map .t)) [] true:=by
 obtain ⟨r,hr,h⟩:=r24ended_ a
 rw [hr] at h
 exact h
theorem r24is_ (a:GObject) (b:Int) (c:Int):∃ r:Bool,(r=(objOk a b c))∧Ct Tryz.prog 97 [.agg (a.enc.map .t),.c (.t (iv b)),.c (.t (iv c))] (AV.b r) [] true:=by
 refine ct_x (Φ:=fun (r:Bool)=>r=(objOk a b c)) lit_b (ctx_of Tryz.func97 rfl (enters_of Tryz.func97 (by kernel_rfl) rfl) tabOk (by kernel_rfl) rfl rfl (TpX.runY [] [] ?_))
 repeat' (first|(apply cond_p <;> intro _)|apply cond_n|(apply cS <;> intro _)|(apply leaf_x;exact Ei [] (Ai rfl (Ai trivial rfl));exact (by simp [objOk,restOk, *] <;> simp_all [lksEq,lkEq,calmM,endedM]);rfl)|(apply call_f 140;refine cI (r12is _ _ _) ⟨⟨rfl,rfl,rfl,trivial⟩,trivial⟩ (.inl rfl) ?_)|(apply call_f 141;refine cI (r24calm _) ⟨fL (GObject.enc _),trivial⟩ (.inl rfl) ?_)|(apply call_f 142;refine cI (r24ended _) ⟨fL (GObject.enc _),trivial⟩ (.inl rfl) ?_)|fail)
theorem r24is (a:GObject) (b:Int) (c:Int):Ct Tryz.prog 97 [.agg (a.enc.map .t),.c (.t (iv b)),.c (.t (iv c))] (AV.b (objOk a b c)) [] true:=by
 obtain ⟨r,hr,h⟩:=r24is_ a b c
 rw [hr] at h
 exact h
theorem r26placed_ (a:GState) (b:GObject) (ha:a.ok):∃ r:Bool,(r=(placedOk a b))∧Ct Tryz.prog 98 [.agg (a.enc.map .t),.agg (b.enc.map .t)] (AV.b r) [] true:=by
 have ha_:=ha
 obtain ⟨oa0,oa1,oa2,oa3,oa4,oa5,oa6,oa7,oa8,oa9,oa10,oa11,oa12⟩:=ha_
 refine ct_x (Φ:=fun (r:Bool)=>r=(placedOk a b)) lit_b (ctx_of Tryz.func98 rfl (enters_of Tryz.func98 (by kernel_rfl) rfl) tabOk (by kernel_rfl) rfl rfl (TpX.runY [] [] ?_))
 repeat' (first|(apply cond_p <;> intro _)|(apply leaf_x;exact Ei [] (Ai rfl (Ai trivial rfl));exact (by simp [placedOk, *]);rfl)|(apply call_f 143;refine cI (r26spells _ _ (by first|assumption|exact okmr ‹_› ‹_› | exact okmg _ ‹_› | exact listM_le ‹_› _ _)) ⟨fL (GState.enc _),rfl,trivial⟩ (.inl rfl) ?_)|(apply call_f 131;refine cI (list_ct _ _ _ (by first|assumption|exact okmr ‹_› ‹_› | exact okmg _ ‹_› | exact listM_le ‹_› _ _)) ⟨fL (GState.enc _),rfl,rfl,trivial⟩ (.inr rfl) ?_)|(apply call_f 139;refine cI (r26times _ _ (by first|assumption|exact okmr ‹_› ‹_› | exact okmg _ ‹_› | exact listM_le ‹_› _ _)) ⟨rfl,rfl,trivial⟩ (.inl rfl) ?_)|fail)
theorem r26placed (a:GState) (b:GObject) (ha:a.ok):Ct Tryz.prog 98 [.agg (a.enc.map .t),.agg (b.enc.map .t)] (AV.b (placedOk a b)) [] true:=by
 obtain ⟨r,hr,h⟩:=r26placed_ a b ha
 rw [hr] at h
 exact h
theorem r26objects_ (a:List GCard) (b:GState) (_ha:a.length*176≤limB) (_ma:∀ y∈a,GCard.ok y) (hb:b.ok):∃ r:Bool,(r=(objsOk ((a.length:Nat):Int) b))∧Ct Tryz.prog 40 [.c (.t (.sl 17 (a.map GCard.enc))),.agg (b.enc.map .t)] (AV.b r) [] true:=by
 have hb_:=hb
 obtain ⟨ob0,ob1,ob2,ob3,ob4,ob5,ob6,ob7,ob8,ob9,ob10,ob11,ob12⟩:=hb_
 refine ct_x (Φ:=fun (r:Bool)=>r=(objsOk ((a.length:Nat):Int) b)) lit_b (ctx_of Tryz.func40 rfl (enters_of Tryz.func40 (by kernel_rfl) rfl) tabOk (by kernel_rfl) rfl rfl (TpX.runY [] [] ?_))
 repeat' (first|(apply ix_prev zeroObj 128 ‹_› rfl ‹_› ‹_›;intro _)|(apply ix_k;(first|assumption|omega|(simp only [IntKind.wrap_i64,IntKind.wrap_u64,List.length_cons,List.length_nil];omega)|(simp only [Lm] at *;omega)|decide);(first|assumption|omega|(simp only [IntKind.wrap_i64,IntKind.wrap_u64,List.length_cons,List.length_nil];omega)|(simp only [Lm] at *;omega)|decide);intro _)|(apply cond_p <;> intro _)|apply cond_n|(apply cS <;> intro _)|(apply leaf_x;exact Ei [] (Ai rfl (Ai trivial rfl));exact (by first|(simp [objsOk, *];done)|((try simp only [Lm] at *);simp [objsOk, *];done)|exact objs_no ‹_› ‹_› (by first|exact objAt_n1 ‹_› | exact objAt_n2 ‹_› | exact objAt_n3 ‹_› | exact objAt_n4 ‹_› ‹_› | exact objAt_n5 ‹_›)|exact objs_yes ‹_› ‹_› ‹_›);rfl)|(apply lp_at 4 rfl;refine LpX.up (β:=Unit) 4 5 ((((b.objects.map GObject.enc).length:Nat):Int)) (by first|omega|exact len62 (by first|assumption|exact okmr ‹_› ‹_› | exact okmg _ ‹_›) rfl) (by omega) (fun _=>[]) (fun i _=>Up (objAt ((a.length:Nat):Int) b) b.objects i) [0,3] [0] 200000 rfl ?_;refine Ai ?_ (fun _ _ _ _ _=>TpX.runY [] [] ?_))|exact Ei () (Ai (by first|exact Up.zero|exact Up.step ‹_› ‹_› ‹_› (objAt_yes ‹_› ‹_› ‹_› (by first|exact .inl (by omega)|exact .inr ‹_›) ‹_›)) (wk_slim rfl rfl rfl rfl))|exact Ai (by first|assumption|omega) (Ei () (Ai (by first|exact Up.zero|exact Up.step ‹_› ‹_› ‹_› (objAt_yes ‹_› ‹_› ‹_› (by first|exact .inl (by omega)|exact .inr ‹_›) ‹_›)) (wk_slim rfl rfl rfl rfl)))|(apply call_f 97;refine cI (r24is _ _ _) ⟨fL (GObject.enc _),rfl,rfl,trivial⟩ (.inl rfl) ?_)|(apply call_f 98;refine cI (r26placed _ _ (by first|assumption|exact okmr ‹_› ‹_› | exact okmg _ ‹_›)) ⟨fL (GState.enc _),fL (GObject.enc _),trivial⟩ (.inl rfl) ?_)|fail)
theorem r26objects (a:List GCard) (b:GState) (ha:a.length*176≤limB) (ma:∀ y∈a,GCard.ok y) (hb:b.ok):Ct Tryz.prog 40 [.c (.t (.sl 17 (a.map GCard.enc))),.agg (b.enc.map .t)] (AV.b (objsOk ((a.length:Nat):Int) b)) [] true:=by
 obtain ⟨r,hr,h⟩:=r26objects_ a b ha ma hb
 rw [hr] at h
 exact h
theorem r26players_ (a:GState) (ha:a.ok):∃ r:Bool,(r=(playersOk a))∧Ct Tryz.prog 38 [.agg (a.enc.map .t)] (AV.b r) [] true:=by
 have ha_:=ha
 obtain ⟨oa0,oa1,oa2,oa3,oa4,oa5,oa6,oa7,oa8,oa9,oa10,oa11,oa12⟩:=ha_
 refine ct_x (Φ:=fun (r:Bool)=>r=(playersOk a)) lit_b (ctx_of Tryz.func38 rfl (enters_of Tryz.func38 (by kernel_rfl) rfl) tabOk (by kernel_rfl) rfl rfl (TpX.runY [] [] ?_))
 repeat' (first|(apply ix_k;(first|assumption|omega|(simp only [IntKind.wrap_i64,IntKind.wrap_u64,List.length_cons,List.length_nil];omega)|(simp only [Lm] at *;omega)|decide);(first|assumption|omega|(simp only [IntKind.wrap_i64,IntKind.wrap_u64,List.length_cons,List.length_nil];omega)|(simp only [Lm] at *;omega)|decide);intro _)|(apply cond_p <;> intro _)|apply cond_n|(apply cS <;> intro _)|(apply leaf_x;exact Ei [] (Ai rfl (Ai trivial rfl));exact (by first|exact plys_n1 ‹_› | exact plys_no ‹_› (by rw [plyOk_eq ‹_›];simp [*])|exact plys_yes ‹_› ‹_› ‹_› (by simp [*]));rfl)|(apply lp_at 4 rfl;refine LpX.up (β:=Unit) 4 3 ((((a.players.map GPlayer.enc).length:Nat):Int)) (by first|omega|exact len62 (by first|assumption|exact okmr ‹_› ‹_› | exact okmg _ ‹_› | exact GPlayer.ok_library (okmg _ ‹_›)|exact GPlayer.ok_hand (okmg _ ‹_›)|exact GPlayer.ok_graveyard (okmg _ ‹_›)) rfl) (by omega) (fun _=>[]) (fun i _=>Up (plyOk a) a.players i) [1] [0] 200000 rfl ?_;refine Ai ?_ (fun _ _ _ _ _=>TpX.runY [] [] ?_))|exact Ei () (Ai (by first|exact Up.zero|exact Up.step ‹_› ‹_› ‹_› (by rw [plyOk_eq ‹_›];simp [*])) (wk_slim rfl rfl rfl rfl))|exact Ai (by first|assumption|omega) (Ei () (Ai (by first|exact Up.zero|exact Up.step ‹_› ‹_› ‹_› (by rw [plyOk_eq ‹_›];simp [*])) (wk_slim rfl rfl rfl rfl)))|(apply call_f 37;refine cI (r26in _ _ _) ⟨rfl,rfl,rfl,trivial⟩ (.inl rfl) ?_)|(apply call_f 95;refine cI (r08whole _ _ _ _ _ _) ⟨⟨rfl,rfl,rfl,rfl,rfl,rfl,trivial⟩,trivial⟩ (.inl rfl) ?_)|(apply call_f 96;refine cI (r26list _ _ _ _ (by first|assumption|exact okmr ‹_› ‹_› | exact okmg _ ‹_› | exact GPlayer.ok_library (okmg _ ‹_›)|exact GPlayer.ok_hand (okmg _ ‹_›)|exact GPlayer.ok_graveyard (okmg _ ‹_›)) (by first|assumption|exact okmr ‹_› ‹_› | exact okmg _ ‹_› | exact GPlayer.ok_library (okmg _ ‹_›)|exact GPlayer.ok_hand (okmg _ ‹_›)|exact GPlayer.ok_graveyard (okmg _ ‹_›))) ⟨fL (GState.enc _),rfl,rfl,rfl,trivial⟩ (.inl rfl) ?_)|fail)
theorem r26players (a:GState) (ha:a.ok):Ct Tryz.prog 38 [.agg (a.enc.map .t)] (AV.b (playersOk a)) [] true:=by
 obtain ⟨r,hr,h⟩:=r26players_ a ha
 rw [hr] at h
 exact h
end Go.Proofs.YtmloamomcbmfhaaGreat
end
section
namespace Go.Proofs.YtmloamomcbmfhaaGreat
open Go Cg Go.RowKit Go.Shelf
open Classical in
section
noncomputable def opqB (f:FuncId) (ars:List AV):Bool:=if h:∃ b,Ct Tryz.prog f ars (AV.b b) [] true then h.choose else false
theorem opqB_ct {Φ:Bool→Prop} {f:FuncId} {ars:List AV} (h:∃ b,Φ b∧Ct Tryz.prog f ars (AV.b b) [] true):Ct Tryz.prog f ars (AV.b (opqB f ars)) [] true:=by
 obtain ⟨b,_,hb⟩:=h
 have h:∃ b,Ct Tryz.prog f ars (AV.b b) [] true:=⟨b,hb⟩
 unfold opqB
 rw [dif_pos h]
 exact h.choose_spec
open Classical in
noncomputable def opqS (f:FuncId) (ars:List AV):ByteArray:=if h:∃ b,Ct Tryz.prog f ars (AV.s b) [] true then h.choose else ⟨#[]⟩
theorem opqS_ct {Φ:ByteArray→Prop} {f:FuncId} {ars:List AV} (h:∃ b,Φ b∧Ct Tryz.prog f ars (AV.s b) [] true):Ct Tryz.prog f ars (AV.s (opqS f ars)) [] true:=by
 obtain ⟨b,_,hb⟩:=h
 have h:∃ b,Ct Tryz.prog f ars (AV.s b) [] true:=⟨b,hb⟩
 unfold opqS
 rw [dif_pos h]
 exact h.choose_spec
theorem r03is (a:List Int) (ha:a.length*8≤limB):∃ r:Bool,True∧Ct Tryz.prog 101 [.c (.t (.sl 1 (a.map eI)))] (AV.b r) [] true:=by
 refine ct_x (Φ:=fun _=>True) lit_b (ctx_of Tryz.func101 rfl (enters_of Tryz.func101 (by kernel_rfl) rfl) tabOk (by kernel_rfl) rfl rfl (TpX.runY [] [] ?_))
 repeat' (first|(apply ix_prev 0 8 ‹_› rfl (by omega) ‹_›;intro _)|(apply cond_p <;> intro _)|(apply leaf_x;exact Ei [] (Ai rfl (Ai trivial rfl));exact (trivial);rfl)|(apply ix_map;(first|assumption|omega|(simp only [IntKind.wrap_i64,IntKind.wrap_u64,List.length_cons,List.length_nil];omega)|(simp only [Lm] at *;omega)|decide);(first|assumption|omega|(simp only [IntKind.wrap_i64,IntKind.wrap_u64,List.length_cons,List.length_nil];omega)|(simp only [Lm] at *;omega)|decide);intro _ _)|(apply lp_at 2 rfl;refine LpX.at (α:=Int) 2 (fun i=>[(3,AV.i i)]) (fun i=>1≤i∧i≤17592186044416) (fun i=>(17592186044416 - i).toNat) [0] [] 200000 rfl ?_;refine Ai (Ei 1 (Ai ⟨by omega,by omega⟩ (wk_slim rfl rfl rfl rfl))) (fun i hi=>TpX.runY [] [] ?_))|exact Ei _ (Ai (Ai (by (simp only [IntKind.wrap_i64,Lm] at *;unfold limB at ha;omega)) (by (simp only [IntKind.wrap_i64,Lm] at *;unfold limB at ha;omega))) (wk_slim rfl rfl rfl rfl))|fail)
def zeroAb:GAbility:=⟨0,⟨0,0,0,0,0,0,0,⟨#[]⟩,0,0,⟨0,0⟩,⟨0,0⟩,⟨0,0⟩⟩,[],⟨⟨0,0,0,0,0,0,0⟩,false,false,0⟩,false,⟨0,0,⟨0,0,0,0,0,0,0,⟨#[]⟩,0,0,⟨0,0⟩,⟨0,0⟩,⟨0,0⟩⟩⟩,false,[],[],⟨0,0,⟨0,0,0,0,0,0,0,⟨#[]⟩,0,0,⟨0,0⟩,⟨0,0⟩,⟨0,0⟩⟩,0,0,0,0⟩⟩
theorem zeroAb_ok:zeroAb.ok:=⟨⟨trivial,trivial,trivial⟩,Nat.zero_le _,fun _ h=>(by cases h),trivial,⟨trivial,trivial,trivial⟩,Nat.zero_le _,fun _ h=>(by cases h),Nat.zero_le _,fun _ h=>(by cases h),⟨trivial,trivial,trivial⟩⟩
theorem opq_ex:∃ q:Opq,(∀ a:GAbility,a.ok→Ct Tryz.prog 100 [.agg (a.enc.map .t)] (AV.b (q.ab a)) [] true)∧(∀ a:GAbility,a.ok→Ct Tryz.prog 114 [.agg (a.enc.map .t),.agg (zeroAb.enc.map .t)] (AV.b (q.zero a)) [] true)∧(∀ l:List Int,l.length*8≤limB→Ct Tryz.prog 101 [.c (.t (.sl 1 (l.map eI)))] (AV.b (q.set l)) [] true)∧∀ l:List GMod,l.length*176≤limB→Ct Tryz.prog 102 [.c (.t (.sl 20 (l.map GMod.enc)))] (AV.s (q.txt l)) [] true:=
 ⟨⟨fun a=>opqB 100 [.agg (a.enc.map .t)],fun a=>opqB 114 [.agg (a.enc.map .t),.agg (zeroAb.enc.map .t)],fun l=>opqB 101 [.c (.t (.sl 1 (l.map eI)))],fun l=>opqS 102 [.c (.t (.sl 20 (l.map GMod.enc)))]⟩,fun a ha=>opqB_ct (r20is a ha),fun a ha=>opqB_ct (r20same a zeroAb ha zeroAb_ok),fun l hl=>opqB_ct (r03is l hl),fun l hl=>opqS_ct (r15listText l hl)⟩
noncomputable def opq:Opq:=Classical.choose opq_ex
theorem ab_ct (a:GAbility) (ha:a.ok):Ct Tryz.prog 100 [.agg (a.enc.map .t)] (AV.b (opq.ab a)) [] true:=(Classical.choose_spec opq_ex).1 a ha
theorem zero_ct (a:GAbility) (ha:a.ok):Ct Tryz.prog 114 [.agg (a.enc.map .t),.agg (zeroAb.enc.map .t)] (AV.b (opq.zero a)) [] true:=(Classical.choose_spec opq_ex).2.1 a ha
theorem set_ct' (l:List Int) (hl:l.length*8≤limB):Ct Tryz.prog 101 [.c (.t (.sl 1 (l.map eI)))] (AV.b (opq.set l)) [] true:=(Classical.choose_spec opq_ex).2.2.1 l hl
theorem mods_ct (l:List GMod) (hl:l.length*176≤limB):Ct Tryz.prog 102 [.c (.t (.sl 20 (l.map GMod.enc)))] (AV.s (opq.txt l)) [] true:=(Classical.choose_spec opq_ex).2.2.2 l hl
theorem r26item_ (a:GState) (b:GItem) (ha:a.ok) (hb:b.ok) (hn:inM a.nextId 1 1000000=true):∃ r:Bool,(r=(itemOk opq a b))∧Ct Tryz.prog 99 [.agg (a.enc.map .t),.agg (b.enc.map .t)] (AV.b r) [] true:=by
 have ha_:=ha
 obtain ⟨oa0,oa1,oa2,oa3,oa4,oa5,oa6,oa7,oa8,oa9,oa10,oa11,oa12⟩:=ha_
 have hb_:=hb
 obtain ⟨ob0,ob1,ob2,ob3⟩:=hb_
 refine ct_x (Φ:=fun (r:Bool)=>r=(itemOk opq a b)) lit_b (ctx_of Tryz.func99 rfl (enters_of Tryz.func99 (by kernel_rfl) rfl) tabOk (by kernel_rfl) rfl rfl (TpX.runY [] [] ?_))
 repeat' (first|(apply call_f 114;refine cI (zero_ct _ (by first|assumption|exact okmr ‹_› ‹_› | exact okmg _ ‹_›)) ⟨fL (GAbility.enc _),(by repeat' first|refine Ai ?_ ?_|exact rfl|exact trivial|exact Ei _ rfl|refine lN ?_|refine bS ?_|fail),trivial⟩ (.inl rfl) ?_)|(apply cond_p <;> intro _)|apply cond_n|(apply cS <;> intro _)|(apply leaf_x;exact Ei [] (Ai rfl (Ai trivial rfl));exact (by (try simp only [Lm,wrapN hn] at *);simp [itemOk, *]);rfl)|(apply call_f 37;refine cI (r26in _ _ _) ⟨rfl,rfl,rfl,trivial⟩ (.inl rfl) ?_)|(apply call_f 39;refine cI (r26player _ _ (by first|assumption|exact okmr ‹_› ‹_› | exact okmg _ ‹_›)) ⟨fL (GState.enc _),rfl,trivial⟩ (.inl rfl) ?_)|(apply call_f 138;refine cI (r26object _ _ (by first|assumption|exact okmr ‹_› ‹_› | exact okmg _ ‹_›)) ⟨fL (GState.enc _),rfl,trivial⟩ (.inl rfl) ?_)|(apply call_f 100;refine cI (ab_ct _ (by first|assumption|exact okmr ‹_› ‹_› | exact okmg _ ‹_›)) ⟨fL (GAbility.enc _),trivial⟩ (.inl rfl) ?_)|fail)
theorem r26item (a:GState) (b:GItem) (ha:a.ok) (hb:b.ok) (hn:inM a.nextId 1 1000000=true):Ct Tryz.prog 99 [.agg (a.enc.map .t),.agg (b.enc.map .t)] (AV.b (itemOk opq a b)) [] true:=by
 obtain ⟨r,hr,h⟩:=r26item_ a b ha hb hn
 rw [hr] at h
 exact h
theorem r26stack_ (a:GState) (ha:a.ok) (hn:inM a.nextId 1 1000000=true):∃ r:Bool,(r=(stackOk opq a))∧Ct Tryz.prog 41 [.agg (a.enc.map .t)] (AV.b r) [] true:=by
 have ha_:=ha
 obtain ⟨oa0,oa1,oa2,oa3,oa4,oa5,oa6,oa7,oa8,oa9,oa10,oa11,oa12⟩:=ha_
 refine ct_x (Φ:=fun (r:Bool)=>r=(stackOk opq a)) lit_b (ctx_of Tryz.func41 rfl (enters_of Tryz.func41 (by kernel_rfl) rfl) tabOk (by kernel_rfl) rfl rfl (TpX.runY [] [] ?_))
 repeat' (first|(apply ix_k;(first|assumption|omega|(simp only [IntKind.wrap_i64,IntKind.wrap_u64,List.length_cons,List.length_nil];omega)|(simp only [Lm] at *;omega)|decide);(first|assumption|omega|(simp only [IntKind.wrap_i64,IntKind.wrap_u64,List.length_cons,List.length_nil];omega)|(simp only [Lm] at *;omega)|decide);intro _)|(apply cond_p <;> intro _)|(apply cond_ne <;> intro _)|apply cond_n|(apply cS <;> intro _)|(apply leaf_x;exact Ei [] (Ai rfl (Ai trivial rfl));exact (by first|exact stk_n0 (f:=GItem.enc) (g:=GWaiting.enc) (c:=GCont.enc) (.inl ‹_›)|exact stk_n0 (f:=GItem.enc) (g:=GWaiting.enc) (c:=GCont.enc) (.inr (.inl ‹_›))|exact stk_n0 (f:=GItem.enc) (g:=GWaiting.enc) (c:=GCont.enc) (.inr (.inr ‹_›))|exact stk_n1 ‹_› (by first|exact item_n1 ‹_› | exact item_n2 ‹_› ‹_› ‹_› ‹_›)|exact stk_n2 ‹_› (by (try simp only [Lm] at *);simp [waitOk, *])|exact stk_n3 ‹_› (by first|exact cont_yes ‹_› ‹_› ‹_› ‹_› ‹_› | exact cont_n1 ‹_› | exact cont_n2 ‹_› | exact cont_n3 ‹_› | exact cont_n4 ‹_› | exact cont_n5 ‹_›)|exact stk_yes ‹_› ‹_› ‹_› ‹_› ‹_› ‹_› ‹_› ‹_› ‹_›);rfl)|(apply lp_at 4 rfl;refine LpX.up (β:=Unit) 4 3 ((((a.stack.map GItem.enc).length:Nat):Int)) (by first|omega|exact len62 (by first|assumption|exact okmr ‹_› ‹_› | exact okmg _ ‹_› | exact GWaiting.ok_ability (okmg _ ‹_›)|exact GCont.ok_objects (okmg _ ‹_›)|exact GCont.ok_mods (okmg _ ‹_›)) rfl) (by omega) (fun _=>[]) (fun i _=>Up (itemAt opq a) a.stack i) [1] [0] 200000 rfl ?_;refine Ai ?_ (fun _ _ _ _ _=>TpX.runY [] [] ?_))|(apply lp_at 9 rfl;rename_i i _ _ _ _ hi hl _;refine LpX.up (β:=Unit) 9 4 (i) (by (simp only [Lm] at *;have:=oa6;unfold limB at this;omega)) ‹_› (fun _=>[]) (fun k _=>Up (fun _ (y:GItem)=>!(y.id==a.stack[i.toNat].id)) a.stack k) [1,3] [0] 300000 rfl ?_;refine Ai ?_ (fun _ _ _ _ _=>TpX.runY [] [] ?_))|(apply lp_at 14 rfl;refine LpX.up (β:=Unit) 14 5 ((((a.waiting.map GWaiting.enc).length:Nat):Int)) (by first|omega|exact len62 (by first|assumption|exact okmr ‹_› ‹_› | exact okmg _ ‹_› | exact GWaiting.ok_ability (okmg _ ‹_›)|exact GCont.ok_objects (okmg _ ‹_›)|exact GCont.ok_mods (okmg _ ‹_›)) rfl) (by omega) (fun _=>[]) (fun i _=>Up (fun _=>waitOk opq a) a.waiting i) [1] [0] 400000 rfl ?_;refine Ai ?_ (fun _ _ _ _ _=>TpX.runY [] [] ?_))|(apply lp_at 20 rfl;refine LpX.up (β:=Unit) 20 7 ((((a.conts.map GCont.enc).length:Nat):Int)) (by first|omega|exact len62 (by first|assumption|exact okmr ‹_› ‹_› | exact okmg _ ‹_› | exact GWaiting.ok_ability (okmg _ ‹_›)|exact GCont.ok_objects (okmg _ ‹_›)|exact GCont.ok_mods (okmg _ ‹_›)) rfl) (by omega) (fun _=>[]) (fun i _=>Up (fun _=>contOk opq a) a.conts i) [1] [0] 500000 rfl ?_;refine Ai ?_ (fun _ _ _ _ _=>TpX.runY [] [] ?_))|exact Ei () (Ai (by first|exact Up.zero|exact Up.step ‹_› ‹_› ‹_› (item_yes ‹_› ‹_› ‹_› ‹_›)|exact Up.step ‹_› ‹_› ‹_› (by simp [*])|exact Up.step ‹_› ‹_› ‹_› (by (try simp only [Lm] at *);simp [waitOk, *])|exact Up.step ‹_› ‹_› ‹_› (by first|exact cont_yes ‹_› ‹_› ‹_› ‹_› ‹_› | exact cont_n1 ‹_› | exact cont_n2 ‹_› | exact cont_n3 ‹_› | exact cont_n4 ‹_› | exact cont_n5 ‹_›)) (wk_slim rfl rfl rfl rfl))|exact Ai (by first|assumption|omega) (Ei () (Ai (by first|exact Up.zero|exact Up.step ‹_› ‹_› ‹_› (item_yes ‹_› ‹_› ‹_› ‹_›)|exact Up.step ‹_› ‹_› ‹_› (by simp [*])|exact Up.step ‹_› ‹_› ‹_› (by (try simp only [Lm] at *);simp [waitOk, *])|exact Up.step ‹_› ‹_› ‹_› (by first|exact cont_yes ‹_› ‹_› ‹_› ‹_› ‹_› | exact cont_n1 ‹_› | exact cont_n2 ‹_› | exact cont_n3 ‹_› | exact cont_n4 ‹_› | exact cont_n5 ‹_›)) (wk_slim rfl rfl rfl rfl)))|(apply call_f 99;refine cI (r26item _ _ (by first|assumption|exact okmr ‹_› ‹_› | exact okmg _ ‹_› | exact GWaiting.ok_ability (okmg _ ‹_›)|exact GCont.ok_objects (okmg _ ‹_›)|exact GCont.ok_mods (okmg _ ‹_›)) (by first|assumption|exact okmr ‹_› ‹_› | exact okmg _ ‹_› | exact GWaiting.ok_ability (okmg _ ‹_›)|exact GCont.ok_objects (okmg _ ‹_›)|exact GCont.ok_mods (okmg _ ‹_›)) (by first|assumption|omega|(simp only [IntKind.wrap_i64,IntKind.wrap_u64,List.length_cons,List.length_nil];omega)|(simp only [Lm] at *;omega)|decide)) ⟨fL (GState.enc _),fL (GItem.enc _),trivial⟩ (.inl rfl) ?_)|(apply call_f 39;refine cI (r26player _ _ (by first|assumption|exact okmr ‹_› ‹_› | exact okmg _ ‹_› | exact GWaiting.ok_ability (okmg _ ‹_›)|exact GCont.ok_objects (okmg _ ‹_›)|exact GCont.ok_mods (okmg _ ‹_›))) ⟨fL (GState.enc _),rfl,trivial⟩ (.inl rfl) ?_)|(apply call_f 100;refine cI (ab_ct _ (by first|assumption|exact okmr ‹_› ‹_› | exact okmg _ ‹_› | exact GWaiting.ok_ability (okmg _ ‹_›)|exact GCont.ok_objects (okmg _ ‹_›)|exact GCont.ok_mods (okmg _ ‹_›))) ⟨fL (GAbility.enc _),trivial⟩ (.inl rfl) ?_)|(apply call_f 37;refine cI (r26in _ _ _) ⟨rfl,rfl,rfl,trivial⟩ (.inl rfl) ?_)|(apply call_f 101;refine cI (set_ct' _ (by first|assumption|exact okmr ‹_› ‹_› | exact okmg _ ‹_› | exact GWaiting.ok_ability (okmg _ ‹_›)|exact GCont.ok_objects (okmg _ ‹_›)|exact GCont.ok_mods (okmg _ ‹_›))) ⟨rfl,trivial⟩ (.inl rfl) ?_)|(apply call_f 102;refine cI (mods_ct _ (by first|assumption|exact okmr ‹_› ‹_› | exact okmg _ ‹_› | exact GWaiting.ok_ability (okmg _ ‹_›)|exact GCont.ok_objects (okmg _ ‹_›)|exact GCont.ok_mods (okmg _ ‹_›))) ⟨rfl,trivial⟩ (.inl rfl) ?_)|fail)
theorem r26stack (a:GState) (ha:a.ok) (hn:inM a.nextId 1 1000000=true):Ct Tryz.prog 41 [.agg (a.enc.map .t)] (AV.b (stackOk opq a)) [] true:=by
 obtain ⟨r,hr,h⟩:=r26stack_ a ha hn
 rw [hr] at h
 exact h
end
end Go.Proofs.YtmloamomcbmfhaaGreat
end
section
namespace Go.Proofs.YtmloamomcbmfhaaGreat
open Go Cg Go.RowKit Go.Shelf
theorem r17light (a:GEffect) (ha:a.ok):∃ r:Bool,True∧Ct Tryz.prog 152 [.agg (a.enc.map .t)] (AV.b r) [] true:=by
 have ha_:=ha
 obtain ⟨oa0,oa1,oa2,oa3,oa4⟩:=ha_
 refine ct_x (Φ:=fun _=>True) lit_b (ctx_of Tryz.func152 rfl (enters_of Tryz.func152 (by kernel_rfl) rfl) tabOk (by kernel_rfl) rfl rfl (TpX.runY [] [] ?_))
 repeat' (first|(apply cond_p <;> intro _)|(apply leaf_x;exact Ei [] (Ai rfl (Ai trivial rfl));exact (trivial);rfl)|(apply lp_at 4 rfl;refine LpX.up (β:=Unit) 4 3 ((((a.mods.map GMod.enc).length:Nat):Int)) (by first|omega|exact len62 (by first|assumption|exact okmr ‹_› ‹_› | exact okmg _ ‹_›) rfl) (by omega) (fun _=>[]) (fun _ _=>True) [1] [0] 200000 rfl ?_;refine Ai ?_ (fun _ _ _ _ _=>TpX.runY [] [] ?_))|exact Ei () (Ai (trivial) (wk_slim rfl rfl rfl rfl))|exact Ai (by first|assumption|omega) (Ei () (Ai (trivial) (wk_slim rfl rfl rfl rfl)))|(apply ix_map;(first|assumption|omega|(simp only [IntKind.wrap_i64,IntKind.wrap_u64,List.length_cons,List.length_nil];omega)|(simp only [Lm] at *;omega)|decide);(first|assumption|omega|(simp only [IntKind.wrap_i64,IntKind.wrap_u64,List.length_cons,List.length_nil];omega)|(simp only [Lm] at *;omega)|decide);intro _ _)|fail)
theorem r17lightList (a:List GEffect) (ha:a.length*560≤limB) (ma:∀ y∈a,GEffect.ok y):∃ r:Bool,True∧Ct Tryz.prog 103 [.c (.t (.sl 64 (a.map GEffect.enc)))] (AV.b r) [] true:=by
 refine ct_x (Φ:=fun _=>True) lit_b (ctx_of Tryz.func103 rfl (enters_of Tryz.func103 (by kernel_rfl) rfl) tabOk (by kernel_rfl) rfl rfl (TpX.runY [] [] ?_))
 repeat' (first|(apply cond_p <;> intro _)|apply cond_n|(apply cS <;> intro _)|(apply leaf_x;exact Ei [] (Ai rfl (Ai trivial rfl));exact (trivial);rfl)|(apply lp_at 2 rfl;refine LpX.up (β:=Unit) 2 3 ((((a.map GEffect.enc).length:Nat):Int)) (by first|omega|exact len62 (by first|assumption|exact okmr ‹_› ‹_› | exact okmg _ ‹_›) rfl) (by omega) (fun _=>[]) (fun _ _=>True) [0] [] 200000 rfl ?_;refine Ai ?_ (fun _ _ _ _ _=>TpX.runY [] [] ?_))|exact Ei () (Ai (trivial) (wk_slim rfl rfl rfl rfl))|exact Ai (by first|assumption|omega) (Ei () (Ai (trivial) (wk_slim rfl rfl rfl rfl)))|(apply ix_map;(first|assumption|omega|(simp only [IntKind.wrap_i64,IntKind.wrap_u64,List.length_cons,List.length_nil];omega)|(simp only [Lm] at *;omega)|decide);(first|assumption|omega|(simp only [IntKind.wrap_i64,IntKind.wrap_u64,List.length_cons,List.length_nil];omega)|(simp only [Lm] at *;omega)|decide);intro _ _)|(apply call_f 152;refine call_x (r17light _ (by first|assumption|exact okmr ‹_› ‹_› | exact okmg _ ‹_›)) ⟨fL (GEffect.enc _),trivial⟩ (.inl rfl) (fun _ _=>?_))|fail)
theorem r20light (a:GAbility) (ha:a.ok):∃ r:Bool,True∧Ct Tryz.prog 42 [.agg (a.enc.map .t)] (AV.b r) [] true:=by
 have ha_:=ha
 obtain ⟨oa0,oa1,oa2,oa3,oa4,oa5,oa6,oa7,oa8,oa9⟩:=ha_
 refine ct_x (Φ:=fun _=>True) lit_b (ctx_of Tryz.func42 rfl (enters_of Tryz.func42 (by kernel_rfl) rfl) tabOk (by kernel_rfl) rfl rfl (TpX.runY [] [] ?_))
 repeat' (first|(apply cond_p <;> intro _)|apply cond_n|(apply cS <;> intro _)|(apply leaf_x;exact Ei [] (Ai rfl (Ai trivial rfl));exact (trivial);rfl)|(apply lp_at 4 rfl;refine LpX.up (β:=Unit) 4 3 ((((a.mods.map GMod.enc).length:Nat):Int)) (by first|omega|exact len62 (by first|assumption|exact okmr ‹_› ‹_› | exact okmg _ ‹_›) rfl) (by omega) (fun _=>[]) (fun _ _=>True) [1] [0] 200000 rfl ?_;refine Ai ?_ (fun _ _ _ _ _=>TpX.runY [] [] ?_))|(apply lp_at 9 rfl;refine LpX.up (β:=Unit) 9 4 ((((a.specs.map GSpec.enc).length:Nat):Int)) (by first|omega|exact len62 (by first|assumption|exact okmr ‹_› ‹_› | exact okmg _ ‹_›) rfl) (by omega) (fun _=>[]) (fun _ _=>True) [1] [0] 300000 rfl ?_;refine Ai ?_ (fun _ _ _ _ _=>TpX.runY [] [] ?_))|exact Ei () (Ai (trivial) (wk_slim rfl rfl rfl rfl))|exact Ai (by first|assumption|omega) (Ei () (Ai (trivial) (wk_slim rfl rfl rfl rfl)))|(apply ix_map;(first|assumption|omega|(simp only [IntKind.wrap_i64,IntKind.wrap_u64,List.length_cons,List.length_nil];omega)|(simp only [Lm] at *;omega)|decide);(first|assumption|omega|(simp only [IntKind.wrap_i64,IntKind.wrap_u64,List.length_cons,List.length_nil];omega)|(simp only [Lm] at *;omega)|decide);intro _ _)|(apply call_f 103;refine call_x (r17lightList _ (by first|assumption|exact okmr ‹_› ‹_› | exact okmg _ ‹_›) (by first|assumption|exact okmr ‹_› ‹_› | exact okmg _ ‹_›)) ⟨rfl,trivial⟩ (.inl rfl) (fun _ _=>?_))|fail)
theorem r21creature (a:GCard) (ha:a.ok):∃ r:Bool,True∧Ct Tryz.prog 108 [.agg (a.enc.map .t)] (AV.b r) [] true:=by
 have ha_:=ha
 obtain ⟨oa0,oa1,oa2,oa3⟩:=ha_
 refine ct_x (Φ:=fun _=>True) lit_b (ctx_of Tryz.func108 rfl (enters_of Tryz.func108 (by kernel_rfl) rfl) tabOk (by kernel_rfl) rfl rfl (TpX.runY [] [] ?_))
 repeat' (first|(apply leaf_x;exact Ei [] (Ai rfl (Ai trivial rfl));exact (trivial);rfl)|fail)
theorem r21fast (a:GCard) (ha:a.ok):∃ r:Bool,True∧Ct Tryz.prog 109 [.agg (a.enc.map .t)] (AV.b r) [] true:=by
 have ha_:=ha
 obtain ⟨oa0,oa1,oa2,oa3⟩:=ha_
 refine ct_x (Φ:=fun _=>True) lit_b (ctx_of Tryz.func109 rfl (enters_of Tryz.func109 (by kernel_rfl) rfl) tabOk (by kernel_rfl) rfl rfl (TpX.runY [] [] ?_))
 repeat' (first|(apply cond_p <;> intro _)|(apply leaf_x;exact Ei [] (Ai rfl (Ai trivial rfl));exact (trivial);rfl)|fail)
theorem r21is (a:GCard) (ha:a.ok):∃ r:Bool,True∧Ct Tryz.prog 43 [.agg (a.enc.map .t)] (AV.b r) [] true:=by
 have ha_:=ha
 obtain ⟨oa0,oa1,oa2,oa3⟩:=ha_
 refine ct_x (Φ:=fun _=>True) lit_b (ctx_of Tryz.func43 rfl (enters_of Tryz.func43 (by kernel_rfl) rfl) tabOk (by kernel_rfl) rfl rfl (TpX.runY [] [1002,3,1004,5,8] ?_))
 repeat' (first|(apply cond_p <;> intro _)|(apply cond_ne <;> intro _)|apply cond_n|(apply cS <;> intro _)|(apply leaf_x;exact Ei [] (Ai rfl (Ai trivial rfl));exact (trivial);rfl)|(apply cut_at 1002 rfl;refine TpX.cut (α:=Bool) 1002 (fun p=>[(36,AV.b p)]) (fun _=>True) [1] [0] 200000 rfl ?_;refine Ai (TpX.runY [] [1002,3,1004,5,8] ?_) (fun _ _=>TpX.runY [] [1002,3,1004,5,8] ?_))|(apply cut_at 3 rfl;refine TpX.cut (α:=Unit) 3 (fun _=>[]) (fun _=>True) [1] [0] 300000 rfl ?_;refine Ai (TpX.runY [] [1002,3,1004,5,8] ?_) (fun _ _=>TpX.runY [] [1002,3,1004,5,8] ?_))|(apply cut_at 1004 rfl;refine TpX.cut (α:=Bool) 1004 (fun p=>[(75,AV.b p)]) (fun _=>True) [1] [0] 400000 rfl ?_;refine Ai (TpX.runY [] [1002,3,1004,5,8] ?_) (fun _ _=>TpX.runY [] [1002,3,1004,5,8] ?_))|(apply cut_at 5 rfl;refine TpX.cut (α:=Unit) 5 (fun _=>[]) (fun _=>True) [1] [0] 500000 rfl ?_;refine Ai (TpX.runY [] [1002,3,1004,5,8] ?_) (fun _ _=>TpX.runY [] [1002,3,1004,5,8] ?_))|(apply cut_at 8 rfl;refine TpX.cut (α:=Int) 8 (fun p=>[(3,AV.i p)]) (fun _=>True) [1,4] [0] 600000 rfl ?_;refine Ai (TpX.runY [] [1002,3,1004,5,8] ?_) (fun _ _=>TpX.runY [] [1002,3,1004,5,8] ?_))|(apply lp_at 7 rfl;refine LpX.up (β:=Int) 7 4 ((((a.abilities.map GAbility.enc).length:Nat):Int)) (by first|omega|exact len62 (by first|assumption|exact okmr ‹_› ‹_› | exact okmg _ ‹_›) rfl) (by omega) (fun p=>[(3,AV.i p)]) (fun _ _=>True) [1] [0] 700000 rfl ?_;refine Ai ?_ (fun _ _ _ _ _=>TpX.runY [] [1002,3,1004,5,8] ?_))|exact Ei () (Ai (trivial) (wk_slim rfl rfl rfl rfl))|exact Ei _ (Ai (trivial) (wk_slim rfl rfl rfl rfl))|exact Ai (by first|assumption|omega) (Ei _ (Ai (trivial) (wk_slim rfl rfl rfl rfl)))|(apply ix_map;(first|assumption|omega|(simp only [IntKind.wrap_i64,IntKind.wrap_u64,List.length_cons,List.length_nil];omega)|(simp only [Lm] at *;omega)|decide);(first|assumption|omega|(simp only [IntKind.wrap_i64,IntKind.wrap_u64,List.length_cons,List.length_nil];omega)|(simp only [Lm] at *;omega)|decide);intro _ _)|(apply call_f 104;refine call_x (r02is _) ⟨rfl,trivial⟩ (.inl rfl) (fun _ _=>?_))|(apply call_f 105;refine call_x (r08is _) ⟨fL (GCost.enc _),trivial⟩ (.inl rfl) (fun _ _=>?_))|(apply call_f 106;refine call_x (r10is _ (by first|assumption|exact okmr ‹_› ‹_› | exact okmg _ ‹_›)) ⟨fL (GLine.enc _),trivial⟩ (.inl rfl) (fun _ _=>?_))|(apply call_f 107;refine call_x (r11is _) ⟨rfl,trivial⟩ (.inl rfl) (fun _ _=>?_))|(apply call_f 108;refine call_x (r21creature _ (by first|assumption|exact okmr ‹_› ‹_› | exact okmg _ ‹_›)) ⟨fL (GCard.enc _),trivial⟩ (.inl rfl) (fun _ _=>?_))|(apply call_f 100;refine call_x (r20is _ (by first|assumption|exact okmr ‹_› ‹_› | exact okmg _ ‹_›)) ⟨fL (GAbility.enc _),trivial⟩ (.inl rfl) (fun _ _=>?_))|(apply call_f 109;refine call_x (r21fast _ (by first|assumption|exact okmr ‹_› ‹_› | exact okmg _ ‹_›)) ⟨fL (GCard.enc _),trivial⟩ (.inl rfl) (fun _ _=>?_))|fail)
theorem r22find (a:List GCard) (b:ByteArray) (ha:a.length*176≤limB) (_ma:∀ y∈a,GCard.ok y):∃ r:Int,True∧Ct Tryz.prog 44 [.c (.t (.sl 17 (a.map GCard.enc))),AV.s b] (AV.i r) [] true:=by
 refine ct_x (Φ:=fun _=>True) lit_i (ctx_of Tryz.func44 rfl (enters_of Tryz.func44 (by kernel_rfl) rfl) tabOk (by kernel_rfl) rfl rfl (TpX.runY [] [] ?_))
 repeat' (first|(apply cond_p <;> intro _)|(apply cS <;> intro _)|(apply leaf_x;exact Ei [] (Ai rfl (Ai trivial rfl));exact (trivial);rfl)|(apply lp_at 2 rfl;refine LpX.up (β:=Unit) 2 5 ((((a.map GCard.enc).length:Nat):Int)) (by first|omega|exact len62 (by first|assumption|exact okmr ‹_› ‹_› | exact okmg _ ‹_›) rfl) (by omega) (fun _=>[]) (fun _ _=>True) [0,1] [] 200000 rfl ?_;refine Ai ?_ (fun _ _ _ _ _=>TpX.runY [] [] ?_))|exact Ei () (Ai (trivial) (wk_slim rfl rfl rfl rfl))|exact Ai (by first|assumption|omega) (Ei () (Ai (trivial) (wk_slim rfl rfl rfl rfl)))|(apply ix_map;(first|assumption|omega|(simp only [IntKind.wrap_i64,IntKind.wrap_u64,List.length_cons,List.length_nil];omega)|(simp only [Lm] at *;omega)|decide);(first|assumption|omega|(simp only [IntKind.wrap_i64,IntKind.wrap_u64,List.length_cons,List.length_nil];omega)|(simp only [Lm] at *;omega)|decide);intro _ _)|fail)
theorem r22token (a:List GCard) (b:ByteArray) (ha:a.length*176≤limB) (_ma:∀ y∈a,GCard.ok y):∃ r:Bool,True∧Ct Tryz.prog 110 [.c (.t (.sl 17 (a.map GCard.enc))),AV.s b] (AV.b r) [] true:=by
 refine ct_x (Φ:=fun _=>True) lit_b (ctx_of Tryz.func110 rfl (enters_of Tryz.func110 (by kernel_rfl) rfl) tabOk (by kernel_rfl) rfl rfl (TpX.runY [] [] ?_))
 repeat' (first|(apply cond_p <;> intro _)|(apply cS <;> intro _)|(apply leaf_x;exact Ei [] (Ai rfl (Ai trivial rfl));exact (trivial);rfl)|(apply lp_at 2 rfl;refine LpX.up (β:=Unit) 2 5 ((((a.map GCard.enc).length:Nat):Int)) (by first|omega|exact len62 (by first|assumption|exact okmr ‹_› ‹_› | exact okmg _ ‹_›) rfl) (by omega) (fun _=>[]) (fun _ _=>True) [0,1] [] 200000 rfl ?_;refine Ai ?_ (fun _ _ _ _ _=>TpX.runY [] [] ?_))|exact Ei () (Ai (trivial) (wk_slim rfl rfl rfl rfl))|exact Ai (by first|assumption|omega) (Ei () (Ai (trivial) (wk_slim rfl rfl rfl rfl)))|(apply ix_map;(first|assumption|omega|(simp only [IntKind.wrap_i64,IntKind.wrap_u64,List.length_cons,List.length_nil];omega)|(simp only [Lm] at *;omega)|decide);(first|assumption|omega|(simp only [IntKind.wrap_i64,IntKind.wrap_u64,List.length_cons,List.length_nil];omega)|(simp only [Lm] at *;omega)|decide);intro _ _)|fail)
theorem r22creates (a:List GCard) (b:GCard) (ha:a.length*176≤limB) (ma:∀ y∈a,GCard.ok y) (hb:b.ok):∃ r:Bool,True∧Ct Tryz.prog 45 [.c (.t (.sl 17 (a.map GCard.enc))),.agg (b.enc.map .t)] (AV.b r) [] true:=by
 have hb_:=hb
 obtain ⟨ob0,ob1,ob2,ob3⟩:=hb_
 refine ct_x (Φ:=fun _=>True) lit_b (ctx_of Tryz.func45 rfl (enters_of Tryz.func45 (by kernel_rfl) rfl) tabOk (by kernel_rfl) rfl rfl (TpX.runY [] [] ?_))
 repeat' (first|(apply ix_k;(first|assumption|omega|(simp only [IntKind.wrap_i64,IntKind.wrap_u64,List.length_cons,List.length_nil];omega)|(simp only [Lm] at *;omega)|decide);(first|assumption|omega|(simp only [IntKind.wrap_i64,IntKind.wrap_u64,List.length_cons,List.length_nil];omega)|(simp only [Lm] at *;omega)|decide);intro _)|(apply cond_p <;> intro _)|apply cond_n|(apply cS <;> intro _)|(apply leaf_x;exact Ei [] (Ai rfl (Ai trivial rfl));exact (trivial);rfl)|(apply lp_at 2 rfl;refine LpX.up (β:=Unit) 2 5 ((((b.abilities.map GAbility.enc).length:Nat):Int)) (by first|omega|exact len62 (by first|assumption|exact okmr ‹_› ‹_› | exact okmg _ ‹_› | exact GAbility.ok_effects (okmg _ ‹_›)) rfl) (by omega) (fun _=>[]) (fun _ _=>True) [0,3] [0] 200000 rfl ?_;refine Ai ?_ (fun _ _ _ _ _=>TpX.runY [] [] ?_))|(apply lp_at 5 rfl;rename_i i _ _ _ _ hi;(have hk:i.toNat < b.abilities.length:=by (simp only [Lm] at *;omega));refine LpX.up (β:=Unit) 5 6 ((((b.abilities[i.toNat].effects.map GEffect.enc).length:Nat):Int)) (by first|omega|exact len62 (by first|assumption|exact okmr ‹_› ‹_› | exact okmg _ ‹_› | exact GAbility.ok_effects (okmg _ ‹_›)) rfl) (by omega) (fun _=>[]) (fun _ _=>True) [0,3,5] [0] 300000 rfl ?_;refine Ai ?_ (fun _ _ _ _ _=>TpX.runY [] [] ?_))|exact Ei () (Ai (trivial) (wk_slim rfl rfl rfl rfl))|exact Ai (by first|assumption|omega) (Ei () (Ai (trivial) (wk_slim rfl rfl rfl rfl)))|(apply call_f 110;refine call_x (r22token _ _ (by first|assumption|exact okmr ‹_› ‹_› | exact okmg _ ‹_› | exact GAbility.ok_effects (okmg _ ‹_›)) (by first|assumption|exact okmr ‹_› ‹_› | exact okmg _ ‹_› | exact GAbility.ok_effects (okmg _ ‹_›))) ⟨rfl,rfl,trivial⟩ (.inl rfl) (fun _ _=>?_))|fail)
theorem r22check (a:List GCard) (ha:a.length*176≤limB) (ma:∀ y∈a,GCard.ok y):∃ r:Int × Int,True∧Ct Tryz.prog 16 [.c (.t (.sl 17 (a.map GCard.enc)))] (tupE r) [] true:=by
 refine ct_x (Φ:=fun _=>True) lit_e (ctx_of Tryz.func16 rfl (enters_of Tryz.func16 (by kernel_rfl) rfl) tabOk (by kernel_rfl) rfl rfl (TpX.runY [] [] ?_))
 repeat' (first|(apply cond_p <;> intro _)|apply cond_n|(apply cS <;> intro _)|(refine leaf_x (_,_) (Ei [] (Ai rfl (Ai trivial (Ai rfl (Ai rfl trivial))))) trivial rfl)|(apply lp_at 4 rfl;refine LpX.up (β:=Unit) 4 4 ((((a.map GCard.enc).length:Nat):Int)) (by first|omega|exact len62 (by first|assumption|exact okmr ‹_› ‹_› | exact okmg _ ‹_›) rfl) (by omega) (fun _=>[]) (fun _ _=>True) [0] [] 200000 rfl ?_;refine Ai ?_ (fun _ _ _ _ _=>TpX.runY [] [] ?_))|exact Ei () (Ai (trivial) (wk_slim rfl rfl rfl rfl))|exact Ai (by first|assumption|omega) (Ei () (Ai (trivial) (wk_slim rfl rfl rfl rfl)))|(apply ix_map;(first|assumption|omega|(simp only [IntKind.wrap_i64,IntKind.wrap_u64,List.length_cons,List.length_nil];omega)|(simp only [Lm] at *;omega)|decide);(first|assumption|omega|(simp only [IntKind.wrap_i64,IntKind.wrap_u64,List.length_cons,List.length_nil];omega)|(simp only [Lm] at *;omega)|decide);intro _ _)|(apply call_f 43;refine call_x (r21is _ (by first|assumption|exact okmr ‹_› ‹_› | exact okmg _ ‹_›)) ⟨fL (GCard.enc _),trivial⟩ (.inl rfl) (fun _ _=>?_))|(apply call_f 44;refine call_x (r22find _ _ (by first|assumption|exact okmr ‹_› ‹_› | exact okmg _ ‹_›) (by first|assumption|exact okmr ‹_› ‹_› | exact okmg _ ‹_›)) ⟨rfl,rfl,trivial⟩ (.inl rfl) (fun _ _=>?_))|(apply call_f 45;refine call_x (r22creates _ _ (by first|assumption|exact okmr ‹_› ‹_› | exact okmg _ ‹_›) (by first|assumption|exact okmr ‹_› ‹_› | exact okmg _ ‹_›) (by first|assumption|exact okmr ‹_› ‹_› | exact okmg _ ‹_›)) ⟨rfl,fL (GCard.enc _),trivial⟩ (.inl rfl) (fun _ _=>?_))|fail)
theorem r26is_ (a:List GCard) (b:GState) (ha:a.length*176≤limB) (ma:∀ y∈a,GCard.ok y) (hb:b.ok):∃ r:Bool,(r=(isM opq ((a.length:Nat):Int) b))∧Ct Tryz.prog 12 [.c (.t (.sl 17 (a.map GCard.enc))),.agg (b.enc.map .t)] (AV.b r) [] true:=by
 have hb_:=hb
 obtain ⟨ob0,ob1,ob2,ob3,ob4,ob5,ob6,ob7,ob8,ob9,ob10,ob11,ob12⟩:=hb_
 refine ct_x (Φ:=fun (r:Bool)=>r=(isM opq ((a.length:Nat):Int) b)) lit_b (ctx_of Tryz.func12 rfl (enters_of Tryz.func12 (by kernel_rfl) rfl) tabOk (by kernel_rfl) rfl rfl (TpX.runY [] [] ?_))
 repeat' (first|(apply ix_k;(first|assumption|omega|(simp only [IntKind.wrap_i64,IntKind.wrap_u64,List.length_cons,List.length_nil];omega)|(simp only [Lm] at *;omega)|decide);(first|assumption|omega|(simp only [IntKind.wrap_i64,IntKind.wrap_u64,List.length_cons,List.length_nil];omega)|(simp only [Lm] at *;omega)|decide);intro _)|(apply cond_p <;> intro _)|(apply cond_ne <;> intro _)|apply cond_n|(apply cS <;> intro _)|(apply leaf_x;exact Ei [] (Ai rfl (Ai trivial rfl));exact (by first|contradiction|exact is_nE ‹_› ‹_› | exact is_nW (by first|exact isW_f1 ‹_› ‹_› | exact isW_f2 ‹_› ‹_›)|exact is_yes (isA_t ‹_› ‹_› ‹_› ‹_› ‹_›) (isB_t ‹_› ‹_› ‹_› ‹_› ‹_› ‹_›) ‹_› ‹_› (by first|exact isW_t1 ‹_› ‹_› | exact isW_t2 ‹_› ‹_›) (by simp [*])|exact is_nA (by first|exact isA_f1 ‹_› | exact isA_f2 ‹_› | exact isA_f3 ‹_› | exact isA_f4 ‹_› | exact isA_f5 ‹_›)|exact is_nB (by first|exact isB_f1 ‹_› | exact isB_f2 ‹_› | exact isB_f3 ‹_› | exact isB_f4 ‹_› | exact isB_f5 ‹_› | exact isB_f6 ‹_›));rfl)|(apply lp_at 6 rfl;refine LpX.up (β:=Unit) 6 5 ((((b.extra.map eI).length:Nat):Int)) (by first|omega|exact len62 (by first|assumption|exact okmr ‹_› ‹_› | exact okmg _ ‹_›) rfl) (by omega) (fun _=>[]) (fun i _=>Up (fun _=>plM b) b.extra i) [0,3] [0] 200000 rfl ?_;refine Ai ?_ (fun _ _ _ _ _=>TpX.runY [] [] ?_))|exact Ei () (Ai (by first|exact Up.zero|exact Up.step ‹_› ‹_› ‹_› (by simp [*])) (wk_slim rfl rfl rfl rfl))|exact Ai (by first|assumption|omega) (Ei () (Ai (by first|exact Up.zero|exact Up.step ‹_› ‹_› ‹_› (by simp [*])) (wk_slim rfl rfl rfl rfl)))|(apply call_f 37;refine cI (r26in _ _ _) ⟨rfl,rfl,rfl,trivial⟩ (.inl rfl) ?_)|(apply call_f 38;refine cI (r26players _ (by first|assumption|exact okmr ‹_› ‹_› | exact okmg _ ‹_›)) ⟨fL (GState.enc _),trivial⟩ (.inl rfl) ?_)|(apply call_f 39;refine cI (r26player _ _ (by first|assumption|exact okmr ‹_› ‹_› | exact okmg _ ‹_›)) ⟨fL (GState.enc _),rfl,trivial⟩ (.inl rfl) ?_)|(apply call_f 40;refine cI (r26objects _ _ (by first|assumption|exact okmr ‹_› ‹_› | exact okmg _ ‹_›) (by first|assumption|exact okmr ‹_› ‹_› | exact okmg _ ‹_›) (by first|assumption|exact okmr ‹_› ‹_› | exact okmg _ ‹_›)) ⟨rfl,fL (GState.enc _),trivial⟩ (.inl rfl) ?_)|(apply call_f 41;refine cI (r26stack _ ‹_› ‹_›) ⟨fL (GState.enc _),trivial⟩ (.inl rfl) ?_)|fail)
theorem r26is (a:List GCard) (b:GState) (ha:a.length*176≤limB) (ma:∀ y∈a,GCard.ok y) (hb:b.ok):Ct Tryz.prog 12 [.c (.t (.sl 17 (a.map GCard.enc))),.agg (b.enc.map .t)] (AV.b (isM opq ((a.length:Nat):Int) b)) [] true:=by
 obtain ⟨r,hr,h⟩:=r26is_ a b ha ma hb
 rw [hr] at h
 exact h
theorem wrap_add (a b:Int):IntKind.i64.wrap (clampM a+clampM b)=clampM a+clampM b:=by
 have:=clamp_range a
 have:=clamp_range b
 rw [IntKind.wrap_i64]
 omega
theorem wrap_sub (a b:Int):IntKind.i64.wrap (clampM a - clampM b)=clampM a - clampM b:=by
 have:=clamp_range a
 have:=clamp_range b
 rw [IntKind.wrap_i64]
 omega
theorem r01clamp_ (a:Int):∃ r:Int,(r=(clampM a))∧Ct Tryz.prog 134 [.c (.t (iv a))] (AV.i r) [] true:=by
 refine ct_x (Φ:=fun (r:Int)=>r=(clampM a)) lit_i (ctx_of Tryz.func134 rfl (enters_of Tryz.func134 (by kernel_rfl) rfl) tabOk (by kernel_rfl) rfl rfl (TpX.runY [] [] ?_))
 repeat' (first|(apply cond_p <;> intro _)|(apply leaf_x;exact Ei [] (Ai rfl (Ai trivial rfl));exact (by unfold clampM;(repeat' split) <;> omega);rfl)|fail)
theorem r01clamp (a:Int):Ct Tryz.prog 134 [.c (.t (iv a))] (AV.i (clampM a)) [] true:=by
 obtain ⟨r,hr,h⟩:=r01clamp_ a
 rw [hr] at h
 exact h
theorem r01add_ (a:Int) (b:Int):∃ r:Int,(r=(addM a b))∧Ct Tryz.prog 88 [.c (.t (iv a)),.c (.t (iv b))] (AV.i r) [] true:=by
 refine ct_x (Φ:=fun (r:Int)=>r=(addM a b)) lit_i (ctx_of Tryz.func88 rfl (enters_of Tryz.func88 (by kernel_rfl) rfl) tabOk (by kernel_rfl) rfl rfl (TpX.runY [] [] ?_))
 repeat' (first|(apply leaf_x;exact Ei [] (Ai rfl (Ai trivial rfl));exact (by unfold addM;rw [wrap_add]);rfl)|(apply call_f 134;refine cI (r01clamp _) ⟨rfl,trivial⟩ (.inl rfl) ?_)|fail)
theorem r01add (a:Int) (b:Int):Ct Tryz.prog 88 [.c (.t (iv a)),.c (.t (iv b))] (AV.i (addM a b)) [] true:=by
 obtain ⟨r,hr,h⟩:=r01add_ a b
 rw [hr] at h
 exact h
theorem r01sub_ (a:Int) (b:Int):∃ r:Int,(r=(subM a b))∧Ct Tryz.prog 89 [.c (.t (iv a)),.c (.t (iv b))] (AV.i r) [] true:=by
 refine ct_x (Φ:=fun (r:Int)=>r=(subM a b)) lit_i (ctx_of Tryz.func89 rfl (enters_of Tryz.func89 (by kernel_rfl) rfl) tabOk (by kernel_rfl) rfl rfl (TpX.runY [] [] ?_))
 repeat' (first|(apply leaf_x;exact Ei [] (Ai rfl (Ai trivial rfl));exact (by unfold subM;rw [wrap_sub]);rfl)|(apply call_f 134;refine cI (r01clamp _) ⟨rfl,trivial⟩ (.inl rfl) ?_)|fail)
theorem r01sub (a:Int) (b:Int):Ct Tryz.prog 89 [.c (.t (iv a)),.c (.t (iv b))] (AV.i (subM a b)) [] true:=by
 obtain ⟨r,hr,h⟩:=r01sub_ a b
 rw [hr] at h
 exact h
theorem numclamp_ (a:Int):∃ r:Int,(r=(clampM a))∧Ct Tryz.prog 126 [.c (.t (iv a))] (AV.i r) [] true:=by
 refine ct_x (Φ:=fun (r:Int)=>r=(clampM a)) lit_i (ctx_of Tryz.func126 rfl (enters_of Tryz.func126 (by kernel_rfl) rfl) tabOk (by kernel_rfl) rfl rfl (TpX.runY [] [] ?_))
 repeat' (first|(apply leaf_x;exact Ei [] (Ai rfl (Ai trivial rfl));exact (by unfold clampM;(repeat' split) <;> omega);rfl)|fail)
theorem numclamp (a:Int):Ct Tryz.prog 126 [.c (.t (iv a))] (AV.i (clampM a)) [] true:=by
 obtain ⟨r,hr,h⟩:=numclamp_ a
 rw [hr] at h
 exact h
theorem numadd_ (a:Int) (b:Int):∃ r:Int,(r=(addM a b))∧Ct Tryz.prog 73 [.c (.t (iv a)),.c (.t (iv b))] (AV.i r) [] true:=by
 refine ct_x (Φ:=fun (r:Int)=>r=(addM a b)) lit_i (ctx_of Tryz.func73 rfl (enters_of Tryz.func73 (by kernel_rfl) rfl) tabOk (by kernel_rfl) rfl rfl (TpX.runY [] [] ?_))
 repeat' (first|(apply leaf_x;exact Ei [] (Ai rfl (Ai trivial rfl));exact (by unfold addM;rw [wrap_add]);rfl)|(apply call_f 126;refine cI (numclamp _) ⟨rfl,trivial⟩ (.inl rfl) ?_)|fail)
theorem numadd (a:Int) (b:Int):Ct Tryz.prog 73 [.c (.t (iv a)),.c (.t (iv b))] (AV.i (addM a b)) [] true:=by
 obtain ⟨r,hr,h⟩:=numadd_ a b
 rw [hr] at h
 exact h
theorem numsub_ (a:Int) (b:Int):∃ r:Int,(r=(subM a b))∧Ct Tryz.prog 74 [.c (.t (iv a)),.c (.t (iv b))] (AV.i r) [] true:=by
 refine ct_x (Φ:=fun (r:Int)=>r=(subM a b)) lit_i (ctx_of Tryz.func74 rfl (enters_of Tryz.func74 (by kernel_rfl) rfl) tabOk (by kernel_rfl) rfl rfl (TpX.runY [] [] ?_))
 repeat' (first|(apply leaf_x;exact Ei [] (Ai rfl (Ai trivial rfl));exact (by unfold subM;rw [wrap_sub]);rfl)|(apply call_f 126;refine cI (numclamp _) ⟨rfl,trivial⟩ (.inl rfl) ?_)|fail)
theorem numsub (a:Int) (b:Int):Ct Tryz.prog 74 [.c (.t (iv a)),.c (.t (iv b))] (AV.i (subM a b)) [] true:=by
 obtain ⟨r,hr,h⟩:=numsub_ a b
 rw [hr] at h
 exact h
theorem cup_rev (c n:Int):cupM c n=if (0:Int) > addM c n then 0 else addM c n:=by
 unfold cupM
 by_cases h:addM c n > 0
 ·rw [if_pos h,if_neg (by omega)]
 ·by_cases h2:(0:Int) > addM c n
  ·rw [if_neg h,if_pos h2]
  ·rw [if_neg h,if_neg h2]
   omega
theorem r12add (c0 c1 c2 k n:Int):Ct Tryz.prog 93 [.agg [.t (iv c0),.t (iv c1),.t (iv c2)],.c (.t (iv k)),.c (.t (iv n))] (.agg [.t (iv (upC 0 k c0 n)),.t (iv (upC 1 k c1 n)),.t (iv (upC 2 k c2 n))]) [] true:=by
 refine Ct.litT (b:=false) ?_ rfl
 by_cases h0:k≥0
 ·by_cases h3:k < 3
  ·rcases (by omega:k=0∨k=1∨k=2) with rfl|rfl|rfl
   ·rw [show upC 0 0 c0 n=(if addM c0 n > 0 then addM c0 n else 0) from if_pos rfl,show upC 1 0 c1 n=c1 from if_neg (by decide),show upC 2 0 c2 n=c2 from if_neg (by decide)]
    refine ct_of Tryz.func93 rfl (enters_of Tryz.func93 (by kernel_rfl) rfl) tabOk (by kernel_rfl) rfl rfl rfl rfl fun w0 O _=>Tp.run [] ?_
    refine Ei 0 (Ai rfl (Ai (by decide) ?_))
    refine cI (r01add c0 n) ⟨rfl,rfl,trivial⟩ (.inl rfl) ?_
    refine Ei 0 (Ai rfl (Ai (by decide) ?_))
    refine Ei [] (Ai rfl (Ai trivial ?_))
    repeat' first|refine Ai ?_ ?_|exact rfl|exact trivial|exact Ei _ rfl|refine lN ?_|refine bS ?_|fail
   ·rw [show upC 0 1 c0 n=c0 from if_neg (by decide),show upC 1 1 c1 n=(if addM c1 n > 0 then addM c1 n else 0) from if_pos rfl,show upC 2 1 c2 n=c2 from if_neg (by decide)]
    refine ct_of Tryz.func93 rfl (enters_of Tryz.func93 (by kernel_rfl) rfl) tabOk (by kernel_rfl) rfl rfl rfl rfl fun w0 O _=>Tp.run [] ?_
    refine Ei 1 (Ai rfl (Ai (by decide) ?_))
    refine cI (r01add c1 n) ⟨rfl,rfl,trivial⟩ (.inl rfl) ?_
    refine Ei 1 (Ai rfl (Ai (by decide) ?_))
    refine Ei [] (Ai rfl (Ai trivial ?_))
    repeat' first|refine Ai ?_ ?_|exact rfl|exact trivial|exact Ei _ rfl|refine lN ?_|refine bS ?_|fail
   ·rw [show upC 0 2 c0 n=c0 from if_neg (by decide),show upC 1 2 c1 n=c1 from if_neg (by decide),show upC 2 2 c2 n=(if addM c2 n > 0 then addM c2 n else 0) from if_pos rfl]
    refine ct_of Tryz.func93 rfl (enters_of Tryz.func93 (by kernel_rfl) rfl) tabOk (by kernel_rfl) rfl rfl rfl rfl fun w0 O _=>Tp.run [] ?_
    refine Ei 2 (Ai rfl (Ai (by decide) ?_))
    refine cI (r01add c2 n) ⟨rfl,rfl,trivial⟩ (.inl rfl) ?_
    refine Ei 2 (Ai rfl (Ai (by decide) ?_))
    refine Ei [] (Ai rfl (Ai trivial ?_))
    repeat' first|refine Ai ?_ ?_|exact rfl|exact trivial|exact Ei _ rfl|refine lN ?_|refine bS ?_|fail
  ·rw [show upC 0 k c0 n=c0 from if_neg (by omega),show upC 1 k c1 n=c1 from if_neg (by omega),show upC 2 k c2 n=c2 from if_neg (by omega)]
   refine ct_of Tryz.func93 rfl (enters_of Tryz.func93 (by kernel_rfl) rfl) tabOk (by kernel_rfl) rfl rfl rfl rfl fun w0 O _=>Tp.run [] ?_
   refine cond_t (decide_eq_true h0) ?_
   refine cond_f (decide_eq_false h3) ?_
   refine Ei [] (Ai rfl (Ai trivial ?_))
   repeat' first|refine Ai ?_ ?_|exact rfl|exact trivial|exact Ei _ rfl|refine lN ?_|refine bS ?_|fail
 ·rw [show upC 0 k c0 n=c0 from if_neg (by omega),show upC 1 k c1 n=c1 from if_neg (by omega),show upC 2 k c2 n=c2 from if_neg (by omega)]
  refine ct_of Tryz.func93 rfl (enters_of Tryz.func93 (by kernel_rfl) rfl) tabOk (by kernel_rfl) rfl rfl rfl rfl fun w0 O _=>Tp.run [] ?_
  refine cond_f (decide_eq_false h0) ?_
  refine Ei [] (Ai rfl (Ai trivial ?_))
  repeat' first|refine Ai ?_ ?_|exact rfl|exact trivial|exact Ei _ rfl|refine lN ?_|refine bS ?_|fail
theorem cnt_add (c0 c1 c2 k n:Int):Ct Tryz.prog 76 [.agg [.t (iv c0),.t (iv c1),.t (iv c2)],.c (.t (iv k)),.c (.t (iv n))] (.agg [.t (iv (upC 0 k c0 n)),.t (iv (upC 1 k c1 n)),.t (iv (upC 2 k c2 n))]) [] true:=by
 refine Ct.litT (b:=false) ?_ rfl
 by_cases h0:k≥0
 ·by_cases h3:k < 3
  ·rcases (by omega:k=0∨k=1∨k=2) with rfl|rfl|rfl
   ·rw [show upC 0 0 c0 n=(if (0:Int) > addM c0 n then 0 else addM c0 n) from (if_pos rfl).trans (cup_rev _ _),show upC 1 0 c1 n=c1 from if_neg (by decide),show upC 2 0 c2 n=c2 from if_neg (by decide)]
    refine ct_of Tryz.func76 rfl (enters_of Tryz.func76 (by kernel_rfl) rfl) tabOk (by kernel_rfl) rfl rfl rfl rfl fun w0 O _=>Tp.run [] ?_
    refine Ei 0 (Ai rfl (Ai (by decide) ?_))
    refine cI (numadd c0 n) ⟨rfl,rfl,trivial⟩ (.inl rfl) ?_
    refine Ei 0 (Ai rfl (Ai (by decide) ?_))
    refine Ei [] (Ai rfl (Ai trivial ?_))
    repeat' first|refine Ai ?_ ?_|exact rfl|exact trivial|exact Ei _ rfl|refine lN ?_|refine bS ?_|fail
   ·rw [show upC 0 1 c0 n=c0 from if_neg (by decide),show upC 1 1 c1 n=(if (0:Int) > addM c1 n then 0 else addM c1 n) from (if_pos rfl).trans (cup_rev _ _),show upC 2 1 c2 n=c2 from if_neg (by decide)]
    refine ct_of Tryz.func76 rfl (enters_of Tryz.func76 (by kernel_rfl) rfl) tabOk (by kernel_rfl) rfl rfl rfl rfl fun w0 O _=>Tp.run [] ?_
    refine Ei 1 (Ai rfl (Ai (by decide) ?_))
    refine cI (numadd c1 n) ⟨rfl,rfl,trivial⟩ (.inl rfl) ?_
    refine Ei 1 (Ai rfl (Ai (by decide) ?_))
    refine Ei [] (Ai rfl (Ai trivial ?_))
    repeat' first|refine Ai ?_ ?_|exact rfl|exact trivial|exact Ei _ rfl|refine lN ?_|refine bS ?_|fail
   ·rw [show upC 0 2 c0 n=c0 from if_neg (by decide),show upC 1 2 c1 n=c1 from if_neg (by decide),show upC 2 2 c2 n=(if (0:Int) > addM c2 n then 0 else addM c2 n) from (if_pos rfl).trans (cup_rev _ _)]
    refine ct_of Tryz.func76 rfl (enters_of Tryz.func76 (by kernel_rfl) rfl) tabOk (by kernel_rfl) rfl rfl rfl rfl fun w0 O _=>Tp.run [] ?_
    refine Ei 2 (Ai rfl (Ai (by decide) ?_))
    refine cI (numadd c2 n) ⟨rfl,rfl,trivial⟩ (.inl rfl) ?_
    refine Ei 2 (Ai rfl (Ai (by decide) ?_))
    refine Ei [] (Ai rfl (Ai trivial ?_))
    repeat' first|refine Ai ?_ ?_|exact rfl|exact trivial|exact Ei _ rfl|refine lN ?_|refine bS ?_|fail
  ·rw [show upC 0 k c0 n=c0 from if_neg (by omega),show upC 1 k c1 n=c1 from if_neg (by omega),show upC 2 k c2 n=c2 from if_neg (by omega)]
   refine ct_of Tryz.func76 rfl (enters_of Tryz.func76 (by kernel_rfl) rfl) tabOk (by kernel_rfl) rfl rfl rfl rfl fun w0 O _=>Tp.run [] ?_
   refine cond_t (decide_eq_true h0) ?_
   refine cond_f (decide_eq_false h3) ?_
   refine Ei [] (Ai rfl (Ai trivial ?_))
   repeat' first|refine Ai ?_ ?_|exact rfl|exact trivial|exact Ei _ rfl|refine lN ?_|refine bS ?_|fail
 ·rw [show upC 0 k c0 n=c0 from if_neg (by omega),show upC 1 k c1 n=c1 from if_neg (by omega),show upC 2 k c2 n=c2 from if_neg (by omega)]
  refine ct_of Tryz.func76 rfl (enters_of Tryz.func76 (by kernel_rfl) rfl) tabOk (by kernel_rfl) rfl rfl rfl rfl fun w0 O _=>Tp.run [] ?_
  refine cond_f (decide_eq_false h0) ?_
  refine Ei [] (Ai rfl (Ai trivial ?_))
  repeat' first|refine Ai ?_ ?_|exact rfl|exact trivial|exact Ei _ rfl|refine lN ?_|refine bS ?_|fail
def arrE (p:Int × Int × Int):AV:=.agg [.t (iv p.1),.t (iv p.2.1),.t (iv p.2.2)]
theorem lit_a (p:Int × Int × Int):litT (arrE p)=true:=rfl
theorem r12sum_ (a0:Int) (a1:Int) (a2:Int) (b0:Int) (b1:Int) (b2:Int):∃ r:Int × Int × Int,(r=((cupM a0 b0,cupM a1 b1,cupM a2 b2)))∧Ct Tryz.prog 133 [.agg [.t (iv a0),.t (iv a1),.t (iv a2)],.agg [.t (iv b0),.t (iv b1),.t (iv b2)]] (arrE r) [] true:=by
 refine ct_x (Φ:=fun (r:Int × Int × Int)=>r=((cupM a0 b0,cupM a1 b1,cupM a2 b2))) lit_a (ctx_of Tryz.func133 rfl (enters_of Tryz.func133 (by kernel_rfl) rfl) tabOk (by kernel_rfl) rfl rfl (TpX.runY [] [] ?_))
 repeat' (first|(refine leaf_x (cupM a0 b0,cupM a1 b1,cupM a2 b2) (Ei [] (Ai rfl (Ai trivial ?_))) rfl rfl;(repeat' first|refine Ai ?_ ?_|exact rfl|exact trivial|exact Ei _ rfl|refine lN ?_|refine bS ?_|fail);done)|(apply lp_at 2 rfl;refine LpX.one 2 rfl (TpX.runY [] [] ?_))|(apply ix_n;(first|assumption|omega|(simp only [IntKind.wrap_i64];omega)|(simp only [Lm] at *;omega)|decide);(first|assumption|omega|(simp only [IntKind.wrap_i64];omega)|(simp only [Lm] at *;omega)|decide);intro _)|(apply call_f 93;refine cI (r12add _ _ _ _ _) ⟨⟨rfl,rfl,rfl,trivial⟩,rfl,rfl,trivial⟩ (.inl rfl) ?_)|fail)
theorem r12sum (a0:Int) (a1:Int) (a2:Int) (b0:Int) (b1:Int) (b2:Int):Ct Tryz.prog 133 [.agg [.t (iv a0),.t (iv a1),.t (iv a2)],.agg [.t (iv b0),.t (iv b1),.t (iv b2)]] (arrE ((cupM a0 b0,cupM a1 b1,cupM a2 b2))) [] true:=by
 obtain ⟨r,hr,h⟩:=r12sum_ a0 a1 a2 b0 b1 b2
 rw [hr] at h
 exact h
theorem cnt_sum_ (a0:Int) (a1:Int) (a2:Int) (b0:Int) (b1:Int) (b2:Int):∃ r:Int × Int × Int,(r=((cupM a0 b0,cupM a1 b1,cupM a2 b2)))∧Ct Tryz.prog 124 [.agg [.t (iv a0),.t (iv a1),.t (iv a2)],.agg [.t (iv b0),.t (iv b1),.t (iv b2)]] (arrE r) [] true:=by
 refine ct_x (Φ:=fun (r:Int × Int × Int)=>r=((cupM a0 b0,cupM a1 b1,cupM a2 b2))) lit_a (ctx_of Tryz.func124 rfl (enters_of Tryz.func124 (by kernel_rfl) rfl) tabOk (by kernel_rfl) rfl rfl (TpX.runY [] [] ?_))
 repeat' (first|(refine leaf_x (cupM a0 b0,cupM a1 b1,cupM a2 b2) (Ei [] (Ai rfl (Ai trivial ?_))) rfl rfl;(repeat' first|refine Ai ?_ ?_|exact rfl|exact trivial|exact Ei _ rfl|refine lN ?_|refine bS ?_|fail);done)|(apply lp_at 2 rfl;refine LpX.one 2 rfl (TpX.runY [] [] ?_))|(apply call_f 76;refine cI (cnt_add _ _ _ _ _) ⟨⟨rfl,rfl,rfl,trivial⟩,rfl,rfl,trivial⟩ (.inl rfl) ?_)|(refine Ei 0 (Ei _ (Ai rfl (Ai (Nb rfl) (Ai rfl ?_)))))|(refine Ei 1 (Ei _ (Ai rfl (Ai (Nb rfl) (Ai rfl ?_)))))|(refine Ei 2 (Ei _ (Ai rfl (Ai (Nb rfl) (Ai rfl ?_)))))|fail)
theorem cnt_sum (a0:Int) (a1:Int) (a2:Int) (b0:Int) (b1:Int) (b2:Int):Ct Tryz.prog 124 [.agg [.t (iv a0),.t (iv a1),.t (iv a2)],.agg [.t (iv b0),.t (iv b1),.t (iv b2)]] (arrE ((cupM a0 b0,cupM a1 b1,cupM a2 b2))) [] true:=by
 obtain ⟨r,hr,h⟩:=cnt_sum_ a0 a1 a2 b0 b1 b2
 rw [hr] at h
 exact h
end Go.Proofs.YtmloamomcbmfhaaGreat
end
section
namespace Go.Proofs.YtmloamomcbmfhaaGreat
open Go Cg Go.RowKit
theorem beq_f {a k j:Int} (h:a=k) (hn:k≠j):(a==j)=false:=by rw [h];simpa using hn
theorem beq_t {a k:Int} (h:a=k):(a==k)=true:=by rw [h];simp
theorem r33arrive (s:GState) (id:Int) (e:GEvent) (h:s.ok):Ct Tryz.prog 86 [.agg (s.enc.map .t),.c (.t (iv id)),.agg (e.enc.map .t)] (.agg ((arrM s id e).enc.map .t)) [] false:=by
 have hf:=find_ct s id h.2.2.1
 generalize hM:arrM s id e=M
 unfold arrM at hM
 refine ct_of Tryz.func86 rfl (enters_of Tryz.func86 (by kernel_rfl) rfl) tabOk (by kernel_rfl) rfl rfl rfl rfl fun w0 O _=>Tp.run [3,4] ?_
 refine cI hf ⟨fL s.enc,rfl,trivial⟩ (.inr rfl) ?_
 refine cond_n (cS (fun hh=>?_) (fun hh=>?_))
 ·rw [if_pos hh] at hM
  subst hM
  refine Tp.run [] ?_
  refine cI (r12sum 0 0 0 e.extra0 e.extra1 e.extra2) ⟨⟨rfl,rfl,rfl,trivial⟩,⟨rfl,rfl,rfl,trivial⟩,trivial⟩ (.inr rfl) ?_
  refine cI (put_ct s (entM e (findM s.objects id)) h) ⟨fL s.enc,?_,trivial⟩ (.inr rfl) ?_
  ·repeat' first|refine Ai ?_ ?_|exact rfl|exact trivial|exact Ei _ rfl|refine lN ?_|refine bS ?_|fail
  refine Ei [] (Ai rfl (Ai ?_ ?_))
  all_goals repeat' first|refine Ai ?_ ?_|exact rfl|exact trivial|exact Ei _ rfl|refine lN ?_|refine bS ?_|fail
 ·rw [if_neg (by rw [show hasM s.objects id=false from hh];decide)] at hM
  subst hM
  refine Tp.run [] ?_
  refine Ei [] (Ai rfl (Ai ?_ ?_))
  all_goals repeat' first|refine Ai ?_ ?_|exact rfl|exact trivial|exact Ei _ rfl|refine lN ?_|refine bS ?_|fail
theorem r33with (s:GState) (p:Int) (x:GPlayer) (h:s.ok) (hp:0≤p∧p < s.players.length):Ct Tryz.prog 87 [.agg (s.enc.map .t),.c (.t (iv p)),.agg (x.enc.map .t)] (.agg (({ s with players:=s.players.set p.toNat x }:GState).enc.map .t)) [] false:=by
 have h1:=h.1
 obtain ⟨n,rfl⟩:∃ n:Nat,p=n:=⟨p.toNat,by omega⟩
 have hn:n < (s.players.map GPlayer.enc).length:=by rw [Lm];omega
 refine ct_of Tryz.func87 rfl (enters_of Tryz.func87 (by kernel_rfl) rfl) tabOk (by kernel_rfl) rfl rfl rfl rfl fun w0 O _=>Tp.run [] ?_
 refine Ai (.inl rfl) (Ai ?_ (Ai ?_ ?_))
 ·rw [Lm]
  exact Nat.le_trans h1 (Nb rfl)
 ·rw [Lm]
  have:=h1
  unfold limB at this
  omega
 refine Ei n (Ai rfl (Ai hn ?_))
 have hlt:n < s.players.length:=by omega
 refine Ei (s.players[n].enc) (Ai (map_get _ _ n hlt) (Ai (Nb rfl) ?_))
 refine Ei [] (Ai rfl (Ai ?_ ?_))
 ·repeat' first|refine Ai ?_ ?_|exact rfl|exact trivial|exact Ei _ rfl|refine lN ?_|refine bS ?_|fail
 ·repeat' first|refine Ai ?_ ?_|exact rfl|exact trivial|exact Ei _ rfl|refine lN ?_|refine bS ?_|fail
  exact congrArg (Tr.sl 14) (by rw [List.map_set];rfl)
theorem take_snoc {α:Type} (l:List α) (f:α→List Tr) (k:Nat) (hk:k < l.length) (x:List Tr) (hx:x=f l[k]):(l.take k).map f++[x]=(l.take (k+1)).map f:=by
 rw [hx]
 exact take_succ_map l f k hk
theorem r33unc (s:GState) (k:Int) (h:s.ok):Ct Tryz.prog 84 [.agg (s.enc.map .t),.c (.t (iv k))] (.agg ((uncM s k).enc.map .t)) [] false:=by
 have ho:=h.2.2.1
 refine ct_of Tryz.func84 rfl (enters_of Tryz.func84 (by kernel_rfl) rfl) tabOk (by kernel_rfl) rfl rfl rfl rfl fun w0 O _=>Tp.run [9] ?_
 refine Tp.loop (fun i:Nat=>⟨[(1,.c (.t (iv k))),(2,.ptr 0 0),(4,.ptr 128 0),(5,.c (.row 9000 0)),(6,AV.i i)],[(0,s.enc.map .t),(128,List.replicate 19 .bot)],[(9000,⟨49,19,0,(s.objects.take i).map (fun o=>(uncO k o).enc),none⟩)],10000⟩) (fun i=>i≤s.objects.length) (fun i=>s.objects.length - i) 0 ?_ (Nat.zero_le _) ?_
 ·refine wk_of [] rfl rfl ?_ ?_ ?_
  all_goals repeat' first|refine Ai ?_ ?_|exact rfl|exact trivial|exact Ei _ rfl|refine lN ?_|refine bS ?_|fail
 rintro i hi
 refine Tp.run [5,7,8,9] ?_
 refine cS (fun hc=>?_) (fun hc=>?_)
 ·have hlt:=len_lt hc
  refine Tp.run [7,8] ?_
  refine Ei i (Ei _ (Ai rfl (Ai (map_get _ _ i hlt) ?_)))
  refine cS (fun hk=>?_) (fun hk=>?_)
  ·refine Tp.run [8] ?_
   refine Tp.run [] ?_
   refine Ai (.inl rfl) (Ai (take_bound s.objects _ i hlt _ 128 (by decide) ho) (Ai (take_bound2 s.objects _ i hlt _ 128 (by decide) ho) ?_))
   refine Ei (i+1) (Ai (show i+1≤_ by omega) (Ai (show s.objects.length - (i+1) < s.objects.length - i by omega) ?_))
   refine wk_of [(9000,9000)] rfl rfl ?_ ?_ ?_
   ·repeat' first|refine Ai ?_ ?_|exact rfl|exact trivial|exact Ei _ rfl|refine lN ?_|refine bS ?_|fail
    exact succ_eq i hlt 128 (by decide) ho
   ·repeat' first|refine Ai ?_ ?_|exact rfl|exact trivial|exact Ei _ rfl|refine lN ?_|refine bS ?_|fail
   ·repeat' first|refine Ai ?_ ?_|exact rfl|exact trivial|exact Ei _ rfl|refine lN ?_|refine bS ?_|fail
    refine take_snoc s.objects (fun o=>(uncO k o).enc) i hlt _ ?_
    unfold uncO
    rw [if_pos (show (s.objects[i].blocks==k)=true from hk)]
    rfl
  ·refine Tp.run [] ?_
   refine Ai (.inl rfl) (Ai (take_bound s.objects _ i hlt _ 128 (by decide) ho) (Ai (take_bound2 s.objects _ i hlt _ 128 (by decide) ho) ?_))
   refine Ei (i+1) (Ai (show i+1≤_ by omega) (Ai (show s.objects.length - (i+1) < s.objects.length - i by omega) ?_))
   refine wk_of [(9000,9000)] rfl rfl ?_ ?_ ?_
   ·repeat' first|refine Ai ?_ ?_|exact rfl|exact trivial|exact Ei _ rfl|refine lN ?_|refine bS ?_|fail
    exact succ_eq i hlt 128 (by decide) ho
   ·repeat' first|refine Ai ?_ ?_|exact rfl|exact trivial|exact Ei _ rfl|refine lN ?_|refine bS ?_|fail
   ·repeat' first|refine Ai ?_ ?_|exact rfl|exact trivial|exact Ei _ rfl|refine lN ?_|refine bS ?_|fail
    refine take_snoc s.objects (fun o=>(uncO k o).enc) i hlt _ ?_
    unfold uncO
    rw [if_neg (by rw [show (s.objects[i].blocks==k)=false from hk];decide)]
    rfl
 ·have hi2:=len_ge hc hi
  subst hi2
  refine Tp.run [] ?_
  refine Ei [] (Ai rfl (Ai ?_ ?_))
  ·repeat' first|refine Ai ?_ ?_|exact rfl|exact trivial|exact Ei _ rfl|refine lN ?_|refine bS ?_|fail
  ·repeat' first|refine Ai ?_ ?_|exact rfl|exact trivial|exact Ei _ rfl|refine lN ?_|refine bS ?_|fail
   exact congrArg (Tr.sl 19) (by rw [List.take_length];exact (List.map_map (f:=uncO k) (g:=GObject.enc) (l:=s.objects)))
end Go.Proofs.YtmloamomcbmfhaaGreat
end
