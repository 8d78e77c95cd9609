/- Parts of the proof, joined: The program's records as structures, and their trees; Evaluation on trees: rows given up; contracts seen otherwise. No program in sight; Evaluation on trees: what a function returns where nobody says it ahead. No program in sight; Evaluation on trees: from the code of a function that writes what is the caller's to its contract. No program in sight; Evaluation on trees: lists in the elements of a row, taken out as rows and put back. No program in sight; Chapter 25: the shapes of the types; Chapter 25: slices.Clone at every element type of the states; The program's zones, on trees: copies of lists; Chapter 03: Minus of the program, on trees; Chapter 25: what the functions compute, on records. No program in sight; What the reference asks of a state, on records. No program in sight; Valid states, as facts. No program in sight; Chapter 25, on trees: copies of the reference; Chapter 25, on trees: Copy of the reference; Chapter 25, on trees: the reference finds, puts, lists; Chapter 25, on trees: the reference's lists; Chapter 25, on trees: Put of the reference; Chapter 25, on trees: Set of the reference; Chapter 25, on trees: a new object, a moved object; Chapter 25, on trees: an object removed; Chapter 25, on trees: Move of the reference; Chapter 25, on trees: Make of the reference; Move whole; Chapters 32 and 33: what the functions compute, on records. No program in sight; Valid states: what changes keep them valid. No program in sight; Chapter 33: moves as the program and as the. -/
import Derived.Test.YtmloamomcbmfhaaGreatNB
import Derived.Test.YtmloamomcbmfhaaGreatProg
import Derived.WalkLawsBesides
import Derived.WalkSpells
import Derived.WalkSmall
import Derived.BigQuiet
import Derived.Deep.MidRow
import Derived.Lib.Hide
import Derived.Shelf.Abstract
import Derived.Lib.SliceRun
set_option maxRecDepth 100000
set_option maxHeartbeats 4000000
section
namespace Cg
open Go
structure GPlayer where
 life:Int
 venom:Int
 lands:Int
 pool0:Int
 pool1:Int
 pool2:Int
 pool3:Int
 pool4:Int
 pool5:Int
 failed:Bool
 lost:Bool
 library:List Int
 hand:List Int
 graveyard:List Int
def GPlayer.enc (x:GPlayer):List Tr:=[iv x.life,iv x.venom,iv x.lands,iv x.pool0,iv x.pool1,iv x.pool2,iv x.pool3,iv x.pool4,iv x.pool5,bv x.failed,bv x.lost,.sl 1 (x.library.map eI),.sl 1 (x.hand.map eI),.sl 1 (x.graveyard.map eI)]
def GPlayer.ks:List K:=[.lit .int,.lit .int,.lit .int,.lit .int,.lit .int,.lit .int,.lit .int,.lit .int,.lit .int,.lit .bool,.lit .bool,.sl [.lit .int] 8,.sl [.lit .int] 8,.sl [.lit .int] 8]
def GPlayer.ok (x:GPlayer):Prop:=(x.library.length*8≤limB)∧(x.hand.length*8≤limB)∧(x.graveyard.length*8≤limB)
theorem GPlayer.ok_library {x:GPlayer} (h:x.ok):x.library.length*8≤limB:=h.1
theorem GPlayer.ok_hand {x:GPlayer} (h:x.ok):x.hand.length*8≤limB:=h.2.1
theorem GPlayer.ok_graveyard {x:GPlayer} (h:x.ok):x.graveyard.length*8≤limB:=h.2.2
theorem GPlayer.of_fit (ts:List Tr) (h:FitS GPlayer.ks ts):∃ x:GPlayer,x.ok∧ts=x.enc:=by
 unfold GPlayer.ks at h
 obtain ⟨_,_,rfl,k1,q1⟩:=fitS_cons.1 h
 obtain ⟨a1,rfl⟩:=fitK_int.1 k1
 obtain ⟨_,_,rfl,k2,q2⟩:=fitS_cons.1 q1
 obtain ⟨a2,rfl⟩:=fitK_int.1 k2
 obtain ⟨_,_,rfl,k3,q3⟩:=fitS_cons.1 q2
 obtain ⟨a3,rfl⟩:=fitK_int.1 k3
 obtain ⟨_,_,rfl,k4,q4⟩:=fitS_cons.1 q3
 obtain ⟨a4,rfl⟩:=fitK_int.1 k4
 obtain ⟨_,_,rfl,k5,q5⟩:=fitS_cons.1 q4
 obtain ⟨a5,rfl⟩:=fitK_int.1 k5
 obtain ⟨_,_,rfl,k6,q6⟩:=fitS_cons.1 q5
 obtain ⟨a6,rfl⟩:=fitK_int.1 k6
 obtain ⟨_,_,rfl,k7,q7⟩:=fitS_cons.1 q6
 obtain ⟨a7,rfl⟩:=fitK_int.1 k7
 obtain ⟨_,_,rfl,k8,q8⟩:=fitS_cons.1 q7
 obtain ⟨a8,rfl⟩:=fitK_int.1 k8
 obtain ⟨_,_,rfl,k9,q9⟩:=fitS_cons.1 q8
 obtain ⟨a9,rfl⟩:=fitK_int.1 k9
 obtain ⟨_,_,rfl,k10,q10⟩:=fitS_cons.1 q9
 obtain ⟨a10,rfl⟩:=fitK_bool.1 k10
 obtain ⟨_,_,rfl,k11,q11⟩:=fitS_cons.1 q10
 obtain ⟨a11,rfl⟩:=fitK_bool.1 k11
 obtain ⟨_,_,rfl,k12,q12⟩:=fitS_cons.1 q11
 obtain ⟨_,rfl,hb12,hc12⟩:=fitK_sl.1 k12
 obtain ⟨l12,rfl,ho12⟩:=fitS_list int_of_fit hc12
 rw [Lm] at hb12
 obtain ⟨_,_,rfl,k13,q13⟩:=fitS_cons.1 q12
 obtain ⟨_,rfl,hb13,hc13⟩:=fitK_sl.1 k13
 obtain ⟨l13,rfl,ho13⟩:=fitS_list int_of_fit hc13
 rw [Lm] at hb13
 obtain ⟨_,_,rfl,k14,q14⟩:=fitS_cons.1 q13
 obtain ⟨_,rfl,hb14,hc14⟩:=fitK_sl.1 k14
 obtain ⟨l14,rfl,ho14⟩:=fitS_list int_of_fit hc14
 rw [Lm] at hb14
 obtain rfl:=fitS_nil.1 q14
 exact ⟨⟨a1,a2,a3,a4,a5,a6,a7,a8,a9,a10,a11,l12,l13,l14⟩,⟨hb12,hb13,hb14⟩,rfl⟩
structure GObject where
 id:Int
 card:Int
 owner:Int
 control:Int
 zone:Int
 token:Bool
 tapped:Bool
 sick:Bool
 deadly:Bool
 damage:Int
 counters0:Int
 counters1:Int
 counters2:Int
 stamp:Int
 copy:Int
 attack:Int
 blocked:Bool
 blocks:Int
 shield:Int
def GObject.enc (x:GObject):List Tr:=[iv x.id,iv x.card,iv x.owner,iv x.control,iv x.zone,bv x.token,bv x.tapped,bv x.sick,bv x.deadly,iv x.damage,iv x.counters0,iv x.counters1,iv x.counters2,iv x.stamp,iv x.copy,iv x.attack,bv x.blocked,iv x.blocks,iv x.shield]
def GObject.ks:List K:=[.lit .int,.lit .int,.lit .int,.lit .int,.lit .int,.lit .bool,.lit .bool,.lit .bool,.lit .bool,.lit .int,.lit .int,.lit .int,.lit .int,.lit .int,.lit .int,.lit .int,.lit .bool,.lit .int,.lit .int]
def GObject.ok (_:GObject):Prop:=True
theorem GObject.of_fit (ts:List Tr) (h:FitS GObject.ks ts):∃ x:GObject,x.ok∧ts=x.enc:=by
 unfold GObject.ks at h
 obtain ⟨_,_,rfl,k1,q1⟩:=fitS_cons.1 h
 obtain ⟨a1,rfl⟩:=fitK_int.1 k1
 obtain ⟨_,_,rfl,k2,q2⟩:=fitS_cons.1 q1
 obtain ⟨a2,rfl⟩:=fitK_int.1 k2
 obtain ⟨_,_,rfl,k3,q3⟩:=fitS_cons.1 q2
 obtain ⟨a3,rfl⟩:=fitK_int.1 k3
 obtain ⟨_,_,rfl,k4,q4⟩:=fitS_cons.1 q3
 obtain ⟨a4,rfl⟩:=fitK_int.1 k4
 obtain ⟨_,_,rfl,k5,q5⟩:=fitS_cons.1 q4
 obtain ⟨a5,rfl⟩:=fitK_int.1 k5
 obtain ⟨_,_,rfl,k6,q6⟩:=fitS_cons.1 q5
 obtain ⟨a6,rfl⟩:=fitK_bool.1 k6
 obtain ⟨_,_,rfl,k7,q7⟩:=fitS_cons.1 q6
 obtain ⟨a7,rfl⟩:=fitK_bool.1 k7
 obtain ⟨_,_,rfl,k8,q8⟩:=fitS_cons.1 q7
 obtain ⟨a8,rfl⟩:=fitK_bool.1 k8
 obtain ⟨_,_,rfl,k9,q9⟩:=fitS_cons.1 q8
 obtain ⟨a9,rfl⟩:=fitK_bool.1 k9
 obtain ⟨_,_,rfl,k10,q10⟩:=fitS_cons.1 q9
 obtain ⟨a10,rfl⟩:=fitK_int.1 k10
 obtain ⟨_,_,rfl,k11,q11⟩:=fitS_cons.1 q10
 obtain ⟨a11,rfl⟩:=fitK_int.1 k11
 obtain ⟨_,_,rfl,k12,q12⟩:=fitS_cons.1 q11
 obtain ⟨a12,rfl⟩:=fitK_int.1 k12
 obtain ⟨_,_,rfl,k13,q13⟩:=fitS_cons.1 q12
 obtain ⟨a13,rfl⟩:=fitK_int.1 k13
 obtain ⟨_,_,rfl,k14,q14⟩:=fitS_cons.1 q13
 obtain ⟨a14,rfl⟩:=fitK_int.1 k14
 obtain ⟨_,_,rfl,k15,q15⟩:=fitS_cons.1 q14
 obtain ⟨a15,rfl⟩:=fitK_int.1 k15
 obtain ⟨_,_,rfl,k16,q16⟩:=fitS_cons.1 q15
 obtain ⟨a16,rfl⟩:=fitK_int.1 k16
 obtain ⟨_,_,rfl,k17,q17⟩:=fitS_cons.1 q16
 obtain ⟨a17,rfl⟩:=fitK_bool.1 k17
 obtain ⟨_,_,rfl,k18,q18⟩:=fitS_cons.1 q17
 obtain ⟨a18,rfl⟩:=fitK_int.1 k18
 obtain ⟨_,_,rfl,k19,q19⟩:=fitS_cons.1 q18
 obtain ⟨a19,rfl⟩:=fitK_int.1 k19
 obtain rfl:=fitS_nil.1 q19
 exact ⟨⟨a1,a2,a3,a4,a5,a6,a7,a8,a9,a10,a11,a12,a13,a14,a15,a16,a17,a18,a19⟩,trivial,rfl⟩
structure GBound where
 kind:Int
 n:Int
def GBound.enc (x:GBound):List Tr:=[iv x.kind,iv x.n]
def GBound.ks:List K:=[.lit .int,.lit .int]
def GBound.ok (_:GBound):Prop:=True
theorem GBound.of_fit (ts:List Tr) (h:FitS GBound.ks ts):∃ x:GBound,x.ok∧ts=x.enc:=by
 unfold GBound.ks at h
 obtain ⟨_,_,rfl,k1,q1⟩:=fitS_cons.1 h
 obtain ⟨a1,rfl⟩:=fitK_int.1 k1
 obtain ⟨_,_,rfl,k2,q2⟩:=fitS_cons.1 q1
 obtain ⟨a2,rfl⟩:=fitK_int.1 k2
 obtain rfl:=fitS_nil.1 q2
 exact ⟨⟨a1,a2⟩,trivial,rfl⟩
structure GFilter where
 zone:Int
 who:Int
 self:Int
 types:Int
 notTypes:Int
 colors:Int
 notColors:Int
 sub:ByteArray
 keys:Int
 tap:Int
 power:GBound
 tough:GBound
 value:GBound
def GFilter.enc (x:GFilter):List Tr:=[iv x.zone,iv x.who,iv x.self,iv x.types,iv x.notTypes,iv x.colors,iv x.notColors,sv x.sub,iv x.keys,iv x.tap,iv x.power.kind,iv x.power.n,iv x.tough.kind,iv x.tough.n,iv x.value.kind,iv x.value.n]
def GFilter.ks:List K:=[.lit .int,.lit .int,.lit .int,.lit .int,.lit .int,.lit .int,.lit .int,.lit .str,.lit .int,.lit .int]++(GBound.ks++(GBound.ks++(GBound.ks)))
def GFilter.ok (x:GFilter):Prop:=(x.power.ok)∧(x.tough.ok)∧(x.value.ok)
theorem GFilter.of_fit (ts:List Tr) (h:FitS GFilter.ks ts):∃ x:GFilter,x.ok∧ts=x.enc:=by
 unfold GFilter.ks at h
 obtain ⟨_,_,rfl,g0,h1⟩:=fitS_append.1 h
 obtain ⟨_,_,rfl,k1,q1⟩:=fitS_cons.1 g0
 obtain ⟨a1,rfl⟩:=fitK_int.1 k1
 obtain ⟨_,_,rfl,k2,q2⟩:=fitS_cons.1 q1
 obtain ⟨a2,rfl⟩:=fitK_int.1 k2
 obtain ⟨_,_,rfl,k3,q3⟩:=fitS_cons.1 q2
 obtain ⟨a3,rfl⟩:=fitK_int.1 k3
 obtain ⟨_,_,rfl,k4,q4⟩:=fitS_cons.1 q3
 obtain ⟨a4,rfl⟩:=fitK_int.1 k4
 obtain ⟨_,_,rfl,k5,q5⟩:=fitS_cons.1 q4
 obtain ⟨a5,rfl⟩:=fitK_int.1 k5
 obtain ⟨_,_,rfl,k6,q6⟩:=fitS_cons.1 q5
 obtain ⟨a6,rfl⟩:=fitK_int.1 k6
 obtain ⟨_,_,rfl,k7,q7⟩:=fitS_cons.1 q6
 obtain ⟨a7,rfl⟩:=fitK_int.1 k7
 obtain ⟨_,_,rfl,k8,q8⟩:=fitS_cons.1 q7
 obtain ⟨a8,rfl⟩:=fitK_str.1 k8
 obtain ⟨_,_,rfl,k9,q9⟩:=fitS_cons.1 q8
 obtain ⟨a9,rfl⟩:=fitK_int.1 k9
 obtain ⟨_,_,rfl,k10,q10⟩:=fitS_cons.1 q9
 obtain ⟨a10,rfl⟩:=fitK_int.1 k10
 obtain rfl:=fitS_nil.1 q10
 obtain ⟨_,_,rfl,g1,h2⟩:=fitS_append.1 h1
 obtain ⟨y1,oy1,rfl⟩:=GBound.of_fit _ g1
 obtain ⟨_,_,rfl,g2,h3⟩:=fitS_append.1 h2
 obtain ⟨y2,oy2,rfl⟩:=GBound.of_fit _ g2
 obtain ⟨y3,oy3,rfl⟩:=GBound.of_fit _ h3
 exact ⟨⟨a1,a2,a3,a4,a5,a6,a7,a8,a9,a10,y1,y2,y3⟩,⟨oy1,oy2,oy3⟩,rfl⟩
structure GMod where
 kind:Int
 n:Int
 m:Int
 sub:ByteArray
 filter:GFilter
def GMod.enc (x:GMod):List Tr:=[iv x.kind,iv x.n,iv x.m,sv x.sub,iv x.filter.zone,iv x.filter.who,iv x.filter.self,iv x.filter.types,iv x.filter.notTypes,iv x.filter.colors,iv x.filter.notColors,sv x.filter.sub,iv x.filter.keys,iv x.filter.tap,iv x.filter.power.kind,iv x.filter.power.n,iv x.filter.tough.kind,iv x.filter.tough.n,iv x.filter.value.kind,iv x.filter.value.n]
def GMod.ks:List K:=[.lit .int,.lit .int,.lit .int,.lit .str]++(GFilter.ks)
def GMod.ok (x:GMod):Prop:=(x.filter.ok)
theorem GMod.of_fit (ts:List Tr) (h:FitS GMod.ks ts):∃ x:GMod,x.ok∧ts=x.enc:=by
 unfold GMod.ks at h
 obtain ⟨_,_,rfl,g0,h1⟩:=fitS_append.1 h
 obtain ⟨_,_,rfl,k1,q1⟩:=fitS_cons.1 g0
 obtain ⟨a1,rfl⟩:=fitK_int.1 k1
 obtain ⟨_,_,rfl,k2,q2⟩:=fitS_cons.1 q1
 obtain ⟨a2,rfl⟩:=fitK_int.1 k2
 obtain ⟨_,_,rfl,k3,q3⟩:=fitS_cons.1 q2
 obtain ⟨a3,rfl⟩:=fitK_int.1 k3
 obtain ⟨_,_,rfl,k4,q4⟩:=fitS_cons.1 q3
 obtain ⟨a4,rfl⟩:=fitK_str.1 k4
 obtain rfl:=fitS_nil.1 q4
 obtain ⟨y1,oy1,rfl⟩:=GFilter.of_fit _ h1
 exact ⟨⟨a1,a2,a3,a4,y1⟩,oy1,rfl⟩
structure GCost where
 generic:Int
 x:Int
 color0:Int
 color1:Int
 color2:Int
 color3:Int
 color4:Int
def GCost.enc (x:GCost):List Tr:=[iv x.generic,iv x.x,iv x.color0,iv x.color1,iv x.color2,iv x.color3,iv x.color4]
def GCost.ks:List K:=[.lit .int,.lit .int,.lit .int,.lit .int,.lit .int,.lit .int,.lit .int]
def GCost.ok (_:GCost):Prop:=True
theorem GCost.of_fit (ts:List Tr) (h:FitS GCost.ks ts):∃ x:GCost,x.ok∧ts=x.enc:=by
 unfold GCost.ks at h
 obtain ⟨_,_,rfl,k1,q1⟩:=fitS_cons.1 h
 obtain ⟨a1,rfl⟩:=fitK_int.1 k1
 obtain ⟨_,_,rfl,k2,q2⟩:=fitS_cons.1 q1
 obtain ⟨a2,rfl⟩:=fitK_int.1 k2
 obtain ⟨_,_,rfl,k3,q3⟩:=fitS_cons.1 q2
 obtain ⟨a3,rfl⟩:=fitK_int.1 k3
 obtain ⟨_,_,rfl,k4,q4⟩:=fitS_cons.1 q3
 obtain ⟨a4,rfl⟩:=fitK_int.1 k4
 obtain ⟨_,_,rfl,k5,q5⟩:=fitS_cons.1 q4
 obtain ⟨a5,rfl⟩:=fitK_int.1 k5
 obtain ⟨_,_,rfl,k6,q6⟩:=fitS_cons.1 q5
 obtain ⟨a6,rfl⟩:=fitK_int.1 k6
 obtain ⟨_,_,rfl,k7,q7⟩:=fitS_cons.1 q6
 obtain ⟨a7,rfl⟩:=fitK_int.1 k7
 obtain rfl:=fitS_nil.1 q7
 exact ⟨⟨a1,a2,a3,a4,a5,a6,a7⟩,trivial,rfl⟩
structure GPrice where
 mana:GCost
 tap:Bool
 sacrifice:Bool
 life:Int
def GPrice.enc (x:GPrice):List Tr:=[iv x.mana.generic,iv x.mana.x,iv x.mana.color0,iv x.mana.color1,iv x.mana.color2,iv x.mana.color3,iv x.mana.color4,bv x.tap,bv x.sacrifice,iv x.life]
def GPrice.ks:List K:=GCost.ks++([.lit .bool,.lit .bool,.lit .int])
def GPrice.ok (x:GPrice):Prop:=(x.mana.ok)
theorem GPrice.of_fit (ts:List Tr) (h:FitS GPrice.ks ts):∃ x:GPrice,x.ok∧ts=x.enc:=by
 unfold GPrice.ks at h
 obtain ⟨_,_,rfl,g0,h1⟩:=fitS_append.1 h
 obtain ⟨y0,oy0,rfl⟩:=GCost.of_fit _ g0
 obtain ⟨_,_,rfl,k1,q1⟩:=fitS_cons.1 h1
 obtain ⟨a1,rfl⟩:=fitK_bool.1 k1
 obtain ⟨_,_,rfl,k2,q2⟩:=fitS_cons.1 q1
 obtain ⟨a2,rfl⟩:=fitK_bool.1 k2
 obtain ⟨_,_,rfl,k3,q3⟩:=fitS_cons.1 q2
 obtain ⟨a3,rfl⟩:=fitK_int.1 k3
 obtain rfl:=fitS_nil.1 q3
 exact ⟨⟨y0,a1,a2,a3⟩,oy0,rfl⟩
structure GTrigger where
 when:Int
 who:Int
 filter:GFilter
def GTrigger.enc (x:GTrigger):List Tr:=[iv x.when,iv x.who,iv x.filter.zone,iv x.filter.who,iv x.filter.self,iv x.filter.types,iv x.filter.notTypes,iv x.filter.colors,iv x.filter.notColors,sv x.filter.sub,iv x.filter.keys,iv x.filter.tap,iv x.filter.power.kind,iv x.filter.power.n,iv x.filter.tough.kind,iv x.filter.tough.n,iv x.filter.value.kind,iv x.filter.value.n]
def GTrigger.ks:List K:=[.lit .int,.lit .int]++(GFilter.ks)
def GTrigger.ok (x:GTrigger):Prop:=(x.filter.ok)
theorem GTrigger.of_fit (ts:List Tr) (h:FitS GTrigger.ks ts):∃ x:GTrigger,x.ok∧ts=x.enc:=by
 unfold GTrigger.ks at h
 obtain ⟨_,_,rfl,g0,h1⟩:=fitS_append.1 h
 obtain ⟨_,_,rfl,k1,q1⟩:=fitS_cons.1 g0
 obtain ⟨a1,rfl⟩:=fitK_int.1 k1
 obtain ⟨_,_,rfl,k2,q2⟩:=fitS_cons.1 q1
 obtain ⟨a2,rfl⟩:=fitK_int.1 k2
 obtain rfl:=fitS_nil.1 q2
 obtain ⟨y1,oy1,rfl⟩:=GFilter.of_fit _ h1
 exact ⟨⟨a1,a2,y1⟩,oy1,rfl⟩
structure GSpec where
 player:Bool
 object:Bool
 filter:GFilter
def GSpec.enc (x:GSpec):List Tr:=[bv x.player,bv x.object,iv x.filter.zone,iv x.filter.who,iv x.filter.self,iv x.filter.types,iv x.filter.notTypes,iv x.filter.colors,iv x.filter.notColors,sv x.filter.sub,iv x.filter.keys,iv x.filter.tap,iv x.filter.power.kind,iv x.filter.power.n,iv x.filter.tough.kind,iv x.filter.tough.n,iv x.filter.value.kind,iv x.filter.value.n]
def GSpec.ks:List K:=[.lit .bool,.lit .bool]++(GFilter.ks)
def GSpec.ok (x:GSpec):Prop:=(x.filter.ok)
theorem GSpec.of_fit (ts:List Tr) (h:FitS GSpec.ks ts):∃ x:GSpec,x.ok∧ts=x.enc:=by
 unfold GSpec.ks at h
 obtain ⟨_,_,rfl,g0,h1⟩:=fitS_append.1 h
 obtain ⟨_,_,rfl,k1,q1⟩:=fitS_cons.1 g0
 obtain ⟨a1,rfl⟩:=fitK_bool.1 k1
 obtain ⟨_,_,rfl,k2,q2⟩:=fitS_cons.1 q1
 obtain ⟨a2,rfl⟩:=fitK_bool.1 k2
 obtain rfl:=fitS_nil.1 q2
 obtain ⟨y1,oy1,rfl⟩:=GFilter.of_fit _ h1
 exact ⟨⟨a1,a2,y1⟩,oy1,rfl⟩
structure GRef where
 kind:Int
 n:Int
 filter:GFilter
def GRef.enc (x:GRef):List Tr:=[iv x.kind,iv x.n,iv x.filter.zone,iv x.filter.who,iv x.filter.self,iv x.filter.types,iv x.filter.notTypes,iv x.filter.colors,iv x.filter.notColors,sv x.filter.sub,iv x.filter.keys,iv x.filter.tap,iv x.filter.power.kind,iv x.filter.power.n,iv x.filter.tough.kind,iv x.filter.tough.n,iv x.filter.value.kind,iv x.filter.value.n]
def GRef.ks:List K:=[.lit .int,.lit .int]++(GFilter.ks)
def GRef.ok (x:GRef):Prop:=(x.filter.ok)
theorem GRef.of_fit (ts:List Tr) (h:FitS GRef.ks ts):∃ x:GRef,x.ok∧ts=x.enc:=by
 unfold GRef.ks at h
 obtain ⟨_,_,rfl,g0,h1⟩:=fitS_append.1 h
 obtain ⟨_,_,rfl,k1,q1⟩:=fitS_cons.1 g0
 obtain ⟨a1,rfl⟩:=fitK_int.1 k1
 obtain ⟨_,_,rfl,k2,q2⟩:=fitS_cons.1 q1
 obtain ⟨a2,rfl⟩:=fitK_int.1 k2
 obtain rfl:=fitS_nil.1 q2
 obtain ⟨y1,oy1,rfl⟩:=GFilter.of_fit _ h1
 exact ⟨⟨a1,a2,y1⟩,oy1,rfl⟩
structure GAmount where
 kind:Int
 n:Int
 counter:Int
 filter:GFilter
def GAmount.enc (x:GAmount):List Tr:=[iv x.kind,iv x.n,iv x.counter,iv x.filter.zone,iv x.filter.who,iv x.filter.self,iv x.filter.types,iv x.filter.notTypes,iv x.filter.colors,iv x.filter.notColors,sv x.filter.sub,iv x.filter.keys,iv x.filter.tap,iv x.filter.power.kind,iv x.filter.power.n,iv x.filter.tough.kind,iv x.filter.tough.n,iv x.filter.value.kind,iv x.filter.value.n]
def GAmount.ks:List K:=[.lit .int,.lit .int,.lit .int]++(GFilter.ks)
def GAmount.ok (x:GAmount):Prop:=(x.filter.ok)
theorem GAmount.of_fit (ts:List Tr) (h:FitS GAmount.ks ts):∃ x:GAmount,x.ok∧ts=x.enc:=by
 unfold GAmount.ks at h
 obtain ⟨_,_,rfl,g0,h1⟩:=fitS_append.1 h
 obtain ⟨_,_,rfl,k1,q1⟩:=fitS_cons.1 g0
 obtain ⟨a1,rfl⟩:=fitK_int.1 k1
 obtain ⟨_,_,rfl,k2,q2⟩:=fitS_cons.1 q1
 obtain ⟨a2,rfl⟩:=fitK_int.1 k2
 obtain ⟨_,_,rfl,k3,q3⟩:=fitS_cons.1 q2
 obtain ⟨a3,rfl⟩:=fitK_int.1 k3
 obtain rfl:=fitS_nil.1 q3
 obtain ⟨y1,oy1,rfl⟩:=GFilter.of_fit _ h1
 exact ⟨⟨a1,a2,a3,y1⟩,oy1,rfl⟩
structure GEffect where
 op:Int
 ref:GRef
 amount:GAmount
 counter:Int
 zone:Int
 card:ByteArray
 filter:GFilter
 pool0:Int
 pool1:Int
 pool2:Int
 pool3:Int
 pool4:Int
 pool5:Int
 mods:List GMod
def GEffect.enc (x:GEffect):List Tr:=[iv x.op,iv x.ref.kind,iv x.ref.n,iv x.ref.filter.zone,iv x.ref.filter.who,iv x.ref.filter.self,iv x.ref.filter.types,iv x.ref.filter.notTypes,iv x.ref.filter.colors,iv x.ref.filter.notColors,sv x.ref.filter.sub,iv x.ref.filter.keys,iv x.ref.filter.tap,iv x.ref.filter.power.kind,iv x.ref.filter.power.n,iv x.ref.filter.tough.kind,iv x.ref.filter.tough.n,iv x.ref.filter.value.kind,iv x.ref.filter.value.n,iv x.amount.kind,iv x.amount.n,iv x.amount.counter,iv x.amount.filter.zone,iv x.amount.filter.who,iv x.amount.filter.self,iv x.amount.filter.types,iv x.amount.filter.notTypes,iv x.amount.filter.colors,iv x.amount.filter.notColors,sv x.amount.filter.sub,iv x.amount.filter.keys,iv x.amount.filter.tap,iv x.amount.filter.power.kind,iv x.amount.filter.power.n,iv x.amount.filter.tough.kind,iv x.amount.filter.tough.n,iv x.amount.filter.value.kind,iv x.amount.filter.value.n,iv x.counter,iv x.zone,sv x.card,iv x.filter.zone,iv x.filter.who,iv x.filter.self,iv x.filter.types,iv x.filter.notTypes,iv x.filter.colors,iv x.filter.notColors,sv x.filter.sub,iv x.filter.keys,iv x.filter.tap,iv x.filter.power.kind,iv x.filter.power.n,iv x.filter.tough.kind,iv x.filter.tough.n,iv x.filter.value.kind,iv x.filter.value.n,iv x.pool0,iv x.pool1,iv x.pool2,iv x.pool3,iv x.pool4,iv x.pool5,.sl 20 (x.mods.map GMod.enc)]
def GEffect.ks:List K:=[.lit .int]++(GRef.ks++(GAmount.ks++([.lit .int,.lit .int,.lit .str]++(GFilter.ks++([.lit .int,.lit .int,.lit .int,.lit .int,.lit .int,.lit .int,.sl GMod.ks 176])))))
def GEffect.ok (x:GEffect):Prop:=(x.ref.ok)∧(x.amount.ok)∧(x.filter.ok)∧(x.mods.length*176≤limB)∧(∀ y∈x.mods,GMod.ok y)
theorem GEffect.of_fit (ts:List Tr) (h:FitS GEffect.ks ts):∃ x:GEffect,x.ok∧ts=x.enc:=by
 unfold GEffect.ks at h
 obtain ⟨_,_,rfl,g0,h1⟩:=fitS_append.1 h
 obtain ⟨_,_,rfl,k1,q1⟩:=fitS_cons.1 g0
 obtain ⟨a1,rfl⟩:=fitK_int.1 k1
 obtain rfl:=fitS_nil.1 q1
 obtain ⟨_,_,rfl,g1,h2⟩:=fitS_append.1 h1
 obtain ⟨y1,oy1,rfl⟩:=GRef.of_fit _ g1
 obtain ⟨_,_,rfl,g2,h3⟩:=fitS_append.1 h2
 obtain ⟨y2,oy2,rfl⟩:=GAmount.of_fit _ g2
 obtain ⟨_,_,rfl,g3,h4⟩:=fitS_append.1 h3
 obtain ⟨_,_,rfl,k2,q2⟩:=fitS_cons.1 g3
 obtain ⟨a2,rfl⟩:=fitK_int.1 k2
 obtain ⟨_,_,rfl,k3,q3⟩:=fitS_cons.1 q2
 obtain ⟨a3,rfl⟩:=fitK_int.1 k3
 obtain ⟨_,_,rfl,k4,q4⟩:=fitS_cons.1 q3
 obtain ⟨a4,rfl⟩:=fitK_str.1 k4
 obtain rfl:=fitS_nil.1 q4
 obtain ⟨_,_,rfl,g4,h5⟩:=fitS_append.1 h4
 obtain ⟨y4,oy4,rfl⟩:=GFilter.of_fit _ g4
 obtain ⟨_,_,rfl,k5,q5⟩:=fitS_cons.1 h5
 obtain ⟨a5,rfl⟩:=fitK_int.1 k5
 obtain ⟨_,_,rfl,k6,q6⟩:=fitS_cons.1 q5
 obtain ⟨a6,rfl⟩:=fitK_int.1 k6
 obtain ⟨_,_,rfl,k7,q7⟩:=fitS_cons.1 q6
 obtain ⟨a7,rfl⟩:=fitK_int.1 k7
 obtain ⟨_,_,rfl,k8,q8⟩:=fitS_cons.1 q7
 obtain ⟨a8,rfl⟩:=fitK_int.1 k8
 obtain ⟨_,_,rfl,k9,q9⟩:=fitS_cons.1 q8
 obtain ⟨a9,rfl⟩:=fitK_int.1 k9
 obtain ⟨_,_,rfl,k10,q10⟩:=fitS_cons.1 q9
 obtain ⟨a10,rfl⟩:=fitK_int.1 k10
 obtain ⟨_,_,rfl,k11,q11⟩:=fitS_cons.1 q10
 obtain ⟨_,rfl,hb11,hc11⟩:=fitK_sl.1 k11
 obtain ⟨l11,rfl,ho11⟩:=fitS_list GMod.of_fit hc11
 rw [Lm] at hb11
 obtain rfl:=fitS_nil.1 q11
 exact ⟨⟨a1,y1,y2,a2,a3,a4,y4,a5,a6,a7,a8,a9,a10,l11⟩,⟨oy1,oy2,oy4,hb11,ho11⟩,rfl⟩
structure GReplace where
 on:Int
 who:Int
 filter:GFilter
 do_:Int
 n:Int
 zone:Int
 counter:Int
def GReplace.enc (x:GReplace):List Tr:=[iv x.on,iv x.who,iv x.filter.zone,iv x.filter.who,iv x.filter.self,iv x.filter.types,iv x.filter.notTypes,iv x.filter.colors,iv x.filter.notColors,sv x.filter.sub,iv x.filter.keys,iv x.filter.tap,iv x.filter.power.kind,iv x.filter.power.n,iv x.filter.tough.kind,iv x.filter.tough.n,iv x.filter.value.kind,iv x.filter.value.n,iv x.do_,iv x.n,iv x.zone,iv x.counter]
def GReplace.ks:List K:=[.lit .int,.lit .int]++(GFilter.ks++([.lit .int,.lit .int,.lit .int,.lit .int]))
def GReplace.ok (x:GReplace):Prop:=(x.filter.ok)
theorem GReplace.of_fit (ts:List Tr) (h:FitS GReplace.ks ts):∃ x:GReplace,x.ok∧ts=x.enc:=by
 unfold GReplace.ks at h
 obtain ⟨_,_,rfl,g0,h1⟩:=fitS_append.1 h
 obtain ⟨_,_,rfl,k1,q1⟩:=fitS_cons.1 g0
 obtain ⟨a1,rfl⟩:=fitK_int.1 k1
 obtain ⟨_,_,rfl,k2,q2⟩:=fitS_cons.1 q1
 obtain ⟨a2,rfl⟩:=fitK_int.1 k2
 obtain rfl:=fitS_nil.1 q2
 obtain ⟨_,_,rfl,g1,h2⟩:=fitS_append.1 h1
 obtain ⟨y1,oy1,rfl⟩:=GFilter.of_fit _ g1
 obtain ⟨_,_,rfl,k3,q3⟩:=fitS_cons.1 h2
 obtain ⟨a3,rfl⟩:=fitK_int.1 k3
 obtain ⟨_,_,rfl,k4,q4⟩:=fitS_cons.1 q3
 obtain ⟨a4,rfl⟩:=fitK_int.1 k4
 obtain ⟨_,_,rfl,k5,q5⟩:=fitS_cons.1 q4
 obtain ⟨a5,rfl⟩:=fitK_int.1 k5
 obtain ⟨_,_,rfl,k6,q6⟩:=fitS_cons.1 q5
 obtain ⟨a6,rfl⟩:=fitK_int.1 k6
 obtain rfl:=fitS_nil.1 q6
 exact ⟨⟨a1,a2,y1,a3,a4,a5,a6⟩,oy1,rfl⟩
structure GAbility where
 kind:Int
 filter:GFilter
 mods:List GMod
 price:GPrice
 slow:Bool
 trigger:GTrigger
 may:Bool
 specs:List GSpec
 effects:List GEffect
 replace:GReplace
def GAbility.enc (x:GAbility):List Tr:=[iv x.kind,iv x.filter.zone,iv x.filter.who,iv x.filter.self,iv x.filter.types,iv x.filter.notTypes,iv x.filter.colors,iv x.filter.notColors,sv x.filter.sub,iv x.filter.keys,iv x.filter.tap,iv x.filter.power.kind,iv x.filter.power.n,iv x.filter.tough.kind,iv x.filter.tough.n,iv x.filter.value.kind,iv x.filter.value.n,.sl 20 (x.mods.map GMod.enc),iv x.price.mana.generic,iv x.price.mana.x,iv x.price.mana.color0,iv x.price.mana.color1,iv x.price.mana.color2,iv x.price.mana.color3,iv x.price.mana.color4,bv x.price.tap,bv x.price.sacrifice,iv x.price.life,bv x.slow,iv x.trigger.when,iv x.trigger.who,iv x.trigger.filter.zone,iv x.trigger.filter.who,iv x.trigger.filter.self,iv x.trigger.filter.types,iv x.trigger.filter.notTypes,iv x.trigger.filter.colors,iv x.trigger.filter.notColors,sv x.trigger.filter.sub,iv x.trigger.filter.keys,iv x.trigger.filter.tap,iv x.trigger.filter.power.kind,iv x.trigger.filter.power.n,iv x.trigger.filter.tough.kind,iv x.trigger.filter.tough.n,iv x.trigger.filter.value.kind,iv x.trigger.filter.value.n,bv x.may,.sl 18 (x.specs.map GSpec.enc),.sl 64 (x.effects.map GEffect.enc),iv x.replace.on,iv x.replace.who,iv x.replace.filter.zone,iv x.replace.filter.who,iv x.replace.filter.self,iv x.replace.filter.types,iv x.replace.filter.notTypes,iv x.replace.filter.colors,iv x.replace.filter.notColors,sv x.replace.filter.sub,iv x.replace.filter.keys,iv x.replace.filter.tap,iv x.replace.filter.power.kind,iv x.replace.filter.power.n,iv x.replace.filter.tough.kind,iv x.replace.filter.tough.n,iv x.replace.filter.value.kind,iv x.replace.filter.value.n,iv x.replace.do_,iv x.replace.n,iv x.replace.zone,iv x.replace.counter]
def GAbility.ks:List K:=[.lit .int]++(GFilter.ks++([.sl GMod.ks 176]++(GPrice.ks++([.lit .bool]++(GTrigger.ks++([.lit .bool,.sl GSpec.ks 144,.sl GEffect.ks 560]++(GReplace.ks)))))))
def GAbility.ok (x:GAbility):Prop:=(x.filter.ok)∧(x.mods.length*176≤limB)∧(∀ y∈x.mods,GMod.ok y)∧(x.price.ok)∧(x.trigger.ok)∧(x.specs.length*144≤limB)∧(∀ y∈x.specs,GSpec.ok y)∧(x.effects.length*560≤limB)∧(∀ y∈x.effects,GEffect.ok y)∧(x.replace.ok)
theorem GAbility.ok_effects {x:GAbility} (h:x.ok):x.effects.length*560≤limB:=h.2.2.2.2.2.2.2.1
theorem GAbility.of_fit (ts:List Tr) (h:FitS GAbility.ks ts):∃ x:GAbility,x.ok∧ts=x.enc:=by
 unfold GAbility.ks at h
 obtain ⟨_,_,rfl,g0,h1⟩:=fitS_append.1 h
 obtain ⟨_,_,rfl,k1,q1⟩:=fitS_cons.1 g0
 obtain ⟨a1,rfl⟩:=fitK_int.1 k1
 obtain rfl:=fitS_nil.1 q1
 obtain ⟨_,_,rfl,g1,h2⟩:=fitS_append.1 h1
 obtain ⟨y1,oy1,rfl⟩:=GFilter.of_fit _ g1
 obtain ⟨_,_,rfl,g2,h3⟩:=fitS_append.1 h2
 obtain ⟨_,_,rfl,k2,q2⟩:=fitS_cons.1 g2
 obtain ⟨_,rfl,hb2,hc2⟩:=fitK_sl.1 k2
 obtain ⟨l2,rfl,ho2⟩:=fitS_list GMod.of_fit hc2
 rw [Lm] at hb2
 obtain rfl:=fitS_nil.1 q2
 obtain ⟨_,_,rfl,g3,h4⟩:=fitS_append.1 h3
 obtain ⟨y3,oy3,rfl⟩:=GPrice.of_fit _ g3
 obtain ⟨_,_,rfl,g4,h5⟩:=fitS_append.1 h4
 obtain ⟨_,_,rfl,k3,q3⟩:=fitS_cons.1 g4
 obtain ⟨a3,rfl⟩:=fitK_bool.1 k3
 obtain rfl:=fitS_nil.1 q3
 obtain ⟨_,_,rfl,g5,h6⟩:=fitS_append.1 h5
 obtain ⟨y5,oy5,rfl⟩:=GTrigger.of_fit _ g5
 obtain ⟨_,_,rfl,g6,h7⟩:=fitS_append.1 h6
 obtain ⟨_,_,rfl,k4,q4⟩:=fitS_cons.1 g6
 obtain ⟨a4,rfl⟩:=fitK_bool.1 k4
 obtain ⟨_,_,rfl,k5,q5⟩:=fitS_cons.1 q4
 obtain ⟨_,rfl,hb5,hc5⟩:=fitK_sl.1 k5
 obtain ⟨l5,rfl,ho5⟩:=fitS_list GSpec.of_fit hc5
 rw [Lm] at hb5
 obtain ⟨_,_,rfl,k6,q6⟩:=fitS_cons.1 q5
 obtain ⟨_,rfl,hb6,hc6⟩:=fitK_sl.1 k6
 obtain ⟨l6,rfl,ho6⟩:=fitS_list GEffect.of_fit hc6
 rw [Lm] at hb6
 obtain rfl:=fitS_nil.1 q6
 obtain ⟨y7,oy7,rfl⟩:=GReplace.of_fit _ h7
 exact ⟨⟨a1,y1,l2,y3,a3,y5,a4,l5,l6,y7⟩,⟨oy1,hb2,ho2,oy3,oy5,hb5,ho5,hb6,ho6,oy7⟩,rfl⟩
structure GTarget where
 object:Int
 player:Int
def GTarget.enc (x:GTarget):List Tr:=[iv x.object,iv x.player]
def GTarget.ks:List K:=[.lit .int,.lit .int]
def GTarget.ok (_:GTarget):Prop:=True
theorem GTarget.of_fit (ts:List Tr) (h:FitS GTarget.ks ts):∃ x:GTarget,x.ok∧ts=x.enc:=by
 unfold GTarget.ks at h
 obtain ⟨_,_,rfl,k1,q1⟩:=fitS_cons.1 h
 obtain ⟨a1,rfl⟩:=fitK_int.1 k1
 obtain ⟨_,_,rfl,k2,q2⟩:=fitS_cons.1 q1
 obtain ⟨a2,rfl⟩:=fitK_int.1 k2
 obtain rfl:=fitS_nil.1 q2
 exact ⟨⟨a1,a2⟩,trivial,rfl⟩
structure GEvent where
 kind:Int
 source:Int
 object:Int
 player:Int
 amount:Int
 from_:Int
 to_:Int
 cause:Int
 counter:Int
 card:Int
 combat:Bool
 tapped:Bool
 extra0:Int
 extra1:Int
 extra2:Int
def GEvent.enc (x:GEvent):List Tr:=[iv x.kind,iv x.source,iv x.object,iv x.player,iv x.amount,iv x.from_,iv x.to_,iv x.cause,iv x.counter,iv x.card,bv x.combat,bv x.tapped,iv x.extra0,iv x.extra1,iv x.extra2]
def GEvent.ks:List K:=[.lit .int,.lit .int,.lit .int,.lit .int,.lit .int,.lit .int,.lit .int,.lit .int,.lit .int,.lit .int,.lit .bool,.lit .bool,.lit .int,.lit .int,.lit .int]
def GEvent.ok (_:GEvent):Prop:=True
theorem GEvent.of_fit (ts:List Tr) (h:FitS GEvent.ks ts):∃ x:GEvent,x.ok∧ts=x.enc:=by
 unfold GEvent.ks at h
 obtain ⟨_,_,rfl,k1,q1⟩:=fitS_cons.1 h
 obtain ⟨a1,rfl⟩:=fitK_int.1 k1
 obtain ⟨_,_,rfl,k2,q2⟩:=fitS_cons.1 q1
 obtain ⟨a2,rfl⟩:=fitK_int.1 k2
 obtain ⟨_,_,rfl,k3,q3⟩:=fitS_cons.1 q2
 obtain ⟨a3,rfl⟩:=fitK_int.1 k3
 obtain ⟨_,_,rfl,k4,q4⟩:=fitS_cons.1 q3
 obtain ⟨a4,rfl⟩:=fitK_int.1 k4
 obtain ⟨_,_,rfl,k5,q5⟩:=fitS_cons.1 q4
 obtain ⟨a5,rfl⟩:=fitK_int.1 k5
 obtain ⟨_,_,rfl,k6,q6⟩:=fitS_cons.1 q5
 obtain ⟨a6,rfl⟩:=fitK_int.1 k6
 obtain ⟨_,_,rfl,k7,q7⟩:=fitS_cons.1 q6
 obtain ⟨a7,rfl⟩:=fitK_int.1 k7
 obtain ⟨_,_,rfl,k8,q8⟩:=fitS_cons.1 q7
 obtain ⟨a8,rfl⟩:=fitK_int.1 k8
 obtain ⟨_,_,rfl,k9,q9⟩:=fitS_cons.1 q8
 obtain ⟨a9,rfl⟩:=fitK_int.1 k9
 obtain ⟨_,_,rfl,k10,q10⟩:=fitS_cons.1 q9
 obtain ⟨a10,rfl⟩:=fitK_int.1 k10
 obtain ⟨_,_,rfl,k11,q11⟩:=fitS_cons.1 q10
 obtain ⟨a11,rfl⟩:=fitK_bool.1 k11
 obtain ⟨_,_,rfl,k12,q12⟩:=fitS_cons.1 q11
 obtain ⟨a12,rfl⟩:=fitK_bool.1 k12
 obtain ⟨_,_,rfl,k13,q13⟩:=fitS_cons.1 q12
 obtain ⟨a13,rfl⟩:=fitK_int.1 k13
 obtain ⟨_,_,rfl,k14,q14⟩:=fitS_cons.1 q13
 obtain ⟨a14,rfl⟩:=fitK_int.1 k14
 obtain ⟨_,_,rfl,k15,q15⟩:=fitS_cons.1 q14
 obtain ⟨a15,rfl⟩:=fitK_int.1 k15
 obtain rfl:=fitS_nil.1 q15
 exact ⟨⟨a1,a2,a3,a4,a5,a6,a7,a8,a9,a10,a11,a12,a13,a14,a15⟩,trivial,rfl⟩
structure GItem where
 id:Int
 kind:Int
 source:Int
 control:Int
 x:Int
 copy:Bool
 ability:GAbility
 targets:List GTarget
 event:GEvent
def GItem.enc (x:GItem):List Tr:=[iv x.id,iv x.kind,iv x.source,iv x.control,iv x.x,bv x.copy,iv x.ability.kind,iv x.ability.filter.zone,iv x.ability.filter.who,iv x.ability.filter.self,iv x.ability.filter.types,iv x.ability.filter.notTypes,iv x.ability.filter.colors,iv x.ability.filter.notColors,sv x.ability.filter.sub,iv x.ability.filter.keys,iv x.ability.filter.tap,iv x.ability.filter.power.kind,iv x.ability.filter.power.n,iv x.ability.filter.tough.kind,iv x.ability.filter.tough.n,iv x.ability.filter.value.kind,iv x.ability.filter.value.n,.sl 20 (x.ability.mods.map GMod.enc),iv x.ability.price.mana.generic,iv x.ability.price.mana.x,iv x.ability.price.mana.color0,iv x.ability.price.mana.color1,iv x.ability.price.mana.color2,iv x.ability.price.mana.color3,iv x.ability.price.mana.color4,bv x.ability.price.tap,bv x.ability.price.sacrifice,iv x.ability.price.life,bv x.ability.slow,iv x.ability.trigger.when,iv x.ability.trigger.who,iv x.ability.trigger.filter.zone,iv x.ability.trigger.filter.who,iv x.ability.trigger.filter.self,iv x.ability.trigger.filter.types,iv x.ability.trigger.filter.notTypes,iv x.ability.trigger.filter.colors,iv x.ability.trigger.filter.notColors,sv x.ability.trigger.filter.sub,iv x.ability.trigger.filter.keys,iv x.ability.trigger.filter.tap,iv x.ability.trigger.filter.power.kind,iv x.ability.trigger.filter.power.n,iv x.ability.trigger.filter.tough.kind,iv x.ability.trigger.filter.tough.n,iv x.ability.trigger.filter.value.kind,iv x.ability.trigger.filter.value.n,bv x.ability.may,.sl 18 (x.ability.specs.map GSpec.enc),.sl 64 (x.ability.effects.map GEffect.enc),iv x.ability.replace.on,iv x.ability.replace.who,iv x.ability.replace.filter.zone,iv x.ability.replace.filter.who,iv x.ability.replace.filter.self,iv x.ability.replace.filter.types,iv x.ability.replace.filter.notTypes,iv x.ability.replace.filter.colors,iv x.ability.replace.filter.notColors,sv x.ability.replace.filter.sub,iv x.ability.replace.filter.keys,iv x.ability.replace.filter.tap,iv x.ability.replace.filter.power.kind,iv x.ability.replace.filter.power.n,iv x.ability.replace.filter.tough.kind,iv x.ability.replace.filter.tough.n,iv x.ability.replace.filter.value.kind,iv x.ability.replace.filter.value.n,iv x.ability.replace.do_,iv x.ability.replace.n,iv x.ability.replace.zone,iv x.ability.replace.counter,.sl 2 (x.targets.map GTarget.enc),iv x.event.kind,iv x.event.source,iv x.event.object,iv x.event.player,iv x.event.amount,iv x.event.from_,iv x.event.to_,iv x.event.cause,iv x.event.counter,iv x.event.card,bv x.event.combat,bv x.event.tapped,iv x.event.extra0,iv x.event.extra1,iv x.event.extra2]
def GItem.ks:List K:=[.lit .int,.lit .int,.lit .int,.lit .int,.lit .int,.lit .bool]++(GAbility.ks++([.sl GTarget.ks 16]++(GEvent.ks)))
def GItem.ok (x:GItem):Prop:=(x.ability.ok)∧(x.targets.length*16≤limB)∧(∀ y∈x.targets,GTarget.ok y)∧(x.event.ok)
theorem GItem.ok_ability {x:GItem} (h:x.ok):x.ability.ok:=h.1
theorem GItem.of_fit (ts:List Tr) (h:FitS GItem.ks ts):∃ x:GItem,x.ok∧ts=x.enc:=by
 unfold GItem.ks at h
 obtain ⟨_,_,rfl,g0,h1⟩:=fitS_append.1 h
 obtain ⟨_,_,rfl,k1,q1⟩:=fitS_cons.1 g0
 obtain ⟨a1,rfl⟩:=fitK_int.1 k1
 obtain ⟨_,_,rfl,k2,q2⟩:=fitS_cons.1 q1
 obtain ⟨a2,rfl⟩:=fitK_int.1 k2
 obtain ⟨_,_,rfl,k3,q3⟩:=fitS_cons.1 q2
 obtain ⟨a3,rfl⟩:=fitK_int.1 k3
 obtain ⟨_,_,rfl,k4,q4⟩:=fitS_cons.1 q3
 obtain ⟨a4,rfl⟩:=fitK_int.1 k4
 obtain ⟨_,_,rfl,k5,q5⟩:=fitS_cons.1 q4
 obtain ⟨a5,rfl⟩:=fitK_int.1 k5
 obtain ⟨_,_,rfl,k6,q6⟩:=fitS_cons.1 q5
 obtain ⟨a6,rfl⟩:=fitK_bool.1 k6
 obtain rfl:=fitS_nil.1 q6
 obtain ⟨_,_,rfl,g1,h2⟩:=fitS_append.1 h1
 obtain ⟨y1,oy1,rfl⟩:=GAbility.of_fit _ g1
 obtain ⟨_,_,rfl,g2,h3⟩:=fitS_append.1 h2
 obtain ⟨_,_,rfl,k7,q7⟩:=fitS_cons.1 g2
 obtain ⟨_,rfl,hb7,hc7⟩:=fitK_sl.1 k7
 obtain ⟨l7,rfl,ho7⟩:=fitS_list GTarget.of_fit hc7
 rw [Lm] at hb7
 obtain rfl:=fitS_nil.1 q7
 obtain ⟨y3,oy3,rfl⟩:=GEvent.of_fit _ h3
 exact ⟨⟨a1,a2,a3,a4,a5,a6,y1,l7,y3⟩,⟨oy1,hb7,ho7,oy3⟩,rfl⟩
structure GWaiting where
 source:Int
 control:Int
 ability:GAbility
 event:GEvent
def GWaiting.enc (x:GWaiting):List Tr:=[iv x.source,iv x.control,iv x.ability.kind,iv x.ability.filter.zone,iv x.ability.filter.who,iv x.ability.filter.self,iv x.ability.filter.types,iv x.ability.filter.notTypes,iv x.ability.filter.colors,iv x.ability.filter.notColors,sv x.ability.filter.sub,iv x.ability.filter.keys,iv x.ability.filter.tap,iv x.ability.filter.power.kind,iv x.ability.filter.power.n,iv x.ability.filter.tough.kind,iv x.ability.filter.tough.n,iv x.ability.filter.value.kind,iv x.ability.filter.value.n,.sl 20 (x.ability.mods.map GMod.enc),iv x.ability.price.mana.generic,iv x.ability.price.mana.x,iv x.ability.price.mana.color0,iv x.ability.price.mana.color1,iv x.ability.price.mana.color2,iv x.ability.price.mana.color3,iv x.ability.price.mana.color4,bv x.ability.price.tap,bv x.ability.price.sacrifice,iv x.ability.price.life,bv x.ability.slow,iv x.ability.trigger.when,iv x.ability.trigger.who,iv x.ability.trigger.filter.zone,iv x.ability.trigger.filter.who,iv x.ability.trigger.filter.self,iv x.ability.trigger.filter.types,iv x.ability.trigger.filter.notTypes,iv x.ability.trigger.filter.colors,iv x.ability.trigger.filter.notColors,sv x.ability.trigger.filter.sub,iv x.ability.trigger.filter.keys,iv x.ability.trigger.filter.tap,iv x.ability.trigger.filter.power.kind,iv x.ability.trigger.filter.power.n,iv x.ability.trigger.filter.tough.kind,iv x.ability.trigger.filter.tough.n,iv x.ability.trigger.filter.value.kind,iv x.ability.trigger.filter.value.n,bv x.ability.may,.sl 18 (x.ability.specs.map GSpec.enc),.sl 64 (x.ability.effects.map GEffect.enc),iv x.ability.replace.on,iv x.ability.replace.who,iv x.ability.replace.filter.zone,iv x.ability.replace.filter.who,iv x.ability.replace.filter.self,iv x.ability.replace.filter.types,iv x.ability.replace.filter.notTypes,iv x.ability.replace.filter.colors,iv x.ability.replace.filter.notColors,sv x.ability.replace.filter.sub,iv x.ability.replace.filter.keys,iv x.ability.replace.filter.tap,iv x.ability.replace.filter.power.kind,iv x.ability.replace.filter.power.n,iv x.ability.replace.filter.tough.kind,iv x.ability.replace.filter.tough.n,iv x.ability.replace.filter.value.kind,iv x.ability.replace.filter.value.n,iv x.ability.replace.do_,iv x.ability.replace.n,iv x.ability.replace.zone,iv x.ability.replace.counter,iv x.event.kind,iv x.event.source,iv x.event.object,iv x.event.player,iv x.event.amount,iv x.event.from_,iv x.event.to_,iv x.event.cause,iv x.event.counter,iv x.event.card,bv x.event.combat,bv x.event.tapped,iv x.event.extra0,iv x.event.extra1,iv x.event.extra2]
def GWaiting.ks:List K:=[.lit .int,.lit .int]++(GAbility.ks++(GEvent.ks))
def GWaiting.ok (x:GWaiting):Prop:=(x.ability.ok)∧(x.event.ok)
theorem GWaiting.ok_ability {x:GWaiting} (h:x.ok):x.ability.ok:=h.1
theorem GWaiting.of_fit (ts:List Tr) (h:FitS GWaiting.ks ts):∃ x:GWaiting,x.ok∧ts=x.enc:=by
 unfold GWaiting.ks at h
 obtain ⟨_,_,rfl,g0,h1⟩:=fitS_append.1 h
 obtain ⟨_,_,rfl,k1,q1⟩:=fitS_cons.1 g0
 obtain ⟨a1,rfl⟩:=fitK_int.1 k1
 obtain ⟨_,_,rfl,k2,q2⟩:=fitS_cons.1 q1
 obtain ⟨a2,rfl⟩:=fitK_int.1 k2
 obtain rfl:=fitS_nil.1 q2
 obtain ⟨_,_,rfl,g1,h2⟩:=fitS_append.1 h1
 obtain ⟨y1,oy1,rfl⟩:=GAbility.of_fit _ g1
 obtain ⟨y2,oy2,rfl⟩:=GEvent.of_fit _ h2
 exact ⟨⟨a1,a2,y1,y2⟩,⟨oy1,oy2⟩,rfl⟩
structure GCont where
 stamp:Int
 control:Int
 source:Int
 until_:Int
 objects:List Int
 mods:List GMod
def GCont.enc (x:GCont):List Tr:=[iv x.stamp,iv x.control,iv x.source,iv x.until_,.sl 1 (x.objects.map eI),.sl 20 (x.mods.map GMod.enc)]
def GCont.ks:List K:=[.lit .int,.lit .int,.lit .int,.lit .int,.sl [.lit .int] 8,.sl GMod.ks 176]
def GCont.ok (x:GCont):Prop:=(x.objects.length*8≤limB)∧(x.mods.length*176≤limB)∧(∀ y∈x.mods,GMod.ok y)
theorem GCont.ok_objects {x:GCont} (h:x.ok):x.objects.length*8≤limB:=h.1
theorem GCont.ok_mods {x:GCont} (h:x.ok):x.mods.length*176≤limB:=h.2.1
theorem GCont.okm_mods {x:GCont} (h:x.ok):∀ y∈x.mods,GMod.ok y:=h.2.2
theorem GCont.of_fit (ts:List Tr) (h:FitS GCont.ks ts):∃ x:GCont,x.ok∧ts=x.enc:=by
 unfold GCont.ks at h
 obtain ⟨_,_,rfl,k1,q1⟩:=fitS_cons.1 h
 obtain ⟨a1,rfl⟩:=fitK_int.1 k1
 obtain ⟨_,_,rfl,k2,q2⟩:=fitS_cons.1 q1
 obtain ⟨a2,rfl⟩:=fitK_int.1 k2
 obtain ⟨_,_,rfl,k3,q3⟩:=fitS_cons.1 q2
 obtain ⟨a3,rfl⟩:=fitK_int.1 k3
 obtain ⟨_,_,rfl,k4,q4⟩:=fitS_cons.1 q3
 obtain ⟨a4,rfl⟩:=fitK_int.1 k4
 obtain ⟨_,_,rfl,k5,q5⟩:=fitS_cons.1 q4
 obtain ⟨_,rfl,hb5,hc5⟩:=fitK_sl.1 k5
 obtain ⟨l5,rfl,ho5⟩:=fitS_list int_of_fit hc5
 rw [Lm] at hb5
 obtain ⟨_,_,rfl,k6,q6⟩:=fitS_cons.1 q5
 obtain ⟨_,rfl,hb6,hc6⟩:=fitK_sl.1 k6
 obtain ⟨l6,rfl,ho6⟩:=fitS_list GMod.of_fit hc6
 rw [Lm] at hb6
 obtain rfl:=fitS_nil.1 q6
 exact ⟨⟨a1,a2,a3,a4,l5,l6⟩,⟨hb5,hb6,ho6⟩,rfl⟩
structure GState where
 players:List GPlayer
 objects:List GObject
 battlefield:List Int
 exile:List Int
 stack:List GItem
 waiting:List GWaiting
 conts:List GCont
 turn:Int
 active:Int
 step:Int
 begun:Bool
 priority:Int
 passes:Int
 nextId:Int
 nextStamp:Int
 seed:Int
 extra:List Int
 over:Int
 winner:Int
def GState.enc (x:GState):List Tr:=[.sl 14 (x.players.map GPlayer.enc),.sl 19 (x.objects.map GObject.enc),.sl 1 (x.battlefield.map eI),.sl 1 (x.exile.map eI),.sl 94 (x.stack.map GItem.enc),.sl 89 (x.waiting.map GWaiting.enc),.sl 6 (x.conts.map GCont.enc),iv x.turn,iv x.active,iv x.step,bv x.begun,iv x.priority,iv x.passes,iv x.nextId,iv x.nextStamp,.lit (.int .u64 x.seed),.sl 1 (x.extra.map eI),iv x.over,iv x.winner]
def GState.ks:List K:=[.sl GPlayer.ks 152,.sl GObject.ks 128,.sl [.lit .int] 8,.sl [.lit .int] 8,.sl GItem.ks 824,.sl GWaiting.ks 768,.sl GCont.ks 80,.lit .int,.lit .int,.lit .int,.lit .bool,.lit .int,.lit .int,.lit .int,.lit .int,.lit .u64,.sl [.lit .int] 8,.lit .int,.lit .int]
def GState.ok (x:GState):Prop:=(x.players.length*152≤limB)∧(∀ y∈x.players,GPlayer.ok y)∧(x.objects.length*128≤limB)∧(∀ y∈x.objects,GObject.ok y)∧(x.battlefield.length*8≤limB)∧(x.exile.length*8≤limB)∧(x.stack.length*824≤limB)∧(∀ y∈x.stack,GItem.ok y)∧(x.waiting.length*768≤limB)∧(∀ y∈x.waiting,GWaiting.ok y)∧(x.conts.length*80≤limB)∧(∀ y∈x.conts,GCont.ok y)∧(x.extra.length*8≤limB)
theorem GState.of_fit (ts:List Tr) (h:FitS GState.ks ts):∃ x:GState,x.ok∧ts=x.enc:=by
 unfold GState.ks at h
 obtain ⟨_,_,rfl,k1,q1⟩:=fitS_cons.1 h
 obtain ⟨_,rfl,hb1,hc1⟩:=fitK_sl.1 k1
 obtain ⟨l1,rfl,ho1⟩:=fitS_list GPlayer.of_fit hc1
 rw [Lm] at hb1
 obtain ⟨_,_,rfl,k2,q2⟩:=fitS_cons.1 q1
 obtain ⟨_,rfl,hb2,hc2⟩:=fitK_sl.1 k2
 obtain ⟨l2,rfl,ho2⟩:=fitS_list GObject.of_fit hc2
 rw [Lm] at hb2
 obtain ⟨_,_,rfl,k3,q3⟩:=fitS_cons.1 q2
 obtain ⟨_,rfl,hb3,hc3⟩:=fitK_sl.1 k3
 obtain ⟨l3,rfl,ho3⟩:=fitS_list int_of_fit hc3
 rw [Lm] at hb3
 obtain ⟨_,_,rfl,k4,q4⟩:=fitS_cons.1 q3
 obtain ⟨_,rfl,hb4,hc4⟩:=fitK_sl.1 k4
 obtain ⟨l4,rfl,ho4⟩:=fitS_list int_of_fit hc4
 rw [Lm] at hb4
 obtain ⟨_,_,rfl,k5,q5⟩:=fitS_cons.1 q4
 obtain ⟨_,rfl,hb5,hc5⟩:=fitK_sl.1 k5
 obtain ⟨l5,rfl,ho5⟩:=fitS_list GItem.of_fit hc5
 rw [Lm] at hb5
 obtain ⟨_,_,rfl,k6,q6⟩:=fitS_cons.1 q5
 obtain ⟨_,rfl,hb6,hc6⟩:=fitK_sl.1 k6
 obtain ⟨l6,rfl,ho6⟩:=fitS_list GWaiting.of_fit hc6
 rw [Lm] at hb6
 obtain ⟨_,_,rfl,k7,q7⟩:=fitS_cons.1 q6
 obtain ⟨_,rfl,hb7,hc7⟩:=fitK_sl.1 k7
 obtain ⟨l7,rfl,ho7⟩:=fitS_list GCont.of_fit hc7
 rw [Lm] at hb7
 obtain ⟨_,_,rfl,k8,q8⟩:=fitS_cons.1 q7
 obtain ⟨a8,rfl⟩:=fitK_int.1 k8
 obtain ⟨_,_,rfl,k9,q9⟩:=fitS_cons.1 q8
 obtain ⟨a9,rfl⟩:=fitK_int.1 k9
 obtain ⟨_,_,rfl,k10,q10⟩:=fitS_cons.1 q9
 obtain ⟨a10,rfl⟩:=fitK_int.1 k10
 obtain ⟨_,_,rfl,k11,q11⟩:=fitS_cons.1 q10
 obtain ⟨a11,rfl⟩:=fitK_bool.1 k11
 obtain ⟨_,_,rfl,k12,q12⟩:=fitS_cons.1 q11
 obtain ⟨a12,rfl⟩:=fitK_int.1 k12
 obtain ⟨_,_,rfl,k13,q13⟩:=fitS_cons.1 q12
 obtain ⟨a13,rfl⟩:=fitK_int.1 k13
 obtain ⟨_,_,rfl,k14,q14⟩:=fitS_cons.1 q13
 obtain ⟨a14,rfl⟩:=fitK_int.1 k14
 obtain ⟨_,_,rfl,k15,q15⟩:=fitS_cons.1 q14
 obtain ⟨a15,rfl⟩:=fitK_int.1 k15
 obtain ⟨_,_,rfl,k16,q16⟩:=fitS_cons.1 q15
 obtain ⟨a16,rfl⟩:=fitK_u64.1 k16
 obtain ⟨_,_,rfl,k17,q17⟩:=fitS_cons.1 q16
 obtain ⟨_,rfl,hb17,hc17⟩:=fitK_sl.1 k17
 obtain ⟨l17,rfl,ho17⟩:=fitS_list int_of_fit hc17
 rw [Lm] at hb17
 obtain ⟨_,_,rfl,k18,q18⟩:=fitS_cons.1 q17
 obtain ⟨a18,rfl⟩:=fitK_int.1 k18
 obtain ⟨_,_,rfl,k19,q19⟩:=fitS_cons.1 q18
 obtain ⟨a19,rfl⟩:=fitK_int.1 k19
 obtain rfl:=fitS_nil.1 q19
 exact ⟨⟨l1,l2,l3,l4,l5,l6,l7,a8,a9,a10,a11,a12,a13,a14,a15,a16,l17,a18,a19⟩,⟨hb1,ho1,hb2,ho2,hb3,hb4,hb5,ho5,hb6,ho6,hb7,ho7,hb17⟩,rfl⟩
structure GLine where
 super:Int
 types:Int
 subs:List ByteArray
def GLine.enc (x:GLine):List Tr:=[iv x.super,iv x.types,.sl 1 (x.subs.map eS)]
def GLine.ks:List K:=[.lit .int,.lit .int,.sl [.lit .str] 16]
def GLine.ok (x:GLine):Prop:=(x.subs.length*16≤limB)
theorem GLine.of_fit (ts:List Tr) (h:FitS GLine.ks ts):∃ x:GLine,x.ok∧ts=x.enc:=by
 unfold GLine.ks at h
 obtain ⟨_,_,rfl,k1,q1⟩:=fitS_cons.1 h
 obtain ⟨a1,rfl⟩:=fitK_int.1 k1
 obtain ⟨_,_,rfl,k2,q2⟩:=fitS_cons.1 q1
 obtain ⟨a2,rfl⟩:=fitK_int.1 k2
 obtain ⟨_,_,rfl,k3,q3⟩:=fitS_cons.1 q2
 obtain ⟨_,rfl,hb3,hc3⟩:=fitK_sl.1 k3
 obtain ⟨l3,rfl,ho3⟩:=fitS_list str_of_fit hc3
 rw [Lm] at hb3
 obtain rfl:=fitS_nil.1 q3
 exact ⟨⟨a1,a2,l3⟩,hb3,rfl⟩
structure GCard where
 name:ByteArray
 token:Bool
 cost:GCost
 color:Int
 line:GLine
 power:Int
 tough:Int
 keys:Int
 abilities:List GAbility
def GCard.enc (x:GCard):List Tr:=[sv x.name,bv x.token,iv x.cost.generic,iv x.cost.x,iv x.cost.color0,iv x.cost.color1,iv x.cost.color2,iv x.cost.color3,iv x.cost.color4,iv x.color,iv x.line.super,iv x.line.types,.sl 1 (x.line.subs.map eS),iv x.power,iv x.tough,iv x.keys,.sl 72 (x.abilities.map GAbility.enc)]
def GCard.ks:List K:=[.lit .str,.lit .bool]++(GCost.ks++([.lit .int]++(GLine.ks++([.lit .int,.lit .int,.lit .int,.sl GAbility.ks 640]))))
def GCard.ok (x:GCard):Prop:=(x.cost.ok)∧(x.line.ok)∧(x.abilities.length*640≤limB)∧(∀ y∈x.abilities,GAbility.ok y)
theorem GCard.of_fit (ts:List Tr) (h:FitS GCard.ks ts):∃ x:GCard,x.ok∧ts=x.enc:=by
 unfold GCard.ks at h
 obtain ⟨_,_,rfl,g0,h1⟩:=fitS_append.1 h
 obtain ⟨_,_,rfl,k1,q1⟩:=fitS_cons.1 g0
 obtain ⟨a1,rfl⟩:=fitK_str.1 k1
 obtain ⟨_,_,rfl,k2,q2⟩:=fitS_cons.1 q1
 obtain ⟨a2,rfl⟩:=fitK_bool.1 k2
 obtain rfl:=fitS_nil.1 q2
 obtain ⟨_,_,rfl,g1,h2⟩:=fitS_append.1 h1
 obtain ⟨y1,oy1,rfl⟩:=GCost.of_fit _ g1
 obtain ⟨_,_,rfl,g2,h3⟩:=fitS_append.1 h2
 obtain ⟨_,_,rfl,k3,q3⟩:=fitS_cons.1 g2
 obtain ⟨a3,rfl⟩:=fitK_int.1 k3
 obtain rfl:=fitS_nil.1 q3
 obtain ⟨_,_,rfl,g3,h4⟩:=fitS_append.1 h3
 obtain ⟨y3,oy3,rfl⟩:=GLine.of_fit _ g3
 obtain ⟨_,_,rfl,k4,q4⟩:=fitS_cons.1 h4
 obtain ⟨a4,rfl⟩:=fitK_int.1 k4
 obtain ⟨_,_,rfl,k5,q5⟩:=fitS_cons.1 q4
 obtain ⟨a5,rfl⟩:=fitK_int.1 k5
 obtain ⟨_,_,rfl,k6,q6⟩:=fitS_cons.1 q5
 obtain ⟨a6,rfl⟩:=fitK_int.1 k6
 obtain ⟨_,_,rfl,k7,q7⟩:=fitS_cons.1 q6
 obtain ⟨_,rfl,hb7,hc7⟩:=fitK_sl.1 k7
 obtain ⟨l7,rfl,ho7⟩:=fitS_list GAbility.of_fit hc7
 rw [Lm] at hb7
 obtain rfl:=fitS_nil.1 q7
 exact ⟨⟨a1,a2,y1,a3,y3,a4,a5,a6,l7⟩,⟨oy1,oy3,hb7,ho7⟩,rfl⟩
structure GTraits where
 name:ByteArray
 cost:GCost
 colors:Int
 line:GLine
 power:Int
 tough:Int
 keys:Int
 abilities:List GAbility
 control:Int
def GTraits.enc (x:GTraits):List Tr:=[sv x.name,iv x.cost.generic,iv x.cost.x,iv x.cost.color0,iv x.cost.color1,iv x.cost.color2,iv x.cost.color3,iv x.cost.color4,iv x.colors,iv x.line.super,iv x.line.types,.sl 1 (x.line.subs.map eS),iv x.power,iv x.tough,iv x.keys,.sl 72 (x.abilities.map GAbility.enc),iv x.control]
def GTraits.ks:List K:=[.lit .str]++(GCost.ks++([.lit .int]++(GLine.ks++([.lit .int,.lit .int,.lit .int,.sl GAbility.ks 640,.lit .int]))))
def GTraits.ok (x:GTraits):Prop:=(x.cost.ok)∧(x.line.ok)∧(x.abilities.length*640≤limB)∧(∀ y∈x.abilities,GAbility.ok y)
theorem GTraits.of_fit (ts:List Tr) (h:FitS GTraits.ks ts):∃ x:GTraits,x.ok∧ts=x.enc:=by
 unfold GTraits.ks at h
 obtain ⟨_,_,rfl,g0,h1⟩:=fitS_append.1 h
 obtain ⟨_,_,rfl,k1,q1⟩:=fitS_cons.1 g0
 obtain ⟨a1,rfl⟩:=fitK_str.1 k1
 obtain rfl:=fitS_nil.1 q1
 obtain ⟨_,_,rfl,g1,h2⟩:=fitS_append.1 h1
 obtain ⟨y1,oy1,rfl⟩:=GCost.of_fit _ g1
 obtain ⟨_,_,rfl,g2,h3⟩:=fitS_append.1 h2
 obtain ⟨_,_,rfl,k2,q2⟩:=fitS_cons.1 g2
 obtain ⟨a2,rfl⟩:=fitK_int.1 k2
 obtain rfl:=fitS_nil.1 q2
 obtain ⟨_,_,rfl,g3,h4⟩:=fitS_append.1 h3
 obtain ⟨y3,oy3,rfl⟩:=GLine.of_fit _ g3
 obtain ⟨_,_,rfl,k3,q3⟩:=fitS_cons.1 h4
 obtain ⟨a3,rfl⟩:=fitK_int.1 k3
 obtain ⟨_,_,rfl,k4,q4⟩:=fitS_cons.1 q3
 obtain ⟨a4,rfl⟩:=fitK_int.1 k4
 obtain ⟨_,_,rfl,k5,q5⟩:=fitS_cons.1 q4
 obtain ⟨a5,rfl⟩:=fitK_int.1 k5
 obtain ⟨_,_,rfl,k6,q6⟩:=fitS_cons.1 q5
 obtain ⟨_,rfl,hb6,hc6⟩:=fitK_sl.1 k6
 obtain ⟨l6,rfl,ho6⟩:=fitS_list GAbility.of_fit hc6
 rw [Lm] at hb6
 obtain ⟨_,_,rfl,k7,q7⟩:=fitS_cons.1 q6
 obtain ⟨a7,rfl⟩:=fitK_int.1 k7
 obtain rfl:=fitS_nil.1 q7
 exact ⟨⟨a1,y1,a2,y3,a3,a4,a5,l6,a7⟩,⟨oy1,oy3,hb6,ho6⟩,rfl⟩
end Cg
end
section
namespace Cg
open Go Go.RowKit Go.Sort Go.Lib
section
variable {P:Program} {T:Nat→Option Ty} {O:Gst} {N:Nat} {w0:World}
def memb (n:Nat):List Nat→Bool
 | []=>false
 | m :: r=>bif Nat.beq m n then true else memb n r
def frC (st:St) (ms:List Nat):Ce→Ce
 | .t x=>.t x
 | .nil=>.nil
 | .bot=>.bot
 | .row τ ver=>match lk st.rw τ with
  | some R=>bif Nat.beq R.ver ver&&R.shut then (bif memb τ ms then .row τ ver else .t (.sl R.k R.xs)) else .bot
  | none=>.bot
def frA (st:St) (ms:List Nat):AV→AV
 | .c x=>.c (frC st ms x)
 | .agg xs=>.agg (xs.map (frC st ms))
 | .ptr b o=>.ptr b o
 | .iptr xs o=>.iptr xs o
 | .eptr _ _ _ _ _=>.bot
 | .sub _ _ _ _=>.bot
 | .nilp=>.nilp
 | .tup _=>.bot
 | .fn f caps=>.fn f caps
 | .fnI f caps=>.fnI f caps
 | .bot=>.bot
def frS (st:St) (ms:List Nat):List (Nat × AV)→List (Nat × AV)
 | []=>[]
 | (t,v) :: r=>(t,frA st ms v) :: frS st ms r
def frB (st:St) (ms:List Nat):List (Nat × List Ce)→List (Nat × List Ce)
 | []=>[]
 | (b,cs) :: r=>(b,cs.map (frC st ms)) :: frB st ms r
def frR (ms:List Nat):List (Nat × Row)→List (Nat × Row)
 | []=>[]
 | (τ,R) :: r=>bif memb τ ms then (τ,R) :: frR ms r else frR ms r
def frz0 (ms:List Nat) (st:St):St:=match st with
 | ⟨sl,bx,rw,nx⟩=>⟨frS ⟨sl,bx,rw,nx⟩ ms sl,frB ⟨sl,bx,rw,nx⟩ ms bx,frR ms rw,nx⟩
def shutN (rw:List (Nat × Row)):List Nat→List Nat
 | []=>[]
 | m :: r=>match lk rw m with
  | some R=>bif R.shut then m :: shutN rw r else shutN rw r
  | none=>m :: shutN rw r
theorem shutN_ok {rw:List (Nat × Row)} {τ:Nat} {R:Row} (hR:lk rw τ=some R):∀ {ms:List Nat},memb τ (shutN rw ms)=true→R.shut=true
 | m :: r,h=>by
  unfold shutN at h
  cases hq:lk rw m with
  | none=>
   rw [hq] at h
   unfold memb at h
   cases hb:Nat.beq m τ with
   | true=>
    rw [Nat.eq_of_beq_eq_true hb,hR] at hq
    cases hq
   | false=>
    simp only [hb,cond_false] at h
    exact shutN_ok hR h
  | some R'=>
   rw [hq] at h
   simp only at h
   cases hs:R'.shut with
   | false=>
    rw [hs] at h
    exact shutN_ok hR h
   | true=>
    rw [hs] at h
    simp only [cond_true] at h
    unfold memb at h
    cases hb:Nat.beq m τ with
    | true=>
     rw [Nat.eq_of_beq_eq_true hb,hR] at hq
     cases hq
     exact hs
    | false=>
     simp only [hb,cond_false] at h
     exact shutN_ok hR h
 | [],h=>by cases h
def frz (ms:List Nat) (st:St):St:=match st with
 | ⟨sl,bx,rw,nx⟩=>frz0 (shutN rw ms) ⟨sl,bx,rw,nx⟩
theorem lk_frS (st:St) (ms:List Nat):∀ (l:List (Nat × AV)) (t:Nat),lk (frS st ms l) t=(lk l t).map (frA st ms)
 | [],t=>rfl
 | (u,v) :: r,t=>by
  rw [frS,lk_cons,lk_cons,lk_frS st ms r t]
  split <;> rfl
theorem lk_frB (st:St) (ms:List Nat):∀ (l:List (Nat × List Ce)) (t:Nat),lk (frB st ms l) t=(lk l t).map (fun cs=>cs.map (frC st ms))
 | [],t=>rfl
 | (u,v) :: r,t=>by
  rw [frB,lk_cons,lk_cons,lk_frB st ms r t]
  split <;> rfl
theorem lk_frR (ms:List Nat):∀ (l:List (Nat × Row)) (t:Nat),lk (frR ms l) t=bif memb t ms then lk l t else none
 | [],t=>by cases memb t ms <;> rfl
 | (u,v) :: r,t=>by
  rw [frR,lk_cons]
  by_cases h:u=t
  ·subst h
   rw [if_pos rfl]
   cases hm:memb u ms
   ·rw [cond_false,lk_frR ms r u,hm]
    rfl
   ·rw [cond_true,lk_cons,if_pos rfl]
    rfl
  ·rw [if_neg h,← lk_frR ms r t]
   cases memb u ms
   ·rfl
   ·rw [cond_true,lk_cons,if_neg h]
theorem lk_self (ms:List Nat) (n:Nat):lk (ms.map fun m=>(m,m)) n=bif memb n ms then some n else none:=by
 induction ms with
 | nil=>rfl
 | cons m ms ih=>
  rw [List.map_cons,lk_cons,ih]
  show _=bif (bif Nat.beq m n then true else memb n ms) then some n else none
  by_cases h:m=n
  ·subst h
   rw [if_pos rfl,show Nat.beq m m=true by simp]
   rfl
  ·rw [if_neg h,show Nat.beq m n=false by
    cases hb:Nat.beq m n
    ·rfl
    ·exact absurd (Nat.eq_of_beq_eq_true hb) h]
   rfl
theorem sw_self (ms:List Nat):sw (ms.map fun m=>(m,m))=ms.map fun m=>(m,m):=by
 unfold sw
 rw [List.map_map]
 rfl
theorem memb_mem {n:Nat}:∀ {ms:List Nat},n∈ms→memb n ms=true
 | m :: r,h=>by
  unfold memb
  rcases List.mem_cons.1 h with rfl|h
  ·rw [show Nat.beq n n=true by simp];rfl
  ·cases Nat.beq m n
   ·exact memb_mem h
   ·rfl
theorem mOk_self (ms:List Nat):mOk (ms.map fun m=>(m,m))=true:=by
 unfold mOk
 rw [List.all_eq_true]
 intro p hp
 obtain ⟨m,hm,rfl⟩:=List.mem_map.1 hp
 rw [sw_self]
 simp only [lk_self,memb_mem hm,cond_true]
 simp
theorem frC_ceM (st:St) (ms:List Nat) (_hsh:∀ τ R,memb τ ms=true→lk st.rw τ=some R→R.shut=true) (c:Ce):CeM st (ms.map fun m=>(m,m)) (frR ms st.rw) c (frC st ms c):=by
 cases c with
 | t x=>exact rfl
 | nil=>exact trivial
 | bot=>exact trivial
 | row τ ver=>
  unfold frC
  simp only
  cases hq:lk st.rw τ with
  | none=>exact trivial
  | some R=>
   simp only
   cases hb:Nat.beq R.ver ver&&R.shut with
   | false=>exact trivial
   | true=>
    rw [Bool.and_eq_true] at hb
    have hv:=Nat.eq_of_beq_eq_true hb.1
    simp only [cond_true]
    cases hm:memb τ ms with
    | true=>
     simp only [cond_true]
     unfold CeM
     simp only [lk_frR,lk_self,hm,cond_true,hq]
     exact ⟨hv,trivial,hv⟩
    | false=>
     simp only [cond_false]
     unfold CeM
     simp only [hq,sw_self,lk_self,hm,cond_false]
     refine ⟨hv,trivial,?_⟩
     rw [hb.2]
     exact trivial
theorem frC_cesM (st:St) (ms:List Nat) (hsh:∀ τ R,memb τ ms=true→lk st.rw τ=some R→R.shut=true):∀ cs:List Ce,CesM st (ms.map fun m=>(m,m)) (frR ms st.rw) cs (cs.map (frC st ms))
 | []=>trivial
 | c :: cs=>⟨frC_ceM st ms hsh c,frC_cesM st ms hsh cs⟩
theorem Wk.frz0 (ms:List Nat) (st:St) (hsh:∀ τ R,memb τ ms=true→lk st.rw τ=some R→R.shut=true):Wk st (frz0 ms st):=by
 intro O _ E w n0 N a r
 obtain ⟨sl,bx,rw',nx⟩:=st
 have hasB:∀ b cs,lk bx b=some cs→hasK (frB ⟨sl,bx,rw',nx⟩ ms bx) b=true:=fun b cs h=>by
  unfold hasK
  rw [lk_frB,h]
  rfl
 have get:∀ t,(Cg.frz0 ms ⟨sl,bx,rw',nx⟩).get t=.bot∨AvM ⟨sl,bx,rw',nx⟩ (ms.map fun m=>(m,m)) (frR ms rw') (frB ⟨sl,bx,rw',nx⟩ ms bx) (St.get ⟨sl,bx,rw',nx⟩ t) ((Cg.frz0 ms ⟨sl,bx,rw',nx⟩).get t):=fun t=>by
  have hs:=r.sc.sb t
  show (match lk (frS ⟨sl,bx,rw',nx⟩ ms sl) t with|some v=>v|none=>.bot)=.bot∨AvM _ _ _ _ _ (match lk (frS ⟨sl,bx,rw',nx⟩ ms sl) t with|some v=>v|none=>.bot)
  rw [lk_frS]
  have hs:∀ b∈(match lk sl t with|some v=>v|none=>AV.bot).bids,St.hasB ⟨sl,bx,rw',nx⟩ b:=hs
  cases hq:lk sl t with
  | none=>exact .inl rfl
  | some v=>
   rw [hq] at hs
   have hg:St.get ⟨sl,bx,rw',nx⟩ t=v:=by
    show (match lk sl t with|some v=>v|none=>.bot)=v
    rw [hq]
   rw [hg]
   show frA _ ms v=.bot∨AvM _ _ _ _ v (frA _ ms v)
   cases v with
   | c x=>exact .inr (frC_ceM _ ms hsh x)
   | agg xs=>exact .inr (frC_cesM _ ms hsh xs)
   | ptr b o=>
    obtain ⟨cs,hcs⟩:=hs b List.mem_cons_self
    exact .inr ⟨rfl,rfl,hasB b cs hcs⟩
   | iptr xs o=>exact .inr ⟨rfl,rfl⟩
   | eptr _ _ _ _ _=>exact .inl rfl
   | sub _ _ _ _=>exact .inl rfl
   | nilp=>exact .inr trivial
   | tup _=>exact .inl rfl
   | fn f caps=>
    refine .inr ⟨rfl,rfl,List.all_eq_true.2 fun p hp=>?_⟩
    obtain ⟨cs,hcs⟩:=hs p.1 (List.mem_map.2 ⟨p,hp,rfl⟩)
    exact hasB p.1 cs hcs
   | fnI f caps=>exact .inr ⟨rfl,rfl⟩
   | bot=>exact .inl rfl
 have rowl:∀ τ' R',lk (frR ms rw') τ'=some R'→(∃ τ R,lk (ms.map fun m=>(m,m)) τ'=some τ∧lk rw' τ=some R∧R.ty=R'.ty∧R.k=R'.k∧R.xs=R'.xs∧R.dp=R'.dp∧R.shut=true)∨(lk (ms.map fun m=>(m,m)) τ'=none∧R'.xs=[]∧R'.shut=true):=fun τ' R' h=>by
  rw [lk_frR] at h
  cases hm:memb τ' ms with
  | true=>
   rw [hm] at h
   exact .inl ⟨τ',R',by rw [lk_self,hm];rfl,h,rfl,rfl,rfl,rfl,hsh τ' R' hm h⟩
  | false=>
   rw [hm] at h
   cases h
 refine ⟨E.ma ⟨sl,bx,rw',nx⟩ (ms.map fun m=>(m,m)),⟨r.dfr,r.sz,fun t=>?_,fun i cs' hi=>?_,fun τ' R' hR=>row_ma r (mOk_self ms) (rowl τ' R' hR),⟨fun t b hb=>?_,fun t p hp=>?_,fun b cs hcs p hp=>?_,fun b cs hcs=>?_,fun τ R hR=>?_,fun τ R d hR hd l hl=>?_⟩,r.hi,fun b hb=>?_,fun b x hx=>?_,fun j V hj=>(by rw [OFree.v] at hj;cases hj),fun j V hj=>(by rw [OFree.b] at hj;cases hj),r.sn⟩⟩
 ·rcases get t with h|h
  ·rw [h];exact trivial
  ·exact (avM_r1 r h (r.slt t)).rv
 ·have hi:lk (frB ⟨sl,bx,rw',nx⟩ ms bx) i=some cs':=hi
  rw [lk_frB] at hi
  cases hq:lk bx i with
  | none=>rw [hq] at hi;cases hi
  | some cs=>
   rw [hq] at hi
   cases hi
   obtain ⟨vs,t,g1,g2,g3,g4⟩:=r.box i cs hq
   refine ⟨vs,t,g1,g2,?_,cesM_a2 (rw':=frR ms rw') r (frC_cesM _ ms hsh cs) g4⟩
   unfold Env.ma
   simp only [g3]
 ·rcases get t with h|h
  ·rw [h] at hb;cases hb
  ·exact (avM_nm h).1 b hb
 ·rcases get t with h|h
  ·rw [h] at hp;cases hp
  ·obtain ⟨R,h1,h2⟩:=(avM_nm h).2 p hp
   exact ⟨R,h1,Nat.le_of_eq h2.symm⟩
 ·have hcs:lk (frB ⟨sl,bx,rw',nx⟩ ms bx) b=some cs:=hcs
  rw [lk_frB] at hcs
  cases hq:lk bx b with
  | none=>rw [hq] at hcs;cases hcs
  | some cs0=>
   rw [hq] at hcs
   cases hcs
   obtain ⟨R,h3,h4⟩:=cesM_nm (frC_cesM ⟨sl,bx,rw',nx⟩ ms hsh cs0) p hp
   exact ⟨R,h3,Nat.le_of_eq h4.symm⟩
 ·have hcs:lk (frB ⟨sl,bx,rw',nx⟩ ms bx) b=some cs:=hcs
  rw [lk_frB] at hcs
  cases hq:lk bx b with
  | none=>rw [hq] at hcs;cases hcs
  | some cs0=>exact r.sc.fb b cs0 hq
 ·have hR:lk (frR ms rw') τ=some R:=hR
  rw [lk_frR] at hR
  cases hm:memb τ ms with
  | true=>rw [hm] at hR;exact r.sc.fr τ R hR
  | false=>rw [hm] at hR;cases hR
 ·have hR:lk (frR ms rw') τ=some R:=hR
  rw [lk_frR] at hR
  cases hm:memb τ ms with
  | true=>
   rw [hm] at hR
   rw [shut_ln (hsh τ R hm hR) hd] at hl
   cases hl
  | false=>rw [hm] at hR;cases hR
 ·rcases r.old b hb with ⟨h1,h2⟩|h1
  ·exact .inl ⟨ma_cold b h1,h2⟩
  ·exact .inr (ma_non b h1)
 ·obtain ⟨h1,h2⟩:=r.gh b x hx
  exact ⟨h1,h2.elim (fun h=>.inl ⟨ma_cold b h.1,h.2⟩) (fun h=>.inr ⟨ma_non b h.1,h.2⟩)⟩
theorem Wk.frz (ms:List Nat) (st:St):Wk st (Cg.frz ms st):=by
 obtain ⟨sl,bx,rw',nx⟩:=st
 exact Wk.frz0 _ _ fun τ R h hR=>shutN_ok hR h
theorem Tp.frz [OFree O] (ms:List Nat) {c:Code} {st:St} {Q:Ex→St→Prop} (h:Tp P T N w0 O c (Cg.frz ms st) Q):Tp P T N w0 O c st Q:=Tp.wk (Wk.frz ms st) h
def litA:AV→Bool
 | .c (.t (.lit _))=>true
 | .nilp=>true
 | .tup ars=>ars.all fun a=>match a with
  | .c (.t (.lit _))=>true
  | _=>false
 | _=>false
def litC:Ce→Bool
 | .t (.lit _)=>true
 | _=>false
def litB:AV→Bool
 | .c x=>litC x
 | .agg xs=>xs.all litC
 | .nilp=>true
 | _=>false
def litT:AV→Bool
 | .tup ars=>ars.all litB
 | a=>litB a
theorem Ct.lit {f:FuncId} {ars:List AV} {r:AV} {b:Bool} (h:Ct P f ars r [] b) (hl:litA r=true):Ct P f ars r [] true:=by
 refine ⟨h.ent,h.few,h.shut,h.plain,h.nob,h.rid,fun w vs E0 ha=>(h.run w vs E0 ha).mono ?_⟩
 rintro e w' ⟨v,rfl,hb,E,hr,_,_⟩
 refine ⟨v,rfl,hb,⟨fun _=>.non,fun _=>0,fun _ _=>undef⟩,?_,fun j R hj=>by simp at hj,fun b _ hc=>by cases hc⟩
 have one:∀ {u:Value} {x:Value} {E':Env},RT E.F w' u (.lit x)→RT E'.F w' u (.lit x):=fun h=>by
  cases h with
  | lit h=>exact .lit h
 cases r with
 | c x=>
  cases x with
  | t y=>
   cases y with
   | lit x=>exact one hr
   | sl _ _=>cases hl
  | _=>cases hl
 | nilp=>exact hr
 | tup ars=>
  obtain ⟨us,rfl,ha⟩:=hr
  refine ⟨us,rfl,?_⟩
  have:∀ {us:List Value} {ars:List AV},(ars.all fun a=>match a with
   | .c (.t (.lit _))=>true
   | _=>false)=true→A2 (R1 E w') us ars→A2 (R1 ⟨fun _=>.non,fun _=>0,fun _ _=>undef⟩ w') us ars:=fun {us ars} hl h=>by
   induction h with
   | nil=>exact .nil
   | @cons u a us ars h1 _ ih=>
    rw [List.all_cons,Bool.and_eq_true] at hl
    refine .cons ?_ (ih hl.2)
    have hl:=hl.1
    split at hl
    ·exact one h1
    ·cases hl
  exact this hl ha
 | _=>cases hl
theorem litC_rc {E E':Env} {w:World} {u:Value} {x:Ce} (hl:litC x=true) (h:RC E w u x):RC E' w u x:=by
 cases x with
 | t y=>
  cases y with
  | lit x=>
   have h1:RT E.F w u (.lit x):=h
   cases h1 with
   | lit h2=>exact RT.lit h2
  | sl _ _=>cases hl
 | _=>cases hl
theorem litC_a2 {E E':Env} {w:World}:∀ {us:List Value} {xs:List Ce},xs.all litC=true→A2 (RC E w) us xs→A2 (RC E' w) us xs
 | _,_,_,.nil=>.nil
 | _,_,hl,.cons h1 h2=>by
  rw [List.all_cons,Bool.and_eq_true] at hl
  exact .cons (litC_rc hl.1 h1) (litC_a2 hl.2 h2)
theorem litB_r1 {E E':Env} {w:World} {u:Value} {a:AV} (hl:litB a=true) (h:R1 E w u a):R1 E' w u a:=by
 cases a with
 | c x=>exact litC_rc hl h
 | agg xs=>
  obtain ⟨vs,rfl,ha⟩:=h
  exact ⟨vs,rfl,litC_a2 hl ha⟩
 | nilp=>exact h
 | _=>cases hl
theorem litB_a2 {E E':Env} {w:World}:∀ {us:List Value} {xs:List AV},xs.all litB=true→A2 (R1 E w) us xs→A2 (R1 E' w) us xs
 | _,_,_,.nil=>.nil
 | _,_,hl,.cons h1 h2=>by
  rw [List.all_cons,Bool.and_eq_true] at hl
  exact .cons (litB_r1 hl.1 h1) (litB_a2 hl.2 h2)
theorem Ct.litT {f:FuncId} {ars:List AV} {r:AV} {b:Bool} (h:Ct P f ars r [] b) (hl:Cg.litT r=true):Ct P f ars r [] true:=by
 refine ⟨h.ent,h.few,h.shut,h.plain,h.nob,h.rid,fun w vs E0 ha=>(h.run w vs E0 ha).mono ?_⟩
 rintro e w' ⟨v,rfl,hb,E,hr,_,_⟩
 refine ⟨v,rfl,hb,⟨fun _=>.non,fun _=>0,fun _ _=>undef⟩,?_,fun j R hj=>by simp at hj,fun b _ hc=>by cases hc⟩
 cases r with
 | tup ars=>
  obtain ⟨us,rfl,ha⟩:=hr
  exact ⟨us,rfl,litB_a2 hl ha⟩
 | c x=>exact (litB_r1 (a:=.c x) hl hr).rv
 | agg x=>exact (litB_r1 (a:=.agg x) hl hr).rv
 | nilp=>exact hr
 | _=>cases hl
theorem cI {f:FuncId} {ars:List AV} {r:AV} {rs:List Row} {fresh:Bool} {A:List AV→Prop} {B:Bool→Prop} {K:AV→List Row→Prop} {X:Prop} (ct:Ct P f ars r rs fresh) (h1:A ars) (h2:B fresh) (h3:K r rs):(∃ ars r rs fresh,A ars∧Ct P f ars r rs fresh∧B fresh∧K r rs)∨X:=.inl ⟨ars,r,rs,fresh,h1,ct,h2,h3⟩
theorem cM {f:FuncId} {ars:List AV} {ib:List (List Ce)} {ir:List Row} {rv:AV} {ob:List (List Ce)} {orr nr:List Row} {A:List Nat→List (Nat × Nat)→List AV→List (List Ce)→List Row→Prop} {B:List Nat→List (Nat × Nat)→Prop} {K:List Nat→List (Nat × Nat)→AV→List (List Ce)→List Row→List Row→Prop} {X:Prop} (mb:List Nat) (mr:List (Nat × Nat)) (ct:CtM P f ars ib ir rv ob orr nr) (h1:A mb mr ars ib ir) (h2:B mb mr) (h3:K mb mr rv ob orr nr):X∨∃ mb mr ars ib ir rv ob orr nr,A mb mr ars ib ir∧B mb mr∧CtM P f ars ib ir rv ob orr nr∧K mb mr rv ob orr nr:=.inr ⟨mb,mr,ars,ib,ir,rv,ob,orr,nr,h1,h2,ct,h3⟩
theorem fL {st:St}:∀ (ts:List Tr),FitL st (ts.map .t) (ts.map .t)
 | []=>trivial
 | _ :: ts=>⟨rfl,fL ts⟩
theorem all_bound {α:Type} (ys:List α) (by_:Nat) (h:ys.length*by_≤limB):(([]:List α).length+ys.length)*by_≤140737488355328:=by
 unfold limB at h
 simp only [List.length_nil,Nat.zero_add]
 omega
theorem all_bound2 {α:Type} (ys:List α) (by_:Nat) (hb:0 < by_) (h:ys.length*by_≤limB):([]:List α).length+ys.length < 140737488355328:=by
 have:ys.length*1≤ys.length*by_:=Nat.mul_le_mul_left _ hb
 unfold limB at h
 simp only [List.length_nil,Nat.zero_add]
 omega
theorem map_bound {α β:Type} (f:α→β) (ys:List α) (by_:Nat) (h:ys.length*by_≤limB):(ys.map f).length*by_≤limB:=by rw [Lm];exact h
theorem map_get {α β:Type} (l:List α) (f:α→β) (k:Nat) (hk:k < l.length):(l.map f)[k]? = some (f l[k]):=by rw [List.getElem?_map,List.getElem?_eq_getElem hk];rfl
theorem len_lt {α β:Type} {l:List α} {f:α→β} {k:Nat} (h:decide ((k:Int) < (((l.map f).length:Nat):Int))=true):k < l.length:=by
 have:=of_decide_eq_true h
 rw [Lm] at this
 omega
theorem len_ge {α β:Type} {l:List α} {f:α→β} {k:Nat} (h:decide ((k:Int) < (((l.map f).length:Nat):Int))=false) (hk:k≤l.length):k=l.length:=by
 have:=of_decide_eq_false h
 rw [Lm] at this
 omega
theorem succ_eq (k:Nat) {α:Type} {l:List α} (hk:k < l.length) (b:Nat) (hb:0 < b) (h:l.length*b≤limB):iv (IntKind.i64.wrap ((k:Int)+1))=iv ((k+1:Nat):Int):=by
 have:l.length*1≤l.length*b:=Nat.mul_le_mul_left _ hb
 unfold limB at h
 rw [wrap_succ k (by omega)]
end
section
variable {P:Program} {T:Nat→Option Ty} {N:Nat}
def Eqs (e:Ex) (s:St):Ex→St→Prop:=fun e2 s2=>e2=e∧s2=s
section
variable (P:Program) (T:Nat→Option Ty) (N:Nat)
def Run (c:Code) (s:St) (e:Ex) (s':St):Prop:=∀ w0 (O:Gst) [OFree O],Tp P T N w0 O c s (Eqs e s')
def TpX (c:Code) (s:St) (Q:Ex→St→Prop):Prop:=∃ e s',Run P T N c s e s'∧Q e s'
inductive Rnd (c:Code) (e:Ex) (s':St):Nat→St→Prop
  | stop {s:St}:Run P T N c s e s'→e≠.nrm→Rnd c e s' 0 s
  | next {n:Nat} {s s1 s2:St}:Run P T N c s .nrm s1→Wk s1 s2→Rnd c e s' n s2→Rnd c e s' (n+1) s
def LpX (c:Code) (s:St) (Q:Ex→St→Prop):Prop:=∃ n e s',Rnd P T N c e s' n s∧Q e s'
def WPrX (cs:List Nat) (id:Nat) (ops:Array Oper) (d:Bool) (st:St) (Q:Ex→St→Prop):Prop:=match st with
  | ⟨sl0,bx0,rw0,nx0⟩=>match cs.contains id with
    | true=>TpX P T N (.region id ops d) ⟨sl0,bx0,rw0,nx0⟩ Q
    | false=>match !d||modsD T ⟨sl0,bx0,rw0,nx0⟩ (befs ops.toList []) ops.toList with
      | true=>WPops P T ops nx0 0 ops.toList ⟨sl0,bx0,rw0,nx0⟩ fun st'=>match st' with
        | ⟨sl,bx,rw,_⟩=>forceN (nx0+128*ops.size) fun nx=>Q .nrm ⟨sl,bx,rw,nx⟩
      | false=>False
def WPX (cs:List Nat) (c:Code):St→(Ex→St→Prop)→Prop:=
  Code.rec (motive:=fun _=>St→(Ex→St→Prop)→Prop) (fun st Q=>Q .nrm st) (fun id ops d st Q=>WPrX P T N cs id ops d st Q) (fun _ _ iha ihb st Q=>iha st (nextQ (fun st'=>ihb st' Q) Q))
    (fun c _ _ iha ihb st Q=>WPc c st (iha st Q) (ihb st Q)) (fun id _ ih st Q=>ih st (blkQ id Q)) (fun c _ st Q=>LpX P T N c st Q) (fun _ _ _ _ _ _ _ _=>False) (fun id st Q=>Q (.exit id) st)
    (fun _ _ _ _=>False) (fun _ _ _=>False) (fun _ _ _=>False) (fun st Q=>Q .ret st) (fun _ _ _=>False) c
end
theorem Run.skip (s:St):Run P T N .skip s .nrm s:=fun _ _ _ _ _ E _ _ r hb=>wp_skip ⟨s,E,⟨rfl,rfl⟩,r,hb⟩
theorem Run.ret (s:St):Run P T N .ret s .ret s:=fun _ _ _ _ _ E _ _ r hb=>wp_ret ⟨s,E,⟨rfl,rfl⟩,r,hb⟩
theorem Run.exit (id:Nat) (s:St):Run P T N (.exit id) s (.exit id) s:=fun _ _ _ _ _ E _ _ r hb=>wp_exit ⟨s,E,⟨rfl,rfl⟩,r,hb⟩
theorem Run.seq {x y:Code} {s s1 s':St} {e:Ex} (h:Run P T N x s .nrm s1) (k:Run P T N y s1 e s'):Run P T N (.seq x y) s e s':=fun w0 O _ hT hc E a w r hb=>by
  unfold codeOk at hc
  rw [Bool.and_eq_true] at hc
  refine wp_seq (wp_mono (h w0 O hT hc.1 E a w r hb) fun e' a' w' hp=>?_)
  cases e' with
  | normal=>
    obtain ⟨st',E',⟨_,rfl⟩,r',hb'⟩:=hp
    exact k w0 O hT hc.2 E' a' w' r' hb'
  | exit id=>
    obtain ⟨st',E',⟨hq,_⟩,r',hb'⟩:=hp
    cases hq
  | ret=>
    obtain ⟨st',E',⟨hq,_⟩,r',hb'⟩:=hp
    cases hq
  | goto l=>exact hp.elim
  | panic ch=>exact hp.elim
  | outgrown=>exact hp.elim
theorem Run.out {x y:Code} {s s':St} {e:Ex} (h:Run P T N x s e s') (he:e≠.nrm):Run P T N (.seq x y) s e s':=fun w0 O _ hT hc E a w r hb=>by
  unfold codeOk at hc
  rw [Bool.and_eq_true] at hc
  refine wp_seq (wp_mono (h w0 O hT hc.1 E a w r hb) fun e' a' w' hp=>?_)
  cases e' with
  | normal=>
    obtain ⟨st',E',⟨hq,_⟩,r',hb'⟩:=hp
    exact absurd hq.symm he
  | exit id=>exact hp
  | ret=>exact hp
  | goto l=>exact hp.elim
  | panic ch=>exact hp.elim
  | outgrown=>exact hp.elim
theorem Run.cond {c:Operand} {x y:Code} {s s':St} {e:Ex} {t:Bool} (ht:ev s c=.c (.t (.lit (.bool t)))) (h1:t=true→Run P T N x s e s') (h2:t=false→Run P T N y s e s'):Run P T N (.cond c x y) s e s':=fun w0 O _ hT hc E a w r hb=>by
  unfold codeOk at hc
  rw [Bool.and_eq_true] at hc
  have hv:=ev_rv r c
  rw [ht] at hv
  refine wp_cond_split (rv_lit hv) (fun e=>?_) (fun e=>?_)
  · exact h1 e w0 O hT hc.1 E a w r hb
  · exact h2 e w0 O hT hc.2 E a w r hb
theorem Run.block {id:Nat} {c:Code} {s s':St} {e e':Ex} (h:Run P T N c s e s') (he:e'=match e with
    | .exit i=>bif Nat.beq i id then .nrm else .exit i
    | e=>e):Run P T N (.block id c) s e' s':=fun w0 O _ hT hc E a w r hb=>by
  unfold codeOk at hc
  refine wp_block (wp_mono (h w0 O hT hc E a w r hb) fun e2 a' w' hp=>?_)
  cases e2 with
  | normal=>
    obtain ⟨st',E',⟨rfl,rfl⟩,r',hb'⟩:=hp
    exact ⟨st',E',⟨he.symm,rfl⟩,r',hb'⟩
  | exit i=>
    obtain ⟨st',E',⟨rfl,rfl⟩,r',hb'⟩:=hp
    simp only at he
    show (if i=id then cpost w0 N O (Eqs e' st') .normal a' w' else cpost w0 N O (Eqs e' st') (.exit i) a' w')
    by_cases hi:i=id
    · subst hi
      rw [show Nat.beq i i=true by simp,cond_true] at he
      rw [if_pos rfl]
      exact ⟨st',E',⟨he.symm,rfl⟩,r',hb'⟩
    · rw [show Nat.beq i id=false by
        cases hb:Nat.beq i id
        · rfl
        · exact absurd (Nat.eq_of_beq_eq_true hb) hi,cond_false] at he
      rw [if_neg hi]
      exact ⟨st',E',⟨he.symm,rfl⟩,r',hb'⟩
  | ret=>
    obtain ⟨st',E',⟨rfl,rfl⟩,r',hb'⟩:=hp
    exact ⟨st',E',⟨he.symm,rfl⟩,r',hb'⟩
  | goto l=>exact hp.elim
  | panic ch=>exact hp.elim
  | outgrown=>exact hp.elim
theorem Run.wk {c:Code} {s s1 s':St} {e:Ex} (hw:Wk s s1) (h:Run P T N c s1 e s'):Run P T N c s e s':=fun w0 O _=>Tp.wk hw (h w0 O)
theorem Rnd.wk {c:Code} {s s1 s':St} {e:Ex} {n:Nat} (hw:Wk s s1) (h:Rnd P T N c e s' n s1):Rnd P T N c e s' n s:=by
  cases h with
  | stop h1 h2=>exact .stop (h1.wk hw) h2
  | next h1 h2 h3=>exact .next (h1.wk hw) h2 h3
theorem TpX.wk {c:Code} {s s1:St} {Q:Ex→St→Prop} (hw:Wk s s1) (h:TpX P T N c s1 Q):TpX P T N c s Q:=by
  obtain ⟨e,s',h1,h2⟩:=h
  exact ⟨e,s',h1.wk hw,h2⟩
theorem LpX.wk {c:Code} {s s1:St} {Q:Ex→St→Prop} (hw:Wk s s1) (h:LpX P T N c s1 Q):LpX P T N c s Q:=by
  obtain ⟨n,e,s',h1,h2⟩:=h
  exact ⟨n,e,s',h1.wk hw,h2⟩
theorem TpX.frz (ms:List Nat) {c:Code} {s:St} {Q:Ex→St→Prop} (h:TpX P T N c (Cg.frz ms s) Q):TpX P T N c s Q:=h.wk (Wk.frz ms s)
theorem Rnd.run {c:Code} {s s':St} {e:Ex} {n:Nat} (h:Rnd P T N c e s' n s):Run P T N (.loop c) s e s':=fun w0 O _ hT hc E a w r hb=>by
  unfold codeOk at hc
  refine wp_loop_n (fun n a w=>∃ x E,Rnd P T N c e s' n x∧RepS O E w w0.heap.size N x a∧Below w0.heap.size w0 w) (n:=n) ⟨s,E,h,r,hb⟩ ?_
  rintro n a w ⟨x,E,hx,r,hb⟩
  cases hx with
  | stop h1 h2=>
    refine wp_mono (h1 w0 O hT hc E a w r hb) fun e2 a' w' hp=>?_
    cases e2 with
    | normal=>
      obtain ⟨st',E',⟨hq,_⟩,_⟩:=hp
      exact absurd hq.symm h2
    | exit id=>exact hp
    | ret=>exact hp
    | goto l=>exact hp.elim
    | panic ch=>exact hp.elim
    | outgrown=>exact hp.elim
  | @next n s s1 s2 h1 h2 h3=>
    refine wp_mono (h1 w0 O hT hc E a w r hb) fun e2 a' w' hp=>?_
    cases e2 with
    | normal=>
      obtain ⟨st',E',⟨_,rfl⟩,r',hb'⟩:=hp
      obtain ⟨E2,r2⟩:=h2 O E' w' _ N a' r'
      exact ⟨n,Nat.lt_succ_self n,s2,E2,h3,r2,hb'⟩
    | exit id=>
      obtain ⟨st',E',⟨hq,_⟩,_⟩:=hp
      cases hq
    | ret=>
      obtain ⟨st',E',⟨hq,_⟩,_⟩:=hp
      cases hq
    | goto l=>exact hp.elim
    | panic ch=>exact hp.elim
    | outgrown=>exact hp.elim
theorem LpX.tpx {c:Code} {s:St} {Q:Ex→St→Prop} (h:LpX P T N c s Q):TpX P T N (.loop c) s Q:=by
  obtain ⟨n,e,s',h1,h2⟩:=h
  exact ⟨e,s',h1.run,h2⟩
theorem Run.region {id:Nat} {ops:Array Oper} {d:Bool} {s:St} {K:St→Prop} (hmods:(!d||modsD T s (befs ops.toList []) ops.toList)=true) (h:WPops P T ops s.nx 0 ops.toList s K):∃ sl bx rw nx,K ⟨sl,bx,rw,nx⟩∧Run P T N (.region id ops d) s .nrm ⟨sl,bx,rw,s.nx+128*ops.size⟩:=by
  obtain ⟨L,hL,hp,⟨sl,bx,rw',nx⟩,hK,he⟩:=ops_path ops.toList [] s _ (Eqv.refl _) (fun j o d hj=>by simp at hj) h
  rw [List.nil_append] at hp he
  refine ⟨sl,bx,rw',nx,hK,fun w0 O _ hT hc E a w r hb=>?_⟩
  have hreg:regOk N ops d=true:=hc
  have k0:=r.kb
  have r0:RepM O E w w0.heap.size N (s.nx+128*ops.size) s a:=r.mono (by omega)
  have fin:∀ E' w' a',RepM O E' w' w0.heap.size N (s.nx+128*ops.size) (appAll s L) a'→Below w0.heap.size w0 w'→cpost w0 N O (Eqs .nrm ⟨sl,bx,rw',s.nx+128*ops.size⟩) .normal a' w':=fun E' w' a' r' hb'=>by
    refine ⟨_,E',⟨rfl,rfl⟩,?_,hb'⟩
    have he':Eqv (appAll s L) ⟨sl,bx,rw',s.nx+128*ops.size⟩:=⟨he.sl,he.bx,he.rw⟩
    exact he'.rep r'
  cases d with
  | false=>
    refine wp_region ?_
    rw [List.range_eq_range']
    exact listed_sound hT hreg hL hp k0 (Nat.le_refl _) ops.size 0 E w a (by omega) (by simpa [appAll] using r0) fun E' w' a' r' hb'=>fin E' w' a' r' (hb.trans hb')
  | true=>
    refine wp_region_any hT.mixed ?_
    have hrep:∀ i,(Array.replicate ops.size false).getD i false=false:=fun i=>by
      rw [Array.getD_eq_getD_getElem?]
      cases hq:(Array.replicate ops.size false)[i]? with
      | none=>rfl
      | some x=>
        rw [Array.getElem?_replicate] at hq
        split at hq
        · cases hq;rfl
        · cases hq
    have hsel:stD s L (fun i=>(Array.replicate ops.size false).getD i false)=s:=by
      unfold stD
      rw [sel_none fun k _=>hrep _]
      rfl
    have hw:({ w with drawn:=w.drawn+1 }:World).heap=w.heap:=rfl
    refine drawn_sound hT hreg (by simpa using hmods) hL hp k0 (Nat.le_refl _) ops.size _ E _ a (by simp) ?_ ⟨?_,?_,?_,?_⟩ fun E' w' a' r' hb'=>fin E' w' a' r' (hb.trans ⟨hb'.os,hb'.tape,hb'.output,hb'.size,hb'.block⟩)
    · have:∀ n,cnt (fun i=>(Array.replicate ops.size false).getD i false) n≤n:=fun n=>by
        induction n with
        | zero=>exact Nat.le_refl _
        | succ n ih=>
          unfold cnt
          rw [hrep n]
          simp only [cond_false]
          omega
      exact this _
    · rw [hsel]
      exact r0.heap hw
    · intro j o hj hD
      have hD:(Array.replicate ops.size false).getD j false=true:=hD
      rw [hrep] at hD
      cases hD
    · intro b cs hcs
      rw [hsel] at hcs
      exact .inl (k0.1 b cs hcs)
    · intro b cs hcs
      rw [hsel] at hcs
      exact .inl (k0.2 b cs hcs)
theorem TpX.run (cs:List Nat):∀ {c:Code} {st:St} {Q:Ex→St→Prop},WPX P T N cs c st Q→TpX P T N c st Q
  | .skip,st,Q,h=>⟨_,_,Run.skip st,h⟩
  | .region id ops d,⟨sl0,bx0,rw0,nx0⟩,Q,h=>by
    have h:WPrX P T N cs id ops d ⟨sl0,bx0,rw0,nx0⟩ Q:=h
    unfold WPrX at h
    simp only at h
    cases hc:cs.contains id with
    | true=>rw [hc] at h;exact h
    | false=>
      rw [hc] at h
      simp only at h
      split at h
      · rename_i hm
        obtain ⟨sl,bx,rw',nx,hK,hr⟩:=Run.region (N:=N) (id:=id) (d:=d) (s:=⟨sl0,bx0,rw0,nx0⟩) hm h
        simp only [forceN_eq] at hK
        exact ⟨_,_,hr,hK⟩
      · exact h.elim
  | .seq x y,st,Q,h=>by
    have h:WPX P T N cs x st (nextQ (fun st'=>WPX P T N cs y st' Q) Q):=h
    obtain ⟨e,s1,h1,h2⟩:=TpX.run cs h
    cases e with
    | nrm=>
      obtain ⟨e2,s2,h3,h4⟩:=TpX.run cs (show WPX P T N cs y s1 Q from h2)
      exact ⟨e2,s2,h1.seq h3,h4⟩
    | exit id=>exact ⟨_,_,h1.out (by simp),h2⟩
    | ret=>exact ⟨_,_,h1.out (by simp),h2⟩
  | .cond c x y,st,Q,h=>by
    have h:WPc c st (WPX P T N cs x st Q) (WPX P T N cs y st Q):=h
    unfold WPc at h
    split at h
    · rename_i t ht
      cases t with
      | true=>
        obtain ⟨e,s',h1,h2⟩:=TpX.run cs (show WPX P T N cs x st Q from h)
        exact ⟨e,s',Run.cond ht (fun _=>h1) (fun h=>by cases h),h2⟩
      | false=>
        obtain ⟨e,s',h1,h2⟩:=TpX.run cs (show WPX P T N cs y st Q from h)
        exact ⟨e,s',Run.cond ht (fun h=>by cases h) (fun _=>h1),h2⟩
    · exact h.elim
  | .block id c,st,Q,h=>by
    have h:WPX P T N cs c st (blkQ id Q):=h
    obtain ⟨e,s',h1,h2⟩:=TpX.run cs h
    cases e with
    | nrm=>exact ⟨_,_,h1.block rfl,h2⟩
    | ret=>exact ⟨_,_,h1.block rfl,h2⟩
    | exit i=>
      unfold blkQ at h2
      simp only at h2
      cases hb:Nat.beq i id with
      | true=>
        rw [hb] at h2
        exact ⟨.nrm,s',h1.block (by simp only [hb,cond_true]),h2⟩
      | false=>
        rw [hb] at h2
        exact ⟨.exit i,s',h1.block (by simp only [hb,cond_false]),h2⟩
  | .loop c,st,Q,h=>LpX.tpx h
  | .exit id,st,Q,h=>⟨_,_,Run.exit id st,h⟩
  | .ret,st,Q,h=>⟨_,_,Run.ret st,h⟩
  | .label _,_,_,h=>h.elim
  | .goto _,_,_,h=>h.elim
  | .rangeFunc ..,_,_,h=>h.elim
  | .refuse _,_,_,h=>h.elim
theorem LpX.once {c:Code} {s:St} {Q:Ex→St→Prop} (h:TpX P T N c s (fun e s1=>match e with
    | .nrm=>LpX P T N c s1 Q
    | e=>Q e s1)):LpX P T N c s Q:=by
  obtain ⟨e,s1,h1,h2⟩:=h
  cases e with
  | nrm=>
    obtain ⟨n,e,s',h3,h4⟩:=h2
    exact ⟨n+1,e,s',.next h1 (Wk.refl _) h3,h4⟩
  | exit id=>exact ⟨0,_,_,.stop h1 (by simp),h2⟩
  | ret=>exact ⟨0,_,_,.stop h1 (by simp),h2⟩
theorem LpX.loop {c:Code} {st:St} {Q:Ex→St→Prop} {α:Type} (I:α→St) (ok:α→Prop) (μ:α→Nat) (x0:α) (h0:Wk st (I x0)) (hok:ok x0)
   (round:∀ x,ok x→TpX P T N c (I x) (fun e st'=>match e with
     | .nrm=>∃ y,ok y∧μ y < μ x∧Wk st' (I y)
     | e=>Q e st')):LpX P T N c st Q:=by
  have key:∀ n x,μ x=n→ok x→LpX P T N c (I x) Q:=by
    intro n
    induction n using Nat.strongRecOn with
    | _ n ih=>
      intro x hn hx
      obtain ⟨e,s1,h1,h2⟩:=round x hx
      cases e with
      | nrm=>
        obtain ⟨y,h3,h4,h5⟩:=h2
        obtain ⟨k,e,s',h6,h7⟩:=ih (μ y) (by omega) y rfl h3
        exact ⟨k+1,e,s',.next h1 h5 h6,h7⟩
      | exit id=>exact ⟨0,_,_,.stop h1 (by simp),h2⟩
      | ret=>exact ⟨0,_,_,.stop h1 (by simp),h2⟩
  exact (key _ x0 rfl hok).wk h0
theorem ctx_of {f:FuncId} {fn:Func} {c:Code} {ars:List AV} {G:AV→List Row→Prop} (hf:P.funcs[f]? = some fn) (hb:fn.body=some c) (he:Ent P f) (hT:TabOk P T) (hc:codeOk fn.ntmps c=true) (hn:Nat.ble ars.length fn.ntmps=true) (hpl:ars.all AV.plain=true)
    (h:TpX P T fn.ntmps c ⟨numA 0 ars,[],[],0⟩ (fun e st=>∃ rv rs,G rv rs∧(Nat.ble rs.length 128=true∧resB rv rs=true)∧FinE T fn rv rs e st)):∃ rv rs,G rv rs∧Ct P f ars rv rs false:=by
  obtain ⟨e,s',h1,rv,rs,h2,h3,h4⟩:=h
  exact ⟨rv,rs,h2,ct_of hf hb he hT hc hn hpl h3.1 h3.2 fun w0 O _=>Tp.mono (h1 w0 O) fun e2 s2 ⟨a,b⟩=>by subst a b;exact h4⟩
end
section
variable {P:Program} {T:Nat→Option Ty} {O:Gst}
def numI {α:Type}:Nat→List α→List (Nat × α)
  | _,[]=>[]
  | i,x :: r=>(i,x) :: numI (i+1) r
theorem lk_numI {α:Type}:∀ (l:List α) (i t:Nat),lk (numI i l) t=if i≤t then l[t - i]? else none
  | [],i,t=>by simp [numI,lk]
  | a :: l,i,t=>by
    rw [numI,lk_cons,lk_numI l (i+1) t]
    by_cases h:i=t
    · subst h
      simp
    · rw [if_neg h]
      by_cases h2:i≤t
      · rw [if_pos h2,if_pos (by omega),show t - i=t - (i+1)+1 by omega,List.getElem?_cons_succ]
      · rw [if_neg h2,if_neg (by omega)]
section
variable (st:St) (m:List (Nat × Nat)) (rw':List (Nat × Row)) (bx':List (Nat × List Ce))
def AvN (v:AV):AV→Prop
  | .eptr j u k i o=>(match v,lk m j,lk rw' j with
    | .eptr τ ver k' i' o',some τ',some R'=>τ'=τ∧R'.ver=u∧(match lk st.rw τ with
      | some R=>R.ver=ver
      | none=>False)∧k'=k∧i'=i∧o'=o
    | _,_,_=>False)
  | v'=>AvM st m rw' bx' v v'
def ResN (T:Nat→Option Ty):List ResultVar→List AV→Prop
  | [],[]=>True
  | x :: xs,r :: rs=>(match resA T st x with
    | some v=>AvN st m rw' bx' v r
    | none=>False)∧ResN T xs rs
  | _,_=>False
def VerM:Nat→List Row→Prop
  | _,[]=>True
  | j,R :: Rs=>(match R.ver with
    | 0=>lk m j=some j∧(match lk st.rw j with
      | some R'=>R'.ver=0
      | none=>False)
    | 1=>True
    | _=>False)∧VerM (j+1) Rs
end
def FinM (T:Nat→Option Ty) (fn:Func) (rv:AV) (ob:List (List Ce)) (orr nr:List Row) (e:Ex) (st:St):Prop:=match e with
  | .exit _=>False
  | _=>∃ m,(mOk m=true∧RwM st m (numR 0 0 (orr++nr))∧VerM st m 0 orr∧BxM st m (numR 0 0 (orr++nr)) (numI 0 ob))∧(match fn.results.toList with
    | [x]=>(match resA T st x with
      | some v=>AvN st m (numR 0 0 (orr++nr)) (numI 0 ob) v rv
      | none=>False)
    | xs=>(match rv with
      | .tup ys=>ResN st m (numR 0 0 (orr++nr)) (numI 0 ob) T xs ys
      | _=>False))
section
variable {E:Env} {w:World} {n0 N n:Nat} {st:St} {a:Act} {m:List (Nat × Nat)} {rw':List (Nat × Row)} {bx':List (Nat × List Ce)}
theorem avN_r1 (r:RepM O E w n0 N n st a) {u:Value} {v v':AV} (h:AvN st m rw' bx' v v') (hv:RV E w u v):R1 (E.ma st m) w u v':=by
  cases v' with
  | eptr j u' k i o=>
    unfold AvN at h
    simp only at h
    split at h
    · rename_i τ ver k' i' o' τ' R' h1 h2
      obtain ⟨rfl,_,h3,rfl,rfl,rfl⟩:=h
      obtain ⟨g,n,c,h4,h5⟩:=hv
      split at h3
      · rename_i R hR
        subst h3
        refine ⟨g,n,c,?_,h5⟩
        unfold Env.ma
        simp only [h1,hR]
        exact h4
      · exact h3.elim
    · exact h.elim
  | c x=>exact avM_r1 (rw':=rw') (bx':=bx') (v':=.c x) r h hv
  | agg x=>exact avM_r1 (rw':=rw') (bx':=bx') (v':=.agg x) r h hv
  | ptr b o=>exact avM_r1 (rw':=rw') (bx':=bx') (v':=.ptr b o) r h hv
  | iptr x o=>exact avM_r1 (rw':=rw') (bx':=bx') (v':=.iptr x o) r h hv
  | nilp=>exact avM_r1 (rw':=rw') (bx':=bx') (v':=.nilp) r h hv
  | tup x=>exact avM_r1 (rw':=rw') (bx':=bx') (v':=.tup x) r h hv
  | fn f x=>exact avM_r1 (rw':=rw') (bx':=bx') (v':=.fn f x) r h hv
  | fnI f x=>exact avM_r1 (rw':=rw') (bx':=bx') (v':=.fnI f x) r h hv
  | sub x y z i=>exact avM_r1 (rw':=rw') (bx':=bx') (v':=.sub x y z i) r h hv
  | bot=>exact trivial
theorem avN_nm {v v':AV} (h:AvN st m rw' bx' v v'):(∀ b∈v'.bids,∃ cs,lk bx' b=some cs)∧∀ p∈v'.rids,∃ R,lk rw' p.1=some R∧R.ver=p.2:=by
  cases v' with
  | eptr j u' k i o=>
    unfold AvN at h
    simp only at h
    split at h
    · rename_i τ ver k' i' o' τ' R' h1 h2
      obtain ⟨_,h3,_⟩:=h
      refine ⟨fun _ h=>(by cases h),fun p hp=>?_⟩
      obtain rfl:p=(j,u'):=by simpa [AV.rids,AV.rid1] using hp
      exact ⟨R',h2,h3⟩
    · exact h.elim
  | c x=>exact avM_nm (st:=st) (m:=m) (v:=v) (v':=.c x) h
  | agg x=>exact avM_nm (st:=st) (m:=m) (v:=v) (v':=.agg x) h
  | ptr b o=>exact avM_nm (st:=st) (m:=m) (v:=v) (v':=.ptr b o) h
  | iptr x o=>exact avM_nm (st:=st) (m:=m) (v:=v) (v':=.iptr x o) h
  | nilp=>exact avM_nm (st:=st) (m:=m) (v:=v) (v':=.nilp) h
  | tup x=>exact avM_nm (st:=st) (m:=m) (v:=v) (v':=.tup x) h
  | fn f x=>exact avM_nm (st:=st) (m:=m) (v:=v) (v':=.fn f x) h
  | fnI f x=>exact avM_nm (st:=st) (m:=m) (v:=v) (v':=.fnI f x) h
  | sub x y z i=>exact avM_nm (st:=st) (m:=m) (v:=v) (v':=.sub x y z i) h
  | bot=>exact ⟨fun _ h=>(by cases h),fun _ h=>by cases h⟩
theorem verM_get:∀ {orr:List Row} {i:Nat},VerM st m i orr→∀ (j:Nat) R,orr[j]? = some R→R.ver=0→lk m (i+j)=some (i+j)∧∃ R',lk st.rw (i+j)=some R'∧R'.ver=0
  | R0 :: orr,i,h,0,R,hj,hv=>by
    obtain rfl:=Option.some.inj hj
    obtain ⟨h1,_⟩:=h
    rw [hv] at h1
    obtain ⟨h2,h3⟩:=h1
    split at h3
    · rename_i R' hR'
      exact ⟨h2,R',hR',h3⟩
    · exact h3.elim
  | R0 :: orr,i,h,j+1,R,hj,hv=>by
    have:=verM_get h.2 j R hj hv
    rw [show i+1+j=i+(j+1) by omega] at this
    exact this
  | [],_,_,j,R,hj,_=>by simp at hj
def Env.mk2 (E:Env) (st:St) (m:List (Nat × Nat)) (q:Nat) (V:Nat→Value):Env:=⟨(E.ma st m).rl,E.bk,fun j u=>if j < q∧u=0 then V j else (E.ma st m).vl j u⟩
theorem mk2_vl {V:Nat→Value} {orr nr:List Row} (hV:∀ j,j < orr.length→(∃ R,lk st.rw j=some R)→E.vl j 0=V j) (hver:VerM st m 0 orr) {j:Nat} {R:Row} (hj:(orr++nr)[j]? = some R):(E.mk2 st m orr.length V).vl j R.ver=(E.ma st m).vl j R.ver:=by
  unfold Env.mk2
  simp only
  split
  · rename_i h
    rw [List.getElem?_append_left h.1] at hj
    obtain ⟨h1,R',h2,h3⟩:=verM_get hver j R hj h.2
    rw [Nat.zero_add] at h1 h2
    rw [← hV j h.1 ⟨R',h2⟩]
    unfold Env.ma
    simp only [h1,h2,h3]
  · rfl
theorem mk2_r1 {V:Nat→Value} {orr nr:List Row} (hV:∀ j,j < orr.length→(∃ R,lk st.rw j=some R)→E.vl j 0=V j) (hver:VerM st m 0 orr) {u:Value} {v:AV} (hn:∀ p∈v.rid1,∃ R,lk (numR 0 0 (orr++nr)) p.1=some R∧R.ver=p.2) (h:R1 (E.ma st m) w u v):R1 (E.mk2 st m orr.length V) w u v:=by
  refine R1.fr (E:=E.ma st m) (E':=E.mk2 st m orr.length V) (Nat.le_refl _) (fun b hb _=>⟨rfl,hb⟩) (fun p hp=>?_) (fun _ _=>rfl) h
  obtain ⟨R,h1,h2⟩:=hn p hp
  rw [lk_numR,if_pos (by omega)] at h1
  rw [← h2]
  exact mk2_vl hV hver (by simpa using h1)
end
theorem resN_run {E:Env} {w:World} {n0 N n:Nat} {st:St} {a:Act} {m:List (Nat × Nat)} {rw':List (Nat × Row)} {bx':List (Nat × List Ce)} (hT:TabOk P T) (r:RepM O E w n0 N n st a):∀ {xs:List ResultVar} {rs:List AV},ResN st m rw' bx' T xs rs→∃ us:List Value,(xs.mapM (resSem a)).run P w=.ok us w∧A2 (R1 (E.ma st m) w) us rs∧(∀ b∈rs.flatMap AV.bid1,∃ cs,lk bx' b=some cs)∧∀ p∈rs.flatMap AV.rid1,∃ R,lk rw' p.1=some R∧R.ver=p.2
  | [],[],_=>⟨[],by simp,.nil,fun _ h=>(by cases h),fun _ h=>by cases h⟩
  | x :: xs,y :: ys,h=>by
    obtain ⟨h1,h2⟩:=h
    split at h1
    · rename_i v hv
      obtain ⟨u,hu,hr⟩:=results_rv hT r hv
      obtain ⟨us,hus,ha,hb,hrr⟩:=resN_run hT r h2
      have hr1:=avN_r1 r h1 hr
      obtain ⟨g1,g2⟩:=avN_nm h1
      have e:y.bids=y.bid1∧y.rids=y.rid1:=by
        cases y with
        | tup _=>exact hr1.elim
        | _=>exact ⟨rfl,rfl⟩
      rw [e.1] at g1
      rw [e.2] at g2
      refine ⟨u :: us,?_,.cons hr1 ha,fun b hb'=>?_,fun p hp=>?_⟩
      · rw [List.mapM_cons,Sem.run_bind,hu]
        simp only [Result.andThen_ok,Sem.run_bind,hus,Sem.run_pure]
      · rw [List.flatMap_cons] at hb'
        exact (List.mem_append.1 hb').elim (g1 b) (hb b)
      · rw [List.flatMap_cons] at hp
        exact (List.mem_append.1 hp).elim (g2 p) (hrr p)
    · exact h1.elim
  | [],_ :: _,h=>h.elim
  | _ :: _,[],h=>h.elim
theorem resN_len {st:St} {m:List (Nat × Nat)} {rw':List (Nat × Row)} {bx':List (Nat × List Ce)}:∀ {xs:List ResultVar} {rs:List AV},ResN st m rw' bx' T xs rs→xs.length=rs.length
  | [],[],_=>rfl
  | _ :: _,_ :: _,h=>by simp [resN_len h.2]
  | [],_ :: _,h=>h.elim
  | _ :: _,[],h=>h.elim
theorem finM_run {E:Env} {w:World} {n0 N n:Nat} {st:St} {a:Act} {m:List (Nat × Nat)} {fn:Func} {rv:AV} {rw':List (Nat × Row)} {bx':List (Nat × List Ce)} (hT:TabOk P T) (r:RepM O E w n0 N n st a) (h:match fn.results.toList with
    | [x]=>(match resA T st x with
      | some v=>AvN st m rw' bx' v rv
      | none=>False)
    | xs=>(match rv with
      | .tup ys=>ResN st m rw' bx' T xs ys
      | _=>False)):(∃ u,(results fn a.tmps).run P w=.ok u w∧RV (E.ma st m) w u rv)∧(∀ b∈rv.bids,∃ cs,lk bx' b=some cs)∧∀ p∈rv.rids,∃ R,lk rw' p.1=some R∧R.ver=p.2:=by
  have e:(results fn a.tmps).run P w=((fn.results.toList.mapM (resSem a)).run P w).andThen fun vs w'=>.ok (if h:vs.toArray.size=1 then vs.toArray[0] else .tuple vs.toArray) w':=by
    have e3:results fn a.tmps=(do
        let vs ← fn.results.mapM (resSem a)
        Pure.pure (if h:vs.size=1 then vs[0] else .tuple vs)):=by
      unfold results
      exact congrArg (fun g:ResultVar→Sem Value=>(do
        let vs ← fn.results.mapM g
        Pure.pure (if h:vs.size=1 then vs[0] else .tuple vs):Sem Value)) (funext fun x=>by cases x <;> rfl)
    rw [e3,Array.mapM_eq_mapM_toList]
    simp only [Sem.run_bind,Sem.run_map,Sem.run_pure]
    cases ((fn.results.toList.mapM (resSem a)).run P w) <;> rfl
  rw [e]
  split at h
  · rename_i x hx
    rw [hx]
    split at h
    · rename_i v hv
      obtain ⟨u,hu,hr⟩:=results_rv hT r hv
      refine ⟨⟨u,?_,(avN_r1 r h hr).rv⟩,avN_nm h⟩
      rw [List.mapM_cons,List.mapM_nil,Sem.run_bind,hu]
      simp
    · exact h.elim
  · rename_i xs hne
    split at h
    · rename_i ys
      obtain ⟨us,hus,ha,hb,hrr⟩:=resN_run hT r h
      have hl:=resN_len h
      refine ⟨⟨.tuple us.toArray,?_,⟨us,rfl,ha⟩⟩,hb,hrr⟩
      rw [hus]
      have:¬ us.toArray.size=1:=fun h1=>by
        have h2:=ha.len
        rw [List.size_toArray] at h1
        rw [h1,← hl] at h2
        cases hq:fn.results.toList with
        | nil=>rw [hq] at h2;cases h2
        | cons x l=>
          cases l with
          | nil=>exact hne x hq
          | cons _ _=>rw [hq] at h2;simp at h2
      simp only [Result.andThen_ok,dif_neg this]
    · exact h.elim
def namesOk (p q:Nat) (bs:List Nat) (rs:List (Nat × Nat)):Bool:=bs.all (fun b=>Nat.blt b p)&&rs.all fun x=>Nat.blt x.1 q&&Nat.beq x.2 0
theorem namesOk_ok {p q:Nat} {bs:List Nat} {rs:List (Nat × Nat)} (h:namesOk p q bs rs=true):(∀ b∈bs,b < p)∧∀ x∈rs,x.1 < q∧x.2=0:=by
  unfold namesOk at h
  rw [Bool.and_eq_true] at h
  refine ⟨fun b hb=>Nb (List.all_eq_true.1 h.1 b hb),fun x hx=>?_⟩
  have:=List.all_eq_true.1 h.2 x hx
  rw [Bool.and_eq_true] at this
  exact ⟨Nb this.1,Nat.eq_of_beq_eq_true this.2⟩
def namesR (p:Nat) (rv:AV) (ob:List (List Ce)) (rs:List Row):Bool:=rv.bids.all (fun b=>Nat.blt b p)&&(rs.all Row.shut&&(rv.rids++ob.flatMap fun cs=>cs.flatMap Ce.rids).all fun x=>match rs[x.1]? with
  | some R=>Nat.ble x.2 R.ver
  | none=>false)
theorem namesR_ok {p:Nat} {rv:AV} {ob:List (List Ce)} {rs:List Row} (h:namesR p rv ob rs=true):(∀ b∈rv.bids,b < p)∧(∀ x∈rv.rids,∃ R,rs[x.1]? = some R∧x.2≤R.ver)∧(∀ (i:Nat) cs,ob[i]? = some cs→∀ x∈cs.flatMap Ce.rids,∃ R,rs[x.1]? = some R∧x.2≤R.ver)∧∀ R∈rs,R.shut=true:=by
  unfold namesR at h
  rw [Bool.and_eq_true,Bool.and_eq_true] at h
  have key:∀ x∈rv.rids++ob.flatMap fun cs=>cs.flatMap Ce.rids,∃ R,rs[x.1]? = some R∧x.2≤R.ver:=fun x hx=>by
    have:=List.all_eq_true.1 h.2.2 x hx
    split at this
    · rename_i R hR
      exact ⟨R,hR,Nb this⟩
    · cases this
  exact ⟨fun b hb=>Nb (List.all_eq_true.1 h.1 b hb),fun x hx=>key x (List.mem_append_left _ hx),fun i cs hi x hx=>key x (List.mem_append_right _ (List.mem_flatMap.2 ⟨cs,List.mem_of_getElem? hi,hx⟩)),fun R hR=>List.all_eq_true.1 h.2.1 R hR⟩
class OLow (n1:Nat) (O:Gst):Prop where
  v:∀ j,n1≤j→O.v j=none
  b:∀ j,n1≤j→O.b j=none
open Classical in
theorem ctm_of {f:FuncId} {fn:Func} {c:Code} {ars:List AV} {ib:List (List Ce)} {ir:List Row} {rv:AV} {ob:List (List Ce)} {orr nr:List Row} (n1:Nat) (hf:P.funcs[f]? = some fn) (hb:fn.body=some c) (he:Ent P f) (hT:TabOk P T) (hc:codeOk fn.ntmps c=true) (hn:Nat.ble ars.length fn.ntmps=true)
    (hk:(Nat.ble ib.length n1&&(Nat.ble ir.length n1&&(Nat.beq ob.length ib.length&&(Nat.beq orr.length ir.length&&(Nat.ble nr.length 128&&ir.all fun R=>Nat.beq R.ver 0&&R.shut)))))=true)
    (hnm:(namesOk ib.length ir.length (ars.flatMap AV.bid1) (ars.flatMap AV.rid1)&&ib.all fun cs=>namesOk ib.length ir.length [] (cs.flatMap Ce.rids))=true) (htup:(ars.all fun a=>match a with
      | .tup _=>false
      | _=>true)=true) (hres:namesR ib.length rv ob (orr++nr)=true)
    (h:∀ w0 O [OLow n1 O],Tp P T fn.ntmps w0 O c ⟨numA 0 ars,numI 0 ib,numI 0 ir,n1⟩ (FinM T fn rv ob orr nr)):CtM P f ars ib ir rv ob orr nr:=by
  simp only [Bool.and_eq_true] at hk hnm
  obtain ⟨k1,k2,k3,k4,k5,k6⟩:=hk
  have k1:=Nb k1
  have k2:=Nb k2
  have k3:=Nat.eq_of_beq_eq_true k3
  have k4:=Nat.eq_of_beq_eq_true k4
  have k5:=Nb k5
  have hn:=Nb hn
  obtain ⟨nb,nr1⟩:=namesOk_ok hnm.1
  have nbx:∀ cs∈ib,∀ x∈cs.flatMap Ce.rids,x.1 < ir.length∧x.2=0:=fun cs hcs=>(namesOk_ok (List.all_eq_true.1 hnm.2 cs hcs)).2
  obtain ⟨r1,r2,r3,r4⟩:=namesR_ok hres
  refine ⟨he,k5,r4,k3,k4,r1,r2,r3,fun w0 w vs E0 hbel ha hbox hrow hrl hlow=>?_⟩
  have hlen:=ha.len
  refine calls_of_wp hf hb ?_
  have slot:∀ (t:Nat) (a:AV),ars[t]? = some a→a.bids=a.bid1∧a.rids=a.rid1:=fun t a ht=>by
    have:=List.all_eq_true.1 htup a (List.mem_of_getElem? ht)
    cases a with
    | tup _=>cases this
    | _=>exact ⟨rfl,rfl⟩
  have lkB:∀ (i:Nat) (cs:List Ce),lk (numI 0 ib) i=some cs→ib[i]? = some cs:=fun i cs hi=>by
    rw [lk_numI,if_pos (Nat.zero_le _)] at hi
    simpa using hi
  have lkR:∀ (i:Nat) (R:Row),lk (numI 0 ir) i=some R→ir[i]? = some R:=fun i R hi=>by
    rw [lk_numI,if_pos (Nat.zero_le _)] at hi
    simpa using hi
  have hasB:∀ b,b < ib.length→∃ cs,lk (numI 0 ib) b=some cs:=fun b hb=>⟨ib[b],by rw [lk_numI,if_pos (Nat.zero_le _),Nat.sub_zero,List.getElem?_eq_getElem hb]⟩
  have hasR:∀ b,b < ir.length→∃ R,lk (numI 0 ir) b=some R:=fun b hb=>⟨ir[b],by rw [lk_numI,if_pos (Nat.zero_le _),Nat.sub_zero,List.getElem?_eq_getElem hb]⟩
  have hinit:RepS ⟨fun b=>E0.rl b=.cold,fun b=>if E0.rl b=.cold∨E0.rl b=.non then w.heap[b]? else none,fun j=>if j < ir.length then some (E0.vl j 0) else none,fun i=>if i < ib.length then some (E0.bk i) else none,w.heap.size⟩ E0 w w0.heap.size fn.ntmps ⟨numA 0 ars,numI 0 ib,numI 0 ir,n1⟩ { tmps:=vs.toArray++Array.replicate (fn.ntmps - vs.toArray.size) undef,defers:=[] }:=by
    refine ⟨rfl,by simp only [Array.size_append,List.size_toArray,Array.size_replicate];omega,fun t=>?_,fun i cs hi=>hbox i cs (lkB i cs hi),fun j R hj=>hrow j R (lkR j R hj),⟨fun t b hb=>?_,fun t p hp=>?_,fun b cs hcs p hp=>?_,fun b cs hcs=>?_,fun τ R hR=>?_,fun τ R d hR hd l hl=>?_⟩,hbel.size,fun b hb=>?_,fun b x hx=>?_,fun j V hj=>?_,fun j V hj=>?_,Nat.le_refl _⟩
    · show RV E0 w _ (match lk (numA 0 ars) t with|some v=>v|none=>.bot)
      rw [lk_numA,if_pos (Nat.zero_le _),Nat.sub_zero]
      cases ht:ars[t]? with
      | none=>exact trivial
      | some a=>
        obtain ⟨u,hu,hr⟩:=ha.get t a ht
        have hlt:=(List.getElem?_eq_some_iff.1 hu).1
        rw [Array.getD_eq_getD_getElem?,Array.getElem?_append_left (by simpa using hlt),List.getElem?_toArray,hu]
        exact hr.rv
    · have hb:b∈(match lk (numA 0 ars) t with|some v=>v|none=>AV.bot).bids:=hb
      rw [lk_numA,if_pos (Nat.zero_le _),Nat.sub_zero] at hb
      cases ht:ars[t]? with
      | none=>rw [ht] at hb;cases hb
      | some a=>
        rw [ht] at hb
        have hb:b∈a.bids:=hb
        rw [(slot t a ht).1] at hb
        exact hasB b (nb b (List.mem_flatMap.2 ⟨a,List.mem_of_getElem? ht,hb⟩))
    · have hp:p∈(match lk (numA 0 ars) t with|some v=>v|none=>AV.bot).rids:=hp
      rw [lk_numA,if_pos (Nat.zero_le _),Nat.sub_zero] at hp
      cases ht:ars[t]? with
      | none=>rw [ht] at hp;cases hp
      | some a=>
        rw [ht] at hp
        have hp:p∈a.rids:=hp
        rw [(slot t a ht).2] at hp
        obtain ⟨h1,h2⟩:=nr1 p (List.mem_flatMap.2 ⟨a,List.mem_of_getElem? ht,hp⟩)
        obtain ⟨R,hR⟩:=hasR p.1 h1
        exact ⟨R,hR,by rw [h2];exact Nat.zero_le _⟩
    · obtain ⟨h1,h2⟩:=nbx cs (List.mem_of_getElem? (lkB b cs hcs)) p hp
      obtain ⟨R,hR⟩:=hasR p.1 h1
      exact ⟨R,hR,by rw [h2];exact Nat.zero_le _⟩
    · have:=(List.getElem?_eq_some_iff.1 (lkB b cs hcs)).1
      exact Nat.lt_of_lt_of_le this k1
    · have:=(List.getElem?_eq_some_iff.1 (lkR τ R hR)).1
      exact Nat.lt_of_lt_of_le this k2
    · have:=List.all_eq_true.1 k6 R (List.mem_of_getElem? (lkR τ R hR))
      rw [Bool.and_eq_true] at this
      rw [shut_ln this.2 hd] at hl
      cases hl
    · exact (hlow b hb).imp (fun h=>⟨h,h⟩) id
    · have hx:(if E0.rl b=.cold∨E0.rl b=.non then w.heap[b]? else none)=some x:=hx
      split at hx
      · rename_i hq
        refine ⟨hx,hq.imp (fun h=>⟨h,h⟩) (fun h=>⟨h,fun h2=>?_⟩)⟩
        have h2:E0.rl b=.cold:=h2
        rw [h] at h2
        cases h2
      · cases hx
    · have hj:(if j < ir.length then some (E0.vl j 0) else none)=some V:=hj
      split at hj
      · rename_i hlt
        cases hj
        exact ⟨rfl,hasR j hlt⟩
      · cases hj
    · have hj:(if j < ib.length then some (E0.bk j) else none)=some V:=hj
      split at hj
      · rename_i hlt
        cases hj
        exact ⟨rfl,hasB j hlt⟩
      · cases hj
  refine wp_mono (@h w0 _ ⟨fun j hj=>if_neg (by omega),fun j hj=>if_neg (by omega)⟩ hT hc E0 _ w hinit hbel) fun e a' w' hp=>?_
  have fin:∀ st E',FinM T fn rv ob orr nr .ret st→RepS ⟨fun b=>E0.rl b=.cold,fun b=>if E0.rl b=.cold∨E0.rl b=.non then w.heap[b]? else none,fun j=>if j < ir.length then some (E0.vl j 0) else none,fun i=>if i < ib.length then some (E0.bk i) else none,w.heap.size⟩ E' w' w0.heap.size fn.ntmps st a'→Below w0.heap.size w0 w'→a'.defers=[]∧∃ v,(results fn a'.tmps).run P w'=.ok v w'∧∃ v',Ending.returned v=.returned v'∧Below w0.heap.size w0 w'∧w.heap.size≤w'.heap.size∧∃ E,RV E w' v' rv∧(∀ i,i < ib.length→E.bk i=E0.bk i)∧(∀ (i:Nat) cs,ob[i]? = some cs→RB E w' w0.heap.size i cs)∧(∀ (j:Nat) R,(orr++nr)[j]? = some R→RR E w' w0.heap.size j R)∧(∀ j,j < ir.length→E.vl j 0=E0.vl j 0)∧
      ∀ b,b < w.heap.size→E0.rl b=.cold∨E0.rl b=.non→w'.heap[b]? = w.heap[b]?∧E.rl b=E0.rl b:=fun st E' hq r hb'=>by
    obtain ⟨m,⟨g1,g2,g3,g4⟩,g5⟩:=hq
    obtain ⟨⟨u,hu,hr⟩,hnb,hnr⟩:=finM_run hT r g5
    have hV:∀ j,j < orr.length→(∃ R,lk st.rw j=some R)→E'.vl j 0=E0.vl j 0:=fun j hj _=>(r.lkv j (E0.vl j 0) (by show (if j < ir.length then some (E0.vl j 0) else none)=_;rw [if_pos (by omega)])).1
    have tr1:∀ {u:Value} {v:AV},(∀ p∈v.rid1,∃ R,lk (numR 0 0 (orr++nr)) p.1=some R∧R.ver=p.2)→R1 (E'.ma st m) w' u v→R1 (E'.mk2 st m orr.length fun j=>E0.vl j 0) w' u v:=fun hn h=>mk2_r1 hV g3 hn h
    refine ⟨r.dfr,u,hu,u,rfl,hb',r.sn,E'.mk2 st m orr.length fun j=>E0.vl j 0,?_,fun i hi=>?_,fun i cs hi=>?_,fun j R hj=>?_,fun j hj=>?_,fun b hlt hq=>?_⟩
    · cases rv with
      | tup ys=>
        obtain ⟨us,rfl,ha2⟩:=hr
        refine ⟨us,rfl,?_⟩
        have:∀ {us:List Value} {ys:List AV},(∀ p∈ys.flatMap AV.rid1,∃ R,lk (numR 0 0 (orr++nr)) p.1=some R∧R.ver=p.2)→A2 (R1 (E'.ma st m) w') us ys→A2 (R1 (E'.mk2 st m orr.length fun j=>E0.vl j 0) w') us ys:=fun {us ys} hn h=>by
          induction h with
          | nil=>exact .nil
          | cons h1 _ ih=>
            rw [List.flatMap_cons] at hn
            exact .cons (tr1 (fun p hp=>hn p (List.mem_append_left _ hp)) h1) (ih fun p hp=>hn p (List.mem_append_right _ hp))
        exact this hnr ha2
      | c x=>exact (tr1 (v:=.c x) hnr hr).rv
      | agg x=>exact (tr1 (v:=.agg x) hnr hr).rv
      | ptr b o=>exact (tr1 (v:=.ptr b o) hnr hr).rv
      | iptr x o=>exact (tr1 (v:=.iptr x o) hnr hr).rv
      | eptr a b c d e=>exact (tr1 (v:=.eptr a b c d e) hnr hr).rv
      | sub a b c d=>exact (tr1 (v:=.sub a b c d) hnr hr).rv
      | nilp=>exact (tr1 (v:=.nilp) hnr hr).rv
      | fn f x=>exact (tr1 (v:=.fn f x) hnr hr).rv
      | fnI f x=>exact (tr1 (v:=.fnI f x) hnr hr).rv
      | bot=>exact trivial
    · exact (r.lkb i (E0.bk i) (by show (if i < ib.length then some (E0.bk i) else none)=_;rw [if_pos hi])).1
    · obtain ⟨cs0,h1,h2⟩:=bxM_mem g4 i cs (lk_mem (by rw [lk_numI,if_pos (Nat.zero_le _)];simpa using hi))
      obtain ⟨us,t,h3,h4,h5,h6⟩:=r.box i cs0 h1
      have h7:=cesM_a2 r h2 h6
      refine ⟨us,t,h3,h4,?_,A2.fr (E:=E'.ma st m) (E':=E'.mk2 st m orr.length fun j=>E0.vl j 0) (Nat.le_refl _) (fun b hb _=>⟨rfl,hb⟩) (fun p hp=>?_) h7⟩
      · show (E'.ma st m).rl (E'.bk i)=_
        unfold Env.ma
        simp only [h5]
      · obtain ⟨R,h8,h9⟩:=cesM_nm h2 p hp
        rw [lk_numR,if_pos (by omega)] at h8
        rw [← h9]
        exact mk2_vl hV g3 (by simpa using h8)
    · have hm:=lk_mem (l:=numR 0 0 (orr++nr)) (n:=j) (x:=R) (by rw [lk_numR,if_pos (by omega)];simpa using hj)
      have h1:=row_ma r g1 (rwM_mem g2 j R hm)
      exact RR.to (R:=R) (h:=h1) (Nat.le_refl _) rfl rfl rfl rfl (rwM_shut g2 j R hm) (mk2_vl hV g3 hj) (fun _ h _=>h) (fun _ _ _ h=>h) fun _ _ _ _ _ h=>h
    · show (if j < orr.length∧(0:Nat)=0 then E0.vl j 0 else _)=_
      rw [if_pos ⟨by omega,rfl⟩]
    · obtain ⟨x,hx⟩:∃ x,w.heap[b]? = some x:=⟨w.heap[b],Array.getElem?_eq_getElem hlt⟩
      obtain ⟨h1,h2⟩:=r.gh b x (by show (if E0.rl b=.cold∨E0.rl b=.non then w.heap[b]? else none)=_;rw [if_pos hq,hx])
      refine ⟨h1.trans hx.symm,?_⟩
      show (E'.ma st m).rl b=_
      rcases h2 with ⟨h2,h3⟩|⟨h2,h3⟩
      · have h3:E0.rl b=.cold:=h3
        rw [ma_cold b h2,h3]
      · have h3:¬ E0.rl b=.cold:=h3
        rw [ma_non b h2]
        rcases hq with hq|hq
        · exact absurd hq h3
        · exact hq.symm
  cases e with
  | normal=>
    obtain ⟨st,E',hq,r,hb'⟩:=hp
    exact fin st E' hq r hb'
  | ret=>
    obtain ⟨st,E',hq,r,hb'⟩:=hp
    exact fin st E' hq r hb'
  | exit id=>
    obtain ⟨st,E',hq,r,hb'⟩:=hp
    exact hq.elim
  | goto l=>exact hp.elim
  | panic ch=>exact hp.elim
  | outgrown=>exact hp.elim
def SlI (st:St):List (Nat × AV)→Prop
  | []=>True
  | (t,v) :: r=>st.get t=v∧SlI st r
def BxI (st:St):List (Nat × List Ce)→Prop
  | []=>True
  | (b,cs) :: r=>lk st.bx b=some cs∧BxI st r
def RwI (st:St):List (Nat × Row)→Prop
  | []=>True
  | (τ,R) :: r=>lk st.rw τ=some R∧RwI st r
theorem slI_mem {st:St}:∀ {l:List (Nat × AV)},SlI st l→∀ t v,(t,v)∈l→st.get t=v
  | (t,v) :: r,h,t',v',hm=>by
    rcases List.mem_cons.1 hm with e|hm
    · cases e;exact h.1
    · exact slI_mem h.2 t' v' hm
  | [],_,_,_,hm=>by cases hm
theorem bxI_mem {st:St}:∀ {l:List (Nat × List Ce)},BxI st l→∀ t v,(t,v)∈l→lk st.bx t=some v
  | (t,v) :: r,h,t',v',hm=>by
    rcases List.mem_cons.1 hm with e|hm
    · cases e;exact h.1
    · exact bxI_mem h.2 t' v' hm
  | [],_,_,_,hm=>by cases hm
theorem rwI_mem {st:St}:∀ {l:List (Nat × Row)},RwI st l→∀ t v,(t,v)∈l→lk st.rw t=some v
  | (t,v) :: r,h,t',v',hm=>by
    rcases List.mem_cons.1 hm with e|hm
    · cases e;exact h.1
    · exact rwI_mem h.2 t' v' hm
  | [],_,_,_,hm=>by cases hm
def WkL (O:Gst) (st st':St):Prop:=∀ (E:Env) (w:World) (n0 N:Nat) (a:Act),RepS O E w n0 N st a→RepS O E w n0 N st' a
theorem Tp.loopL {N:Nat} {w0:World} {c:Code} {st:St} {Q:Ex→St→Prop} {α:Type} (I:α→St) (ok:α→Prop) (μ:α→Nat) (x0:α) (h0:WkL O st (I x0)) (hok:ok x0)
   (round:∀ x,ok x→Tp P T N w0 O c (I x) (fun e st'=>match e with
     | .nrm=>∃ y,ok y∧μ y < μ x∧WkL O st' (I y)
     | e=>Q e st')):Tp P T N w0 O (.loop c) st Q:=fun hT hc E a w r hb=>by
  unfold codeOk at hc
  refine wp_loop_n (fun n a w=>∃ x E,ok x∧μ x=n∧RepS O E w w0.heap.size N (I x) a∧Below w0.heap.size w0 w) (n:=μ x0) ⟨x0,E,hok,rfl,h0 E w _ N a r,hb⟩ ?_
  rintro n a w ⟨x,E,hx,rfl,r,hb⟩
  refine wp_mono (round x hx hT hc E a w r hb) fun e a' w' hp=>?_
  cases e with
  | normal=>
    obtain ⟨st',E',⟨y,h1,h2,h3⟩,r',hb'⟩:=hp
    exact ⟨μ y,h2,y,E',h1,rfl,h3 E' w' _ N a' r',hb'⟩
  | exit id=>
    obtain ⟨st',E',hq,r',hb'⟩:=hp
    exact ⟨st',E',hq,r',hb'⟩
  | ret=>
    obtain ⟨st',E',hq,r',hb'⟩:=hp
    exact ⟨st',E',hq,r',hb'⟩
  | goto l=>exact hp.elim
  | panic ch=>exact hp.elim
  | outgrown=>exact hp.elim
def keepL (n1:Nat) (st:St) (sl':List (Nat × AV)) (bx':List (Nat × List Ce)) (rw':List (Nat × Row)):Bool:=
  (st.bx.all (fun p=>Nat.ble n1 p.1||(match lk bx' p.1 with
    | some _=>true
    | none=>false))&&st.rw.all fun p=>Nat.ble n1 p.1||(match lk rw' p.1 with
    | some _=>true
    | none=>false)) &&
  (sl'.all (fun p=>p.2.bids.all (fun b=>match lk bx' b with
    | some _=>true
    | none=>false)&&p.2.rids.all fun q=>match lk rw' q.1 with
    | some R=>Nat.ble q.2 R.ver
    | none=>false) &&
  (bx'.all (fun p=>(p.2.flatMap Ce.rids).all fun q=>match lk rw' q.1 with
    | some R=>Nat.ble q.2 R.ver
    | none=>false)&&rw'.all fun p=>p.2.shut))
theorem wkl_of {n1:Nat} [OLow n1 O] {st:St} {sl':List (Nat × AV)} {bx':List (Nat × List Ce)} {rw':List (Nat × Row)} {nx':Nat} (hk:keepL n1 st sl' bx' rw'=true) (hn:below nx' bx' rw'=true) (hs:SlI st sl') (hb:BxI st bx') (hr:RwI st rw'):WkL O st ⟨sl',bx',rw',nx'⟩:=by
  intro E w n0 N a r
  unfold keepL at hk
  unfold below at hn
  simp only [Bool.and_eq_true] at hk hn
  obtain ⟨⟨q1,q2⟩,q3,q4,q5⟩:=hk
  have kb:∀ b cs,lk st.bx b=some cs→b < n1→lk bx' b=some cs:=fun b cs h hlt=>by
    have:=List.all_eq_true.1 q1 (b,cs) (lk_mem h)
    simp only [Bool.or_eq_true] at this
    rcases this with this|this
    · have:=Nb this
      omega
    · split at this
      · rename_i x hx
        rw [bxI_mem hb b x (lk_mem hx)] at h
        rw [hx,h]
      · cases this
  have kr:∀ b cs,lk st.rw b=some cs→b < n1→lk rw' b=some cs:=fun b cs h hlt=>by
    have:=List.all_eq_true.1 q2 (b,cs) (lk_mem h)
    simp only [Bool.or_eq_true] at this
    rcases this with this|this
    · have:=Nb this
      omega
    · split at this
      · rename_i x hx
        rw [rwI_mem hr b x (lk_mem hx)] at h
        rw [hx,h]
      · cases this
  have get:∀ t,(St.get ⟨sl',bx',rw',nx'⟩ t)=.bot∨(t,St.get ⟨sl',bx',rw',nx'⟩ t)∈sl':=fun t=>by
    show (match lk sl' t with|some v=>v|none=>.bot)=.bot∨(t,(match lk sl' t with|some v=>v|none=>.bot))∈sl'
    cases hq:lk sl' t with
    | none=>exact .inl rfl
    | some v=>exact .inr (lk_mem hq)
  have row:∀ (q:Nat × Nat),(match lk rw' q.1 with
    | some R=>Nat.ble q.2 R.ver
    | none=>false)=true→St.hasR ⟨sl',bx',rw',nx'⟩ q:=fun q h=>by
    split at h
    · rename_i R hR
      exact ⟨R,hR,Nb h⟩
    · cases h
  have box:∀ (b:Nat),(match lk bx' b with
    | some _=>true
    | none=>false)=true→St.hasB ⟨sl',bx',rw',nx'⟩ b:=fun b h=>by
    split at h
    · rename_i cs hcs
      exact ⟨cs,hcs⟩
    · cases h
  refine ⟨r.dfr,r.sz,fun t=>?_,fun i cs hi=>r.box i cs (bxI_mem hb i cs (lk_mem hi)),fun τ R hR=>r.row τ R (rwI_mem hr τ R (lk_mem hR)),⟨fun t b hb'=>?_,fun t p hp=>?_,fun b cs hcs p hp=>?_,fun b cs hcs=>?_,fun τ R hR=>?_,fun τ R d hR hd l hl=>?_⟩,r.hi,r.old,r.gh,fun j V hj=>?_,fun j b hj=>?_,r.sn⟩
  · rcases get t with h|h
    · rw [h];exact trivial
    · rw [← slI_mem hs t _ h];exact r.slt t
  · rcases get t with h|h
    · rw [h] at hb';cases hb'
    · have:=List.all_eq_true.1 q3 _ h
      rw [Bool.and_eq_true] at this
      exact box b (List.all_eq_true.1 this.1 b hb')
  · rcases get t with h|h
    · rw [h] at hp;cases hp
    · have:=List.all_eq_true.1 q3 _ h
      rw [Bool.and_eq_true] at this
      exact row p (List.all_eq_true.1 this.2 p hp)
  · exact row p (List.all_eq_true.1 (List.all_eq_true.1 q4 (b,cs) (lk_mem hcs)) p hp)
  · exact Nb (List.all_eq_true.1 hn.1 (b,cs) (lk_mem hcs))
  · exact Nb (List.all_eq_true.1 hn.2 (τ,R) (lk_mem hR))
  · have:=shut_ln (List.all_eq_true.1 q5 (τ,R) (lk_mem hR)) hd
    rw [this] at hl
    cases hl
  · obtain ⟨h1,R,h2⟩:=r.lkv j V hj
    refine ⟨h1,R,kr j R h2 (Nat.lt_of_not_le fun hle=>?_)⟩
    rw [OLow.v j hle] at hj
    cases hj
  · obtain ⟨h1,cs,h2⟩:=r.lkb j b hj
    refine ⟨h1,cs,kb j cs h2 (Nat.lt_of_not_le fun hle=>?_)⟩
    rw [OLow.b j hle] at hj
    cases hj
end
section
variable {P:Program} {T:Nat→Option Ty} {O:Gst}
theorem Tp.know {N:Nat} {w0:World} {c:Code} {st:St} {Q:Ex→St→Prop} (rs:List (Nat × Row)) (n:Nat)
  (hw:∀ (E:Env) (w:World) (a:Act),RepS O E w w0.heap.size N st a→∃ E',RepM O E' w w0.heap.size N (st.nx+n) (st.app none ⟨.bot,[],rs⟩) a)
  (h:Tp P T N w0 O c ⟨st.sl,st.bx,rs++st.rw,st.nx+n⟩ Q):Tp P T N w0 O c st Q:=fun hT hc E a w r hb=>by
 obtain ⟨E',r'⟩:=hw E w a r
 exact h hT hc E' a w ⟨r'.dfr,r'.sz,r'.slt,r'.box,r'.row,⟨r'.sc.sb,r'.sc.sr,r'.sc.br,r'.sc.fb,r'.sc.fr,r'.sc.rl⟩,r'.hi,r'.old,r'.gh,r'.lkv,r'.lkb,r'.sn⟩ hb
theorem Mv.know {st:St} {E E':Env} {w:World} {X Y:Nat→Prop} (lo:∀ b,E.rl b=.cold∨E.rl b=.non∨(∃ i,E.rl b=.bx i)→E'.rl b=E.rl b) (bk:E'.bk=E.bk) (vl:∀ τ R v,lk st.rw τ=some R→v≤R.ver→E'.vl τ v=E.vl τ v) (rw_:∀ τ,(∃ R,lk st.rw τ=some R)→¬ Y τ→∀ g,(E.rl g=.rw τ→E'.rl g=.rw τ)∧∀ j o,E.rl g=.nst τ j o→E'.rl g=.nst τ j o):Mv st E w E' w X Y:=
 ⟨Nat.le_refl _,fun b _ h=>lo b (h.elim .inl fun h=>.inr (.inl h)),fun b h _=>⟨rfl,(lo b (.inl h)).trans h⟩,fun i cs _=>by rw [bk],fun i cs _ _ _ h=>⟨rfl,(lo _ (.inr (.inr ⟨i,h⟩))).trans h⟩,vl,fun τ R hR hY g _ _ h=>⟨rfl,((rw_ τ ⟨R,hR⟩ hY g).1 h)⟩,fun _ _ _=>rfl,fun τ R hR hY g j o _ h=>⟨rfl,(rw_ τ ⟨R,hR⟩ hY g).2 j o h⟩⟩
theorem Tp.deep {N:Nat} {w0:World} {c:Code} {st:St} {Q:Ex→St→Prop} (τ:Nat) (D:List (Nat × Nat × Nat)) {R:Row} (hR:lk st.rw τ=some R) (hd:R.dp=none) (h:Tp P T N w0 O c ⟨st.sl,st.bx,(τ,{ R with dp:=some ⟨D,0,[]⟩ }) :: st.rw,st.nx⟩ Q):Tp P T N w0 O c st Q:=by
 refine Tp.know [(τ,{ R with dp:=some ⟨D,0,[]⟩ })] 0 (fun E w a r=>⟨E,?_⟩) h
 have mv:Mv st E w E w (fun i=>∃ cs,lk ([]:List (Nat × List Ce)) i=some cs) (fun τ'=>∃ R',lk [(τ,({ R with dp:=some ⟨D,0,[]⟩ }:Row))] τ'=some R'):=Mv.refl _ _ _ _ _
 have one:∀ {τ' R'},lk [(τ,({ R with dp:=some ⟨D,0,[]⟩ }:Row))] τ'=some R'→τ'=τ∧R'={ R with dp:=some ⟨D,0,[]⟩ }:=fun {τ' R'} h=>by
  rw [lk_cons] at h
  split at h
  ·rename_i e
   cases h
   exact ⟨e.symm,rfl⟩
  ·cases h
 refine RepM.app (v:=.tuple #[]) r (t:=none) (fun _ h=>by cases h) mv ⟨fun τ' R1 R2 e1 e2=>?_,fun b hb=>(by cases hb),fun p hp=>(by cases hp),fun _ _ h=>(by cases h),fun τ' R' h=>?_,fun τ' R' d' h hd' l hl=>?_⟩ trivial (fun _ _ h=>by cases h) (fun τ' R' h=>?_)
 ·obtain ⟨rfl,rfl⟩:=one e2
  rw [hR] at e1
  cases e1
  exact Nat.le_refl _
 ·obtain ⟨rfl,rfl⟩:=one h
  exact r.sc.fr τ' R hR
 ·obtain ⟨rfl,rfl⟩:=one h
  cases hd'
  cases hl
 ·obtain ⟨rfl,rfl⟩:=one h
  obtain ⟨es,h1,h2,h3⟩:=(r.row τ' R hR).ow hd
  refine ⟨es,h1,⟨h2.len,fun j vs ts q1 q2=>?_,fun j vs _=>vs.one,fun j vs ts q1 q2 o v t q3 q4=>⟨fun ρ u hm=>(by cases hm),fun _=>⟨fun ty k _ hj=>absurd hj (Nat.not_lt_zero _),fun _=>?_⟩⟩⟩,h3⟩
  ·rw [← (h2.at_ j vs ts q1 q2).len,Cl.len]
  ·obtain ⟨v',h4,h5⟩:=(h2.at_ j vs ts q1 q2).a2.get o t q4
   rw [q3] at h4
   cases h4
   exact h5
theorem Tp.take {N:Nat} {w0:World} {c:Code} {st:St} {Q:Ex→St→Prop} (τ j o ty k:Nat) {R:Row} {d:Dp} {ts:List Tr} {ys:List (List Tr)} (hR:lk st.rw τ=some R) (hd:R.dp=some d) (hln:d.ln=[]) (hD:(o,ty,k)∈d.D) (hj:j < d.c) (hts:R.xs[j]? = some ts) (ht:ts[o]? = some (.sl k ys)) (h:Tp P T N w0 O c ⟨st.sl,st.bx,(τ,{ R with dp:=some ⟨d.D,d.c,[(j,o,st.nx,0)]⟩ }) :: (st.nx,⟨ty,k,0,ys,none⟩) :: st.rw,st.nx+1⟩ Q):Tp P T N w0 O c st Q:=by
 refine Tp.know [(τ,{ R with dp:=some ⟨d.D,d.c,[(j,o,st.nx,0)]⟩ }),(st.nx,⟨ty,k,0,ys,none⟩)] 1 (fun E w a r=>?_) h
 have hτ:τ < st.nx:=r.sc.fr τ R hR
 have hrr:=r.row τ R hR
 unfold RR at hrr
 rw [hd] at hrr
 obtain ⟨es,h1,h2,h3⟩:=hrr
 have hjl:j < es.length:=by rw [h2.len];exact (List.getElem?_eq_some_iff.1 hts).1
 have hex:=List.getElem?_eq_getElem hjl
 have hol:o < (es[j]).1.length:=by
  rw [Cl.len,← h2.ln j _ ts hex hts]
  exact (List.getElem?_eq_some_iff.1 ht).1
 have hv:=List.getElem?_eq_getElem hol
 obtain ⟨v,ev⟩:∃ v,(es[j]).1[o]=v:=⟨_,rfl⟩
 rw [ev] at hv
 obtain ⟨xs,e1,how⟩:=((h2.at_ j _ ts hex hts o v _ hv ht).2 (fun ρ u hm=>by rw [hln] at hm;cases hm)).1 ty k hD hj
 cases e1
 have hv1:v.oneCell'=true:=(es[j]).one v (List.mem_of_getElem? hv)
 let E':Env:=⟨fun b=>match E.rl b with
  | .nst a b c=>if a=τ∧b=j∧c=o then .rw st.nx else .nst a b c
  | x=>x,E.bk,fun ρ u=>if ρ=st.nx then v else E.vl ρ u⟩
 have rl_n:∀ {b},E.rl b=.nst τ j o→E'.rl b=.rw st.nx:=fun {b} hb=>by simp only [E',hb,and_self,if_true]
 have rl_o:∀ {b},E.rl b≠.nst τ j o→E'.rl b=E.rl b:=fun {b} hb=>by
  simp only [E']
  split
  ·rename_i x y z e
   rw [if_neg]
   ·exact e.symm
   ·rintro ⟨rfl,rfl,rfl⟩
    exact hb e
  ·rfl
 have vl_o:∀ {ρ u},ρ < st.nx→E'.vl ρ u=E.vl ρ u:=fun {ρ u} hρ=>by
  simp only [E']
  rw [if_neg (by omega)]
 have one:∀ {τ' R'},lk [(τ,({ R with dp:=some ⟨d.D,d.c,[(j,o,st.nx,0)]⟩ }:Row)),(st.nx,⟨ty,k,0,ys,none⟩)] τ'=some R'→(τ'=τ∧R'={ R with dp:=some ⟨d.D,d.c,[(j,o,st.nx,0)]⟩ })∨τ'=st.nx∧R'=⟨ty,k,0,ys,none⟩:=fun {τ' R'} h=>by
  rw [lk_cons] at h
  split at h
  ·rename_i e
   cases h
   exact .inl ⟨e.symm,rfl⟩
  ·rw [lk_cons] at h
   split at h
   ·rename_i e
    cases h
    exact .inr ⟨e.symm,rfl⟩
   ·cases h
 have isY:∃ R',lk [(τ,({ R with dp:=some ⟨d.D,d.c,[(j,o,st.nx,0)]⟩ }:Row)),(st.nx,⟨ty,k,0,ys,none⟩)] τ=some R':=⟨_,lk_cons _ _ _ _ |>.trans (if_pos rfl)⟩
 have mv:Mv st E w E' w (fun i=>∃ cs,lk ([]:List (Nat × List Ce)) i=some cs) (fun τ'=>∃ R',lk [(τ,({ R with dp:=some ⟨d.D,d.c,[(j,o,st.nx,0)]⟩ }:Row)),(st.nx,⟨ty,k,0,ys,none⟩)] τ'=some R'):=by
  refine Mv.know (fun b hb=>rl_o fun e=>?_) rfl (fun τ' R' v hτ' _=>vl_o (r.sc.fr τ' R' hτ')) fun τ' hR' hY g=>⟨fun hg=>(rl_o fun e=>?_).trans hg,fun j' o' hg=>(rl_o fun e=>?_).trans hg⟩
  ·rw [e] at hb
   rcases hb with h|h|⟨i,h⟩ <;> cases h
  ·rw [e] at hg
   cases hg
  ·rw [e] at hg
   cases hg
   exact hY isY
 refine ⟨E',RepM.app (v:=.tuple #[]) (r.mono (Nat.le_add_right _ 1)) (t:=none) (fun _ h=>by cases h) mv ⟨fun τ' R1 R2 e1 e2=>?_,fun b hb=>(by cases hb),fun p hp=>(by cases hp),fun _ _ h=>(by cases h),fun τ' R' h=>?_,fun τ' R' d' h hd' l hl=>?_⟩ trivial (fun _ _ h=>by cases h) (fun τ' R' h=>?_)⟩
 ·rcases one e2 with ⟨rfl,rfl⟩|⟨rfl,rfl⟩
  ·rw [hR] at e1
   cases e1
   exact Nat.le_refl _
  ·exact absurd (r.sc.fr _ _ e1) (Nat.lt_irrefl _)
 ·rcases one h with ⟨rfl,rfl⟩|⟨rfl,rfl⟩ <;> omega
 ·rcases one h with ⟨rfl,rfl⟩|⟨rfl,rfl⟩
  ·cases hd'
   obtain rfl:l=(j,o,st.nx,0):=by simpa using hl
   refine .inr ⟨⟨ty,k,0,ys,none⟩,?_,Nat.le_refl _⟩
   rw [lk_cons,if_neg (by simp only;omega),lk_cons,if_pos rfl]
  ·cases hd'
 ·rcases one h with ⟨rfl,rfl⟩|⟨rfl,rfl⟩
  ·refine ⟨es,by show World.ownsRow _ _ _ _ (E'.vl τ' R.ver) _ _;rw [vl_o hτ];exact h1,⟨h2.len,h2.ln,h2.one,fun j' vs ts' q1 q2 o' v' t' q3 q4=>?_⟩,fun g hg=>?_⟩
   ·have hce:=h2.at_ j' vs ts' q1 q2 o' v' t' q3 q4
    have hno:∀ ρ u,(j',o',ρ,u)∉d.ln:=fun ρ u=>by rw [hln];exact List.not_mem_nil
    refine ⟨fun ρ u hm=>?_,fun hnl=>⟨fun ty' k' hm hlt=>?_,fun hm=>?_⟩⟩
    ·simp only [List.mem_singleton,Prod.mk.injEq] at hm
     obtain ⟨rfl,rfl,rfl,rfl⟩:=hm
     rw [hex] at q1
     cases q1
     rw [hv] at q3
     cases q3
     exact ⟨by simp only [E',if_true],hv1⟩
    ·obtain ⟨xs',e2,h5⟩:=(hce.2 hno).1 ty' k' hm hlt
     refine ⟨xs',e2,h5.to (Nat.le_refl _) (fun b hb _=>(rl_o (fun e=>by rw [hb] at e;cases e)).trans hb) fun g _ _ hg=>?_⟩
     refine (rl_o fun e=>?_).trans hg
     rw [hg] at e
     cases e
     exact hnl st.nx 0 List.mem_cons_self
    ·exact ((hce.2 hno).2 hm).frame (Nat.le_refl _) (fun _ _ _=>rfl) fun b hb _=>(rl_o (fun e=>by rw [show E.rl b=_ from hb] at e;cases e)).trans hb
   ·have hg:(E'.vl τ' R.ver).ownBlock=some g:=hg
    rw [vl_o hτ] at hg
    exact (rl_o fun e=>by rw [h3 g hg] at e;cases e).trans (h3 g hg)
  ·refine Ow.rr rfl ?_
   show Ow E' w w0.heap.size (.rw st.nx) ty k (E'.vl st.nx 0) ys
   rw [show E'.vl st.nx 0=v by simp only [E',if_true]]
   exact how.to (Nat.le_refl _) (fun b hb _=>(rl_o (fun e=>by rw [hb] at e;cases e)).trans hb) fun g _ _ hg=>rl_n hg
def lnRho (ρ:Nat):List (Nat × Nat × Nat × Nat)→Option Nat
 | []=>none
 | l :: r=>bif Nat.beq l.2.2.1 ρ then some l.2.1 else lnRho ρ r
def inD (o ty k:Nat):List (Nat × Nat × Nat)→Bool
 | []=>false
 | x :: r=>bif Nat.beq x.1 o&&(Nat.beq x.2.1 ty&&Nat.beq x.2.2 k) then true else inD o ty k r
theorem inD_mem {o ty k:Nat}:∀ {D:List (Nat × Nat × Nat)},inD o ty k D=true→(o,ty,k)∈D
 | (a,b,c) :: r,h=>by
  unfold inD at h
  cases hb:Nat.beq a o&&(Nat.beq b ty&&Nat.beq c k) with
  | true=>
   simp only [Bool.and_eq_true] at hb
   obtain ⟨rfl,rfl,rfl⟩:a=o∧b=ty∧c=k:=⟨Nat.eq_of_beq_eq_true hb.1,Nat.eq_of_beq_eq_true hb.2.1,Nat.eq_of_beq_eq_true hb.2.2⟩
   exact List.mem_cons_self
  | false=>
   simp only [hb,cond_false] at h
   exact List.mem_cons_of_mem _ (inD_mem h)
 | [],h=>by cases h
theorem ixN_ne {x:Nat}:∀ {l:List Nat},x∈l→ixN x l≠none
 | y :: r,hx,h=>by
  unfold ixN at h
  cases hq:Nat.beq y x with
  | true=>simp [hq] at h
  | false=>
   simp only [hq,cond_false] at h
   rcases List.mem_cons.1 hx with rfl|hx
   ·simp at hq
   ·have:=ixN_ne hx
    cases hz:ixN x r with
    | none=>exact this hz
    | some i=>simp [hz] at h
 | [],hx,_=>by cases hx
def fillT (D:List (Nat × Nat × Nat)) (rw:List (Nat × Row)):List (Nat × Nat × Nat × Nat)→List Tr→Option (List Tr × List (Nat × Row))
 | [],ts=>some (ts,[])
 | (_,o,ρ,u) :: l,ts=>match lk rw ρ,fillT D rw l ts with
  | some ⟨ty,k,ver,ys,none⟩,some (ts',rs)=>bif Nat.beq ver u&&inD o ty k D then some (ts'.set o (.sl k ys),(ρ,⟨ty,k,u+1,[],none⟩) :: rs) else none
  | _,_=>none
theorem fillT_ok {D:List (Nat × Nat × Nat)} {rw:List (Nat × Row)}:∀ {ln:List (Nat × Nat × Nat × Nat)} {ts ts':List Tr} {rs:List (Nat × Row)},fillT D rw ln ts=some (ts',rs)→nodupN (ln.map (·.2.1))=true→
  ts'.length=ts.length∧(∀ i o ρ u,(i,o,ρ,u)∈ln→∃ ty k ys,lk rw ρ=some ⟨ty,k,u,ys,none⟩∧(o,ty,k)∈D∧(o < ts.length→ts'[o]? = some (.sl k ys)))∧(∀ p,(∀ l∈ln,l.2.1≠p)→ts'[p]? = ts[p]?)∧
  (∀ ρ R',lk rs ρ=some R'→∃ i o u ty k ys,(i,o,ρ,u)∈ln∧lk rw ρ=some ⟨ty,k,u,ys,none⟩∧R'=⟨ty,k,u+1,[],none⟩)∧∀ l∈ln,∃ R',lk rs l.2.2.1=some R'
 | [],ts,ts',rs,h,_=>by
  cases h
  exact ⟨rfl,fun i o ρ u hm=>(by cases hm),fun p _=>rfl,fun ρ R' h=>(by cases h),fun l hm=>by cases hm⟩
 | (i0,o0,ρ0,u0) :: ln,ts,ts',rs,h,hn=>by
  unfold fillT at h
  split at h
  ·rename_i ty k ver ys ts1 rs1 h1 h2
   cases hb:Nat.beq ver u0&&inD o0 ty k D with
   | false=>rw [hb] at h;cases h
   | true=>
    rw [hb] at h
    cases h
    rw [Bool.and_eq_true] at hb
    obtain rfl:=Nat.eq_of_beq_eq_true hb.1
    have hn1:nodupN (ln.map (·.2.1))=true∧ixN o0 (ln.map (·.2.1))=none:=by
     rw [List.map_cons] at hn
     unfold nodupN at hn
     split at hn
     ·cases hn
     ·rename_i h3
      exact ⟨hn,h3⟩
    have hne:∀ l∈ln,l.2.1≠o0:=fun l hl e=>by
     exact ixN_ne (x:=o0) (l:=ln.map (·.2.1)) (List.mem_map.2 ⟨l,hl,e⟩) hn1.2
    obtain ⟨a1,a2,a3,a4,a5⟩:=fillT_ok h2 hn1.1
    refine ⟨by rw [List.length_set,a1],fun i o ρ u hm=>?_,fun p hp=>?_,fun ρ R' hl=>?_,fun l hm=>?_⟩
    ·rcases List.mem_cons.1 hm with e|hm
     ·cases e
      exact ⟨ty,k,ys,h1,inD_mem hb.2,fun hlt=>by rw [List.getElem?_set_self (by rw [a1];exact hlt)]⟩
     ·obtain ⟨ty',k',ys',g1,g2,g3⟩:=a2 i o ρ u hm
      exact ⟨ty',k',ys',g1,g2,fun hlt=>by rw [List.getElem?_set_ne (fun e=>hne _ hm e.symm)];exact g3 hlt⟩
    ·rw [List.getElem?_set_ne (fun e=>hp _ List.mem_cons_self e)]
     exact a3 p fun l hl=>hp l (List.mem_cons_of_mem _ hl)
    ·rw [lk_cons] at hl
     split at hl
     ·rename_i e
      subst e
      cases hl
      exact ⟨i0,o0,ver,ty,k,ys,List.mem_cons_self,h1,rfl⟩
     ·obtain ⟨i,o,u,ty',k',ys',g1,g2⟩:=a4 ρ R' hl
      exact ⟨i,o,u,ty',k',ys',List.mem_cons_of_mem _ g1,g2⟩
    ·rw [lk_cons]
     split
     ·exact ⟨_,rfl⟩
     ·rcases List.mem_cons.1 hm with rfl|hm
      ·rename_i e
       exact (e rfl).elim
      ·exact a5 l hm
  ·cases h
theorem lnRho_some {ρ o:Nat}:∀ {ln:List (Nat × Nat × Nat × Nat)},lnRho ρ ln=some o→∃ i u,(i,o,ρ,u)∈ln
 | (a,b,c,d) :: r,h=>by
  unfold lnRho at h
  cases hb:Nat.beq c ρ with
  | true=>
   simp only [hb,cond_true] at h
   cases h
   rw [Nat.eq_of_beq_eq_true hb]
   exact ⟨a,d,List.mem_cons_self⟩
  | false=>
   simp only [hb,cond_false] at h
   obtain ⟨i,u,h1⟩:=lnRho_some h
   exact ⟨i,u,List.mem_cons_of_mem _ h1⟩
 | [],h=>by cases h
theorem lnRho_of {i o ρ u:Nat}:∀ {ln:List (Nat × Nat × Nat × Nat)},nodupN (ln.map (·.2.2.1))=true→(i,o,ρ,u)∈ln→lnRho ρ ln=some o
 | (a,b,c,d) :: r,hn,h=>by
  rw [List.map_cons] at hn
  unfold nodupN at hn
  unfold lnRho
  rcases List.mem_cons.1 h with e|h
  ·cases e
   simp
  ·split at hn
   ·cases hn
   ·rename_i h3
    cases hb:Nat.beq c ρ with
    | true=>
     exfalso
     have e:=Nat.eq_of_beq_eq_true hb
     simp only at h3
     rw [e] at h3
     exact ixN_ne (x:=ρ) (l:=r.map (·.2.2.1)) (List.mem_map.2 ⟨_,h,rfl⟩) h3
    | false=>
     simp only [cond_false]
     exact lnRho_of hn h
 | [],_,h=>by cases h
def lnEl (j:Nat):List (Nat × Nat × Nat × Nat)→Prop
 | []=>True
 | l :: r=>l.1=j∧lnEl j r
theorem lnEl_ok {j:Nat}:∀ {ln:List (Nat × Nat × Nat × Nat)},lnEl j ln→∀ l∈ln,l.1=j
 | a :: r,h,l,hl=>by
  rcases List.mem_cons.1 hl with rfl|hl
  ·exact h.1
  ·exact lnEl_ok h.2 l hl
 | [],_,l,hl=>by cases hl
def spans (ln:List (Nat × Nat × Nat × Nat)):List (Nat × Nat × Nat)→Bool
 | []=>true
 | x :: r=>memN x.1 (ln.map (·.2.1))&&spans ln r
theorem spans_ok {ln:List (Nat × Nat × Nat × Nat)}:∀ {D:List (Nat × Nat × Nat)},spans ln D=true→∀ x∈D,∃ l∈ln,l.2.1=x.1
 | a :: r,h,x,hx=>by
  unfold spans at h
  rw [Bool.and_eq_true] at h
  rcases List.mem_cons.1 hx with rfl|hx
  ·obtain ⟨l,h1,h2⟩:=List.mem_map.1 (memN_mem h.1)
   exact ⟨l,h1,h2⟩
  ·exact spans_ok h.2 x hx
 | [],_,x,hx=>by cases hx
theorem nodup_D:∀ {D:List (Nat × Nat × Nat)},nodupN (D.map (·.1))=true→∀ {o ty k ty' k'},(o,ty,k)∈D→(o,ty',k')∈D→ty=ty'∧k=k'
 | (a,b,c) :: r,h,o,ty,k,ty',k',h1,h2=>by
  rw [List.map_cons] at h
  unfold nodupN at h
  split at h
  ·cases h
  ·rename_i h3
   have no:∀ {ty k},(a,ty,k)∈r→False:=fun {ty k} hm=>by
    exact ixN_ne (x:=a) (l:=r.map (·.1)) (List.mem_map.2 ⟨_,hm,rfl⟩) h3
   rcases List.mem_cons.1 h1 with e1|h1 <;> rcases List.mem_cons.1 h2 with e2|h2
   ·cases e1
    cases e2
    exact ⟨rfl,rfl⟩
   ·cases e1
    exact (no h2).elim
   ·cases e2
    exact (no h1).elim
   ·exact nodup_D h h1 h2
 | [],_,_,_,_,_,_,h1,_=>by cases h1
open Classical in
theorem Tp.put {N:Nat} {w0:World} {c:Code} {st:St} {Q:Ex→St→Prop} (τ j c':Nat) {R:Row} {d:Dp} {ts ts':List Tr} {rs:List (Nat × Row)} (hR:lk st.rw τ=some R) (hd:R.dp=some d) (hts:R.xs[j]? = some ts) (hf:fillT d.D st.rw d.ln ts=some (ts',rs)) (hj:lnEl j d.ln) (hnd:(nodupN (d.ln.map (·.2.1))&&(nodupN (d.ln.map (·.2.2.1))&&nodupN (d.D.map (·.1))))=true) (hc:c'=d.c∧j < d.c∨c'=d.c+1∧j=d.c∧spans d.ln d.D=true)
  (h:Tp P T N w0 O c ⟨st.sl,st.bx,((τ,{ R with xs:=R.xs.set j ts',dp:=some ⟨d.D,c',[]⟩ }) :: rs)++st.rw,st.nx⟩ Q):Tp P T N w0 O c st Q:=by
 refine Tp.know ((τ,{ R with xs:=R.xs.set j ts',dp:=some ⟨d.D,c',[]⟩ }) :: rs) 0 (fun E w a r=>?_) h
 simp only [Bool.and_eq_true] at hnd
 obtain ⟨n1,n2,n3⟩:=hnd
 obtain ⟨f1,f2,f3,f4,f5⟩:=fillT_ok hf n1
 have hje:=lnEl_ok hj
 have hcc:d.c≤c'∧j < c':=by omega
 have hrr:=r.row τ R hR
 unfold RR at hrr
 rw [hd] at hrr
 obtain ⟨es,h1,h2,h3⟩:=hrr
 have hτn:∀ i o u,(i,o,τ,u)∉d.ln:=fun i o u hm=>by
  obtain ⟨ty,k,ys,g1,_⟩:=f2 i o τ u hm
  rw [hR] at g1
  cases g1
  cases hd
 let E':Env:=⟨fun b=>match E.rl b with
  | .rw ρ=>(match lnRho ρ d.ln with
   | some o=>.nst τ j o
   | none=>.rw ρ)
  | x=>x,E.bk,fun ρ u=>if ∃ i o u',(i,o,ρ,u')∈d.ln∧u=u'+1 then .slice none 0 0 else E.vl ρ u⟩
 have rl_x:∀ {b},(∀ ρ,E.rl b=.rw ρ→lnRho ρ d.ln=none)→E'.rl b=E.rl b:=fun {b} hb=>by
  simp only [E']
  split
  ·rename_i ρ e
   rw [hb ρ e]
   exact e.symm
  ·rfl
 have rl_c:∀ {b},E.rl b=.cold→E'.rl b=.cold:=fun {b} hb=>(rl_x fun ρ e=>by rw [hb] at e;cases e).trans hb
 have rl_s:∀ {b x y z},E.rl b=.nst x y z→E'.rl b=.nst x y z:=fun {b x y z} hb=>(rl_x fun ρ e=>by rw [hb] at e;cases e).trans hb
 have rl_r:∀ {b ρ},(∀ i o u,(i,o,ρ,u)∉d.ln)→E.rl b=.rw ρ→E'.rl b=.rw ρ:=fun {b ρ} hρ hb=>(rl_x fun ρ' e=>by
  rw [hb] at e
  cases e
  cases hq:lnRho ρ d.ln with
  | none=>rfl
  | some o=>
   obtain ⟨i,u,hm⟩:=lnRho_some hq
   exact (hρ i o u hm).elim).trans hb
 have rl_l:∀ {b i o ρ u},(i,o,ρ,u)∈d.ln→E.rl b=.rw ρ→E'.rl b=.nst τ j o:=fun {b i o ρ u} hm hb=>by
  simp only [E',hb,lnRho_of n2 hm]
 have vl_o:∀ {ρ u R'},lk st.rw ρ=some R'→u≤R'.ver→E'.vl ρ u=E.vl ρ u:=fun {ρ u R'} hρ hu=>by
  simp only [E']
  rw [if_neg]
  rintro ⟨i,o,u',hm,rfl⟩
  obtain ⟨ty,k,ys,g1,_⟩:=f2 i o ρ u' hm
  rw [hρ] at g1
  cases g1
  simp only at hu
  omega
 have one:∀ {τ' R'},lk ((τ,({ R with xs:=R.xs.set j ts',dp:=some ⟨d.D,c',[]⟩ }:Row)) :: rs) τ'=some R'→(τ'=τ∧R'={ R with xs:=R.xs.set j ts',dp:=some ⟨d.D,c',[]⟩ })∨∃ i o u ty k ys,(i,o,τ',u)∈d.ln∧lk st.rw τ'=some ⟨ty,k,u,ys,none⟩∧R'=⟨ty,k,u+1,[],none⟩:=fun {τ' R'} h=>by
  rw [lk_cons] at h
  split at h
  ·rename_i e
   cases h
   exact .inl ⟨e.symm,rfl⟩
  ·exact .inr (f4 _ _ h)
 have inY:∀ {τ'},(τ'=τ∨∃ i o u,(i,o,τ',u)∈d.ln)→∃ R',lk ((τ,({ R with xs:=R.xs.set j ts',dp:=some ⟨d.D,c',[]⟩ }:Row)) :: rs) τ'=some R':=fun {τ'} h=>by
  rw [lk_cons]
  split
  ·exact ⟨_,rfl⟩
  ·rename_i hne
   rcases h with rfl|⟨i,o,u,hm⟩
   ·exact (hne rfl).elim
   ·exact f5 _ hm
 have mv:Mv st E w E' w (fun i=>∃ cs,lk ([]:List (Nat × List Ce)) i=some cs) (fun τ'=>∃ R',lk ((τ,({ R with xs:=R.xs.set j ts',dp:=some ⟨d.D,c',[]⟩ }:Row)) :: rs) τ'=some R'):=by
  refine Mv.know (fun b hb=>rl_x fun ρ e=>?_) rfl (fun τ' R' v hτ' hv=>vl_o hτ' hv) fun τ' hR' hY g=>⟨fun hg=>rl_r (fun i o u hm=>hY (inY (.inr ⟨i,o,u,hm⟩))) hg,fun j' o' hg=>rl_s hg⟩
  rw [e] at hb
  rcases hb with h|h|⟨i,h⟩ <;> cases h
 refine ⟨E',RepM.app (v:=.tuple #[]) r (t:=none) (fun _ h=>by cases h) mv ⟨fun τ' R1 R2 e1 e2=>?_,fun b hb=>(by cases hb),fun p hp=>(by cases hp),fun _ _ h=>(by cases h),fun τ' R' h=>?_,fun τ' R' d' h hd' l hl=>?_⟩ trivial (fun _ _ h=>by cases h) (fun τ' R' h=>?_)⟩
 ·rcases one e2 with ⟨rfl,rfl⟩|⟨i,o,u,ty,k,ys,hm,hl,rfl⟩
  ·rw [hR] at e1
   cases e1
   exact Nat.le_refl _
  ·rw [hl] at e1
   cases e1
   exact Nat.le_succ u
 ·rcases one h with ⟨rfl,rfl⟩|⟨i,o,u,ty,k,ys,hm,hl,rfl⟩
  ·exact r.sc.fr _ R hR
  ·exact r.sc.fr _ _ hl
 ·rcases one h with ⟨rfl,rfl⟩|⟨i,o,u,ty,k,ys,hm,hl,rfl⟩
  ·cases hd'
   cases hl
  ·cases hd'
 ·rcases one h with ⟨rfl,rfl⟩|⟨i,o,u,ty,k,ys,hm,hl,rfl⟩
  ·refine ⟨es,by show World.ownsRow _ _ _ _ (E'.vl τ' R.ver) _ _;rw [vl_o hR (Nat.le_refl _)];exact h1,⟨by rw [List.length_set];exact h2.len,fun j' vs us q1 q2=>?_,h2.one,fun j' vs us q1 q2 o' v t q3 q4=>?_⟩,fun g hg=>?_⟩
   ·by_cases hjj:j=j'
    ·subst hjj
     rw [List.getElem?_set_self (List.getElem?_eq_some_iff.1 hts).1] at q2
     cases q2
     rw [f1]
     exact h2.ln j vs ts q1 hts
    ·rw [List.getElem?_set_ne hjj] at q2
     exact h2.ln j' vs us q1 q2
   ·refine ⟨fun ρ u hm=>(by cases hm),fun _=>?_⟩
    have unl:∀ {j'':Nat} {us0:List Tr} {t0:Tr},es[j'']? = some vs→R.xs[j'']? = some us0→us0[o']? = some t0→j''=j'→t=t0→(∀ ρ u,(j',o',ρ,u)∉d.ln)→(∀ ty k,(o',ty,k)∈d.D→j' < c'→∃ xs,t=.sl k xs∧Ow E' w w0.heap.size (.nst τ' j' o') ty k v xs)∧((∀ ty k,(o',ty,k)∈d.D→¬ j' < c')→RT E'.F w v t):=fun {j'' us0 t0} p1 p2 p3 p4 p5 hno=>by
     subst p4 p5
     obtain ⟨_,p6⟩:=h2.at_ j'' vs us0 p1 p2 o' v t q3 p3
     obtain ⟨p7,p8⟩:=p6 hno
     refine ⟨fun ty k hm hlt=>?_,fun hm=>(p8 fun ty k hm' hlt=>hm ty k hm' (by omega)).frame (Nat.le_refl _) (fun _ _ _=>rfl) fun b hb _=>rl_c hb⟩
     have hlt2:j'' < d.c:=by
      rcases hc with ⟨e,_⟩|⟨e1,e2,e3⟩
      ·omega
      ·by_cases hjc:j''=d.c
       ·obtain ⟨l,hl,e4⟩:=spans_ok e3 _ hm
        obtain ⟨l1,l2,l3,l4⟩:=l
        have e5:=hje _ hl
        simp only at e4 e5
        subst e4
        rw [e5,e2,← hjc] at hl
        exact (hno _ _ hl).elim
       ·omega
     obtain ⟨xs,p9,p10⟩:=p7 ty k hm hlt2
     exact ⟨xs,p9,p10.to (Nat.le_refl _) (fun b hb _=>rl_c hb) fun g _ _ hg=>rl_s hg⟩
    by_cases hjj:j=j'
    ·subst hjj
     rw [List.getElem?_set_self (List.getElem?_eq_some_iff.1 hts).1] at q2
     cases q2
     by_cases hlk:∃ ρ u,(j,o',ρ,u)∈d.ln
     ·obtain ⟨ρ,u,hm⟩:=hlk
      obtain ⟨ty,k,ys,g1,g2,g3⟩:=f2 j o' ρ u hm
      have hot:o' < ts.length:=by rw [← f1];exact (List.getElem?_eq_some_iff.1 q4).1
      have g4:=g3 hot
      rw [q4] at g4
      cases g4
      obtain ⟨t0,ht0⟩:∃ t0,ts[o']? = some t0:=⟨_,List.getElem?_eq_getElem hot⟩
      obtain ⟨p6,_⟩:=h2.at_ j vs ts q1 hts o' v t0 q3 ht0
      obtain ⟨p7,_⟩:=p6 ρ u hm
      refine ⟨fun ty' k' hm' _=>?_,fun hall=>(hall ty k g2 hcc.2).elim⟩
      obtain ⟨rfl,rfl⟩:=nodup_D n3 g2 hm'
      refine ⟨ys,rfl,?_⟩
      rw [p7]
      exact ((r.row ρ _ g1).ow rfl).to (Nat.le_refl _) (fun b hb _=>rl_c hb) fun g _ _ hg=>rl_l hm hg
     ·have hno:∀ ρ u,(j,o',ρ,u)∉d.ln:=fun ρ u hm=>hlk ⟨ρ,u,hm⟩
      have e:=f3 o' fun l hl e=>by
       obtain ⟨l1,l2,l3,l4⟩:=l
       have e5:=hje _ hl
       simp only at e e5
       subst e e5
       exact hno _ _ hl
      rw [q4] at e
      exact unl q1 hts e.symm rfl rfl hno
    ·rw [List.getElem?_set_ne hjj] at q2
     exact unl q1 q2 q4 rfl rfl fun ρ u hm=>hjj (hje _ hm).symm
   ·have hg:(E'.vl τ' R.ver).ownBlock=some g:=hg
    rw [vl_o hR (Nat.le_refl _)] at hg
    exact rl_r (fun i o u=>hτn i o u) (h3 g hg)
  ·refine Ow.rr rfl ?_
   show Ow E' w w0.heap.size (.rw τ') ty k (E'.vl τ' (u+1)) []
   rw [show E'.vl τ' (u+1)=.slice none 0 0 by
    simp only [E']
    rw [if_pos ⟨i,o,u,hm,rfl⟩]]
   exact ⟨[],World.ownsRow_nil _ _ _ _,⟨rfl,fun j vs ts h=>by simp at h⟩,fun g hg=>by cases hg⟩
end
end Cg
end
section
namespace Go.Proofs.YtmloamomcbmfhaaGreat
open Go Go.RowKit Go.Sort Cg

def elemB (P:Program) (e:TypeId) (k b:Nat):Bool:=match P.info? e with
 | some i=>i.size==k&&i.bytes==b&&(match i.zero with
  | some z=>z.cells.size==k
  | none=>false)
 | none=>false
theorem elemIs_of {P:Program} {t e:TypeId} {k b:Nat} (h1:P.underlying t=some (.slice e)) (h4:0 < k) (h:elemB P e k b=true):∃ z,ElemIs P t e z k b:=by
 unfold elemB at h
 cases hi:P.info? e with
 | none=>rw [hi] at h;cases h
 | some i=>
  rw [hi] at h
  simp only [Bool.and_eq_true,beq_iff_eq] at h
  obtain ⟨⟨h2,h3⟩,h5⟩:=h
  cases hz:i.zero with
  | none=>rw [hz] at h5;cases h5
  | some z=>
   rw [hz] at h5
   simp only [beq_iff_eq] at h5
   exact ⟨z,h1,h5,h4,i,hi,hz,h2,h3⟩
theorem empty_own (w:World) (base:Nat) (hb:base≤w.heap.size) (t:TypeId) (k:Nat):(w.alloc (.cells #[] t)).ownsRow base t k (.slice (some ⟨w.heap.size,0,none⟩) 0 0) 0 []:=World.ownsRow_made w #[] 0 hb (by simp) (by simp)
theorem elemint:∃ z,ElemIs Tryz.prog 25 3 z 1 8:=elemIs_of Tryz.underlying25 (by decide) (by kernel_rfl)
theorem cloneint (v:Value) (es:List (Cl 1)) (w:World) (h:RowC 1 w v es) (hb:es.length*8≤140737488355328):Calls Tryz.prog 55 #[v] w fun e w'=>∃ v',e=.returned v'∧w'.ownsRow w.heap.size 3 1 v' es.length (es.flatMap Subtype.val)∧Below w.heap.size w w':=by
 obtain ⟨z,hE⟩:=elemint
 have HR:=Lib.hid (h.below ((Below.refl w.heap.size w).alloc (Nat.le_refl _) (.cells #[] 3)))
 obtain ⟨ao,cap,rfl,⟨hc,hn⟩,_⟩:=h
 have HE:=Lib.hid hE
 have HO:=Lib.hid (empty_own w w.heap.size (Nat.le_refl _) 3 1)
 have HA:=Lib.hid ((Below.refl w.heap.size w).alloc (Nat.le_refl _) (.cells #[] 3))
 have q0:∀ (w:World) (a:Option Addr) (n c n' c':Nat),(binOp .eql 25 (.slice a n c) (.slice none n' c')).run Tryz.prog w=.ok (.bool a.isNone) w:=fun w a n c n' c'=>Lib.run_eql_slice_nil w _ _ a n c n' c' Tryz.underlying25
 clear hE
 cases ao with
 | none=>
  have hc0:=hn rfl
  subst hc0
  have he:es=[]:=List.eq_nil_of_length_eq_zero (by omega)
  subst he
  clear HR hn
  go_enter Tryz.func55,Tryz.ntmps55
  go_wp2_with fail
  go_ret
  exact ⟨_,rfl,World.ownsRow_nil _ _ _ _,Below.refl _ _⟩
 | some ad=>
  clear hn
  go_enter Tryz.func55,Tryz.ntmps55
  go_wp2_with (at_builtin;refine wpList_append_rowK rfl (.tmp 5) (.tmp 6) 25 rfl w.heap.size HE.out _ 0 [] rfl HO.out Subtype.val Cl.len Cl.one es _ rfl HR.out (by omega) (by omega) HA.out.size ?_;intro v1 w1 own1 _ bel1;have O1:=Lib.hid own1;have B1:=Lib.hid bel1;clear own1 bel1)
  go_ret
  have:=O1.out
  rw [Nat.zero_add,List.nil_append] at this
  exact ⟨_,rfl,this,HA.out.trans B1.out⟩
theorem elemObject:∃ z,ElemIs Tryz.prog 24 49 z 19 128:=elemIs_of Tryz.underlying24 (by decide) (by kernel_rfl)
theorem cloneObject (v:Value) (es:List (Cl 19)) (w:World) (h:RowC 19 w v es) (hb:es.length*128≤140737488355328):Calls Tryz.prog 54 #[v] w fun e w'=>∃ v',e=.returned v'∧w'.ownsRow w.heap.size 49 19 v' es.length (es.flatMap Subtype.val)∧Below w.heap.size w w':=by
 obtain ⟨z,hE⟩:=elemObject
 have HR:=Lib.hid (h.below ((Below.refl w.heap.size w).alloc (Nat.le_refl _) (.cells #[] 49)))
 obtain ⟨ao,cap,rfl,⟨hc,hn⟩,_⟩:=h
 have HE:=Lib.hid hE
 have HO:=Lib.hid (empty_own w w.heap.size (Nat.le_refl _) 49 19)
 have HA:=Lib.hid ((Below.refl w.heap.size w).alloc (Nat.le_refl _) (.cells #[] 49))
 have q0:∀ (w:World) (a:Option Addr) (n c n' c':Nat),(binOp .eql 24 (.slice a n c) (.slice none n' c')).run Tryz.prog w=.ok (.bool a.isNone) w:=fun w a n c n' c'=>Lib.run_eql_slice_nil w _ _ a n c n' c' Tryz.underlying24
 clear hE
 cases ao with
 | none=>
  have hc0:=hn rfl
  subst hc0
  have he:es=[]:=List.eq_nil_of_length_eq_zero (by omega)
  subst he
  clear HR hn
  go_enter Tryz.func54,Tryz.ntmps54
  go_wp2_with fail
  go_ret
  exact ⟨_,rfl,World.ownsRow_nil _ _ _ _,Below.refl _ _⟩
 | some ad=>
  clear hn
  go_enter Tryz.func54,Tryz.ntmps54
  go_wp2_with (at_builtin;refine wpList_append_rowK rfl (.tmp 5) (.tmp 6) 24 rfl w.heap.size HE.out _ 0 [] rfl HO.out Subtype.val Cl.len Cl.one es _ rfl HR.out (by omega) (by omega) HA.out.size ?_;intro v1 w1 own1 _ bel1;have O1:=Lib.hid own1;have B1:=Lib.hid bel1;clear own1 bel1)
  go_ret
  have:=O1.out
  rw [Nat.zero_add,List.nil_append] at this
  exact ⟨_,rfl,this,HA.out.trans B1.out⟩
theorem elemPlayer:∃ z,ElemIs Tryz.prog 23 47 z 14 152:=elemIs_of Tryz.underlying23 (by decide) (by kernel_rfl)
theorem clonePlayer (v:Value) (es:List (Cl 14)) (w:World) (h:RowC 14 w v es) (hb:es.length*152≤140737488355328):Calls Tryz.prog 52 #[v] w fun e w'=>∃ v',e=.returned v'∧w'.ownsRow w.heap.size 47 14 v' es.length (es.flatMap Subtype.val)∧Below w.heap.size w w':=by
 obtain ⟨z,hE⟩:=elemPlayer
 have HR:=Lib.hid (h.below ((Below.refl w.heap.size w).alloc (Nat.le_refl _) (.cells #[] 47)))
 obtain ⟨ao,cap,rfl,⟨hc,hn⟩,_⟩:=h
 have HE:=Lib.hid hE
 have HO:=Lib.hid (empty_own w w.heap.size (Nat.le_refl _) 47 14)
 have HA:=Lib.hid ((Below.refl w.heap.size w).alloc (Nat.le_refl _) (.cells #[] 47))
 have q0:∀ (w:World) (a:Option Addr) (n c n' c':Nat),(binOp .eql 23 (.slice a n c) (.slice none n' c')).run Tryz.prog w=.ok (.bool a.isNone) w:=fun w a n c n' c'=>Lib.run_eql_slice_nil w _ _ a n c n' c' Tryz.underlying23
 clear hE
 cases ao with
 | none=>
  have hc0:=hn rfl
  subst hc0
  have he:es=[]:=List.eq_nil_of_length_eq_zero (by omega)
  subst he
  clear HR hn
  go_enter Tryz.func52,Tryz.ntmps52
  go_wp2_with fail
  go_ret
  exact ⟨_,rfl,World.ownsRow_nil _ _ _ _,Below.refl _ _⟩
 | some ad=>
  clear hn
  go_enter Tryz.func52,Tryz.ntmps52
  go_wp2_with (at_builtin;refine wpList_append_rowK rfl (.tmp 5) (.tmp 6) 23 rfl w.heap.size HE.out _ 0 [] rfl HO.out Subtype.val Cl.len Cl.one es _ rfl HR.out (by omega) (by omega) HA.out.size ?_;intro v1 w1 own1 _ bel1;have O1:=Lib.hid own1;have B1:=Lib.hid bel1;clear own1 bel1)
  go_ret
  have:=O1.out
  rw [Nat.zero_add,List.nil_append] at this
  exact ⟨_,rfl,this,HA.out.trans B1.out⟩
theorem elemItem:∃ z,ElemIs Tryz.prog 26 91 z 94 824:=elemIs_of Tryz.underlying26 (by decide) (by kernel_rfl)
theorem cloneItem (v:Value) (es:List (Cl 94)) (w:World) (h:RowC 94 w v es) (hb:es.length*824≤140737488355328):Calls Tryz.prog 56 #[v] w fun e w'=>∃ v',e=.returned v'∧w'.ownsRow w.heap.size 91 94 v' es.length (es.flatMap Subtype.val)∧Below w.heap.size w w':=by
 obtain ⟨z,hE⟩:=elemItem
 have HR:=Lib.hid (h.below ((Below.refl w.heap.size w).alloc (Nat.le_refl _) (.cells #[] 91)))
 obtain ⟨ao,cap,rfl,⟨hc,hn⟩,_⟩:=h
 have HE:=Lib.hid hE
 have HO:=Lib.hid (empty_own w w.heap.size (Nat.le_refl _) 91 94)
 have HA:=Lib.hid ((Below.refl w.heap.size w).alloc (Nat.le_refl _) (.cells #[] 91))
 have q0:∀ (w:World) (a:Option Addr) (n c n' c':Nat),(binOp .eql 26 (.slice a n c) (.slice none n' c')).run Tryz.prog w=.ok (.bool a.isNone) w:=fun w a n c n' c'=>Lib.run_eql_slice_nil w _ _ a n c n' c' Tryz.underlying26
 clear hE
 cases ao with
 | none=>
  have hc0:=hn rfl
  subst hc0
  have he:es=[]:=List.eq_nil_of_length_eq_zero (by omega)
  subst he
  clear HR hn
  go_enter Tryz.func56,Tryz.ntmps56
  go_wp2_with fail
  go_ret
  exact ⟨_,rfl,World.ownsRow_nil _ _ _ _,Below.refl _ _⟩
 | some ad=>
  clear hn
  go_enter Tryz.func56,Tryz.ntmps56
  go_wp2_with (at_builtin;refine wpList_append_rowK rfl (.tmp 5) (.tmp 6) 26 rfl w.heap.size HE.out _ 0 [] rfl HO.out Subtype.val Cl.len Cl.one es _ rfl HR.out (by omega) (by omega) HA.out.size ?_;intro v1 w1 own1 _ bel1;have O1:=Lib.hid own1;have B1:=Lib.hid bel1;clear own1 bel1)
  go_ret
  have:=O1.out
  rw [Nat.zero_add,List.nil_append] at this
  exact ⟨_,rfl,this,HA.out.trans B1.out⟩
theorem elemTarget:∃ z,ElemIs Tryz.prog 89 120 z 2 16:=elemIs_of Tryz.underlying89 (by decide) (by kernel_rfl)
theorem cloneTarget (v:Value) (es:List (Cl 2)) (w:World) (h:RowC 2 w v es) (hb:es.length*16≤140737488355328):Calls Tryz.prog 58 #[v] w fun e w'=>∃ v',e=.returned v'∧w'.ownsRow w.heap.size 120 2 v' es.length (es.flatMap Subtype.val)∧Below w.heap.size w w':=by
 obtain ⟨z,hE⟩:=elemTarget
 have HR:=Lib.hid (h.below ((Below.refl w.heap.size w).alloc (Nat.le_refl _) (.cells #[] 120)))
 obtain ⟨ao,cap,rfl,⟨hc,hn⟩,_⟩:=h
 have HE:=Lib.hid hE
 have HO:=Lib.hid (empty_own w w.heap.size (Nat.le_refl _) 120 2)
 have HA:=Lib.hid ((Below.refl w.heap.size w).alloc (Nat.le_refl _) (.cells #[] 120))
 have q0:∀ (w:World) (a:Option Addr) (n c n' c':Nat),(binOp .eql 89 (.slice a n c) (.slice none n' c')).run Tryz.prog w=.ok (.bool a.isNone) w:=fun w a n c n' c'=>Lib.run_eql_slice_nil w _ _ a n c n' c' Tryz.underlying89
 clear hE
 cases ao with
 | none=>
  have hc0:=hn rfl
  subst hc0
  have he:es=[]:=List.eq_nil_of_length_eq_zero (by omega)
  subst he
  clear HR hn
  go_enter Tryz.func58,Tryz.ntmps58
  go_wp2_with fail
  go_ret
  exact ⟨_,rfl,World.ownsRow_nil _ _ _ _,Below.refl _ _⟩
 | some ad=>
  clear hn
  go_enter Tryz.func58,Tryz.ntmps58
  go_wp2_with (at_builtin;refine wpList_append_rowK rfl (.tmp 5) (.tmp 6) 89 rfl w.heap.size HE.out _ 0 [] rfl HO.out Subtype.val Cl.len Cl.one es _ rfl HR.out (by omega) (by omega) HA.out.size ?_;intro v1 w1 own1 _ bel1;have O1:=Lib.hid own1;have B1:=Lib.hid bel1;clear own1 bel1)
  go_ret
  have:=O1.out
  rw [Nat.zero_add,List.nil_append] at this
  exact ⟨_,rfl,this,HA.out.trans B1.out⟩
theorem elemWaiting:∃ z,ElemIs Tryz.prog 27 94 z 89 768:=elemIs_of Tryz.underlying27 (by decide) (by kernel_rfl)
theorem cloneWaiting (v:Value) (es:List (Cl 89)) (w:World) (h:RowC 89 w v es) (hb:es.length*768≤140737488355328):Calls Tryz.prog 59 #[v] w fun e w'=>∃ v',e=.returned v'∧w'.ownsRow w.heap.size 94 89 v' es.length (es.flatMap Subtype.val)∧Below w.heap.size w w':=by
 obtain ⟨z,hE⟩:=elemWaiting
 have HR:=Lib.hid (h.below ((Below.refl w.heap.size w).alloc (Nat.le_refl _) (.cells #[] 94)))
 obtain ⟨ao,cap,rfl,⟨hc,hn⟩,_⟩:=h
 have HE:=Lib.hid hE
 have HO:=Lib.hid (empty_own w w.heap.size (Nat.le_refl _) 94 89)
 have HA:=Lib.hid ((Below.refl w.heap.size w).alloc (Nat.le_refl _) (.cells #[] 94))
 have q0:∀ (w:World) (a:Option Addr) (n c n' c':Nat),(binOp .eql 27 (.slice a n c) (.slice none n' c')).run Tryz.prog w=.ok (.bool a.isNone) w:=fun w a n c n' c'=>Lib.run_eql_slice_nil w _ _ a n c n' c' Tryz.underlying27
 clear hE
 cases ao with
 | none=>
  have hc0:=hn rfl
  subst hc0
  have he:es=[]:=List.eq_nil_of_length_eq_zero (by omega)
  subst he
  clear HR hn
  go_enter Tryz.func59,Tryz.ntmps59
  go_wp2_with fail
  go_ret
  exact ⟨_,rfl,World.ownsRow_nil _ _ _ _,Below.refl _ _⟩
 | some ad=>
  clear hn
  go_enter Tryz.func59,Tryz.ntmps59
  go_wp2_with (at_builtin;refine wpList_append_rowK rfl (.tmp 5) (.tmp 6) 27 rfl w.heap.size HE.out _ 0 [] rfl HO.out Subtype.val Cl.len Cl.one es _ rfl HR.out (by omega) (by omega) HA.out.size ?_;intro v1 w1 own1 _ bel1;have O1:=Lib.hid own1;have B1:=Lib.hid bel1;clear own1 bel1)
  go_ret
  have:=O1.out
  rw [Nat.zero_add,List.nil_append] at this
  exact ⟨_,rfl,this,HA.out.trans B1.out⟩
theorem elemCont:∃ z,ElemIs Tryz.prog 28 96 z 6 80:=elemIs_of Tryz.underlying28 (by decide) (by kernel_rfl)
theorem cloneCont (v:Value) (es:List (Cl 6)) (w:World) (h:RowC 6 w v es) (hb:es.length*80≤140737488355328):Calls Tryz.prog 60 #[v] w fun e w'=>∃ v',e=.returned v'∧w'.ownsRow w.heap.size 96 6 v' es.length (es.flatMap Subtype.val)∧Below w.heap.size w w':=by
 obtain ⟨z,hE⟩:=elemCont
 have HR:=Lib.hid (h.below ((Below.refl w.heap.size w).alloc (Nat.le_refl _) (.cells #[] 96)))
 obtain ⟨ao,cap,rfl,⟨hc,hn⟩,_⟩:=h
 have HE:=Lib.hid hE
 have HO:=Lib.hid (empty_own w w.heap.size (Nat.le_refl _) 96 6)
 have HA:=Lib.hid ((Below.refl w.heap.size w).alloc (Nat.le_refl _) (.cells #[] 96))
 have q0:∀ (w:World) (a:Option Addr) (n c n' c':Nat),(binOp .eql 28 (.slice a n c) (.slice none n' c')).run Tryz.prog w=.ok (.bool a.isNone) w:=fun w a n c n' c'=>Lib.run_eql_slice_nil w _ _ a n c n' c' Tryz.underlying28
 clear hE
 cases ao with
 | none=>
  have hc0:=hn rfl
  subst hc0
  have he:es=[]:=List.eq_nil_of_length_eq_zero (by omega)
  subst he
  clear HR hn
  go_enter Tryz.func60,Tryz.ntmps60
  go_wp2_with fail
  go_ret
  exact ⟨_,rfl,World.ownsRow_nil _ _ _ _,Below.refl _ _⟩
 | some ad=>
  clear hn
  go_enter Tryz.func60,Tryz.ntmps60
  go_wp2_with (at_builtin;refine wpList_append_rowK rfl (.tmp 5) (.tmp 6) 28 rfl w.heap.size HE.out _ 0 [] rfl HO.out Subtype.val Cl.len Cl.one es _ rfl HR.out (by omega) (by omega) HA.out.size ?_;intro v1 w1 own1 _ bel1;have O1:=Lib.hid own1;have B1:=Lib.hid bel1;clear own1 bel1)
  go_ret
  have:=O1.out
  rw [Nat.zero_add,List.nil_append] at this
  exact ⟨_,rfl,this,HA.out.trans B1.out⟩
theorem elemMod:∃ z,ElemIs Tryz.prog 75 125 z 20 176:=elemIs_of Tryz.underlying75 (by decide) (by kernel_rfl)
theorem cloneMod (v:Value) (es:List (Cl 20)) (w:World) (h:RowC 20 w v es) (hb:es.length*176≤140737488355328):Calls Tryz.prog 61 #[v] w fun e w'=>∃ v',e=.returned v'∧w'.ownsRow w.heap.size 125 20 v' es.length (es.flatMap Subtype.val)∧Below w.heap.size w w':=by
 obtain ⟨z,hE⟩:=elemMod
 have HR:=Lib.hid (h.below ((Below.refl w.heap.size w).alloc (Nat.le_refl _) (.cells #[] 125)))
 obtain ⟨ao,cap,rfl,⟨hc,hn⟩,_⟩:=h
 have HE:=Lib.hid hE
 have HO:=Lib.hid (empty_own w w.heap.size (Nat.le_refl _) 125 20)
 have HA:=Lib.hid ((Below.refl w.heap.size w).alloc (Nat.le_refl _) (.cells #[] 125))
 have q0:∀ (w:World) (a:Option Addr) (n c n' c':Nat),(binOp .eql 75 (.slice a n c) (.slice none n' c')).run Tryz.prog w=.ok (.bool a.isNone) w:=fun w a n c n' c'=>Lib.run_eql_slice_nil w _ _ a n c n' c' Tryz.underlying75
 clear hE
 cases ao with
 | none=>
  have hc0:=hn rfl
  subst hc0
  have he:es=[]:=List.eq_nil_of_length_eq_zero (by omega)
  subst he
  clear HR hn
  go_enter Tryz.func61,Tryz.ntmps61
  go_wp2_with fail
  go_ret
  exact ⟨_,rfl,World.ownsRow_nil _ _ _ _,Below.refl _ _⟩
 | some ad=>
  clear hn
  go_enter Tryz.func61,Tryz.ntmps61
  go_wp2_with (at_builtin;refine wpList_append_rowK rfl (.tmp 5) (.tmp 6) 75 rfl w.heap.size HE.out _ 0 [] rfl HO.out Subtype.val Cl.len Cl.one es _ rfl HR.out (by omega) (by omega) HA.out.size ?_;intro v1 w1 own1 _ bel1;have O1:=Lib.hid own1;have B1:=Lib.hid bel1;clear own1 bel1)
  go_ret
  have:=O1.out
  rw [Nat.zero_add,List.nil_append] at this
  exact ⟨_,rfl,this,HA.out.trans B1.out⟩
theorem elemSpec:∃ z,ElemIs Tryz.prog 83 155 z 18 144:=elemIs_of Tryz.underlying83 (by decide) (by kernel_rfl)
theorem cloneSpec (v:Value) (es:List (Cl 18)) (w:World) (h:RowC 18 w v es) (hb:es.length*144≤140737488355328):Calls Tryz.prog 116 #[v] w fun e w'=>∃ v',e=.returned v'∧w'.ownsRow w.heap.size 155 18 v' es.length (es.flatMap Subtype.val)∧Below w.heap.size w w':=by
 obtain ⟨z,hE⟩:=elemSpec
 have HR:=Lib.hid (h.below ((Below.refl w.heap.size w).alloc (Nat.le_refl _) (.cells #[] 155)))
 obtain ⟨ao,cap,rfl,⟨hc,hn⟩,_⟩:=h
 have HE:=Lib.hid hE
 have HO:=Lib.hid (empty_own w w.heap.size (Nat.le_refl _) 155 18)
 have HA:=Lib.hid ((Below.refl w.heap.size w).alloc (Nat.le_refl _) (.cells #[] 155))
 have q0:∀ (w:World) (a:Option Addr) (n c n' c':Nat),(binOp .eql 83 (.slice a n c) (.slice none n' c')).run Tryz.prog w=.ok (.bool a.isNone) w:=fun w a n c n' c'=>Lib.run_eql_slice_nil w _ _ a n c n' c' Tryz.underlying83
 clear hE
 cases ao with
 | none=>
  have hc0:=hn rfl
  subst hc0
  have he:es=[]:=List.eq_nil_of_length_eq_zero (by omega)
  subst he
  clear HR hn
  go_enter Tryz.func116,Tryz.ntmps116
  go_wp2_with fail
  go_ret
  exact ⟨_,rfl,World.ownsRow_nil _ _ _ _,Below.refl _ _⟩
 | some ad=>
  clear hn
  go_enter Tryz.func116,Tryz.ntmps116
  go_wp2_with (at_builtin;refine wpList_append_rowK rfl (.tmp 5) (.tmp 6) 83 rfl w.heap.size HE.out _ 0 [] rfl HO.out Subtype.val Cl.len Cl.one es _ rfl HR.out (by omega) (by omega) HA.out.size ?_;intro v1 w1 own1 _ bel1;have O1:=Lib.hid own1;have B1:=Lib.hid bel1;clear own1 bel1)
  go_ret
  have:=O1.out
  rw [Nat.zero_add,List.nil_append] at this
  exact ⟨_,rfl,this,HA.out.trans B1.out⟩
theorem elemEffect:∃ z,ElemIs Tryz.prog 84 164 z 64 560:=elemIs_of Tryz.underlying84 (by decide) (by kernel_rfl)
theorem cloneEffect (v:Value) (es:List (Cl 64)) (w:World) (h:RowC 64 w v es) (hb:es.length*560≤140737488355328):Calls Tryz.prog 117 #[v] w fun e w'=>∃ v',e=.returned v'∧w'.ownsRow w.heap.size 164 64 v' es.length (es.flatMap Subtype.val)∧Below w.heap.size w w':=by
 obtain ⟨z,hE⟩:=elemEffect
 have HR:=Lib.hid (h.below ((Below.refl w.heap.size w).alloc (Nat.le_refl _) (.cells #[] 164)))
 obtain ⟨ao,cap,rfl,⟨hc,hn⟩,_⟩:=h
 have HE:=Lib.hid hE
 have HO:=Lib.hid (empty_own w w.heap.size (Nat.le_refl _) 164 64)
 have HA:=Lib.hid ((Below.refl w.heap.size w).alloc (Nat.le_refl _) (.cells #[] 164))
 have q0:∀ (w:World) (a:Option Addr) (n c n' c':Nat),(binOp .eql 84 (.slice a n c) (.slice none n' c')).run Tryz.prog w=.ok (.bool a.isNone) w:=fun w a n c n' c'=>Lib.run_eql_slice_nil w _ _ a n c n' c' Tryz.underlying84
 clear hE
 cases ao with
 | none=>
  have hc0:=hn rfl
  subst hc0
  have he:es=[]:=List.eq_nil_of_length_eq_zero (by omega)
  subst he
  clear HR hn
  go_enter Tryz.func117,Tryz.ntmps117
  go_wp2_with fail
  go_ret
  exact ⟨_,rfl,World.ownsRow_nil _ _ _ _,Below.refl _ _⟩
 | some ad=>
  clear hn
  go_enter Tryz.func117,Tryz.ntmps117
  go_wp2_with (at_builtin;refine wpList_append_rowK rfl (.tmp 5) (.tmp 6) 84 rfl w.heap.size HE.out _ 0 [] rfl HO.out Subtype.val Cl.len Cl.one es _ rfl HR.out (by omega) (by omega) HA.out.size ?_;intro v1 w1 own1 _ bel1;have O1:=Lib.hid own1;have B1:=Lib.hid bel1;clear own1 bel1)
  go_ret
  have:=O1.out
  rw [Nat.zero_add,List.nil_append] at this
  exact ⟨_,rfl,this,HA.out.trans B1.out⟩
end Go.Proofs.YtmloamomcbmfhaaGreat
end
section
namespace Go.Proofs.YtmloamomcbmfhaaGreat
open Go Cg Go.RowKit Go.Sort
theorem clone_of {P:Program} {f:FuncId} {ty k b:Nat} (he:Ent P f) (hr:∀ (v:Value) (es:List (Cl k)) (w:World),RowC k w v es→es.length*b≤140737488355328→Calls P f #[v] w fun e w'=>∃ v',e=.returned v'∧w'.ownsRow w.heap.size ty k v' es.length (es.flatMap Subtype.val)∧Below w.heap.size w w') (xs:List (List Tr)) (hb:xs.length*b≤140737488355328) :
  Ct P f [.c (.t (.sl k xs))] (.c (.row 0 0)) [⟨ty,k,0,xs,none⟩] false:=by
 refine ⟨he,Nb rfl,fun R hR=>?_,rfl,fun x hx=>(by cases hx),fun x hx=>?_,fun w vs E0 ha=>?_⟩
 ·obtain rfl:R=_:=List.mem_singleton.1 hR
  rfl
 ·obtain rfl:x=(0,0):=by simpa [AV.rids,AV.rid1,Ce.rids] using hx
  exact ⟨_,rfl,Nat.le_refl _⟩
 cases ha with
 | cons hv hnil=>
  cases hnil
  rename_i v
  have hv:RT E0.F w v (.sl k xs):=hv
  obtain ⟨es,hes,hrow⟩:∃ es:List (Cl k),Ets E0.F w es xs∧RowC k w v es:=by
   obtain ⟨ao,cap,h1,h2,h3⟩:=RT.len hv
   rcases hv.cases' with h0|⟨g,o,cap',h4,h5,h6,h7,h8⟩
   ·subst h0
    exact ⟨[],⟨rfl,fun j vs ts h=>by simp at h⟩,ao,cap,h1,⟨Nat.zero_le _,h3⟩,.inl rfl⟩
   ·obtain ⟨es,h9,h10⟩:=h8.raw
    refine ⟨es,h9,_,cap',by rw [h4,h9.len],⟨by rw [h9.len];exact h5,fun h=>by cases h⟩,.inr ⟨g,o,rfl,h7,fun j x hx i u hu=>?_⟩⟩
    have hi:i < k:=by have:=(List.getElem?_eq_some_iff.1 hu).1;rwa [Cl.len] at this
    have:=h10 (j*k+i) u (by rw [flat_get (enc:=Subtype.val) Cl.len es j x hx i hi];exact hu)
    rwa [← Nat.add_assoc] at this
  refine (hr v es w hrow (by rw [hes.len];exact hb)).mono ?_
  rintro e w' ⟨v',rfl,hown,hbel⟩
  refine ⟨v',rfl,hbel,⟨fun b=>if b < w.heap.size then (if E0.rl b=.cold then .cold else .non) else .rw 0,fun _=>0,fun _ _=>v'⟩,⟨rfl,own_one hown⟩,fun j R hj=>?_,fun b hlt hc=>⟨rfl,?_⟩⟩
  ·cases j with
   | succ j=>simp at hj
   | zero=>
    obtain rfl:=Option.some.inj hj
    refine Ow.rr rfl ⟨es,hown,hes.fr hbel.size (fun b _ hlt=>hbel.block b hlt) (fun b hb hlt=>?_),fun g hg=>?_⟩
    ·show (if b < w.heap.size then (if E0.rl b=.cold then .cold else .non) else BRole.rw 0)=.cold
     rw [if_pos hlt,if_pos (show E0.rl b=.cold from hb)]
    ·show (if g < w.heap.size then (if E0.rl g=.cold then .cold else .non) else BRole.rw 0)=.rw 0
     rw [if_neg (Nat.not_lt.2 (hown.lt g hg).1)]
  ·have hc:(if b < w.heap.size then (if E0.rl b=.cold then .cold else .non) else BRole.rw 0)=.cold:=hc
   rw [if_pos hlt] at hc
   split at hc
   ·rename_i h
    exact h
   ·cases hc
theorem ct_tree {P:Program} {f:FuncId} {ars:List AV} {ty k:Nat} {xs:List (List Tr)} (h:Ct P f ars (.c (.row 0 0)) [⟨ty,k,0,xs,none⟩] false):Ct P f ars (.c (.t (.sl k xs))) [] false:=by
 refine ⟨h.ent,Nat.zero_le _,fun R hR=>(by cases hR),h.plain,fun x hx=>(by cases hx),fun x hx=>(by cases hx),fun w vs E0 ha=>(h.run w vs E0 ha).mono ?_⟩
 rintro e w' ⟨v,rfl,hbel,E,hr,hrow,hcold⟩
 refine ⟨v,rfl,hbel,⟨fun b=>if b < w.heap.size then E.rl b else .cold,fun _=>0,fun _ _=>v⟩,?_,fun j R hj=>(by simp at hj),fun b hlt hc=>hcold b hlt ?_⟩
 ·have hr:RC E w' v (.row 0 0):=hr
  show RT _ w' v (.sl k xs)
  obtain ⟨es,h1,h2,h3⟩:=(hrow 0 _ rfl).ow rfl
  rw [hr.1]
  refine own_rt h1 h2.len (fun g hg _=>?_) fun j x ts q1 q2=>(h2.at_ j x ts q1 q2).frame (Nat.le_refl _) (fun _ _ _=>rfl) fun b hb _=>?_
  ·show (if g < w.heap.size then E.rl g else BRole.cold)=.cold
   rw [if_neg (Nat.not_lt.2 (h1.lt g hg).1)]
  ·show (if b < w.heap.size then E.rl b else BRole.cold)=.cold
   split
   ·exact hb
   ·rfl
 ·have hc:(if b < w.heap.size then E.rl b else BRole.cold)=.cold:=hc
  rwa [if_pos hlt] at hc
theorem cloneInt_ct (xs:List (List Tr)) (h:xs.length*8≤limB):Ct Tryz.prog 55 [.c (.t (.sl 1 xs))] (.c (.row 0 0)) [⟨3,1,0,xs,none⟩] false:=
 clone_of (enters_of Tryz.func55 (by kernel_rfl) rfl) cloneint xs (Nat.le_trans h (Nb rfl))
theorem cloneObject_ct (xs:List (List Tr)) (h:xs.length*128≤limB):Ct Tryz.prog 54 [.c (.t (.sl 19 xs))] (.c (.row 0 0)) [⟨49,19,0,xs,none⟩] false:=
 clone_of (enters_of Tryz.func54 (by kernel_rfl) rfl) cloneObject xs (Nat.le_trans h (Nb rfl))
theorem clonePlayer_ct (xs:List (List Tr)) (h:xs.length*152≤limB):Ct Tryz.prog 52 [.c (.t (.sl 14 xs))] (.c (.row 0 0)) [⟨47,14,0,xs,none⟩] false:=
 clone_of (enters_of Tryz.func52 (by kernel_rfl) rfl) clonePlayer xs (Nat.le_trans h (Nb rfl))
theorem cloneItem_ct (xs:List (List Tr)) (h:xs.length*824≤limB):Ct Tryz.prog 56 [.c (.t (.sl 94 xs))] (.c (.row 0 0)) [⟨91,94,0,xs,none⟩] false:=
 clone_of (enters_of Tryz.func56 (by kernel_rfl) rfl) cloneItem xs (Nat.le_trans h (Nb rfl))
theorem cloneTarget_ct (xs:List (List Tr)) (h:xs.length*16≤limB):Ct Tryz.prog 58 [.c (.t (.sl 2 xs))] (.c (.row 0 0)) [⟨120,2,0,xs,none⟩] false:=
 clone_of (enters_of Tryz.func58 (by kernel_rfl) rfl) cloneTarget xs (Nat.le_trans h (Nb rfl))
theorem cloneWaiting_ct (xs:List (List Tr)) (h:xs.length*768≤limB):Ct Tryz.prog 59 [.c (.t (.sl 89 xs))] (.c (.row 0 0)) [⟨94,89,0,xs,none⟩] false:=
 clone_of (enters_of Tryz.func59 (by kernel_rfl) rfl) cloneWaiting xs (Nat.le_trans h (Nb rfl))
theorem cloneCont_ct (xs:List (List Tr)) (h:xs.length*80≤limB):Ct Tryz.prog 60 [.c (.t (.sl 6 xs))] (.c (.row 0 0)) [⟨96,6,0,xs,none⟩] false:=
 clone_of (enters_of Tryz.func60 (by kernel_rfl) rfl) cloneCont xs (Nat.le_trans h (Nb rfl))
theorem cloneMod_ct (xs:List (List Tr)) (h:xs.length*176≤limB):Ct Tryz.prog 61 [.c (.t (.sl 20 xs))] (.c (.row 0 0)) [⟨125,20,0,xs,none⟩] false:=
 clone_of (enters_of Tryz.func61 (by kernel_rfl) rfl) cloneMod xs (Nat.le_trans h (Nb rfl))
theorem cloneSpec_ct (xs:List (List Tr)) (h:xs.length*144≤limB):Ct Tryz.prog 116 [.c (.t (.sl 18 xs))] (.c (.row 0 0)) [⟨155,18,0,xs,none⟩] false:=
 clone_of (enters_of Tryz.func116 (by kernel_rfl) rfl) cloneSpec xs (Nat.le_trans h (Nb rfl))
theorem cloneEffect_ct (xs:List (List Tr)) (h:xs.length*560≤limB):Ct Tryz.prog 117 [.c (.t (.sl 64 xs))] (.c (.row 0 0)) [⟨164,64,0,xs,none⟩] false:=
 clone_of (enters_of Tryz.func117 (by kernel_rfl) rfl) cloneEffect xs (Nat.le_trans h (Nb rfl))
theorem copyPlayer_ct (p:GPlayer) (h:p.ok):Ct Tryz.prog 53 [.agg (p.enc.map .t)] (.agg ((p.enc.map .t).take 11++[.row 0 0,.row 1 0,.row 2 0])) [⟨3,1,0,p.library.map eI,none⟩,⟨3,1,0,p.hand.map eI,none⟩,⟨3,1,0,p.graveyard.map eI,none⟩] false:=by
 refine ct_of Tryz.func53 rfl (enters_of Tryz.func53 (by kernel_rfl) rfl) tabOk (by kernel_rfl) rfl rfl rfl rfl fun w0 O _=>Tp.run [] ?_
 obtain ⟨h1,h2,h3⟩:=h
 refine cI (cloneInt_ct _ (map_bound _ _ _ h1)) ⟨rfl,trivial⟩ (.inr rfl) ?_
 refine cI (cloneInt_ct _ (map_bound _ _ _ h2)) ⟨rfl,trivial⟩ (.inr rfl) ?_
 refine cI (cloneInt_ct _ (map_bound _ _ _ h3)) ⟨rfl,trivial⟩ (.inr rfl) ?_
 exact Ei [(0,512),(1,1152),(2,1792)] (Ai rfl (Ai (Ai ⟨rfl,rfl,rfl⟩ (Ai ⟨rfl,rfl,rfl⟩ (Ai ⟨rfl,rfl,rfl⟩ trivial))) (by repeat' first|refine Ai ?_ ?_|exact rfl|exact trivial|exact Ei _ rfl|refine lN ?_|refine bS ?_|fail)))
theorem set_same {α:Type} {xs:List α} {i:Nat} {t:α} (h:xs[i]? = some t):xs.set i t=xs:=by
 refine List.ext_getElem? fun j=>?_
 by_cases e:i=j
 ·subst e
  rw [List.getElem?_set_self (List.getElem?_eq_some_iff.1 h).1,h]
 ·rw [List.getElem?_set_ne e]
theorem copyAbility_ct (a:GAbility) (h:a.ok):Ct Tryz.prog 57 [.agg (a.enc.map .t)] (.agg (a.enc.map .t)) [] false:=by
 obtain ⟨_,hm,hm2,_,_,hs,hs2,he,he2,_⟩:=h
 refine ct_of Tryz.func57 rfl (enters_of Tryz.func57 (by kernel_rfl) rfl) tabOk (by kernel_rfl) rfl rfl rfl rfl fun w0 O _=>Tp.run [9] ?_
 refine cI (ct_tree (cloneMod_ct _ (map_bound _ _ _ hm))) ⟨rfl,trivial⟩ (.inr rfl) ?_
 refine cI (ct_tree (cloneSpec_ct _ (map_bound _ _ _ hs))) ⟨rfl,trivial⟩ (.inr rfl) ?_
 refine cI (cloneEffect_ct _ (map_bound _ _ _ he)) ⟨rfl,trivial⟩ (.inr rfl) ?_
 refine Tp.loop (fun k:Nat=>⟨[(1,.ptr 0 0),(2,.ptr 128 0),(18,AV.i (a.effects.map GEffect.enc).length),(19,AV.i k)],[(0,(a.enc.map .t).set 49 (.row 9000 0)),(128,List.replicate 72 .bot)],[(9000,⟨164,64,0,a.effects.map GEffect.enc,none⟩)],10000⟩) (fun k=>k≤a.effects.length) (fun k=>a.effects.length - k) 0 ?_ (Nat.zero_le _) ?_
 ·refine wk_of [(9000,1792)] rfl rfl ?_ ?_ ?_
  all_goals repeat' first|refine Ai ?_ ?_|exact rfl|exact trivial|exact Ei _ rfl|refine lN ?_|refine bS ?_|fail
 rintro k hk
 refine Tp.run [9] ?_
 refine cS (fun h=>?_) (fun h=>?_)
 ·have hlt:=len_lt h
  obtain ⟨_,_,_,hem,hem2⟩:=he2 a.effects[k] (List.getElem_mem hlt)
  have hkl:k < (a.effects.map GEffect.enc).length:=by rw [Lm];exact hlt
  refine Ei k (Ai rfl (Ai hkl ?_))
  refine Ei (a.effects[k].enc) (Ei _ (Ai (map_get _ _ k hlt) (Ai rfl ?_)))
  refine cI (ct_tree (cloneMod_ct _ (map_bound _ _ _ hem))) ⟨rfl,trivial⟩ (.inr rfl) ?_
  refine Ei k (Ai rfl (Ai hkl ?_))
  refine Ei (a.effects[k].enc) (Ai (map_get _ _ k hlt) (Ai (Nb rfl) ?_))
  refine Ei (k+1) (Ai (show k+1≤_ by omega) (Ai (show a.effects.length - (k+1) < a.effects.length - k by omega) ?_))
  refine wk_of [(9000,9000)] rfl rfl ?_ ?_ ?_
  ·repeat' first|refine Ai ?_ ?_|exact rfl|exact trivial|exact Ei _ rfl|refine lN ?_|refine bS ?_|fail
   exact succ_eq k hlt 560 (by decide) he
  ·repeat' first|refine Ai ?_ ?_|exact rfl|exact trivial|exact Ei _ rfl|refine lN ?_|refine bS ?_|fail
  ·repeat' first|refine Ai ?_ ?_|exact rfl|exact trivial|exact Ei _ rfl|refine lN ?_|refine bS ?_|fail
   exact set_same (map_get _ _ k hlt)
 ·have hk2:=len_ge h hk
  subst hk2
  refine Tp.run [] ?_
  refine Ei [] (Ai rfl (Ai trivial ?_))
  repeat' first|refine Ai ?_ ?_|exact rfl|exact trivial|exact Ei _ rfl|refine lN ?_|refine bS ?_|fail
theorem rt_rowAt {F:Nat→Prop} {w:World} {v:Value} {l:List Int} (h:RT F w v (.sl 1 (l.map eI))):RowAt (Value.int .i64) w v l:=by
 obtain ⟨ao,cap,h1,h2,h3⟩:=h.len
 rw [Lm] at h1 h2
 refine ⟨ao,cap,h1,⟨h2,h3⟩,?_⟩
 rcases h.cases' with h0|⟨g,o,cap',h4,_,_,h7,h8⟩
 ·left
  simpa using h0
 ·right
  rw [h1] at h4
  injection h4 with h4 _ _
  refine ⟨g,o,h4,h7,fun j x hj=>?_⟩
  obtain ⟨vs,hl,hc,hr⟩:=h8.get j (eI x) (by rw [List.getElem?_map,hj];rfl)
  cases hr with
  | cons a b=>
   cases b
   have:=hc 0 _ rfl
   rw [Nat.mul_one,Nat.add_zero] at this
   rw [this]
   cases a with
   | lit _=>rfl
def clZ (n:Int):Cl 1:=⟨[.int .i64 n],rfl,fun u hu=>by rw [List.mem_singleton.1 hu];rfl⟩
theorem clZ_flat:∀ l:List Int,(l.map clZ).flatMap Subtype.val=l.map (Value.int .i64)
 | []=>rfl
 | x :: l=>by
  rw [List.map_cons,List.flatMap_cons,clZ_flat l]
  rfl
theorem rr_ints {E:Env} {w:World} {n0:Nat} {v:Value} {l:List Int} (hv:E.vl 0 0=v) (h:w.ownsRow n0 3 1 v l.length (l.map (Value.int .i64))) (hr:∀ g,v.ownBlock=some g→E.rl g=.rw 0):RR E w n0 0 ⟨3,1,0,l.map eI,none⟩:=by
 refine Ow.rr rfl ⟨l.map clZ,?_,⟨by rw [Lm,Lm],fun j vs ts h1 h2=>?_⟩,?_⟩
 ·show w.ownsRow n0 3 1 (E.vl 0 0) _ _
  rw [hv,clZ_flat,Lm]
  exact h
 ·rw [List.getElem?_map] at h1 h2
  cases hl:l[j]? with
  | none=>rw [hl] at h1;cases h1
  | some x=>
   rw [hl] at h1 h2
   injection h1 with h1
   injection h2 with h2
   subst h1 h2
   exact .cons (.lit rfl) .nil
 ·show ∀ g,(E.vl 0 0).ownBlock=some g→_
  rw [hv]
  exact hr
theorem two_ints {P:Program} {f:FuncId} {xs ys zs:List Int} (he:Ent P f) (hf:∀ v u w,RowAt (Value.int .i64) w v xs→RowAt (Value.int .i64) w u ys→Calls P f #[v,u] w fun e w'=>∃ v',e=.returned v'∧w'.ownsRow w.heap.size 3 1 v' zs.length (zs.map (Value.int .i64))∧Below w.heap.size w w'):Ct P f [.c (.t (.sl 1 (xs.map eI))),.c (.t (.sl 1 (ys.map eI)))] (.c (.row 0 0)) [⟨3,1,0,zs.map eI,none⟩] true:=by
 refine ⟨he,Nb rfl,fun R hR=>?_,rfl,fun x hx=>(by cases hx),fun x hx=>?_,fun w vs E0 ha=>?_⟩
 ·obtain rfl:R=_:=List.mem_singleton.1 hR
  rfl
 ·obtain rfl:x=(0,0):=by simpa [AV.rids,AV.rid1,Ce.rids] using hx
  exact ⟨_,rfl,Nat.le_refl _⟩
 cases ha with
 | cons h1 hr=>
  cases hr with
  | cons h2 hn=>
   cases hn
   refine (hf _ _ w (rt_rowAt (F:=E0.F) h1) (rt_rowAt (F:=E0.F) h2)).mono ?_
   rintro e w' ⟨v',rfl,hown,hbel⟩
   refine ⟨v',rfl,hbel,⟨fun b=>if b < w.heap.size then .non else .rw 0,fun _=>0,fun _ _=>v'⟩,⟨rfl,own_one hown⟩,fun j R hj=>?_,fun b hlt hc=>?_⟩
   ·cases j with
    | succ j=>simp at hj
    | zero=>
     obtain rfl:=Option.some.inj hj
     refine rr_ints rfl hown fun g hg=>?_
     show (if g < w.heap.size then BRole.non else BRole.rw 0)=.rw 0
     rw [if_neg (Nat.not_lt.2 (hown.lt g hg).1)]
   ·have hc:(if b < w.heap.size then BRole.non else BRole.rw 0)=.cold:=hc
    rw [if_pos hlt] at hc
    cases hc
theorem minusP_ct (xs ys:List Int) (hx:xs.length≤1000000) (hy:ys.length≤1000000):Ct Tryz.prog 47 [.c (.t (.sl 1 (xs.map eI))),.c (.t (.sl 1 (ys.map eI)))] (.c (.row 0 0)) [⟨3,1,0,(fminus xs ys).map eI,none⟩] true:=
 two_ints (enters_of Tryz.func47 (by kernel_rfl) rfl) fun v u w h k=>fminus_prog v u xs ys w h k hx hy
end Go.Proofs.YtmloamomcbmfhaaGreat
end
section
namespace Cg
open Go
def zeroObj:GObject:=⟨0,0,0,0,0,false,false,false,false,0,0,0,0,0,0,0,false,0,0⟩
def placeM (l:List GObject) (id:Int):Int:=fidx (fun o:GObject=>o.id==id) l
def findM (l:List GObject) (id:Int):GObject:=(l.find? fun o=>o.id==id).getD zeroObj
def hasM (l:List GObject) (id:Int):Bool:=(l.find? fun o=>o.id==id).isSome
def insM (l:List GObject) (o:GObject):List GObject:=l.take (l.takeWhile fun x=>decide (x.id < o.id)).length++[o]++l.drop (l.takeWhile fun x=>decide (x.id < o.id)).length
def putL (l:List GObject) (o:GObject):List GObject:=match l.findIdx? fun x=>x.id==o.id with
 | some i=>l.set i o
 | none=>insM l o
def putM (s:GState) (o:GObject):GState:={ s with objects:=putL s.objects o }
def listM (s:GState) (z p:Int):List Int:=
 if z==0 then s.battlefield else if z==4 then s.exile else if p < 0∨(s.players.length:Int)≤p then [] else match s.players[p.toNat]? with
  | some q=>if z==1 then q.hand else if z==2 then q.library else if z==3 then q.graveyard else []
  | none=>[]
def setP (q:GPlayer) (z:Int) (l:List Int):GPlayer:=if z==1 then { q with hand:=l } else if z==2 then { q with library:=l } else if z==3 then { q with graveyard:=l } else q
def setM (s:GState) (z p:Int) (l:List Int):GState:=
 if z==0 then { s with battlefield:=l } else if z==4 then { s with exile:=l } else if p < 0∨(s.players.length:Int)≤p then s else match s.players[p.toNat]? with
  | some q=>{ s with players:=s.players.set p.toNat (setP q z l) }
  | none=>s
def newM (id card player z stamp:Int):GObject:={ zeroObj with id:=id,card:=card,owner:=player,control:=player,zone:=z,stamp:=stamp,copy:=-1,attack:=-1 }
theorem fidx_cases {α:Type} (p:α→Bool) (l:List α):(fidx p l = -1∧l.findIdx? p=none∧l.find? p=none)∨∃ (i:Nat) (h:i < l.length),fidx p l=i∧l.findIdx? p=some i∧l.find? p=some l[i]:=by
 unfold fidx
 cases hq:l.findIdx? p with
 | none=>exact .inl ⟨rfl,rfl,by
   rw [List.find?_eq_none]
   rw [List.findIdx?_eq_none_iff] at hq
   intro x hx
   simp [hq x hx]⟩
 | some i=>
  have h1:=List.findIdx?_eq_some_iff_getElem.1 hq
  obtain ⟨h2,h3,h4⟩:=h1
  refine .inr ⟨i,h2,rfl,rfl,?_⟩
  rw [List.find?_eq_some_iff_getElem]
  exact ⟨h3,i,h2,rfl,fun j hj=>by simpa using h4 j hj⟩
theorem takeWhile_len {α:Type} (p:α→Bool):∀ (l:List α) (k:Nat),k≤l.length→(∀ j (h:j < l.length),j < k→p l[j]=true)→(k=l.length∨∃ h:k < l.length,p l[k]=false)→(l.takeWhile p).length=k
 | [],k,hk,_,_=>by
  have:k=0:=by simpa using hk
  rw [this]
  rfl
 | x :: l,0,_,_,hk=>by
  rcases hk with hk|⟨h,hk⟩
  ·simp at hk
  ·have:p x=false:=hk
   rw [List.takeWhile_cons_of_neg (by simp [this])]
   rfl
 | x :: l,k+1,hk,h,hn=>by
  have hx:p x=true:=h 0 (by simp) (by omega)
  rw [List.takeWhile_cons_of_pos hx,List.length_cons,takeWhile_len p l k (by simpa using hk) (fun j hj hjk=>h (j+1) (by simp;omega) (by omega)) ?_]
  rcases hn with hn|⟨h2,hn⟩
  ·left
   simpa using hn
  ·right
   exact ⟨by simpa using h2,hn⟩
theorem one_more {n b:Nat} (hb:b≤3000) (h:n*b≤limB):(n+1)*b < 140737488355328:=by
 unfold limB at h
 rw [Nat.add_mul]
 omega
section
def inM (n a b:Int):Bool:=decide (n≥a)&&decide (n≤b)
def allI {α:Type} (p:Nat→α→Bool):Nat→List α→Bool
 | _,[]=>true
 | k,x :: r=>p k x&&allI p (k+1) r
theorem allI_iff {α:Type} {p:Nat→α→Bool}:∀ {k:Nat} {l:List α},allI p k l=true↔∀ j (h:j < l.length),p (k+j) l[j]=true
 | k,[]=>⟨fun _ j h=>by simp at h,fun _=>rfl⟩
 | k,x :: r=>by
  rw [allI,Bool.and_eq_true,allI_iff]
  refine ⟨fun ⟨h1,h2⟩ j h=>?_,fun h=>⟨h 0 (by simp),fun j hj=>?_⟩⟩
  ·cases j with
   | zero=>exact h1
   | succ j=>have:=h2 j (by simpa using h);rwa [show k+1+j=k+(j+1) by omega] at this
  ·have:=h (j+1) (by simpa using hj)
   rwa [show k+1+j=k+(j+1) by omega]
def timesM (l:List Int) (n:Int):Int:=((l.count n:Nat):Int)
def listOk (s:GState) (z w:Int) (l:List Int):Bool:=l.all fun id=>hasM s.objects id&&((findM s.objects id).zone==z&&((!decide (w≥0)||(findM s.objects id).owner==w)&&timesM l id==1))
def wholeM (a b c d e f:Int):Bool:=(!decide (a < 0)&&!decide (a > 1000000))&&((!decide (b < 0)&&!decide (b > 1000000))&&((!decide (c < 0)&&!decide (c > 1000000))&&((!decide (d < 0)&&!decide (d > 1000000))&&((!decide (e < 0)&&!decide (e > 1000000))&&(!decide (f < 0)&&!decide (f > 1000000))))))
def plyOk (s:GState) (i:Nat) (p:GPlayer):Bool:=inM p.life (-1000000) 1000000&&(inM p.venom 0 1000000&&(inM p.lands 0 1000000&&(wholeM p.pool0 p.pool1 p.pool2 p.pool3 p.pool4 p.pool5&&(listOk s 2 i p.library&&(listOk s 1 i p.hand&&listOk s 3 i p.graveyard)))))
def playersOk (s:GState):Bool:=inM s.players.length 2 4&&(allI (plyOk s) 0 s.players&&(listOk s 0 (-1) s.battlefield&&listOk s 4 (-1) s.exile))
def spellsM (s:GState) (id:Int):Int:=((s.stack.countP (fun x=>x.kind==1&&x.id==id):Nat):Int)
def placedOk (s:GState) (o:GObject):Bool:=if o.zone==5 then spellsM s o.id==1 else timesM (listM s o.zone o.owner) o.id==1
def calmM (o:GObject):GObject:={ o with attack:=-1,blocked:=false,blocks:=0 }
def endedM (o:GObject):GObject:={ o with damage:=0,deadly:=false,shield:=0 }
def cntOk (a b c:Int):Bool:=(!decide (a < 0)&&!decide (a > 1000000))&&((!decide (b < 0)&&!decide (b > 1000000))&&(!decide (c < 0)&&!decide (c > 1000000)))
def restOk (o:GObject):Bool:=o.attack==-1&&(!o.blocked&&(o.blocks==0&&(o.damage==0&&(!o.deadly&&(o.shield==0&&(!o.tapped&&(!o.sick&&(o.counters0==0&&(o.counters1==0&&o.counters2==0)))))))))
def objOk (o:GObject) (cards players:Int):Bool:=
 (!decide (o.id < 1)&&(!decide (o.card < 0)&&(!decide (o.card≥cards)&&(!decide (o.owner < 0)&&(!decide (o.owner≥players)&&(!decide (o.control < 0)&&(!decide (o.control≥players)&&(!decide (o.zone < 0)&&!decide (o.zone > 5))))))))) &&
 ((!decide (o.damage < 0)&&(!decide (o.damage > 1000000)&&(!decide (o.stamp < 0)&&(!decide (o.stamp > 1000000)&&(!decide (o.blocks < 0)&&(!decide (o.blocks > 1000000)&&(!decide (o.shield < 0)&&!decide (o.shield > 1000000)))))))) &&
 ((cntOk o.counters0 o.counters1 o.counters2&&(!decide (o.copy < -1)&&(!decide (o.copy≥cards)&&(!decide (o.attack < -1)&&!decide (o.attack≥players)))))&&(o.zone==0||restOk o)))
def objAt (cards:Int) (s:GState) (i:Nat) (o:GObject):Bool:=objOk o cards s.players.length&&(!decide (o.id≥s.nextId)&&(!decide (o.stamp≥s.nextStamp)&&((!decide ((i:Int) > 0)||!decide ((s.objects.getD (i - 1) zeroObj).id≥o.id))&&placedOk s o)))
def objsOk (cards:Int) (s:GState):Bool:=!decide ((s.objects.length:Int) > 2048)&&allI (objAt cards s) 0 s.objects
def plM (s:GState) (p:Int):Bool:=inM p 0 ((s.players.length:Int) - 1)
structure Opq where
 ab:GAbility→Bool
 zero:GAbility→Bool
 set:List Int→Bool
 txt:List GMod→ByteArray
def itemOk (q:Opq) (s:GState) (x:GItem):Bool:=
 (inM x.id 1 (s.nextId - 1)&&(inM x.x 0 1000000&&(!decide ((x.targets.length:Int) > 4)&&plM s x.control))) &&
 (if x.kind==1 then x.source==x.id&&(hasM s.objects x.id&&((findM s.objects x.id).zone==5&&(q.zero x.ability||q.ab x.ability))) else x.kind==2&&(!hasM s.objects x.id&&q.ab x.ability))
def itemAt (q:Opq) (s:GState) (i:Nat) (x:GItem):Bool:=itemOk q s x&&(s.stack.take i).all fun y=>!(y.id==x.id)
def waitOk (q:Opq) (s:GState) (w:GWaiting):Bool:=plM s w.control&&(w.ability.kind==4&&q.ab w.ability)
def contOk (q:Opq) (s:GState) (c:GCont):Bool:=plM s c.control&&(!decide (c.stamp≥s.nextStamp)&&(inM c.until_ 1 2&&(q.set c.objects&&!((q.txt c.mods).toList==(⟨#[]⟩:ByteArray).toList))))
def stackOk (q:Opq) (s:GState):Bool:=(!decide ((s.stack.length:Int) > 64)&&(!decide ((s.waiting.length:Int) > 64)&&!decide ((s.conts.length:Int) > 64)))&&(allI (itemAt q s) 0 s.stack&&(s.waiting.all (waitOk q s)&&s.conts.all (contOk q s)))
def isA (s:GState):Bool:=inM s.nextId 1 1000000&&(inM s.nextStamp 1 1000000&&(inM s.turn 0 500&&(inM s.step 0 10&&!decide ((s.objects.length:Int) > 2048))))
def isB (s:GState):Bool:=playersOk s&&(plM s s.active&&(plM s s.priority&&(inM s.passes 0 s.players.length&&(!decide ((s.extra.length:Int) > 500)&&inM s.over 0 2))))
def isW (s:GState):Bool:=if s.over==1 then plM s s.winner else s.winner==-1
def isM (q:Opq) (cards:Int) (s:GState):Bool:=isA s&&(isB s&&(s.extra.all (plM s)&&(isW s&&(objsOk cards s&&stackOk q s))))
theorem take_up {α:Type} {l:List α} {i:Int} (h0:0≤i) (hl:i.toNat < l.length):l.take (i+1).toNat=l.take i.toNat++[l[i.toNat]]:=by
 rw [show (i+1).toNat=i.toNat+1 by omega,List.take_append_getElem hl]
theorem cnt_hit {l:List Int} {i n:Int} (h0:0≤i) (hl:i.toNat < l.length) (h:l[i.toNat]=n):((((l.take (i+1).toNat).count n:Nat)):Int)=((l.take i.toNat).count n:Nat)+1:=by
 rw [take_up h0 hl,List.count_append,h]
 simp
theorem cnt_miss {l:List Int} {i n:Int} (h0:0≤i) (hl:i.toNat < l.length) (h:¬ l[i.toNat]=n):((((l.take (i+1).toNat).count n:Nat)):Int)=((l.take i.toNat).count n:Nat):=by
 rw [take_up h0 hl,List.count_append]
 simp [h]
theorem cntP_up {α:Type} {l:List α} {p:α→Bool} {i:Int} (h0:0≤i) (hl:i.toNat < l.length):((((l.take (i+1).toNat).countP p:Nat)):Int)=((l.take i.toNat).countP p:Nat)+(if p l[i.toNat] then 1 else 0):=by
 rw [take_up h0 hl,List.countP_append]
 by_cases h:p l[i.toNat]
 ·simp [h]
 ·simp [h]
theorem take_whole {α:Type} {l:List α} {i:Int} (h1:¬ i < (l.length:Int)):l.take i.toNat=l:=List.take_of_length_le (by omega)
def Up {α:Type} (p:Nat→α→Bool) (l:List α) (i:Int):Prop:=∀ j (h:j < l.length),(j:Int) < i→p j l[j]=true
theorem Up.zero {α:Type} {p:Nat→α→Bool} {l:List α}:Up p l 0:=fun j h hj=>by omega
theorem Up.step {α:Type} {p:Nat→α→Bool} {l:List α} {i:Int} (h0:0≤i) (h:Up p l i) (hl:i.toNat < l.length) (hp:p i.toNat l[i.toNat]=true):Up p l (i+1):=fun j hj hji=>by
 by_cases e:j=i.toNat
 ·subst e;exact hp
 ·exact h j hj (by omega)
theorem Up.all {α:Type} {p:Nat→α→Bool} {l:List α} {i:Int} (h:Up p l i) (h1:¬ i < (l.length:Int)):allI p 0 l=true:=allI_iff.2 fun j hj=>by rw [Nat.zero_add];exact h j hj (by omega)
theorem Up.all' {α:Type} {p:α→Bool} {l:List α} {i:Int} (h:Up (fun _=>p) l i) (h1:¬ i < (l.length:Int)):l.all p=true:=List.all_eq_true.2 fun x hx=>by
 obtain ⟨j,hj,rfl⟩:=List.mem_iff_getElem.1 hx
 exact h j hj (by omega)
theorem all_no {α:Type} {p:α→Bool} {l:List α} {i:Nat} (hl:i < l.length) (hp:p l[i]=false):l.all p=false:=by
 rw [← Bool.not_eq_true,List.all_eq_true]
 intro h
 rw [h _ (List.getElem_mem hl)] at hp
 cases hp
theorem allI_no {α:Type} {p:Nat→α→Bool} {l:List α} {i:Nat} (hl:i < l.length) (hp:p i l[i]=false):allI p 0 l=false:=by
 rw [← Bool.not_eq_true,allI_iff]
 intro h
 have:=h i hl
 rw [Nat.zero_add,hp] at this
 cases this
theorem times_up1 {a:List Int} {b i p:Int} (h0:0≤i) (hle:i≤(((a.map eI).length:Nat):Int)) (hb:a.length*8≤limB) (hp:p=((a.take i.toNat).count b:Nat)∧p≤i) (hl:i.toNat < a.length) (h:a[i.toNat]=b):IntKind.i64.wrap (p+1)=((a.take (i+1).toNat).count b:Nat)∧IntKind.i64.wrap (p+1)≤i+1:=by
 obtain ⟨h1,h2⟩:=hp
 rw [Lm] at hle
 unfold limB at hb
 have hw:IntKind.i64.wrap (p+1)=p+1:=by
  have:0≤p:=by rw [h1];exact Int.natCast_nonneg _
  rw [IntKind.wrap_i64]
  omega
 rw [hw,cnt_hit h0 hl h,h1]
 exact ⟨rfl,by omega⟩
theorem times_up0 {a:List Int} {b i p:Int} (h0:0≤i) (hp:p=((a.take i.toNat).count b:Nat)∧p≤i) (hl:i.toNat < a.length) (h:¬ a[i.toNat]=b):p=((a.take (i+1).toNat).count b:Nat)∧p≤i+1:=by
 rw [cnt_miss h0 hl h]
 exact ⟨hp.1,by omega⟩
theorem times_end {a:List Int} {b i p:Int} (hp:p=((a.take i.toNat).count b:Nat)∧p≤i) (h:¬ i < (((a.map eI).length:Nat):Int)):p=timesM a b:=by
 rw [Lm] at h
 rw [hp.1,take_whole h]
 rfl
theorem wrap_sub1 {n b:Nat} (h:n*b≤limB) (hb:Nat.blt 0 b=true):IntKind.i64.wrap ((n:Int) - 1)=(n:Int) - 1:=by
 unfold limB at h
 have:=Nb hb
 have:n*1≤n*b:=Nat.mul_le_mul (Nat.le_refl _) this
 rw [IntKind.wrap_i64]
 omega
theorem cntP_up1 {α:Type} {f:α→List Tr} {a:List α} {p:α→Bool} {i q:Int} (h0:0≤i) (hle:i≤(((a.map f).length:Nat):Int)) {b:Nat} (hb:a.length*b≤limB) (hb0:Nat.blt 0 b=true) (hp:q=((a.take i.toNat).countP p:Nat)∧q≤i) (hl:i.toNat < a.length) (h:p a[i.toNat]=true):IntKind.i64.wrap (q+1)=((a.take (i+1).toNat).countP p:Nat)∧IntKind.i64.wrap (q+1)≤i+1:=by
 obtain ⟨h1,h2⟩:=hp
 rw [Lm] at hle
 unfold limB at hb
 have hb1:=Nb hb0
 have:a.length*1≤a.length*b:=Nat.mul_le_mul (Nat.le_refl _) hb1
 have hw:IntKind.i64.wrap (q+1)=q+1:=by
  have:0≤q:=by rw [h1];exact Int.natCast_nonneg _
  rw [IntKind.wrap_i64]
  omega
 rw [hw,cntP_up h0 hl,h,h1]
 exact ⟨rfl,by omega⟩
theorem cntP_up0 {α:Type} {a:List α} {p:α→Bool} {i q:Int} (h0:0≤i) (hp:q=((a.take i.toNat).countP p:Nat)∧q≤i) (hl:i.toNat < a.length) (h:p a[i.toNat]=false):q=((a.take (i+1).toNat).countP p:Nat)∧q≤i+1:=by
 rw [cntP_up h0 hl,h]
 exact ⟨by simpa using hp.1,by omega⟩
theorem cntP_end {α:Type} {f:α→List Tr} {a:List α} {p:α→Bool} {i q:Int} (hp:q=((a.take i.toNat).countP p:Nat)∧q≤i) (h:¬ i < (((a.map f).length:Nat):Int)):q=((a.countP p:Nat):Int):=by
 rw [Lm] at h
 rw [hp.1,take_whole h]
theorem objs_no {cards:Int} {s:GState} {i:Int} (_h0:0≤i) (hl:i.toNat < s.objects.length) (h:objAt cards s i.toNat s.objects[i.toNat]=false):false=objsOk cards s:=by
 unfold objsOk
 rw [allI_no hl h,Bool.and_false]
theorem objs_yes {cards:Int} {s:GState} {i:Int} {f:GObject→List Tr} (hn:¬ (((s.objects.map f).length:Nat):Int) > 2048) (h:Up (objAt cards s) s.objects i) (h1:¬ i < (((s.objects.map f).length:Nat):Int)):true=objsOk cards s:=by
 rw [Lm] at hn h1
 unfold objsOk
 rw [h.all h1,decide_eq_false hn]
 rfl
section
variable {s:GState} {o:GObject} {i:Int} {a:List GCard} {f:GCard→List Tr} {g:GPlayer→List Tr}
theorem objAt_yes (h1:objOk o (((a.map f).length:Nat):Int) (((s.players.map g).length:Nat):Int)=true) (h2:¬ o.id≥s.nextId) (h3:¬ o.stamp≥s.nextStamp) (h4:i.toNat=0∨¬ (s.objects.getD (i.toNat - 1) zeroObj).id≥o.id) (h5:placedOk s o=true):objAt ((a.length:Nat):Int) s i.toNat o=true:=by
 rw [Lm,Lm] at h1
 unfold objAt
 rw [h1,h5,decide_eq_false h2,decide_eq_false h3]
 rcases h4 with h4|h4
 ·rw [h4];rfl
 ·rw [decide_eq_false h4];simp
theorem objAt_n1 (h1:objOk o (((a.map f).length:Nat):Int) (((s.players.map g).length:Nat):Int)=false):objAt ((a.length:Nat):Int) s i.toNat o=false:=by
 rw [Lm,Lm] at h1
 unfold objAt
 rw [h1];rfl
theorem objAt_n2 {c:Int} (h:o.id≥s.nextId):objAt c s i.toNat o=false:=by
 unfold objAt
 rw [decide_eq_true h];simp
theorem objAt_n3 {c:Int} (h:o.stamp≥s.nextStamp):objAt c s i.toNat o=false:=by
 unfold objAt
 rw [decide_eq_true h];simp
theorem objAt_n4 {c:Int} (h0:i > 0) (h:(s.objects.getD (i.toNat - 1) zeroObj).id≥o.id):objAt c s i.toNat o=false:=by
 unfold objAt
 rw [decide_eq_true h,decide_eq_true (show ((i.toNat:Nat):Int) > 0 by omega)];simp
theorem objAt_n5 {c:Int} (h:placedOk s o=false):objAt c s i.toNat o=false:=by
 unfold objAt
 rw [h];simp
end
theorem plyOk_eq {s:GState} {i:Int} {p:GPlayer} (h0:0≤i):plyOk s i.toNat p=(inM p.life (-1000000) 1000000&&(inM p.venom 0 1000000&&(inM p.lands 0 1000000&&(wholeM p.pool0 p.pool1 p.pool2 p.pool3 p.pool4 p.pool5&&(listOk s 2 i p.library&&(listOk s 1 i p.hand&&listOk s 3 i p.graveyard)))))):=by
 unfold plyOk
 rw [Int.toNat_of_nonneg h0]
theorem plys_n1 {s:GState} {f:GPlayer→List Tr} (h:inM (((s.players.map f).length:Nat):Int) 2 4=false):false=playersOk s:=by
 rw [Lm] at h
 unfold playersOk
 rw [h];rfl
theorem plys_no {s:GState} {i:Int} (hl:i.toNat < s.players.length) (h:plyOk s i.toNat s.players[i.toNat]=false):false=playersOk s:=by
 unfold playersOk
 rw [allI_no hl h];simp
theorem plys_yes {s:GState} {i:Int} {f:GPlayer→List Tr} {r:Bool} (hn:inM (((s.players.map f).length:Nat):Int) 2 4=true) (h:Up (plyOk s) s.players i) (h1:¬ i < (((s.players.map f).length:Nat):Int)) (hr:r=(listOk s 0 (-1) s.battlefield&&listOk s 4 (-1) s.exile)):r=playersOk s:=by
 rw [Lm] at hn h1
 unfold playersOk
 rw [hn,h.all h1,hr];rfl
theorem wrapN {n:Int} (h:inM n 1 1000000=true):IntKind.i64.wrap (n - 1)=n - 1:=by
 unfold inM at h
 simp only [Bool.and_eq_true,decide_eq_true_eq] at h
 rw [IntKind.wrap_i64]
 omega
section
variable {q:Opq} {s:GState} {x:GItem} {i k:Int}
theorem item_yes {f:GItem→List Tr} (hi:i < (((s.stack.map f).length:Nat):Int)) (h1:itemOk q s x=true) (h2:Up (fun _ (y:GItem)=>!(y.id==x.id)) s.stack k) (h3:¬ k < i):itemAt q s i.toNat x=true:=by
 rw [Lm] at hi
 unfold itemAt
 rw [h1,Bool.true_and,List.all_eq_true]
 intro y hy
 obtain ⟨j,hj,rfl⟩:=List.mem_iff_getElem.1 hy
 rw [List.length_take] at hj
 rw [List.getElem_take]
 exact h2 j (by omega) (by omega)
theorem item_n1 (h1:itemOk q s x=false):itemAt q s i.toNat x=false:=by
 unfold itemAt
 rw [h1];rfl
theorem item_n2 (h0:0≤k) (hk:k < i) (hl:k.toNat < s.stack.length) (h:s.stack[k.toNat].id=x.id):itemAt q s i.toNat x=false:=by
 unfold itemAt
 rw [all_no (i:=k.toNat) (by rw [List.length_take];omega) (by rw [List.getElem_take,h];simp),Bool.and_false]
theorem stk_n0 {f:GItem→List Tr} {g:GWaiting→List Tr} {c:GCont→List Tr} (h:(((s.stack.map f).length:Nat):Int) > 64∨(((s.waiting.map g).length:Nat):Int) > 64∨(((s.conts.map c).length:Nat):Int) > 64):false=stackOk q s:=by
 rw [Lm,Lm,Lm] at h
 unfold stackOk
 rcases h with h|h|h <;> rw [decide_eq_true h] <;> simp
theorem stk_n1 (hl:i.toNat < s.stack.length) (h:itemAt q s i.toNat s.stack[i.toNat]=false):false=stackOk q s:=by
 unfold stackOk
 rw [allI_no hl h];simp
theorem stk_n2 (hl:i.toNat < s.waiting.length) (h:waitOk q s s.waiting[i.toNat]=false):false=stackOk q s:=by
 unfold stackOk
 rw [all_no hl h];simp
theorem stk_n3 (hl:i.toNat < s.conts.length) (h:contOk q s s.conts[i.toNat]=false):false=stackOk q s:=by
 unfold stackOk
 rw [all_no (p:=contOk q s) hl h];simp
theorem stk_yes {j:Int} {f:GItem→List Tr} {g:GWaiting→List Tr} {c:GCont→List Tr} (g1:¬ (((s.stack.map f).length:Nat):Int) > 64) (g2:¬ (((s.waiting.map g).length:Nat):Int) > 64) (g3:¬ (((s.conts.map c).length:Nat):Int) > 64)
  (h1:Up (itemAt q s) s.stack i) (e1:¬ i < (((s.stack.map f).length:Nat):Int)) (h2:Up (fun _=>waitOk q s) s.waiting j) (e2:¬ j < (((s.waiting.map g).length:Nat):Int)) (h3:Up (fun _=>contOk q s) s.conts k) (e3:¬ k < (((s.conts.map c).length:Nat):Int)):true=stackOk q s:=by
 rw [Lm] at g1 g2 g3 e1 e2 e3
 unfold stackOk
 rw [decide_eq_false g1,decide_eq_false g2,decide_eq_false g3,h1.all e1,h2.all' e2,h3.all' e3]
 rfl
end
section
variable {q:Opq} {s:GState} {c:GCont}
theorem cont_yes (h1:plM s c.control=true) (h2:¬ c.stamp≥s.nextStamp) (h3:inM c.until_ 1 2=true) (h4:q.set c.objects=true) (h5:((q.txt c.mods).toList==(⟨#[]⟩:ByteArray).toList)=false):contOk q s c=true:=by
 unfold contOk
 rw [h1,decide_eq_false h2,h3,h4,h5]
 rfl
theorem cont_n1 (h:plM s c.control=false):contOk q s c=false:=by
 unfold contOk
 rw [h];rfl
theorem cont_n2 (h:c.stamp≥s.nextStamp):contOk q s c=false:=by
 unfold contOk
 rw [decide_eq_true h];simp
theorem cont_n3 (h:inM c.until_ 1 2=false):contOk q s c=false:=by
 unfold contOk
 rw [h];simp
theorem cont_n4 (h:q.set c.objects=false):contOk q s c=false:=by
 unfold contOk
 rw [h];simp
theorem cont_n5 (h:((q.txt c.mods).toList==(⟨#[]⟩:ByteArray).toList)=true):contOk q s c=false:=by
 unfold contOk
 rw [h,Bool.not_true,Bool.and_false,Bool.and_false,Bool.and_false,Bool.and_false]
end
section
variable {q:Opq} {c:Int} {s:GState} {i:Int}
theorem is_nA (h:isA s=false):false=isM q c s:=by unfold isM;rw [h];rfl
theorem is_nB (h:isB s=false):false=isM q c s:=by unfold isM;rw [h];simp
theorem is_nE (hl:i.toNat < s.extra.length) (h:plM s s.extra[i.toNat]=false):false=isM q c s:=by unfold isM;rw [all_no hl h];simp
theorem is_nW (h:isW s=false):false=isM q c s:=by unfold isM;rw [h];simp
theorem is_yes {f:Int→List Tr} {r:Bool} (hA:isA s=true) (hB:isB s=true) (h:Up (fun _=>plM s) s.extra i) (h1:¬ i < (((s.extra.map f).length:Nat):Int)) (hW:isW s=true) (hr:r=(objsOk c s&&stackOk q s)):r=isM q c s:=by
 rw [Lm] at h1
 unfold isM
 rw [hA,hB,h.all' h1,hW,hr]
 rfl
theorem isB_t {f:GPlayer→List Tr} {g:Int→List Tr} (h1:playersOk s=true) (h2:plM s s.active=true) (h3:plM s s.priority=true) (h4:inM s.passes 0 (((s.players.map f).length:Nat):Int)=true) (h5:¬ (((s.extra.map g).length:Nat):Int) > 500) (h6:inM s.over 0 2=true):isB s=true:=by
 rw [Lm] at h4 h5
 unfold isB
 rw [h1,h2,h3,h4,decide_eq_false h5,h6]
 rfl
theorem isW_t1 (h1:s.over=1) (h2:plM s s.winner=true):isW s=true:=by unfold isW;rw [h1,h2];rfl
theorem isW_t2 (h1:¬ s.over=1) (h2:s.winner = -1):isW s=true:=by unfold isW;rw [if_neg (by simpa using h1),h2];rfl
theorem isW_f1 (h1:s.over=1) (h2:plM s s.winner=false):isW s=false:=by unfold isW;rw [h1,h2];rfl
theorem isW_f2 (h1:¬ s.over=1) (h2:¬ s.winner = -1):isW s=false:=by unfold isW;rw [if_neg (by simpa using h1)];simpa using h2
theorem isA_f1 (h:inM s.nextId 1 1000000=false):isA s=false:=by unfold isA;rw [h];simp
theorem isA_f2 (h:inM s.nextStamp 1 1000000=false):isA s=false:=by unfold isA;rw [h];simp
theorem isA_f3 (h:inM s.turn 0 500=false):isA s=false:=by unfold isA;rw [h];simp
theorem isA_f4 (h:inM s.step 0 10=false):isA s=false:=by unfold isA;rw [h];simp
theorem isA_f5 {f:GObject→List Tr} (h:(((s.objects.map f).length:Nat):Int) > 2048):isA s=false:=by
 rw [Lm] at h
 unfold isA
 rw [decide_eq_true h]
 simp
theorem isA_t {f:GObject→List Tr} (h1:inM s.nextId 1 1000000=true) (h2:inM s.nextStamp 1 1000000=true) (h3:inM s.turn 0 500=true) (h4:inM s.step 0 10=true) (h5:¬ (((s.objects.map f).length:Nat):Int) > 2048):isA s=true:=by
 rw [Lm] at h5
 unfold isA
 rw [h1,h2,h3,h4,decide_eq_false h5]
 rfl
theorem isB_f1 (h:playersOk s=false):isB s=false:=by unfold isB;rw [h];simp
theorem isB_f2 (h:plM s s.active=false):isB s=false:=by unfold isB;rw [h];simp
theorem isB_f3 (h:plM s s.priority=false):isB s=false:=by unfold isB;rw [h];simp
theorem isB_f4 (h:inM s.over 0 2=false):isB s=false:=by unfold isB;rw [h];simp
theorem isB_f5 {f:GPlayer→List Tr} (h:inM s.passes 0 (((s.players.map f).length:Nat):Int)=false):isB s=false:=by
 rw [Lm] at h
 unfold isB
 rw [h]
 simp
theorem isB_f6 {f:Int→List Tr} (h:(((s.extra.map f).length:Nat):Int) > 500):isB s=false:=by
 rw [Lm] at h
 unfold isB
 rw [decide_eq_true h]
 simp
end
end
section
theorem inM_iff {n a b:Int}:inM n a b=true↔a≤n∧n≤b:=by
 unfold inM
 rw [Bool.and_eq_true,decide_eq_true_eq,decide_eq_true_eq]
theorem uniqO {l:List GObject} (hs:l.Pairwise fun a b=>a.id < b.id) {a b:GObject} (ha:a∈l) (hb:b∈l) (e:a.id=b.id):a=b:=by
 obtain ⟨i,hi,rfl⟩:=List.mem_iff_getElem.1 ha
 obtain ⟨j,hj,rfl⟩:=List.mem_iff_getElem.1 hb
 have hp:=List.pairwise_iff_getElem.1 hs
 rcases Nat.lt_trichotomy i j with h|h|h
 ·have:=hp i j hi hj h
  omega
 ·subst h
  rfl
 ·have:=hp j i hj hi h
  omega
theorem hasM_iff {l:List GObject} {id:Int}:hasM l id=true↔∃ o∈l,o.id=id:=by
 unfold hasM
 rw [List.find?_isSome]
 simp
theorem findM_mem {l:List GObject} {id:Int} (h:hasM l id=true):findM l id∈l∧(findM l id).id=id:=by
 unfold hasM at h
 unfold findM
 cases hf:l.find? fun o=>o.id==id with
 | none=>rw [hf] at h;cases h
 | some o=>exact ⟨List.mem_of_find?_eq_some hf,by simpa using List.find?_some hf⟩
theorem findM_of {l:List GObject} {o:GObject} (hs:l.Pairwise fun a b=>a.id < b.id) (ho:o∈l):findM l o.id=o:=
 have h:=findM_mem (hasM_iff.2 ⟨o,ho,rfl⟩)
 uniqO hs h.1 ho h.2
def scM (s:GState):Bool:=inM s.turn 0 500&&(inM s.step 0 10&&(plM s s.active&&(plM s s.priority&&(inM s.passes 0 s.players.length&&(!decide ((s.extra.length:Int) > 500)&&(inM s.over 0 2&&(s.extra.all (plM s)&&isW s)))))))
def plyN (p:GPlayer):Bool:=inM p.life (-1000000) 1000000&&(inM p.venom 0 1000000&&(inM p.lands 0 1000000&&wholeM p.pool0 p.pool1 p.pool2 p.pool3 p.pool4 p.pool5))
def itemV (q:Opq) (s:GState) (x:GItem):Prop:=(1≤x.id∧x.id < s.nextId)∧(inM x.x 0 1000000=true∧(x.targets.length:Int)≤4∧plM s x.control=true)∧
 (x.kind=1∧x.source=x.id∧(∃ o∈s.objects,o.id=x.id∧o.zone=5)∧(q.zero x.ability||q.ab x.ability)=true∨x.kind=2∧(∀ o∈s.objects,o.id≠x.id)∧q.ab x.ability=true)
structure Val (q:Opq) (c:Int) (s:GState):Prop where
 nid:1≤s.nextId∧s.nextId≤1000000
 nst:1≤s.nextStamp∧s.nextStamp≤1000000
 nobj:(s.objects.length:Int)≤2048
 npl:2≤(s.players.length:Int)∧(s.players.length:Int)≤4
 sc:scM s=true
 ply:∀ p∈s.players,plyN p=true
 srt:s.objects.Pairwise fun a b=>a.id < b.id
 obj:∀ o∈s.objects,objOk o c s.players.length=true∧o.id < s.nextId∧o.stamp < s.nextStamp
 lst:∀ z p id,id∈listM s z p→∃ o∈s.objects,o.id=id∧o.zone=z∧(z=0∨z=4∨o.owner=p)
 nod:∀ z p,(listM s z p).Nodup
 plc:∀ o∈s.objects,o.zone≠5→o.id∈listM s o.zone o.owner
 plc5:∀ o∈s.objects,o.zone=5→∃ x∈s.stack,x.kind=1∧x.id=o.id
 nstk:(s.stack.length:Int)≤64
 stk:s.stack.Pairwise fun a b=>a.id≠b.id
 itm:∀ x∈s.stack,itemV q s x
 wt:(s.waiting.length:Int)≤64∧∀ w∈s.waiting,waitOk q s w=true
 cts:(s.conts.length:Int)≤64∧∀ k∈s.conts,contOk q s k=true
theorem listOk_iff {s:GState} {z w:Int} {l:List Int}:listOk s z w l=true↔∀ id∈l,(hasM s.objects id=true∧(findM s.objects id).zone=z∧(0≤w→(findM s.objects id).owner=w))∧l.count id=1:=by
 unfold listOk timesM
 rw [List.all_eq_true]
 refine ⟨fun h id hid=>?_,fun h id hid=>?_⟩
 ·have:=h id hid
  simp only [Bool.and_eq_true,Bool.or_eq_true,Bool.not_eq_true',decide_eq_false_iff_not,beq_iff_eq] at this
  obtain ⟨h1,h2,h3,h4⟩:=this
  exact ⟨⟨h1,h2,fun hw=>h3.resolve_left fun h=>h hw⟩,by omega⟩
 ·obtain ⟨⟨h1,h2,h3⟩,h4⟩:=h id hid
  simp only [Bool.and_eq_true,Bool.or_eq_true,Bool.not_eq_true',decide_eq_false_iff_not,beq_iff_eq]
  refine ⟨h1,h2,?_,by omega⟩
  by_cases hw:0≤w
  ·exact .inr (h3 hw)
  ·exact .inl hw
theorem nodup_of {l:List Int} (h:∀ a∈l,l.count a=1):l.Nodup:=List.nodup_iff_count.2 fun a=>by
 by_cases ha:a∈l
 ·rw [h a ha];exact Nat.le_refl 1
 ·rw [List.count_eq_zero.2 ha];exact Nat.zero_le 1
theorem count_of {l:List Int} (h:l.Nodup) {a:Int} (ha:a∈l):l.count a=1:=by
 rw [h.count,if_pos ha]
theorem listOk_of {s:GState} {z w p:Int} {l:List Int} (hs:s.objects.Pairwise fun a b=>a.id < b.id) (hw:0≤w↔¬ (z=0∨z=4)) (hp:0≤w→w=p) :
  listOk s z w l=true↔(∀ id∈l,∃ o∈s.objects,o.id=id∧o.zone=z∧(z=0∨z=4∨o.owner=p))∧l.Nodup:=by
 rw [listOk_iff]
 refine ⟨fun h=>⟨fun id hid=>?_,nodup_of fun a ha=>(h a ha).2⟩,fun ⟨h1,h2⟩ id hid=>?_⟩
 ·obtain ⟨⟨h1,h2,h3⟩,_⟩:=h id hid
  obtain ⟨h4,h5⟩:=findM_mem h1
  refine ⟨_,h4,h5,h2,?_⟩
  by_cases h0:0≤w
  ·exact .inr (.inr ((h3 h0).trans (hp h0)))
  ·have:=Classical.not_not.1 (fun h=>h0 (hw.2 h))
   rcases this with h|h
   ·exact .inl h
   ·exact .inr (.inl h)
 ·obtain ⟨o,ho,rfl,rfl,h3⟩:=h1 id hid
  rw [findM_of hs ho]
  refine ⟨⟨hasM_iff.2 ⟨o,ho,rfl⟩,rfl,fun h0=>?_⟩,count_of h2 hid⟩
  have:=hw.1 h0
  rw [hp h0]
  rcases h3 with h|h|h
  ·exact absurd (.inl h) this
  ·exact absurd (.inr h) this
  ·exact h
theorem listM_cases (s:GState) (z p:Int):listM s z p=[]∨z=0∧listM s z p=s.battlefield∨z=4∧listM s z p=s.exile∨∃ (i:Nat) (h:i < s.players.length),p=i∧(z=1∧listM s z p=s.players[i].hand∨z=2∧listM s z p=s.players[i].library∨z=3∧listM s z p=s.players[i].graveyard):=by
 unfold listM
 split
 ·rename_i h
  exact .inr (.inl ⟨by simpa using h,rfl⟩)
 split
 ·rename_i h
  exact .inr (.inr (.inl ⟨by simpa using h,rfl⟩))
 split
 ·exact .inl rfl
 rename_i hp
 split
 ·rename_i x hx
  obtain ⟨hi,rfl⟩:=List.getElem?_eq_some_iff.1 hx
  have hpi:p=((p.toNat:Nat):Int):=by omega
  split
  ·rename_i h
   exact .inr (.inr (.inr ⟨p.toNat,hi,hpi,.inl ⟨by simpa using h,rfl⟩⟩))
  split
  ·rename_i h
   exact .inr (.inr (.inr ⟨p.toNat,hi,hpi,.inr (.inl ⟨by simpa using h,rfl⟩)⟩))
  split
  ·rename_i h
   exact .inr (.inr (.inr ⟨p.toNat,hi,hpi,.inr (.inr ⟨by simpa using h,rfl⟩)⟩))
  ·exact .inl rfl
 ·exact .inl rfl
section
variable {s:GState} {i:Nat}
theorem listM_bf (p:Int):listM s 0 p=s.battlefield:=by unfold listM;rfl
theorem listM_ex (p:Int):listM s 4 p=s.exile:=by unfold listM;rfl
theorem listM_hd (h:i < s.players.length):listM s 1 i=s.players[i].hand:=by
 unfold listM
 rw [if_neg (by decide),if_neg (by decide),if_neg (by omega)]
 simp [h]
theorem listM_lb (h:i < s.players.length):listM s 2 i=s.players[i].library:=by
 unfold listM
 rw [if_neg (by decide),if_neg (by decide),if_neg (by omega)]
 simp [h]
theorem listM_gy (h:i < s.players.length):listM s 3 i=s.players[i].graveyard:=by
 unfold listM
 rw [if_neg (by decide),if_neg (by decide),if_neg (by omega)]
 simp [h]
end
theorem sorted_of {cards:Int} {s:GState} (h:allI (objAt cards s) 0 s.objects=true):s.objects.Pairwise fun a b=>a.id < b.id:=by
 have h:=allI_iff.1 h
 have step:∀ (j:Nat) (hj:j+1 < s.objects.length),(s.objects[j]'(by omega)).id < s.objects[j+1].id:=fun j hj=>by
  have:=h (j+1) hj
  unfold objAt at this
  simp only [Bool.and_eq_true,Bool.or_eq_true,Bool.not_eq_true',decide_eq_false_iff_not,Nat.zero_add] at this
  obtain ⟨_,_,_,h4,_⟩:=this
  rcases h4 with h4|h4
  ·exact absurd (show (((j+1:Nat):Int)) > 0 by omega) h4
  ·rw [Nat.add_sub_cancel,List.getD_eq_getElem?_getD,List.getElem?_eq_getElem (by omega:j < s.objects.length)] at h4
   simpa using h4
 refine List.pairwise_iff_getElem.2 fun a b ha hb hab=>?_
 obtain ⟨d,rfl⟩:∃ d,b=a+1+d:=⟨b - (a+1),by omega⟩
 clear hab
 induction d with
 | zero=>exact step a hb
 | succ d ih=>exact Int.lt_trans (ih (by omega)) (step (a+1+d) hb)
theorem spells_one {l:List GItem} {id:Int} {x:GItem} (h1:x.kind=1) (h2:x.id=id):(l.Pairwise fun a b=>a.id≠b.id)→x∈l→l.countP (fun x=>x.kind==1&&x.id==id)=1:=by
 intro hs hx
 induction l with
 | nil=>cases hx
 | cons y l ih=>
  rw [List.pairwise_cons] at hs
  rcases List.mem_cons.1 hx with e|hx
  ·subst e
   rw [List.countP_cons_of_pos (by simp [h1,h2]),List.countP_eq_zero.2]
   intro z hz
   have:=hs.1 z hz
   rw [h2] at this
   simpa using fun _ e=>this (Eq.symm e)
  ·rw [List.countP_cons_of_neg,ih hs.2 hx]
   have:=hs.1 x hx
   rw [h2] at this
   simp [this]
theorem spells_of {l:List GItem} {id:Int} (hs:l.Pairwise fun a b=>a.id≠b.id):l.countP (fun x=>x.kind==1&&x.id==id)=1↔∃ x∈l,x.kind=1∧x.id=id:=by
 refine ⟨fun h=>?_,fun ⟨x,hx,h1,h2⟩=>spells_one h1 h2 hs hx⟩
 obtain ⟨x,hx,hp⟩:=List.countP_pos_iff.1 (show 0 < l.countP (fun x=>x.kind==1&&x.id==id) by omega)
 exact ⟨x,hx,by simpa using hp⟩
theorem items_of {q:Opq} {s:GState} (h:allI (itemAt q s) 0 s.stack=true):(s.stack.Pairwise fun a b=>a.id≠b.id)∧∀ x∈s.stack,itemOk q s x=true:=by
 have h:=allI_iff.1 h
 refine ⟨List.pairwise_iff_getElem.2 fun a b ha hb hab=>?_,fun x hx=>?_⟩
 ·have:=h b hb
  unfold itemAt at this
  rw [Bool.and_eq_true,List.all_eq_true,Nat.zero_add] at this
  have:=this.2 s.stack[a] (List.mem_iff_getElem.2 ⟨a,by rw [List.length_take];omega,by rw [List.getElem_take]⟩)
  simpa using this
 ·obtain ⟨j,hj,rfl⟩:=List.mem_iff_getElem.1 hx
  have:=h j hj
  unfold itemAt at this
  rw [Bool.and_eq_true] at this
  exact this.1
theorem items_to {q:Opq} {s:GState} (h1:s.stack.Pairwise fun a b=>a.id≠b.id) (h2:∀ x∈s.stack,itemOk q s x=true):allI (itemAt q s) 0 s.stack=true:=allI_iff.2 fun j hj=>by
 unfold itemAt
 rw [Bool.and_eq_true,List.all_eq_true,Nat.zero_add]
 refine ⟨h2 _ (List.getElem_mem hj),fun y hy=>?_⟩
 obtain ⟨a,ha,rfl⟩:=List.mem_iff_getElem.1 hy
 rw [List.length_take] at ha
 rw [List.getElem_take]
 have:=List.pairwise_iff_getElem.1 h1 a j (by omega) hj (by omega)
 simpa using this
theorem itemV_iff {q:Opq} {s:GState} {x:GItem} (hs:s.objects.Pairwise fun a b=>a.id < b.id):itemOk q s x=true↔itemV q s x:=by
 have h5:(hasM s.objects x.id=true∧(findM s.objects x.id).zone=5)↔∃ o∈s.objects,o.id=x.id∧o.zone=5:=
  ⟨fun ⟨h1,h2⟩=>⟨_,(findM_mem h1).1,(findM_mem h1).2,h2⟩,fun ⟨o,ho,h1,h2⟩=>⟨hasM_iff.2 ⟨o,ho,h1⟩,by rw [← h1,findM_of hs ho];exact h2⟩⟩
 have hn:hasM s.objects x.id=false↔∀ o∈s.objects,o.id≠x.id:=by
  rw [← Bool.not_eq_true,hasM_iff]
  exact ⟨fun h o ho e=>h ⟨o,ho,e⟩,fun h ⟨o,ho,e⟩=>h o ho e⟩
 unfold itemOk itemV
 rw [Bool.and_eq_true,Bool.and_eq_true,Bool.and_eq_true,Bool.and_eq_true,inM_iff]
 by_cases hk:x.kind=1
 ·rw [if_pos (by simpa using hk)]
  simp only [Bool.and_eq_true,beq_iff_eq,Bool.not_eq_true',decide_eq_false_iff_not]
  refine ⟨fun ⟨⟨h1,h2,h3,h4⟩,g1,g2,g3,g4⟩=>⟨⟨by omega,by omega⟩,⟨h2,by omega,h4⟩,.inl ⟨hk,g1,h5.1 ⟨g2,g3⟩,g4⟩⟩,fun ⟨h1,⟨h2,h3,h4⟩,h⟩=>?_⟩
  rcases h with ⟨_,g1,g2,g3⟩|⟨g0,_⟩
  ·exact ⟨⟨by omega,h2,by omega,h4⟩,g1,(h5.2 g2).1,(h5.2 g2).2,g3⟩
  ·omega
 ·rw [if_neg (by simpa using hk)]
  simp only [Bool.and_eq_true,beq_iff_eq,Bool.not_eq_true',decide_eq_false_iff_not]
  refine ⟨fun ⟨⟨h1,h2,h3,h4⟩,g1,g2,g3⟩=>⟨⟨by omega,by omega⟩,⟨h2,by omega,h4⟩,.inr ⟨g1,hn.1 g2,g3⟩⟩,fun ⟨h1,⟨h2,h3,h4⟩,h⟩=>?_⟩
  rcases h with ⟨g0,_⟩|⟨g1,g2,g3⟩
  ·exact absurd g0 hk
  ·exact ⟨⟨by omega,h2,by omega,h4⟩,g1,hn.2 g2,g3⟩
theorem placed_iff {s:GState} {o:GObject} (hn:(listM s o.zone o.owner).Nodup) (hk:s.stack.Pairwise fun a b=>a.id≠b.id):placedOk s o=true↔(o.zone≠5→o.id∈listM s o.zone o.owner)∧(o.zone=5→∃ x∈s.stack,x.kind=1∧x.id=o.id):=by
 unfold placedOk spellsM timesM
 by_cases h5:o.zone=5
 ·rw [if_pos (by simpa using h5),beq_iff_eq]
  refine ⟨fun h=>⟨fun h0=>absurd h5 h0,fun _=>(spells_of hk).1 (by omega)⟩,fun ⟨_,h⟩=>?_⟩
  rw [(spells_of hk).2 (h h5)]
  rfl
 ·rw [if_neg (by simpa using h5),beq_iff_eq]
  refine ⟨fun h=>⟨fun _=>List.count_pos_iff.1 (by omega),fun h0=>absurd h0 h5⟩,fun ⟨h,_⟩=>?_⟩
  rw [count_of hn (h h5)]
  rfl
theorem plyOk_split {s:GState} {i:Nat} {p:GPlayer}:plyOk s i p=true↔plyN p=true∧listOk s 2 i p.library=true∧listOk s 1 i p.hand=true∧listOk s 3 i p.graveyard=true:=by
 unfold plyOk plyN
 simp only [Bool.and_eq_true]
 exact ⟨fun ⟨h1,h2,h3,h4,h5,h6,h7⟩=>⟨⟨h1,h2,h3,h4⟩,h5,h6,h7⟩,fun ⟨⟨h1,h2,h3,h4⟩,h5,h6,h7⟩=>⟨h1,h2,h3,h4,h5,h6,h7⟩⟩
theorem val_of {q:Opq} {c:Int} {s:GState} (h:isM q c s=true):Val q c s:=by
 unfold isM isA isB playersOk objsOk stackOk at h
 simp only [Bool.and_eq_true,Bool.not_eq_true',decide_eq_false_iff_not] at h
 obtain ⟨⟨a1,a2,a3,a4,a5⟩,⟨⟨p1,p2,p3,p4⟩,b2,b3,b4,b5,b6⟩,ex,w,⟨o1,o2⟩,⟨s1,s2,s3⟩,s4,s5,s6⟩:=h
 rw [inM_iff] at a1 a2 p1
 have hs:=sorted_of o2
 have hp:∀ (i:Nat) (hi:i < s.players.length),plyN s.players[i]=true∧listOk s 2 i s.players[i].library=true∧listOk s 1 i s.players[i].hand=true∧listOk s 3 i s.players[i].graveyard=true:=fun i hi=>by
  have:=allI_iff.1 p2 i hi
  rw [Nat.zero_add] at this
  exact plyOk_split.1 this
 obtain ⟨k1,k2⟩:=items_of s4
 have hl:∀ z p,(∀ id∈listM s z p,∃ o∈s.objects,o.id=id∧o.zone=z∧(z=0∨z=4∨o.owner=p))∧(listM s z p).Nodup:=fun z p=>by
  rcases listM_cases s z p with e|⟨rfl,e⟩|⟨rfl,e⟩|⟨i,hi,rfl,⟨rfl,e⟩|⟨rfl,e⟩|⟨rfl,e⟩⟩ <;> rw [e]
  ·exact ⟨fun id h=>(by cases h),List.nodup_nil⟩
  ·exact (listOk_of (w:=-1) hs (by omega) (by omega)).1 p3
  ·exact (listOk_of (w:=-1) hs (by omega) (by omega)).1 p4
  ·exact (listOk_of (w:=i) hs (by omega) (by omega)).1 (hp i hi).2.2.1
  ·exact (listOk_of (w:=i) hs (by omega) (by omega)).1 (hp i hi).2.1
  ·exact (listOk_of (w:=i) hs (by omega) (by omega)).1 (hp i hi).2.2.2
 have ho:∀ o∈s.objects,(objOk o c s.players.length=true∧o.id < s.nextId∧o.stamp < s.nextStamp)∧placedOk s o=true:=fun o ho=>by
  obtain ⟨i,hi,rfl⟩:=List.mem_iff_getElem.1 ho
  have:=allI_iff.1 o2 i hi
  unfold objAt at this
  simp only [Bool.and_eq_true,Bool.not_eq_true',decide_eq_false_iff_not] at this
  exact ⟨⟨this.1,by omega,by omega⟩,this.2.2.2.2⟩
 refine ⟨a1,a2,by omega,p1,?_,fun p hpp=>?_,hs,fun o h=>(ho o h).1,fun z p=>(hl z p).1,fun z p=>(hl z p).2,fun o h=>((placed_iff (hl _ _).2 k1).1 (ho o h).2).1,fun o h=>((placed_iff (hl _ _).2 k1).1 (ho o h).2).2,by omega,k1,fun x hx=>(itemV_iff hs).1 (k2 x hx),⟨by omega,List.all_eq_true.1 s5⟩,by omega,List.all_eq_true.1 s6⟩
 ·unfold scM
  simp only [Bool.and_eq_true,Bool.not_eq_true',decide_eq_false_iff_not]
  exact ⟨a3,a4,b2,b3,b4,b5,b6,ex,w⟩
 ·obtain ⟨i,hi,rfl⟩:=List.mem_iff_getElem.1 hpp
  exact (hp i hi).1
theorem val_to {q:Opq} {c:Int} {s:GState} (h:Val q c s):isM q c s=true:=by
 have hsc:=h.sc
 unfold scM at hsc
 simp only [Bool.and_eq_true,Bool.not_eq_true',decide_eq_false_iff_not] at hsc
 obtain ⟨a3,a4,b2,b3,b4,b5,b6,ex,w⟩:=hsc
 have hl:∀ (z p w:Int),(0≤w↔¬ (z=0∨z=4))→(0≤w→w=p)→listOk s z w (listM s z p)=true:=fun z p w h1 h2=>(listOk_of h.srt h1 h2).2 ⟨h.lst z p,h.nod z p⟩
 unfold isM isA isB playersOk objsOk stackOk
 simp only [Bool.and_eq_true,Bool.not_eq_true',decide_eq_false_iff_not]
 refine ⟨⟨inM_iff.2 h.nid,inM_iff.2 h.nst,a3,a4,by have:=h.nobj;omega⟩,⟨⟨inM_iff.2 h.npl,allI_iff.2 fun i hi=>?_,?_,?_⟩,b2,b3,b4,b5,b6⟩,ex,w,⟨by have:=h.nobj;omega,allI_iff.2 fun i hi=>?_⟩,⟨by have:=h.nstk;omega,by have:=h.wt.1;omega,by have:=h.cts.1;omega⟩,items_to h.stk fun x hx=>(itemV_iff h.srt).2 (h.itm x hx),List.all_eq_true.2 h.wt.2,List.all_eq_true.2 h.cts.2⟩
 ·rw [Nat.zero_add]
  refine plyOk_split.2 ⟨h.ply _ (List.getElem_mem hi),?_,?_,?_⟩
  ·rw [← listM_lb hi];exact hl 2 i i (by omega) (by omega)
  ·rw [← listM_hd hi];exact hl 1 i i (by omega) (by omega)
  ·rw [← listM_gy hi];exact hl 3 i i (by omega) (by omega)
 ·rw [← listM_bf (-1)];exact hl 0 (-1) (-1) (by omega) (by omega)
 ·rw [← listM_ex (-1)];exact hl 4 (-1) (-1) (by omega) (by omega)
 ·have hm:=List.getElem_mem hi
  have ho:=h.obj _ hm
  unfold objAt
  simp only [Bool.and_eq_true,Bool.or_eq_true,Bool.not_eq_true',decide_eq_false_iff_not]
  refine ⟨ho.1,by omega,by omega,?_,(placed_iff (h.nod _ _) h.stk).2 ⟨h.plc _ hm,h.plc5 _ hm⟩⟩
  rw [Nat.zero_add]
  by_cases h0:i=0
  ·exact .inl (by omega)
  ·right
   rw [List.getD_eq_getElem?_getD,List.getElem?_eq_getElem (by omega:i - 1 < s.objects.length)]
   have:=List.pairwise_iff_getElem.1 h.srt (i - 1) i (by omega) hi (by omega)
   simp only [Option.getD_some]
   omega
end
end Cg
end
section
namespace Go.Proofs.YtmloamomcbmfhaaGreat
open Go Cg Go.RowKit
theorem ints_ct (xs:List (List Tr)) (h:xs.length*8≤limB):Ct Tryz.prog 78 [.c (.t (.sl 1 xs))] (.c (.t (.sl 1 xs))) [] false:=by
 refine ct_of Tryz.func78 rfl (enters_of Tryz.func78 (by kernel_rfl) rfl) tabOk (by kernel_rfl) rfl rfl rfl rfl fun w0 O _=>Tp.run [] ?_
 refine Ai (.inl rfl) (Ai (all_bound xs 8 h) (Ai (all_bound2 xs 8 (by decide) h) ?_))
 exact Ei [] (Ai rfl (Ai trivial ⟨rfl,rfl,rfl⟩))

theorem place_ct (s:GState) (id:Int) (hs:s.objects.length*128≤limB):Ct Tryz.prog 128 [.agg (s.enc.map .t),.c (.t (iv id))] (AV.i (placeM s.objects id)) [] true:=by
 refine Ct.lit (b:=false) ?_ rfl
 refine ct_of Tryz.func128 rfl (enters_of Tryz.func128 (by kernel_rfl) rfl) tabOk (by kernel_rfl) rfl rfl rfl rfl fun w0 O _=>Tp.run [] ?_
 refine Tp.loop (fun k:Nat=>⟨[(1,.c (.t (iv id))),(2,.ptr 0 0),(5,AV.i k)],[(0,s.enc.map .t)],[],10000⟩) (fun k=>k≤s.objects.length∧∀ j (h:j < s.objects.length),j < k→(s.objects[j].id==id)=false) (fun k=>s.objects.length - k) 0 ?_ ⟨Nat.zero_le _,fun j _ h=>by omega⟩ ?_
 ·refine wk_of [] rfl rfl ?_ ?_ ?_
  ·repeat' first|refine Ai ?_ ?_|exact rfl|exact trivial|exact Ei _ rfl|refine lN ?_|refine bS ?_|fail
  ·exact ⟨cesM_refl _ rfl,trivial⟩
  ·repeat' first|refine Ai ?_ ?_|exact rfl|exact trivial|exact Ei _ rfl|refine lN ?_|refine bS ?_|fail
 rintro k ⟨hk,hno⟩
 refine Tp.run [] ?_
 refine cS (fun h=>?_) (fun h=>?_)
 ·have hlt:=len_lt h
  refine Ei k (Ei (s.objects[k].enc) (Ai rfl (Ai (map_get _ _ k hlt) ?_)))
  refine cS (fun h=>?_) (fun h=>?_)
  ·refine Ei [] (Ai rfl (Ai trivial ?_))
   unfold placeM
   rw [fidx_hit _ _ k hlt h hno]
   exact rfl
  ·refine Ei (k+1) (Ai ⟨by omega,fun j hj hjk=>?_⟩ (Ai (show s.objects.length - (k+1) < s.objects.length - k by omega) ?_))
   ·by_cases e:j=k
    ·subst e;exact h
    ·exact hno j hj (by omega)
   refine wk_of [] rfl rfl ?_ ?_ ?_
   ·repeat' first|refine Ai ?_ ?_|exact rfl|exact trivial|exact Ei _ rfl|refine lN ?_|refine bS ?_|fail
    exact succ_eq k hlt 128 (by decide) hs
   ·exact ⟨cesM_refl _ rfl,trivial⟩
   ·repeat' first|refine Ai ?_ ?_|exact rfl|exact trivial|exact Ei _ rfl|refine lN ?_|refine bS ?_|fail
 ·have hk2:=len_ge h hk
  refine Ei [] (Ai rfl (Ai trivial ?_))
  unfold placeM
  rw [fidx_miss _ _ (fun j hj=>hno j hj (by omega))]
  exact rfl
theorem find_ct (s:GState) (id:Int) (hs:s.objects.length*128≤limB):Ct Tryz.prog 80 [.agg (s.enc.map .t),.c (.t (iv id))] (.tup [.agg ((findM s.objects id).enc.map .t),AV.b (hasM s.objects id)]) [] true:=by
 refine Ct.litT (b:=false) ?_ rfl
 have hp:=place_ct s id hs
 unfold placeM at hp
 rcases fidx_cases (fun o:GObject=>o.id==id) s.objects with ⟨e1,_,e2⟩|⟨i,hi,e1,_,e2⟩
 ·rw [e1] at hp
  unfold findM hasM
  rw [e2]
  refine ct_of Tryz.func80 rfl (enters_of Tryz.func80 (by kernel_rfl) rfl) tabOk (by kernel_rfl) rfl rfl rfl rfl fun w0 O _=>Tp.run [] ?_
  refine cI hp ⟨fL s.enc,rfl,trivial⟩ (.inr rfl) ?_
  refine Ei [] (Ai rfl (Ai trivial ?_))
  repeat' first|refine Ai ?_ ?_|exact rfl|exact trivial|exact Ei _ rfl|refine lN ?_|refine bS ?_|fail
 ·revert hp
  generalize fidx (fun o:GObject=>o.id==id) s.objects=v at e1
  intro hp
  unfold findM hasM
  rw [e2]
  refine ct_of Tryz.func80 rfl (enters_of Tryz.func80 (by kernel_rfl) rfl) tabOk (by kernel_rfl) rfl rfl rfl rfl fun w0 O _=>Tp.run [] ?_
  refine cI hp ⟨fL s.enc,rfl,trivial⟩ (.inr rfl) ?_
  refine cS (fun h=>by have:=of_decide_eq_true h;omega) (fun _=>?_)
  subst e1
  refine Ei i (Ei (s.objects[i].enc) (Ai rfl (Ai (map_get _ _ i hi) ?_)))
  refine Ei [] (Ai rfl (Ai trivial ?_))
  repeat' first|refine Ai ?_ ?_|exact rfl|exact trivial|exact Ei _ rfl|refine lN ?_|refine bS ?_|fail
theorem plr_ok {s:GState} (h:s.ok) {q:GPlayer} (hq:q∈s.players):q.hand.length*8≤limB∧q.library.length*8≤limB∧q.graveyard.length*8≤limB:=by
 obtain ⟨hp,hp2,_⟩:=h
 obtain ⟨e1,e2,e3⟩:=hp2 q hq
 exact ⟨e2,e1,e3⟩
theorem list_ct (s:GState) (z p:Int) (h:s.ok):Ct Tryz.prog 131 [.agg (s.enc.map .t),.c (.t (iv z)),.c (.t (iv p))] (.c (.t (.sl 1 ((listM s z p).map eI)))) [] false:=by
 have hbt:s.battlefield.length*8≤limB:=h.2.2.2.2.1
 have hex:s.exile.length*8≤limB:=h.2.2.2.2.2.1
 generalize hL:listM s z p=L
 refine ct_of Tryz.func131 rfl (enters_of Tryz.func131 (by kernel_rfl) rfl) tabOk (by kernel_rfl) rfl rfl rfl rfl fun w0 O _=>Tp.run [3,4,5,6,7,8,10,11,12,13,14,15] ?_
 refine cS (fun hz0=>?_) (fun hz0=>?_)
 ·have hl:listM s z p=s.battlefield:=by unfold listM;rw [if_pos hz0]
  refine Tp.run [] ?_
  refine cI (ints_ct _ (map_bound _ _ _ hbt)) ⟨rfl,trivial⟩ (.inr rfl) ?_
  rw [hL] at hl
  rw [hl]
  refine Ei [] (Ai rfl (Ai ?_ ?_))
  all_goals repeat' first|refine Ai ?_ ?_|exact rfl|exact trivial|exact Ei _ rfl|refine lN ?_|refine bS ?_|fail
 refine Tp.run [] ?_
 refine cS (fun hz4=>?_) (fun hz4=>?_)
 ·have hl:listM s z p=s.exile:=by unfold listM;rw [if_neg (by rw [hz0];decide),if_pos hz4]
  refine Tp.run [] ?_
  refine cI (ints_ct _ (map_bound _ _ _ hex)) ⟨rfl,trivial⟩ (.inr rfl) ?_
  rw [hL] at hl
  rw [hl]
  refine Ei [] (Ai rfl (Ai ?_ ?_))
  all_goals repeat' first|refine Ai ?_ ?_|exact rfl|exact trivial|exact Ei _ rfl|refine lN ?_|refine bS ?_|fail
 have hl0:listM s z p=if p < 0∨(s.players.length:Int)≤p then [] else match s.players[p.toNat]? with
  | some q=>if z==1 then q.hand else if z==2 then q.library else if z==3 then q.graveyard else []
  | none=>[]:=by unfold listM;rw [if_neg (by rw [hz0];decide),if_neg (by rw [hz4];decide)] <;> rfl
 refine Tp.run [] ?_
 refine cS (fun hp0=>?_) (fun hp0=>?_)
 ·rw [if_pos (.inl (of_decide_eq_true hp0))] at hl0
  refine Tp.run [] ?_
  rw [hL] at hl0
  rw [hl0]
  refine Ei [] (Ai rfl (Ai ?_ ?_))
  all_goals repeat' first|refine Ai ?_ ?_|exact rfl|exact trivial|exact Ei _ rfl|refine lN ?_|refine bS ?_|fail
 refine cS (fun hp1=>?_) (fun hp1=>?_)
 ·have hp1:=of_decide_eq_true hp1
  rw [Lm] at hp1
  rw [if_pos (.inr hp1)] at hl0
  refine Tp.run [] ?_
  rw [hL] at hl0
  rw [hl0]
  refine Ei [] (Ai rfl (Ai ?_ ?_))
  all_goals repeat' first|refine Ai ?_ ?_|exact rfl|exact trivial|exact Ei _ rfl|refine lN ?_|refine bS ?_|fail
 have hp0:=of_decide_eq_false hp0
 have hp1:=of_decide_eq_false hp1
 rw [Lm] at hp1
 obtain ⟨k,rfl⟩:∃ k:Nat,p=k:=⟨p.toNat,by omega⟩
 have hk:k < s.players.length:=by omega
 rw [if_neg (by omega),Int.toNat_natCast,List.getElem?_eq_getElem hk] at hl0
 obtain ⟨e1,e2,e3⟩:=plr_ok h (List.getElem_mem hk)
 refine Tp.run [] ?_
 refine cS (fun hz1=>?_) (fun hz1=>?_)
 ·have hl:listM s z k=s.players[k].hand:=by rw [hl0];exact (if_pos hz1)
  refine Tp.run [] ?_
  refine Ei k (Ei (s.players[k].enc) (Ai rfl (Ai (map_get _ _ k hk) ?_)))
  refine cI (ints_ct _ (map_bound _ _ _ e1)) ⟨rfl,trivial⟩ (.inr rfl) ?_
  rw [hL] at hl
  rw [hl]
  refine Ei [] (Ai rfl (Ai ?_ ?_))
  all_goals repeat' first|refine Ai ?_ ?_|exact rfl|exact trivial|exact Ei _ rfl|refine lN ?_|refine bS ?_|fail
 refine Tp.run [] ?_
 refine cS (fun hz2=>?_) (fun hz2=>?_)
 ·have hl:listM s z k=s.players[k].library:=by rw [hl0];exact (if_neg (by rw [hz1];decide)).trans ((if_pos hz2))
  refine Tp.run [] ?_
  refine Ei k (Ei (s.players[k].enc) (Ai rfl (Ai (map_get _ _ k hk) ?_)))
  refine cI (ints_ct _ (map_bound _ _ _ e2)) ⟨rfl,trivial⟩ (.inr rfl) ?_
  rw [hL] at hl
  rw [hl]
  refine Ei [] (Ai rfl (Ai ?_ ?_))
  all_goals repeat' first|refine Ai ?_ ?_|exact rfl|exact trivial|exact Ei _ rfl|refine lN ?_|refine bS ?_|fail
 refine Tp.run [] ?_
 refine cS (fun hz3=>?_) (fun hz3=>?_)
 ·have hl:listM s z k=s.players[k].graveyard:=by rw [hl0];exact (if_neg (by rw [hz1];decide)).trans ((if_neg (by rw [hz2];decide)).trans ((if_pos hz3)))
  refine Tp.run [] ?_
  refine Ei k (Ei (s.players[k].enc) (Ai rfl (Ai (map_get _ _ k hk) ?_)))
  refine cI (ints_ct _ (map_bound _ _ _ e3)) ⟨rfl,trivial⟩ (.inr rfl) ?_
  rw [hL] at hl
  rw [hl]
  refine Ei [] (Ai rfl (Ai ?_ ?_))
  all_goals repeat' first|refine Ai ?_ ?_|exact rfl|exact trivial|exact Ei _ rfl|refine lN ?_|refine bS ?_|fail
 have hl:listM s z k=[]:=by rw [hl0];exact (if_neg (by rw [hz1];decide)).trans ((if_neg (by rw [hz2];decide)).trans (if_neg (by rw [hz3];decide)))
 refine Tp.run [] ?_
 rw [hL] at hl
 rw [hl]
 refine Ei [] (Ai rfl (Ai ?_ ?_))
 all_goals repeat' first|refine Ai ?_ ?_|exact rfl|exact trivial|exact Ei _ rfl|refine lN ?_|refine bS ?_|fail


def movedM (x:GObject) (id z p stamp:Int):GObject:={ newM id x.card x.owner z stamp with token:=x.token,control:=if z==0||z==5 then p else x.owner,sick:=z==0 }
theorem nil_ok:([]:List Int).length*8≤limB:=by decide
theorem listM_le {s:GState} (h:s.ok) (z p:Int):(listM s z p).length*8≤limB:=by
 unfold listM
 split
 ·exact h.2.2.2.2.1
 split
 ·exact h.2.2.2.2.2.1
 split
 ·exact nil_ok
 split
 ·rename_i q hq
  have:=plr_ok h (List.mem_of_getElem? hq)
  split
  ·exact this.1
  split
  ·exact this.2.1
  split
  ·exact this.2.2
  ·exact nil_ok
 ·exact nil_ok
theorem setM_objects (s:GState) (z p:Int) (l:List Int):(setM s z p l).objects=s.objects:=by
 unfold setM
 split
 ·rfl
 split
 ·rfl
 split
 ·rfl
 split <;> rfl
theorem setP_ok {q:GPlayer} (h:q.ok) (z:Int) {l:List Int} (hl:l.length*8≤limB):(setP q z l).ok:=by
 unfold setP
 split
 ·exact ⟨h.1,hl,h.2.2⟩
 split
 ·exact ⟨hl,h.2.1,h.2.2⟩
 split
 ·exact ⟨h.1,h.2.1,hl⟩
 ·exact h
theorem setM_ok {s:GState} (h:s.ok) (z p:Int) {l:List Int} (hl:l.length*8≤limB):(setM s z p l).ok:=by
 obtain ⟨h1,h2,h3,h4,h5,h6,h7⟩:=h
 unfold setM
 split
 ·exact ⟨h1,h2,h3,h4,hl,h6,h7⟩
 split
 ·exact ⟨h1,h2,h3,h4,h5,hl,h7⟩
 split
 ·exact ⟨h1,h2,h3,h4,h5,h6,h7⟩
 split
 ·rename_i q hq
  refine ⟨by rw [List.length_set];exact h1,fun y hy=>?_,h3,h4,h5,h6,h7⟩
  rcases List.mem_or_eq_of_mem_set hy with hy|rfl
  ·exact h2 y hy
  ·exact setP_ok (h2 q (List.mem_of_getElem? hq)) z hl
 ·exact ⟨h1,h2,h3,h4,h5,h6,h7⟩
def keepM (id:Int) (x:GItem):Bool:=x.kind != 1||x.id != id
def remM (s:GState) (id:Int) (i:Nat) (o:GObject):GState:={ setM s o.zone o.owner ((listM s o.zone o.owner).filter fun i=>i != id) with objects:=s.objects.take i++s.objects.drop (i+1),stack:=s.stack.filter (keepM id) }
theorem remM_ok {s:GState} (h:s.ok) (id:Int) (i:Nat) (o:GObject) (hi:i < s.objects.length):(remM s id i o).ok∧(remM s id i o).objects.length+1=s.objects.length:=by
 have hl:(((listM s o.zone o.owner).filter fun i=>i != id).length*8≤limB):=Nat.le_trans (Nat.mul_le_mul_right _ (List.length_filter_le _ _)) (listM_le h _ _)
 obtain ⟨h1,h2,_,_,h5,h6,_,_,h9⟩:=setM_ok h o.zone o.owner hl
 obtain ⟨_,_,g3,g4,_,_,g7,g8,_⟩:=h
 have hlen:(s.objects.take i++s.objects.drop (i+1)).length+1=s.objects.length:=by
  simp only [List.length_append,List.length_take,List.length_drop]
  omega
 refine ⟨⟨h1,h2,?_,?_,h5,h6,?_,?_,h9⟩,hlen⟩
 ·show (s.objects.take i++s.objects.drop (i+1)).length*128≤limB
  omega
 ·intro y hy
  rcases List.mem_append.1 hy with hy|hy
  ·exact g4 y (List.mem_of_mem_take hy)
  ·exact g4 y (List.mem_of_mem_drop hy)
 ·exact Nat.le_trans (Nat.mul_le_mul_right _ (List.length_filter_le _ _)) g7
 ·intro y hy
  exact g8 y (List.mem_filter.1 hy).1
theorem putL_len (l:List GObject) (o:GObject):(putL l o).length≤l.length+1:=by
 unfold putL
 split
 ·rw [List.length_set]
  omega
 ·unfold insM
  simp only [List.length_append,List.length_take,List.length_drop,List.length_cons,List.length_nil]
  omega
theorem obj_ok (o:GObject):o.ok:=by
 unfold GObject.ok
 exact trivial
def mvFin (V:GState):GState:={ V with nextId:=IntKind.i64.wrap (V.nextId+1),nextStamp:=IntKind.i64.wrap (V.nextStamp+1) }
def mvEnd (Q:GState) (x:GObject) (z:Int) (bottom:Bool):GState:=
 mvFin (setM Q z x.owner (if (z==2&&!bottom)=true then x.id :: listM Q z x.owner else listM Q z x.owner++[x.id]))
def mvNew (R:GState) (o:GObject) (z p:Int):GObject:=movedM o R.nextId z p R.nextStamp
def mvFound (s:GState) (id z p:Int) (bottom:Bool) (i:Nat) (o:GObject):GState × Int:=
 if z < 0∨5 < z then (s,0) else
 if o.token=true∧(z != 0)=true∧(z != 5)=true then (remM s id i o,0) else
 (mvEnd (putM (remM s id i o) (mvNew (remM s id i o) o z p)) (mvNew (remM s id i o) o z p) z bottom,(mvNew (remM s id i o) o z p).id)
def moveM (s:GState) (id z p:Int) (bottom:Bool):GState × Int:=match s.objects.findIdx? fun o=>o.id==id with
 | none=>(s,0)
 | some i=>match s.objects[i]? with
  | some o=>mvFound s id z p bottom i o
  | none=>(s,0)
theorem setM_next (s:GState) (z p:Int) (l:List Int):(setM s z p l).nextId=s.nextId∧(setM s z p l).nextStamp=s.nextStamp:=by
 unfold setM
 split
 ·exact ⟨rfl,rfl⟩
 split
 ·exact ⟨rfl,rfl⟩
 split
 ·exact ⟨rfl,rfl⟩
 split <;> exact ⟨rfl,rfl⟩
def makeM (s:GState) (card player:Int):GState × Int:=
 let x:GObject:={ newM s.nextId card player 0 s.nextStamp with token:=true,sick:=true }
 ({ putM s x with battlefield:=s.battlefield++[s.nextId],nextId:=IntKind.i64.wrap (s.nextId+1),nextStamp:=IntKind.i64.wrap (s.nextStamp+1) },s.nextId)
end Go.Proofs.YtmloamomcbmfhaaGreat
end
section
namespace Go.Proofs.YtmloamomcbmfhaaGreat
open Go Cg
def clampM (n:Int):Int:=if n > 1000000 then 1000000 else if n < -1000000 then -1000000 else n
def addM (a b:Int):Int:=clampM (clampM a+clampM b)
def subM (a b:Int):Int:=clampM (clampM a - clampM b)
def cupM (c n:Int):Int:=if addM c n > 0 then addM c n else 0
def upC (i kind c n:Int):Int:=if kind=i then cupM c n else c
def livM (s:GState) (p:Int):Bool:=match s.players[p.toNat]? with
 | some x=>decide (p≥0)&&!x.lost
 | none=>false
def amtM (n:Int):Bool:=decide (n≥1)&&decide (n≤1000000)
def hereM (s:GState) (id:Int):Bool:=hasM s.objects id&&(findM s.objects id).zone==0
def tokM (cards:List GCard) (i:Int):Bool:=match cards[i.toNat]? with
 | some x=>decide (i≥0)&&x.token
 | none=>false
theorem livM_f1 {s:GState} {p:Int} (h:¬ p≥0):false=livM s p:=by
 unfold livM
 split
 ·rw [decide_eq_false h];rfl
 ·rfl
theorem livM_f2 {s:GState} {p:Int} {f:GPlayer→List Tr} (h:¬ p < (((s.players.map f).length:Nat):Int)):false=livM s p:=by
 rw [Lm] at h
 unfold livM
 rw [List.getElem?_eq_none (by omega)]
theorem livM_g {s:GState} {p:Int} (h:p≥0) (hl:p.toNat < s.players.length):livM s p=!s.players[p.toNat].lost:=by
 unfold livM
 rw [List.getElem?_eq_getElem hl,decide_eq_true h]
 rfl
theorem tokM_f1 {l:List GCard} {p:Int} (h:¬ p≥0):tokM l p=false:=by
 unfold tokM
 split
 ·rw [decide_eq_false h];rfl
 ·rfl
theorem tokM_f2 {l:List GCard} {p:Int} {f:GCard→List Tr} (h:¬ p < (((l.map f).length:Nat):Int)):tokM l p=false:=by
 rw [Lm] at h
 unfold tokM
 rw [List.getElem?_eq_none (by omega)]
theorem tokM_g {l:List GCard} {p:Int} (h:p≥0) (hl:p.toNat < l.length):tokM l p=l[p.toNat].token:=by
 unfold tokM
 rw [List.getElem?_eq_getElem hl,decide_eq_true h]
 rfl
def evM (cards:List GCard) (s:GState) (e:GEvent):Bool:=
 if e.kind=1 then amtM e.amount&&(hereM s e.object||(e.object==0&&livM s e.player))
 else if e.kind=2 then hasM s.objects e.object&&(e.from_==(findM s.objects e.object).zone&&(e.to_ != e.from_&&(decide (e.to_≥0)&&(decide (e.to_≤4)&&(decide (e.player≥0)&&decide (e.player < s.players.length))))))
 else if e.kind=3∨e.kind=14∨e.kind=15∨e.kind=17 then livM s e.player
 else if e.kind=4∨e.kind=5∨e.kind=16 then livM s e.player&&amtM e.amount
 else if e.kind=6 then hereM s e.object&&!(findM s.objects e.object).tapped
 else if e.kind=7 then hereM s e.object&&(findM s.objects e.object).tapped
 else if e.kind=8∨e.kind=9 then hereM s e.object&&(decide (e.counter≥0)&&(decide (e.counter < 3)&&amtM e.amount))
 else if e.kind=10 then livM s e.player&&(tokM cards e.card&&amtM e.amount)
 else if e.kind=11 then hasM s.objects e.object&&((findM s.objects e.object).zone==5&&livM s e.player)
 else if e.kind=12 then hereM s e.object&&livM s e.player
 else if e.kind=13 then hereM s e.object&&hereM s e.source
 else false
def evP (cards:List GCard) (s:GState) (e:GEvent):Bool:=if e.kind=1 then amtM e.amount&&(if e.object=0 then livM s e.player else hereM s e.object) else evM cards s e
def entM (e:GEvent) (o:GObject):GObject:={ o with tapped:=e.tapped,counters0:=cupM 0 e.extra0,counters1:=cupM 0 e.extra1,counters2:=cupM 0 e.extra2 }
def arrM (s:GState) (id:Int) (e:GEvent):GState:=if hasM s.objects id=true then putM s (entM e (findM s.objects id)) else s
def uncO (k:Int) (o:GObject):GObject:=if o.blocks==k then { o with blocks:=0 } else o
def uncM (s:GState) (k:Int):GState:={ s with objects:=s.objects.map (uncO k) }
def mvR (s:GState) (e:GEvent):GState:=
 let r:=moveM (if e.from_=0 then uncM s e.object else s) e.object e.to_ e.player (e.amount==1)
 if e.to_=0 then arrM r.1 r.2 e else r.1
def mvP (s:GState) (e:GEvent):GState:=
 let r:=moveM s e.object e.to_ e.player (e.amount==1)
 let t:=if e.to_=0 then arrM r.1 r.2 e else r.1
 if e.from_=0 then uncM t e.object else t
def updP (s:GState) (p:Int) (f:GPlayer→GPlayer):GState:=match s.players[p.toNat]? with
 | some x=>{ s with players:=s.players.set p.toNat (f x) }
 | none=>s
def drawM (s:GState) (p:Int):GState:=match s.players[p.toNat]? with
 | some x=>(match x.library with
  | []=>updP s p fun x=>{ x with failed:=true }
  | id :: _=>(moveM s id 1 p false).1)
 | none=>s
def hasK (k m:Int):Bool:=IntKind.i64.wrap (BitVec.ofInt IntKind.i64.bits k &&& BitVec.ofInt IntKind.i64.bits m).toNat==m
def deadM (s:GState) (all:List GTraits) (id:Int):Bool:=match s.objects.findIdx? fun o=>o.id==id with
 | some i=>(match all[i]? with
  | some t=>hasK t.keys 128
  | none=>false)
 | none=>false
def noD (all:List GTraits) (id:Int) (j:Nat) (y:GObject):Bool:=!(y.id==id)||decide (all.length≤j)
theorem dead_hit {s:GState} {all:List GTraits} {id i:Int} (h0:0≤i) (hU:Up (noD all id) s.objects i) (hl:i.toNat < s.objects.length) (hid:s.objects[i.toNat].id=id) (ha:i.toNat < all.length):hasK all[i.toNat].keys 128=deadM s all id:=by
 have e:s.objects.findIdx? (fun o=>o.id==id)=some i.toNat:=by
  rw [List.findIdx?_eq_some_iff_getElem]
  refine ⟨hl,by simpa using hid,fun j hj=>?_⟩
  have:=hU j (by omega) (by omega)
  unfold noD at this
  rw [Bool.or_eq_true,decide_eq_true_eq] at this
  rcases this with h|h
  ·simpa using h
  ·omega
 unfold deadM
 rw [e]
 simp only [List.getElem?_eq_getElem ha]
theorem dead_end {s:GState} {all:List GTraits} {id i:Int} (hU:Up (noD all id) s.objects i) (h1:∀ j:Nat,i≤j→j < s.objects.length→all.length≤j):false=deadM s all id:=by
 unfold deadM
 split
 ·rename_i k hk
  obtain ⟨h2,h3,_⟩:=List.findIdx?_eq_some_iff_getElem.1 hk
  have:all.length≤k:=by
   by_cases hik:(k:Int) < i
   ·have:=hU k h2 hik
    unfold noD at this
    rw [h3] at this
    simpa using this
   ·exact h1 k (by omega) h2
  rw [List.getElem?_eq_none this]
 ·rfl
theorem noD_1 {all:List GTraits} {id i:Int} {y:GObject} (h:¬ y.id=id):noD all id i.toNat y=true:=by unfold noD;simp [h]
theorem noD_2 {all:List GTraits} {id i:Int} {y:GObject} {f:GTraits→List Tr} (h0:0≤i) (h:¬ i < (((all.map f).length:Nat):Int)):noD all id i.toNat y=true:=by
 rw [Lm] at h
 unfold noD
 rw [Bool.or_eq_true,decide_eq_true_eq]
 right
 omega
theorem dead_e1 {s:GState} {all:List GTraits} {id i:Int} {f:GObject→List Tr} (hU:Up (noD all id) s.objects i) (h:¬ i < (((s.objects.map f).length:Nat):Int)):false=deadM s all id:=dead_end hU fun j h1 h2=>by
 rw [Lm] at h
 omega
structure SmallS (s:GState):Prop where
 ob:s.objects.length≤300
 bf:s.battlefield.length≤300
 ex:s.exile.length≤300
 np:s.players.length≤10
 pl:∀ p∈s.players,p.library.length≤300∧p.hand.length≤300∧p.graveyard.length≤300
structure SmI (s:GState) (i p:Int):Prop where
 up:p≤(i+1)*200000000000000
 ob:(s.objects.length:Int)≤p
 bf:(s.battlefield.length:Int)≤p
 ex:(s.exile.length:Int)≤p
 pl:∀ (j:Nat) (h:j < s.players.length),(j:Int) < i→(s.players[j].library.length:Int)≤p∧(s.players[j].hand.length:Int)≤p∧(s.players[j].graveyard.length:Int)≤p
theorem sm_wrap {n:Int} (h0:0≤n) (h1:n≤9000000000000000000):IntKind.i64.wrap n=n:=by
 rw [IntKind.wrap_i64]
 omega
theorem SmI.zero {s:GState} {f1:GObject→List Tr} {f2 f3 f4:Int→List Tr} {f5:GItem→List Tr} {f6:GWaiting→List Tr} {f7:GCont→List Tr} (h:s.ok):SmI s 0 (IntKind.i64.wrap (IntKind.i64.wrap (IntKind.i64.wrap (IntKind.i64.wrap (IntKind.i64.wrap (IntKind.i64.wrap ((((s.objects.map f1).length:Nat):Int)+(((s.battlefield.map f2).length:Nat):Int))+(((s.exile.map f3).length:Nat):Int))+(((s.extra.map f4).length:Nat):Int))+IntKind.i64.wrap (8*(((s.stack.map f5).length:Nat):Int)))+IntKind.i64.wrap (8*(((s.waiting.map f6).length:Nat):Int)))+IntKind.i64.wrap (4*(((s.conts.map f7).length:Nat):Int)))):=by
 obtain ⟨_,_,h3,_,h5,h6,h7,_,h9,_,h11,_,h13⟩:=h
 simp only [Lm]
 unfold limB at *
 have e8:IntKind.i64.wrap (8*(s.stack.length:Int))=8*s.stack.length:=sm_wrap (by omega) (by omega)
 have e9:IntKind.i64.wrap (8*(s.waiting.length:Int))=8*s.waiting.length:=sm_wrap (by omega) (by omega)
 have e10:IntKind.i64.wrap (4*(s.conts.length:Int))=4*s.conts.length:=sm_wrap (by omega) (by omega)
 rw [e8,e9,e10,sm_wrap (n:=(s.objects.length:Int)+s.battlefield.length) (by omega) (by omega),sm_wrap (n:=(s.objects.length:Int)+s.battlefield.length+s.exile.length) (by omega) (by omega),sm_wrap (n:=(s.objects.length:Int)+s.battlefield.length+s.exile.length+s.extra.length) (by omega) (by omega),
  sm_wrap (n:=(s.objects.length:Int)+s.battlefield.length+s.exile.length+s.extra.length+8*s.stack.length) (by omega) (by omega),sm_wrap (n:=(s.objects.length:Int)+s.battlefield.length+s.exile.length+s.extra.length+8*s.stack.length+8*s.waiting.length) (by omega) (by omega),sm_wrap (by omega) (by omega)]
 exact ⟨by omega,by omega,by omega,by omega,fun j h hj=>by omega⟩
theorem SmI.step {s:GState} {i p:Int} {f1 f2 f3:Int→List Tr} (h0:0≤i) (hi:i < 10) (h:SmI s i p) (hok:s.ok) (hl:i.toNat < s.players.length):SmI s (i+1) (IntKind.i64.wrap (IntKind.i64.wrap (IntKind.i64.wrap (p+(((s.players[i.toNat].library.map f1).length:Nat):Int))+(((s.players[i.toNat].hand.map f2).length:Nat):Int))+(((s.players[i.toNat].graveyard.map f3).length:Nat):Int))):=by
 obtain ⟨g1,g2,g3⟩:=hok.2.1 _ (List.getElem_mem hl)
 obtain ⟨k1,k2,k3,k4,k5⟩:=h
 simp only [Lm]
 unfold limB at *
 rw [sm_wrap (n:=p+s.players[i.toNat].library.length) (by omega) (by omega),sm_wrap (n:=p+s.players[i.toNat].library.length+s.players[i.toNat].hand.length) (by omega) (by omega),sm_wrap (by omega) (by omega)]
 refine ⟨by omega,by omega,by omega,by omega,fun j hj hji=>?_⟩
 by_cases e:j=i.toNat
 ·subst e
  exact ⟨by omega,by omega,by omega⟩
 ·obtain ⟨a1,a2,a3⟩:=k5 j hj (by omega)
  exact ⟨by omega,by omega,by omega⟩
def SmE (s:GState) (p:Int):Prop:=∃ i:Int,SmI s i p∧(¬ i < (s.players.length:Int)∨¬ i < 10)
theorem SmE.a {s:GState} {i p:Int} {f:GPlayer→List Tr} (h:SmI s i p) (h1:¬ i < (((s.players.map f).length:Nat):Int)):SmE s p:=⟨i,h,.inl (by rwa [Lm] at h1)⟩
theorem SmE.b {s:GState} {i p:Int} (h:SmI s i p) (h1:¬ i < 10):SmE s p:=⟨i,h,.inr h1⟩
theorem SmE.fin {s:GState} {p:Int} {g:GPlayer→List Tr} (h:SmE s p) (h2:¬ p > 300) (h3:¬ (((s.players.map g).length:Nat):Int) > 10):SmallS s:=by
 obtain ⟨i,h,h1⟩:=h
 rw [Lm] at h3
 obtain ⟨_,k2,k3,k4,k5⟩:=h
 refine ⟨by omega,by omega,by omega,by omega,fun q hq=>?_⟩
 obtain ⟨j,hj,rfl⟩:=List.mem_iff_getElem.1 hq
 obtain ⟨a1,a2,a3⟩:=k5 j hj (by omega)
 exact ⟨by omega,by omega,by omega⟩
def markM (d:Bool) (e:GEvent) (o:GObject):GObject:=
 if e.kind=1 then { o with damage:=addM o.damage e.amount,deadly:=o.deadly||d }
 else if e.kind=6 then { o with tapped:=true }
 else if e.kind=7 then { o with tapped:=false }
 else if e.kind=8 then { o with counters0:=upC 0 e.counter o.counters0 e.amount,counters1:=upC 1 e.counter o.counters1 e.amount,counters2:=upC 2 e.counter o.counters2 e.amount }
 else if e.kind=9 then { o with counters0:=upC 0 e.counter o.counters0 (IntKind.i64.wrap (0 - e.amount)),counters1:=upC 1 e.counter o.counters1 (IntKind.i64.wrap (0 - e.amount)),counters2:=upC 2 e.counter o.counters2 (IntKind.i64.wrap (0 - e.amount)) }
 else if e.kind=12 then { o with attack:=e.player }
 else if e.kind=13 then { o with blocks:=e.source }
 else o
def objM (s:GState) (all:List GTraits) (e:GEvent):GState:=
 if hasM s.objects e.object=true then
  let s1:=putM s (markM (deadM s all e.source) e (findM s.objects e.object))
  if e.kind=13 then putM s1 { findM s1.objects e.source with blocked:=true } else s1
 else s
def mkM (s:GState) (e:GEvent):Nat→GState
 | 0=>s
 | n+1=>if (s.objects.length:Int) < 2048 then mkM (arrM (makeM s e.card e.player).1 (makeM s e.card e.player).2 e) e n else s
def xorU (x y:Int):Int:=IntKind.u64.wrap (BitVec.ofInt IntKind.u64.bits x ^^^ BitVec.ofInt IntKind.u64.bits y).toNat
def shrU (x:Int) (n:Nat):Int:=x.fdiv (2 ^ min n IntKind.u64.bits)
def seedM (s:Int):Int:=IntKind.u64.wrap (s+11400714819323198485)
def mix1 (z:Int):Int:=IntKind.u64.wrap (xorU z (shrU z 30)*13787848793156543929)
def mix2 (z:Int):Int:=IntKind.u64.wrap (xorU z (shrU z 27)*10723151780598845931)
def mix3 (z:Int):Int:=xorU z (shrU z 31)
def nextM (s:Int):Int:=mix3 (mix2 (mix1 (seedM s)))
def belowM (s n:Int):Int × Int:=if n < 1 then (0,s) else (IntKind.i64.wrap ((nextM s).tmod (IntKind.u64.wrap n)),seedM s)
def swapM (l:List Int) (i j:Nat):List Int:=(l.set i (l.getD j 0)).set j (l.getD i 0)
def shufG:Nat→Int→List Int→List Int × Int
 | 0,s,l=>(l,s)
 | i+1,s,l=>shufG i (belowM s ((i:Int)+2)).2 (swapM l (i+1) (belowM s ((i:Int)+2)).1.toNat)
def shufM (s:Int) (l:List Int):List Int × Int:=shufG (l.length - 1) s l
theorem wrapU_range (n:Int):0≤IntKind.u64.wrap n∧IntKind.u64.wrap n < 18446744073709551616:=by
 rw [IntKind.wrap_u64]
 omega
theorem below_range {s n:Int} (h1:1≤n) (h2:n≤1099511627776):0≤(belowM s n).1∧(belowM s n).1 < n:=by
 unfold belowM
 rw [if_neg (by omega)]
 have hz:0≤nextM s:=(wrapU_range _).1
 have hn:IntKind.u64.wrap n=n:=by rw [IntKind.wrap_u64];omega
 simp only [hn]
 have h3:=Int.tmod_nonneg n hz
 have h4:=Int.tmod_lt_of_pos (nextM s) (b:=n) (by omega)
 have:IntKind.i64.wrap ((nextM s).tmod n)=(nextM s).tmod n:=by rw [IntKind.wrap_i64];omega
 rw [this]
 exact ⟨h3,h4⟩
theorem swap_perm (l:List Int) (i j:Nat) (hi:i < l.length) (hj:j < l.length):(swapM l i j).Perm l:=by
 rw [List.perm_iff_count]
 intro a
 unfold swapM
 have e1:l.getD j 0=l[j]:=by rw [List.getD_eq_getElem?_getD,List.getElem?_eq_getElem hj];rfl
 have e2:l.getD i 0=l[i]:=by rw [List.getD_eq_getElem?_getD,List.getElem?_eq_getElem hi];rfl
 rw [e1,e2,List.count_set (by rw [List.length_set];exact hj),List.count_set hi,List.getElem_set]
 have c1:(l[i]==a)=true→1≤l.count a:=fun h=>List.count_pos_iff.2 (by rw [← beq_iff_eq.1 h];exact List.getElem_mem hi)
 have c2:(l[j]==a)=true→1≤l.count a:=fun h=>List.count_pos_iff.2 (by rw [← beq_iff_eq.1 h];exact List.getElem_mem hj)
 by_cases hij:i=j
 ·subst hij
  simp only [if_pos]
  split
  ·rename_i h
   have:=c1 h
   omega
  ·omega
 ·rw [if_neg hij]
  by_cases ha:(l[i]==a)=true <;> by_cases hb:(l[j]==a)=true
  ·rw [if_pos ha,if_pos hb]
   have:=c1 ha
   omega
  ·rw [if_pos ha,if_neg hb]
   have:=c1 ha
   omega
  ·rw [if_neg ha,if_pos hb]
   have:=c2 hb
   omega
  ·rw [if_neg ha,if_neg hb]
   omega
theorem swap_len (l:List Int) (i j:Nat):(swapM l i j).length=l.length:=by unfold swapM;rw [List.length_set,List.length_set]
theorem shufG_perm:∀ (i:Nat) (s:Int) (l:List Int),i < l.length∨i=0→l.length≤1099511627776→(shufG i s l).1.Perm l
 | 0,_,_,_,_=>.refl _
 | i+1,s,l,h,hb=>by
  unfold shufG
  have hr:=below_range (s:=s) (n:=(i:Int)+2) (by omega) (by omega)
  have hp:=swap_perm l (i+1) (belowM s ((i:Int)+2)).1.toNat (by omega) (by omega)
  exact (shufG_perm i _ _ (by rw [swap_len];omega) (by rw [swap_len];exact hb)).trans hp
theorem shufM_perm (s:Int) (l:List Int) (hb:l.length≤1099511627776):(shufM s l).1.Perm l:=shufG_perm _ s l (by omega) hb
def chM (e:GEvent) (sd:Int) (x:GPlayer):GPlayer × Int:=
 if e.kind=4 then ({ x with life:=addM x.life e.amount },sd)
 else if e.kind=5 then ({ x with life:=subM x.life e.amount },sd)
 else if e.kind=16 then ({ x with venom:=addM x.venom e.amount },sd)
 else if e.kind=17 then ({ x with library:=(shufM sd x.library).1 },(shufM sd x.library).2)
 else (x,sd)
def lifeM (s:GState) (e:GEvent):GState:=match s.players[e.player.toNat]? with
 | some x=>{ s with players:=s.players.set e.player.toNat (chM e s.seed x).1,seed:=(chM e s.seed x).2 }
 | none=>s
def restM (s:GState) (all:List GTraits) (e:GEvent):GState:=
 if e.kind=3 then drawM s e.player
 else if e.kind=4∨e.kind=5∨e.kind=16∨e.kind=17 then lifeM s e
 else if e.kind=10 then mkM s e e.amount.toNat
 else if e.kind=1∨e.kind=6∨e.kind=7∨e.kind=8∨e.kind=9∨e.kind=12∨e.kind=13 then objM s all e
 else s
def doR (cards:List GCard) (s:GState) (all:List GTraits) (e:GEvent):GState:=if evM cards s e=true then (if e.kind=2 then mvR s e else restM s all e) else s
section
variable {q:Opq} {c:Int} {s:GState}
theorem waitOk_n {s s':GState} (h:s'.players.length=s.players.length) (w:GWaiting):waitOk q s' w=waitOk q s w:=by
 unfold waitOk plM
 rw [h]
theorem contOk_n {s s':GState} (h:s'.players.length=s.players.length) (hs:s.nextStamp≤s'.nextStamp) {k:GCont} (hk:contOk q s k=true):contOk q s' k=true:=by
 unfold contOk plM at *
 rw [h]
 simp only [Bool.and_eq_true,Bool.not_eq_true',decide_eq_false_iff_not] at *
 exact ⟨hk.1,by omega,hk.2.2⟩
theorem plM_n {s s':GState} (h:s'.players.length=s.players.length) (p:Int):plM s' p=plM s p:=by
 unfold plM
 rw [h]
theorem _root_.Cg.Val.map (h:Val q c s) (g:GObject→GObject) (hg:∀ o∈s.objects,(g o).id=o.id∧(g o).zone=o.zone∧(g o).owner=o.owner∧(g o).stamp=o.stamp∧objOk (g o) c s.players.length=true):Val q c { s with objects:=s.objects.map g }:=by
 refine ⟨h.nid,h.nst,by rw [Lm];exact h.nobj,h.npl,h.sc,h.ply,?_,fun o ho=>?_,fun z p id hid=>?_,h.nod,fun o ho h5=>?_,fun o ho h5=>?_,h.nstk,h.stk,fun x hx=>?_,h.wt,h.cts⟩
 ·refine List.pairwise_map.2 (h.srt.imp_of_mem fun {a b} ha hb hab=>?_)
  rw [(hg a ha).1,(hg b hb).1]
  exact hab
 ·obtain ⟨o,hm,rfl⟩:=List.mem_map.1 ho
  obtain ⟨h1,h2,h3,h4,h5⟩:=hg o hm
  exact ⟨h5,by rw [h1];exact (h.obj o hm).2.1,by rw [h4];exact (h.obj o hm).2.2⟩
 ·obtain ⟨o,ho,h1,h2,h3⟩:=h.lst z p id hid
  obtain ⟨g1,g2,g3,_⟩:=hg o ho
  exact ⟨g o,List.mem_map_of_mem ho,by rw [g1];exact h1,by rw [g2];exact h2,by rw [g3];exact h3⟩
 ·obtain ⟨o,hm,rfl⟩:=List.mem_map.1 ho
  obtain ⟨h1,h2,h3,_⟩:=hg o hm
  rw [h2] at h5
  rw [h1,h2,h3]
  exact h.plc o hm h5
 ·obtain ⟨o,hm,rfl⟩:=List.mem_map.1 ho
  obtain ⟨h1,h2,_⟩:=hg o hm
  rw [h2] at h5
  rw [h1]
  exact h.plc5 o hm h5
 ·obtain ⟨h1,h2,h3⟩:=h.itm x hx
  refine ⟨h1,h2,?_⟩
  rcases h3 with ⟨g1,g2,⟨o,ho,g3,g4⟩,g5⟩|⟨g1,g2,g3⟩
  ·obtain ⟨e1,e2,_⟩:=hg o ho
   exact .inl ⟨g1,g2,⟨g o,List.mem_map_of_mem ho,by rw [e1];exact g3,by rw [e2];exact g4⟩,g5⟩
  ·refine .inr ⟨g1,fun o ho=>?_,g3⟩
   obtain ⟨o,hm,rfl⟩:=List.mem_map.1 ho
   rw [(hg o hm).1]
   exact g2 o hm
theorem _root_.Cg.Val.plys (h:Val q c s) (l:List GPlayer) (sd:Int) (hlen:l.length=s.players.length) (hp:∀ p∈l,plyN p=true) (hl:∀ z p,(listM { s with players:=l,seed:=sd } z p).Perm (listM s z p)):Val q c { s with players:=l,seed:=sd }:=by
 refine ⟨h.nid,h.nst,h.nobj,by rw [hlen];exact h.npl,?_,hp,h.srt,fun o ho=>?_,fun z p id hid=>h.lst z p id ((hl z p).mem_iff.1 hid),fun z p=>(hl z p).nodup_iff.2 (h.nod z p),fun o ho h5=>(hl _ _).mem_iff.2 (h.plc o ho h5),h.plc5,h.nstk,h.stk,fun x hx=>?_,⟨h.wt.1,fun w hw=>?_⟩,h.cts.1,fun k hk=>contOk_n (s:=s) (s':={ s with players:=l,seed:=sd }) hlen (Int.le_refl _) (h.cts.2 k hk)⟩
 ·have:=h.sc
  unfold scM isW at *
  simp only [plM_n (s:=s) (s':={ s with players:=l,seed:=sd }) hlen,hlen,List.all_eq_true,Bool.and_eq_true] at *
  exact this
 ·rw [hlen]
  exact h.obj o ho
 ·have:=h.itm x hx
  unfold itemV at *
  rw [plM_n (s:=s) hlen]
  exact this
 ·rw [waitOk_n (s:=s) hlen]
  exact h.wt.2 w hw
theorem plys_get {l _l':List GPlayer} {i:Nat} {x y:GPlayer} (_hx:l[i]? = some x) (h:∀ p∈l,plyN p=true) (hy:plyN y=true):∀ p∈l.set i y,plyN p=true:=fun p hp=>by
 rcases List.mem_or_eq_of_mem_set hp with hp|rfl
 ·exact h p hp
 ·exact hy
theorem listM_set {s:GState} {i:Nat} {x y:GPlayer} (sd:Int) (hx:s.players[i]? = some x) (h1:y.hand.Perm x.hand) (h2:y.library.Perm x.library) (h3:y.graveyard.Perm x.graveyard) (z p:Int):(listM { s with players:=s.players.set i y,seed:=sd } z p).Perm (listM s z p):=by
 unfold listM
 simp only [List.length_set]
 by_cases hi:i=p.toNat
 ·subst hi
  simp only [List.getElem?_set_self (List.getElem?_eq_some_iff.1 hx).1,hx]
  split
  ·exact .refl _
  split
  ·exact .refl _
  split
  ·exact .refl _
  split
  ·exact h1
  split
  ·exact h2
  split
  ·exact h3
  ·exact .refl _
 ·simp only [List.getElem?_set_ne hi]
  exact .refl _
theorem _root_.Cg.Val.ply1 (h:Val q c s) (i:Nat) (sd:Int) {x y:GPlayer} (hx:s.players[i]? = some x) (hy:plyN y=true) (h1:y.hand.Perm x.hand) (h2:y.library.Perm x.library) (h3:y.graveyard.Perm x.graveyard):Val q c { s with players:=s.players.set i y,seed:=sd }:=
 h.plys _ sd (by rw [List.length_set]) (plys_get (_l':=[]) (x:=x) hx h.ply hy) (listM_set sd hx h1 h2 h3)
theorem setM_form (s:GState) (z p:Int) (l:List Int):∃ b x pl,setM s z p l={ s with battlefield:=b,exile:=x,players:=pl }∧pl.length=s.players.length∧((∀ y∈s.players,plyN y=true)→∀ y∈pl,plyN y=true):=by
 unfold setM
 split
 ·exact ⟨l,s.exile,s.players,rfl,rfl,id⟩
 split
 ·exact ⟨s.battlefield,l,s.players,rfl,rfl,id⟩
 split
 ·exact ⟨s.battlefield,s.exile,s.players,rfl,rfl,id⟩
 split
 ·rename_i y hy
  refine ⟨s.battlefield,s.exile,_,rfl,by rw [List.length_set],fun h=>plys_get (_l':=[]) hy h ?_⟩
  have:plyN (setP y z l)=plyN y:=by
   unfold setP
   split
   ·rfl
   split
   ·rfl
   split <;> rfl
  rw [this]
  exact h y (List.mem_of_getElem? hy)
 ·exact ⟨s.battlefield,s.exile,s.players,rfl,rfl,id⟩
theorem sc_form {s:GState} {b x:List Int} {pl:List GPlayer} {ob:List GObject} {st:List GItem} {ni ns:Int} (hlen:pl.length=s.players.length) (h:scM s=true):scM { s with battlefield:=b,exile:=x,players:=pl,objects:=ob,stack:=st,nextId:=ni,nextStamp:=ns }=true:=by
 unfold scM isW at *
 simp only [plM_n (s:=s) (s':={ s with battlefield:=b,exile:=x,players:=pl,objects:=ob,stack:=st,nextId:=ni,nextStamp:=ns }) hlen,hlen,List.all_eq_true,Bool.and_eq_true] at *
 exact h
theorem set_eq_self {α:Type} {xs:List α} {i:Nat} {t:α} (h:xs[i]? = some t):xs.set i t=xs:=by
 refine List.ext_getElem? fun j=>?_
 by_cases e:i=j
 ·subst e
  rw [List.getElem?_set_self (List.getElem?_eq_some_iff.1 h).1,h]
 ·rw [List.getElem?_set_ne e]
def sameP (z w z' p':Int):Prop:=z=z'∧(z=0∨z=4∨w=p')
instance {z w z' p':Int}:Decidable (sameP z w z' p'):=by unfold sameP;exact inferInstance
theorem listM_setM (s:GState) (z w:Int) (l:List Int) (z' p':Int) (h:z=0∨z=4∨(1≤z∧z≤3∧0≤w∧w < s.players.length)):listM (setM s z w l) z' p'=if sameP z w z' p' then l else listM s z' p':=by
 rcases h with rfl|rfl|⟨h1,h2,h3,h4⟩
 ·have e:setM s 0 w l={ s with battlefield:=l }:=by unfold setM;rfl
  rw [e]
  by_cases hz:z'=0
  ·subst hz
   rw [if_pos ⟨rfl,.inl rfl⟩]
   exact listM_bf p'
  ·rw [if_neg fun h=>hz h.1.symm]
   unfold listM
   rw [if_neg (show ¬ (z'==0)=true by simpa using hz),if_neg (show ¬ (z'==0)=true by simpa using hz)]
 ·have e:setM s 4 w l={ s with exile:=l }:=by unfold setM;rfl
  rw [e]
  by_cases hz:z'=4
  ·subst hz
   rw [if_pos ⟨rfl,.inr (.inl rfl)⟩]
   exact listM_ex p'
  ·rw [if_neg fun h=>hz h.1.symm]
   unfold listM
   rw [if_neg (show ¬ (z'==4)=true by simpa using hz),if_neg (show ¬ (z'==4)=true by simpa using hz)]
 ·have hlt:w.toNat < s.players.length:=by omega
  obtain ⟨x,hx⟩:∃ x,s.players[w.toNat]? = some x:=⟨_,List.getElem?_eq_getElem hlt⟩
  have e:setM s z w l={ s with players:=s.players.set w.toNat (setP x z l) }:=by
   unfold setM
   rw [if_neg (by simp;omega),if_neg (by simp;omega),if_neg (by omega),hx]
  rw [e]
  by_cases hs:sameP z w z' p'
  ·rw [if_pos hs]
   obtain ⟨rfl,hs⟩:=hs
   obtain rfl:w=p':=hs.elim (fun h=>by omega) (fun h=>h.elim (fun h=>by omega) id)
   unfold listM
   rw [if_neg (by simp;omega),if_neg (by simp;omega),if_neg (by simp only [List.length_set];omega)]
   simp only [List.getElem?_set_self hlt]
   unfold setP
   rcases (by omega:z=1∨z=2∨z=3) with rfl|rfl|rfl <;> rfl
  ·rw [if_neg hs]
   unfold listM
   simp only [List.length_set]
   split
   ·rfl
   split
   ·rfl
   split
   ·rfl
   rename_i h0 h4' hp
   by_cases hw:w.toNat=p'.toNat
   ·have:w=p':=by omega
    subst this
    have hz:¬ z=z':=fun e=>hs ⟨e,.inr (.inr rfl)⟩
    simp only [List.getElem?_set_self hlt,hx]
    have hz2:¬ z'=z:=fun e=>hz e.symm
    rcases (by omega:z=1∨z=2∨z=3) with rfl|rfl|rfl <;> simp [setP,hz2]
   ·rw [List.getElem?_set_ne hw]
theorem out_iff {l:List GObject} (hs:l.Pairwise fun a b=>a.id < b.id) {i:Nat} (hi:i < l.length) {x:GObject}:x∈l.take i++l.drop (i+1)↔x∈l∧x.id≠l[i].id:=by
 have hp:=List.pairwise_iff_getElem.1 hs
 rw [List.mem_append]
 constructor
 ·rintro (h|h)
  ·obtain ⟨j,hj,rfl⟩:=List.mem_iff_getElem.1 h
   rw [List.length_take] at hj
   rw [List.getElem_take]
   have:=hp j i (by omega) hi (by omega)
   exact ⟨List.getElem_mem _,by omega⟩
  ·obtain ⟨j,hj,rfl⟩:=List.mem_iff_getElem.1 h
   rw [List.length_drop] at hj
   rw [List.getElem_drop]
   have:=hp i (i+1+j) hi (by omega) (by omega)
   exact ⟨List.getElem_mem _,by omega⟩
 ·rintro ⟨h,hne⟩
  obtain ⟨j,hj,rfl⟩:=List.mem_iff_getElem.1 h
  rcases Nat.lt_trichotomy j i with h|h|h
  ·exact .inl (List.mem_iff_getElem.2 ⟨j,by rw [List.length_take];omega,by rw [List.getElem_take]⟩)
  ·subst h
   exact absurd rfl hne
  ·exact .inr (List.mem_iff_getElem.2 ⟨j - (i+1),by rw [List.length_drop];omega,by rw [List.getElem_drop];congr 1;omega⟩)
theorem out_sub {l:List GObject} (i:Nat):(l.take i++l.drop (i+1)).Sublist l:=by
 rw [← List.eraseIdx_eq_take_drop_succ]
 exact List.eraseIdx_sublist l i
theorem rem_lists (h:Val q c s) {i:Nat} (hi:i < s.objects.length) (z p:Int):listM (remM s s.objects[i].id i s.objects[i]) z p=(listM s z p).filter fun x=>x != s.objects[i].id:=by
 have hm:=List.getElem_mem hi
 have ho:=(h.obj _ hm).1
 unfold objOk at ho
 simp only [Bool.and_eq_true,Bool.not_eq_true',decide_eq_false_iff_not] at ho
 have e:listM (remM s s.objects[i].id i s.objects[i]) z p=listM (setM s s.objects[i].zone s.objects[i].owner ((listM s s.objects[i].zone s.objects[i].owner).filter fun x=>x != s.objects[i].id)) z p:=rfl
 rw [e]
 have keep:¬ sameP s.objects[i].zone s.objects[i].owner z p→listM s z p=(listM s z p).filter fun x=>x != s.objects[i].id:=fun hs=>by
  refine (List.filter_eq_self.2 fun x hx=>?_).symm
  obtain ⟨o,ho,h1,h2,h3⟩:=h.lst z p x hx
  rw [bne_iff_ne]
  intro e
  have:=uniqO h.srt ho hm (h1.trans e)
  subst this
  refine hs ⟨h2,?_⟩
  rw [h2]
  rcases h3 with h3|h3|h3
  ·exact .inl h3
  ·exact .inr (.inl h3)
  ·exact .inr (.inr h3)
 by_cases h5:s.objects[i].zone=5
 ·rw [h5]
  have e5:∀ l,setM s 5 s.objects[i].owner l=s:=fun l=>by
   unfold setM
   rw [if_neg (by decide),if_neg (by decide)]
   split
   ·rfl
   ·split
    ·rename_i x hx
     have:setP x 5 l=x:=rfl
     rw [this]
     have:s.players.set s.objects[i].owner.toNat x=s.players:=set_eq_self hx
     rw [this]
    ·rfl
  rw [e5]
  refine (List.filter_eq_self.2 fun x hx=>?_).symm
  obtain ⟨o,ho,h1,h2,h3⟩:=h.lst z p x hx
  rw [bne_iff_ne]
  intro e
  have:=uniqO h.srt ho hm (h1.trans e)
  subst this
  rw [h5] at h2
  rcases listM_cases s z p with e|⟨rfl,e⟩|⟨rfl,e⟩|⟨j,hj,rfl,⟨rfl,e⟩|⟨rfl,e⟩|⟨rfl,e⟩⟩
  ·rw [e] at hx;cases hx
  all_goals omega
 ·rw [listM_setM _ _ _ _ _ _ (by omega)]
  split
  ·rename_i hs
   obtain ⟨h1,h2⟩:=hs
   have:listM s s.objects[i].zone s.objects[i].owner=listM s z p:=by
    rw [h1] at h2 ⊢
    rcases h2 with rfl|rfl|rfl
    ·rw [listM_bf,listM_bf]
    ·rw [listM_ex,listM_ex]
    ·rfl
   rw [this]
  ·rename_i hs
   exact keep hs
theorem _root_.Cg.Val.rem (h:Val q c s) {i:Nat} (hi:i < s.objects.length):Val q c (remM s s.objects[i].id i s.objects[i]):=by
 have hl:=rem_lists h hi
 obtain ⟨b,x,pl,e,hlen,hpl⟩:=setM_form s s.objects[i].zone s.objects[i].owner ((listM s s.objects[i].zone s.objects[i].owner).filter fun y=>y != s.objects[i].id)
 have hT:remM s s.objects[i].id i s.objects[i]={ s with battlefield:=b,exile:=x,players:=pl,objects:=s.objects.take i++s.objects.drop (i+1),stack:=s.stack.filter (keepM s.objects[i].id) }:=by
  unfold remM
  rw [e]
 rw [hT] at hl ⊢
 have hm:=List.getElem_mem hi
 have hout:=fun y=>out_iff h.srt hi (x:=y)
 refine ⟨h.nid,h.nst,?_,by rw [hlen];exact h.npl,sc_form hlen h.sc,hpl h.ply,h.srt.sublist (out_sub i),fun o ho=>?_,fun z p id hid=>?_,fun z p=>by rw [hl];exact List.Pairwise.filter _ (h.nod z p),fun o ho h5=>?_,fun o ho h5=>?_,?_,List.Pairwise.filter _ h.stk,fun y hy=>?_,⟨h.wt.1,fun y hy=>by rw [waitOk_n (s:=s) hlen];exact h.wt.2 y hy⟩,h.cts.1,fun y hy=>contOk_n (s:=s) (by exact hlen) (by exact Int.le_refl _) (h.cts.2 y hy)⟩
 ·have:=h.nobj
  simp only [List.length_append,List.length_take,List.length_drop]
  omega
 ·rw [hlen]
  exact h.obj o ((hout o).1 ho).1
 ·rw [hl] at hid
  obtain ⟨h1,h2⟩:=List.mem_filter.1 hid
  obtain ⟨o,g1,g2,g3⟩:=h.lst z p id h1
  rw [bne_iff_ne] at h2
  exact ⟨o,(hout o).2 ⟨g1,by rw [g2];exact h2⟩,g2,g3⟩
 ·obtain ⟨h1,h2⟩:=(hout o).1 ho
  rw [hl]
  exact List.mem_filter.2 ⟨h.plc o h1 h5,by rw [bne_iff_ne];exact h2⟩
 ·obtain ⟨h1,h2⟩:=(hout o).1 ho
  obtain ⟨y,hy,g1,g2⟩:=h.plc5 o h1 h5
  refine ⟨y,List.mem_filter.2 ⟨hy,?_⟩,g1,g2⟩
  unfold keepM
  rw [g2,Bool.or_eq_true]
  exact .inr (by rw [bne_iff_ne];exact h2)
 ·have:=h.nstk
  have:=List.length_filter_le (keepM s.objects[i].id) s.stack
  show ((s.stack.filter (keepM s.objects[i].id)).length:Int)≤64
  omega
 ·obtain ⟨hy,hk⟩:=List.mem_filter.1 hy
  obtain ⟨h1,⟨h2,h3,h4⟩,h5⟩:=h.itm y hy
  refine ⟨h1,⟨h2,h3,by rw [plM_n (s:=s) hlen];exact h4⟩,?_⟩
  rcases h5 with ⟨g1,g2,⟨o,g3,g4,g5⟩,g6⟩|⟨g1,g2,g3⟩
  ·refine .inl ⟨g1,g2,⟨o,(hout o).2 ⟨g3,?_⟩,g4,g5⟩,g6⟩
   unfold keepM at hk
   rw [g1] at hk
   simp at hk
   rw [g4]
   exact hk
  ·exact .inr ⟨g1,fun o ho=>g2 o ((hout o).1 ho).1,g3⟩
theorem _root_.Cg.Val.add {s':GState} (h:Val q c s) (x:GObject) (hn:s.nextId+1≤1000000∧s.nextStamp+1≤1000000) (e1:s'.nextId=s.nextId+1) (e2:s'.nextStamp=s.nextStamp+1) (eo:s'.objects=s.objects++[x]) (hl:s.objects.length+1≤2048) (ep:s'.players.length=s.players.length) (hp:∀ p∈s'.players,plyN p=true) (hsc:scM s'=true) (est:s'.stack=s.stack) (ew:s'.waiting=s.waiting) (ec:s'.conts=s.conts) (hx:objOk x c s.players.length=true∧x.id=s.nextId∧x.stamp=s.nextStamp∧x.zone≠5)
  (hL:∀ z p,(listM s' z p).Perm (if sameP x.zone x.owner z p then x.id :: listM s z p else listM s z p)):Val q c s':=by
 obtain ⟨hx1,hx2,hx3,hx5⟩:=hx
 have h0:=h.nid
 have h1:=h.nst
 have hold:∀ z p id,id∈listM s z p→id < s.nextId:=fun z p id hid=>by
  obtain ⟨o,ho,g1,_⟩:=h.lst z p id hid
  rw [← g1]
  exact (h.obj o ho).2.1
 refine ⟨by omega,by omega,by rw [eo,List.length_append];simp;omega,by rw [ep];exact h.npl,hsc,hp,?_,fun o ho=>?_,fun z p id hid=>?_,fun z p=>?_,fun o ho h5=>?_,fun o ho h5=>?_,by rw [est];exact h.nstk,by rw [est];exact h.stk,fun y hy=>?_,?_,?_⟩
 ·rw [eo,List.pairwise_append]
  refine ⟨h.srt,List.pairwise_singleton _ _,fun a ha b hb=>?_⟩
  rw [List.mem_singleton.1 hb,hx2]
  exact (h.obj a ha).2.1
 ·rw [ep,e1,e2]
  rw [eo] at ho
  rcases List.mem_append.1 ho with ho|ho
  ·have:=h.obj o ho
   exact ⟨this.1,by omega,by omega⟩
  ·rw [List.mem_singleton.1 ho]
   exact ⟨hx1,by omega,by omega⟩
 ·rw [eo]
  have hid:=(hL z p).mem_iff.1 hid
  have old:id∈listM s z p→∃ o∈s.objects++[x],o.id=id∧o.zone=z∧(z=0∨z=4∨o.owner=p):=fun hid=>by
   obtain ⟨o,ho,g⟩:=h.lst z p id hid
   exact ⟨o,List.mem_append_left _ ho,g⟩
  split at hid
  ·rename_i hs
   rcases List.mem_cons.1 hid with rfl|hid
   ·refine ⟨x,List.mem_append_right _ List.mem_cons_self,rfl,hs.1,?_⟩
    rw [← hs.1]
    exact hs.2
   ·exact old hid
  ·exact old hid
 ·refine (hL z p).nodup_iff.2 ?_
  split
  ·exact List.nodup_cons.2 ⟨fun hm=>by have:=hold z p _ hm;omega,h.nod z p⟩
  ·exact h.nod z p
 ·rw [eo] at ho
  refine (hL _ _).mem_iff.2 ?_
  rcases List.mem_append.1 ho with ho|ho
  ·have:=h.plc o ho h5
   split
   ·exact List.mem_cons_of_mem _ this
   ·exact this
  ·rw [List.mem_singleton.1 ho,if_pos ⟨rfl,.inr (.inr rfl)⟩]
   exact List.mem_cons_self
 ·rw [est]
  rw [eo] at ho
  rcases List.mem_append.1 ho with ho|ho
  ·exact h.plc5 o ho h5
  ·rw [List.mem_singleton.1 ho] at h5
   exact absurd h5 hx5
 ·rw [est] at hy
  obtain ⟨h1,⟨h2,h3,h4⟩,h5⟩:=h.itm y hy
  refine ⟨by rw [e1];omega,⟨h2,h3,by rw [plM_n (s:=s) ep];exact h4⟩,?_⟩
  rw [eo]
  rcases h5 with ⟨g1,g2,⟨o,g3,g4⟩,g6⟩|⟨g1,g2,g3⟩
  ·exact .inl ⟨g1,g2,⟨o,List.mem_append_left _ g3,g4⟩,g6⟩
  ·refine .inr ⟨g1,fun o ho=>?_,g3⟩
   rcases List.mem_append.1 ho with ho|ho
   ·exact g2 o ho
   ·rw [List.mem_singleton.1 ho]
    omega
 ·rw [ew]
  exact ⟨h.wt.1,fun y hy=>by rw [waitOk_n (s:=s) ep];exact h.wt.2 y hy⟩
 ·rw [ec]
  exact ⟨h.cts.1,fun y hy=>contOk_n (s:=s) ep (by omega) (h.cts.2 y hy)⟩
end
theorem uncO_f (k:Int) (o:GObject):(uncO k o).id=o.id∧(uncO k o).zone=o.zone∧(uncO k o).owner=o.owner∧(uncO k o).stamp=o.stamp∧(uncO k o).token=o.token∧(uncO k o).card=o.card:=by
 unfold uncO
 split <;> exact ⟨rfl,rfl,rfl,rfl,rfl,rfl⟩
theorem fidx_mapi (l:List GObject) (id:Int) (g:GObject→GObject) (hg:∀ o,(g o).id=o.id):(l.map g).findIdx? (fun o=>o.id==id)=l.findIdx? (fun o=>o.id==id):=by
 rw [List.findIdx?_map]
 congr 1
 funext o
 simp [hg]
theorem insM_map (l:List GObject) (x:GObject) (g:GObject→GObject) (hg:∀ o,(g o).id=o.id) (hx:g x=x):insM (l.map g) x=(insM l x).map g:=by
 unfold insM
 have e:((l.map g).takeWhile fun y=>decide (y.id < x.id)).length=(l.takeWhile fun y=>decide (y.id < x.id)).length:=by
  rw [List.takeWhile_map,Lm]
  congr 2
  funext o
  simp [hg]
 rw [e,List.map_append,List.map_append,List.map_take,List.map_drop,List.map_cons,hx,List.map_nil]
theorem putL_map1 (l:List GObject) (x:GObject) (g:GObject→GObject) (hg:∀ o,(g o).id=o.id) (hx:g x=x):putL (l.map g) x=(putL l x).map g:=by
 unfold putL
 rw [fidx_mapi l x.id g hg]
 split
 ·rw [List.map_set,hx]
 ·exact insM_map l x g hg hx
theorem put_unc (s:GState) (x:GObject) (k:Int) (hx:x.blocks=0):putM (uncM s k) x=uncM (putM s x) k:=by
 have hx2:uncO k x=x:=by
  unfold uncO
  split
  ·rw [← hx]
  ·rfl
 unfold putM uncM
 rw [show ({ s with objects:=s.objects.map (uncO k) }:GState).objects=s.objects.map (uncO k) from rfl,putL_map1 _ _ _ (fun o=>(uncO_f k o).1) hx2]
theorem setM_ob (s:GState) (l:List GObject) (z p:Int) (r:List Int):setM { s with objects:=l } z p r={ setM s z p r with objects:=l }:=by
 unfold setM
 by_cases h0:(z==0)=true
 ·rw [if_pos h0,if_pos h0]
 by_cases h4:(z==4)=true
 ·rw [if_neg h0,if_neg h0,if_pos h4,if_pos h4]
 by_cases hp:p < 0∨(s.players.length:Int)≤p
 ·rw [if_neg h0,if_neg h0,if_neg h4,if_neg h4,if_pos hp,if_pos hp]
 ·rw [if_neg h0,if_neg h0,if_neg h4,if_neg h4,if_neg hp,if_neg hp]
  cases s.players[p.toNat]? with
  | none=>rfl
  | some q=>rfl
theorem rem_unc (s:GState) (id:Int) (i:Nat) (o:GObject) (k:Int):remM (uncM s k) id i (uncO k o)=uncM (remM s id i o) k:=by
 obtain ⟨_,h2,h3,_⟩:=uncO_f k o
 unfold remM uncM
 rw [h2,h3,setM_ob]
 simp only [List.map_append,List.map_take,List.map_drop]
 rfl
theorem end_unc (s:GState) (x:GObject) (z:Int) (b:Bool) (k:Int):mvEnd (uncM s k) x z b=uncM (mvEnd s x z b) k:=by
 have e:listM (uncM s k) z x.owner=listM s z x.owner:=rfl
 unfold mvEnd
 rw [e]
 generalize (if (z==2&&!b)=true then x.id :: listM s z x.owner else listM s z x.owner++[x.id])=L
 unfold uncM
 rw [setM_ob,show (mvFin (setM s z x.owner L)).objects=s.objects from setM_objects s z x.owner L]
 rfl
theorem found_unc (s:GState) (id z p:Int) (b:Bool) (i:Nat) (o:GObject) (k:Int):mvFound (uncM s k) id z p b i (uncO k o)=(uncM (mvFound s id z p b i o).1 k,(mvFound s id z p b i o).2):=by
 obtain ⟨_,_,h3,_,h5,h6⟩:=uncO_f k o
 unfold mvFound
 rw [h5]
 split
 ·rfl
 split
 ·rw [rem_unc]
 ·have hn:mvNew (remM (uncM s k) id i (uncO k o)) (uncO k o) z p=mvNew (remM s id i o) o z p:=by
   rw [rem_unc]
   unfold mvNew movedM
   rw [h3,h5,h6]
   rfl
  rw [hn,rem_unc,put_unc _ _ _ rfl,end_unc]
theorem move_unc (s:GState) (id z p:Int) (b:Bool) (k:Int):moveM (uncM s k) id z p b=(uncM (moveM s id z p b).1 k,(moveM s id z p b).2):=by
 unfold moveM
 rw [show (uncM s k).objects=s.objects.map (uncO k) from rfl,fidx_mapi _ _ _ fun o=>(uncO_f k o).1]
 split
 ·rfl
 ·rename_i i hi
  rw [List.getElem?_map]
  cases ho:s.objects[i]? with
  | none=>rfl
  | some o=>exact found_unc s id z p b i o k
theorem has_map (l:List GObject) (id:Int) (g:GObject→GObject) (hg:∀ o,(g o).id=o.id):hasM (l.map g) id=hasM l id:=by
 unfold hasM
 rw [List.find?_map,Option.isSome_map]
 congr 2
 funext o
 simp [hg]
theorem find_mapi (l:List GObject) (id:Int) (g:GObject→GObject) (hg:∀ o,(g o).id=o.id) (h:hasM l id=true):findM (l.map g) id=g (findM l id):=by
 unfold hasM at h
 unfold findM
 rw [List.find?_map]
 have e:((fun o:GObject=>o.id==id) ∘ g)=fun o=>o.id==id:=by
  funext o
  simp [hg]
 rw [e]
 cases hf:l.find? fun o=>o.id==id with
 | none=>rw [hf] at h;cases h
 | some o=>rfl
theorem has_idx {l:List GObject} {id:Int} (h:hasM l id=true):∃ (i:Nat) (hi:i < l.length),l.findIdx? (fun o=>o.id==id)=some i∧findM l id=l[i]∧l[i].id=id:=by
 have hm:=findM_mem h
 unfold hasM at h
 unfold findM at hm ⊢
 rcases fidx_cases (fun o:GObject=>o.id==id) l with ⟨_,_,e⟩|⟨i,hi,_,e1,e2⟩
 ·rw [e] at h;cases h
 ·rw [e2] at hm ⊢
  exact ⟨i,hi,e1,rfl,hm.2⟩
theorem arr_unc (s:GState) (id:Int) (e:GEvent) (k:Int):arrM (uncM s k) id e=uncM (arrM s id e) k:=by
 have hg:∀ o,(uncO k o).id=o.id:=fun o=>(uncO_f k o).1
 unfold arrM
 rw [show (uncM s k).objects=s.objects.map (uncO k) from rfl,has_map _ _ _ hg]
 by_cases h:hasM s.objects id=true
 ·rw [if_pos h,if_pos h,find_mapi _ _ _ hg h]
  obtain ⟨i,hi,e1,e2,e3⟩:=has_idx h
  have e4:entM e (uncO k (findM s.objects id))=uncO k (entM e (findM s.objects id)):=by
   unfold uncO
   rw [show (entM e (findM s.objects id)).blocks=(findM s.objects id).blocks from rfl]
   split <;> rfl
  rw [e4]
  unfold putM uncM
  simp only
  congr 1
  unfold putL
  have e5:(entM e (findM s.objects id)).id=id:=by rw [e2];exact e3
  rw [hg,e5,fidx_mapi _ _ _ hg,e1]
  simp only [List.map_set]
 ·rw [if_neg h,if_neg h]
theorem mvP_eq (s:GState) (e:GEvent):mvP s e=mvR s e:=by
 unfold mvP mvR
 by_cases hf:e.from_=0
 ·simp only [if_pos hf,move_unc]
  by_cases ht:e.to_=0
  ·simp only [if_pos ht,arr_unc]
  ·simp only [if_neg ht]
 ·simp only [if_neg hf]
theorem ev_eq {cards:List GCard} {s:GState} {e:GEvent} (h0:hasM s.objects 0=false):evP cards s e=evM cards s e:=by
 unfold evP
 by_cases hk:e.kind=1
 ·rw [if_pos hk]
  unfold evM
  rw [if_pos hk]
  by_cases ho:e.object=0
  ·rw [if_pos ho,ho]
   unfold hereM
   rw [h0]
   simp
  ·rw [if_neg ho]
   have:(e.object==0)=false:=by simpa using ho
   rw [this]
   simp
 ·rw [if_neg hk]
section
variable {q:Opq} {c:Int} {s:GState}
theorem clamp_range (n:Int):-1000000≤clampM n∧clampM n≤1000000:=by
 unfold clampM
 split
 ·omega
 split <;> omega
theorem cup_range (a b:Int):0≤cupM a b∧cupM a b≤1000000:=by
 have:=clamp_range (clampM a+clampM b)
 unfold cupM addM
 split <;> omega
theorem clamp_eq {n:Int} (h0:-1000000≤n) (h1:n≤1000000):clampM n=n:=by
 unfold clampM
 rw [if_neg (by omega),if_neg (by omega)]
theorem zr:(0:Int)≤0∧(0:Int)≤1000000:=by decide
structure ObjV (c n:Int) (o:GObject):Prop where
 id:1≤o.id
 card:0≤o.card∧o.card < c
 own:0≤o.owner∧o.owner < n
 ctl:0≤o.control∧o.control < n
 zone:0≤o.zone∧o.zone≤5
 dmg:0≤o.damage∧o.damage≤1000000
 stamp:0≤o.stamp∧o.stamp≤1000000
 blocks:0≤o.blocks∧o.blocks≤1000000
 shield:0≤o.shield∧o.shield≤1000000
 c0:0≤o.counters0∧o.counters0≤1000000
 c1:0≤o.counters1∧o.counters1≤1000000
 c2:0≤o.counters2∧o.counters2≤1000000
 copy:-1≤o.copy∧o.copy < c
 att:-1≤o.attack∧o.attack < n
 rest:o.zone=0∨restOk o=true
theorem objV_iff {c n:Int} {o:GObject}:objOk o c n=true↔ObjV c n o:=by
 unfold objOk cntOk
 simp only [Bool.and_eq_true,Bool.or_eq_true,Bool.not_eq_true',decide_eq_false_iff_not,beq_iff_eq]
 refine ⟨fun ⟨⟨a1,a2,a3,a4,a5,a6,a7,a8,a9⟩,⟨b1,b2,b3,b4,b5,b6,b7,b8⟩,⟨⟨⟨c1,c2⟩,⟨c3,c4⟩,c5,c6⟩,d1,d2,d3,d4⟩,r⟩=>?_,fun h=>?_⟩
 ·exact ⟨by omega,by omega,by omega,by omega,by omega,by omega,by omega,by omega,by omega,by omega,by omega,by omega,by omega,by omega,r⟩
 ·obtain ⟨h1,h2,h3,h4,h5,h6,h7,h8,h9,k1,k2,k3,k4,k5,k6⟩:=h
  exact ⟨⟨by omega,by omega,by omega,by omega,by omega,by omega,by omega,by omega,by omega⟩,⟨by omega,by omega,by omega,by omega,by omega,by omega,by omega,by omega⟩,⟨⟨⟨by omega,by omega⟩,⟨by omega,by omega⟩,by omega,by omega⟩,by omega,by omega,by omega,by omega⟩,k6⟩
theorem putL_map {l:List GObject} (hs:l.Pairwise fun a b=>a.id < b.id) {o o':GObject} (ho:o∈l) (e:o'.id=o.id):putL l o'=l.map fun y=>if y.id=o.id then o' else y:=by
 obtain ⟨i,hi,e1,_,e3⟩:=has_idx (hasM_iff.2 ⟨o,ho,rfl⟩)
 unfold putL
 rw [e,e1]
 refine List.ext_getElem? fun j=>?_
 rw [List.getElem?_map]
 by_cases hj:i=j
 ·subst hj
  rw [List.getElem?_set_self hi,List.getElem?_eq_getElem hi]
  simp only [Option.map_some]
  rw [if_pos e3]
 ·rw [List.getElem?_set_ne hj]
  cases hq:l[j]? with
  | none=>rfl
  | some y=>
   obtain ⟨hjl,rfl⟩:=List.getElem?_eq_some_iff.1 hq
   have:¬ l[j].id=o.id:=fun e=>by
    have hp:=List.pairwise_iff_getElem.1 hs
    rcases Nat.lt_or_gt_of_ne hj with h|h
    ·have:=hp i j hi hjl h;omega
    ·have:=hp j i hjl hi h;omega
   simp only [Option.map_some]
   rw [if_neg this]
theorem put_val (h:Val q c s) {o o':GObject} (ho:o∈s.objects) (e:o'.id=o.id∧o'.zone=o.zone∧o'.owner=o.owner∧o'.stamp=o.stamp) (hok:ObjV c s.players.length o'):Val q c (putM s o'):=by
 unfold putM
 rw [putL_map h.srt ho e.1]
 refine h.map _ fun y hy=>?_
 split
 ·rename_i hid
  have:=uniqO h.srt hy ho hid
  subst this
  exact ⟨e.1,e.2.1,e.2.2.1,e.2.2.2,objV_iff.2 hok⟩
 ·exact ⟨rfl,rfl,rfl,rfl,(h.obj y hy).1⟩
theorem obj_val {o:GObject} (h:Val q c s) (ho:o∈s.objects):ObjV c s.players.length o:=objV_iff.1 (h.obj o ho).1
theorem unc_val (h:Val q c s) (k:Int):Val q c (uncM s k):=h.map _ fun o ho=>by
 obtain ⟨h1,h2,h3,h4,_⟩:=uncO_f k o
 refine ⟨h1,h2,h3,h4,?_⟩
 have hv:=obj_val h ho
 unfold uncO
 split
 ·obtain ⟨g1,g2,g3,g4,g5,g6,g7,g8,g9,k1,k2,k3,k4,k5,k6⟩:=hv
  refine objV_iff.2 ⟨g1,g2,g3,g4,g5,g6,g7,zr,g9,k1,k2,k3,k4,k5,k6.imp id fun hr=>?_⟩
  unfold restOk at *
  simp only [Bool.and_eq_true] at *
  obtain ⟨a,b,_,d⟩:=hr
  exact ⟨a,b,rfl,d⟩
 ·exact objV_iff.2 hv
theorem ent_val {n:Int} {o:GObject} (hv:ObjV c n o) (h0:o.zone=0) (e:GEvent):ObjV c n (entM e o):=by
 obtain ⟨g1,g2,g3,g4,g5,g6,g7,g8,g9,k1,k2,k3,k4,k5,k6⟩:=hv
 exact ⟨g1,g2,g3,g4,g5,g6,g7,g8,g9,cup_range _ _,cup_range _ _,cup_range _ _,k4,k5,.inl h0⟩
theorem arr_val (h:Val q c s) (id:Int) (e:GEvent) (h0:hasM s.objects id=true→(findM s.objects id).zone=0):Val q c (arrM s id e):=by
 unfold arrM
 by_cases hh:hasM s.objects id=true
 ·rw [if_pos hh]
  have hm:=(findM_mem hh).1
  exact put_val h hm ⟨rfl,rfl,rfl,rfl⟩ (ent_val (obj_val h hm) (h0 hh) e)
 ·rw [if_neg hh]
  exact h
theorem putL_end {l:List GObject} {x:GObject} (h:∀ y∈l,y.id < x.id):putL l x=l++[x]:=by
 unfold putL
 have e:l.findIdx? (fun y=>y.id==x.id)=none:=List.findIdx?_eq_none_iff.2 fun y hy=>by
  have:=h y hy
  simp only [beq_eq_false_iff_ne,ne_eq]
  omega
 rw [e]
 show insM l x=_
 unfold insM
 have e2:(l.takeWhile fun y=>decide (y.id < x.id)).length=l.length:=takeWhile_len _ l l.length (Nat.le_refl _) (fun j hj _=>decide_eq_true (h _ (List.getElem_mem hj))) (.inl rfl)
 rw [e2,List.take_length,List.drop_length,List.append_nil]
theorem new_val {n id card p z st:Int} (h1:1≤id) (h2:0≤card∧card < c) (h3:0≤p∧p < n) (h4:0≤z∧z≤4) (h5:0≤st∧st≤1000000) (tk:Bool) (ct:Int) (h6:0≤ct∧ct < n):ObjV c n { newM id card p z st with token:=tk,control:=ct,sick:=z==0 }:=by
 refine ⟨h1,h2,h3,h6,⟨h4.1,show z≤5 by omega⟩,zr,h5,zr,zr,zr,zr,zr,⟨Int.le_refl _,show (-1:Int) < c by omega⟩,⟨Int.le_refl _,show (-1:Int) < n by omega⟩,?_⟩
 by_cases hz:z=0
 ·exact .inl hz
 ·right
  have:(z==0)=false:=by simpa using hz
  unfold restOk newM zeroObj
  simp only [this]
  rfl
theorem next_rem (i:Nat) (o:GObject) (id:Int):(remM s id i o).nextId=s.nextId∧(remM s id i o).nextStamp=s.nextStamp∧(remM s id i o).players.length=s.players.length:=by
 obtain ⟨b,x,pl,e,hlen,_⟩:=setM_form s o.zone o.owner ((listM s o.zone o.owner).filter fun y=>y != id)
 unfold remM
 rw [e]
 exact ⟨rfl,rfl,hlen⟩
structure MoveV (q:Opq) (c:Int) (s:GState) (z:Int) (r:GState × Int):Prop where
 val:Val q c r.1
 nid:s.nextId≤r.1.nextId∧r.1.nextId≤s.nextId+1
 fnd:hasM r.1.objects r.2=true→(findM r.1.objects r.2).zone=z
theorem move_val (h:Val q c s) (id z p:Int) (b:Bool) (hid:hasM s.objects id=true) (hz:0≤z∧z≤4) (hp:0≤p∧p < s.players.length) (hn:s.nextId+1≤1000000∧s.nextStamp+1≤1000000):MoveV q c s z (moveM s id z p b):=by
 obtain ⟨i,hi,e1,_,rfl⟩:=has_idx hid
 have hv:=obj_val h (List.getElem_mem hi)
 have hR:=h.rem hi
 obtain ⟨n1,n2,n3⟩:=next_rem (s:=s) i s.objects[i] s.objects[i].id
 have n4:(remM s s.objects[i].id i s.objects[i]).objects.length+1=s.objects.length:=by
  show (s.objects.take i++s.objects.drop (i+1)).length+1=_
  simp only [List.length_append,List.length_take,List.length_drop]
  omega
 unfold moveM
 rw [e1]
 simp only [List.getElem?_eq_getElem hi]
 unfold mvFound
 rw [if_neg (by omega)]
 generalize remM s s.objects[i].id i s.objects[i]=R at *
 have h1:=hR.nid
 have h2:=hR.nst
 split
 ·refine ⟨hR,⟨by show s.nextId≤R.nextId;omega,by show R.nextId≤s.nextId+1;omega⟩,fun hh=>?_⟩
  obtain ⟨o,ho,e⟩:=hasM_iff.1 hh
  have h3:=(obj_val hR ho).id
  have e:o.id=0:=e
  omega
 ·obtain ⟨x,hx⟩:∃ x,x=mvNew R s.objects[i] z p:=⟨_,rfl⟩
  rw [← hx]
  have hxv:ObjV c R.players.length x:=by
   rw [hx,n3]
   refine new_val h1.1 hv.card hv.own hz ⟨by omega,by omega⟩ _ _ ?_
   have:=hv.own
   split <;> omega
  have x1:x.id=R.nextId:=by rw [hx];rfl
  have x2:x.stamp=R.nextStamp:=by rw [hx];rfl
  have x3:x.zone=z:=by rw [hx];rfl
  have x4:x.owner=s.objects[i].owner:=by rw [hx];rfl
  have hall:∀ y∈R.objects,y.id < x.id:=fun y hy=>by rw [x1];exact (hR.obj y hy).2.1
  have hput:putL R.objects x=R.objects++[x]:=putL_end hall
  unfold mvEnd
  generalize hL:(if (z==2&&!b)=true then x.id :: listM (putM R x) z x.owner else listM (putM R x) z x.owner++[x.id])=L
  have hLp:L.Perm (x.id :: listM R z x.owner):=by
   rw [← hL]
   split
   ·exact .refl _
   ·exact List.perm_append_singleton _ _
  obtain ⟨bf,ex,pl,e,hlen,hpl⟩:=setM_form (putM R x) z x.owner L
  have hw:∀ n:Int,1≤n→n≤1000000→IntKind.i64.wrap (n+1)=n+1:=fun n _ _=>by rw [IntKind.wrap_i64];omega
  have hT:mvFin (setM (putM R x) z x.owner L)={ R with battlefield:=bf,exile:=ex,players:=pl,objects:=R.objects++[x],nextId:=R.nextId+1,nextStamp:=R.nextStamp+1 }:=by
   rw [e]
   unfold mvFin putM
   simp only [hput,hw _ h1.1 h1.2,hw _ h2.1 h2.2]
  have hval:Val q c (mvFin (setM (putM R x) z x.owner L)):=by
   have hlists:∀ z' p',listM (mvFin (setM (putM R x) z x.owner L)) z' p'=listM (setM (putM R x) z x.owner L) z' p':=fun _ _=>rfl
   refine hR.add x ⟨by omega,by omega⟩ ?_ ?_ ?_ ?_ ?_ ?_ ?_ ?_ ?_ ?_ ⟨objV_iff.2 hxv,x1,x2,by omega⟩ fun z' p'=>?_
   ·rw [hT]
   ·rw [hT]
   ·rw [hT]
   ·have:=h.nobj
    omega
   ·rw [hT];exact hlen
   ·rw [hT];exact hpl hR.ply
   ·rw [hT];exact sc_form hlen hR.sc
   ·rw [hT]
   ·rw [hT]
   ·rw [hT]
   ·rw [hlists,listM_setM _ _ _ _ _ _ (by have:=hxv.own;have:(putM R x).players.length=R.players.length:=rfl;omega),x3]
    split
    ·rename_i hs
     have:listM R z x.owner=listM R z' p':=by
      obtain ⟨rfl,hs⟩:=hs
      rcases hs with rfl|rfl|rfl
      ·rw [listM_bf,listM_bf]
      ·rw [listM_ex,listM_ex]
      ·rfl
     rw [← this]
     exact hLp
    ·exact .refl _
  refine ⟨hval,?_,fun hh=>?_⟩
  ·show s.nextId≤(mvFin (setM (putM R x) z x.owner L)).nextId∧(mvFin (setM (putM R x) z x.owner L)).nextId≤s.nextId+1
   rw [hT]
   exact ⟨show s.nextId≤R.nextId+1 by omega,show R.nextId+1≤s.nextId+1 by omega⟩
  ·have hm:x∈(mvFin (setM (putM R x) z x.owner L)).objects:=by
    rw [hT]
    exact List.mem_append_right _ List.mem_cons_self
   show (findM (mvFin (setM (putM R x) z x.owner L)).objects x.id).zone=z
   rw [findM_of hval.srt hm]
   exact x3
end
section
variable {q:Opq} {c:Int} {s:GState}
theorem zero_no (h:Val q c s):hasM s.objects 0=false:=by
 rw [← Bool.not_eq_true,hasM_iff]
 rintro ⟨o,ho,e⟩
 have:=(obj_val h ho).id
 omega
structure StepV (q:Opq) (c k:Int) (s t:GState):Prop where
 val:Val q c t
 nid:s.nextId≤t.nextId∧t.nextId≤s.nextId+k
theorem StepV.refl (h:Val q c s) {k:Int} (hk:0≤k):StepV q c k s s:=⟨h,Int.le_refl _,by omega⟩
theorem arr_ids (id:Int) (e:GEvent):(arrM s id e).nextId=s.nextId∧(arrM s id e).nextStamp=s.nextStamp∧(arrM s id e).players=s.players:=by
 unfold arrM
 split <;> exact ⟨rfl,rfl,rfl⟩
theorem mv_val (h:Val q c s) (e:GEvent) (hid:hasM s.objects e.object=true) (hz:0≤e.to_∧e.to_≤4) (hp:0≤e.player∧e.player < s.players.length) (hn:s.nextId+1≤1000000∧s.nextStamp+1≤1000000):StepV q c 1 s (mvR s e):=by
 obtain ⟨s0,hs0⟩:∃ s0,s0=(if e.from_=0 then uncM s e.object else s):=⟨_,rfl⟩
 have h0:Val q c s0∧hasM s0.objects e.object=true∧s0.nextId=s.nextId∧s0.nextStamp=s.nextStamp∧s0.players=s.players:=by
  rw [hs0]
  split
  ·exact ⟨unc_val h _,by rw [show (uncM s e.object).objects=s.objects.map (uncO e.object) from rfl,has_map _ _ _ fun o=>(uncO_f _ o).1];exact hid,rfl,rfl,rfl⟩
  ·exact ⟨h,hid,rfl,rfl,rfl⟩
 obtain ⟨h1,h2,h3,h4,h5⟩:=h0
 have hm:=move_val h1 e.object e.to_ e.player (e.amount==1) h2 hz (by rw [h5];exact hp) (by omega)
 have hnid:=hm.nid
 unfold mvR
 rw [← hs0]
 simp only
 split
 ·rename_i ht
  refine ⟨arr_val hm.val _ _ fun hh=>by rw [hm.fnd hh,ht],?_⟩
  rw [(arr_ids _ _).1]
  omega
 ·exact ⟨hm.val,by omega⟩
theorem make_val (h:Val q c s) (card p:Int) (hc:0≤card∧card < c) (hp:0≤p∧p < s.players.length) (hl:(s.objects.length:Int) < 2048) (hn:s.nextId+1≤1000000∧s.nextStamp+1≤1000000):MoveV q c s 0 (makeM s card p)∧(makeM s card p).1.nextStamp=s.nextStamp+1∧(makeM s card p).1.players=s.players:=by
 have h1:=h.nid
 have h2:=h.nst
 obtain ⟨x,hx⟩:∃ x,x=({ newM s.nextId card p 0 s.nextStamp with token:=true,sick:=true }:GObject):=⟨_,rfl⟩
 have hxv:ObjV c s.players.length x:=by
  have:=new_val (z:=0) h1.1 hc hp (by omega) ⟨by omega,by omega⟩ true p hp (st:=s.nextStamp)
  rw [hx]
  exact this
 have x1:x.id=s.nextId:=by rw [hx];rfl
 have x2:x.stamp=s.nextStamp:=by rw [hx];rfl
 have x3:x.zone=0:=by rw [hx];rfl
 have hput:putL s.objects x=s.objects++[x]:=putL_end fun y hy=>by rw [x1];exact (h.obj y hy).2.1
 have hw:∀ n:Int,1≤n→n≤1000000→IntKind.i64.wrap (n+1)=n+1:=fun n _ _=>by rw [IntKind.wrap_i64];omega
 have hT:makeM s card p=({ s with objects:=s.objects++[x],battlefield:=s.battlefield++[s.nextId],nextId:=s.nextId+1,nextStamp:=s.nextStamp+1 },s.nextId):=by
  unfold makeM putM
  simp only [← hx,hput,hw _ h1.1 h1.2,hw _ h2.1 h2.2]
 rw [hT]
 have hval:Val q c { s with objects:=s.objects++[x],battlefield:=s.battlefield++[s.nextId],nextId:=s.nextId+1,nextStamp:=s.nextStamp+1 }:=by
  refine h.add x hn rfl rfl rfl (by omega) rfl h.ply (sc_form rfl h.sc) rfl rfl rfl ⟨objV_iff.2 hxv,x1,x2,by omega⟩ fun z' p'=>?_
  rw [x3,x1]
  by_cases hz:z'=0
  ·subst hz
   rw [if_pos ⟨rfl,.inl rfl⟩,listM_bf,listM_bf]
   exact List.perm_append_singleton _ _
  ·rw [if_neg fun hs=>hz hs.1.symm]
   have:listM { s with objects:=s.objects++[x],battlefield:=s.battlefield++[s.nextId],nextId:=s.nextId+1,nextStamp:=s.nextStamp+1 } z' p'=listM s z' p':=by
    unfold listM
    rw [if_neg (show ¬ (z'==0)=true by simpa using hz),if_neg (show ¬ (z'==0)=true by simpa using hz)]
   rw [this]
 refine ⟨⟨hval,⟨show s.nextId≤s.nextId+1 by omega,Int.le_refl _⟩,fun hh=>?_⟩,rfl,rfl⟩
 have hm:x∈s.objects++[x]:=List.mem_append_right _ List.mem_cons_self
 show (findM (s.objects++[x]) s.nextId).zone=0
 rw [← x1,findM_of hval.srt hm]
 exact x3
theorem mk_val (e:GEvent) (hc:0≤e.card∧e.card < c):∀ (n:Nat) (s:GState),Val q c s→0≤e.player∧e.player < s.players.length→s.nextId+n≤1000000∧s.nextStamp+n≤1000000→StepV q c n s (mkM s e n)
 | 0,s,h,_,_=>StepV.refl h (by omega)
 | n+1,s,h,hp,hn=>by
  unfold mkM
  split
  ·rename_i hl
   obtain ⟨hm,h2,h3⟩:=make_val h e.card e.player hc hp hl (by omega)
   have h1:=hm.nid
   obtain ⟨a1,a2,a3⟩:=arr_ids (s:=(makeM s e.card e.player).1) (makeM s e.card e.player).2 e
   have:=mk_val e hc n (arrM (makeM s e.card e.player).1 (makeM s e.card e.player).2 e) (arr_val hm.val _ _ hm.fnd) (by rw [a3,h3];exact hp) (by rw [a1,a2,h2];omega)
   exact ⟨this.val,by have:=this.nid;rw [a1] at this;omega⟩
  ·exact StepV.refl h (by omega)
theorem plyN_iff {p:GPlayer}:plyN p=true↔(-1000000≤p.life∧p.life≤1000000)∧(0≤p.venom∧p.venom≤1000000)∧(0≤p.lands∧p.lands≤1000000)∧wholeM p.pool0 p.pool1 p.pool2 p.pool3 p.pool4 p.pool5=true:=by
 unfold plyN
 rw [Bool.and_eq_true,Bool.and_eq_true,Bool.and_eq_true,inM_iff,inM_iff,inM_iff]
theorem life_val (h:Val q c s) (e:GEvent) (hp:0≤e.player∧e.player < s.players.length) (ha:e.kind≠17→1≤e.amount) (hb:∀ p∈s.players,p.library.length≤1099511627776):Val q c (lifeM s e):=by
 have hlt:e.player.toNat < s.players.length:=by omega
 have hx:s.players[e.player.toNat]? = some s.players[e.player.toNat]:=List.getElem?_eq_getElem hlt
 unfold lifeM
 rw [hx]
 simp only
 generalize hxx:s.players[e.player.toNat]=x at *
 have hm:x∈s.players:=by rw [← hxx];exact List.getElem_mem hlt
 have hN:=h.ply x hm
 have hN2:=plyN_iff.1 hN
 unfold chM
 split
 ·exact h.ply1 _ _ hx (plyN_iff.2 ⟨clamp_range _,hN2.2⟩) (.refl _) (.refl _) (.refl _)
 split
 ·exact h.ply1 _ _ hx (plyN_iff.2 ⟨clamp_range _,hN2.2⟩) (.refl _) (.refl _) (.refl _)
 split
 ·rename_i h16
  refine h.ply1 _ _ hx (plyN_iff.2 ⟨hN2.1,⟨?_,(clamp_range _).2⟩,hN2.2.2⟩) (.refl _) (.refl _) (.refl _)
  show 0≤clampM (clampM x.venom+clampM e.amount)
  have h1:=hN2.2.1
  rw [clamp_eq (n:=x.venom) (by omega) (by omega)]
  have h2:=ha (by omega)
  have h3:0≤clampM e.amount:=by
   unfold clampM
   split
   ·omega
   split <;> omega
  unfold clampM at h3 ⊢
  split
  ·omega
  split <;> omega
 split
 ·exact h.ply1 _ _ hx hN (.refl _) (shufM_perm _ _ (hb x hm)) (.refl _)
 ·exact h.ply1 _ _ hx hN (.refl _) (.refl _) (.refl _)
theorem draw_val (h:Val q c s) (p:Int) (hp:0≤p∧p < s.players.length) (hn:s.nextId+1≤1000000∧s.nextStamp+1≤1000000):StepV q c 1 s (drawM s p):=by
 have hlt:p.toNat < s.players.length:=by omega
 have hx:s.players[p.toNat]? = some s.players[p.toNat]:=List.getElem?_eq_getElem hlt
 unfold drawM
 rw [hx]
 simp only
 split
 ·unfold updP
  rw [hx]
  exact ⟨h.ply1 _ s.seed hx (show plyN s.players[p.toNat]=true from h.ply _ (List.getElem_mem hlt)) (.refl _) (.refl _) (.refl _),Int.le_refl _,show s.nextId≤s.nextId+1 by omega⟩
 ·rename_i id rest hl
  have hid:id∈listM s 2 p:=by
   obtain ⟨n,rfl⟩:∃ n:Nat,p=n:=⟨p.toNat,by omega⟩
   rw [listM_lb (by omega)]
   have:(n:Int).toNat=n:=by omega
   rw [show s.players[n]=s.players[(n:Int).toNat] from rfl,hl]
   exact List.mem_cons_self
  obtain ⟨o,ho,e1,_⟩:=h.lst 2 p id hid
  have hm:=move_val h id 1 p false (hasM_iff.2 ⟨o,ho,e1⟩) (by omega) hp hn
  exact ⟨hm.val,hm.nid⟩
theorem up_range {i k a n:Int} (h:0≤a∧a≤1000000):0≤upC i k a n∧upC i k a n≤1000000:=by
 unfold upC
 split
 ·exact cup_range _ _
 ·exact h
theorem mark_f (d:Bool) (e:GEvent) (o:GObject):(markM d e o).id=o.id∧(markM d e o).zone=o.zone∧(markM d e o).owner=o.owner∧(markM d e o).stamp=o.stamp:=by
 unfold markM
 repeat' (first|exact ⟨rfl,rfl,rfl,rfl⟩|split)
theorem mark_val {n:Int} {o:GObject} (hv:ObjV c n o) (h0:o.zone=0) (d:Bool) (e:GEvent) (ha:e.kind=1→1≤e.amount) (hp:e.kind=12→0≤e.player∧e.player < n) (hs:e.kind=13→0≤e.source∧e.source≤1000000):ObjV c n (markM d e o):=by
 obtain ⟨g1,g2,g3,g4,g5,g6,g7,g8,g9,k1,k2,k3,k4,k5,k6⟩:=hv
 unfold markM
 split
 ·rename_i hk
  refine ⟨g1,g2,g3,g4,g5,⟨?_,(clamp_range _).2⟩,g7,g8,g9,k1,k2,k3,k4,k5,.inl h0⟩
  show 0≤clampM (clampM o.damage+clampM e.amount)
  have h2:=ha hk
  rw [clamp_eq (n:=o.damage) (by omega) (by omega)]
  have h3:0≤clampM e.amount:=by
   unfold clampM
   split
   ·omega
   split <;> omega
  unfold clampM at h3 ⊢
  split
  ·omega
  split <;> omega
 split
 ·exact ⟨g1,g2,g3,g4,g5,g6,g7,g8,g9,k1,k2,k3,k4,k5,.inl h0⟩
 split
 ·exact ⟨g1,g2,g3,g4,g5,g6,g7,g8,g9,k1,k2,k3,k4,k5,.inl h0⟩
 split
 ·exact ⟨g1,g2,g3,g4,g5,g6,g7,g8,g9,up_range k1,up_range k2,up_range k3,k4,k5,.inl h0⟩
 split
 ·exact ⟨g1,g2,g3,g4,g5,g6,g7,g8,g9,up_range k1,up_range k2,up_range k3,k4,k5,.inl h0⟩
 split
 ·rename_i hk
  have:=hp hk
  exact ⟨g1,g2,g3,g4,g5,g6,g7,g8,g9,k1,k2,k3,k4,⟨show -1≤e.player by omega,this.2⟩,.inl h0⟩
 split
 ·rename_i hk
  exact ⟨g1,g2,g3,g4,g5,g6,g7,hs hk,g9,k1,k2,k3,k4,k5,.inl h0⟩
 ·exact ⟨g1,g2,g3,g4,g5,g6,g7,g8,g9,k1,k2,k3,k4,k5,k6⟩
theorem here_t {id:Int} (h:hereM s id=true):hasM s.objects id=true∧(findM s.objects id).zone=0:=by
 unfold hereM at h
 rw [Bool.and_eq_true,beq_iff_eq] at h
 exact h
theorem put_here (h:Val q c s) {o o':GObject} (ho:o∈s.objects) (e:o'.id=o.id) (ez:o'.zone=o.zone) {id:Int} (hh:hereM s id=true):hereM (putM s o') id=true:=by
 obtain ⟨h1,h2⟩:=here_t hh
 have hg:∀ y:GObject,((fun y:GObject=>if y.id=o.id then o' else y) y).id=y.id:=fun y=>by
  simp only
  split
  ·rename_i hy
   rw [e,hy]
  ·rfl
 unfold hereM
 rw [show (putM s o').objects=s.objects.map fun y=>if y.id=o.id then o' else y from putL_map h.srt ho e,has_map _ _ _ hg,h1,find_mapi _ _ _ hg h1]
 simp only [Bool.true_and,beq_iff_eq]
 split
 ·rename_i hy
  have:=uniqO h.srt (findM_mem h1).1 ho hy
  rw [ez,← this]
  exact h2
 ·exact h2
theorem objM_val (h:Val q c s) (all:List GTraits) (e:GEvent) (h0:hasM s.objects e.object=true→(findM s.objects e.object).zone=0) (ha:e.kind=1→1≤e.amount) (hp:e.kind=12→0≤e.player∧e.player < s.players.length) (hs:e.kind=13→hereM s e.source=true):Val q c (objM s all e)∧(objM s all e).nextId=s.nextId:=by
 unfold objM
 by_cases hh:hasM s.objects e.object=true
 ·rw [if_pos hh]
  have hm:=(findM_mem hh).1
  have hsrc:e.kind=13→0≤e.source∧e.source≤1000000:=fun hk=>by
   obtain ⟨g1,_⟩:=here_t (hs hk)
   obtain ⟨g2,g3⟩:=findM_mem g1
   have g4:=(obj_val h g2).id
   have g5:=(h.obj _ g2).2.1
   have:=h.nid
   omega
  have h1:=put_val h hm (mark_f (deadM s all e.source) e (findM s.objects e.object)) (mark_val (obj_val h hm) (h0 hh) _ e ha hp hsrc)
  simp only
  split
  ·rename_i hk
   have hq:=put_here h hm (mark_f (deadM s all e.source) e (findM s.objects e.object)).1 (mark_f (deadM s all e.source) e (findM s.objects e.object)).2.1 (hs hk)
   obtain ⟨s1,hs1⟩:∃ s1,s1=putM s (markM (deadM s all e.source) e (findM s.objects e.object)):=⟨_,rfl⟩
   have hn1:s1.nextId=s.nextId:=by rw [hs1];rfl
   rw [← hs1] at h1 hq ⊢
   obtain ⟨g1,g2⟩:=here_t hq
   have gm:=(findM_mem g1).1
   obtain ⟨v1,v2,v3,v4,v5,v6,v7,v8,v9,w1,w2,w3,w4,w5,_⟩:=obj_val h1 gm
   exact ⟨put_val (o':={ findM s1.objects e.source with blocked:=true }) h1 gm ⟨rfl,rfl,rfl,rfl⟩ ⟨v1,v2,v3,v4,v5,v6,v7,v8,v9,w1,w2,w3,w4,w5,.inl g2⟩,hn1⟩
  ·exact ⟨h1,rfl⟩
 ·rw [if_neg hh]
  exact ⟨h,rfl⟩
theorem livM_t {p:Int} (h:livM s p=true):0≤p∧p < s.players.length:=by
 unfold livM at h
 split at h
 ·rename_i x hx
  rw [Bool.and_eq_true,decide_eq_true_eq] at h
  have:=(List.getElem?_eq_some_iff.1 hx).1
  omega
 ·cases h
theorem tokM_t {l:List GCard} {p:Int} (h:tokM l p=true):0≤p∧p < l.length:=by
 unfold tokM at h
 split at h
 ·rename_i x hx
  rw [Bool.and_eq_true,decide_eq_true_eq] at h
  have:=(List.getElem?_eq_some_iff.1 hx).1
  omega
 ·cases h
theorem amtM_t {n:Int} (h:amtM n=true):1≤n∧n≤1000000:=by
 unfold amtM at h
 rw [Bool.and_eq_true,decide_eq_true_eq,decide_eq_true_eq] at h
 exact h
theorem do_val {cards:List GCard} (h:Val q cards.length s) (all:List GTraits) (e:GEvent) (hn:s.nextId≤100000∧s.nextStamp≤100000) (h10:e.kind=10→e.amount≤100) (hb:∀ p∈s.players,p.library.length≤1099511627776):StepV q cards.length 100 s (doR cards s all e):=by
 have up:∀ {t:GState} {k:Int},k≤100→StepV q cards.length k s t→StepV q cards.length 100 s t:=fun hk h=>⟨h.val,h.nid.1,by have:=h.nid;omega⟩
 unfold doR
 by_cases hev:evM cards s e=true
 case neg=>rw [if_neg hev];exact StepV.refl h (by decide)
 rw [if_pos hev]
 have obj:(e.kind=1∨e.kind=6∨e.kind=7∨e.kind=8∨e.kind=9∨e.kind=12∨e.kind=13)→restM s all e=objM s all e:=fun hk=>by
  unfold restM
  rw [if_neg (by omega),if_neg (by omega),if_neg (by omega),if_pos hk]
 have life:(e.kind=4∨e.kind=5∨e.kind=16∨e.kind=17)→restM s all e=lifeM s e:=fun hk=>by
  unfold restM
  rw [if_neg (by omega),if_pos hk]
 have objs:(e.kind=1∨e.kind=6∨e.kind=7∨e.kind=8∨e.kind=9∨e.kind=12∨e.kind=13)→(hasM s.objects e.object=true→(findM s.objects e.object).zone=0)→(e.kind=1→1≤e.amount)→(e.kind=12→0≤e.player∧e.player < s.players.length)→(e.kind=13→hereM s e.source=true)→StepV q cards.length 100 s (restM s all e):=fun hk g1 g2 g3 g4=>by
  rw [obj hk]
  obtain ⟨a1,a2⟩:=objM_val h all e g1 g2 g3 g4
  exact ⟨a1,by omega⟩
 have lifes:(e.kind=4∨e.kind=5∨e.kind=16∨e.kind=17)→0≤e.player∧e.player < s.players.length→(e.kind≠17→1≤e.amount)→StepV q cards.length 100 s (restM s all e):=fun hk g1 g2=>by
  rw [life hk]
  refine ⟨life_val h e g1 g2 hb,?_⟩
  have:(lifeM s e).nextId=s.nextId:=by unfold lifeM;split <;> rfl
  omega
 unfold evM at hev
 by_cases k1:e.kind=1
 ·rw [if_neg (by omega)]
  rw [if_pos k1,Bool.and_eq_true,Bool.or_eq_true,Bool.and_eq_true,beq_iff_eq] at hev
  refine objs (by omega) (fun hh=>?_) (fun _=>(amtM_t hev.1).1) (by omega) (by omega)
  rcases hev.2 with h1|h1
  ·exact (here_t h1).2
  ·rw [h1.1,zero_no h] at hh
   cases hh
 rw [if_neg k1] at hev
 by_cases k2:e.kind=2
 ·rw [if_pos k2]
  rw [if_pos k2] at hev
  simp only [Bool.and_eq_true,beq_iff_eq,decide_eq_true_eq] at hev
  obtain ⟨a1,_,_,a2,a3,a4,a5⟩:=hev
  exact up (by decide) (mv_val h e a1 ⟨a2,a3⟩ ⟨a4,a5⟩ (by omega))
 rw [if_neg k2]
 rw [if_neg k2] at hev
 by_cases k3:e.kind=3∨e.kind=14∨e.kind=15∨e.kind=17
 ·rw [if_pos k3] at hev
  have hp:=livM_t hev
  by_cases k17:e.kind=17
  ·exact lifes (by omega) hp (by omega)
  by_cases k33:e.kind=3
  ·have:restM s all e=drawM s e.player:=by unfold restM;rw [if_pos k33]
   rw [this]
   exact up (by decide) (draw_val h e.player hp (by omega))
  ·have:restM s all e=s:=by
    unfold restM
    rw [if_neg (by omega),if_neg (by omega),if_neg (by omega),if_neg (by omega)]
   rw [this]
   exact StepV.refl h (by decide)
 rw [if_neg k3] at hev
 by_cases k4:e.kind=4∨e.kind=5∨e.kind=16
 ·rw [if_pos k4,Bool.and_eq_true] at hev
  exact lifes (by omega) (livM_t hev.1) fun _=>(amtM_t hev.2).1
 rw [if_neg k4] at hev
 by_cases k6:e.kind=6
 ·rw [if_pos k6,Bool.and_eq_true] at hev
  exact objs (by omega) (fun _=>(here_t hev.1).2) (by omega) (by omega) (by omega)
 rw [if_neg k6] at hev
 by_cases k7:e.kind=7
 ·rw [if_pos k7,Bool.and_eq_true] at hev
  exact objs (by omega) (fun _=>(here_t hev.1).2) (by omega) (by omega) (by omega)
 rw [if_neg k7] at hev
 by_cases k8:e.kind=8∨e.kind=9
 ·rw [if_pos k8,Bool.and_eq_true] at hev
  exact objs (by omega) (fun _=>(here_t hev.1).2) (by omega) (by omega) (by omega)
 rw [if_neg k8] at hev
 by_cases k10:e.kind=10
 ·rw [if_pos k10,Bool.and_eq_true,Bool.and_eq_true] at hev
  have:restM s all e=mkM s e e.amount.toNat:=by
   unfold restM
   rw [if_neg (by omega),if_neg (by omega),if_pos k10]
  rw [this]
  have:=h10 k10
  have h3:=(amtM_t hev.2.2).1
  refine up (by omega) (mk_val e (tokM_t hev.2.1) e.amount.toNat s h (livM_t hev.1) (by omega))
 rw [if_neg k10] at hev
 by_cases k11:e.kind=11
 ·have:restM s all e=s:=by
   unfold restM
   rw [if_neg (by omega),if_neg (by omega),if_neg (by omega),if_neg (by omega)]
  rw [this]
  exact StepV.refl h (by decide)
 rw [if_neg k11] at hev
 by_cases k12:e.kind=12
 ·rw [if_pos k12,Bool.and_eq_true] at hev
  exact objs (by omega) (fun _=>(here_t hev.1).2) (by omega) (fun _=>livM_t hev.2) (by omega)
 rw [if_neg k12] at hev
 by_cases k13:e.kind=13
 ·rw [if_pos k13,Bool.and_eq_true] at hev
  exact objs (by omega) (fun _=>(here_t hev.1).2) (by omega) (by omega) (fun _=>hev.2)
 rw [if_neg k13] at hev
 cases hev
end
end Go.Proofs.YtmloamomcbmfhaaGreat
end
