/- Parts of the proof: VR1 VR2 VR3 VT0 VT1 VT2 VT3. -/
import Derived.Test.YtejkllmoofdpjaaGreatD31
namespace Go.Proofs.YtejkllmoofdpjaaGreat
open Go
set_option linter.all false
set_option maxRecDepth 100000
set_option maxHeartbeats 4000000
noncomputable section
open Classical
abbrev vKr (l:List VkR):AV:=.one (.s 2 (l.map encK))
abbrev vMr (l:List MkR):AV:=.one (.s 2 (l.map encM))
def CK (l:List VkR) (j:Nat):Prop:=∀ x,l[j]?=some x→(0≤x.1∧x.1≤100000)∧(x.2=2∨x.2=3)∧∀ y,0 < j→l[j - 1]?=some y→y.1 < x.1
def KOkR (l:List VkR):Prop:=∀ j,j < l.length→CK l j
end
noncomputable section
open Classical
def lessR (a b:MkR):Prop:=a.1 < b.1∨a.1=b.1∧Op.bytesLess a.2.toList b.2.toList=true
def CM (l:List MkR) (j:Nat):Prop:=∀ x,l[j]?=some x→(0≤x.1∧x.1≤100000)∧NameP x.2∧∀ y,0 < j→l[j - 1]?=some y→lessR y x
def MOkR (l:List MkR):Prop:=∀ j,j < l.length→CM l j
end
noncomputable section
open Classical
theorem pw_of_adj {α:Type} {r:α→α→Prop} (ht:∀ a b c,r a b→r b c→r a c):∀ {l:List α},(∀ j x y,l[j+1]?=some x→l[j]?=some y→r y x)→l.Pairwise r
 | [],_=>.nil
 | [a],_=>by simp
 | a::b::l,h=>by
  have ih:=pw_of_adj ht (l:=b::l) fun j x y hx hy=>h (j+1) x y hx hy
  refine List.pairwise_cons.2 ⟨fun c hc=>?_,ih⟩
  rcases List.mem_cons.1 hc with rfl|hc
  ·exact h 0 _ _ rfl rfl
  ·exact ht _ _ _ (h 0 b a rfl rfl) ((List.pairwise_cons.1 ih).1 c hc)
theorem kOkR_iff {l:List VkR}:KOkR l↔∃ k:Ks,l=k.map toK∧KOk k:=by
 constructor
 ·intro h
  have hm:∀ x∈l,(0≤x.1∧x.1≤100000)∧(x.2=2∨x.2=3):=fun x hx=>by
   obtain ⟨j,hj⟩:=List.getElem?_of_mem hx
   have:=h j (List.getElem?_eq_some_iff.1 hj).1 x hj
   exact ⟨this.1,this.2.1⟩
  have e:l=(l.map fun x=>(x.1.toNat,x.2)).map toK:=by
   rw [List.map_map]
   conv=>lhs;rw [← List.map_id l]
   refine List.map_congr_left fun x hx=>?_
   have:=(hm x hx).1.1
   obtain ⟨v,k⟩:=x
   show (v,k)=((v.toNat:Int),k)
   rw [Int.toNat_of_nonneg this]
  refine ⟨_,e,?_,fun b hb=>?_⟩
  ·rw [List.pairwise_map]
   have hp:l.Pairwise fun a b=>a.1 < b.1:=pw_of_adj (r:=fun a b:VkR=>a.1 < b.1) (fun a b c h1 h2=>Int.lt_trans h1 h2) fun j x y hx hy=>(h (j+1) (List.getElem?_eq_some_iff.1 hx).1 x hx).2.2 y (Nat.succ_pos _) hy
   refine hp.imp_of_mem fun {a b} ha hb hab=>?_
   have h1:=(hm a ha).1.1
   have h2:=(hm b hb).1.1
   simp only
   omega
  ·obtain ⟨x,hx,rfl⟩:=List.mem_map.1 hb
   have:=hm x hx
   exact ⟨by simp only;omega,this.2⟩
 ·rintro ⟨k,rfl,hk⟩ j hj x hx
  rw [List.getElem?_map] at hx
  obtain ⟨y,hy,rfl⟩:=Option.map_eq_some_iff.1 hx
  have h1:=hk.ok y (List.mem_of_getElem? hy)
  refine ⟨⟨by simp only [toK];omega,by simp only [toK];omega⟩,h1.2,fun z h0 hz=>?_⟩
  rw [List.getElem?_map] at hz
  obtain ⟨w,hw,rfl⟩:=Option.map_eq_some_iff.1 hz
  have:=asc_get hk.asc hw hy (by omega)
  simp only [toK]
  omega
theorem lessR_toM {a b:Nat × ByteArray}:lessR (toM a) (toM b)↔cMk a b=-1:=by
 rw [cMk_less]
 have e:∀ x y:Nat,((x:Int) < y↔x < y)∧((x:Int)=y↔x=y):=fun x y=>⟨by omega,by omega⟩
 show ((a.1:Int) < b.1∨(a.1:Int)=b.1∧_)↔_
 rw [(e a.1 b.1).1,(e a.1 b.1).2]
theorem mOkR_iff {l:List MkR}:MOkR l↔∃ k:Ms,l=k.map toM∧MOk k:=by
 constructor
 ·intro h
  have hm:∀ x∈l,(0≤x.1∧x.1≤100000)∧NameP x.2:=fun x hx=>by
   obtain ⟨j,hj⟩:=List.getElem?_of_mem hx
   have:=h j (List.getElem?_eq_some_iff.1 hj).1 x hj
   exact ⟨this.1,this.2.1⟩
  have e:l=(l.map fun x=>(x.1.toNat,x.2)).map toM:=by
   rw [List.map_map]
   conv=>lhs;rw [← List.map_id l]
   refine List.map_congr_left fun x hx=>?_
   have:=(hm x hx).1.1
   obtain ⟨v,k⟩:=x
   show (v,k)=((v.toNat:Int),k)
   rw [Int.toNat_of_nonneg this]
  generalize (l.map fun x=>(x.1.toNat,x.2))=k at e
  subst e
  refine ⟨k,rfl,?_,fun b hb=>?_⟩
  ·refine pw_of_adj (r:=fun a b=>cMk a b=-1) (fun a b c h1 h2=>cMk_tot.trans _ _ _ h1 h2) fun j x y hx hy=>(lessR_toM (a:=y) (b:=x)).1 ((h (j+1) (by have:=(List.getElem?_eq_some_iff.1 hx).1;simpa using this) (toM x) (by rw [List.getElem?_map,hx];rfl)).2.2 (toM y) (Nat.succ_pos _) (by simp [hy]))
  ·have:=hm (toM b) (List.mem_map_of_mem hb)
   exact ⟨by have:=this.1.2;simp only [toM] at this;omega,this.2⟩
 ·rintro ⟨k,rfl,hk⟩ j hj x hx
  rw [List.getElem?_map] at hx
  obtain ⟨y,hy,rfl⟩:=Option.map_eq_some_iff.1 hx
  have h1:=hk.ok y (List.mem_of_getElem? hy)
  refine ⟨⟨by simp only [toM];omega,by simp only [toM];omega⟩,h1.2,fun z h0 hz=>?_⟩
  rw [List.getElem?_map] at hz
  obtain ⟨w,hw,rfl⟩:=Option.map_eq_some_iff.1 hz
  exact lessR_toM.2 (asc_get hk.asc hw hy (by omega))
end
noncomputable section
open Classical
abbrev vB (b:BdR):AV:=.agg (encB b)
abbrev vBs (l:List BdR):AV:=.one (.s 5 (l.map encB))
abbrev vBss (l:List (List BdR)):AV:=.one (.s 1 (l.map (encL 5 encB)))
abbrev vKkr (k:VkR):AV:=.agg (encK k)
abbrev vMkr (k:MkR):AV:=.agg (encM k)
abbrev vIs (l:List Int):AV:=.one (.s 1 (l.map encI))
abbrev vStr (s:StR):AV:=.agg (encSt s)
abbrev vBr (s:BrR):AV:=.agg (encBr s)
def szOf {α:Type} (f:α→Nat):List α→Nat
 | []=>0
 | a::l=>f a+szOf f l
def szB (b:BdR):Nat:=b.2.sz
def szM (b:MkR):Nat:=b.2.size
def bdsz (l:List BdR):Nat:=l.length+szOf szB l
def bdssz (l:List (List BdR)):Nat:=l.length+szOf bdsz l
def mksz (l:List MkR):Nat:=l.length+szOf szM l
def bdIn0 (b:BdR):Prop:=I64 b.1∧b.2.In0
def bdsIn0 (l:List BdR):Prop:=Len l.length∧∀ b∈l,bdIn0 b
def bdssIn0 (l:List (List BdR)):Prop:=Len l.length∧∀ b∈l,bdsIn0 b
def vksIn0 (l:List VkR):Prop:=Len l.length∧∀ b∈l,I64 b.1∧I64 b.2
def mkIn0 (b:MkR):Prop:=I64 b.1∧Len b.2.size
def mksIn0 (l:List MkR):Prop:=Len l.length∧∀ b∈l,mkIn0 b
def isIn0 (l:List Int):Prop:=Len l.length∧∀ b∈l,I64 b
structure StR.In0 (s:StR):Prop where
 nx:I64 s.next
 bind:bdsIn0 s.bind
 dis:bdssIn0 s.dis
 kinds:vksIn0 s.kinds
 marks:mksIn0 s.marks
structure BrR.In0 (s:BrR):Prop where
 st:s.st.In0
 ch:isIn0 s.ch
def StR.sz (s:StR):Nat:=bdsz s.bind+bdssz s.dis+s.kinds.length+mksz s.marks
def BrR.sz (s:BrR):Nat:=s.st.sz+s.ch.length
def bdIn (b:BdR):Prop:=I64 b.1∧b.2.In
def bdsIn (l:List BdR):Prop:=l.length≤1048576∧∀ b∈l,bdIn b
def bdssIn (l:List (List BdR)):Prop:=l.length≤1048576∧∀ b∈l,bdsIn b
def vkIn (b:VkR):Prop:=I64 b.1∧I64 b.2
def vksIn (l:List VkR):Prop:=l.length≤1048576∧∀ b∈l,vkIn b
def mkIn (b:MkR):Prop:=I64 b.1∧Lng b.2.size
def mksIn (l:List MkR):Prop:=l.length≤1048576∧∀ b∈l,mkIn b
def isIn (l:List Int):Prop:=l.length≤1048576∧∀ b∈l,I64 b
structure StR.In (s:StR):Prop where
 nx:I64 s.next
 bind:bdsIn s.bind
 dis:bdssIn s.dis
 kinds:vksIn s.kinds
 marks:mksIn s.marks
structure BrR.In (s:BrR):Prop where
 st:s.st.In
 ch:isIn s.ch
end
noncomputable section
open Classical
instance eqBinding_c:Con2 Tryz.prog 134 BdR BdR vB vB (fun a b=>bp (a=b)) (fun a b=>bdIn a∧bdIn b):=⟨fun a b ⟨ha,hb⟩=>by
 have i1:=ha.1
 have j1:=hb.1
 have p1:a.2.In∧b.2.In:=⟨ha.2,hb.2⟩
 rw [show (a=b)=(a.1=b.1∧a.2=b.2) from propext (by cases a;cases b;simp only [Prod.mk.injEq])]
 refine pu Tryz.func134 rfl Tryz.ntmps134 rfl rfl fun C=>?_
 (repeat' first|(refine kk ?_;intros)|refine kfk ?_ ?_<;>intro hb|fail)
 all_goals first
  | (refine kret (bpF ?_);rintro ⟨q0,q1⟩;first|exact hb q0|exact hb q1)
  | (refine kret (bpT ?_);refine ⟨?_,?_⟩<;>assumption)⟩
instance eqBindingS_c:Con2 Tryz.prog 74 (List BdR) (List BdR) vBs vBs (fun a b=>bp (a=b)) (fun a b=>bdsIn a∧bdsIn b):=⟨fun a b ⟨ha,hb⟩=>by
 have l1:=ha.1
 have l2:=hb.1
 have h1:(a.map encB).length=a.length:=List.length_map _
 have h2:(b.map encB).length=b.length:=List.length_map _
 refine pu Tryz.func74 rfl Tryz.ntmps74 rfl rfl fun C=>?_
 by_cases hlen:a.length=b.length
 case neg=>
  (repeat' first|(refine kk ?_;intros)|refine kfk ?_ ?_<;>intro hb|fail)
  exact kret (bpF fun h=>hlen (congrArg List.length h))
 (repeat' first|(refine kk ?_;intros)|refine kfk ?_ ?_<;>intro hb|fail)
 refine kloop (ι:=Nat) (fun q=>a.length - q) (fun q=>[(0,.one (.s 5 (a.map encB))),(1,.one (.s 5 (b.map encB))),(5,nv q)]) (fun _=>[]) (fun q=>q≤a.length∧a.take q=b.take q) 0 ⟨Nat.zero_le _,by simp⟩ ?_
 rintro j ⟨hj0,he⟩
 by_cases hj:j < a.length
 ·obtain ⟨x,hx⟩:∃ y,a[j]?=some y:=⟨a[j],List.getElem?_eq_getElem hj⟩
  obtain ⟨y,hy⟩:∃ y,b[j]?=some y:=⟨b[j]'(by omega),List.getElem?_eq_getElem (by omega)⟩
  have hmx:=List.mem_of_getElem? hx
  have hmy:=List.mem_of_getElem? hy
  have hra:(a.map encB)[j]?=some (encB x):=by simp [hx]
  have hrb:(b.map encB)[j]?=some (encB y):=by simp [hy]
  have p1:bdIn x∧bdIn y:=⟨ha.2 x hmx,hb.2 y hmy⟩
  by_cases hxy:x=y
  ·(repeat' first|(refine kk ?_;intros)|refine kfk ?_ ?_<;>intro hb|fail)
   all_goals first
    | exact (by assumption:¬ (x=y)).elim hxy
    | exact ⟨j+1,by omega,⟨by omega,by rw [List.take_add_one,List.take_add_one,hx,hy,he,hxy]⟩,kwk⟩
  ·(repeat' first|(refine kk ?_;intros)|refine kfk ?_ ?_<;>intro hb|fail)
   all_goals first
    | exact (hxy (by assumption)).elim
    | exact kret (bpF fun h=>hxy (by subst h;rw [hx] at hy;exact Option.some.inj hy))
 ·obtain rfl:j=a.length:=by omega
  rw [List.take_length,hlen,List.take_length] at he
  (repeat' first|(refine kk ?_;intros)|refine kfk ?_ ?_<;>intro hb|fail)
  exact kret (bpT he)⟩
instance eqBindingSS_c:Con2 Tryz.prog 75 (List (List BdR)) (List (List BdR)) vBss vBss (fun a b=>bp (a=b)) (fun a b=>bdssIn a∧bdssIn b):=⟨fun a b ⟨ha,hb⟩=>by
 have l1:=ha.1
 have l2:=hb.1
 have h1:(a.map (encL 5 encB)).length=a.length:=List.length_map _
 have h2:(b.map (encL 5 encB)).length=b.length:=List.length_map _
 refine pu Tryz.func75 rfl Tryz.ntmps75 rfl rfl fun C=>?_
 by_cases hlen:a.length=b.length
 case neg=>
  (repeat' first|(refine kk ?_;intros)|refine kfk ?_ ?_<;>intro hb|fail)
  exact kret (bpF fun h=>hlen (congrArg List.length h))
 (repeat' first|(refine kk ?_;intros)|refine kfk ?_ ?_<;>intro hb|fail)
 refine kloop (ι:=Nat) (fun q=>a.length - q) (fun q=>[(0,.one (.s 1 (a.map (encL 5 encB)))),(1,.one (.s 1 (b.map (encL 5 encB)))),(5,nv q)]) (fun _=>[]) (fun q=>q≤a.length∧a.take q=b.take q) 0 ⟨Nat.zero_le _,by simp⟩ ?_
 rintro j ⟨hj0,he⟩
 by_cases hj:j < a.length
 ·obtain ⟨x,hx⟩:∃ y,a[j]?=some y:=⟨a[j],List.getElem?_eq_getElem hj⟩
  obtain ⟨y,hy⟩:∃ y,b[j]?=some y:=⟨b[j]'(by omega),List.getElem?_eq_getElem (by omega)⟩
  have hmx:=List.mem_of_getElem? hx
  have hmy:=List.mem_of_getElem? hy
  have hra:(a.map (encL 5 encB))[j]?=some ((encL 5 encB) x):=by simp [hx]
  have hrb:(b.map (encL 5 encB))[j]?=some ((encL 5 encB) y):=by simp [hy]
  have p1:bdsIn x∧bdsIn y:=⟨ha.2 x hmx,hb.2 y hmy⟩
  by_cases hxy:x=y
  ·(repeat' first|(refine kk ?_;intros)|refine kfk ?_ ?_<;>intro hb|fail)
   all_goals first
    | exact (by assumption:¬ (x=y)).elim hxy
    | exact ⟨j+1,by omega,⟨by omega,by rw [List.take_add_one,List.take_add_one,hx,hy,he,hxy]⟩,kwk⟩
  ·(repeat' first|(refine kk ?_;intros)|refine kfk ?_ ?_<;>intro hb|fail)
   all_goals first
    | exact (hxy (by assumption)).elim
    | exact kret (bpF fun h=>hxy (by subst h;rw [hx] at hy;exact Option.some.inj hy))
 ·obtain rfl:j=a.length:=by omega
  rw [List.take_length,hlen,List.take_length] at he
  (repeat' first|(refine kk ?_;intros)|refine kfk ?_ ?_<;>intro hb|fail)
  exact kret (bpT he)⟩
instance eqVarKind_c:Con2 Tryz.prog 135 VkR VkR vKkr vKkr (fun a b=>bp (a=b)) (fun a b=>vkIn a∧vkIn b):=⟨fun a b ⟨ha,hb⟩=>by
 have i1:=ha.1
 have i2:=ha.2
 have j1:=hb.1
 have j2:=hb.2
 rw [show (a=b)=(a.1=b.1∧a.2=b.2) from propext (by cases a;cases b;simp only [Prod.mk.injEq])]
 refine pu Tryz.func135 rfl Tryz.ntmps135 rfl rfl fun C=>?_
 (repeat' first|(refine kk ?_;intros)|refine kfk ?_ ?_<;>intro hb|fail)
 all_goals first
  | (refine kret (bpF ?_);rintro ⟨q0,q1⟩;first|exact hb q0|exact hb q1)
  | (refine kret (bpT ?_);refine ⟨?_,?_⟩<;>assumption)⟩
instance eqVarKindS_c:Con2 Tryz.prog 76 (List VkR) (List VkR) vKr vKr (fun a b=>bp (a=b)) (fun a b=>vksIn a∧vksIn b):=⟨fun a b ⟨ha,hb⟩=>by
 have l1:=ha.1
 have l2:=hb.1
 have h1:(a.map encK).length=a.length:=List.length_map _
 have h2:(b.map encK).length=b.length:=List.length_map _
 refine pu Tryz.func76 rfl Tryz.ntmps76 rfl rfl fun C=>?_
 by_cases hlen:a.length=b.length
 case neg=>
  (repeat' first|(refine kk ?_;intros)|refine kfk ?_ ?_<;>intro hb|fail)
  exact kret (bpF fun h=>hlen (congrArg List.length h))
 (repeat' first|(refine kk ?_;intros)|refine kfk ?_ ?_<;>intro hb|fail)
 refine kloop (ι:=Nat) (fun q=>a.length - q) (fun q=>[(0,.one (.s 2 (a.map encK))),(1,.one (.s 2 (b.map encK))),(5,nv q)]) (fun _=>[]) (fun q=>q≤a.length∧a.take q=b.take q) 0 ⟨Nat.zero_le _,by simp⟩ ?_
 rintro j ⟨hj0,he⟩
 by_cases hj:j < a.length
 ·obtain ⟨x,hx⟩:∃ y,a[j]?=some y:=⟨a[j],List.getElem?_eq_getElem hj⟩
  obtain ⟨y,hy⟩:∃ y,b[j]?=some y:=⟨b[j]'(by omega),List.getElem?_eq_getElem (by omega)⟩
  have hmx:=List.mem_of_getElem? hx
  have hmy:=List.mem_of_getElem? hy
  have hra:(a.map encK)[j]?=some (encK x):=by simp [hx]
  have hrb:(b.map encK)[j]?=some (encK y):=by simp [hy]
  have p1:vkIn x∧vkIn y:=⟨ha.2 x hmx,hb.2 y hmy⟩
  by_cases hxy:x=y
  ·(repeat' first|(refine kk ?_;intros)|refine kfk ?_ ?_<;>intro hb|fail)
   all_goals first
    | exact (by assumption:¬ (x=y)).elim hxy
    | exact ⟨j+1,by omega,⟨by omega,by rw [List.take_add_one,List.take_add_one,hx,hy,he,hxy]⟩,kwk⟩
  ·(repeat' first|(refine kk ?_;intros)|refine kfk ?_ ?_<;>intro hb|fail)
   all_goals first
    | exact (hxy (by assumption)).elim
    | exact kret (bpF fun h=>hxy (by subst h;rw [hx] at hy;exact Option.some.inj hy))
 ·obtain rfl:j=a.length:=by omega
  rw [List.take_length,hlen,List.take_length] at he
  (repeat' first|(refine kk ?_;intros)|refine kfk ?_ ?_<;>intro hb|fail)
  exact kret (bpT he)⟩
instance eqMark_c:Con2 Tryz.prog 136 MkR MkR vMkr vMkr (fun a b=>bp (a=b)) (fun a b=>mkIn a∧mkIn b):=⟨fun a b ⟨ha,hb⟩=>by
 have i1:=ha.1
 have i2:=ha.2
 have j1:=hb.1
 have j2:=hb.2
 rw [show (a=b)=(a.1=b.1∧a.2=b.2) from propext (by cases a;cases b;simp only [Prod.mk.injEq])]
 refine pu Tryz.func136 rfl Tryz.ntmps136 rfl rfl fun C=>?_
 (repeat' first|(refine kk ?_;intros)|refine kfk ?_ ?_<;>intro hb|fail)
 all_goals first
  | (refine kret (bpF ?_);rintro ⟨q0,q1⟩;first|exact hb q0|exact hb q1)
  | (refine kret (bpT ?_);refine ⟨?_,?_⟩<;>assumption)⟩
instance eqIntS_c:Con2 Tryz.prog 29 (List Int) (List Int) vIs vIs (fun a b=>bp (a=b)) (fun a b=>isIn a∧isIn b):=⟨fun a b ⟨ha,hb⟩=>by
 have l1:=ha.1
 have l2:=hb.1
 have h1:(a.map encI).length=a.length:=List.length_map _
 have h2:(b.map encI).length=b.length:=List.length_map _
 refine pu Tryz.func29 rfl Tryz.ntmps29 rfl rfl fun C=>?_
 by_cases hlen:a.length=b.length
 case neg=>
  (repeat' first|(refine kk ?_;intros)|refine kfk ?_ ?_<;>intro hb|fail)
  exact kret (bpF fun h=>hlen (congrArg List.length h))
 (repeat' first|(refine kk ?_;intros)|refine kfk ?_ ?_<;>intro hb|fail)
 refine kloop (ι:=Nat) (fun q=>a.length - q) (fun q=>[(0,.one (.s 1 (a.map encI))),(1,.one (.s 1 (b.map encI))),(5,nv q)]) (fun _=>[]) (fun q=>q≤a.length∧a.take q=b.take q) 0 ⟨Nat.zero_le _,by simp⟩ ?_
 rintro j ⟨hj0,he⟩
 by_cases hj:j < a.length
 ·obtain ⟨x,hx⟩:∃ y,a[j]?=some y:=⟨a[j],List.getElem?_eq_getElem hj⟩
  obtain ⟨y,hy⟩:∃ y,b[j]?=some y:=⟨b[j]'(by omega),List.getElem?_eq_getElem (by omega)⟩
  have hmx:=List.mem_of_getElem? hx
  have hmy:=List.mem_of_getElem? hy
  have hra:(a.map encI)[j]?=some (encI x):=by simp [hx]
  have hrb:(b.map encI)[j]?=some (encI y):=by simp [hy]
  have p1:=ha.2 x hmx
  have p2:=hb.2 y hmy
  by_cases hxy:x=y
  ·(repeat' first|(refine kk ?_;intros)|refine kfk ?_ ?_<;>intro hb|fail)
   all_goals first
    | exact (by assumption:¬ (x=y)).elim hxy
    | exact ⟨j+1,by omega,⟨by omega,by rw [List.take_add_one,List.take_add_one,hx,hy,he,hxy]⟩,kwk⟩
  ·(repeat' first|(refine kk ?_;intros)|refine kfk ?_ ?_<;>intro hb|fail)
   all_goals first
    | exact (hxy (by assumption)).elim
    | exact kret (bpF fun h=>hxy (by subst h;rw [hx] at hy;exact Option.some.inj hy))
 ·obtain rfl:j=a.length:=by omega
  rw [List.take_length,hlen,List.take_length] at he
  (repeat' first|(refine kk ?_;intros)|refine kfk ?_ ?_<;>intro hb|fail)
  exact kret (bpT he)⟩
end
end Go.Proofs.YtejkllmoofdpjaaGreat
