/- Parts of the proof: V01 V02 V03 V04 VU1. -/
import Derived.Test.YtejkllmoofdpjaaGreatD5
namespace Go.Proofs.YtejkllmoofdpjaaGreat
open Go
set_option linter.all false
set_option maxRecDepth 100000
set_option maxHeartbeats 4000000
section
abbrev I64 (n:Int):Prop:=-9223372036854775808≤n∧n≤9223372036854775807
abbrev Lng (n:Nat):Prop:=n≤4611686018427387904
mutual
/-- what a machine can hold -/
def Tm.In:Tm→Prop
 | .mk k n s l=>I64 k∧I64 n∧Lng s.size∧Lng l.length∧InL l
def InL:List Tm→Prop
 | []=>True
 | t::l=>t.In∧InL l
end
theorem InL.get:∀ {l:List Tm} {j:Nat} {x:Tm},InL l→l[j]?=some x→x.In
 | [],_,_,_,h=>by simp at h
 | _::_,0,_,⟨h1,_⟩,h=>by simp at h;exact h▸h1
 | _::_,j+1,_,⟨_,h2⟩,h=>h2.get (by simpa using h)
theorem Tm.sub_lt {k n:Int} {s:ByteArray} {l:List Tm} {j:Nat} {x:Tm} (h:l[j]?=some x):SizeOf.sizeOf x < SizeOf.sizeOf (Tm.mk k n s l):=by
 have:=List.sizeOf_lt_of_mem (List.mem_of_getElem? h)
 simp;omega
theorem Tm.arg_lt {t:Tm} {j:Nat} {x:Tm} (h:t.args[j]?=some x):SizeOf.sizeOf x < SizeOf.sizeOf t:=by cases t;exact Tm.sub_lt h
theorem Tm.in_iff {t:Tm}:t.In↔I64 t.kind∧I64 t.int∧Lng t.name.size∧Lng t.args.length∧InL t.args:=by cases t;exact Iff.rfl
theorem Tm.arg_in {t:Tm} {j:Nat} {x:Tm} (h:t.In) (hj:t.args[j]?=some x):x.In:=(Tm.in_iff.1 h).2.2.2.2.get hj
theorem two_args {t:Tm} (h:t.args.length=2):∃ a b,t.args=[a,b]∧t.args[0]?=some a∧t.args[1]?=some b:=by
 match e:t.args,h with
 | [a,b],_=>exact ⟨a,b,rfl,rfl,rfl⟩
mutual
/-- l02Count -/
def Tm.cnt (m:Int):Tm→Int
 | .mk _ _ _ l=>cntL m l 1
def cntL (m:Int):List Tm→Int→Int
 | [],n=>n
 | t::l,n=>if n > m then n else cntL m l (n+t.cnt (m - n))
end
mutual
theorem cnt_le:∀ (t:Tm) (m:Int),0≤m→1≤t.cnt m∧t.cnt m≤m+1
 | .mk _ _ _ l,m,h=>by unfold Tm.cnt;exact cntL_le l m 1 (by omega) (by omega)
theorem cntL_le:∀ (l:List Tm) (m n:Int),1≤n→n≤m+1→1≤cntL m l n∧cntL m l n≤m+1
 | [],m,n,h,h'=>by unfold cntL;exact ⟨h,h'⟩
 | t::l,m,n,h,h'=>by
  unfold cntL
  split
  ·exact ⟨h,h'⟩
  ·have:=cnt_le t (m - n) (by omega)
   exact cntL_le l m _ (by omega) (by omega)
end
set_option maxRecDepth 100000 in
instance cnt_c:Con2 Tryz.prog 322 Tm Int tv iv (fun t m=>iv (t.cnt m)) (fun t m=>t.In∧0≤m∧m≤1048576):=.ind (fun t _=>SizeOf.sizeOf t) fun N ih ⟨k,n0,s,l⟩ m hN ⟨⟨_,_,_,hl,hin⟩,hm,hm'⟩=>by
 refine pu Tryz.func322 rfl Tryz.ntmps322 rfl rfl fun C=>?_
 (repeat' first|(refine kk ?_;intros)|refine kfk ?_ ?_<;>intro hb|fail)
 refine kfor (ι:=Int) l (fun j n=>[(1,iv m),(5,iv n),(9,tsv l)]) (fun _ _=>[]) (fun j n=>cntL m (l.drop j) n=cntL m l 1∧1≤n∧n≤m+1) 1 ⟨rfl,by omega,by omega⟩ ?_ ?_
 ·intro j x n hj hd hl ⟨h1,h2,h3⟩
  have hx:=hin.get hj
  have hs:=Tm.sub_lt (k:=k) (n:=n0) (s:=s) hj
  have hc:=cnt_le x (m - n)
  rw [hd,cntL] at h1
  (repeat' first|(refine kk ?_;intros)|refine kfk ?_ ?_<;>intro hb|fail)
  ·refine kret ?_;rw [if_pos hb] at h1;rw [h1,Tm.cnt]
  ·exact ⟨_,⟨by rw [if_neg hb] at h1;exact h1,by omega,by omega⟩,kwk⟩
 ·intro n ⟨h1,h2,h3⟩
  (repeat' first|(refine kk ?_;intros)|refine kfk ?_ ?_<;>intro hb|fail)
  refine kret ?_;rw [List.drop_length,cntL] at h1;rw [h1,Tm.cnt]
end
noncomputable section
instance l01In_c:Con3 Tryz.prog 91 Int Int Int iv iv iv (fun n lo hi=>bp (lo≤n∧n≤hi)) (fun _ _ _=>True):=⟨fun n lo hi _=>by
 refine pu Tryz.func91 rfl Tryz.ntmps91 rfl rfl fun C=>?_
 (repeat' first|(refine kk ?_;intros)|refine kfk ?_ ?_<;>intro hb|fail)
 all_goals refine kret ?_
 all_goals simp [*]⟩
def ChP (j:Nat) (c:UInt8):Prop:=(97≤c.toNat∧c.toNat≤122)∨(j≠0∧((48≤c.toNat∧c.toNat≤57)∨c.toNat=45))
def NameP (s:ByteArray):Prop:=1≤s.size∧s.size≤12∧∀ (j:Nat) (c:UInt8),s[j]?=some c→ChP j c
theorem byte_at {s:ByteArray} {j:Nat} (h:j < s.size):∃ c,s[j]?=some c:=⟨s[j],by simp [h]⟩
theorem byte_lt {s:ByteArray} {j:Nat} {c:UInt8} (h:s[j]?=some c):j < s.size:=Decidable.byContradiction fun hn=>by simp [hn] at h
theorem ch_next {s:ByteArray} {j:Nat} {c:UInt8} (hc:s[j]?=some c) (h:∀ i c,i < j→s[i]?=some c→ChP i c) (hn:ChP j c) (i:Nat) (c':UInt8) (hi:i < j+1) (hc':s[i]?=some c'):ChP i c':=by
 rcases Nat.lt_or_ge i j with hij|hij
 ·exact h i c' hij hc'
 ·obtain rfl:i=j:=by omega
  rw [hc] at hc';cases hc';exact hn
set_option maxRecDepth 100000 in
instance isName_i:Con1 Tryz.prog 167 ByteArray sv (fun s=>bp (NameP s)) (fun s=>Lng s.size):=⟨fun s hs=>by
 refine pu Tryz.func167 rfl Tryz.ntmps167 rfl rfl fun C=>?_
 by_cases h0:0 < s.size
 ·obtain ⟨c0,hc0⟩:=byte_at h0
  (repeat' first|(refine kk ?_;intros)|refine kfk ?_ ?_<;>intro hb|fail)
  iterate 3 (refine kret (bpF fun ⟨g1,g2,g3⟩=>?_);have:=g3 0 c0 hc0;unfold ChP at this;omega)
  refine kloop (fun j=>s.size - j) (fun j=>[(0,sv s),(3,iv (j:Nat))]) (fun _=>[]) (fun j=>1≤j∧j≤s.size∧∀ i c,i < j→s[i]?=some c→ChP i c) 1 ⟨by omega,by omega,fun i c hi hc=>?_⟩ ?_
  ·obtain rfl:i=0:=by omega
   rw [hc0] at hc;cases hc;unfold ChP;omega
  ·intro j ⟨h1,h2,h3⟩
   by_cases hj:j < s.size
   ·obtain ⟨c,hc⟩:=byte_at hj
    (repeat' first|(refine kk ?_;intros)|refine kfk ?_ ?_<;>intro hb|fail)
    all_goals first
     | (refine kret (bpF fun ⟨g1,g2,g3⟩=>?_);have:=g3 j c hc;unfold ChP at this;omega)
     | exact ⟨j+1,by omega,⟨by omega,by omega,ch_next hc h3 (by unfold ChP;omega)⟩,kwk⟩
   ·(repeat' first|(refine kk ?_;intros)|refine kfk ?_ ?_<;>intro hb|fail)
    exact kret (bpT ⟨by omega,by omega,fun i c hc=>h3 i c (by have:=byte_lt hc;omega) hc⟩)
 ·(repeat' first|(refine kk ?_;intros)|refine kfk ?_ ?_<;>intro hb|fail)
  refine kret (bpF fun ⟨g1,g2,g3⟩=>?_)
  omega⟩
set_option maxRecDepth 100000 in
instance isName_s:Con1 Tryz.prog 160 ByteArray sv (fun s=>bp (NameP s)) (fun s=>Lng s.size):=⟨fun s hs=>by
 refine pu Tryz.func160 rfl Tryz.ntmps160 rfl rfl fun C=>?_
 (repeat' first|(refine kk ?_;intros)|refine kfk ?_ ?_<;>intro hb|fail)
 refine kloop (fun j=>s.size - j) (fun j=>[(0,sv s),(3,iv (j:Nat))]) (fun _=>[]) (fun j=>j≤s.size∧∀ i c,i < j→s[i]?=some c→ChP i c) 0 ⟨by omega,fun i c hi hc=>by omega⟩ ?_
 intro j ⟨h2,h3⟩
 by_cases hj:j < s.size
 ·obtain ⟨c,hc⟩:=byte_at hj
  (repeat' first|(refine kk ?_;intros)|refine kfk ?_ ?_<;>intro hb|fail)
  all_goals first
   | (refine kret (bpF fun ⟨g1,g2,g3⟩=>?_);have:=g3 j c hc;unfold ChP at this;omega)
   | exact ⟨j+1,by omega,⟨by omega,ch_next hc h3 (by unfold ChP;omega)⟩,kwk⟩
 ·(repeat' first|(refine kk ?_;intros)|refine kfk ?_ ?_<;>intro hb|fail)
  refine kret ?_
  exact bpC ⟨fun h=>⟨by omega,by omega,fun i c hc=>h3 i c (by have:=byte_lt hc;omega) hc⟩,fun h=>⟨by have:=h.1;omega,by have:=h.2.1;omega⟩⟩⟩
end
noncomputable section
mutual
def Tm.nodes:Tm→Nat
 | .mk _ _ _ l=>1+nodesL l
def nodesL:List Tm→Nat
 | []=>0
 | t::l=>t.nodes+nodesL l
end
abbrev noS:ByteArray:=⟨#[]⟩
mutual
/-- the form of a term -/
def Tm.wf:Tm→Prop
 | .mk k n s l=>(k=0∧n=0∧s=noS∧l=[])∨(k=1∧(0≤n∧n≤100000)∧s=noS∧l=[])∨(k=2∧n=0∧NameP s∧l=[])∨(k=3∧(-1000000000≤n∧n≤1000000000)∧s=noS∧l=[])∨(k=4∧n=0∧s=noS∧l.length=2∧wfL l)
def wfL:List Tm→Prop
 | []=>True
 | t::l=>t.wf∧wfL l
end
theorem Tm.nodes_pos (t:Tm):1≤t.nodes:=by cases t;simp [Tm.nodes]
theorem Tm.wf_iff {t:Tm}:t.wf↔(t.kind=0∧t.int=0∧t.name=noS∧t.args=[])∨(t.kind=1∧(0≤t.int∧t.int≤100000)∧t.name=noS∧t.args=[])∨(t.kind=2∧t.int=0∧NameP t.name∧t.args=[])∨(t.kind=3∧(-1000000000≤t.int∧t.int≤1000000000)∧t.name=noS∧t.args=[])∨(t.kind=4∧t.int=0∧t.name=noS∧t.args.length=2∧wfL t.args):=by cases t;exact Iff.rfl
theorem Tm.nodes_eq (t:Tm):t.nodes=1+nodesL t.args:=by cases t;rfl
theorem wfL_two {a b:Tm}:wfL [a,b]↔a.wf∧b.wf:=by simp [wfL]
theorem nodesL_two {a b:Tm}:nodesL [a,b]=a.nodes+b.nodes:=by simp [nodesL]
instance shape_c:Con1 Tryz.prog 323 Tm tv (fun t=>bp t.wf) (fun t=>t.In):=.ind SizeOf.sizeOf fun N ih t hN hin=>by
 have ⟨_,_,hs,hl,_⟩:=Tm.in_iff.1 hin
 refine pu Tryz.func323 rfl Tryz.ntmps323 rfl rfl fun C=>?_
 by_cases h2:t.args.length=2
 ·obtain ⟨a,b,e,h0,h1⟩:=two_args h2
  have s0:=Tm.arg_lt h0
  have s1:=Tm.arg_lt h1
  have i0:=Tm.arg_in hin h0
  have i1:=Tm.arg_in hin h1
  (repeat' first|(refine kk ?_;intros)|refine kfk ?_ ?_<;>intro hb|fail)
  all_goals refine kret ?_
  all_goals (clear ih hN s0 s1 h0 h1 hin h2 i0 i1;simp_all [Tm.wf_iff (t:=t),wfL_two])
  all_goals first|omega|trace_state
 ·(repeat' first|(refine kk ?_;intros)|refine kfk ?_ ?_<;>intro hb|fail)
  all_goals refine kret ?_
  all_goals (clear ih hN hin;simp_all [Tm.wf_iff (t:=t),List.length_pos_iff])
  all_goals first|omega|trace_state
def nodR (t:Tm) (room:Int):Int:=@ite _ (t.wf∧(t.nodes:Int)≤room) (Classical.propDecidable _) (t.nodes:Int) (-1)
theorem nodR_pos {t:Tm} {room:Int} (h:0≤nodR t room):t.wf∧(t.nodes:Int)≤room∧nodR t room=t.nodes:=by
 unfold nodR at *
 split at h
 ·rename_i h';exact ⟨h'.1,h'.2,by rw [if_pos h']⟩
 ·omega
theorem nodR_of {t:Tm} {room:Int} (h1:t.wf) (h2:(t.nodes:Int)≤room):nodR t room=t.nodes:=by unfold nodR;rw [if_pos ⟨h1,h2⟩]
theorem nodR_not {t:Tm} {room:Int} (h:¬ (t.wf∧(t.nodes:Int)≤room)):nodR t room=-1:=by unfold nodR;rw [if_neg h]
instance nodesOf_c:Con2 Tryz.prog 253 Tm Int tv iv (fun t r=>iv (nodR t r)) (fun t r=>t.In∧-1048576≤r∧r≤1048576):=.ind (fun t _=>SizeOf.sizeOf t) fun N ih t r hN ⟨hin,hr1,hr2⟩=>by
 have ⟨_,_,hs,hl,_⟩:=Tm.in_iff.1 hin
 have hp:=t.nodes_pos
 refine pu Tryz.func253 rfl Tryz.ntmps253 rfl rfl fun C=>?_
 by_cases h2:t.args.length=2
 ·obtain ⟨a,b,e,h0,h1⟩:=two_args h2
  have s0:=Tm.arg_lt h0
  have s1:=Tm.arg_lt h1
  have i0:=Tm.arg_in hin h0
  have i1:=Tm.arg_in hin h1
  have p0:=@nodR_pos a (r - 1)
  have p1:=@nodR_pos b (r - 1 - nodR a (r - 1))
  (repeat' first|(refine kk ?_;intros)|refine kfk ?_ ?_<;>intro hb|fail)
  all_goals refine kret ?_
  all_goals clear ih hN s0 s1 i0 i1 h0 h1 hin hs hl
  all_goals first
   | (rw [nodR_not];rintro ⟨w,g⟩;rw [Tm.wf_iff (t:=t),e,wfL_two] at w;rw [Tm.nodes_eq,e,nodesL_two] at g;first
       | omega
       | (simp_all;done)
       | (have hw : a.wf ∧ b.wf := by simp_all
          have q0:=nodR_of (room:=r - 1) hw.1
          have q1:=nodR_of (room:=r - 1 - nodR a (r - 1)) hw.2
          omega)
       | trace_state)
   | (have g0 := p0 (by omega)
      have g1:=p1 (by omega)
      have e':nodR t r=1+nodR a (r - 1)+nodR b (r - 1 - nodR a (r - 1)):=by
       rw [nodR_of (t:=t) (by rw [Tm.wf_iff,e,wfL_two];exact .inr (.inr (.inr (.inr ⟨‹_›,‹_›,‹_›,rfl,g0.1,g1.1⟩)))) (by rw [Tm.nodes_eq,e,nodesL_two];omega),Tm.nodes_eq,e,nodesL_two]
       omega
      rw [e'])
   | trace_state
 ·(repeat' first|(refine kk ?_;intros)|refine kfk ?_ ?_<;>intro hb|fail)
  all_goals refine kret ?_
  all_goals clear ih hN hin hs hl
  all_goals first
   | (rw [nodR_not];rintro ⟨w,g⟩;rw [Tm.wf_iff] at w;first|omega|(simp_all;done)|(simp_all;omega)|trace_state)
   | (rw [nodR_of]<;>first|(rw [Tm.wf_iff];simp_all;done)|(rw [Tm.nodes_eq];simp_all [nodesL];done)|(rw [Tm.nodes_eq];simp_all [nodesL];omega)|trace_state)
   | trace_state
def Tm.ok (t:Tm):Prop:=t.wf∧t.nodes≤5000
mutual
theorem cnt_nodes:∀ (t:Tm) (m:Int),0≤m→t.cnt m=t.nodes∨(m < t.cnt m∧m < t.nodes)
 | .mk _ _ _ l,m,h=>by
  have:=cntL_nodes l m 1 (by omega) (by omega)
  simp only [Tm.cnt,Tm.nodes]
  omega
theorem cntL_nodes:∀ (l:List Tm) (m n:Int),1≤n→n≤m+1→cntL m l n=n+nodesL l∨(m < cntL m l n∧m < n+nodesL l)
 | [],m,n,h,h'=>by simp [cntL,nodesL]
 | t::l,m,n,h,h'=>by
  have hp:=t.nodes_pos
  simp only [cntL,nodesL]
  split
  ·omega
  ·have h1:=cnt_nodes t (m - n) (by omega)
   have h2:=cnt_le t (m - n) (by omega)
   have h3:=cntL_nodes l m (n+t.cnt (m - n)) (by omega) (by omega)
   omega
end
instance termOk_s:Con1 Tryz.prog 280 Tm tv (fun t=>bp t.ok) (fun t=>t.In):=⟨fun t h=>by
 have hc:=cnt_nodes t 5000 (by omega)
 refine pu Tryz.func280 rfl Tryz.ntmps280 rfl rfl fun C=>?_
 (repeat' first|(refine kk ?_;intros)|refine kfk ?_ ?_<;>intro hb|fail)
 all_goals refine kret ?_
 ·exact bpC ⟨fun w=>⟨w,by omega⟩,fun w=>w.1⟩
 ·exact bpF fun w=>by have:=w.2;omega⟩
instance termOk_i:Con1 Tryz.prog 207 Tm tv (fun t=>bp t.ok) (fun t=>t.In):=⟨fun t h=>by
 have hp:=t.nodes_pos
 refine pu Tryz.func207 rfl Tryz.ntmps207 rfl rfl fun C=>?_
 (repeat' first|(refine kk ?_;intros)|refine kfk ?_ ?_<;>intro hb|fail)
 refine kret (bpI ⟨fun w=>?_,fun w=>?_⟩)
 ·have:=@nodR_pos t 5000 (by simp at w;omega)
  exact ⟨this.1,by omega⟩
 ·have:=nodR_of (room:=5000) w.1 (by have:=w.2;omega)
  simp;omega⟩
theorem InL.all {l:List Tm}:InL l↔∀ t∈l,t.In:=by
 induction l with
 | nil=>simp [InL]
 | cons t l ih=>simp [InL,ih]
end
noncomputable section
section
variable {α:Type} {P:α→Prop} {X:Prop} {l:List α} {j:Nat} {x:α}
theorem all_step (hd:l.drop j=x::l.drop (j+1)) (h:X↔∀ t∈l.drop j,P t) (hx:P x):X↔∀ t∈l.drop (j+1),P t:=by rw [h,hd,List.forall_mem_cons];simp [hx]
theorem all_no (hd:l.drop j=x::l.drop (j+1)) (h:X↔∀ t∈l.drop j,P t) (hx:¬ P x):¬ X:=by rw [h,hd,List.forall_mem_cons];simp [hx]
theorem all_end (h:X↔∀ t∈l.drop l.length,P t):X:=by rw [h];simp
end
instance allOk_s:Con1 Tryz.prog 251 (List Tm) tsv (fun l=>bp (∀ t∈l,t.ok)) (fun l=>Lng l.length∧InL l):=⟨fun l ⟨hl,hin⟩=>by
 refine pu Tryz.func251 rfl Tryz.ntmps251 rfl rfl fun C=>?_
 (repeat' first|(refine kk ?_;intros)|refine kfk ?_ ?_<;>intro hb|fail)
 refine kfor (ι:=Unit) l (fun _ _=>[(5,tsv l)]) (fun _ _=>[]) (fun j _=>(∀ t∈l,t.ok)↔∀ t∈l.drop j,t.ok) () Iff.rfl ?_ ?_
 ·intro j x _ hj hd hl h
  have hx:=hin.get hj
  (repeat' first|(refine kk ?_;intros)|refine kfk ?_ ?_<;>intro hb|fail)
  ·exact kret (bpF (all_no hd h hb))
  ·exact ⟨(),all_step hd h hb,kwk⟩
 ·intro _ h
  (repeat' first|(refine kk ?_;intros)|refine kfk ?_ ?_<;>intro hb|fail)
  exact kret (bpT (all_end h))⟩
instance termsOk_i:Con1 Tryz.prog 168 (List Tm) tsv (fun l=>bp (∀ t∈l,t.ok)) (fun l=>Lng l.length∧InL l):=⟨fun l ⟨hl,hin⟩=>by
 refine pu Tryz.func168 rfl Tryz.ntmps168 rfl rfl fun C=>?_
 (repeat' first|(refine kk ?_;intros)|refine kfk ?_ ?_<;>intro hb|fail)
 refine kfor (ι:=Unit) l (fun _ _=>[(5,tsv l)]) (fun _ _=>[]) (fun j _=>(∀ t∈l,t.ok)↔∀ t∈l.drop j,t.ok) () Iff.rfl ?_ ?_
 ·intro j x _ hj hd hl h
  have hx:=hin.get hj
  (repeat' first|(refine kk ?_;intros)|refine kfk ?_ ?_<;>intro hb|fail)
  ·exact kret (bpF (all_no hd h hb))
  ·exact ⟨(),all_step hd h hb,kwk⟩
 ·intro _ h
  (repeat' first|(refine kk ?_;intros)|refine kfk ?_ ?_<;>intro hb|fail)
  exact kret (bpT (all_end h))⟩
abbrev bsv (s:List BdR):AV:=.one (.s 5 (s.map encB))
abbrev InB (s:List BdR):Prop:=∀ b∈s,I64 b.1∧b.2.In
def VOk (s:List BdR):Prop:=s.length≤400∧(∀ b∈s,(0≤b.1∧b.1≤100000)∧b.2.ok)∧∀ i b b',s[i]?=some b→s[i+1]?=some b'→b.1 < b'.1
def VOkJ (s:List BdR) (j:Nat):Prop:=∀ i b,i < j→s[i]?=some b→((0≤b.1∧b.1≤100000)∧b.2.ok)∧∀ b',0 < i→s[i - 1]?=some b'→b'.1 < b.1
theorem VOkJ.end {s:List BdR} {j:Nat} (hj:s.length≤j):VOkJ s j∧s.length≤400↔VOk s:=by
 constructor
 ·rintro ⟨h,hl⟩
  refine ⟨hl,fun b hb=>?_,fun i b b' h1 h2=>?_⟩
  ·obtain ⟨i,hi⟩:=List.getElem?_of_mem hb
   exact (h i b (by have:=(List.getElem?_eq_some_iff.1 hi).1;omega) hi).1
  ·exact (h (i+1) b' (by have:=(List.getElem?_eq_some_iff.1 h2).1;omega) h2).2 b (by omega) h1
 ·rintro ⟨hl,h1,h2⟩
  refine ⟨fun i b hi hb=>⟨h1 b (List.mem_of_getElem? hb),fun b' h0 hb'=>h2 (i - 1) b' b hb' (by rw [show i - 1+1=i by omega];exact hb)⟩,hl⟩
theorem VOkJ.step {s:List BdR} {j:Nat} {b:BdR} (h:VOkJ s j) (hb:s[j]?=some b) (h1:(0≤b.1∧b.1≤100000)∧b.2.ok) (h2:∀ b',0 < j→s[j - 1]?=some b'→b'.1 < b.1):VOkJ s (j+1):=fun i c hi hc=>by
 rcases Nat.lt_or_ge i j with hij|hij
 ·exact h i c hij hc
 ·obtain rfl:i=j:=by omega
  rw [hb] at hc;cases hc;exact ⟨h1,h2⟩
theorem VOkJ.no {s:List BdR} {j:Nat} {b:BdR} (hb:s[j]?=some b) (h:¬ (((0≤b.1∧b.1≤100000)∧b.2.ok)∧∀ b',0 < j→s[j - 1]?=some b'→b'.1 < b.1)):¬ VOk s:=fun hv=>
 h (((VOkJ.end (j:=s.length) (Nat.le_refl _)).2 hv).1 j b (List.getElem?_eq_some_iff.1 hb).1 hb)
instance values_s:Con1 Tryz.prog 236 (List BdR) bsv (fun s=>bp (VOk s)) (fun s=>Lng s.length∧InB s):=⟨fun s ⟨hl,hin⟩=>by
 refine pu Tryz.func236 rfl Tryz.ntmps236 rfl rfl fun C=>?_
 (repeat' first|(refine kk ?_;intros)|refine kfk ?_ ?_<;>intro hb|fail)
 refine kfor (ι:=Unit) s (fun _ _=>[(0,bsv s),(5,bsv s)]) (fun _ _=>[]) (fun j _=>VOkJ s j) () (fun i b hi _=>by omega) ?_ ?_
 ·intro j b _ hj hd hl h
  have hx:=hin b (List.mem_of_getElem? hj)
  have hx2:=hx.2
  by_cases h0:0 < j
  ·obtain ⟨c,hc⟩:∃ c,s[j - 1]?=some c:=⟨s[j - 1],List.getElem?_eq_getElem (by omega)⟩
   (repeat' first|(refine kk ?_;intros)|refine kfk ?_ ?_<;>intro hb|fail)
   all_goals first
    | exact ⟨(),h.step hj ⟨by omega,by assumption⟩ (fun b' _ e=>by rw [hc] at e;cases e;omega),kwk⟩
    | exact kret (bpF (VOkJ.no hj fun ⟨⟨g1,g2⟩,g3⟩=>by have:=g3 c h0 hc;first|omega|exact absurd g2 (by assumption)))
  ·(repeat' first|(refine kk ?_;intros)|refine kfk ?_ ?_<;>intro hb|fail)
   all_goals first
    | exact ⟨(),h.step hj ⟨by omega,by assumption⟩ (fun b' _ e=>by omega),kwk⟩
    | exact kret (bpF (VOkJ.no hj fun ⟨⟨g1,g2⟩,g3⟩=>by first|omega|exact absurd g2 (by assumption)))
 ·intro _ h
  (repeat' first|(refine kk ?_;intros)|refine kfk ?_ ?_<;>intro hb|fail)
  refine kret ?_
  exact bpI ⟨fun hl=>(VOkJ.end (Nat.le_refl _)).1 ⟨h,by simp at hl;omega⟩,fun hv=>by have:=hv.1;simp;omega⟩⟩
instance values_i:Con1 Tryz.prog 247 (List BdR) bsv (fun s=>bp (VOk s)) (fun s=>Lng s.length∧InB s):=⟨fun s ⟨hl,hin⟩=>by
 refine pu Tryz.func247 rfl Tryz.ntmps247 rfl rfl fun C=>?_
 (repeat' first|(refine kk ?_;intros)|refine kfk ?_ ?_<;>intro hb|fail)
 ·exact kret (bpF fun hv=>by have:=hv.1;omega)
 refine kfor (ι:=Unit) s (fun _ _=>[(0,bsv s),(8,bsv s)]) (fun _ _=>[]) (fun j _=>VOkJ s j) () (fun i b hi _=>by omega) ?_ ?_
 ·intro j b _ hj hd hl h
  have hx:=hin b (List.mem_of_getElem? hj)
  have hx2:=hx.2
  by_cases h0:0 < j
  ·obtain ⟨c,hc⟩:∃ c,s[j - 1]?=some c:=⟨s[j - 1],List.getElem?_eq_getElem (by omega)⟩
   (repeat' first|(refine kk ?_;intros)|refine kfk ?_ ?_<;>intro hb|fail)
   all_goals first
    | exact ⟨(),h.step hj ⟨by omega,by assumption⟩ (fun b' _ e=>by rw [hc] at e;cases e;omega),kwk⟩
    | exact kret (bpF (VOkJ.no hj fun ⟨⟨g1,g2⟩,g3⟩=>by have:=g3 c h0 hc;first|omega|exact absurd g2 (by assumption)))
  ·(repeat' first|(refine kk ?_;intros)|refine kfk ?_ ?_<;>intro hb|fail)
   all_goals first
    | exact ⟨(),h.step hj ⟨by omega,by assumption⟩ (fun b' _ e=>by omega),kwk⟩
    | exact kret (bpF (VOkJ.no hj fun ⟨⟨g1,g2⟩,g3⟩=>by first|omega|exact absurd g2 (by assumption)))
 ·intro _ h
  (repeat' first|(refine kk ?_;intros)|refine kfk ?_ ?_<;>intro hb|fail)
  exact kret (bpT ((VOkJ.end (Nat.le_refl _)).1 ⟨h,by omega⟩))⟩
end
abbrev Su:=Nat→T
def T.sub (σ:Su):T→T
 | .var n=>σ n
 | .pair a b=>.pair (a.sub σ) (b.sub σ)
 | .nil=>.nil
 | .sym s=>.sym s
 | .num n=>.num n
def T.Occ (v:Nat):T→Prop
 | .var n=>n=v
 | .pair a b=>a.Occ v∨b.Occ v
 | _=>False
theorem sub_sub {σ τ:Su}:∀ (t:T),(t.sub σ).sub τ=t.sub fun v=>(σ v).sub τ
 | .var _=>rfl
 | .pair a b=>by simp only [T.sub,sub_sub a,sub_sub b]
 | .nil=>rfl
 | .sym _=>rfl
 | .num _=>rfl
theorem sub_congr {σ τ:Su}:∀ {t:T},(∀ v,t.Occ v→σ v=τ v)→t.sub σ=t.sub τ
 | .var n,h=>h n rfl
 | .pair a b,h=>by simp only [T.sub,sub_congr (t:=a) fun v hv=>h v (.inl hv),sub_congr (t:=b) fun v hv=>h v (.inr hv)]
 | .nil,_=>rfl
 | .sym _,_=>rfl
 | .num _,_=>rfl
theorem sub_fix {σ:Su} {t:T} (h:∀ v,t.Occ v→σ v=.var v):t.sub σ=t:=by
 have e:t.sub σ=t.sub .var:=sub_congr h
 rw [e]
 induction t with
 | pair a b iha ihb=>simp only [T.sub,iha (fun v hv=>h v (.inl hv)) (sub_congr fun v hv=>h v (.inl hv)),ihb (fun v hv=>h v (.inr hv)) (sub_congr fun v hv=>h v (.inr hv))]
 | _=>rfl
theorem occ_eq_of_sub {σ τ:Su}:∀ {t:T},t.sub σ=t.sub τ→∀ v,t.Occ v→σ v=τ v
 | .var n,h,v,hv=>by have hv:n=v:=hv;subst hv;exact h
 | .pair a b,h,v,hv=>by
  simp only [T.sub,T.pair.injEq] at h
  rcases hv with hv|hv
  ·exact occ_eq_of_sub h.1 v hv
  ·exact occ_eq_of_sub h.2 v hv
 | .nil,_,_,hv=>hv.elim
 | .sym _,_,_,hv=>hv.elim
 | .num _,_,_,hv=>hv.elim
theorem occ_sub {σ:Su} {v:Nat}:∀ {t:T},(t.sub σ).Occ v↔∃ w,t.Occ w∧(σ w).Occ v
 | .var n=>⟨fun h=>⟨n,rfl,h⟩,fun ⟨w,h1,h2⟩=>by have h1:n=w:=h1;subst h1;exact h2⟩
 | .pair a b=>by
  simp only [T.sub,T.Occ,occ_sub (t:=a),occ_sub (t:=b)]
  constructor
  ·rintro (⟨w,h1,h2⟩ | ⟨w,h1,h2⟩)
   ·exact ⟨w,.inl h1,h2⟩
   ·exact ⟨w,.inr h1,h2⟩
  ·rintro ⟨w,h1|h1,h2⟩
   ·exact .inl ⟨w,h1,h2⟩
   ·exact .inr ⟨w,h1,h2⟩
 | .nil=>by simp [T.sub,T.Occ]
 | .sym _=>by simp [T.sub,T.Occ]
 | .num _=>by simp [T.sub,T.Occ]
def T.nodes:T→Nat
 | .pair a b=>1+a.nodes+b.nodes
 | _=>1
theorem nodes_pos (t:T):0 < t.nodes:=by cases t<;>simp [T.nodes];omega
theorem occ_nodes {σ:Su} {v:Nat}:∀ {t:T},t.Occ v→(σ v).nodes≤(t.sub σ).nodes
 | .var n,h=>by have h:n=v:=h;subst h;exact Nat.le_refl _
 | .pair a b,h=>by
  simp only [T.sub,T.nodes]
  rcases h with h|h
  ·have:=occ_nodes (σ:=σ) h;omega
  ·have:=occ_nodes (σ:=σ) h;omega
 | .nil,h=>h.elim
 | .sym _,h=>h.elim
 | .num _,h=>h.elim
theorem occurs_check {τ:Su} {v:Nat} {t:T} (h:τ v=t.sub τ) (ho:t.Occ v):t=.var v:=by
 cases t with
 | var n=>have ho:n=v:=ho;rw [ho]
 | pair a b=>
  have h2:(τ v).nodes=1+(a.sub τ).nodes+(b.sub τ).nodes:=by rw [h];rfl
  rcases ho with ho|ho
  ·have:=occ_nodes (σ:=τ) ho;omega
  ·have:=occ_nodes (σ:=τ) ho;omega
 | _=>exact ho.elim
structure Can (U:Su→Prop) (σ:Su):Prop where
 sol:U σ
 gen:∀ τ,U τ→∀ v,(σ v).sub τ=τ v
 ori:∀ v u,σ v=.var u→u≤v
theorem Can.idem {U:Su→Prop} {σ:Su} (h:Can U σ) (v:Nat):(σ v).sub σ=σ v:=h.gen σ h.sol v
theorem Can.fix {U:Su→Prop} {σ:Su} (h:Can U σ) {v w:Nat} (ho:(σ v).Occ w):σ w=.var w:=by
 have e:(σ v).sub σ=(σ v).sub .var:=(h.idem v).trans (sub_fix fun _ _=>rfl).symm
 exact occ_eq_of_sub e w ho
theorem Can.unique {U:Su→Prop} {σ σ':Su} (h:Can U σ) (h':Can U σ'):σ=σ':=by
 funext v
 rw [← h.gen σ' h'.sol v]
 refine (sub_fix fun w hw=>?_).symm
 have h1:σ w=.var w:=h.fix hw
 have h2:(σ' w).sub σ=.var w:=by rw [h'.gen σ h.sol w,h1]
 cases hs:σ' w with
 | var u=>
  rw [hs] at h2
  have h2:σ u=.var w:=h2
  have:=h'.ori w u hs
  have:=h.ori u w h2
  rw [show u=w by omega]
 | nil=>rw [hs] at h2;cases h2
 | sym s=>rw [hs] at h2;cases h2
 | num n=>rw [hs] at h2;cases h2
 | pair a b=>rw [hs] at h2;cases h2
def Closed (U:Su→Prop):Prop:=∀ τ ρ,U τ→U fun v=>(τ v).sub ρ
theorem Can.closed_all {U:Su→Prop} {σ:Su} (h:Can U σ) {t:T} {τ:Su} (ht:U τ):t.sub τ=(t.sub σ).sub τ:=by
 rw [sub_sub]
 exact sub_congr fun v _=>(h.gen τ ht v).symm
def bindS (σ:Su) (v:Nat) (x:T):Su:=fun w=>(σ w).sub fun u=>if u=v then x else .var u
theorem Can.bind {U:Su→Prop} {σ:Su} (h:Can U σ) (hU:Closed U) {a b x:T} {v:Nat} (ha:a.sub σ=.var v) (hb:b.sub σ=x) (hx:¬ x.Occ v) (ho:∀ u,x=.var u→u < v) :
 Can (fun τ=>U τ∧a.sub τ=b.sub τ) (bindS σ v x):=by
 have hxx:x.sub (fun u=>if u=v then x else .var u)=x:=sub_fix fun w hw=>by rw [if_neg];rintro rfl;exact hx hw
 have all:∀ t:T,t.sub (bindS σ v x)=(t.sub σ).sub fun u=>if u=v then x else .var u:=fun t=>(sub_sub t).symm
 refine ⟨⟨hU _ _ h.sol,?_⟩,fun τ ht w=>?_,fun w u hw=>?_⟩
 ·rw [all,all,ha,hb,hxx]
  simp [T.sub]
 ·unfold bindS
  rw [sub_sub,← h.gen τ ht.1 w]
  refine sub_congr fun u _=>?_
  by_cases hu:u=v
  ·subst hu
   rw [if_pos rfl]
   have e:(a.sub σ).sub τ=(b.sub σ).sub τ:=by rw [← h.closed_all ht.1,← h.closed_all ht.1];exact ht.2
   rw [ha,hb] at e
   exact e.symm
  ·rw [if_neg hu];rfl
 ·unfold bindS at hw
  cases hs:σ w with
  | var y=>
   have hy:=h.ori w y hs
   rw [hs] at hw
   have hw:(if y=v then x else T.var y)=.var u:=hw
   by_cases hyv:y=v
   ·rw [if_pos hyv] at hw
    have:=ho u hw
    omega
   ·rw [if_neg hyv] at hw
    cases hw;exact hy
  | nil=>rw [hs] at hw;cases hw
  | sym s=>rw [hs] at hw;cases hw
  | num n=>rw [hs] at hw;cases hw
  | pair c d=>rw [hs] at hw;cases hw
theorem Can.same {U:Su→Prop} {σ:Su} (h:Can U σ) {a b:T} (e:a.sub σ=b.sub σ):Can (fun τ=>U τ∧a.sub τ=b.sub τ) σ:=
 ⟨⟨h.sol,e⟩,fun τ ht=>h.gen τ ht.1,h.ori⟩
theorem Can.none {U:Su→Prop} {σ:Su} (h:Can U σ) {a b x:T} {v:Nat} (ha:a.sub σ=.var v) (hb:b.sub σ=x) (hx:x.Occ v) (hne:x≠.var v) (τ:Su) (ht:U τ):a.sub τ≠b.sub τ:=by
 intro e
 rw [h.closed_all ht,h.closed_all (t:=b) ht,ha,hb] at e
 exact hne (occurs_check e hx)
theorem Can.congr {U U':Su→Prop} {σ:Su} (h:Can U σ) (e:∀ τ,U τ↔U' τ):Can U' σ:=⟨(e σ).1 h.sol,fun τ ht=>h.gen τ ((e τ).2 ht),h.ori⟩
end Go.Proofs.YtejkllmoofdpjaaGreat
