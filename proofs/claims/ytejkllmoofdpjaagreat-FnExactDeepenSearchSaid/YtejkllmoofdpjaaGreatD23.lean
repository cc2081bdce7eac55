/- Parts of the proof: V42 VKn VKp. -/
import Derived.Test.YtejkllmoofdpjaaGreatD21
import Derived.Test.YtejkllmoofdpjaaGreatD20
namespace Go.Proofs.YtejkllmoofdpjaaGreat
open Go
set_option linter.all false
set_option maxRecDepth 100000
set_option maxHeartbeats 4000000
noncomputable section
theorem Sub.pre_i {s:Sb} (h:Sub s):Lng (s.map toB).length∧InB (s.map toB):=⟨by have:=h.vok.len;unfold Lng;simp;omega,fun r hr=>by
 obtain ⟨b,hb,rfl⟩:=List.mem_map.1 hr
 have:=h.vok.ok b hb
 exact ⟨by have:=this.1;unfold I64;simp only [toB];omega,tm_in this.2.fit⟩⟩
theorem Sub.lng_i {s:Sb} (h:Sub s):Lng s.length:=by simpa using h.pre_i.1
theorem substYes_i:Con1 Tryz.prog 197 Sb vS (fun _=>bv true) Sub:=⟨fun s hs=>by
 have h:=substOk_i.h (s.map toB) hs.pre_i
 rwa [show bp (SubR (s.map toB))=bv true from (bpT (subR_of.2 hs)).symm] at h⟩
instance copyB_c:Con1 Tryz.prog 133 Sb vS (fun s=>vS s) (fun s=>s.length≤1000000):=⟨fun s hl=>by
 have hlen:((s.map toB).map encB).length=s.length:=by simp
 have hl1:Lng s.length:=by unfold Lng;omega
 refine pu Tryz.func133 rfl Tryz.ntmps133 rfl rfl fun C=>?_
 (repeat' first|(refine kkz ?_;intros)|refine kfk ?_ ?_<;>intro hb|fail)
 rename_i u0
 refine kfor (ι:=Value) s (fun j u=>[(3,.one (.v u)),(7,vS s)]) (fun j u=>[arow 183 5 u (((s.take j).map toB).map encB)]) (fun j _=>True) u0 trivial ?_ ?_
 ·rintro j ⟨v,t⟩ u hj hdd hjl _
  have hrow:((s.map toB).map encB)[j]?=some (encB (toB (v,t))):=by simp [hj]
  have ht1:s.take (j+1)=s.take j++[(v,t)]:=by rw [List.take_add_one,hj];rfl
  have hle:(s.take j).length≤j:=by simp;omega
  (repeat' first|(refine kk ?_;intros)|refine kfk ?_ ?_<;>intro hb|fail)
  refine kdA 1 (ho:=rfl) fun u1=>?_
  (repeat' first|(refine kk ?_;intros)|refine kfk ?_ ?_<;>intro hb|fail)
  refine ⟨u1,trivial,?_⟩
  simp only [ht1,List.map_append]
  exact kwk
 ·intro u _
  rw [List.take_length]
  (repeat' first|(refine kk ?_;intros)|refine kfk ?_ ?_<;>intro hb|fail)
  exact kr1 (rvR rfl)⟩
instance equalB_c:Con2 Tryz.prog 223 Sb Sb vS vS (fun s t=>bp (s=t)) (fun s t=>s.length≤1000000∧t.length≤1000000):=⟨fun s t ⟨hs,ht⟩=>by
 have hlen:((s.map toB).map encB).length=s.length:=by simp
 have hlen2:((t.map toB).map encB).length=t.length:=by simp
 have hl1:Lng s.length:=by unfold Lng;omega
 have hl2:Lng t.length:=by unfold Lng;omega
 refine pu Tryz.func223 rfl Tryz.ntmps223 rfl rfl fun C=>?_
 by_cases hlt:s.length=t.length
 ·(repeat' first|(refine kk ?_;intros)|refine kfk ?_ ?_<;>intro hb|fail)
  refine kfor (ι:=Unit) s (fun j _=>[(0,vS s),(1,vS t)]) (fun j _=>[]) (fun j _=>s.take j=t.take j) () rfl ?_ ?_
  ·rintro j ⟨v,a⟩ _ hj hd hjl hp
   have hrow:((s.map toB).map encB)[j]?=some (encB (toB (v,a))):=by simp [hj]
   obtain ⟨⟨w,b⟩,hb⟩:∃ b,t[j]?=some b:=⟨t[j]'(by omega),List.getElem?_eq_getElem (by omega)⟩
   have hb1:=hb
   have hrow2:((t.map toB).map encB)[j]?=some (encB (toB (w,b))):=by simp [hb]
   have hne:(v,a)≠(w,b)→¬ s=t:=fun he e=>by rw [e,hb] at hj;cases hj;exact he rfl
   clear hb
   (repeat' first|(refine kk ?_;intros)|refine kfk ?_ ?_<;>intro hb|fail)
   ·have hb:¬ (v:Int)=w:=hb
    exact kret (bpF (hne fun e=>by cases e;exact hb rfl))
   ·exact kret (bpF (hne fun e=>by cases e;exact hb rfl))
   ·rename_i g1
    have g1:(v:Int)=w:=by first|exact g1|exact Decidable.byContradiction g1
    have hb:a=b:=hb
    have g1:v=w:=by omega
    subst g1 hb
    exact ⟨(),by rw [List.take_add_one,List.take_add_one,hj,hb1,hp],kwk⟩
  ·intro _ hp
   rw [List.take_length,hlt,List.take_length] at hp
   (repeat' first|(refine kk ?_;intros)|refine kfk ?_ ?_<;>intro hb|fail)
   exact kret (bpT hp)
 ·(repeat' first|(refine kk ?_;intros)|refine kfk ?_ ?_<;>intro hb|fail)
  exact kret (bpF fun e=>hlt (by rw [e]))⟩
theorem newB_snoc_i {s x:Sb} {b:Nat × T}:newB s (x++[b])=newB s x++(if getS s b.1=none then [b] else []):=by
 unfold newB
 rw [List.filter_append]
 congr 1
 by_cases h:getS s b.1=none<;>simp [List.filter,h]
instance newB_c:Con2 Tryz.prog 224 Sb Sb vS vS (fun s x=>vS (newB s x)) (fun s x=>Sub s∧Sub x):=⟨fun s x ⟨hs,hx⟩=>by
 have q1:SubR (s.map toB):=subR_of.2 hs
 have q2:SubR (x.map toB):=subR_of.2 hx
 have i1:=hs.pre_i
 haveI:=substYes_i
 have i2:=hx.pre_i
 have l2:=hx.lng_i
 have l1:=hs.vok.putOk.lng
 have hl:x.length≤1000000:=by have:=hx.vok.len;omega
 have hlen:((x.map toB).map encB).length=x.length:=by simp
 refine pu Tryz.func224 rfl Tryz.ntmps224 rfl rfl fun C=>?_
 (repeat' first|(refine kkz ?_;intros)|refine kfk ?_ ?_<;>intro hb|fail)
 trace_state
 rename_i u0
 refine kfor (ι:=Value) x (fun j u=>[(0,vS s),(5,.one (.v u)),(17,vS x)]) (fun j u=>[arow 183 5 u (((newB s (x.take j)).map toB).map encB)]) (fun j _=>True) u0 trivial ?_ ?_
 ·rintro j ⟨v,t⟩ u hj hdd hjl _
  have hrow:((x.map toB).map encB)[j]?=some (encB (toB (v,t))):=by simp [hj]
  have ht1:x.take (j+1)=x.take j++[(v,t)]:=by rw [List.take_add_one,hj];rfl
  have hle:(newB s (x.take j)).length≤j:=Nat.le_trans (List.length_filter_le _ _) (by simp;omega)
  rcases fI_spec hs.vok.asc v with ⟨e1,e2⟩ | ⟨i,y,e1,e3,e2⟩
  ·(repeat' first|(refine kk ?_;intros)|refine kfk ?_ ?_<;>intro hb|fail)
   ·refine kdA 1 (ho:=rfl) fun u1=>?_
    (repeat' first|(refine kk ?_;intros)|refine kfk ?_ ?_<;>intro hb|fail)
    refine ⟨u1,trivial,?_⟩
    simp only [ht1,newB_snoc_i,e2,if_true,List.map_append]
    exact kwk
   ·exact absurd (show fI s v < 0 by omega) hb
  ·(repeat' first|(refine kk ?_;intros)|refine kfk ?_ ?_<;>intro hb|fail)
   ·exact absurd hb (show ¬ fI s v < 0 by omega)
   ·refine ⟨u,trivial,?_⟩
    rw [ht1,newB_snoc_i,if_neg (by simp [e2]),List.append_nil]
    exact kwk
 ·intro u _
  rw [List.take_length]
  (repeat' first|(refine kk ?_;intros)|refine kfk ?_ ?_<;>intro hb|fail)
  exact kr1 (rvR rfl)⟩
instance equations_c:Con1 Tryz.prog 275 Sb vS (fun d=>.tup [vTs (d.map fun b=>T.var b.1),vTs (d.map (·.2))]) (fun d=>d.length≤1000000):=⟨fun d hl=>by
 have hlen:((d.map toB).map encB).length=d.length:=by simp
 have hl1:Lng d.length:=by unfold Lng;omega
 refine pu Tryz.func275 rfl Tryz.ntmps275 rfl rfl fun C=>?_
 (repeat' first|(refine kkz ?_;intros)|refine kfk ?_ ?_<;>intro hb|fail)
 rename_i u1 u2
 refine kfor (ι:=Value × Value) d (fun j x=>[(4,.one (.v x.1)),(5,.one (.v x.2)),(10,vS d)]) (fun j x=>[arow 174 4 x.2 (rowsT (((d.take j).map (·.2)).map T.tm)),arow 174 4 x.1 (rowsT (((d.take j).map fun b=>T.var b.1).map T.tm))]) (fun j x=>True) (u1,u2) trivial ?_ ?_
 ·rintro j ⟨v,t⟩ ⟨u1,u2⟩ hj hdd hjl _
  have hrow:((d.map toB).map encB)[j]?=some (encB (toB (v,t))):=by simp [hj]
  have ht1:d.take (j+1)=d.take j++[(v,t)]:=by rw [List.take_add_one,hj];rfl
  (repeat' first|(refine kk ?_;intros)|refine kfk ?_ ?_<;>intro hb|fail)
  rename_i u3 u4
  refine ⟨(u3,u4),trivial,?_⟩
  simp only [ht1,List.map_append,rowsT_app]
  exact kwk
 ·rintro ⟨u1,u2⟩ _
  rw [List.take_length]
  (repeat' first|(refine kk ?_;intros)|refine kfk ?_ ?_<;>intro hb|fail)
  exact kr2 (rvR rfl) (rvR rfl)⟩
theorem zip_eqB_i (d:Sb):(d.map fun b=>T.var b.1).zip (d.map (·.2))=eqB d:=by
 induction d with
 | nil=>rfl
 | cons b d ih=>simp only [List.map_cons,List.zip_cons_cons,ih];rfl
instance joinSubst_c:Con2 Tryz.prog 234 Sb Sb vS vS (fun s d=>optS (join s d)) (fun s d=>Sub s∧Sub d):=⟨fun s d ⟨hs,hd⟩=>by
 haveI:=substYes_i
 have hl:d.length≤1000000:=by have:=hd.vok.len;omega
 have l1:=hs.lng_i
 have l2:=hd.lng_i
 have hp:FitS s∧(∀ t∈(d.map fun b=>T.var b.1),t.fit)∧(∀ t∈(d.map (·.2)),t.fit)∧(d.map fun b=>T.var b.1).length=(d.map (·.2)).length∧Lng s.length∧Lng (d.map fun b=>T.var b.1).length:=
  ⟨hs.sbfit,fun t ht=>by obtain ⟨b,hb,rfl⟩:=List.mem_map.1 ht;exact fit_var.2 (hd.sbfit b hb).1,fun t ht=>by obtain ⟨b,hb,rfl⟩:=List.mem_map.1 ht;exact (hd.sbfit b hb).2,by simp,l1,by simpa using l2⟩
 refine pu Tryz.func234 rfl Tryz.ntmps234 rfl rfl fun C=>?_
 rw [show join s d=mg (eqs s ((d.map fun b=>T.var b.1).zip (d.map (·.2)))) by rw [zip_eqB_i]]
 (repeat' first|(refine kk ?_;intros)|refine kfk ?_ ?_<;>intro hb|fail)
 cases mg (eqs s ((d.map fun b=>T.var b.1).zip (d.map (·.2)))) with
 | none=>
  (repeat' first|(refine kk ?_;intros)|refine kfk ?_ ?_<;>intro hb|fail)
  exact kr2 (rvT rfl) (rvT rfl)
 | some x=>
  (repeat' first|(refine kk ?_;intros)|refine kfk ?_ ?_<;>intro hb|fail)
  exact kr2 (rvT rfl) (rvT rfl)⟩
theorem put_none {t:Sb} {x:T} (h:putO t x=none):¬ (x.sub (suOf t)).nodes≤5000:=by unfold putO capT at h;split at h<;>simp_all
theorem put_some {t:Sb} {x y:T} (h:putO t x=some y):(x.sub (suOf t)).nodes≤5000∧x.sub (suOf t)=y:=by unfold putO capT at h;split at h<;>simp_all
theorem moreG_iff_i {s t:Sb}:moreG s t↔∀ b∈s.take s.length,(suOf t b.1).nodes≤5000∧(b.2.sub (suOf t)).nodes≤5000∧suOf t b.1=b.2.sub (suOf t):=by rw [List.take_length];rfl
instance moreGeneral_i:Con2 Tryz.prog 279 Sb Sb vS vS (fun s t=>bp (moreG s t)) (fun s t=>Sub s∧Sub t):=⟨fun s t ⟨hs,ht⟩=>by
 have l1:=hs.lng_i
 have hlen:((s.map toB).map encB).length=s.length:=by simp
 refine pu Tryz.func279 rfl Tryz.ntmps279 rfl rfl fun C=>?_
 (repeat' first|(refine kk ?_;intros)|refine kfk ?_ ?_<;>intro hb|fail)
 refine kfor (ι:=Unit) s (fun j _=>[(1,vS t),(11,vS s)]) (fun j _=>[]) (fun j _=>∀ b∈s.take j,(suOf t b.1).nodes≤5000∧(b.2.sub (suOf t)).nodes≤5000∧suOf t b.1=b.2.sub (suOf t)) () (by simp) ?_ ?_
 ·rintro j ⟨v,x⟩ _ hj hd hjl hp
  have hrow:((s.map toB).map encB)[j]?=some (encB (toB (v,x))):=by simp [hj]
  have hmem:=List.mem_of_getElem? hj
  have p1:PutOk t∧(T.var v).fit:=⟨ht.vok.putOk,fit_var.2 (hs.vok.ok _ hmem).1⟩
  have p2:PutOk t∧x.fit:=⟨ht.vok.putOk,hs.fit _ hmem⟩
  (repeat' first|(refine kk ?_;intros)|refine kfk ?_ ?_<;>intro hb|fail)
  cases h1:putO t (.var v) with
  | none=>
   have h1:=put_none h1
   (repeat' first|(refine kk ?_;intros)|refine kfk ?_ ?_<;>intro hb|fail)
   cases h2:putO t x<;>(repeat' first|(refine kk ?_;intros)|refine kfk ?_ ?_<;>intro hb|fail)<;>exact kret (bpF fun h=>h1 (h _ hmem).1)
  | some y=>
   have h1:=put_some h1
   (repeat' first|(refine kk ?_;intros)|refine kfk ?_ ?_<;>intro hb|fail)
   cases h2:putO t x with
   | none=>
    have h2:=put_none h2
    (repeat' first|(refine kk ?_;intros)|refine kfk ?_ ?_<;>intro hb|fail)
    exact kret (bpF fun h=>h2 (h _ hmem).2.1)
   | some z=>
    have h2:=put_some h2
    (repeat' first|(refine kk ?_;intros)|refine kfk ?_ ?_<;>intro hb|fail)
    ·exact kret (bpF fun h=>hb (h1.2.symm.trans ((h _ hmem).2.2.trans h2.2)))
    ·exact ⟨(),take_succ_all hj hp ⟨h1.1,h2.1,h1.2.trans (hb.trans h2.2.symm)⟩,kwk⟩
 ·intro _ hp
  have hp:=moreG_iff_i.2 hp
  (repeat' first|(refine kk ?_;intros)|refine kfk ?_ ?_<;>intro hb|fail)
  exact kret (bpT hp)⟩
end
section
open Go Go.Sort
noncomputable section
section
variable {P:Program} {f:AF} {A:List Atm} {d:Option Tmp} {ty:TypeId} {pos:String} {aft:Array Edge} {gg:Option (Nat × Bool)}
theorem P_iface {t e:TypeId} [G:SlF P t e] (x:Operand) {v:Value} (hx:eva f x=.one (.v v)):PuO P f A ⟨d,.makeInterface t x,ty,pos,aft,gg⟩ (.one (.v (.iface t v))):=P_ex1 x rfl hx rfl fun w r h=>by
 show runC P w (Instr.makeInterface t (r x) >>= fun v=>pure (Next.value v))=_
 unfold Instr.makeInterface
 simp only [bind_assoc]
 rw [runC_bind,runC_underlying G.und,h]
 rfl
end
abbrev optK (o:Option Ks):AV:=match o with|some l=>.tup [vK l,bv true]|none=>.tup [.one (.s 2 []),bv false]
theorem termYes_i:Con1 Tryz.prog 207 T vT (fun _=>bv true) T.okT:=⟨fun t ht=>by
 have h:=termOk_i.h t.tm (tm_in ht.fit)
 rwa [show bp t.tm.ok=bv true from (bpT (tm_ok.2 ht)).symm] at h⟩
theorem kGet_of_mem {l:Ks} {v:Nat} {k:Int} (ha:l.Pairwise fun a b=>a.1 < b.1) (h:(v,k)∈l):kGet l v=some k:=by
 obtain ⟨i,hi⟩:=List.getElem?_of_mem h
 have:=kGet_at (k:=i) (v:=v) ha (fun b hb=>?_) hi (by simp)
 ·rw [this,if_pos rfl]
 ·obtain ⟨j,hj⟩:=List.getElem?_of_mem hb
  rw [List.getElem?_take] at hj
  split at hj
  ·exact asc_get ha hj hi (by assumption)
  ·cases hj
abbrev eK (b:Nat × Int):List D:=encK (toK b)
theorem perm_3 {a b c:Atm}:[a,c,b].Perm [b,a,c]:=List.perm_append_comm (l₁:=[a,c]) (l₂:=[b])
theorem perm_rw3 {X Y:List (List D)} {a b:Atm} {e:TypeId} {sz:Nat} {u:Value} (hXY:X=Y):[a,arow e sz u X,b].Perm ([b]++([a]++[arow e sz u Y])):=hXY▸perm_3
abbrev eM (b:Nat × ByteArray):List D:=encM (toM b)
abbrev optM (o:Option Ms):AV:=match o with|some l=>.tup [vM l,bv true]|none=>.tup [.one (.s 2 []),bv false]
end
end
noncomputable section
theorem putO_var {s:Sb} (hs:Sub s) {v:Nat} (hv:v≤100000):putO s (.var v)=some (suOf s v):=by
 unfold putO capT
 have:(T.sub (suOf s) (T.var v))=suOf s v:=rfl
 rw [this,if_pos]
 unfold suOf
 cases hg:getS s v with
 | none=>simp [T.nodes]
 | some t=>exact (hs.vok.ok _ (getS_in hg)).2.size
end
end Go.Proofs.YtejkllmoofdpjaaGreat
