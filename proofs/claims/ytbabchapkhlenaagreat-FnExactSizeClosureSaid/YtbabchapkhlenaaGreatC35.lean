/- Parts of the proof: V69 V68. -/
import Derived.Test.YtbabchapkhlenaaGreatC15
namespace Go.Proofs.YtbabchapkhlenaaGreat
open Go
set_option linter.all false
set_option maxRecDepth 100000
set_option maxHeartbeats 4000000
noncomputable section
def T.part (t:T):T→Prop
 | .pair a b=>t=.pair a b∨T.part t a∨T.part t b
 | u=>t=u
instance partOf_c:Con2 Tryz.prog 34 T T vT vT (fun t u=>bp (T.part t u)) (fun _ _=>True):=.ind (fun _ u=>u.nodes) fun N ih t u hN _=>by
 refine pu Tryz.func34 rfl Tryz.ntmps34 rfl rfl fun C=>?_
 cases u with
 | pair a b=>
  have:=nodes_pos a
  have:=nodes_pos b
  simp only [T.nodes] at hN
  have s1:a.nodes < N∧True:=⟨by omega,trivial⟩
  have s2:b.nodes < N∧True:=⟨by omega,trivial⟩
  have hr0:(rowsT (T.pair a b).tm.args)[0]?=some (encT a.tm):=rfl
  have hr1:(rowsT (T.pair a b).tm.args)[1]?=some (encT b.tm):=rfl
  by_cases h1:t=.pair a b
  ·rw [show bp (T.part t (.pair a b))=bv true from (bpT (.inl h1)).symm]
   (repeat' first|(refine kk ?_;intros)|refine kfk ?_ ?_<;>intro hb|fail)
   all_goals first
    | exact kret rfl
    | exact absurd h1 hb
    | exact absurd h1 (by assumption)
  ·rw [show bp (T.part t (.pair a b))=bp (T.part t a∨T.part t b) from congrArg bp (propext ⟨fun h=>h.resolve_left h1,.inr⟩)]
   (repeat' first|(refine kk ?_;intros)|refine kfk ?_ ?_<;>intro hb|fail)
   all_goals first
    | exact absurd (by assumption) h1
    | exact kret (bpT (.inl hb))
    | exact kret (bpT (.inl (by assumption)))
    | exact kret (show bp (T.part t b)=bp (T.part t a∨T.part t b) from congrArg bp (propext ⟨.inr,fun h=>h.resolve_left hb⟩))
    | exact kret (bpT (.inr hb))
    | (rename_i g1 _;exact kret (bpF fun h=>h.elim g1 hb))
    | fail
 | _=>
  (repeat' first|(refine kk ?_;intros)|refine kfk ?_ ?_<;>intro hb|fail)
  all_goals first
   | exact kret (bpT hb)
   | exact kret (bpF hb)
   | exact kret rfl
   | fail
instance contains31_s:Con2 Tryz.prog 25 T T vT vT (fun u t=>bp (T.part t u)) (fun _ _=>True):=.ind (fun u _=>u.nodes) fun N ih u t hN _=>by
 refine pu Tryz.func25 rfl Tryz.ntmps25 rfl rfl fun C=>?_
 cases u with
 | pair a b=>
  have:=nodes_pos a
  have:=nodes_pos b
  simp only [T.nodes] at hN
  have s1:a.nodes < N∧True:=⟨by omega,trivial⟩
  have s2:b.nodes < N∧True:=⟨by omega,trivial⟩
  (repeat' first|(refine kk ?_;intros)|refine kfk ?_ ?_<;>intro hb|fail)
  refine kun3 ?_
  (repeat' first|(refine kk ?_;intros)|refine kfk ?_ ?_<;>intro hb|fail)
  all_goals first
   | exact kret (bpT (.inr (.inl hb)))
   | exact kret (bpT (.inr (.inr hb)))
   | (rename_i g1 _;exact kret (show bp (T.pair a b=t)=bp (T.part t (.pair a b)) from congrArg bp (propext ⟨fun h=>.inl h.symm,fun h=>h.elim Eq.symm fun h=>(h.elim g1 hb).elim⟩)))
   | fail
 | _=>
  (repeat' first|(refine kk ?_;intros)|refine kfk ?_ ?_<;>intro hb|fail)
  refine kun3 ?_
  (repeat' first|(refine kk ?_;intros)|refine kfk ?_ ?_<;>intro hb|fail)
  all_goals first
   | exact kret (congrArg bp (propext ⟨Eq.symm,Eq.symm⟩))
   | fail
end
noncomputable section
instance cmpG_s:Con2 Tryz.prog 42 Gr Gr vGr vGr (fun a b=>iv (cG a b)) (fun a b=>a.arcs.length≤16∧b.arcs.length≤16):=⟨fun a b ⟨hla,hlb⟩=>by
 obtain ⟨a1,a2,l⟩:=a
 obtain ⟨b1,b2,m⟩:=b
 simp only at hla hlb
 have hlen1:(l.map encA).length=l.length:=by simp
 have hlen2:(m.map encA).length=m.length:=by simp
 refine pu Tryz.func42 rfl Tryz.ntmps42 rfl rfl fun C=>?_
 (repeat' first|(refine kk ?_;intros)|refine kfk ?_ ?_<;>intro hb|fail)
 ·rw [cG_caller (by exact hb)]
  exact kret rfl
 ·rename_i g0
  rw [cG_callee (by exact g0) (by exact hb)]
  exact kret rfl
 ·rename_i p q g0
  rw [show cG ⟨a1,a2,l⟩ ⟨b1,b2,m⟩=lexC cArc l m from cG_arcs (by exact g0) (by exact hb)]
  refine kloop (ι:=Nat) (fun i=>l.length - i) (fun i=>[(2,.one (.v (.pointer (some ⟨p,0,none⟩)))),(3,.one (.v (.pointer (some ⟨q,0,none⟩)))),(5,nv i)]) (fun _=>[abox q [.v (.string b1),.v (.string b2),.s 3 (m.map encA)] 59,abox p [.v (.string a1),.v (.string a2),.s 3 (l.map encA)] 59]) (fun i=>(i≤l.length∧i≤m.length)∧lexC cArc l m=lexC cArc (l.drop i) (m.drop i)) 0 ⟨⟨Nat.zero_le _,Nat.zero_le _⟩,rfl⟩ ?_
  rintro i ⟨⟨h1,h2⟩,h3⟩
  by_cases hi:i < l.length
  ·by_cases hj:i < m.length
   ·obtain ⟨⟨f,t,s⟩,hx⟩:∃ y,l[i]?=some y:=⟨l[i],List.getElem?_eq_getElem hi⟩
    obtain ⟨⟨f',t',s'⟩,hy⟩:∃ y,m[i]?=some y:=⟨m[i],List.getElem?_eq_getElem hj⟩
    have hr1:(l.map encA)[i]?=some [.v (.int .i64 (f:Int)),.v (.int .i64 (t:Int)),.v (.bool s)]:=by simp [hx,encA]
    have hr2:(m.map encA)[i]?=some [.v (.int .i64 (f':Int)),.v (.int .i64 (t':Int)),.v (.bool s')]:=by simp [hy,encA]
    have hs:=lexC_drop (c:=cArc) hx hy
    rw [← h3] at hs
    by_cases e1:f=f'
    ·subst e1
     have z1:cI (f:Int) f=0:=cI_tot.self _
     by_cases e2:t=t'
     ·subst e2
      rw [cArc_2] at hs
      cases s<;>cases s'
      ·(repeat' first|(refine kk ?_;intros)|refine kfk ?_ ?_<;>intro hb|fail)
       refine kr ?_ (h:=P_neB (a:=false) (b:=false) _ _ rfl rfl)
       (repeat' first|(refine kk ?_;intros)|refine kfk ?_ ?_<;>intro hb|fail)
       exact ⟨i+1,by omega,⟨⟨by omega,by omega⟩,hs⟩,kwk⟩
      ·(repeat' first|(refine kk ?_;intros)|refine kfk ?_ ?_<;>intro hb|fail)
       refine kr ?_ (h:=P_neB (a:=false) (b:=true) _ _ rfl rfl)
       (repeat' first|(refine kk ?_;intros)|refine kfk ?_ ?_<;>intro hb|fail)
       rw [hs];exact kret rfl
      ·(repeat' first|(refine kk ?_;intros)|refine kfk ?_ ?_<;>intro hb|fail)
       refine kr ?_ (h:=P_neB (a:=true) (b:=false) _ _ rfl rfl)
       (repeat' first|(refine kk ?_;intros)|refine kfk ?_ ?_<;>intro hb|fail)
       rw [hs];exact kret rfl
      ·(repeat' first|(refine kk ?_;intros)|refine kfk ?_ ?_<;>intro hb|fail)
       refine kr ?_ (h:=P_neB (a:=true) (b:=true) _ _ rfl rfl)
       (repeat' first|(refine kk ?_;intros)|refine kfk ?_ ?_<;>intro hb|fail)
       exact ⟨i+1,by omega,⟨⟨by omega,by omega⟩,hs⟩,kwk⟩
     ·have n2:¬ cI (t:Int) t'=0:=fun e=>e2 (by have:=(cI_tot.eq _ _).1 e;omega)
      have n2':¬ (t:Int)=t':=by omega
      rw [cArc_1 n2] at hs
      (repeat' first|(refine kk ?_;intros)|refine kfk ?_ ?_<;>intro hb|fail)
      rw [hs];exact kret (congrArg iv (sign_cI n2'))
    ·have n1:¬ cI (f:Int) f'=0:=fun e=>e1 (by have:=(cI_tot.eq _ _).1 e;omega)
     have n1':¬ (f:Int)=f':=by omega
     rw [cArc_0 n1] at hs
     (repeat' first|(refine kk ?_;intros)|refine kfk ?_ ?_<;>intro hb|fail)
     rw [hs];exact kret (congrArg iv (sign_cI n1'))
   ·have hz:=lexC_end (c:=cArc) h1 h2 (.inr (by omega))
    rw [← h3] at hz
    have hjm:i=m.length:=by omega
    have hne:¬ (l.length:Int)=m.length:=by omega
    rw [show lexC cArc l m=1 from hz.trans (by unfold cI;rw [if_neg (by omega),if_pos (by omega)])]
    (repeat' first|(refine kk ?_;intros)|refine kfk ?_ ?_<;>intro hb|fail)
    exact kret rfl
  ·have hz:=lexC_end (c:=cArc) h1 h2 (.inl (by omega))
   rw [← h3] at hz
   have hjl:i=l.length:=by omega
   by_cases hne:l.length=m.length
   ·have hne':(l.length:Int)=m.length:=by omega
    rw [show lexC cArc l m=0 from hz.trans ((cI_tot.eq _ _).2 hne')]
    (repeat' first|(refine kk ?_;intros)|refine kfk ?_ ?_<;>intro hb|fail)
    exact kret rfl
   ·have hne':¬ (l.length:Int)=m.length:=by omega
    have hlt:(l.length:Int) < m.length:=by omega
    rw [show lexC cArc l m=-1 from hz.trans (by unfold cI;rw [if_pos hlt])]
    (repeat' first|(refine kk ?_;intros)|refine kfk ?_ ?_<;>intro hb|fail)
    exact kret rfl⟩
end
end Go.Proofs.YtbabchapkhlenaaGreat
