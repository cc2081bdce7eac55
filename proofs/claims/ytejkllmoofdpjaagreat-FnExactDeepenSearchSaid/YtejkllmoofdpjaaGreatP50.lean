/- Parts of the proof: VXE. -/
import Derived.Test.YtejkllmoofdpjaaGreatP49
namespace Go.Proofs.YtejkllmoofdpjaaGreat
open Go
set_option linter.all false
set_option maxRecDepth 100000
set_option maxHeartbeats 4000000
noncomputable section
open Classical
instance heldKs_c:Con2 Tryz.prog 89 (List VkR) Nat (fun l=>.one (.s 2 (l.map encK))) nv (fun l k=>nv (k+2 * l.length)) (fun l k=>∃ l0:List VkR,l=mkKs l0 k∧0 < k∧k+2 * l0.length≤100000000000000):=⟨fun l k ⟨l0,e1,h0,hk⟩=>by
 subst e1
 refine pu Tryz.func89 rfl Tryz.ntmps89 rfl rfl fun C=>?_
 have hlt:((mkKs l0 k).map encK).length=l0.length:=by rw [List.length_map,mkKs_len]
 rw [mkKs_len]
 (repeat' first|(refine kk ?_;intros)|refine kfk ?_ ?_<;>intro hb|fail)
 refine kloop (ι:=Nat × Nat × List VkR) (fun q=>q.2.2.length) (fun q=>[(0,.one (.s 2 ((mkKs l0 k).map encK))),(1,nv q.1),(5,nv q.2.1)]) (fun _=>[]) (fun q=>q.2.1+q.2.2.length=l0.length∧q.1=k+2 * q.2.1∧(mkKs l0 k).drop q.2.1=mkKs q.2.2 q.1) (k,0,l0) ⟨by simp,rfl,rfl⟩ ?_ kwk
 rintro ⟨kk',j,todo⟩ ⟨q2,q3,q4⟩
 dsimp only at q2 q3 q4 ⊢
 cases todo with
 | nil=>
  simp only [List.length_nil,Nat.add_zero] at q2
  (repeat' first|(refine kk ?_;intros)|refine kfk ?_ ?_<;>intro hb|fail)
  exact kret (show nv kk'=nv (k+2 * l0.length) from congrArg nv (by omega))
 | cons x rest=>
  simp only [List.length_cons] at q2
  have hrow:((mkKs l0 k).map encK)[j]?=some [.v (.int .i64 ((kk':Nat):Int)),.v (.int .i64 ((kk'+1:Nat):Int))]:=by
   rw [List.getElem?_map]
   have:(mkKs l0 k)[j]?=some (((kk':Nat):Int),((kk'+1:Nat):Int)):=by
    rw [← Nat.add_zero j,← List.getElem?_drop,q4];rfl
   rw [this];rfl
  (repeat' first|(refine kk ?_;intros)|refine kfk ?_ ?_<;>intro hb|fail)
  exact ⟨(kk'+2,j+1,rest),by simp only [List.length_cons];omega,⟨by simp only;omega,by simp only;omega,by rw [← List.drop_drop,q4];rfl⟩,kwk⟩⟩
instance heldMs_c:Con2 Tryz.prog 90 (List MkR) Nat (fun l=>.one (.s 2 (l.map encM))) nv (fun l k=>nv (k+2 * l.length)) (fun l k=>∃ l0:List MkR,l=mkMs l0 k∧0 < k∧k+2 * l0.length≤100000000000000):=⟨fun l k ⟨l0,e1,h0,hk⟩=>by
 subst e1
 haveI:=markTextM_c
 refine pu Tryz.func90 rfl Tryz.ntmps90 rfl rfl fun C=>?_
 have hlt:((mkMs l0 k).map encM).length=l0.length:=by rw [List.length_map,mkMs_len]
 rw [mkMs_len]
 (repeat' first|(refine kk ?_;intros)|refine kfk ?_ ?_<;>intro hb|fail)
 refine kloop (ι:=Nat × Nat × List MkR) (fun q=>q.2.2.length) (fun q=>[(0,.one (.s 2 ((mkMs l0 k).map encM))),(1,nv q.1),(5,nv q.2.1)]) (fun _=>[]) (fun q=>q.2.1+q.2.2.length=l0.length∧q.1=k+2 * q.2.1∧(mkMs l0 k).drop q.2.1=mkMs q.2.2 q.1) (k,0,l0) ⟨by simp,rfl,rfl⟩ ?_ kwk
 rintro ⟨kk',j,todo⟩ ⟨q2,q3,q4⟩
 dsimp only at q2 q3 q4 ⊢
 cases todo with
 | nil=>
  simp only [List.length_nil,Nat.add_zero] at q2
  (repeat' first|(refine kk ?_;intros)|refine kfk ?_ ?_<;>intro hb|fail)
  exact kret (show nv kk'=nv (k+2 * l0.length) from congrArg nv (by omega))
 | cons x rest=>
  simp only [List.length_cons] at q2
  have hrow:((mkMs l0 k).map encM)[j]?=some [.v (.int .i64 ((kk':Nat):Int)),.v (.string (markTx (kk'+1)))]:=by
   rw [List.getElem?_map]
   have:(mkMs l0 k)[j]?=some (((kk':Nat):Int),markTx (kk'+1)):=by
    rw [← Nat.add_zero j,← List.getElem?_drop,q4];rfl
   rw [this];rfl
  have pm1:MkP ((kk'+1:Nat):Int):=⟨by omega,by omega⟩
  have e1:markTx (kk'+1)=markTx ((kk'+1:Nat):Int).toNat:=by rw [show ((kk'+1:Nat):Int).toNat=kk'+1 by omega]
  (repeat' first|(refine kk ?_;intros)|refine kfk ?_ ?_<;>intro hb|fail)
  exact ⟨(kk'+2,j+1,rest),by simp only [List.length_cons];omega,⟨by simp only;omega,by simp only;omega,by rw [← List.drop_drop,q4];rfl⟩,kwk⟩⟩
instance heldIs_c:Con2 Tryz.prog 97 (List Int) Nat (fun l=>.one (.s 1 (l.map encI))) nv (fun l k=>nv (k+1 * l.length)) (fun l k=>∃ l0:List Int,l=mkIs l0 k∧0 < k∧k+1 * l0.length≤100000000000000):=⟨fun l k ⟨l0,e1,h0,hk⟩=>by
 subst e1
 refine pu Tryz.func97 rfl Tryz.ntmps97 rfl rfl fun C=>?_
 have hlt:((mkIs l0 k).map encI).length=l0.length:=by rw [List.length_map,mkIs_len]
 rw [mkIs_len]
 (repeat' first|(refine kk ?_;intros)|refine kfk ?_ ?_<;>intro hb|fail)
 refine kloop (ι:=Nat × Nat × List Int) (fun q=>q.2.2.length) (fun q=>[(0,.one (.s 1 ((mkIs l0 k).map encI))),(1,nv q.1),(5,nv q.2.1)]) (fun _=>[]) (fun q=>q.2.1+q.2.2.length=l0.length∧q.1=k+1 * q.2.1∧(mkIs l0 k).drop q.2.1=mkIs q.2.2 q.1) (k,0,l0) ⟨by simp,rfl,rfl⟩ ?_ kwk
 rintro ⟨kk',j,todo⟩ ⟨q2,q3,q4⟩
 dsimp only at q2 q3 q4 ⊢
 cases todo with
 | nil=>
  simp only [List.length_nil,Nat.add_zero] at q2
  (repeat' first|(refine kk ?_;intros)|refine kfk ?_ ?_<;>intro hb|fail)
  exact kret (show nv kk'=nv (k+1 * l0.length) from congrArg nv (by omega))
 | cons x rest=>
  simp only [List.length_cons] at q2
  have hrow:((mkIs l0 k).map encI)[j]?=some [.v (.int .i64 ((kk':Nat):Int))]:=by
   rw [List.getElem?_map]
   have:(mkIs l0 k)[j]?=some ((kk':Nat):Int):=by
    rw [← Nat.add_zero j,← List.getElem?_drop,q4];rfl
   rw [this];rfl
  (repeat' first|(refine kk ?_;intros)|refine kfk ?_ ?_<;>intro hb|fail)
  exact ⟨(kk'+1,j+1,rest),by simp only [List.length_cons];omega,⟨by simp only;omega,by simp only;omega,by rw [← List.drop_drop,q4];rfl⟩,kwk⟩⟩
instance heldTs_c:Con2 Tryz.prog 139 (List Tm) Nat tsv nv (fun l k=>nv (k+3 * cnTs l)) (fun l k=>∃ l0:List Tm,l=mkTs l0 k∧0 < k∧k+3 * cnTs l0≤100000000000000):=.ind (fun l _=>cnTs l) fun N ih l k hN ⟨l0,e1,h0,hk⟩=>by
 subst e1
 haveI:=markTextM_c
 have hl0:=cnTs_len l0
 rw [cnTs_mk] at hN ⊢
 refine pu Tryz.func139 rfl Tryz.ntmps139 rfl rfl fun C=>?_
 have hlt:(rowsT (mkTs l0 k)).length=l0.length:=by rw [rowsT_len,mkTs_len]
 (repeat' first|(refine kk ?_;intros)|refine kfk ?_ ?_<;>intro hb|fail)
 refine kloop (ι:=Nat × Nat × List Tm) (fun q=>q.2.2.length) (fun q=>[(0,.one (.s 4 (rowsT (mkTs l0 k)))),(1,nv q.1),(5,nv q.2.1)]) (fun _=>[]) (fun q=>q.2.1+q.2.2.length=l0.length∧q.1+3 * cnTs q.2.2=k+3 * cnTs l0∧(k≤q.1∧(mkTs l0 k).drop q.2.1=mkTs q.2.2 q.1)) (k,0,l0) ⟨by simp,rfl,Nat.le_refl _,rfl⟩ ?_ kwk
 rintro ⟨kk',j,todo⟩ ⟨q2,q3,q1,q4⟩
 dsimp only at q1 q2 q3 q4 ⊢
 cases todo with
 | nil=>
  simp only [List.length_nil,Nat.add_zero,cnTs] at q2 q3
  (repeat' first|(refine kk ?_;intros)|refine kfk ?_ ?_<;>intro hb|fail)
  exact kret (show nv kk'=nv (k+3 * cnTs l0) from congrArg nv (by omega))
 | cons x rest=>
  obtain ⟨kd,kn,ks,kids⟩:=x
  simp only [List.length_cons,cnTs,Tm.cn] at q2 q3
  have hrow:(rowsT (mkTs l0 k))[j]?=some [.v (.int .i64 ((kk':Nat):Int)),.v (.int .i64 ((kk'+1:Nat):Int)),.v (.string (markTx (kk'+2))),.s 4 (rowsT (mkTs kids (kk'+3)))]:=by
   have:(mkTs l0 k)[j]?=some (.mk ((kk':Nat):Int) ((kk'+1:Nat):Int) (markTx (kk'+2)) (mkTs kids (kk'+3))):=by
    rw [← Nat.add_zero j,← List.getElem?_drop,q4];rfl
   rw [rowsT_get this];rfl
  have pm1:MkP ((kk'+2:Nat):Int):=⟨by omega,by omega⟩
  have e1:markTx (kk'+2)=markTx ((kk'+2:Nat):Int).toNat:=by rw [show ((kk'+2:Nat):Int).toNat=kk'+2 by omega]
  have p1:cnTs (mkTs kids (kk'+3)) < N∧∃ l1:List Tm,mkTs kids (kk'+3)=mkTs l1 (kk'+3)∧0 < kk'+3∧kk'+3+3 * cnTs l1≤100000000000000:=⟨by rw [cnTs_mk];omega,kids,rfl,by omega,by omega⟩
  have e3:=cnTs_mk kids (kk'+3)
  (repeat' first|(refine kkS [] [47] ?_;intros)|fail)
  rw [e3]
  (repeat' first|(refine kk ?_;intros)|refine kfk ?_ ?_<;>intro hb|fail)
  exact ⟨(kk'+3+3 * cnTs kids,j+1,rest),by simp only [List.length_cons];omega,⟨by simp only;omega,by simp only;omega,by simp only;omega,by rw [← List.drop_drop,q4];simp only [mkTs,Tm.cn,List.drop_one,List.tail_cons,show kk'+3 * (1+cnTs kids)=kk'+3+3 * cnTs kids by omega]⟩,kwk⟩
instance heldBs_c:Con2 Tryz.prog 87 (List BdR) Nat (fun l=>.one (.s 5 (l.map encB))) nv (fun l k=>nv (k+cnBs l)) (fun l k=>∃ l0:List BdR,l=mkBs l0 k∧0 < k∧k+cnBs l0≤100000000000000):=⟨fun l k ⟨l0,e1,h0,hk⟩=>by
 subst e1
 haveI:=markTextM_c
 have hl0:=cnBs_len l0
 rw [cnBs_mk]
 refine pu Tryz.func87 rfl Tryz.ntmps87 rfl rfl fun C=>?_
 have hlt:((mkBs l0 k).map encB).length=l0.length:=by rw [List.length_map,mkBs_len]
 (repeat' first|(refine kk ?_;intros)|refine kfk ?_ ?_<;>intro hb|fail)
 refine kloop (ι:=Nat × Nat × List BdR) (fun q=>q.2.2.length) (fun q=>[(0,.one (.s 5 ((mkBs l0 k).map encB))),(1,nv q.1),(5,nv q.2.1)]) (fun _=>[]) (fun q=>q.2.1+q.2.2.length=l0.length∧q.1+cnBs q.2.2=k+cnBs l0∧(0 < q.1∧(mkBs l0 k).drop q.2.1=mkBs q.2.2 q.1)) (k,0,l0) ⟨by simp,rfl,h0,rfl⟩ ?_ kwk
 rintro ⟨kk',j,todo⟩ ⟨q2,q3,q1,q4⟩
 dsimp only at q1 q2 q3 q4 ⊢
 cases todo with
 | nil=>
  simp only [List.length_nil,Nat.add_zero,cnBs] at q2 q3
  (repeat' first|(refine kk ?_;intros)|refine kfk ?_ ?_<;>intro hb|fail)
  exact kret (show nv kk'=nv (k+cnBs l0) from congrArg nv (by omega))
 | cons x rest=>
  obtain ⟨xv,kd,kn,ks,kids⟩:=x
  simp only [List.length_cons,cnBs,Tm.cn] at q2 q3
  have hrow:((mkBs l0 k).map encB)[j]?=some [.v (.int .i64 ((kk':Nat):Int)),.v (.int .i64 ((kk'+1:Nat):Int)),.v (.int .i64 ((kk'+2:Nat):Int)),.v (.string (markTx (kk'+3))),.s 4 (rowsT (mkTs kids (kk'+4)))]:=by
   rw [List.getElem?_map]
   have:(mkBs l0 k)[j]?=some (((kk':Nat):Int),.mk ((kk'+1:Nat):Int) ((kk'+2:Nat):Int) (markTx (kk'+3)) (mkTs kids (kk'+4))):=by
    rw [← Nat.add_zero j,← List.getElem?_drop,q4];rfl
   rw [this];rfl
  have pm1:MkP ((kk'+3:Nat):Int):=⟨by omega,by omega⟩
  have e1:markTx (kk'+3)=markTx ((kk'+3:Nat):Int).toNat:=by rw [show ((kk'+3:Nat):Int).toNat=kk'+3 by omega]
  have p1:∃ l1:List Tm,mkTs kids (kk'+4)=mkTs l1 (kk'+4)∧0 < kk'+4∧kk'+4+3 * cnTs l1≤100000000000000:=⟨kids,rfl,by omega,by omega⟩
  have e3:=cnTs_mk kids (kk'+4)
  (repeat' first|(refine kkS [] [60] ?_;intros)|fail)
  rw [e3]
  (repeat' first|(refine kk ?_;intros)|refine kfk ?_ ?_<;>intro hb|fail)
  exact ⟨(kk'+4+3 * cnTs kids,j+1,rest),by simp only [List.length_cons];omega,⟨by simp only;omega,by simp only;omega,by simp only;omega,by rw [← List.drop_drop,q4];simp only [mkBs,Tm.cn,List.drop_one,List.tail_cons,show kk'+(1+3 * (1+cnTs kids))=kk'+4+3 * cnTs kids by omega]⟩,kwk⟩⟩
instance heldDs_c:Con2 Tryz.prog 88 (List (List BdR)) Nat (fun l=>.one (.s 1 (l.map (encL 5 encB)))) nv (fun l k=>nv (k+cnDs l)) (fun l k=>∃ l0:List (List BdR),l=mkDs l0 k∧(0 < k∧l0.length≤1000000)∧k+cnDs l0≤100000000000000):=⟨fun l k ⟨l0,e1,⟨h0,hl0⟩,hk⟩=>by
 subst e1
 rw [cnDs_mk]
 refine pu Tryz.func88 rfl Tryz.ntmps88 rfl rfl fun C=>?_
 have hlt:((mkDs l0 k).map (encL 5 encB)).length=l0.length:=by rw [List.length_map,mkDs_len]
 (repeat' first|(refine kk ?_;intros)|refine kfk ?_ ?_<;>intro hb|fail)
 refine kloop (ι:=Nat × Nat × List (List BdR)) (fun q=>q.2.2.length) (fun q=>[(0,.one (.s 1 ((mkDs l0 k).map (encL 5 encB)))),(1,nv q.1),(5,nv q.2.1)]) (fun _=>[]) (fun q=>q.2.1+q.2.2.length=l0.length∧q.1+cnDs q.2.2=k+cnDs l0∧(0 < q.1∧(mkDs l0 k).drop q.2.1=mkDs q.2.2 q.1)) (k,0,l0) ⟨by simp,rfl,h0,rfl⟩ ?_ kwk
 rintro ⟨kk',j,todo⟩ ⟨q2,q3,q1,q4⟩
 dsimp only at q1 q2 q3 q4 ⊢
 cases todo with
 | nil=>
  simp only [List.length_nil,Nat.add_zero,cnDs] at q2 q3
  (repeat' first|(refine kk ?_;intros)|refine kfk ?_ ?_<;>intro hb|fail)
  exact kret (show nv kk'=nv (k+cnDs l0) from congrArg nv (by omega))
 | cons x rest=>
  simp only [List.length_cons,cnDs] at q2 q3
  have hrow:((mkDs l0 k).map (encL 5 encB))[j]?=some [.s 5 ((mkBs x kk').map encB)]:=by
   rw [List.getElem?_map]
   have:(mkDs l0 k)[j]?=some (mkBs x kk'):=by
    rw [← Nat.add_zero j,← List.getElem?_drop,q4];rfl
   rw [this];rfl
  have p1:∃ l1:List BdR,mkBs x kk'=mkBs l1 kk'∧0 < kk'∧kk'+cnBs l1≤100000000000000:=⟨x,rfl,by omega,by omega⟩
  have e3:=cnBs_mk x kk'
  (repeat' first|(refine kkS [] [18] ?_;intros)|fail)
  rw [e3]
  (repeat' first|(refine kk ?_;intros)|refine kfk ?_ ?_<;>intro hb|fail)
  exact ⟨(kk'+cnBs x,j+1,rest),by simp only [List.length_cons];omega,⟨by simp only;omega,by simp only;omega,by simp only;omega,by rw [← List.drop_drop,q4];rfl⟩,kwk⟩⟩
end
end Go.Proofs.YtejkllmoofdpjaaGreat
