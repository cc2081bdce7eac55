/- Parts of the proof: VXD. -/
import Derived.Test.YtejkllmoofdpjaaGreatP48
namespace Go.Proofs.YtejkllmoofdpjaaGreat
open Go
set_option linter.all false
set_option maxRecDepth 100000
set_option maxHeartbeats 4000000
noncomputable section
open Classical
mutual
/-- how many terms -/
def Tm.cn:Tm→Nat
 | .mk _ _ _ l=>1+cnTs l
def cnTs:List Tm→Nat
 | []=>0
 | t::l=>t.cn+cnTs l
end
mutual
/-- a term with marks -/
def Tm.mkd:Tm→Nat→Tm
 | .mk _ _ _ l,k=>.mk ((k:Nat):Int) ((k+1:Nat):Int) (markTx (k+2)) (mkTs l (k+3))
def mkTs:List Tm→Nat→List Tm
 | [],_=>[]
 | t::l,k=>t.mkd k::mkTs l (k+3 * t.cn)
end
mutual
theorem Tm.cn_mkd:∀ (t:Tm) (k:Nat),(t.mkd k).cn=t.cn
 | .mk _ _ _ l,k=>by simp only [Tm.mkd,Tm.cn,cnTs_mk l]
theorem cnTs_mk:∀ (l:List Tm) (k:Nat),cnTs (mkTs l k)=cnTs l
 | [],_=>rfl
 | t::l,k=>by simp only [mkTs,cnTs,t.cn_mkd,cnTs_mk l]
end
theorem mkTs_len:∀ (l:List Tm) (k:Nat),(mkTs l k).length=l.length
 | [],_=>rfl
 | t::l,k=>congrArg (·+1) (mkTs_len l _)
theorem cnTs_len:∀ l:List Tm,l.length≤cnTs l
 | []=>Nat.le_refl _
 | .mk _ _ _ _::l=>by
  have:=cnTs_len l
  simp only [cnTs,Tm.cn,List.length_cons];omega
def cnBs:List BdR→Nat
 | []=>0
 | b::l=>(1+3 * b.2.cn)+cnBs l
def mkBs:List BdR→Nat→List BdR
 | [],_=>[]
 | b::l,k=>(((k:Nat):Int),b.2.mkd (k+1))::mkBs l (k+(1+3 * b.2.cn))
theorem cnBs_mk:∀ (l:List BdR) (k:Nat),cnBs (mkBs l k)=cnBs l
 | [],_=>rfl
 | t::l,k=>by simp only [mkBs,cnBs,Tm.cn_mkd,cnBs_mk l]
theorem mkBs_len:∀ (l:List BdR) (k:Nat),(mkBs l k).length=l.length
 | [],_=>rfl
 | t::l,k=>congrArg (·+1) (mkBs_len l _)
theorem cnBs_len:∀ l:List BdR,l.length≤cnBs l
 | []=>Nat.le_refl _
 | _::l=>by
  have:=cnBs_len l
  simp only [cnBs,List.length_cons];omega
def cnDs:List (List BdR)→Nat
 | []=>0
 | b::l=>cnBs b+cnDs l
def mkDs:List (List BdR)→Nat→List (List BdR)
 | [],_=>[]
 | b::l,k=>mkBs b k::mkDs l (k+cnBs b)
theorem cnDs_mk:∀ (l:List (List BdR)) (k:Nat),cnDs (mkDs l k)=cnDs l
 | [],_=>rfl
 | t::l,k=>by simp only [mkDs,cnDs,cnBs_mk,cnDs_mk l]
theorem mkDs_len:∀ (l:List (List BdR)) (k:Nat),(mkDs l k).length=l.length
 | [],_=>rfl
 | t::l,k=>congrArg (·+1) (mkDs_len l _)
def mkKs:List VkR→Nat→List VkR
 | [],_=>[]
 | _::l,k=>(((k:Nat):Int),((k+1:Nat):Int))::mkKs l (k+2)
theorem mkKs_len:∀ (l:List VkR) (k:Nat),(mkKs l k).length=l.length
 | [],_=>rfl
 | _::l,k=>congrArg (·+1) (mkKs_len l _)
def mkMs:List MkR→Nat→List MkR
 | [],_=>[]
 | _::l,k=>(((k:Nat):Int),markTx (k+1))::mkMs l (k+2)
theorem mkMs_len:∀ (l:List MkR) (k:Nat),(mkMs l k).length=l.length
 | [],_=>rfl
 | _::l,k=>congrArg (·+1) (mkMs_len l _)
def mkIs:List Int→Nat→List Int
 | [],_=>[]
 | _::l,k=>((k:Nat):Int)::mkIs l (k+1)
theorem mkIs_len:∀ (l:List Int) (k:Nat),(mkIs l k).length=l.length
 | [],_=>rfl
 | _::l,k=>congrArg (·+1) (mkIs_len l _)
def StR.cn (s:StR):Nat:=cnBs s.bind+(cnDs s.dis+(2 * s.kinds.length+2 * s.marks.length))
def StR.mkd (s:StR) (n:Int) (k:Nat):StR:=⟨n,mkBs s.bind k,mkDs s.dis (k+cnBs s.bind),mkKs s.kinds (k+cnBs s.bind+cnDs s.dis),mkMs s.marks (k+cnBs s.bind+cnDs s.dis+2 * s.kinds.length)⟩
theorem StR.cn_mkd (s:StR) (n:Int) (k:Nat):(s.mkd n k).cn=s.cn:=by simp only [StR.cn,StR.mkd,cnBs_mk,cnDs_mk,mkKs_len,mkMs_len]
def FdR.cn (x:FdR):Nat:=2+x.1.st.cn+x.1.ch.length
def FdR.mkd (x:FdR) (k:Nat):FdR:=(⟨x.1.st.mkd ((k:Nat):Int) (k+1),mkIs x.1.ch (k+1+x.1.st.cn)⟩,((k+1+x.1.st.cn+x.1.ch.length:Nat):Int))
def cnFs:List FdR→Nat
 | []=>0
 | b::l=>FdR.cn b+cnFs l
def mkFs:List FdR→Nat→List FdR
 | [],_=>[]
 | b::l,k=>FdR.mkd b k::mkFs l (k+FdR.cn b)
theorem cnFs_mk:∀ (l:List FdR) (k:Nat),cnFs (mkFs l k)=cnFs l
 | [],_=>rfl
 | t::l,k=>by simp only [mkFs,cnFs,FdR.mkd,FdR.cn,StR.cn_mkd,mkIs_len,cnFs_mk l]
theorem mkFs_len:∀ (l:List FdR) (k:Nat),(mkFs l k).length=l.length
 | [],_=>rfl
 | t::l,k=>congrArg (·+1) (mkFs_len l _)
theorem cnFs_len:∀ l:List FdR,l.length≤cnFs l
 | []=>Nat.le_refl _
 | _::l=>by
  have:=cnFs_len l
  simp only [cnFs,FdR.cn,List.length_cons];omega
theorem markKs_c (l:List VkR) (u:Value) (k:Nat) (h0:0 < k) (hk:k+2 * l.length≤100000000000000):Spec Tryz.prog 85 [.one (.v u),nv k] [arow 186 2 u (l.map encK)] fun v A'=>v=nv (k+2 * l.length)∧A'=[arow 186 2 u ((mkKs l k).map encK)]:=by
 refine sp Tryz.func85 rfl Tryz.ntmps85 rfl rfl fun C=>?_
 (repeat' first|(refine kk ?_;intros)|refine kfk ?_ ?_<;>intro hb|fail)
 refine kloop (ι:=Nat × List VkR × List VkR) (fun q=>q.2.2.length) (fun q=>[(0,.one (.v u)),(1,nv q.1),(5,nv q.2.1.length)]) (fun q=>[arow 186 2 u (q.2.1.map encK++q.2.2.map encK)]) (fun q=>q.2.1.length+q.2.2.length=l.length∧q.1=k+2 * q.2.1.length∧mkKs l k=q.2.1++mkKs q.2.2 q.1) (k,[],l) ⟨by simp,rfl,rfl⟩ ?_ kwk
 rintro ⟨kk',pre,todo⟩ ⟨q2,q3,q4⟩
 dsimp only at q2 q3 q4 ⊢
 cases todo with
 | nil=>
  have hfl:(pre.map encK++List.map encK []).length=pre.length:=by simp
  (repeat' first|(refine kk ?_;intros)|refine kfk ?_ ?_<;>intro hb|fail)
  simp only [List.length_nil,Nat.add_zero] at q2
  refine ker1 (A'':=[arow 186 2 u (pre.map encK++List.map encK [])]) (nv kk') ⟨by rw [q3,q2],?_⟩
  rw [q4];simp [mkKs]
 | cons x rest=>
  refine AW_rowU (List.Mem.head _) fun hu=>?_
  rcases hu with ⟨_,hu⟩ | ⟨b,c,rfl⟩
  ·simp at hu
  simp only [List.length_cons] at q2
  have hfl:(pre.map encK++List.map encK (x::rest)).length=pre.length+(rest.length+1):=by simp
  have hpl:∀ r:VkR,nv (pre++[r]).length=iv ((pre.length:Int)+1):=fun r=>by simp
  (repeat' first|(refine kk ?_;intros)|refine kfk ?_ ?_<;>intro hb|fail)
  refine kstM 0 ?_
  (repeat' first|(refine kk ?_;intros)|refine kfk ?_ ?_<;>intro hb|fail)
  refine kstM 1 ?_
  (repeat' first|(refine kk ?_;intros)|refine kfk ?_ ?_<;>intro hb|fail)
  refine ⟨(kk'+2,pre++[(((kk':Nat):Int),((kk'+1:Nat):Int))],rest),by simp only [List.length_cons];omega,⟨by simp only [List.length_append,List.length_cons,List.length_nil];omega,by simp only [List.length_append,List.length_cons,List.length_nil];omega,by rw [q4];simp [mkKs]⟩,⟨leF_fl (by dsimp only;rw [hpl];exact wL),_,.refl _,?_⟩⟩
  dsimp only
  rw [List.map_append,List.append_assoc]
  exact List.Sublist.refl _
theorem markMs_c (l:List MkR) (u:Value) (k:Nat) (h0:0 < k) (hk:k+2 * l.length≤100000000000000):Spec Tryz.prog 86 [.one (.v u),nv k] [arow 189 2 u (l.map encM)] fun v A'=>v=nv (k+2 * l.length)∧A'=[arow 189 2 u ((mkMs l k).map encM)]:=by
 haveI:=markTextM_c
 refine sp Tryz.func86 rfl Tryz.ntmps86 rfl rfl fun C=>?_
 (repeat' first|(refine kk ?_;intros)|refine kfk ?_ ?_<;>intro hb|fail)
 refine kloop (ι:=Nat × List MkR × List MkR) (fun q=>q.2.2.length) (fun q=>[(0,.one (.v u)),(1,nv q.1),(5,nv q.2.1.length)]) (fun q=>[arow 189 2 u (q.2.1.map encM++q.2.2.map encM)]) (fun q=>q.2.1.length+q.2.2.length=l.length∧q.1=k+2 * q.2.1.length∧mkMs l k=q.2.1++mkMs q.2.2 q.1) (k,[],l) ⟨by simp,rfl,rfl⟩ ?_ kwk
 rintro ⟨kk',pre,todo⟩ ⟨q2,q3,q4⟩
 dsimp only at q2 q3 q4 ⊢
 cases todo with
 | nil=>
  have hfl:(pre.map encM++List.map encM []).length=pre.length:=by simp
  (repeat' first|(refine kk ?_;intros)|refine kfk ?_ ?_<;>intro hb|fail)
  simp only [List.length_nil,Nat.add_zero] at q2
  refine ker1 (A'':=[arow 189 2 u (pre.map encM++List.map encM [])]) (nv kk') ⟨by rw [q3,q2],?_⟩
  rw [q4];simp [mkMs]
 | cons x rest=>
  refine AW_rowU (List.Mem.head _) fun hu=>?_
  rcases hu with ⟨_,hu⟩ | ⟨b,c,rfl⟩
  ·simp at hu
  simp only [List.length_cons] at q2
  have hfl:(pre.map encM++List.map encM (x::rest)).length=pre.length+(rest.length+1):=by simp
  have hpl:∀ r:MkR,nv (pre++[r]).length=iv ((pre.length:Int)+1):=fun r=>by simp
  have pm1:MkP ((kk'+1:Nat):Int):=⟨by omega,by omega⟩
  have e1:((kk'+1:Nat):Int).toNat=kk'+1:=by omega
  (repeat' first|(refine kk ?_;intros)|refine kfk ?_ ?_<;>intro hb|fail)
  refine kstM 0 ?_
  (repeat' first|(refine kk ?_;intros)|refine kfk ?_ ?_<;>intro hb|fail)
  refine kstM 1 ?_
  rw [e1]
  (repeat' first|(refine kk ?_;intros)|refine kfk ?_ ?_<;>intro hb|fail)
  refine ⟨(kk'+2,pre++[(((kk':Nat):Int),markTx (kk'+1))],rest),by simp only [List.length_cons];omega,⟨by simp only [List.length_append,List.length_cons,List.length_nil];omega,by simp only [List.length_append,List.length_cons,List.length_nil];omega,by rw [q4];simp [mkMs]⟩,⟨leF_fl (by dsimp only;rw [hpl];exact wL),_,.refl _,?_⟩⟩
  dsimp only
  rw [List.map_append,List.append_assoc]
  exact List.Sublist.refl _
theorem markIs_c (l:List Int) (u:Value) (k:Nat) (h0:0 < k) (hk:k+1 * l.length≤100000000000000):Spec Tryz.prog 32 [.one (.v u),nv k] [arow 3 1 u (l.map encI)] fun v A'=>v=nv (k+1 * l.length)∧A'=[arow 3 1 u ((mkIs l k).map encI)]:=by
 refine sp Tryz.func32 rfl Tryz.ntmps32 rfl rfl fun C=>?_
 (repeat' first|(refine kk ?_;intros)|refine kfk ?_ ?_<;>intro hb|fail)
 refine kloop (ι:=Nat × List Int × List Int) (fun q=>q.2.2.length) (fun q=>[(0,.one (.v u)),(1,nv q.1),(5,nv q.2.1.length)]) (fun q=>[arow 3 1 u (q.2.1.map encI++q.2.2.map encI)]) (fun q=>q.2.1.length+q.2.2.length=l.length∧q.1=k+1 * q.2.1.length∧mkIs l k=q.2.1++mkIs q.2.2 q.1) (k,[],l) ⟨by simp,rfl,rfl⟩ ?_ kwk
 rintro ⟨kk',pre,todo⟩ ⟨q2,q3,q4⟩
 dsimp only at q2 q3 q4 ⊢
 cases todo with
 | nil=>
  have hfl:(pre.map encI++List.map encI []).length=pre.length:=by simp
  (repeat' first|(refine kk ?_;intros)|refine kfk ?_ ?_<;>intro hb|fail)
  simp only [List.length_nil,Nat.add_zero] at q2
  refine ker1 (A'':=[arow 3 1 u (pre.map encI++List.map encI [])]) (nv kk') ⟨by rw [q3,q2],?_⟩
  rw [q4];simp [mkIs]
 | cons x rest=>
  refine AW_rowU (List.Mem.head _) fun hu=>?_
  rcases hu with ⟨_,hu⟩ | ⟨b,c,rfl⟩
  ·simp at hu
  simp only [List.length_cons] at q2
  have hfl:(pre.map encI++List.map encI (x::rest)).length=pre.length+(rest.length+1):=by simp
  have hpl:∀ r:Int,nv (pre++[r]).length=iv ((pre.length:Int)+1):=fun r=>by simp
  (repeat' first|(refine kk ?_;intros)|refine kfk ?_ ?_<;>intro hb|fail)
  refine kstM 0 ?_
  (repeat' first|(refine kk ?_;intros)|refine kfk ?_ ?_<;>intro hb|fail)
  refine ⟨(kk'+1,pre++[((kk':Nat):Int)],rest),by simp only [List.length_cons];omega,⟨by simp only [List.length_append,List.length_cons,List.length_nil];omega,by simp only [List.length_append,List.length_cons,List.length_nil];omega,by rw [q4];simp [mkIs]⟩,⟨leF_fl (by dsimp only;rw [hpl];exact wL),_,.refl _,?_⟩⟩
  dsimp only
  rw [List.map_append,List.append_assoc]
  exact List.Sublist.refl _
theorem perm_end {l m r:List Atm}:(l++(m++r)).Perm ((l++r)++m):=by
 rw [List.append_assoc]
 exact (List.perm_append_comm (l₁:=m) (l₂:=r)).append_left l
theorem perm_end2 {l m r:List Atm}:((l++m)++r).Perm ((l++r)++m):=by
 rw [List.append_assoc];exact perm_end
theorem perm_mid {x:Atm} {l m r:List Atm}:(x::(l++(m++r))).Perm ((x::(l++r))++m):=perm_end.cons x
theorem atsO_snoc (l:List OT) (k n:Int) (s:ByteArray) (u:Value) (ks:List OT):atsO (l++[.mk k n s u ks])=atsO l++SL u ks:=by rw [atsO_app,atsO_cons];simp [atsO]
theorem markTsM_c:∀ (N:Nat) (l:List OT) (u:Value) (k:Nat),SizeOf.sizeOf l=N→0 < k→k+3 * cnTs (tmO l)≤100000000000000→Spec Tryz.prog 81 [.one (.v u),nv k] (SL u l) fun v A'=>v=nv (k+3 * cnTs (tmO l))∧∃ l',tmO l'=mkTs (tmO l) k∧A'=SL u l':=fun N=>by
 induction N using Nat.strongRecOn with
 | _ N ih=>
  intro l u k hN h0 hk
  haveI:=markTextM_c
  have hln:=cnTs_len (tmO l)
  rw [tmO_len] at hln
  refine sp Tryz.func81 rfl Tryz.ntmps81 rfl rfl fun C=>?_
  (repeat' first|(refine kk ?_;intros)|refine kfk ?_ ?_<;>intro hb|fail)
  refine kloop (ι:=Nat × List OT × List OT) (fun q=>q.2.2.length) (fun q=>[(0,.one (.v u)),(1,nv q.1),(5,nv q.2.1.length)]) (fun q=>arow 174 4 u (q.2.1.map OT.row++q.2.2.map OT.row)::(atsO q.2.1++atsO q.2.2)) (fun q=>(0 < q.1∧∀ x∈q.2.2,x∈l)∧q.2.1.length+q.2.2.length=l.length∧q.1+3 * cnTs (tmO q.2.2)=k+3 * cnTs (tmO l)∧mkTs (tmO l) k=tmO q.2.1++mkTs (tmO q.2.2) q.1) (k,[],l) ⟨⟨h0,fun _ h=>h⟩,by simp,rfl,rfl⟩ ?_ kwk
  rintro ⟨kk',pre,todo⟩ ⟨⟨q1,q5⟩,q2,q3,q4⟩
  dsimp only at q1 q2 q3 q4 q5 ⊢
  cases todo with
  | nil=>
   have hfl:(pre.map OT.row++List.map OT.row []).length=pre.length:=by simp
   (repeat' first|(refine kk ?_;intros)|refine kfk ?_ ?_<;>intro hb|fail)
   simp only [tmO,cnTs,Nat.mul_zero,Nat.add_zero,mkTs,List.append_nil] at q3 q4
   refine ker1 (nv kk') ⟨by rw [q3],pre,q4.symm,rfl⟩ (hs:=?_)
   simp only [List.map_nil,List.append_nil,atsO]
   exact List.Sublist.refl _
  | cons x rest=>
   have hx:=q5 x (List.Mem.head _)
   have q6:∀ x∈rest,x∈l:=fun y hy=>q5 y (List.Mem.tail _ hy)
   obtain ⟨kd,kn,ks,ux,kids⟩:=x
   rw [atsO_cons]
   refine AW_rowU (List.Mem.head _) fun hu=>?_
   rcases hu with ⟨_,hu⟩ | ⟨b,c,rfl⟩
   ·simp at hu
   simp only [List.length_cons] at q2
   simp only [tmO,OT.tm,cnTs,Tm.cn,mkTs,Tm.mkd] at q3 q4
   have hfl:(pre.map OT.row++List.map OT.row (OT.mk kd kn ks ux kids::rest)).length=pre.length+(rest.length+1):=by simp
   have hpl:∀ r:OT,nv (pre++[r]).length=iv ((pre.length:Int)+1):=fun r=>by simp
   have pm1:MkP ((kk'+2:Nat):Int):=⟨by omega,by omega⟩
   have e1:((kk'+2:Nat):Int).toNat=kk'+2:=by omega
   (repeat' first|(refine kk ?_;intros)|refine kfk ?_ ?_<;>intro hb|fail)
   refine kstM 0 ?_
   (repeat' first|(refine kk ?_;intros)|refine kfk ?_ ?_<;>intro hb|fail)
   refine kstM 1 ?_
   (repeat' first|(refine kk ?_;intros)|refine kfk ?_ ?_<;>intro hb|fail)
   refine kstM 2 ?_
   rw [e1]
   (repeat' first|(refine kkS [] [38] ?_;intros)|fail)
   refine kr ?_ (h:=P_load1R (j:=pre.length) (o:=3) (sz:=4) _ rfl (List.Mem.head _) get_midM rfl)
   (repeat' first|(refine kkS [81] [] ?_;intros)|refine kfS [81] [] ?_ ?_<;>intro hb|fail)
   refine kcs (A1:=_::(atsO pre++atsO rest)) (h:=ih _ (by have:=List.sizeOf_lt_of_mem hx;simp only [OT.mk.sizeOf_spec] at this;omega) kids ux (kk'+3) rfl (by omega) (by omega)) ?_ (hA:=perm_mid)
   rintro _ A' ⟨rfl,kids',hk',rfl⟩
   (repeat' first|(refine kk ?_;intros)|refine kfk ?_ ?_<;>intro hb|fail)
   refine ⟨(kk'+3+3 * cnTs (tmO kids),pre++[.mk kk' ((kk'+1:Nat):Int) (markTx (kk'+2)) ux kids'],rest),by simp only [List.length_cons];omega,⟨⟨by simp only;omega,q6⟩,by simp only [List.length_append,List.length_cons,List.length_nil];omega,by simp only;omega,?_⟩,⟨leF_fl (by dsimp only;rw [hpl];exact wL),_,?_,.refl _⟩⟩
   ·dsimp only
    rw [q4,tmO_app,List.append_assoc]
    simp only [tmO,OT.tm,hk',List.cons_append,List.nil_append,show kk'+3 * (1+cnTs (tmO kids))=kk'+3+3 * cnTs (tmO kids) by omega]
   ·dsimp only
    rw [List.map_append,List.append_assoc,atsO_snoc]
    exact .cons _ perm_end2
theorem atsB_cons {v k n:Int} {s:ByteArray} {u:Value} {l:List OT} {r:List OB}:atsB (⟨v,.mk k n s u l⟩::r)=SL u l++atsB r:=by simp only [atsB,OT.ats]
theorem atsB_snoc (l:List OB) (v k n:Int) (s:ByteArray) (u:Value) (ks:List OT):atsB (l++[⟨v,.mk k n s u ks⟩])=atsB l++SL u ks:=by rw [atsB_app,atsB_cons];simp [atsB]
theorem markBsM_c (l:List OB) (u:Value) (k:Nat) (h0:0 < k) (hk:k+cnBs (l.map OB.bd)≤100000000000000):Spec Tryz.prog 83 [.one (.v u),nv k] (SBd u l) fun v A'=>v=nv (k+cnBs (l.map OB.bd))∧∃ l',l'.map OB.bd=mkBs (l.map OB.bd) k∧A'=SBd u l':=by
 haveI:=markTextM_c
 have hln:=cnBs_len (l.map OB.bd)
 rw [List.length_map] at hln
 refine sp Tryz.func83 rfl Tryz.ntmps83 rfl rfl fun C=>?_
 (repeat' first|(refine kk ?_;intros)|refine kfk ?_ ?_<;>intro hb|fail)
 refine kloop (ι:=Nat × List OB × List OB) (fun q=>q.2.2.length) (fun q=>[(0,.one (.v u)),(1,nv q.1),(5,nv q.2.1.length)]) (fun q=>arow 183 5 u (q.2.1.map OB.row++q.2.2.map OB.row)::(atsB q.2.1++atsB q.2.2)) (fun q=>0 < q.1∧q.2.1.length+q.2.2.length=l.length∧q.1+cnBs (q.2.2.map OB.bd)=k+cnBs (l.map OB.bd)∧mkBs (l.map OB.bd) k=q.2.1.map OB.bd++mkBs (q.2.2.map OB.bd) q.1) (k,[],l) ⟨h0,by simp,rfl,rfl⟩ ?_ kwk
 rintro ⟨kk',pre,todo⟩ ⟨q1,q2,q3,q4⟩
 dsimp only at q1 q2 q3 q4 ⊢
 cases todo with
 | nil=>
  have hfl:(pre.map OB.row++List.map OB.row []).length=pre.length:=by simp
  (repeat' first|(refine kk ?_;intros)|refine kfk ?_ ?_<;>intro hb|fail)
  simp only [List.map_nil,cnBs,Nat.add_zero,mkBs,List.append_nil] at q3 q4
  refine ker1 (nv kk') ⟨by rw [q3],pre,q4.symm,rfl⟩ (hs:=?_)
  simp only [List.map_nil,List.append_nil,atsB]
  exact List.Sublist.refl _
 | cons x rest=>
  obtain ⟨xv,kd,kn,ks,ux,kids⟩:=x
  rw [atsB_cons]
  refine AW_rowU (List.Mem.head _) fun hu=>?_
  rcases hu with ⟨_,hu⟩ | ⟨b,c,rfl⟩
  ·simp at hu
  simp only [List.length_cons] at q2
  simp only [List.map_cons,OB.bd,OT.tm,cnBs,Tm.cn,mkBs,Tm.mkd] at q3 q4
  have hfl:(pre.map OB.row++List.map OB.row (⟨xv,.mk kd kn ks ux kids⟩::rest)).length=pre.length+(rest.length+1):=by simp
  have hpl:∀ r:OB,nv (pre++[r]).length=iv ((pre.length:Int)+1):=fun r=>by simp
  have pm1:MkP ((kk'+3:Nat):Int):=⟨by omega,by omega⟩
  have e1:((kk'+3:Nat):Int).toNat=kk'+3:=by omega
  (repeat' first|(refine kk ?_;intros)|refine kfk ?_ ?_<;>intro hb|fail)
  refine kstM 0 ?_
  (repeat' first|(refine kk ?_;intros)|refine kfk ?_ ?_<;>intro hb|fail)
  refine kstM 1 ?_
  (repeat' first|(refine kk ?_;intros)|refine kfk ?_ ?_<;>intro hb|fail)
  refine kstM 2 ?_
  (repeat' first|(refine kk ?_;intros)|refine kfk ?_ ?_<;>intro hb|fail)
  refine kstM 3 ?_
  rw [e1]
  (repeat' first|(refine kkS [] [49] ?_;intros)|fail)
  refine kr ?_ (h:=P_load1R (j:=pre.length) (o:=4) (sz:=5) _ rfl (List.Mem.head _) get_midM rfl)
  (repeat' first|(refine kkS [81] [] ?_;intros)|refine kfS [81] [] ?_ ?_<;>intro hb|fail)
  refine kcs (A1:=_::(atsB pre++atsB rest)) (h:=markTsM_c _ kids ux (kk'+4) rfl (by omega) (by omega)) ?_ (hA:=perm_mid)
  rintro _ A' ⟨rfl,kids',hk',rfl⟩
  (repeat' first|(refine kk ?_;intros)|refine kfk ?_ ?_<;>intro hb|fail)
  refine ⟨(kk'+4+3 * cnTs (tmO kids),pre++[⟨kk',.mk ((kk'+1:Nat):Int) ((kk'+2:Nat):Int) (markTx (kk'+3)) ux kids'⟩],rest),by simp only [List.length_cons];omega,⟨by simp only;omega,by simp only [List.length_append,List.length_cons,List.length_nil];omega,by simp only;omega,?_⟩,⟨leF_fl (by dsimp only;rw [hpl];exact wL),_,?_,.refl _⟩⟩
  ·dsimp only
   rw [q4,List.map_append,List.append_assoc]
   simp only [List.map_cons,List.map_nil,OB.bd,OT.tm,hk',List.cons_append,List.nil_append,Nat.add_assoc,show kk'+(1+3 * (1+cnTs (tmO kids)))=kk'+(4+3 * cnTs (tmO kids)) by omega]
  ·dsimp only
   rw [List.map_append,List.append_assoc,atsB_snoc]
   exact .cons _ perm_end2
theorem atsD_cons {u:Value} {l:List OB} {r:List OD}:atsD (⟨u,l⟩::r)=SBd u l++atsD r:=rfl
theorem atsD_snoc (l:List OD) (u:Value) (ks:List OB):atsD (l++[⟨u,ks⟩])=atsD l++SBd u ks:=by rw [atsD_app,atsD_cons];simp [atsD]
theorem markDsM_c (l:List OD) (u:Value) (k:Nat) (h0:0 < k) (hl:l.length≤1000000) (hk:k+cnDs (l.map OD.bs)≤100000000000000):Spec Tryz.prog 84 [.one (.v u),nv k] (SDs u l) fun v A'=>v=nv (k+cnDs (l.map OD.bs))∧∃ l',l'.map OD.bs=mkDs (l.map OD.bs) k∧A'=SDs u l':=by
 refine sp Tryz.func84 rfl Tryz.ntmps84 rfl rfl fun C=>?_
 (repeat' first|(refine kk ?_;intros)|refine kfk ?_ ?_<;>intro hb|fail)
 refine kloop (ι:=Nat × List OD × List OD) (fun q=>q.2.2.length) (fun q=>[(0,.one (.v u)),(1,nv q.1),(5,nv q.2.1.length)]) (fun q=>arow 48 1 u (q.2.1.map OD.row++q.2.2.map OD.row)::(atsD q.2.1++atsD q.2.2)) (fun q=>0 < q.1∧q.2.1.length+q.2.2.length=l.length∧q.1+cnDs (q.2.2.map OD.bs)=k+cnDs (l.map OD.bs)∧mkDs (l.map OD.bs) k=q.2.1.map OD.bs++mkDs (q.2.2.map OD.bs) q.1) (k,[],l) ⟨h0,by simp,rfl,rfl⟩ ?_ kwk
 rintro ⟨kk',pre,todo⟩ ⟨q1,q2,q3,q4⟩
 dsimp only at q1 q2 q3 q4 ⊢
 cases todo with
 | nil=>
  have hfl:(pre.map OD.row++List.map OD.row []).length=pre.length:=by simp
  (repeat' first|(refine kk ?_;intros)|refine kfk ?_ ?_<;>intro hb|fail)
  simp only [List.map_nil,cnDs,Nat.add_zero,mkDs,List.append_nil] at q3 q4
  refine ker1 (nv kk') ⟨by rw [q3],pre,q4.symm,rfl⟩ (hs:=?_)
  simp only [List.map_nil,List.append_nil,atsD]
  exact List.Sublist.refl _
 | cons x rest=>
  obtain ⟨ux,kids⟩:=x
  rw [atsD_cons]
  refine AW_rowU (List.Mem.head _) fun hu=>?_
  rcases hu with ⟨_,hu⟩ | ⟨b,c,rfl⟩
  ·simp at hu
  simp only [List.length_cons] at q2
  simp only [List.map_cons,OD.bs,cnDs,mkDs] at q3 q4
  have hfl:(pre.map OD.row++List.map OD.row (⟨ux,kids⟩::rest)).length=pre.length+(rest.length+1):=by simp
  have hpl:∀ r:OD,nv (pre++[r]).length=iv ((pre.length:Int)+1):=fun r=>by simp
  (repeat' first|(refine kkS [] [15] ?_;intros)|fail)
  refine kr ?_ (h:=P_load1R (j:=pre.length) (o:=0) (sz:=1) _ rfl (List.Mem.head _) get_midM rfl)
  (repeat' first|(refine kkS [83] [] ?_;intros)|refine kfS [83] [] ?_ ?_<;>intro hb|fail)
  refine kcs (A1:=_::(atsD pre++atsD rest)) (h:=markBsM_c kids ux kk' (by omega) (by omega)) ?_ (hA:=perm_mid)
  rintro _ A' ⟨rfl,kids',hk',rfl⟩
  (repeat' first|(refine kk ?_;intros)|refine kfk ?_ ?_<;>intro hb|fail)
  refine ⟨(kk'+cnBs (kids.map OB.bd),pre++[⟨ux,kids'⟩],rest),by simp only [List.length_cons];omega,⟨by simp only;omega,by simp only [List.length_append,List.length_cons,List.length_nil];omega,by simp only;omega,?_⟩,⟨leF_fl (by dsimp only;rw [hpl];exact wL),_,?_,.refl _⟩⟩
  ·dsimp only
   rw [q4,List.map_append,List.append_assoc]
   simp only [List.map_cons,List.map_nil,OD.bs,hk',List.cons_append,List.nil_append]
  ·dsimp only
   rw [List.map_append,List.append_assoc,atsD_snoc]
   exact .cons _ perm_end2
end
end Go.Proofs.YtejkllmoofdpjaaGreat
