/- Parts of the proof: VXN VXR VXS. -/
import Derived.Test.YtejkllmoofdpjaaGreatP53
namespace Go.Proofs.YtejkllmoofdpjaaGreat
open Go
set_option linter.all false
set_option maxRecDepth 100000
set_option maxHeartbeats 4000000
noncomputable section
open Classical
def atH (d:Int) (x:FdR):Bool:=decide (x.2=d)
def atHO (d:Int) (x:OFd):Bool:=decide (x.h=d)
theorem atHO_fd {d:Int}:∀ l:List OFd,(l.filter (atHO d)).map OFd.fd=(l.map OFd.fd).filter (atH d)
 | []=>rfl
 | x::l=>by
  have e:atH d x.fd=atHO d x:=rfl
  rw [List.map_cons,List.filter_cons,List.filter_cons,e]
  split
  ·rw [List.map_cons,atHO_fd l]
  ·exact atHO_fd l
theorem atsF_filter {p:OFd→Bool}:∀ l:List OFd,(atsF (l.filter p)).Sublist (atsF l)
 | []=>.refl _
 | x::l=>by
  rw [List.filter_cons]
  split
  ·exact (List.Sublist.refl _).append (atsF_filter l)
  ·exact (atsF_filter l).trans (List.sublist_append_right _ _)
theorem filter_snoc {α:Type} {p:α→Bool} {l:List α} {x:α}:(l++[x]).filter p=l.filter p++(if p x then [x] else []):=by
 rw [List.filter_append,List.filter_cons,List.filter_nil]
theorem ls_s (p:List RlR) (g:Gl) (n d s:Int) (L:List FdR) (B C0:Bool) (hL:L.length≤1000000) (h:Pu Tryz.prog 35 [vP p,vg g,iv n,iv d,iv s] (.tup [vFds L,bv B,bv C0])) :
 Pu Tryz.prog 40 [vP p,vg g,iv n,iv d,iv s] (.tup [vFds (L.filter (atH d)),bv B,bv C0]):=by
 have hlen:(L.map encFd).length=L.length:=by simp
 refine pu Tryz.func40 rfl Tryz.ntmps40 rfl rfl fun C=>?_
 (repeat' first|(refine kkS [35] [] ?_;intros)|refine kfS [35] [] ?_ ?_<;>intro hb|fail)
 refine kr ?_ (h:=P_call rfl h)
 (repeat' first|(refine kkz ?_;intros)|refine kfk ?_ ?_<;>intro hb|fail)
 rename_i u0
 refine kfor (ι:=Value) L (fun j u=>[(3,iv d),(14,bv B),(15,bv C0),(16,.one (.v u)),(30,vFds L)]) (fun j u=>[arow 147 7 u (((L.take j).filter (atH d)).map encFd)]) (fun _ _=>True) u0 trivial ?_ ?_
 ·rintro j x u hj hdd hjl _
  have hrow:(L.map encFd)[j]?=some (encFd x):=by simp [hj]
  have ht1:L.take (j+1)=L.take j++[x]:=by rw [List.take_add_one,hj];rfl
  have hle:((L.take j).filter (atH d)).length≤j:=by
   have:=List.length_filter_le (atH d) (L.take j)
   simp at this;omega
  obtain ⟨x1,x2⟩:=x
  by_cases hx:x2=d
  ·have e:atH d (x1,x2)=true:=decide_eq_true hx
   (repeat' first|(refine kk ?_;intros)|refine kfk ?_ ?_<;>intro hb|fail)
   rename_i u1
   refine ⟨u1,trivial,?_⟩
   rw [ht1,filter_snoc,if_pos e,List.map_append]
   exact kwk
  ·have e:¬ atH d (x1,x2)=true:=by simp [atH,hx]
   (repeat' first|(refine kk ?_;intros)|refine kfk ?_ ?_<;>intro hb|fail)
   refine ⟨u,trivial,?_⟩
   rw [ht1,filter_snoc,if_neg e,List.append_nil]
   exact kwk
 ·rintro u _
  rw [List.take_length]
  (repeat' first|(refine kk ?_;intros)|refine kfk ?_ ?_<;>intro hb|fail)
  exact kr3 (rvR rfl) (rvT rfl) (rvT rfl)
theorem ls_i (p:List RlR) (g:Gl) (n d s:Int) (L:List FdR) (B:Bool) (hL:L.length≤1000000) (h:Spec Tryz.prog 36 [vP p,vg g,iv n,iv d,iv s] [] fun v A'=>∃ w os,os.map OFd.fd=L∧v=.tup [.one (.v w),bv B,bv true]∧A'=SFd w os) :
 Spec Tryz.prog 41 [vP p,vg g,iv n,iv d,iv s] [] fun v A'=>∃ w os,os.map OFd.fd=L.filter (atH d)∧v=.tup [.one (.v w),bv B,bv true]∧A'=SFd w os:=by
 refine sp Tryz.func41 rfl Tryz.ntmps41 rfl rfl fun C=>?_
 (repeat' first|(refine kkS [36] [] ?_;intros)|refine kfS [36] [] ?_ ?_<;>intro hb|fail)
 refine AO_o rfl rfl (O_call0 h) ?_
 rintro _ _ ⟨_,⟨w,os,ho,rfl,rfl⟩,rfl⟩
 have hol:os.length≤1000000:=by rw [← List.length_map (f:=OFd.fd),ho];exact hL
 (repeat' first|(refine kkz ?_;intros)|refine kfk ?_ ?_<;>intro hb|fail)
 rename_i u0
 refine kloopE (ι:=Nat × Value) 0 (fun q=>os.length - q.1) (fun q=>[(3,iv d),(14,bv B),(16,.one (.v q.2)),(32,.one (.v w)),(33,nv os.length),(34,nv q.1)]) (fun q=>arow 147 7 q.2 (((os.take q.1).filter (atHO d)).map OFd.row)::SFd w os) (fun q=>q.1≤os.length) (fun q=>q.1=os.length) (0,u0) (Nat.zero_le _) ?_ ?_
 ·rintro ⟨j,u⟩ hj
  simp only at hj
  dsimp only
  by_cases hlt:j < os.length
  case neg=>
   obtain rfl:j=os.length:=by omega
   (repeat' first|(refine kk ?_;intros)|refine kfk ?_ ?_<;>intro hb|fail)
   exact ⟨(os.length,u),rfl,kwk⟩
  obtain ⟨x,hx⟩:∃ y,os[j]?=some y:=⟨os[j],List.getElem?_eq_getElem hlt⟩
  have hrow:(os.map OFd.row)[j]?=some x.row:=by simp [hx]
  have ht1:os.take (j+1)=os.take j++[x]:=by rw [List.take_add_one,hx];rfl
  have hle:((os.take j).filter (atHO d)).length≤j:=by
   have:=List.length_filter_le (atHO d) (os.take j)
   simp at this;omega
  refine AW_rowU (e:=147) (sz:=7) (u:=w) (rows:=os.map OFd.row) (List.Mem.tail _ (List.Mem.head _)) fun hu=>?_
  rw [List.length_map] at hu
  obtain ⟨bS,cS,rfl⟩:=hu.resolve_left (fun h=>by have:=h.2;omega)
  obtain ⟨⟨⟨nx,bu,bs,du,ds,ku,ks,mu,ms⟩,cu,cs⟩,hh⟩:=x
  (repeat' first|(refine kk ?_;intros)|refine kfk ?_ ?_<;>intro hb|fail)
  refine kr ?_ (h:=P_loadNR (j:=j) (o:=0) (sz:=7) _ rfl (List.Mem.tail _ (List.Mem.head _)) hrow rfl rfl)
  by_cases hx:hh=d
  ·have e:atHO d ⟨⟨⟨nx,bu,bs,du,ds,ku,ks,mu,ms⟩,cu,cs⟩,hh⟩=true:=decide_eq_true hx
   (repeat' first|(refine kk ?_;intros)|refine kfk ?_ ?_<;>intro hb|fail)
   rename_i u1
   refine ⟨(j+1,u1),by simp only;omega,by simp only;omega,?_⟩
   dsimp only
   rw [ht1,filter_snoc,if_pos e,List.map_append]
   exact kwk
  ·have e:¬ atHO d ⟨⟨⟨nx,bu,bs,du,ds,ku,ks,mu,ms⟩,cu,cs⟩,hh⟩=true:=by simp [atHO,hx]
   (repeat' first|(refine kk ?_;intros)|refine kfk ?_ ?_<;>intro hb|fail)
   refine ⟨(j+1,u),by simp only;omega,by simp only;omega,?_⟩
   dsimp only
   rw [ht1,filter_snoc,if_neg e,List.append_nil]
   exact kwk
 ·rintro ⟨j,u⟩ hj
  simp only at hj
  subst hj
  dsimp only
  rw [List.take_length]
  (repeat' first|(refine kk ?_;intros)|refine kfk ?_ ?_<;>intro hb|fail)
  exact ker3 ⟨u,os.filter (atHO d),by rw [atHO_fd,ho],rfl,rfl⟩ (.refl _) (.refl _) (.refl _) (hs:=.cons₂ _ (.cons _ (atsF_filter os)))
theorem ls_i_no (p:List RlR) (g:Gl) (n d s:Int) (h:Pu Tryz.prog 36 [vP p,vg g,iv n,iv d,iv s] (.tup [.one (.v (.slice none 0 0)),bv false,bv false])):Pu Tryz.prog 41 [vP p,vg g,iv n,iv d,iv s] (.tup [.one (.v (.slice none 0 0)),bv false,bv false]):=by
 refine pu Tryz.func41 rfl Tryz.ntmps41 rfl rfl fun C=>?_
 (repeat' first|(refine kkS [36] [] ?_;intros)|refine kfS [36] [] ?_ ?_<;>intro hb|fail)
 refine kr ?_ (h:=P_call rfl h)
 (repeat' first|(refine kk ?_;intros)|refine kfk ?_ ?_<;>intro hb|fail)
 exact kr3 (rvT rfl) (rvT rfl) (rvT rfl)
end
noncomputable section
open Classical
def deepL (R:Nat→List FdR × Bool):Nat→List FdR
 | 0=>[]
 | j+1=>deepL R j++(R j).1
def deepB (R:Nat→List FdR × Bool):Nat→Bool
 | 0=>true
 | j+1=>deepB R j && (R j).2
theorem deepL_len {R:Nat→List FdR × Bool} {m:Nat}:∀ j:Nat,(∀ i,i < j→(R i).1.length≤m)→(deepL R j).length≤m * j
 | 0,_=>Nat.zero_le _
 | j+1,h=>by
  have:=deepL_len j fun i hi=>h i (by omega)
  have:=h j (by omega)
  rw [deepL,List.length_append,Nat.mul_succ]
  omega
theorem deepL_mem {R:Nat→List FdR × Bool} {x:FdR}:∀ {j:Nat},x∈deepL R j→∃ i,i < j∧x∈(R i).1
 | j+1,h=>by
  rcases List.mem_append.1 h with h|h
  ·obtain ⟨i,hi,hx⟩:=deepL_mem h
   exact ⟨i,by omega,hx⟩
  ·exact ⟨j,by omega,h⟩
theorem dp_s (p:List RlR) (g:Gl) (n s:Int) (dep:Nat) (hd:dep≤20) (R:Nat→List FdR × Bool) (hL:∀ i,i≤dep→(R i).1.length≤4000) (h:∀ i,i≤dep→Pu Tryz.prog 40 [vP p,vg g,iv n,nv i,iv s] (.tup [vFds (R i).1,bv (R i).2,bv true])) :
 Pu Tryz.prog 42 [vP p,vg g,iv n,nv dep,iv s] (.tup [vFds (deepL R (dep+1)),bv (deepB R (dep+1)),bv true]):=by
 haveI:=l01In_c.yes
 have z1:=And.intro trivial (show (0:Int)≤(dep:Int)∧(dep:Int)≤20 by omega)
 refine pu Tryz.func42 rfl Tryz.ntmps42 rfl rfl fun C=>?_
 (repeat' first|(refine kkz ?_;intros)|refine kfk ?_ ?_<;>intro hb|fail)
 rename_i b5 b6 u0
 refine kloopE (ι:=Nat × Value) 0 (fun q=>dep+1 - q.1) (fun q=>[(2,iv n),(3,nv dep),(4,iv s),(5,.one (.v (.pointer (some ⟨b5,0,none⟩)))),(6,.one (.v (.pointer (some ⟨b6,0,none⟩)))),(13,.one (.v q.2)),(14,bv (deepB R q.1)),(15,nv q.1)]) (fun q=>[arow 147 7 q.2 ((deepL R q.1).map encFd),abox b6 (encG g) 59,abox b5 (encP p) 46]) (fun q=>q.1≤dep+1) (fun q=>q.1=dep+1) (0,u0) (Nat.zero_le _) ?_ ?_
 ·rintro ⟨j,u⟩ hj
  simp only at hj
  dsimp only
  by_cases hlt:j≤dep
  case neg=>
   obtain rfl:j=dep+1:=by omega
   (repeat' first|(refine kk ?_;intros)|refine kfk ?_ ?_<;>intro hb|fail)
   exact ⟨(dep+1,u),rfl,kwk⟩
  have hl1:=deepL_len (R:=R) (m:=4000) j fun i hi=>hL i (by omega)
  have hl2:=hL j hlt
  have hcall:=h j hlt
  have e1:deepL R (j+1)=deepL R j++(R j).1:=rfl
  have e2:deepB R (j+1)=(deepB R j && (R j).2):=rfl
  generalize R j=r at hl2 hcall e1 e2
  obtain ⟨r1,r2⟩:=r
  simp only at hl2 hcall e1 e2
  (repeat' first|(refine kkS [40] [] ?_;intros)|refine kfS [40] [] ?_ ?_<;>intro hb|fail)
  refine kr ?_ (h:=P_call rfl hcall)
  cases hB:deepB R j with
  | false=>
   (repeat' first|(refine kk ?_;intros)|refine kfk ?_ ?_<;>intro hb|fail)
   rename_i u1
   refine ⟨(j+1,u1),by simp only;omega,by simp only;omega,?_⟩
   dsimp only
   rw [e1,e2,hB,Bool.false_and,List.map_append]
   exact kwk
  | true=>
   (repeat' first|(refine kk ?_;intros)|refine kfk ?_ ?_<;>intro hb|fail)
   rename_i u1
   refine ⟨(j+1,u1),by simp only;omega,by simp only;omega,?_⟩
   dsimp only
   rw [e1,e2,hB,Bool.true_and,List.map_append]
   exact kwk
 ·rintro ⟨j,u⟩ hj
  simp only at hj
  subst hj
  dsimp only
  (repeat' first|(refine kk ?_;intros)|refine kfk ?_ ?_<;>intro hb|fail)
  exact kr3 (rvR rfl) (rvT rfl) (rvT rfl)
theorem perm_dp {x a b y:Atm} {l r:List Atm}:((x::a::b::l)++(y::r)).Perm ((x::a::b::(l++r))++[y]):=by
 classical
 exact List.perm_iff_count.2 fun z=>by simp only [List.count_append,List.count_cons,List.count_nil];omega
theorem dp_i (p:List RlR) (g:Gl) (n s:Int) (dep:Nat) (hd:dep≤20) (R:Nat→List FdR × Bool) (hL:∀ i,i≤dep→(R i).1.length≤4000)
 (h:∀ i,i≤dep→Spec Tryz.prog 41 [vP p,vg g,iv n,nv i,iv s] [] fun v A'=>∃ w os,os.map OFd.fd=(R i).1∧v=.tup [.one (.v w),bv (R i).2,bv true]∧A'=SFd w os) :
 Spec Tryz.prog 43 [vP p,vg g,iv n,nv dep,iv s] [] fun v A'=>∃ w os,os.map OFd.fd=deepL R (dep+1)∧v=.tup [.one (.v w),bv (deepB R (dep+1)),bv true]∧A'=SFd w os:=by
 refine sp Tryz.func43 rfl Tryz.ntmps43 rfl rfl fun C=>?_
 (repeat' first|(refine kkz ?_;intros)|refine kfk ?_ ?_<;>intro hb|fail)
 rename_i b5 b6 u0
 refine kloopE (ι:=Nat × Value × List OFd) 0 (fun q=>dep+1 - q.1) (fun q=>[(2,iv n),(3,nv dep),(4,iv s),(5,.one (.v (.pointer (some ⟨b5,0,none⟩)))),(6,.one (.v (.pointer (some ⟨b6,0,none⟩)))),(13,.one (.v q.2.1)),(14,bv (deepB R q.1)),(15,nv q.1)]) (fun q=>arow 147 7 q.2.1 (q.2.2.map OFd.row)::abox b6 (encG g) 59::abox b5 (encP p) 46::atsF q.2.2) (fun q=>q.1≤dep+1∧q.2.2.map OFd.fd=deepL R q.1) (fun q=>q.1=dep+1∧q.2.2.map OFd.fd=deepL R q.1) (0,u0,[]) ⟨Nat.zero_le _,rfl⟩ ?_ ?_
 ·rintro ⟨j,u,acc⟩ ⟨hj,ha⟩
  simp only at hj ha
  dsimp only
  by_cases hlt:j≤dep
  case neg=>
   obtain rfl:j=dep+1:=by omega
   (repeat' first|(refine kk ?_;intros)|refine kfk ?_ ?_<;>intro hb|fail)
   exact ⟨(dep+1,u,acc),⟨rfl,ha⟩,kwk⟩
  have hl1:=deepL_len (R:=R) (m:=4000) j fun i hi=>hL i (by omega)
  rw [← ha,List.length_map] at hl1
  have hl2:=hL j hlt
  have hcall:=h j hlt
  have e1:deepL R (j+1)=deepL R j++(R j).1:=rfl
  have e2:deepB R (j+1)=(deepB R j && (R j).2):=rfl
  generalize R j=r at hl2 hcall e1 e2
  obtain ⟨r1,r2⟩:=r
  simp only at hl2 hcall e1 e2
  (repeat' first|(refine kkS [41] [] ?_;intros)|refine kfS [41] [] ?_ ?_<;>intro hb|fail)
  refine AO_o rfl rfl (O_call0 hcall) ?_
  rintro _ _ ⟨_,⟨w,os,ho,rfl,rfl⟩,rfl⟩
  have hol:os.length≤4000:=by rw [← List.length_map (f:=OFd.fd),ho];exact hl2
  (repeat' first|(refine kkS [] [43] ?_;intros)|fail)
  refine AO_freezeV (t:=16) (A1:=arow 147 7 u (acc.map OFd.row)::abox b6 (encG g) 59::abox b5 (encP p) 46::(atsF acc++atsF os)) (B:=[arow 147 7 w (os.map OFd.row)]) perm_dp rfl (VwD.row (List.Mem.head _) rfl) ?_
  cases hB:deepB R j with
  | false=>
   (repeat' first|(refine kk ?_;intros)|refine kfk ?_ ?_<;>intro hb|fail)
   rename_i u1
   refine ⟨(j+1,u1,acc++os),by simp only;omega,⟨by simp only;omega,by rw [List.map_append,ha,ho,e1]⟩,?_⟩
   dsimp only
   rw [e2,hB,Bool.false_and,List.map_append,atsF_app]
   exact kwk
  | true=>
   (repeat' first|(refine kk ?_;intros)|refine kfk ?_ ?_<;>intro hb|fail)
   rename_i u1
   refine ⟨(j+1,u1,acc++os),by simp only;omega,⟨by simp only;omega,by rw [List.map_append,ha,ho,e1]⟩,?_⟩
   dsimp only
   rw [e2,hB,Bool.true_and,List.map_append,atsF_app]
   exact kwk
 ·rintro ⟨j,u,acc⟩ ⟨hj,ha⟩
  simp only at hj ha
  subst hj
  dsimp only
  (repeat' first|(refine kk ?_;intros)|refine kfk ?_ ?_<;>intro hb|fail)
  exact ker3 ⟨u,acc,ha,rfl,rfl⟩ (.refl _) (.refl _) (.refl _) (hs:=.cons₂ _ (.cons _ (.cons _ (.refl _))))
theorem dp_s_no (p:List RlR) (g:Gl) (n d s:Int) (h:¬ (0≤d∧d≤20)∨Pu Tryz.prog 40 [vP p,vg g,iv n,iv 0,iv s] (.tup [vFds [],bv false,bv false])):Pu Tryz.prog 42 [vP p,vg g,iv n,iv d,iv s] (.tup [vFds [],bv false,bv false]):=by
 by_cases hd:0≤d∧d≤20
 case neg=>
  haveI:=l01In_c.no
  have z1:=And.intro trivial hd
  refine pu Tryz.func42 rfl Tryz.ntmps42 rfl rfl fun C=>?_
  (repeat' first|(refine kk ?_;intros)|refine kfk ?_ ?_<;>intro hb|fail)
  exact kr3 rvN (rvT rfl) (rvT rfl)
 have hcall:=h.resolve_left (fun hn=>hn hd)
 haveI:=l01In_c.yes
 have z1:=And.intro trivial hd
 refine pu Tryz.func42 rfl Tryz.ntmps42 rfl rfl fun C=>?_
 (repeat' first|(refine kk ?_;intros)|refine kfk ?_ ?_<;>intro hb|fail)
 refine kun1 ?_
 (repeat' first|(refine kkS [40] [] ?_;intros)|refine kfS [40] [] ?_ ?_<;>intro hb|fail)
 refine kr ?_ (h:=P_call rfl hcall)
 (repeat' first|(refine kk ?_;intros)|refine kfk ?_ ?_<;>intro hb|fail)
 exact kr3 rvN (rvT rfl) (rvT rfl)
theorem dp_i_no (p:List RlR) (g:Gl) (n d s:Int) (h:¬ (0≤d∧d≤20)∨Pu Tryz.prog 41 [vP p,vg g,iv n,iv 0,iv s] (.tup [.one (.v (.slice none 0 0)),bv false,bv false])):Pu Tryz.prog 43 [vP p,vg g,iv n,iv d,iv s] (.tup [.one (.v (.slice none 0 0)),bv false,bv false]):=by
 by_cases h1:0≤d
 case neg=>
  refine pu Tryz.func43 rfl Tryz.ntmps43 rfl rfl fun C=>?_
  (repeat' first|(refine kk ?_;intros)|refine kfk ?_ ?_<;>intro hb|fail)
  exact kr3 (rvT rfl) (rvT rfl) (rvT rfl)
 by_cases h2:d≤20
 case neg=>
  refine pu Tryz.func43 rfl Tryz.ntmps43 rfl rfl fun C=>?_
  (repeat' first|(refine kk ?_;intros)|refine kfk ?_ ?_<;>intro hb|fail)
  exact kr3 (rvT rfl) (rvT rfl) (rvT rfl)
 have hcall:=h.resolve_left (fun hn=>hn ⟨h1,h2⟩)
 refine pu Tryz.func43 rfl Tryz.ntmps43 rfl rfl fun C=>?_
 (repeat' first|(refine kk ?_;intros)|refine kfk ?_ ?_<;>intro hb|fail)
 refine kun1 ?_
 (repeat' first|(refine kkS [41] [] ?_;intros)|refine kfS [41] [] ?_ ?_<;>intro hb|fail)
 refine kr ?_ (h:=P_call rfl hcall)
 (repeat' first|(refine kk ?_;intros)|refine kfk ?_ ?_<;>intro hb|fail)
 exact kr3 (rvT rfl) (rvT rfl) (rvT rfl)
end
noncomputable section
open Classical
def okP (d s:Int):Prop:=(0≤d∧d≤20)∧0≤s∧s≤4000
theorem plaw_none (p:List RlR) (g:Gl) (n d s:Int) (hp:InP0 p) (hg:g.In0) (hf:p.length+szR p+g.sz≤1048576) (hn:¬ (startP p g n∧okP d s)):Spec Tryz.prog 8 [vP p,vg g,iv n,iv d,iv s] [] fun v _=>v=bv true:=by
 have s1:InP0 p∧(0:Int)≤1048576∧(1048576:Int)≤1048576:=⟨hp,by omega,by omega⟩
 have hl:leftV (p.length+szR p) 1048576=1048576 - ((p.length+szR p:Nat):Int):=leftV_fit (by omega)
 have s2:g.In0∧(0:Int)≤1048576 - ((p.length+szR p:Nat):Int)∧1048576 - ((p.length+szR p:Nat):Int)≤1048576:=⟨hg,by omega,by omega⟩
 have hl2:leftV g.sz (1048576 - ((p.length+szR p:Nat):Int))=1048576 - ((p.length+szR p:Nat):Int) - (g.sz:Int):=leftV_fit (by omega)
 have hin:InP p:=p_in_of hp (by omega)
 have hgi:g.In:=gl_in_of _ _ (Nat.le_refl _) hg (by omega)
 have p1:InP0 p∧p.length+szR p≤1048576:=⟨hp,by omega⟩
 have p2:g.In0∧g.sz≤1048576:=⟨hg,by omega⟩
 have hno:¬ (0≤d∧d≤20)∨¬ (startP p g n∧okD 0 s):=by
  by_cases hd:0≤d∧d≤20
  ·exact .inr fun h=>hn ⟨h.1,hd,h.2.2⟩
  ·exact .inl hd
 have p3:p=p∧g=g∧n=n∧d=d∧s=s:=⟨rfl,rfl,rfl,rfl,rfl⟩
 haveI:Con5 Tryz.prog 42 (List RlR) Gl Int Int Int vP vg iv iv iv (fun _ _ _ _ _=>.tup [vFds [],bv false,bv false]) (fun a b c e f=>a=p∧b=g∧c=n∧e=d∧f=s):=⟨fun a b c e f ⟨h1,h2,h3,h4,h5⟩=>by subst h1 h2 h3 h4 h5;exact dp_s_no _ _ _ _ _ (hno.imp_right fun h=>ls_s _ _ _ _ _ [] false false (by simp) (ds_no _ _ _ _ _ hin hgi h))⟩
 haveI:Con5 Tryz.prog 43 (List RlR) Gl Int Int Int vP vg iv iv iv (fun _ _ _ _ _=>.tup [.one (.v (.slice none 0 0)),bv false,bv false]) (fun a b c e f=>a=p∧b=g∧c=n∧e=d∧f=s):=⟨fun a b c e f ⟨h1,h2,h3,h4,h5⟩=>by subst h1 h2 h3 h4 h5;exact dp_i_no _ _ _ _ _ (hno.imp_right fun h=>ls_i_no _ _ _ _ _ (ds_i_no _ _ _ _ _ hin hgi h))⟩
 have p4:([]:List FdR)=[]:=rfl
 have p5:([]:List FdR)=[]∧(1:Int)=1:=⟨rfl,rfl⟩
 haveI:Con2 Tryz.prog 38 (List FdR) Int vFds iv (fun _ k=>iv k) (fun l _=>l=[]):=⟨fun l k e=>by subst e;exact markNilF_c k⟩
 haveI:Con2 Tryz.prog 39 (List FdR) Int vFds iv (fun _ k=>iv k) (fun l k=>l=[]∧k=1):=⟨fun l k ⟨e1,e2⟩=>by subst e1 e2;exact heldFs_c.h [] 1 ⟨[],rfl,⟨by omega,by simp⟩,by simp [cnFs]⟩⟩
 haveI:=eqFYes_i [] ⟨by simp,by simp⟩
 have p6:([]:List FdR)=[]∧([]:List FdR)=[]:=⟨rfl,rfl⟩
 refine sp Tryz.func8 rfl Tryz.ntmps8 rfl rfl fun C=>?_
 (repeat' first|(refine kkS [] [33] ?_;intros)|fail)
 rw [hl]
 (repeat' first|(refine kkS [] [49] ?_;intros)|fail)
 refine kc0 (h:=toProgramO_c p hp (by omega)) ?_
 rintro _ A' ⟨up,os,ho,rfl,rfl⟩
 have hos:os.length=p.length:=by rw [← ho,List.length_map]
 have hcn:=cntOR_le os
 rw [ho] at hcn
 (repeat' first|(refine kkS [] [51] ?_;intros)|fail)
 refine kc0 (h:=toGoalO_c _ g rfl hg (by omega)) ?_
 rintro _ A' ⟨⟨kd,nm,ut,ts,ug,gs⟩,hog,rfl,rfl⟩
 have hgc:=(OGl.mk kd nm ut ts ug gs).cnt_le
 rw [hog] at hgc
 simp only [OGl.cnt] at hgc
 have eats:(OGl.mk kd nm ut ts ug gs).ats=SL ut ts++SG ug gs:=by simp only [OGl.ats]
 (repeat' first|(refine kkS [] [58] ?_;intros)|fail)
 refine kr ?_ (h:=P_callB (as':=[vP p,vg g,iv n,iv d,iv s]) (v:=.tup [.one (.v (.slice none 0 0)),bv false,bv false]) (.cons (ho▸SR_vw fun _ h=>List.mem_append_right [_,_,_,_] (List.mem_append_left _ h)) (.cons (.agg (hog▸OGl.vw _ fun _ h=>List.mem_append_right [_,_,_,_] (List.mem_append_right (SR up os) h))) (.cons (.refl _) (.cons (.refl _) (.cons (.refl _) .nil))))) (dp_i_no p g n d s (hno.imp_right fun h=>ls_i_no _ _ _ _ _ (ds_i_no _ _ _ _ _ hin hgi h))) rfl)
 (repeat' first|(refine kkS [] [69] ?_;intros)|fail)
 refine krT ?_ (h:=P_neB _ _ rfl rfl)
 (repeat' first|(refine kkS [] [74] ?_;intros)|fail)
 refine krT ?_ (h:=P_neB _ _ rfl rfl)
 (repeat' first|(refine kk ?_;intros)|refine kfk ?_ ?_<;>intro hb|fail)
 refine kar ?_ (h:=P_callB (as':=[vP p,vP p]) (v:=bv true) (.cons (ho▸SR_vw fun _ h=>List.mem_append_right [_,_,_,_] (List.mem_append_left _ h)) (.cons (.refl _) .nil)) (eqPYes_i.h _ _ ⟨rfl,hin⟩) rfl)
 (repeat' first|(refine kk ?_;intros)|refine kfk ?_ ?_<;>intro hb|fail)
 refine kar ?_ (h:=P_callB (as':=[vg g,vg g]) (v:=bv true) (.cons (.agg (hog▸OGl.vw _ fun _ h=>List.mem_append_right [_,_,_,_] (List.mem_append_right (SR up os) h))) (.cons (.refl _) .nil)) (eqGlYes_i.h _ _ ⟨rfl,hgi⟩) rfl)
 (repeat' first|(refine kkS [] [88] ?_;intros)|fail)
 refine kcE (A1:=_::_::_::_::(OGl.mk kd nm ut ts ug gs).ats) (h:=markProgram_c os up 1 (by omega) (by omega)) ?_ perm_b
 rintro _ rfl
 (repeat' first|(refine kkS [] [91] ?_;intros)|fail)
 rw [eats]
 refine kcE (A1:=[_,_,_,_]) (h:=markGoalO_c (1+(cntOR os:Int)) kd nm ut ug ts gs (by omega) (by omega)) ?_ (.refl _)
 rintro _ rfl
 (repeat' first|(refine kkS [] [103] ?_;intros)|fail)
 refine krT ?_ (h:=P_neB _ _ rfl rfl)
 (repeat' first|(refine kkS [] [108] ?_;intros)|fail)
 refine krT ?_ (h:=P_neB _ _ rfl rfl)
 (repeat' first|(refine kkS [] [140] ?_;intros)|fail)
 refine krT ?_ (h:=P_neB _ _ rfl rfl)
 (repeat' first|(refine kkS [] [145] ?_;intros)|fail)
 refine krT ?_ (h:=P_neB _ _ rfl rfl)
 (repeat' first|(refine kk ?_;intros)|refine kfk ?_ ?_<;>intro hb|fail)
 exact ker1 (A'':=[]) (bv true) rfl
theorem plaw_some (p:List RlR) (g:Gl) (n d s:Int) (hp:InP0 p) (hg:g.In0) (hf:p.length+szR p+g.sz≤1048576) (L:List FdR) (B:Bool) (hL:L.length≤1000000∧∀ x∈L,x.1.In2) (hD:∀ x∈L,x.1.st.dis.length≤1000000) (hc:1+cnFs L≤100000000000000)
 (hs:Pu Tryz.prog 42 [vP p,vg g,iv n,iv d,iv s] (.tup [vFds L,bv B,bv true])) (hi:Spec Tryz.prog 43 [vP p,vg g,iv n,iv d,iv s] [] fun v A'=>∃ w os,os.map OFd.fd=L∧v=.tup [.one (.v w),bv B,bv true]∧A'=SFd w os):Spec Tryz.prog 8 [vP p,vg g,iv n,iv d,iv s] [] fun v _=>v=bv true:=by
 have hid:Pu Tryz.prog 43 [vP p,vg g,iv n,iv d,iv s] (.tup [vFds L,bv B,bv true]):=hi.puW fun v A' ⟨w,os,h1,h2,h3⟩=>by
  subst h2 h3
  exact .tup (.cons (.one (h1▸SFd_vw fun _ h=>h)) (.cons (.refl _) (.cons (.refl _) .nil)))
 have s1:InP0 p∧(0:Int)≤1048576∧(1048576:Int)≤1048576:=⟨hp,by omega,by omega⟩
 have hl:leftV (p.length+szR p) 1048576=1048576 - ((p.length+szR p:Nat):Int):=leftV_fit (by omega)
 have s2:g.In0∧(0:Int)≤1048576 - ((p.length+szR p:Nat):Int)∧1048576 - ((p.length+szR p:Nat):Int)≤1048576:=⟨hg,by omega,by omega⟩
 have hl2:leftV g.sz (1048576 - ((p.length+szR p:Nat):Int))=1048576 - ((p.length+szR p:Nat):Int) - (g.sz:Int):=leftV_fit (by omega)
 have hin:InP p:=p_in_of hp (by omega)
 have hgi:g.In:=gl_in_of _ _ (Nat.le_refl _) hg (by omega)
 have p1:InP0 p∧p.length+szR p≤1048576:=⟨hp,by omega⟩
 have p2:g.In0∧g.sz≤1048576:=⟨hg,by omega⟩
 have p3:p=p∧g=g∧n=n∧d=d∧s=s:=⟨rfl,rfl,rfl,rfl,rfl⟩
 haveI:Con5 Tryz.prog 42 (List RlR) Gl Int Int Int vP vg iv iv iv (fun _ _ _ _ _=>.tup [vFds L,bv B,bv true]) (fun a b c e f=>a=p∧b=g∧c=n∧e=d∧f=s):=⟨fun a b c e f ⟨h1,h2,h3,h4,h5⟩=>by subst h1 h2 h3 h4 h5;exact hs⟩
 haveI:Con5 Tryz.prog 43 (List RlR) Gl Int Int Int vP vg iv iv iv (fun _ _ _ _ _=>.tup [vFds L,bv B,bv true]) (fun a b c e f=>a=p∧b=g∧c=n∧e=d∧f=s):=⟨fun a b c e f ⟨h1,h2,h3,h4,h5⟩=>by subst h1 h2 h3 h4 h5;exact hid⟩
 haveI:=eqFYes_i L hL
 have p6:L=L∧L=L:=⟨rfl,rfl⟩
 have hbb:(B != B)=false:=bne_self_eq_false B
 have hheld:Pu Tryz.prog 39 [vFds (mkFs L 1),nv 1] (nv (1+cnFs L)):=by
  have:=heldFs_c.h (mkFs L 1) 1 ⟨L,rfl,⟨by omega,hD⟩,hc⟩
  rwa [cnFs_mk] at this
 refine sp Tryz.func8 rfl Tryz.ntmps8 rfl rfl fun C=>?_
 (repeat' first|(refine kkS [] [33] ?_;intros)|fail)
 rw [hl]
 (repeat' first|(refine kkS [] [49] ?_;intros)|fail)
 refine kc0 (h:=toProgramO_c p hp (by omega)) ?_
 rintro _ A' ⟨up,os,ho,rfl,rfl⟩
 have hos:os.length=p.length:=by rw [← ho,List.length_map]
 have hcn:=cntOR_le os
 rw [ho] at hcn
 (repeat' first|(refine kkS [] [51] ?_;intros)|fail)
 refine kc0 (h:=toGoalO_c _ g rfl hg (by omega)) ?_
 rintro _ A' ⟨⟨kd,nm,ut,ts,ug,gs⟩,hog,rfl,rfl⟩
 have hgc:=(OGl.mk kd nm ut ts ug gs).cnt_le
 rw [hog] at hgc
 simp only [OGl.cnt] at hgc
 have eats:(OGl.mk kd nm ut ts ug gs).ats=SL ut ts++SG ug gs:=by simp only [OGl.ats]
 (repeat' first|(refine kkS [] [58] ?_;intros)|fail)
 refine kcs (A1:=[_,_,_,_]) (h:=Spec.borrow (A:=SR up os++(OGl.mk kd nm ut ts ug gs).ats) (.cons (ho▸SR_vw fun _ h=>List.mem_append_left _ h) (.cons (.agg (hog▸OGl.vw _ fun _ h=>List.mem_append_right (SR up os) h)) (.cons (.refl _) (.cons (.refl _) (.cons (.refl _) .nil))))) hi fun v A' h=>by obtain ⟨w,fs,_,rfl,rfl⟩:=h;exact ⟨rfl,SFd_rg⟩) ?_ (.refl _)
 rintro _ _ ⟨_,⟨w,fs,hfs,rfl,rfl⟩,rfl⟩
 have hDf:∀ x∈fs,x.b.s.d.length≤1000000:=fun x hx=>by
  have:=hD x.fd (hfs▸List.mem_map_of_mem hx)
  rwa [show x.fd.1.st.dis=x.b.s.d.map OD.bs from rfl,List.length_map] at this
 (repeat' first|(refine kkS [] [64] ?_;intros)|fail)
 refine kr ?_ (h:=P_callB (as':=[vFds L,vFds L]) (v:=bv true) (.cons (.one (hfs▸SFd_vw fun _ h=>List.mem_append_right [_,_,_,_] (List.mem_append_right (SR up os++(OGl.mk kd nm ut ts ug gs).ats) h))) (.cons (.refl _) .nil)) ((eqFYes_i L hL).h _ _ p6) rfl)
 (repeat' first|(refine kkS [] [69] ?_;intros)|fail)
 refine krT ?_ (h:=P_neB _ _ rfl rfl)
 rw [hbb]
 (repeat' first|(refine kkS [] [74] ?_;intros)|fail)
 refine krT ?_ (h:=P_neB _ _ rfl rfl)
 (repeat' first|(refine kk ?_;intros)|refine kfk ?_ ?_<;>intro hb|fail)
 refine kar ?_ (h:=P_callB (as':=[vP p,vP p]) (v:=bv true) (.cons (ho▸SR_vw fun _ h=>List.mem_append_right [_,_,_,_] (List.mem_append_left _ (List.mem_append_left _ h))) (.cons (.refl _) .nil)) (eqPYes_i.h _ _ ⟨rfl,hin⟩) rfl)
 (repeat' first|(refine kk ?_;intros)|refine kfk ?_ ?_<;>intro hb|fail)
 refine kar ?_ (h:=P_callB (as':=[vg g,vg g]) (v:=bv true) (.cons (.agg (hog▸OGl.vw _ fun _ h=>List.mem_append_right [_,_,_,_] (List.mem_append_left _ (List.mem_append_right (SR up os) h)))) (.cons (.refl _) .nil)) (eqGlYes_i.h _ _ ⟨rfl,hgi⟩) rfl)
 (repeat' first|(refine kkS [] [88] ?_;intros)|fail)
 refine kcE (A1:=_::_::_::_::((OGl.mk kd nm ut ts ug gs).ats++SFd w fs)) (h:=markProgram_c os up 1 (by omega) (by omega)) ?_ perm_a
 rintro _ rfl
 (repeat' first|(refine kkS [] [91] ?_;intros)|fail)
 rw [eats]
 refine kcE (A1:=_::_::_::_::SFd w fs) (h:=markGoalO_c (1+(cntOR os:Int)) kd nm ut ug ts gs (by omega) (by omega)) ?_ perm_b
 rintro _ rfl
 (repeat' first|(refine kkS [] [97] ?_;intros)|fail)
 refine krT ?_ (h:=P_callB (as':=[vFds L,vFds L]) (v:=bv true) (.cons (.one (hfs▸SFd_vw fun _ h=>List.mem_append_right [_,_,_,_] h)) (.cons (.refl _) .nil)) ((eqFYes_i L hL).h _ _ p6) rfl)
 (repeat' first|(refine kkS [] [103] ?_;intros)|fail)
 refine krT ?_ (h:=P_neB _ _ rfl rfl)
 rw [hbb]
 (repeat' first|(refine kkS [] [108] ?_;intros)|fail)
 refine krT ?_ (h:=P_neB _ _ rfl rfl)
 (repeat' first|(refine kkS [] [112] ?_;intros)|fail)
 refine kcs (A1:=[_,_,_,_]) (h:=markFsM_c fs w 1 (by omega) hDf (by rw [hfs];exact hc)) ?_ (.refl _)
 rintro _ A' ⟨rfl,fs',hf',rfl⟩
 rw [hfs] at hf' ⊢
 (repeat' first|(refine kkS [] [115] ?_;intros)|fail)
 refine kr ?_ (h:=P_callB (as':=[vFds (mkFs L 1),nv 1]) (v:=nv (1+cnFs L)) (.cons (.one (hf'▸SFd_vw fun _ h=>List.mem_append_right [_,_,_,_] h)) (.cons (.refl _) .nil)) hheld rfl)
 (repeat' first|(refine kkS [] [140] ?_;intros)|fail)
 refine krT ?_ (h:=P_neB _ _ rfl rfl)
 rw [hbb]
 (repeat' first|(refine kkS [] [145] ?_;intros)|fail)
 refine krT ?_ (h:=P_neB _ _ rfl rfl)
 (repeat' first|(refine kkS [] [149] ?_;intros)|fail)
 refine kr ?_ (h:=P_callB (as':=[vFds (mkFs L 1),nv 1]) (v:=nv (1+cnFs L)) (.cons (.one (hf'▸SFd_vw fun _ h=>List.mem_append_right [_,_,_,_] h)) (.cons (.refl _) .nil)) hheld rfl)
 (repeat' first|(refine kk ?_;intros)|refine kfk ?_ ?_<;>intro hb|fail)
 exact ker1 (A'':=[]) (bv true) rfl
theorem law_p (p:List RlR) (g:Gl) (n d s:Int) (hp:InP0 p) (hg:g.In0):Pu Tryz.prog 8 [vP p,vg g,iv n,iv d,iv s] (bv true):=by
 have s1:InP0 p∧(0:Int)≤1048576∧(1048576:Int)≤1048576:=⟨hp,by omega,by omega⟩
 by_cases h1:p.length+szR p≤1048576
 case neg=>
  have hl:leftV (p.length+szR p) 1048576=-1:=leftV_not (by omega)
  refine pu Tryz.func8 rfl Tryz.ntmps8 rfl rfl fun C=>?_
  (repeat' first|(refine kkS [] [31] ?_;intros)|fail)
  exact kret rfl
 have hl:leftV (p.length+szR p) 1048576=1048576 - ((p.length+szR p:Nat):Int):=leftV_fit (by omega)
 by_cases h2:p.length+szR p+g.sz≤1048576
 case neg=>
  have s2:g.In0∧(0:Int)≤1048576 - ((p.length+szR p:Nat):Int)∧1048576 - ((p.length+szR p:Nat):Int)≤1048576:=⟨hg,by omega,by omega⟩
  have hl2:leftV g.sz (1048576 - ((p.length+szR p:Nat):Int))=-1:=leftV_not (by omega)
  refine pu Tryz.func8 rfl Tryz.ntmps8 rfl rfl fun C=>?_
  (repeat' first|(refine kkS [] [33] ?_;intros)|fail)
  rw [hl]
  (repeat' first|(refine kkS [] [37] ?_;intros)|fail)
  exact kret rfl
 refine Spec.puW (Q':=fun v _=>v=bv true) ?_ fun v A' h=>by subst h;exact .refl _
 by_cases hs:startP p g n∧okP d s
 case neg=>exact plaw_none p g n d s hp hg h2 hs
 have hin:InP p:=p_in_of hp h1
 have hgi:g.In:=gl_in_of _ _ (Nat.le_refl _) hg (by omega)
 obtain ⟨hst,⟨d1,d2⟩,e1,e2⟩:=hs
 obtain ⟨q,u,m,rfl,rfl,rfl,hS⟩:=startP_some hst
 obtain ⟨dep,rfl⟩:=Int.eq_ofNat_of_zero_le d1
 obtain ⟨steps,rfl⟩:=Int.eq_ofNat_of_zero_le e1
 have hdep:dep≤20:=by omega
 have hst4:steps≤4000:=by omega
 have hlv:∀ i:Nat,(((depthF q u m i steps).1.map Fd.raw).filter (atH (i:Int))).length≤4000:=fun i=>by
  have h3:=List.length_filter_le (atH (i:Int)) ((depthF q u m i steps).1.map Fd.raw)
  rw [List.length_map] at h3
  have:=(hS.ok i steps).2
  omega
 have hl2:∀ i:Nat,((depthF q u m i steps).1.map Fd.raw).length≤1000000:=fun i=>by
  rw [List.length_map];have:=(hS.ok i steps).2;omega
 have i1:=dp_s (q.map Rl.rl) u.gl m (steps:Int) dep hdep (fun i=>(((depthF q u m i steps).1.map Fd.raw).filter (atH (i:Int)),(depthF q u m i steps).2)) (fun i _=>hlv i) fun i hi=>ls_s _ _ _ _ _ _ _ _ (hl2 i) (by
  have:=ds_s q u m i steps hS hst hin hgi (by omega) hst4
  rwa [vFbs_raw] at this)
 have i2:=dp_i (q.map Rl.rl) u.gl m (steps:Int) dep hdep (fun i=>(((depthF q u m i steps).1.map Fd.raw).filter (atH (i:Int)),(depthF q u m i steps).2)) (fun i _=>hlv i) fun i hi=>ls_i _ _ _ _ _ _ _ (hl2 i) (ds_i q u m i steps hS hst hin hgi (by omega) hst4)
 have hdl:=deepL_len (R:=fun i=>(((depthF q u m i steps).1.map Fd.raw).filter (atH (i:Int)),(depthF q u m i steps).2)) (m:=4000) (dep+1) fun i _=>hlv i
 have hdm:=fun x=>deepL_mem (R:=fun i=>(((depthF q u m i steps).1.map Fd.raw).filter (atH (i:Int)),(depthF q u m i steps).2)) (x:=x) (j:=dep+1)
 have hok:∀ x∈deepL (fun i=>(((depthF q u m i steps).1.map Fd.raw).filter (atH (i:Int)),(depthF q u m i steps).2)) (dep+1),∃ y:Fd,x=y.raw∧FdOk (tagsP q u) steps y:=fun x hx=>by
  obtain ⟨i,_,hx⟩:=hdm x hx
  obtain ⟨y,hy,rfl⟩:=List.mem_map.1 (List.mem_filter.1 hx).1
  exact ⟨y,rfl,(hS.ok i steps).1 y hy⟩
 generalize deepL (fun i=>(((depthF q u m i steps).1.map Fd.raw).filter (atH (i:Int)),(depthF q u m i steps).2)) (dep+1)=L at *
 refine plaw_some _ _ _ _ _ hp hg h2 L _ ⟨by omega,fun x hx=>?_⟩ (fun x hx=>?_) ?_ i1 i2
 ·obtain ⟨y,rfl,hy⟩:=hok x hx
  exact hy.in2 hS.tags hst4
 ·obtain ⟨y,rfl,hy⟩:=hok x hx
  show (y.1.st.dis.map _).length≤_
  rw [List.length_map]
  have:=hy.dl
  omega
 ·have:=cnFs_le (l:=L) fun x hx=>by
   obtain ⟨y,rfl,hy⟩:=hok x hx
   exact hy.cn_le hS.tags hst4
  omega
end
end Go.Proofs.YtejkllmoofdpjaaGreat
