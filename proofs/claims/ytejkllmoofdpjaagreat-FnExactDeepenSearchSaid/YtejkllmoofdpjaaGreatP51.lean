/- Parts of the proof: VXJ VXH. -/
import Derived.Test.YtejkllmoofdpjaaGreatP50
namespace Go.Proofs.YtejkllmoofdpjaaGreat
open Go
set_option linter.all false
set_option maxRecDepth 100000
set_option maxHeartbeats 4000000
noncomputable section
open Classical
def mksIn2 (l:List MkR):Prop:=l.length≤1099511627776∧∀ b∈l,mkIn b
structure StR.In2 (s:StR):Prop where
 nx:I64 s.next
 bind:bdsIn s.bind
 dis:bdssIn s.dis
 kinds:vksIn s.kinds
 marks:mksIn2 s.marks
structure BrR.In2 (s:BrR):Prop where
 st:s.st.In2
 ch:isIn s.ch
theorem eqMarkS2_c:Con2 Tryz.prog 77 (List MkR) (List MkR) vMr vMr (fun a b=>bp (a=b)) (fun a b=>mksIn2 a∧mksIn2 b):=⟨fun a b ⟨ha,hb⟩=>by
 have l1:=ha.1
 have l2:=hb.1
 have h1:(a.map encM).length=a.length:=List.length_map _
 have h2:(b.map encM).length=b.length:=List.length_map _
 refine pu Tryz.func77 rfl Tryz.ntmps77 rfl rfl fun C=>?_
 by_cases hlen:a.length=b.length
 case neg=>
  (repeat' first|(refine kk ?_;intros)|refine kfk ?_ ?_<;>intro hb|fail)
  exact kret (bpF fun h=>hlen (congrArg List.length h))
 (repeat' first|(refine kk ?_;intros)|refine kfk ?_ ?_<;>intro hb|fail)
 refine kloop (ι:=Nat) (fun q=>a.length - q) (fun q=>[(0,.one (.s 2 (a.map encM))),(1,.one (.s 2 (b.map encM))),(5,nv q)]) (fun _=>[]) (fun q=>q≤a.length∧a.take q=b.take q) 0 ⟨Nat.zero_le _,by simp⟩ ?_
 rintro j ⟨hj0,he⟩
 by_cases hj:j < a.length
 ·obtain ⟨x,hx⟩:∃ y,a[j]?=some y:=⟨a[j],List.getElem?_eq_getElem hj⟩
  obtain ⟨y,hy⟩:∃ y,b[j]?=some y:=⟨b[j]'(by omega),List.getElem?_eq_getElem (by omega)⟩
  have hmx:=List.mem_of_getElem? hx
  have hmy:=List.mem_of_getElem? hy
  have hra:(a.map encM)[j]?=some (encM x):=by simp [hx]
  have hrb:(b.map encM)[j]?=some (encM y):=by simp [hy]
  have p1:mkIn x∧mkIn y:=⟨ha.2 x hmx,hb.2 y hmy⟩
  by_cases hxy:x=y
  ·(repeat' first|(refine kk ?_;intros)|refine kfk ?_ ?_<;>intro hb|fail)
   all_goals first
    | exact (by assumption:¬ (x=y)).elim hxy
    | exact ⟨j+1,by omega,⟨by omega,by rw [List.take_add_one,List.take_add_one,hx,hy,he,hxy]⟩,kwk⟩
  ·(repeat' first|(refine kk ?_;intros)|refine kfk ?_ ?_<;>intro hb|fail)
   all_goals first
    | exact (hxy (by assumption)).elim
    | exact kret (bpF fun h=>hxy (by subst h;rw [hx] at hy;exact Option.some.inj hy))
 ·obtain rfl:j=a.length:=by omega
  rw [List.take_length,hlen,List.take_length] at he
  (repeat' first|(refine kk ?_;intros)|refine kfk ?_ ?_<;>intro hb|fail)
  exact kret (bpT he)⟩
theorem eqState2_c:Con2 Tryz.prog 27 StR StR vStr vStr (fun a b=>bp (a=b)) (fun a b=>StR.In2 a∧StR.In2 b):=⟨fun a b ⟨ha,hb⟩=>by
 have i1:=ha.nx
 have j1:=hb.nx
 have p1:bdsIn a.bind∧bdsIn b.bind:=⟨ha.bind,hb.bind⟩
 have p2:bdssIn a.dis∧bdssIn b.dis:=⟨ha.dis,hb.dis⟩
 have p3:vksIn a.kinds∧vksIn b.kinds:=⟨ha.kinds,hb.kinds⟩
 have p4:mksIn2 a.marks∧mksIn2 b.marks:=⟨ha.marks,hb.marks⟩
 rw [show (a=b)=(a.next=b.next∧a.bind=b.bind∧a.dis=b.dis∧a.kinds=b.kinds∧a.marks=b.marks) from propext (by cases a;cases b;simp only [StR.mk.injEq])]
 haveI:=eqMarkS2_c
 refine pu Tryz.func27 rfl Tryz.ntmps27 rfl rfl fun C=>?_
 (repeat' first|(refine kk ?_;intros)|refine kfk ?_ ?_<;>intro hb|fail)
 all_goals first
  | (refine kret (bpF ?_);rintro ⟨q0,q1,q2,q3,q4⟩;first|exact hb q0|exact hb q1|exact hb q2|exact hb q3|exact hb q4)
  | (refine kret (bpT ?_);refine ⟨?_,?_,?_,?_,?_⟩<;>assumption)⟩
theorem eqBranch2_c:Con2 Tryz.prog 55 BrR BrR vBr vBr (fun a b=>bp (a=b)) (fun a b=>BrR.In2 a∧BrR.In2 b):=⟨fun a b ⟨ha,hb⟩=>by
 have p1:a.st.In2∧b.st.In2:=⟨ha.st,hb.st⟩
 have p2:isIn a.ch∧isIn b.ch:=⟨ha.ch,hb.ch⟩
 rw [show (a=b)=(a.st=b.st∧a.ch=b.ch) from propext (by cases a;cases b;simp only [BrR.mk.injEq])]
 haveI:=eqState2_c
 refine pu Tryz.func55 rfl Tryz.ntmps55 rfl rfl fun C=>?_
 (repeat' first|(refine kk ?_;intros)|refine kfk ?_ ?_<;>intro hb|fail)
 all_goals first
  | (refine kret (bpF ?_);rintro ⟨q0,q1⟩;first|exact hb q0|exact hb q1)
  | (refine kret (bpT ?_);refine ⟨?_,?_⟩<;>assumption)⟩
end
noncomputable section
open Classical
theorem pmF1 {x:Atm} {b r:List Atm}:(x::(b++r)).Perm ((x::r)++b):=by
 classical
 exact List.perm_iff_count.2 fun y=>by simp only [List.count_append,List.count_cons,List.count_nil];omega
theorem pmF2 {x:Atm} {b r s:List Atm}:(x::((b++r)++s)).Perm ((x::(r++s))++b):=by
 classical
 exact List.perm_iff_count.2 fun y=>by simp only [List.count_append,List.count_cons,List.count_nil];omega
theorem pmF3 {x:Atm} {a:Atm} {r s t:List Atm}:(x::(((a::r)++s)++t)).Perm ((x::((r++s)++t))++[a]):=by
 classical
 exact List.perm_iff_count.2 fun y=>by simp only [List.count_append,List.count_cons,List.count_nil];omega
theorem pmF4 {x:Atm} {a:Atm} {r s t u:List Atm}:(x::((((a::r)++s)++t)++u)).Perm ((x::(((r++s)++t)++u))++[a]):=by
 classical
 exact List.perm_iff_count.2 fun y=>by simp only [List.count_append,List.count_cons,List.count_nil];omega
theorem pmF5 {x:Atm} {a:Atm} {r s t u v:List Atm}:(x::(((((a::r)++s)++t)++u)++v)).Perm ((x::((((r++s)++t)++u)++v))++[a]):=by
 classical
 exact List.perm_iff_count.2 fun y=>by simp only [List.count_append,List.count_cons,List.count_nil];omega
theorem pmF6 {x:Atm} {k m c:Atm} {p q b d:List Atm}:(x::((p++(((b++(d++[k,m]))++[c])))++q)).Perm (x::((((((p++q)++b)++d)++[k])++[m])++[c])):=by
 classical
 exact List.perm_iff_count.2 fun y=>by simp only [List.count_append,List.count_cons,List.count_nil];omega
theorem pmF0 {x:Atm} {k m c:Atm} {p q b d:List Atm}:(x::(b++(d++(k::m::c::(p++q))))).Perm (x::(p++(((b++(d++[k,m]))++[c])++q))):=by
 classical
 exact List.perm_iff_count.2 fun y=>by simp only [List.count_append,List.count_cons,List.count_nil];omega
theorem markFsM_c (l:List OFd) (u:Value) (k:Nat) (h0:0 < k) (hD:∀ x∈l,x.b.s.d.length≤1000000) (hk:k+cnFs (l.map OFd.fd)≤100000000000000):Spec Tryz.prog 38 [.one (.v u),nv k] (SFd u l) fun v A'=>v=nv (k+cnFs (l.map OFd.fd))∧∃ l',l'.map OFd.fd=mkFs (l.map OFd.fd) k∧A'=SFd u l':=by
 have hln:=cnFs_len (l.map OFd.fd)
 rw [List.length_map] at hln
 refine sp Tryz.func38 rfl Tryz.ntmps38 rfl rfl fun C=>?_
 (repeat' first|(refine kk ?_;intros)|refine kfk ?_ ?_<;>intro hb|fail)
 refine kloop (ι:=Nat × List OFd × List OFd) (fun q=>q.2.2.length) (fun q=>[(0,.one (.v u)),(1,nv q.1),(5,nv q.2.1.length)]) (fun q=>arow 147 7 u (q.2.1.map OFd.row++q.2.2.map OFd.row)::(atsF q.2.1++atsF q.2.2)) (fun q=>(0 < q.1∧∀ x∈q.2.2,x∈l)∧q.2.1.length+q.2.2.length=l.length∧q.1+cnFs (q.2.2.map OFd.fd)=k+cnFs (l.map OFd.fd)∧mkFs (l.map OFd.fd) k=q.2.1.map OFd.fd++mkFs (q.2.2.map OFd.fd) q.1) (k,[],l) ⟨⟨h0,fun _ h=>h⟩,by simp,rfl,rfl⟩ ?_ kwk
 rintro ⟨kk',pre,todo⟩ ⟨⟨q1,q5⟩,q2,q3,q4⟩
 dsimp only at q1 q2 q3 q4 q5 ⊢
 cases todo with
 | nil=>
  have hfl:(pre.map OFd.row++List.map OFd.row []).length=pre.length:=by simp
  (repeat' first|(refine kk ?_;intros)|refine kfk ?_ ?_<;>intro hb|fail)
  simp only [List.map_nil,cnFs,Nat.add_zero,mkFs,List.append_nil] at q3 q4
  refine ker1 (nv kk') ⟨by rw [q3],pre,q4.symm,rfl⟩ (hs:=?_)
  simp only [List.map_nil,List.append_nil,atsF]
  exact List.Sublist.refl _
 | cons x rest=>
  have hx:=hD x (q5 x (List.Mem.head _))
  have q6:∀ x∈rest,x∈l:=fun y hy=>q5 y (List.Mem.tail _ hy)
  obtain ⟨⟨⟨nx,bu,bs,du,ds,ku,ks,mu,ms⟩,cu,cs⟩,hh⟩:=x
  simp only at hx
  refine AW_rowU (List.Mem.head _) fun hu=>?_
  rcases hu with ⟨_,hu⟩ | ⟨b,c,rfl⟩
  ·simp at hu
  simp only [List.length_cons] at q2
  simp only [List.map_cons,OFd.fd,OBr.br,OSt.st,cnFs,FdR.cn,StR.cn,mkFs,FdR.mkd,StR.mkd] at q3 q4
  have hfl:(pre.map OFd.row++List.map OFd.row (⟨⟨⟨nx,bu,bs,du,ds,ku,ks,mu,ms⟩,cu,cs⟩,hh⟩::rest)).length=pre.length+(rest.length+1):=by simp
  have hpl:∀ r:OFd,nv (pre++[r]).length=iv ((pre.length:Int)+1):=fun r=>by simp
  refine AW_weak ⟨fun _=>.refl _,_,pmF0 (b:=SBd bu bs) (d:=SDs du ds) (k:=SKs ku ks) (m:=SMs mu ms) (c:=SIs cu cs) (p:=atsF pre) (q:=atsF rest),.refl _⟩ ?_
  (repeat' first|(refine kk ?_;intros)|refine kfk ?_ ?_<;>intro hb|fail)
  refine kstM 0 ?_
  (repeat' first|(refine kkS [] [27] ?_;intros)|fail)
  refine kr ?_ (h:=P_load1R (j:=pre.length) (o:=1) (sz:=7) _ rfl (List.Mem.head _) get_midM rfl)
  (repeat' first|(refine kkS [83] [] ?_;intros)|refine kfS [83] [] ?_ ?_<;>intro hb|fail)
  refine kcs (h:=markBsM_c bs bu (kk'+1) (by omega) (by omega)) ?_ (hA:=pmF1)
  rintro _ A' ⟨rfl,bs',hb',rfl⟩
  (repeat' first|(refine kkS [] [36] ?_;intros)|fail)
  refine kr ?_ (h:=P_load1R (j:=pre.length) (o:=2) (sz:=7) _ rfl (List.Mem.head _) get_midM rfl)
  (repeat' first|(refine kkS [84] [] ?_;intros)|refine kfS [84] [] ?_ ?_<;>intro hb|fail)
  refine kcs (h:=markDsM_c ds du (kk'+1+cnBs (bs.map OB.bd)) (by omega) hx (by omega)) ?_ (hA:=pmF2)
  rintro _ A' ⟨rfl,ds',hd',rfl⟩
  (repeat' first|(refine kkS [] [45] ?_;intros)|fail)
  refine kr ?_ (h:=P_load1R (j:=pre.length) (o:=3) (sz:=7) _ rfl (List.Mem.head _) get_midM rfl)
  (repeat' first|(refine kkS [85] [] ?_;intros)|refine kfS [85] [] ?_ ?_<;>intro hb|fail)
  refine kcs (h:=markKs_c ks ku (kk'+1+cnBs (bs.map OB.bd)+cnDs (ds.map OD.bs)) (by omega) (by omega)) ?_ (hA:=pmF3)
  rintro _ A' ⟨rfl,rfl⟩
  (repeat' first|(refine kkS [] [54] ?_;intros)|fail)
  refine kr ?_ (h:=P_load1R (j:=pre.length) (o:=4) (sz:=7) _ rfl (List.Mem.head _) get_midM rfl)
  (repeat' first|(refine kkS [86] [] ?_;intros)|refine kfS [86] [] ?_ ?_<;>intro hb|fail)
  refine kcs (h:=markMs_c ms mu (kk'+1+cnBs (bs.map OB.bd)+cnDs (ds.map OD.bs)+2 * ks.length) (by omega) (by omega)) ?_ (hA:=pmF4)
  rintro _ A' ⟨rfl,rfl⟩
  (repeat' first|(refine kkS [] [62] ?_;intros)|fail)
  refine kr ?_ (h:=P_load1R (j:=pre.length) (o:=5) (sz:=7) _ rfl (List.Mem.head _) get_midM rfl)
  (repeat' first|(refine kkS [32] [] ?_;intros)|refine kfS [32] [] ?_ ?_<;>intro hb|fail)
  refine kcs (h:=markIs_c cs cu (kk'+1+cnBs (bs.map OB.bd)+cnDs (ds.map OD.bs)+2 * ks.length+2 * ms.length) (by omega) (by omega)) ?_ (hA:=pmF5)
  rintro _ A' ⟨rfl,rfl⟩
  (repeat' first|(refine kk ?_;intros)|refine kfk ?_ ?_<;>intro hb|fail)
  refine kstM 6 ?_
  (repeat' first|(refine kk ?_;intros)|refine kfk ?_ ?_<;>intro hb|fail)
  refine ⟨(kk'+1+cnBs (bs.map OB.bd)+cnDs (ds.map OD.bs)+2 * ks.length+2 * ms.length+1 * cs.length+1,pre++[⟨⟨⟨((kk':Nat):Int),bu,bs',du,ds',ku,mkKs ks (kk'+1+cnBs (bs.map OB.bd)+cnDs (ds.map OD.bs)),mu,mkMs ms (kk'+1+cnBs (bs.map OB.bd)+cnDs (ds.map OD.bs)+2 * ks.length)⟩,cu,mkIs cs (kk'+1+cnBs (bs.map OB.bd)+cnDs (ds.map OD.bs)+2 * ks.length+2 * ms.length)⟩,((kk'+1+cnBs (bs.map OB.bd)+cnDs (ds.map OD.bs)+2 * ks.length+2 * ms.length+1 * cs.length:Nat):Int)⟩],rest),by simp only [List.length_cons];omega,⟨⟨by simp only;omega,q6⟩,by simp only [List.length_append,List.length_cons,List.length_nil];omega,by simp only;omega,?_⟩,⟨leF_fl (by dsimp only;rw [hpl];exact wL),_,?_,.refl _⟩⟩
  ·dsimp only
   rw [q4,List.map_append,List.append_assoc]
   have e1:kk'+1+(cnBs (bs.map OB.bd)+(cnDs (ds.map OD.bs)+(2 * ks.length+2 * ms.length)))=kk'+1+cnBs (bs.map OB.bd)+cnDs (ds.map OD.bs)+2 * ks.length+2 * ms.length:=by omega
   have e2:kk'+(2+(cnBs (bs.map OB.bd)+(cnDs (ds.map OD.bs)+(2 * ks.length+2 * ms.length)))+cs.length)=kk'+1+cnBs (bs.map OB.bd)+cnDs (ds.map OD.bs)+2 * ks.length+2 * ms.length+1 * cs.length+1:=by omega
   simp only [e1,e2,List.map_cons,List.map_nil,OFd.fd,OBr.br,OSt.st,hb',hd',List.cons_append,List.nil_append,Nat.one_mul]
  ·dsimp only
   rw [List.map_append,List.append_assoc,atsF_app,show ∀ z:OFd,atsF [z]=z.b.ats from fun z=>by simp only [atsF,List.append_nil]]
   exact pmF6
instance heldFs_c:Con2 Tryz.prog 39 (List FdR) Nat vFds nv (fun l k=>nv (k+cnFs l)) (fun l k=>∃ l0:List FdR,l=mkFs l0 k∧(0 < k∧∀ x∈l0,x.1.st.dis.length≤1000000)∧k+cnFs l0≤100000000000000):=⟨fun l k ⟨l0,e1,⟨h0,hD⟩,hk⟩=>by
 subst e1
 have hl0:=cnFs_len l0
 rw [cnFs_mk]
 refine pu Tryz.func39 rfl Tryz.ntmps39 rfl rfl fun C=>?_
 have hlt:((mkFs l0 k).map encFd).length=l0.length:=by rw [List.length_map,mkFs_len]
 (repeat' first|(refine kk ?_;intros)|refine kfk ?_ ?_<;>intro hb|fail)
 refine kloop (ι:=Nat × Nat × List FdR) (fun q=>q.2.2.length) (fun q=>[(0,.one (.s 7 ((mkFs l0 k).map encFd))),(1,nv q.1),(5,nv q.2.1)]) (fun _=>[]) (fun q=>q.2.1+q.2.2.length=l0.length∧q.1+cnFs q.2.2=k+cnFs l0∧((0 < q.1∧∀ x∈q.2.2,x∈l0)∧(mkFs l0 k).drop q.2.1=mkFs q.2.2 q.1)) (k,0,l0) ⟨by simp,rfl,⟨h0,fun _ h=>h⟩,rfl⟩ ?_ kwk
 rintro ⟨kk',j,todo⟩ ⟨q2,q3,⟨q1,q5⟩,q4⟩
 dsimp only at q1 q2 q3 q4 q5 ⊢
 cases todo with
 | nil=>
  simp only [List.length_nil,Nat.add_zero,cnFs] at q2 q3
  (repeat' first|(refine kk ?_;intros)|refine kfk ?_ ?_<;>intro hb|fail)
  exact kret (show nv kk'=nv (k+cnFs l0) from congrArg nv (by omega))
 | cons x rest=>
  have hx:=hD x (q5 x (List.Mem.head _))
  have q6:∀ x∈rest,x∈l0:=fun y hy=>q5 y (List.Mem.tail _ hy)
  obtain ⟨⟨⟨nx,bs,ds,ks,ms⟩,cs⟩,hh⟩:=x
  simp only at hx
  simp only [List.length_cons,cnFs,FdR.cn,StR.cn] at q2 q3
  have hrow:((mkFs l0 k).map encFd)[j]?=some [.v (.int .i64 ((kk':Nat):Int)),.s 5 ((mkBs bs (kk'+1)).map encB),.s 1 ((mkDs ds (kk'+1+cnBs bs)).map (encL 5 encB)),.s 2 ((mkKs ks (kk'+1+cnBs bs+cnDs ds)).map encK),.s 2 ((mkMs ms (kk'+1+cnBs bs+cnDs ds+2 * ks.length)).map encM),.s 1 ((mkIs cs (kk'+1+cnBs bs+cnDs ds+2 * ks.length+2 * ms.length)).map encI),.v (.int .i64 ((kk'+1+cnBs bs+cnDs ds+2 * ks.length+2 * ms.length+1 * cs.length:Nat):Int))]:=by
   rw [List.getElem?_map]
   have:(mkFs l0 k)[j]?=some (FdR.mkd (⟨⟨nx,bs,ds,ks,ms⟩,cs⟩,hh) kk'):=by
    rw [← Nat.add_zero j,← List.getElem?_drop,q4];rfl
   rw [this]
   have e1:kk'+1+(cnBs bs+(cnDs ds+(2 * ks.length+2 * ms.length)))=kk'+1+cnBs bs+cnDs ds+2 * ks.length+2 * ms.length:=by omega
   simp only [FdR.mkd,StR.mkd,StR.cn,e1,Nat.one_mul]
   rfl
  have p1:∃ l1:List BdR,mkBs bs (kk'+1)=mkBs l1 (kk'+1)∧0 < kk'+1∧kk'+1+cnBs l1≤100000000000000:=⟨bs,rfl,by omega,by omega⟩
  have p2:∃ l1:List (List BdR),mkDs ds (kk'+1+cnBs bs)=mkDs l1 (kk'+1+cnBs bs)∧(0 < kk'+1+cnBs bs∧l1.length≤1000000)∧kk'+1+cnBs bs+cnDs l1≤100000000000000:=⟨ds,rfl,⟨by omega,hx⟩,by omega⟩
  have p3:∃ l1:List VkR,mkKs ks (kk'+1+cnBs bs+cnDs ds)=mkKs l1 (kk'+1+cnBs bs+cnDs ds)∧0 < kk'+1+cnBs bs+cnDs ds∧kk'+1+cnBs bs+cnDs ds+2 * l1.length≤100000000000000:=⟨ks,rfl,by omega,by omega⟩
  have p4:∃ l1:List MkR,mkMs ms (kk'+1+cnBs bs+cnDs ds+2 * ks.length)=mkMs l1 (kk'+1+cnBs bs+cnDs ds+2 * ks.length)∧0 < kk'+1+cnBs bs+cnDs ds+2 * ks.length∧kk'+1+cnBs bs+cnDs ds+2 * ks.length+2 * l1.length≤100000000000000:=⟨ms,rfl,by omega,by omega⟩
  have p5:∃ l1:List Int,mkIs cs (kk'+1+cnBs bs+cnDs ds+2 * ks.length+2 * ms.length)=mkIs l1 (kk'+1+cnBs bs+cnDs ds+2 * ks.length+2 * ms.length)∧0 < kk'+1+cnBs bs+cnDs ds+2 * ks.length+2 * ms.length∧kk'+1+cnBs bs+cnDs ds+2 * ks.length+2 * ms.length+1 * l1.length≤100000000000000:=⟨cs,rfl,by omega,by omega⟩
  have e3:=cnBs_mk bs (kk'+1)
  have e4:=cnDs_mk ds (kk'+1+cnBs bs)
  have e5:=mkKs_len ks (kk'+1+cnBs bs+cnDs ds)
  have e6:=mkMs_len ms (kk'+1+cnBs bs+cnDs ds+2 * ks.length)
  have e7:=mkIs_len cs (kk'+1+cnBs bs+cnDs ds+2 * ks.length+2 * ms.length)
  (repeat' first|(refine kkS [] [32] ?_;intros)|fail)
  rw [e3]
  (repeat' first|(refine kkS [] [43] ?_;intros)|fail)
  rw [e4]
  (repeat' first|(refine kkS [] [54] ?_;intros)|fail)
  rw [e5]
  (repeat' first|(refine kkS [] [65] ?_;intros)|fail)
  rw [e6]
  (repeat' first|(refine kkS [] [75] ?_;intros)|fail)
  rw [e7]
  (repeat' first|(refine kk ?_;intros)|refine kfk ?_ ?_<;>intro hb|fail)
  refine ⟨(kk'+1+cnBs bs+cnDs ds+2 * ks.length+2 * ms.length+1 * cs.length+1,j+1,rest),by simp only [List.length_cons];omega,⟨by simp only;omega,by simp only;omega,⟨by simp only;omega,q6⟩,?_⟩,kwk⟩
  have e2:kk'+(2+(cnBs bs+(cnDs ds+(2 * ks.length+2 * ms.length)))+cs.length)=kk'+1+cnBs bs+cnDs ds+2 * ks.length+2 * ms.length+1 * cs.length+1:=by omega
  rw [← List.drop_drop,q4]
  simp only [mkFs,FdR.cn,StR.cn,e2,List.drop_one,List.tail_cons]⟩
instance eqFd_c:Con2 Tryz.prog 96 FdR FdR (fun x=>.agg (encFd x)) (fun x=>.agg (encFd x)) (fun a b=>bp (a=b)) (fun a b=>a.1.In2∧b.1.In2):=⟨fun a b ⟨ha,hb⟩=>by
 obtain ⟨a1,a2⟩:=a
 obtain ⟨b1,b2⟩:=b
 have p1:a1.In2∧b1.In2:=⟨ha,hb⟩
 refine pu Tryz.func96 rfl Tryz.ntmps96 rfl rfl fun C=>?_
 by_cases h1:a1=b1
 ·haveI:=eqBranch2_c.yes
  have:=And.intro p1 h1
  by_cases h2:a2=b2
  ·(repeat' first|(refine kk ?_;intros)|refine kfk ?_ ?_<;>intro hb|fail)
   exact kret (bpT (by rw [h1,h2]))
  ·(repeat' first|(refine kk ?_;intros)|refine kfk ?_ ?_<;>intro hb|fail)
   exact kret (bpF fun h=>h2 (Prod.mk.inj h).2)
 ·haveI:=eqBranch2_c.no
  have:=And.intro p1 h1
  (repeat' first|(refine kk ?_;intros)|refine kfk ?_ ?_<;>intro hb|fail)
  exact kret (bpF fun h=>h1 (Prod.mk.inj h).1)⟩
instance eqFs_c:Con2 Tryz.prog 37 (List FdR) (List FdR) vFds vFds (fun a b=>bp (a=b)) (fun a b=>(a.length≤1000000∧b.length≤1000000)∧(∀ x∈a,x.1.In2)∧∀ x∈b,x.1.In2):=⟨fun a b ⟨⟨hla,hlb⟩,ia,ib⟩=>by
 have h1:(a.map encFd).length=a.length:=List.length_map _
 have h2:(b.map encFd).length=b.length:=List.length_map _
 refine pu Tryz.func37 rfl Tryz.ntmps37 rfl rfl fun C=>?_
 by_cases hlen:a.length=b.length
 case neg=>
  (repeat' first|(refine kk ?_;intros)|refine kfk ?_ ?_<;>intro hb|fail)
  exact kret (bpF fun h=>hlen (congrArg List.length h))
 (repeat' first|(refine kk ?_;intros)|refine kfk ?_ ?_<;>intro hb|fail)
 refine kloop (ι:=Nat) (fun q=>a.length - q) (fun q=>[(0,.one (.s 7 (a.map encFd))),(1,.one (.s 7 (b.map encFd))),(5,nv q)]) (fun _=>[]) (fun q=>q≤a.length∧a.take q=b.take q) 0 ⟨Nat.zero_le _,by simp⟩ ?_
 rintro j ⟨hj0,he⟩
 by_cases hj:j < a.length
 ·obtain ⟨x,hx⟩:∃ y,a[j]?=some y:=⟨a[j],List.getElem?_eq_getElem hj⟩
  obtain ⟨y,hy⟩:∃ y,b[j]?=some y:=⟨b[j]'(by omega),List.getElem?_eq_getElem (by omega)⟩
  have hra:(a.map encFd)[j]?=some (encFd x):=by simp [hx]
  have hrb:(b.map encFd)[j]?=some (encFd y):=by simp [hy]
  have p1:x.1.In2∧y.1.In2:=⟨ia x (List.mem_of_getElem? hx),ib y (List.mem_of_getElem? hy)⟩
  by_cases hxy:x=y
  ·(repeat' first|(refine kk ?_;intros)|refine kfk ?_ ?_<;>intro hb|fail)
   all_goals first
    | exact (by assumption:¬ (x=y)).elim hxy
    | refine ⟨j+1,by omega,⟨by omega,by rw [List.take_add_one,List.take_add_one,hx,hy,he,hxy]⟩,kwk⟩
  ·(repeat' first|(refine kk ?_;intros)|refine kfk ?_ ?_<;>intro hb|fail)
   all_goals first
    | exact absurd (by assumption) hxy
    | exact kret (bpF fun h=>hxy (by rw [h,hy] at hx;cases hx;rfl))
 ·obtain rfl:j=a.length:=by omega
  (repeat' first|(refine kk ?_;intros)|refine kfk ?_ ?_<;>intro hb|fail)
  exact kret (bpT (by rw [List.take_length,hlen,List.take_length] at he;exact he))⟩
end
end Go.Proofs.YtejkllmoofdpjaaGreat
