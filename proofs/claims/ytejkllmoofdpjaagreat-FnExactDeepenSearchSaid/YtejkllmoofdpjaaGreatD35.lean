/- Parts of the proof: V62 V64 VW5. -/
import Derived.Test.YtejkllmoofdpjaaGreatD31
import Derived.Lib.SmallJoins
import Derived.ProofKit
namespace Go.Proofs.YtejkllmoofdpjaaGreat
open Go
set_option linter.all false
set_option maxRecDepth 100000
set_option maxHeartbeats 4000000
noncomputable section
instance copy_s:Con1 Tryz.prog 176 T vT (fun t=>vT t) (fun _=>True):=.ind T.nodes fun N ih t hN _=>by
 refine pu Tryz.func176 rfl Tryz.ntmps176 rfl rfl fun C=>?_
 cases t with
 | pair a b=>
  have:=nodes_pos a
  have:=nodes_pos b
  simp only [T.nodes] at hN
  have s1:a.nodes < N∧True:=⟨by omega,trivial⟩
  have s2:b.nodes < N∧True:=⟨by omega,trivial⟩
  (repeat' first|(refine kk ?_;intros)|refine kfk ?_ ?_<;>intro hb|fail)
  rename_i b1 b2 b3
  refine knA 174 4 ?_
  refine kfor (ι:=Value) [a,b] (fun j u=>[(2,.one (.v (.pointer (some ⟨b2,0,none⟩)))),(3,.one (.v (.pointer (some ⟨b3,0,none⟩)))),(14,vTs [a,b])]) (fun j u=>[arow 174 4 u ((([a,b].take j).map T.tm).map encT),abox b3 [.v (.int .i64 4),.v (.int .i64 0),.v (.string noS),.v u] 174,abox b2 zT 174]) (fun _ _=>True) (.slice none 0 0) trivial ?_ ?_ (hN:=by simp)
  ·rintro j x u hj hdd hjl _
   have hx:x.nodes < N∧True:=by
    rcases List.mem_cons.1 (List.mem_of_getElem? hj) with rfl|h
    ·exact s1
    ·obtain rfl:=List.mem_singleton.1 h;exact s2
   have hrow:(rowsT ([a,b].map T.tm))[j]?=some (encT x.tm):=by rw [rowsT_eq];simp only [List.getElem?_map,hj,Option.map_some]
   have ht1:[a,b].take (j+1)=[a,b].take j++[x]:=by rw [List.take_add_one,hj];rfl
   have hjl2:j < 2:=by simpa using hjl
   have hle:([a,b].take j).length≤j:=by simp;omega
   (repeat' first|(refine kk ?_;intros)|refine kfk ?_ ?_<;>intro hb|fail)
   refine kdA 1 (ho:=rfl) fun u1=>?_
   (repeat' first|(refine kk ?_;intros)|refine kfk ?_ ?_<;>intro hb|fail)
   refine ⟨u1,trivial,?_⟩
   rw [ht1,List.map_append,List.map_append]
   exact kwk
  ·intro u _
   (repeat' first|(refine kk ?_;intros)|refine kfk ?_ ?_<;>intro hb|fail)
   refine kr1 (rvw ?_)
   exact VwC.cons (VwD.refl _) (VwC.cons (VwD.refl _) (VwC.cons (VwD.refl _) (VwC.cons (VwD.row (List.Mem.head _) rfl) VwC.nil)))
 | _=>
  (repeat' first|(refine kk ?_;intros)|refine kfk ?_ ?_<;>intro hb|fail)
  refine kun3 ?_
  (repeat' first|(refine kk ?_;intros)|refine kfk ?_ ?_<;>intro hb|fail)
  refine kr1 (rvw ?_)
  (exact wV)
instance copyAll_s:Con1 Tryz.prog 166 (List T) vTs (fun l=>vTs l) (fun l=>l.length≤1000000):=⟨fun l hl=>by
 have hlen:(rowsT (l.map T.tm)).length=l.length:=by rw [rowsT_len,List.length_map]
 refine pu Tryz.func166 rfl Tryz.ntmps166 rfl rfl fun C=>?_
 (repeat' first|(refine kkz ?_;intros)|refine kfk ?_ ?_<;>intro hb|fail)
 rename_i u0
 refine kfor (ι:=Value) l (fun j u=>[(3,.one (.v u)),(7,vTs l)]) (fun j u=>[arow 174 4 u (rowsT ((l.take j).map T.tm))]) (fun _ _=>True) u0 trivial ?_ ?_
 ·rintro j x u hj hdd hjl _
  have hrow:(rowsT (l.map T.tm))[j]?=some (encT x.tm):=by rw [rowsT_eq];simp [hj]
  have ht1:l.take (j+1)=l.take j++[x]:=by rw [List.take_add_one,hj];rfl
  have hle:(l.take j).length≤j:=by simp;omega
  have hle2:(rowsT ((l.take j).map T.tm)).length≤j:=by rw [rowsT_len,List.length_map];exact hle
  (repeat' first|(refine kk ?_;intros)|refine kfk ?_ ?_<;>intro hb|fail)
  rename_i u1
  refine ⟨u1,trivial,?_⟩
  rw [ht1,List.map_append,rowsT_app]
  exact kwk
 ·intro u _
  rw [List.take_length]
  (repeat' first|(refine kk ?_;intros)|refine kfk ?_ ?_<;>intro hb|fail)
  exact kr1 (rvR rfl)⟩
instance copyB_s:Con1 Tryz.prog 128 Sb vS (fun s=>vS s) (fun s=>s.length≤1000000):=⟨fun s hl=>by
 have hlen:((s.map toB).map encB).length=s.length:=by simp
 have hl1:Lng s.length:=by unfold Lng;omega
 refine pu Tryz.func128 rfl Tryz.ntmps128 rfl rfl fun C=>?_
 (repeat' first|(refine kkz ?_;intros)|refine kfk ?_ ?_<;>intro hb|fail)
 rename_i u0
 refine kfor (ι:=Value) s (fun j u=>[(3,.one (.v u)),(7,vS s)]) (fun j u=>[arow 183 5 u (((s.take j).map toB).map encB)]) (fun j _=>True) u0 trivial ?_ ?_
 ·rintro j ⟨v,t⟩ u hj hdd hjl _
  have hrow:((s.map toB).map encB)[j]?=some (encB (toB (v,t))):=by simp [hj]
  have ht1:s.take (j+1)=s.take j++[(v,t)]:=by rw [List.take_add_one,hj];rfl
  have hle:(s.take j).length≤j:=by simp;omega
  (repeat' first|(refine kk ?_;intros)|refine kfk ?_ ?_<;>intro hb|fail)
  refine kdA 1 (ho:=rfl) fun u1=>?_
  (repeat' first|(refine kk ?_;intros)|refine kfk ?_ ?_<;>intro hb|fail)
  refine ⟨u1,trivial,?_⟩
  simp only [ht1,List.map_append]
  exact kwk
 ·intro u _
  rw [List.take_length]
  (repeat' first|(refine kk ?_;intros)|refine kfk ?_ ?_<;>intro hb|fail)
  exact kr1 (rvR rfl)⟩
instance copyBs_s:Con1 Tryz.prog 129 (List Sb) vSs (fun l=>vSs l) (fun l=>l.length≤1000000∧∀ s∈l,s.length≤1000000):=⟨fun l ⟨hl,hs⟩=>by
 have hlen:(l.map eS).length=l.length:=by simp
 refine pu Tryz.func129 rfl Tryz.ntmps129 rfl rfl fun C=>?_
 (repeat' first|(refine kkz ?_;intros)|refine kfk ?_ ?_<;>intro hb|fail)
 rename_i u0
 refine kfor (ι:=Value) l (fun j u=>[(3,.one (.v u)),(7,vSs l)]) (fun j u=>[arow 48 1 u ((l.take j).map eS)]) (fun _ _=>True) u0 trivial ?_ ?_
 ·rintro j x u hj hdd hjl _
  have hrow:(l.map eS)[j]?=some (eS x):=by simp [hj]
  have hx:=hs x (List.mem_of_getElem? hj)
  have ht1:l.take (j+1)=l.take j++[x]:=by rw [List.take_add_one,hj];rfl
  have hle:(l.take j).length≤j:=by simp;omega
  (repeat' first|(refine kk ?_;intros)|refine kfk ?_ ?_<;>intro hb|fail)
  rename_i u1
  refine ⟨u1,trivial,?_⟩
  rw [ht1,List.map_append]
  exact kwk
 ·intro u _
  rw [List.take_length]
  (repeat' first|(refine kk ?_;intros)|refine kfk ?_ ?_<;>intro hb|fail)
  exact kr1 (rvR rfl)⟩
end
noncomputable section
instance copyG_s:Con1 Tryz.prog 120 G vG (fun g=>vG g) GvS:=.ind G.nodes fun N ih g hN hg=>by
 have hte:=terms_ts g
 have hgo:=goals_kids g
 have e3:g.gl.subE=(g.kids.map G.gl).map encG:=by rw [subE_eq,rowsG_eq,hgo]
 have e4:g.gl.goals.length=g.kids.length:=by rw [hgo,List.length_map]
 have k1:=hg.ts g (pre_self g)
 have k2:=hg.kids g (pre_self g)
 refine pu Tryz.func120 rfl Tryz.ntmps120 rfl rfl fun C=>?_
 (repeat' first|(refine kk ?_;intros)|refine kfk ?_ ?_<;>intro hb|fail)
 rename_i b1 b2
 refine kmix 10 [0,1,2,3,4,5,6,7] [8,9] [abox b1 (encG g.gl) 59] ?_
 (repeat (refine kkc ?_))
 rw [hte]
 (repeat (refine kkc ?_))
 refine kacO rfl rfl (O_alloc rfl) ?_
 rintro v A' ⟨b3,rfl,rfl⟩
 refine ⟨Has.three,?_⟩
 (repeat (refine kkc ?_))
 (repeat' first|(refine kk ?_;intros)|refine kfk ?_ ?_<;>intro hb|fail)
 rw [e3,e4]
 refine knA 59 4 ?_
 refine kfor (ι:=Value) g.kids (fun j u=>[(2,.one (.v (.pointer (some ⟨b2,0,none⟩)))),(3,.one (.v (.pointer (some ⟨b3,0,none⟩)))),(15,.one (.s 4 ((g.kids.map G.gl).map encG)))]) (fun j u=>[arow 59 4 u (((g.kids.take j).map G.gl).map encG),abox b3 [.v (.int .i64 g.gl.kind),.v (.string g.gl.name),.s 4 (rowsT (g.ts.map T.tm)),.v u] 59,abox b2 [.v (.int .i64 0),.v (.string noS),.v (.slice none 0 0),.v (.slice none 0 0)] 59]) (fun _ _=>True) (.slice none 0 0) trivial ?_ ?_
 ·rintro j x u hj hdd hjl _
  have hrow:((g.kids.map G.gl).map encG)[j]?=some (encG x.gl):=by simp [hj]
  have hx:=List.mem_of_getElem? hj
  have p1:x.nodes < N∧GvS x:=⟨by have:=kids_nodes hx;omega,hg.kid hx⟩
  have ht1:g.kids.take (j+1)=g.kids.take j++[x]:=by rw [List.take_add_one,hj];rfl
  have hle:(g.kids.take j).length≤j:=by simp;omega
  (repeat' first|(refine kk ?_;intros)|refine kfk ?_ ?_<;>intro hb|fail)
  refine kdA 1 (ho:=rfl) fun u1=>?_
  (repeat' first|(refine kk ?_;intros)|refine kfk ?_ ?_<;>intro hb|fail)
  refine ⟨u1,trivial,?_⟩
  rw [ht1,List.map_append,List.map_append]
  exact kwk
 ·intro u _
  rw [List.take_length]
  (repeat' first|(refine kk ?_;intros)|refine kfk ?_ ?_<;>intro hb|fail)
  refine kr1 (rvw ?_)
  exact VwC.cons (VwD.refl _) (VwC.cons (VwD.refl _) (VwC.cons (by rw [← hte];exact VwD.refl _) (VwC.cons (VwD.row (List.Mem.head _) e3.symm) VwC.nil)))
end
section
open Go Go.RowKit Go.Joins Go.ChangeShapes Go.Deep
noncomputable section
section
variable {H:Type} {enc:TypeId × Value→H} {P:Program} {w:World} {spare:Nat→Bool} {held:Bool}
theorem add_plain' (b o j:Nat):(⟨b,o,none⟩:Addr).add j=⟨b,o+j,none⟩:=by unfold Addr.add;split<;>simp_all
abbrev NoM:Nat→Prop:=fun _=>False
theorem open_slice {t e:TypeId} {α:Type} (ec:α→List D) (ok:α→Prop) {sz:Nat} (hsz:0 < sz) (ht:P.underlying t=some (.slice e)) (hC:P.cellsOf e=sz) {fuel:Nat} {cs:List Value} {x:DataW H × List MemPlace}
 (each:∀ n,n < fuel→∀ cs x,DataW.trod enc P w 0 spare held n e cs=some x→∃ a,rdC NoM w (ec a) cs∧ok a)
 (h:DataW.trod enc P w 0 spare held fuel t cs=some x):∃ (l:List α) (v:Value),cs=[v]∧(D.s sz (l.map ec)).rd NoM w v∧Len l.length∧∀ a∈l,ok a:=by
 rcases DataW.trod_slice ht h with ⟨e3,_⟩ | ⟨a,len,cap,elems,rest,n',hn',e3,_,_,hle,hcap,hel,hget,_,_⟩
 ·exact ⟨[],_,e3,⟨none,0,rfl,Nat.le_refl _,.inl rfl⟩,by simp,by simp⟩
 unfold maxLen at hcap
 have hone:∀ i,i < len→∃ y vs,vs.length=sz∧rdC NoM w (ec y) vs∧(∀ j,j < sz→w.cell? ((a.add (i * sz)).add j)=vs[j]?)∧ok y:=by
  intro i hi
  have hg:=hget i hi
  rw [hC,List.getElem?_eq_getElem (by omega)] at hg
  obtain ⟨cs',g1,g2⟩:=Option.bind_eq_some_iff.1 hg
  obtain ⟨y,h1,h2⟩:=each n' (by omega) cs' _ g2
  obtain ⟨_,g4,g3⟩:=World.cells?_some g1
  exact ⟨y,cs',g4,h1,g3,h2⟩
 by_cases hl0:len=0
 ·subst hl0
  exact ⟨[],_,e3,⟨some a,cap,rfl,Nat.zero_le _,.inl rfl⟩,by simp,by simp⟩
 obtain ⟨b,o,spot⟩:=a
 obtain ⟨y0,vs0,q1,q2,q3,q4⟩:=hone 0 (by omega)
 have q5:=q3 0 hsz
 rw [List.getElem?_eq_getElem (by omega)] at q5
 have hspot:spot=none:=by simpa [Addr.add] using World.cell?_spot q5
 subst hspot
 rw [add_plain',add_plain'] at q5
 have hb:b < w.heap.size:=World.block_lt_of_cell? w _ q5
 have all:∀ N,N≤len→∃ l:List α,l.length=N∧rdR NoM w sz b (o+(len - N) * sz) (l.map ec)∧∀ a∈l,ok a:=by
  intro N
  induction N with
  | zero=>exact fun _=>⟨[],rfl,trivial,by simp⟩
  | succ N ih=>
   intro hN
   obtain ⟨l,h1,h2,h3⟩:=ih (by omega)
   obtain ⟨y,vs,r1,r2,r3,r4⟩:=hone (len - (N+1)) (by omega)
   refine ⟨y::l,by simp [h1],⟨⟨vs,r1,r2,?_⟩,?_⟩,?_⟩
   ·intro j u hj
    have hjl:=(List.getElem?_eq_some_iff.1 hj).1
    have:=r3 j (by omega)
    rw [add_plain',add_plain',hj] at this
    exact this
   ·have e4:o+(len - (N+1)) * sz+sz=o+(len - N) * sz:=by
     rw [show len - N=(len - (N+1))+1 by omega,Nat.add_mul];omega
    rw [e4]
    exact h2
   ·intro z hz
    rcases List.mem_cons.1 hz with rfl|hz
    ·exact r4
    ·exact h3 z hz
 obtain ⟨l,h1,h2,h3⟩:=all len (Nat.le_refl _)
 rw [Nat.sub_self,Nat.zero_mul,Nat.add_zero] at h2
 exact ⟨l,_,e3,⟨some ⟨b,o,none⟩,cap,by rw [List.length_map,h1],by rw [List.length_map,h1];exact hle,.inr ⟨b,o,rfl,id,hb,h2⟩⟩,by omega,h3⟩
theorem i64_wf {k:Int} (h:(Lit.int .i64 k).wf=true):I64 k:=by
 have h2:IntKind.i64.min≤k∧k≤IntKind.i64.max:=by simpa [Lit.wf] using h
 have e1:IntKind.i64.min=-9223372036854775808:=by decide
 have e2:IntKind.i64.max=9223372036854775807:=by decide
 rw [e1,e2] at h2
 exact h2
theorem open_tm {T:TypeId} {f0 f1 f2 f3:Field} (hs:P.underlying T=some (.struct #[f0,f1,f2,f3])) (hone:oneCellFields P #[f0,f1,f2,f3]=true) (hC:P.cellsOf T=4)
 (t0:P.underlying f0.type=some (.int .i64)) (t1:P.underlying f1.type=some (.int .i64)) (t2:P.underlying f2.type=some .string) (t3:P.underlying f3.type=some (.slice T)) :
 ∀ (fuel:Nat) (cs:List Value) (x:DataW H × List MemPlace),DataW.trod enc P w 0 spare held fuel T cs=some x→∃ t:Tm,rdC NoM w (encT t) cs∧t.In0:=by
 intro fuel
 induction fuel using Nat.strongRecOn with
 | ind fuel ih=>
  intro cs x h
  obtain ⟨ys,n,hn,hx,hl,hlen,hf⟩:=DataW.trod_struct hs h
  obtain ⟨o0,k0⟩:=hone_of hone 0 f0 rfl
  obtain ⟨o1,k1⟩:=hone_of hone 1 f1 rfl
  obtain ⟨o2,k2⟩:=hone_of hone 2 f2 rfl
  obtain ⟨o3,k3⟩:=hone_of hone 3 f3 rfl
  rw [hC] at hl
  match cs,hl,ys,hlen with
  | [v0,v1,v2,v3],_,[y0,y1,y2,y3],_=>
   have h0:DataW.trod enc P w 0 spare held n f0.type [v0]=some y0:=by simpa [o0,k0] using hf 0 f0 rfl
   have h1:DataW.trod enc P w 0 spare held n f1.type [v1]=some y1:=by simpa [o1,k1] using hf 1 f1 rfl
   have h2:DataW.trod enc P w 0 spare held n f2.type [v2]=some y2:=by simpa [o2,k2] using hf 2 f2 rfl
   have h3:DataW.trod enc P w 0 spare held n f3.type [v3]=some y3:=by simpa [o3,k3] using hf 3 f3 rfl
   obtain ⟨k,e0,_,w0⟩:=DataW.trod_int t0 h0
   obtain ⟨m,e1,_,w1⟩:=DataW.trod_int t1 h1
   obtain ⟨s,e2,_,hsz⟩:=DataW.trod_string t2 h2
   cases e0;cases e1;cases e2
   unfold maxLen at hsz
   obtain ⟨l,v,e3,hr,hll,hok⟩:=open_slice encT Tm.In0 (by omega) t3 hC (fun n' hn' cs x h=>ih n' (by omega) cs x h) h3
   cases e3
   refine ⟨.mk k m s l,⟨_,_,rfl,⟨rfl,rfl⟩,_,_,rfl,⟨rfl,rfl⟩,_,_,rfl,⟨rfl,rfl⟩,_,_,rfl,?_,rfl⟩,⟨i64_wf w0,i64_wf w1,hsz,hll,InL0.all.2 hok⟩⟩
   rw [argE_eq,rowsT_eq]
   exact hr
theorem open_gl {T TT:TypeId} {f0 f1 f2 f3:Field} (hs:P.underlying T=some (.struct #[f0,f1,f2,f3])) (hone:oneCellFields P #[f0,f1,f2,f3]=true) (hC:P.cellsOf T=4) (hCT:P.cellsOf TT=4)
 (t0:P.underlying f0.type=some (.int .i64)) (t1:P.underlying f1.type=some .string) (t2:P.underlying f2.type=some (.slice TT)) (t3:P.underlying f3.type=some (.slice T))
 (htm:∀ n cs x,DataW.trod enc P w 0 spare held n TT cs=some x→∃ t:Tm,rdC NoM w (encT t) cs∧t.In0) :
 ∀ (fuel:Nat) (cs:List Value) (x:DataW H × List MemPlace),DataW.trod enc P w 0 spare held fuel T cs=some x→∃ t:Gl,rdC NoM w (encG t) cs∧t.In0:=by
 intro fuel
 induction fuel using Nat.strongRecOn with
 | ind fuel ih=>
  intro cs x h
  obtain ⟨ys,n,hn,hx,hl,hlen,hf⟩:=DataW.trod_struct hs h
  obtain ⟨o0,k0⟩:=hone_of hone 0 f0 rfl
  obtain ⟨o1,k1⟩:=hone_of hone 1 f1 rfl
  obtain ⟨o2,k2⟩:=hone_of hone 2 f2 rfl
  obtain ⟨o3,k3⟩:=hone_of hone 3 f3 rfl
  rw [hC] at hl
  match cs,hl,ys,hlen with
  | [v0,v1,v2,v3],_,[y0,y1,y2,y3],_=>
   have h0:DataW.trod enc P w 0 spare held n f0.type [v0]=some y0:=by simpa [o0,k0] using hf 0 f0 rfl
   have h1:DataW.trod enc P w 0 spare held n f1.type [v1]=some y1:=by simpa [o1,k1] using hf 1 f1 rfl
   have h2:DataW.trod enc P w 0 spare held n f2.type [v2]=some y2:=by simpa [o2,k2] using hf 2 f2 rfl
   have h3:DataW.trod enc P w 0 spare held n f3.type [v3]=some y3:=by simpa [o3,k3] using hf 3 f3 rfl
   obtain ⟨k,e0,_,w0⟩:=DataW.trod_int t0 h0
   obtain ⟨s,e1,_,hsz⟩:=DataW.trod_string t1 h1
   cases e0;cases e1
   unfold maxLen at hsz
   obtain ⟨ts,u,e2,hr2,hl2,hok2⟩:=open_slice encT Tm.In0 (by omega) t2 hCT (fun n' _ cs x h=>htm n' cs x h) h2
   obtain ⟨l,v,e3,hr,hll,hok⟩:=open_slice encG Gl.In0 (by omega) t3 hC (fun n' hn' cs x h=>ih n' (by omega) cs x h) h3
   cases e2;cases e3
   refine ⟨.mk k s ts l,⟨_,_,rfl,⟨rfl,rfl⟩,_,_,rfl,⟨rfl,rfl⟩,_,_,rfl,?_,_,_,rfl,?_,rfl⟩,⟨i64_wf w0,hsz,hl2,InL0.all.2 hok2,hll,InG0.all.2 hok⟩⟩
   ·show (D.s 4 (rowsT ts)).rd NoM w _
    rw [rowsT_eq];exact hr2
   ·rw [subE_eq,rowsG_eq]
    exact hr
theorem open_rl {T TG:TypeId} {f0 f1 f2 f3:Field} (hs:P.underlying T=some (.struct #[f0,f1,f2,f3])) (hC:P.cellsOf T=7)
 (o0:f0.offset=0∧P.cellsOf f0.type=1) (o1:f1.offset=1∧P.cellsOf f1.type=1) (o2:f2.offset=2∧P.cellsOf f2.type=1) (o3:f3.offset=3∧P.cellsOf f3.type=4)
 (t0:P.underlying f0.type=some .string) (t1:P.underlying f1.type=some (.int .i64)) (t2:P.underlying f2.type=some (.int .i64)) (t3:f3.type=TG)
 (hgl:∀ n cs x,DataW.trod enc P w 0 spare held n TG cs=some x→∃ t:Gl,rdC NoM w (encG t) cs∧t.In0)
 {fuel:Nat} {cs:List Value} {x:DataW H × List MemPlace} (h:DataW.trod enc P w 0 spare held fuel T cs=some x):∃ t:RlR,rdC NoM w (encR t) cs∧t.In0:=by
 obtain ⟨ys,n,hn,hx,hl,hlen,hf⟩:=DataW.trod_struct hs h
 obtain ⟨o0,k0⟩:=o0
 obtain ⟨o1,k1⟩:=o1
 obtain ⟨o2,k2⟩:=o2
 obtain ⟨o3,k3⟩:=o3
 rw [hC] at hl
 match cs,hl,ys,hlen with
 | [v0,v1,v2,v3,v4,v5,v6],_,[y0,y1,y2,y3],_=>
  have h0:DataW.trod enc P w 0 spare held n f0.type [v0]=some y0:=by simpa [o0,k0] using hf 0 f0 rfl
  have h1:DataW.trod enc P w 0 spare held n f1.type [v1]=some y1:=by simpa [o1,k1] using hf 1 f1 rfl
  have h2:DataW.trod enc P w 0 spare held n f2.type [v2]=some y2:=by simpa [o2,k2] using hf 2 f2 rfl
  have h3:DataW.trod enc P w 0 spare held n f3.type [v3,v4,v5,v6]=some y3:=by simpa [o3,k3] using hf 3 f3 rfl
  obtain ⟨s,e0,_,hsz⟩:=DataW.trod_string t0 h0
  obtain ⟨k,e1,_,w1⟩:=DataW.trod_int t1 h1
  obtain ⟨m,e2,_,w2⟩:=DataW.trod_int t2 h2
  cases e0;cases e1;cases e2
  unfold maxLen at hsz
  rw [t3] at h3
  obtain ⟨g,hr,hg⟩:=hgl n _ _ h3
  exact ⟨⟨s,k,m,g⟩,⟨_,_,rfl,⟨rfl,rfl⟩,_,_,rfl,⟨rfl,rfl⟩,_,_,rfl,⟨rfl,rfl⟩,hr⟩,⟨hsz,i64_wf w1,i64_wf w2,hg⟩⟩
theorem open_pr {T TR:TypeId} {f0:Field} (hs:P.underlying T=some (.struct #[f0])) (hone:oneCellFields P #[f0]=true) (hC:P.cellsOf T=1) (hCR:P.cellsOf TR=7) (t0:P.underlying f0.type=some (.slice TR))
 (hrl:∀ n cs x,DataW.trod enc P w 0 spare held n TR cs=some x→∃ t:RlR,rdC NoM w (encR t) cs∧t.In0)
 {fuel:Nat} {cs:List Value} {x:DataW H × List MemPlace} (h:DataW.trod enc P w 0 spare held fuel T cs=some x):∃ p:List RlR,rdC NoM w (encP p) cs∧InP0 p:=by
 obtain ⟨ys,n,hn,hx,hl,hlen,hf⟩:=DataW.trod_struct hs h
 obtain ⟨o0,k0⟩:=hone_of hone 0 f0 rfl
 rw [hC] at hl
 match cs,hl,ys,hlen with
 | [v0],_,[y0],_=>
  have h0:DataW.trod enc P w 0 spare held n f0.type [v0]=some y0:=by simpa [o0,k0] using hf 0 f0 rfl
  obtain ⟨l,v,e3,hr,hll,hok⟩:=open_slice encR RlR.In0 (by omega) t0 hCR (fun n' _ cs x h=>hrl n' cs x h) h0
  cases e3
  exact ⟨l,⟨_,_,rfl,hr,rfl⟩,hll,hok⟩
end
set_option maxRecDepth 100000 in
theorem open_program {H:Type} {enc:TypeId × Value→H} {w:World} {r:Reach} {b0:Nat} {v:Value} {d:DataW H} {p:List MemPlace} (hv:Value.okWide Tryz.prog w r b0 24 v)
 (h:DataW.Trod enc Tryz.prog w 0 (fun _=>true) true 24 v d p):∃ q:List RlR,(vP q).rd NoM w v∧InP0 q:=by
 obtain ⟨cs,rfl,hsz⟩:=Go.WideShapes.okWide_struct Tryz.underlying24 hv
 obtain ⟨fuel,hf⟩:=h
 obtain ⟨q,hq,hin⟩:=open_pr Tryz.underlying24 (by kernel_rfl) (by kernel_rfl) (by kernel_rfl) Tryz.underlying22
  (fun n cs x h=>open_rl Tryz.underlying150 (by kernel_rfl) ⟨rfl,by kernel_rfl⟩ ⟨rfl,by kernel_rfl⟩ ⟨rfl,by kernel_rfl⟩ ⟨rfl,by kernel_rfl⟩ Tryz.underlying9 Tryz.underlying3 Tryz.underlying3 rfl
    (fun n cs x h=>open_gl Tryz.underlying37 (by kernel_rfl) (by kernel_rfl) (by kernel_rfl) Tryz.underlying3 Tryz.underlying9 Tryz.underlying34 Tryz.underlying35
      (fun n cs x h=>open_tm Tryz.underlying168 (by kernel_rfl) (by kernel_rfl) Tryz.underlying3 Tryz.underlying3 Tryz.underlying9 Tryz.underlying34 n cs x h) n cs x h) h) hf
 refine ⟨q,⟨cs.toList,?_,?_⟩,hin⟩
 ·simp
 ·simpa [Value.cells] using hq
end
end
end Go.Proofs.YtejkllmoofdpjaaGreat
