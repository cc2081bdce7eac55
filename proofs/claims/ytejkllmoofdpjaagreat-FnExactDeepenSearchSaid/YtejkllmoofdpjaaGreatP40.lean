/- Parts of the proof: VY2. -/
import Derived.Test.YtejkllmoofdpjaaGreatP39
namespace Go.Proofs.YtejkllmoofdpjaaGreat
open Go
set_option linter.all false
set_option maxRecDepth 100000
set_option maxHeartbeats 4000000
noncomputable section
open Classical
section
variable {P:Program} {n:Nat} {C:Cx} {ops:Array Oper} {K:AF→List Atm→Prop} {rest:List Oper} {f:AF} {A:List Atm} {d:Nat} {ty:TypeId} {pos:String} {aft:Array Edge}
theorem kc0 {g:FuncId} [FnF P g] {avs:Array Operand} {tys:Array TypeId} {as1:List AV} {Q':AV→List Atm→Prop} (h:Spec P g as1 [] Q') (k:∀ v A',Q' v A'→AO P n C ops K rest (au f d v) (A++A')) (hd:Nat.blt d n=true:=by exact rfl) (ha:avs.toList.map (eva f)=as1:=by exact rfl) :
 AO P n C ops K (⟨some d,.call {callee:=.value (.func g),args:=avs,argTypes:=tys },ty,pos,aft,none⟩::rest) f A:=kcs h k (by rw [List.append_nil]) hd ha
end
theorem OT.row_len (t:OT):t.row.length=4:=by cases t;rfl
theorem OGl.row_len (t:OGl):t.row.length=4:=by cases t;rfl
theorem ORl.row_len (t:ORl):t.row.length=7:=by obtain ⟨_,_,_,b⟩:=t;cases b;rfl
theorem put_row {α:Type} {r:α→List D} {z:List D} {os:List α} {o:α} {j n:Nat} (hj:os.length=j) (hn:j < n):(os.map r++List.replicate (n - j) z).set j (r o)=(os++[o]).map r++List.replicate (n - (j+1)) z:=by
 subst hj
 rw [List.set_append_right _ _ (by simp)]
 have e1:os.length - (os.map r).length=0:=by simp
 rw [e1,show n - os.length=(n - (os.length+1))+1 by omega,List.replicate_succ,List.map_append,List.append_assoc]
 rfl
theorem fill_len {α:Type} {r:α→List D} {z:List D} {os:List α} {j n:Nat} (hj:os.length=j) (hn:j≤n):(os.map r++List.replicate (n - j) z).length=n:=by simp;omega
theorem toTsO_c (N:Nat) (ih:∀ t:Tm,SizeOf.sizeOf t < N→t.In0→t.sz≤1048576→Spec Tryz.prog 130 [tv t] [] fun v A'=>∃ o:OT,o.tm=t∧v=.agg o.row∧A'=o.ats) (l:List Tm) (hN:∀ t∈l,SizeOf.sizeOf t < N) (hlen:l.length+szT l≤1048576) (hin:∀ t∈l,t.In0) :
 Spec Tryz.prog 70 [tsv l] [] fun v A'=>∃ u os,tmO os=l∧v=.one (.v u)∧A'=SL u os:=by
 refine sp Tryz.func70 rfl Tryz.ntmps70 rfl rfl fun C=>?_
 have hlt:(rowsT l).length=l.length:=rowsT_len l
 have hle:(rowsT l).length≤1048576:=by omega
 have hL:Lng (rowsT l).length:=by unfold Lng;omega
 (repeat' first|(refine kk ?_;intros)|refine kfk ?_ ?_<;>intro hb|fail)
 rename_i b
 refine kloop (ι:=Nat × List OT) (fun q=>l.length - q.1) (fun q=>[(0,.one (.s 4 (rowsT l))),(3,.one (.v (.slice (some ⟨b,0,none⟩) l.length l.length))),(4,nv q.1)]) (fun q=>arow 174 4 (.slice (some ⟨b,0,none⟩) l.length l.length) (q.2.map OT.row++List.replicate (l.length - q.1) zTm)::atsO q.2) (fun q=>q.1≤l.length∧tmO q.2=l.take q.1) (0,[]) ⟨Nat.zero_le _,rfl⟩ ?_ kwk
 rintro ⟨j,os⟩ ⟨q1,q2⟩
 simp only at q1 q2
 dsimp only
 have hol:os.length=j:=by
  have:=congrArg List.length q2
  rw [tmO_len,List.length_take] at this
  omega
 by_cases hj:j < l.length
 ·obtain ⟨x,hx⟩:∃ y,l[j]?=some y:=⟨l[j],List.getElem?_eq_getElem hj⟩
  have hm:=List.mem_of_getElem? hx
  have hrow:(rowsT l)[j]?=some (encT x):=rowsT_get hx
  have hfl:=fill_len (r:=OT.row) (z:=zTm) hol q1
  have hfj:j < (os.map OT.row++List.replicate (l.length - j) zTm).length:=by omega
  (repeat' first|(refine kkS [130] [] ?_;intros)|refine kfS [130] [] ?_ ?_<;>intro hb|fail)
  refine kc0 (h:=ih x (hN x hm) (hin x hm) (by have:=szT_mem hm;omega)) ?_
  rintro _ A' ⟨o,ho,rfl,rfl⟩
  (repeat' first|(refine kk ?_;intros)|refine kfk ?_ ?_<;>intro hb|fail)
  refine kstR 0 j ?_ (hl:=o.row_len)
  rw [put_row hol hj]
  (repeat' first|(refine kk ?_;intros)|refine kfk ?_ ?_<;>intro hb|fail)
  refine ⟨(j+1,os++[o]),by simp only;omega,⟨by simp only;omega,by rw [tmO_app,q2,List.take_add_one,hx,← ho];rfl⟩,?_⟩
  dsimp only
  rw [atsO_app,show atsO [o]=o.ats by simp [atsO]]
  exact kwk
 ·obtain rfl:j=l.length:=by omega
  rw [Nat.sub_self,List.replicate_zero,List.append_nil]
  rw [List.take_length] at q2
  (repeat' first|(refine kk ?_;intros)|refine kfk ?_ ?_<;>intro hb|fail)
  exact ker1 _ ⟨_,os,q2,rfl,rfl⟩
theorem toTermO_c:∀ (N:Nat) (t:Tm),SizeOf.sizeOf t=N→t.In0→t.sz≤1048576→Spec Tryz.prog 130 [tv t] [] fun v A'=>∃ o:OT,o.tm=t∧v=.agg o.row∧A'=o.ats:=fun N=>by
 induction N using Nat.strongRecOn with
 | _ N ih=>
  intro t hN hin h0
  obtain ⟨i1,i2,i3,i4,i5⟩:=Tm.in0_iff.1 hin
  have hN2:∀ x∈t.args,SizeOf.sizeOf x < N:=fun x hx=>by
   obtain ⟨j,hj⟩:=List.getElem?_of_mem hx
   have:=Tm.arg_lt hj;omega
  have hsz:t.sz=t.name.size+(t.args.length+szT t.args):=by
   cases t
   simp only [Tm.sz,Tm.name_mk,Tm.args_mk]
  have hs:Spec Tryz.prog 70 [.one (.s 4 t.argE)] [] fun v A'=>∃ u os,tmO os=t.args∧v=.one (.v u)∧A'=SL u os:=by
   rw [argE_eq]
   exact toTsO_c N (fun x hx=>ih _ hx x rfl) t.args hN2 (by omega) (InL0.all.1 i5)
  refine sp Tryz.func130 rfl Tryz.ntmps130 rfl rfl fun C=>?_
  (repeat' first|(refine kkS [70] [] ?_;intros)|refine kfS [70] [] ?_ ?_<;>intro hb|fail)
  refine kc0 (h:=hs) ?_
  rintro _ A' ⟨u,os,ho,rfl,rfl⟩
  (repeat' first|(refine kk ?_;intros)|refine kfk ?_ ?_<;>intro hb|fail)
  refine kerC (.agg (OT.row (.mk t.kind t.int t.name u os))) ⟨.mk t.kind t.int t.name u os,?_,rfl,(show SL u os=_ from rfl)⟩ (.refl _)
  show Tm.mk t.kind t.int t.name (tmO os)=t
  rw [ho]
  cases t;rfl
theorem toTsO_all (l:List Tm) (hlen:l.length+szT l≤1048576) (hin:InL0 l):Spec Tryz.prog 70 [tsv l] [] fun v A'=>∃ u os,tmO os=l∧v=.one (.v u)∧A'=SL u os:=
 toTsO_c (SizeOf.sizeOf l+1) (fun t _=>toTermO_c _ t rfl) l (fun t ht=>by have:=List.sizeOf_lt_of_mem ht;omega) hlen (InL0.all.1 hin)
theorem toGsO_c (N:Nat) (ih:∀ t:Gl,SizeOf.sizeOf t < N→t.In0→t.sz≤1048576→Spec Tryz.prog 24 [.agg (encG t)] [] fun v A'=>∃ o:OGl,o.gl=t∧v=.agg o.row∧A'=o.ats) (l:List Gl) (hN:∀ t∈l,SizeOf.sizeOf t < N) (hlen:l.length+szG l≤1048576) (hin:∀ t∈l,t.In0) :
 Spec Tryz.prog 71 [.one (.s 4 (rowsG l))] [] fun v A'=>∃ u os,glO os=l∧v=.one (.v u)∧A'=SG u os:=by
 refine sp Tryz.func71 rfl Tryz.ntmps71 rfl rfl fun C=>?_
 have hlt:(rowsG l).length=l.length:=rowsG_len l
 have hle:(rowsG l).length≤1048576:=by omega
 have hL:Lng (rowsG l).length:=by unfold Lng;omega
 (repeat' first|(refine kk ?_;intros)|refine kfk ?_ ?_<;>intro hb|fail)
 rename_i b
 refine kloop (ι:=Nat × List OGl) (fun q=>l.length - q.1) (fun q=>[(0,.one (.s 4 (rowsG l))),(3,.one (.v (.slice (some ⟨b,0,none⟩) l.length l.length))),(4,nv q.1)]) (fun q=>arow 59 4 (.slice (some ⟨b,0,none⟩) l.length l.length) (q.2.map OGl.row++List.replicate (l.length - q.1) zGl)::atsOG q.2) (fun q=>q.1≤l.length∧glO q.2=l.take q.1) (0,[]) ⟨Nat.zero_le _,rfl⟩ ?_ kwk
 rintro ⟨j,os⟩ ⟨q1,q2⟩
 simp only at q1 q2
 dsimp only
 have hol:os.length=j:=by
  have:=congrArg List.length q2
  rw [glO_len,List.length_take] at this
  omega
 by_cases hj:j < l.length
 ·obtain ⟨x,hx⟩:∃ y,l[j]?=some y:=⟨l[j],List.getElem?_eq_getElem hj⟩
  have hm:=List.mem_of_getElem? hx
  have hrow:(rowsG l)[j]?=some (encG x):=rowsG_get hx
  have hfl:=fill_len (r:=OGl.row) (z:=zGl) hol q1
  have hfj:j < (os.map OGl.row++List.replicate (l.length - j) zGl).length:=by omega
  (repeat' first|(refine kkS [24] [] ?_;intros)|refine kfS [24] [] ?_ ?_<;>intro hb|fail)
  refine kc0 (h:=ih x (hN x hm) (hin x hm) (by have:=szG_mem hm;omega)) ?_
  rintro _ A' ⟨o,ho,rfl,rfl⟩
  (repeat' first|(refine kk ?_;intros)|refine kfk ?_ ?_<;>intro hb|fail)
  refine kstR 0 j ?_ (hl:=o.row_len)
  rw [put_row hol hj]
  (repeat' first|(refine kk ?_;intros)|refine kfk ?_ ?_<;>intro hb|fail)
  refine ⟨(j+1,os++[o]),by simp only;omega,⟨by simp only;omega,by rw [glO_app,q2,List.take_add_one,hx,← ho];rfl⟩,?_⟩
  dsimp only
  rw [atsOG_app,show atsOG [o]=o.ats by simp [atsOG]]
  exact kwk
 ·obtain rfl:j=l.length:=by omega
  rw [Nat.sub_self,List.replicate_zero,List.append_nil]
  rw [List.take_length] at q2
  (repeat' first|(refine kk ?_;intros)|refine kfk ?_ ?_<;>intro hb|fail)
  exact ker1 _ ⟨_,os,q2,rfl,rfl⟩
theorem toGoalO_c:∀ (N:Nat) (t:Gl),SizeOf.sizeOf t=N→t.In0→t.sz≤1048576→Spec Tryz.prog 24 [.agg (encG t)] [] fun v A'=>∃ o:OGl,o.gl=t∧v=.agg o.row∧A'=o.ats:=fun N=>by
 induction N using Nat.strongRecOn with
 | _ N ih=>
  intro t hN hin h0
  obtain ⟨i1,i2,i3,i4,i5,i6⟩:=Gl.in0_iff.1 hin
  have hN2:∀ x∈t.goals,SizeOf.sizeOf x < N:=fun x hx=>by
   obtain ⟨j,hj⟩:=List.getElem?_of_mem hx
   have:=Gl.kid_lt hj;omega
  have hsz:t.sz=t.name.size+(t.terms.length+szT t.terms)+(t.goals.length+szG t.goals):=by
   cases t
   simp only [Gl.sz,Gl.name_mk,Gl.terms_mk,Gl.goals_mk]
  have hs:Spec Tryz.prog 70 [.one (.s 4 (rowsT t.terms))] [] fun v A'=>∃ u os,tmO os=t.terms∧v=.one (.v u)∧A'=SL u os:=toTsO_all t.terms (by omega) i4
  have hg:Spec Tryz.prog 71 [.one (.s 4 t.subE)] [] fun v A'=>∃ u os,glO os=t.goals∧v=.one (.v u)∧A'=SG u os:=by
   rw [subE_eq]
   exact toGsO_c N (fun x hx=>ih _ hx x rfl) t.goals hN2 (by omega) (InG0.all.1 i6)
  refine sp Tryz.func24 rfl Tryz.ntmps24 rfl rfl fun C=>?_
  (repeat' first|(refine kkS [70,71] [] ?_;intros)|refine kfS [70,71] [] ?_ ?_<;>intro hb|fail)
  refine kc0 (h:=hs) ?_
  rintro _ A' ⟨u,os,ho,rfl,rfl⟩
  (repeat' first|(refine kkS [70,71] [] ?_;intros)|refine kfS [70,71] [] ?_ ?_<;>intro hb|fail)
  refine kc0 (h:=hg) ?_
  rintro _ A' ⟨v,gs,hgs,rfl,rfl⟩
  (repeat' first|(refine kk ?_;intros)|refine kfk ?_ ?_<;>intro hb|fail)
  refine kerC (.agg (OGl.row (.mk t.kind t.name u os v gs))) ⟨.mk t.kind t.name u os v gs,?_,rfl,(show SL u os++SG v gs=_ from rfl)⟩ (.refl _) (hs:=?_)
  ·show Gl.mk t.kind t.name (tmO os) (glO gs)=t
   rw [ho,hgs]
   cases t;rfl
  ·exact List.Sublist.cons _ (List.Sublist.cons _ (List.Sublist.cons _ (List.Sublist.refl _)))
theorem toRelO_c (r:RlR) (hin:r.In0) (h0:r.sz≤1048576):Spec Tryz.prog 104 [vR r] [] fun v A'=>∃ o:ORl,o.rl=r∧v=.agg o.row∧A'=o.body.ats:=by
 have hsz:r.sz=r.name.size+r.body.sz:=rfl
 have hs:=toGoalO_c _ r.body rfl hin.body (by omega)
 refine sp Tryz.func104 rfl Tryz.ntmps104 rfl rfl fun C=>?_
 (repeat' first|(refine kkS [24] [] ?_;intros)|refine kfS [24] [] ?_ ?_<;>intro hb|fail)
 refine kc0 (h:=hs) ?_
 rintro _ A' ⟨o,ho,rfl,rfl⟩
 obtain ⟨k,s,u,ts,v,gs⟩:=o
 (repeat' first|(refine kk ?_;intros)|refine kfk ?_ ?_<;>intro hb|fail)
 refine kerC (.agg (ORl.row ⟨r.name,r.ar,r.loc,.mk k s u ts v gs⟩)) ⟨⟨r.name,r.ar,r.loc,.mk k s u ts v gs⟩,?_,rfl,rfl⟩ (.refl _) (hs:=?_)
 ·show RlR.mk r.name r.ar r.loc (OGl.gl (.mk k s u ts v gs))=r
  rw [ho]
 ·exact List.Sublist.cons _ (List.Sublist.cons _ (List.Sublist.cons _ (List.Sublist.refl _)))
theorem toRelSO_c (l:List RlR) (hin:∀ r∈l,r.In0) (hlen:l.length+szR l≤1048576):Spec Tryz.prog 49 [.one (.s 7 (l.map encR))] [] fun v A'=>∃ u os,os.map ORl.rl=l∧v=.one (.v u)∧A'=SR u os:=by
 refine sp Tryz.func49 rfl Tryz.ntmps49 rfl rfl fun C=>?_
 have hlt:(l.map encR).length=l.length:=List.length_map _
 have hle:(l.map encR).length≤1048576:=by omega
 have hL:Lng (l.map encR).length:=by unfold Lng;omega
 (repeat' first|(refine kk ?_;intros)|refine kfk ?_ ?_<;>intro hb|fail)
 rename_i b
 refine kloop (ι:=Nat × List ORl) (fun q=>l.length - q.1) (fun q=>[(0,.one (.s 7 (l.map encR))),(3,.one (.v (.slice (some ⟨b,0,none⟩) l.length l.length))),(4,nv q.1)]) (fun q=>arow 154 7 (.slice (some ⟨b,0,none⟩) l.length l.length) (q.2.map ORl.row++List.replicate (l.length - q.1) zRl)::atsOR q.2) (fun q=>q.1≤l.length∧List.map ORl.rl q.2=l.take q.1) (0,[]) ⟨Nat.zero_le _,rfl⟩ ?_ kwk
 rintro ⟨j,os⟩ ⟨q1,q2⟩
 simp only at q1 q2
 dsimp only
 have hol:os.length=j:=by
  have:=congrArg List.length q2
  rw [List.length_map,List.length_take] at this
  omega
 by_cases hj:j < l.length
 ·obtain ⟨x,hx⟩:∃ y,l[j]?=some y:=⟨l[j],List.getElem?_eq_getElem hj⟩
  have hm:=List.mem_of_getElem? hx
  have hrow:(l.map encR)[j]?=some (encR x):=by simp [hx]
  have hfl:=fill_len (r:=ORl.row) (z:=zRl) hol q1
  have hfj:j < (os.map ORl.row++List.replicate (l.length - j) zRl).length:=by omega
  (repeat' first|(refine kkS [104] [] ?_;intros)|refine kfS [104] [] ?_ ?_<;>intro hb|fail)
  refine kc0 (h:=toRelO_c x (hin x hm) (by have:=szR_mem hm;omega)) ?_
  rintro _ A' ⟨o,ho,rfl,rfl⟩
  (repeat' first|(refine kk ?_;intros)|refine kfk ?_ ?_<;>intro hb|fail)
  refine kstR 0 j ?_ (hl:=o.row_len)
  rw [put_row hol hj]
  (repeat' first|(refine kk ?_;intros)|refine kfk ?_ ?_<;>intro hb|fail)
  refine ⟨(j+1,os++[o]),by simp only;omega,⟨by simp only;omega,by rw [List.map_append,q2,List.take_add_one,hx,← ho];rfl⟩,?_⟩
  dsimp only
  rw [atsOR_app,show atsOR [o]=o.body.ats by simp [atsOR]]
  exact kwk
 ·obtain rfl:j=l.length:=by omega
  rw [Nat.sub_self,List.replicate_zero,List.append_nil]
  rw [List.take_length] at q2
  (repeat' first|(refine kk ?_;intros)|refine kfk ?_ ?_<;>intro hb|fail)
  exact ker1 _ ⟨_,os,q2,rfl,rfl⟩
theorem toProgramO_c (p:List RlR) (hin:InP0 p) (hlen:p.length+szR p≤1048576):Spec Tryz.prog 12 [vP p] [] fun v A'=>∃ u os,os.map ORl.rl=p∧v=.agg [.v u]∧A'=SR u os:=by
 refine sp Tryz.func12 rfl Tryz.ntmps12 rfl rfl fun C=>?_
 (repeat' first|(refine kkS [49] [] ?_;intros)|refine kfS [49] [] ?_ ?_<;>intro hb|fail)
 refine kc0 (h:=toRelSO_c p hin.2 hlen) ?_
 rintro _ A' ⟨u,os,ho,rfl,rfl⟩
 (repeat' first|(refine kk ?_;intros)|refine kfk ?_ ?_<;>intro hb|fail)
 exact kerC (.agg [.v u]) ⟨u,os,ho,rfl,rfl⟩ (.refl _) (hs:=List.Sublist.cons _ (List.Sublist.cons _ (List.Sublist.cons _ (List.Sublist.refl _))))
end
end Go.Proofs.YtejkllmoofdpjaaGreat
