/- Parts of the proof: VY3 VQ4. -/
import Derived.Test.YtejkllmoofdpjaaGreatP40
namespace Go.Proofs.YtejkllmoofdpjaaGreat
open Go
set_option linter.all false
set_option maxRecDepth 100000
set_option maxHeartbeats 4000000
noncomputable section
open Classical
theorem get_mid {α:Type} {pre post:List α} {r:α}:(pre++r::post)[pre.length]?=some r:=by simp
theorem get_midM {α β:Type} {e:α→β} {pre:List α} {post:List β} {r:β}:(pre.map e++r::post)[pre.length]?=some r:=by rw [← List.length_map e];exact get_mid
section
variable {P:Program} {n:Nat} {C:Cx} {ops:Array Oper} {K:AF→List Atm→Prop} {rest:List Oper} {f:AF} {A A1:List Atm} {d:Nat} {ty:TypeId} {pos:String} {aft:Array Edge}
theorem kstM {t e:TypeId} {agg:Bool} {sz0 sz:Nat} {z:Value} [F:TyF P t agg sz0 z] (o:Nat) {b m c j:Nat} {pre post:List (List D)} {r cs:List D} {R:List Atm} {x1 x2:Operand} {a2:AV} (k:AO P n C ops K rest f (arow e sz (.slice (some ⟨b,0,none⟩) m c) (pre++putD r o cs::post)::R)) (hx:eva f x1=.one (.v (.pointer (some ⟨b,0+j * sz+o,none⟩))):=by exact rfl) (hj:pre.length=j:=by first|exact rfl|exact List.length_map _) (hy:eva f x2=a2:=by (first|exact sh1 rfl|exact sh2 rfl|exact sh3 rfl|exact sh4 rfl|exact sh5 rfl|exact rfl|fail)) (hc:a2.cellsD=some cs:=by exact rfl) (hl:cs.length=sz0:=by exact rfl) (ho:Nat.ble (o+cs.length) sz=true:=by exact rfl) :
 AO P n C ops K (⟨none,.store t x1 x2,ty,pos,aft,none⟩::rest) f (arow e sz (.slice (some ⟨b,0,none⟩) m c) (pre++r::post)::R):=by
 subst hj
 refine AO_o rfl rfl (O_storeRowP 0 pre.length o x1 x2 hx rfl hy hc hl get_mid (Nat.le_of_ble_eq_true ho)) fun v A' ⟨h1,h2⟩=>?_
 have e:(pre++r::post).set pre.length (putD r o cs)=pre++putD r o cs::post:=by simp
 rw [e] at h2
 exact h1▸h2▸k
theorem kcE {g:FuncId} [FnF P g] {avs:Array Operand} {tys:Array TypeId} {as1:List AV} {B:List Atm} {R:AV→Prop} (h:Spec P g as1 B fun v A'=>R v∧A'=[]) (k:∀ v,R v→AO P n C ops K rest (au f d v) A1) (hA:A.Perm (A1++B)) (hd:Nat.blt d n=true:=by exact rfl) (ha:avs.toList.map (eva f)=as1:=by exact rfl) :
 AO P n C ops K (⟨some d,.call {callee:=.value (.func g),args:=avs,argTypes:=tys },ty,pos,aft,none⟩::rest) f A:=kcs h (fun v A' ⟨h1,h2⟩=>by subst h2;rw [List.append_nil];exact k v h1) hA hd ha
end
theorem atsO_cons {k n:Int} {s:ByteArray} {u:Value} {l r:List OT}:atsO (.mk k n s u l::r)=SL u l++atsO r:=by simp only [atsO,OT.ats]
theorem atsOG_cons {k:Int} {s:ByteArray} {u v:Value} {l:List OT} {gs r:List OGl}:atsOG (.mk k s u l v gs::r)=SL u l++(SG v gs++atsOG r):=by simp only [atsOG,OGl.ats,List.append_assoc]
theorem atsOR_cons {nm:ByteArray} {ar loc:Int} {k:Int} {s:ByteArray} {u v:Value} {l:List OT} {gs:List OGl} {r:List ORl}:atsOR (⟨nm,ar,loc,.mk k s u l v gs⟩::r)=SL u l++(SG v gs++atsOR r):=by simp only [atsOR,OGl.ats,List.append_assoc]
mutual
/-- how many terms -/
def OT.cnt:OT→Nat
 | .mk _ _ _ _ l=>1+cntO l
def cntO:List OT→Nat
 | []=>0
 | t::l=>t.cnt+cntO l
end
mutual
theorem OT.cnt_le:∀ t:OT,t.cnt≤1+t.tm.sz
 | .mk _ _ _ _ l=>by
  have:=cntO_le l
  simp only [OT.cnt,OT.tm,Tm.sz]
  omega
theorem cntO_le:∀ l:List OT,cntO l≤(tmO l).length+szT (tmO l)
 | []=>Nat.zero_le _
 | t::l=>by
  have:=t.cnt_le
  have:=cntO_le l
  simp only [cntO,tmO,szT,List.length_cons]
  omega
end
mutual
/-- how many marks -/
def OGl.cnt:OGl→Nat
 | .mk _ _ _ ts _ gs=>2+3 * cntO ts+cntOG gs
def cntOG:List OGl→Nat
 | []=>0
 | t::l=>t.cnt+cntOG l
end
mutual
theorem OGl.cnt_le:∀ t:OGl,t.cnt≤2+3 * t.gl.sz
 | .mk _ _ _ ts _ gs=>by
  have:=cntO_le ts
  have:=cntOG_le gs
  simp only [OGl.cnt,OGl.gl,Gl.sz]
  omega
theorem cntOG_le:∀ l:List OGl,cntOG l≤3 * ((glO l).length+szG (glO l))
 | []=>Nat.zero_le _
 | t::l=>by
  have:=t.cnt_le
  have:=cntOG_le l
  simp only [cntOG,glO,szG,List.length_cons]
  omega
end
def cntOR:List ORl→Nat
 | []=>0
 | t::l=>3+t.body.cnt+cntOR l
theorem cntO_len:∀ l:List OT,l.length≤cntO l
 | []=>Nat.le_refl _
 | .mk _ _ _ _ _::l=>by
  have:=cntO_len l
  simp only [cntO,OT.cnt,List.length_cons];omega
theorem cntOG_len:∀ l:List OGl,l.length≤cntOG l
 | []=>Nat.le_refl _
 | .mk _ _ _ _ _ _::l=>by
  have:=cntOG_len l
  simp only [cntOG,OGl.cnt,List.length_cons];omega
theorem cntOR_len:∀ l:List ORl,l.length≤cntOR l
 | []=>Nat.le_refl _
 | _::l=>by
  have:=cntOR_len l
  simp only [cntOR,List.length_cons];omega
theorem cntOR_le:∀ l:List ORl,cntOR l≤5 * (l.length+szR (l.map ORl.rl))
 | []=>Nat.zero_le _
 | t::l=>by
  have:=t.body.cnt_le
  have:=cntOR_le l
  have e:t.rl.sz=t.name.size+t.body.gl.sz:=rfl
  simp only [cntOR,List.map_cons,szR,List.length_cons]
  omega
theorem markTs_c:∀ (N:Nat) (l:List OT) (u:Value) (k:Int),SizeOf.sizeOf l=N→0 < k→k+3 * (cntO l:Int)≤1000000000→Spec Tryz.prog 81 [.one (.v u),iv k] (SL u l) fun v A'=>v=iv (k+3 * (cntO l:Int))∧A'=[]:=fun N=>by
 induction N using Nat.strongRecOn with
 | _ N ih=>
  intro l u k hN h0 hk
  refine sp Tryz.func81 rfl Tryz.ntmps81 rfl rfl fun C=>?_
  have hln:=cntO_len l
  (repeat' first|(refine kk ?_;intros)|refine kfk ?_ ?_<;>intro hb|fail)
  refine kloop (ι:=Int × List (List D) × List OT) (fun q=>q.2.2.length) (fun q=>[(0,.one (.v u)),(1,iv q.1),(5,nv q.2.1.length)]) (fun q=>arow 174 4 u (q.2.1++q.2.2.map OT.row)::atsO q.2.2) (fun q=>0 < q.1∧q.2.1.length+q.2.2.length=l.length∧q.1+3 * (cntO q.2.2:Int)=k+3 * (cntO l:Int)∧∀ x∈q.2.2,x∈l) (k,[],l) ⟨h0,by simp,rfl,fun _ h=>h⟩ ?_ kwk
  rintro ⟨kk',pre,todo⟩ ⟨q1,q2,q3,q4⟩
  dsimp only at q1 q2 q3 q4 ⊢
  cases todo with
  | nil=>
   have hfl:(pre++List.map OT.row []).length=pre.length:=by simp
   (repeat' first|(refine kk ?_;intros)|refine kfk ?_ ?_<;>intro hb|fail)
   exact ker1 (iv kk') ⟨by rw [← q3];simp [cntO],rfl⟩
  | cons x rest=>
   have hx:=q4 x (List.Mem.head _)
   have q5:∀ x∈rest,x∈l:=fun y hy=>q4 y (List.Mem.tail _ hy)
   obtain ⟨kd,kn,ks,ux,kids⟩:=x
   rw [atsO_cons]
   refine AW_rowU (List.Mem.head _) fun hu=>?_
   rcases hu with ⟨_,hu⟩ | ⟨b,c,rfl⟩
   ·simp at hu
   simp only [List.length_cons] at q2
   simp only [cntO,OT.cnt,Int.natCast_add,Int.natCast_mul,Int.cast_ofNat_Int] at q3
   have hfl:(pre++List.map OT.row (OT.mk kd kn ks ux kids::rest)).length=pre.length+(rest.length+1):=by simp
   have hpl:∀ r:List D,nv (pre++[r]).length=iv ((pre.length:Int)+1):=fun r=>by simp
   (repeat' first|(refine kk ?_;intros)|refine kfk ?_ ?_<;>intro hb|fail)
   refine kstM 0 ?_
   (repeat' first|(refine kk ?_;intros)|refine kfk ?_ ?_<;>intro hb|fail)
   refine kstM 1 ?_
   (repeat' first|(refine kk ?_;intros)|refine kfk ?_ ?_<;>intro hb|fail)
   refine kstM 2 ?_
   (repeat' first|(refine kkS [] [38] ?_;intros)|fail)
   refine kr ?_ (h:=P_load1R (j:=pre.length) (o:=3) (sz:=4) _ rfl (List.Mem.head _) get_mid rfl)
   (repeat' first|(refine kkS [81] [] ?_;intros)|refine kfS [81] [] ?_ ?_<;>intro hb|fail)
   refine kcE (A1:=_::(atsO rest)) (h:=ih _ (by have:=List.sizeOf_lt_of_mem hx;simp only [OT.mk.sizeOf_spec] at this;omega) kids ux (kk'+1+1+1) rfl (by omega) (by omega)) ?_ ((List.perm_append_comm (l₁:=SL ux kids) (l₂:=atsO rest)).cons _)
   rintro _ rfl
   (repeat' first|(refine kk ?_;intros)|refine kfk ?_ ?_<;>intro hb|fail)
   refine ⟨(kk'+1+1+1+3 * (cntO kids:Int),pre++[[.v (.int .i64 kk'),.v (.int .i64 (kk'+1)),.v (.string (markTx (kk'+1+1).toNat)),.v ux]],rest),by simp only [List.length_cons];omega,⟨?_,by simp only [List.length_append,List.length_cons,List.length_nil];omega,?_,q5⟩,⟨leF_fl (by dsimp only;rw [hpl];exact wL),_,.refl _,?_⟩⟩
   ·dsimp only;omega
   ·dsimp only;omega
   ·dsimp only;rw [List.append_assoc];exact List.Sublist.refl _
theorem markGs_c:∀ (N:Nat) (l:List OGl) (u:Value) (k:Int),SizeOf.sizeOf l=N→0 < k→k+(cntOG l:Int)≤1000000000→Spec Tryz.prog 82 [.one (.v u),iv k] (SG u l) fun v A'=>v=iv (k+(cntOG l:Int))∧A'=[]:=fun N=>by
 induction N using Nat.strongRecOn with
 | _ N ih=>
  intro l u k hN h0 hk
  refine sp Tryz.func82 rfl Tryz.ntmps82 rfl rfl fun C=>?_
  have hln:=cntOG_len l
  (repeat' first|(refine kk ?_;intros)|refine kfk ?_ ?_<;>intro hb|fail)
  refine kloop (ι:=Int × List (List D) × List OGl) (fun q=>q.2.2.length) (fun q=>[(0,.one (.v u)),(1,iv q.1),(5,nv q.2.1.length)]) (fun q=>arow 59 4 u (q.2.1++q.2.2.map OGl.row)::atsOG q.2.2) (fun q=>0 < q.1∧q.2.1.length+q.2.2.length=l.length∧q.1+(cntOG q.2.2:Int)=k+(cntOG l:Int)∧∀ x∈q.2.2,x∈l) (k,[],l) ⟨h0,by simp,rfl,fun _ h=>h⟩ ?_ kwk
  rintro ⟨kk',pre,todo⟩ ⟨q1,q2,q3,q4⟩
  dsimp only at q1 q2 q3 q4 ⊢
  cases todo with
  | nil=>
   have hfl:(pre++List.map OGl.row []).length=pre.length:=by simp
   (repeat' first|(refine kk ?_;intros)|refine kfk ?_ ?_<;>intro hb|fail)
   exact ker1 (iv kk') ⟨by rw [← q3];simp [cntOG],rfl⟩
  | cons x rest=>
   have hx:=q4 x (List.Mem.head _)
   have q5:∀ x∈rest,x∈l:=fun y hy=>q4 y (List.Mem.tail _ hy)
   obtain ⟨kd,ks,ux,ts,vx,gs⟩:=x
   rw [atsOG_cons]
   refine AW_rowU (List.Mem.head _) fun hu=>?_
   rcases hu with ⟨_,hu⟩ | ⟨b,c,rfl⟩
   ·simp at hu
   simp only [List.length_cons] at q2
   simp only [cntOG,OGl.cnt,Int.natCast_add,Int.natCast_mul,Int.cast_ofNat_Int] at q3
   have hfl:(pre++List.map OGl.row (OGl.mk kd ks ux ts vx gs::rest)).length=pre.length+(rest.length+1):=by simp
   have hpl:∀ r:List D,nv (pre++[r]).length=iv ((pre.length:Int)+1):=fun r=>by simp
   (repeat' first|(refine kk ?_;intros)|refine kfk ?_ ?_<;>intro hb|fail)
   refine kstM 0 ?_
   (repeat' first|(refine kk ?_;intros)|refine kfk ?_ ?_<;>intro hb|fail)
   refine kstM 1 ?_
   (repeat' first|(refine kkS [] [31] ?_;intros)|fail)
   refine kr ?_ (h:=P_load1R (j:=pre.length) (o:=2) (sz:=4) _ rfl (List.Mem.head _) get_mid rfl)
   (repeat' first|(refine kkS [81] [] ?_;intros)|refine kfS [81] [] ?_ ?_<;>intro hb|fail)
   refine kcE (A1:=_::(SG vx gs++atsOG rest)) (h:=markTs_c _ ts ux (kk'+1+1) rfl (by omega) (by omega)) ?_ ((List.perm_append_comm (l₁:=SL ux ts) (l₂:=SG vx gs++atsOG rest)).cons _)
   rintro _ rfl
   (repeat' first|(refine kkS [] [38] ?_;intros)|fail)
   refine kr ?_ (h:=P_load1R (j:=pre.length) (o:=3) (sz:=4) _ rfl (List.Mem.head _) get_mid rfl)
   (repeat' first|(refine kkS [82] [] ?_;intros)|refine kfS [82] [] ?_ ?_<;>intro hb|fail)
   refine kcE (A1:=_::(atsOG rest)) (h:=ih _ (by have:=List.sizeOf_lt_of_mem hx;simp only [OGl.mk.sizeOf_spec] at this;omega) gs vx (kk'+1+1+3 * (cntO ts:Int)) rfl (by omega) (by omega)) ?_ ((List.perm_append_comm (l₁:=SG vx gs) (l₂:=atsOG rest)).cons _)
   rintro _ rfl
   (repeat' first|(refine kk ?_;intros)|refine kfk ?_ ?_<;>intro hb|fail)
   refine ⟨(kk'+1+1+3 * (cntO ts:Int)+(cntOG gs:Int),pre++[[.v (.int .i64 kk'),.v (.string (markTx (kk'+1).toNat)),.v ux,.v vx]],rest),by simp only [List.length_cons];omega,⟨?_,by simp only [List.length_append,List.length_cons,List.length_nil];omega,?_,q5⟩,⟨leF_fl (by dsimp only;rw [hpl];exact wL),_,.refl _,?_⟩⟩
   ·dsimp only;omega
   ·dsimp only;omega
   ·dsimp only;rw [List.append_assoc];exact List.Sublist.refl _
theorem markRs_c (l:List ORl) (u:Value) (k:Int) (h0:0 < k) (hk:k+(cntOR l:Int)≤1000000000):Spec Tryz.prog 80 [.one (.v u),iv k] (SR u l) fun v A'=>v=iv (k+(cntOR l:Int))∧A'=[]:=by
 refine sp Tryz.func80 rfl Tryz.ntmps80 rfl rfl fun C=>?_
 have hln:=cntOR_len l
 (repeat' first|(refine kk ?_;intros)|refine kfk ?_ ?_<;>intro hb|fail)
 refine kloop (ι:=Int × List (List D) × List ORl) (fun q=>q.2.2.length) (fun q=>[(0,.one (.v u)),(1,iv q.1),(5,nv q.2.1.length)]) (fun q=>arow 154 7 u (q.2.1++q.2.2.map ORl.row)::atsOR q.2.2) (fun q=>0 < q.1∧q.2.1.length+q.2.2.length=l.length∧q.1+(cntOR q.2.2:Int)=k+(cntOR l:Int)∧∀ x∈q.2.2,x∈l) (k,[],l) ⟨h0,by simp,rfl,fun _ h=>h⟩ ?_ kwk
 rintro ⟨kk',pre,todo⟩ ⟨q1,q2,q3,q4⟩
 dsimp only at q1 q2 q3 q4 ⊢
 cases todo with
 | nil=>
  have hfl:(pre++List.map ORl.row []).length=pre.length:=by simp
  (repeat' first|(refine kk ?_;intros)|refine kfk ?_ ?_<;>intro hb|fail)
  exact ker1 (iv kk') ⟨by rw [← q3];simp [cntOR],rfl⟩
 | cons x rest=>
  have hx:=q4 x (List.Mem.head _)
  have q5:∀ x∈rest,x∈l:=fun y hy=>q4 y (List.Mem.tail _ hy)
  obtain ⟨nm,ar,loc,⟨kd,ks,ux,ts,vx,gs⟩⟩:=x
  rw [atsOR_cons]
  refine AW_rowU (List.Mem.head _) fun hu=>?_
  rcases hu with ⟨_,hu⟩ | ⟨b,c,rfl⟩
  ·simp at hu
  simp only [List.length_cons] at q2
  simp only [cntOR,OGl.cnt,Int.natCast_add,Int.natCast_mul,Int.cast_ofNat_Int] at q3
  have hfl:(pre++List.map ORl.row (ORl.mk nm ar loc (OGl.mk kd ks ux ts vx gs)::rest)).length=pre.length+(rest.length+1):=by simp
  have hpl:∀ r:List D,nv (pre++[r]).length=iv ((pre.length:Int)+1):=fun r=>by simp
  (repeat' first|(refine kk ?_;intros)|refine kfk ?_ ?_<;>intro hb|fail)
  refine kstM 0 ?_
  (repeat' first|(refine kk ?_;intros)|refine kfk ?_ ?_<;>intro hb|fail)
  refine kstM 1 ?_
  (repeat' first|(refine kk ?_;intros)|refine kfk ?_ ?_<;>intro hb|fail)
  refine kstM 2 ?_
  (repeat' first|(refine kk ?_;intros)|refine kfk ?_ ?_<;>intro hb|fail)
  refine kstM 3 ?_
  (repeat' first|(refine kk ?_;intros)|refine kfk ?_ ?_<;>intro hb|fail)
  refine kstM 4 ?_
  (repeat' first|(refine kkS [] [56] ?_;intros)|fail)
  refine kr ?_ (h:=P_load1R (j:=pre.length) (o:=5) (sz:=7) _ rfl (List.Mem.head _) get_mid rfl)
  (repeat' first|(refine kkS [81] [] ?_;intros)|refine kfS [81] [] ?_ ?_<;>intro hb|fail)
  refine kcE (A1:=_::(SG vx gs++atsOR rest)) (h:=markTs_c _ ts ux (kk'+1+1+1+1+1) rfl (by omega) (by omega)) ?_ ((List.perm_append_comm (l₁:=SL ux ts) (l₂:=SG vx gs++atsOR rest)).cons _)
  rintro _ rfl
  (repeat' first|(refine kkS [] [64] ?_;intros)|fail)
  refine kr ?_ (h:=P_load1R (j:=pre.length) (o:=6) (sz:=7) _ rfl (List.Mem.head _) get_mid rfl)
  (repeat' first|(refine kkS [82] [] ?_;intros)|refine kfS [82] [] ?_ ?_<;>intro hb|fail)
  refine kcE (A1:=_::(atsOR rest)) (h:=markGs_c _ gs vx (kk'+1+1+1+1+1+3 * (cntO ts:Int)) rfl (by omega) (by omega)) ?_ ((List.perm_append_comm (l₁:=SG vx gs) (l₂:=atsOR rest)).cons _)
  rintro _ rfl
  (repeat' first|(refine kk ?_;intros)|refine kfk ?_ ?_<;>intro hb|fail)
  refine ⟨(kk'+1+1+1+1+1+3 * (cntO ts:Int)+(cntOG gs:Int),pre++[[.v (.string (markTx kk'.toNat)),.v (.int .i64 (kk'+1)),.v (.int .i64 (kk'+1+1)),.v (.int .i64 (kk'+1+1+1)),.v (.string (markTx (kk'+1+1+1+1).toNat)),.v ux,.v vx]],rest),by simp only [List.length_cons];omega,⟨?_,by simp only [List.length_append,List.length_cons,List.length_nil];omega,?_,q5⟩,⟨leF_fl (by dsimp only;rw [hpl];exact wL),_,.refl _,?_⟩⟩
  ·dsimp only;omega
  ·dsimp only;omega
  ·dsimp only;rw [List.append_assoc];exact List.Sublist.refl _
theorem markProgram_c (l:List ORl) (u:Value) (k:Int) (h0:0 < k) (hk:k+(cntOR l:Int)≤1000000000):Spec Tryz.prog 30 [.agg [.v u],iv k] (SR u l) fun v A'=>v=iv (k+(cntOR l:Int))∧A'=[]:=by
 refine sp Tryz.func30 rfl Tryz.ntmps30 rfl rfl fun C=>?_
 (repeat' first|(refine kkS [80] [] ?_;intros)|refine kfS [80] [] ?_ ?_<;>intro hb|fail)
 refine kcE (A1:=[_]) (h:=markRs_c l u k h0 hk) ?_ (.refl _)
 rintro _ rfl
 (repeat' first|(refine kk ?_;intros)|refine kfk ?_ ?_<;>intro hb|fail)
 exact ker1 (iv (k+(cntOR l:Int))) ⟨rfl,rfl⟩
end
noncomputable section
open Classical
def ready (ops:Array Oper) (todo:List Nat):List Nat:=todo.filter fun x=>(todo.all fun y=>!(clo ops x).contains y)
section
variable {P:Program} {n:Nat} {C:Cx} {ops:Array Oper} {K:AF→List Atm→Prop} {f:AF} {A B:List Atm} {d:Nat} {op:Op} {ty:TypeId} {pos:String} {aft:Array Edge} {v:AV} {todo:List Nat} {q i:Nat}
theorem kt_any (rd:List Nat) (hr:ready ops todo=rd) (h:∀ x∈rd,AS2 P n ops B K q (todo.erase x) x f A):AC2 P n ops B K (q+1) todo f A:=fun x hx hc=>by
 refine h x (hr▸?_)
 unfold ready
 rw [List.mem_filter]
 refine ⟨hx,?_⟩
 rw [List.all_eq_true]
 intro y hy
 have:=hc y hy
 cases he:(clo ops x).contains y with
 | false=>rfl
 | true=>exact absurd (List.contains_iff_mem.1 he) this
theorem ktA (a:Nat) (h:AS2 P n ops B K q (todo.erase a) a f A) (hr:ready ops todo=[a]:=by decide +kernel):AC2 P n ops B K (q+1) todo f A:=kt_any [a] hr fun x hx=>by
 obtain rfl:=List.mem_singleton.1 hx;exact h
theorem ktB (a b:Nat) (h1:AS2 P n ops B K q (todo.erase a) a f A) (h2:AS2 P n ops B K q (todo.erase b) b f A) (hr:ready ops todo=[a,b]:=by decide +kernel):AC2 P n ops B K (q+1) todo f A:=kt_any [a,b] hr fun x hx=>by
 rcases List.mem_cons.1 hx with rfl|hx
 ·exact h1
 ·obtain rfl:=List.mem_singleton.1 hx;exact h2
theorem ktC (a b c:Nat) (h1:AS2 P n ops B K q (todo.erase a) a f A) (h2:AS2 P n ops B K q (todo.erase b) b f A) (h3:AS2 P n ops B K q (todo.erase c) c f A) (hr:ready ops todo=[a,b,c]:=by decide +kernel):AC2 P n ops B K (q+1) todo f A:=kt_any [a,b,c] hr fun x hx=>by
 rcases List.mem_cons.1 hx with rfl|hx
 ·exact h1
 rcases List.mem_cons.1 hx with rfl|hx
 ·exact h2
 ·obtain rfl:=List.mem_singleton.1 hx;exact h3
end
structure MkP (k:Int):Prop where
 pos:0 < k
 le:k≤100000000000000
theorem markTextM_c:Con1 Tryz.prog 138 Int iv (fun k=>sv (markTx k.toNat)) MkP:=⟨fun {k} h=>markText_c.h k ⟨h.pos,h.le⟩⟩
end
end Go.Proofs.YtejkllmoofdpjaaGreat
