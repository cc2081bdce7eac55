/- Parts of the proof: VY0 VY1 VY2. -/
import Derived.Test.YtbabchapkhlenaaGreatC33
import Derived.WalkSpells
import Derived.WalkLawsBesides
import Derived.Lib.Hide
import Derived.Test.YtbabchapkhlenaaGreatC39
namespace Go.Proofs.YtbabchapkhlenaaGreat
open Go
set_option linter.all false
set_option maxRecDepth 100000
set_option maxHeartbeats 4000000
section
open Go.RowKit
theorem conv_one {w:World} {b:Nat} {n:Int} (h:w.cell? ⟨b,0,none⟩=some (.int .u8 n)) :
 (convert 118 9 (.slice (some ⟨b,0,none⟩) 1 1)).run Tryz.prog w=.ok (.string ⟨#[UInt8.ofNat n.toNat]⟩) w:=by
 rw [run_convert_bytes_string w 118 9 5 _ _ _ Tryz.underlying118 Tryz.underlying5 Tryz.underlying9]
 rw [run_bytesToString w ⟨b,0,none⟩ 1 1 [n] (by simp [loadCells,loadCellsFrom,load,Addr.add,Sem.run,h,go_sem])]
 rfl
def markGo (k:Nat) (out:ByteArray):ByteArray:=if _h:k=0 then out else markGo (k / 10) (⟨#[UInt8.ofNat (48+k % 10)]⟩++out)
termination_by k
decreasing_by omega
def markTx (k:Nat):ByteArray:=⟨#[109]⟩++markGo k ByteArray.empty
theorem markGo_pos {k:Nat} (h:0 < k) (out:ByteArray):markGo k out=markGo (k / 10) (⟨#[UInt8.ofNat (48+k % 10)]⟩++out):=by
 rw [markGo];simp [show k≠0 by omega]
theorem markGo_zero (out:ByteArray):markGo 0 out=out:=by rw [markGo];simp
set_option maxHeartbeats 400000 in
set_option maxRecDepth 100000 in
theorem markText_any (k:Nat) (w:World) (h0:0 < k) (hk:k≤1000000000000):Calls Tryz.prog 39 #[.int .i64 k] w fun e w'=>e=.returned (.string (markTx k))∧Below w.heap.size w w':=by
 have kc:∀ (W:World) (b:Nat) (n:Int),W.cell? ⟨b,0,none⟩=some (.int .u8 n)→(convert 118 9 (.slice (some ⟨b,0,none⟩) 1 1)).run Tryz.prog W=.ok (.string ⟨#[UInt8.ofNat n.toNat]⟩) W:=fun W b n h=>conv_one h
 have KC:=Lib.hid kc;clear kc
 go_enter Tryz.func39,Tryz.ntmps39
 go_wp2
 go_loopw [0,3] (fun kv v wr=>∃ (j:Nat) (out:ByteArray),kv=.int .i64 j∧v=.string out∧markGo k ByteArray.empty=markGo j out∧out.size+j≤k∧Below w.heap.size w wr) (fun kv _ _=>(intOf kv).toNat)
 case atStart=>exact ⟨k,ByteArray.empty,rfl,rfl,rfl,by simp,Below.refl _ _⟩
 case round=>
  obtain ⟨j,out,rfl,rfl,hm,hsz,hbel⟩:=hrel
  have HM:=Lib.hid hm;clear hm
  by_cases hj:0 < j
  ·have kc:∀ (W:World) (b:Nat),W.cell? ⟨b,0,none⟩=some (.int .u8 (48+(j:Int) % 10))→(convert 118 9 (.slice (some ⟨b,0,none⟩) 1 1)).run Tryz.prog W=.ok (.string ⟨#[UInt8.ofNat (48+(j:Int) % 10).toNat]⟩) W:=fun W b h=>KC.out W b _ h
   have hsz1:(⟨#[UInt8.ofNat (48+(j:Int) % 10).toNat]⟩:ByteArray).size=1:=rfl
   have he:(⟨#[UInt8.ofNat (48+(j:Int) % 10).toNat]⟩:ByteArray)=⟨#[UInt8.ofNat (48+j % 10)]⟩:=by
    rw [show (48+(j:Int) % 10).toNat=48+j % 10 by omega]
   generalize (⟨#[UInt8.ofNat (48+(j:Int) % 10).toNat]⟩:ByteArray)=x at *
   have HE:=Lib.hid he;clear he
   have hsz2:x.size≤1:=by omega
   clear hsz1
   go_wp2
   go_roundw
   case rel=>
    refine ⟨j / 10,x++out,by go_num,rfl,?_,?_,hbel.alloc hbel.size _⟩
    ·rw [HM.out,markGo_pos hj,HE.out]
    ·simp only [ByteArray.size_append];omega
   case measure=>simp [intOf];omega
  ·obtain rfl:j=0:=by omega
   go_wp2
   go_ret
   refine ⟨?_,hbel⟩
   have e:markGo k ByteArray.empty=out:=by rw [HM.out,markGo_zero]
   simp only [markTx,e]
   rfl
end
instance markText_c:Con1 Tryz.prog 39 Int iv (fun k=>sv (markTx k.toNat)) (fun k=>0 < k∧k≤1000000000000):=⟨fun k ⟨h0,h1⟩ M w vs hM hv=>by
 obtain ⟨m,rfl⟩:=Int.eq_ofNat_of_zero_le (show 0≤k by omega)
 obtain ⟨x,xs,rfl,hx,hxs⟩:=hv
 obtain rfl:xs=[]:=hxs
 obtain ⟨rfl,_⟩:x=.int .i64 m∧_:=hx
 refine Calls.mono (markText_any m w (by omega) (by omega)) ?_
 rintro e w' ⟨rfl,hb⟩
 exact ⟨_,rfl,⟨rfl,rfl⟩,Mod.of_below hb⟩⟩
noncomputable section
inductive OT where
 | mk (k n:Int) (s:ByteArray) (u:Value) (l:List OT)
def OT.row:OT→List D
 | .mk k n s u _=>[.v (.int .i64 k),.v (.int .i64 n),.v (.string s),.v u]
mutual
def OT.tm:OT→Tm
 | .mk k n s _ l=>.mk k n s (tmO l)
def tmO:List OT→List Tm
 | []=>[]
 | t::l=>t.tm::tmO l
end
mutual
/-- the memory of a term's arguments -/
def OT.ats:OT→List Atm
 | .mk _ _ _ u l=>arow 61 4 u (l.map OT.row)::atsO l
def atsO:List OT→List Atm
 | []=>[]
 | t::l=>t.ats++atsO l
end
abbrev SL (u:Value) (l:List OT):List Atm:=arow 61 4 u (l.map OT.row)::atsO l
theorem tmO_len:∀ l:List OT,(tmO l).length=l.length
 | []=>rfl
 | _::l=>congrArg (·+1) (tmO_len l)
theorem tmO_app:∀ l m:List OT,tmO (l++m)=tmO l++tmO m
 | [],_=>rfl
 | t::l,m=>congrArg (t.tm::·) (tmO_app l m)
theorem atsO_app:∀ l m:List OT,atsO (l++m)=atsO l++atsO m
 | [],_=>rfl
 | t::l,m=>by simp only [List.cons_append,atsO,atsO_app l m,List.append_assoc]
theorem VwC.four {A:List Atm} {a b c d d':D} (h:VwD A d d'):VwC A [a,b,c,d] [a,b,c,d']:=.cons (.refl _) (.cons (.refl _) (.cons (.refl _) (.cons h .nil)))
mutual
theorem OT.vw {A:List Atm}:∀ t:OT,(∀ a∈t.ats,a∈A)→VwC A t.row (encT t.tm)
 | .mk k n s u l,h=>VwC.four (VwD.rowV (h (arow 61 4 u (l.map OT.row)) (by simp only [OT.ats];exact List.Mem.head _)) (by
  show VwR A (l.map OT.row) (rowsT (tmO l))
  exact vwOT l fun a ha=>h a (by simp only [OT.ats];exact List.Mem.tail _ ha)))
theorem vwOT {A:List Atm}:∀ l:List OT,(∀ a∈atsO l,a∈A)→VwR A (l.map OT.row) (rowsT (tmO l))
 | [],_=>.nil
 | t::l,h=>.cons (t.vw fun a ha=>h a (by simp only [atsO];exact List.mem_append_left _ ha)) (vwOT l fun a ha=>h a (by simp only [atsO];exact List.mem_append_right _ ha))
end
theorem SL_vw {A:List Atm} {u:Value} {l:List OT} (h:∀ a∈SL u l,a∈A):VwD A (.v u) (.s 4 (rowsT (tmO l))):=
 .rowV (h _ (List.Mem.head _)) (vwOT l fun a ha=>h a (List.Mem.tail _ ha))
inductive OGl where
 | mk (k:Int) (s:ByteArray) (u:Value) (ts:List OT) (v:Value) (gs:List OGl)
def OGl.row:OGl→List D
 | .mk k s u _ v _=>[.v (.int .i64 k),.v (.string s),.v u,.v v]
mutual
def OGl.gl:OGl→Gl
 | .mk k s _ ts _ gs=>.mk k s (tmO ts) (glO gs)
def glO:List OGl→List Gl
 | []=>[]
 | t::l=>t.gl::glO l
end
mutual
def OGl.ats:OGl→List Atm
 | .mk _ _ u ts v gs=>SL u ts++arow 43 4 v (gs.map OGl.row)::atsOG gs
def atsOG:List OGl→List Atm
 | []=>[]
 | t::l=>t.ats++atsOG l
end
abbrev SG (u:Value) (l:List OGl):List Atm:=arow 43 4 u (l.map OGl.row)::atsOG l
theorem glO_len:∀ l:List OGl,(glO l).length=l.length
 | []=>rfl
 | _::l=>congrArg (·+1) (glO_len l)
theorem glO_app:∀ l m:List OGl,glO (l++m)=glO l++glO m
 | [],_=>rfl
 | t::l,m=>congrArg (t.gl::·) (glO_app l m)
theorem atsOG_app:∀ l m:List OGl,atsOG (l++m)=atsOG l++atsOG m
 | [],_=>rfl
 | t::l,m=>by simp only [List.cons_append,atsOG,atsOG_app l m,List.append_assoc]
mutual
theorem OGl.vw {A:List Atm}:∀ t:OGl,(∀ a∈t.ats,a∈A)→VwC A t.row (encG t.gl)
 | .mk k s u ts v gs,h=>.cons (.refl _) (.cons (.refl _) (.cons (SL_vw fun a ha=>h a (by simp only [OGl.ats];exact List.mem_append_left _ ha)) (.cons (.rowV (h (arow 43 4 v (gs.map OGl.row)) (by simp only [OGl.ats];exact List.mem_append_right _ (List.Mem.head _))) (by
  show VwR A (gs.map OGl.row) (rowsG (glO gs))
  exact vwOG gs fun a ha=>h a (by simp only [OGl.ats];exact List.mem_append_right _ (List.Mem.tail _ ha)))) .nil)))
theorem vwOG {A:List Atm}:∀ l:List OGl,(∀ a∈atsOG l,a∈A)→VwR A (l.map OGl.row) (rowsG (glO l))
 | [],_=>.nil
 | t::l,h=>.cons (t.vw fun a ha=>h a (by simp only [atsOG];exact List.mem_append_left _ ha)) (vwOG l fun a ha=>h a (by simp only [atsOG];exact List.mem_append_right _ ha))
end
structure ORl where
 name:ByteArray
 ar:Int
 loc:Int
 body:OGl
def ORl.row (r:ORl):List D:=.v (.string r.name)::.v (.int .i64 r.ar)::.v (.int .i64 r.loc)::r.body.row
def ORl.rl (r:ORl):RlR:=⟨r.name,r.ar,r.loc,r.body.gl⟩
def atsOR:List ORl→List Atm
 | []=>[]
 | t::l=>t.body.ats++atsOR l
abbrev SR (u:Value) (l:List ORl):List Atm:=arow 45 7 u (l.map ORl.row)::atsOR l
theorem atsOR_app:∀ l m:List ORl,atsOR (l++m)=atsOR l++atsOR m
 | [],_=>rfl
 | t::l,m=>by simp only [List.cons_append,atsOR,atsOR_app l m,List.append_assoc]
theorem vwOR {A:List Atm}:∀ l:List ORl,(∀ a∈atsOR l,a∈A)→VwR A (l.map ORl.row) ((l.map ORl.rl).map encR)
 | [],_=>.nil
 | t::l,h=>.cons (.cons (.refl _) (.cons (.refl _) (.cons (.refl _) (t.body.vw fun a ha=>h a (List.mem_append_left _ ha))))) (vwOR l fun a ha=>h a (List.mem_append_right _ ha))
theorem SR_vw {A:List Atm} {u:Value} {l:List ORl} (h:∀ a∈SR u l,a∈A):VwA A (.agg [.v u]) (vP (l.map ORl.rl)):=
 .agg (.cons (.rowV (h _ (List.Mem.head _)) (vwOR l fun a ha=>h a (List.Mem.tail _ ha))) .nil)
end
noncomputable section
open Classical
section
variable {P:Program} {n:Nat} {C:Cx} {ops:Array Oper} {K:AF→List Atm→Prop} {rest:List Oper} {f:AF} {A:List Atm} {d:Nat} {ty:TypeId} {pos:String} {aft:Array Edge}
theorem kc0 {g:FuncId} [FnF P g] {avs:Array Operand} {tys:Array TypeId} {as1:List AV} {Q':AV→List Atm→Prop} (h:Spec P g as1 [] Q') (k:∀ v A',Q' v A'→AO P n C ops K rest (au f d v) (A++A')) (hd:Nat.blt d n=true:=by exact rfl) (ha:avs.toList.map (eva f)=as1:=by exact rfl) :
 AO P n C ops K (⟨some d,.call {callee:=.value (.func g),args:=avs,argTypes:=tys },ty,pos,aft,none⟩::rest) f A:=kcs h k (by rw [List.append_nil]) hd ha
end
theorem OT.row_len (t:OT):t.row.length=4:=by cases t;rfl
theorem OGl.row_len (t:OGl):t.row.length=4:=by cases t;rfl
theorem ORl.row_len (t:ORl):t.row.length=7:=by obtain ⟨_,_,_,b⟩:=t;cases b;rfl
theorem put_row {α:Type} {r:α→List D} {z:List D} {os:List α} {o:α} {j n:Nat} (hj:os.length=j) (hn:j < n):(os.map r++List.replicate (n - j) z).set j (r o)=(os++[o]).map r++List.replicate (n - (j+1)) z:=by
 subst hj
 rw [List.set_append_right _ _ (by simp)]
 have e1:os.length - (os.map r).length=0:=by simp
 rw [e1,show n - os.length=(n - (os.length+1))+1 by omega,List.replicate_succ,List.map_append,List.append_assoc]
 rfl
theorem fill_len {α:Type} {r:α→List D} {z:List D} {os:List α} {j n:Nat} (hj:os.length=j) (hn:j≤n):(os.map r++List.replicate (n - j) z).length=n:=by simp;omega
theorem toTsO_c (N:Nat) (ih:∀ t:Tm,SizeOf.sizeOf t < N→t.In0→t.sz≤1048576→Spec Tryz.prog 211 [tv t] [] fun v A'=>∃ o:OT,o.tm=t∧v=.agg o.row∧A'=o.ats) (l:List Tm) (hN:∀ t∈l,SizeOf.sizeOf t < N) (hlen:l.length+szT l≤1048576) (hin:∀ t∈l,t.In0) :
 Spec Tryz.prog 157 [tsv l] [] fun v A'=>∃ u os,tmO os=l∧v=.one (.v u)∧A'=SL u os:=by
 refine sp Tryz.func157 rfl Tryz.ntmps157 rfl rfl fun C=>?_
 have hlt:(rowsT l).length=l.length:=rowsT_len l
 have hle:(rowsT l).length≤1048576:=by omega
 have hL:Lng (rowsT l).length:=by unfold Lng;omega
 (repeat' first|(refine kk ?_;intros)|refine kfk ?_ ?_<;>intro hb|fail)
 rename_i b
 refine kloop (ι:=Nat × List OT) (fun q=>l.length - q.1) (fun q=>[(0,.one (.s 4 (rowsT l))),(3,.one (.v (.slice (some ⟨b,0,none⟩) l.length l.length))),(4,nv q.1)]) (fun q=>arow 61 4 (.slice (some ⟨b,0,none⟩) l.length l.length) (q.2.map OT.row++List.replicate (l.length - q.1) zTm)::atsO q.2) (fun q=>q.1≤l.length∧tmO q.2=l.take q.1) (0,[]) ⟨Nat.zero_le _,rfl⟩ ?_ kwk
 rintro ⟨j,os⟩ ⟨q1,q2⟩
 simp only at q1 q2
 dsimp only
 have hol:os.length=j:=by
  have:=congrArg List.length q2
  rw [tmO_len,List.length_take] at this
  omega
 by_cases hj:j < l.length
 ·obtain ⟨x,hx⟩:∃ y,l[j]?=some y:=⟨l[j],List.getElem?_eq_getElem hj⟩
  have hm:=List.mem_of_getElem? hx
  have hrow:(rowsT l)[j]?=some (encT x):=rowsT_get hx
  have hfl:=fill_len (r:=OT.row) (z:=zTm) hol q1
  have hfj:j < (os.map OT.row++List.replicate (l.length - j) zTm).length:=by omega
  (repeat' first|(refine kkS [211] [] ?_;intros)|refine kfS [211] [] ?_ ?_<;>intro hb|fail)
  refine kc0 (h:=ih x (hN x hm) (hin x hm) (by have:=szT_mem hm;omega)) ?_
  rintro _ A' ⟨o,ho,rfl,rfl⟩
  (repeat' first|(refine kk ?_;intros)|refine kfk ?_ ?_<;>intro hb|fail)
  refine kstR 0 j ?_ (hl:=o.row_len)
  rw [put_row hol hj]
  (repeat' first|(refine kk ?_;intros)|refine kfk ?_ ?_<;>intro hb|fail)
  refine ⟨(j+1,os++[o]),by simp only;omega,⟨by simp only;omega,by rw [tmO_app,q2,List.take_add_one,hx,← ho];rfl⟩,?_⟩
  dsimp only
  rw [atsO_app,show atsO [o]=o.ats by simp [atsO]]
  exact kwk
 ·obtain rfl:j=l.length:=by omega
  rw [Nat.sub_self,List.replicate_zero,List.append_nil]
  rw [List.take_length] at q2
  (repeat' first|(refine kk ?_;intros)|refine kfk ?_ ?_<;>intro hb|fail)
  exact ker1 _ ⟨_,os,q2,rfl,rfl⟩
theorem toTermO_c:∀ (N:Nat) (t:Tm),SizeOf.sizeOf t=N→t.In0→t.sz≤1048576→Spec Tryz.prog 211 [tv t] [] fun v A'=>∃ o:OT,o.tm=t∧v=.agg o.row∧A'=o.ats:=fun N=>by
 induction N using Nat.strongRecOn with
 | _ N ih=>
  intro t hN hin h0
  obtain ⟨i1,i2,i3,i4,i5⟩:=Tm.in0_iff.1 hin
  have hN2:∀ x∈t.args,SizeOf.sizeOf x < N:=fun x hx=>by
   obtain ⟨j,hj⟩:=List.getElem?_of_mem hx
   have:=Tm.arg_lt hj;omega
  have hsz:t.sz=t.name.size+(t.args.length+szT t.args):=by
   cases t
   simp only [Tm.sz,Tm.name_mk,Tm.args_mk]
  have hs:Spec Tryz.prog 157 [.one (.s 4 t.argE)] [] fun v A'=>∃ u os,tmO os=t.args∧v=.one (.v u)∧A'=SL u os:=by
   rw [argE_eq]
   exact toTsO_c N (fun x hx=>ih _ hx x rfl) t.args hN2 (by omega) (InL0.all.1 i5)
  refine sp Tryz.func211 rfl Tryz.ntmps211 rfl rfl fun C=>?_
  (repeat' first|(refine kkS [157] [] ?_;intros)|refine kfS [157] [] ?_ ?_<;>intro hb|fail)
  refine kc0 (h:=hs) ?_
  rintro _ A' ⟨u,os,ho,rfl,rfl⟩
  (repeat' first|(refine kk ?_;intros)|refine kfk ?_ ?_<;>intro hb|fail)
  refine kerC (.agg (OT.row (.mk t.kind t.int t.name u os))) ⟨.mk t.kind t.int t.name u os,?_,rfl,(show SL u os=_ from rfl)⟩ (.refl _)
  show Tm.mk t.kind t.int t.name (tmO os)=t
  rw [ho]
  cases t;rfl
theorem toTsO_all (l:List Tm) (hlen:l.length+szT l≤1048576) (hin:InL0 l):Spec Tryz.prog 157 [tsv l] [] fun v A'=>∃ u os,tmO os=l∧v=.one (.v u)∧A'=SL u os:=
 toTsO_c (SizeOf.sizeOf l+1) (fun t _=>toTermO_c _ t rfl) l (fun t ht=>by have:=List.sizeOf_lt_of_mem ht;omega) hlen (InL0.all.1 hin)
theorem toGsO_c (N:Nat) (ih:∀ t:Gl,SizeOf.sizeOf t < N→t.In0→t.sz≤1048576→Spec Tryz.prog 100 [.agg (encG t)] [] fun v A'=>∃ o:OGl,o.gl=t∧v=.agg o.row∧A'=o.ats) (l:List Gl) (hN:∀ t∈l,SizeOf.sizeOf t < N) (hlen:l.length+szG l≤1048576) (hin:∀ t∈l,t.In0) :
 Spec Tryz.prog 158 [.one (.s 4 (rowsG l))] [] fun v A'=>∃ u os,glO os=l∧v=.one (.v u)∧A'=SG u os:=by
 refine sp Tryz.func158 rfl Tryz.ntmps158 rfl rfl fun C=>?_
 have hlt:(rowsG l).length=l.length:=rowsG_len l
 have hle:(rowsG l).length≤1048576:=by omega
 have hL:Lng (rowsG l).length:=by unfold Lng;omega
 (repeat' first|(refine kk ?_;intros)|refine kfk ?_ ?_<;>intro hb|fail)
 rename_i b
 refine kloop (ι:=Nat × List OGl) (fun q=>l.length - q.1) (fun q=>[(0,.one (.s 4 (rowsG l))),(3,.one (.v (.slice (some ⟨b,0,none⟩) l.length l.length))),(4,nv q.1)]) (fun q=>arow 43 4 (.slice (some ⟨b,0,none⟩) l.length l.length) (q.2.map OGl.row++List.replicate (l.length - q.1) zGl)::atsOG q.2) (fun q=>q.1≤l.length∧glO q.2=l.take q.1) (0,[]) ⟨Nat.zero_le _,rfl⟩ ?_ kwk
 rintro ⟨j,os⟩ ⟨q1,q2⟩
 simp only at q1 q2
 dsimp only
 have hol:os.length=j:=by
  have:=congrArg List.length q2
  rw [glO_len,List.length_take] at this
  omega
 by_cases hj:j < l.length
 ·obtain ⟨x,hx⟩:∃ y,l[j]?=some y:=⟨l[j],List.getElem?_eq_getElem hj⟩
  have hm:=List.mem_of_getElem? hx
  have hrow:(rowsG l)[j]?=some (encG x):=rowsG_get hx
  have hfl:=fill_len (r:=OGl.row) (z:=zGl) hol q1
  have hfj:j < (os.map OGl.row++List.replicate (l.length - j) zGl).length:=by omega
  (repeat' first|(refine kkS [100] [] ?_;intros)|refine kfS [100] [] ?_ ?_<;>intro hb|fail)
  refine kc0 (h:=ih x (hN x hm) (hin x hm) (by have:=szG_mem hm;omega)) ?_
  rintro _ A' ⟨o,ho,rfl,rfl⟩
  (repeat' first|(refine kk ?_;intros)|refine kfk ?_ ?_<;>intro hb|fail)
  refine kstR 0 j ?_ (hl:=o.row_len)
  rw [put_row hol hj]
  (repeat' first|(refine kk ?_;intros)|refine kfk ?_ ?_<;>intro hb|fail)
  refine ⟨(j+1,os++[o]),by simp only;omega,⟨by simp only;omega,by rw [glO_app,q2,List.take_add_one,hx,← ho];rfl⟩,?_⟩
  dsimp only
  rw [atsOG_app,show atsOG [o]=o.ats by simp [atsOG]]
  exact kwk
 ·obtain rfl:j=l.length:=by omega
  rw [Nat.sub_self,List.replicate_zero,List.append_nil]
  rw [List.take_length] at q2
  (repeat' first|(refine kk ?_;intros)|refine kfk ?_ ?_<;>intro hb|fail)
  exact ker1 _ ⟨_,os,q2,rfl,rfl⟩
theorem toGoalO_c:∀ (N:Nat) (t:Gl),SizeOf.sizeOf t=N→t.In0→t.sz≤1048576→Spec Tryz.prog 100 [.agg (encG t)] [] fun v A'=>∃ o:OGl,o.gl=t∧v=.agg o.row∧A'=o.ats:=fun N=>by
 induction N using Nat.strongRecOn with
 | _ N ih=>
  intro t hN hin h0
  obtain ⟨i1,i2,i3,i4,i5,i6⟩:=Gl.in0_iff.1 hin
  have hN2:∀ x∈t.goals,SizeOf.sizeOf x < N:=fun x hx=>by
   obtain ⟨j,hj⟩:=List.getElem?_of_mem hx
   have:=Gl.kid_lt hj;omega
  have hsz:t.sz=t.name.size+(t.terms.length+szT t.terms)+(t.goals.length+szG t.goals):=by
   cases t
   simp only [Gl.sz,Gl.name_mk,Gl.terms_mk,Gl.goals_mk]
  have hs:Spec Tryz.prog 157 [.one (.s 4 (rowsT t.terms))] [] fun v A'=>∃ u os,tmO os=t.terms∧v=.one (.v u)∧A'=SL u os:=toTsO_all t.terms (by omega) i4
  have hg:Spec Tryz.prog 158 [.one (.s 4 t.subE)] [] fun v A'=>∃ u os,glO os=t.goals∧v=.one (.v u)∧A'=SG u os:=by
   rw [subE_eq]
   exact toGsO_c N (fun x hx=>ih _ hx x rfl) t.goals hN2 (by omega) (InG0.all.1 i6)
  refine sp Tryz.func100 rfl Tryz.ntmps100 rfl rfl fun C=>?_
  (repeat' first|(refine kkS [157,158] [] ?_;intros)|refine kfS [157,158] [] ?_ ?_<;>intro hb|fail)
  refine kc0 (h:=hs) ?_
  rintro _ A' ⟨u,os,ho,rfl,rfl⟩
  (repeat' first|(refine kkS [157,158] [] ?_;intros)|refine kfS [157,158] [] ?_ ?_<;>intro hb|fail)
  refine kc0 (h:=hg) ?_
  rintro _ A' ⟨v,gs,hgs,rfl,rfl⟩
  (repeat' first|(refine kk ?_;intros)|refine kfk ?_ ?_<;>intro hb|fail)
  refine kerC (.agg (OGl.row (.mk t.kind t.name u os v gs))) ⟨.mk t.kind t.name u os v gs,?_,rfl,(show SL u os++SG v gs=_ from rfl)⟩ (.refl _) (hs:=?_)
  ·show Gl.mk t.kind t.name (tmO os) (glO gs)=t
   rw [ho,hgs]
   cases t;rfl
  ·exact List.Sublist.cons _ (List.Sublist.cons _ (List.Sublist.cons _ (List.Sublist.refl _)))
theorem toRelO_c (r:RlR) (hin:r.In0) (h0:r.sz≤1048576):Spec Tryz.prog 63 [vR r] [] fun v A'=>∃ o:ORl,o.rl=r∧v=.agg o.row∧A'=o.body.ats:=by
 have hsz:r.sz=r.name.size+r.body.sz:=rfl
 have hs:=toGoalO_c _ r.body rfl hin.body (by omega)
 refine sp Tryz.func63 rfl Tryz.ntmps63 rfl rfl fun C=>?_
 (repeat' first|(refine kkS [100] [] ?_;intros)|refine kfS [100] [] ?_ ?_<;>intro hb|fail)
 refine kc0 (h:=hs) ?_
 rintro _ A' ⟨o,ho,rfl,rfl⟩
 obtain ⟨k,s,u,ts,v,gs⟩:=o
 (repeat' first|(refine kk ?_;intros)|refine kfk ?_ ?_<;>intro hb|fail)
 refine kerC (.agg (ORl.row ⟨r.name,r.ar,r.loc,.mk k s u ts v gs⟩)) ⟨⟨r.name,r.ar,r.loc,.mk k s u ts v gs⟩,?_,rfl,rfl⟩ (.refl _) (hs:=?_)
 ·show RlR.mk r.name r.ar r.loc (OGl.gl (.mk k s u ts v gs))=r
  rw [ho]
 ·exact List.Sublist.cons _ (List.Sublist.cons _ (List.Sublist.cons _ (List.Sublist.refl _)))
theorem toRelSO_c (l:List RlR) (hin:∀ r∈l,r.In0) (hlen:l.length+szR l≤1048576):Spec Tryz.prog 27 [.one (.s 7 (l.map encR))] [] fun v A'=>∃ u os,os.map ORl.rl=l∧v=.one (.v u)∧A'=SR u os:=by
 refine sp Tryz.func27 rfl Tryz.ntmps27 rfl rfl fun C=>?_
 have hlt:(l.map encR).length=l.length:=List.length_map _
 have hle:(l.map encR).length≤1048576:=by omega
 have hL:Lng (l.map encR).length:=by unfold Lng;omega
 (repeat' first|(refine kk ?_;intros)|refine kfk ?_ ?_<;>intro hb|fail)
 rename_i b
 refine kloop (ι:=Nat × List ORl) (fun q=>l.length - q.1) (fun q=>[(0,.one (.s 7 (l.map encR))),(3,.one (.v (.slice (some ⟨b,0,none⟩) l.length l.length))),(4,nv q.1)]) (fun q=>arow 45 7 (.slice (some ⟨b,0,none⟩) l.length l.length) (q.2.map ORl.row++List.replicate (l.length - q.1) zRl)::atsOR q.2) (fun q=>q.1≤l.length∧List.map ORl.rl q.2=l.take q.1) (0,[]) ⟨Nat.zero_le _,rfl⟩ ?_ kwk
 rintro ⟨j,os⟩ ⟨q1,q2⟩
 simp only at q1 q2
 dsimp only
 have hol:os.length=j:=by
  have:=congrArg List.length q2
  rw [List.length_map,List.length_take] at this
  omega
 by_cases hj:j < l.length
 ·obtain ⟨x,hx⟩:∃ y,l[j]?=some y:=⟨l[j],List.getElem?_eq_getElem hj⟩
  have hm:=List.mem_of_getElem? hx
  have hrow:(l.map encR)[j]?=some (encR x):=by simp [hx]
  have hfl:=fill_len (r:=ORl.row) (z:=zRl) hol q1
  have hfj:j < (os.map ORl.row++List.replicate (l.length - j) zRl).length:=by omega
  (repeat' first|(refine kkS [63] [] ?_;intros)|refine kfS [63] [] ?_ ?_<;>intro hb|fail)
  refine kc0 (h:=toRelO_c x (hin x hm) (by have:=szR_mem hm;omega)) ?_
  rintro _ A' ⟨o,ho,rfl,rfl⟩
  (repeat' first|(refine kk ?_;intros)|refine kfk ?_ ?_<;>intro hb|fail)
  refine kstR 0 j ?_ (hl:=o.row_len)
  rw [put_row hol hj]
  (repeat' first|(refine kk ?_;intros)|refine kfk ?_ ?_<;>intro hb|fail)
  refine ⟨(j+1,os++[o]),by simp only;omega,⟨by simp only;omega,by rw [List.map_append,q2,List.take_add_one,hx,← ho];rfl⟩,?_⟩
  dsimp only
  rw [atsOR_app,show atsOR [o]=o.body.ats by simp [atsOR]]
  exact kwk
 ·obtain rfl:j=l.length:=by omega
  rw [Nat.sub_self,List.replicate_zero,List.append_nil]
  rw [List.take_length] at q2
  (repeat' first|(refine kk ?_;intros)|refine kfk ?_ ?_<;>intro hb|fail)
  exact ker1 _ ⟨_,os,q2,rfl,rfl⟩
theorem toProgramO_c (p:List RlR) (hin:InP0 p) (hlen:p.length+szR p≤1048576):Spec Tryz.prog 8 [vP p] [] fun v A'=>∃ u os,os.map ORl.rl=p∧v=.agg [.v u]∧A'=SR u os:=by
 refine sp Tryz.func8 rfl Tryz.ntmps8 rfl rfl fun C=>?_
 (repeat' first|(refine kkS [27] [] ?_;intros)|refine kfS [27] [] ?_ ?_<;>intro hb|fail)
 refine kc0 (h:=toRelSO_c p hin.2 hlen) ?_
 rintro _ A' ⟨u,os,ho,rfl,rfl⟩
 (repeat' first|(refine kk ?_;intros)|refine kfk ?_ ?_<;>intro hb|fail)
 exact kerC (.agg [.v u]) ⟨u,os,ho,rfl,rfl⟩ (.refl _) (hs:=List.Sublist.cons _ (List.Sublist.cons _ (List.Sublist.cons _ (List.Sublist.refl _))))
end
end Go.Proofs.YtbabchapkhlenaaGreat
