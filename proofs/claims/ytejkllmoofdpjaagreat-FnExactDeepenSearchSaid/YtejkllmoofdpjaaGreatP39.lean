/- Parts of the proof: V75 V76 V77 VY0 VY1. -/
import Derived.Test.YtejkllmoofdpjaaGreatD34
import Derived.Test.YtejkllmoofdpjaaGreatD35
import Derived.Test.YtejkllmoofdpjaaGreatP38
import Derived.WalkSpells
import Derived.WalkLawsBesides
import Derived.Lib.Hide
namespace Go.Proofs.YtejkllmoofdpjaaGreat
open Go
set_option linter.all false
set_option maxRecDepth 100000
set_option maxHeartbeats 4000000
noncomputable section
abbrev zG:List D:=[.v (.int .i64 0),.v (.string noS),.v (.slice none 0 0),.v (.slice none 0 0)]
theorem zG_le:(AV.agg zG).le (vG .tru):=AV.le_agg ⟨.refl _,.refl _,D.le_nil,D.le_nil,trivial⟩
theorem perm_sw {x y:Atm} {L:List Atm}:(x::y::L).Perm (y::(L++[x])):=(List.Perm.swap _ _ _).trans (List.Perm.cons _ (List.perm_append_singleton x L).symm)
theorem AD_weak {P:Program} {n:Nat} {C:Cx} {ops:Array Oper} {K:AF→List Atm→Prop} {f f':AF} {A A':List Atm} {k:Nat} (hw:Wk f A f' A') (h:AD P n C ops K k f' A'):AD P n C ops K k f A:=fun g w hi=>h g w (hw.inv hi)
theorem kjoin {P:Program} {n:Nat} {C:Cx} {ops:Array Oper} {K:AF→List Atm→Prop} {f:AF} {A:List Atm} {k0:Nat} {ι:Type} (m:Nat) (F:ι→List (Nat × AV)) (B:ι→List Atm) (k:(∀ x f' A',Wk f' A' (fl (F x)) (B x)→AD P n C ops K m f' A')→AD P n C ops K k0 f A) (main:∀ x,AD P n C ops K m (fl (F x)) (B x)):AD P n C ops K k0 f A:=k fun x _ _ hw=>AD_weak hw (main x)
structure StL (st:Stt):Prop where
 b:st.bind.length≤1000000
 d:st.dis.length≤1000000
 ds:∀ d∈st.dis,d.length≤1000000
 k:st.kinds.length≤1000000
 m:st.marks.length≤1099511627776
end
noncomputable section
open Classical
instance newState_i:Con1 Tryz.prog 131 Nat nv (fun n=>vSt (st0 n)) (fun n=>n≤100000):=⟨fun n hn=>by
 refine pu Tryz.func131 rfl Tryz.ntmps131 rfl rfl fun C=>?_
 (repeat' first|(refine kk ?_;intros)|refine kfk ?_ ?_<;>intro hb|fail)
 refine kr1 (rvw ?_)
 (exact wV)⟩
end
section
open Go.RowKit
theorem conv_one {w:World} {b:Nat} {n:Int} (h:w.cell? ⟨b,0,none⟩=some (.int .u8 n)) :
 (convert 237 9 (.slice (some ⟨b,0,none⟩) 1 1)).run Tryz.prog w=.ok (.string ⟨#[UInt8.ofNat n.toNat]⟩) w:=by
 rw [run_convert_bytes_string w 237 9 5 _ _ _ Tryz.underlying237 Tryz.underlying5 Tryz.underlying9]
 rw [run_bytesToString w ⟨b,0,none⟩ 1 1 [n] (by simp [loadCells,loadCellsFrom,load,Addr.add,Sem.run,h,go_sem])]
 rfl
def markGo (k:Nat) (out:ByteArray):ByteArray:=if _h:k=0 then out else markGo (k / 10) (⟨#[UInt8.ofNat (48+k % 10)]⟩++out)
termination_by k
decreasing_by omega
def markTx (k:Nat):ByteArray:=⟨#[109]⟩++markGo k ByteArray.empty
theorem markGo_pos {k:Nat} (h:0 < k) (out:ByteArray):markGo k out=markGo (k / 10) (⟨#[UInt8.ofNat (48+k % 10)]⟩++out):=by
 rw [markGo];simp [show k≠0 by omega]
theorem markGo_zero (out:ByteArray):markGo 0 out=out:=by rw [markGo];simp
set_option maxHeartbeats 400000 in
set_option maxRecDepth 100000 in
theorem markText_any (k:Nat) (w:World) (h0:0 < k) (hk:k≤100000000000000):Calls Tryz.prog 138 #[.int .i64 k] w fun e w'=>e=.returned (.string (markTx k))∧Below w.heap.size w w':=by
 have kc:∀ (W:World) (b:Nat) (n:Int),W.cell? ⟨b,0,none⟩=some (.int .u8 n)→(convert 237 9 (.slice (some ⟨b,0,none⟩) 1 1)).run Tryz.prog W=.ok (.string ⟨#[UInt8.ofNat n.toNat]⟩) W:=fun W b n h=>conv_one h
 have KC:=Lib.hid kc;clear kc
 go_enter Tryz.func138,Tryz.ntmps138
 go_wp2
 go_loopw [0,3] (fun kv v wr=>∃ (j:Nat) (out:ByteArray),kv=.int .i64 j∧v=.string out∧markGo k ByteArray.empty=markGo j out∧out.size+j≤k∧Below w.heap.size w wr) (fun kv _ _=>(intOf kv).toNat)
 case atStart=>exact ⟨k,ByteArray.empty,rfl,rfl,rfl,by simp,Below.refl _ _⟩
 case round=>
  obtain ⟨j,out,rfl,rfl,hm,hsz,hbel⟩:=hrel
  have HM:=Lib.hid hm;clear hm
  by_cases hj:0 < j
  ·have kc:∀ (W:World) (b:Nat),W.cell? ⟨b,0,none⟩=some (.int .u8 (48+(j:Int) % 10))→(convert 237 9 (.slice (some ⟨b,0,none⟩) 1 1)).run Tryz.prog W=.ok (.string ⟨#[UInt8.ofNat (48+(j:Int) % 10).toNat]⟩) W:=fun W b h=>KC.out W b _ h
   have hsz1:(⟨#[UInt8.ofNat (48+(j:Int) % 10).toNat]⟩:ByteArray).size=1:=rfl
   have he:(⟨#[UInt8.ofNat (48+(j:Int) % 10).toNat]⟩:ByteArray)=⟨#[UInt8.ofNat (48+j % 10)]⟩:=by
    rw [show (48+(j:Int) % 10).toNat=48+j % 10 by omega]
   generalize (⟨#[UInt8.ofNat (48+(j:Int) % 10).toNat]⟩:ByteArray)=x at *
   have HE:=Lib.hid he;clear he
   have hsz2:x.size≤1:=by omega
   clear hsz1
   go_wp2
   go_roundw
   case rel=>
    refine ⟨j / 10,x++out,by go_num,rfl,?_,?_,hbel.alloc hbel.size _⟩
    ·rw [HM.out,markGo_pos hj,HE.out]
    ·simp only [ByteArray.size_append];omega
   case measure=>simp [intOf];omega
  ·obtain rfl:j=0:=by omega
   go_wp2
   go_ret
   refine ⟨?_,hbel⟩
   have e:markGo k ByteArray.empty=out:=by rw [HM.out,markGo_zero]
   simp only [markTx,e]
   rfl
end
instance markText_c:Con1 Tryz.prog 138 Int iv (fun k=>sv (markTx k.toNat)) (fun k=>0 < k∧k≤100000000000000):=⟨fun k ⟨h0,h1⟩ M w vs hM hv=>by
 obtain ⟨m,rfl⟩:=Int.eq_ofNat_of_zero_le (show 0≤k by omega)
 obtain ⟨x,xs,rfl,hx,hxs⟩:=hv
 obtain rfl:xs=[]:=hxs
 obtain ⟨rfl,_⟩:x=.int .i64 m∧_:=hx
 refine Calls.mono (markText_any m w (by omega) (by omega)) ?_
 rintro e w' ⟨rfl,hb⟩
 exact ⟨_,rfl,⟨rfl,rfl⟩,Mod.of_below hb⟩⟩
noncomputable section
inductive OT where
 | mk (k n:Int) (s:ByteArray) (u:Value) (l:List OT)
def OT.row:OT→List D
 | .mk k n s u _=>[.v (.int .i64 k),.v (.int .i64 n),.v (.string s),.v u]
mutual
def OT.tm:OT→Tm
 | .mk k n s _ l=>.mk k n s (tmO l)
def tmO:List OT→List Tm
 | []=>[]
 | t::l=>t.tm::tmO l
end
mutual
/-- the memory of a term's arguments -/
def OT.ats:OT→List Atm
 | .mk _ _ _ u l=>arow 174 4 u (l.map OT.row)::atsO l
def atsO:List OT→List Atm
 | []=>[]
 | t::l=>t.ats++atsO l
end
abbrev SL (u:Value) (l:List OT):List Atm:=arow 174 4 u (l.map OT.row)::atsO l
theorem tmO_len:∀ l:List OT,(tmO l).length=l.length
 | []=>rfl
 | _::l=>congrArg (·+1) (tmO_len l)
theorem tmO_app:∀ l m:List OT,tmO (l++m)=tmO l++tmO m
 | [],_=>rfl
 | t::l,m=>congrArg (t.tm::·) (tmO_app l m)
theorem atsO_app:∀ l m:List OT,atsO (l++m)=atsO l++atsO m
 | [],_=>rfl
 | t::l,m=>by simp only [List.cons_append,atsO,atsO_app l m,List.append_assoc]
theorem VwC.four {A:List Atm} {a b c d d':D} (h:VwD A d d'):VwC A [a,b,c,d] [a,b,c,d']:=.cons (.refl _) (.cons (.refl _) (.cons (.refl _) (.cons h .nil)))
mutual
theorem OT.vw {A:List Atm}:∀ t:OT,(∀ a∈t.ats,a∈A)→VwC A t.row (encT t.tm)
 | .mk k n s u l,h=>VwC.four (VwD.rowV (h (arow 174 4 u (l.map OT.row)) (by simp only [OT.ats];exact List.Mem.head _)) (by
  show VwR A (l.map OT.row) (rowsT (tmO l))
  exact vwOT l fun a ha=>h a (by simp only [OT.ats];exact List.Mem.tail _ ha)))
theorem vwOT {A:List Atm}:∀ l:List OT,(∀ a∈atsO l,a∈A)→VwR A (l.map OT.row) (rowsT (tmO l))
 | [],_=>.nil
 | t::l,h=>.cons (t.vw fun a ha=>h a (by simp only [atsO];exact List.mem_append_left _ ha)) (vwOT l fun a ha=>h a (by simp only [atsO];exact List.mem_append_right _ ha))
end
theorem SL_vw {A:List Atm} {u:Value} {l:List OT} (h:∀ a∈SL u l,a∈A):VwD A (.v u) (.s 4 (rowsT (tmO l))):=
 .rowV (h _ (List.Mem.head _)) (vwOT l fun a ha=>h a (List.Mem.tail _ ha))
inductive OGl where
 | mk (k:Int) (s:ByteArray) (u:Value) (ts:List OT) (v:Value) (gs:List OGl)
def OGl.row:OGl→List D
 | .mk k s u _ v _=>[.v (.int .i64 k),.v (.string s),.v u,.v v]
mutual
def OGl.gl:OGl→Gl
 | .mk k s _ ts _ gs=>.mk k s (tmO ts) (glO gs)
def glO:List OGl→List Gl
 | []=>[]
 | t::l=>t.gl::glO l
end
mutual
def OGl.ats:OGl→List Atm
 | .mk _ _ u ts v gs=>SL u ts++arow 59 4 v (gs.map OGl.row)::atsOG gs
def atsOG:List OGl→List Atm
 | []=>[]
 | t::l=>t.ats++atsOG l
end
abbrev SG (u:Value) (l:List OGl):List Atm:=arow 59 4 u (l.map OGl.row)::atsOG l
theorem glO_len:∀ l:List OGl,(glO l).length=l.length
 | []=>rfl
 | _::l=>congrArg (·+1) (glO_len l)
theorem glO_app:∀ l m:List OGl,glO (l++m)=glO l++glO m
 | [],_=>rfl
 | t::l,m=>congrArg (t.gl::·) (glO_app l m)
theorem atsOG_app:∀ l m:List OGl,atsOG (l++m)=atsOG l++atsOG m
 | [],_=>rfl
 | t::l,m=>by simp only [List.cons_append,atsOG,atsOG_app l m,List.append_assoc]
mutual
theorem OGl.vw {A:List Atm}:∀ t:OGl,(∀ a∈t.ats,a∈A)→VwC A t.row (encG t.gl)
 | .mk k s u ts v gs,h=>.cons (.refl _) (.cons (.refl _) (.cons (SL_vw fun a ha=>h a (by simp only [OGl.ats];exact List.mem_append_left _ ha)) (.cons (.rowV (h (arow 59 4 v (gs.map OGl.row)) (by simp only [OGl.ats];exact List.mem_append_right _ (List.Mem.head _))) (by
  show VwR A (gs.map OGl.row) (rowsG (glO gs))
  exact vwOG gs fun a ha=>h a (by simp only [OGl.ats];exact List.mem_append_right _ (List.Mem.tail _ ha)))) .nil)))
theorem vwOG {A:List Atm}:∀ l:List OGl,(∀ a∈atsOG l,a∈A)→VwR A (l.map OGl.row) (rowsG (glO l))
 | [],_=>.nil
 | t::l,h=>.cons (t.vw fun a ha=>h a (by simp only [atsOG];exact List.mem_append_left _ ha)) (vwOG l fun a ha=>h a (by simp only [atsOG];exact List.mem_append_right _ ha))
end
structure ORl where
 name:ByteArray
 ar:Int
 loc:Int
 body:OGl
def ORl.row (r:ORl):List D:=.v (.string r.name)::.v (.int .i64 r.ar)::.v (.int .i64 r.loc)::r.body.row
def ORl.rl (r:ORl):RlR:=⟨r.name,r.ar,r.loc,r.body.gl⟩
def atsOR:List ORl→List Atm
 | []=>[]
 | t::l=>t.body.ats++atsOR l
abbrev SR (u:Value) (l:List ORl):List Atm:=arow 154 7 u (l.map ORl.row)::atsOR l
theorem atsOR_app:∀ l m:List ORl,atsOR (l++m)=atsOR l++atsOR m
 | [],_=>rfl
 | t::l,m=>by simp only [List.cons_append,atsOR,atsOR_app l m,List.append_assoc]
theorem vwOR {A:List Atm}:∀ l:List ORl,(∀ a∈atsOR l,a∈A)→VwR A (l.map ORl.row) ((l.map ORl.rl).map encR)
 | [],_=>.nil
 | t::l,h=>.cons (.cons (.refl _) (.cons (.refl _) (.cons (.refl _) (t.body.vw fun a ha=>h a (List.mem_append_left _ ha))))) (vwOR l fun a ha=>h a (List.mem_append_right _ ha))
theorem SR_vw {A:List Atm} {u:Value} {l:List ORl} (h:∀ a∈SR u l,a∈A):VwA A (.agg [.v u]) (vP (l.map ORl.rl)):=
 .agg (.cons (.rowV (h _ (List.Mem.head _)) (vwOR l fun a ha=>h a (List.Mem.tail _ ha))) .nil)
end
end Go.Proofs.YtejkllmoofdpjaaGreat
