/- Parts of the proof: VY4. -/
import Derived.Test.YtbabchapkhlenaaGreatC51
import Derived.Test.YtbabchapkhlenaaGreatC47
import Derived.Test.YtbabchapkhlenaaGreatC46
namespace Go.Proofs.YtbabchapkhlenaaGreat
open Go
set_option linter.all false
set_option maxRecDepth 100000
set_option maxHeartbeats 4000000
noncomputable section
open Classical
theorem X_rem3 {P:Program} {w:World} {r:Operand→Value} {d:Option Tmp} {xt yt ty:TypeId} {pos:String} {aft:Array Edge} {g:Option (Nat × Bool)} (x y:Operand) {a:Int} (hx:r x=.int .i64 a) (hy:r y=.int .i64 3):runC P w (execOp r ⟨d,.binOp .rem xt x y yt,ty,pos,aft,g⟩)=some (.value (.int .i64 (a.tmod 3))):=by
 simp only [execOp,hx,hy,eqGuard,binOp,Op.intDiv];simp [runC_pure]
theorem P_rem3 {P:Program} {f:AF} {A:List Atm} {d:Option Tmp} {xt yt ty:TypeId} {pos:String} {aft:Array Edge} {gg:Option (Nat × Bool)} (x y:Operand) {a:Int} (hx:eva f x=.one (.v (.int .i64 a))) (hy:eva f y=.one (.v (.int .i64 3))) (h:0≤a):PuO P f A ⟨d,.binOp .rem xt x y yt,ty,pos,aft,gg⟩ (iv (a % 3)):=
 P_ex2 x y rfl hx hy rfl fun _ _ h1 h2=>by rw [X_rem3 x y h1 h2,Int.tmod_eq_emod_of_nonneg h]
def markA:List ArcP→Nat→List ArcP
 | [],_=>[]
 | _::l,k=>(k,k+1,(k+2) % 3 == 0)::markA l (k+3)
def cntGr:List Gr→Nat
 | []=>0
 | g::l=>2+3 * g.arcs.length+cntGr l
def markGr:List Gr→Nat→List Gr
 | [],_=>[]
 | g::l,k=>⟨markTx k,markTx (k+1),markA g.arcs (k+2)⟩::markGr l (k+2+3 * g.arcs.length)
theorem markA_len:∀ (l:List ArcP) (k:Nat),(markA l k).length=l.length
 | [],_=>rfl
 | _::l,k=>congrArg (·+1) (markA_len l (k+3))
theorem cntGr_mark:∀ (l:List Gr) (k:Nat),cntGr (markGr l k)=cntGr l
 | [],_=>rfl
 | g::l,k=>by simp only [markGr,cntGr,markA_len,cntGr_mark l]
theorem markGr_len:∀ (l:List Gr) (k:Nat),(markGr l k).length=l.length
 | [],_=>rfl
 | g::l,k=>congrArg (·+1) (markGr_len l _)
theorem cntGr_len:∀ l:List Gr,l.length≤cntGr l
 | []=>Nat.le_refl _
 | g::l=>by
  have:=cntGr_len l
  simp only [cntGr,List.length_cons];omega
theorem mod3 (k:Nat):(((k+1+1:Nat):Int) % 3 == 0)=((k+2) % 3 == 0):=by
 rw [Bool.eq_iff_iff,beq_iff_eq,beq_iff_eq];omega
theorem markA_c (l:List ArcP) (u:Value) (k:Nat) (hk:k+3 * l.length≤1000000000):Spec Tryz.prog 40 [.one (.v u),nv k] [arow 66 3 u (l.map encA)] fun v A'=>v=nv (k+3 * l.length)∧A'=[arow 66 3 u ((markA l k).map encA)]:=by
 refine sp Tryz.func40 rfl Tryz.ntmps40 rfl rfl fun C=>?_
 (repeat' first|(refine kk ?_;intros)|refine kfk ?_ ?_<;>intro hb|fail)
 refine kloop (ι:=Nat × List ArcP × List ArcP) (fun q=>q.2.2.length) (fun q=>[(0,.one (.v u)),(1,nv q.1),(5,nv q.2.1.length)]) (fun q=>[arow 66 3 u (q.2.1.map encA++q.2.2.map encA)]) (fun q=>q.2.1.length+q.2.2.length=l.length∧q.1=k+3 * q.2.1.length∧markA l k=q.2.1++markA q.2.2 q.1) (k,[],l) ⟨by simp,rfl,rfl⟩ ?_ kwk
 rintro ⟨kk',pre,todo⟩ ⟨q2,q3,q4⟩
 dsimp only at q2 q3 q4 ⊢
 cases todo with
 | nil=>
  have hfl:(pre.map encA++List.map encA []).length=pre.length:=by simp
  (repeat' first|(refine kk ?_;intros)|refine kfk ?_ ?_<;>intro hb|fail)
  simp only [List.length_nil,Nat.add_zero] at q2
  refine ker1 (A'':=[arow 66 3 u (pre.map encA++List.map encA [])]) (nv kk') ⟨by rw [q3,q2],?_⟩
  rw [q4];simp [markA]
 | cons x rest=>
  obtain ⟨x1,x2,x3⟩:=x
  refine AW_rowU (List.Mem.head _) fun hu=>?_
  rcases hu with ⟨_,hu⟩ | ⟨b,c,rfl⟩
  ·simp at hu
  simp only [List.length_cons] at q2
  have hfl:(pre.map encA++List.map encA ((x1,x2,x3)::rest)).length=pre.length+(rest.length+1):=by simp
  have hpl:∀ r:ArcP,nv (pre++[r]).length=iv ((pre.length:Int)+1):=fun r=>by simp
  (repeat' first|(refine kk ?_;intros)|refine kfk ?_ ?_<;>intro hb|fail)
  refine kstM 0 ?_
  (repeat' first|(refine kk ?_;intros)|refine kfk ?_ ?_<;>intro hb|fail)
  refine kstM 1 ?_
  (repeat' first|(refine kkS [] [29] ?_;intros)|fail)
  refine kr ?_ (h:=P_rem3 _ _ rfl rfl (by omega))
  (repeat' first|(refine kkS [] [30] ?_;intros)|fail)
  refine kr ?_ (h:=P_eql _ _ rfl rfl)
  rw [mod3]
  (repeat' first|(refine kk ?_;intros)|refine kfk ?_ ?_<;>intro hb|fail)
  refine kstM 2 ?_
  (repeat' first|(refine kk ?_;intros)|refine kfk ?_ ?_<;>intro hb|fail)
  refine ⟨(kk'+3,pre++[(kk',kk'+1,(kk'+2) % 3 == 0)],rest),by simp only [List.length_cons];omega,⟨by simp only [List.length_append,List.length_cons,List.length_nil];omega,by simp only [List.length_append,List.length_cons,List.length_nil];omega,by rw [q4];simp [markA]⟩,⟨leF_fl (by dsimp only;rw [hpl];exact wL),_,.refl _,?_⟩⟩
  dsimp only
  rw [List.map_append,List.append_assoc]
  exact List.Sublist.refl _
instance heldA_c:Con2 Tryz.prog 41 (List ArcP) Int (fun l=>.one (.s 3 (l.map encA))) iv (fun l k=>iv (k+3 * (l.length:Int))) (fun l k=>∃ (l0:List ArcP) (k0:Nat),k=k0∧l=markA l0 k0∧k0+3 * l0.length≤1000000000):=⟨fun l k ⟨l0,k0,e1,e2,hk⟩=>by
 subst e1 e2
 refine pu Tryz.func41 rfl Tryz.ntmps41 rfl rfl fun C=>?_
 have hlt:((markA l0 k0).map encA).length=l0.length:=by rw [List.length_map,markA_len]
 rw [markA_len]
 (repeat' first|(refine kk ?_;intros)|refine kfk ?_ ?_<;>intro hb|fail)
 refine kloop (ι:=Nat × Nat × List ArcP) (fun q=>q.2.2.length) (fun q=>[(0,.one (.s 3 ((markA l0 k0).map encA))),(1,nv q.1),(5,nv q.2.1)]) (fun _=>[]) (fun q=>q.2.1+q.2.2.length=l0.length∧q.1=k0+3 * q.2.1∧(markA l0 k0).drop q.2.1=markA q.2.2 q.1) (k0,0,l0) ⟨by simp,rfl,rfl⟩ ?_ kwk
 rintro ⟨kk',j,todo⟩ ⟨q2,q3,q4⟩
 dsimp only at q2 q3 q4 ⊢
 cases todo with
 | nil=>
  simp only [List.length_nil,Nat.add_zero] at q2
  (repeat' first|(refine kk ?_;intros)|refine kfk ?_ ?_<;>intro hb|fail)
  exact kret (show iv (kk':Int)=iv ((k0:Int)+3 * (l0.length:Int)) from congrArg iv (by omega))
 | cons x rest=>
  simp only [List.length_cons] at q2
  have hrow:((markA l0 k0).map encA)[j]?=some [.v (.int .i64 (kk':Nat)),.v (.int .i64 (kk'+1:Nat)),.v (.bool ((kk'+2) % 3 == 0))]:=by
   rw [List.getElem?_map]
   have:(markA l0 k0)[j]?=some (kk',kk'+1,(kk'+2) % 3 == 0):=by
    rw [← Nat.add_zero j,← List.getElem?_drop,q4];rfl
   rw [this];rfl
  have hm3:=mod3 kk'
  (repeat' first|(refine kkS [] [36] ?_;intros)|fail)
  refine kr ?_ (h:=P_rem3 _ _ rfl rfl (by omega))
  (repeat' first|(refine kkS [] [37] ?_;intros)|fail)
  refine kr ?_ (h:=P_eql _ _ rfl rfl)
  rw [hm3]
  (repeat' first|(refine kkS [] [38] ?_;intros)|fail)
  refine kr ?_ (h:=P_neB _ _ rfl rfl)
  rw [bne_self_eq_false]
  (repeat' first|(refine kk ?_;intros)|refine kfk ?_ ?_<;>intro hb|fail)
  refine ⟨(kk'+3,j+1,rest),by simp only [List.length_cons];omega,⟨by simp only;omega,by simp only;omega,by rw [← List.drop_drop,q4];rfl⟩,kwk⟩⟩
structure MkP (k:Int):Prop where
 pos:0 < k
 le:k≤1000000000000
theorem markTextM_c:Con1 Tryz.prog 39 Int iv (fun k=>sv (markTx k.toNat)) MkP:=⟨fun {k} h=>markText_c.h k ⟨h.pos,h.le⟩⟩
theorem markGr_c (l:List OG) (u:Value) (k:Nat) (h0:0 < k) (hk:k+cntGr (l.map (·.2))≤1000000000):Spec Tryz.prog 13 [.one (.v u),nv k] (AG u l) fun v A'=>v=nv (k+cntGr (l.map (·.2)))∧∃ l',l'.map (·.2)=markGr (l.map (·.2)) k∧A'=AG u l':=by
 haveI:=markTextM_c
 have hln:=cntGr_len (l.map (·.2))
 rw [List.length_map] at hln
 refine sp Tryz.func13 rfl Tryz.ntmps13 rfl rfl fun C=>?_
 (repeat' first|(refine kk ?_;intros)|refine kfk ?_ ?_<;>intro hb|fail)
 refine kloop (ι:=Nat × List OG × List OG) (fun q=>q.2.2.length) (fun q=>[(0,.one (.v u)),(1,nv q.1),(5,nv q.2.1.length)]) (fun q=>arow 59 3 u (q.2.1.map rowO++q.2.2.map rowO)::(q.2.1.map atmO++q.2.2.map atmO)) (fun q=>0 < q.1∧q.2.1.length+q.2.2.length=l.length∧q.1+cntGr (q.2.2.map (·.2))=k+cntGr (l.map (·.2))∧markGr (l.map (·.2)) k=q.2.1.map (·.2)++markGr (q.2.2.map (·.2)) q.1) (k,[],l) ⟨h0,by simp,rfl,rfl⟩ ?_ kwk
 rintro ⟨kk',pre,todo⟩ ⟨q1,q2,q3,q4⟩
 dsimp only at q1 q2 q3 q4 ⊢
 cases todo with
 | nil=>
  have hfl:(pre.map rowO++List.map rowO []).length=pre.length:=by simp
  (repeat' first|(refine kk ?_;intros)|refine kfk ?_ ?_<;>intro hb|fail)
  simp only [List.map_nil,cntGr,Nat.add_zero,markGr,List.append_nil] at q3 q4
  refine ker1 (nv kk') ⟨by rw [q3],pre,q4.symm,rfl⟩ (hs:=?_)
  simp only [List.map_nil,List.append_nil]
  exact List.Sublist.refl _
 | cons x rest=>
  obtain ⟨ux,g⟩:=x
  refine AW_rowU (List.Mem.head _) fun hu=>?_
  rcases hu with ⟨_,hu⟩ | ⟨b,c,rfl⟩
  ·simp at hu
  simp only [List.length_cons] at q2
  simp only [List.map_cons,cntGr,markGr] at q3 q4
  have hfl:(pre.map rowO++List.map rowO ((ux,g)::rest)).length=pre.length+(rest.length+1):=by simp
  have hpl:∀ r:OG,nv (pre++[r]).length=iv ((pre.length:Int)+1):=fun r=>by simp
  have pm1:MkP ((kk':Nat):Int):=⟨by omega,by omega⟩
  have pm2:MkP ((kk'+1:Nat):Int):=⟨by omega,by omega⟩
  have e1:((kk':Nat):Int).toNat=kk':=by omega
  have e2:((kk'+1:Nat):Int).toNat=kk'+1:=by omega
  (repeat' first|(refine kk ?_;intros)|refine kfk ?_ ?_<;>intro hb|fail)
  refine kstM 0 ?_
  (repeat' first|(refine kk ?_;intros)|refine kfk ?_ ?_<;>intro hb|fail)
  refine kstM 1 ?_
  rw [e1,e2]
  (repeat' first|(refine kkS [] [32] ?_;intros)|fail)
  refine kr ?_ (h:=P_load1R (j:=pre.length) (o:=2) (sz:=3) _ rfl (List.Mem.head _) get_midM rfl)
  (repeat' first|(refine kkS [40] [] ?_;intros)|refine kfS [40] [] ?_ ?_<;>intro hb|fail)
  refine kcs (A1:=arow 59 3 (.slice (some ⟨b,0,none⟩) (pre.map rowO++List.map rowO ((ux,g)::rest)).length c) (pre.map rowO++[.v (.string (markTx kk')),.v (.string (markTx (kk'+1))),.v ux]::rest.map rowO)::(pre.map atmO++rest.map atmO)) (h:=markA_c g.arcs ux (kk'+2) (by omega)) ?_ (hA:=?_)
  rotate_left
  ·exact .cons _ ((List.perm_middle (a:=atmO (ux,g)) (l₁:=pre.map atmO) (l₂:=rest.map atmO)).trans (List.perm_append_singleton _ _).symm)
  rintro _ A' ⟨rfl,rfl⟩
  (repeat' first|(refine kk ?_;intros)|refine kfk ?_ ?_<;>intro hb|fail)
  refine ⟨(kk'+2+3 * g.arcs.length,pre++[(ux,⟨markTx kk',markTx (kk'+1),markA g.arcs (kk'+2)⟩)],rest),by simp only [List.length_cons];omega,⟨by simp only;omega,by simp only [List.length_append,List.length_cons,List.length_nil];omega,by simp only;omega,by rw [q4];simp⟩,⟨leF_fl (by dsimp only;rw [hpl];exact wL),_,?_,.refl _⟩⟩
  dsimp only
  simp only [List.map_append,List.map_cons,List.map_nil,List.append_assoc,List.cons_append,List.nil_append]
  exact .cons _ (.append_left _ (List.perm_append_singleton _ _).symm)
theorem markNil_c (k:Int):Pu Tryz.prog 13 [.one (.s 3 []),iv k] (iv k):=by
 refine pu Tryz.func13 rfl Tryz.ntmps13 rfl rfl fun C=>?_
 (repeat' first|(refine kk ?_;intros)|refine kfk ?_ ?_<;>intro hb|fail)
 refine kloop (ι:=Unit) (fun _=>0) (fun q=>[(0,.one (.s 3 [])),(1,iv k),(5,nv 0)]) (fun _=>[]) (fun _=>True) () trivial ?_ kwk
 rintro _ _
 (repeat' first|(refine kk ?_;intros)|refine kfk ?_ ?_<;>intro hb|fail)
 exact kret rfl
instance heldGr_c:Con2 Tryz.prog 14 (List Gr) Int vGrs iv (fun l k=>iv (k+(cntGr l:Int))) (fun l k=>∃ (l0:List Gr) (k0:Nat),k=k0∧l=markGr l0 k0∧0 < k0∧k0+cntGr l0≤1000000000):=⟨fun l k ⟨l0,k0,e1,e2,h0,hk⟩=>by
 subst e1 e2
 have hll:∀ l:List Gr,l.length≤cntGr l:=fun l=>by
  induction l with
  | nil=>exact Nat.le_refl _
  | cons g l ih=>simp only [cntGr,List.length_cons];omega
 have hl0:=hll l0
 rw [cntGr_mark]
 haveI:=markTextM_c
 refine pu Tryz.func14 rfl Tryz.ntmps14 rfl rfl fun C=>?_
 have hlt:((markGr l0 k0).map encGr).length=l0.length:=by rw [List.length_map,markGr_len]
 (repeat' first|(refine kk ?_;intros)|refine kfk ?_ ?_<;>intro hb|fail)
 refine kloop (ι:=Nat × Nat × List Gr) (fun q=>q.2.2.length) (fun q=>[(0,.one (.s 3 ((markGr l0 k0).map encGr))),(1,nv q.1),(5,nv q.2.1)]) (fun _=>[]) (fun q=>0 < q.1∧q.2.1+q.2.2.length=l0.length∧q.1+cntGr q.2.2=k0+cntGr l0∧(markGr l0 k0).drop q.2.1=markGr q.2.2 q.1) (k0,0,l0) ⟨h0,by simp,rfl,rfl⟩ ?_ kwk
 rintro ⟨kk',j,todo⟩ ⟨q1,q2,q3,q4⟩
 dsimp only at q1 q2 q3 q4 ⊢
 cases todo with
 | nil=>
  simp only [List.length_nil,Nat.add_zero,cntGr] at q2 q3
  (repeat' first|(refine kk ?_;intros)|refine kfk ?_ ?_<;>intro hb|fail)
  exact kret (show iv (kk':Int)=iv ((k0:Int)+(cntGr l0:Int)) from congrArg iv (by omega))
 | cons x rest=>
  simp only [List.length_cons,cntGr] at q2 q3
  have hrow:((markGr l0 k0).map encGr)[j]?=some (encGr ⟨markTx kk',markTx (kk'+1),markA x.arcs (kk'+2)⟩):=by
   rw [List.getElem?_map]
   have:(markGr l0 k0)[j]?=some ⟨markTx kk',markTx (kk'+1),markA x.arcs (kk'+2)⟩:=by
    rw [← Nat.add_zero j,← List.getElem?_drop,q4];rfl
   rw [this];rfl
  have pm1:MkP ((kk':Nat):Int):=⟨by omega,by omega⟩
  have pm2:MkP ((kk'+1:Nat):Int):=⟨by omega,by omega⟩
  have e1:markTx kk'=markTx ((kk':Nat):Int).toNat:=by rw [show ((kk':Nat):Int).toNat=kk' by omega]
  have e2:markTx (kk'+1)=markTx ((kk'+1:Nat):Int).toNat:=by rw [show ((kk'+1:Nat):Int).toNat=kk'+1 by omega]
  have p1:∃ (l1:List ArcP) (k1:Nat),((kk'+1+1:Nat):Int)=k1∧markA x.arcs (kk'+2)=markA l1 k1∧k1+3 * l1.length≤1000000000:=⟨x.arcs,kk'+2,by omega,rfl,by omega⟩
  have e3:(((kk'+1+1:Nat):Int)+3 * ((markA x.arcs (kk'+2)).length:Int))=((kk'+2+3 * x.arcs.length:Nat):Int):=by rw [markA_len];omega
  (repeat' first|(refine kkS [] [39] ?_;intros)|fail)
  rw [e3]
  (repeat' first|(refine kk ?_;intros)|refine kfk ?_ ?_<;>intro hb|fail)
  refine ⟨(kk'+2+3 * x.arcs.length,j+1,rest),by simp only [List.length_cons];omega,⟨by simp only;omega,by simp only;omega,by simp only;omega,by rw [← List.drop_drop,q4];rfl⟩,kwk⟩⟩
instance eqArc_c:Con2 Tryz.prog 119 ArcP ArcP (fun a=>.agg (encA a)) (fun a=>.agg (encA a)) (fun a b=>bp (a=b)) (fun _ _=>True):=⟨fun a b _=>by
 have heq:a=b↔a.1=b.1∧a.2.1=b.2.1∧a.2.2=b.2.2:=by
  obtain ⟨a1,a2,a3⟩:=a
  obtain ⟨b1,b2,b3⟩:=b
  simp only [Prod.mk.injEq]
 rw [heq]
 refine pu Tryz.func119 rfl Tryz.ntmps119 rfl rfl fun C=>?_
 (repeat' first|(refine kkS [] [19] ?_;intros)|refine kfS [] [19] ?_ ?_<;>intro hb|fail)
 ·exact kret (bpF fun h=>by omega)
 ·exact kret (bpF fun h=>by omega)
 refine kr ?_ (h:=P_neB _ _ rfl rfl)
 by_cases h3:a.2.2=b.2.2
 ·rw [h3,bne_self_eq_false]
  (repeat' first|(refine kk ?_;intros)|refine kfk ?_ ?_<;>intro hb|fail)
  exact kret (bpT ⟨by omega,by omega,rfl⟩)
 ·rw [show (a.2.2 != b.2.2)=true by simpa using h3]
  (repeat' first|(refine kk ?_;intros)|refine kfk ?_ ?_<;>intro hb|fail)
  exact kret (bpF fun h=>h3 h.2.2)⟩
instance eqArcS_c:Con2 Tryz.prog 77 (List ArcP) (List ArcP) (fun l=>.one (.s 3 (l.map encA))) (fun l=>.one (.s 3 (l.map encA))) (fun a b=>bp (a=b)) (fun a b=>Lng a.length∧Lng b.length):=⟨fun a b ⟨hla,hlb⟩=>by
 have h1:(a.map encA).length=a.length:=List.length_map _
 have h2:(b.map encA).length=b.length:=List.length_map _
 refine pu Tryz.func77 rfl Tryz.ntmps77 rfl rfl fun C=>?_
 by_cases hlen:a.length=b.length
 case neg=>
  (repeat' first|(refine kk ?_;intros)|refine kfk ?_ ?_<;>intro hb|fail)
  exact kret (bpF fun h=>hlen (congrArg List.length h))
 (repeat' first|(refine kk ?_;intros)|refine kfk ?_ ?_<;>intro hb|fail)
 refine kloop (ι:=Nat) (fun q=>a.length - q) (fun q=>[(0,.one (.s 3 (a.map encA))),(1,.one (.s 3 (b.map encA))),(5,nv q)]) (fun _=>[]) (fun q=>q≤a.length∧a.take q=b.take q) 0 ⟨Nat.zero_le _,by simp⟩ ?_
 rintro j ⟨hj0,he⟩
 by_cases hj:j < a.length
 ·obtain ⟨x,hx⟩:∃ y,a[j]?=some y:=⟨a[j],List.getElem?_eq_getElem hj⟩
  obtain ⟨y,hy⟩:∃ y,b[j]?=some y:=⟨b[j]'(by omega),List.getElem?_eq_getElem (by omega)⟩
  have hra:(a.map encA)[j]?=some (encA x):=by simp [hx]
  have hrb:(b.map encA)[j]?=some (encA y):=by simp [hy]
  have p1:True:=trivial
  by_cases hxy:x=y
  ·(repeat' first|(refine kk ?_;intros)|refine kfk ?_ ?_<;>intro hb|fail)
   all_goals first
    | exact (by assumption:¬ (x=y)).elim hxy
    | refine ⟨j+1,by omega,⟨by omega,by rw [List.take_add_one,List.take_add_one,hx,hy,he,hxy]⟩,kwk⟩
  ·(repeat' first|(refine kk ?_;intros)|refine kfk ?_ ?_<;>intro hb|fail)
   all_goals first
    | exact (hxy (by assumption)).elim
    | exact kret (bpF fun h=>hxy (by subst h;rw [hx] at hy;exact Option.some.inj hy))
 ·obtain rfl:j=a.length:=by omega
  rw [List.take_length,hlen,List.take_length] at he
  (repeat' first|(refine kk ?_;intros)|refine kfk ?_ ?_<;>intro hb|fail)
  exact kret (bpT he)⟩
instance eqGr_c:Con2 Tryz.prog 36 Gr Gr vGr vGr (fun a b=>bp (a=b)) (fun a b=>Lng a.arcs.length∧Lng b.arcs.length):=⟨fun a b p1=>by
 have heq:a=b↔a.caller=b.caller∧a.callee=b.callee∧a.arcs=b.arcs:=by
  cases a;cases b
  simp only [Gr.mk.injEq]
 rw [heq]
 refine pu Tryz.func36 rfl Tryz.ntmps36 rfl rfl fun C=>?_
 (repeat' first|(refine kk ?_;intros)|refine kfk ?_ ?_<;>intro hb|fail)
 all_goals first
  | (refine kret (bpF ?_);rintro ⟨q1,q2,q3⟩;first|exact hb q1|exact hb q2|exact hb q3)
  | (refine kret (bpT ?_);refine ⟨?_,?_,?_⟩<;>assumption)⟩
instance eqGrs_c:Con2 Tryz.prog 10 (List Gr) (List Gr) vGrs vGrs (fun a b=>bp (a=b)) (fun a b=>(Lng a.length∧∀ g∈a,Lng g.arcs.length)∧Lng b.length∧∀ g∈b,Lng g.arcs.length):=⟨fun a b ⟨⟨hla,hia⟩,⟨hlb,hib⟩⟩=>by
 have h1:(a.map encGr).length=a.length:=List.length_map _
 have h2:(b.map encGr).length=b.length:=List.length_map _
 refine pu Tryz.func10 rfl Tryz.ntmps10 rfl rfl fun C=>?_
 by_cases hlen:a.length=b.length
 case neg=>
  (repeat' first|(refine kk ?_;intros)|refine kfk ?_ ?_<;>intro hb|fail)
  exact kret (bpF fun h=>hlen (congrArg List.length h))
 (repeat' first|(refine kk ?_;intros)|refine kfk ?_ ?_<;>intro hb|fail)
 refine kloop (ι:=Nat) (fun q=>a.length - q) (fun q=>[(0,.one (.s 3 (a.map encGr))),(1,.one (.s 3 (b.map encGr))),(5,nv q)]) (fun _=>[]) (fun q=>q≤a.length∧a.take q=b.take q) 0 ⟨Nat.zero_le _,by simp⟩ ?_
 rintro j ⟨hj0,he⟩
 by_cases hj:j < a.length
 ·obtain ⟨x,hx⟩:∃ y,a[j]?=some y:=⟨a[j],List.getElem?_eq_getElem hj⟩
  obtain ⟨y,hy⟩:∃ y,b[j]?=some y:=⟨b[j]'(by omega),List.getElem?_eq_getElem (by omega)⟩
  have hra:(a.map encGr)[j]?=some (encGr x):=by simp [hx]
  have hrb:(b.map encGr)[j]?=some (encGr y):=by simp [hy]
  have p1:Lng x.arcs.length∧Lng y.arcs.length:=⟨hia x (List.mem_of_getElem? hx),hib y (List.mem_of_getElem? hy)⟩
  by_cases hxy:x=y
  ·(repeat' first|(refine kk ?_;intros)|refine kfk ?_ ?_<;>intro hb|fail)
   all_goals first
    | exact (by assumption:¬ (x=y)).elim hxy
    | refine ⟨j+1,by omega,⟨by omega,by rw [List.take_add_one,List.take_add_one,hx,hy,he,hxy]⟩,kwk⟩
  ·(repeat' first|(refine kk ?_;intros)|refine kfk ?_ ?_<;>intro hb|fail)
   all_goals first
    | exact (hxy (by assumption)).elim
    | exact kret (bpF fun h=>hxy (by subst h;rw [hx] at hy;exact Option.some.inj hy))
 ·obtain rfl:j=a.length:=by omega
  rw [List.take_length,hlen,List.take_length] at he
  (repeat' first|(refine kk ?_;intros)|refine kfk ?_ ?_<;>intro hb|fail)
  exact kret (bpT he)⟩
end
end Go.Proofs.YtbabchapkhlenaaGreat
