/- Parts of the proof: VX2 VX3. -/
import Derived.Test.YtejkllmoofdpjaaGreatD37
import Derived.Test.YtejkllmoofdpjaaGreatP45
import Derived.Test.YtejkllmoofdpjaaGreatP41
namespace Go.Proofs.YtejkllmoofdpjaaGreat
open Go
set_option linter.all false
set_option maxRecDepth 100000
set_option maxHeartbeats 4000000
noncomputable section
theorem VwC.app {A:List Atm}:∀ {l l' m m':List D},VwC A l l'→VwC A m m'→l.length=l'.length→VwC A (l++m) (l'++m'):=fun {l l' m m'} h k _ M w u hp hr=>by
 obtain ⟨us,ts,rfl,h1,h2⟩:=rdC_split hr
 exact rdC_append (h M w us hp h1) (k M w ts hp h2)
structure OB where
 v:Int
 t:OT
def OB.row (b:OB):List D:=.v (.int .i64 b.v)::b.t.row
def OB.bd (b:OB):BdR:=(b.v,b.t.tm)
def atsB:List OB→List Atm
 | []=>[]
 | b::l=>b.t.ats++atsB l
theorem atsB_app:∀ l m:List OB,atsB (l++m)=atsB l++atsB m
 | [],_=>rfl
 | t::l,m=>by simp only [List.cons_append,atsB,atsB_app l m,List.append_assoc]
abbrev SBd (u:Value) (l:List OB):List Atm:=arow 183 5 u (l.map OB.row)::atsB l
theorem vwOB {A:List Atm}:∀ l:List OB,(∀ a∈atsB l,a∈A)→VwR A (l.map OB.row) ((l.map OB.bd).map encB)
 | [],_=>.nil
 | t::l,h=>.cons (.cons (.refl _) (t.t.vw fun a ha=>h a (List.mem_append_left _ ha))) (vwOB l fun a ha=>h a (List.mem_append_right _ ha))
theorem SBd_vw {A:List Atm} {u:Value} {l:List OB} (h:∀ a∈SBd u l,a∈A):VwD A (.v u) (.s 5 ((l.map OB.bd).map encB)):=.rowV (h _ (List.Mem.head _)) (vwOB l fun a ha=>h a (List.Mem.tail _ ha))
structure OD where
 u:Value
 l:List OB
def OD.row (d:OD):List D:=[.v d.u]
def OD.bs (d:OD):List BdR:=d.l.map OB.bd
def atsD:List OD→List Atm
 | []=>[]
 | d::l=>SBd d.u d.l++atsD l
theorem atsD_app:∀ l m:List OD,atsD (l++m)=atsD l++atsD m
 | [],_=>rfl
 | t::l,m=>by simp only [List.cons_append,atsD,atsD_app l m,List.append_assoc]
abbrev SDs (u:Value) (l:List OD):List Atm:=arow 48 1 u (l.map OD.row)::atsD l
theorem vwOD {A:List Atm}:∀ l:List OD,(∀ a∈atsD l,a∈A)→VwR A (l.map OD.row) ((l.map OD.bs).map (encL 5 encB))
 | [],_=>.nil
 | t::l,h=>.cons (.cons (SBd_vw fun a ha=>h a (List.mem_append_left _ ha)) .nil) (vwOD l fun a ha=>h a (List.mem_append_right _ ha))
structure OSt where
 next:Int
 bu:Value
 b:List OB
 du:Value
 d:List OD
 ku:Value
 k:List VkR
 mu:Value
 m:List MkR
def OSt.row (s:OSt):List D:=[.v (.int .i64 s.next),.v s.bu,.v s.du,.v s.ku,.v s.mu]
def OSt.st (s:OSt):StR:=⟨s.next,s.b.map OB.bd,s.d.map OD.bs,s.k,s.m⟩
abbrev SKs (u:Value) (k:List VkR):Atm:=arow 186 2 u (k.map encK)
abbrev SMs (u:Value) (k:List MkR):Atm:=arow 189 2 u (k.map encM)
abbrev SIs (u:Value) (k:List Int):Atm:=arow 3 1 u (k.map encI)
def OSt.ats (s:OSt):List Atm:=SBd s.bu s.b++(SDs s.du s.d++[SKs s.ku s.k,SMs s.mu s.m])
theorem vwRow {A:List Atm} {e:TypeId} {sz:Nat} {u:Value} {rows:List (List D)} (h:arow e sz u rows∈A):VwD A (.v u) (.s sz rows):=VwD.row h rfl
theorem OSt.vw {A:List Atm} (s:OSt) (h:∀ a∈s.ats,a∈A):VwC A s.row (encSt s.st):=by
 have h1:∀ a∈SBd s.bu s.b,a∈A:=fun a ha=>h a (List.mem_append_left _ ha)
 have h2:∀ a∈SDs s.du s.d,a∈A:=fun a ha=>h a (List.mem_append_right _ (List.mem_append_left _ ha))
 have h3:SKs s.ku s.k∈A:=h _ (List.mem_append_right _ (List.mem_append_right _ (List.Mem.head _)))
 have h4:SMs s.mu s.m∈A:=h _ (List.mem_append_right _ (List.mem_append_right _ (List.Mem.tail _ (List.Mem.head _))))
 exact .cons (.refl _) (.cons (SBd_vw h1) (.cons (.rowV (h2 _ (List.Mem.head _)) (vwOD s.d fun a ha=>h2 a (List.Mem.tail _ ha))) (.cons (vwRow h3) (.cons (vwRow h4) .nil))))
structure OBr where
 s:OSt
 cu:Value
 c:List Int
def OBr.row (b:OBr):List D:=b.s.row++[.v b.cu]
def OBr.br (b:OBr):BrR:=⟨b.s.st,b.c⟩
def OBr.ats (b:OBr):List Atm:=b.s.ats++[SIs b.cu b.c]
theorem OBr.vw {A:List Atm} (b:OBr) (h:∀ a∈b.ats,a∈A):VwC A b.row (encBr b.br):=
 .app (b.s.vw fun a ha=>h a (List.mem_append_left _ ha)) (.cons (vwRow (h _ (List.mem_append_right _ (List.Mem.head _)))) .nil) rfl
abbrev FdR:=BrR × Int
def encFd (x:FdR):List D:=encBr x.1++[.v (.int .i64 x.2)]
abbrev vFds (l:List FdR):AV:=.one (.s 7 (l.map encFd))
structure OFd where
 b:OBr
 h:Int
def OFd.row (x:OFd):List D:=x.b.row++[.v (.int .i64 x.h)]
def OFd.fd (x:OFd):FdR:=(x.b.br,x.h)
def atsF:List OFd→List Atm
 | []=>[]
 | d::l=>d.b.ats++atsF l
theorem atsF_app:∀ l m:List OFd,atsF (l++m)=atsF l++atsF m
 | [],_=>rfl
 | t::l,m=>by simp only [List.cons_append,atsF,atsF_app l m,List.append_assoc]
abbrev SFd (u:Value) (l:List OFd):List Atm:=arow 147 7 u (l.map OFd.row)::atsF l
theorem vwOF {A:List Atm}:∀ l:List OFd,(∀ a∈atsF l,a∈A)→VwR A (l.map OFd.row) ((l.map OFd.fd).map encFd)
 | [],_=>.nil
 | t::l,h=>.cons (.app (t.b.vw fun a ha=>h a (List.mem_append_left _ ha)) (.refl _) rfl) (vwOF l fun a ha=>h a (List.mem_append_right _ ha))
theorem SFd_vw {A:List Atm} {u:Value} {l:List OFd} (h:∀ a∈SFd u l,a∈A):VwD A (.v u) (.s 7 ((l.map OFd.fd).map encFd)):=.rowV (h _ (List.Mem.head _)) (vwOF l fun a ha=>h a (List.Mem.tail _ ha))
end
noncomputable section
open Classical
theorem O_call0 {P:Program} {f:AF} {A:List Atm} {d:Option Tmp} {ty:TypeId} {pos:String} {aft:Array Edge} {gg:Option (Nat × Bool)} {g:FuncId} [FnF P g] {avs:Array Operand} {tys:Array TypeId} {l0:List AV} {Q':AV→List Atm→Prop} (h:Spec P g l0 [] Q') (ha:avs.toList.map (eva f)=l0:=by exact rfl) :
 Opn P f A ⟨d,.call {callee:=.value (.func g),args:=avs,argTypes:=tys },ty,pos,aft,gg⟩ fun v A'=>∃ B,Q' v B∧A'=A++B:=O_call ha (h.front (by rw [List.append_nil]))
theorem kerCP {P:Program} {f:AF} {A A0 A'':List Atm} {Q':AV→List Atm→Prop} {t:Nat} {T T':TypeId} {sz:Nat} {z:Value} [F:TyF P T true sz z] {b:Nat} {ds:List D} (v:AV) (hq:Q' v A'') (hp:A0.Perm A) (hs:A''.Sublist A0) (hle:(AV.agg ds).le v:=by exact .refl _) (hx:f t=.one (.v (.pointer (some ⟨b,0,none⟩))):=by exact rfl) (hm:abox b ds T'∈A:=by repeat (first|exact List.Mem.head _|apply List.Mem.tail)) (hl:ds.length=sz:=by exact rfl) :
 ∃ l v A'',RV P f A [.cell t T] l∧Q' v A''∧(AV.of1 l).le v∧Wk f A f A'':=⟨[.agg ds],v,A'',⟨_,_,rfl,R1_cell hx hm (by rw [List.drop_zero,← hl,List.take_length]) (by simp [hl]),rfl⟩,hq,hle,⟨fun _=>.refl _,A0,hp,hs⟩⟩
theorem tm_pairO {a b:T} {u:Value} {o1 o2:OT} (h1:o1.tm=a.tm) (h2:o2.tm=b.tm):(OT.mk 4 0 noS u [o1,o2]).tm=(T.pair a b).tm:=by
 simp only [OT.tm,tmO,h1,h2];rfl
theorem atsO_two {o1 o2:OT}:atsO [o1,o2]=o1.ats++o2.ats:=by simp only [atsO,List.append_nil]
theorem copyTermO_c:∀ t:T,Spec Tryz.prog 177 [vT t] [] fun v A'=>∃ o:OT,o.tm=t.tm∧v=.agg o.row∧A'=o.ats
 | .pair a b=>by
  have i1:=copyTermO_c a
  have i2:=copyTermO_c b
  refine sp Tryz.func177 rfl Tryz.ntmps177 rfl rfl fun C=>?_
  (repeat' first|(refine kkn ?_;intros)|refine kfk ?_ ?_<;>intro hb|fail)
  rename_i b1 b2
  refine kmix 13 [0,1,2,3,5,6,7,8] [4,9,10,11,12] [abox b1 (encT (T.pair a b).tm) 174] ?_
  iterate 8 refine kal1 ?_
  refine kal0 ?_
  refine kacO rfl rfl (O_call0 i1) ?_
  rintro _ _ ⟨_,⟨⟨k1,n1,s1,u1,l1⟩,h1,rfl,rfl⟩,rfl⟩
  refine ⟨Has.mem (List.Mem.tail _ (List.Mem.head _)),?_⟩
  refine kacO rfl rfl (O_call0 i2) ?_
  rintro _ _ ⟨_,⟨⟨k2,n2,s2,u2,l2⟩,h2,rfl,rfl⟩,rfl⟩
  refine ⟨Has.mem (List.Mem.tail _ (List.Mem.head _)),?_⟩
  refine kacO rfl rfl (O_bs (sz:=4) (rows:=[OT.row (.mk k1 n1 s1 u1 l1),OT.row (.mk k2 n2 s2 u2 l2)]) rfl rfl rfl rfl rfl rfl) ?_
  rintro _ _ ⟨u,rfl,rfl⟩
  refine ⟨Has.mem (List.Mem.tail _ (List.Mem.tail _ (List.Mem.head _))),?_⟩
  refine kacP ?_ (hb:=Has.mem (List.Mem.tail _ (List.Mem.tail _ (List.Mem.head _))))
  refine kacW 1 ?_ (hb:=Has.mem (List.Mem.tail _ (List.Mem.tail _ (List.Mem.head _))))
  (repeat' first|(refine kk ?_;intros)|refine kfk ?_ ?_<;>intro hb|fail)
  refine kerCP (.agg (OT.row (.mk 4 0 noS u [_,_]))) ⟨_,tm_pairO h1 h2,rfl,rfl⟩ (.refl _) ?_
  simp only [OT.ats,atsO_two]
  exact .cons₂ _ (.cons _ (.cons _ (.refl _)))
 | .var n=>by
  refine sp Tryz.func177 rfl Tryz.ntmps177 rfl rfl fun C=>?_
  refine knA 174 4 ?_
  (repeat' first|(refine kk ?_;intros)|refine kfk ?_ ?_<;>intro hb|fail)
  exact kerC (A'':=[arow 174 4 (.slice none 0 0) []]) (.agg (OT.row (.mk 1 n noS (.slice none 0 0) []))) ⟨.mk 1 n noS (.slice none 0 0) [],rfl,rfl,by simp only [OT.ats,atsO,List.map_nil]⟩ (.refl _)
 | .nil=>by
  refine sp Tryz.func177 rfl Tryz.ntmps177 rfl rfl fun C=>?_
  refine knA 174 4 ?_
  (repeat' first|(refine kk ?_;intros)|refine kfk ?_ ?_<;>intro hb|fail)
  exact kerC (A'':=[arow 174 4 (.slice none 0 0) []]) (.agg (OT.row (.mk 0 0 noS (.slice none 0 0) []))) ⟨.mk 0 0 noS (.slice none 0 0) [],rfl,rfl,by simp only [OT.ats,atsO,List.map_nil]⟩ (.refl _)
 | .sym s=>by
  refine sp Tryz.func177 rfl Tryz.ntmps177 rfl rfl fun C=>?_
  refine knA 174 4 ?_
  (repeat' first|(refine kk ?_;intros)|refine kfk ?_ ?_<;>intro hb|fail)
  exact kerC (A'':=[arow 174 4 (.slice none 0 0) []]) (.agg (OT.row (.mk 2 0 s (.slice none 0 0) []))) ⟨.mk 2 0 s (.slice none 0 0) [],rfl,rfl,by simp only [OT.ats,atsO,List.map_nil]⟩ (.refl _)
 | .num n=>by
  refine sp Tryz.func177 rfl Tryz.ntmps177 rfl rfl fun C=>?_
  refine knA 174 4 ?_
  (repeat' first|(refine kk ?_;intros)|refine kfk ?_ ?_<;>intro hb|fail)
  exact kerC (A'':=[arow 174 4 (.slice none 0 0) []]) (.agg (OT.row (.mk 3 n noS (.slice none 0 0) []))) ⟨.mk 3 n noS (.slice none 0 0) [],rfl,rfl,by simp only [OT.ats,atsO,List.map_nil]⟩ (.refl _)
theorem SBd_snoc {u:Value} {l:List OB} {b:OB}:SBd u (l++[b])=arow 183 5 u (l.map OB.row++[b.row])::(atsB l++b.t.ats):=by
 show _::_=_
 rw [List.map_append,atsB_app]
 simp only [atsB,List.append_nil,List.map_cons,List.map_nil]
theorem SFd_snoc {u:Value} {l:List OFd} {x:OFd}:SFd u (l++[x])=arow 147 7 u (l.map OFd.row++[x.row])::(atsF l++x.b.ats):=by
 show _::_=_
 rw [List.map_append,atsF_app]
 simp only [atsF,List.append_nil,List.map_cons,List.map_nil]
theorem copyBO_c (s:Sb) (hl:s.length≤1000000):Spec Tryz.prog 133 [vS s] [] fun v A'=>∃ u l,l.map OB.bd=s.map toB∧v=.one (.v u)∧A'=SBd u l:=by
 have hlen:((s.map toB).map encB).length=s.length:=by simp
 refine sp Tryz.func133 rfl Tryz.ntmps133 rfl rfl fun C=>?_
 (repeat' first|(refine kkz ?_;intros)|refine kfk ?_ ?_<;>intro hb|fail)
 rename_i u0
 refine kfor (ι:=Value × List OB) s (fun j x=>[(3,.one (.v x.1)),(7,vS s)]) (fun j x=>SBd x.1 x.2) (fun j x=>x.2.map OB.bd=(s.take j).map toB) (u0,[]) rfl ?_ ?_
 ·rintro j ⟨v,t⟩ ⟨u,l⟩ hj hdd hjl he
  simp only at he
  dsimp only
  have hrow:((s.map toB).map encB)[j]?=some (encB (toB (v,t))):=by simp [hj]
  have ht1:s.take (j+1)=s.take j++[(v,t)]:=by rw [List.take_add_one,hj];rfl
  have hle:l.length≤j:=by
   have:=congrArg List.length he
   simp at this;omega
  (repeat' first|(refine kkn ?_;intros)|refine kfk ?_ ?_<;>intro hb|fail)
  rename_i b5
  refine kmix 9 [0,1,2,3,4] [5,6,7,8] [abox b5 (encB (toB (v,t))) 183] ?_ (hB:=Has.mem (List.Mem.head _))
  iterate 5 refine kal1 ?_
  refine kal0 ?_
  refine kacO rfl rfl (O_call0 (copyTermO_c t)) ?_
  rintro _ _ ⟨_,⟨⟨k1,n1,s1,u1,l1⟩,h1,rfl,rfl⟩,rfl⟩
  refine ⟨Has.mem (List.Mem.head _),?_⟩
  refine kacP ?_ (hb:=Has.mem (List.Mem.head _))
  refine kacP ?_ (hb:=Has.mem (List.Mem.head _))
  refine kacO rfl rfl (O_app 1 _ _ rfl rfl rfl rfl rfl (by simp;omega)) ?_
  rintro _ _ ⟨u2,rfl,rfl⟩
  refine ⟨Has.mem (List.Mem.head _),?_⟩
  (repeat' first|(refine kk ?_;intros)|refine kfk ?_ ?_<;>intro hb|fail)
  refine ⟨(u2,l++[⟨(v:Int),.mk k1 n1 s1 u1 l1⟩]),?_,?_⟩
  ·simp only [List.map_append,he,ht1,List.map_cons,List.map_nil,OB.bd,h1]
  ·dsimp only
   rw [SBd_snoc]
   exact kwk
 ·rintro ⟨u,l⟩ he
  simp only at he
  rw [List.take_length] at he
  dsimp only
  (repeat' first|(refine kk ?_;intros)|refine kfk ?_ ?_<;>intro hb|fail)
  exact ker1 _ ⟨_,l,he,rfl,rfl⟩
theorem perm_st {m k b3 d b2 b1:Atm} {l r:List Atm}:((l++((d::r)++[k,m]))++[b3,b2,b1]).Perm (m::k::b3::d::b2::b1::(l++r)):=by
 classical
 exact List.perm_iff_count.2 fun a=>by simp only [List.count_append,List.count_cons,List.count_nil];omega
theorem copyStO_c (st:Stt) (hst:StL st):Spec Tryz.prog 73 [vSt st] [] fun v A'=>∃ o:OSt,o.st=st.raw∧v=.agg o.row∧A'=o.ats:=by
 have hb:=hst.b
 have hd:=hst.d
 have hk:=hst.k
 have hm:=hst.m
 have hdl:(st.dis.map eS).length=st.dis.length:=by simp
 have hkl:((st.kinds.map toK).map encK).length=st.kinds.length:=by simp
 have hml:((st.marks.map toM).map encM).length=st.marks.length:=by simp
 refine sp Tryz.func73 rfl Tryz.ntmps73 rfl rfl fun C=>?_
 (repeat' first|(refine kk ?_;intros)|refine kfk ?_ ?_<;>intro hb|fail)
 rename_i b1 b2
 refine kjoin (ι:={q:(Value × List OB) × Value × Nat // q.1.2.map OB.bd=st.bind.map toB }) 8 (fun q=>[(1,.one (.v (.pointer (some ⟨b1,0,none⟩)))),(2,.one (.v (.pointer (some ⟨b2,0,none⟩)))),(3,.one (.v (.pointer (some ⟨q.1.2.2,0,none⟩)))),(12,.agg [.v (.int .i64 (st.next:Int)),.v q.1.1.1,.v q.1.2.1,.v (.slice none 0 0),.v (.slice none 0 0)])]) (fun q=>abox q.1.2.2 zCs 53::arow 48 1 q.1.2.1 []::abox b2 zCs 53::abox b1 (encStt st) 53::SBd q.1.1.1 q.1.1.2) (fun join=>?_) ?_
 ·refine kmix2 8 [0,1,2,3] [4,5,6,7] [abox b1 (encStt st) 53] ?_
  (repeat (refine kkc ?_))
  refine ktC 4 5 7 ?_ ?_ ?_
  ·refine ks2 rfl rfl (O_call0 (copyBO_c st.bind hb)) ?_
   rintro _ _ ⟨_,⟨ub,os,hos,rfl,rfl⟩,rfl⟩
   refine ⟨Has.mem (List.Mem.tail _ (List.Mem.head _)),?_⟩
   refine ktB 5 7 ?_ ?_
   ·refine ks2 rfl rfl (O_bs0) ?_
    rintro _ _ ⟨u,rfl,rfl⟩
    refine ⟨Has.mem (List.Mem.tail _ (List.Mem.tail _ (List.Mem.head _))),?_⟩
    refine ktB 6 7 ?_ ?_
    ·refine ks2 rfl rfl (P_build rfl rfl rfl).opn ?_
     rintro _ _ ⟨rfl,rfl⟩
     refine ⟨Has.mem (List.Mem.tail _ (List.Mem.tail _ (List.Mem.head _))),?_⟩
     refine ktA 7 ?_
     refine ks2 rfl rfl (O_alloc rfl) ?_
     rintro _ _ ⟨b3,rfl,rfl⟩
     exact ⟨Has.mem (List.Mem.tail _ (List.Mem.tail _ (List.Mem.tail _ (List.Mem.head _)))),join ⟨((ub,os),u,b3),hos⟩ _ _ ⟨leF_fl wL,_,.refl _,.refl _⟩⟩
    ·refine ks2 rfl rfl (O_alloc rfl) ?_
     rintro _ _ ⟨b3,rfl,rfl⟩
     refine ⟨Has.mem (List.Mem.tail _ (List.Mem.tail _ (List.Mem.tail _ (List.Mem.head _)))),?_⟩
     refine ktA 6 ?_
     refine ks2 rfl rfl (P_build rfl rfl rfl).opn ?_
     rintro _ _ ⟨rfl,rfl⟩
     exact ⟨Has.mem (List.Mem.tail _ (List.Mem.tail _ (List.Mem.tail _ (List.Mem.head _)))),join ⟨((ub,os),u,b3),hos⟩ _ _ ⟨leF_fl wL,_,.refl _,.refl _⟩⟩
   ·refine ks2 rfl rfl (O_alloc rfl) ?_
    rintro _ _ ⟨b3,rfl,rfl⟩
    refine ⟨Has.mem (List.Mem.tail _ (List.Mem.tail _ (List.Mem.head _))),?_⟩
    refine ktA 5 ?_
    refine ks2 rfl rfl (O_bs0) ?_
    rintro _ _ ⟨u,rfl,rfl⟩
    refine ⟨Has.mem (List.Mem.tail _ (List.Mem.tail _ (List.Mem.tail _ (List.Mem.head _)))),?_⟩
    refine ktA 6 ?_
    refine ks2 rfl rfl (P_build rfl rfl rfl).opn ?_
    rintro _ _ ⟨rfl,rfl⟩
    exact ⟨Has.mem (List.Mem.tail _ (List.Mem.tail _ (List.Mem.tail _ (List.Mem.head _)))),join ⟨((ub,os),u,b3),hos⟩ _ _ ⟨leF_fl wL,_,List.Perm.swap _ _ _,.refl _⟩⟩
  ·refine ks2 rfl rfl (O_bs0) ?_
   rintro _ _ ⟨u,rfl,rfl⟩
   refine ⟨Has.mem (List.Mem.tail _ (List.Mem.tail _ (List.Mem.head _))),?_⟩
   refine ktB 4 7 ?_ ?_
   ·refine ks2 rfl rfl (O_call0 (copyBO_c st.bind hb)) ?_
    rintro _ _ ⟨_,⟨ub,os,hos,rfl,rfl⟩,rfl⟩
    refine ⟨Has.mem (List.Mem.tail _ (List.Mem.tail _ (List.Mem.head _))),?_⟩
    refine ktB 6 7 ?_ ?_
    ·refine ks2 rfl rfl (P_build rfl rfl rfl).opn ?_
     rintro _ _ ⟨rfl,rfl⟩
     refine ⟨Has.mem (List.Mem.tail _ (List.Mem.tail _ (List.Mem.head _))),?_⟩
     refine ktA 7 ?_
     refine ks2 rfl rfl (O_alloc rfl) ?_
     rintro _ _ ⟨b3,rfl,rfl⟩
     exact ⟨Has.mem (List.Mem.tail _ (List.Mem.tail _ (List.Mem.tail _ (List.Mem.head _)))),join ⟨((ub,os),u,b3),hos⟩ _ _ ⟨leF_fl wL,_,.refl _,.refl _⟩⟩
    ·refine ks2 rfl rfl (O_alloc rfl) ?_
     rintro _ _ ⟨b3,rfl,rfl⟩
     refine ⟨Has.mem (List.Mem.tail _ (List.Mem.tail _ (List.Mem.tail _ (List.Mem.head _)))),?_⟩
     refine ktA 6 ?_
     refine ks2 rfl rfl (P_build rfl rfl rfl).opn ?_
     rintro _ _ ⟨rfl,rfl⟩
     exact ⟨Has.mem (List.Mem.tail _ (List.Mem.tail _ (List.Mem.tail _ (List.Mem.head _)))),join ⟨((ub,os),u,b3),hos⟩ _ _ ⟨leF_fl wL,_,.refl _,.refl _⟩⟩
   ·refine ks2 rfl rfl (O_alloc rfl) ?_
    rintro _ _ ⟨b3,rfl,rfl⟩
    refine ⟨Has.mem (List.Mem.tail _ (List.Mem.tail _ (List.Mem.tail _ (List.Mem.head _)))),?_⟩
    refine ktA 4 ?_
    refine ks2 rfl rfl (O_call0 (copyBO_c st.bind hb)) ?_
    rintro _ _ ⟨_,⟨ub,os,hos,rfl,rfl⟩,rfl⟩
    refine ⟨Has.mem (List.Mem.tail _ (List.Mem.tail _ (List.Mem.tail _ (List.Mem.head _)))),?_⟩
    refine ktA 6 ?_
    refine ks2 rfl rfl (P_build rfl rfl rfl).opn ?_
    rintro _ _ ⟨rfl,rfl⟩
    exact ⟨Has.mem (List.Mem.tail _ (List.Mem.tail _ (List.Mem.tail _ (List.Mem.head _)))),join ⟨((ub,os),u,b3),hos⟩ _ _ ⟨leF_fl wL,_,.refl _,.refl _⟩⟩
  ·refine ks2 rfl rfl (O_alloc rfl) ?_
   rintro _ _ ⟨b3,rfl,rfl⟩
   refine ⟨Has.mem (List.Mem.tail _ (List.Mem.tail _ (List.Mem.head _))),?_⟩
   refine ktB 4 5 ?_ ?_
   ·refine ks2 rfl rfl (O_call0 (copyBO_c st.bind hb)) ?_
    rintro _ _ ⟨_,⟨ub,os,hos,rfl,rfl⟩,rfl⟩
    refine ⟨Has.mem (List.Mem.tail _ (List.Mem.tail _ (List.Mem.head _))),?_⟩
    refine ktA 5 ?_
    refine ks2 rfl rfl (O_bs0) ?_
    rintro _ _ ⟨u,rfl,rfl⟩
    refine ⟨Has.mem (List.Mem.tail _ (List.Mem.tail _ (List.Mem.tail _ (List.Mem.head _)))),?_⟩
    refine ktA 6 ?_
    refine ks2 rfl rfl (P_build rfl rfl rfl).opn ?_
    rintro _ _ ⟨rfl,rfl⟩
    exact ⟨Has.mem (List.Mem.tail _ (List.Mem.tail _ (List.Mem.tail _ (List.Mem.head _)))),join ⟨((ub,os),u,b3),hos⟩ _ _ ⟨leF_fl wL,_,List.Perm.swap _ _ _,.refl _⟩⟩
   ·refine ks2 rfl rfl (O_bs0) ?_
    rintro _ _ ⟨u,rfl,rfl⟩
    refine ⟨Has.mem (List.Mem.tail _ (List.Mem.tail _ (List.Mem.tail _ (List.Mem.head _)))),?_⟩
    refine ktA 4 ?_
    refine ks2 rfl rfl (O_call0 (copyBO_c st.bind hb)) ?_
    rintro _ _ ⟨_,⟨ub,os,hos,rfl,rfl⟩,rfl⟩
    refine ⟨Has.mem (List.Mem.tail _ (List.Mem.tail _ (List.Mem.tail _ (List.Mem.head _)))),?_⟩
    refine ktA 6 ?_
    refine ks2 rfl rfl (P_build rfl rfl rfl).opn ?_
    rintro _ _ ⟨rfl,rfl⟩
    exact ⟨Has.mem (List.Mem.tail _ (List.Mem.tail _ (List.Mem.tail _ (List.Mem.head _)))),join ⟨((ub,os),u,b3),hos⟩ _ _ ⟨leF_fl wL,_,List.Perm.swap _ _ _,.refl _⟩⟩
 ·rintro ⟨⟨⟨ub,os⟩,u,b3⟩,hos⟩
  dsimp only at hos ⊢
  (repeat' first|(refine kk ?_;intros)|refine kfk ?_ ?_<;>intro hb|fail)
  refine kfor (ι:=Value × List OD) st.dis (fun j x=>[(1,.one (.v (.pointer (some ⟨b1,0,none⟩)))),(2,.one (.v (.pointer (some ⟨b2,0,none⟩)))),(3,.one (.v (.pointer (some ⟨b3,0,none⟩)))),(14,vSs st.dis)]) (fun j x=>abox b3 [.v (.int .i64 (st.next:Int)),.v ub,.v x.1,.v (.slice none 0 0),.v (.slice none 0 0)] 53::arow 48 1 x.1 (x.2.map OD.row)::abox b2 zCs 53::abox b1 (encStt st) 53::(SBd ub os++atsD x.2)) (fun j x=>x.2.map OD.bs=(st.dis.take j).map fun d=>d.map toB) (u,[]) rfl ?_ ?_ (hw:=⟨leF_fl wL,_,.refl _,by dsimp only [atsD];rw [List.append_nil];exact .refl _⟩)
  ·rintro j x ⟨u,l⟩ hj hdd hjl he
   simp only at he
   dsimp only
   have hrow:(st.dis.map eS)[j]?=some (eS x):=by simp [hj]
   have hx:=hst.ds x (List.mem_of_getElem? hj)
   have ht1:st.dis.take (j+1)=st.dis.take j++[x]:=by rw [List.take_add_one,hj];rfl
   have hle:l.length≤j:=by
    have:=congrArg List.length he
    simp at this;omega
   (repeat' first|(refine kkn ?_;intros)|refine kfk ?_ ?_<;>intro hb|fail)
   refine kmix 6 [0,1,2] [3,4,5] [abox b3 [.v (.int .i64 (st.next:Int)),.v ub,.v u,.v (.slice none 0 0),.v (.slice none 0 0)] 53] ?_ (hB:=Has.mem (List.Mem.head _))
   iterate 3 refine kal1 ?_
   refine kal0 ?_
   refine kacO rfl rfl (O_call0 (copyBO_c x hx)) ?_
   rintro _ _ ⟨_,⟨ud,ld,hd1,rfl,rfl⟩,rfl⟩
   refine ⟨Has.mem (List.Mem.head _),?_⟩
   refine kacP ?_ (hb:=Has.mem (List.Mem.head _))
   refine kacO rfl rfl (O_app 1 _ _ rfl rfl rfl rfl rfl (by simp;omega)) ?_
   rintro _ _ ⟨u2,rfl,rfl⟩
   refine ⟨Has.mem (List.Mem.head _),?_⟩
   (repeat' first|(refine kk ?_;intros)|refine kfk ?_ ?_<;>intro hb|fail)
   refine ⟨(u2,l++[⟨ud,ld⟩]),?_,?_⟩
   ·simp only [List.map_append,he,ht1,List.map_cons,List.map_nil,OD.bs,hd1]
   ·dsimp only
    rw [show SBd ub os++atsD (l++[⟨ud,ld⟩])=(SBd ub os++atsD l)++SBd ud ld by rw [atsD_app];simp only [atsD,List.append_nil,List.append_assoc],List.map_append]
    exact kwk
  ·rintro ⟨u,l⟩ he
   simp only at he
   rw [List.take_length] at he
   dsimp only
   (repeat' first|(refine kkz ?_;intros)|refine kfk ?_ ?_<;>intro hb|fail)
   rename_i _ uk _ um
   refine kerCP (.agg (OSt.row ⟨st.next,ub,os,u,l,uk,st.kinds.map toK,um,st.marks.map toM⟩)) ⟨_,?_,rfl,rfl⟩ perm_st (List.sublist_append_left _ _)
   simp only [OSt.st,Stt.raw,hos,he]
def Br.raw (b:Br):BrR:=⟨b.st.raw,b.ch.map fun n:Nat=>(n:Int)⟩
def Fd.raw (x:Fd):FdR:=(x.1.raw,(x.2:Int))
theorem chI {l:List Nat}:(l.map fun n:Nat=>(n:Int)).map encI=l.map encN:=by rw [List.map_map];rfl
theorem copyBrO_c (b:Br) (hs:StL b.st) (hl:b.ch.length≤1000000):Spec Tryz.prog 146 [vBrP b] [] fun v A'=>∃ o:OBr,o.br=b.raw∧v=.agg o.row∧A'=o.ats:=by
 have hlen:(b.ch.map encN).length=b.ch.length:=by simp
 refine sp Tryz.func146 rfl Tryz.ntmps146 rfl rfl fun C=>?_
 (repeat' first|(refine kkn ?_;intros)|refine kfk ?_ ?_<;>intro hb|fail)
 rename_i b1 b2
 refine kmix2 7 [0,1,4,5] [2,3,6] [abox b1 (encBrP b) 55] ?_
 (repeat (refine kkc ?_))
 refine ktB 2 3 ?_ ?_
 ·refine ks2 rfl rfl (O_call0 (copyStO_c b.st hs)) ?_
  rintro _ _ ⟨_,⟨o,ho,rfl,rfl⟩,rfl⟩
  refine ⟨Has.mem (List.Mem.tail _ (List.Mem.head _)),ktA 3 (ks2 rfl rfl O_bs0 ?_)⟩
  rintro _ _ ⟨u1,rfl,rfl⟩
  refine ⟨Has.mem (List.Mem.tail _ (List.Mem.tail _ (List.Mem.head _))),ktA 6 (ks2 rfl rfl (O_app 0 _ _ rfl rfl rfl rfl rfl (by simp;omega)) ?_)⟩
  rintro _ _ ⟨u2,rfl,rfl⟩
  refine ⟨Has.mem (List.Mem.tail _ (List.Mem.tail _ (List.Mem.head _))),?_⟩
  (repeat' first|(refine kk ?_;intros)|refine kfk ?_ ?_<;>intro hb|fail)
  refine kerCP (.agg (OBr.row ⟨o,u2,b.ch.map fun n:Nat=>(n:Int)⟩)) ⟨_,?_,rfl,rfl⟩ (A0:=o.ats++(SIs u2 (b.ch.map fun n:Nat=>(n:Int))::[_,_])) (by rw [SIs,chI];exact List.perm_append_comm) (.append_left (.cons₂ _ (List.nil_sublist _)) _)
  simp only [OBr.br,Br.raw,ho]
 ·refine ks2 rfl rfl O_bs0 ?_
  rintro _ _ ⟨u1,rfl,rfl⟩
  refine ⟨Has.mem (List.Mem.tail _ (List.Mem.tail _ (List.Mem.head _))),ktA 2 (ks2 rfl rfl (O_call0 (copyStO_c b.st hs)) ?_)⟩
  rintro _ _ ⟨_,⟨o,ho,rfl,rfl⟩,rfl⟩
  refine ⟨Has.mem (List.Mem.tail _ (List.Mem.tail _ (List.Mem.head _))),ktA 6 (ks2 rfl rfl (O_app 0 _ _ rfl rfl rfl rfl rfl (by simp;omega)) ?_)⟩
  rintro _ _ ⟨u2,rfl,rfl⟩
  refine ⟨Has.mem (List.Mem.tail _ (List.Mem.tail _ (List.Mem.head _))),?_⟩
  (repeat' first|(refine kk ?_;intros)|refine kfk ?_ ?_<;>intro hb|fail)
  refine kerCP (.agg (OBr.row ⟨o,u2,b.ch.map fun n:Nat=>(n:Int)⟩)) ⟨_,?_,rfl,rfl⟩ (A0:=o.ats++(SIs u2 (b.ch.map fun n:Nat=>(n:Int))::[_,_])) (by rw [SIs,chI];exact List.perm_append_comm) (.append_left (.cons₂ _ (List.nil_sublist _)) _)
  simp only [OBr.br,Br.raw,ho]
theorem copyFO_c (l:List Fd) (hl:l.length≤1000000) (hs:∀ x∈l,StL x.1.st∧x.1.ch.length≤1000000):Spec Tryz.prog 95 [vFbs l] [] fun v A'=>∃ u os,os.map OFd.fd=l.map Fd.raw∧v=.one (.v u)∧A'=SFd u os:=by
 have hlen:(l.map encFb).length=l.length:=by simp
 refine sp Tryz.func95 rfl Tryz.ntmps95 rfl rfl fun C=>?_
 (repeat' first|(refine kkz ?_;intros)|refine kfk ?_ ?_<;>intro hb|fail)
 rename_i u0
 refine kfor (ι:=Value × List OFd) l (fun j x=>[(3,.one (.v x.1)),(7,vFbs l)]) (fun j x=>SFd x.1 x.2) (fun j x=>x.2.map OFd.fd=(l.take j).map Fd.raw) (u0,[]) rfl ?_ ?_
 ·rintro j x ⟨u,os⟩ hj hdd hjl he
  simp only at he
  dsimp only
  have hrow:(l.map encFb)[j]?=some (encFb x):=by simp [hj]
  have hx:=hs x (List.mem_of_getElem? hj)
  have ht1:l.take (j+1)=l.take j++[x]:=by rw [List.take_add_one,hj];rfl
  have hle:os.length≤j:=by
   have:=congrArg List.length he
   simp at this;omega
  (repeat' first|(refine kkn ?_;intros)|refine kfk ?_ ?_<;>intro hb|fail)
  rename_i b5
  refine kmix 9 [0,1,2,4,5] [3,6,7,8] [abox b5 (encFb x) 147] ?_ (hB:=Has.mem (List.Mem.head _))
  iterate 5 refine kal1 ?_
  refine kal0 ?_
  refine kacO rfl rfl (O_call0 (copyBrO_c x.1 hx.1 hx.2)) ?_
  rintro _ _ ⟨_,⟨o,ho,rfl,rfl⟩,rfl⟩
  refine ⟨Has.mem (List.Mem.head _),?_⟩
  refine kacP ?_ (hb:=Has.mem (List.Mem.head _))
  refine kacP ?_ (hb:=Has.mem (List.Mem.head _))
  refine kacO rfl rfl (O_app 1 _ _ rfl rfl rfl rfl rfl (by simp;omega)) ?_
  rintro _ _ ⟨u2,rfl,rfl⟩
  refine ⟨Has.mem (List.Mem.head _),?_⟩
  (repeat' first|(refine kk ?_;intros)|refine kfk ?_ ?_<;>intro hb|fail)
  refine ⟨(u2,os++[⟨o,(x.2:Int)⟩]),?_,?_⟩
  ·simp only [List.map_append,he,ht1,List.map_cons,List.map_nil,OFd.fd,Fd.raw,ho]
  ·dsimp only
   rw [SFd_snoc]
   exact kwk
 ·rintro ⟨u,os⟩ he
  simp only at he
  rw [List.take_length] at he
  dsimp only
  (repeat' first|(refine kk ?_;intros)|refine kfk ?_ ?_<;>intro hb|fail)
  exact ker1 _ ⟨_,os,he,rfl,rfl⟩
end
end Go.Proofs.YtejkllmoofdpjaaGreat
