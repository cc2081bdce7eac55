/- Parts of the proof: VY7. -/
import Derived.Test.YtbabchapkhlenaaGreatC48
import Derived.Test.YtbabchapkhlenaaGreatC52
namespace Go.Proofs.YtbabchapkhlenaaGreat
open Go
set_option linter.all false
set_option maxRecDepth 100000
set_option maxHeartbeats 4000000
noncomputable section
open Classical
theorem spec_le {P:Program} {g:Nat} {xs:List AV} {A:List Atm} {Q Q':AV→List Atm→Prop} (h:Spec P g xs A Q) (hq:∀ v A',Q v A'→Q' v A'):Spec P g xs A Q':=fun M w vs hp hv=>by
 refine Calls.mono (h M w vs hp hv) ?_
 rintro e w' ⟨u,rfl,v,A',h1,h2⟩
 exact ⟨u,rfl,v,A',hq v A' h1,h2⟩
theorem ker2P {P:Program} {f:AF} {A A0 A'':List Atm} {Q':AV→List Atm→Prop} {t t2:Nat} {a a2 v1 v2:AV} (hq:Q' (.tup [v1,v2]) A'') (hle:a.le v1) (hle2:a2.le v2) (hp:A0.Perm A) (hs:A''.Sublist A0) (hx:f t=a:=by (first|exact sh1 rfl|exact sh2 rfl|exact sh3 rfl|exact sh4 rfl|exact sh5 rfl|exact rfl|fail)) (hx2:f t2=a2:=by (first|exact sh1 rfl|exact sh2 rfl|exact sh3 rfl|exact sh4 rfl|exact sh5 rfl|exact rfl|fail)) :
 ∃ l v A'',RV P f A [.tmp t,.tmp t2] l∧Q' v A''∧(AV.of1 l).le v∧Wk f A f A'':=⟨[f t,f t2],.tup [v1,v2],A'',⟨_,_,rfl,R1_tmp,_,_,rfl,R1_tmp,rfl⟩,hq,AV.le_tup (show leA [f t,f t2] [v1,v2] from ⟨by rw [hx];exact hle,by rw [hx2];exact hle2,trivial⟩),⟨fun _=>.refl _,A0,hp,hs⟩⟩
def ready (ops:Array Oper) (todo:List Nat):List Nat:=todo.filter fun x=>(todo.all fun y=>!(clo ops x).contains y)
section
variable {P:Program} {n:Nat} {C:Cx} {ops:Array Oper} {K:AF→List Atm→Prop} {f:AF} {A B:List Atm} {d:Nat} {op:Op} {ty:TypeId} {pos:String} {aft:Array Edge} {v:AV} {todo:List Nat} {q i:Nat}
theorem kt_any (rd:List Nat) (hr:ready ops todo=rd) (h:∀ x∈rd,AS2 P n ops B K q (todo.erase x) x f A):AC2 P n ops B K (q+1) todo f A:=fun x hx hc=>by
 refine h x (hr▸?_)
 unfold ready
 rw [List.mem_filter]
 refine ⟨hx,?_⟩
 rw [List.all_eq_true]
 intro y hy
 have:=hc y hy
 cases he:(clo ops x).contains y with
 | false=>rfl
 | true=>exact absurd (List.contains_iff_mem.1 he) this
theorem ktA (a:Nat) (h:AS2 P n ops B K q (todo.erase a) a f A) (hr:ready ops todo=[a]:=by decide +kernel):AC2 P n ops B K (q+1) todo f A:=kt_any [a] hr fun x hx=>by
 obtain rfl:=List.mem_singleton.1 hx;exact h
theorem ktB (a b:Nat) (h1:AS2 P n ops B K q (todo.erase a) a f A) (h2:AS2 P n ops B K q (todo.erase b) b f A) (hr:ready ops todo=[a,b]:=by decide +kernel):AC2 P n ops B K (q+1) todo f A:=kt_any [a,b] hr fun x hx=>by
 rcases List.mem_cons.1 hx with rfl|hx
 ·exact h1
 ·obtain rfl:=List.mem_singleton.1 hx;exact h2
theorem ktC (a b c:Nat) (h1:AS2 P n ops B K q (todo.erase a) a f A) (h2:AS2 P n ops B K q (todo.erase b) b f A) (h3:AS2 P n ops B K q (todo.erase c) c f A) (hr:ready ops todo=[a,b,c]:=by decide +kernel):AC2 P n ops B K (q+1) todo f A:=kt_any [a,b,c] hr fun x hx=>by
 rcases List.mem_cons.1 hx with rfl|hx
 ·exact h1
 rcases List.mem_cons.1 hx with rfl|hx
 ·exact h2
 ·obtain rfl:=List.mem_singleton.1 hx;exact h3
theorem ks2q (k:Has B A∧AC2 P n ops B K q todo (au f d v) A) (ho:ops[i]?=some ⟨some d,op,ty,pos,aft,none⟩:=by exact rfl) (hd:Nat.blt d n=true:=by exact rfl) (h:PuO P f A ⟨some d,op,ty,pos,aft,none⟩ v:=by exact kpu):AS2 P n ops B K q todo i f A:=
 ks2 ho hd h.opn fun v' A' ⟨h1,h2⟩=>h1▸h2▸k
end
section
variable {P:Program} {n:Nat} {C:Cx} {ops:Array Oper} {K:AF→List Atm→Prop} {f:AF} {A B:List Atm} {ty:TypeId} {pos:String} {aft:Array Edge} {todo:List Nat} {q i:Nat}
theorem ks2w {T T':TypeId} {agg:Bool} {sz:Nat} {z:Value} [F:TyF P T agg sz z] (w:Nat) {x1 x2:Operand} {a2:AV} {b:Nat} {ds cs:List D} (k:Has B (A.set w (abox b cs T'))∧AC2 P n ops B K q todo f (A.set w (abox b cs T'))) (ho:ops[i]?=some ⟨none,.store T x1 x2,ty,pos,aft,none⟩:=by exact rfl) (hx:eva f x1=.one (.v (.pointer (some ⟨b,0,none⟩))):=by exact rfl) (hi:A[w]?=some (abox b ds T'):=by exact rfl) (hy:eva f x2=a2:=by (first|exact sh1 rfl|exact sh2 rfl|exact sh3 rfl|exact sh4 rfl|exact sh5 rfl|exact rfl|fail)) (hc:a2.cellsD=some cs:=by exact rfl) (hl:cs.length=sz:=by exact rfl) (hd:ds.length=sz:=by exact rfl):AS2 P n ops B K q todo i f A:=fun o h'=>by
 rw [ho] at h';cases h'
 refine ⟨rfl,_,O_store w x1 x2 hx hi hy hc hl (by simp [hd]),fun v A' ⟨h1,h2⟩=>?_⟩
 subst h2
 rw [putD_all (hd.trans hl.symm)]
 exact k
end
theorem has_two0 {y z:Atm} {L:List Atm}:Has [y,z] (y::z::L):=⟨L,List.perm_append_comm (l₁:=[y,z]) (l₂:=L)⟩
theorem has_two1 {x y z:Atm} {L:List Atm}:Has [y,z] (x::y::z::L):=⟨x::L,(List.perm_append_comm (l₁:=[y,z]) (l₂:=L)).cons x⟩
def addO (l:List OG) (x:OG):List OG:=if x.2∈l.map (·.2) then l else l++[x]
theorem addO_map {l:List OG} {x:OG}:(addO l x).map (·.2)=addG (l.map (·.2)) x.2:=by
 unfold addO addG
 split<;>simp
theorem add_o (b:Nat) (u:Value) (l:List OG) (x:OG) (hl:l.length≤1000000) (h16:∀ y∈l++[x],y.2.arcs.length≤16):Spec Tryz.prog 47 (.agg (rowO x)::capA [.pointer (some ⟨b,0,none⟩)]) (obx b u::arow 59 3 u (l.map rowO)::(l.map atmO++[atmO x])) fun _ A'=>∃ u',A'=obx b u'::AG u' (addO l x):=
 spec_le (add_c b u l x hl h16) fun v A' h=>by
  unfold addO
  rcases h with ⟨h,rfl⟩ | ⟨h,u',rfl⟩
  ·exact ⟨u,by rw [if_pos h]⟩
  ·exact ⟨u',by rw [if_neg h]⟩
def rowC (x y:Gr) (u:Value):List D:=if meetsG x y then rowO (u,compG x y) else zGr
def memC (x y:Gr) (u:Value):List Atm:=if meetsG x y then [atmO (u,compG x y)] else []
theorem rowC_len {x y:Gr} {u:Value}:(rowC x y u).length=3:=by unfold rowC;split<;>rfl
theorem composeO_c (a b:Gr) (ha:GrOk a) (hb:GrOk b):Spec Tryz.prog 44 [vGr a,vGr b] [] fun v A'=>∃ u,v=.tup [.agg (rowC a b u),bp (meetsG a b)]∧A'=memC a b u:=by
 by_cases hm:a.callee=b.caller
 ·refine spec_le (composeY_c a b ha hb hm) fun v A' ⟨u,h1,h2⟩=>⟨u,?_,?_⟩
  ·rw [h1,show rowC a b u=rowO (u,compG a b) from if_pos hm,← bpT (p:=meetsG a b) hm]
  ·rw [h2,show memC a b u=[atmO (u,compG a b)] from if_pos hm]
 ·refine spec_le (composeN_c a b ha hb hm) fun v A' ⟨h1,h2⟩=>⟨.slice none 0 0,?_,?_⟩
  ·rw [h1,show rowC a b (.slice none 0 0)=zGr from if_neg hm,← bpF (p:=meetsG a b) hm]
  ·rw [h2,show memC a b (.slice none 0 0)=[] from if_neg hm]
theorem composeB_c {A:List Atm} {x y:OG} (hx:GrOk x.2) (hy:GrOk y.2) (h1:atmO x∈A) (h2:atmO y∈A):Spec Tryz.prog 44 [.agg (rowO x),.agg (rowO y)] A fun v A'=>∃ u,v=.tup [.agg (rowC x.2 y.2 u),bp (meetsG x.2 y.2)]∧A'=A++memC x.2 y.2 u:=
 spec_le (Spec.borrow (vwO2 h1 h2) (composeO_c x.2 y.2 hx hy) fun v B ⟨u,h1,h2⟩=>by
  subst h1 h2
  unfold rowC memC
  split
  ·exact ⟨rfl,fun a ha=>by obtain rfl:=List.mem_singleton.1 ha;exact atmO_rg⟩
  ·exact ⟨rfl,by simp⟩) fun v A' ⟨B,⟨u,h1,h2⟩,h3⟩=>⟨u,h1,by rw [h3,h2]⟩
def gi (l:List OG) (i:Nat):OG:=l.getD i (.slice none 0 0,zeroG)
theorem gi_range (l:List OG):(List.range l.length).map (gi l)=l:=by
 apply List.ext_getElem?
 intro i
 by_cases hi:i < l.length
 ·simp [gi,hi,List.getD_eq_getElem?_getD]
 ·simp [hi,List.getElem?_eq_none (by omega:l.length≤i)]
theorem gi_16 {l:List OG} (h:∀ x∈l,x.2.arcs.length≤16) (i:Nat):(gi l i).2.arcs.length≤16:=by
 unfold gi
 rw [List.getD_eq_getElem?_getD]
 cases hi:l[i]? with
 | none=>simp [zeroG]
 | some x=>exact h x (List.mem_of_getElem? hi)
theorem gi_vw {A:List Atm} {l:List OG} (h:∀ x∈l,atmO x∈A) (i:Nat):VwA A (.agg (rowO (gi l i))) (vGr (gi l i).2):=by
 unfold gi
 rw [List.getD_eq_getElem?_getD]
 cases hi:l[i]? with
 | none=>exact .agg (.cons (.refl _) (.cons (.refl _) (.cons VwD.nil .nil)))
 | some x=>exact vwO (h x (List.mem_of_getElem? hi))
theorem swo_gi (l:List OG):Go.Sort.SWO (ltC fun a b:Nat=>cG (gi l a).2 (gi l b).2):=by
 haveI:Inhabited Gr:=⟨zeroG⟩
 obtain ⟨h1,h2,h3⟩:=cG_tot.swo
 exact ⟨fun x=>h1 _,fun x y z=>h2 _ _ _,fun x y z=>h3 _ _ _⟩
theorem lessO_c (p:Nat) (l:List OG) (h16:∀ x∈l,x.2.arcs.length≤16) {u:Value} {b n c:Nat} (hu:u=.slice (some ⟨b,0,none⟩) n c) (d:Array Nat) (hd:d.size=n) (hn:n≤1152921504606846976) (i j:Nat) (hi:i < n) (hj:j < n) :
 Spec Tryz.prog 49 [nv i,nv j,.one (.v (.pointer (some ⟨p,0,none⟩)))] ((obx p u::l.map atmO)++[arow 59 3 u (d.toList.map fun i=>rowO (gi l i))]) fun v A'=>v=bv (ltC (fun a b:Nat=>cG (gi l a).2 (gi l b).2) d[i]! d[j]!)∧A'=(obx p u::l.map atmO)++[arow 59 3 u (d.toList.map fun i=>rowO (gi l i))]:=by
 subst hu
 subst hd
 have hlen:(d.toList.map fun i=>rowO (gi l i)).length=d.size:=by simp
 have r1:(d.toList.map fun i=>rowO (gi l i))[i]?=some (rowO (gi l d[i]!)):=by simp [hi]
 have r2:(d.toList.map fun i=>rowO (gi l i))[j]?=some (rowO (gi l d[j]!)):=by simp [hj]
 have l1:=And.intro (gi_16 h16 d[i]!) (gi_16 h16 d[j]!)
 have m0:arow 59 3 (.slice (some ⟨b,0,none⟩) d.size c) (d.toList.map fun i=>rowO (gi l i))∈(obx p (.slice (some ⟨b,0,none⟩) d.size c)::l.map atmO)++[arow 59 3 (.slice (some ⟨b,0,none⟩) d.size c) (d.toList.map fun i=>rowO (gi l i))]:=List.mem_append_right _ (List.Mem.head _)
 have m1:∀ x∈l,atmO x∈(obx p (.slice (some ⟨b,0,none⟩) d.size c)::l.map atmO)++[arow 59 3 (.slice (some ⟨b,0,none⟩) d.size c) (d.toList.map fun i=>rowO (gi l i))]:=fun x hx=>List.mem_append_left _ (List.Mem.tail _ (List.mem_map_of_mem hx))
 generalize d[i]! = x at r1 l1 ⊢
 generalize d[j]! = y at r2 l1 ⊢
 have hval:=cG_tot.val (gi l x).2 (gi l y).2
 refine sp Tryz.func49 rfl Tryz.ntmps49 rfl rfl fun C=>?_
 (repeat' first|(refine kk ?_;intros)|refine kfk ?_ ?_<;>intro hb|fail)
 refine kar ?_ (h:=P_loadNR (j:=i) (o:=0) (sz:=3) _ rfl m0 r1 rfl rfl)
 (repeat' first|(refine kk ?_;intros)|refine kfk ?_ ?_<;>intro hb|fail)
 refine kar ?_ (h:=P_loadNR (j:=j) (o:=0) (sz:=3) _ rfl m0 r2 rfl rfl)
 refine kar ?_ (ho:=rfl) (h:=P_callB (v:=iv (cG (gi l x).2 (gi l y).2)) (show VwL _ [.agg (rowO (gi l x)),.agg (rowO (gi l y))] _ from .cons (gi_vw m1 x) (.cons (gi_vw m1 y) .nil)) (orderGraphs_c.h (gi l x).2 (gi l y).2 l1) rfl)
 (repeat' first|(refine kk ?_;intros)|refine kfk ?_ ?_<;>intro hb|fail)
 exact ker1 _ ⟨rfl,rfl⟩ (hle:=le_eq (congrArg bv (decide_eq_decide.2 (show cG (gi l x).2 (gi l y).2 < 0↔cG (gi l x).2 (gi l y).2=-1 by omega))))
theorem get_snd {L:List OG} {i:Nat} {g:Gr} (h:(L.map (·.2))[i]?=some g):∃ x,L[i]?=some x∧x.2=g:=by
 rw [List.getElem?_map] at h
 obtain ⟨x,hx,rfl⟩:=Option.map_eq_some_iff.1 h
 exact ⟨x,hx,rfl⟩
theorem pm1 {b o a x:Atm} {l r:List Atm}:(b::o::a::(l++(x::r))).Perm ((b::r)++(o::a::(l++[x]))):=by
 rw [show o::a::(l++(x::r))=(o::a::(l++[x]))++r by simp]
 exact List.Perm.cons _ List.perm_append_comm
theorem pm2 {b:Atm} {L r:List Atm}:(b::(L++r)).Perm ((b::r)++L):=List.Perm.cons _ List.perm_append_comm
theorem sizeClosureO_c (p:List RlR) (hin:InP p):Spec Tryz.prog 18 [vP p] [] fun v A'=>match closeP p with
 | none=>v=.tup [.one (.s 3 []),bv false]∧A'=[]
 | some l=>∃ u os,os.map (·.2)=l∧v=.tup [.one (.v u),bv true]∧A'=AG u os:=by
 refine sp Tryz.func18 rfl Tryz.ntmps18 rfl rfl fun C=>?_
 (repeat' first|(refine kkS [9] [] ?_;intros)|refine kfS [9] [] ?_ ?_<;>intro hb|fail)
 cases hs:sizeF p with
 | none=>
  rw [show closeP p=none by unfold closeP;rw [hs];rfl]
  refine kc0 (h:=spec_le (Q':=fun v A'=>v=.tup [.one (.s 3 []),bv false]∧A'=[]) (sizeGraphs_c p hin) fun v A' h=>by rw [hs] at h;exact h) ?_
  rintro _ _ ⟨rfl,rfl⟩
  (repeat' first|(refine kk ?_;intros)|refine kfk ?_ ?_<;>intro hb|fail)
  exact ker2 (v1:=.one (.s 3 [])) (v2:=bv false) ⟨rfl,rfl⟩ (AV.le_one D.le_nil) (.refl _)
 | some first=>
  have hv:closeP p=closeF cG meetsG compG 200 first:=by unfold closeP;rw [hs];rfl
  rw [hv]
  obtain ⟨hf,hfl⟩:=sizeF_ok hs
  refine kc0 (h:=spec_le (Q':=fun v A'=>∃ u os,os.map (·.2)=first∧v=.tup [.one (.v u),bv true]∧A'=AG u os) (sizeGraphs_c p hin) fun v A' h=>by rw [hs] at h;exact h) ?_
  rintro _ _ ⟨u1,os,hos,rfl,rfl⟩
  have hol:os.length=first.length:=by rw [← hos,List.length_map]
  have hlen:(os.map rowO).length=os.length:=by simp
  rename_i b1
  (repeat' first|(refine kkz ?_;intros)|refine kfk ?_ ?_<;>intro hb|fail)
  rename_i u0 b6
  refine kfor (ι:=Value × List OG) os (fun j q=>[(6,.one (.v (.pointer (some ⟨b6,0,none⟩)))),(7,fv 47 [.pointer (some ⟨b6,0,none⟩)]),(25,.one (.v u1))]) (fun j q=>obx b6 q.1::arow 59 3 q.1 (q.2.map rowO)::(q.2.map atmO++((os.drop j).map atmO++[arow 59 3 u1 (os.map rowO)]))) (fun j q=>ClI first (q.2.map (·.2))∧(∀ g∈first.take j,g∈q.2.map (·.2))∧q.2.length≤j) (u0,[]) ⟨⟨.nil,by simp⟩,by simp,by simp⟩ ?_ ?_ ⟨leF_fl wL,_,List.Perm.cons _ (List.Perm.cons _ (List.Perm.cons _ (List.perm_append_singleton _ _))),List.Sublist.cons_cons _ (List.Sublist.cons_cons _ (List.Sublist.cons _ (.refl _)))⟩
  ·rintro j x ⟨u,l⟩ hj hdd hjl ⟨q1,q2,q3⟩
   simp only at q1 q2 q3
   dsimp only
   rw [hdd,List.map_cons]
   have hrow:(os.map rowO)[j]?=some (rowO x):=by simp [hj]
   have hfj:first[j]?=some x.2:=by rw [← hos,List.getElem?_map,hj];rfl
   have hx:=List.mem_of_getElem? hfj
   have hal:=addG_len (l:=l.map (·.2)) (x:=x.2)
   rw [← addO_map,List.length_map,List.length_map] at hal
   refine AW_rowU (e:=59) (sz:=3) (u:=u1) (rows:=os.map rowO) (List.Mem.tail _ (List.Mem.tail _ (List.mem_append_right (l.map atmO) (List.mem_append_right (atmO x::(os.drop (j+1)).map atmO) (List.Mem.head _))))) fun hu=>?_
   rw [List.length_map] at hu
   obtain ⟨bb,cc,hu⟩:=hu.resolve_left (fun h=>by have:=h.2;omega)
   subst hu
   (repeat' first|(refine kkS [] [30] ?_;intros)|fail)
   refine kr ?_ (h:=P_loadNR (j:=j) (o:=0) (sz:=3) _ rfl (List.Mem.tail _ (List.Mem.tail _ (List.mem_append_right (l.map atmO) (List.mem_append_right (atmO x::(os.drop (j+1)).map atmO) (List.Mem.head _))))) hrow rfl rfl)
   (repeat' first|(refine kk ?_;intros)|refine kfk ?_ ?_<;>intro hb|fail)
   refine kcl (A1:=_::((os.drop (j+1)).map atmO++[arow 59 3 (.slice (some ⟨bb,0,none⟩) os.length cc) (os.map rowO)])) (h:=add_o b6 u l x (by omega) (fun z hz=>by
    rcases List.mem_append.1 hz with hz|hz
    ·exact (q1.ok hf _ (List.mem_map_of_mem hz)).arcs.len
    ·obtain rfl:=List.mem_singleton.1 hz
     exact (hf _ hx).arcs.len)) ?_ (hA:=pm1) (h1:=rfl)
   rintro _ _ ⟨u9,rfl⟩
   (repeat' first|(refine kk ?_;intros)|refine kfk ?_ ?_<;>intro hb|fail)
   refine ⟨(u9,addO l x),⟨?_,?_,by simp only;omega⟩,⟨leF_fl wL,_,pm2,List.Sublist.cons _ (.refl _)⟩⟩
   ·simp only
    rw [addO_map]
    exact q1.add (.base hx)
   ·simp only
    rw [addO_map]
    exact take_succ_allP hfj (fun y hy=>mem_addG.2 (.inr (q2 y hy))) (mem_addG.2 (.inl rfl))
  rintro ⟨u,l⟩ ⟨q1,q2,q3⟩
  rw [hol,List.take_length] at q2
  simp only at q1 q2 q3
  (repeat' first|(refine kk ?_;intros)|refine kfk ?_ ?_<;>intro hb|fail)
  refine kloop (ι:=Nat × Value × List OG) (fun q=>1000000 - q.1) (fun q=>[(6,.one (.v (.pointer (some ⟨b6,0,none⟩)))),(7,fv 47 [.pointer (some ⟨b6,0,none⟩)]),(10,nv q.1)]) (fun q=>obx b6 q.2.1::AG q.2.1 q.2.2) (fun q=>ClI first (q.2.2.map (·.2))∧(∀ g∈first,g∈q.2.2.map (·.2))∧q.1≤q.2.2.length∧(∀ i' k',i' < q.1→k'≤i'→Dn (q.2.2.map (·.2)) i' k')∧(q.2.2.length≤200∨(q.1=0∧q.2.2.length≤600000))) (0,u,l) ⟨q1,q2,Nat.zero_le _,fun i' k' h=>by omega,.inr ⟨rfl,by simp only;omega⟩⟩ ?_ ⟨leF_fl wL,_,.refl _,List.Sublist.cons_cons _ (List.Sublist.cons_cons _ (List.sublist_append_left _ _))⟩
  clear q1 q2 q3 u l
  rintro ⟨i,u,L⟩ ⟨q1,q2,q3,q4,q5⟩
  simp only at q1 q2 q3 q4 q5
  dsimp only
  have hlL:(L.map rowO).length=L.length:=by simp
  by_cases hi:i < L.length
  ·(repeat' first|(refine kk ?_;intros)|refine kfk ?_ ?_<;>intro hb|fail)
   refine kloop (ι:=Nat × Value × List OG) (fun q=>i+1 - q.1) (fun q=>[(6,.one (.v (.pointer (some ⟨b6,0,none⟩)))),(7,fv 47 [.pointer (some ⟨b6,0,none⟩)]),(10,nv i),(11,nv q.1)]) (fun q=>obx b6 q.2.1::AG q.2.1 q.2.2) (fun q=>ClI first (q.2.2.map (·.2))∧(∀ g∈first,g∈q.2.2.map (·.2))∧(i < q.2.2.length∧q.1≤i+1)∧(∀ i' k',(i' < i∧k'≤i'∨i'=i∧k' < q.1)→Dn (q.2.2.map (·.2)) i' k')∧(q.2.2.length≤200∨(i=0∧q.1=0∧q.2.2.length≤600000))) (0,u,L) ⟨q1,q2,⟨hi,Nat.zero_le _⟩,fun i' k' h=>q4 i' k' (by omega) (by omega),q5.imp id fun h=>⟨h.1,rfl,h.2⟩⟩ ?_ kwk
   clear q1 q2 q3 q4 q5 hi hlL u L
   rintro ⟨k,u,L⟩ ⟨cl_l,q2,⟨hi,hk1⟩,q4,q5⟩
   simp only at cl_l q2 hi hk1 q4 q5
   dsimp only
   by_cases hk:k≤i
   case neg=>
    obtain rfl:k=i+1:=by omega
    (repeat' first|(refine kk ?_;intros)|refine kfk ?_ ?_<;>intro hb|fail)
    exact ⟨(i+1,u,L),by simp only;omega,⟨cl_l,q2,hi,fun i' k' h1 h2=>q4 i' k' (by omega),by simp only;omega⟩,kwk⟩
   have ok_l:=cl_l.ok hf
   obtain ⟨x,hx⟩:∃ y,L[i]?=some y:=⟨L[i],List.getElem?_eq_getElem hi⟩
   obtain ⟨y,hy⟩:∃ y,L[k]?=some y:=⟨L[k],List.getElem?_eq_getElem (by omega)⟩
   have hx_l:(L.map (·.2))[i]?=some x.2:=by simp [hx]
   have hy_l:(L.map (·.2))[k]?=some y.2:=by simp [hy]
   have hLl:(L.map (·.2)).length=L.length:=by simp
   have okx:=ok_l _ (List.mem_of_getElem? hx_l)
   have oky:=ok_l _ (List.mem_of_getElem? hy_l)
   -- the region 17
   (repeat' first|(refine kk ?_;intros)|refine kfk ?_ ?_<;>intro hb|fail)
   refine AD_rowU (e:=59) (sz:=3) (u:=u) (rows:=L.map rowO) (by repeat (first|exact List.Mem.head _|apply List.Mem.tail)) fun hu=>?_
   rw [List.length_map] at hu
   obtain ⟨bb,cc,hu⟩:=hu.resolve_left (fun h=>by have:=h.2;omega)
   subst hu
   have rx:(L.map rowO)[i]?=some (rowO x):=by simp [hx]
   have ry:(L.map rowO)[k]?=some (rowO y):=by simp [hy]
   have mx:atmO x∈L.map atmO:=List.mem_map_of_mem (List.mem_of_getElem? hx)
   have my:atmO y∈L.map atmO:=List.mem_map_of_mem (List.mem_of_getElem? hy)
   refine kjoin (ι:=Nat × Value) 14 (fun q=>[(6,.one (.v (.pointer (some ⟨b6,0,none⟩)))),(7,fv 47 [.pointer (some ⟨b6,0,none⟩)]),(10,nv i),(11,nv k),(12,.one (.v (.pointer (some ⟨q.1,0,none⟩)))),(56,.agg (rowC x.2 y.2 q.2)),(57,bp (meetsG x.2 y.2))]) (fun q=>abox q.1 (rowC x.2 y.2 q.2) 59::obx b6 (.slice (some ⟨bb,0,none⟩) L.length cc)::(AG (.slice (some ⟨bb,0,none⟩) L.length cc) L++memC x.2 y.2 q.2)) (fun join=>?_) ?_
   ·refine kmix2 14 [0,1,2,3,4,5,6,7] [8,9,10,11,12,13] [obx b6 (.slice (some ⟨bb,0,none⟩) L.length cc),arow 59 3 (.slice (some ⟨bb,0,none⟩) L.length cc) (L.map rowO)] ?_ (hB:=has_two0)
    iterate 3 refine kal1 ?_
    refine kal1 ?_ (h:=P_loadNR (j:=i) (o:=0) (sz:=3) _ rfl (by repeat (first|exact List.Mem.head _|apply List.Mem.tail)) rx rfl rfl)
    iterate 3 refine kal1 ?_
    refine kal1 ?_ (h:=P_loadNR (j:=k) (o:=0) (sz:=3) _ rfl (by repeat (first|exact List.Mem.head _|apply List.Mem.tail)) ry rfl rfl)
    refine kal0 ?_
    (repeat' first
      | exact join (b12,ua) _ _ kwk
      | refine ktA 9 ?_
      | refine ktA 10 ?_
      | refine ktA 11 ?_
      | refine ktA 12 ?_
      | refine ktA 13 ?_
      | refine ktB 11 13 ?_ ?_
      | refine ktB 8 12 ?_ ?_
      | refine ktB 9 12 ?_ ?_
      | refine ktB 10 11 ?_ ?_
      | refine ktB 10 12 ?_ ?_
      | refine ktB 11 12 ?_ ?_
      | refine ktA 8 ?_
      | refine ktC 10 11 12 ?_ ?_ ?_
      | refine And.intro has_two0 ?_
      | refine And.intro has_two1 ?_
      | (refine ks2 rfl rfl (O_alloc rfl) ?_;rintro _ _ ⟨b12,rfl,rfl⟩)
      | (refine ks2 rfl rfl (O_call rfl (composeB_c (ok_l _ (List.mem_map_of_mem (List.mem_of_getElem? hx))) (ok_l _ (List.mem_map_of_mem (List.mem_of_getElem? hy))) (by repeat (first|exact mx|apply List.Mem.tail)) (by repeat (first|exact my|apply List.Mem.tail)))) ?_;rintro _ _ ⟨ua,rfl,rfl⟩)
      | refine ks2w 0 ?_ (hl:=rowC_len)
      | refine ks2q ?_
      | fail)
   rintro ⟨b12,ua⟩
   (repeat' first|(refine kk ?_;intros)|fail)
   refine kcut (ι:=Value × List OG) (fun q=>[(6,.one (.v (.pointer (some ⟨b6,0,none⟩)))),(7,fv 47 [.pointer (some ⟨b6,0,none⟩)]),(10,nv i),(11,nv k)]) (fun q=>obx b6 q.1::AG q.1 q.2) (fun q=>q.2.map (·.2)=addM (L.map (·.2)) x.2 y.2) ?_ ?_
   ·by_cases hm:meetsG x.2 y.2
    ·rw [show rowC x.2 y.2 ua=rowO (ua,compG x.2 y.2) from if_pos hm,show memC x.2 y.2 ua=[atmO (ua,compG x.2 y.2)] from if_pos hm,show @decide (meetsG x.2 y.2) (Classical.propDecidable _)=true from decide_eq_true hm]
     (repeat' first|(refine kk ?_;intros)|refine kfk ?_ ?_<;>intro hb|fail)
     refine kcl (A1:=[_]) (h:=add_o b6 _ L (ua,compG x.2 y.2) (by omega) (fun z hz=>by
      rcases List.mem_append.1 hz with hz|hz
      ·exact (ok_l _ (List.mem_map_of_mem hz)).arcs.len
      ·obtain rfl:=List.mem_singleton.1 hz
       exact (compA_ok _ _).len)) ?_ (h1:=rfl)
     rintro _ _ ⟨u9,rfl⟩
     (repeat' first|(refine kk ?_;intros)|refine kfk ?_ ?_<;>intro hb|fail)
     exact ⟨(u9,addO L (ua,compG x.2 y.2)),by rw [addO_map,show addM (L.map (·.2)) x.2 y.2=addG (L.map (·.2)) (compG x.2 y.2) from if_pos hm],kwk⟩
    ·rw [show rowC x.2 y.2 ua=zGr from if_neg hm,show memC x.2 y.2 ua=[] from if_neg hm,show @decide (meetsG x.2 y.2) (Classical.propDecidable _)=false from decide_eq_false hm,List.append_nil]
     (repeat' first|(refine kk ?_;intros)|refine kfk ?_ ?_<;>intro hb|fail)
     exact ⟨(_,L),by rw [show addM (L.map (·.2)) x.2 y.2=L.map (·.2) from if_neg hm],kwk⟩
   rintro ⟨u1',L1⟩ hL1
   simp only at hL1
   dsimp only
   clear mx my rx ry
   have hc_l:ClI first (addM (L.map (·.2)) x.2 y.2):=by
    unfold addM
    split
    ·rename_i hm
     exact cl_l.add (.step (cl_l.clo _ (List.mem_of_getElem? hx_l)) (cl_l.clo _ (List.mem_of_getElem? hy_l)) hm)
    ·exact cl_l
   have hs_l:=addM_sub (l:=L.map (·.2)) (x:=x.2) (y:=y.2)
   have hn_l:=addM_len (l:=L.map (·.2)) (x:=x.2) (y:=y.2)
   have hg_l:=fun {z:Gr} {p:Nat}=>addM_get (l:=L.map (·.2)) (x:=x.2) (y:=y.2) (i:=p) (z:=z)
   have hm_l:=addM_mem (l:=L.map (·.2)) (x:=x.2) (y:=y.2)
   rw [← hL1] at hc_l hs_l hn_l hg_l hm_l
   rw [List.length_map,List.length_map] at hn_l
   have cl_l1:=hc_l
   have ok_l0:=ok_l
   have ok_l:=cl_l1.ok hf
   obtain ⟨x1,hx1,ex1⟩:=get_snd (hg_l hx_l)
   obtain ⟨y1,hy1,ey1⟩:=get_snd (hg_l hy_l)
   have hx_l1:(L1.map (·.2))[i]?=some x1.2:=by simp [hx1]
   have hy_l1:(L1.map (·.2))[k]?=some y1.2:=by simp [hy1]
   -- the region 20
   (repeat' first|(refine kk ?_;intros)|refine kfk ?_ ?_<;>intro hb|fail)
   refine AD_rowU (e:=59) (sz:=3) (u:=u1') (rows:=L1.map rowO) (by repeat (first|exact List.Mem.head _|apply List.Mem.tail)) fun hu=>?_
   rw [List.length_map] at hu
   obtain ⟨bb,cc,hu⟩:=hu.resolve_left (fun h=>by have:=h.2;omega)
   subst hu
   have rx:(L1.map rowO)[k]?=some (rowO y1):=by simp [hy1]
   have ry:(L1.map rowO)[i]?=some (rowO x1):=by simp [hx1]
   have mx:atmO y1∈L1.map atmO:=List.mem_map_of_mem (List.mem_of_getElem? hy1)
   have my:atmO x1∈L1.map atmO:=List.mem_map_of_mem (List.mem_of_getElem? hx1)
   refine kjoin (ι:=Nat × Value) 14 (fun q=>[(6,.one (.v (.pointer (some ⟨b6,0,none⟩)))),(7,fv 47 [.pointer (some ⟨b6,0,none⟩)]),(10,nv i),(11,nv k),(14,.one (.v (.pointer (some ⟨q.1,0,none⟩)))),(72,.agg (rowC y1.2 x1.2 q.2)),(73,bp (meetsG y1.2 x1.2))]) (fun q=>abox q.1 (rowC y1.2 x1.2 q.2) 59::obx b6 (.slice (some ⟨bb,0,none⟩) L1.length cc)::(AG (.slice (some ⟨bb,0,none⟩) L1.length cc) L1++memC y1.2 x1.2 q.2)) (fun join=>?_) ?_
   ·refine kmix2 14 [0,1,2,3,4,5,6,7] [8,9,10,11,12,13] [obx b6 (.slice (some ⟨bb,0,none⟩) L1.length cc),arow 59 3 (.slice (some ⟨bb,0,none⟩) L1.length cc) (L1.map rowO)] ?_ (hB:=has_two0)
    iterate 3 refine kal1 ?_
    refine kal1 ?_ (h:=P_loadNR (j:=k) (o:=0) (sz:=3) _ rfl (by repeat (first|exact List.Mem.head _|apply List.Mem.tail)) rx rfl rfl)
    iterate 3 refine kal1 ?_
    refine kal1 ?_ (h:=P_loadNR (j:=i) (o:=0) (sz:=3) _ rfl (by repeat (first|exact List.Mem.head _|apply List.Mem.tail)) ry rfl rfl)
    refine kal0 ?_
    (repeat' first
      | exact join (b12,ua) _ _ kwk
      | refine ktA 9 ?_
      | refine ktA 10 ?_
      | refine ktA 11 ?_
      | refine ktA 12 ?_
      | refine ktA 13 ?_
      | refine ktB 11 13 ?_ ?_
      | refine ktB 8 12 ?_ ?_
      | refine ktB 9 12 ?_ ?_
      | refine ktB 10 11 ?_ ?_
      | refine ktB 10 12 ?_ ?_
      | refine ktB 11 12 ?_ ?_
      | refine ktA 8 ?_
      | refine ktC 10 11 12 ?_ ?_ ?_
      | refine And.intro has_two0 ?_
      | refine And.intro has_two1 ?_
      | (refine ks2 rfl rfl (O_alloc rfl) ?_;rintro _ _ ⟨b12,rfl,rfl⟩)
      | (refine ks2 rfl rfl (O_call rfl (composeB_c (ok_l _ (List.mem_map_of_mem (List.mem_of_getElem? hy1))) (ok_l _ (List.mem_map_of_mem (List.mem_of_getElem? hx1))) (by repeat (first|exact mx|apply List.Mem.tail)) (by repeat (first|exact my|apply List.Mem.tail)))) ?_;rintro _ _ ⟨ua,rfl,rfl⟩)
      | refine ks2w 0 ?_ (hl:=rowC_len)
      | refine ks2q ?_
      | fail)
   rintro ⟨b12,ua⟩
   (repeat' first|(refine kk ?_;intros)|fail)
   refine kcut (ι:=Value × List OG) (fun q=>[(6,.one (.v (.pointer (some ⟨b6,0,none⟩)))),(7,fv 47 [.pointer (some ⟨b6,0,none⟩)]),(10,nv i),(11,nv k)]) (fun q=>obx b6 q.1::AG q.1 q.2) (fun q=>q.2.map (·.2)=addM (L1.map (·.2)) y1.2 x1.2) ?_ ?_
   ·by_cases hm:meetsG y1.2 x1.2
    ·rw [show rowC y1.2 x1.2 ua=rowO (ua,compG y1.2 x1.2) from if_pos hm,show memC y1.2 x1.2 ua=[atmO (ua,compG y1.2 x1.2)] from if_pos hm,show @decide (meetsG y1.2 x1.2) (Classical.propDecidable _)=true from decide_eq_true hm]
     (repeat' first|(refine kk ?_;intros)|refine kfk ?_ ?_<;>intro hb|fail)
     refine kcl (A1:=[_]) (h:=add_o b6 _ L1 (ua,compG y1.2 x1.2) (by omega) (fun z hz=>by
      rcases List.mem_append.1 hz with hz|hz
      ·exact (ok_l _ (List.mem_map_of_mem hz)).arcs.len
      ·obtain rfl:=List.mem_singleton.1 hz
       exact (compA_ok _ _).len)) ?_ (h1:=rfl)
     rintro _ _ ⟨u9,rfl⟩
     (repeat' first|(refine kk ?_;intros)|refine kfk ?_ ?_<;>intro hb|fail)
     exact ⟨(u9,addO L1 (ua,compG y1.2 x1.2)),by rw [addO_map,show addM (L1.map (·.2)) y1.2 x1.2=addG (L1.map (·.2)) (compG y1.2 x1.2) from if_pos hm],kwk⟩
    ·rw [show rowC y1.2 x1.2 ua=zGr from if_neg hm,show memC y1.2 x1.2 ua=[] from if_neg hm,show @decide (meetsG y1.2 x1.2) (Classical.propDecidable _)=false from decide_eq_false hm,List.append_nil]
     (repeat' first|(refine kk ?_;intros)|refine kfk ?_ ?_<;>intro hb|fail)
     exact ⟨(_,L1),by rw [show addM (L1.map (·.2)) y1.2 x1.2=L1.map (·.2) from if_neg hm],kwk⟩
   rintro ⟨u2,L2⟩ hL2
   simp only at hL2
   dsimp only
   rw [ex1,ey1] at hL2
   have hc_l1:ClI first (addM (L1.map (·.2)) y.2 x.2):=by
    unfold addM
    split
    ·rename_i hm
     exact cl_l1.add (.step (cl_l1.clo _ (ey1▸List.mem_of_getElem? hy_l1)) (cl_l1.clo _ (ex1▸List.mem_of_getElem? hx_l1)) hm)
    ·exact cl_l1
   have hs_l1:=addM_sub (l:=L1.map (·.2)) (x:=y.2) (y:=x.2)
   have hn_l1:=addM_len (l:=L1.map (·.2)) (x:=y.2) (y:=x.2)
   have hg_l1:=fun {z:Gr} {p:Nat}=>addM_get (l:=L1.map (·.2)) (x:=y.2) (y:=x.2) (i:=p) (z:=z)
   have hm_l1:=addM_mem (l:=L1.map (·.2)) (x:=y.2) (y:=x.2)
   rw [← hL2] at hc_l1 hs_l1 hn_l1 hg_l1 hm_l1
   rw [List.length_map,List.length_map] at hn_l1
   have cl_l2:=hc_l1
   have hll2:(L2.map rowO).length=L2.length:=by simp
   have hml2:(L2.map (·.2)).length=L2.length:=by simp
   by_cases h200:200 < L2.length
   ·rw [closeF_none cl_l2.nd (by omega) cl_l2.clo]
    (repeat' first|(refine kk ?_;intros)|refine kfk ?_ ?_<;>intro hb|fail)
    all_goals first
     | exact ker2 (v1:=.one (.s 3 [])) (v2:=bv false) ⟨rfl,rfl⟩ (AV.le_one D.le_nil) (.refl _)
     | (exfalso;omega)
   ·(repeat' first|(refine kk ?_;intros)|refine kfk ?_ ?_<;>intro hb|fail)
    all_goals first
     | (exfalso;omega)
     | skip
    refine ⟨(k+1,u2,L2),by simp only;omega,⟨cl_l2,fun g hg=>hs_l1 g (hs_l g (q2 g hg)),⟨by simp only;omega,by simp only;omega⟩,fun i' k' h=>?_,.inl (by simp only;omega)⟩,kwk⟩
    simp only at h
    by_cases hnew:i'=i∧k'=k
    ·obtain ⟨rfl,rfl⟩:=hnew
     intro x' y' hx' hy'
     rw [hg_l1 (hg_l hx_l)] at hx'
     rw [hg_l1 (hg_l hy_l)] at hy'
     cases hx';cases hy'
     exact ⟨fun hm=>hs_l1 _ (hm_l hm),fun hm=>hm_l1 hm⟩
    ·exact (q4 i' k' (by omega)).more (by omega) (by omega) (fun h=>hg_l1 (hg_l h)) fun z hz=>hs_l1 z (hs_l z hz)
  ·obtain rfl:i=L.length:=by omega
   have hl200:L.length≤200:=by omega
   have hml:(L.map (·.2)).length=L.length:=by simp
   have hok:=q1.ok hf
   have h16:∀ x∈L,x.2.arcs.length≤16:=fun x hx=>(hok _ (List.mem_map_of_mem hx)).arcs.len
   have hmem:=all_done q2 q1 (by rw [hml];exact q4)
   (repeat' first|(refine kk ?_;intros)|refine kfk ?_ ?_<;>intro hb|fail)
   refine kr ?_ (h:=P_iface _ rfl)
   (repeat' first|(refine kkS [48] [] ?_;intros)|refine kfS [48] [] ?_ ?_<;>intro hb|fail)
   have hro:((List.range L.length).toArray.toList.map fun i=>rowO (gi L i))=L.map rowO:=by
    conv=>rhs;rw [← gi_range L]
    rw [List.map_map];rfl
   refine kcs (A1:=[]) (h:=sortS_c (t:=26) (e:=59) (swo_gi L) (fun h=>by cases h) (fun i=>rowO (gi L i)) (obx b6 u::L.map atmO) (g:=49) (capL:=[.pointer (some ⟨b6,0,none⟩)]) u (List.range L.length).toArray (by simp;omega) ?_) ?_ (hA:=by rw [hro];exact .cons _ (List.perm_append_singleton _ _).symm)
   ·intro bb c hu d' i j h1 h2 h3
    exact CallV.of_spec (by rfl) (lessO_c b6 L h16 hu d' h1 (by simp;omega) i j h2 h3)
   ·rintro _ _ ⟨d',rfl,h1,h2⟩
    have pm:(d'.toList.map (gi L)).Perm L:=by
     have:=(permIn_list h1).map (gi L)
     rwa [show (List.range L.length).toArray.toList=List.range L.length from rfl,gi_range] at this
    have pms:=pm.map (·.2)
    have pw:((d'.toList.map (gi L)).map (·.2)).Pairwise fun a b=>cG b a≠-1:=by
     rw [List.pairwise_map,List.pairwise_map]
     refine (sorted_pw (d:=d') (by rw [h1.1];exact h2)).imp fun {a b} h=>by simpa [ltC] using h
    have hst:Strict cG ((d'.toList.map (gi L)).map (·.2)):=strict_of_sorted (pms.nodup_iff.2 q1.nd) pw
    rw [closeF_some cG_tot hst (by rw [pms.length_eq];omega) fun g=>(pms.mem_iff).trans (hmem g)]
    (repeat' first|(refine kk ?_;intros)|refine kfk ?_ ?_<;>intro hb|fail)
    refine ker2P (A0:=obx b6 u::AG u (d'.toList.map (gi L))) (A'':=AG u (d'.toList.map (gi L))) ⟨u,d'.toList.map (gi L),rfl,rfl,rfl⟩ (.refl _) (.refl _) ?_ (List.Sublist.cons _ (.refl _))
    show (obx b6 u::arow 59 3 u ((d'.toList.map (gi L)).map rowO)::(d'.toList.map (gi L)).map atmO).Perm (obx b6 u::(L.map atmO++[arow 59 3 u (d'.toList.map fun i=>rowO (gi L i))]))
    rw [List.map_map]
    exact .cons _ ((List.Perm.cons _ (pm.map atmO)).trans (List.perm_append_singleton _ _).symm)
end
end Go.Proofs.YtbabchapkhlenaaGreat
