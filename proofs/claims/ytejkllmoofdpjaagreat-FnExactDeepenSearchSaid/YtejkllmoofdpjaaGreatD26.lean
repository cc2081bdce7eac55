/- Parts of the proof: V44 V49 V51 VKq. -/
import Derived.Test.YtejkllmoofdpjaaGreatD24
import Derived.Test.YtejkllmoofdpjaaGreatD25
namespace Go.Proofs.YtejkllmoofdpjaaGreat
open Go
set_option linter.all false
set_option maxRecDepth 100000
set_option maxHeartbeats 4000000
noncomputable section
instance refreshK_i:Con2 Tryz.prog 232 Sb Ks vS vK (fun s l=>optK (kindsG s l [])) (fun s l=>Sub s∧KOk l):=⟨fun s l ⟨hs,hl⟩=>by
 haveI:=substYes_i
 haveI:=kindsYes_i
 have hlen:((l.map toK).map encK).length=l.length:=by simp
 have hl1:=hl.lng
 have hl2:=hl.len
 refine pu Tryz.func232 rfl Tryz.ntmps232 rfl rfl fun C=>?_
 (repeat' first|(refine kk ?_;intros)|refine kfk ?_ ?_<;>intro hb|fail)
 refine kfor (ι:=Ks) l (fun j o=>[(0,vS s),(6,vK o),(20,vK l)]) (fun j o=>[]) (fun j o=>KOk o∧kindsG s l []=kindsG s (l.drop j) o) [] ⟨.nil,rfl⟩ ?_ ?_
 ·rintro j ⟨v,k⟩ o hj hdd hjl ⟨ho,hp⟩
  have hrow:((l.map toK).map encK)[j]?=some [.v (.int .i64 (v:Int)),.v (.int .i64 k)]:=by simp [hj,encK]
  have hm:=hl.ok _ (List.mem_of_getElem? hj)
  simp only at hm
  have ht:(T.var v).okT:=⟨fit_var.2 hm.1,by simp [T.nodes]⟩
  have p1:Sub s∧KOk o∧(T.var v).okT∧(k=2∨k=3):=⟨hs,ho,ht,hm.2⟩
  have hpv:=putO_var hs hm.1
  have hstep:kindsG s l []=match kindAdd o (suOf s v) k with|none=>none|some out=>kindsG s (l.drop (j+1)) out:=by rw [hp,hdd];rfl
  (repeat' first|(refine kk ?_;intros)|refine kfk ?_ ?_<;>intro hb|fail)
  rw [hpv,Option.bind_some,hstep]
  cases he:kindAdd o (suOf s v) k with
  | none=>
   (repeat' first|(refine kk ?_;intros)|refine kfk ?_ ?_<;>intro hb|fail)
   exact kr2 rvN (rvT rfl)
  | some out=>
   have hok:=kindAdd_ok ho hm.2 (fun w e=>by have:=fit_suOf hs.fit hm.1;rw [e] at this;exact fit_var.1 this) he
   rw [he] at hstep
   (repeat' first|(refine kk ?_;intros)|refine kfk ?_ ?_<;>intro hb|fail)
   exact ⟨out,⟨hok,rfl⟩,kwk⟩
 ·rintro o ⟨ho,hp⟩
  rw [List.drop_length] at hp
  rw [hp]
  (repeat' first|(refine kk ?_;intros)|refine kfk ?_ ?_<;>intro hb|fail)
  exact kr2 (rvT rfl) (rvT rfl)⟩
instance refreshM_i:Con2 Tryz.prog 233 Sb Ms vS vM (fun s l=>optM (marksG s l [])) (fun s l=>Sub s∧∃ tags:List ByteArray,tags.length≤10000000∧MB tags l):=⟨fun s l ⟨hs,tags,htl,hl⟩=>by
 haveI:=substYes_i
 haveI:=marksYes_i
 have hlen:((l.map toM).map encM).length=l.length:=by simp
 have hl2:=hl.len htl
 have hl1:Lng l.length:=by unfold Lng;omega
 have q1:MOk l∧Lng l.length:=⟨hl.ok,hl1⟩
 refine pu Tryz.func233 rfl Tryz.ntmps233 rfl rfl fun C=>?_
 (repeat' first|(refine kk ?_;intros)|refine kfk ?_ ?_<;>intro hb|fail)
 refine kfor (ι:=Ms) l (fun j o=>[(0,vS s),(6,vM o),(20,vM l)]) (fun j o=>[]) (fun j o=>MB tags o∧marksG s l []=marksG s (l.drop j) o) [] ⟨.nil,rfl⟩ ?_ ?_
 ·rintro j ⟨v,g⟩ o hj hdd hjl ⟨ho,hp⟩
  have hrow:((l.map toM).map encM)[j]?=some [.v (.int .i64 (v:Int)),.v (.string g)]:=by simp [hj,encM]
  have hmem:=List.mem_of_getElem? hj
  have hm:=hl.ok.ok _ hmem
  simp only at hm
  have ht:(T.var v).okT:=⟨fit_var.2 hm.1,by simp [T.nodes]⟩
  have p1:Sub s∧MOk o∧o.length≤1099511627776∧(T.var v).okT∧NameP g:=⟨hs,ho.ok,ho.len htl,ht,hm.2⟩
  have hpv:=putO_var hs hm.1
  have hstep:marksG s l []=match markAdd o (suOf s v) g with|none=>none|some out=>marksG s (l.drop (j+1)) out:=by rw [hp,hdd];rfl
  (repeat' first|(refine kk ?_;intros)|refine kfk ?_ ?_<;>intro hb|fail)
  rw [hpv,Option.bind_some,hstep]
  cases he:markAdd o (suOf s v) g with
  | none=>
   (repeat' first|(refine kk ?_;intros)|refine kfk ?_ ?_<;>intro hb|fail)
   exact kr2 rvN (rvT rfl)
  | some out=>
   have hok:=ho.add hm.2 (hl.tg _ hmem) (fun w e=>(fit_suOf hs.fit hm.1).1 w e) he
   rw [he] at hstep
   (repeat' first|(refine kk ?_;intros)|refine kfk ?_ ?_<;>intro hb|fail)
   exact ⟨out,⟨hok,rfl⟩,kwk⟩
 ·rintro o ⟨ho,hp⟩
  rw [List.drop_length] at hp
  rw [hp]
  (repeat' first|(refine kk ?_;intros)|refine kfk ?_ ?_<;>intro hb|fail)
  exact kr2 (rvT rfl) (rvT rfl)⟩
end
noncomputable section
theorem cBd_0 {f f':Nat} {t t':T} {z:Int} (h:¬ cI (f:Int) f'=0):(if cBd (f,t) (f',t')≠0 then cBd (f,t) (f',t') else z)=cI (f:Int) f':=by
 have e:cBd (f,t) (f',t')=cI (f:Int) f':=by
  show (if cI (f:Int) f'≠0 then cI (f:Int) f' else _)=_
  rw [if_pos h]
 rw [e,if_pos h]
theorem cBd_1 {f:Nat} {t t':T} {z:Int}:(if cBd (f,t) (f,t')≠0 then cBd (f,t) (f,t') else z)=if cT t t'≠0 then cT t t' else z:=by
 have e:cBd (f,t) (f,t')=cT t t':=by
  show (if cI (f:Int) f≠0 then cI (f:Int) f else cT t t')=_
  rw [if_neg (by rw [cI_tot.self];simp)]
 rw [e]
instance orderB_i:Con2 Tryz.prog 278 Sb Sb vS vS (fun a b=>iv (cSb a b)) (fun a b=>a.length≤1000000∧b.length≤1000000):=⟨fun l m ⟨hla,hlb⟩=>by
 have hlen1:((l.map toB).map encB).length=l.length:=by simp
 have hlen2:((m.map toB).map encB).length=m.length:=by simp
 refine pu Tryz.func278 rfl Tryz.ntmps278 rfl rfl fun C=>?_
 (repeat' first|(refine kk ?_;intros)|refine kfk ?_ ?_<;>intro hb|fail)
 refine kloop (ι:=Nat) (fun i=>l.length - i) (fun i=>[(0,vS l),(1,vS m),(5,nv i)]) (fun _=>[]) (fun i=>(i≤l.length∧i≤m.length)∧lexC cBd l m=lexC cBd (l.drop i) (m.drop i)) 0 ⟨⟨Nat.zero_le _,Nat.zero_le _⟩,rfl⟩ ?_
 rintro i ⟨⟨h1,h2⟩,h3⟩
 by_cases hi:i < l.length
 ·by_cases hj:i < m.length
  ·obtain ⟨⟨f,t⟩,hx⟩:∃ y,l[i]?=some y:=⟨l[i],List.getElem?_eq_getElem hi⟩
   obtain ⟨⟨f',t'⟩,hy⟩:∃ y,m[i]?=some y:=⟨m[i],List.getElem?_eq_getElem hj⟩
   have hr1:((l.map toB).map encB)[i]?=some (.v (.int .i64 (f:Int))::encT t.tm):=by simp [hx,encB]
   have hr2:((m.map toB).map encB)[i]?=some (.v (.int .i64 (f':Int))::encT t'.tm):=by simp [hy,encB]
   have hs:=lexC_drop (c:=cBd) hx hy
   rw [← h3] at hs
   by_cases e1:f=f'
   ·subst e1
    have z1:cI (f:Int) f=0:=cI_tot.self _
    rw [cBd_1] at hs
    by_cases e2:cT t t'=0
    ·rw [if_neg (by simpa using e2)] at hs
     (repeat' first|(refine kk ?_;intros)|refine kfk ?_ ?_<;>intro hb|fail)
     exact ⟨i+1,by omega,⟨⟨by omega,by omega⟩,hs⟩,kwk⟩
    ·rw [if_pos e2] at hs
     (repeat' first|(refine kk ?_;intros)|refine kfk ?_ ?_<;>intro hb|fail)
     rw [show cSb l m=cT t t' from hs]
     exact kret rfl
   ·have n1:¬ cI (f:Int) f'=0:=fun e=>e1 (by have:=(cI_tot.eq _ _).1 e;omega)
    have n1':¬ (f:Int)=f':=by omega
    rw [cBd_0 n1] at hs
    (repeat' first|(refine kk ?_;intros)|refine kfk ?_ ?_<;>intro hb|fail)
    all_goals
     rw [show cSb l m=cI (f:Int) f' from hs]
     exact kret rfl
  ·have hz:=lexC_end (c:=cBd) h1 h2 (.inr (by omega))
   rw [← h3] at hz
   have hjm:i=m.length:=by omega
   (repeat' first|(refine kk ?_;intros)|refine kfk ?_ ?_<;>intro hb|fail)
   all_goals
    rw [show cSb l m=cI (l.length:Int) m.length from hz]
    exact kret rfl
 ·have hz:=lexC_end (c:=cBd) h1 h2 (.inl (by omega))
  rw [← h3] at hz
  have hjl:i=l.length:=by omega
  (repeat' first|(refine kk ?_;intros)|refine kfk ?_ ?_<;>intro hb|fail)
  all_goals
   rw [show cSb l m=cI (l.length:Int) m.length from hz]
   exact kret rfl⟩
instance cmpB_s:Con2 Tryz.prog 165 Sb Sb vS vS (fun a b=>iv (cSb a b)) (fun a b=>a.length≤1000000∧b.length≤1000000):=⟨fun l m ⟨hla,hlb⟩=>by
 have hlen1:((l.map toB).map encB).length=l.length:=by simp
 have hlen2:((m.map toB).map encB).length=m.length:=by simp
 refine pu Tryz.func165 rfl Tryz.ntmps165 rfl rfl fun C=>?_
 (repeat' first|(refine kk ?_;intros)|refine kfk ?_ ?_<;>intro hb|fail)
 refine kloop (ι:=Nat) (fun i=>l.length - i) (fun i=>[(0,vS l),(1,vS m),(5,nv i)]) (fun _=>[]) (fun i=>(i≤l.length∧i≤m.length)∧lexC cBd l m=lexC cBd (l.drop i) (m.drop i)) 0 ⟨⟨Nat.zero_le _,Nat.zero_le _⟩,rfl⟩ ?_
 rintro i ⟨⟨h1,h2⟩,h3⟩
 by_cases hi:i < l.length
 ·by_cases hj:i < m.length
  ·obtain ⟨⟨f,t⟩,hx⟩:∃ y,l[i]?=some y:=⟨l[i],List.getElem?_eq_getElem hi⟩
   obtain ⟨⟨f',t'⟩,hy⟩:∃ y,m[i]?=some y:=⟨m[i],List.getElem?_eq_getElem hj⟩
   have hr1:((l.map toB).map encB)[i]?=some (.v (.int .i64 (f:Int))::encT t.tm):=by simp [hx,encB]
   have hr2:((m.map toB).map encB)[i]?=some (.v (.int .i64 (f':Int))::encT t'.tm):=by simp [hy,encB]
   have hs:=lexC_drop (c:=cBd) hx hy
   rw [← h3] at hs
   by_cases e1:f=f'
   ·subst e1
    have z1:cI (f:Int) f=0:=cI_tot.self _
    rw [cBd_1] at hs
    by_cases e2:cT t t'=0
    ·rw [if_neg (by simpa using e2)] at hs
     (repeat' first|(refine kk ?_;intros)|refine kfk ?_ ?_<;>intro hb|fail)
     exact ⟨i+1,by omega,⟨⟨by omega,by omega⟩,hs⟩,kwk⟩
    ·rw [if_pos e2] at hs
     (repeat' first|(refine kk ?_;intros)|refine kfk ?_ ?_<;>intro hb|fail)
     rw [show cSb l m=cT t t' from hs]
     exact kret rfl
   ·have n1:¬ cI (f:Int) f'=0:=fun e=>e1 (by have:=(cI_tot.eq _ _).1 e;omega)
    have n1':¬ (f:Int)=f':=by omega
    rw [cBd_0 n1] at hs
    (repeat' first|(refine kk ?_;intros)|refine kfk ?_ ?_<;>intro hb|fail)
    all_goals
     rw [show cSb l m=cI (f:Int) f' from hs]
     exact kret (congrArg iv (sign_cI n1'))
  ·have hz:=lexC_end (c:=cBd) h1 h2 (.inr (by omega))
   rw [← h3] at hz
   have hjm:i=m.length:=by omega
   have hne:¬ (l.length:Int)=m.length:=by omega
   rw [show cSb l m=1 from hz.trans (by unfold cI;rw [if_neg (by omega),if_pos (by omega)])]
   (repeat' first|(refine kk ?_;intros)|refine kfk ?_ ?_<;>intro hb|fail)
   exact kret rfl
 ·have hz:=lexC_end (c:=cBd) h1 h2 (.inl (by omega))
  rw [← h3] at hz
  have hjl:i=l.length:=by omega
  by_cases hne:l.length=m.length
  ·have hne':(l.length:Int)=m.length:=by omega
   rw [show cSb l m=0 from hz.trans ((cI_tot.eq _ _).2 hne')]
   (repeat' first|(refine kk ?_;intros)|refine kfk ?_ ?_<;>intro hb|fail)
   exact kret rfl
  ·have hne':¬ (l.length:Int)=m.length:=by omega
   have hlt:(l.length:Int) < m.length:=by omega
   rw [show cSb l m=-1 from hz.trans (by unfold cI;rw [if_pos hlt])]
   (repeat' first|(refine kk ?_;intros)|refine kfk ?_ ?_<;>intro hb|fail)
   exact kret rfl⟩
end
section
open Go Go.Sort
noncomputable section
open Classical
section
variable {P:Program} {C:Cx} {f:AF} {A B:List Atm} {w:World} {b sz:Nat} {ds ds':List D} {T e:TypeId} {u:Value} {rows:List (List D)}
theorem Inv.fbox {gf:FF} (hi:Inv C f A gf w) (hA:A.Perm (abox b ds T::(B++[arow e sz u rows]))) (hv:VwC [arow e sz u rows] ds ds'):Inv C f (abox b ds' T::B) gf w:=by
 have hp:Pre ((abox b ds T::B)++[arow e sz u rows]) C.M w:=hi.st.pre.perm hA.symm
 have hr:=hp.front
 obtain ⟨vs,hb,h2⟩:=hp.ats (abox b ds T) (by simp)
 have h3:rdC (MO C.M (abox b ds T::B)) w ds' vs:=hv _ w vs hr (rdC_grow (fun c _ h=>by
  rcases h with (h|h)|h
  ·exact .inl h
  ·exact .inr (by rw [oA_app];exact List.mem_append.2 (.inl h))
  ·exact .inr (by rw [oA_app];exact List.mem_append.2 (.inr h))) h2)
 have p1:Pre (abox b ds T::B) C.M w:=hp.sub (List.sublist_append_left _ _)
 have sub:∀ c,c∈oA (abox b ds' T::B)→c∈oA A:=fun c hc=>(oA_perm hA).symm.subset (by
  have hc:c∈oA (abox b ds T::B):=hc
  have:c∈oA ((abox b ds T::B)++[arow e sz u rows]):=by rw [oA_app];exact List.mem_append.2 (.inl hc)
  exact this)
 refine ⟨⟨hi.st.mod,⟨p1.hM,p1.nd,p1.lt,p1.dis,fun a ha=>?_⟩,fun c hc=>hi.st.new c (sub c hc)⟩,fun j=>AV.grow (fun c _ h=>h.imp id (sub c)) (hi.fr j)⟩
 rcases List.mem_cons.1 ha with rfl|ha
 ·exact ⟨vs,hb,h3⟩
 ·exact p1.ats a (List.mem_cons_of_mem _ ha)
theorem kfbO {n:Nat} {ops:Array Oper} {K:AF→List Atm→Prop} {rest:List Oper} (hA:A.Perm (abox b [.v u] T::(B++[arow e sz u rows]))) (k:AO P n C ops K rest f (abox b [.s sz rows] T::B)):AO P n C ops K rest f A:=
 fun gf w hi=>k gf w (hi.fbox (e:=e) (rows:=rows) hA (VwC.cons (VwD.row (e:=e) (List.mem_singleton.2 rfl) rfl) VwC.nil))
end
abbrev eS (s:Sb):List D:=[.s 5 ((s.map toB).map encB)]
abbrev vSs (l:List Sb):AV:=.one (.s 1 (l.map eS))
abbrev SbL:={s:Sb // s.length≤1000000}
instance:Inhabited SbL:=⟨⟨[],by simp⟩⟩
abbrev eSL (s:SbL):List D:=eS s.1
theorem cSbL_tot:TotC fun a b:SbL=>cSb a.1 b.1:=cSb_tot.by (f:=Subtype.val) fun _ _ h=>Subtype.ext h
theorem outF_list {α:Type} {c:α→α→Int} (h:TotC c) {p:α→Bool} {l s:List α} (pm:s.Perm l) (hs:s.Pairwise fun a b=>c b a≠-1):outF p s l.length=sortU c (l.filter p):=by
 obtain ⟨h1,h2⟩:=outF_strict h (p:=p) hs l.length (by rw [pm.length_eq];exact Nat.le_refl _)
 refine (sortU_eq h h1 fun x=>?_).symm
 rw [h2,List.take_of_length_le (by rw [pm.length_eq];exact Nat.le_refl _),pm.mem_iff,List.mem_filter]
abbrev oF (p:Sb→Bool) (s:List Sb) (j:Nat):List Sb:=@outF Sb (fun a b=>propDecidable (a=b)) p s j
theorem oF_yes {p:Sb→Bool} {s:List Sb} {j:Nat} {e:Sb} (hj:s[j]?=some e) (h:j=0∨s[j - 1]?≠some e) (h2:p e=true):oF p s (j+1)=oF p s j++[e]:=by
 unfold oF
 conv=>lhs;unfold outF
 rw [hj];simp only;rw [if_pos ⟨h,h2⟩]
theorem oF_no {p:Sb→Bool} {s:List Sb} {j:Nat} {e:Sb} (hj:s[j]?=some e) (h:¬ ((j=0∨s[j - 1]?≠some e)∧p e=true)):oF p s (j+1)=oF p s j:=by
 unfold oF
 conv=>lhs;unfold outF
 rw [hj];simp only;rw [if_neg h,List.append_nil]
theorem oF_len {p:Sb→Bool} {s:List Sb}:∀ j,(oF p s j).length≤j
 | 0=>by simp [oF,outF]
 | j+1=>by
  have:=oF_len (p:=p) (s:=s) j
  cases hj:s[j]? with
  | none=>
   have:oF p s (j+1)=oF p s j:=by
    unfold oF
    conv=>lhs;unfold outF
    rw [hj];simp
   rw [this];omega
  | some e=>
   by_cases h:(j=0∨s[j - 1]?≠some e)∧p e=true
   ·rw [oF_yes hj h.1 h.2,List.length_append];simp only [List.length_singleton];omega
   ·rw [oF_no hj h];omega
theorem perm_row2 {X Y:List (List D)} {a:Atm} {e:TypeId} {sz:Nat} {u:Value} (h:X=Y):[a,arow e sz u X].Perm ([]++([a]++[arow e sz u Y])):=h▸.refl _
theorem lessB_c (p:Nat) {u:Value} {b n c:Nat} (hu:u=.slice (some ⟨b,0,none⟩) n c) (d:Array SbL) (hd:d.size=n) (hn:n≤1152921504606846976) (i j:Nat) (hi:i < n) (hj:j < n) :
 Spec Tryz.prog 277 [nv i,nv j,.one (.v (.pointer (some ⟨p,0,none⟩)))] [abox p [.v u] 49,arow 48 1 u (d.toList.map eSL)] fun v A'=>v=bv (ltC (fun a b:SbL=>cSb a.1 b.1) d[i]! d[j]!)∧A'=[abox p [.v u] 49,arow 48 1 u (d.toList.map eSL)]:=by
 subst hu
 subst hd
 have hlen:(d.toList.map eSL).length=d.size:=by simp
 have r1:(d.toList.map eSL)[i]?=some (eS d[i]!.1):=by simp [hi]
 have r2:(d.toList.map eSL)[j]?=some (eS d[j]!.1):=by simp [hj]
 have l1:d[i]!.1.length≤1000000∧d[j]!.1.length≤1000000:=⟨d[i]!.2,d[j]!.2⟩
 generalize d[i]! = x at r1 l1 ⊢
 generalize d[j]! = y at r2 l1 ⊢
 have hval:=cSb_tot.val x.1 y.1
 refine sp Tryz.func277 rfl Tryz.ntmps277 rfl rfl fun C=>?_
 (repeat' first|(refine kk ?_;intros)|refine kfk ?_ ?_<;>intro hb|fail)
 refine kar ?_ (h:=P_load1R (j:=i) (o:=0) (sz:=1) _ rfl (by repeat (first|exact List.Mem.head _|apply List.Mem.tail)) r1 rfl)
 (repeat' first|(refine kk ?_;intros)|refine kfk ?_ ?_<;>intro hb|fail)
 refine kar ?_ (h:=P_load1R (j:=j) (o:=0) (sz:=1) _ rfl (by repeat (first|exact List.Mem.head _|apply List.Mem.tail)) r2 rfl)
 (repeat' first|(refine kk ?_;intros)|refine kfk ?_ ?_<;>intro hb|fail)
 exact ker1 _ ⟨rfl,rfl⟩ (hle:=le_eq (congrArg bv (decide_eq_decide.2 (show cSb x.1 y.1 < 0↔cSb x.1 y.1=-1 by omega))))
instance minimal_i:Con1 Tryz.prog 235 (List Sb) vSs (fun l=>vSs (minF l)) (fun l=>(∀ d∈l,Sub d)∧l.length≤2000000):=⟨fun l ⟨hs,hl⟩=>by
 haveI:=substYes_i
 have hlen:(l.map eS).length=l.length:=by simp
 have hlg:Lng l.length:=by unfold Lng;omega
 refine pu Tryz.func235 rfl Tryz.ntmps235 rfl rfl fun C=>?_
 (repeat' first|(refine kk ?_;intros)|refine kfk ?_ ?_<;>intro hb|fail)
 refine kfor (ι:=Unit) l (fun _ _=>[(0,vSs l),(12,vSs l)]) (fun _ _=>[]) (fun _ _=>True) () trivial ?_ ?_
 ·intro j d _ hj hdd hjl _
  have hd:=hs d (List.mem_of_getElem? hj)
  have hrow:(l.map eS)[j]?=some (eS d):=by simp [hj]
  (repeat' first|(refine kk ?_;intros)|refine kfk ?_ ?_<;>intro hb|fail)
  exact ⟨(),trivial,kwk⟩
 ·intro _ _
  (repeat' first|(refine kkz ?_;intros)|refine kfk ?_ ?_<;>intro hb|fail)
  rename_i u0 u1 b5
  refine kr ?_ (h:=P_iface _ rfl)
  (repeat' first|(refine kkS [276] [] ?_;intros)|refine kfS [276] [] ?_ ?_<;>intro hb|fail)
  have hle:∀ s∈l,s.length≤1000000:=fun s h=>by have:=(hs s h).vok.len;omega
  have hpm:(l.pmap Subtype.mk hle).map Subtype.val=l:=by rw [List.map_pmap];simp
  refine kcs (A1:=[]) (h:=sortT_c (t:=49) (e:=48) cSbL_tot.swo (fun _=>rfl) eSL [abox b5 [.v u1] 49] (g:=277) (capL:=[.pointer (some ⟨b5,0,none⟩)]) u1 (l.pmap Subtype.mk hle).toArray (by simp;omega) ?_) ?_ (hA:=perm_row2 (X:=[]++l.map eS) (Y:=(l.pmap Subtype.mk hle).toArray.toList.map eSL) (by rw [List.nil_append];(conv=>lhs;rw [← hpm]);rw [List.map_map];rfl))
  ·intro bb c hu d' i j h1 h2 h3
   exact CallV.of_spec (by rfl) (lessB_c b5 hu d' h1 (by simp;omega) i j h2 h3)
  ·rintro _ _ ⟨d',rfl,h1,h2⟩
   refine kfbO (B:=[]) (.refl _) ?_
   have pm:(d'.toList.map Subtype.val).Perm l:=by
    have:=(permIn_list h1).map Subtype.val
    rwa [show (l.pmap Subtype.mk hle).toArray.toList=l.pmap Subtype.mk hle from rfl,hpm] at this
   have pw:(d'.toList.map Subtype.val).Pairwise fun a b=>cSb b a≠-1:=by
    rw [List.pairwise_map]
    refine (sorted_pw (d:=d') (by rw [h1.1];exact h2)).imp fun {a b} h=>by simpa [ltC] using h
   have hout:=fun (p:Sb→Bool)=>outF_list cSb_tot (p:=p) pm pw
   have hmem:∀ d,d∈d'.toList.map Subtype.val↔d∈l:=fun d=>pm.mem_iff
   have hsz:=pm.length_eq
   rw [show d'.toList.map eSL=(d'.toList.map Subtype.val).map eS by rw [List.map_map];rfl]
   generalize d'.toList.map Subtype.val=s at hout hmem hsz ⊢
   clear pm pw h1 h2
   have hss:∀ d∈s,Sub d:=fun d hd=>hs d ((hmem d).1 hd)
   have hslen:(s.map eS).length=s.length:=by simp
   have hsl:s.length≤2000000:=by omega
   generalize hp:(fun e:Sb=>decide (∀ d∈l,d=e∨¬ moreG d e))=p
   have hpe:∀ e,p e=true↔∀ d∈s,d=e∨¬ moreG d e:=fun e=>by subst hp;simp only [decide_eq_true_eq];exact ⟨fun h d hd=>h d ((hmem d).1 hd),fun h d hd=>h d ((hmem d).2 hd)⟩
   have hfin:minF l=oF p s s.length:=by
    rw [hsz]
    refine Eq.trans ?_ (hout p).symm
    rw [← hp];rfl
   rw [hfin]
   (repeat' first|(refine kkz ?_;intros)|refine kfk ?_ ?_<;>intro hb|fail)
   rename_i u2
   refine kfor (ι:=Value) s (fun j u=>[(5,.one (.v (.pointer (some ⟨b5,0,none⟩)))),(6,.one (.v u)),(30,vSs s)]) (fun j u=>[arow 48 1 u ((oF p s j).map eS),abox b5 [.s 1 (s.map eS)] 49]) (fun j u=>True) u2 trivial ?_ ?_
   ·intro j e u hj hdd hjl _
    have hrow:(s.map eS)[j]?=some (eS e):=by simp [hj]
    have he:=hss e (List.mem_of_getElem? hj)
    have hel:e.length≤1000000:=by have:=he.vok.len;omega
    have hol:=oF_len (p:=p) (s:=s) j
    have hc:(j=0∨s[j - 1]?≠some e)∨(0 < j∧s[j - 1]?=some e):=by
     by_cases h0:j=0
     ·exact .inl (.inl h0)
     ·by_cases h1:s[j - 1]?=some e
      ·exact .inr ⟨by omega,h1⟩
      ·exact .inl (.inr h1)
    rcases hc with hc | ⟨h0,hy⟩
    ·have hc2:j=0∨(0 < j∧∃ y,s[j - 1]?=some y∧¬ cSb y e=0∧y.length≤1000000):=by
      rcases hc with h|h
      ·exact .inl h
      ·by_cases h0:j=0
       ·exact .inl h0
       ·obtain ⟨y,hy⟩:∃ y,s[j - 1]?=some y:=⟨s[j - 1],List.getElem?_eq_getElem (by omega)⟩
        refine .inr ⟨by omega,y,hy,fun e0=>h (by rw [hy,(cSb_tot.eq _ _).1 e0]),?_⟩
        have:=(hss y (List.mem_of_getElem? hy)).vok.len;omega
     rcases hc2 with h0 | ⟨h0,y,hy,hyn,hyl⟩
     rotate_left
     have hrow2:(s.map eS)[j - 1]?=some (eS y):=by simp [hy]
     rotate_left
     all_goals
      (repeat' first|(refine kk ?_;intros)|refine kfk ?_ ?_<;>intro hb|fail)
      refine kfor (ι:=Bool) s (fun i k=>[(5,.one (.v (.pointer (some ⟨b5,0,none⟩)))),(6,.one (.v u)),(8,vS e),(9,bv k),(30,vSs s),(31,nv s.length),(32,nv j),(49,vSs s)]) (fun _ _=>[arow 48 1 u ((oF p s j).map eS),abox b5 [.s 1 (s.map eS)] 49]) (fun i k=>k=true↔∀ d∈s.take i,d=e∨¬ moreG d e) true (by simp) ?_ ?_
      ·rintro i d k hi hid hil hk
       have hrow3:(s.map eS)[i]?=some (eS d):=by simp [hi]
       have hd:=hss d (List.mem_of_getElem? hi)
       have hdl:d.length≤1000000∧e.length≤1000000:=⟨by have:=hd.vok.len;omega,hel⟩
       have hde:Sub d∧Sub e:=⟨hd,he⟩
       have ht1:∀ {q:Sb→Prop},(∀ x∈s.take (i+1),q x)↔(∀ x∈s.take i,q x)∧q d:=fun {q}=>by
        rw [List.take_add_one,hi]
        simp only [Option.toList_some,List.mem_append,List.mem_singleton]
        exact ⟨fun h=>⟨fun x hx=>h x (.inl hx),h d (.inr rfl)⟩,fun h x hx=>hx.elim (h.1 x) fun e=>e▸h.2⟩
       by_cases hq:d=e
       ·have hz:cSb d e=0:=(cSb_tot.eq _ _).2 hq
        (repeat' first|(refine kk ?_;intros)|refine kfk ?_ ?_<;>intro hb|fail)
        exact ⟨k,by rw [ht1,hk];simp [hq],kwk⟩
       ·have hz:¬ cSb d e=0:=fun h=>hq ((cSb_tot.eq _ _).1 h)
        (repeat' first|(refine kk ?_;intros)|refine kfk ?_ ?_<;>intro hb|fail)
        ·exact ⟨false,by rw [ht1];simp [hq,hb],kwk⟩
        ·exact ⟨k,by rw [ht1,hk];simp [hq,hb],kwk⟩
      ·rintro k hk
       rw [List.take_length,← hpe] at hk
       cases k with
       | true=>
        have hpt:=hk.1 rfl
        (repeat' first|(refine kk ?_;intros)|refine kfk ?_ ?_<;>intro hb|fail)
        rename_i u3
        refine ⟨u3,trivial,?_⟩
        rw [oF_yes hj hc hpt,List.map_append]
        exact kwk
       | false=>
        have hpt:¬ p e=true:=fun h=>by have:=hk.2 h;cases this
        (repeat' first|(refine kk ?_;intros)|refine kfk ?_ ?_<;>intro hb|fail)
        refine ⟨u,trivial,?_⟩
        rw [oF_no hj fun h=>hpt h.2]
        exact kwk
    ·have hrow2:(s.map eS)[j - 1]?=some (eS e):=by simp [hy]
     have hz:cSb e e=0:=cSb_tot.self _
     (repeat' first|(refine kk ?_;intros)|refine kfk ?_ ?_<;>intro hb|fail)
     refine ⟨u,trivial,?_⟩
     rw [oF_no hj fun h=>h.1.elim (fun h=>by omega) fun h=>h hy]
     exact kwk
   ·intro u _
    (repeat' first|(refine kk ?_;intros)|refine kfk ?_ ?_<;>intro hb|fail)
    exact kr1 (rvR rfl)⟩
end
end
noncomputable section
abbrev encStt (st:Stt):List D:=[.v (.int .i64 (st.next:Int)),.s 5 ((st.bind.map toB).map encB),.s 1 (st.dis.map eS),.s 2 ((st.kinds.map toK).map encK),.s 2 ((st.marks.map toM).map encM)]
abbrev vSt (st:Stt):AV:=.agg (encStt st)
abbrev zSt:Stt:=⟨0,[],[],[],[]⟩
abbrev optSt (o:Option Stt):AV:=match o with|some st=>.tup [vSt st,bv true]|none=>.tup [vSt zSt,bv false]
structure SP (tags:List ByteArray) (st:Stt):Prop where
 pre:Pre1 st
 mrk:MB tags st.marks
 dl:st.dis.length≤2000000
 nx:st.next≤1000000
theorem newB_len {s x:Sb} (h:Sub x):(newB s x).length≤1000000:=by
 have:=h.vok.len
 have:=List.length_filter_le (fun b=>decide (getS s b.1=none)) x
 unfold newB;omega
theorem settleF_k {st:Stt} (h:kindsG st.bind st.kinds []=none):settleF st=none:=by unfold settleF;rw [h]
theorem settleF_m {st:Stt} {ks:Ks} (h:kindsG st.bind st.kinds []=some ks) (h2:marksG st.bind st.marks []=none):settleF st=none:=by unfold settleF;rw [h,h2]
theorem settleF_l {st:Stt} {ks:Ks} {ms:Ms} (h:kindsG st.bind st.kinds []=some ks) (h2:marksG st.bind st.marks []=some ms) (h3:leftG st.bind ks (keptM ks ms) st.dis=none):settleF st=none:=by unfold settleF;rw [h,h2];simp only;rw [h3]
theorem settleF_s {st:Stt} {ks:Ks} {ms:Ms} {left:List Sb} (h:kindsG st.bind st.kinds []=some ks) (h2:marksG st.bind st.marks []=some ms) (h3:leftG st.bind ks (keptM ks ms) st.dis=some left):settleF st=if 30 < (minF left).length then none else some ⟨st.next,st.bind,minF left,ks,keptM ks ms⟩:=by unfold settleF;rw [h,h2];simp only;rw [h3]
section
variable {s x d:Sb} {ks:Ks} {ms:Ms} {l:List Sb}
open Classical
theorem leftG_none (hj:join s d=none):leftG s ks ms (d::l)=leftG s ks ms l:=by
 conv=>lhs;unfold leftG
 rw [hj]
theorem leftG_skip (hj:join s d=some x) (h:kindsG x ks []=none∨marksG x ms []=none):leftG s ks ms (d::l)=leftG s ks ms l:=by
 conv=>lhs;unfold leftG
 rw [hj];simp only;rw [if_pos h]
theorem leftG_stop (hj:join s d=some x) (h:¬ (kindsG x ks []=none∨marksG x ms []=none)) (hn:newB s x=[]):leftG s ks ms (d::l)=none:=by
 conv=>lhs;unfold leftG
 rw [hj];simp only;rw [if_neg h,if_pos hn]
theorem leftG_more (hj:join s d=some x) (h:¬ (kindsG x ks []=none∨marksG x ms []=none)) (hn:¬ newB s x=[]):leftG s ks ms (d::l)=(leftG s ks ms l).map (newB s x::·):=by
 conv=>lhs;unfold leftG
 rw [hj];simp only;rw [if_neg h,if_neg hn]
end
end
end Go.Proofs.YtejkllmoofdpjaaGreat
