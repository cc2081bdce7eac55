/- Parts of the proof: V86. -/
import Derived.Test.YtbabchapkhlenaaGreatC46
namespace Go.Proofs.YtbabchapkhlenaaGreat
open Go
set_option linter.all false
set_option maxRecDepth 100000
set_option maxHeartbeats 4000000
noncomputable section
open Classical
def addM (l:List Gr) (x y:Gr):List Gr:=if meetsG x y then addG l (compG x y) else l
theorem addM_sub {l:List Gr} {x y:Gr}:∀ z∈l,z∈addM l x y:=fun z hz=>by
 unfold addM
 split
 ·exact mem_addG.2 (.inr hz)
 ·exact hz
theorem addM_len {l:List Gr} {x y:Gr}:l.length≤(addM l x y).length∧(addM l x y).length≤l.length+1:=by
 unfold addM
 split
 ·exact addG_len
 ·omega
theorem addM_get {l:List Gr} {x y z:Gr} {i:Nat} (h:l[i]?=some z):(addM l x y)[i]?=some z:=by
 unfold addM
 split
 ·exact addG_get h
 ·exact h
theorem addM_mem {l:List Gr} {x y:Gr} (h:meetsG x y):compG x y∈addM l x y:=by
 unfold addM
 rw [if_pos h]
 exact mem_addG.2 (.inl rfl)
theorem Dn.more {l l':List Gr} {i k:Nat} (h:Dn l i k) (hi:i < l.length) (hk:k < l.length) (hg:∀ {z:Gr} {p:Nat},l[p]?=some z→l'[p]?=some z) (hs:∀ z∈l,z∈l'):Dn l' i k:=fun x y hx hy=>by
 rw [hg (List.getElem?_eq_getElem hi)] at hx
 rw [hg (List.getElem?_eq_getElem hk)] at hy
 have:=h x y (by rw [← hx];exact List.getElem?_eq_getElem hi) (by rw [← hy];exact List.getElem?_eq_getElem hk)
 exact ⟨fun hm=>hs _ (this.1 hm),fun hm=>hs _ (this.2 hm)⟩
abbrev GL:={g:Gr // g.arcs.length≤16}
instance:Inhabited GL:=⟨⟨zeroG,by simp⟩⟩
abbrev eGL (g:GL):List D:=encGr g.1
theorem cGL_tot:TotC fun a b:GL=>cG a.1 b.1:=cG_tot.by (f:=Subtype.val) fun _ _ h=>Subtype.ext h
theorem lessG_c (p:Nat) {u:Value} {b n c:Nat} (hu:u=.slice (some ⟨b,0,none⟩) n c) (d:Array GL) (hd:d.size=n) (hn:n≤1152921504606846976) (i j:Nat) (hi:i < n) (hj:j < n) :
 Spec Tryz.prog 49 [nv i,nv j,.one (.v (.pointer (some ⟨p,0,none⟩)))] [obx p u,arow 59 3 u (d.toList.map eGL)] fun v A'=>v=bv (ltC (fun a b:GL=>cG a.1 b.1) d[i]! d[j]!)∧A'=[obx p u,arow 59 3 u (d.toList.map eGL)]:=by
 subst hu
 subst hd
 have hlen:(d.toList.map eGL).length=d.size:=by simp
 have r1:(d.toList.map eGL)[i]?=some (encGr d[i]!.1):=by simp [hi]
 have r2:(d.toList.map eGL)[j]?=some (encGr d[j]!.1):=by simp [hj]
 have l1:d[i]!.1.arcs.length≤16∧d[j]!.1.arcs.length≤16:=⟨d[i]!.2,d[j]!.2⟩
 generalize d[i]! = x at r1 l1 ⊢
 generalize d[j]! = y at r2 l1 ⊢
 have hval:=cG_tot.val x.1 y.1
 refine sp Tryz.func49 rfl Tryz.ntmps49 rfl rfl fun C=>?_
 (repeat' first|(refine kk ?_;intros)|refine kfk ?_ ?_<;>intro hb|fail)
 refine kar ?_ (h:=P_loadNR (j:=i) (o:=0) (sz:=3) _ rfl (by repeat (first|exact List.Mem.head _|apply List.Mem.tail)) r1 rfl rfl)
 (repeat' first|(refine kk ?_;intros)|refine kfk ?_ ?_<;>intro hb|fail)
 refine kar ?_ (h:=P_loadNR (j:=j) (o:=0) (sz:=3) _ rfl (by repeat (first|exact List.Mem.head _|apply List.Mem.tail)) r2 rfl rfl)
 (repeat' first|(refine kk ?_;intros)|refine kfk ?_ ?_<;>intro hb|fail)
 exact ker1 _ ⟨rfl,rfl⟩ (hle:=le_eq (congrArg bv (decide_eq_decide.2 (show cG x.1 y.1 < 0↔cG x.1 y.1=-1 by omega))))
theorem strict_of_sorted {l:List Gr} (hn:l.Nodup) (h:l.Pairwise fun a b=>cG b a≠-1):Strict cG l:=(hn.and h).imp fun {a b} ⟨h1,h2⟩=>by
 have:=cG_tot.val a b
 rcases this with h|h|h
 ·exact h
 ·exact absurd ((cG_tot.eq _ _).1 h) h1
 ·exact absurd (by rw [cG_tot.anti,h]) h2
instance sizeClosureD_i:Con1 Tryz.prog 18 (List RlR) vP (fun p=>optGs (closeP p)) InP:=⟨fun p hin=>by
 refine pu Tryz.func18 rfl Tryz.ntmps18 rfl rfl fun C=>?_
 (repeat' first|(refine kk ?_;intros)|refine kfk ?_ ?_<;>intro hb|fail)
 cases hs:sizeF p with
 | none=>
  rw [show closeP p=none by unfold closeP;rw [hs];rfl]
  (repeat' first|(refine kk ?_;intros)|refine kfk ?_ ?_<;>intro hb|fail)
  exact kr2 rvN (rvT rfl)
 | some first=>
  have hv:closeP p=closeF cG meetsG compG 200 first:=by unfold closeP;rw [hs];rfl
  rw [hv]
  obtain ⟨hf,hfl⟩:=sizeF_ok hs
  have hlen:(first.map encGr).length=first.length:=by simp
  (repeat' first|(refine kkz ?_;intros)|refine kfk ?_ ?_<;>intro hb|fail)
  rename_i b1 u0 b6
  refine kfor (ι:=Value × List Gr) first (fun j q=>[(6,.one (.v (.pointer (some ⟨b6,0,none⟩)))),(7,fv 47 [.pointer (some ⟨b6,0,none⟩)]),(25,.one (.s 3 (first.map encGr)))]) (fun j q=>[obx b6 q.1,arow 59 3 q.1 (q.2.map encGr)]) (fun j q=>ClI first q.2∧(∀ g∈first.take j,g∈q.2)∧q.2.length≤j) (u0,[]) ⟨⟨.nil,by simp⟩,by simp,by simp⟩ ?_ ?_
  ·rintro j x ⟨u,l⟩ hj hdd hjl ⟨q1,q2,q3⟩
   simp only at q1 q2 q3
   have hrow:(first.map encGr)[j]?=some (encGr x):=by simp [hj]
   have hx:=List.mem_of_getElem? hj
   have hal:=addG_len (l:=l) (x:=x)
   dsimp only
   (repeat' first|(refine kk ?_;intros)|refine kfk ?_ ?_<;>intro hb|fail)
   refine kcl (A1:=[_]) (h:=addD_c b6 u l x (by omega) (fun z hz=>(q1.ok hf z hz).arcs.len) (hf x hx).arcs.len) ?_ (h1:=rfl)
   rintro _ _ ⟨u9,rfl⟩
   (repeat' first|(refine kk ?_;intros)|refine kfk ?_ ?_<;>intro hb|fail)
   exact ⟨(u9,addG l x),⟨q1.add (.base hx),take_succ_allP hj (fun y hy=>mem_addG.2 (.inr (q2 y hy))) (mem_addG.2 (.inl rfl)),by simp only;omega⟩,kwk⟩
  rintro ⟨u,l⟩ ⟨q1,q2,q3⟩
  rw [List.take_length] at q2
  simp only at q1 q2 q3
  (repeat' first|(refine kk ?_;intros)|refine kfk ?_ ?_<;>intro hb|fail)
  refine kloop (ι:=Nat × Value × List Gr) (fun q=>1000000 - q.1) (fun q=>[(6,.one (.v (.pointer (some ⟨b6,0,none⟩)))),(7,fv 47 [.pointer (some ⟨b6,0,none⟩)]),(10,nv q.1)]) (fun q=>[obx b6 q.2.1,arow 59 3 q.2.1 (q.2.2.map encGr)]) (fun q=>ClI first q.2.2∧(∀ g∈first,g∈q.2.2)∧q.1≤q.2.2.length∧(∀ i' k',i' < q.1→k'≤i'→Dn q.2.2 i' k')∧(q.2.2.length≤200∨(q.1=0∧q.2.2.length≤600000))) (0,u,l) ⟨q1,q2,Nat.zero_le _,fun i' k' h=>by omega,.inr ⟨rfl,by simp only;omega⟩⟩ ?_
  clear q1 q2 q3 u l
  rintro ⟨i,u,l⟩ ⟨q1,q2,q3,q4,q5⟩
  simp only at q1 q2 q3 q4 q5
  dsimp only
  by_cases hi:i < l.length
  ·(repeat' first|(refine kk ?_;intros)|refine kfk ?_ ?_<;>intro hb|fail)
   refine kloop (ι:=Nat × Value × List Gr) (fun q=>i+1 - q.1) (fun q=>[(6,.one (.v (.pointer (some ⟨b6,0,none⟩)))),(7,fv 47 [.pointer (some ⟨b6,0,none⟩)]),(10,nv i),(11,nv q.1)]) (fun q=>[obx b6 q.2.1,arow 59 3 q.2.1 (q.2.2.map encGr)]) (fun q=>ClI first q.2.2∧(∀ g∈first,g∈q.2.2)∧(i < q.2.2.length∧q.1≤i+1)∧(∀ i' k',(i' < i∧k'≤i'∨i'=i∧k' < q.1)→Dn q.2.2 i' k')∧(q.2.2.length≤200∨(i=0∧q.1=0∧q.2.2.length≤600000))) (0,u,l) ⟨q1,q2,⟨hi,Nat.zero_le _⟩,fun i' k' h=>q4 i' k' (by omega) (by omega),q5.imp id fun h=>⟨h.1,rfl,h.2⟩⟩ ?_
   clear q1 q2 q3 q4 q5 hi u l
   rintro ⟨k,u,l⟩ ⟨cl_l,q2,⟨hi,hk1⟩,q4,q5⟩
   simp only at cl_l q2 hi hk1 q4 q5
   dsimp only
   by_cases hk:k≤i
   case neg=>
    obtain rfl:k=i+1:=by omega
    (repeat' first|(refine kk ?_;intros)|refine kfk ?_ ?_<;>intro hb|fail)
    exact ⟨(i+1,u,l),by simp only;omega,⟨cl_l,q2,hi,fun i' k' h1 h2=>q4 i' k' (by omega),by simp only;omega⟩,kwk⟩
   have ok_l:=cl_l.ok hf
   obtain ⟨x,hx_l⟩:∃ y,l[i]?=some y:=⟨l[i],List.getElem?_eq_getElem hi⟩
   obtain ⟨y,hy_l⟩:∃ y,l[k]?=some y:=⟨l[k],List.getElem?_eq_getElem (by omega)⟩
   have okx:=ok_l x (List.mem_of_getElem? hx_l)
   have oky:=ok_l y (List.mem_of_getElem? hy_l)
   have hll:(l.map encGr).length=l.length:=by simp
   (repeat' first|(refine kk ?_;intros)|refine kfk ?_ ?_<;>intro hb|fail)
   refine AD_rowU (e:=59) (sz:=3) (u:=u) (rows:=l.map encGr) (by repeat (first|exact List.Mem.head _|apply List.Mem.tail)) fun hu=>?_
   rw [List.length_map] at hu
   obtain ⟨bb_l,cc_l,hu_l⟩:=hu.resolve_left (fun h=>by have:=h.2;omega)
   subst hu_l
   have rx_l:(l.map encGr)[i]?=some (encGr x):=by simp [hx_l]
   have ry_l:(l.map encGr)[k]?=some (encGr y):=by simp [hy_l]
   have pc_l:GrOk x∧GrOk y:=⟨okx,oky⟩
   refine kmix 14 [0,1,2,3,4,5,6,7,8,9,10,11] [12,13] [obx b6 (.slice (some ⟨bb_l,0,none⟩) l.length cc_l),arow 59 3 (.slice (some ⟨bb_l,0,none⟩) l.length cc_l) (l.map encGr)] ?_ (hB:=Has.refl _)
   iterate 3 refine kal1 ?_
   refine kal1 ?_ (h:=P_loadNR (j:=i) (o:=0) (sz:=3) _ rfl (by repeat (first|exact List.Mem.head _|apply List.Mem.tail)) rx_l rfl rfl)
   iterate 3 refine kal1 ?_
   refine kal1 ?_ (h:=P_loadNR (j:=k) (o:=0) (sz:=3) _ rfl (by repeat (first|exact List.Mem.head _|apply List.Mem.tail)) ry_l rfl rfl)
   (repeat (refine kkc ?_))
   refine kacO rfl rfl (O_alloc rfl) ?_
   rintro v A' ⟨b12,rfl,rfl⟩
   refine ⟨⟨[_],.refl _⟩,?_⟩
   refine kacW 0 (hb:=⟨[_],.refl _⟩) ?_
   (repeat (refine kkc ?_))
   (repeat' first|(refine kk ?_;intros)|fail)
   refine kcut (ι:=Value) (fun u9=>[(6,.one (.v (.pointer (some ⟨b6,0,none⟩)))),(7,fv 47 [.pointer (some ⟨b6,0,none⟩)]),(10,nv i),(11,nv k)]) (fun u9=>[obx b6 u9,arow 59 3 u9 ((addM l x y).map encGr)]) (fun _=>True) ?_ ?_
   ·(repeat' first|(refine kk ?_;intros)|refine kfk ?_ ?_<;>intro hb|fail)
    ·have hcm:=cmpV_yes hb
     rw [hcm]
     refine kcl (A1:=[_]) (h:=addD_c b6 _ l (compG x y) (by omega) (fun z hz=>(ok_l z hz).arcs.len) (compA_ok _ _).len) ?_ (h1:=rfl)
     rintro _ _ ⟨u9,rfl⟩
     (repeat' first|(refine kk ?_;intros)|refine kfk ?_ ?_<;>intro hb|fail)
     refine ⟨u9,trivial,?_⟩
     rw [show addM l x y=addG l (compG x y) from if_pos hb]
     exact kwk
    ·refine ⟨.slice (some ⟨bb_l,0,none⟩) l.length cc_l,trivial,?_⟩
     rw [show addM l x y=l from if_neg hb]
     exact kwk
   rintro u1 _
   have hc_l:ClI first (addM l x y):=by
    unfold addM
    split
    ·rename_i hm
     exact cl_l.add (.step (cl_l.clo _ (List.mem_of_getElem? hx_l)) (cl_l.clo _ (List.mem_of_getElem? hy_l)) hm)
    ·exact cl_l
   have hs_l:=addM_sub (l:=l) (x:=x) (y:=y)
   have hn_l:=addM_len (l:=l) (x:=x) (y:=y)
   have hg_l:=fun {z:Gr} {p:Nat}=>addM_get (l:=l) (x:=x) (y:=y) (i:=p) (z:=z)
   have hm_l:=addM_mem (l:=l) (x:=x) (y:=y)
   generalize addM l x y=l1 at hc_l hs_l hn_l hg_l hm_l ⊢
   have cl_l1:=hc_l
   have ok_l1:=cl_l1.ok hf
   have hy_l1:=hg_l hx_l
   have hx_l1:=hg_l hy_l
   have hll1:(l1.map encGr).length=l1.length:=by simp
   (repeat' first|(refine kk ?_;intros)|refine kfk ?_ ?_<;>intro hb|fail)
   refine AD_rowU (e:=59) (sz:=3) (u:=u1) (rows:=l1.map encGr) (by repeat (first|exact List.Mem.head _|apply List.Mem.tail)) fun hu=>?_
   rw [List.length_map] at hu
   obtain ⟨bb_l1,cc_l1,hu_l1⟩:=hu.resolve_left (fun h=>by have:=h.2;omega)
   subst hu_l1
   have rx_l1:(l1.map encGr)[k]?=some (encGr y):=by simp [hx_l1]
   have ry_l1:(l1.map encGr)[i]?=some (encGr x):=by simp [hy_l1]
   have pc_l1:GrOk y∧GrOk x:=⟨oky,okx⟩
   refine kmix 14 [0,1,2,3,4,5,6,7,8,9,10,11] [12,13] [obx b6 (.slice (some ⟨bb_l1,0,none⟩) l1.length cc_l1),arow 59 3 (.slice (some ⟨bb_l1,0,none⟩) l1.length cc_l1) (l1.map encGr)] ?_ (hB:=Has.refl _)
   iterate 3 refine kal1 ?_
   refine kal1 ?_ (h:=P_loadNR (j:=k) (o:=0) (sz:=3) _ rfl (by repeat (first|exact List.Mem.head _|apply List.Mem.tail)) rx_l1 rfl rfl)
   iterate 3 refine kal1 ?_
   refine kal1 ?_ (h:=P_loadNR (j:=i) (o:=0) (sz:=3) _ rfl (by repeat (first|exact List.Mem.head _|apply List.Mem.tail)) ry_l1 rfl rfl)
   (repeat (refine kkc ?_))
   refine kacO rfl rfl (O_alloc rfl) ?_
   rintro v A' ⟨b14,rfl,rfl⟩
   refine ⟨⟨[_],.refl _⟩,?_⟩
   refine kacW 0 (hb:=⟨[_],.refl _⟩) ?_
   (repeat (refine kkc ?_))
   (repeat' first|(refine kk ?_;intros)|fail)
   refine kcut (ι:=Value) (fun u9=>[(6,.one (.v (.pointer (some ⟨b6,0,none⟩)))),(7,fv 47 [.pointer (some ⟨b6,0,none⟩)]),(10,nv i),(11,nv k)]) (fun u9=>[obx b6 u9,arow 59 3 u9 ((addM l1 y x).map encGr)]) (fun _=>True) ?_ ?_
   ·(repeat' first|(refine kk ?_;intros)|refine kfk ?_ ?_<;>intro hb|fail)
    ·have hcm:=cmpV_yes hb
     rw [hcm]
     refine kcl (A1:=[_]) (h:=addD_c b6 _ l1 (compG y x) (by omega) (fun z hz=>(ok_l1 z hz).arcs.len) (compA_ok _ _).len) ?_ (h1:=rfl)
     rintro _ _ ⟨u9,rfl⟩
     (repeat' first|(refine kk ?_;intros)|refine kfk ?_ ?_<;>intro hb|fail)
     refine ⟨u9,trivial,?_⟩
     rw [show addM l1 y x=addG l1 (compG y x) from if_pos hb]
     exact kwk
    ·refine ⟨.slice (some ⟨bb_l1,0,none⟩) l1.length cc_l1,trivial,?_⟩
     rw [show addM l1 y x=l1 from if_neg hb]
     exact kwk
   rintro u2 _
   have hc_l1:ClI first (addM l1 y x):=by
    unfold addM
    split
    ·rename_i hm
     exact cl_l1.add (.step (cl_l1.clo _ (List.mem_of_getElem? hx_l1)) (cl_l1.clo _ (List.mem_of_getElem? hy_l1)) hm)
    ·exact cl_l1
   have hs_l1:=addM_sub (l:=l1) (x:=y) (y:=x)
   have hn_l1:=addM_len (l:=l1) (x:=y) (y:=x)
   have hg_l1:=fun {z:Gr} {p:Nat}=>addM_get (l:=l1) (x:=y) (y:=x) (i:=p) (z:=z)
   have hm_l1:=addM_mem (l:=l1) (x:=y) (y:=x)
   generalize addM l1 y x=l2 at hc_l1 hs_l1 hn_l1 hg_l1 hm_l1 ⊢
   have cl_l2:=hc_l1
   have ok_l2:=cl_l2.ok hf
   have hll2:(l2.map encGr).length=l2.length:=by simp
   by_cases h200:200 < l2.length
   ·rw [closeF_none cl_l2.nd h200 cl_l2.clo]
    (repeat' first|(refine kk ?_;intros)|refine kfk ?_ ?_<;>intro hb|fail)
    all_goals first
     | exact kr2 rvN (rvT rfl)
     | (exfalso;omega)
   ·(repeat' first|(refine kk ?_;intros)|refine kfk ?_ ?_<;>intro hb|fail)
    all_goals first
     | (exfalso;omega)
     | skip
    refine ⟨(k+1,u2,l2),by simp only;omega,⟨cl_l2,fun g hg=>hs_l1 g (hs_l g (q2 g hg)),⟨by simp only;omega,by simp only;omega⟩,fun i' k' h=>?_,.inl (by simp only;omega)⟩,kwk⟩
    simp only at h
    by_cases hnew:i'=i∧k'=k
    ·obtain ⟨rfl,rfl⟩:=hnew
     intro x' y' hx' hy'
     rw [hg_l1 (hg_l hx_l)] at hx'
     rw [hg_l1 (hg_l hy_l)] at hy'
     cases hx';cases hy'
     exact ⟨fun hm=>hs_l1 _ (hm_l hm),fun hm=>hm_l1 hm⟩
    ·exact (q4 i' k' (by omega)).more (by omega) (by omega) (fun h=>hg_l1 (hg_l h)) fun z hz=>hs_l1 z (hs_l z hz)
  ·obtain rfl:i=l.length:=by omega
   have hl200:l.length≤200:=by omega
   have hok:=q1.ok hf
   have hmem:=all_done q2 q1 q4
   have hll:(l.map encGr).length=l.length:=by simp
   (repeat' first|(refine kk ?_;intros)|refine kfk ?_ ?_<;>intro hb|fail)
   refine kr ?_ (h:=P_iface _ rfl)
   (repeat' first|(refine kkS [48] [] ?_;intros)|refine kfS [48] [] ?_ ?_<;>intro hb|fail)
   have hle:∀ g∈l,g.arcs.length≤16:=fun g hg=>(hok g hg).arcs.len
   have hpm:(l.pmap Subtype.mk hle).map Subtype.val=l:=by rw [List.map_pmap];simp
   refine kcs (A1:=[]) (h:=sortS_c (t:=26) (e:=59) cGL_tot.swo (fun h=>by cases h) eGL [obx b6 u] (g:=49) (capL:=[.pointer (some ⟨b6,0,none⟩)]) u (l.pmap Subtype.mk hle).toArray (by simp;omega) ?_) ?_ (hA:=perm_row2 (X:=l.map encGr) (Y:=(l.pmap Subtype.mk hle).toArray.toList.map eGL) (by (conv=>lhs;rw [← hpm]);rw [List.map_map];rfl))
   ·intro bb c hu d' i j h1 h2 h3
    exact CallV.of_spec (by rfl) (lessG_c b6 hu d' h1 (by simp;omega) i j h2 h3)
   ·rintro _ _ ⟨d',rfl,h1,h2⟩
    have pm:(d'.toList.map Subtype.val).Perm l:=by
     have:=(permIn_list h1).map Subtype.val
     rwa [show (l.pmap Subtype.mk hle).toArray.toList=l.pmap Subtype.mk hle from rfl,hpm] at this
    have pw:(d'.toList.map Subtype.val).Pairwise fun a b=>cG b a≠-1:=by
     rw [List.pairwise_map]
     refine (sorted_pw (d:=d') (by rw [h1.1];exact h2)).imp fun {a b} h=>by simpa [ltC] using h
    have hst:Strict cG (d'.toList.map Subtype.val):=strict_of_sorted (pm.nodup_iff.2 q1.nd) pw
    rw [closeF_some cG_tot hst (by rw [pm.length_eq];exact hl200) fun g=>(pm.mem_iff).trans (hmem g)]
    (repeat' first|(refine kk ?_;intros)|refine kfk ?_ ?_<;>intro hb|fail)
    refine kr2 (rvR ?_) (rvT rfl)
    rw [List.map_map];rfl⟩
end
end Go.Proofs.YtbabchapkhlenaaGreat
