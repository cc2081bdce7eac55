/- Parts of the proof: V83 V85. -/
import Derived.Test.YtbabchapkhlenaaGreatC45
namespace Go.Proofs.YtbabchapkhlenaaGreat
open Go
set_option linter.all false
set_option maxRecDepth 100000
set_option maxHeartbeats 4000000
noncomputable section
open Classical
theorem vwO {A:List Atm} {x:OG} (h:atmO x∈A):VwA A (.agg (rowO x)) (vGr x.2):=.agg (.cons (.refl _) (.cons (.refl _) (.cons (VwD.row h rfl) .nil)))
theorem vwO2 {A:List Atm} {x y:OG} (hx:atmO x∈A) (hy:atmO y∈A):VwL A [.agg (rowO x),.agg (rowO y)] [vGr x.2,vGr y.2]:=.cons (vwO hx) (.cons (vwO hy) .nil)
theorem atmO_rg {x:OG}:(atmO x).Rg:=arow_rg (by simp [List.all_map,D.rg])
abbrev obx (b:Nat) (u:Value):Atm:=abox b [.v u] 26
theorem add_c (b:Nat) (u:Value) (l:List OG) (x:OG) (hl:l.length≤1000000) (h16:∀ y∈l++[x],y.2.arcs.length≤16):Spec Tryz.prog 47 (.agg (rowO x)::capA [.pointer (some ⟨b,0,none⟩)]) (obx b u::arow 59 3 u (l.map rowO)::(l.map atmO++[atmO x])) fun _ A'=>
 (x.2∈l.map (·.2)∧A'=obx b u::AG u l)∨(x.2∉l.map (·.2)∧∃ u',A'=obx b u'::AG u' (l++[x])):=by
 have hlen:(l.map rowO).length=l.length:=by simp
 show Spec _ _ [.agg (rowO x),.one (.v (.pointer (some ⟨b,0,none⟩)))] _ _
 refine sp Tryz.func47 rfl Tryz.ntmps47 rfl rfl fun C=>?_
 refine AW_rowU (e:=59) (sz:=3) (u:=u) (rows:=l.map rowO) (by repeat (first|exact List.Mem.head _|apply List.Mem.tail)) fun hu=>?_
 rw [hlen] at hu
 rcases hu with ⟨hu,h0⟩ | ⟨bb,c,hu⟩
 ·obtain rfl:l=[]:=List.length_eq_zero_iff.1 h0
  (repeat' first|(refine kk ?_;intros)|refine kfk ?_ ?_<;>intro hb|fail)
  refine kun3 ?_
  (repeat' first|(refine kk ?_;intros)|refine kfk ?_ ?_<;>intro hb|fail)
  rename_i u2
  exact ker0 (.inr ⟨by simp,u2,rfl⟩)
 ·(repeat' first|(refine kk ?_;intros)|refine kfk ?_ ?_<;>intro hb|fail)
  rename_i b2
  refine kfor (ι:=Unit) l (fun j _=>[(1,.one (.v (.pointer (some ⟨b,0,none⟩)))),(2,.one (.v (.pointer (some ⟨b2,0,none⟩)))),(5,.one (.v u))]) (fun j _=>abox b2 (rowO x) 59::obx b u::arow 59 3 u (l.map rowO)::(l.map atmO++[atmO x])) (fun j _=>∀ y∈l.take j,y.2≠x.2) () (by simp) ?_ ?_
  ·rintro j y _ hj hdd hjl hp
   have hrow:(l.map rowO)[j]?=some (rowO y):=by simp [hj]
   have hy:=List.mem_of_getElem? hj
   have m1:atmO y∈l.map atmO++[atmO x]:=List.mem_append_left _ (List.mem_map.2 ⟨y,hy,rfl⟩)
   have m2:atmO x∈l.map atmO++[atmO x]:=by simp
   have h1:y.2.arcs.length≤16∧x.2.arcs.length≤16:=⟨h16 y (by simp [hy]),h16 x (by simp)⟩
   subst hu
   (repeat' first|(refine kkS [] [10] ?_;intros)|fail)
   refine kr ?_ (h:=P_loadNR (j:=j) (o:=0) (sz:=3) _ rfl (by repeat (first|exact List.Mem.head _|apply List.Mem.tail)) hrow rfl rfl)
   (repeat' first|(refine kkS [] [13] ?_;intros)|fail)
   refine kr ?_ (h:=P_callB (v:=iv (cG y.2 x.2)) (show VwL _ [.agg (rowO y),.agg (rowO x)] _ from vwO2 (by repeat (first|exact m1|apply List.Mem.tail)) (by repeat (first|exact m2|apply List.Mem.tail))) (orderGraphs_c.h y.2 x.2 h1) rfl)
   (repeat' first|(refine kk ?_;intros)|refine kfk ?_ ?_<;>intro hb|fail)
   ·have e:y.2=x.2:=(cG_tot.eq _ _).1 hb
    refine ker0 (.inl ⟨List.mem_map.2 ⟨y,hy,e⟩,rfl⟩) (hs:=?_)
    exact List.Sublist.cons _ (List.Sublist.cons _ (List.Sublist.cons_cons _ (List.Sublist.cons_cons _ (List.sublist_append_left _ _))))
   ·exact ⟨(),take_succ_allP hj hp fun e=>hb ((cG_tot.eq _ _).2 e),kwk⟩
  ·rintro _ hp
   rw [List.take_length] at hp
   subst hu
   (repeat' first|(refine kk ?_;intros)|refine kfk ?_ ?_<;>intro hb|fail)
   rename_i u2
   refine ker0 (.inr ⟨fun h=>?_,u2,rfl⟩) (hs:=?_)
   ·obtain ⟨y,hy,e⟩:=List.mem_map.1 h
    exact hp y hy e
   ·show (obx b u2::arow 59 3 u2 ((l++[x]).map rowO)::(l++[x]).map atmO).Sublist _
    simp only [List.map_append]
    (exact wS)
theorem vwAG {A:List Atm} {u:Value} {l:List OG} (hm:arow 59 3 u (l.map rowO)∈A) (h:∀ x∈l,atmO x∈A):VwD A (.v u) (.s 3 ((l.map (·.2)).map encGr)):=by
 rw [List.map_map]
 exact VwD.rowV hm (VwR.map fun x hx=>.cons (.refl _) (.cons (.refl _) (.cons (VwD.row (h x hx) rfl) .nil)))
theorem vwAG' {u:Value} {l:List OG}:VwD (AG u l) (.v u) (.s 3 ((l.map (·.2)).map encGr)):=vwAG (List.Mem.head _) fun x hx=>List.Mem.tail _ (List.mem_map.2 ⟨x,hx,rfl⟩)
end
noncomputable section
open Classical
def closeP (p:List RlR):Option (List Gr):=(sizeF p).bind (closeF cG meetsG compG 200)
theorem graphs_ok {q:List Rl} (hq:ProgP q) (hp:posP q):∀ g∈q.flatMap graphsR,GrOk g:=fun g hg=>by
 obtain ⟨r,hr,hg⟩:=List.mem_flatMap.1 hg
 obtain ⟨i,hrl⟩:=hq.mem hr
 unfold graphsR at hg
 cases hcl:clF r.body with
 | none=>rw [hcl] at hg;simp at hg
 | some cl=>
  rw [hcl] at hg
  obtain ⟨c,hc,hg⟩:=List.mem_flatMap.1 (show g∈cl.flatMap (graphsC r) from hg)
  have hcp:=rl_clause hrl (hp r hr) hcl hc
  unfold graphsC at hg
  cases hs:solveF (r.ar+r.loc) c with
  | none=>rw [hs] at hg;simp at hg
  | some q=>
   rw [hs] at hg
   obtain ⟨x,hx,rfl⟩:=List.mem_map.1 (show g∈q.2.map (graphOf r.name q.1.bind r.ar) from hg)
   obtain ⟨s,ts,rfl,hsn,hts⟩:=(solveF_P hcp hs).call x hx
   exact ⟨colK_ok hrl.ar hts,hrl.nm,hsn⟩
theorem graphs_len {q:List Rl} (hq:ProgP q) (hp:posP q):(q.flatMap graphsR).length≤600000:=by
 have key:∀ r∈q,(graphsR r).length≤64000:=fun r hr=>by
  obtain ⟨i,hrl⟩:=hq.mem hr
  unfold graphsR
  cases hcl:clF r.body with
  | none=>simp
  | some cl=>
   have h64:=(clF_lens hcl (by have:=hrl.size;omega)).1
   have h1:∀ c∈cl,(graphsC r c).length≤1000:=fun c hc=>by
    have hcp:=rl_clause hrl (hp r hr) hcl hc
    unfold graphsC
    cases hs:solveF (r.ar+r.loc) c with
    | none=>simp
    | some q=>have:=(solveF_P hcp hs).len;simp only [List.length_map];exact this
   show (cl.flatMap (graphsC r)).length≤64000
   have:∀ (l:Cl),(∀ c∈l,(graphsC r c).length≤1000)→(l.flatMap (graphsC r)).length≤1000 * l.length:=fun l=>by
    induction l with
    | nil=>simp
    | cons c l ih=>
     intro h
     have h1:=h c (by simp)
     have h2:=ih fun c hc=>h c (by simp [hc])
     simp only [List.flatMap_cons,List.length_append,List.length_cons];omega
   have:=this cl h1
   omega
 have:∀ (l:List Rl),(∀ r∈l,(graphsR r).length≤64000)→(l.flatMap graphsR).length≤64000 * l.length:=fun l=>by
  induction l with
  | nil=>simp
  | cons c l ih=>
   intro h
   have h1:=h c (by simp)
   have h2:=ih fun c hc=>h c (by simp [hc])
   simp only [List.flatMap_cons,List.length_append,List.length_cons];omega
 have:=this q key
 have:=hq.len
 omega
theorem sizeF_ok {p:List RlR} {l:List Gr} (h:sizeF p=some l):(∀ g∈l,GrOk g)∧l.length≤600000:=by
 unfold sizeF at h
 split at h
 ·rename_i hx
  have hs:=hx.choose_spec
  unfold graphsP at h
  split at h
  ·cases h
   exact ⟨graphs_ok hs.2.1 hs.2.2,graphs_len hs.2.1 hs.2.2⟩
  ·cases h
 ·cases h
theorem clo_ok {first:List Gr} (hf:∀ g∈first,GrOk g) {g:Gr} (h:Clo meetsG compG first g):GrOk g:=by
 induction h with
 | base h=>exact hf _ h
 | step _ _ _ h1 h2=>exact ⟨compA_ok _ _,h1.r1,h2.r2⟩
structure ClI (first:List Gr) (l:List Gr):Prop where
 nd:l.Nodup
 clo:∀ g∈l,Clo meetsG compG first g
theorem ClI.ok {first l:List Gr} (h:ClI first l) (hf:∀ g∈first,GrOk g):∀ x∈l,GrOk x:=fun x hx=>clo_ok hf (h.clo x hx)
def addG (l:List Gr) (x:Gr):List Gr:=if x∈l then l else l++[x]
theorem mem_addG {l:List Gr} {x z:Gr}:z∈addG l x↔z=x∨z∈l:=by
 unfold addG
 split
 ·rename_i h
  exact ⟨.inr,fun e=>e.elim (fun e=>e▸h) id⟩
 ·simp [or_comm]
theorem addG_len {l:List Gr} {x:Gr}:l.length≤(addG l x).length∧(addG l x).length≤l.length+1:=by
 unfold addG
 split<;>simp
theorem addG_get {l:List Gr} {x y:Gr} {i:Nat} (h:l[i]?=some y):(addG l x)[i]?=some y:=by
 unfold addG
 split
 ·exact h
 ·rw [List.getElem?_append_left (List.getElem?_eq_some_iff.1 h).1];exact h
theorem ClI.add {first l:List Gr} {x:Gr} (h:ClI first l) (hx:Clo meetsG compG first x):ClI first (addG l x):=by
 refine ⟨?_,fun g hg=>(mem_addG.1 hg).elim (fun e=>e▸hx) (h.clo g)⟩
 unfold addG
 split
 ·exact h.nd
 ·rename_i hn
  exact List.nodup_append.2 ⟨h.nd,by simp,fun a ha b hb e=>by
   obtain rfl:=List.mem_singleton.1 hb
   exact hn (e▸ha)⟩
def Dn (l:List Gr) (i k:Nat):Prop:=∀ x y,l[i]?=some x→l[k]?=some y→(meetsG x y→compG x y∈l)∧(meetsG y x→compG y x∈l)
theorem Dn.add {l:List Gr} {z:Gr} {i k:Nat} (h:Dn l i k) (hi:i < l.length) (hk:k < l.length):Dn (addG l z) i k:=fun x y hx hy=>by
 have e1:(addG l z)[i]?=l[i]?:=by rw [List.getElem?_eq_getElem hi,addG_get (List.getElem?_eq_getElem hi)]
 have e2:(addG l z)[k]?=l[k]?:=by rw [List.getElem?_eq_getElem hk,addG_get (List.getElem?_eq_getElem hk)]
 rw [e1] at hx
 rw [e2] at hy
 have:=h x y hx hy
 exact ⟨fun hm=>mem_addG.2 (.inr (this.1 hm)),fun hm=>mem_addG.2 (.inr (this.2 hm))⟩
theorem all_done {first l:List Gr} (h0:∀ g∈first,g∈l) (h:ClI first l) (hd:∀ i k,i < l.length→k≤i→Dn l i k) (g:Gr):g∈l↔Clo meetsG compG first g:=by
 refine closed_all h0 h.clo (fun x ha y hb hm=>?_) g
 obtain ⟨i,hx⟩:=List.getElem?_of_mem ha
 obtain ⟨k,hy⟩:=List.getElem?_of_mem hb
 have hil:=(List.getElem?_eq_some_iff.1 hx).1
 have hkl:=(List.getElem?_eq_some_iff.1 hy).1
 rcases Nat.le_total k i with h1|h1
 ·exact (hd i k hil h1 x y hx hy).1 hm
 ·exact (hd k i hkl h1 y x hy hx).2 hm
theorem Spec.puV {P:Program} {g:Nat} {xs:List AV} {Q':AV→List Atm→Prop} {v':AV} (h:Spec P g xs [] Q') (hv:∀ v A',Q' v A'→VwA A' v v'):Pu P g xs v':=fun M w vs hM hr=>by
 refine Calls.mono (h M w vs ⟨hM,by simp [oA],by simp [oA],by simp [oA],by simp⟩ (rdA_grow (fun b _ hb=>hb.elim id fun h=>by simp [oA] at h) hr)) ?_
 rintro e w' ⟨u,rfl,v,A',hq,hrd,hs⟩
 exact ⟨u,rfl,hv v A' hq M w' u hs.pre hrd,hs.mod⟩
abbrev zeroG:Gr:=⟨noS,noS,[]⟩
def cmpV (a b:Gr):Gr:=if meetsG a b then compG a b else zeroG
theorem cmpV_yes {a b:Gr} (h:meetsG a b):cmpV a b=compG a b:=if_pos h
instance composeD_i:Con2 Tryz.prog 44 Gr Gr vGr vGr (fun a b=>.tup [vGr (cmpV a b),bp (meetsG a b)]) (fun a b=>GrOk a∧GrOk b):=⟨fun a b ⟨ha,hb⟩=>by
 by_cases hm:meetsG a b
 ·rw [cmpV_yes hm,← bpT hm]
  refine Spec.puV (composeY_c a b ha hb hm) ?_
  rintro _ _ ⟨u,rfl,rfl⟩
  exact .tup (.cons (.agg (.cons (.refl _) (.cons (.refl _) (.cons (VwD.row (List.Mem.head _) rfl) .nil)))) (.cons (.refl _) .nil))
 ·rw [show cmpV a b=zeroG from if_neg hm,← bpF hm]
  refine Spec.puV (composeN_c a b ha hb hm) ?_
  rintro _ _ ⟨rfl,rfl⟩
  exact .tup (.cons (.agg (.cons (.refl _) (.cons (.refl _) (.cons VwD.nil .nil)))) (.cons (.refl _) .nil))⟩
instance sizeGraphsD_i:Con1 Tryz.prog 9 (List RlR) vP (fun p=>optGs (sizeF p)) InP:=⟨fun p hin=>by
 refine Spec.puV (sizeGraphs_c p hin) ?_
 intro v A' h
 cases hs:sizeF p with
 | none=>
  rw [hs] at h
  obtain ⟨rfl,rfl⟩:=h
  exact .refl _
 | some l=>
  rw [hs] at h
  obtain ⟨u,os,rfl,rfl,rfl⟩:=h
  exact .tup (.cons (.one vwAG') (.cons (.refl _) .nil))⟩
theorem addD_c (b:Nat) (u:Value) (l:List Gr) (x:Gr) (hl:l.length≤1000000) (h16:∀ y∈l,y.arcs.length≤16) (hx16:x.arcs.length≤16):Spec Tryz.prog 47 (vGr x::capA [.pointer (some ⟨b,0,none⟩)]) [obx b u,arow 59 3 u (l.map encGr)] fun _ A'=>
 ∃ u',A'=[obx b u',arow 59 3 u' ((addG l x).map encGr)]:=by
 have hlen:(l.map encGr).length=l.length:=by simp
 show Spec _ _ [vGr x,.one (.v (.pointer (some ⟨b,0,none⟩)))] _ _
 refine sp Tryz.func47 rfl Tryz.ntmps47 rfl rfl fun C=>?_
 refine AW_rowU (e:=59) (sz:=3) (u:=u) (rows:=l.map encGr) (by repeat (first|exact List.Mem.head _|apply List.Mem.tail)) fun hu=>?_
 rw [hlen] at hu
 rcases hu with ⟨hu,h0⟩ | ⟨bb,c,hu⟩
 ·obtain rfl:l=[]:=List.length_eq_zero_iff.1 h0
  (repeat' first|(refine kk ?_;intros)|refine kfk ?_ ?_<;>intro hb|fail)
  refine kun3 ?_
  (repeat' first|(refine kk ?_;intros)|refine kfk ?_ ?_<;>intro hb|fail)
  rename_i u2
  exact ker0 ⟨u2,rfl⟩
 ·(repeat' first|(refine kk ?_;intros)|refine kfk ?_ ?_<;>intro hb|fail)
  rename_i b2
  refine kfor (ι:=Unit) l (fun j _=>[(1,.one (.v (.pointer (some ⟨b,0,none⟩)))),(2,.one (.v (.pointer (some ⟨b2,0,none⟩)))),(5,.one (.v u))]) (fun j _=>[abox b2 (encGr x) 59,obx b u,arow 59 3 u (l.map encGr)]) (fun j _=>∀ y∈l.take j,y≠x) () (by simp) ?_ ?_
  ·rintro j y _ hj hdd hjl hp
   have hrow:(l.map encGr)[j]?=some (encGr y):=by simp [hj]
   have hy:=List.mem_of_getElem? hj
   have h1:y.arcs.length≤16∧x.arcs.length≤16:=⟨h16 y hy,hx16⟩
   subst hu
   (repeat' first|(refine kkS [] [10] ?_;intros)|fail)
   refine kr ?_ (h:=P_loadNR (j:=j) (o:=0) (sz:=3) _ rfl (by repeat (first|exact List.Mem.head _|apply List.Mem.tail)) hrow rfl rfl)
   (repeat' first|(refine kk ?_;intros)|refine kfk ?_ ?_<;>intro hb|fail)
   ·have e:y=x:=(cG_tot.eq _ _).1 hb
    have ha:addG l x=l:=if_pos (e▸hy)
    exact ker0 ⟨_,by rw [ha]⟩
   ·exact ⟨(),take_succ_allP hj hp fun e=>hb ((cG_tot.eq _ _).2 e),kwk⟩
  ·rintro _ hp
   rw [List.take_length] at hp
   have ha:addG l x=l++[x]:=if_neg fun h=>hp x h rfl
   subst hu
   (repeat' first|(refine kk ?_;intros)|refine kfk ?_ ?_<;>intro hb|fail)
   rename_i u2
   refine ker0 ⟨u2,rfl⟩ (hs:=?_)
   rw [ha]
   simp only [List.map_append]
   (exact wS)
end
end Go.Proofs.YtbabchapkhlenaaGreat
