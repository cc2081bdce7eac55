/- Parts of the proof: V72 V73. -/
import Derived.Test.YtejkllmoofdpjaaGreatD33
namespace Go.Proofs.YtejkllmoofdpjaaGreat
open Go
set_option linter.all false
set_option maxRecDepth 100000
set_option maxHeartbeats 4000000
noncomputable section
open Classical
theorem lt_succ_all {α:Type} {p:List α} {j:Nat} {x:α} {q:Nat→α→Prop} (hj:p[j]?=some x) (h:∀ k y,k < j→p[k]?=some y→q k y) (hx:q j x):∀ k y,k < j+1→p[k]?=some y→q k y:=fun k y hk hy=>by
 rcases Nat.lt_or_ge k j with h1|h1
 ·exact h k y h1 hy
 ·obtain rfl:k=j:=by omega
  rw [hj] at hy;cases hy;exact hx
instance programOk_i:Con1 Tryz.prog 62 (List RlR) vP (fun p=>bp (progOk p)) InP:=⟨fun p ⟨hl,hin⟩=>by
 have hlen:(p.map encR).length=p.length:=by simp
 refine pu Tryz.func62 rfl Tryz.ntmps62 rfl rfl fun C=>?_
 by_cases h8:(p.length:Int) > 8
 ·(repeat' first|(refine kk ?_;intros)|refine kfk ?_ ?_<;>intro hb|fail)
  all_goals first
   | exact kret (bpF fun h=>by have:=h.1;omega)
   | (exfalso;omega)
 have h1000:p.length≤1000:=by omega
 (repeat' first|(refine kk ?_;intros)|refine kfk ?_ ?_<;>intro hb|fail)
 rename_i b1
 refine kfor (ι:=Unit) p (fun j _=>[(1,.one (.v (.pointer (some ⟨b1,0,none⟩)))),(10,.one (.s 7 (p.map encR)))]) (fun j _=>[abox b1 (encP p) 46]) (fun j _=>∀ k r,k < j→p[k]?=some r→relOk p k r) () (fun _ _ h=>absurd h (Nat.not_lt_zero _)) ?_ ?_
 ·rintro j r _ hj hd hjl hp
  have hrow:(p.map encR)[j]?=some (encR r):=by simp [hj]
  obtain ⟨i1,i2,i3,i4⟩:=hin _ (List.mem_of_getElem? hj)
  have fin:∀ {X:Prop},(relOk p j r→False)→progOk p→X:=fun h hp=>(h (hp.2 j _ hj)).elim
  have s1:r.body.In∧-1048576≤(60:Int)∧(60:Int)≤1048576:=⟨i4,by omega,by omega⟩
  by_cases c1:RelP r.name
  case neg=>
   (repeat' first|(refine kkS [124] [] ?_;intros)|refine kfS [124] [] ?_ ?_<;>intro hb|fail)
   all_goals first
    | exact kret (bpF (fin fun h=>c1 h.nm))
    | exact absurd (by assumption) c1
  by_cases c2:relAt r.name p 0=(j:Int)
  case neg=>
   (repeat' first|(refine kkS [124] [] ?_;intros)|refine kfS [124] [] ?_ ?_<;>intro hb|fail)
   all_goals first
    | exact kret (bpF (fin fun h=>c2 h.at'))
    | exact absurd (by assumption) c2
  by_cases c3:0≤r.ar∧r.ar≤4∧0≤r.loc∧r.loc≤8
  case neg=>
   (repeat' first|(refine kkS [124] [] ?_;intros)|refine kfS [124] [] ?_ ?_<;>intro hb|fail)
   all_goals first
    | exact kret (bpF (fin fun h=>c3 ⟨h.ar.1,h.ar.2,h.loc.1,h.loc.2⟩))
    | (exfalso;omega)
  by_cases c4:r.body.wf∧(r.body.nodes:Int)≤60
  case neg=>
   have hg:=gnR_not c4
   (repeat' first|(refine kkS [124] [] ?_;intros)|refine kfS [124] [] ?_ ?_<;>intro hb|fail)
   all_goals first
    | exact kret (bpF (fin fun ⟨_,_,_,_,g,e,ok,sz,_⟩=>c4 ⟨e▸gl_wf ok,by rw [e,gl_nodes];omega⟩))
    | (exfalso;omega)
    | skip
   refine krF ?_
   (repeat' first|(refine kkS [125] [] ?_;intros)|refine kfS [125] [] ?_ ?_<;>intro hb|fail)
   refine krF ?_
   (repeat' first|(refine kk ?_;intros)|refine kfk ?_ ?_<;>intro hb|fail)
   exact kret (bpF (fin fun ⟨_,_,_,_,g,e,ok,sz,_⟩=>c4 ⟨e▸gl_wf ok,by rw [e,gl_nodes];omega⟩))
  have hgn:=gnR_of c4.1 c4.2
  obtain ⟨g,hbody,hok⟩:=wf_gl c4.1
  have hsz:g.nodes≤60:=by have:=c4.2;rw [hbody,gl_nodes] at this;omega
  have hgv:=hok.gvp
  haveI:Con2 Tryz.prog 124 Gl Int vg iv (fun _ n=>bp (∀ v∈gvars g,(v:Int) < n)) (fun b _=>b=g.gl):=⟨fun b n e=>by subst e;exact varsBelow_c.h g n hgv⟩
  haveI:Con2 Tryz.prog 125 (List RlR) Gl vP vg (fun p _=>bp (∀ x∈g.pre,okC p x)) (fun p b=>p.length≤1000∧b=g.gl):=⟨fun p b ⟨h,e⟩=>by subst e;exact callsFit_c.h p g ⟨h,hgv⟩⟩
  (repeat' first|(refine kk ?_;intros)|refine kfk ?_ ?_<;>intro hb|fail)
  all_goals first
   | exact kret (bpF (fin fun ⟨_,_,_,_,g',e,ok,sz,vs,cs⟩=>by
    obtain rfl:=gl_inj (hbody.symm.trans e)
    first|exact absurd vs (by assumption)|exact absurd cs (by assumption)))
   | exact ⟨(),lt_succ_all hj hp ⟨c2,c1,by omega,by omega,g,hbody,hok,hsz,by assumption,by assumption⟩,kwk⟩
   | (exfalso;omega)
   | exact absurd c1 (by assumption)
 ·rintro _ hp
  (repeat' first|(refine kk ?_;intros)|refine kfk ?_ ?_<;>intro hb|fail)
  exact kret (bpT ⟨by omega,fun k r hr=>hp k r (List.getElem?_eq_some_iff.1 hr).1 hr⟩)⟩
instance positive_i:Con1 Tryz.prog 106 (List Rl) vPq (fun q=>bp (posP q)) ProgP:=⟨fun q hq=>by
 have hlen:((q.map Rl.rl).map encR).length=q.length:=by simp
 have hql:=hq.len
 refine pu Tryz.func106 rfl Tryz.ntmps106 rfl rfl fun C=>?_
 (repeat' first|(refine kk ?_;intros)|refine kfk ?_ ?_<;>intro hb|fail)
 rename_i b1
 refine kfor (ι:=Unit) q (fun j _=>[(6,.one (.s 7 ((q.map Rl.rl).map encR)))]) (fun j _=>[]) (fun j _=>∀ r∈q.take j,∀ x∈r.body.pre,¬ isN x) () (by simp) ?_ ?_
 ·rintro j r _ hj hd hjl hp
  have hrow:((q.map Rl.rl).map encR)[j]?=some (encR r.rl):=by simp [hj]
  obtain ⟨k,hr⟩:=hq.mem (List.mem_of_getElem? hj)
  have hgv:=hr.ok.gvp
  (repeat' first|(refine kk ?_;intros)|refine kfk ?_ ?_<;>intro hb|fail)
  ·exact kret (bpF fun h=>by
    obtain ⟨x,hx,hn⟩:=hb
    exact h r (List.mem_of_getElem? hj) x hx hn)
  ·exact ⟨(),take_succ_allP hj hp (fun x hx hn=>hb ⟨x,hx,hn⟩),kwk⟩
 ·rintro _ hp
  rw [List.take_length] at hp
  (repeat' first|(refine kk ?_;intros)|refine kfk ?_ ?_<;>intro hb|fail)
  exact kret (bpT hp)⟩
instance isPositive_i:Con1 Tryz.prog 52 (List RlR) vP (fun p=>bp (posOk p)) InP:=⟨fun p hin=>by
 refine pu Tryz.func52 rfl Tryz.ntmps52 rfl rfl fun C=>?_
 by_cases h:progOk p
 ·obtain ⟨q,rfl,hq⟩:=progOk_some h
  rw [show bp (posOk (q.map Rl.rl))=bp (posP q) from congrArg bp (propext (posOk_map h))]
  haveI:Con1 Tryz.prog 62 (List Rl) vPq (fun _=>bv true) (fun q=>InP (q.map Rl.rl)∧progOk (q.map Rl.rl)):=⟨fun q ⟨h1,h2⟩=>by
   have:=programOk_i.h _ h1
   rwa [show bp (progOk (q.map Rl.rl))=bv true from (bpT h2).symm] at this⟩
  have p1:=And.intro hin h
  (repeat' first|(refine kk ?_;intros)|refine kfk ?_ ?_<;>intro hb|fail)
  exact kret rfl
 ·(repeat' first|(refine kkS [106] [] ?_;intros)|refine kfS [106] [] ?_ ?_<;>intro hb|fail)
  all_goals first
   | exact kret (bpF fun h'=>h h'.1)
   | exact absurd (by assumption) h
   | (refine krF ?_;(repeat' first|(refine kk ?_;intros)|refine kfk ?_ ?_<;>intro hb|fail);exact kret (bpF fun h'=>h h'.1))⟩
end
noncomputable section
open Classical
instance goalSize_s:Con1 Tryz.prog 117 Gl vg (fun g=>iv (if g.ok then (g.nodes:Int) else 0)) (fun g=>g.In):=⟨fun g hin=>by
 have hc:=gcnt_nodes g 80 (by omega)
 have p1:g.In∧0≤(80:Int)∧(80:Int)≤1048576:=⟨hin,by omega,by omega⟩
 refine pu Tryz.func117 rfl Tryz.ntmps117 rfl rfl fun C=>?_
 (repeat' first|(refine kk ?_;intros)|refine kfk ?_ ?_<;>intro hb|fail)
 all_goals first
  | exact kret (congrArg iv (if_neg hb).symm)
  | exact kret (congrArg iv (show g.cnt 80=if g.ok then (g.nodes:Int) else 0 by rw [if_pos hb];have:=hb.2;omega))⟩
def fitsR (p:List RlR) (g:Gl) (n:Int):Prop:=∃ u:G,g=u.gl∧u.okG∧(∀ x∈u.pre,okC p x)∧∀ v∈gvars u,(v:Int) < n
theorem goalYes_s:Con1 Tryz.prog 161 G vG (fun _=>bv true) (fun g=>g.gl.In∧g.okG):=⟨fun g ⟨hin,hg⟩=>by
 have:=goalOk_s.h g.gl hin
 rwa [show bp g.gl.ok=bv true from (bpT (okG_iff.2 ⟨g,rfl,hg⟩)).symm] at this⟩
instance fits14_s:Con3 Tryz.prog 116 (List RlR) Gl Int vP vg iv (fun p g n=>bp (fitsR p g n)) (fun p g _=>p.length≤1000∧g.In):=⟨fun p g n ⟨hp,hin⟩=>by
 refine pu Tryz.func116 rfl Tryz.ntmps116 rfl rfl fun C=>?_
 by_cases hg:g.ok
 case neg=>
  (repeat' first|(refine kkS [162] [] ?_;intros)|refine kfS [162] [] ?_ ?_<;>intro hb|fail)
  all_goals first
   | exact absurd (by assumption) hg
   | (refine krF ?_;(repeat' first|(refine kk ?_;intros)|refine kfk ?_ ?_<;>intro hb|fail);exact kret (bpF fun ⟨u,e,ok,_⟩=>hg (okG_iff.2 ⟨u,e,ok⟩)))
 obtain ⟨u,rfl,hu⟩:=okG_iff.1 hg
 haveI:=goalYes_s
 have i1:=And.intro hin hu
 have hgv:=hu.ok.gvs
 have p1:p.length≤1000∧GvS u:=⟨hp,hgv⟩
 have p2:GvS u∧AsV []:=⟨hgv,.nil,by simp⟩
 by_cases hc:∀ x∈u.pre,okC p x
 case neg=>
  (repeat' first|(refine kkS [163] [] ?_;intros)|refine kfS [163] [] ?_ ?_<;>intro hb|fail)
  all_goals first
   | exact kret (bpF fun ⟨u',e,_,h,_⟩=>hc (gl_inj e▸h))
   | exact absurd (by assumption) hc
 have hfit:fitsR p u.gl n↔∀ v∈gvars u,(v:Int) < n:=⟨fun ⟨u',e,_,_,h⟩=>gl_inj e▸h,fun h=>⟨u,rfl,hu,hc,h⟩⟩
 have hasc:AscN (gvars u):=asc_fold .nil
 have hlen:=gvars_len hu.ok.gvp
 rw [show bp (fitsR p u.gl n)=bp (∀ v∈gvars u,(v:Int) < n) from congrArg bp (propext hfit)]
 have hgd:(gts u).foldl varsA []=gvars u:=rfl
 (repeat' first|(refine kkS [] [19] ?_;intros)|refine kfS [] [19] ?_ ?_<;>intro hb|fail)
 all_goals try exact absurd hc hb
 rw [hgd]
 generalize gvars u=L at hasc hlen ⊢
 rcases (show L=[]∨∃ l m,L=l++[m] by rcases L.eq_nil_or_concat with h | ⟨l,m,h⟩;exact .inl h;exact .inr ⟨l,m,by rw [h,List.concat_eq_append]⟩) with rfl | ⟨l,m,rfl⟩
 ·(repeat' first|(refine kk ?_;intros)|refine kfk ?_ ?_<;>intro hb|fail)
  exact kret (bpT (by simp))
 ·have hrow:((l++[m]).map encN)[(l++[m]).length - 1]?=some [.v (.int .i64 (m:Int))]:=by simp [encI]
  have hlen2:((l++[m]).map encN).length=(l++[m]).length:=by simp
  have hpos:(l++[m]).length≠0:=by simp
  (repeat' first|(refine kk ?_;intros)|refine kfk ?_ ?_<;>intro hb|fail)
  all_goals first
   | exact kret (bpI (b:=decide ((m:Int) < n)) ⟨fun h v hv=>by
    have h:(m:Int) < n:=by simpa using h
    rcases List.mem_append.1 hv with hv|hv
    ·have:=(List.pairwise_append.1 hasc).2.2 v hv m (by simp);omega
    ·obtain rfl:=List.mem_singleton.1 hv;exact h,fun h=>by simpa using h m (by simp)⟩)
   | (exfalso;omega)⟩
instance programOk_s:Con1 Tryz.prog 57 (List RlR) vP (fun p=>bp (progOk p)) InP:=⟨fun p ⟨hl,hin⟩=>by
 have hlen:(p.map encR).length=p.length:=by simp
 refine pu Tryz.func57 rfl Tryz.ntmps57 rfl rfl fun C=>?_
 by_cases h8:(p.length:Int) > 8
 ·(repeat' first|(refine kk ?_;intros)|refine kfk ?_ ?_<;>intro hb|fail)
  all_goals first
   | exact kret (bpF fun h=>by have:=h.1;omega)
   | (exfalso;omega)
 have h1000:p.length≤1000:=by omega
 (repeat' first|(refine kk ?_;intros)|refine kfk ?_ ?_<;>intro hb|fail)
 rename_i b1
 refine kfor (ι:=Unit) p (fun j _=>[(1,.one (.v (.pointer (some ⟨b1,0,none⟩)))),(10,.one (.s 7 (p.map encR)))]) (fun j _=>[abox b1 (encP p) 46]) (fun j _=>∀ k r,k < j→p[k]?=some r→relOk p k r) () (fun _ _ h=>absurd h (Nat.not_lt_zero _)) ?_ ?_
 ·rintro j r _ hj hd hjl hp
  have hrow:(p.map encR)[j]?=some (encR r):=by simp [hj]
  obtain ⟨i1,i2,i3,i4⟩:=hin _ (List.mem_of_getElem? hj)
  have fin:∀ {X:Prop},(relOk p j r→False)→progOk p→X:=fun h hp=>(h (hp.2 j _ hj)).elim
  have s1:p.length≤1000∧r.body.In:=⟨h1000,i4⟩
  (repeat' first|(refine kk ?_;intros)|refine kfk ?_ ?_<;>intro hb|fail)
  all_goals first
   | exact kret (bpF (fin fun h=>absurd h.at' (by assumption)))
   | exact kret (bpF (fin fun h=>absurd h.nm (by assumption)))
   | exact kret (bpF (fin fun h=>by have:=h.ar;have:=h.loc;omega))
   | exact kret (bpF (fin fun ⟨_,_,_,_,g,e,ok,sz,vs,cs⟩=>absurd (show fitsR p r.body (r.ar+r.loc) from ⟨g,e,⟨ok,by omega⟩,cs,vs⟩) (by assumption)))
   | exact kret (bpF (fin fun ⟨_,_,_,_,g,e,ok,sz,vs,cs⟩=>by
    rw [if_pos (okG_iff.2 ⟨g,e,ok,by omega⟩),e,gl_nodes] at hb;omega))
   | (rename_i _ hfit
      refine ⟨(),lt_succ_all hj hp ⟨by assumption,by assumption,by assumption,by assumption,?_⟩,kwk⟩
      obtain ⟨g,e,ok,cs,vs⟩:=hfit
      rw [if_pos (okG_iff.2 ⟨g,e,ok⟩),e,gl_nodes] at hb
      exact ⟨g,e,ok.ok,by omega,vs,cs⟩)
 ·rintro _ hp
  (repeat' first|(refine kk ?_;intros)|refine kfk ?_ ?_<;>intro hb|fail)
  exact kret (bpT ⟨by omega,fun k r hr=>hp k r (List.getElem?_eq_some_iff.1 hr).1 hr⟩)⟩
instance all_pos_s:Con2 Tryz.prog 101 (List RlR) Bool vP bv (fun p _=>bp (posOk p)) (fun p b=>InP p∧b=false):=⟨fun p b ⟨hin,hb0⟩=>by
 subst hb0
 refine pu Tryz.func101 rfl Tryz.ntmps101 rfl rfl fun C=>?_
 by_cases h:progOk p
 ·obtain ⟨q,rfl,hq⟩:=progOk_some h
  rw [show bp (posOk (q.map Rl.rl))=bp (posP q) from congrArg bp (propext (posOk_map h))]
  haveI:Con1 Tryz.prog 57 (List Rl) vPq (fun _=>bv true) (fun q=>InP (q.map Rl.rl)∧progOk (q.map Rl.rl)):=⟨fun q ⟨h1,h2⟩=>by
   have:=programOk_s.h _ h1
   rwa [show bp (progOk (q.map Rl.rl))=bv true from (bpT h2).symm] at this⟩
  have p1:=And.intro hin h
  have hlen:((q.map Rl.rl).map encR).length=q.length:=by simp
  have hql:=hq.len
  (repeat' first|(refine kk ?_;intros)|refine kfk ?_ ?_<;>intro hb|fail)
  refine kfor (ι:=Unit) q (fun j _=>[(1,bv false),(11,.one (.s 7 ((q.map Rl.rl).map encR)))]) (fun j _=>[]) (fun j _=>∀ r∈q.take j,∀ x∈r.body.pre,¬ isN x) () (by simp) ?_ ?_
  ·rintro j r _ hj hd hjl hp
   have hrow:((q.map Rl.rl).map encR)[j]?=some (encR r.rl):=by simp [hj]
   obtain ⟨k,hr⟩:=hq.mem (List.mem_of_getElem? hj)
   have hgv:=hr.ok.gvs
   have s1:GvS r.body∧false=false:=⟨hgv,rfl⟩
   (repeat' first|(refine kk ?_;intros)|refine kfk ?_ ?_<;>intro hb|fail)
   ·exact kret (bpF fun h=>hb (h r (List.mem_of_getElem? hj)))
   ·exact ⟨(),take_succ_allP hj hp hb,kwk⟩
  ·rintro _ hp
   rw [List.take_length] at hp
   (repeat' first|(refine kk ?_;intros)|refine kfk ?_ ?_<;>intro hb|fail)
   exact kret (bpT hp)
 ·(repeat' first|(refine kk ?_;intros)|refine kfk ?_ ?_<;>intro hb|fail)
  all_goals first
   | exact kret (bpF fun h'=>h h'.1)
   | exact absurd (by assumption) h⟩
instance isPositive_s:Con1 Tryz.prog 47 (List RlR) vP (fun p=>bp (posOk p)) InP:=⟨fun p hin=>by
 have p1:InP p∧false=false:=⟨hin,rfl⟩
 refine pu Tryz.func47 rfl Tryz.ntmps47 rfl rfl fun C=>?_
 (repeat' first|(refine kk ?_;intros)|refine kfk ?_ ?_<;>intro hb|fail)
 exact kret rfl⟩
end
end Go.Proofs.YtejkllmoofdpjaaGreat
