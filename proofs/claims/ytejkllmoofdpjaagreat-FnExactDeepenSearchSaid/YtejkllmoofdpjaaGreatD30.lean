/- Parts of the proof: V63 V66 V67 VK5 VW0. -/
import Derived.Test.YtejkllmoofdpjaaGreatD29
namespace Go.Proofs.YtejkllmoofdpjaaGreat
open Go
set_option linter.all false
set_option maxRecDepth 100000
set_option maxHeartbeats 4000000
noncomputable section
theorem preG_flat:∀ {l:List G},preG l=l.flatMap G.pre
 | []=>rfl
 | g::l=>by rw [preG,List.flatMap_cons,preG_flat]
theorem gts_eq (g:G):gts g=g.ts++g.kids.flatMap gts:=by
 unfold gts
 rw [pre_eq',List.flatMap_cons,preG_flat,List.flatMap_assoc]
theorem pre_self (g:G):g∈g.pre:=by rw [pre_eq'];simp
theorem pre_kid {g x y:G} (hx:x∈g.kids) (hy:y∈x.pre):y∈g.pre:=by rw [pre_eq'];exact List.mem_cons_of_mem _ (mem_preG.2 ⟨x,hx,hy⟩)
structure GvS (g:G):Prop where
 ok:∀ t∈gts g,t.okT
 kids:∀ x∈g.pre,x.kids.length≤1000
 ts:∀ x∈g.pre,x.ts.length≤1000000
theorem GvS.kid {g x:G} (h:GvS g) (hx:x∈g.kids):GvS x:=⟨fun t ht=>h.ok t (by rw [gts_eq];exact List.mem_append.2 (.inr (List.mem_flatMap.2 ⟨x,hx,ht⟩))),fun y hy=>h.kids y (pre_kid hx hy),fun y hy=>h.ts y (pre_kid hx hy)⟩
theorem GvS.gvp {g:G} (h:GvS g):GvP g:=⟨fun t ht=>(h.ok t ht).fit,h.kids,h.ts⟩
structure AsV (l:List Nat):Prop where
 asc:AscN l
 le:∀ v∈l,v≤100000
theorem AsV.len {l:List Nat} (h:AsV l):l.length≤100001:=by
 have:=nodup_len (m:=List.range 100001) (h.asc.imp fun h=>Nat.ne_of_lt h) fun v hv=>List.mem_range.2 (by have:=h.le v hv;omega)
 simpa using this
theorem AsV.fold {l:List T} {m:List Nat} (h:AsV m) (hl:∀ t∈l,t.fit):AsV (l.foldl varsA m):=⟨asc_fold h.asc,fun v hv=>by
 rcases mem_fold.1 hv with ⟨t,ht,ho⟩|hv
 ·exact (hl t ht).1 v ho
 ·exact h.le v hv⟩
instance goalVars_s:Con2 Tryz.prog 163 G (List Nat) vG nsv (fun g l=>nsv ((gts g).foldl varsA l)) (fun g l=>GvS g∧AsV l):=.ind (fun g _=>g.nodes) fun N ih g l hN ⟨hg,hl⟩=>by
 have hte:=terms_ts g
 have hgo:=goals_kids g
 have e1:rowsT g.gl.terms=(g.ts.map T.tm).map encT:=by rw [rowsT_eq,hte]
 have e2:g.gl.terms.length=g.ts.length:=by rw [hte,List.length_map]
 have e3:g.gl.subE=(g.kids.map G.gl).map encG:=by rw [subE_eq,rowsG_eq,hgo]
 have e4:g.gl.goals.length=g.kids.length:=by rw [hgo,List.length_map]
 have k1:=hg.ts g (pre_self g)
 have k2:=hg.kids g (pre_self g)
 refine pu Tryz.func163 rfl Tryz.ntmps163 rfl rfl fun C=>?_
 (repeat' first|(refine kk ?_;intros)|refine kfk ?_ ?_<;>intro hb|fail)
 rw [e1,e2]
 rename_i b2
 refine kfor (ι:=List Nat) g.ts (fun j m=>[(1,nsv m),(2,.one (.v (.pointer (some ⟨b2,0,none⟩)))),(10,.one (.s 4 ((g.ts.map T.tm).map encT)))]) (fun j m=>[abox b2 (encG g.gl) 59]) (fun j m=>m=(g.ts.take j).foldl varsA l) l rfl ?_ ?_
 ·rintro j t m hj hdd hjl hm
  have hrow:((g.ts.map T.tm).map encT)[j]?=some (encT t.tm):=by simp [hj]
  have htm:=List.mem_of_getElem? hj
  have hok:=hg.ok t (by rw [gts_eq];exact List.mem_append.2 (.inl htm))
  have hma:AsV m:=hm▸hl.fold fun t ht=>(hg.ok t (by rw [gts_eq];exact List.mem_append.2 (.inl (List.mem_of_mem_take ht)))).fit
  have p1:AscN m∧m.length+t.nodes≤1099511627776:=⟨hma.asc,by have:=hma.len;have:=hok.size;omega⟩
  have ht1:g.ts.take (j+1)=g.ts.take j++[t]:=by rw [List.take_add_one,hj];rfl
  (repeat' first|(refine kk ?_;intros)|refine kfk ?_ ?_<;>intro hb|fail)
  exact ⟨varsA m t,by rw [ht1,List.foldl_append,← hm];rfl,kwk⟩
 ·rintro m hm
  rw [List.take_length] at hm
  have hma:AsV m:=hm▸hl.fold fun t ht=>(hg.ok t (by rw [gts_eq];exact List.mem_append.2 (.inl ht))).fit
  (repeat' first|(refine kk ?_;intros)|refine kfk ?_ ?_<;>intro hb|fail)
  rw [e3,e4]
  refine kfor (ι:=List Nat) g.kids (fun j q=>[(1,nsv q),(21,.one (.s 4 ((g.kids.map G.gl).map encG)))]) (fun j q=>[]) (fun j q=>q=((g.kids.take j).flatMap gts).foldl varsA m) m rfl ?_ ?_
  ·rintro j x q hj hdd hjl hq
   have hrow:((g.kids.map G.gl).map encG)[j]?=some (encG x.gl):=by simp [hj]
   have hx:=List.mem_of_getElem? hj
   have hqa:AsV q:=hq▸hma.fold fun t ht=>(hg.ok t (by
    rw [gts_eq]
    obtain ⟨y,hy,hty⟩:=List.mem_flatMap.1 ht
    exact List.mem_append.2 (.inr (List.mem_flatMap.2 ⟨y,List.mem_of_mem_take hy,hty⟩)))).fit
   have p1:x.nodes < N∧GvS x∧AsV q:=⟨by have:=kids_nodes hx;omega,hg.kid hx,hqa⟩
   have ht1:g.kids.take (j+1)=g.kids.take j++[x]:=by rw [List.take_add_one,hj];rfl
   (repeat' first|(refine kk ?_;intros)|refine kfk ?_ ?_<;>intro hb|fail)
   refine ⟨(gts x).foldl varsA q,?_,kwk⟩
   rw [ht1,List.flatMap_append,List.foldl_append,← hq]
   simp
  ·rintro q hq
   rw [List.take_length] at hq
   have hv:(gts g).foldl varsA l=q:=by rw [gts_eq,List.foldl_append,← hm,hq]
   rw [hv]
   (repeat' first|(refine kk ?_;intros)|refine kfk ?_ ?_<;>intro hb|fail)
   exact kret rfl
end
noncomputable section
open Classical
theorem all_pre {p:G→Prop} {g:G}:(∀ x∈g.pre,p x)↔p g∧∀ k∈g.kids,∀ x∈k.pre,p x:=by
 rw [pre_eq']
 simp only [List.mem_cons,mem_preG]
 constructor
 ·exact fun h=>⟨h g (.inl rfl),fun k hk x hx=>h x (.inr ⟨k,hk,hx⟩)⟩
 ·rintro ⟨h1,h2⟩ x (rfl | ⟨k,hk,hx⟩)
  ·exact h1
  ·exact h2 k hk x hx
instance only_s:Con2 Tryz.prog 151 G Bool vG bv (fun g _=>bp (∀ x∈g.pre,¬ isN x)) (fun g b=>GvS g∧b=false):=.ind (fun g _=>g.nodes) fun N ih g b hN ⟨hg,hb0⟩=>by
 subst hb0
 have hgo:=goals_kids g
 have e3:g.gl.subE=(g.kids.map G.gl).map encG:=by rw [subE_eq,rowsG_eq,hgo]
 have e4:g.gl.goals.length=g.kids.length:=by rw [hgo,List.length_map]
 have k2:=hg.kids g (pre_self g)
 refine pu Tryz.func151 rfl Tryz.ntmps151 rfl rfl fun C=>?_
 (repeat' first|(refine kk ?_;intros)|refine kfk ?_ ?_<;>intro hb|fail)
 rw [e3,e4]
 rename_i b2
 refine kfor (ι:=Unit) g.kids (fun j _=>[(1,bv false),(2,.one (.v (.pointer (some ⟨b2,0,none⟩)))),(8,.one (.s 4 ((g.kids.map G.gl).map encG)))]) (fun j _=>[abox b2 (encG g.gl) 59]) (fun j _=>∀ k∈g.kids.take j,∀ x∈k.pre,¬ isN x) () (by simp) ?_ ?_
 ·rintro j x _ hj hdd hjl hp
  have hrow:((g.kids.map G.gl).map encG)[j]?=some (encG x.gl):=by simp [hj]
  have hx:=List.mem_of_getElem? hj
  have p1:x.nodes < N∧GvS x∧false=false:=⟨by have:=kids_nodes hx;omega,hg.kid hx,rfl⟩
  (repeat' first|(refine kk ?_;intros)|refine kfk ?_ ?_<;>intro hb|fail)
  all_goals first
   | exact ⟨(),take_succ_allP hj hp hb,kwk⟩
   | exact kret (bpF fun h=>hb ((all_pre.1 h).2 x hx))
 ·rintro _ hp
  rw [List.take_length] at hp
  have hv:(∀ x∈g.pre,¬ isN x)↔¬ g.gl.kind=10:=by rw [all_pre];exact ⟨fun h=>h.1,fun h=>⟨h,hp⟩⟩
  rw [show bp (∀ x∈g.pre,¬ isN x)=bp (¬ g.gl.kind=10) from congrArg bp (propext hv)]
  by_cases h10:g.gl.kind=10
  ·(repeat' first|(refine kk ?_;intros)|refine kfk ?_ ?_<;>intro hb|fail)
   all_goals first
    | exact kret (bpF fun h=>h h10)
    | exact absurd h10 hb
  ·(repeat' first|(refine kk ?_;intros)|refine kfk ?_ ?_<;>intro hb|fail)
   all_goals first
    | exact kret (bpT h10)
    | exact absurd hb h10
instance find_s:Con2 Tryz.prog 114 (List RlR) ByteArray vP sv (fun p s=>iv (relAt s p 0)) (fun p _=>p.length≤1000):=⟨fun p s hl=>by
 have hlen:(p.map encR).length=p.length:=by simp
 refine pu Tryz.func114 rfl Tryz.ntmps114 rfl rfl fun C=>?_
 (repeat' first|(refine kk ?_;intros)|refine kfk ?_ ?_<;>intro hb|fail)
 refine kfor (ι:=Unit) p (fun j _=>[(1,sv s),(8,.one (.s 7 (p.map encR)))]) (fun _ _=>[]) (fun j _=>relAt s p 0=relAt s (p.drop j) j) () rfl ?_ ?_
 ·rintro j r _ hj hdd hjl hp
  have hrow:(p.map encR)[j]?=some (encR r):=by simp [hj]
  have hst:=relAt_drop (s:=s) hdd
  rw [← hp] at hst
  by_cases h:r.name=s
  ·rw [if_pos h] at hst
   (repeat' first|(refine kk ?_;intros)|refine kfk ?_ ?_<;>intro hb|fail)
   rw [hst]
   exact kret rfl
  ·rw [if_neg h] at hst
   (repeat' first|(refine kk ?_;intros)|refine kfk ?_ ?_<;>intro hb|fail)
   exact ⟨(),hst,kwk⟩
 ·rintro _ hp
  rw [hp,List.drop_length]
  (repeat' first|(refine kk ?_;intros)|refine kfk ?_ ?_<;>intro hb|fail)
  exact kret rfl⟩
end
noncomputable section
open Classical
theorem kids_call {g:G} (h:g.gl.kind=9):g.kids=[]:=by
 cases g<;>first|rfl|(exfalso;simp [G.gl] at h)
theorem okC_other {p:List RlR} {g:G} (h:¬ g.gl.kind=9):okC p g:=fun e=>absurd e h
instance calls_s:Con2 Tryz.prog 162 (List RlR) G vP vG (fun p g=>bp (∀ x∈g.pre,okC p x)) (fun p g=>p.length≤1000∧GvS g):=.ind (fun _ g=>g.nodes) fun N ih p g hN ⟨hp,hg⟩=>by
 have hgo:=goals_kids g
 have e3:g.gl.subE=(g.kids.map G.gl).map encG:=by rw [subE_eq,rowsG_eq,hgo]
 have e4:g.gl.goals.length=g.kids.length:=by rw [hgo,List.length_map]
 have k2:=hg.kids g (pre_self g)
 have k1:g.gl.terms.length≤1000000:=by rw [terms_ts,List.length_map];exact hg.ts g (pre_self g)
 have hlen:(p.map encR).length=p.length:=by simp
 have hlt:(rowsT g.gl.terms).length=g.gl.terms.length:=rowsT_len _
 refine pu Tryz.func162 rfl Tryz.ntmps162 rfl rfl fun C=>?_
 by_cases hk:g.gl.kind=9
 ·have hv:(∀ x∈g.pre,okC p x)↔okC p g:=by rw [all_pre,kids_call hk];simp
  rw [show bp (∀ x∈g.pre,okC p x)=bp (okC p g) from congrArg bp (propext hv)]
  (repeat' first|(refine kkS [] [5] ?_;intros)|fail)
  rcases relAt_cases (s:=g.gl.name) (l:=p) (i:=0) with e | ⟨k,r,e,hr⟩
  ·have hno:¬ okC p g:=fun h=>by
    obtain ⟨k',r',h1,_⟩:=h hk
    rw [e] at h1;omega
   rw [e]
   (repeat' first|(refine kk ?_;intros)|refine kfk ?_ ?_<;>intro hb|fail)
   exact kret (bpF hno)
  ·rw [Nat.zero_add] at e
   have hrow:(p.map encR)[k]?=some (encR r):=by simp [hr]
   have hkl:=(List.getElem?_eq_some_iff.1 hr).1
   rw [e]
   by_cases har:r.ar=(g.gl.terms.length:Int)
   ·have hok:okC p g:=fun _=>⟨k,r,e,hr,har⟩
    (repeat' first|(refine kk ?_;intros)|refine kfk ?_ ?_<;>intro hb|fail)
    all_goals first
     | exact kret (bpI ⟨fun _=>hok,fun _=>by simpa using har⟩)
     | exact kret (bpT hok)
     | exact absurd har hb
   ·have hno:¬ okC p g:=fun h=>by
     obtain ⟨k',r',h1,h2,h3⟩:=h hk
     rw [e] at h1
     obtain rfl:k=k':=by omega
     rw [hr] at h2;cases h2;exact har h3
    (repeat' first|(refine kk ?_;intros)|refine kfk ?_ ?_<;>intro hb|fail)
    all_goals first
     | exact kret (bpI ⟨fun h=>absurd (by simpa using h) har,fun h=>absurd h hno⟩)
     | exact kret (bpF hno)
     | exact absurd hb har
 ·(repeat' first|(refine kk ?_;intros)|refine kfk ?_ ?_<;>intro hb|fail)
  rw [e3,e4]
  rename_i b2 b3
  refine kfor (ι:=Unit) g.kids (fun j _=>[(2,.one (.v (.pointer (some ⟨b2,0,none⟩)))),(30,.one (.s 4 ((g.kids.map G.gl).map encG)))]) (fun j _=>[abox b2 (encP p) 46]) (fun j _=>∀ k∈g.kids.take j,∀ x∈k.pre,okC p x) () (by simp) ?_ ?_
  ·rintro j x _ hj hdd hjl hpp
   have hrow:((g.kids.map G.gl).map encG)[j]?=some (encG x.gl):=by simp [hj]
   have hx:=List.mem_of_getElem? hj
   have p1:x.nodes < N∧p.length≤1000∧GvS x:=⟨by have:=kids_nodes hx;omega,hp,hg.kid hx⟩
   (repeat' first|(refine kk ?_;intros)|refine kfk ?_ ?_<;>intro hb|fail)
   all_goals first
    | exact ⟨(),take_succ_allP hj hpp hb,kwk⟩
    | exact kret (bpF fun h=>hb ((all_pre.1 h).2 x hx))
  ·rintro _ hpp
   rw [List.take_length] at hpp
   (repeat' first|(refine kk ?_;intros)|refine kfk ?_ ?_<;>intro hb|fail)
   exact kret (bpT (all_pre.2 ⟨okC_other hk,hpp⟩))
end
noncomputable section
open Classical
mutual
theorem ok_gts:∀ {g:G},g.Ok→(∀ t∈gts g,t.okT)∧(∀ x∈g.pre,x.kids.length≤1000∧x.ts.length≤1000000)
 | .tru,_=>by simp [gts,G.pre,G.ts,G.kids]
 | .fail,_=>by simp [gts,G.pre,G.ts,G.kids]
 | .eq a b, h => by have h : a.okT ∧ b.okT := by simpa [G.Ok] using h
                    simp [gts,G.pre,G.ts,G.kids,h]
 | .ne a b, h => by have h : a.okT ∧ b.okT := by simpa [G.Ok] using h
                    simp [gts,G.pre,G.ts,G.kids,h]
 | .sy a, h => by have h : a.okT := by simpa [G.Ok] using h
                  simp [gts,G.pre,G.ts,G.kids,h]
 | .nu a, h => by have h : a.okT := by simpa [G.Ok] using h
                  simp [gts,G.pre,G.ts,G.kids,h]
 | .ab s a,h=>by
  have h:NameP s∧a.okT:=by simpa [G.Ok] using h
  have h0:(T.sym s).okT:=⟨fit_sym.2 h.1,by simp [T.nodes]⟩
  simp [gts,G.pre,G.ts,G.kids,h.2,h0]
 | .all l,h=>by
  have h:l.length≤8∧OkL l:=by simpa [G.Ok] using h
  have:=okL_gts h.2
  refine ⟨fun t ht=>?_,fun x hx=>?_⟩
  ·rw [gts_eq] at ht
   obtain ⟨g,hg,ht⟩:=List.mem_flatMap.1 ((List.mem_append.1 ht).resolve_left (by simp [G.ts]))
   exact (this g hg).1 t ht
  ·rw [pre_eq'] at hx
   rcases List.mem_cons.1 hx with rfl|hx
   ·simp [G.kids,G.ts];omega
   ·obtain ⟨g,hg,hx⟩:=mem_preG.1 hx
    exact (this g hg).2 x hx
 | .any l,h=>by
  have h:l.length≤8∧OkL l:=by simpa [G.Ok] using h
  have:=okL_gts h.2
  refine ⟨fun t ht=>?_,fun x hx=>?_⟩
  ·rw [gts_eq] at ht
   obtain ⟨g,hg,ht⟩:=List.mem_flatMap.1 ((List.mem_append.1 ht).resolve_left (by simp [G.ts]))
   exact (this g hg).1 t ht
  ·rw [pre_eq'] at hx
   rcases List.mem_cons.1 hx with rfl|hx
   ·simp [G.kids,G.ts];omega
   ·obtain ⟨g,hg,hx⟩:=mem_preG.1 hx
    exact (this g hg).2 x hx
 | .call s l,h=>by
  have h:RelP s∧l.length≤4∧∀ t∈l,t.okT:=by simpa [G.Ok] using h
  refine ⟨by simpa [gts,G.pre,G.ts] using h.2.2,?_⟩
  simp [G.pre,G.ts,G.kids];omega
 | .non s l,h=>by
  have h:RelP s∧l.length≤4∧∀ t∈l,t.okT:=by simpa [G.Ok] using h
  refine ⟨by simpa [gts,G.pre,G.ts] using h.2.2,?_⟩
  simp [G.pre,G.ts,G.kids];omega
theorem okL_gts:∀ {l:List G},OkL l→∀ g∈l,(∀ t∈gts g,t.okT)∧(∀ x∈g.pre,x.kids.length≤1000∧x.ts.length≤1000000)
 | [],_,g,hg=>by simp at hg
 | g::l,h,g',hg=>by
  have h:g.Ok∧OkL l:=by simpa [OkL] using h
  by_cases e:g'=g
  ·rw [e];exact ok_gts h.1
  ·exact okL_gts h.2 g' ((List.mem_cons.1 hg).resolve_left e)
end
theorem G.Ok.gvs {g:G} (h:g.Ok):GvS g:=⟨(ok_gts h).1,fun x hx=>((ok_gts h).2 x hx).1,fun x hx=>((ok_gts h).2 x hx).2⟩
theorem G.Ok.gvp {g:G} (h:g.Ok):GvP g:=h.gvs.gvp
mutual
theorem gl_inj:∀ {g h:G},g.gl=h.gl→g=h
 | .tru,h,e=>by cases h<;>simp [G.gl] at e<;>rfl
 | .fail,h,e=>by cases h<;>simp [G.gl] at e<;>rfl
 | .eq a b,h,e=>by cases h<;>simp [G.gl] at e;rw [tm_inj e.1,tm_inj e.2]
 | .ne a b,h,e=>by cases h<;>simp [G.gl] at e;rw [tm_inj e.1,tm_inj e.2]
 | .sy a,h,e=>by cases h<;>simp [G.gl] at e;rw [tm_inj e]
 | .nu a,h,e=>by cases h<;>simp [G.gl] at e;rw [tm_inj e]
 | .ab s a,h,e=>by
  cases h<;>simp [G.gl] at e
  have h1:=tm_inj e.1
  simp only [T.sym.injEq] at h1
  rw [h1,tm_inj e.2]
 | .all l,h,e=>by cases h<;>simp [G.gl] at e;rw [glL_inj e]
 | .any l,h,e=>by cases h<;>simp [G.gl] at e;rw [glL_inj e]
 | .call s l,h,e=>by
  cases h<;>simp [G.gl] at e
  rw [e.1,(List.map_inj_right (fun _ _ h=>tm_inj h)).1 e.2]
 | .non s l,h,e=>by
  cases h<;>simp [G.gl] at e
  rw [e.1,(List.map_inj_right (fun _ _ h=>tm_inj h)).1 e.2]
theorem glL_inj:∀ {l m:List G},glL l=glL m→l=m
 | [],m,e=>by cases m<;>simp [glL] at e;rfl
 | g::l,m,e=>by
  cases m<;>simp [glL] at e
  rw [gl_inj e.1,glL_inj e.2]
end
structure relOk (p:List RlR) (i:Nat) (r:RlR):Prop where
 at':relAt r.name p 0=(i:Int)
 nm:RelP r.name
 ar:0≤r.ar∧r.ar≤4
 loc:0≤r.loc∧r.loc≤8
 body:∃ g:G,r.body=g.gl∧g.Ok∧g.nodes≤60∧(∀ v∈gvars g,(v:Int) < r.ar+r.loc)∧∀ x∈g.pre,okC p x
def progOk (p:List RlR):Prop:=p.length≤8∧∀ i r,p[i]?=some r→relOk p i r
structure Rl where
 name:ByteArray
 ar:Nat
 loc:Nat
 body:G
def Rl.rl (r:Rl):RlR:=⟨r.name,r.ar,r.loc,r.body.gl⟩
theorem rl_inj {r s:Rl} (h:r.rl=s.rl):r=s:=by
 obtain ⟨a,b,c,d⟩:=r
 obtain ⟨a',b',c',d'⟩:=s
 simp only [Rl.rl,RlR.mk.injEq] at h
 obtain ⟨h1,h2,h3,h4⟩:=h
 rw [h1,Int.ofNat_inj.1 h2,Int.ofNat_inj.1 h3,gl_inj h4]
structure RlOk (p:List RlR) (i:Nat) (r:Rl):Prop where
 at':relAt r.name p 0=(i:Int)
 nm:RelP r.name
 ar:r.ar≤4
 loc:r.loc≤8
 ok:r.body.Ok
 size:r.body.nodes≤60
 vars:∀ v∈gvars r.body,v < r.ar+r.loc
 calls:∀ x∈r.body.pre,okC p x
theorem relOk.rl {p:List RlR} {i:Nat} {r:RlR} (h:relOk p i r):∃ q:Rl,r=q.rl∧RlOk p i q:=by
 obtain ⟨nm,ar,loc,body⟩:=r
 obtain ⟨h1,h2,⟨h3,h3'⟩,⟨h4,h4'⟩,g,h5,h6,h7,h8,h9⟩:=h
 simp only at h1 h2 h3 h3' h4 h4' h5 h8
 refine ⟨⟨nm,ar.toNat,loc.toNat,g⟩,?_,h1,h2,?_,?_,h6,h7,fun v hv=>?_,h9⟩
 ·simp only [Rl.rl];rw [Int.toNat_of_nonneg h3,Int.toNat_of_nonneg h4,h5]
 ·simp only;omega
 ·simp only;omega
 ·have:=h8 v hv;simp only;omega
theorem all_rels {p:List RlR}:∀ {l:List RlR} {i:Nat},(∀ k r,l[k]?=some r→relOk p (i+k) r)→∃ q:List Rl,l=q.map Rl.rl∧∀ k r,q[k]?=some r→RlOk p (i+k) r
 | [],_,_=>⟨[],rfl,by simp⟩
 | r::l,i,h=>by
  obtain ⟨u,rfl,hu⟩:=(h 0 r rfl).rl
  obtain ⟨q,rfl,hq⟩:=all_rels (l:=l) (i:=i+1) fun k r hr=>by
   have:=h (k+1) r (by simpa using hr)
   rwa [show i+(k+1)=i+1+k by omega] at this
  refine ⟨u::q,rfl,fun k r hr=>?_⟩
  cases k with
  | zero=>simp at hr;subst hr;exact hu
  | succ k=>have:=hq k r (by simpa using hr);rwa [show i+(k+1)=i+1+k by omega]
structure ProgP (q:List Rl):Prop where
 len:q.length≤8
 rel:∀ k r,q[k]?=some r→RlOk (q.map Rl.rl) k r
theorem progOk_some {p:List RlR} (h:progOk p):∃ q:List Rl,p=q.map Rl.rl∧ProgP q:=by
 obtain ⟨q,hq,hr⟩:=all_rels (p:=p) (l:=p) (i:=0) fun k r hr=>by rw [Nat.zero_add];exact h.2 k r hr
 subst hq
 refine ⟨q,rfl,?_,fun k r hk=>by have:=hr k r hk;rwa [Nat.zero_add] at this⟩
 have:=h.1
 rwa [List.length_map] at this
theorem ProgP.mem {q:List Rl} (h:ProgP q) {r:Rl} (hr:r∈q):∃ k,RlOk (q.map Rl.rl) k r:=by
 obtain ⟨k,hk⟩:=List.getElem?_of_mem hr
 exact ⟨k,h.rel k r hk⟩
def posP (q:List Rl):Prop:=∀ r∈q,∀ x∈r.body.pre,¬ isN x
def posOk (p:List RlR):Prop:=progOk p∧∃ q:List Rl,p=q.map Rl.rl∧posP q
theorem posOk_map {q:List Rl} (h:progOk (q.map Rl.rl)):posOk (q.map Rl.rl)↔posP q:=by
 constructor
 ·rintro ⟨_,q',e,h⟩
  have:q=q':=(List.map_inj_right (fun _ _ h=>rl_inj h)).1 e
  rwa [this]
 ·exact fun hp=>⟨h,q,rfl,hp⟩
structure RlR.In (r:RlR):Prop where
 nm:Lng r.name.size
 ar:I64 r.ar
 loc:I64 r.loc
 body:r.body.In
def InP (p:List RlR):Prop:=Lng p.length∧∀ r∈p,r.In
abbrev vPq (q:List Rl):AV:=vP (q.map Rl.rl)
end
noncomputable section
open Classical
abbrev Len (n:Nat):Prop:=n≤9223372036854775807
mutual
/-- what may come in -/
def Tm.In0:Tm→Prop
 | .mk k n s l=>I64 k∧I64 n∧Len s.size∧Len l.length∧InL0 l
def InL0:List Tm→Prop
 | []=>True
 | t::l=>t.In0∧InL0 l
end
mutual
def Gl.In0:Gl→Prop
 | .mk k s ts gs=>I64 k∧Len s.size∧Len ts.length∧InL0 ts∧Len gs.length∧InG0 gs
def InG0:List Gl→Prop
 | []=>True
 | g::l=>g.In0∧InG0 l
end
structure RlR.In0 (r:RlR):Prop where
 nm:Len r.name.size
 ar:I64 r.ar
 loc:I64 r.loc
 body:r.body.In0
def InP0 (p:List RlR):Prop:=Len p.length∧∀ r∈p,r.In0
theorem InL0.all {l:List Tm}:InL0 l↔∀ t∈l,t.In0:=by
 induction l with
 | nil=>simp [InL0]
 | cons t l ih=>simp [InL0,ih]
theorem InG0.all {l:List Gl}:InG0 l↔∀ t∈l,t.In0:=by
 induction l with
 | nil=>simp [InG0]
 | cons t l ih=>simp [InG0,ih]
theorem Tm.in0_iff {t:Tm}:t.In0↔I64 t.kind∧I64 t.int∧Len t.name.size∧Len t.args.length∧InL0 t.args:=by cases t;exact Iff.rfl
theorem Gl.in0_iff {g:Gl}:g.In0↔I64 g.kind∧Len g.name.size∧Len g.terms.length∧InL0 g.terms∧Len g.goals.length∧InG0 g.goals:=by cases g;exact Iff.rfl
mutual
/-- the size that the laws count -/
def Tm.sz:Tm→Nat
 | .mk _ _ s l=>s.size+(l.length+szT l)
def szT:List Tm→Nat
 | []=>0
 | t::l=>t.sz+szT l
end
mutual
def Gl.sz:Gl→Nat
 | .mk _ s ts gs=>s.size+(ts.length+szT ts)+(gs.length+szG gs)
def szG:List Gl→Nat
 | []=>0
 | t::l=>t.sz+szG l
end
def RlR.sz (r:RlR):Nat:=r.name.size+r.body.sz
def szR:List RlR→Nat
 | []=>0
 | t::l=>t.sz+szR l
def leftV (z:Nat) (left:Int):Int:=if (z:Int)≤left then left - z else -1
theorem leftV_fit {z:Nat} {left:Int} (h:(z:Int)≤left):leftV z left=left - z:=by rw [leftV,if_pos h]
theorem leftV_not {z:Nat} {left:Int} (h:¬ (z:Int)≤left):leftV z left=-1:=by rw [leftV,if_neg h]
theorem leftV_le {z:Nat} {left b:Int} (h0:0≤b) (h:left≤b):-1≤leftV z left∧leftV z left≤b:=by
 unfold leftV
 split<;>omega
theorem szT_drop {l:List Tm} {j:Nat} {x:Tm} (h:l.drop j=x::l.drop (j+1)):szT (l.drop j)=x.sz+szT (l.drop (j+1)):=by rw [h];rfl
theorem szG_drop {l:List Gl} {j:Nat} {x:Gl} (h:l.drop j=x::l.drop (j+1)):szG (l.drop j)=x.sz+szG (l.drop (j+1)):=by rw [h];rfl
theorem szR_drop {l:List RlR} {j:Nat} {x:RlR} (h:l.drop j=x::l.drop (j+1)):szR (l.drop j)=x.sz+szR (l.drop (j+1)):=by rw [h];rfl
theorem szT_mem {t:Tm}:∀ {l:List Tm},t∈l→t.sz≤szT l
 | x::l,h=>by
  rcases List.mem_cons.1 h with rfl|h
  ·simp [szT]
  ·have:=szT_mem h;simp [szT];omega
theorem szG_mem {t:Gl}:∀ {l:List Gl},t∈l→t.sz≤szG l
 | x::l,h=>by
  rcases List.mem_cons.1 h with rfl|h
  ·simp [szG]
  ·have:=szG_mem h;simp [szG];omega
theorem szR_mem {t:RlR}:∀ {l:List RlR},t∈l→t.sz≤szR l
 | x::l,h=>by
  rcases List.mem_cons.1 h with rfl|h
  ·simp [szR]
  ·have:=szR_mem h;simp [szR];omega
theorem tm_in_of:∀ (N:Nat) (t:Tm),SizeOf.sizeOf t≤N→t.In0→t.sz≤1048576→t.In
 | N,.mk k n s l,hN,⟨h1,h2,h3,h4,h5⟩,hs=>by
  unfold Tm.sz at hs
  refine ⟨h1,h2,by unfold Lng;omega,by unfold Lng;omega,InL.all.2 fun t ht=>?_⟩
  have:=szT_mem ht
  cases N with
  | zero=>simp at hN
  | succ N=>exact tm_in_of N t (by have:=List.sizeOf_lt_of_mem ht;simp at hN;omega) (InL0.all.1 h5 t ht) (by omega)
theorem gl_in_of:∀ (N:Nat) (t:Gl),SizeOf.sizeOf t≤N→t.In0→t.sz≤1048576→t.In
 | N,.mk k s ts gs,hN,⟨h1,h2,h3,h4,h5,h6⟩,hs=>by
  unfold Gl.sz at hs
  refine ⟨h1,by unfold Lng;omega,by unfold Lng;omega,InL.all.2 fun t ht=>?_,by omega,InG.all.2 fun t ht=>?_⟩
  ·have:=szT_mem ht
   exact tm_in_of _ t (Nat.le_refl _) (InL0.all.1 h4 t ht) (by omega)
  ·have:=szG_mem ht
   cases N with
   | zero=>simp at hN
   | succ N=>exact gl_in_of N t (by have:=List.sizeOf_lt_of_mem ht;simp at hN;omega) (InG0.all.1 h6 t ht) (by omega)
theorem p_in_of {p:List RlR} (h:InP0 p) (hs:p.length+szR p≤1048576):InP p:=⟨by unfold Lng;omega,fun r hr=>by
 have h1:=h.2 r hr
 have h2:=szR_mem hr
 have h3:r.name.size+r.body.sz≤szR p:=h2
 exact ⟨by unfold Lng;omega,h1.ar,h1.loc,gl_in_of _ _ (Nat.le_refl _) h1.body (by omega)⟩⟩
end
end Go.Proofs.YtejkllmoofdpjaaGreat
