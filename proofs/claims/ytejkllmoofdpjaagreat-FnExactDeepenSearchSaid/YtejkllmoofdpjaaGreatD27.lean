/- Parts of the proof: VKr V58 V59 V61 V65. -/
import Derived.Test.YtejkllmoofdpjaaGreatD26
namespace Go.Proofs.YtejkllmoofdpjaaGreat
open Go
set_option linter.all false
set_option maxRecDepth 100000
set_option maxHeartbeats 4000000
noncomputable section
open Classical
theorem newB_nil {s x:Sb} {l:List (T × T)} (hs:Sub s) (h:mg (eqs s l)=some x):newB s x=[]↔s=x:=by
 obtain ⟨hc,hw⟩:=mg_some h
 constructor
 ·intro hn
  have hdom:∀ b∈x,getS s b.1≠none:=fun b hb hg=>by
   have:b∈newB s x:=List.mem_filter.2 ⟨hb,decide_eq_true hg⟩
   rw [hn] at this;cases this
  refine suOf_inj hs.sok.wf hw (funext fun v=>?_)
  have hnone:∀ w,getS s w=none→suOf x w=.var w:=fun w hg=>by
   unfold suOf
   cases hx:getS x w with
   | none=>rfl
   | some t=>exact absurd hg (hdom _ (getS_in hx))
  cases hg:getS s v with
  | none=>
   rw [hnone v hg]
   unfold suOf;rw [hg];rfl
  | some t=>
   have hb:=getS_in hg
   have h1:=hc.sol.1 _ hb
   simp only at h1
   rw [h1]
   have h2:suOf s v=t:=suOf_mem hs.sok.asc hb
   rw [h2]
   exact (sub_fix fun w hw=>hnone w (hs.sok.free _ hb w hw)).symm
 ·rintro rfl
  unfold newB
  rw [List.filter_eq_nil_iff]
  intro b hb
  have h2:suOf s b.1=b.2:=suOf_mem hs.sok.asc hb
  simp only [decide_eq_true_eq]
  intro hg
  exact absurd ((hs.sok.wf.get b.1).1 hg) fun e=>by
   rw [h2] at e
   have:=hs.sok.free b hb b.1 (by rw [e];rfl)
   have h3:=hs.sok.ori b hb b.1 e
   omega
def reqF (st:Stt):G→Option Stt
 | .tru=>some st
 | .eq a b=>match mg (eqs st.bind [(a,b)]) with
  | none=>none
  | some x=>settleF ⟨st.next,x,st.dis,st.kinds,st.marks⟩
 | .ne a b=>match mg (eqs st.bind [(a,b)]) with
  | none=>settleF st
  | some x=>if st.bind=x then none else settleF ⟨st.next,st.bind,st.dis++[newB st.bind x],st.kinds,st.marks⟩
 | .sy a=>match (putO st.bind a).bind fun x=>kindAdd st.kinds x 2 with
  | none=>none
  | some ks=>settleF ⟨st.next,st.bind,st.dis,ks,st.marks⟩
 | .nu a=>match (putO st.bind a).bind fun x=>kindAdd st.kinds x 3 with
  | none=>none
  | some ks=>settleF ⟨st.next,st.bind,st.dis,ks,st.marks⟩
 | .ab g a=>match (putO st.bind a).bind fun x=>markAdd st.marks x g with
  | none=>none
  | some ms=>settleF ⟨st.next,st.bind,st.dis,st.kinds,ms⟩
 | _=>none
structure RP (tags:List ByteArray) (st:Stt) (g:G):Prop where
 sp:SP tags st
 dl:st.dis.length≤900000
 gk:g.Ok
 ab:∀ s a,g=.ab s a→s∈tags
abbrev vG (g:G):AV:=.agg (encG g.gl)
end
noncomputable section
def G.kids:G→List G
 | .all l=>l
 | .any l=>l
 | .non s l=>[.call s l]
 | _=>[]
mutual
/-- a goal and all goals in it, each ahead of those in it -/
def G.pre:G→List G
 | .all l=>.all l::preG l
 | .any l=>.any l::preG l
 | .non s l=>[.non s l,.call s l]
 | g=>[g]
def preG:List G→List G
 | []=>[]
 | g::l=>g.pre++preG l
end
theorem preG_app:∀ {l m:List G},preG (l++m)=preG l++preG m
 | [],m=>rfl
 | g::l,m=>by rw [List.cons_append,preG,preG,preG_app,List.append_assoc]
theorem pre_eq' (g:G):g.pre=g::preG g.kids:=by
 cases g<;>first|rfl|(simp [G.pre,G.kids,preG])
theorem goals_kids (g:G):g.gl.goals=g.kids.map G.gl:=by
 cases g<;>first|rfl|exact glL_eq _
theorem kids_nodes {g x:G} (h:x∈g.kids):x.nodes < g.nodes:=by
 have hm:∀ {l:List G},x∈l→x.nodes≤nodesG l:=fun {l}=>by
  induction l with
  | nil=>intro h;cases h
  | cons y l ih=>
   intro h
   rcases List.mem_cons.1 h with rfl|h
   ·simp [nodesG]
   ·have:=ih h;simp [nodesG];omega
 cases g<;>simp only [G.kids,List.mem_nil_iff,List.mem_singleton] at h<;>first|exact h.elim|(have:=hm h;simp only [G.nodes];omega)|(subst h;simp [G.nodes])
theorem mem_preG {x:G}:∀ {l:List G},x∈preG l↔∃ g∈l,x∈g.pre
 | []=>by simp [preG]
 | g::l=>by simp [preG,mem_preG (l:=l)]
section
variable {g:Nat} {cap:List Value} [FnF Tryz.prog g]
theorem eachGoal_c (hc:cap.all Value.oneCell'=true) (I:List G→List Atm→Prop) (N:Nat):∀ (t:G) (l:List G) (A:List Atm),t.nodes≤N→(∀ x:G,x∈t.pre→x.kids.length≤1000)→(∀ l v A,v∈t.pre→I l A→Spec Tryz.prog g (vG v::capA cap) A fun _ A'=>I (l++[v]) A')→I l A→
 Spec Tryz.prog 170 [vG t,fv g cap] A fun _ A'=>I (l++t.pre) A':=by
 induction N with
 | zero=>intro t l A h;have:=t.nodes_pos;omega
 | succ N ih=>
  intro t l A hN hk hg h0
  have hgo:=goals_kids t
  have hlen:(rowsG t.gl.goals).length=t.kids.length:=by rw [rowsG_len,hgo,List.length_map]
  have hkl:=hk t (by rw [pre_eq'];simp)
  refine sp Tryz.func170 rfl Tryz.ntmps170 rfl rfl fun C=>?_
  (repeat' first|(refine kk ?_;intros)|refine kfk ?_ ?_<;>intro hb|fail)
  refine kcl (A1:=[_]) (h:=hg l t A (by rw [pre_eq'];simp) h0) ?_ (h1:=hc)
  intro v A' h'
  (repeat' first|(refine kk ?_;intros)|refine kfk ?_ ?_<;>intro hb|fail)
  have e1:t.gl.subE=(t.kids.map G.gl).map encG:=by rw [subE_eq,rowsG_eq,hgo]
  have e2:t.gl.goals.length=t.kids.length:=by rw [hgo,List.length_map]
  rw [e1,e2]
  have mem:∀ {x y:G},x∈t.kids→y∈x.pre→y∈t.pre:=fun {x y} hx hy=>by rw [pre_eq'];exact List.mem_cons_of_mem _ (mem_preG.2 ⟨x,hx,hy⟩)
  refine kfor (ι:=List Atm) t.kids (fun j A=>[(1,fv g cap),(10,.one (.s 4 ((t.kids.map G.gl).map encG)))]) (fun j A=>A) (fun j A=>I (l++t::preG (t.kids.take j)) A) A' (by simpa [preG] using h') ?_ ?_ (kwk (hs:=List.sublist_append_right _ _))
  ·rintro j x A1 hj hdd hjl hI
   have hrow:((t.kids.map G.gl).map encG)[j]?=some (encG x.gl):=by simp [hj]
   have hx:=List.mem_of_getElem? hj
   have i1:=ih x (l++t::preG (t.kids.take j)) A1 (by have:=kids_nodes hx;omega) (fun y hy=>hk y (mem hx hy)) (fun l v A hv=>hg l v A (mem hx hv)) hI
   (repeat' first|(refine kk ?_;intros)|refine kfk ?_ ?_<;>intro hb|fail)
   refine kcs (A1:=[_]) (h:=i1) ?_
   intro v A2 h2
   (repeat' first|(refine kk ?_;intros)|refine kfk ?_ ?_<;>intro hb|fail)
   refine ⟨A2,?_,kwk (hs:=List.sublist_append_right _ _)⟩
   have ht1:t.kids.take (j+1)=t.kids.take j++[x]:=by rw [List.take_add_one,hj];rfl
   rw [ht1,preG_app]
   simpa [preG,List.append_assoc] using h2
  ·intro A1 hI
   rw [List.take_length] at hI
   (repeat' first|(refine kk ?_;intros)|refine kfk ?_ ?_<;>intro hb|fail)
   exact ker0 (by rw [pre_eq'];exact hI)
end
end
noncomputable section
def G.ts:G→List T
 | .eq a b=>[a,b]
 | .ne a b=>[a,b]
 | .sy a=>[a]
 | .nu a=>[a]
 | .ab s a=>[.sym s,a]
 | .call _ l=>l
 | _=>[]
theorem terms_ts (g:G):g.gl.terms=g.ts.map T.tm:=by cases g<;>rfl
def gts (g:G):List T:=g.pre.flatMap G.ts
def gvars (g:G):List Nat:=(gts g).foldl varsA []
theorem asc_fold:∀ {l:List T} {m:List Nat},AscN m→AscN (l.foldl varsA m)
 | [],_,h=>h
 | t::l,m,h=>by
  show AscN (l.foldl varsA (varsA m t))
  exact asc_fold (asc_foldA h)
theorem mem_fold {v:Nat}:∀ {l:List T} {m:List Nat},v∈l.foldl varsA m↔(∃ t∈l,t.Occ v)∨v∈m
 | [],_=>by simp
 | t::l,m=>by
  rw [List.foldl_cons,mem_fold (l:=l),mem_varsA]
  simp only [List.mem_cons,exists_eq_or_imp]
  constructor
  ·rintro (h|h|h)<;>simp [h]
  ·rintro ((h|h)|h)<;>simp [h]
theorem mem_gvars {g:G} {v:Nat}:v∈gvars g↔∃ t∈gts g,t.Occ v:=by unfold gvars;rw [mem_fold];simp
def vset (L:List Nat):Nat→Option Unit:=fun v=>if v∈L then some () else none
theorem vset_put {L:List Nat} {v:Nat}:putN (vset L) v ()=vset (L++[v]):=by
 funext x
 unfold putN vset
 by_cases h:x=v<;>simp [h]
theorem vset_nil:upI (vset [])=fun _=>none:=by funext x;simp [upI,vset]
abbrev gbox (b ms:Nat):Atm:=abox b [.v (.map (some ms))] 268
theorem goalVars1_c (b ms:Nat) (x:G) (L:List Nat) (hx:x.ts.length≤1000000) :
 Spec Tryz.prog 208 [vG x,.one (.v (.pointer (some ⟨b,0,none⟩)))] [gbox b ms,setA ms (vset L)] fun _ A'=>A'=[gbox b ms,setA ms (vset (L++x.ts.flatMap T.vars))]:=by
 have hte:=terms_ts x
 have e1:rowsT x.gl.terms=(x.ts.map T.tm).map encT:=by rw [rowsT_eq,hte]
 have e2:x.gl.terms.length=x.ts.length:=by rw [hte,List.length_map]
 refine sp Tryz.func208 rfl Tryz.ntmps208 rfl rfl fun C=>?_
 (repeat' first|(refine kk ?_;intros)|refine kfk ?_ ?_<;>intro hb|fail)
 rw [e1,e2]
 refine kfor (ι:=Unit) x.ts (fun j _=>[(1,.one (.v (.pointer (some ⟨b,0,none⟩)))),(6,.one (.s 4 ((x.ts.map T.tm).map encT)))]) (fun j _=>[gbox b ms,setA ms (vset (L++(x.ts.take j).flatMap T.vars))]) (fun _ _=>True) () trivial ?_ ?_ (kwk (hs:=by simp only [List.take_zero,List.flatMap_nil,List.append_nil];(exact wS)))
 ·rintro j t _ hj hdd hjl _
  have hrow:((x.ts.map T.tm).map encT)[j]?=some (encT t.tm):=by simp [hj]
  (repeat' first|(refine kkS [209] [] ?_;intros)|refine kfS [209] [] ?_ ?_<;>intro hb|fail)
  rename_i bt
  refine kcs (A1:=[abox bt (encT t.tm) 174]) (h:=eachVar_c (g:=210) (cap:=[.pointer (some ⟨b,0,none⟩)]) (by rfl) (fun vs A'=>A'=[gbox b ms,setA ms (vset ((L++(x.ts.take j).flatMap T.vars)++vs))]) t [] _ ?_ rfl) ?_ (hA:=by rw [List.append_nil];exact .refl _)
  ·rintro vs v A' hv rfl
   refine sp Tryz.func210 rfl Tryz.ntmps210 rfl rfl fun C=>?_
   (repeat' first|(refine kk ?_;intros)|refine kfk ?_ ?_<;>intro hb|fail)
   refine kmuN 1 (v:=()) ?_
   rw [vset_put,List.append_assoc (L++(x.ts.take j).flatMap T.vars) vs [v]]
   (repeat' first|(refine kk ?_;intros)|refine kfk ?_ ?_<;>intro hb|fail)
   exact ker0 rfl
  ·rintro _ A' rfl
   have ht1:x.ts.take (j+1)=x.ts.take j++[t]:=by rw [List.take_add_one,hj];rfl
   (repeat' first|(refine kk ?_;intros)|refine kfk ?_ ?_<;>intro hb|fail)
   refine ⟨(),trivial,?_⟩
   rw [show L++(x.ts.take (j+1)).flatMap T.vars=(L++(x.ts.take j).flatMap T.vars)++t.vars by rw [ht1];simp]
   exact kwk
 ·rintro _ _
  rw [List.take_length]
  (repeat' first|(refine kk ?_;intros)|refine kfk ?_ ?_<;>intro hb|fail)
  exact ker0 rfl
structure GvP (g:G):Prop where
 fit:∀ t∈gts g,t.fit
 kids:∀ x∈g.pre,x.kids.length≤1000
 ts:∀ x∈g.pre,x.ts.length≤1000000
theorem gvars_len {g:G} (h:GvP g):(gvars g).length≤1000000:=by
 have hn:(gvars g).Nodup:=(asc_fold (l:=gts g) (m:=[]) .nil).imp fun h=>Nat.ne_of_lt h
 have:=nodup_len (m:=List.range 100001) hn fun v hv=>by
  obtain ⟨t,ht,ho⟩:=mem_gvars.1 hv
  exact List.mem_range.2 (by have:=(h.fit t ht).1 v ho;omega)
 simp at this;omega
instance goalVars_c:Con1 Tryz.prog 169 G vG (fun g=>nsv (gvars g)) GvP:=⟨fun g hg=>by
 refine Spec.pu ?_
 refine sp Tryz.func169 rfl Tryz.ntmps169 rfl rfl fun C=>?_
 (repeat' first|(refine kk ?_;intros)|refine kfk ?_ ?_<;>intro hb|fail)
 refine kmm kvI setv fun ms=>?_
 (repeat' first|(refine kkS [170] [] ?_;intros)|refine kfS [170] [] ?_ ?_<;>intro hb|fail)
 rename_i b1 b3
 refine kcs (A1:=[abox b1 (encG g.gl) 59]) (h:=eachGoal_c (g:=208) (cap:=[.pointer (some ⟨b3,0,none⟩)]) (by rfl) (fun l A'=>A'=[gbox b3 ms,setA ms (vset ((l.flatMap G.ts).flatMap T.vars))]) g.nodes g [] _ (Nat.le_refl _) hg.kids ?_ rfl) ?_ (hA:=by
  show List.Perm _ ([_]++[gbox b3 ms,amap kvI ms (gm setv (upI (vset [])))])
  rw [vset_nil]
  exact List.perm_append_comm (l₁:=[_,_]) (l₂:=[_]))
 ·rintro l v A hv rfl
  have h:=goalVars1_c b3 ms v ((l.flatMap G.ts).flatMap T.vars) (hg.ts v hv)
  rwa [show (l.flatMap G.ts).flatMap T.vars++v.ts.flatMap T.vars=((l++[v]).flatMap G.ts).flatMap T.vars by simp] at h
 ·rintro _ A' rfl
  have hk:KeysN (vset ((([]++g.pre).flatMap G.ts).flatMap T.vars)) (gvars g):=⟨asc_fold .nil,fun n=>by
   have e:n∈(([]++g.pre).flatMap G.ts).flatMap T.vars↔n∈gvars g:=by
    rw [mem_gvars,List.mem_flatMap]
    exact exists_congr fun t=>and_congr Iff.rfl mem_vars
   unfold vset
   by_cases h:n∈gvars g
   ·rw [if_pos (e.2 h)];simp [h]
   ·rw [if_neg fun h'=>h (e.1 h')];simp [h]⟩
  (repeat' first|(refine kkS [211] [] ?_;intros)|refine kfS [211] [] ?_ ?_<;>intro hb|fail)
  refine kcs (A1:=[abox b1 (encG g.gl) 59,gbox b3 ms]) (h:=sortedInts_c hk (gvars_len hg) ms) ?_ (hA:=.refl _)
  rintro r A' ⟨rfl,rfl⟩
  (repeat' first|(refine kk ?_;intros)|refine kfk ?_ ?_<;>intro hb|fail)
  exact ker1 _ ⟨rfl,rfl⟩⟩
end
noncomputable section
instance varsBelow_c:Con2 Tryz.prog 124 G Int vG iv (fun g n=>bp (∀ v∈gvars g,(v:Int) < n)) (fun g _=>GvP g):=⟨fun g n hg=>by
 have hl:=gvars_len hg
 have hlen:((gvars g).map encN).length=(gvars g).length:=by simp
 refine pu Tryz.func124 rfl Tryz.ntmps124 rfl rfl fun C=>?_
 (repeat' first|(refine kk ?_;intros)|refine kfk ?_ ?_<;>intro hb|fail)
 generalize gvars g=l at hl hlen ⊢
 refine kfor (ι:=Unit) l (fun j _=>[(1,iv n),(8,nsv l)]) (fun _ _=>[]) (fun j _=>∀ v∈l.take j,(v:Int) < n) () (by simp) ?_ ?_
 ·rintro j v _ hj hdd hjl hp
  have hrow:(l.map encN)[j]?=some [.v (.int .i64 (v:Int))]:=by simp [hj,encI]
  (repeat' first|(refine kk ?_;intros)|refine kfk ?_ ?_<;>intro hb|fail)
  ·exact kret (bpF fun h=>by have:=h v (List.mem_of_getElem? hj);omega)
  ·exact ⟨(),take_succ_allP hj hp (by omega),kwk⟩
 ·rintro _ hp
  rw [List.take_length] at hp
  (repeat' first|(refine kk ?_;intros)|refine kfk ?_ ?_<;>intro hb|fail)
  exact kret (bpT hp)⟩
def relAt (s:ByteArray):List RlR→Nat→Int
 | [],_=>-1
 | r::l,i=>if r.name=s then ((i:Nat):Int) else relAt s l (i+1)
abbrev vP (p:List RlR):AV:=.agg (encP p)
theorem relAt_drop {s:ByteArray} {r:RlR} {p:List RlR} {j:Nat} (hd:p.drop j=r::p.drop (j+1)):relAt s (p.drop j) j=if r.name=s then ((j:Nat):Int) else relAt s (p.drop (j+1)) (j+1):=by rw [hd];rfl
instance relation_c:Con2 Tryz.prog 122 (List RlR) ByteArray vP sv (fun p s=>iv (relAt s p 0)) (fun p _=>p.length≤1000):=⟨fun p s hl=>by
 have hlen:(p.map encR).length=p.length:=by simp
 refine pu Tryz.func122 rfl Tryz.ntmps122 rfl rfl fun C=>?_
 (repeat' first|(refine kk ?_;intros)|refine kfk ?_ ?_<;>intro hb|fail)
 refine kfor (ι:=Unit) p (fun j _=>[(1,sv s),(8,.one (.s 7 (p.map encR)))]) (fun _ _=>[]) (fun j _=>relAt s p 0=relAt s (p.drop j) j) () rfl ?_ ?_
 ·rintro j r _ hj hdd hjl hp
  have hrow:(p.map encR)[j]?=some (encR r):=by simp [hj]
  have hst:=relAt_drop (s:=s) hdd
  rw [← hp] at hst
  by_cases h:r.name=s
  ·rw [if_pos h] at hst
   (repeat' first|(refine kk ?_;intros)|refine kfk ?_ ?_<;>intro hb|fail)
   rw [hst]
   exact kret rfl
  ·rw [if_neg h] at hst
   (repeat' first|(refine kk ?_;intros)|refine kfk ?_ ?_<;>intro hb|fail)
   exact ⟨(),hst,kwk⟩
 ·rintro _ hp
  rw [hp,List.drop_length]
  (repeat' first|(refine kk ?_;intros)|refine kfk ?_ ?_<;>intro hb|fail)
  exact kret rfl⟩
theorem relAt_cases {s:ByteArray}:∀ {l:List RlR} {i:Nat},relAt s l i=-1∨∃ k r,relAt s l i=((i+k:Nat):Int)∧l[k]?=some r
 | [],_=>.inl rfl
 | r::l,i=>by
  unfold relAt
  by_cases h:r.name=s
  ·rw [if_pos h];exact .inr ⟨0,r,rfl,rfl⟩
  ·rw [if_neg h]
   rcases relAt_cases (s:=s) (l:=l) (i:=i+1) with e | ⟨k,r',e,e'⟩
   ·exact .inl e
   ·exact .inr ⟨k+1,r',by rw [e];congr 1;omega,by simpa using e'⟩
def okC (p:List RlR) (x:G):Prop:=x.gl.kind=9→∃ k r,relAt x.gl.name p 0=((k:Nat):Int)∧p[k]?=some r∧r.ar=(x.gl.terms.length:Int)
open Classical in
theorem callsFit1_c (b1 b2:Nat) (p:List RlR) (c:Bool) (v:G) (hp:p.length≤1000) (hv:v.gl.terms.length≤1000000) :
 Spec Tryz.prog 171 [vG v,.one (.v (.pointer (some ⟨b1,0,none⟩))),.one (.v (.pointer (some ⟨b2,0,none⟩)))] [bbox b2 c,abox b1 (encP p) 46] fun _ A'=>A'=[bbox b2 (c && decide (okC p v)),abox b1 (encP p) 46]:=by
 have hlen:(p.map encR).length=p.length:=by simp
 have hlt:(rowsT v.gl.terms).length=v.gl.terms.length:=rowsT_len _
 refine sp Tryz.func171 rfl Tryz.ntmps171 rfl rfl fun C=>?_
 by_cases hk:v.gl.kind=9
 ·(repeat' first|(refine kkS [] [4] ?_;intros)|fail)
  rcases relAt_cases (s:=v.gl.name) (l:=p) (i:=0) with e | ⟨k,r,e,hr⟩
  ·have hno:¬ okC p v:=fun h=>by
    obtain ⟨k',r',h1,_⟩:=h hk
    rw [e] at h1;omega
   rw [show (c && decide (okC p v))=false by simp [hno],e]
   (repeat' first|(refine kk ?_;intros)|refine kfk ?_ ?_<;>intro hb|fail)
   exact ker0 rfl
  ·rw [Nat.zero_add] at e
   have hrow:(p.map encR)[k]?=some (encR r):=by simp [hr]
   have hkl:=(List.getElem?_eq_some_iff.1 hr).1
   by_cases har:r.ar=(v.gl.terms.length:Int)
   ·have hok:okC p v:=fun _=>⟨k,r,e,hr,har⟩
    rw [show (c && decide (okC p v))=c by simp [hok],e]
    (repeat' first|(refine kk ?_;intros)|refine kfk ?_ ?_<;>intro hb|fail)
    exact ker0 rfl
   ·have hno:¬ okC p v:=fun h=>by
     obtain ⟨k',r',h1,h2,h3⟩:=h hk
     rw [e] at h1
     obtain rfl:k=k':=by omega
     rw [hr] at h2;cases h2;exact har h3
    rw [show (c && decide (okC p v))=false by simp [hno],e]
    (repeat' first|(refine kk ?_;intros)|refine kfk ?_ ?_<;>intro hb|fail)
    exact ker0 rfl
 ·have hok:okC p v:=fun h=>absurd h hk
  rw [show (c && decide (okC p v))=c by simp [hok]]
  (repeat' first|(refine kk ?_;intros)|refine kfk ?_ ?_<;>intro hb|fail)
  exact ker0 rfl
open Classical in
instance callsFit_c:Con2 Tryz.prog 125 (List RlR) G vP vG (fun p g=>bp (∀ x∈g.pre,okC p x)) (fun p g=>p.length≤1000∧GvP g):=⟨fun p g ⟨hp,hg⟩=>by
 refine Spec.pu ?_
 refine sp Tryz.func125 rfl Tryz.ntmps125 rfl rfl fun C=>?_
 (repeat' first|(refine kkS [170] [] ?_;intros)|refine kfS [170] [] ?_ ?_<;>intro hb|fail)
 rename_i b2 b3 b5
 refine kcs (A1:=[abox b3 (encG g.gl) 59]) (h:=eachGoal_c (g:=171) (cap:=[.pointer (some ⟨b2,0,none⟩),.pointer (some ⟨b5,0,none⟩)]) (by rfl) (fun l A'=>A'=[bbox b5 (decide (∀ x∈l,okC p x)),abox b2 (encP p) 46]) g.nodes g [] _ (Nat.le_refl _) hg.kids ?_ rfl) ?_ (hA:=by
  rw [show decide (∀ x∈([]:List G),okC p x)=true by simp]
  exact List.Perm.swap _ _ _)
 ·rintro l v A hv rfl
  have h:=callsFit1_c b2 b5 p (decide (∀ x∈l,okC p x)) v hp (by rw [terms_ts,List.length_map];exact hg.ts v hv)
  rwa [show (decide (∀ x∈l,okC p x) && decide (okC p v))=decide (∀ x∈l++[v],okC p x) by
   rw [Bool.eq_iff_iff]
   simp only [Bool.and_eq_true,decide_eq_true_eq,List.mem_append,List.mem_singleton]
   exact ⟨fun h x hx=>hx.elim (h.1 x) fun e=>e▸h.2,fun h=>⟨fun x hx=>h x (.inl hx),h v (.inr rfl)⟩⟩] at h
 ·rintro _ A' rfl
  (repeat' first|(refine kk ?_;intros)|refine kfk ?_ ?_<;>intro hb|fail)
  exact ker1 _ ⟨rfl,rfl⟩ (hle:=le_eq (congrArg bv (decide_eq_decide.2 (by rw [List.nil_append]))))⟩
end
noncomputable section
open Classical
theorem neg1_c (n:Int):Pu Tryz.prog 159 ([iv n]++capA []) (bv (n == 10)):=by
 show Pu _ _ [iv n] _
 refine pu Tryz.func159 rfl Tryz.ntmps159 rfl rfl fun C=>?_
 (repeat' first|(refine kk ?_;intros)|refine kfk ?_ ?_<;>intro hb|fail)
 exact kret rfl
abbrev isN (x:G):Prop:=x.gl.kind=10
theorem hasKind1_c (b3 b5:Nat) (c:Bool) (x:G) :
 Spec Tryz.prog 202 [vG x,.one (.v (.pointer (some ⟨b5,0,none⟩))),.one (.v (.pointer (some ⟨b3,0,none⟩)))] [bbox b5 c,abox b3 [.v (.func (.func 159) #[] #[])] 223] fun _ A'=>A'=[bbox b5 (c || decide (isN x)),abox b3 [.v (.func (.func 159) #[] #[])] 223]:=by
 refine sp Tryz.func202 rfl Tryz.ntmps202 rfl rfl fun C=>?_
 cases c with
 | true=>
  rw [Bool.true_or]
  (repeat' first|(refine kk ?_;intros)|refine kfk ?_ ?_<;>intro hb|fail)
  exact ker0 rfl
 | false=>
  rw [Bool.false_or,show decide (isN x)=(x.gl.kind == 10) from (Bool.eq_iff_iff.2 (by simp))]
  (repeat' first|(refine kk ?_;intros)|refine kfk ?_ ?_<;>intro hb|fail)
  refine krT ?_ (h:=P_clo (cap:=[]) rfl rfl (by rfl) (neg1_c _))
  (repeat' first|(refine kk ?_;intros)|refine kfk ?_ ?_<;>intro hb|fail)
  exact ker0 rfl
instance hasKind_c:Con1 Tryz.prog 111 G vG (fun g=>bp (∃ x∈g.pre,isN x)) GvP:=⟨fun g hg=>by
 have hh:Spec Tryz.prog 158 [vG g,.one (.v (.func (.func 159) #[] #[]))] [] fun v A'=>v=bp (∃ x∈g.pre,isN x)∧A'=[]:=by
  refine sp Tryz.func158 rfl Tryz.ntmps158 rfl rfl fun C=>?_
  (repeat' first|(refine kkS [170] [] ?_;intros)|refine kfS [170] [] ?_ ?_<;>intro hb|fail)
  rename_i b2 b3 b5
  refine kcs (A1:=[abox b2 (encG g.gl) 59]) (h:=eachGoal_c (g:=202) (cap:=[.pointer (some ⟨b5,0,none⟩),.pointer (some ⟨b3,0,none⟩)]) (by rfl) (fun l A'=>A'=[bbox b5 (decide (∃ x∈l,isN x)),abox b3 [.v (.func (.func 159) #[] #[])] 223]) g.nodes g [] _ (Nat.le_refl _) hg.kids ?_ rfl) ?_ (hA:=by
   rw [show decide (∃ x∈([]:List G),isN x)=false by simp]
   exact List.perm_append_comm (l₁:=[_,_]) (l₂:=[_]))
  ·rintro l v A hv rfl
   have h:=hasKind1_c b3 b5 (decide (∃ x∈l,isN x)) v
   rwa [show (decide (∃ x∈l,isN x) || decide (isN v))=decide (∃ x∈l++[v],isN x) by
    rw [Bool.eq_iff_iff]
    simp only [Bool.or_eq_true,decide_eq_true_eq,List.mem_append,List.mem_singleton]
    constructor
    ·rintro (⟨x,h1,h2⟩|h)
     ·exact ⟨x,.inl h1,h2⟩
     ·exact ⟨v,.inr rfl,h⟩
    ·rintro ⟨x,h1|rfl,h2⟩
     ·exact .inl ⟨x,h1,h2⟩
     ·exact .inr h2] at h
  ·rintro _ A' rfl
   (repeat' first|(refine kk ?_;intros)|refine kfk ?_ ?_<;>intro hb|fail)
   exact ker1 _ ⟨rfl,rfl⟩ (hle:=le_eq (congrArg bv (decide_eq_decide.2 (by rw [List.nil_append]))))
 refine Spec.pu ?_
 refine sp Tryz.func111 rfl Tryz.ntmps111 rfl rfl fun C=>?_
 (repeat' first|(refine kk ?_;intros)|refine kfk ?_ ?_<;>intro hb|fail)
 rename_i b1
 refine kcs (A1:=[abox b1 (encG g.gl) 59]) (h:=hh) ?_
 rintro _ _ ⟨rfl,rfl⟩
 (repeat' first|(refine kk ?_;intros)|refine kfk ?_ ?_<;>intro hb|fail)
 exact ker1 _ ⟨rfl,rfl⟩⟩
end
end Go.Proofs.YtejkllmoofdpjaaGreat
