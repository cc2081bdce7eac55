/- Parts of the proof: VU2 VU3 V05. -/
import Derived.Test.YtejkllmoofdpjaaGreatD6
namespace Go.Proofs.YtejkllmoofdpjaaGreat
open Go
set_option linter.all false
set_option maxRecDepth 100000
set_option maxHeartbeats 4000000
abbrev Sb:=List (Nat × T)
def getS:Sb→Nat→Option T
 | [],_=>none
 | (v,t)::s,x=>if v=x then some t else getS s x
def Asc (s:Sb):Prop:=s.Pairwise fun a b=>a.1 < b.1
theorem getS_none:∀ {s:Sb} {v:Nat},(∀ x∈s,x.1≠v)→getS s v=none
 | [],_,_=>rfl
 | (u,t)::s,v,h=>by
  unfold getS
  rw [if_neg (h (u,t) (by simp))]
  exact getS_none fun x hx=>h x (by simp [hx])
theorem Asc.lt {s:Sb} (h:Asc s) {i j:Nat} {x y:Nat × T} (hi:s[i]?=some x) (hj:s[j]?=some y) (hij:i < j):x.1 < y.1:=by
 obtain ⟨h1,rfl⟩:=List.getElem?_eq_some_iff.1 hi
 obtain ⟨h2,rfl⟩:=List.getElem?_eq_some_iff.1 hj
 exact List.pairwise_iff_getElem.1 h i j h1 h2 hij
def suOf (s:Sb):Su:=fun v=>(getS s v).getD (.var v)
def Bnd (σ:Su) (v:Nat):Prop:=σ v≠.var v
def Big (σ:Su):Prop:=(∃ v,Bnd σ v∧5000 < (σ v).nodes)∨∃ l:List Nat,l.Nodup∧400 < l.length∧∀ v∈l,Bnd σ v
theorem nodes_sub (σ:Su):∀ t:T,t.nodes≤(t.sub σ).nodes
 | .pair a b=>by have:=nodes_sub σ a;have:=nodes_sub σ b;simp only [T.sub,T.nodes];omega
 | .var _=>nodes_pos _
 | .nil=>Nat.le_refl _
 | .sym _=>Nat.le_refl _
 | .num _=>Nat.le_refl _
section
variable {U U':Su→Prop} {σ σ':Su}
theorem Can.bnd (h:Can U σ) (h':Can U' σ') (hs:∀ τ,U' τ→U τ) {v:Nat} (hb:Bnd σ v):Bnd σ' v:=by
 intro e
 have g:=h.gen σ' (hs _ h'.sol) v
 cases hv:σ v with
 | var u=>
  rw [hv,e] at g
  have g:σ' u=.var v:=g
  have:=h'.ori u v g
  have:=h.ori v u hv
  exact hb (by rw [hv,show u=v by omega])
 | nil=>rw [hv,e] at g;cases g
 | sym s=>rw [hv,e] at g;cases g
 | num n=>rw [hv,e] at g;cases g
 | pair a b=>rw [hv,e] at g;cases g
def Fails (U:Su→Prop):Prop:=∀ (U':Su→Prop) (σ':Su),(∀ τ,U' τ→U τ)→Can U' σ'→Big σ'
theorem Fails.mono (h:Fails U) (hs:∀ τ,U' τ→U τ):Fails U':=fun U'' σ' h1 h2=>h U'' σ' (fun τ ht=>hs τ (h1 τ ht)) h2
theorem Fails.of_none (h:∀ τ,¬ U τ):Fails U:=fun _ σ' hs hc=>absurd (hs _ hc.sol) (h σ')
end
def insS:Sb→Nat→T→Sb
 | [],v,x=>[(v,x)]
 | (w,t)::s,v,x=>if v < w then (v,x)::(w,t)::s else (w,t)::insS s v x
def putT (v:Nat) (x:T) (t:T):T:=t.sub fun u=>if u=v then x else .var u
def occB (v:Nat):T→Bool
 | .var n=>decide (n=v)
 | .pair a b=>occB v a || occB v b
 | _=>false
theorem occB_iff {v:Nat}:∀ {t:T},occB v t=true↔t.Occ v
 | .var n=>by simp [occB,T.Occ]
 | .pair a b=>by simp [occB,T.Occ,occB_iff (t:=a),occB_iff (t:=b)]
 | .nil=>by simp [occB,T.Occ]
 | .sym _=>by simp [occB,T.Occ]
 | .num _=>by simp [occB,T.Occ]
def bindP (s:Sb) (v:Nat) (t:T):Option Sb:=
 if (t.sub (suOf s)).nodes≤5000∧occB v (t.sub (suOf s))=false∧s.length < 400 then
  (if (s.all fun b=>decide ((putT v (t.sub (suOf s)) b.2).nodes≤5000))=true then some (insS (s.map fun b=>(b.1,putT v (t.sub (suOf s)) b.2)) v (t.sub (suOf s))) else none) else none
theorem getS_ins {v:Nat} {x:T} (w:Nat):∀ {s:Sb},getS s v=none→getS (insS s v x) w=if w=v then some x else getS s w
 | [],_=>by
  simp only [insS,getS]
  by_cases h:v=w
  ·rw [if_pos h,if_pos h.symm]
  ·rw [if_neg h,if_neg fun e=>h e.symm]
 | (u,t)::s,hn=>by
  simp only [getS] at hn
  split at hn
  ·cases hn
  ·rename_i huv
   simp only [insS]
   split
   ·simp only [getS]
    by_cases h:v=w
    ·rw [if_pos h,if_pos h.symm]
    ·rw [if_neg h,if_neg (fun e=>h e.symm:¬ w=v)]
   ·simp only [getS,getS_ins w hn]
    by_cases h:u=w
    ·rw [if_pos h,if_neg (by omega),if_pos h]
    ·rw [if_neg h,if_neg h]
theorem getS_map {f:T→T} (w:Nat):∀ {s:Sb},getS (s.map fun b=>(b.1,f b.2)) w=(getS s w).map f
 | []=>rfl
 | (u,t)::s=>by
  simp only [List.map_cons,getS,getS_map w (s:=s)]
  split<;>rfl
theorem suOf_bind {s:Sb} {v:Nat} {x:T} (hv:getS s v=none):suOf (insS (s.map fun b=>(b.1,putT v x b.2)) v x)=bindS (suOf s) v x:=by
 funext w
 show (getS (insS (s.map fun b=>(b.1,putT v x b.2)) v x) w).getD (.var w)=((getS s w).getD (.var w)).sub fun u=>if u=v then x else .var u
 rw [getS_ins w (by rw [getS_map,hv];rfl),getS_map]
 by_cases h:w=v
 ·subst h
  rw [if_pos rfl,hv]
  simp [T.sub]
 ·rw [if_neg h]
  cases hg:getS s w with
  | none=>simp [T.sub,h]
  | some t=>simp [putT]
theorem length_ins {v:Nat} {x:T}:∀ {s:Sb},(insS s v x).length=s.length+1
 | []=>rfl
 | (u,t)::s=>by
  simp only [insS]
  split
  ·rfl
  ·simp [length_ins (s:=s)]
theorem mem_ins {v:Nat} {x:T} {y:Nat × T}:∀ {s:Sb},y∈insS s v x↔y=(v,x)∨y∈s
 | []=>by simp [insS]
 | (u,t)::s=>by
  simp only [insS]
  split
  ·simp
  ·simp only [List.mem_cons,mem_ins (s:=s)]
   constructor
   ·rintro (h|h|h)
    ·exact .inr (.inl h)
    ·exact .inl h
    ·exact .inr (.inr h)
   ·rintro (h|h|h)
    ·exact .inr (.inl h)
    ·exact .inl h
    ·exact .inr (.inr h)
theorem asc_ins {v:Nat} {x:T}:∀ {s:Sb},Asc s→getS s v=none→Asc (insS s v x)
 | [],_,_=>by simp [insS,Asc]
 | (u,t)::s,h,hn=>by
  simp only [getS] at hn
  split at hn
  ·cases hn
  ·rename_i huv
   obtain ⟨h1,h2⟩:=List.pairwise_cons.1 h
   simp only [insS]
   split
   ·rename_i hlt
    refine List.pairwise_cons.2 ⟨fun y hy=>?_,h⟩
    rcases List.mem_cons.1 hy with rfl|hy
    ·exact hlt
    ·have:=h1 y hy;simp only at this ⊢;omega
   ·rename_i hlt
    refine List.pairwise_cons.2 ⟨fun y hy=>?_,asc_ins h2 hn⟩
    rcases mem_ins.1 hy with rfl|hy
    ·simp only;omega
    ·exact h1 y hy
structure Wf (s:Sb):Prop where
 asc:Asc s
 len:s.length≤400
 size:∀ b∈s,b.2.nodes≤5000
 bnd:∀ b∈s,Bnd (suOf s) b.1
theorem getS_in {v:Nat} {t:T}:∀ {s:Sb},getS s v=some t→(v,t)∈s
 | (u,t')::s,h=>by
  simp only [getS] at h
  split at h
  ·rename_i huv;cases h;subst huv;exact List.mem_cons_self
  ·exact List.mem_cons_of_mem _ (getS_in h)
theorem getS_at {v:Nat} {t:T}:∀ {s:Sb},Asc s→(v,t)∈s→getS s v=some t
 | (u,t')::s,ha,h=>by
  obtain ⟨h1,h2⟩:=List.pairwise_cons.1 ha
  simp only [getS]
  rcases List.mem_cons.1 h with h|h
  ·cases h;rw [if_pos rfl]
  ·have:=h1 _ h
   rw [if_neg (by simp only at this;omega)]
   exact getS_at h2 h
section
variable {U:Su→Prop} {s:Sb} {a b t:T} {v:Nat}
theorem bindP_ok (hU:Closed U) (hw:Wf s) (hc:Can U (suOf s)) (ha:a.sub (suOf s)=.var v) (hb:b.sub (suOf s)=t.sub (suOf s)) (hne:t.sub (suOf s)≠.var v) (ho:∀ u,t.sub (suOf s)=.var u→u < v) :
 match bindP s v t with
 | some s'=>Can (fun τ=>U τ∧a.sub τ=b.sub τ) (suOf s')∧Wf s'∧s'.length=s.length+1
 | none=>Fails fun τ=>U τ∧a.sub τ=b.sub τ:=by
 obtain ⟨x,hx⟩:∃ x,x=t.sub (suOf s):=⟨_,rfl⟩
 rw [← hx] at hb hne ho
 have hvf:suOf s v=.var v:=by
  have e:(a.sub (suOf s)).sub (suOf s)=a.sub (suOf s):=by rw [sub_sub];exact sub_congr fun w _=>hc.idem w
  rw [ha] at e;exact e
 have hvn:getS s v=none:=by
  cases hg:getS s v with
  | none=>rfl
  | some t'=>exact absurd hvf (hw.bnd _ (getS_in hg))
 -- what every solution says
 have eqv:∀ τ,U τ→a.sub τ=b.sub τ→τ v=x.sub τ:=fun τ h1 h2=>by
  have e1:=hc.closed_all (t:=a) h1
  have e2:=hc.closed_all (t:=b) h1
  rw [ha] at e1
  rw [hb] at e2
  rw [← e2,← h2,e1];rfl
 have eqs:∀ {U':Su→Prop} {σ'},(∀ τ,U' τ→U τ∧a.sub τ=b.sub τ)→Can U' σ'→σ' v=x.sub σ':=fun hs h'=>eqv _ (hs _ h'.sol).1 (hs _ h'.sol).2
 have bndv:∀ {U':Su→Prop} {σ'},(∀ τ,U' τ→U τ∧a.sub τ=b.sub τ)→Can U' σ'→Bnd σ' v:=fun hs h' e=>by
  have h1:=eqs hs h'
  rw [e] at h1
  cases hxx:x with
  | var u=>
   rw [hxx] at h1
   have:=ho u hxx
   have:=h'.ori u v (Eq.symm h1)
   omega
  | nil=>rw [hxx] at h1;cases h1
  | sym s=>rw [hxx] at h1;cases h1
  | num n=>rw [hxx] at h1;cases h1
  | pair c d=>rw [hxx] at h1;cases h1
 have bnds:∀ {U':Su→Prop} {σ'},(∀ τ,U' τ→U τ∧a.sub τ=b.sub τ)→Can U' σ'→∀ y∈s,Bnd σ' y.1:=fun hs h' y hy=>hc.bnd h' (fun τ h=>(hs τ h).1) (hw.bnd y hy)
 unfold bindP
 rw [← hx]
 by_cases h1:x.nodes≤5000
 rotate_left
 ·rw [if_neg fun h=>h1 h.1]
  exact fun U' σ' hs h'=>.inl ⟨v,bndv hs h',by rw [eqs hs h'];have:=nodes_sub σ' x;omega⟩
 by_cases h2:occB v x=true
 ·rw [if_neg fun h=>by rw [h2] at h;exact absurd h.2.1 (by simp)]
  exact Fails.of_none fun τ ht=>hc.none ha hb (occB_iff.1 h2) hne τ ht.1 ht.2
 have hocc:¬ x.Occ v:=fun h=>h2 (occB_iff.2 h)
 by_cases h3:s.length < 400
 rotate_left
 ·rw [if_neg fun h=>h3 h.2.2]
  refine fun U' σ' hs h'=>.inr ⟨v::s.map (·.1),?_,by simp;omega,fun w hw'=>?_⟩
  ·refine List.nodup_cons.2 ⟨fun hm=>?_,?_⟩
   ·obtain ⟨y,hy,rfl⟩:=List.mem_map.1 hm
    exact hw.bnd y hy hvf
   ·exact (List.pairwise_map.2 (hw.asc.imp fun h=>Nat.ne_of_lt h))
  ·rcases List.mem_cons.1 hw' with rfl|hm
   ·exact bndv hs h'
   ·obtain ⟨y,hy,rfl⟩:=List.mem_map.1 hm
    exact bnds hs h' y hy
 rw [if_pos ⟨h1,by simpa using h2,h3⟩]
 by_cases h4:(s.all fun b=>decide ((putT v x b.2).nodes≤5000))=true
 rotate_left
 ·rw [if_neg h4]
  intro U' σ' hs h'
  have:∃ y∈s,5000 < (putT v x y.2).nodes:=by
   simp only [List.all_eq_true,decide_eq_true_eq] at h4
   false_or_by_contra
   rename_i hn
   exact h4 fun y hy=>Nat.not_lt.1 fun hlt=>hn ⟨y,hy,hlt⟩
  obtain ⟨y,hy,hlt⟩:=this
  refine .inl ⟨y.1,bnds hs h' y hy,Nat.lt_of_lt_of_le hlt ?_⟩
  have e1:σ' y.1=y.2.sub σ':=by
   rw [← hc.gen σ' (hs _ h'.sol).1 y.1]
   show ((getS s y.1).getD _).sub σ'=_
   rw [getS_at hw.asc (by exact hy)];rfl
  have e2:(putT v x y.2).sub σ'=y.2.sub σ':=by
   unfold putT
   rw [sub_sub]
   refine sub_congr fun w _=>?_
   by_cases hwv:w=v
   ·subst hwv;rw [if_pos rfl];exact (eqs hs h').symm
   ·rw [if_neg hwv];rfl
  rw [e1,← e2]
  exact nodes_sub _ _
 rw [if_pos h4]
 have hcan:Can (fun τ=>U τ∧a.sub τ=b.sub τ) (suOf (insS (s.map fun b=>(b.1,putT v x b.2)) v x)):=by
  rw [suOf_bind hvn]
  exact hc.bind hU ha hb hocc ho
 refine ⟨hcan,⟨?_,?_,?_,?_⟩,by rw [length_ins,List.length_map]⟩
 ·exact asc_ins (List.pairwise_map.2 hw.asc) (by rw [getS_map,hvn];rfl)
 ·rw [length_ins,List.length_map];omega
 ·intro y hy
  rcases mem_ins.1 hy with rfl|hy
  ·exact h1
  ·obtain ⟨z,hz,rfl⟩:=List.mem_map.1 hy
   simpa using List.all_eq_true.1 h4 z hz
 ·intro y hy
  rcases mem_ins.1 hy with rfl|hy
  ·exact bndv (fun _ h=>h) hcan
  ·obtain ⟨z,hz,rfl⟩:=List.mem_map.1 hy
   exact bnds (fun _ h=>h) hcan z hz
end
def walkP (s:Sb):T→T
 | .var n=>(getS s n).getD (.var n)
 | t=>t
theorem walk_sub {U:Su→Prop} {s:Sb} (hc:Can U (suOf s)):∀ t:T,(walkP s t).sub (suOf s)=t.sub (suOf s)
 | .var n=>hc.idem n
 | .nil=>rfl
 | .sym _=>rfl
 | .num _=>rfl
 | .pair _ _=>rfl
theorem walk_var {U:Su→Prop} {s:Sb} (hc:Can U (suOf s)) {t:T} {n:Nat} (h:walkP s t=.var n):t.sub (suOf s)=.var n∧suOf s n=.var n:=by
 cases t with
 | var m=>
  have h:suOf s m=.var n:=h
  have e:=hc.idem m
  rw [h] at e
  exact ⟨h,e⟩
 | nil=>cases h
 | sym s=>cases h
 | num n=>cases h
 | pair a b=>cases h
def UniR (U:Su→Prop) (s:Sb) (a b:T):Option Sb→Prop
 | some s'=>Can (fun τ=>U τ∧a.sub τ=b.sub τ) (suOf s')∧Wf s'∧(s'=s∨s.length < s'.length)
 | none=>Fails fun τ=>U τ∧a.sub τ=b.sub τ
theorem Closed.eq {U:Su→Prop} (h:Closed U) (a b:T):Closed fun τ=>U τ∧a.sub τ=b.sub τ:=fun τ ρ ht=>⟨h τ ρ ht.1,by rw [← sub_sub,← sub_sub,ht.2]⟩
theorem bindR {U:Su→Prop} {s:Sb} {a b t:T} {v:Nat} (hU:Closed U) (hw:Wf s) (hc:Can U (suOf s)) (ha:a.sub (suOf s)=.var v) (hb:b.sub (suOf s)=t.sub (suOf s)) (hne:t.sub (suOf s)≠.var v) (ho:∀ u,t.sub (suOf s)=.var u→u < v) :
 UniR U s a b (bindP s v t):=by
 have h:=bindP_ok hU hw hc ha hb hne ho
 cases hp:bindP s v t with
 | none=>rw [hp] at h;exact h
 | some s'=>rw [hp] at h;exact ⟨h.1,h.2.1,.inr (by rw [h.2.2];exact Nat.lt_succ_self _)⟩
theorem UniR.swap {U:Su→Prop} {s:Sb} {a b:T} {r:Option Sb} (h:UniR U s a b r):UniR U s b a r:=by
 cases r with
 | none=>exact Fails.mono h fun τ ht=>⟨ht.1,ht.2.symm⟩
 | some s'=>exact ⟨h.1.congr fun τ=>⟨fun h=>⟨h.1,h.2.symm⟩,fun h=>⟨h.1,h.2.symm⟩⟩,h.2⟩
theorem UniR.clash {U:Su→Prop} {s:Sb} {a b:T} (hc:Can U (suOf s)) (h:∀ τ,(a.sub (suOf s)).sub τ≠(b.sub (suOf s)).sub τ):UniR U s a b none:=
 Fails.of_none fun τ ht=>h τ (by rw [← hc.closed_all ht.1,← hc.closed_all ht.1];exact ht.2)
theorem UniR.same {U:Su→Prop} {s:Sb} {a b:T} (hw:Wf s) (hc:Can U (suOf s)) (h:a.sub (suOf s)=b.sub (suOf s)):UniR U s a b (some s):=⟨hc.same h,hw,.inl rfl⟩
section
variable {U:Su→Prop} {s:Sb} {a b:T}
theorem uni_var (hU:Closed U) (hw:Wf s) (hc:Can U (suOf s)) {n:Nat} {y:T} (ha:walkP s a=.var n) (hb:walkP s b=y) (hne:y≠.var n) (ho:∀ u,y=.var u→u < n):UniR U s a b (bindP s n y):=by
 obtain ⟨ha1,ha2⟩:=walk_var hc ha
 have hby:b.sub (suOf s)=y.sub (suOf s):=by rw [← hb,walk_sub hc]
 have hy:∀ u,y.sub (suOf s)=.var u→y=.var u:=by
  intro u hu
  cases y with
  | var m=>
   obtain ⟨_,h2⟩:=walk_var hc hb
   have hu:suOf s m=.var u:=hu
   rw [h2] at hu;exact hu
  | nil=>cases hu
  | sym i=>cases hu
  | num i=>cases hu
  | pair c d=>cases hu
 exact bindR hU hw hc ha1 hby (fun e=>hne (hy n e)) fun u hu=>ho u (hy u hu)
theorem uni_pair_none (hc:Can U (suOf s)) {a1 a2 b1 b2:T} (ha:walkP s a=.pair a1 a2) (hb:walkP s b=.pair b1 b2) :
 ∀ τ,U τ→(a.sub τ=b.sub τ↔a1.sub τ=b1.sub τ∧a2.sub τ=b2.sub τ):=fun τ ht=>by
 have wa:=walk_sub hc a
 have wb:=walk_sub hc b
 rw [ha] at wa
 rw [hb] at wb
 have e1:a.sub τ=.pair (a1.sub τ) (a2.sub τ):=by rw [hc.closed_all ht,← wa,← hc.closed_all ht];rfl
 have e2:b.sub τ=.pair (b1.sub τ) (b2.sub τ):=by rw [hc.closed_all ht,← wb,← hc.closed_all ht];rfl
 rw [e1,e2,T.pair.injEq]
theorem uni_clash (hc:Can U (suOf s)) {x y:T} (ha:walkP s a=x) (hb:walkP s b=y) (h:∀ τ,x.sub τ≠y.sub τ):UniR U s a b none:=
 UniR.clash hc fun τ=>by rw [← walk_sub hc a,← walk_sub hc b,ha,hb,sub_sub,sub_sub];exact h _
theorem uni_same (hw:Wf s) (hc:Can U (suOf s)) {x:T} (ha:walkP s a=x) (hb:walkP s b=x):UniR U s a b (some s):=
 UniR.same hw hc (by rw [← walk_sub hc a,← walk_sub hc b,ha,hb])
theorem uni_step (hc:Can U (suOf s)) {a1 a2 b1 b2:T} {s1:Sb} {r:Option Sb} (hp:∀ τ,U τ→(a.sub τ=b.sub τ↔a1.sub τ=b1.sub τ∧a2.sub τ=b2.sub τ)) (h1:UniR U s a1 b1 (some s1)) (h2:UniR (fun τ=>U τ∧a1.sub τ=b1.sub τ) s1 a2 b2 r):UniR U s a b r:=by
 obtain ⟨hc1,hw1,hs1⟩:=h1
 cases r with
 | none=>exact Fails.mono h2 fun τ ht=>⟨⟨ht.1,((hp τ ht.1).1 ht.2).1⟩,((hp τ ht.1).1 ht.2).2⟩
 | some s2=>
  obtain ⟨hc2,hw2,hs2⟩:=h2
  refine ⟨hc2.congr fun τ=>⟨fun h=>⟨h.1.1,(hp τ h.1.1).2 ⟨h.1.2,h.2⟩⟩,fun h=>⟨⟨h.1,((hp τ h.1).1 h.2).1⟩,((hp τ h.1).1 h.2).2⟩⟩,hw2,?_⟩
  rcases hs1 with rfl|hs1
  ·exact hs2
  ·rcases hs2 with rfl|hs2
   ·exact .inr hs1
   ·exact .inr (Nat.lt_trans hs1 hs2)
theorem uni_fail {a1 a2 b1 b2:T} (hp:∀ τ,U τ→(a.sub τ=b.sub τ↔a1.sub τ=b1.sub τ∧a2.sub τ=b2.sub τ)) (h1:UniR U s a1 b1 none):UniR U s a b none:=
 Fails.mono h1 fun τ ht=>⟨ht.1,((hp τ ht.1).1 ht.2).1⟩
end
theorem uni_dec {U:Su→Prop} {s s1:Sb} {a a1 a2:T} (hc:Can U (suOf s)) (ha:walkP s a=.pair a1 a2) (hw1:Wf s1) (hs:s1=s∨s.length < s1.length) :
 400 - s1.length < 400 - s.length∨400 - s1.length=400 - s.length∧(a2.sub (suOf s1)).nodes < (a.sub (suOf s)).nodes:=by
 have wa:=walk_sub hc a
 rw [ha] at wa
 have hn:(a.sub (suOf s)).nodes=1+(a1.sub (suOf s)).nodes+(a2.sub (suOf s)).nodes:=by rw [← wa];rfl
 rcases hs with rfl|hlt
 ·exact .inr ⟨rfl,by have:=nodes_pos (a1.sub (suOf s1));omega⟩
 ·have:=hw1.len;exact .inl (by omega)
theorem uni_dec1 {U:Su→Prop} {s:Sb} {a a1 a2:T} (hc:Can U (suOf s)) (ha:walkP s a=.pair a1 a2):(a1.sub (suOf s)).nodes < (a.sub (suOf s)).nodes:=by
 have wa:=walk_sub hc a
 rw [ha] at wa
 have hn:(a.sub (suOf s)).nodes=1+(a1.sub (suOf s)).nodes+(a2.sub (suOf s)).nodes:=by rw [← wa];rfl
 have:=nodes_pos (a2.sub (suOf s));omega
theorem uni_ex {U:Su→Prop} (hU:Closed U) {s:Sb} (hw:Wf s) (hc:Can U (suOf s)) (a b:T):∃ r,UniR U s a b r:=by
 cases ha:walkP s a with
 | var n=>
  cases hb:walkP s b with
  | var m=>
   rcases Nat.lt_trichotomy n m with h|h|h
   ·exact ⟨_,(uni_var hU hw hc hb ha (by simp;omega) (by intro u hu;cases hu;exact h)).swap⟩
   ·subst h;exact ⟨_,uni_same hw hc ha hb⟩
   ·exact ⟨_,uni_var hU hw hc ha hb (by simp;omega) (by intro u hu;cases hu;exact h)⟩
  | _=>exact ⟨_,uni_var hU hw hc ha hb (by simp) (by intro u hu;cases hu)⟩
 | nil=>
  cases hb:walkP s b with
  | var m=>exact ⟨_,(uni_var hU hw hc hb ha (by simp) (by intro u hu;cases hu)).swap⟩
  | nil=>exact ⟨_,uni_same hw hc ha hb⟩
  | _=>exact ⟨_,uni_clash hc ha hb fun τ=>by simp [T.sub]⟩
 | sym j=>
  cases hb:walkP s b with
  | var m=>exact ⟨_,(uni_var hU hw hc hb ha (by simp) (by intro u hu;cases hu)).swap⟩
  | sym i=>
   by_cases h:j=i
   ·subst h;exact ⟨_,uni_same hw hc ha hb⟩
   ·exact ⟨_,uni_clash hc ha hb fun τ=>by simp [T.sub,h]⟩
  | _=>exact ⟨_,uni_clash hc ha hb fun τ=>by simp [T.sub]⟩
 | num j=>
  cases hb:walkP s b with
  | var m=>exact ⟨_,(uni_var hU hw hc hb ha (by simp) (by intro u hu;cases hu)).swap⟩
  | num i=>
   by_cases h:j=i
   ·subst h;exact ⟨_,uni_same hw hc ha hb⟩
   ·exact ⟨_,uni_clash hc ha hb fun τ=>by simp [T.sub,h]⟩
  | _=>exact ⟨_,uni_clash hc ha hb fun τ=>by simp [T.sub]⟩
 | pair a1 a2=>
  cases hb:walkP s b with
  | var m=>exact ⟨_,(uni_var hU hw hc hb ha (by simp) (by intro u hu;cases hu)).swap⟩
  | pair b1 b2=>
   have hp:=uni_pair_none hc ha hb
   have d1:=uni_dec1 hc ha
   obtain ⟨r1,hr1⟩:=uni_ex hU hw hc a1 b1
   cases r1 with
   | none=>exact ⟨none,uni_fail hp hr1⟩
   | some s1=>
    have dec:=uni_dec hc ha hr1.2.1 hr1.2.2
    obtain ⟨r2,hr2⟩:=uni_ex (hU.eq a1 b1) hr1.2.1 hr1.1 a2 b2
    exact ⟨r2,uni_step hc hp hr1 hr2⟩
  | _=>exact ⟨_,uni_clash hc ha hb fun τ=>by simp [T.sub]⟩
termination_by (400 - s.length,(a.sub (suOf s)).nodes)
decreasing_by
 ·exact Prod.Lex.right _ d1
 ·rcases dec with h | ⟨h1,h2⟩
  ·exact Prod.Lex.left _ _ h
  ·rw [h1];exact Prod.Lex.right _ h2
theorem sorted_ext {α:Type} {r:α→α→Prop} (irr:∀ a,¬ r a a) (tr:∀ a b c,r a b→r b c→r a c):∀ {l l':List α},l.Pairwise r→l'.Pairwise r→(∀ x,x∈l↔x∈l')→l=l'
 | [],[],_,_,_=>rfl
 | [],b::l',_,_,h=>absurd ((h b).2 (by simp)) (by simp)
 | a::l,[],_,_,h=>absurd ((h a).1 (by simp)) (by simp)
 | a::l,b::l',h1,h2,h=>by
  obtain ⟨p1,p2⟩:=List.pairwise_cons.1 h1
  obtain ⟨q1,q2⟩:=List.pairwise_cons.1 h2
  have hab:a=b:=by
   rcases List.mem_cons.1 ((h a).1 (by simp)) with e|e
   ·exact e
   rcases List.mem_cons.1 ((h b).2 (by simp)) with e'|e'
   ·exact e'.symm
   exact absurd (tr _ _ _ (p1 b e') (q1 a e)) (irr a)
  subst hab
  congr 1
  refine sorted_ext irr tr p2 q2 fun x=>⟨fun hx=>?_,fun hx=>?_⟩
  ·rcases List.mem_cons.1 ((h x).1 (by simp [hx])) with e|e
   ·subst e;exact absurd (p1 x hx) (irr x)
   ·exact e
  ·rcases List.mem_cons.1 ((h x).2 (by simp [hx])) with e|e
   ·subst e;exact absurd (q1 x hx) (irr x)
   ·exact e
theorem nodup_len {α:Type} [DecidableEq α]:∀ {l m:List α},l.Nodup→(∀ x∈l,x∈m)→l.length≤m.length
 | [],_,_,_=>Nat.zero_le _
 | a::l,m,h,hs=>by
  obtain ⟨h1,h2⟩:=List.nodup_cons.1 h
  have ham:a∈m:=hs a (by simp)
  have:=nodup_len (l:=l) (m:=m.erase a) h2 fun x hx=>(List.mem_erase_of_ne (fun e=>h1 (by rw [← e];exact hx))).2 (hs x (by simp [hx]))
  rw [List.length_erase_of_mem ham] at this
  have hp:=List.length_pos_of_mem ham
  simp only [List.length_cons];omega
def eqs (s:Sb) (l:List (T × T)):Su→Prop:=fun τ=>(∀ b∈s,τ b.1=b.2.sub τ)∧∀ e∈l,e.1.sub τ=e.2.sub τ
theorem eqs_closed (s:Sb) (l:List (T × T)):Closed (eqs s l):=fun τ ρ h=>
 ⟨fun b hb=>by show (τ b.1).sub ρ=_;rw [h.1 b hb,sub_sub],fun e he=>by rw [← sub_sub,← sub_sub,h.2 e he]⟩
theorem eqs_snoc {s:Sb} {l:List (T × T)} {a b:T} {τ:Su}:eqs s (l++[(a,b)]) τ↔eqs s l τ∧a.sub τ=b.sub τ:=by
 unfold eqs
 simp only [List.mem_append,List.mem_singleton]
 constructor
 ·rintro ⟨h1,h2⟩
  exact ⟨⟨h1,fun e he=>h2 e (.inl he)⟩,h2 _ (.inr rfl)⟩
 ·rintro ⟨⟨h1,h2⟩,h3⟩
  exact ⟨h1,fun e he=>he.elim (h2 e) fun he=>by subst he;exact h3⟩
theorem eqs_one {s:Sb} {a b:T} {τ:Su}:eqs s [(a,b)] τ↔eqs s [] τ∧a.sub τ=b.sub τ:=eqs_snoc (l:=[])
structure Sok (s:Sb):Prop where
 asc:Asc s
 len:s.length≤400
 size:∀ b∈s,b.2.nodes≤5000
 ori:∀ b∈s,∀ u,b.2=.var u→u < b.1
 free:∀ b∈s,∀ v,b.2.Occ v→getS s v=none
theorem suOf_mem {s:Sb} (ha:Asc s) {b:Nat × T} (hb:b∈s):suOf s b.1=b.2:=by
 unfold suOf;rw [getS_at ha (show (b.1,b.2)∈s from hb)];rfl
theorem Sok.wf {s:Sb} (h:Sok s):Wf s:=⟨h.asc,h.len,h.size,fun b hb=>by
 unfold Bnd;rw [suOf_mem h.asc hb];intro e;exact absurd (h.ori b hb _ e) (Nat.lt_irrefl _)⟩
theorem Sok.can {s:Sb} (h:Sok s):Can (eqs s []) (suOf s):=by
 refine ⟨⟨fun b hb=>?_,by simp⟩,fun τ ht v=>?_,fun v u hv=>?_⟩
 ·rw [suOf_mem h.asc hb]
  refine (sub_fix fun v hv=>?_).symm
  unfold suOf;rw [h.free b hb v hv];rfl
 ·unfold suOf
  cases hg:getS s v with
  | none=>rfl
  | some t=>exact (ht.1 _ (getS_in hg)).symm
 ·unfold suOf at hv
  cases hg:getS s v with
  | none=>rw [hg] at hv;cases hv;exact Nat.le_refl _
  | some t=>rw [hg] at hv;exact Nat.le_of_lt (h.ori _ (getS_in hg) u hv)
theorem Wf.get {s:Sb} (hw:Wf s) (v:Nat):getS s v=none↔suOf s v=.var v:=by
 unfold suOf
 cases hg:getS s v with
 | none=>simp
 | some t=>
  have:=hw.bnd _ (getS_in hg)
  unfold Bnd at this
  rw [suOf_mem hw.asc (getS_in hg)] at this
  simp only [Option.getD_some,reduceCtorEq,false_iff]
  exact this
theorem Can.sok {U:Su→Prop} {s:Sb} (hc:Can U (suOf s)) (hw:Wf s):Sok s:=by
 refine ⟨hw.asc,hw.len,hw.size,fun b hb u hu=>?_,fun b hb v hv=>?_⟩
 ·have e:=suOf_mem hw.asc hb
  have:=hc.ori b.1 u (by rw [e,hu])
  rcases Nat.lt_or_ge u b.1 with h|h
  ·exact h
  ·have hub:u=b.1:=by omega
   exact absurd (by rw [e,hu,hub]) (hw.bnd b hb)
 ·have e:=suOf_mem hw.asc hb
  exact (hw.get v).2 (hc.fix (v:=b.1) (by rw [e];exact hv))
theorem suOf_inj {s s':Sb} (h:Wf s) (h':Wf s') (e:suOf s=suOf s'):s=s':=by
 have key:∀ {s s':Sb},Wf s→Wf s'→suOf s=suOf s'→∀ x∈s,x∈s':=by
  intro s s' h h' e x hx
  have h1:=suOf_mem h.asc hx
  have hb:=h.bnd x hx
  rw [e] at h1
  unfold Bnd at hb
  rw [e] at hb
  cases hg:getS s' x.1 with
  | none=>exact absurd ((h'.get x.1).1 hg) hb
  | some t=>
   have h2:=getS_in hg
   have h3:=suOf_mem h'.asc h2
   simp only at h3
   rw [h1] at h3
   rw [← h3] at h2
   exact h2
 exact sorted_ext (r:=fun a b:Nat × T=>a.1 < b.1) (fun a=>Nat.lt_irrefl _) (fun a b c=>Nat.lt_trans) h.asc h'.asc fun x=>⟨key h h' e x,key h' h e.symm x⟩
noncomputable def mg (U:Su→Prop):Option Sb:=open Classical in if h:∃ s,Can U (suOf s)∧Wf s then some (Classical.choose h) else none
theorem mg_some {U:Su→Prop} {s:Sb} (h:mg U=some s):Can U (suOf s)∧Wf s:=by
 unfold mg at h
 split at h
 ·rename_i h';cases h;exact Classical.choose_spec h'
 ·cases h
theorem mg_eq {U:Su→Prop} {s:Sb} (hc:Can U (suOf s)) (hw:Wf s):mg U=some s:=by
 unfold mg
 have h:∃ s,Can U (suOf s)∧Wf s:=⟨s,hc,hw⟩
 rw [dif_pos h]
 have h2:=Classical.choose_spec h
 rw [suOf_inj h2.2 hw (h2.1.unique hc)]
theorem Wf.small {s:Sb} (h:Wf s):¬ Big (suOf s):=by
 rintro (⟨v,h1,h2⟩ | ⟨l,h1,h2,h3⟩)
 ·cases hg:getS s v with
  | none=>exact h1 ((h.get v).1 hg)
  | some t=>
   have:=h.size _ (getS_in hg)
   have e:=suOf_mem h.asc (getS_in hg)
   simp only at e this
   rw [e] at h2;omega
 ·have:l.length≤(s.map (·.1)).length:=nodup_len h1 fun v hv=>by
   cases hg:getS s v with
   | none=>exact absurd ((h.get v).1 hg) (h3 v hv)
   | some t=>exact List.mem_map.2 ⟨_,getS_in hg,rfl⟩
  rw [List.length_map] at this
  have:=h.len;omega
theorem mg_fails {U:Su→Prop} (h:Fails U):mg U=none:=by
 cases hm:mg U with
 | none=>rfl
 | some s=>
  obtain ⟨h1,h2⟩:=mg_some hm
  exact absurd (h U _ (fun _ h=>h) h1) h2.small
theorem mg_congr {U U':Su→Prop} (h:∀ τ,U τ↔U' τ):mg U=mg U':=by rw [funext fun τ=>propext (h τ)]
theorem mg_sok {U:Su→Prop} {s:Sb} (h:mg U=some s):Sok s:=(mg_some h).1.sok (mg_some h).2
theorem Sok.mg {s:Sb} (h:Sok s):mg (eqs s [])=some s:=mg_eq h.can h.wf
theorem UniR.mg {U:Su→Prop} {s:Sb} {a b:T} {r:Option Sb} (h:UniR U s a b r):mg (fun τ=>U τ∧a.sub τ=b.sub τ)=r:=by
 cases r with
 | none=>exact mg_fails h
 | some s'=>exact mg_eq h.1 h.2.1
theorem can_iff {U:Su→Prop} {s:Sb} (hU:Closed U) (hc:Can U (suOf s)) (hw:Wf s) (τ:Su):U τ↔eqs s [] τ:=by
 have hk:=(hc.sok hw).can
 constructor
 ·intro h
  have:=eqs_closed s [] (suOf s) τ hk.sol
  rwa [show (fun v=>(suOf s v).sub τ)=τ from funext fun v=>hc.gen τ h v] at this
 ·intro h
  have:=hU (suOf s) τ hc.sol
  rwa [show (fun v=>(suOf s v).sub τ)=τ from funext fun v=>hk.gen τ h v] at this
theorem mg_next {U:Su→Prop} {s:Sb} (hU:Closed U) (h:mg U=some s) (a b:T):mg (fun τ=>U τ∧a.sub τ=b.sub τ)=mg (eqs s [(a,b)]):=
 mg_congr fun τ=>by rw [eqs_one,can_iff hU (mg_some h).1 (mg_some h).2]
theorem mg_dead {s:Sb} (hs:Sok s) {a b:T} (h:mg (eqs s [(a,b)])=none) {U':Su→Prop} (hm:∀ τ,U' τ→eqs s [(a,b)] τ):mg U'=none:=by
 obtain ⟨r,hr⟩:=uni_ex (eqs_closed s []) hs.wf hs.can a b
 have e:=hr.mg
 rw [← mg_congr fun τ=>eqs_one (s:=s) (a:=a) (b:=b) (τ:=τ),h] at e
 subst e
 exact mg_fails (Fails.mono hr fun τ ht=>eqs_one.1 (hm τ ht))
theorem mg_dead_all:∀ (l l':List (T × T)) {s:Sb},Sok s→mg (eqs s l)=none→mg (eqs s (l++l'))=none:=by
 intro l
 induction l with
 | nil=>intro l' s hs h;rw [hs.mg] at h;cases h
 | cons e l ih=>
  intro l' s hs h
  have sub:∀ {m:List (T × T)} {τ:Su},eqs s (e::m) τ→eqs s [e] τ:=fun h=>⟨h.1,fun x hx=>h.2 x (by simp at hx;simp [hx])⟩
  cases h1:mg (eqs s [e]) with
  | none=>exact mg_dead (a:=e.1) (b:=e.2) hs h1 fun τ ht=>sub ht
  | some s1=>
   have hs1:=mg_sok h1
   have key:∀ m,mg (eqs s (e::m))=mg (eqs s1 m):=fun m=>mg_congr fun τ=>by
    have:=can_iff (eqs_closed s [e]) (mg_some h1).1 (mg_some h1).2 τ
    constructor
    ·intro h;exact ⟨(this.1 (sub h)).1,fun x hx=>h.2 x (by simp [hx])⟩
    ·intro h
     have h2:=this.2 ⟨h.1,by simp⟩
     exact ⟨h2.1,fun x hx=>by
      rcases List.mem_cons.1 hx with rfl|hx
      ·exact h2.2 _ (by simp)
      ·exact h.2 x hx⟩
   rw [List.cons_append,key]
   rw [key] at h
   exact ih l' hs1 h
theorem mg_snoc {s s1:Sb} {l:List (T × T)} (h:mg (eqs s l)=some s1) (a b:T):mg (eqs s (l++[(a,b)]))=mg (eqs s1 [(a,b)]):=by
 rw [← mg_next (eqs_closed s l) h a b]
 exact mg_congr fun τ=>eqs_snoc
theorem Can.supp {U:Su→Prop} {σ:Su} (h:Can U σ) (V:Nat→Prop) (hV:∀ τ τ':Su,(∀ v,V v→τ v=τ' v)→U τ→U τ') {v:Nat} (hv:¬ V v):σ v=.var v:=by
 false_or_by_contra
 rename_i hn
 have hno:¬ (σ v).Occ v:=fun ho=>hn (h.fix ho)
 have key:∀ X:T,(σ v).sub (fun w=>if w=v then X else σ w)=X:=fun X=>by
  have:=h.gen (fun w=>if w=v then X else σ w) (hV σ _ (fun w hw=>by rw [if_neg];rintro rfl;exact hv hw) h.sol) v
  simpa using this
 have same:∀ X:T,(σ v).sub (fun w=>if w=v then X else σ w)=(σ v).sub σ:=fun X=>sub_congr fun w hw=>by rw [if_neg];rintro rfl;exact hno hw
 have e1:=(same .nil).symm.trans (key .nil)
 have e2:=(same (.num 0)).symm.trans (key (.num 0))
 rw [e1] at e2;cases e2
theorem Can.occ {U:Su→Prop} {σ:Su} (h:Can U σ) (V:Nat→Prop) (hV:∀ τ τ':Su,(∀ v,V v→τ v=τ' v)→U τ→U τ') (hU:Closed U) {v w:Nat} (hv:V v) (ho:(σ v).Occ w):V w:=by
 false_or_by_contra
 rename_i hw
 have hvw:v≠w:=by rintro rfl;exact hw hv
 have h1:=hU σ (fun u=>if u=w then .nil else .var u) h.sol
 have h2:=hV _ (fun u=>if u=w then .var w else (σ u).sub fun u=>if u=w then .nil else .var u) (fun u hu=>by rw [if_neg];rintro rfl;exact hw hu) h1
 have h3:=h.gen _ h2 v
 simp only [if_neg hvw] at h3
 have o1:((σ v).sub fun u=>if u=w then .var w else (σ u).sub fun u=>if u=w then .nil else .var u).Occ w:=occ_sub.2 ⟨w,ho,by rw [if_pos rfl];rfl⟩
 rw [h3] at o1
 obtain ⟨u,_,h5⟩:=occ_sub.1 o1
 by_cases hu:u=w
 ·rw [if_pos hu] at h5;exact h5.elim
 ·rw [if_neg hu] at h5;exact hu h5
def T.Lv (p:T→Prop):T→Prop
 | .pair a b=>a.Lv p∧b.Lv p
 | .var _=>True
 | t=>p t
noncomputable def T.cut (p:T→Prop):T→T:=open Classical in fun t=>match t with
 | .pair a b=>.pair (a.cut p) (b.cut p)
 | .var n=>.var n
 | .nil=>if p .nil then .nil else .var 0
 | .sym s=>if p (.sym s) then .sym s else .var 0
 | .num n=>if p (.num n) then .num n else .var 0
theorem cut_sub {p:T→Prop} {σ:Su}:∀ {t:T},t.Lv p→(t.sub σ).cut p=t.sub fun v=>(σ v).cut p
 | .pair a b,h=>by simp only [T.sub,T.cut,cut_sub h.1,cut_sub h.2]
 | .var _,_=>rfl
 | .nil,h=>by have h:p .nil:=h;simp [T.sub,T.cut,h]
 | .sym s,h=>by have h:p (.sym s):=h;simp [T.sub,T.cut,h]
 | .num n,h=>by have h:p (.num n):=h;simp [T.sub,T.cut,h]
theorem cut_lv {p:T→Prop}:∀ {t:T},(t.cut p).Lv p
 | .pair _ _=>⟨cut_lv,cut_lv⟩
 | .var _=>trivial
 | .nil=>by unfold T.cut;split<;>first|assumption|trivial
 | .sym s=>by unfold T.cut;split<;>first|assumption|trivial
 | .num n=>by unfold T.cut;split<;>first|assumption|trivial
theorem lv_of_sub {p:T→Prop} {σ:Su}:∀ {t:T},(t.sub σ).Lv p→t.Lv p
 | .pair _ _,h=>⟨lv_of_sub h.1,lv_of_sub h.2⟩
 | .var _,_=>trivial
 | .nil,h=>h
 | .sym _,h=>h
 | .num _,h=>h
theorem sub_lv {p:T→Prop} {σ:Su}:∀ {t:T},t.Lv p→(∀ v,t.Occ v→(σ v).Lv p)→(t.sub σ).Lv p
 | .pair _ _,h,hv=>⟨sub_lv h.1 fun v ho=>hv v (.inl ho),sub_lv h.2 fun v ho=>hv v (.inr ho)⟩
 | .var n,_,hv=>hv n rfl
 | .nil,h,_=>h
 | .sym _,h,_=>h
 | .num _,h,_=>h
theorem Can.lv {U:Su→Prop} {σ:Su} (h:Can U σ) (p:T→Prop) (hp:∀ τ,U τ→U fun v=>(τ v).cut p) (v:Nat):(σ v).Lv p:=by
 have h1:=h.gen _ (hp σ h.sol) v
 exact lv_of_sub (σ:=fun v=>(σ v).cut p) (by rw [h1];exact cut_lv)
def T.Fit (V:Nat→Prop) (p:T→Prop) (t:T):Prop:=(∀ v,t.Occ v→V v)∧t.Lv p
def SbFit (V:Nat→Prop) (p:T→Prop) (s:Sb):Prop:=∀ b∈s,V b.1∧b.2.Fit V p
theorem mg_fit {V:Nat→Prop} {p:T→Prop} {s:Sb} {l:List (T × T)} {s':Sb} (h:mg (eqs s l)=some s') (hs:SbFit V p s) (hl:∀ e∈l,e.1.Fit V p∧e.2.Fit V p):SbFit V p s':=by
 obtain ⟨hc,hw⟩:=mg_some h
 have hV:∀ τ τ':Su,(∀ v,V v→τ v=τ' v)→eqs s l τ→eqs s l τ':=fun τ τ' e ht=>⟨fun b hb=>by
  rw [← e _ (hs b hb).1,ht.1 b hb];exact sub_congr fun v hv=>e v ((hs b hb).2.1 v hv),fun x hx=>by
  rw [← sub_congr fun v hv=>e v ((hl x hx).1.1 v hv),← sub_congr fun v hv=>e v ((hl x hx).2.1 v hv),ht.2 x hx]⟩
 have hp:∀ τ,eqs s l τ→eqs s l fun v=>(τ v).cut p:=fun τ ht=>⟨fun b hb=>by
  show (τ b.1).cut p=_
  rw [ht.1 b hb,cut_sub (hs b hb).2.2],fun x hx=>by
  rw [← cut_sub (hl x hx).1.2,← cut_sub (hl x hx).2.2,ht.2 x hx]⟩
 intro b hb
 have e:=suOf_mem hw.asc hb
 have hbV:V b.1:=by
  false_or_by_contra
  rename_i hn
  exact hw.bnd b hb (hc.supp V hV hn)
 exact ⟨hbV,fun w ho=>hc.occ V hV (eqs_closed s l) hbV (by rw [e];exact ho),by rw [← e];exact hc.lv p hp b.1⟩
noncomputable section
def T.tm:T→Tm
 | .nil=>.mk 0 0 noS []
 | .var n=>.mk 1 n noS []
 | .sym s=>.mk 2 0 s []
 | .num n=>.mk 3 n noS []
 | .pair a b=>.mk 4 0 noS [a.tm,b.tm]
def leafP:T→Prop
 | .sym s=>NameP s
 | .num n=>-1000000000≤n∧n≤1000000000
 | _=>True
abbrev varP (v:Nat):Prop:=v≤100000
abbrev T.fit (t:T):Prop:=t.Fit varP leafP
structure T.okT (t:T):Prop where
 fit:t.fit
 size:t.nodes≤5000
theorem fit_pair {a b:T}:(T.pair a b).fit↔a.fit∧b.fit:=by
 constructor
 ·rintro ⟨h1,h2,h3⟩
  exact ⟨⟨fun v hv=>h1 v (.inl hv),h2⟩,⟨fun v hv=>h1 v (.inr hv),h3⟩⟩
 ·rintro ⟨⟨h1,h2⟩,⟨h3,h4⟩⟩
  exact ⟨fun v hv=>hv.elim (h1 v) (h3 v),h2,h4⟩
theorem fit_var {n:Nat}:(T.var n).fit↔n≤100000:=⟨fun h=>h.1 n rfl,fun h=>⟨fun v hv=>by have hv:n=v:=hv;subst hv;exact h,trivial⟩⟩
theorem fit_nil:T.nil.fit:=⟨fun _ h=>h.elim,trivial⟩
theorem fit_sym {s:ByteArray}:(T.sym s).fit↔NameP s:=⟨fun h=>h.2,fun h=>⟨fun _ h=>h.elim,h⟩⟩
theorem fit_num {n:Int}:(T.num n).fit↔-1000000000≤n∧n≤1000000000:=⟨fun h=>h.2,fun h=>⟨fun _ h=>h.elim,h⟩⟩
theorem wf_tm:∀ {t:Tm},t.wf→∃ u:T,t=u.tm∧u.fit
 | .mk k n s l,h=>by
  unfold Tm.wf at h
  rcases h with ⟨rfl,rfl,rfl,rfl⟩ | ⟨rfl,h,rfl,rfl⟩ | ⟨rfl,rfl,h,rfl⟩ | ⟨rfl,h,rfl,rfl⟩ | ⟨rfl,rfl,rfl,h,hw⟩
  ·exact ⟨.nil,rfl,fit_nil⟩
  ·exact ⟨.var n.toNat,by simp only [T.tm];rw [Int.toNat_of_nonneg h.1],fit_var.2 (by omega)⟩
  ·exact ⟨.sym s,rfl,fit_sym.2 h⟩
  ·exact ⟨.num n,rfl,fit_num.2 h⟩
  ·match l,h,hw with
   | [a,b],_,hw=>
    obtain ⟨ha,hb,_⟩:=hw
    obtain ⟨u,rfl,hu⟩:=wf_tm ha
    obtain ⟨v,rfl,hv⟩:=wf_tm hb
    exact ⟨.pair u v,rfl,fit_pair.2 ⟨hu,hv⟩⟩
theorem tm_wf:∀ {u:T},u.fit→u.tm.wf
 | .nil,_=>by simp [T.tm,Tm.wf]
 | .var n,h=>by have:=fit_var.1 h;simp [T.tm,Tm.wf];omega
 | .sym s,h=>by have:=fit_sym.1 h;simp [T.tm,Tm.wf,this]
 | .num n,h=>by have:=fit_num.1 h;simp [T.tm,Tm.wf];omega
 | .pair a b,h=>by
  have h:=fit_pair.1 h
  have h1:=tm_wf h.1
  have h2:=tm_wf h.2
  simp [T.tm,Tm.wf,wfL,h1,h2]
theorem tm_nodes:∀ (u:T),u.tm.nodes=u.nodes
 | .nil=>rfl
 | .var _=>rfl
 | .sym _=>rfl
 | .num _=>rfl
 | .pair a b=>by simp only [T.tm,Tm.nodes,nodesL,T.nodes,tm_nodes a,tm_nodes b];omega
theorem tm_inj:∀ {u v:T},u.tm=v.tm→u=v
 | .nil,v,h=>by cases v<;>simp [T.tm] at h<;>rfl
 | .var n,v,h=>by cases v<;>simp [T.tm] at h;rw [Int.ofNat_inj.1 h]
 | .sym n,v,h=>by cases v<;>simp [T.tm] at h;rw [h]
 | .num n,v,h=>by cases v<;>simp [T.tm] at h;rw [h]
 | .pair a b,v,h=>by
  cases v<;>simp [T.tm] at h
  rw [tm_inj h.1,tm_inj h.2]
theorem ok_iff {t:Tm}:t.ok↔∃ u:T,t=u.tm∧u.okT:=by
 constructor
 ·rintro ⟨h1,h2⟩
  obtain ⟨u,rfl,h3⟩:=wf_tm h1
  exact ⟨u,rfl,h3,by rw [← tm_nodes];exact h2⟩
 ·rintro ⟨u,rfl,h⟩
  exact ⟨tm_wf h.fit,by rw [tm_nodes];exact h.size⟩
theorem tm_ok {u:T}:u.tm.ok↔u.okT:=ok_iff.trans ⟨fun ⟨v,h1,h2⟩=>tm_inj h1▸h2,fun h=>⟨u,rfl,h⟩⟩
theorem noS_size:noS.size=0:=rfl
theorem tm_in:∀ {u:T},u.fit→u.tm.In
 | .nil,_=>by have:=noS_size;simp [T.tm,Tm.In,InL,this];omega
 | .var n,h=>by have:=fit_var.1 h;have:=noS_size;simp [T.tm,Tm.In,InL,this];omega
 | .sym s,h=>by have:=fit_sym.1 h;simp [T.tm,Tm.In,InL];have:=this.2.1;omega
 | .num n,h=>by have:=fit_num.1 h;have:=noS_size;simp [T.tm,Tm.In,InL,this];omega
 | .pair a b,h=>by
  have h:=fit_pair.1 h
  have h1:=tm_in h.1
  have h2:=tm_in h.2
  have:=noS_size
  simp [T.tm,Tm.In,InL,h1,h2,this];omega
abbrev vT (t:T):AV:=tv t.tm
abbrev vTs (l:List T):AV:=tsv (l.map T.tm)
theorem all_ok {l:List Tm} (h:∀ t∈l,t.ok):∃ m:List T,l=m.map T.tm∧∀ t∈m,t.okT:=by
 induction l with
 | nil=>exact ⟨[],rfl,by simp⟩
 | cons t l ih=>
  obtain ⟨u,rfl,hu⟩:=ok_iff.1 (h t (by simp))
  obtain ⟨m,rfl,hm⟩:=ih fun t ht=>h t (by simp [ht])
  exact ⟨u::m,rfl,fun t ht=>(List.mem_cons.1 ht).elim (fun e=>e▸hu) (hm t)⟩
abbrev toB (x:Nat × T):BdR:=((x.1:Int),x.2.tm)
abbrev vS (s:Sb):AV:=bsv (s.map toB)
structure Vok (s:Sb):Prop where
 len:s.length≤400
 asc:Asc s
 ok:∀ b∈s,b.1≤100000∧b.2.okT
theorem asc_of_next:∀ {s:Sb},(∀ i b b',s[i]?=some b→s[i+1]?=some b'→b.1 < b'.1)→Asc s
 | [],_=>.nil
 | [_],_=>List.pairwise_cons.2 ⟨by simp,.nil⟩
 | a::b::s,h=>by
  have h1:a.1 < b.1:=h 0 a b rfl rfl
  have h2:=asc_of_next (s:=b::s) fun i c c' hc hc'=>h (i+1) c c' (by simpa using hc) (by simpa using hc')
  refine List.pairwise_cons.2 ⟨fun x hx=>?_,h2⟩
  rcases List.mem_cons.1 hx with rfl|hx
  ·exact h1
  ·exact Nat.lt_trans h1 ((List.pairwise_cons.1 h2).1 x hx)
theorem vok_iff {r:List BdR}:VOk r↔∃ s:Sb,r=s.map toB∧Vok s:=by
 constructor
 ·rintro ⟨h1,h2,h3⟩
  have:∃ s:Sb,r=s.map toB∧∀ b∈s,b.1≤100000∧b.2.okT:=by
   clear h1 h3
   induction r with
   | nil=>exact ⟨[],rfl,by simp⟩
   | cons x r ih=>
    obtain ⟨⟨h4,h5⟩,h6⟩:=h2 x (by simp)
    obtain ⟨u,hu,hk⟩:=ok_iff.1 h6
    obtain ⟨s,rfl,hs⟩:=ih fun b hb=>h2 b (by simp [hb])
    refine ⟨(x.1.toNat,u)::s,?_,fun b hb=>?_⟩
    ·rw [List.map_cons];congr 1
     show x=((x.1.toNat:Int),u.tm)
     rw [Int.toNat_of_nonneg h4,← hu]
    ·rcases List.mem_cons.1 hb with rfl|hb
     ·exact ⟨by simp only;omega,hk⟩
     ·exact hs b hb
  obtain ⟨s,rfl,hs⟩:=this
  refine ⟨s,rfl,by simpa using h1,asc_of_next fun i b b' hb hb'=>?_,hs⟩
  have:=h3 i (toB b) (toB b') (by simp [hb]) (by simp [hb'])
  simp only at this;omega
 ·rintro ⟨s,rfl,h1,h2,h3⟩
  refine ⟨by simpa using h1,fun b hb=>?_,fun i b b' hb hb'=>?_⟩
  ·obtain ⟨x,hx,rfl⟩:=List.mem_map.1 hb
   have:=h3 x hx
   exact ⟨by simp only;omega,tm_ok.2 this.2⟩
  ·rw [List.getElem?_map] at hb hb'
   obtain ⟨x,hx,rfl⟩:=Option.map_eq_some_iff.1 hb
   obtain ⟨y,hy,rfl⟩:=Option.map_eq_some_iff.1 hb'
   have:=h2.lt hx hy (by omega)
   simp only;omega
theorem toB_inj {s s':Sb} (h:s.map toB=s'.map toB):s=s':=by
 refine List.map_inj_right (fun a b e=>?_) |>.1 h
 simp only [toB,Prod.mk.injEq] at e
 exact Prod.ext (by omega) (tm_inj e.2)
structure Sub (s:Sb):Prop where
 vok:Vok s
 sok:Sok s
end
end Go.Proofs.YtejkllmoofdpjaaGreat
