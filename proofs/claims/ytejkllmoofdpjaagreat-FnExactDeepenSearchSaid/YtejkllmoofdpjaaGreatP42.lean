/- Parts of the proof: VX0 VX1. -/
import Derived.Test.YtejkllmoofdpjaaGreatD32
namespace Go.Proofs.YtejkllmoofdpjaaGreat
open Go
set_option linter.all false
set_option maxRecDepth 100000
set_option maxHeartbeats 4000000
noncomputable section
open Classical
mutual
/-- a goal with other terms -/
def G.mapT (φ:T→T):G→G
 | .tru=>.tru
 | .fail=>.fail
 | .eq a b=>.eq (φ a) (φ b)
 | .ne a b=>.ne (φ a) (φ b)
 | .sy a=>.sy (φ a)
 | .nu a=>.nu (φ a)
 | .ab s a=>.ab s (φ a)
 | .all l=>.all (mapTL φ l)
 | .any l=>.any (mapTL φ l)
 | .call s l=>.call s (l.map φ)
 | .non s l=>.non s (l.map φ)
def mapTL (φ:T→T):List G→List G
 | []=>[]
 | g::l=>g.mapT φ::mapTL φ l
end
section
variable {φ:T→T}
theorem mapTL_eq:∀ l:List G,mapTL φ l=l.map (G.mapT φ)
 | []=>rfl
 | g::l=>by rw [mapTL,mapTL_eq l];rfl
theorem mapT_kids (g:G):(g.mapT φ).kids=g.kids.map (G.mapT φ):=by
 cases g<;>simp [G.mapT,G.kids,mapTL_eq]
theorem mapT_ts (hs:∀ s,φ (.sym s)=.sym s) (g:G):(g.mapT φ).ts=g.ts.map φ:=by
 cases g<;>simp [G.mapT,G.ts,hs]
theorem mapT_kind (g:G):(g.mapT φ).gl.kind=g.gl.kind:=by
 cases g<;>simp [G.mapT,G.gl]
theorem mapT_name (g:G):(g.mapT φ).gl.name=g.gl.name:=by
 cases g<;>simp [G.mapT,G.gl]
theorem mapT_pre:∀ (N:Nat) (g:G),g.nodes≤N→∀ x,x∈(g.mapT φ).pre↔∃ y∈g.pre,x=y.mapT φ
 | N,g,hN,x=>by
  rw [pre_eq',pre_eq' g,mapT_kids]
  simp only [List.mem_cons,mem_preG,List.mem_map,exists_eq_or_imp]
  refine or_congr Iff.rfl ?_
  constructor
  ·rintro ⟨_,⟨k,hk,rfl⟩,hx⟩
   have:=kids_nodes hk
   cases N with
   | zero=>omega
   | succ N=>
    obtain ⟨y,hy,e⟩:=(mapT_pre N k (by omega) x).1 hx
    exact ⟨y,⟨k,hk,hy⟩,e⟩
  ·rintro ⟨y,⟨k,hk,hy⟩,e⟩
   have:=kids_nodes hk
   cases N with
   | zero=>omega
   | succ N=>exact ⟨_,⟨k,hk,rfl⟩,(mapT_pre N k (by omega) x).2 ⟨y,hy,e⟩⟩
theorem mem_mapT {g x:G}:x∈(g.mapT φ).pre↔∃ y∈g.pre,x=y.mapT φ:=mapT_pre _ g (Nat.le_refl _) x
theorem okC_mapT {p:List RlR} {g:G}:okC p (g.mapT φ)↔okC p g:=by
 unfold okC
 rw [mapT_kind,mapT_name]
 refine imp_congr_right fun hk=>?_
 have:(g.mapT φ).gl.terms.length=g.gl.terms.length:=by cases g<;>simp [G.mapT,G.gl]
 rw [this]
theorem isN_mapT {g:G}:isN (g.mapT φ)↔isN g:=by unfold isN;rw [mapT_kind]
theorem ok_mapT:∀ (N:Nat) (g:G),g.nodes≤N→g.Ok→(∀ t∈gts g,(φ t).okT)→(g.mapT φ).Ok
 | N,g,hN,hg,h=>by
  have hl:∀ l:List G,(∀ x∈l,x.nodes < g.nodes)→(∀ x∈l,∀ t∈gts x,(φ t).okT)→OkL l→OkL (mapTL φ l):=fun l h1 h2 h3=>by
   rw [mapTL_eq]
   refine OkL_all.2 fun y hy=>?_
   obtain ⟨x,hx,rfl⟩:=List.mem_map.1 hy
   have:=h1 x hx
   cases N with
   | zero=>omega
   | succ N=>exact ok_mapT N x (by omega) (OkL_all.1 h3 x hx) (h2 x hx)
  rw [gts_eq] at h
  have ht:∀ t∈g.ts,(φ t).okT:=fun t ht=>h t (List.mem_append.2 (.inl ht))
  have hk:∀ x∈g.kids,∀ t∈gts x,(φ t).okT:=fun x hx t ht=>h t (List.mem_append.2 (.inr (List.mem_flatMap.2 ⟨x,hx,ht⟩)))
  cases g with
  | tru=>trivial
  | fail=>trivial
  | eq a b=>exact ⟨ht a (by simp [G.ts]),ht b (by simp [G.ts])⟩
  | ne a b=>exact ⟨ht a (by simp [G.ts]),ht b (by simp [G.ts])⟩
  | sy a=>exact ht a (by simp [G.ts])
  | nu a=>exact ht a (by simp [G.ts])
  | ab s a=>exact ⟨hg.1,ht a (by simp [G.ts])⟩
  | all l=>exact ⟨by rw [mapTL_eq,List.length_map];exact hg.1,hl l (fun x hx=>kids_nodes (g:=.all l) hx) hk hg.2⟩
  | any l=>exact ⟨by rw [mapTL_eq,List.length_map];exact hg.1,hl l (fun x hx=>kids_nodes (g:=.any l) hx) hk hg.2⟩
  | call s l=>exact ⟨hg.1,by rw [List.length_map];exact hg.2.1,fun t h=>by obtain ⟨u,hu,rfl⟩:=List.mem_map.1 h;exact ht u hu⟩
  | non s l=>exact ⟨hg.1,by rw [List.length_map];exact hg.2.1,fun t h=>by
   obtain ⟨u,hu,rfl⟩:=List.mem_map.1 h
   exact hk _ (List.mem_singleton.2 rfl) u (by rw [gts_eq];exact List.mem_append.2 (.inl hu))⟩
end
def T.shift (n:Nat) (t:T):T:=t.sub fun v=>.var (v+n)
theorem shift_nodes (n:Nat):∀ t:T,(t.shift n).nodes=t.nodes
 | .var _=>rfl
 | .pair a b=>by
  show (T.pair (a.shift n) (b.shift n)).nodes=_
  simp only [T.nodes,shift_nodes n a,shift_nodes n b]
 | .nil=>rfl
 | .sym _=>rfl
 | .num _=>rfl
theorem shift_ok {n:Nat} {t:T} (h:t.okT) (hv:∀ v,t.Occ v→v+n≤100000):(t.shift n).okT:=
 ⟨fit_sub h.fit fun v hv'=>fit_var.2 (hv v hv'),by rw [shift_nodes];exact h.size⟩
def eqsG:Nat→List T→List G
 | _,[]=>[]
 | n,t::l=>.eq (.var n) t::eqsG (n+1) l
theorem eqsG_len:∀ {n:Nat} {l:List T},(eqsG n l).length=l.length
 | _,[]=>rfl
 | n,t::l=>by rw [eqsG,List.length_cons,List.length_cons,eqsG_len]
theorem eqsG_snoc:∀ {n:Nat} {l:List T} {t:T},eqsG n (l++[t])=eqsG n l++[.eq (.var (n+l.length)) t]
 | n,[],t=>rfl
 | n,u::l,t=>by
  rw [List.cons_append,eqsG,eqsG_snoc,eqsG,List.cons_append,List.length_cons]
  rw [show n+1+l.length=n+(l.length+1) by omega]
theorem eqsG_mem {g:G}:∀ {n:Nat} {l:List T},g∈eqsG n l→∃ m t,g=.eq (.var m) t∧n≤m∧m < n+l.length∧t∈l
 | n,t::l,h=>by
  rcases List.mem_cons.1 h with rfl|h
  ·exact ⟨n,t,rfl,Nat.le_refl _,by simp,by simp⟩
  ·obtain ⟨m,u,h1,h2,h3,h4⟩:=eqsG_mem h
   exact ⟨m,u,h1,by omega,by simp only [List.length_cons];omega,List.mem_cons_of_mem _ h4⟩
def expG (r:Rl) (args:List T) (next:Nat):G:=.all (eqsG next args++[r.body.mapT (T.shift next)])
def relR (q:List Rl) (s:ByteArray):Rl:=(q[(relAt s (q.map Rl.rl) 0).toNat]?).getD ⟨⟨#[]⟩,0,0,.tru⟩
def callF (q:List Rl) (next:Nat) (s:ByteArray) (args:List T):Option (G × Nat):=
 if 100000 < next+(relR q s).ar+(relR q s).loc then none else some (expG (relR q s) args next,next+(relR q s).ar+(relR q s).loc)
structure GdG (q:List Rl) (tags:List ByteArray) (g:G):Prop where
 ok:g.Ok
 pos:∀ x∈g.pre,¬ isN x
 calls:∀ x∈g.pre,okC (q.map Rl.rl) x
 abs:∀ s a,G.ab s a∈g.pre→s∈tags
theorem ok_kid {g x:G} (h:g.Ok) (hx:x∈g.kids):x.Ok:=by
 cases g with
 | all l=>exact OkL_all.1 h.2 x hx
 | any l=>exact OkL_all.1 h.2 x hx
 | non s l=>obtain rfl:=List.mem_singleton.1 hx;exact h
 | _=>cases hx
theorem GdG.kid {q:List Rl} {tags:List ByteArray} {g x:G} (h:GdG q tags g) (hx:x∈g.kids):GdG q tags x:=
 ⟨ok_kid h.ok hx,fun y hy=>h.pos y (pre_kid hx hy),fun y hy=>h.calls y (pre_kid hx hy),fun s a ha=>h.abs s a (pre_kid hx ha)⟩
theorem okC_rel {q:List Rl} {s:ByteArray} {args:List T} (h:okC (q.map Rl.rl) (.call s args)):∃ k:Nat,relAt s (q.map Rl.rl) 0=(k:Int)∧q[k]?=some (relR q s)∧(relR q s).ar=args.length:=by
 obtain ⟨k,r,h1,h2,h3⟩:=h rfl
 have h1:relAt s (q.map Rl.rl) 0=(k:Int):=h1
 rw [List.getElem?_map] at h2
 obtain ⟨x,hx,rfl⟩:=Option.map_eq_some_iff.1 h2
 have e:relR q s=x:=by unfold relR;rw [h1,Int.toNat_natCast,hx];rfl
 refine ⟨k,h1,e▸hx,?_⟩
 rw [e]
 have h3:(x.ar:Int)=((args.map T.tm).length:Int):=h3
 rw [List.length_map] at h3
 omega
theorem all_pre' {l:List G} {x:G}:x∈(G.all l).pre↔x=.all l∨∃ g∈l,x∈g.pre:=by
 rw [pre_eq'];simp only [List.mem_cons,mem_preG];exact Iff.rfl
theorem GdG.exp {q:List Rl} {tags:List ByteArray} {s:ByteArray} {args:List T} {next:Nat} {g:G} {n:Nat} (hq:ProgP q) (hpos:posP q) (htags:∀ r∈q,∀ s a,G.ab s a∈r.body.pre→s∈tags)
 (h:GdG q tags (.call s args)) (e:callF q next s args=some (g,n)):GdG q tags g∧n≤100000∧next≤n:=by
 obtain ⟨k,h1,h2,h3⟩:=okC_rel (h.calls _ (pre_self _))
 have hr:=hq.rel k _ h2
 have hm:=List.mem_of_getElem? h2
 unfold callF at e
 split at e
 ·cases e
 rename_i hn
 have e:some (expG (relR q s) args next,next+(relR q s).ar+(relR q s).loc)=some (g,n):=e
 cases e
 refine ⟨?_,by omega,by omega⟩
 generalize relR q s=r at *
 have hargs:args.length≤4:=h.ok.2.1
 have hterms:∀ t∈gts r.body,(t.shift next).okT:=fun t ht=>by
  refine shift_ok ((ok_gts hr.ok).1 t ht) fun v hv=>?_
  have:=hr.vars v (mem_gvars.2 ⟨t,ht,hv⟩)
  omega
 have hb:=ok_mapT (φ:=T.shift next) _ r.body (Nat.le_refl _) hr.ok hterms
 have hin:∀ x,x∈(expG r args next).pre→x=expG r args next∨(∃ m t,x=.eq (.var m) t∧m≤100000∧t∈args)∨∃ y∈r.body.pre,x=y.mapT (T.shift next):=fun x hx=>by
  rcases all_pre'.1 hx with rfl | ⟨y,hy,hx⟩
  ·exact .inl rfl
  rcases List.mem_append.1 hy with hy|hy
  ·obtain ⟨m,t,rfl,_,hm2,ht⟩:=eqsG_mem hy
   have hx:x=.eq (.var m) t:=by simpa [G.pre] using hx
   exact .inr (.inl ⟨m,t,hx,by omega,ht⟩)
  ·obtain rfl:=List.mem_singleton.1 hy
   exact .inr (.inr (mem_mapT.1 hx))
 refine ⟨⟨by simp [eqsG_len];omega,OkL_all.2 fun x hx=>?_⟩,fun x hx=>?_,fun x hx=>?_,fun s' a hx=>?_⟩
 ·rcases List.mem_append.1 hx with hx|hx
  ·obtain ⟨m,t,rfl,_,hm2,ht⟩:=eqsG_mem hx
   exact ⟨⟨fit_var.2 (by omega),by simp [T.nodes]⟩,h.ok.2.2 t ht⟩
  ·obtain rfl:=List.mem_singleton.1 hx
   exact hb
 ·rcases hin x hx with rfl | ⟨m,t,rfl,_⟩ | ⟨y,hy,rfl⟩
  ·simp [isN,expG,G.gl]
  ·simp [isN,G.gl]
  ·rw [isN_mapT];exact hpos r hm y hy
 ·rcases hin x hx with rfl | ⟨m,t,rfl,_⟩ | ⟨y,hy,rfl⟩
  ·exact fun e=>by simp [expG,G.gl] at e
  ·exact fun e=>by simp [G.gl] at e
  ·exact okC_mapT.2 (hr.calls y hy)
 ·rcases hin _ hx with e | ⟨m,t,e,_⟩ | ⟨y,hy,e⟩
  ·cases e
  ·cases e
  ·cases y with
   | ab s2 a2=>cases e;exact htags r hm _ _ hy
   | _=>simp [G.mapT] at e
end
noncomputable section
open Classical
structure Br where
 st:Stt
 ch:List Nat
structure SFr where
 b:Br
 h:Nat
 ts:List (G × Nat)
def Br.choose (b:Br) (k:Nat):Br:=⟨b.st,b.ch++[k]⟩
def frontT (l:List G) (d:Nat) (ts:List (G × Nat)):List (G × Nat):=l.map (fun g=>(g,d))++ts
def Stt.setN (st:Stt) (n:Nat):Stt:=⟨n,st.bind,st.dis,st.kinds,st.marks⟩
def orFr (f:SFr) (l:List G) (d:Nat) (ts:List (G × Nat)):Nat→List SFr
 | 0=>[]
 | k+1=>(match l[k]? with|some g=>[⟨f.b.choose k,f.h,frontT [g] d ts⟩]|none=>[])++orFr f l d ts k
def stepFr (q:List Rl) (lim:Nat) (f:SFr) (g:G) (d:Nat) (ts:List (G × Nat)):List SFr:=
 match g with
 | .all l=>[⟨f.b,f.h,frontT l d ts⟩]
 | .any l=>orFr f l d ts l.length
 | .call s args=>if lim≤d then [] else match callF q f.b.st.next s args with
  | none=>[]
  | some (g',n)=>[⟨⟨f.b.st.setN n,f.b.ch⟩,max f.h (d+1),frontT [g'] (d+1) ts⟩]
 | g=>match reqF f.b.st g with
  | none=>[]
  | some st=>[⟨⟨st,f.b.ch⟩,f.h,ts⟩]
abbrev Fd:=Br × Nat
def searchF (q:List Rl) (lim:Nat):Nat→List SFr→List Fd→List Fd × Bool
 | 0,stk,out=>(out,decide (stk=[]))
 | n+1,stk,out=>match stk.getLast? with
  | none=>(out,true)
  | some f=>match f.ts with
   | []=>searchF q lim n stk.dropLast (out++[(f.b,f.h)])
   | (g,d)::ts=>searchF q lim n (stk.dropLast++stepFr q lim f g d ts) out
def startF (n:Nat) (g:G):SFr:=⟨⟨⟨n,[],[],[],[]⟩,[]⟩,0,[(g,0)]⟩
def depthF (q:List Rl) (g:G) (n lim steps:Nat):List Fd × Bool:=searchF q lim steps [startF n g] []
structure SFrOk (q:List Rl) (tags:List ByteArray) (m:Nat) (f:SFr):Prop where
 sp:SP tags f.b.st
 dl:f.b.st.dis.length≤30
 nx:f.b.st.next≤100000
 h:f.h≤m
 ch:f.b.ch.length≤m∧∀ c∈f.b.ch,c≤7
 ts:f.ts.length≤8 * m+1∧∀ x∈f.ts,GdG q tags x.1∧x.2≤m
theorem SFrOk.mono {q:List Rl} {tags:List ByteArray} {m m':Nat} {f:SFr} (h:SFrOk q tags m f) (hm:m≤m'):SFrOk q tags m' f:=
 ⟨h.sp,h.dl,h.nx,Nat.le_trans h.h hm,⟨Nat.le_trans h.ch.1 hm,h.ch.2⟩,Nat.le_trans h.ts.1 (by omega),fun x hx=>⟨(h.ts.2 x hx).1,Nat.le_trans (h.ts.2 x hx).2 hm⟩⟩
theorem orFr_mem {f:SFr} {l:List G} {d:Nat} {ts:List (G × Nat)} {x:SFr}:∀ {k:Nat},x∈orFr f l d ts k→∃ i g,i < k∧l[i]?=some g∧x=⟨f.b.choose i,f.h,frontT [g] d ts⟩
 | k+1,hx=>by
  unfold orFr at hx
  rcases List.mem_append.1 hx with hx|hx
  ·cases hg:l[k]? with
   | none=>rw [hg] at hx;cases hx
   | some g=>
    rw [hg] at hx
    exact ⟨k,g,by omega,hg,List.mem_singleton.1 hx⟩
  ·obtain ⟨i,g,h1,h2,h3⟩:=orFr_mem hx
   exact ⟨i,g,by omega,h2,h3⟩
theorem front_ok {q:List Rl} {tags:List ByteArray} {m:Nat} {l:List G} {d:Nat} {ts:List (G × Nat)} (h1:∀ g∈l,GdG q tags g) (h2:d≤m) (h3:∀ x∈ts,GdG q tags x.1∧x.2≤m):∀ x∈frontT l d ts,GdG q tags x.1∧x.2≤m:=fun x hx=>by
 rcases List.mem_append.1 hx with hx|hx
 ·obtain ⟨g,hg,rfl⟩:=List.mem_map.1 hx
  exact ⟨h1 g hg,h2⟩
 ·exact h3 x hx
section
variable {q:List Rl} {tags:List ByteArray} {m lim:Nat} {f:SFr} {g:G} {d:Nat} {ts:List (G × Nat)} (hq:ProgP q) (hpos:posP q) (htags:∀ r∈q,∀ s a,G.ab s a∈r.body.pre→s∈tags)
theorem SFrOk.rp (hf:SFrOk q tags m f) (he:f.ts=(g,d)::ts):RP tags f.b.st g:=by
 have hx:=(hf.ts.2 (g,d) (by rw [he];exact List.mem_cons_self ..)).1
 exact ⟨hf.sp,by have:=hf.dl;omega,hx.ok,fun s a e=>hx.abs s a (by subst e;exact pre_self _)⟩
theorem reqF_ok {st st':Stt} (h:RP tags st g) (hdl:st.dis.length≤30) (hnx:st.next≤100000) (e:reqF st g=some st'):SP tags st'∧st'.dis.length≤30∧st'.next≤100000:=by
 obtain ⟨h1,h2,h3⟩:=req_SP h hdl e
 exact ⟨h1,h3,by omega⟩
include hq hpos htags
theorem step_ok (hf:SFrOk q tags m f) (he:f.ts=(g,d)::ts):∀ x∈stepFr q lim f g d ts,SFrOk q tags (m+1) x:=by
 have hl:ts.length≤8 * m:=by have:=hf.ts.1;rw [he] at this;simp only [List.length_cons] at this;omega
 obtain ⟨hg,hd⟩:=hf.ts.2 (g,d) (by rw [he];exact List.mem_cons_self ..)
 have hts:∀ x∈ts,GdG q tags x.1∧x.2≤m+1:=fun x hx=>by
  have:=hf.ts.2 x (by rw [he];exact List.mem_cons_of_mem _ hx)
  exact ⟨this.1,by omega⟩
 have hother:∀ st,reqF f.b.st g=some st→SFrOk q tags (m+1) ⟨⟨st,f.b.ch⟩,f.h,ts⟩:=fun st hr=>by
  obtain ⟨h1,h2,h3⟩:=reqF_ok (hf.rp he) hf.dl hf.nx hr
  exact ⟨h1,h2,h3,by have:=hf.h;simp only;omega,⟨by have:=hf.ch.1;simp only;omega,hf.ch.2⟩,by simp only;omega,hts⟩
 intro x hx
 unfold stepFr at hx
 split at hx
 ·rename_i l
  obtain rfl:=List.mem_singleton.1 hx
  have h8:l.length≤8:=hg.ok.1
  exact ⟨hf.sp,hf.dl,hf.nx,by have:=hf.h;simp only;omega,⟨by have:=hf.ch.1;simp only;omega,hf.ch.2⟩,by simp [frontT];omega,front_ok (fun k hk=>hg.kid hk) (by omega) hts⟩
 ·rename_i l
  have h8:l.length≤8:=hg.ok.1
  obtain ⟨i,k,hi,hk,rfl⟩:=orFr_mem hx
  have hm:=List.mem_of_getElem? hk
  exact ⟨hf.sp,hf.dl,hf.nx,by have:=hf.h;simp only;omega,⟨by have:=hf.ch.1;simp [Br.choose];omega,fun c hc=>by
   rcases List.mem_append.1 hc with hc|hc
   ·exact hf.ch.2 c hc
   ·obtain rfl:=List.mem_singleton.1 hc;omega⟩,by simp [frontT];omega,front_ok (fun y hy=>by obtain rfl:=List.mem_singleton.1 hy;exact hg.kid hm) (by omega) hts⟩
 ·split at hx
  ·cases hx
  ·split at hx
   ·cases hx
   ·rename_i g' n hc
    obtain rfl:=List.mem_singleton.1 hx
    obtain ⟨h1,h2,h3⟩:=GdG.exp hq hpos htags hg hc
    refine ⟨⟨⟨hf.sp.pre.bind,hf.sp.pre.dis,hf.sp.pre.kinds,hf.sp.pre.marks⟩,hf.sp.mrk,hf.sp.dl,by show n≤1000000;omega⟩,hf.dl,h2,by have:=hf.h;simp only;omega,⟨by have:=hf.ch.1;simp only;omega,hf.ch.2⟩,by simp [frontT];omega,front_ok (fun y hy=>by obtain rfl:=List.mem_singleton.1 hy;exact h1) (by omega) hts⟩
 ·split at hx
  ·cases hx
  ·rename_i st hr
   obtain rfl:=List.mem_singleton.1 hx
   exact hother st hr
end
theorem orFr_len {f:SFr} {l:List G} {d:Nat} {ts:List (G × Nat)}:∀ k:Nat,(orFr f l d ts k).length≤k
 | 0=>Nat.le_refl _
 | k+1=>by
  unfold orFr
  rw [List.length_append]
  have h:=orFr_len (f:=f) (l:=l) (d:=d) (ts:=ts) k
  split<;>simp<;>omega
theorem orFr_succ {f:SFr} {l:List G} {d:Nat} {ts:List (G × Nat)} {k:Nat} {g:G} (h:l[k]?=some g):orFr f l d ts (k+1)=⟨f.b.choose k,f.h,frontT [g] d ts⟩::orFr f l d ts k:=by rw [orFr,h];rfl
theorem stepFr_len {q:List Rl} {lim:Nat} {f:SFr} {g:G} {d:Nat} {ts:List (G × Nat)} (hg:g.Ok):(stepFr q lim f g d ts).length≤8:=by
 unfold stepFr
 split
 ·simp
 ·rename_i l
  have:=orFr_len (f:=f) (l:=l) (d:=d) (ts:=ts) l.length
  have h8:l.length≤8:=hg.1
  omega
 ·split
  ·simp
  ·split<;>simp
 ·split<;>simp
theorem searchF_end (q:List Rl) (lim:Nat) (k:Nat) (stk:List SFr) (out:List Fd) (h:k=0∨stk=[]):searchF q lim k stk out=(out,decide (stk=[])):=by
 cases k with
 | zero=>rfl
 | succ k=>
  obtain rfl:=h.resolve_left (by omega)
  simp [searchF]
structure FdOk (tags:List ByteArray) (m:Nat) (x:Fd):Prop where
 sp:SP tags x.1.st
 dl:x.1.st.dis.length≤30
 nx:x.1.st.next≤100000
 h:x.2≤m
 ch:x.1.ch.length≤m∧∀ c∈x.1.ch,c≤7
theorem FdOk.mono {tags:List ByteArray} {m m':Nat} {x:Fd} (h:FdOk tags m x) (hm:m≤m'):FdOk tags m' x:=⟨h.sp,h.dl,h.nx,Nat.le_trans h.h hm,⟨Nat.le_trans h.ch.1 hm,h.ch.2⟩⟩
structure SI (q:List Rl) (tags:List ByteArray) (lim steps:Nat) (r:List Fd × Bool) (i:Nat) (stk:List SFr) (out:List Fd):Prop where
 le:i≤steps
 eq:searchF q lim (steps - i) stk out=r
 fr:∀ f∈stk,SFrOk q tags i f
 len:stk.length≤8 * i+1
 olen:out.length≤i
 fd:∀ x∈out,FdOk tags i x
section
variable {q:List Rl} {tags:List ByteArray} {lim steps i:Nat} {r:List Fd × Bool} {stk:List SFr} {out:List Fd} {f:SFr} {g:G} {d:Nat} {ts:List (G × Nat)}
theorem SI.found (h:SI q tags lim steps r i (stk++[f]) out) (hi:i < steps) (he:f.ts=[]):SI q tags lim steps r (i+1) stk (out++[(f.b,f.h)]):=by
 refine ⟨hi,?_,fun x hx=>(h.fr x (List.mem_append_left _ hx)).mono (by omega),by have:=h.len;simp only [List.length_append,List.length_singleton] at this;omega,by have:=h.olen;simp only [List.length_append,List.length_singleton];omega,fun x hx=>?_⟩
 rotate_left
 ·rcases List.mem_append.1 hx with hx|hx
  ·exact (h.fd x hx).mono (by omega)
  ·obtain rfl:=List.mem_singleton.1 hx
   have hf:=h.fr f (by simp)
   exact ⟨hf.sp,hf.dl,hf.nx,by have:=hf.h;simp only;omega,⟨by have:=hf.ch.1;simp only;omega,hf.ch.2⟩⟩
 have e:=h.eq
 rw [show steps - i=(steps - (i+1))+1 by omega,searchF] at e
 simp only [List.getLast?_append,List.getLast?_singleton,Option.some_or,List.dropLast_concat,he] at e
 exact e
theorem SI.step (hq:ProgP q) (hpos:posP q) (htags:∀ r∈q,∀ s a,G.ab s a∈r.body.pre→s∈tags) (h:SI q tags lim steps r i (stk++[f]) out) (hi:i < steps) (he:f.ts=(g,d)::ts):SI q tags lim steps r (i+1) (stk++stepFr q lim f g d ts) out:=by
 have hf:=h.fr f (by simp)
 have hg:=(hf.ts.2 (g,d) (by rw [he];exact List.mem_cons_self ..)).1
 refine ⟨hi,?_,fun x hx=>?_,?_,by have:=h.olen;omega,fun x hx=>(h.fd x hx).mono (by omega)⟩
 ·have e:=h.eq
  rw [show steps - i=(steps - (i+1))+1 by omega,searchF] at e
  simp only [List.getLast?_append,List.getLast?_singleton,Option.some_or,List.dropLast_concat,he] at e
  exact e
 ·rcases List.mem_append.1 hx with hx|hx
  ·exact (h.fr x (List.mem_append_left _ hx)).mono (by omega)
  ·exact step_ok hq hpos htags hf he x hx
 ·have h1:=stepFr_len (q:=q) (lim:=lim) (f:=f) (d:=d) (ts:=ts) hg.ok
  have h2:=h.len
  rw [List.length_append] at h2 ⊢
  simp only [List.length_singleton] at h2
  simp only at h1
  omega
theorem SI.start (hg:GdG q tags g) {n:Nat} (hn:n≤100000):SI q tags lim steps (depthF q g n lim steps) 0 [startF n g] []:=by
 refine ⟨Nat.zero_le _,rfl,fun f hf=>?_,by simp,Nat.le_refl _,by simp⟩
 obtain rfl:=List.mem_singleton.1 hf
 exact ⟨st0_SP hn,by simp [startF],hn,Nat.zero_le _,⟨by simp [startF],by simp [startF]⟩,by simp [startF],fun x hx=>by simp [startF] at hx;subst hx;exact ⟨hg,Nat.le_refl _⟩⟩
end
theorem searchF_ok {q:List Rl} {tags:List ByteArray} {lim steps:Nat} (hq:ProgP q) (hpos:posP q) (htags:∀ r∈q,∀ s a,G.ab s a∈r.body.pre→s∈tags):∀ (k i:Nat) (stk:List SFr) (out:List Fd) (r:List Fd × Bool),i+k=steps→SI q tags lim steps r i stk out→(∀ x∈r.1,FdOk tags steps x)∧r.1.length≤steps
 | 0,i,stk,out,r,hik,h=>by
  have e:=h.eq
  rw [show steps - i=0 by omega,searchF] at e
  subst e
  exact ⟨fun x hx=>(h.fd x hx).mono (by omega),by have:=h.olen;simp only;omega⟩
 | k+1,i,stk,out,r,hik,h=>by
  rcases stk.eq_nil_or_concat with rfl | ⟨stk',f,rfl⟩
  ·have e:=h.eq
   rw [searchF_end _ _ _ _ _ (.inr rfl)] at e
   subst e
   exact ⟨fun x hx=>(h.fd x hx).mono (by omega),by have:=h.olen;simp only;omega⟩
  ·rw [List.concat_eq_append] at h
   cases hf:f.ts with
   | nil=>exact searchF_ok hq hpos htags k (i+1) _ _ r (by omega) (h.found (by omega) hf)
   | cons x ts=>
    obtain ⟨g,d⟩:=x
    exact searchF_ok hq hpos htags k (i+1) _ _ r (by omega) (h.step hq hpos htags (by omega) hf)
theorem stepFr_deep {q:List Rl} {lim:Nat} {f:SFr} {s:ByteArray} {args:List T} {d:Nat} {ts:List (G × Nat)} (h:lim≤d):stepFr q lim f (.call s args) d ts=[]:=if_pos h
theorem stepFr_full {q:List Rl} {lim:Nat} {f:SFr} {s:ByteArray} {args:List T} {d:Nat} {ts:List (G × Nat)} (h:¬ lim≤d) (e:callF q f.b.st.next s args=none):stepFr q lim f (.call s args) d ts=[]:=by
 show (if lim≤d then _ else _)=_
 rw [if_neg h,e]
theorem stepFr_call {q:List Rl} {lim:Nat} {f:SFr} {s:ByteArray} {args:List T} {d:Nat} {ts:List (G × Nat)} {g':G} {n:Nat} (h:¬ lim≤d) (e:callF q f.b.st.next s args=some (g',n)):stepFr q lim f (.call s args) d ts=[⟨⟨f.b.st.setN n,f.b.ch⟩,max f.h (d+1),frontT [g'] (d+1) ts⟩]:=by
 show (if lim≤d then _ else _)=_
 rw [if_neg h,e]
theorem kind_789 {g:G} (h:¬ (g.gl.kind=7∨g.gl.kind=8∨g.gl.kind=9)):∀ {q:List Rl} {lim:Nat} {f:SFr} {d:Nat} {ts:List (G × Nat)},stepFr q lim f g d ts=match reqF f.b.st g with
 | none=>[]
 | some st=>[⟨⟨st,f.b.ch⟩,f.h,ts⟩]:=by
 intro q lim f d ts
 cases g with
 | all l=>exact absurd (.inl rfl) h
 | any l=>exact absurd (.inr (.inl rfl)) h
 | call s l=>exact absurd (.inr (.inr rfl)) h
 | _=>rfl
end
end Go.Proofs.YtejkllmoofdpjaaGreat
