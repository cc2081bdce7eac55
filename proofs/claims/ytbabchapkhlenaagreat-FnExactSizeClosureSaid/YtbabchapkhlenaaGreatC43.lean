/- Parts of the proof: VP8 V80. -/
import Derived.Test.YtbabchapkhlenaaGreatC35
import Derived.Test.YtbabchapkhlenaaGreatC42
namespace Go.Proofs.YtbabchapkhlenaaGreat
open Go
set_option linter.all false
set_option maxRecDepth 100000
set_option maxHeartbeats 4000000
noncomputable section
open Classical
abbrev arcP (t:T) (i k:Nat) (a:T):ArcP:=(i,k,!decide (a=t))
def rowK (t:T) (i:Nat) (ts:List T):Nat→List ArcP
 | 0=>[]
 | k+1=>rowK t i ts k++match ts[k]? with
  | some a=>if T.part a t then [arcP t i k a] else []
  | none=>[]
def colK (b:Sb) (ts:List T):Nat→List ArcP
 | 0=>[]
 | i+1=>colK b ts i++rowK ((T.var i).sub (suOf b)) i ts ts.length
theorem mem_rowK {t:T} {i:Nat} {ts:List T} {x:ArcP}:∀ {n:Nat},x∈rowK t i ts n→x.1=i∧x.2.1 < n∧x.2.1 < ts.length
 | 0,h=>by simp [rowK] at h
 | n+1,h=>by
  unfold rowK at h
  rcases List.mem_append.1 h with h|h
  ·have:=mem_rowK h;omega
  ·cases hk:ts[n]? with
   | none=>rw [hk] at h;cases h
   | some a=>
    rw [hk] at h
    simp only at h
    split at h
    ·obtain rfl:=List.mem_singleton.1 h
     have:=(List.getElem?_eq_some_iff.1 hk).1
     exact ⟨rfl,Nat.lt_succ_self _,this⟩
    ·cases h
theorem rowK_asc {t:T} {i:Nat} {ts:List T}:∀ n:Nat,(rowK t i ts n).Pairwise fun a b=>a.1 < b.1∨a.1=b.1∧a.2.1 < b.2.1
 | 0=>.nil
 | n+1=>by
  unfold rowK
  refine List.pairwise_append.2 ⟨rowK_asc n,?_,fun x hx y hy=>?_⟩
  ·split
   ·split<;>simp
   ·simp
  ·have h1:=mem_rowK hx
   have h2:y.1=i∧y.2.1=n:=by
    split at hy
    ·split at hy
     ·obtain rfl:=List.mem_singleton.1 hy;exact ⟨rfl,rfl⟩
     ·cases hy
    ·cases hy
   exact .inr ⟨by omega,by omega⟩
theorem mem_colK {b:Sb} {ts:List T} {x:ArcP}:∀ {n:Nat},x∈colK b ts n→x.1 < n∧x.2.1 < ts.length
 | 0,h=>by simp [colK] at h
 | n+1,h=>by
  unfold colK at h
  rcases List.mem_append.1 h with h|h
  ·have:=mem_colK h;omega
  ·have:=mem_rowK h;omega
theorem colK_asc {b:Sb} {ts:List T}:∀ n:Nat,(colK b ts n).Pairwise fun a b=>a.1 < b.1∨a.1=b.1∧a.2.1 < b.2.1
 | 0=>.nil
 | n+1=>by
  unfold colK
  refine List.pairwise_append.2 ⟨colK_asc n,rowK_asc _,fun x hx y hy=>?_⟩
  have h1:=mem_colK hx
  have h2:=mem_rowK hy
  exact .inl (by omega)
theorem colK_ok {b:Sb} {ts:List T} {n:Nat} (hn:n≤4) (ht:ts.length≤4):ArcsOk (colK b ts n):=⟨colK_asc n,fun x hx=>by have:=mem_colK hx;omega⟩
def graphOf (caller:ByteArray) (b:Sb) (ar:Nat) (g:G):Gr:=⟨caller,g.gl.name,colK b g.ts ar⟩
def graphsC (r:Rl) (c:List G):List Gr:=match solveF (r.ar+r.loc) c with
 | none=>[]
 | some q=>q.2.map (graphOf r.name q.1.bind r.ar)
def graphsR (r:Rl):List Gr:=((clF r.body).getD []).flatMap (graphsC r)
def graphsP (q:List Rl):Option (List Gr):=if ∀ r∈q,(clF r.body).isSome=true then some (q.flatMap graphsR) else none
def sizeF (p:List RlR):Option (List Gr):=if h:∃ q,p=q.map Rl.rl∧ProgP q∧posP q then graphsP h.choose else none
theorem sizeF_pos {q:List Rl} (h:ProgP q) (hp:posP q):sizeF (q.map Rl.rl)=graphsP q:=by
 have hx:∃ q',q.map Rl.rl=q'.map Rl.rl∧ProgP q'∧posP q':=⟨q,rfl,h,hp⟩
 unfold sizeF
 rw [dif_pos hx]
 congr 1
 exact ((List.map_inj_right (fun _ _ h=>rl_inj h)).1 hx.choose_spec.1).symm
theorem sizeF_none {p:List RlR} (h:¬ posOk p):sizeF p=none:=by
 unfold sizeF
 rw [dif_neg]
 rintro ⟨q,rfl,hq,hp⟩
 exact h ⟨⟨by rw [List.length_map];exact hq.len,fun i r hr=>by
  rw [List.getElem?_map] at hr
  obtain ⟨u,hu,rfl⟩:=Option.map_eq_some_iff.1 hr
  have:=hq.rel i u hu
  exact ⟨this.at',this.nm,⟨by simp [Rl.rl],by simp only [Rl.rl];have:=this.ar;omega⟩,⟨by simp [Rl.rl],by simp only [Rl.rl];have:=this.loc;omega⟩,u.body,rfl,this.ok,this.size,fun v hv=>by have:=this.vars v hv;simp [Rl.rl];omega,this.calls⟩⟩,q,rfl,hp⟩
theorem posOk_some {p:List RlR} (h:posOk p):∃ q,p=q.map Rl.rl∧ProgP q∧posP q:=by
 obtain ⟨h1,q',e,hp⟩:=h
 obtain ⟨q,hq,hq2⟩:=progOk_some h1
 have:q=q':=(List.map_inj_right (fun _ _ h=>rl_inj h)).1 (hq.symm.trans e)
 subst this
 exact ⟨q,hq,hq2,hp⟩
theorem leaf_pre {g x:G} (h:x∈g.leaves):x∈g.pre:=by
 have key:∀ N (g:G),g.nodes≤N→∀ x∈g.leaves,x∈g.pre:=by
  intro N
  induction N with
  | zero=>intro g hg;have:=g.nodes_pos;omega
  | succ N ih=>
   intro g hg x hx
   have hl:∀ {l:List G},x∈leavesL l→∃ k∈l,x∈k.leaves:=fun {l}=>by
    induction l with
    | nil=>intro h;simp [leavesL] at h
    | cons y l ihl=>
     intro h
     simp only [leavesL,List.mem_append] at h
     rcases h with h|h
     ·exact ⟨y,by simp,h⟩
     ·obtain ⟨k,hk,h⟩:=ihl h;exact ⟨k,by simp [hk],h⟩
   cases g with
   | all l=>
    obtain ⟨k,hk,h⟩:=hl (by simpa [G.leaves] using hx)
    have:=kids_nodes (g:=.all l) (x:=k) hk
    exact pre_kid (g:=.all l) hk (ih k (by omega) x h)
   | any l=>
    obtain ⟨k,hk,h⟩:=hl (by simpa [G.leaves] using hx)
    have:=kids_nodes (g:=.any l) (x:=k) hk
    exact pre_kid (g:=.any l) hk (ih k (by omega) x h)
   | tru=>simp [G.leaves] at hx
   | fail=>simp [G.leaves] at hx
   | _=>simp [G.leaves] at hx;subst hx;exact pre_self _
 exact key g.nodes g (Nat.le_refl _) x h
theorem pre_ok:∀ {g x:G},g.Ok→x∈g.pre→x.Ok∧x.nodes≤g.nodes:=by
 have key:∀ N (g:G),g.nodes≤N→g.Ok→∀ x∈g.pre,x.Ok∧x.nodes≤g.nodes:=by
  intro N
  induction N with
  | zero=>intro g hg;have:=g.nodes_pos;omega
  | succ N ih=>
   intro g hg hok x hx
   rw [pre_eq'] at hx
   rcases List.mem_cons.1 hx with rfl|hx
   ·exact ⟨hok,Nat.le_refl _⟩
   ·obtain ⟨k,hk,hx⟩:=mem_preG.1 hx
    have h1:=kids_nodes hk
    have h2:=ih k (by omega) ((ok_kids hok).2 k hk) x hx
    exact ⟨h2.1,by omega⟩
 exact fun {g x} h hx=>key g.nodes g (Nat.le_refl _) h x hx
theorem gvars_pre {g x:G} {v:Nat} (hx:x∈g.pre) (hv:v∈gvars x):v∈gvars g:=by
 obtain ⟨t,ht,ho⟩:=mem_gvars.1 hv
 refine mem_gvars.2 ⟨t,?_,ho⟩
 have key:∀ N (g:G),g.nodes≤N→x∈g.pre→t∈gts g:=by
  intro N
  induction N with
  | zero=>intro g hg;have:=g.nodes_pos;omega
  | succ N ih=>
   intro g hg hx
   rw [pre_eq'] at hx
   rcases List.mem_cons.1 hx with rfl|hx
   ·exact ht
   ·obtain ⟨k,hk,hx⟩:=mem_preG.1 hx
    rw [gts_eq]
    have h1:=kids_nodes hk
    exact List.mem_append.2 (.inr (List.mem_flatMap.2 ⟨k,hk,ih k (by omega) hx⟩))
 exact key g.nodes g (Nat.le_refl _) hx
theorem rl_clause {p:List RlR} {i:Nat} {r:Rl} {cl:Cl} {c:List G} (h:RlOk p i r) (hp:∀ x∈r.body.pre,¬ isN x) (hcl:clF r.body=some cl) (hc:c∈cl):ClP (r.ar+r.loc) c:=by
 obtain ⟨rfl,hl⟩:=clF_some hcl
 have hm:=clS_mem r.body c hc
 have hsz:=h.size
 have har:=h.ar
 have hlo:=h.loc
 refine ⟨by omega,by have:=hm.1;omega,fun g hg=>?_,fun g hg=>(hm.2 g hg).2,fun g hg=>hp g (leaf_pre (hm.2 g hg).1),fun g hg v hv=>h.vars v (gvars_pre (leaf_pre (hm.2 g hg).1) hv)⟩
 have:=pre_ok h.ok (leaf_pre (hm.2 g hg).1)
 exact ⟨this.1,by omega⟩
theorem mapT_len {φ:T→Option T}:∀ {l m:List T},mapT φ l=some m→m.length=l.length
 | [],m,h=>by cases h;rfl
 | t::l,m,h=>by
  unfold mapT at h
  obtain ⟨x,hx,h⟩:=Option.bind_eq_some_iff.1 h
  obtain ⟨y,hy,rfl⟩:=Option.map_eq_some_iff.1 h
  simp [mapT_len hy]
theorem callsR_mem {b:Sb}:∀ {l c:List G},callsR b l=some c→c.length≤l.length∧∀ g∈c,∃ s ts ts',g=.call s ts∧.call s ts'∈l∧ts.length=ts'.length
 | [],c,h=>by cases h;simp
 | g::l,c,h=>by
  unfold callsR at h
  split at h
  ·rename_i hc
   obtain ⟨x,hx,h⟩:=Option.bind_eq_some_iff.1 h
   obtain ⟨c',hc',rfl⟩:=Option.map_eq_some_iff.1 h
   obtain ⟨h1,h2⟩:=callsR_mem hc'
   refine ⟨by simp;omega,fun y hy=>?_⟩
   rcases List.mem_cons.1 hy with rfl|hy
   ·cases g with
    | call s ts=>
     obtain ⟨m,hm,rfl⟩:=Option.map_eq_some_iff.1 (show (mapT (putO b) ts).map (G.call s)=some y from hx)
     exact ⟨s,m,ts,rfl,by simp,mapT_len hm⟩
    | _=>exact hc.elim
   ·obtain ⟨s,ts,ts',e,hm,hl⟩:=h2 y hy
    exact ⟨s,ts,ts',e,by simp [hm],hl⟩
  ·obtain ⟨h1,h2⟩:=callsR_mem h
   refine ⟨by simp;omega,fun y hy=>?_⟩
   obtain ⟨s,ts,ts',e,hm,hl⟩:=h2 y hy
   exact ⟨s,ts,ts',e,by simp [hm],hl⟩
structure SlvP (c:List G) (st:Stt) (calls:List G):Prop where
 bind:Sub st.bind
 len:calls.length≤1000
 call:∀ g∈calls,∃ s ts,g=.call s ts∧RelP s∧ts.length≤4
theorem foldR_SP {tags:List ByteArray}:∀ {l:List G} {st st':Stt},(∀ g∈l,g.Ok)→(∀ s a,G.ab s a∈l→s∈tags)→SP tags st→st.dis.length≤30→foldR st l=some st'→SP tags st'
 | [],st,st',_,_,h,_,e=>by cases e;exact h
 | g::l,st,st',hl,ht,h,hd,e=>by
  unfold foldR at e
  split at e
  ·exact foldR_SP (fun g hg=>hl g (by simp [hg])) (fun s a h=>ht s a (by simp [h])) h hd e
  ·obtain ⟨x,hx,e⟩:=Option.bind_eq_some_iff.1 e
   obtain ⟨r1,_,r3⟩:=req_SP ⟨h,by omega,hl g (by simp),fun s a e=>ht s a (by simp [e])⟩ hd hx
   exact foldR_SP (fun g hg=>hl g (by simp [hg])) (fun s a h=>ht s a (by simp [h])) r1 r3 e
theorem solveF_P {n:Nat} {c:List G} {q:Stt × List G} (h:ClP n c) (e:solveF n c=some q):SlvP c q.1 q.2:=by
 unfold solveF at e
 obtain ⟨st,hst,e⟩:=Option.bind_eq_some_iff.1 e
 obtain ⟨calls,hc,rfl⟩:=Option.map_eq_some_iff.1 e
 have hsp:=foldR_SP (tags:=tagsOf c) (fun g hg=>(h.ok g hg).1) (fun s a h=>tagsOf_mem h) (st0_SP h.nn) (by simp) hst
 obtain ⟨h1,h2⟩:=callsR_mem hc
 refine ⟨hsp.pre.bind,by have:=h.len;simp only;omega,fun g hg=>?_⟩
 obtain ⟨s,ts,ts',rfl,hm,hl⟩:=h2 g hg
 have hok:=(h.ok _ hm).1
 have hok:RelP s∧ts'.length≤4∧∀ t∈ts',t.okT:=by simpa [G.Ok] using hok
 exact ⟨s,ts,rfl,hok.1,by omega⟩
end
noncomputable section
open Classical
abbrev OG:=Value × Gr
abbrev rowO (x:OG):List D:=[.v (.string x.2.caller),.v (.string x.2.callee),.v x.1]
abbrev atmO (x:OG):Atm:=arow 66 3 x.1 (x.2.arcs.map encA)
abbrev AG (u:Value) (l:List OG):List Atm:=arow 59 3 u (l.map rowO)::l.map atmO
theorem putVar_some {b:Sb} {i:Nat} (hb:Sub b):putO b (.var i)=some ((T.var i).sub (suOf b)):=by
 unfold putO capT
 rw [if_pos]
 show (suOf b i).nodes≤5000
 unfold suOf
 cases hg:getS b i with
 | none=>simp [T.nodes]
 | some t=>exact (hb.vok.ok _ (getS_in hg)).2.size
abbrev gbxO (b:Nat) (caller callee:ByteArray) (u:Value):Atm:=abox b [.v (.string caller),.v (.string callee),.v u] 59
theorem rowK_succ {t:T} {i k:Nat} {ts:List T} {a:T} (h:ts[k]?=some a):rowK t i ts (k+1)=rowK t i ts k++if T.part a t then [arcP t i k a] else []:=by
 conv=>lhs;unfold rowK
 rw [h]
theorem colK_len {b:Sb} {ts:List T} {n:Nat} (hn:n≤4) (ht:ts.length≤4):(colK b ts n).length≤16:=(colK_ok hn ht).len
theorem rowK_len {t:T} {i:Nat} {ts:List T}:∀ n:Nat,(rowK t i ts n).length≤n
 | 0=>by simp [rowK]
 | n+1=>by
  unfold rowK
  have:=rowK_len (t:=t) (i:=i) (ts:=ts) n
  rw [List.length_append]
  split
  ·split<;>simp<;>omega
  ·simp;omega
theorem graphsP_none {q:List Rl} (h:¬ ∀ r∈q,(clF r.body).isSome=true):graphsP q=none:=if_neg h
theorem graphsP_some {q:List Rl} (h:∀ r∈q,(clF r.body).isSome=true):graphsP q=some (q.flatMap graphsR):=if_pos h
theorem putYes_i:Con2 Tryz.prog 32 Sb T vS vT (fun s t=>.tup [vT (t.sub (suOf s)),bv true]) (fun s t=>Sub s∧∃ i:Nat,i≤100000∧t=.var i):=⟨fun s t ⟨hs,i,hi,e⟩=>by
 subst e
 have:=put_i.h s (.var i) ⟨hs.vok.putOk,fit_var.2 hi⟩
 rwa [show optT (putO s (.var i))=.tup [vT ((T.var i).sub (suOf s)),bv true] by rw [putVar_some hs];rfl] at this⟩
theorem sizeGraphs_c (p:List RlR) (hin:InP p):Spec Tryz.prog 9 [vP p] [] fun v A'=>match sizeF p with
 | none=>v=.tup [.one (.s 3 []),bv false]∧A'=[]
 | some l=>∃ u os,os.map (·.2)=l∧v=.tup [.one (.v u),bv true]∧A'=AG u os:=by
 refine sp Tryz.func9 rfl Tryz.ntmps9 rfl rfl fun C=>?_
 by_cases hpos:posOk p
 case neg=>
  rw [sizeF_none hpos]
  (repeat' first|(refine kkS [29] [] ?_;intros)|refine kfS [29] [] ?_ ?_<;>intro hb|fail)
  all_goals first
   | exact absurd (by assumption) hpos
   | skip
  refine krF ?_
  (repeat' first|(refine kk ?_;intros)|refine kfk ?_ ?_<;>intro hb|fail)
  exact ker2 (v1:=.one (.s 3 [])) (v2:=bv false) ⟨rfl,rfl⟩ (AV.le_one D.le_nil) (.refl _)
 obtain ⟨q,rfl,hq,hqp⟩:=posOk_some hpos
 rw [sizeF_pos hq hqp]
 haveI:Con1 Tryz.prog 28 (List Rl) vPq (fun _=>bv true) (fun q=>InP (q.map Rl.rl)∧posOk (q.map Rl.rl)):=⟨fun q ⟨h1,h2⟩=>by
  have:=isPositive_i.h _ h1
  rwa [show bp (posOk (q.map Rl.rl))=bv true from (bpT h2).symm] at this⟩
 have p1:=And.intro hin hpos
 have hlen:((q.map Rl.rl).map encR).length=q.length:=by simp
 have hql:=hq.len
 by_cases hfine:∀ r∈q,(clF r.body).isSome=true
 case neg=>
  rw [graphsP_none hfine]
  (repeat' first|(refine kk ?_;intros)|refine kfk ?_ ?_<;>intro hb|fail)
  all_goals first
   | exact ker2 (v1:=.one (.s 3 [])) (v2:=bv false) ⟨rfl,rfl⟩ (AV.le_one D.le_nil) (.refl _)
   | exact absurd (by assumption) hfine
 rw [graphsP_some hfine]
 haveI:Con1 Tryz.prog 29 (List Rl) vPq (fun _=>bv true) (fun q=>ProgP q∧∀ r∈q,(clF r.body).isSome=true):=⟨fun q ⟨h1,h2⟩=>by
  have:=clausesFine_i.h _ h1
  rwa [show bp (∀ r∈q,(clF r.body).isSome=true)=bv true from (bpT h2).symm] at this⟩
 have p2:=And.intro hq hfine
 (repeat' first|(refine kkz ?_;intros)|refine kfk ?_ ?_<;>intro hb|fail)
 rename_i b1 u0
 refine kfor (ι:=Value × List OG) q (fun j x=>[(4,.one (.v x.1)),(32,.one (.s 7 ((q.map Rl.rl).map encR)))]) (fun j x=>AG x.1 x.2) (fun j x=>x.2.map (·.2)=(q.take j).flatMap graphsR∧x.2.length≤64000 * j) (u0,[]) ⟨rfl,by simp⟩ ?_ ?_
 ·rintro j r ⟨u,os⟩ hj hdd hjl ⟨q1,q2⟩
  simp only at q1 q2
  have hrow:((q.map Rl.rl).map encR)[j]?=some (encR r.rl):=by simp [hj]
  have hrm:=List.mem_of_getElem? hj
  have hr:=hq.rel j r hj
  have p3:r.body.Ok∧r.body.nodes≤80:=⟨hr.ok,by have:=hr.size;omega⟩
  obtain ⟨cl,hcl⟩:=Option.isSome_iff_exists.1 (hfine r hrm)
  have hgr:graphsR r=cl.flatMap (graphsC r):=by unfold graphsR;rw [hcl];rfl
  have hll:=(clF_lens hcl p3.2).1
  have hll2:(cl.map eCl).length=cl.length:=by simp
  have har:=hr.ar
  have hlo:=hr.loc
  (repeat' first|(refine kkS [] [38] ?_;intros)|fail)
  rw [hcl]
  (repeat' first|(refine kk ?_;intros)|refine kfk ?_ ?_<;>intro hb|fail)
  rename_i b6
  refine kfor (ι:=Value × List OG) cl (fun k x=>[(4,.one (.v x.1)),(6,.one (.v (.pointer (some ⟨b6,0,none⟩)))),(32,.one (.s 7 ((q.map Rl.rl).map encR))),(34,iv j),(33,iv q.length),(44,vCl cl)]) (fun k x=>arow 59 3 x.1 (x.2.map rowO)::abox b6 (encR r.rl) 45::x.2.map atmO) (fun k x=>x.2.map (·.2)=(q.take j).flatMap graphsR++(cl.take k).flatMap (graphsC r)∧x.2.length≤64000 * j+1000 * k) (u,os) ⟨by simpa using q1,by simp only;omega⟩ ?_ ?_ ?_
  ·rintro k c ⟨u,os⟩ hk hkd hkl ⟨q3,q4⟩
   simp only at q3 q4
   have hrow1:(cl.map eCl)[k]?=some (eCl c):=by simp [hk]
   have hcp:=rl_clause hr (hqp r hrm) hcl (List.mem_of_getElem? hk)
   have ht1:cl.take (k+1)=cl.take k++[c]:=by rw [List.take_add_one,hk];rfl
   (repeat' first|(refine kk ?_;intros)|refine kfk ?_ ?_<;>intro hb|fail)
   cases hs:solveF (r.ar+r.loc) c with
   | none=>
    have hgc:graphsC r c=[]:=by unfold graphsC;rw [hs]
    (repeat' first|(refine kk ?_;intros)|refine kfk ?_ ?_<;>intro hb|fail)
    refine ⟨(u,os),⟨by rw [ht1,List.flatMap_append];simpa [hgc] using q3,by simp only;omega⟩,kwk⟩
   | some sq=>
    obtain ⟨st,calls⟩:=sq
    have hgc:graphsC r c=calls.map (graphOf r.name st.bind r.ar):=by unfold graphsC;rw [hs]
    have hsv:=solveF_P hcp hs
    have hbd:=hsv.bind
    have hcll:=hsv.len
    simp only at hbd hcll
    have hcl2:((calls.map G.gl).map encG).length=calls.length:=by simp
    (repeat' first|(refine kk ?_;intros)|refine kfk ?_ ?_<;>intro hb|fail)
    rename_i b11
    refine kfor (ι:=Value × List OG) calls (fun m x=>[(4,.one (.v x.1)),(6,.one (.v (.pointer (some ⟨b6,0,none⟩)))),(11,.one (.v (.pointer (some ⟨b11,0,none⟩)))),(32,.one (.s 7 ((q.map Rl.rl).map encR))),(34,iv j),(33,iv q.length),(44,vCl cl),(46,iv k),(45,iv cl.length),(63,vGs calls)]) (fun m x=>arow 59 3 x.1 (x.2.map rowO)::abox b6 (encR r.rl) 45::abox b11 (encStt st) 54::x.2.map atmO) (fun m x=>x.2.map (·.2)=((q.take j).flatMap graphsR++(cl.take k).flatMap (graphsC r))++(calls.take m).map (graphOf r.name st.bind r.ar)∧x.2.length≤64000 * j+1000 * k+m) (u,os) ⟨by simpa using q3,by simp only;omega⟩ ?_ ?_ ⟨leF_fl wL,_,(List.Perm.cons _ (List.Perm.swap _ _ _)).trans (List.Perm.swap _ _ _),.refl _⟩
    ·rintro m g ⟨u,os⟩ hm hmd hml ⟨q5,q6⟩
     simp only at q5 q6
     have hrow2:((calls.map G.gl).map encG)[m]?=some (encG g.gl):=by simp [hm]
     obtain ⟨s,ts,rfl,hsn,hts⟩:=hsv.call g (List.mem_of_getElem? hm)
     have hts2:((ts.map T.tm).map encT).length=ts.length:=by simp
     have hmt:calls.take (m+1)=calls.take m++[.call s ts]:=by rw [List.take_add_one,hm];rfl
     have e1:rowsT (G.call s ts).gl.terms=(ts.map T.tm).map encT:=by rw [rowsT_eq];rfl
     have e2:(G.call s ts).gl.terms.length=ts.length:=List.length_map _
     (repeat' first|(refine kk ?_;intros)|refine kfk ?_ ?_<;>intro hb|fail)
     rename_i b15 b16
     refine knA 66 3 ?_
     refine kloop (ι:=Nat × Value) (fun y=>r.ar - y.1) (fun y=>[(4,.one (.v u)),(6,.one (.v (.pointer (some ⟨b6,0,none⟩)))),(11,.one (.v (.pointer (some ⟨b11,0,none⟩)))),(15,.one (.v (.pointer (some ⟨b15,0,none⟩)))),(16,.one (.v (.pointer (some ⟨b16,0,none⟩)))),(32,.one (.s 7 ((q.map Rl.rl).map encR))),(34,iv j),(33,iv q.length),(44,vCl cl),(46,iv k),(45,iv cl.length),(63,vGs calls),(65,iv m),(64,iv calls.length),(17,nv y.1)]) (fun y=>arow 66 3 y.2 ((colK st.bind ts y.1).map encA)::gbxO b16 r.name s y.2::abox b15 (encG (G.call s ts).gl) 43::arow 59 3 u (os.map rowO)::abox b6 (encR r.rl) 45::abox b11 (encStt st) 54::os.map atmO) (fun y=>y.1≤r.ar) (0,.slice none 0 0) (Nat.zero_le _) ?_
     rintro ⟨i,ua⟩ hi
     simp only at hi
     dsimp only
     have e3:r.rl.ar=(r.ar:Int):=rfl
     by_cases hir:i < r.ar
     ·haveI:=putYes_i
      have p5:Sub st.bind∧∃ i':Nat,i'≤100000∧T.var i=T.var i':=⟨hbd,i,by omega,rfl⟩
      have hcl3:=colK_len (b:=st.bind) (ts:=ts) (n:=i) (by omega) hts
      (repeat' first|(refine kk ?_;intros)|refine kfk ?_ ?_<;>intro hb|fail)
      refine kmix 10 [0,1,2,3,4,5,6,7] [8,9] [abox b11 (encStt st) 54] ?_ (hB:=Has.mem (by repeat (first|exact List.Mem.head _|apply List.Mem.tail)))
      (repeat (refine kkc ?_))
      refine kacO rfl rfl (O_alloc rfl) ?_
      rintro v A' ⟨b18,rfl,rfl⟩
      refine ⟨Has.mem (by repeat (first|exact List.Mem.head _|apply List.Mem.tail)),?_⟩
      refine kacW 0 (hb:=Has.mem (by repeat (first|exact List.Mem.head _|apply List.Mem.tail))) ?_
      (repeat (refine kkc ?_))
      (repeat' first|(refine kk ?_;intros)|refine kfk ?_ ?_<;>intro hb|fail)
      rw [e1,e2]
      refine kfor (ι:=Value) ts (fun n u9=>[(4,.one (.v u)),(6,.one (.v (.pointer (some ⟨b6,0,none⟩)))),(11,.one (.v (.pointer (some ⟨b11,0,none⟩)))),(15,.one (.v (.pointer (some ⟨b15,0,none⟩)))),(16,.one (.v (.pointer (some ⟨b16,0,none⟩)))),(32,.one (.s 7 ((q.map Rl.rl).map encR))),(34,iv j),(33,iv q.length),(44,vCl cl),(46,iv k),(45,iv cl.length),(63,vGs calls),(65,iv m),(64,iv calls.length),(17,nv i),(18,.one (.v (.pointer (some ⟨b18,0,none⟩)))),(89,.one (.s 4 ((ts.map T.tm).map encT)))]) (fun n u9=>abox b18 (encT ((T.var i).sub (suOf st.bind)).tm) 61::arow 66 3 u9 ((colK st.bind ts i++rowK ((T.var i).sub (suOf st.bind)) i ts n).map encA)::gbxO b16 r.name s u9::abox b15 (encG (G.call s ts).gl) 43::arow 59 3 u (os.map rowO)::abox b6 (encR r.rl) 45::abox b11 (encStt st) 54::os.map atmO) (fun _ _=>True) ua trivial ?_ ?_ ?_
      ·rintro n a u9 hn hnd hnl _
       have hrow3:((ts.map T.tm).map encT)[n]?=some (encT a.tm):=by simp [hn]
       have hrl:=rowK_len (t:=(T.var i).sub (suOf st.bind)) (i:=i) (ts:=ts) n
       have hrs:=rowK_succ (t:=(T.var i).sub (suOf st.bind)) (i:=i) hn
       (repeat' first|(refine kk ?_;intros)|refine kfk ?_ ?_<;>intro hb|fail)
       ·refine kdA 2 (ho:=rfl) fun u10=>?_
        (repeat' first|(refine kk ?_;intros)|refine kfk ?_ ?_<;>intro hb|fail)
        refine ⟨u10,trivial,?_⟩
        rw [hrs,if_pos hb,← List.append_assoc]
        exact kwk (hs:=by
         simp only [List.map_append,List.map_cons,List.map_nil]
         (exact wS))
       ·refine ⟨u9,trivial,?_⟩
        rw [hrs,if_neg hb,List.append_nil]
        exact kwk
      ·rintro u9 _
       (repeat' first|(refine kk ?_;intros)|refine kfk ?_ ?_<;>intro hb|fail)
       exact ⟨(i+1,u9),by simp only;omega,by simp only;omega,kwk⟩
      ·exact kwk (hs:=by
        simp only [rowK,List.append_nil]
        (exact wS))
     ·obtain rfl:i=r.ar:=by omega
      (repeat' first|(refine kk ?_;intros)|refine kfk ?_ ?_<;>intro hb|fail)
      rename_i u2
      refine ⟨(u2,os++[(ua,graphOf r.name st.bind r.ar (.call s ts))]),⟨?_,by simp;omega⟩,⟨leF_fl wL,?_⟩⟩
      ·rw [hmt,List.map_append,List.map_append,q5]
       simp
      ·simp only [List.map_append,List.map_cons,List.map_nil]
       exact ats_last (L:=arow 59 3 u2 (os.map rowO++[rowO (ua,graphOf r.name st.bind r.ar (.call s ts))])::abox b6 (encR r.rl) 45::abox b11 (encStt st) 54::os.map atmO) (y:=atmO (ua,graphOf r.name st.bind r.ar (.call s ts))) 0 rfl (by (exact wS))
    ·rintro ⟨u,os⟩ ⟨q5,q6⟩
     simp only at q5 q6
     rw [List.take_length] at q5
     (repeat' first|(refine kk ?_;intros)|refine kfk ?_ ?_<;>intro hb|fail)
     refine ⟨(u,os),⟨by rw [ht1,List.flatMap_append];simpa [hgc] using q5,by simp only;omega⟩,kwk (hs:=?_)⟩
     exact List.Sublist.cons_cons _ (List.Sublist.cons_cons _ (List.Sublist.cons _ (.refl _)))
  ·rintro ⟨u,os⟩ ⟨q3,q4⟩
   simp only at q3 q4
   rw [List.take_length] at q3
   (repeat' first|(refine kk ?_;intros)|refine kfk ?_ ?_<;>intro hb|fail)
   refine ⟨(u,os),⟨?_,by simp only;omega⟩,kwk⟩
   rw [List.take_add_one,hj]
   simpa [List.flatMap_append,hgr] using q3
  ·exact ⟨leF_fl wL,_,List.Perm.swap _ _ _,.refl _⟩
 ·rintro ⟨u,os⟩ ⟨q1,q2⟩
  rw [List.take_length] at q1
  (repeat' first|(refine kk ?_;intros)|refine kfk ?_ ?_<;>intro hb|fail)
  exact ker2 (v1:=.one (.v u)) (v2:=bv true) ⟨u,os,q1,rfl,rfl⟩ (.refl _) (.refl _)
end
end Go.Proofs.YtbabchapkhlenaaGreat
