/- Parts of the proof: VXG. -/
import Derived.Test.YtejkllmoofdpjaaGreatP47
import Derived.Test.YtejkllmoofdpjaaGreatP48
namespace Go.Proofs.YtejkllmoofdpjaaGreat
open Go
set_option linter.all false
set_option maxRecDepth 100000
set_option maxHeartbeats 4000000
noncomputable section
open Classical
def absG:G→Option ByteArray
 | .ab s _=>some s
 | _=>none
def tagsP (q:List Rl) (u:G):List ByteArray:=(u.pre++q.flatMap fun r=>r.body.pre).filterMap absG
theorem tagsP_goal {q:List Rl} {u:G} {s:ByteArray} {a:T} (h:G.ab s a∈u.pre):s∈tagsP q u:=List.mem_filterMap.2 ⟨_,List.mem_append_left _ h,rfl⟩
theorem tagsP_body {q:List Rl} {u:G} {r:Rl} (hr:r∈q) {s:ByteArray} {a:T} (h:G.ab s a∈r.body.pre):s∈tagsP q u:=List.mem_filterMap.2 ⟨_,List.mem_append_right _ (List.mem_flatMap.2 ⟨r,hr,h⟩),rfl⟩
mutual
theorem pre_nodes:∀ g:G,g.pre.length≤g.nodes
 | .all l=>by
  have:=preG_nodes l
  simp only [G.pre,G.nodes,List.length_cons];omega
 | .any l=>by
  have:=preG_nodes l
  simp only [G.pre,G.nodes,List.length_cons];omega
 | .tru | .fail | .eq _ _ | .ne _ _ | .sy _ | .nu _ | .ab _ _ | .call _ _ | .non _ _=>by simp [G.pre,G.nodes]
theorem preG_nodes:∀ l:List G,(preG l).length≤nodesG l
 | []=>Nat.le_refl _
 | g::l=>by
  have:=pre_nodes g
  have:=preG_nodes l
  simp only [preG,nodesG,List.length_append];omega
end
theorem tagsP_len {q:List Rl} {u:G} (hq:ProgP q) (hu:u.nodes≤80):(tagsP q u).length≤1000:=by
 have h1:=List.length_filterMap_le absG (u.pre++q.flatMap fun r=>r.body.pre)
 have h2:=pre_nodes u
 have h3:∀ l:List Rl,(∀ r∈l,r.body.nodes≤60)→(l.flatMap fun r=>r.body.pre).length≤60 * l.length:=fun l=>by
  induction l with
  | nil=>intro _;simp
  | cons r l ih=>
   intro h
   have:=ih fun x hx=>h x (List.mem_cons_of_mem _ hx)
   have:=pre_nodes r.body
   have:=h r (List.mem_cons_self ..)
   simp only [List.flatMap_cons,List.length_append,List.length_cons];omega
 have h4:=h3 q fun r hr=>by obtain ⟨k,h⟩:=hq.mem hr;exact h.size
 have h5:=hq.len
 unfold tagsP
 rw [List.length_append] at h1
 omega
def startP (p:List RlR) (g:Gl) (n:Int):Prop:=posOk p∧(0≤n∧n≤100000)∧goalP p g n
structure StartG (q:List Rl) (u:G) (n:Nat):Prop where
 prog:ProgP q
 pos:posP q
 gd:GdG q (tagsP q u) u
 tags:(tagsP q u).length≤1000
 nn:n≤100000
theorem startP_some {p:List RlR} {g:Gl} {n:Int} (h:startP p g n):∃ (q:List Rl) (u:G) (m:Nat),p=q.map Rl.rl∧g=u.gl∧n=m∧StartG q u m:=by
 obtain ⟨⟨h1,h2⟩,⟨h3,h4⟩,u,rfl,h5,h6,h7,h8⟩:=h
 obtain ⟨q,rfl,hq⟩:=progOk_some h1
 have hp:=(posOk_map h1).1 ⟨h1,h2⟩
 exact ⟨q,u,n.toNat,rfl,rfl,by omega,hq,hp,⟨h5.1,h8,h6,fun s a h=>tagsP_goal h⟩,tagsP_len hq h5.2,by omega⟩
theorem canStart_i:Con3 Tryz.prog 64 (List RlR) Gl Int vP vg iv (fun p g n=>bp (startP p g n)) (fun p g n=>InP p∧g.In):=⟨fun p g n ⟨hp,hg⟩=>by
 by_cases hn:0≤n
 case neg=>
  refine pu Tryz.func64 rfl Tryz.ntmps64 rfl rfl fun C=>?_
  (repeat' first|(refine kk ?_;intros)|refine kfk ?_ ?_<;>intro hb|fail)
  exact kret (bpF fun h=>hn h.2.1.1)
 by_cases hn2:n≤100000
 case neg=>
  refine pu Tryz.func64 rfl Tryz.ntmps64 rfl rfl fun C=>?_
  (repeat' first|(refine kk ?_;intros)|refine kfk ?_ ?_<;>intro hb|fail)
  exact kret (bpF fun h=>hn2 h.2.1.2)
 by_cases h1:posOk p
 case neg=>
  haveI:=isPositive_i.no
  have:=And.intro hp h1
  refine pu Tryz.func64 rfl Tryz.ntmps64 rfl rfl fun C=>?_
  (repeat' first|(refine kk ?_;intros)|refine kfk ?_ ?_<;>intro hb|fail)
  exact kret (bpF fun h=>h1 h.1)
 haveI:=isPositive_i.yes
 have z1:=And.intro hp h1
 by_cases ck:g.ok
 case neg=>
  haveI:=goalOk_i.no
  have:=And.intro hg ck
  refine pu Tryz.func64 rfl Tryz.ntmps64 rfl rfl fun C=>?_
  (repeat' first|(refine kk ?_;intros)|refine kfk ?_ ?_<;>intro hb|fail)
  exact kret (bpF fun h=>ck (goalP_iff.1 h.2.2).1)
 haveI:=goalOk_i.yes
 have z2:=And.intro hg ck
 have p5:=ok_gvp ck
 have p6:p.length≤1000∧∃ u:G,g=u.gl∧GvP u:=⟨by have:=h1.1.1;omega,p5⟩
 by_cases cf:fitR2 p g n
 case neg=>
  haveI:=fits_r.no
  have:=And.intro p6 cf
  refine pu Tryz.func64 rfl Tryz.ntmps64 rfl rfl fun C=>?_
  (repeat' first|(refine kk ?_;intros)|refine kfk ?_ ?_<;>intro hb|fail)
  exact kret (bpF fun h=>cf (goalP_iff.1 h.2.2).2.2)
 haveI:=fits_r.yes
 have z3:=And.intro p6 cf
 by_cases cn:negR g
 ·haveI:=negative_r.yes
  have:=And.intro p5 cn
  refine pu Tryz.func64 rfl Tryz.ntmps64 rfl rfl fun C=>?_
  (repeat' first|(refine kk ?_;intros)|refine kfk ?_ ?_<;>intro hb|fail)
  exact kret (bpF fun h=>(goalP_iff.1 h.2.2).2.1 cn)
 ·haveI:=negative_r.no
  have:=And.intro p5 cn
  refine pu Tryz.func64 rfl Tryz.ntmps64 rfl rfl fun C=>?_
  (repeat' first|(refine kk ?_;intros)|refine kfk ?_ ?_<;>intro hb|fail)
  exact kret (bpT ⟨h1,⟨hn,hn2⟩,goalP_iff.2 ⟨ck,cn,cf⟩⟩)⟩
abbrev zSm:List D:=[.v (.int .i64 0),.v (.int .i64 0),.v (.slice none 0 0),.v (.slice none 0 0),.v (.slice none 0 0),.v (.slice none 0 0),.v (.slice none 0 0),.v (.int .i64 0),.v (.string noS),.v (.slice none 0 0),.v (.slice none 0 0),.v (.slice none 0 0)]
abbrev stSm (n:Nat) (u:G):List D:=[.v (.int .i64 2),.v (.int .i64 (n:Int)),.v (.slice none 0 0),.v (.slice none 0 0),.v (.slice none 0 0),.v (.slice none 0 0),.v (.slice none 0 0)]++(encG u.gl++[.v (.slice none 0 0)])
theorem pause_s (n:Nat) (u:G):Pu Tryz.prog 119 [.agg [.v (.int .i64 (n:Int)),.v (.slice none 0 0),.v (.slice none 0 0),.v (.slice none 0 0),.v (.slice none 0 0),.v (.slice none 0 0)],vG u] (.agg (stSm n u)):=by
 refine pu Tryz.func119 rfl Tryz.ntmps119 rfl rfl fun C=>?_
 (repeat' first|(refine kk ?_;intros)|refine kfk ?_ ?_<;>intro hb|fail)
 refine kr1 (rvw ?_)
 exact VwC.refl _
theorem start_no (p:List RlR) (g:Gl) (n:Int) (hp:InP p) (hg:g.In) (h:¬ startP p g n):Pu Tryz.prog 60 [vP p,vg g,iv n] (.tup [.agg zSm,bv false]):=by
 by_cases h1:posOk p
 case neg=>
  haveI:=isPositive_s.no
  have:=And.intro hp h1
  refine pu Tryz.func60 rfl Tryz.ntmps60 rfl rfl fun C=>?_
  (repeat' first|(refine kk ?_;intros)|refine kfk ?_ ?_<;>intro hb|fail)
  exact kr2 (rvw (VwC.refl _)) (rvT rfl)
 haveI:=isPositive_s.yes
 have z1:=And.intro hp h1
 by_cases h2:0≤n∧n≤100000
 case neg=>
  haveI:=l01In_c.no
  have:=And.intro trivial h2
  refine pu Tryz.func60 rfl Tryz.ntmps60 rfl rfl fun C=>?_
  (repeat' first|(refine kk ?_;intros)|refine kfk ?_ ?_<;>intro hb|fail)
  exact kr2 (rvw (VwC.refl _)) (rvT rfl)
 haveI:=l01In_c.yes
 have z2:=And.intro trivial h2
 have h3:¬ goalP p g n:=fun h3=>h ⟨h1,h2,h3⟩
 have p6:p.length≤1000∧g.In:=⟨by have:=h1.1.1;omega,hg⟩
 haveI:=goal_s.no
 have z3:=And.intro p6 h3
 refine pu Tryz.func60 rfl Tryz.ntmps60 rfl rfl fun C=>?_
 (repeat' first|(refine kk ?_;intros)|refine kfk ?_ ?_<;>intro hb|fail)
 exact kr2 (rvw (VwC.refl _)) (rvT rfl)
theorem StartG.start {q:List Rl} {u:G} {n:Nat} (h:StartG q u n) (hf:startP (q.map Rl.rl) u.gl n) (hp:InP (q.map Rl.rl)) (hg:u.gl.In):Pu Tryz.prog 60 [vPq q,vG u,nv n] (.tup [.agg (stSm n u),bv true]):=by
 have p6:(q.map Rl.rl).length≤1000∧u.gl.In:=⟨by have:=hf.1.1.1;omega,hg⟩
 haveI:=isPositive_s.yes
 have z1:=And.intro hp hf.1
 haveI:=l01In_c.yes
 have z2:=And.intro trivial hf.2.1
 haveI:=goal_s.yes
 have z3:=And.intro p6 hf.2.2
 have z4:GvS u:=h.gd.ok.gvs
 refine pu Tryz.func60 rfl Tryz.ntmps60 rfl rfl fun C=>?_
 (repeat' first|(refine kkS [119] [] ?_;intros)|refine kfS [119] [] ?_ ?_<;>intro hb|fail)
 refine kr ?_ (h:=P_call rfl (pause_s n u))
 (repeat' first|(refine kk ?_;intros)|refine kfk ?_ ?_<;>intro hb|fail)
 exact kr2 (rvw (VwC.refl _)) (rvT rfl)
def okD (d s:Int):Prop:=(0≤d∧d≤1000)∧0≤s∧s≤4000
theorem StartG.ok {q:List Rl} {u:G} {n:Nat} (h:StartG q u n) (lim steps:Nat):(∀ x∈(depthF q u n lim steps).1,FdOk (tagsP q u) steps x)∧(depthF q u n lim steps).1.length≤steps:=
 searchF_ok h.prog h.pos (fun r hr s a ha=>tagsP_body hr ha) steps 0 _ _ _ (Nat.zero_add _) (SI.start h.gd h.nn)
theorem FdOk.stl {tags:List ByteArray} {m:Nat} {x:Fd} (h:FdOk tags m x) (ht:tags.length≤1000):StL x.1.st:=
 ⟨by have:=h.sp.pre.bind.vok.len;omega,by have:=h.dl;omega,fun d hd=>by have:=(h.sp.pre.dis d hd).vok.len;omega,by have:=h.sp.pre.kinds.len;omega,h.sp.mrk.len (by omega)⟩
theorem ds_s (q:List Rl) (u:G) (n lim steps:Nat) (h:StartG q u n) (hf:startP (q.map Rl.rl) u.gl n) (hp:InP (q.map Rl.rl)) (hg:u.gl.In) (h1:lim≤1000) (h2:steps≤4000) :
 Pu Tryz.prog 35 [vPq q,vG u,nv n,nv lim,nv steps] (.tup [vFbs (depthF q u n lim steps).1,bv (depthF q u n lim steps).2,bv true]):=by
 obtain ⟨hok,hlen⟩:=h.ok lim steps
 have hs:=search_s q (tagsP q u) u n lim steps h.prog h.pos (fun r hr s a ha=>tagsP_body hr ha) (by have:=h.tags;omega) h.gd h.nn h1 h2
 have p1:(depthF q u n lim steps).1.length≤1000000∧∀ x∈(depthF q u n lim steps).1,StL x.1.st∧x.1.ch.length≤1000000:=⟨by omega,fun x hx=>⟨(hok x hx).stl h.tags,by have:=(hok x hx).ch.1;omega⟩⟩
 haveI:=l01In_c.yes
 have z1:=And.intro trivial (show (0:Int)≤(lim:Int)∧(lim:Int)≤1000 by omega)
 have z2:=And.intro trivial (show (0:Int)≤(steps:Int)∧(steps:Int)≤4000 by omega)
 refine pu Tryz.func35 rfl Tryz.ntmps35 rfl rfl fun C=>?_
 (repeat' first|(refine kkS [60] [] ?_;intros)|refine kfS [60] [] ?_ ?_<;>intro hb|fail)
 refine kr ?_ (h:=P_call rfl (h.start hf hp hg))
 (repeat' first|(refine kkS [92] [] ?_;intros)|refine kfS [92] [] ?_ ?_<;>intro hb|fail)
 refine kr ?_ (h:=P_call rfl hs)
 generalize depthF q u n lim steps=r at p1 ⊢
 (repeat' first|(refine kk ?_;intros)|refine kfk ?_ ?_<;>intro hb|fail)
 exact kr3 (rvT rfl) (rvT rfl) (rvT rfl)
theorem ds_no (p:List RlR) (g:Gl) (n d s:Int) (hp:InP p) (hg:g.In) (h:¬ (startP p g n∧okD d s)):Pu Tryz.prog 35 [vP p,vg g,iv n,iv d,iv s] (.tup [vFbs [],bv false,bv false]):=by
 by_cases hf:startP p g n
 ·obtain ⟨q,u,m,rfl,rfl,rfl,hs⟩:=startP_some hf
  by_cases hd:0≤d∧d≤1000
  ·have hs2:¬ (0≤s∧s≤4000):=fun h2=>h ⟨hf,hd,h2⟩
   have e1:bp (0≤d∧d≤1000)=bv true:=(bpT hd).symm
   have e2:bp (0≤s∧s≤4000)=bv false:=(bpF hs2).symm
   refine pu Tryz.func35 rfl Tryz.ntmps35 rfl rfl fun C=>?_
   (repeat' first|(refine kkS [60] [] ?_;intros)|refine kfS [60] [] ?_ ?_<;>intro hb|fail)
   refine kr ?_ (h:=P_call rfl (hs.start hf hp hg))
   (repeat' first|(refine kkS [] [29] ?_;intros)|fail)
   rw [e1]
   (repeat' first|(refine kkS [] [34] ?_;intros)|fail)
   rw [e2]
   (repeat' first|(refine kk ?_;intros)|refine kfk ?_ ?_<;>intro hb|fail)
   exact kr3 rvN (rvT rfl) (rvT rfl)
  ·have e1:bp (0≤d∧d≤1000)=bv false:=(bpF hd).symm
   refine pu Tryz.func35 rfl Tryz.ntmps35 rfl rfl fun C=>?_
   (repeat' first|(refine kkS [60] [] ?_;intros)|refine kfS [60] [] ?_ ?_<;>intro hb|fail)
   refine kr ?_ (h:=P_call rfl (hs.start hf hp hg))
   (repeat' first|(refine kkS [] [29] ?_;intros)|fail)
   rw [e1]
   (repeat' first|(refine kk ?_;intros)|refine kfk ?_ ?_<;>intro hb|fail)
   exact kr3 rvN (rvT rfl) (rvT rfl)
 ·refine pu Tryz.func35 rfl Tryz.ntmps35 rfl rfl fun C=>?_
  (repeat' first|(refine kkS [60] [] ?_;intros)|refine kfS [60] [] ?_ ?_<;>intro hb|fail)
  refine kr ?_ (h:=P_call rfl (start_no p g n hp hg hf))
  (repeat' first|(refine kk ?_;intros)|refine kfk ?_ ?_<;>intro hb|fail)
  exact kr3 rvN (rvT rfl) (rvT rfl)
theorem ker3 {P:Program} {f:AF} {A A'':List Atm} {Q':AV→List Atm→Prop} {t t2 t3:Nat} {a a2 a3 v1 v2 v3:AV} (hq:Q' (.tup [v1,v2,v3]) A'') (hle:a.le v1) (hle2:a2.le v2) (hle3:a3.le v3) (hx:f t=a:=by (first|exact sh1 rfl|exact sh2 rfl|exact sh3 rfl|exact sh4 rfl|exact sh5 rfl|exact rfl|fail)) (hx2:f t2=a2:=by (first|exact sh1 rfl|exact sh2 rfl|exact sh3 rfl|exact sh4 rfl|exact sh5 rfl|exact rfl|fail)) (hx3:f t3=a3:=by (first|exact sh1 rfl|exact sh2 rfl|exact sh3 rfl|exact sh4 rfl|exact sh5 rfl|exact rfl|fail)) (hs:A''.Sublist A:=by (exact wS)) :
 ∃ l v A'',RV P f A [.tmp t,.tmp t2,.tmp t3] l∧Q' v A''∧(AV.of1 l).le v∧Wk f A f A'':=⟨[f t,f t2,f t3],.tup [v1,v2,v3],A'',⟨_,_,rfl,R1_tmp,_,_,rfl,R1_tmp,_,_,rfl,R1_tmp,rfl⟩,hq,AV.le_tup (show leA [f t,f t2,f t3] [v1,v2,v3] from ⟨by rw [hx];exact hle,by rw [hx2];exact hle2,by rw [hx3];exact hle3,trivial⟩),wkR hs⟩
theorem ds_i (q:List Rl) (u:G) (n lim steps:Nat) (h:StartG q u n) (hf:startP (q.map Rl.rl) u.gl n) (hp:InP (q.map Rl.rl)) (hg:u.gl.In) (h1:lim≤1000) (h2:steps≤4000) :
 Spec Tryz.prog 36 [vPq q,vG u,nv n,nv lim,nv steps] [] fun v A'=>∃ w os,os.map OFd.fd=(depthF q u n lim steps).1.map Fd.raw∧v=.tup [.one (.v w),bv (depthF q u n lim steps).2,bv true]∧A'=SFd w os:=by
 obtain ⟨hok,hlen⟩:=h.ok lim steps
 have hs:=depthSearch_c q (tagsP q u) u n lim steps h.prog h.pos (fun r hr s a ha=>tagsP_body hr ha) (by have:=h.tags;omega) h.gd h.nn h1 h2
 have hc:=copyFO_c (depthF q u n lim steps).1 (by omega) fun x hx=>⟨(hok x hx).stl h.tags,by have:=(hok x hx).ch.1;omega⟩
 haveI:=canStart_i.yes
 have z1:=And.intro (And.intro hp hg) hf
 refine sp Tryz.func36 rfl Tryz.ntmps36 rfl rfl fun C=>?_
 (repeat' first|(refine kkS [94] [] ?_;intros)|refine kfS [94] [] ?_ ?_<;>intro hb|fail)
 refine kr ?_ (h:=P_call rfl hs)
 generalize depthF q u n lim steps=r at hc ⊢
 (repeat' first|(refine kkS [95] [] ?_;intros)|refine kfS [95] [] ?_ ?_<;>intro hb|fail)
 refine AO_o rfl rfl (O_call0 hc) ?_
 rintro _ _ ⟨_,⟨w,os,ho,rfl,rfl⟩,rfl⟩
 (repeat' first|(refine kk ?_;intros)|refine kfk ?_ ?_<;>intro hb|fail)
 exact ker3 ⟨w,os,ho,rfl,rfl⟩ (.refl _) (.refl _) (.refl _)
theorem ds_i_no (p:List RlR) (g:Gl) (n d s:Int) (hp:InP p) (hg:g.In) (h:¬ (startP p g n∧okD d s)):Pu Tryz.prog 36 [vP p,vg g,iv n,iv d,iv s] (.tup [.one (.v (.slice none 0 0)),bv false,bv false]):=by
 by_cases hf:startP p g n
 case neg=>
  haveI:=canStart_i.no
  have:=And.intro (And.intro hp hg) hf
  refine pu Tryz.func36 rfl Tryz.ntmps36 rfl rfl fun C=>?_
  (repeat' first|(refine kk ?_;intros)|refine kfk ?_ ?_<;>intro hb|fail)
  exact kr3 (rvT rfl) (rvT rfl) (rvT rfl)
 haveI:=canStart_i.yes
 have z1:=And.intro (And.intro hp hg) hf
 by_cases c1:0≤d
 case neg=>
  refine pu Tryz.func36 rfl Tryz.ntmps36 rfl rfl fun C=>?_
  (repeat' first|(refine kk ?_;intros)|refine kfk ?_ ?_<;>intro hb|fail)
  exact kr3 (rvT rfl) (rvT rfl) (rvT rfl)
 by_cases c2:d≤1000
 case neg=>
  refine pu Tryz.func36 rfl Tryz.ntmps36 rfl rfl fun C=>?_
  (repeat' first|(refine kk ?_;intros)|refine kfk ?_ ?_<;>intro hb|fail)
  exact kr3 (rvT rfl) (rvT rfl) (rvT rfl)
 by_cases c3:0≤s
 case neg=>
  refine pu Tryz.func36 rfl Tryz.ntmps36 rfl rfl fun C=>?_
  (repeat' first|(refine kk ?_;intros)|refine kfk ?_ ?_<;>intro hb|fail)
  exact kr3 (rvT rfl) (rvT rfl) (rvT rfl)
 have c4:¬ s≤4000:=fun c4=>h ⟨hf,⟨c1,c2⟩,c3,c4⟩
 refine pu Tryz.func36 rfl Tryz.ntmps36 rfl rfl fun C=>?_
 (repeat' first|(refine kk ?_;intros)|refine kfk ?_ ?_<;>intro hb|fail)
 exact kr3 (rvT rfl) (rvT rfl) (rvT rfl)
end
end Go.Proofs.YtejkllmoofdpjaaGreat
