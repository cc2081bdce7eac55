/- Parts of the proof: VXK VXI. -/
import Derived.Test.YtejkllmoofdpjaaGreatD52
import Derived.Test.YtejkllmoofdpjaaGreatD51
namespace Go.Proofs.YtejkllmoofdpjaaGreat
open Go
set_option linter.all false
set_option maxRecDepth 100000
set_option maxHeartbeats 4000000
noncomputable section
open Classical
theorem encFb_raw (x:Fd):encFb x=encFd x.raw:=by
 show (encStt x.1.st++[.s 1 (x.1.ch.map encN)])++[.v (.int .i64 (x.2:Int))]=(encSt x.1.st.raw++[.s 1 ((x.1.ch.map fun n:Nat=>(n:Int)).map encI)])++[.v (.int .i64 (x.2:Int))]
 rw [encSt_raw,chI]
theorem vFbs_raw (l:List Fd):vFbs l=vFds (l.map Fd.raw):=by
 show AV.one (.s 7 (l.map encFb))=.one (.s 7 ((l.map Fd.raw).map encFd))
 rw [List.map_map]
 exact congrArg (fun z=>AV.one (.s 7 z)) (List.map_congr_left fun x _=>encFb_raw x)
theorem i64_nat {n:Nat} (h:n≤1000000000):I64 (n:Int):=by unfold I64;omega
theorem Sub.bds {s:Sb} (h:Sub s):bdsIn (s.map toB):=by
 refine ⟨by rw [List.length_map];have:=h.vok.len;omega,fun b hb=>?_⟩
 obtain ⟨x,hx,rfl⟩:=List.mem_map.1 hb
 obtain ⟨h1,h2⟩:=h.vok.ok x hx
 exact ⟨i64_nat (by omega),tm_in h2.fit⟩
theorem MB.len2 {tags:List ByteArray} {l:Ms} (h:MB tags l):l.length≤100001 * tags.length:=by
 have hn:l.Nodup:=h.ok.asc.imp fun {a b} h e=>by rw [e,cMk_tot.self] at h;cases h
 exact markLen_aux (tags:=tags) 100001 hn fun m hm=>⟨by have:=(h.ok.ok m hm).1;omega,h.tg m hm⟩
theorem FdOk.in2 {tags:List ByteArray} {m:Nat} {x:Fd} (h:FdOk tags m x) (ht:tags.length≤1000) (hm:m≤4000):x.raw.1.In2:=by
 have hp:=h.sp.pre
 refine ⟨⟨i64_nat (by have:=h.nx;omega),hp.bind.bds,⟨?_,fun b hb=>?_⟩,⟨?_,fun b hb=>?_⟩,⟨?_,fun b hb=>?_⟩⟩,⟨?_,fun b hb=>?_⟩⟩
 ·show (x.1.st.dis.map _).length≤_
  rw [List.length_map];have:=h.dl;omega
 ·obtain ⟨d,hd,rfl⟩:=List.mem_map.1 (show b∈x.1.st.dis.map _ from hb)
  exact (hp.dis d hd).bds
 ·show (x.1.st.kinds.map toK).length≤_
  rw [List.length_map];have:=hp.kinds.len;omega
 ·obtain ⟨k,hk,rfl⟩:=List.mem_map.1 (show b∈x.1.st.kinds.map toK from hb)
  obtain ⟨h1,h2⟩:=hp.kinds.ok k hk
  exact ⟨i64_nat (by omega),by show I64 k.2;unfold I64;omega⟩
 ·show (x.1.st.marks.map toM).length≤_
  rw [List.length_map];have:=h.sp.mrk.len2;omega
 ·obtain ⟨k,hk,rfl⟩:=List.mem_map.1 (show b∈x.1.st.marks.map toM from hb)
  obtain ⟨h1,h2⟩:=hp.marks.ok k hk
  exact ⟨i64_nat (by omega),by show Lng k.2.size;have:=h2.2.1;unfold Lng;omega⟩
 ·show (x.1.ch.map _).length≤_
  rw [List.length_map];have:=h.ch.1;omega
 ·obtain ⟨k,hk,rfl⟩:=List.mem_map.1 (show b∈x.1.ch.map _ from hb)
  exact i64_nat (by have:=h.ch.2 k hk;omega)
theorem cn_nodes:∀ t:T,t.tm.cn=t.nodes
 | .nil=>rfl
 | .var _=>rfl
 | .sym _=>rfl
 | .num _=>rfl
 | .pair a b=>by
  show 1+(a.tm.cn+(b.tm.cn+0))=_
  rw [cn_nodes a,cn_nodes b]
  simp only [T.nodes];omega
theorem cnBs_le:∀ {l:Sb},(∀ b∈l,b.2.nodes≤5000)→cnBs (l.map toB)≤15001 * l.length
 | [],_=>Nat.zero_le _
 | b::l,h=>by
  have:=h b (List.Mem.head _)
  have:=cnBs_le (l:=l) fun x hx=>h x (List.Mem.tail _ hx)
  have e:(toB b).2.cn=b.2.nodes:=cn_nodes b.2
  simp only [List.map_cons,cnBs,List.length_cons,e]
  omega
theorem Sub.cn_le {s:Sb} (h:Sub s):cnBs (s.map toB)≤6000400:=by
 have:=cnBs_le (l:=s) fun b hb=>(h.vok.ok b hb).2.size
 have:=h.vok.len
 omega
theorem cnDs_le:∀ {l:List Sb},(∀ d∈l,Sub d)→cnDs (l.map fun d=>d.map toB)≤6000400 * l.length
 | [],_=>Nat.zero_le _
 | d::l,h=>by
  have:=(h d (List.Mem.head _)).cn_le
  have:=cnDs_le (l:=l) fun x hx=>h x (List.Mem.tail _ hx)
  simp only [List.map_cons,cnDs,List.length_cons]
  omega
theorem FdOk.cn_le {tags:List ByteArray} {m:Nat} {x:Fd} (h:FdOk tags m x) (ht:tags.length≤1000) (hm:m≤4000):x.raw.cn≤500000000:=by
 have hp:=h.sp.pre
 have h1:=hp.bind.cn_le
 have h2:=cnDs_le hp.dis
 have h3:=h.dl
 have h4:=hp.kinds.len
 have h5:=h.sp.mrk.len2
 have h6:=h.ch.1
 show 2+(cnBs (x.1.st.bind.map toB)+(cnDs (x.1.st.dis.map fun d=>d.map toB)+(2 * (x.1.st.kinds.map toK).length+2 * (x.1.st.marks.map toM).length)))+(x.1.ch.map _).length≤_
 simp only [List.length_map]
 omega
theorem cnFs_le:∀ {l:List FdR},(∀ x∈l,x.cn≤500000000)→cnFs l≤500000000 * l.length
 | [],_=>Nat.zero_le _
 | x::l,h=>by
  have:=h x (List.Mem.head _)
  have:=cnFs_le (l:=l) fun y hy=>h y (List.Mem.tail _ hy)
  simp only [cnFs,List.length_cons]
  omega
theorem OT.row_rg:∀ t:OT,t.row.all D.rg=true
 | .mk _ _ _ _ _=>rfl
mutual
theorem OT.ats_rg:∀ t:OT,∀ a∈t.ats,a.Rg
 | .mk k n s u l,a,ha=>by
  simp only [OT.ats,List.mem_cons] at ha
  rcases ha with rfl|ha
  ·exact arow_rg (by rw [List.all_map];exact List.all_eq_true.2 fun t _=>t.row_rg)
  ·exact atsO_rg l a ha
theorem atsO_rg:∀ l:List OT,∀ a∈atsO l,a.Rg
 | [],a,ha=>by simp [atsO] at ha
 | t::l,a,ha=>by
  simp only [atsO,List.mem_append] at ha
  rcases ha with ha|ha
  ·exact t.ats_rg a ha
  ·exact atsO_rg l a ha
end
theorem OB.row_rg (b:OB):b.row.all D.rg=true:=by obtain ⟨v,t⟩:=b;cases t;rfl
theorem atsB_rg:∀ l:List OB,∀ a∈atsB l,a.Rg
 | [],a,ha=>by simp [atsB] at ha
 | t::l,a,ha=>by
  simp only [atsB,List.mem_append] at ha
  rcases ha with ha|ha
  ·exact t.t.ats_rg a ha
  ·exact atsB_rg l a ha
theorem SBd_rg {u:Value} {l:List OB}:∀ a∈SBd u l,a.Rg:=fun a ha=>by
 rcases List.mem_cons.1 ha with rfl|ha
 ·exact arow_rg (by rw [List.all_map];exact List.all_eq_true.2 fun t _=>t.row_rg)
 ·exact atsB_rg l a ha
theorem atsD_rg:∀ l:List OD,∀ a∈atsD l,a.Rg
 | [],a,ha=>by simp [atsD] at ha
 | t::l,a,ha=>by
  simp only [atsD,List.mem_append] at ha
  rcases ha with ha|ha
  ·exact SBd_rg a ha
  ·exact atsD_rg l a ha
theorem SDs_rg {u:Value} {l:List OD}:∀ a∈SDs u l,a.Rg:=fun a ha=>by
 rcases List.mem_cons.1 ha with rfl|ha
 ·exact arow_rg (by rw [List.all_map];exact List.all_eq_true.2 fun t _=>rfl)
 ·exact atsD_rg l a ha
theorem OSt.ats_rg (s:OSt):∀ a∈s.ats,a.Rg:=fun a ha=>by
 simp only [OSt.ats,List.mem_append,List.mem_cons,List.not_mem_nil,or_false] at ha
 rcases ha with ha|ha|rfl|rfl
 ·exact SBd_rg a (List.mem_cons.2 ha)
 ·exact SDs_rg a (List.mem_cons.2 ha)
 ·exact arow_rg (by rw [List.all_map];exact List.all_eq_true.2 fun t _=>rfl)
 ·exact arow_rg (by rw [List.all_map];exact List.all_eq_true.2 fun t _=>rfl)
theorem OBr.ats_rg (s:OBr):∀ a∈s.ats,a.Rg:=fun a ha=>by
 simp only [OBr.ats,List.mem_append,List.mem_cons,List.not_mem_nil,or_false] at ha
 rcases ha with ha|rfl
 ·exact s.s.ats_rg a ha
 ·exact arow_rg (by rw [List.all_map];exact List.all_eq_true.2 fun t _=>rfl)
theorem atsF_rg:∀ l:List OFd,∀ a∈atsF l,a.Rg
 | [],a,ha=>by simp [atsF] at ha
 | t::l,a,ha=>by
  simp only [atsF,List.mem_append] at ha
  rcases ha with ha|ha
  ·exact t.b.ats_rg a ha
  ·exact atsF_rg l a ha
theorem SFd_rg {u:Value} {l:List OFd}:∀ a∈SFd u l,a.Rg:=fun a ha=>by
 rcases List.mem_cons.1 ha with rfl|ha
 ·exact arow_rg (by rw [List.all_map];exact List.all_eq_true.2 fun t _=>rfl)
 ·exact atsF_rg l a ha
theorem markGoalO_c (k:Int) (kd:Int) (nm:ByteArray) (ut ug:Value) (ts:List OT) (gs:List OGl) (h0:0 < k) (hk:k+3 * (cntO ts:Int)+(cntOG gs:Int)≤1000000000):Spec Tryz.prog 31 [.agg (OGl.row (.mk kd nm ut ts ug gs)),iv k] (SL ut ts++SG ug gs) fun v A'=>v=iv (k+3 * (cntO ts:Int)+(cntOG gs:Int))∧A'=[]:=by
 refine sp Tryz.func31 rfl Tryz.ntmps31 rfl rfl fun C=>?_
 (repeat' first|(refine kkS [81] [] ?_;intros)|refine kfS [81] [] ?_ ?_<;>intro hb|fail)
 refine kcE (A1:=_::SG ug gs) (h:=markTs_c _ ts ut k rfl h0 (by omega)) ?_ ((List.perm_append_comm (l₁:=SL ut ts) (l₂:=SG ug gs)).cons _)
 rintro _ rfl
 (repeat' first|(refine kkS [82] [] ?_;intros)|refine kfS [82] [] ?_ ?_<;>intro hb|fail)
 refine kcE (A1:=[_]) (h:=markGs_c _ gs ug (k+3 * (cntO ts:Int)) rfl (by omega) (by omega)) ?_ (.refl _)
 rintro _ rfl
 (repeat' first|(refine kk ?_;intros)|refine kfk ?_ ?_<;>intro hb|fail)
 exact ker1 (A'':=[]) _ ⟨rfl,rfl⟩
end
noncomputable section
open Classical
theorem eqPYes_i:Con2 Tryz.prog 15 (List RlR) (List RlR) vP vP (fun _ _=>bv true) (fun a b=>a=b∧InP a):=⟨fun a b ⟨e1,e2⟩=>by subst e1;rw [show bv true=bp (a=a) from bpT rfl];exact eqProgram_c.h _ _ ⟨e2,e2⟩⟩
theorem eqGlYes_i:Con2 Tryz.prog 28 Gl Gl vg vg (fun _ _=>bv true) (fun a b=>a=b∧a.In):=⟨fun a b ⟨e1,e2⟩=>by subst e1;rw [show bv true=bp (a=a) from bpT rfl];exact eqGoal_c.h _ _ ⟨e2,e2⟩⟩
theorem eqFYes_i (l:List FdR) (h:l.length≤1000000∧∀ x∈l,x.1.In2):Con2 Tryz.prog 37 (List FdR) (List FdR) vFds vFds (fun _ _=>bv true) (fun a b=>a=l∧b=l):=⟨fun a b ⟨e1,e2⟩=>by rw [e1,e2,show bv true=bp (l=l) from bpT rfl];exact eqFs_c.h _ _ ⟨⟨h.1,h.1⟩,h.2,h.2⟩⟩
theorem markNilF_c (k:Int):Pu Tryz.prog 38 [.one (.s 7 []),iv k] (iv k):=by
 refine pu Tryz.func38 rfl Tryz.ntmps38 rfl rfl fun C=>?_
 (repeat' first|(refine kk ?_;intros)|refine kfk ?_ ?_<;>intro hb|fail)
 refine kloop (ι:=Unit) (fun _=>0) (fun q=>[(0,.one (.s 7 [])),(1,iv k),(5,nv 0)]) (fun _=>[]) (fun _=>True) () trivial ?_ kwk
 rintro _ _
 (repeat' first|(refine kk ?_;intros)|refine kfk ?_ ?_<;>intro hb|fail)
 exact kret rfl
theorem perm_a {a b c d:Atm} {p q r:List Atm}:(a::b::c::d::((p++q)++r)).Perm ((a::b::c::d::(q++r))++p):=by
 classical
 exact List.perm_iff_count.2 fun y=>by simp only [List.count_append,List.count_cons];omega
theorem perm_b {a b c d:Atm} {q r:List Atm}:(a::b::c::d::(q++r)).Perm ((a::b::c::d::r)++q):=by
 classical
 exact List.perm_iff_count.2 fun y=>by simp only [List.count_append,List.count_cons];omega
theorem dlaw_none (p:List RlR) (g:Gl) (n d s:Int) (hp:InP0 p) (hg:g.In0) (hf:p.length+szR p+g.sz≤1048576) (hn:¬ (startP p g n∧okD d s)):Spec Tryz.prog 6 [vP p,vg g,iv n,iv d,iv s] [] fun v _=>v=bv true:=by
 have s1:InP0 p∧(0:Int)≤1048576∧(1048576:Int)≤1048576:=⟨hp,by omega,by omega⟩
 have hl:leftV (p.length+szR p) 1048576=1048576 - ((p.length+szR p:Nat):Int):=leftV_fit (by omega)
 have s2:g.In0∧(0:Int)≤1048576 - ((p.length+szR p:Nat):Int)∧1048576 - ((p.length+szR p:Nat):Int)≤1048576:=⟨hg,by omega,by omega⟩
 have hl2:leftV g.sz (1048576 - ((p.length+szR p:Nat):Int))=1048576 - ((p.length+szR p:Nat):Int) - (g.sz:Int):=leftV_fit (by omega)
 have hin:InP p:=p_in_of hp (by omega)
 have hgi:g.In:=gl_in_of _ _ (Nat.le_refl _) hg (by omega)
 have p1:InP0 p∧p.length+szR p≤1048576:=⟨hp,by omega⟩
 have p2:g.In0∧g.sz≤1048576:=⟨hg,by omega⟩
 have p3:p=p∧g=g∧n=n∧d=d∧s=s:=⟨rfl,rfl,rfl,rfl,rfl⟩
 haveI:Con5 Tryz.prog 35 (List RlR) Gl Int Int Int vP vg iv iv iv (fun _ _ _ _ _=>.tup [vFds [],bv false,bv false]) (fun a b c e f=>a=p∧b=g∧c=n∧e=d∧f=s):=⟨fun a b c e f ⟨h1,h2,h3,h4,h5⟩=>by subst h1 h2 h3 h4 h5;exact ds_no _ _ _ _ _ hin hgi hn⟩
 haveI:Con5 Tryz.prog 36 (List RlR) Gl Int Int Int vP vg iv iv iv (fun _ _ _ _ _=>.tup [.one (.v (.slice none 0 0)),bv false,bv false]) (fun a b c e f=>a=p∧b=g∧c=n∧e=d∧f=s):=⟨fun a b c e f ⟨h1,h2,h3,h4,h5⟩=>by subst h1 h2 h3 h4 h5;exact ds_i_no _ _ _ _ _ hin hgi hn⟩
 have p4:([]:List FdR)=[]:=rfl
 have p5:([]:List FdR)=[]∧(1:Int)=1:=⟨rfl,rfl⟩
 haveI:Con2 Tryz.prog 38 (List FdR) Int vFds iv (fun _ k=>iv k) (fun l _=>l=[]):=⟨fun l k e=>by subst e;exact markNilF_c k⟩
 haveI:Con2 Tryz.prog 39 (List FdR) Int vFds iv (fun _ k=>iv k) (fun l k=>l=[]∧k=1):=⟨fun l k ⟨e1,e2⟩=>by subst e1 e2;exact heldFs_c.h [] 1 ⟨[],rfl,⟨by omega,by simp⟩,by simp [cnFs]⟩⟩
 haveI:=eqFYes_i [] ⟨by simp,by simp⟩
 have p6:([]:List FdR)=[]∧([]:List FdR)=[]:=⟨rfl,rfl⟩
 refine sp Tryz.func6 rfl Tryz.ntmps6 rfl rfl fun C=>?_
 (repeat' first|(refine kkS [] [33] ?_;intros)|fail)
 rw [hl]
 (repeat' first|(refine kkS [] [49] ?_;intros)|fail)
 refine kc0 (h:=toProgramO_c p hp (by omega)) ?_
 rintro _ A' ⟨up,os,ho,rfl,rfl⟩
 have hos:os.length=p.length:=by rw [← ho,List.length_map]
 have hcn:=cntOR_le os
 rw [ho] at hcn
 (repeat' first|(refine kkS [] [51] ?_;intros)|fail)
 refine kc0 (h:=toGoalO_c _ g rfl hg (by omega)) ?_
 rintro _ A' ⟨⟨kd,nm,ut,ts,ug,gs⟩,hog,rfl,rfl⟩
 have hgc:=(OGl.mk kd nm ut ts ug gs).cnt_le
 rw [hog] at hgc
 simp only [OGl.cnt] at hgc
 have eats:(OGl.mk kd nm ut ts ug gs).ats=SL ut ts++SG ug gs:=by simp only [OGl.ats]
 (repeat' first|(refine kkS [] [58] ?_;intros)|fail)
 refine kr ?_ (h:=P_callB (as':=[vP p,vg g,iv n,iv d,iv s]) (v:=.tup [.one (.v (.slice none 0 0)),bv false,bv false]) (.cons (ho▸SR_vw fun _ h=>List.mem_append_right [_,_,_,_] (List.mem_append_left _ h)) (.cons (.agg (hog▸OGl.vw _ fun _ h=>List.mem_append_right [_,_,_,_] (List.mem_append_right (SR up os) h))) (.cons (.refl _) (.cons (.refl _) (.cons (.refl _) .nil))))) (ds_i_no p g n d s hin hgi hn) rfl)
 (repeat' first|(refine kkS [] [69] ?_;intros)|fail)
 refine krT ?_ (h:=P_neB _ _ rfl rfl)
 (repeat' first|(refine kkS [] [74] ?_;intros)|fail)
 refine krT ?_ (h:=P_neB _ _ rfl rfl)
 (repeat' first|(refine kk ?_;intros)|refine kfk ?_ ?_<;>intro hb|fail)
 refine kar ?_ (h:=P_callB (as':=[vP p,vP p]) (v:=bv true) (.cons (ho▸SR_vw fun _ h=>List.mem_append_right [_,_,_,_] (List.mem_append_left _ h)) (.cons (.refl _) .nil)) (eqPYes_i.h _ _ ⟨rfl,hin⟩) rfl)
 (repeat' first|(refine kk ?_;intros)|refine kfk ?_ ?_<;>intro hb|fail)
 refine kar ?_ (h:=P_callB (as':=[vg g,vg g]) (v:=bv true) (.cons (.agg (hog▸OGl.vw _ fun _ h=>List.mem_append_right [_,_,_,_] (List.mem_append_right (SR up os) h))) (.cons (.refl _) .nil)) (eqGlYes_i.h _ _ ⟨rfl,hgi⟩) rfl)
 (repeat' first|(refine kkS [] [88] ?_;intros)|fail)
 refine kcE (A1:=_::_::_::_::(OGl.mk kd nm ut ts ug gs).ats) (h:=markProgram_c os up 1 (by omega) (by omega)) ?_ perm_b
 rintro _ rfl
 (repeat' first|(refine kkS [] [91] ?_;intros)|fail)
 rw [eats]
 refine kcE (A1:=[_,_,_,_]) (h:=markGoalO_c (1+(cntOR os:Int)) kd nm ut ug ts gs (by omega) (by omega)) ?_ (.refl _)
 rintro _ rfl
 (repeat' first|(refine kkS [] [103] ?_;intros)|fail)
 refine krT ?_ (h:=P_neB _ _ rfl rfl)
 (repeat' first|(refine kkS [] [108] ?_;intros)|fail)
 refine krT ?_ (h:=P_neB _ _ rfl rfl)
 (repeat' first|(refine kkS [] [140] ?_;intros)|fail)
 refine krT ?_ (h:=P_neB _ _ rfl rfl)
 (repeat' first|(refine kkS [] [145] ?_;intros)|fail)
 refine krT ?_ (h:=P_neB _ _ rfl rfl)
 (repeat' first|(refine kk ?_;intros)|refine kfk ?_ ?_<;>intro hb|fail)
 exact ker1 (A'':=[]) (bv true) rfl
theorem Spec.puW {P:Program} {g:Nat} {xs:List AV} {Q':AV→List Atm→Prop} {v':AV} (h:Spec P g xs [] Q') (hv:∀ v A',Q' v A'→VwA A' v v'):Pu P g xs v':=fun M w vs hM hr=>by
 refine Calls.mono (h M w vs ⟨hM,by simp [oA],by simp [oA],by simp [oA],by simp⟩ (rdA_grow (fun b _ hb=>hb.elim id fun h=>by simp [oA] at h) hr)) ?_
 rintro e w' ⟨u,rfl,v,A',hq,hrd,hs⟩
 exact ⟨u,rfl,hv v A' hq M w' u hs.pre hrd,hs.mod⟩
theorem dlaw_some (p:List RlR) (g:Gl) (n d s:Int) (hp:InP0 p) (hg:g.In0) (hf:p.length+szR p+g.sz≤1048576) (L:List FdR) (B:Bool) (hL:L.length≤1000000∧∀ x∈L,x.1.In2) (hD:∀ x∈L,x.1.st.dis.length≤1000000) (hc:1+cnFs L≤4000000000000)
 (hs:Pu Tryz.prog 35 [vP p,vg g,iv n,iv d,iv s] (.tup [vFds L,bv B,bv true])) (hi:Spec Tryz.prog 36 [vP p,vg g,iv n,iv d,iv s] [] fun v A'=>∃ w os,os.map OFd.fd=L∧v=.tup [.one (.v w),bv B,bv true]∧A'=SFd w os):Spec Tryz.prog 6 [vP p,vg g,iv n,iv d,iv s] [] fun v _=>v=bv true:=by
 have hid:Pu Tryz.prog 36 [vP p,vg g,iv n,iv d,iv s] (.tup [vFds L,bv B,bv true]):=hi.puW fun v A' ⟨w,os,h1,h2,h3⟩=>by
  subst h2 h3
  exact .tup (.cons (.one (h1▸SFd_vw fun _ h=>h)) (.cons (.refl _) (.cons (.refl _) .nil)))
 have s1:InP0 p∧(0:Int)≤1048576∧(1048576:Int)≤1048576:=⟨hp,by omega,by omega⟩
 have hl:leftV (p.length+szR p) 1048576=1048576 - ((p.length+szR p:Nat):Int):=leftV_fit (by omega)
 have s2:g.In0∧(0:Int)≤1048576 - ((p.length+szR p:Nat):Int)∧1048576 - ((p.length+szR p:Nat):Int)≤1048576:=⟨hg,by omega,by omega⟩
 have hl2:leftV g.sz (1048576 - ((p.length+szR p:Nat):Int))=1048576 - ((p.length+szR p:Nat):Int) - (g.sz:Int):=leftV_fit (by omega)
 have hin:InP p:=p_in_of hp (by omega)
 have hgi:g.In:=gl_in_of _ _ (Nat.le_refl _) hg (by omega)
 have p1:InP0 p∧p.length+szR p≤1048576:=⟨hp,by omega⟩
 have p2:g.In0∧g.sz≤1048576:=⟨hg,by omega⟩
 have p3:p=p∧g=g∧n=n∧d=d∧s=s:=⟨rfl,rfl,rfl,rfl,rfl⟩
 haveI:Con5 Tryz.prog 35 (List RlR) Gl Int Int Int vP vg iv iv iv (fun _ _ _ _ _=>.tup [vFds L,bv B,bv true]) (fun a b c e f=>a=p∧b=g∧c=n∧e=d∧f=s):=⟨fun a b c e f ⟨h1,h2,h3,h4,h5⟩=>by subst h1 h2 h3 h4 h5;exact hs⟩
 haveI:Con5 Tryz.prog 36 (List RlR) Gl Int Int Int vP vg iv iv iv (fun _ _ _ _ _=>.tup [vFds L,bv B,bv true]) (fun a b c e f=>a=p∧b=g∧c=n∧e=d∧f=s):=⟨fun a b c e f ⟨h1,h2,h3,h4,h5⟩=>by subst h1 h2 h3 h4 h5;exact hid⟩
 haveI:=eqFYes_i L hL
 have p6:L=L∧L=L:=⟨rfl,rfl⟩
 have hbb:(B != B)=false:=bne_self_eq_false B
 have hheld:Pu Tryz.prog 39 [vFds (mkFs L 1),nv 1] (nv (1+cnFs L)):=by
  have:=heldFs_c.h (mkFs L 1) 1 ⟨L,rfl,⟨by omega,hD⟩,hc⟩
  rwa [cnFs_mk] at this
 refine sp Tryz.func6 rfl Tryz.ntmps6 rfl rfl fun C=>?_
 (repeat' first|(refine kkS [] [33] ?_;intros)|fail)
 rw [hl]
 (repeat' first|(refine kkS [] [49] ?_;intros)|fail)
 refine kc0 (h:=toProgramO_c p hp (by omega)) ?_
 rintro _ A' ⟨up,os,ho,rfl,rfl⟩
 have hos:os.length=p.length:=by rw [← ho,List.length_map]
 have hcn:=cntOR_le os
 rw [ho] at hcn
 (repeat' first|(refine kkS [] [51] ?_;intros)|fail)
 refine kc0 (h:=toGoalO_c _ g rfl hg (by omega)) ?_
 rintro _ A' ⟨⟨kd,nm,ut,ts,ug,gs⟩,hog,rfl,rfl⟩
 have hgc:=(OGl.mk kd nm ut ts ug gs).cnt_le
 rw [hog] at hgc
 simp only [OGl.cnt] at hgc
 have eats:(OGl.mk kd nm ut ts ug gs).ats=SL ut ts++SG ug gs:=by simp only [OGl.ats]
 (repeat' first|(refine kkS [] [58] ?_;intros)|fail)
 refine kcs (A1:=[_,_,_,_]) (h:=Spec.borrow (A:=SR up os++(OGl.mk kd nm ut ts ug gs).ats) (.cons (ho▸SR_vw fun _ h=>List.mem_append_left _ h) (.cons (.agg (hog▸OGl.vw _ fun _ h=>List.mem_append_right (SR up os) h)) (.cons (.refl _) (.cons (.refl _) (.cons (.refl _) .nil))))) hi fun v A' h=>by obtain ⟨w,fs,_,rfl,rfl⟩:=h;exact ⟨rfl,SFd_rg⟩) ?_ (.refl _)
 rintro _ _ ⟨_,⟨w,fs,hfs,rfl,rfl⟩,rfl⟩
 have hDf:∀ x∈fs,x.b.s.d.length≤1000000:=fun x hx=>by
  have:=hD x.fd (hfs▸List.mem_map_of_mem hx)
  rwa [show x.fd.1.st.dis=x.b.s.d.map OD.bs from rfl,List.length_map] at this
 (repeat' first|(refine kkS [] [64] ?_;intros)|fail)
 refine kr ?_ (h:=P_callB (as':=[vFds L,vFds L]) (v:=bv true) (.cons (.one (hfs▸SFd_vw fun _ h=>List.mem_append_right [_,_,_,_] (List.mem_append_right (SR up os++(OGl.mk kd nm ut ts ug gs).ats) h))) (.cons (.refl _) .nil)) ((eqFYes_i L hL).h _ _ p6) rfl)
 (repeat' first|(refine kkS [] [69] ?_;intros)|fail)
 refine krT ?_ (h:=P_neB _ _ rfl rfl)
 rw [hbb]
 (repeat' first|(refine kkS [] [74] ?_;intros)|fail)
 refine krT ?_ (h:=P_neB _ _ rfl rfl)
 (repeat' first|(refine kk ?_;intros)|refine kfk ?_ ?_<;>intro hb|fail)
 refine kar ?_ (h:=P_callB (as':=[vP p,vP p]) (v:=bv true) (.cons (ho▸SR_vw fun _ h=>List.mem_append_right [_,_,_,_] (List.mem_append_left _ (List.mem_append_left _ h))) (.cons (.refl _) .nil)) (eqPYes_i.h _ _ ⟨rfl,hin⟩) rfl)
 (repeat' first|(refine kk ?_;intros)|refine kfk ?_ ?_<;>intro hb|fail)
 refine kar ?_ (h:=P_callB (as':=[vg g,vg g]) (v:=bv true) (.cons (.agg (hog▸OGl.vw _ fun _ h=>List.mem_append_right [_,_,_,_] (List.mem_append_left _ (List.mem_append_right (SR up os) h)))) (.cons (.refl _) .nil)) (eqGlYes_i.h _ _ ⟨rfl,hgi⟩) rfl)
 (repeat' first|(refine kkS [] [88] ?_;intros)|fail)
 refine kcE (A1:=_::_::_::_::((OGl.mk kd nm ut ts ug gs).ats++SFd w fs)) (h:=markProgram_c os up 1 (by omega) (by omega)) ?_ perm_a
 rintro _ rfl
 (repeat' first|(refine kkS [] [91] ?_;intros)|fail)
 rw [eats]
 refine kcE (A1:=_::_::_::_::SFd w fs) (h:=markGoalO_c (1+(cntOR os:Int)) kd nm ut ug ts gs (by omega) (by omega)) ?_ perm_b
 rintro _ rfl
 (repeat' first|(refine kkS [] [97] ?_;intros)|fail)
 refine krT ?_ (h:=P_callB (as':=[vFds L,vFds L]) (v:=bv true) (.cons (.one (hfs▸SFd_vw fun _ h=>List.mem_append_right [_,_,_,_] h)) (.cons (.refl _) .nil)) ((eqFYes_i L hL).h _ _ p6) rfl)
 (repeat' first|(refine kkS [] [103] ?_;intros)|fail)
 refine krT ?_ (h:=P_neB _ _ rfl rfl)
 rw [hbb]
 (repeat' first|(refine kkS [] [108] ?_;intros)|fail)
 refine krT ?_ (h:=P_neB _ _ rfl rfl)
 (repeat' first|(refine kkS [] [112] ?_;intros)|fail)
 refine kcs (A1:=[_,_,_,_]) (h:=markFsM_c fs w 1 (by omega) hDf (by rw [hfs];exact hc)) ?_ (.refl _)
 rintro _ A' ⟨rfl,fs',hf',rfl⟩
 rw [hfs] at hf' ⊢
 (repeat' first|(refine kkS [] [115] ?_;intros)|fail)
 refine kr ?_ (h:=P_callB (as':=[vFds (mkFs L 1),nv 1]) (v:=nv (1+cnFs L)) (.cons (.one (hf'▸SFd_vw fun _ h=>List.mem_append_right [_,_,_,_] h)) (.cons (.refl _) .nil)) hheld rfl)
 (repeat' first|(refine kkS [] [140] ?_;intros)|fail)
 refine krT ?_ (h:=P_neB _ _ rfl rfl)
 rw [hbb]
 (repeat' first|(refine kkS [] [145] ?_;intros)|fail)
 refine krT ?_ (h:=P_neB _ _ rfl rfl)
 (repeat' first|(refine kkS [] [149] ?_;intros)|fail)
 refine kr ?_ (h:=P_callB (as':=[vFds (mkFs L 1),nv 1]) (v:=nv (1+cnFs L)) (.cons (.one (hf'▸SFd_vw fun _ h=>List.mem_append_right [_,_,_,_] h)) (.cons (.refl _) .nil)) hheld rfl)
 (repeat' first|(refine kk ?_;intros)|refine kfk ?_ ?_<;>intro hb|fail)
 exact ker1 (A'':=[]) (bv true) rfl
theorem law_d (p:List RlR) (g:Gl) (n d s:Int) (hp:InP0 p) (hg:g.In0):Pu Tryz.prog 6 [vP p,vg g,iv n,iv d,iv s] (bv true):=by
 have s1:InP0 p∧(0:Int)≤1048576∧(1048576:Int)≤1048576:=⟨hp,by omega,by omega⟩
 by_cases h1:p.length+szR p≤1048576
 case neg=>
  have hl:leftV (p.length+szR p) 1048576=-1:=leftV_not (by omega)
  refine pu Tryz.func6 rfl Tryz.ntmps6 rfl rfl fun C=>?_
  (repeat' first|(refine kkS [] [31] ?_;intros)|fail)
  exact kret rfl
 have hl:leftV (p.length+szR p) 1048576=1048576 - ((p.length+szR p:Nat):Int):=leftV_fit (by omega)
 by_cases h2:p.length+szR p+g.sz≤1048576
 case neg=>
  have s2:g.In0∧(0:Int)≤1048576 - ((p.length+szR p:Nat):Int)∧1048576 - ((p.length+szR p:Nat):Int)≤1048576:=⟨hg,by omega,by omega⟩
  have hl2:leftV g.sz (1048576 - ((p.length+szR p:Nat):Int))=-1:=leftV_not (by omega)
  refine pu Tryz.func6 rfl Tryz.ntmps6 rfl rfl fun C=>?_
  (repeat' first|(refine kkS [] [33] ?_;intros)|fail)
  rw [hl]
  (repeat' first|(refine kkS [] [37] ?_;intros)|fail)
  exact kret rfl
 refine Spec.puW (Q':=fun v _=>v=bv true) ?_ fun v A' h=>by subst h;exact .refl _
 by_cases hs:startP p g n∧okD d s
 case neg=>exact dlaw_none p g n d s hp hg h2 hs
 have hin:InP p:=p_in_of hp h1
 have hgi:g.In:=gl_in_of _ _ (Nat.le_refl _) hg (by omega)
 obtain ⟨hst,⟨d1,d2⟩,e1,e2⟩:=hs
 obtain ⟨q,u,m,rfl,rfl,rfl,hS⟩:=startP_some hst
 obtain ⟨lim,rfl⟩:=Int.eq_ofNat_of_zero_le d1
 obtain ⟨steps,rfl⟩:=Int.eq_ofNat_of_zero_le e1
 have i1:=ds_s q u m lim steps hS hst hin hgi (by omega) (by omega)
 have i2:=ds_i q u m lim steps hS hst hin hgi (by omega) (by omega)
 obtain ⟨hok,hlen⟩:=hS.ok lim steps
 have hst4:steps≤4000:=by omega
 rw [vFbs_raw] at i1
 refine dlaw_some _ _ _ _ _ hp hg h2 ((depthF q u m lim steps).1.map Fd.raw) (depthF q u m lim steps).2 ⟨by rw [List.length_map];omega,fun x hx=>?_⟩ (fun x hx=>?_) ?_ i1 i2
 ·obtain ⟨y,hy,rfl⟩:=List.mem_map.1 hx
  exact (hok y hy).in2 hS.tags hst4
 ·obtain ⟨y,hy,rfl⟩:=List.mem_map.1 hx
  show (y.1.st.dis.map _).length≤_
  rw [List.length_map]
  have:=(hok y hy).dl
  omega
 ·have:=cnFs_le (l:=(depthF q u m lim steps).1.map Fd.raw) fun x hx=>by
   obtain ⟨y,hy,rfl⟩:=List.mem_map.1 hx
   exact (hok y hy).cn_le hS.tags hst4
  rw [List.length_map] at this
  omega
end
end Go.Proofs.YtejkllmoofdpjaaGreat
