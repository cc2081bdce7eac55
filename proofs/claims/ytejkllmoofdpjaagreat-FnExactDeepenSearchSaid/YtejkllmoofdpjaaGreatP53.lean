/- Parts of the proof: VXK VXI. -/
import Derived.Test.YtejkllmoofdpjaaGreatP52
import Derived.Test.YtejkllmoofdpjaaGreatP51
namespace Go.Proofs.YtejkllmoofdpjaaGreat
open Go
set_option linter.all false
set_option maxRecDepth 100000
set_option maxHeartbeats 4000000
noncomputable section
open Classical
theorem encFb_raw (x:Fd):encFb x=encFd x.raw:=by
 show (encStt x.1.st++[.s 1 (x.1.ch.map encN)])++[.v (.int .i64 (x.2:Int))]=(encSt x.1.st.raw++[.s 1 ((x.1.ch.map fun n:Nat=>(n:Int)).map encI)])++[.v (.int .i64 (x.2:Int))]
 rw [encSt_raw,chI]
theorem vFbs_raw (l:List Fd):vFbs l=vFds (l.map Fd.raw):=by
 show AV.one (.s 7 (l.map encFb))=.one (.s 7 ((l.map Fd.raw).map encFd))
 rw [List.map_map]
 exact congrArg (fun z=>AV.one (.s 7 z)) (List.map_congr_left fun x _=>encFb_raw x)
theorem i64_nat {n:Nat} (h:n≤1000000000):I64 (n:Int):=by unfold I64;omega
theorem Sub.bds {s:Sb} (h:Sub s):bdsIn (s.map toB):=by
 refine ⟨by rw [List.length_map];have:=h.vok.len;omega,fun b hb=>?_⟩
 obtain ⟨x,hx,rfl⟩:=List.mem_map.1 hb
 obtain ⟨h1,h2⟩:=h.vok.ok x hx
 exact ⟨i64_nat (by omega),tm_in h2.fit⟩
theorem MB.len2 {tags:List ByteArray} {l:Ms} (h:MB tags l):l.length≤100001 * tags.length:=by
 have hn:l.Nodup:=h.ok.asc.imp fun {a b} h e=>by rw [e,cMk_tot.self] at h;cases h
 exact markLen_aux (tags:=tags) 100001 hn fun m hm=>⟨by have:=(h.ok.ok m hm).1;omega,h.tg m hm⟩
theorem FdOk.in2 {tags:List ByteArray} {m:Nat} {x:Fd} (h:FdOk tags m x) (ht:tags.length≤1000) (hm:m≤4000):x.raw.1.In2:=by
 have hp:=h.sp.pre
 refine ⟨⟨i64_nat (by have:=h.nx;omega),hp.bind.bds,⟨?_,fun b hb=>?_⟩,⟨?_,fun b hb=>?_⟩,⟨?_,fun b hb=>?_⟩⟩,⟨?_,fun b hb=>?_⟩⟩
 ·show (x.1.st.dis.map _).length≤_
  rw [List.length_map];have:=h.dl;omega
 ·obtain ⟨d,hd,rfl⟩:=List.mem_map.1 (show b∈x.1.st.dis.map _ from hb)
  exact (hp.dis d hd).bds
 ·show (x.1.st.kinds.map toK).length≤_
  rw [List.length_map];have:=hp.kinds.len;omega
 ·obtain ⟨k,hk,rfl⟩:=List.mem_map.1 (show b∈x.1.st.kinds.map toK from hb)
  obtain ⟨h1,h2⟩:=hp.kinds.ok k hk
  exact ⟨i64_nat (by omega),by show I64 k.2;unfold I64;omega⟩
 ·show (x.1.st.marks.map toM).length≤_
  rw [List.length_map];have:=h.sp.mrk.len2;omega
 ·obtain ⟨k,hk,rfl⟩:=List.mem_map.1 (show b∈x.1.st.marks.map toM from hb)
  obtain ⟨h1,h2⟩:=hp.marks.ok k hk
  exact ⟨i64_nat (by omega),by show Lng k.2.size;have:=h2.2.1;unfold Lng;omega⟩
 ·show (x.1.ch.map _).length≤_
  rw [List.length_map];have:=h.ch.1;omega
 ·obtain ⟨k,hk,rfl⟩:=List.mem_map.1 (show b∈x.1.ch.map _ from hb)
  exact i64_nat (by have:=h.ch.2 k hk;omega)
theorem cn_nodes:∀ t:T,t.tm.cn=t.nodes
 | .nil=>rfl
 | .var _=>rfl
 | .sym _=>rfl
 | .num _=>rfl
 | .pair a b=>by
  show 1+(a.tm.cn+(b.tm.cn+0))=_
  rw [cn_nodes a,cn_nodes b]
  simp only [T.nodes];omega
theorem cnBs_le:∀ {l:Sb},(∀ b∈l,b.2.nodes≤5000)→cnBs (l.map toB)≤15001 * l.length
 | [],_=>Nat.zero_le _
 | b::l,h=>by
  have:=h b (List.Mem.head _)
  have:=cnBs_le (l:=l) fun x hx=>h x (List.Mem.tail _ hx)
  have e:(toB b).2.cn=b.2.nodes:=cn_nodes b.2
  simp only [List.map_cons,cnBs,List.length_cons,e]
  omega
theorem Sub.cn_le {s:Sb} (h:Sub s):cnBs (s.map toB)≤6000400:=by
 have:=cnBs_le (l:=s) fun b hb=>(h.vok.ok b hb).2.size
 have:=h.vok.len
 omega
theorem cnDs_le:∀ {l:List Sb},(∀ d∈l,Sub d)→cnDs (l.map fun d=>d.map toB)≤6000400 * l.length
 | [],_=>Nat.zero_le _
 | d::l,h=>by
  have:=(h d (List.Mem.head _)).cn_le
  have:=cnDs_le (l:=l) fun x hx=>h x (List.Mem.tail _ hx)
  simp only [List.map_cons,cnDs,List.length_cons]
  omega
theorem FdOk.cn_le {tags:List ByteArray} {m:Nat} {x:Fd} (h:FdOk tags m x) (ht:tags.length≤1000) (hm:m≤4000):x.raw.cn≤500000000:=by
 have hp:=h.sp.pre
 have h1:=hp.bind.cn_le
 have h2:=cnDs_le hp.dis
 have h3:=h.dl
 have h4:=hp.kinds.len
 have h5:=h.sp.mrk.len2
 have h6:=h.ch.1
 show 2+(cnBs (x.1.st.bind.map toB)+(cnDs (x.1.st.dis.map fun d=>d.map toB)+(2 * (x.1.st.kinds.map toK).length+2 * (x.1.st.marks.map toM).length)))+(x.1.ch.map _).length≤_
 simp only [List.length_map]
 omega
theorem cnFs_le:∀ {l:List FdR},(∀ x∈l,x.cn≤500000000)→cnFs l≤500000000 * l.length
 | [],_=>Nat.zero_le _
 | x::l,h=>by
  have:=h x (List.Mem.head _)
  have:=cnFs_le (l:=l) fun y hy=>h y (List.Mem.tail _ hy)
  simp only [cnFs,List.length_cons]
  omega
theorem OT.row_rg:∀ t:OT,t.row.all D.rg=true
 | .mk _ _ _ _ _=>rfl
mutual
theorem OT.ats_rg:∀ t:OT,∀ a∈t.ats,a.Rg
 | .mk k n s u l,a,ha=>by
  simp only [OT.ats,List.mem_cons] at ha
  rcases ha with rfl|ha
  ·exact arow_rg (by rw [List.all_map];exact List.all_eq_true.2 fun t _=>t.row_rg)
  ·exact atsO_rg l a ha
theorem atsO_rg:∀ l:List OT,∀ a∈atsO l,a.Rg
 | [],a,ha=>by simp [atsO] at ha
 | t::l,a,ha=>by
  simp only [atsO,List.mem_append] at ha
  rcases ha with ha|ha
  ·exact t.ats_rg a ha
  ·exact atsO_rg l a ha
end
theorem OB.row_rg (b:OB):b.row.all D.rg=true:=by obtain ⟨v,t⟩:=b;cases t;rfl
theorem atsB_rg:∀ l:List OB,∀ a∈atsB l,a.Rg
 | [],a,ha=>by simp [atsB] at ha
 | t::l,a,ha=>by
  simp only [atsB,List.mem_append] at ha
  rcases ha with ha|ha
  ·exact t.t.ats_rg a ha
  ·exact atsB_rg l a ha
theorem SBd_rg {u:Value} {l:List OB}:∀ a∈SBd u l,a.Rg:=fun a ha=>by
 rcases List.mem_cons.1 ha with rfl|ha
 ·exact arow_rg (by rw [List.all_map];exact List.all_eq_true.2 fun t _=>t.row_rg)
 ·exact atsB_rg l a ha
theorem atsD_rg:∀ l:List OD,∀ a∈atsD l,a.Rg
 | [],a,ha=>by simp [atsD] at ha
 | t::l,a,ha=>by
  simp only [atsD,List.mem_append] at ha
  rcases ha with ha|ha
  ·exact SBd_rg a ha
  ·exact atsD_rg l a ha
theorem SDs_rg {u:Value} {l:List OD}:∀ a∈SDs u l,a.Rg:=fun a ha=>by
 rcases List.mem_cons.1 ha with rfl|ha
 ·exact arow_rg (by rw [List.all_map];exact List.all_eq_true.2 fun t _=>rfl)
 ·exact atsD_rg l a ha
theorem OSt.ats_rg (s:OSt):∀ a∈s.ats,a.Rg:=fun a ha=>by
 simp only [OSt.ats,List.mem_append,List.mem_cons,List.not_mem_nil,or_false] at ha
 rcases ha with ha|ha|rfl|rfl
 ·exact SBd_rg a (List.mem_cons.2 ha)
 ·exact SDs_rg a (List.mem_cons.2 ha)
 ·exact arow_rg (by rw [List.all_map];exact List.all_eq_true.2 fun t _=>rfl)
 ·exact arow_rg (by rw [List.all_map];exact List.all_eq_true.2 fun t _=>rfl)
theorem OBr.ats_rg (s:OBr):∀ a∈s.ats,a.Rg:=fun a ha=>by
 simp only [OBr.ats,List.mem_append,List.mem_cons,List.not_mem_nil,or_false] at ha
 rcases ha with ha|rfl
 ·exact s.s.ats_rg a ha
 ·exact arow_rg (by rw [List.all_map];exact List.all_eq_true.2 fun t _=>rfl)
theorem atsF_rg:∀ l:List OFd,∀ a∈atsF l,a.Rg
 | [],a,ha=>by simp [atsF] at ha
 | t::l,a,ha=>by
  simp only [atsF,List.mem_append] at ha
  rcases ha with ha|ha
  ·exact t.b.ats_rg a ha
  ·exact atsF_rg l a ha
theorem SFd_rg {u:Value} {l:List OFd}:∀ a∈SFd u l,a.Rg:=fun a ha=>by
 rcases List.mem_cons.1 ha with rfl|ha
 ·exact arow_rg (by rw [List.all_map];exact List.all_eq_true.2 fun t _=>rfl)
 ·exact atsF_rg l a ha
theorem markGoalO_c (k:Int) (kd:Int) (nm:ByteArray) (ut ug:Value) (ts:List OT) (gs:List OGl) (h0:0 < k) (hk:k+3 * (cntO ts:Int)+(cntOG gs:Int)≤1000000000):Spec Tryz.prog 31 [.agg (OGl.row (.mk kd nm ut ts ug gs)),iv k] (SL ut ts++SG ug gs) fun v A'=>v=iv (k+3 * (cntO ts:Int)+(cntOG gs:Int))∧A'=[]:=by
 refine sp Tryz.func31 rfl Tryz.ntmps31 rfl rfl fun C=>?_
 (repeat' first|(refine kkS [81] [] ?_;intros)|refine kfS [81] [] ?_ ?_<;>intro hb|fail)
 refine kcE (A1:=_::SG ug gs) (h:=markTs_c _ ts ut k rfl h0 (by omega)) ?_ ((List.perm_append_comm (l₁:=SL ut ts) (l₂:=SG ug gs)).cons _)
 rintro _ rfl
 (repeat' first|(refine kkS [82] [] ?_;intros)|refine kfS [82] [] ?_ ?_<;>intro hb|fail)
 refine kcE (A1:=[_]) (h:=markGs_c _ gs ug (k+3 * (cntO ts:Int)) rfl (by omega) (by omega)) ?_ (.refl _)
 rintro _ rfl
 (repeat' first|(refine kk ?_;intros)|refine kfk ?_ ?_<;>intro hb|fail)
 exact ker1 (A'':=[]) _ ⟨rfl,rfl⟩
end
noncomputable section
open Classical
theorem eqPYes_i:Con2 Tryz.prog 15 (List RlR) (List RlR) vP vP (fun _ _=>bv true) (fun a b=>a=b∧InP a):=⟨fun a b ⟨e1,e2⟩=>by subst e1;rw [show bv true=bp (a=a) from bpT rfl];exact eqProgram_c.h _ _ ⟨e2,e2⟩⟩
theorem eqGlYes_i:Con2 Tryz.prog 28 Gl Gl vg vg (fun _ _=>bv true) (fun a b=>a=b∧a.In):=⟨fun a b ⟨e1,e2⟩=>by subst e1;rw [show bv true=bp (a=a) from bpT rfl];exact eqGoal_c.h _ _ ⟨e2,e2⟩⟩
theorem eqFYes_i (l:List FdR) (h:l.length≤1000000∧∀ x∈l,x.1.In2):Con2 Tryz.prog 37 (List FdR) (List FdR) vFds vFds (fun _ _=>bv true) (fun a b=>a=l∧b=l):=⟨fun a b ⟨e1,e2⟩=>by rw [e1,e2,show bv true=bp (l=l) from bpT rfl];exact eqFs_c.h _ _ ⟨⟨h.1,h.1⟩,h.2,h.2⟩⟩
theorem markNilF_c (k:Int):Pu Tryz.prog 38 [.one (.s 7 []),iv k] (iv k):=by
 refine pu Tryz.func38 rfl Tryz.ntmps38 rfl rfl fun C=>?_
 (repeat' first|(refine kk ?_;intros)|refine kfk ?_ ?_<;>intro hb|fail)
 refine kloop (ι:=Unit) (fun _=>0) (fun q=>[(0,.one (.s 7 [])),(1,iv k),(5,nv 0)]) (fun _=>[]) (fun _=>True) () trivial ?_ kwk
 rintro _ _
 (repeat' first|(refine kk ?_;intros)|refine kfk ?_ ?_<;>intro hb|fail)
 exact kret rfl
theorem perm_a {a b c d:Atm} {p q r:List Atm}:(a::b::c::d::((p++q)++r)).Perm ((a::b::c::d::(q++r))++p):=by
 classical
 exact List.perm_iff_count.2 fun y=>by simp only [List.count_append,List.count_cons];omega
theorem perm_b {a b c d:Atm} {q r:List Atm}:(a::b::c::d::(q++r)).Perm ((a::b::c::d::r)++q):=by
 classical
 exact List.perm_iff_count.2 fun y=>by simp only [List.count_append,List.count_cons];omega
theorem Spec.puW {P:Program} {g:Nat} {xs:List AV} {Q':AV→List Atm→Prop} {v':AV} (h:Spec P g xs [] Q') (hv:∀ v A',Q' v A'→VwA A' v v'):Pu P g xs v':=fun M w vs hM hr=>by
 refine Calls.mono (h M w vs ⟨hM,by simp [oA],by simp [oA],by simp [oA],by simp⟩ (rdA_grow (fun b _ hb=>hb.elim id fun h=>by simp [oA] at h) hr)) ?_
 rintro e w' ⟨u,rfl,v,A',hq,hrd,hs⟩
 exact ⟨u,rfl,hv v A' hq M w' u hs.pre hrd,hs.mod⟩
end
end Go.Proofs.YtejkllmoofdpjaaGreat
