/- Parts of the proof: VXA. -/
import Derived.Test.YtejkllmoofdpjaaGreatP44
namespace Go.Proofs.YtejkllmoofdpjaaGreat
open Go
set_option linter.all false
set_option maxRecDepth 100000
set_option maxHeartbeats 4000000
noncomputable section
open Classical
instance shift_s:Con2 Tryz.prog 288 T Nat vT nv (fun t n=>vT (t.shift n)) (fun t n=>t.fit∧n≤1000000):=.ind (fun t _=>t.nodes) fun N ih t n hN ⟨ht,hn⟩=>by
 cases t with
 | pair a b=>
  have:=nodes_pos a
  have:=nodes_pos b
  simp only [T.nodes] at hN
  have s1:a.nodes < N∧a.fit∧n≤1000000:=⟨by omega,(fit_pair.1 ht).1,hn⟩
  have s2:b.nodes < N∧b.fit∧n≤1000000:=⟨by omega,(fit_pair.1 ht).2,hn⟩
  refine pu Tryz.func288 rfl Tryz.ntmps288 rfl rfl fun C=>?_
  (repeat' first|(refine kk ?_;intros)|refine kfk ?_ ?_<;>intro hb|fail)
  refine kr1 (rvw ?_)
  exact VwC.refl _
 | var v=>
  have:=fit_var.1 ht
  refine pu Tryz.func288 rfl Tryz.ntmps288 rfl rfl fun C=>?_
  (repeat' first|(refine kk ?_;intros)|refine kfk ?_ ?_<;>intro hb|fail)
  refine kr1 (rvw ?_)
  exact VwC.refl _
 | _=>
  refine pu Tryz.func288 rfl Tryz.ntmps288 rfl rfl fun C=>?_
  (repeat' first|(refine kk ?_;intros)|refine kfk ?_ ?_<;>intro hb|fail)
  refine kr1 (rvw ?_)
  exact VwC.refl _
instance shiftG_s:Con2 Tryz.prog 256 G Nat vG nv (fun g n=>vG (g.mapT (T.shift n))) (fun g n=>GvS g∧n≤1000000):=.ind (fun g _=>g.nodes) fun N ih g n hN ⟨hg,hn⟩=>by
 have hte:=terms_ts g
 have hgo:=goals_kids g
 have e1:rowsT g.gl.terms=(g.ts.map T.tm).map encT:=by rw [rowsT_eq,hte]
 have e2:g.gl.terms.length=g.ts.length:=by rw [hte,List.length_map]
 have e3:g.gl.subE=(g.kids.map G.gl).map encG:=by rw [subE_eq,rowsG_eq,hgo]
 have e4:g.gl.goals.length=g.kids.length:=by rw [hgo,List.length_map]
 have k1:=hg.ts g (pre_self g)
 have k2:=hg.kids g (pre_self g)
 have hfit:∀ t∈g.ts,t.fit:=fun t ht=>(hg.ok t (by rw [gts_eq];exact List.mem_append.2 (.inl ht))).fit
 have e5:((g.ts.map (T.shift n)).map T.tm).map encT=rowsT (g.mapT (T.shift n)).gl.terms:=by rw [rowsT_eq,terms_ts,mapT_ts (fun _=>rfl)]
 have e6:((g.kids.map (G.mapT (T.shift n))).map G.gl).map encG=(g.mapT (T.shift n)).gl.subE:=by rw [subE_eq,rowsG_eq,goals_kids,mapT_kids]
 have ek:=mapT_kind (φ:=T.shift n) g
 have en:=mapT_name (φ:=T.shift n) g
 refine pu Tryz.func256 rfl Tryz.ntmps256 rfl rfl fun C=>?_
 (repeat' first|(refine kk ?_;intros)|refine kfk ?_ ?_<;>intro hb|fail)
 rw [e1,e2]
 rename_i b2 b4 b5
 refine knA 174 4 ?_
 refine kfor (ι:=Value) g.ts (fun j u=>[(1,nv n),(2,.one (.v (.pointer (some ⟨b2,0,none⟩)))),(4,.one (.v (.pointer (some ⟨b4,0,none⟩)))),(5,.one (.v (.pointer (some ⟨b5,0,none⟩)))),(16,.one (.s 4 ((g.ts.map T.tm).map encT)))]) (fun j u=>[arow 174 4 u ((((g.ts.take j).map (T.shift n)).map T.tm).map encT),abox b5 [.v (.int .i64 g.gl.kind),.v (.string g.gl.name),.v u,.v (.slice none 0 0)] 59,abox b4 zG 59,abox b2 (encG g.gl) 59]) (fun _ _=>True) (.slice none 0 0) trivial ?_ ?_
 ·rintro j x u hj hdd hjl _
  have hrow:((g.ts.map T.tm).map encT)[j]?=some (encT x.tm):=by simp [hj]
  have p1:x.fit∧n≤1000000:=⟨hfit x (List.mem_of_getElem? hj),hn⟩
  have ht1:g.ts.take (j+1)=g.ts.take j++[x]:=by rw [List.take_add_one,hj];rfl
  have hle:(g.ts.take j).length≤j:=by simp;omega
  (repeat' first|(refine kk ?_;intros)|refine kfk ?_ ?_<;>intro hb|fail)
  refine kdA 1 (ho:=rfl) fun u1=>?_
  (repeat' first|(refine kk ?_;intros)|refine kfk ?_ ?_<;>intro hb|fail)
  refine ⟨u1,trivial,?_⟩
  rw [ht1,List.map_append,List.map_append,List.map_append]
  exact kwk
 ·rintro u _
  rw [List.take_length]
  (repeat' first|(refine kk ?_;intros)|refine kfk ?_ ?_<;>intro hb|fail)
  rw [e3,e4]
  refine knA 59 4 ?_
  refine kfor (ι:=Value) g.kids (fun j u2=>[(1,nv n),(2,.one (.v (.pointer (some ⟨b2,0,none⟩)))),(4,.one (.v (.pointer (some ⟨b4,0,none⟩)))),(5,.one (.v (.pointer (some ⟨b5,0,none⟩)))),(32,.one (.s 4 ((g.kids.map G.gl).map encG)))]) (fun j u2=>[arow 59 4 u2 ((((g.kids.take j).map (G.mapT (T.shift n))).map G.gl).map encG),arow 174 4 u (((g.ts.map (T.shift n)).map T.tm).map encT),abox b5 [.v (.int .i64 g.gl.kind),.v (.string g.gl.name),.v u,.v u2] 59,abox b4 zG 59,abox b2 (encG g.gl) 59]) (fun _ _=>True) (.slice none 0 0) trivial ?_ ?_
  ·rintro j x u2 hj hdd hjl _
   have hrow:((g.kids.map G.gl).map encG)[j]?=some (encG x.gl):=by simp [hj]
   have hx:=List.mem_of_getElem? hj
   have p1:x.nodes < N∧GvS x∧n≤1000000:=⟨by have:=kids_nodes hx;omega,hg.kid hx,hn⟩
   have ht1:g.kids.take (j+1)=g.kids.take j++[x]:=by rw [List.take_add_one,hj];rfl
   have hle:(g.kids.take j).length≤j:=by simp;omega
   (repeat' first|(refine kk ?_;intros)|refine kfk ?_ ?_<;>intro hb|fail)
   refine kdA 1 (ho:=rfl) fun u3=>?_
   (repeat' first|(refine kk ?_;intros)|refine kfk ?_ ?_<;>intro hb|fail)
   refine ⟨u3,trivial,?_⟩
   rw [ht1,List.map_append,List.map_append,List.map_append]
   exact kwk
  ·rintro u2 _
   rw [List.take_length]
   (repeat' first|(refine kk ?_;intros)|refine kfk ?_ ?_<;>intro hb|fail)
   refine kr1 (rvw ?_)
   exact VwC.cons (by rw [ek];exact VwD.refl _) (VwC.cons (by rw [en];exact VwD.refl _) (VwC.cons (VwD.row (List.Mem.tail _ (List.Mem.head _)) e5) (VwC.cons (VwD.row (List.Mem.head _) e6) VwC.nil)))
theorem makeEq (a b:T):Pu Tryz.prog 255 [.one (.v (.int .i64 2)),vTs [a,b],.one (.v (.slice none 0 0))] (vG (.eq a b)):=by
 refine pu Tryz.func255 rfl Tryz.ntmps255 rfl rfl fun C=>?_
 (repeat' first|(refine kk ?_;intros)|refine kfk ?_ ?_<;>intro hb|fail)
 refine kr1 (rvw ?_)
 exact VwC.cons (VwD.refl _) (VwC.cons (VwD.refl _) (VwC.cons (VwD.refl _) (VwC.cons VwD.nil VwC.nil)))
instance expG_s:Con3 Tryz.prog 212 Rl (List T) Nat vRl vTs nv (fun r args next=>vG (expG r args next)) (fun r args next=>GvS r.body∧args.length≤1000∧next≤1000000):=⟨fun r args next ⟨hb,hl,hn⟩=>by
 have hla:(rowsT (args.map T.tm)).length=args.length:=by rw [rowsT_len,List.length_map]
 have hra:rowsT (args.map T.tm)=(args.map T.tm).map encT:=rowsT_eq _
 have p2:GvS r.body∧next≤1000000:=⟨hb,hn⟩
 refine pu Tryz.func212 rfl Tryz.ntmps212 rfl rfl fun C=>?_
 (repeat' first|(refine kk ?_;intros)|refine kfk ?_ ?_<;>intro hb|fail)
 rename_i b3 b6 b7
 refine knA 59 4 ?_
 refine kfor (ι:=Value) args (fun j u=>[(2,nv next),(3,.one (.v (.pointer (some ⟨b3,0,none⟩)))),(6,.one (.v (.pointer (some ⟨b6,0,none⟩)))),(7,.one (.v (.pointer (some ⟨b7,0,none⟩)))),(11,vTs args)]) (fun j u=>[arow 59 4 u (((eqsG next (args.take j)).map G.gl).map encG),abox b7 [.v (.int .i64 7),.v (.string noS),.v (.slice none 0 0),.v u] 59,abox b6 zG 59,abox b3 (encR r.rl) 154]) (fun _ _=>True) (.slice none 0 0) trivial ?_ ?_
 ·rintro j x u hj hdd hjl _
  have hrow:(rowsT (args.map T.tm))[j]?=some (encT x.tm):=by rw [hra];simp [hj]
  have ht1:args.take (j+1)=args.take j++[x]:=by rw [List.take_add_one,hj];rfl
  have hle:(eqsG next (args.take j)).length≤j:=by rw [eqsG_len];simp;omega
  (repeat' first|(refine kkn ?_;intros)|refine kfk ?_ ?_<;>intro hb|fail)
  refine kdq ?_
  iterate 8 refine kar ?_
  refine kar ?_ (h:=P_callE [.one (.v (.int .i64 2)),vTs [.var (next+j),x],.one (.v (.slice none 0 0))] (makeEq (.var (next+j)) x))
  (repeat' first|(refine kk ?_;intros)|refine kfk ?_ ?_<;>intro hb|fail)
  refine kdA 1 (ho:=rfl) fun u1=>?_
  (repeat' first|(refine kk ?_;intros)|refine kfk ?_ ?_<;>intro hb|fail)
  refine ⟨u1,trivial,?_⟩
  rw [ht1,eqsG_snoc,List.map_append,List.map_append,show (args.take j).length=j by simp;omega]
  exact kwk
 ·rintro u _
  rw [List.take_length]
  have hle:(eqsG next args).length≤1000:=by rw [eqsG_len];exact hl
  (repeat' first|(refine kk ?_;intros)|refine kfk ?_ ?_<;>intro hb|fail)
  refine kdA 0 (ho:=rfl) fun u1=>?_
  (repeat' first|(refine kk ?_;intros)|refine kfk ?_ ?_<;>intro hb|fail)
  refine kr1 (rvw ?_)
  exact VwC.cons (VwD.refl _) (VwC.cons (VwD.refl _) (VwC.cons VwD.nil (VwC.cons (VwD.row (List.Mem.head _) (show _=(expG r args next).gl.subE by rw [subE_eq,rowsG_eq,goals_kids];simp [expG,G.kids])) VwC.nil)))⟩
abbrev optL (st:Stt):Option (G × Nat)→AV
 | some (g,n)=>.tup [vG g,vSt (st.setN n),bv true]
 | none=>.tup [vG .tru,vSt zSt,bv false]
theorem call_s (q:List Rl) (st:Stt) (s:ByteArray) (args:List T) (hq:ProgP q) (hc:okC (q.map Rl.rl) (.call s args)) (hl:args.length≤1000) (hn:st.next≤1000000):Pu Tryz.prog 174 [vPq q,vSt st,vG (.call s args)] (optL st (callF q st.next s args)):=by
 obtain ⟨k,h1,h2,h3⟩:=okC_rel hc
 have hrow:((q.map Rl.rl).map encR)[k]?=some (encR (relR q s).rl):=by simp [h2]
 have hkl:=(List.getElem?_eq_some_iff.1 h2).1
 have hql:=hq.len
 have hr:=hq.rel k _ h2
 have har:=hr.ar
 have hloc:=hr.loc
 have hlen:((q.map Rl.rl).map encR).length=q.length:=by simp
 have p1:(q.map Rl.rl).length≤1000:=by simp;omega
 have p2:GvS (relR q s).body∧args.length≤1000∧st.next≤1000000:=⟨hr.ok.gvs,hl,hn⟩
 refine pu Tryz.func174 rfl Tryz.ntmps174 rfl rfl fun C=>?_
 (repeat' first|(refine kkn ?_;intros)|refine kfk ?_ ?_<;>intro hb|fail)
 rename_i b3 b4 b5 b6 b7
 refine kmix 10 [0,1,2,3,4,5,6,7] [8,9] [abox b5 (encG (G.call s args).gl) 59,abox b4 (encStt st) 53,abox b3 (encP (q.map Rl.rl)) 46] ?_
 iterate 6 refine kal1 ?_
 rw [show (G.call s args).gl.name=s from rfl,h1]
 iterate 2 refine kal1 ?_
 refine kal0 ?_
 refine kacO rfl rfl (O_alloc rfl) ?_
 rintro _ _ ⟨b9,rfl,rfl⟩
 refine ⟨wH,?_⟩
 refine kacW 0 ?_
 have hcf:callF q st.next s args=expF (relR q s) args st.next:=rfl
 rw [hcf]
 by_cases hb:100000 < st.next+(relR q s).ar+(relR q s).loc
 ·rw [show expF (relR q s) args st.next=none from if_pos hb]
  (repeat' first|(refine kk ?_;intros)|refine kfk ?_ ?_<;>intro hb|fail)
  refine kr3 (rvw ?_) (rvw ?_) (rvT rfl)
  ·exact VwC.cons (VwD.refl _) (VwC.cons (VwD.refl _) (VwC.cons VwD.nil (VwC.cons VwD.nil VwC.nil)))
  ·exact VwC.cons (VwD.refl _) (VwC.cons VwD.nil (VwC.cons VwD.nil (VwC.cons VwD.nil (VwC.cons VwD.nil VwC.nil))))
 ·rw [show expF (relR q s) args st.next=some (expG (relR q s) args st.next,st.next+(relR q s).ar+(relR q s).loc) from if_neg hb]
  (repeat' first|(refine kk ?_;intros)|refine kfk ?_ ?_<;>intro hb|fail)
  rename_i b11
  refine kmix 5 [0,1] [2,3,4] [abox b11 (encG (expG (relR q s) args st.next).gl) 59,abox b9 (encR (relR q s).rl) 154,abox b5 (encG (G.call s args).gl) 59,abox b4 (encStt (st.setN (st.next+(relR q s).ar+(relR q s).loc))) 53,abox b3 (encP (q.map Rl.rl)) 46] ?_ (hB:=Has.w5)
  iterate 2 refine kal1 ?_
  refine kal0 ?_
  refine kacW 3 ?_ (hb:=Has.w5)
  refine kacW 2 ?_ (hb:=Has.w5)
  refine kacP ?_ (hb:=Has.w5)
  (repeat' first|(refine kk ?_;intros)|refine kfk ?_ ?_<;>intro hb|fail)
  refine kr3 (rvw ?_) (rvw ?_) (rvT rfl)
  ·exact VwC.refl _
  ·exact VwC.refl _
end
end Go.Proofs.YtejkllmoofdpjaaGreat
