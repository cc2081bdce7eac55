/- Parts of the proof: VXB VXC VXF. -/
import Derived.Test.YtejkllmoofdpjaaGreatP46
import Derived.Test.YtejkllmoofdpjaaGreatP45
import Derived.Test.YtejkllmoofdpjaaGreatP41
namespace Go.Proofs.YtejkllmoofdpjaaGreat
open Go
set_option linter.all false
set_option maxRecDepth 100000
set_option maxHeartbeats 4000000
noncomputable section
open Classical
instance choose_s:Con2 Tryz.prog 179 Br Nat vBrP nv (fun b k=>vBrP (b.choose k)) (fun b _=>b.ch.length≤1000000):=⟨fun b k hl=>by
 have hlen:(b.ch.map encN).length=b.ch.length:=by simp
 refine pu Tryz.func179 rfl Tryz.ntmps179 rfl rfl fun C=>?_
 (repeat' first|(refine kkn ?_;intros)|refine kfk ?_ ?_<;>intro hb|fail)
 rename_i b2 b4
 refine kmix 11 [0,1,3,4,6,7] [2,5,8,9,10] [abox b2 (encBrP b) 55] ?_
 iterate 6 refine kal1 ?_
 refine kal0 ?_
 refine kacO rfl rfl O_bs0 ?_
 rintro _ _ ⟨u1,rfl,rfl⟩
 refine ⟨wH,?_⟩
 refine kacO rfl rfl (O_app 0 _ _ rfl rfl rfl rfl rfl (by simp;omega)) ?_
 rintro _ _ ⟨u2,rfl,rfl⟩
 refine ⟨wH,?_⟩
 refine kacO rfl rfl (O_app 0 _ _ rfl rfl rfl rfl rfl (by simp;omega)) ?_
 rintro _ _ ⟨u3,rfl,rfl⟩
 refine ⟨wH,?_⟩
 (repeat (refine kkc ?_))
 (repeat' first|(refine kk ?_;intros)|refine kfk ?_ ?_<;>intro hb|fail)
 refine kr1 (rvw ?_)
 exact VwC.cons (VwD.refl _) (VwC.cons (VwD.refl _) (VwC.cons (VwD.refl _) (VwC.cons (VwD.refl _) (VwC.cons (VwD.refl _) (VwC.cons (VwD.row (List.Mem.head _) (show _=(b.ch++[k]).map encN by rw [List.map_append,List.nil_append];rfl)) VwC.nil)))))⟩
instance front_s:Con3 Tryz.prog 178 (List G) Nat (List (G × Nat)) vGs' nv vDGs (fun l d ts=>vDGs (frontT l d ts)) (fun l d ts=>l.length≤1000000∧ts.length≤100000000):=⟨fun l d ts ⟨hl,ht⟩=>by
 have hlen:((l.map G.gl).map encG).length=l.length:=by simp
 have hlen2:(ts.map encDG).length=ts.length:=by simp
 refine pu Tryz.func178 rfl Tryz.ntmps178 rfl rfl fun C=>?_
 (repeat' first|(refine kkz ?_;intros)|refine kfk ?_ ?_<;>intro hb|fail)
 rename_i u0
 refine kfor (ι:=Value) l (fun j u=>[(1,nv d),(2,vDGs ts),(7,.one (.v u)),(11,vGs' l)]) (fun j u=>[arow 193 5 u (((l.take j).map fun g=>(g,d)).map encDG)]) (fun _ _=>True) u0 trivial ?_ ?_
 ·rintro j x u hj hdd hjl _
  have hrow:((l.map G.gl).map encG)[j]?=some (encG x.gl):=by simp [hj]
  have ht1:l.take (j+1)=l.take j++[x]:=by rw [List.take_add_one,hj];rfl
  have hle:(l.take j).length≤j:=by simp;omega
  (repeat' first|(refine kk ?_;intros)|refine kfk ?_ ?_<;>intro hb|fail)
  rename_i u1
  refine ⟨u1,trivial,?_⟩
  rw [ht1,List.map_append,List.map_append]
  exact kwk
 ·rintro u _
  rw [List.take_length]
  (repeat' first|(refine kk ?_;intros)|refine kfk ?_ ?_<;>intro hb|fail)
  exact kr1 (rvR (List.map_append (f:=encDG) (l₁:=l.map fun g=>(g,d)) (l₂:=ts)).symm)⟩
abbrev encRF (f:SFr):List D:=encBrP f.b++[.v (.int .i64 (f.h:Int)),.s 5 (f.ts.map encDG)]
abbrev vRF (f:SFr):AV:=.agg (encRF f)
abbrev vRFs (l:List SFr):AV:=.one (.s 8 (l.map encRF))
theorem Has.w2 {x y z u v:Atm}:Has [x,z] [x,y,z,u,v]:=⟨[y,u,v],by
 classical
 exact List.perm_iff_count.2 fun a=>by simp only [List.count_append,List.count_cons,List.count_nil];omega⟩
theorem step_s (q:List Rl) (tags:List ByteArray) (lim m:Nat) (f:SFr) (g:G) (d:Nat) (ts:List (G × Nat)) (hq:ProgP q) (htl:tags.length≤10000000) (hm:m≤1000000) (hl:lim≤1000) (hf:SFrOk q tags m f) (he:f.ts=(g,d)::ts) :
 Pu Tryz.prog 140 [vPq q,vRF f,nv lim] (vRFs (stepFr q lim f g d ts)):=by
 obtain ⟨bb,h,ts0⟩:=f
 obtain rfl:ts0=(g,d)::ts:=he
 have hrp:=hf.rp rfl
 have hh:h≤m:=hf.h
 obtain ⟨hg,hd⟩:=hf.ts.2 (g,d) (List.mem_cons_self ..)
 simp only at hd
 have hlts:ts.length≤100000000:=by have:=hf.ts.1;simp only [List.length_cons] at this;omega
 have hch:bb.ch.length≤1000000:=by have:=hf.ch.1;simp only at this;omega
 have hr0:(((g,d)::ts).map encDG)[0]?=some (encDG (g,d)):=rfl
 have hlen0:(((g,d)::ts).map encDG).length=ts.length+1:=by simp
 by_cases hk:g.gl.kind=7∨g.gl.kind=8∨g.gl.kind=9
 case neg=>
  have hk7:¬ g.gl.kind=7:=fun h=>hk (.inl h)
  have hk8:¬ g.gl.kind=8:=fun h=>hk (.inr (.inl h))
  have hk9:¬ g.gl.kind=9:=fun h=>hk (.inr (.inr h))
  have pr:∃ tags,tags.length≤10000000∧RP tags bb.st g:=⟨tags,htl,hrp⟩
  rw [kind_789 hk]
  have hF:=reqR_F hrp
  have hcall:=require_s.h bb.st g pr
  simp only at hF ⊢
  rw [hF]
  cases hq2:reqR bb.st g with
  | mk st' ok=>
   rw [hq2] at hcall
   cases ok with
   | false=>
    refine pu Tryz.func140 rfl Tryz.ntmps140 rfl rfl fun C=>?_
    (repeat' first|(refine kkS [175] [] ?_;intros)|refine kfS [175] [] ?_ ?_<;>intro hb|fail)
    refine kr ?_ (h:=P_call rfl hcall)
    (repeat' first|(refine kk ?_;intros)|refine kfk ?_ ?_<;>intro hb|fail)
    exact kr1 rvN
   | true=>
    refine pu Tryz.func140 rfl Tryz.ntmps140 rfl rfl fun C=>?_
    (repeat' first|(refine kkS [175] [] ?_;intros)|refine kfS [175] [] ?_ ?_<;>intro hb|fail)
    refine kr ?_ (h:=P_call rfl hcall)
    (repeat' first|(refine kk ?_;intros)|refine kfk ?_ ?_<;>intro hb|fail)
    exact kr1 (rvT rfl)
 have hcs:(∃ l,g=.all l)∨(∃ l,g=.any l)∨∃ s args,g=.call s args:=by
  cases g with
  | all l=>exact .inl ⟨l,rfl⟩
  | any l=>exact .inr (.inl ⟨l,rfl⟩)
  | call s a=>exact .inr (.inr ⟨s,a,rfl⟩)
  | _=>simp [G.gl] at hk
 rcases hcs with ⟨l,rfl⟩ | ⟨l,rfl⟩ | ⟨s,args,rfl⟩
 ·have hl8:l.length≤8:=hg.ok.1
  have p1:l.length≤1000000∧ts.length≤100000000:=⟨by omega,hlts⟩
  have e3:(G.all l).gl.subE=(l.map G.gl).map encG:=by rw [subE_eq,rowsG_eq,goals_kids];rfl
  refine pu Tryz.func140 rfl Tryz.ntmps140 rfl rfl fun C=>?_
  (repeat' first|(refine kkn ?_;intros)|refine kfk ?_ ?_<;>intro hb|fail)
  refine kdq ?_
  iterate 4 refine kar ?_
  rw [e3]
  (repeat' first|(refine kk ?_;intros)|refine kfk ?_ ?_<;>intro hb|fail)
  exact kr1 (rvT rfl)
 ·have hl8:l.length≤8:=hg.ok.1
  have e3:(G.any l).gl.subE=(l.map G.gl).map encG:=by rw [subE_eq,rowsG_eq,goals_kids];rfl
  have hll:((l.map G.gl).map encG).length=l.length:=by simp
  refine pu Tryz.func140 rfl Tryz.ntmps140 rfl rfl fun C=>?_
  (repeat' first|(refine kkS [] [46] ?_;intros)|fail)
  refine kbs0 fun u0=>?_
  (repeat' first|(refine kkS [] [49] ?_;intros)|fail)
  rw [e3]
  (repeat' first|(refine kk ?_;intros)|refine kfk ?_ ?_<;>intro hb|fail)
  rename_i b3 b4 b7
  refine kloopE (ι:=Nat × Value × List SFr) 1 (fun x=>x.1) (fun x=>[(2,nv lim),(3,.one (.v (.pointer (some ⟨b3,0,none⟩)))),(4,.one (.v (.pointer (some ⟨b4,0,none⟩)))),(7,.one (.v (.pointer (some ⟨b7,0,none⟩)))),(8,nv d),(9,vDGs ts),(10,.one (.v x.2.1)),(11,iv ((x.1:Int) - 1))]) (fun x=>[arow 196 8 x.2.1 (x.2.2.map encRF),abox b7 (encG (G.any l).gl) 59,abox b4 (encRF ⟨bb,h,(G.any l,d)::ts⟩) 196,abox b3 (encP (q.map Rl.rl)) 46]) (fun x=>x.1≤l.length∧x.2.2.length+x.1≤l.length∧x.2.2++orFr ⟨bb,h,(G.any l,d)::ts⟩ l d ts x.1=orFr ⟨bb,h,(G.any l,d)::ts⟩ l d ts l.length) (fun x=>x.2.2=orFr ⟨bb,h,(G.any l,d)::ts⟩ l d ts l.length) (l.length,u0,[]) ⟨Nat.le_refl _,by simp,rfl⟩ ?_ ?_
  ·rintro ⟨j,u,S⟩ ⟨j1,j2,j3⟩
   simp only at j1 j2 j3
   dsimp only
   cases j with
   | zero=>
    (repeat' first|(refine kk ?_;intros)|refine kfk ?_ ?_<;>intro hb|fail)
    exact ⟨(0,u,S),by rw [← j3];simp [orFr],kwk⟩
   | succ k=>
    rw [show (((k+1:Nat):Int)) - 1=((k:Nat):Int) by omega]
    obtain ⟨g2,hg2⟩:∃ y,l[k]?=some y:=⟨l[k],List.getElem?_eq_getElem (by omega)⟩
    rw [orFr_succ hg2] at j3
    have hsl:(((l.map G.gl).map encG).take (k+1)).drop k=([g2].map G.gl).map encG:=by
     rw [← List.map_take,← List.map_take,← List.map_drop,← List.map_drop,List.take_add_one,hg2,List.drop_append_of_le_length (by simp;omega),List.drop_eq_nil_of_le (by simp;omega)];rfl
    (repeat' first|(refine kkn ?_;intros)|refine kfk ?_ ?_<;>intro hb|fail)
    refine kmix 11 [0,1,2,3,4,5,6,7,8] [9,10] [abox b4 (encRF ⟨bb,h,(G.any l,d)::ts⟩) 196] ?_ (hB:=Has.mem (List.Mem.tail _ (List.Mem.tail _ (List.Mem.head _))))
    iterate 9 refine kal1 ?_
    refine kal0 ?_
    refine kacO rfl rfl (O_alloc rfl) ?_
    rintro _ _ ⟨b12,rfl,rfl⟩
    refine ⟨Has.mem (List.Mem.tail _ (List.Mem.tail _ (List.Mem.tail _ (List.Mem.head _)))),?_⟩
    refine kacW 0 ?_ (hb:=Has.mem (List.Mem.tail _ (List.Mem.tail _ (List.Mem.tail _ (List.Mem.head _)))))
    refine kac0 ?_
    refine kde ?_
    (repeat' first|(refine kkn ?_;intros)|refine kfk ?_ ?_<;>intro hb|fail)
    refine kmix 14 [0,1,2,3,4,5,6,7,8,9,10,11,12] [13] [abox b12 (encFb (bb.choose k,h)) 147,abox b7 (encG (G.any l).gl) 59] ?_ (hB:=Has.w2)
    iterate 4 refine kal1 ?_
    rw [e3]
    iterate 3 refine kal1 ?_
    refine kal1 ?_ (h:=P_sliceM (r':=([g2].map G.gl).map encG) k (k+1) rfl rfl rfl (by omega) (by rw [hll];omega) hsl)
    iterate 2 refine kal1 ?_
    refine kal1 ?_ (h:=P_callE [vGs' [g2],nv d,vDGs ts] (front_s.h [g2] d ts ⟨by simp,hlts⟩))
    iterate 2 refine kal1 ?_
    refine kal0 ?_
    refine kacO rfl rfl (O_app 1 _ _ rfl rfl rfl rfl rfl (by simp;omega)) ?_
    rintro _ _ ⟨u2,rfl,rfl⟩
    refine ⟨Has.w2,?_⟩
    (repeat' first|(refine kk ?_;intros)|refine kfk ?_ ?_<;>intro hb|fail)
    refine ⟨(k,u2,S++[⟨bb.choose k,h,frontT [g2] d ts⟩]),by simp only;omega,⟨by simp only;omega,by simp only [List.length_append,List.length_singleton];omega,by rw [← j3,List.append_assoc];rfl⟩,?_⟩
    dsimp only
    rw [List.map_append]
    exact kwk
  ·rintro ⟨j,u,S⟩ hE
   simp only at hE
   dsimp only
   subst hE
   (repeat' first|(refine kk ?_;intros)|refine kfk ?_ ?_<;>intro hb|fail)
   exact kr1 (rvR rfl)
 ·have hal:args.length≤4:=hg.ok.2.1
  have hnx:bb.st.next≤100000:=hf.nx
  refine pu Tryz.func140 rfl Tryz.ntmps140 rfl rfl fun C=>?_
  (repeat' first|(refine kkS [174] [] ?_;intros)|refine kfS [174] [] ?_ ?_<;>intro hb|fail)
  refine kr ?_ (h:=P_call rfl (call_s q bb.st s args hq (hg.calls _ (pre_self _)) (by omega) (by omega)))
  cases hc:callF q bb.st.next s args with
  | none=>
   have hnil:stepFr q lim ⟨bb,h,(.call s args,d)::ts⟩ (.call s args) d ts=[]:=by
    by_cases hdl:lim≤d
    ·exact stepFr_deep hdl
    ·exact stepFr_full hdl hc
   rw [hnil]
   (repeat' first|(refine kk ?_;intros)|refine kfk ?_ ?_<;>intro hb|fail)
   exact kr1 rvN
  | some x=>
   obtain ⟨g',n'⟩:=x
   by_cases hdl:lim≤d
   ·rw [stepFr_deep hdl]
    (repeat' first|(refine kk ?_;intros)|refine kfk ?_ ?_<;>intro hb|fail)
    exact kr1 rvN
   rw [stepFr_call hdl hc]
   by_cases hhd:h≤d
   ·rw [show max (SFr.h ⟨bb,h,(.call s args,d)::ts⟩) (d+1)=d+1 from Nat.max_eq_right (Nat.le_succ_of_le hhd)]
    have hx:(((⟨bb,h,(.call s args,d)::ts⟩:SFr).h:Nat):Int)≤((((G.call s args,d):G × Nat).2:Nat):Int):=by show (h:Int)≤d;omega
    (repeat' first|(refine kkn ?_;intros)|refine kfk ?_ ?_<;>intro hb|fail)
    refine kdq ?_
    iterate 7 refine kar ?_
    refine kar ?_ (h:=P_callE [vGs' [g'],nv (d+1),vDGs ts] (front_s.h [g'] (d+1) ts ⟨by simp,hlts⟩))
    (repeat' first|(refine kk ?_;intros)|refine kfk ?_ ?_<;>intro hb|fail)
    exact kr1 (rvT rfl)
   ·rw [show max (SFr.h ⟨bb,h,(.call s args,d)::ts⟩) (d+1)=h from Nat.max_eq_left (by show d+1≤h;omega)]
    have hx:¬ (((⟨bb,h,(.call s args,d)::ts⟩:SFr).h:Nat):Int)≤((((G.call s args,d):G × Nat).2:Nat):Int):=by show ¬ (h:Int)≤d;omega
    (repeat' first|(refine kkn ?_;intros)|refine kfk ?_ ?_<;>intro hb|fail)
    refine kdq ?_
    iterate 7 refine kar ?_
    refine kar ?_ (h:=P_callE [vGs' [g'],nv (d+1),vDGs ts] (front_s.h [g'] (d+1) ts ⟨by simp,hlts⟩))
    (repeat' first|(refine kk ?_;intros)|refine kfk ?_ ?_<;>intro hb|fail)
    exact kr1 (rvT rfl)
end
noncomputable section
open Classical
theorem search_s (q:List Rl) (tags:List ByteArray) (g:G) (n lim steps:Nat) (hq:ProgP q) (hpos:posP q) (htags:∀ r∈q,∀ s a,G.ab s a∈r.body.pre→s∈tags) (htl:tags.length≤10000000) (hg:GdG q tags g) (hn:n≤100000) (hl:lim≤1000) (hs:steps≤4000) :
 Pu Tryz.prog 92 [vPq q,vG g,nv n,nv lim,nv steps] (.tup [vFbs (depthF q g n lim steps).1,bv (depthF q g n lim steps).2]):=by
 refine pu Tryz.func92 rfl Tryz.ntmps92 rfl rfl fun C=>?_
 (repeat' first|(refine kkS [] [25] ?_;intros)|fail)
 rename_i b5 b6 b12
 refine AO_box0 (ds':=encRF (startF n g)) ⟨D.le.refl _,D.le_nil,D.le_nil,D.le_nil,D.le_nil,D.le_nil,D.le.refl _,D.le.refl _,trivial⟩ ?_
 (repeat' first|(refine kkS [] [26] ?_;intros)|fail)
 refine AO_o rfl rfl (O_bs (sz:=8) (rows:=[encRF (startF n g)]) rfl rfl rfl rfl rfl rfl) ?_
 rintro _ _ ⟨u0,rfl,rfl⟩
 (repeat' first|(refine kkz ?_;intros)|refine kfk ?_ ?_<;>intro hb|fail)
 rename_i u1
 generalize hr:depthF q g n lim steps=r
 have hst:=SI.start (lim:=lim) (steps:=steps) hg hn
 rw [hr] at hst
 refine kloopE (ι:=(Nat × Value × Value) × List SFr × List Fd) 0 (fun x=>x.1.1) (fun x=>[(3,nv lim),(4,nv x.1.1),(5,.one (.v (.pointer (some ⟨b5,0,none⟩)))),(13,.one (.v x.1.2.1)),(14,.one (.v x.1.2.2))]) (fun x=>[arow 147 7 x.1.2.2 (x.2.2.map encFb),arow 196 8 x.1.2.1 (x.2.1.map encRF),abox b5 (encP (q.map Rl.rl)) 46]) (fun x=>x.1.1≤steps∧SI q tags lim steps r (steps - x.1.1) x.2.1 x.2.2) (fun x=>SI q tags lim steps r (steps - x.1.1) x.2.1 x.2.2∧(x.1.1=0∧x.1.1≤steps∨x.2.1=[])) ((steps,u0,u1),[startF n g],[]) ⟨Nat.le_refl _,by rw [Nat.sub_self];exact hst⟩ ?_ ?_
 ·clear hst u0 u1
  rintro ⟨⟨c,uS,uO⟩,stk,out⟩ ⟨hcl,hI⟩
  simp only at hI hcl
  dsimp only
  by_cases hi:0 < c
  case neg=>
   obtain rfl:c=0:=by omega
   (repeat' first|(refine kk ?_;intros)|refine kfk ?_ ?_<;>intro hb|fail)
   exact ⟨((0,uS,uO),stk,out),⟨hI,.inl ⟨rfl,Nat.zero_le _⟩⟩,kwk⟩
  rcases stk.eq_nil_or_concat with rfl | ⟨stk',f,hstk⟩
  ·(repeat' first|(refine kk ?_;intros)|refine kfk ?_ ?_<;>intro hb|fail)
   exact ⟨((c,uS,uO),[],out),⟨hI,.inr rfl⟩,kwk⟩
  rw [List.concat_eq_append] at hstk
  have hN:0 < stk.length:=by rw [hstk];simp
  have hlN:=hI.len
  have hlO:=hI.olen
  obtain ⟨bb,h,ts⟩:=f
  have hrow:(stk.map encRF)[stk.length - 1]?=some (encRF ⟨bb,h,ts⟩):=by rw [hstk];simp
  have htk:(stk.map encRF).take (stk.length - 1)=stk'.map encRF:=by rw [hstk];exact take_last _ _ _
  have hlS:stk'.length≤8 * (steps - c):=by rw [hstk] at hlN;simp at hlN;omega
  refine AW_rowU (e:=196) (sz:=8) (u:=uS) (rows:=stk.map encRF) (by repeat (first|exact List.Mem.head _|apply List.Mem.tail)) fun hu=>?_
  rw [List.length_map] at hu
  obtain ⟨bS,cS,rfl⟩:=hu.resolve_left (fun h=>by have:=h.2;omega)
  (repeat' first|(refine kk ?_;intros)|refine kfk ?_ ?_<;>intro hb|fail)
  refine kr ?_ (h:=P_loadNR (j:=stk.length - 1) (o:=0) (sz:=8) _ rfl (by repeat (first|exact List.Mem.head _|apply List.Mem.tail)) hrow rfl rfl)
  (repeat' first|(refine kk ?_;intros)|refine kfk ?_ ?_<;>intro hb|fail)
  rename_i b15
  refine AO_o rfl rfl (O_pop 2 _ _ (stk.length - 1) rfl rfl rfl (by simp)) ?_
  rintro _ _ ⟨uS,rfl,rfl⟩
  rw [htk]
  have hI':SI q tags lim steps r (steps - c) (stk'++[⟨bb,h,ts⟩]) out:=hstk▸hI
  have hf:=hI'.fr _ (List.mem_append_right _ (List.mem_singleton.2 rfl))
  have hc1:steps - c+1=steps - (c - 1):=by omega
  clear hI hrow htk hlN hN hstk hu
  cases ts with
  | nil=>
   have hst:=hI'.found (by omega) rfl
   rw [hc1] at hst
   (repeat' first|(refine kk ?_;intros)|refine kfk ?_ ?_<;>intro hb|fail)
   rename_i u2
   refine ⟨((c - 1,uS,u2),stk',out++[(bb,h)]),by simp only;omega,⟨by simp only;omega,hst⟩,?_⟩
   dsimp only
   rw [List.map_append]
   exact kwk
  | cons x ts1=>
   obtain ⟨g1,d⟩:=x
   have hst:=hI'.step hq hpos htags (by omega) rfl
   rw [hc1] at hst
   have hlen0:(((g1,d)::ts1).map encDG).length=ts1.length+1:=by simp
   have hg1:=(hf.ts.2 (g1,d) (List.mem_cons_self ..)).1
   have hl8:=stepFr_len (q:=q) (lim:=lim) (f:=⟨bb,h,(g1,d)::ts1⟩) (d:=d) (ts:=ts1) hg1.ok
   (repeat' first|(refine kkS [140] [] ?_;intros)|refine kfS [140] [] ?_ ?_<;>intro hb|fail)
   refine kr ?_ (h:=P_call rfl (step_s q tags lim (steps - c) ⟨bb,h,(g1,d)::ts1⟩ g1 d ts1 hq htl (by omega) hl hf rfl))
   generalize stepFr q lim ⟨bb,h,(g1,d)::ts1⟩ g1 d ts1=L at hst hl8 ⊢
   (repeat' first|(refine kk ?_;intros)|refine kfk ?_ ?_<;>intro hb|fail)
   rename_i u2
   refine ⟨((c - 1,u2,uO),stk'++L,out),by simp only;omega,⟨by simp only;omega,hst⟩,?_⟩
   dsimp only
   rw [List.map_append]
   exact kwk
 ·rintro ⟨⟨c,uS,uO⟩,stk,out⟩ ⟨hI,hE⟩
  simp only at hI hE
  dsimp only
  have hr2:r=(out,decide (stk=[])):=by
   rw [← hI.eq]
   exact searchF_end _ _ _ _ _ (by rcases hE with ⟨h1,h2⟩|h;exact .inl (by omega);exact .inr h)
  subst hr2
  cases stk with
  | nil=>
   (repeat' first|(refine kk ?_;intros)|refine kfk ?_ ?_<;>intro hb|fail)
   exact kr2 (rvR rfl) (rvT rfl)
  | cons a l=>
   have hpos:(a::l).length≠0:=by simp
   (repeat' first|(refine kk ?_;intros)|refine kfk ?_ ?_<;>intro hb|fail)
   exact kr2 (rvR rfl) (rvT rfl)
end
noncomputable section
open Classical
instance copySt_s:Con1 Tryz.prog 69 Stt vSt (fun st=>vSt st) StL:=⟨fun st hst=>by
 have hb:=hst.b
 have hd:=hst.d
 have hk:=hst.k
 have hm:=hst.m
 have hds:=hst.ds
 have p1:st.dis.length≤1000000∧∀ d∈st.dis,d.length≤1000000:=⟨hd,hds⟩
 have hdl:(st.dis.map eS).length=st.dis.length:=by simp
 have hkl:((st.kinds.map toK).map encK).length=st.kinds.length:=by simp
 have hml:((st.marks.map toM).map encM).length=st.marks.length:=by simp
 refine pu Tryz.func69 rfl Tryz.ntmps69 rfl rfl fun C=>?_
 (repeat' first|(refine kk ?_;intros)|refine kfk ?_ ?_<;>intro hb|fail)
 rename_i b1 b2
 refine kjoin (ι:=Value × Value) 16 (fun q=>[(2,.one (.v (.pointer (some ⟨b2,0,none⟩)))),(4,nv st.next),(7,vS st.bind),(10,vSs st.dis),(14,.one (.v q.1)),(18,.one (.v q.2))]) (fun q=>[arow 189 2 q.2 ((st.marks.map toM).map encM),arow 186 2 q.1 ((st.kinds.map toK).map encK),abox b2 zCs 53]) (fun join=>?_) ?_
 ·refine kmix2 16 [0,1,2,3,4,5,6,7,9,10,13,14] [8,11,12,15] [abox b1 (encStt st) 53] ?_
  (repeat (refine kkc ?_))
  refine ktB 8 12 ?_ ?_
  ·refine ks2 rfl rfl O_bs0 ?_
   rintro _ _ ⟨u1,rfl,rfl⟩
   refine ⟨Has.three,ktB 11 12 ?_ ?_⟩
   ·refine ks2 rfl rfl (O_app 0 _ _ rfl rfl rfl rfl rfl (by simp;omega)) ?_
    rintro _ _ ⟨u2,rfl,rfl⟩
    refine ⟨Has.three,ktA 12 (ks2 rfl rfl O_bs0 ?_)⟩
    rintro _ _ ⟨u3,rfl,rfl⟩
    refine ⟨wH,ktA 15 (ks2 rfl rfl (O_app 0 _ _ rfl rfl rfl rfl rfl (by simp;omega)) ?_)⟩
    rintro _ _ ⟨u4,rfl,rfl⟩
    exact ⟨wH,join (u2,u4) _ _ kwk⟩
   ·refine ks2 rfl rfl O_bs0 ?_
    rintro _ _ ⟨u3,rfl,rfl⟩
    refine ⟨wH,ktA 11 (ks2 rfl rfl (O_app 1 _ _ rfl rfl rfl rfl rfl (by simp;omega)) ?_)⟩
    rintro _ _ ⟨u2,rfl,rfl⟩
    refine ⟨wH,ktA 15 (ks2 rfl rfl (O_app 0 _ _ rfl rfl rfl rfl rfl (by simp;omega)) ?_)⟩
    rintro _ _ ⟨u4,rfl,rfl⟩
    exact ⟨wH,join (u2,u4) _ _ kwk⟩
  ·refine ks2 rfl rfl O_bs0 ?_
   rintro _ _ ⟨u3,rfl,rfl⟩
   refine ⟨Has.three,ktA 8 (ks2 rfl rfl O_bs0 ?_)⟩
   rintro _ _ ⟨u1,rfl,rfl⟩
   refine ⟨wH,ktA 11 (ks2 rfl rfl (O_app 0 _ _ rfl rfl rfl rfl rfl (by simp;omega)) ?_)⟩
   rintro _ _ ⟨u2,rfl,rfl⟩
   refine ⟨wH,ktA 15 (ks2 rfl rfl (O_app 1 _ _ rfl rfl rfl rfl rfl (by simp;omega)) ?_)⟩
   rintro _ _ ⟨u4,rfl,rfl⟩
   exact ⟨wH,join (u2,u4) _ _ ⟨leF_fl wL,_,List.Perm.swap _ _ _,wS⟩⟩
 ·rintro ⟨u1,u2⟩
  (repeat' first|(refine kk ?_;intros)|refine kfk ?_ ?_<;>intro hb|fail)
  refine kr1 (rvw ?_)
  (exact wV)⟩
instance copyBr_s:Con1 Tryz.prog 141 Br vBrP (fun b=>vBrP b) (fun b=>StL b.st∧b.ch.length≤1000000):=⟨fun b ⟨hs,hl⟩=>by
 have hlen:(b.ch.map encN).length=b.ch.length:=by simp
 refine pu Tryz.func141 rfl Tryz.ntmps141 rfl rfl fun C=>?_
 (repeat' first|(refine kkn ?_;intros)|refine kfk ?_ ?_<;>intro hb|fail)
 rename_i b1 b2
 refine kmix 7 [0,1,2,4,5] [3,6] [abox b1 (encBrP b) 55] ?_
 iterate 5 refine kal1 ?_
 refine kal0 ?_
 refine kacO rfl rfl O_bs0 ?_
 rintro _ _ ⟨u1,rfl,rfl⟩
 refine ⟨wH,?_⟩
 refine kacO rfl rfl (O_app 0 _ _ rfl rfl rfl rfl rfl (by simp;omega)) ?_
 rintro _ _ ⟨u2,rfl,rfl⟩
 refine ⟨wH,?_⟩
 (repeat (refine kkc ?_))
 (repeat' first|(refine kk ?_;intros)|refine kfk ?_ ?_<;>intro hb|fail)
 refine kr1 (rvw ?_)
 exact VwC.cons (VwD.refl _) (VwC.cons (VwD.refl _) (VwC.cons (VwD.refl _) (VwC.cons (VwD.refl _) (VwC.cons (VwD.refl _) (VwC.cons (VwD.row (List.Mem.head _) rfl) VwC.nil)))))⟩
instance copyFd_s:Con1 Tryz.prog 93 (List Fd) vFbs (fun l=>vFbs l) (fun l=>l.length≤1000000∧∀ x∈l,StL x.1.st∧x.1.ch.length≤1000000):=⟨fun l ⟨hl,hs⟩=>by
 have hlen:(l.map encFb).length=l.length:=by simp
 refine pu Tryz.func93 rfl Tryz.ntmps93 rfl rfl fun C=>?_
 (repeat' first|(refine kkz ?_;intros)|refine kfk ?_ ?_<;>intro hb|fail)
 rename_i u0
 refine kfor (ι:=Value) l (fun j u=>[(3,.one (.v u)),(7,vFbs l)]) (fun j u=>[arow 147 7 u ((l.take j).map encFb)]) (fun _ _=>True) u0 trivial ?_ ?_
 ·rintro j x u hj hdd hjl _
  have hrow:(l.map encFb)[j]?=some (encFb x):=by simp [hj]
  have hx:=hs x (List.mem_of_getElem? hj)
  have ht1:l.take (j+1)=l.take j++[x]:=by rw [List.take_add_one,hj];rfl
  have hle:(l.take j).length≤j:=by simp;omega
  (repeat' first|(refine kk ?_;intros)|refine kfk ?_ ?_<;>intro hb|fail)
  refine kdA 1 (ho:=rfl) fun u1=>?_
  (repeat' first|(refine kk ?_;intros)|refine kfk ?_ ?_<;>intro hb|fail)
  refine ⟨u1,trivial,?_⟩
  rw [ht1,List.map_append]
  exact kwk
 ·rintro u _
  rw [List.take_length]
  (repeat' first|(refine kk ?_;intros)|refine kfk ?_ ?_<;>intro hb|fail)
  exact kr1 (rvR rfl)⟩
end
end Go.Proofs.YtejkllmoofdpjaaGreat
