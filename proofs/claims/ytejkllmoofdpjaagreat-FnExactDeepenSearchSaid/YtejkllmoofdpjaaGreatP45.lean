/- Parts of the proof: VX9. -/
import Derived.Test.YtejkllmoofdpjaaGreatP44
namespace Go.Proofs.YtejkllmoofdpjaaGreat
open Go
set_option linter.all false
set_option maxRecDepth 100000
set_option maxHeartbeats 4000000
noncomputable section
open Classical
abbrev encSF (f:SFr):List D:=encBrP f.b++[.s 5 (f.ts.map encDG),.v (.int .i64 (f.h:Int))]
abbrev encFb (x:Fd):List D:=encBrP x.1++[.v (.int .i64 (x.2:Int))]
abbrev vFbs (l:List Fd):AV:=.one (.s 7 (l.map encFb))
section
variable {P:Program} {f:AF} {A:List Atm} {dd:Option Tmp} {ty:TypeId} {pos:String} {aft:Array Edge} {gg:Option (Nat × Bool)}
theorem P_sliceM {tt e:TypeId} {agg:Bool} {sz:Nat} {z:Value} [G:SlF P tt e] [F:TyF P e agg sz z] {x1 x2 x3:Operand} {rows r':List (List D)} (l h:Nat) (hx:eva f x1=.one (.s sz rows)) (hy:eva f x2=nv l) (hz:eva f x3=nv h) (h1:l≤h) (h2:h≤rows.length) (hr:(rows.take h).drop l=r') :
 PuO P f A ⟨dd,.slice tt x1 (some x2) (some x3) none,ty,pos,aft,gg⟩ (.one (.s sz r')):=by
 have:=P_slice (P:=P) (A:=A) (d:=dd) (ty:=ty) (pos:=pos) (aft:=aft) (gg:=gg) (t:=tt) x1 (some x2) (some x3) l h hx ⟨_,hy⟩ ⟨_,hz⟩ h1 h2
 rwa [hr] at this
theorem P_maxN {tys:Array TypeId} {x y:Operand} {a b:Nat} (hx:eva f x=nv a) (hy:eva f y=nv b):PuO P f A ⟨dd,.call {callee:=.builtin .max,args:=#[x,y],argTypes:=tys },ty,pos,aft,gg⟩ (nv (max a b)):=by
 have:=P_max (P:=P) (A:=A) (d:=dd) (ty:=ty) (pos:=pos) (aft:=aft) (gg:=gg) (tys:=tys) x y hx hy
 rwa [show max (a:Int) (b:Int)=((max a b:Nat):Int) by omega] at this
end
theorem br0_le {n:Nat}:(AV.agg (encStt (st0 n)++[.v (.slice none 0 0)])).le (vBrP ⟨st0 n,[]⟩):=AV.le_agg (show leC [.v (.int .i64 (n:Int)),.s 5 [],.s 1 [],.s 2 [],.s 2 [],.v (.slice none 0 0)] [.v (.int .i64 (n:Int)),.s 5 [],.s 1 [],.s 2 [],.s 2 [],.s 1 []] from ⟨D.le.refl _,D.le.refl _,D.le.refl _,D.le.refl _,D.le.refl _,D.le_nil,trivial⟩)
theorem take_last {α β:Type} (φ:α→β) (l:List α) (x:α):((l++[x]).map φ).take ((l++[x]).length - 1)=l.map φ:=by simp
theorem depthSearch_c (q:List Rl) (tags:List ByteArray) (g:G) (n lim steps:Nat) (hq:ProgP q) (hpos:posP q) (htags:∀ r∈q,∀ s a,G.ab s a∈r.body.pre→s∈tags) (htl:tags.length≤10000000) (hg:GdG q tags g) (hn:n≤100000) (hl:lim≤1000) (hs:steps≤4000) :
 Pu Tryz.prog 94 [vPq q,vG g,nv n,nv lim,nv steps] (.tup [vFbs (depthF q g n lim steps).1,bv (depthF q g n lim steps).2]):=by
 refine pu Tryz.func94 rfl Tryz.ntmps94 rfl rfl fun C=>?_
 (repeat' first|(refine kkn ?_;intros)|refine kfk ?_ ?_<;>intro hb|fail)
 rename_i b5 b6
 refine kmix 9 [0,1,2,3,4,5,6] [7,8] [abox b6 (encG g.gl) 59,abox b5 (encP (q.map Rl.rl)) 46] ?_
 iterate 2 refine kal1 ?_
 refine kal1 (v:=vBrP ⟨st0 n,[]⟩) ?_ (h:=PuO.le kpu br0_le)
 iterate 4 refine kal1 ?_
 refine kal0 ?_
 refine kacO rfl rfl (O_bs (sz:=8) (rows:=[encSF (startF n g)]) rfl rfl rfl rfl rfl rfl) ?_
 rintro _ _ ⟨u0,rfl,rfl⟩
 refine ⟨wH,?_⟩
 (repeat (refine kkc ?_))
 (repeat' first|(refine kkz ?_;intros)|refine kfk ?_ ?_<;>intro hb|fail)
 rename_i u1
 generalize hr:depthF q g n lim steps=r
 have hst:=SI.start (lim:=lim) (steps:=steps) hg hn
 rw [hr] at hst
 refine kloopE (ι:=(Nat × Value × Value) × List SFr × List Fd) 0 (fun x=>steps - x.1.1) (fun x=>[(3,nv lim),(4,nv steps),(5,.one (.v (.pointer (some ⟨b5,0,none⟩)))),(12,.one (.v x.1.2.1)),(13,.one (.v x.1.2.2)),(14,nv x.1.1)]) (fun x=>[arow 147 7 x.1.2.2 (x.2.2.map encFb),arow 204 8 x.1.2.1 (x.2.1.map encSF),abox b5 (encP (q.map Rl.rl)) 46]) (fun x=>SI q tags lim steps r x.1.1 x.2.1 x.2.2) (fun x=>SI q tags lim steps r x.1.1 x.2.1 x.2.2∧(x.1.1=steps∨x.2.1=[])) ((0,u0,u1),[startF n g],[]) hst ?_ ?_
 ·clear hst u0 u1
  rintro ⟨⟨i,uS,uO⟩,stk,out⟩ hI
  simp only at hI
  dsimp only
  have hil:=hI.le
  by_cases hi:i < steps
  case neg=>
   obtain rfl:i=steps:=by omega
   (repeat' first|(refine kk ?_;intros)|refine kfk ?_ ?_<;>intro hb|fail)
   exact ⟨((i,uS,uO),stk,out),⟨hI,.inl rfl⟩,kwk⟩
  rcases stk.eq_nil_or_concat with rfl | ⟨stk',f,hstk⟩
  ·(repeat' first|(refine kk ?_;intros)|refine kfk ?_ ?_<;>intro hb|fail)
   exact ⟨((i,uS,uO),[],out),⟨hI,.inr rfl⟩,kwk⟩
  rw [List.concat_eq_append] at hstk
  have hN:0 < stk.length:=by rw [hstk];simp
  have hlN:=hI.len
  have hlO:=hI.olen
  obtain ⟨bb,h,ts⟩:=f
  have hrow:(stk.map encSF)[stk.length - 1]?=some (encSF ⟨bb,h,ts⟩):=by rw [hstk];simp
  have htk:(stk.map encSF).take (stk.length - 1)=stk'.map encSF:=by rw [hstk];exact take_last _ _ _
  have hlS:stk'.length≤8 * i:=by rw [hstk] at hlN;simp at hlN;omega
  have hlS2:(stk'.map encSF).length≤8 * i:=by simpa using hlS
  refine AW_rowU (e:=204) (sz:=8) (u:=uS) (rows:=stk.map encSF) (by repeat (first|exact List.Mem.head _|apply List.Mem.tail)) fun hu=>?_
  rw [List.length_map] at hu
  obtain ⟨bS,cS,rfl⟩:=hu.resolve_left (fun h=>by have:=h.2;omega)
  (repeat' first|(refine kk ?_;intros)|refine kfk ?_ ?_<;>intro hb|fail)
  refine kr ?_ (h:=P_loadNR (j:=stk.length - 1) (o:=0) (sz:=8) _ rfl (by repeat (first|exact List.Mem.head _|apply List.Mem.tail)) hrow rfl rfl)
  (repeat' first|(refine kk ?_;intros)|refine kfk ?_ ?_<;>intro hb|fail)
  rename_i b15
  refine AO_o rfl rfl (O_pop 2 _ _ (stk.length - 1) rfl rfl rfl (by simp)) ?_
  rintro _ _ ⟨uS,rfl,rfl⟩
  rw [htk]
  have hI':SI q tags lim steps r i (stk'++[⟨bb,h,ts⟩]) out:=hstk▸hI
  have hf:=hI'.fr _ (List.mem_append_right _ (List.mem_singleton.2 rfl))
  have hhm:h≤i:=hf.h
  have hch:bb.ch.length≤1000000:=by have:=hf.ch.1;simp only at this;omega
  clear hI hrow htk hlN hN hstk hu
  cases ts with
  | nil=>
   (repeat' first|(refine kk ?_;intros)|refine kfk ?_ ?_<;>intro hb|fail)
   rename_i u2
   refine ⟨((i+1,uS,u2),stk',out++[(bb,h)]),by simp only;omega,hI'.found hi rfl,?_⟩
   dsimp only
   rw [List.map_append]
   exact kwk
  | cons x ts1=>
   obtain ⟨g1,d⟩:=x
   obtain ⟨hg1,hd⟩:=hf.ts.2 (g1,d) (List.mem_cons_self ..)
   simp only at hd
   have hlts:ts1.length≤100000000:=by have:=hf.ts.1;simp only [List.length_cons] at this;omega
   have hst:=hI'.step hq hpos htags hi rfl
   have hr0:(((g1,d)::ts1).map encDG)[0]?=some (encDG (g1,d)):=rfl
   have hlen0:(((g1,d)::ts1).map encDG).length=ts1.length+1:=by simp
   by_cases hk:g1.gl.kind=7∨g1.gl.kind=8∨g1.gl.kind=9
   case neg=>
    have hk7:¬ g1.gl.kind=7:=fun h=>hk (.inl h)
    have hk8:¬ g1.gl.kind=8:=fun h=>hk (.inr (.inl h))
    have hk9:¬ g1.gl.kind=9:=fun h=>hk (.inr (.inr h))
    have pr:∃ tags,tags.length≤10000000∧RP tags bb.st g1:=⟨tags,htl,hf.rp rfl⟩
    rw [kind_789 hk] at hst
    (repeat' first|(refine kk ?_;intros)|refine kfk ?_ ?_<;>intro hb|fail)
    cases hreq:reqF bb.st g1 with
    | none=>
     rw [hreq] at hst
     (repeat' first|(refine kk ?_;intros)|refine kfk ?_ ?_<;>intro hb|fail)
     exact ⟨((i+1,uS,uO),stk',out),by simp only;omega,by rwa [List.append_nil] at hst,kwk⟩
    | some st'=>
     rw [hreq] at hst
     (repeat' first|(refine kk ?_;intros)|refine kfk ?_ ?_<;>intro hb|fail)
     refine kap 4 fun u2=>?_
     (repeat' first|(refine kk ?_;intros)|refine kfk ?_ ?_<;>intro hb|fail)
     refine ⟨((i+1,u2,uO),stk'++[⟨⟨st',bb.ch⟩,h,ts1⟩],out),by simp only;omega,hst,?_⟩
     dsimp only
     rw [List.map_append]
     exact kwk
   have hcs:(∃ l,g1=.all l)∨(∃ l,g1=.any l)∨∃ s args,g1=.call s args:=by
    cases g1 with
    | all l=>exact .inl ⟨l,rfl⟩
    | any l=>exact .inr (.inl ⟨l,rfl⟩)
    | call s a=>exact .inr (.inr ⟨s,a,rfl⟩)
    | _=>simp [G.gl] at hk
   rcases hcs with ⟨l,rfl⟩ | ⟨l,rfl⟩ | ⟨s,args,rfl⟩
   ·have hl8:l.length≤8:=hg1.ok.1
    have p1:l.length≤1000000∧ts1.length≤100000000:=⟨by omega,hlts⟩
    have e3:(G.all l).gl.subE=(l.map G.gl).map encG:=by rw [subE_eq,rowsG_eq,goals_kids];rfl
    (repeat' first|(refine kkS [] [104] ?_;intros)|fail)
    rw [e3]
    (repeat' first|(refine kk ?_;intros)|refine kfk ?_ ?_<;>intro hb|fail)
    rename_i u2
    refine ⟨((i+1,u2,uO),stk'++[⟨bb,h,frontT l d ts1⟩],out),by simp only;omega,hst,?_⟩
    dsimp only
    rw [List.map_append]
    exact kwk
   ·have hl8:l.length≤8:=hg1.ok.1
    have e3:(G.any l).gl.subE=(l.map G.gl).map encG:=by rw [subE_eq,rowsG_eq,goals_kids];rfl
    have hll:((l.map G.gl).map encG).length=l.length:=by simp
    (repeat' first|(refine kkS [] [115] ?_;intros)|fail)
    rw [e3]
    (repeat' first|(refine kk ?_;intros)|refine kfk ?_ ?_<;>intro hb|fail)
    rename_i b16
    refine kloopE (ι:=Nat × Value × List SFr) 3 (fun x=>x.1) (fun x=>[(3,nv lim),(4,nv steps),(5,.one (.v (.pointer (some ⟨b5,0,none⟩)))),(12,.one (.v x.2.1)),(13,.one (.v uO)),(14,nv i),(15,.one (.v (.pointer (some ⟨b15,0,none⟩)))),(16,.one (.v (.pointer (some ⟨b16,0,none⟩)))),(17,vDGs ts1),(18,iv ((x.1:Int) - 1))]) (fun x=>[abox b16 (encDG (G.any l,d)) 201,abox b15 (encSF ⟨bb,h,(G.any l,d)::ts1⟩) 204,arow 147 7 uO (out.map encFb),arow 204 8 x.2.1 (x.2.2.map encSF),abox b5 (encP (q.map Rl.rl)) 46]) (fun x=>x.1≤l.length∧x.2.2.length+x.1≤stk'.length+l.length∧x.2.2++orFr ⟨bb,h,(G.any l,d)::ts1⟩ l d ts1 x.1=stk'++orFr ⟨bb,h,(G.any l,d)::ts1⟩ l d ts1 l.length) (fun x=>x.2.2=stk'++orFr ⟨bb,h,(G.any l,d)::ts1⟩ l d ts1 l.length) (l.length,uS,stk') ⟨Nat.le_refl _,Nat.le_refl _,rfl⟩ ?_ ?_
    ·rintro ⟨j,u,S⟩ ⟨j1,j2,j3⟩
     simp only at j1 j2 j3
     dsimp only
     cases j with
     | zero=>
      (repeat' first|(refine kk ?_;intros)|refine kfk ?_ ?_<;>intro hb|fail)
      exact ⟨(0,u,S),by rw [← j3];simp [orFr],kwk⟩
     | succ k=>
      rw [show (((k+1:Nat):Int)) - 1=((k:Nat):Int) by omega]
      obtain ⟨g2,hg2⟩:∃ y,l[k]?=some y:=⟨l[k],List.getElem?_eq_getElem (by omega)⟩
      rw [orFr_succ hg2] at j3
      have hsl:(((l.map G.gl).map encG).take (k+1)).drop k=([g2].map G.gl).map encG:=by
       rw [← List.map_take,← List.map_take,← List.map_drop,← List.map_drop,List.take_add_one,hg2,List.drop_append_of_le_length (by simp;omega),List.drop_eq_nil_of_le (by simp;omega)];rfl
      (repeat' first|(refine kkn ?_;intros)|refine kfk ?_ ?_<;>intro hb|fail)
      refine kmix 21 [0,1,2,3,4,5,6,7,8,9,10,11,12,13,14,15,16,17,18,19] [20] [abox b16 (encDG (G.any l,d)) 201,abox b15 (encSF ⟨bb,h,(G.any l,d)::ts1⟩) 204] ?_ (hB:=⟨[_,_,_],List.perm_append_comm (l₁:=[_,_]) (l₂:=[_,_,_])⟩)
      iterate 8 refine kal1 ?_
      rw [e3]
      iterate 3 refine kal1 ?_
      refine kal1 ?_ (h:=P_sliceM (r':=([g2].map G.gl).map encG) k (k+1) rfl rfl rfl (by omega) (by rw [hll];omega) hsl)
      iterate 3 refine kal1 ?_
      refine kal1 ?_ (h:=P_callE [vGs' [g2],nv d,vDGs ts1] (before_i.h [g2] d ts1 ⟨by simp,hlts⟩))
      iterate 4 refine kal1 ?_
      refine kal0 ?_
      refine kacO rfl rfl (O_app 3 _ _ rfl rfl rfl rfl rfl (by simp;omega)) ?_
      rintro _ _ ⟨u2,rfl,rfl⟩
      refine ⟨⟨[_,_,_],List.perm_append_comm (l₁:=[_,_]) (l₂:=[_,_,_])⟩,?_⟩
      (repeat' first|(refine kk ?_;intros)|refine kfk ?_ ?_<;>intro hb|fail)
      refine ⟨(k,u2,S++[⟨bb.choose k,h,frontT [g2] d ts1⟩]),by simp only;omega,⟨by simp only;omega,by simp only [List.length_append,List.length_singleton];omega,by rw [← j3,List.append_assoc];rfl⟩,?_⟩
      dsimp only
      rw [List.map_append]
      exact kwk
    ·rintro ⟨j,u,S⟩ hE
     simp only at hE
     dsimp only
     subst hE
     (repeat' first|(refine kk ?_;intros)|refine kfk ?_ ?_<;>intro hb|fail)
     exact ⟨((i+1,u,uO),_,out),by simp only;omega,hst,kwk⟩
   ·have hal:args.length≤4:=hg1.ok.2.1
    have hnx:bb.st.next≤100000:=hf.nx
    by_cases hdl:lim≤d
    ·rw [stepFr_deep hdl,List.append_nil] at hst
     (repeat' first|(refine kk ?_;intros)|refine kfk ?_ ?_<;>intro hb|fail)
     exact ⟨((i+1,uS,uO),stk',out),by simp only;omega,hst,kwk⟩
    (repeat' first|(refine kkS [144] [] ?_;intros)|refine kfS [144] [] ?_ ?_<;>intro hb|fail)
    rename_i b16
    refine kr ?_ (h:=P_call rfl (expandIn_c q bb s args hq (hg1.calls _ (pre_self _)) (by omega) (by omega)))
    cases hc:callF q bb.st.next s args with
    | none=>
     rw [stepFr_full hdl hc,List.append_nil] at hst
     (repeat' first|(refine kk ?_;intros)|refine kfk ?_ ?_<;>intro hb|fail)
     exact ⟨((i+1,uS,uO),stk',out),by simp only;omega,hst,kwk⟩
    | some x=>
     obtain ⟨g',n'⟩:=x
     rw [stepFr_call hdl hc] at hst
     (repeat' first|(refine kkn ?_;intros)|refine kfk ?_ ?_<;>intro hb|fail)
     rename_i b19 b20
     refine kmix 18 [0,1,2,3,4,5,6,7,8,9,10,11,12,13,14,15,16] [17] [abox b20 (encG g'.gl) 59,abox b19 (encBrP ⟨bb.st.setN n',bb.ch⟩) 55,abox b16 (encDG (.call s args,d)) 201,abox b15 (encSF ⟨bb,h,(.call s args,d)::ts1⟩) 204] ?_ (hB:=⟨[_,_,_],List.perm_append_comm (l₁:=[_,_,_,_]) (l₂:=[_,_,_])⟩)
     iterate 8 refine kal1 ?_
     refine kal1 ?_ (h:=P_callE [vGs' [g'],nv (d+1),vDGs ts1] (before_i.h [g'] (d+1) ts1 ⟨by simp,hlts⟩))
     iterate 5 refine kal1 ?_
     refine kal1 ?_ (h:=P_maxN (a:=h) (b:=d+1) rfl rfl)
     iterate 2 refine kal1 ?_
     refine kal0 ?_
     refine kacO rfl rfl (O_app 5 _ _ rfl rfl rfl rfl rfl (by simp;omega)) ?_
     rintro _ _ ⟨u2,rfl,rfl⟩
     refine ⟨⟨[_,_,_],List.perm_append_comm (l₁:=[_,_,_,_]) (l₂:=[_,_,_])⟩,?_⟩
     (repeat' first|(refine kk ?_;intros)|refine kfk ?_ ?_<;>intro hb|fail)
     refine ⟨((i+1,u2,uO),stk'++[⟨⟨bb.st.setN n',bb.ch⟩,max h (d+1),frontT [g'] (d+1) ts1⟩],out),by simp only;omega,hst,?_⟩
     dsimp only
     rw [List.map_append]
     exact kwk
 ·rintro ⟨⟨i,uS,uO⟩,stk,out⟩ ⟨hI,hE⟩
  simp only at hI hE
  dsimp only
  have hr2:r=(out,decide (stk=[])):=by
   rw [← hI.eq]
   exact searchF_end _ _ _ _ _ (by rcases hE with h|h;exact .inl (by rw [h,Nat.sub_self]);exact .inr h)
  subst hr2
  cases stk with
  | nil=>
   (repeat' first|(refine kk ?_;intros)|refine kfk ?_ ?_<;>intro hb|fail)
   exact kr2 (rvR rfl) (rvT rfl)
  | cons a l=>
   have hpos:(a::l).length≠0:=by simp
   (repeat' first|(refine kk ?_;intros)|refine kfk ?_ ?_<;>intro hb|fail)
   exact kr2 (rvR rfl) (rvT rfl)
end
end Go.Proofs.YtejkllmoofdpjaaGreat
