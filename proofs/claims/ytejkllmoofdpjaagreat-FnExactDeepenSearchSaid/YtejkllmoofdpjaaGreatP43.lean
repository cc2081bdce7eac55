/- Parts of the proof: VX4 VX5. -/
import Derived.Test.YtejkllmoofdpjaaGreatP42
import Derived.Test.YtejkllmoofdpjaaGreatP39
namespace Go.Proofs.YtejkllmoofdpjaaGreat
open Go
set_option linter.all false
set_option maxRecDepth 100000
set_option maxHeartbeats 4000000
noncomputable section
open Classical
theorem VwD.eq' {A:List Atm} {d d':D} (h:d=d'):VwD A d d':=h▸.refl _
theorem gpos (g:G):0 < g.nodes:=by cases g<;>simp [G.nodes]<;>omega
theorem GvP.kidP {g x:G} (h:GvP g) (hx:x∈g.kids):GvP x:=⟨fun t ht=>h.fit t (by rw [gts_eq];exact List.mem_append.2 (.inr (List.mem_flatMap.2 ⟨x,hx,ht⟩))),fun y hy=>h.kids y (pre_kid hx hy),fun y hy=>h.ts y (pre_kid hx hy)⟩
section
variable {gf:Nat} {cap:List Value} [FnF Tryz.prog gf]
theorem goalWithT_c (hc:cap.all Value.oneCell'=true) (A0:List Atm) (φ:T→T) (hs:∀ s,φ (.sym s)=.sym s):∀ (N:Nat) (g:G),g.nodes≤N→GvP g→(∀ t∈gts g,Spec Tryz.prog gf (vT t::capA cap) A0 fun v A'=>v=.tup [vT (φ t),bv true]∧A'=A0)→
 Spec Tryz.prog 215 [vG g,fv gf cap] A0 fun v A'=>v=.tup [vG (g.mapT φ),bv true]∧A'=A0:=fun N=>by
 induction N with
 | zero=>exact fun g hN _ _=>absurd hN (by have:=gpos g;omega)
 | succ N ih=>
 intro g hN hg hf
 have e1:rowsT g.gl.terms=(g.ts.map T.tm).map encT:=by rw [rowsT_eq,terms_ts]
 have e2:g.gl.terms.length=g.ts.length:=by rw [terms_ts,List.length_map]
 have hgo:=goals_kids g
 have e3:g.gl.subE=(g.kids.map G.gl).map encG:=by rw [subE_eq,rowsG_eq,hgo]
 have e4:g.gl.goals.length=g.kids.length:=by rw [hgo,List.length_map]
 have k1:=hg.ts g (pre_self g)
 have k2:=hg.kids g (pre_self g)
 refine sp Tryz.func215 rfl Tryz.ntmps215 rfl rfl fun C=>?_
 (repeat' first|(refine kk ?_;intros)|refine kfk ?_ ?_<;>intro hb|fail)
 rw [e1,e2]
 rename_i b2 b4 b6
 refine knA 174 4 ?_
 refine kfor (ι:=Value) g.ts (fun j u=>[(1,fv gf cap),(2,.one (.v (.pointer (some ⟨b2,0,none⟩)))),(4,.one (.v (.pointer (some ⟨b4,0,none⟩)))),(6,.one (.v (.pointer (some ⟨b6,0,none⟩)))),(21,.one (.s 4 ((g.ts.map T.tm).map encT)))]) (fun j u=>arow 174 4 u ((((g.ts.take j).map φ).map T.tm).map encT)::abox b6 [.v (.int .i64 g.gl.kind),.v (.string g.gl.name),.v u,.v (.slice none 0 0)] 59::abox b4 zG 59::abox b2 (encG g.gl) 59::A0) (fun _ _=>True) (.slice none 0 0) trivial ?_ ?_
 ·rintro j x u hj hdd hjl _
  have hrow:((g.ts.map T.tm).map encT)[j]?=some (encT x.tm):=by simp [hj]
  have hx:x∈gts g:=by rw [gts_eq];exact List.mem_append.2 (.inl (List.mem_of_getElem? hj))
  have ht1:g.ts.take (j+1)=g.ts.take j++[x]:=by rw [List.take_add_one,hj];rfl
  have hle:(g.ts.take j).length≤j:=by simp;omega
  (repeat' first|(refine kk ?_;intros)|refine kfk ?_ ?_<;>intro hb|fail)
  refine kcl (A1:=[_,_,_,_,_]) (h:=hf x hx) ?_ (h1:=hc)
  rintro v A' ⟨rfl,hA'⟩
  rw [hA']
  (repeat' first|(refine kk ?_;intros)|refine kfk ?_ ?_<;>intro hb|fail)
  rename_i u2
  refine ⟨u2,trivial,?_⟩
  rw [ht1,List.map_append,List.map_append,List.map_append]
  exact kwk
 ·rintro u _
  rw [List.take_length]
  (repeat' first|(refine kkS [] [43] ?_;intros)|fail)
  refine kfbG (u:=u) (B:=abox b4 zG 59::abox b2 (encG g.gl) 59::A0) (ds':=[.v (.int .i64 g.gl.kind),.v (.string g.gl.name),.s 4 (((g.ts.map φ).map T.tm).map encT),.v (.slice none 0 0)]) perm_sw (VwC.cons (VwD.refl _) (VwC.cons (VwD.refl _) (VwC.cons (VwD.row (List.mem_singleton.2 rfl) rfl) (VwC.cons (VwD.refl _) VwC.nil)))) ?_
  (repeat' first|(refine kk ?_;intros)|refine kfk ?_ ?_<;>intro hb|fail)
  rw [e3,e4]
  refine knA 59 4 ?_
  refine kfor (ι:=Value) g.kids (fun j u=>[(1,fv gf cap),(2,.one (.v (.pointer (some ⟨b2,0,none⟩)))),(4,.one (.v (.pointer (some ⟨b4,0,none⟩)))),(6,.one (.v (.pointer (some ⟨b6,0,none⟩)))),(44,.one (.s 4 ((g.kids.map G.gl).map encG)))]) (fun j u=>arow 59 4 u ((((g.kids.take j).map (G.mapT φ)).map G.gl).map encG)::abox b6 [.v (.int .i64 g.gl.kind),.v (.string g.gl.name),.s 4 (((g.ts.map φ).map T.tm).map encT),.v u] 59::abox b4 zG 59::abox b2 (encG g.gl) 59::A0) (fun _ _=>True) (.slice none 0 0) trivial ?_ ?_
  ·rintro j x u hj hdd hjl _
   have hrow:((g.kids.map G.gl).map encG)[j]?=some (encG x.gl):=by simp [hj]
   have hm:=List.mem_of_getElem? hj
   have ht1:g.kids.take (j+1)=g.kids.take j++[x]:=by rw [List.take_add_one,hj];rfl
   have hle:(g.kids.take j).length≤j:=by simp;omega
   have i1:=ih x (by have:=kids_nodes hm;omega) (hg.kidP hm) fun t ht=>hf t (by rw [gts_eq];exact List.mem_append.2 (.inr (List.mem_flatMap.2 ⟨x,hm,ht⟩)))
   (repeat' first|(refine kk ?_;intros)|refine kfk ?_ ?_<;>intro hb|fail)
   refine kcs (A1:=[_,_,_,_,_]) (h:=i1) ?_
   rintro v A' ⟨rfl,hA'⟩
   rw [hA']
   (repeat' first|(refine kk ?_;intros)|refine kfk ?_ ?_<;>intro hb|fail)
   rename_i u2
   refine ⟨u2,trivial,?_⟩
   rw [ht1,List.map_append,List.map_append,List.map_append]
   exact kwk
  ·rintro u _
   rw [List.take_length]
   (repeat' first|(refine kkS [] [66] ?_;intros)|fail)
   refine kfbG (u:=u) (B:=abox b4 zG 59::abox b2 (encG g.gl) 59::A0) (ds':=encG (g.mapT φ).gl) perm_sw (VwC.cons (VwD.eq' (by rw [mapT_kind])) (VwC.cons (VwD.eq' (by rw [mapT_name])) (VwC.cons (VwD.eq' (by rw [rowsT_eq,terms_ts,mapT_ts hs])) (VwC.cons (VwD.row (List.mem_singleton.2 rfl) (by rw [subE_eq,rowsG_eq,goals_kids,mapT_kids])) VwC.nil)))) ?_
   (repeat' first|(refine kk ?_;intros)|refine kfk ?_ ?_<;>intro hb|fail)
   exact kerC2 (A'':=A0) (v1:=vG (g.mapT φ)) (v2:=bv true) ⟨rfl,rfl⟩ (.refl _) (.refl _)
end
end
noncomputable section
open Classical
abbrev zT0:List D:=[.v (.int .i64 0),.v (.int .i64 0),.v (.string noS),.v (.slice none 0 0)]
instance shifted_i:Con2 Tryz.prog 217 T Nat vT nv (fun t n=>vT (t.shift n)) (fun t n=>t.fit∧n≤1000000):=⟨fun t n ⟨ht,hn⟩=>by
 refine Spec.pu ?_
 refine sp Tryz.func217 rfl Tryz.ntmps217 rfl rfl fun C=>?_
 (repeat' first|(refine kkS [260] [] ?_;intros)|refine kfS [260] [] ?_ ?_<;>intro hb|fail)
 rename_i b2 b3 b4
 refine kcs (A1:=[abox b4 zT0 174,abox b2 (encT t.tm) 174]) (h:=mapVars_c (g:=261) (cap:=[.pointer (some ⟨b3,0,none⟩)]) (by rfl) (fun A'=>A'=[abox b3 [.v (.int .i64 (n:Int))] 3]) (fun v=>.var (v+n)) (fun _=>true) t _ ?_ rfl) ?_ (hA:=by exact (List.Perm.swap _ _ _).cons _)
 ·rintro v A hv rfl
  have hv2:=ht.1 v hv
  refine sp Tryz.func261 rfl Tryz.ntmps261 rfl rfl fun C=>?_
  (repeat' first|(refine kk ?_;intros)|refine kfk ?_ ?_<;>intro hb|fail)
  exact kerC2 (A'':=[abox b3 [.v (.int .i64 (n:Int))] 3]) (v1:=vT (.var (v+n))) (v2:=bv true) ⟨rfl,rfl⟩ (.refl _) (.refl _)
 ·rintro _ A' ⟨rfl,rfl⟩
  (repeat' first|(refine kk ?_;intros)|refine kfk ?_ ?_<;>intro hb|fail)
  exact kerC (A'':=[]) (vT (t.shift n)) ⟨rfl,rfl⟩ (le_eq (congrArg vT (show (t.sub fun v=>if true=true then T.var (v+n) else .var v)=t.shift n by simp [T.shift])))⟩
theorem expand1_c (b n:Nat) (t:T) (ht:t.fit) (hn:n≤1000000):Spec Tryz.prog 216 [vT t,.one (.v (.pointer (some ⟨b,0,none⟩)))] [abox b [.v (.int .i64 (n:Int))] 3] fun v A'=>v=.tup [vT (t.shift n),bv true]∧A'=[abox b [.v (.int .i64 (n:Int))] 3]:=by
 have p1:t.fit∧n≤1000000:=⟨ht,hn⟩
 refine sp Tryz.func216 rfl Tryz.ntmps216 rfl rfl fun C=>?_
 (repeat' first|(refine kk ?_;intros)|refine kfk ?_ ?_<;>intro hb|fail)
 exact kerC2 (A'':=[abox b [.v (.int .i64 (n:Int))] 3]) (v1:=vT (t.shift n)) (v2:=bv true) ⟨rfl,rfl⟩ (.refl _) (.refl _)
abbrev vRl (r:Rl):AV:=.agg (encR r.rl)
abbrev optE:Option (G × Nat)→AV
 | some (g,n)=>.tup [vG g,nv n,bv true]
 | none=>.tup [vG .tru,nv 0,bv false]
theorem perm_q {x y z:Atm} {L:List Atm}:(x::y::z::L).Perm (z::((x::L)++[y])):=((List.Perm.swap z y L).cons x).trans ((List.Perm.swap z x (y::L)).trans (((List.perm_append_singleton y L).symm.cons x).cons z))
theorem kerC3 {P:Program} {f:AF} {A A'':List Atm} {Q':AV→List Atm→Prop} {t t2 t3:Nat} {T T':TypeId} {sz:Nat} {z:Value} [F:TyF P T true sz z] {b:Nat} {ds:List D} {a a3 v1 v2 v3:AV} (hq:Q' (.tup [v1,v2,v3]) A'') (hle:(AV.agg ds).le v1) (hle2:a.le v2) (hle3:a3.le v3) (hx:f t=.one (.v (.pointer (some ⟨b,0,none⟩))):=by exact rfl) (hx2:f t2=a:=by (first|exact sh1 rfl|exact sh2 rfl|exact sh3 rfl|exact sh4 rfl|exact sh5 rfl|exact rfl|fail)) (hx3:f t3=a3:=by (first|exact sh1 rfl|exact sh2 rfl|exact sh3 rfl|exact sh4 rfl|exact sh5 rfl|exact rfl|fail)) (hm:abox b ds T'∈A:=by repeat (first|exact List.Mem.head _|apply List.Mem.tail)) (hl:ds.length=sz:=by exact rfl) (hs:A''.Sublist A:=by (exact wS)) :
 ∃ l v A'',RV P f A [.cell t T,.tmp t2,.tmp t3] l∧Q' v A''∧(AV.of1 l).le v∧Wk f A f A'':=⟨[.agg ds,f t2,f t3],.tup [v1,v2,v3],A'',⟨_,_,rfl,R1_cell hx hm (by rw [List.drop_zero,← hl,List.take_length]) (by simp [hl]),_,_,rfl,R1_tmp,_,_,rfl,R1_tmp,rfl⟩,hq,AV.le_tup (show leA [AV.agg ds,f t2,f t3] [v1,v2,v3] from ⟨hle,by rw [hx2];exact hle2,by rw [hx3];exact hle3,trivial⟩),wkR hs⟩
theorem vG_eq_le {a b:T}:(AV.agg [.v (.int .i64 2),.v (.string noS),.s 4 [encT a.tm,encT b.tm],.v (.slice none 0 0)]).le (vG (.eq a b)):=AV.le_agg ⟨D.le.refl _,D.le.refl _,D.le.refl _,D.le_nil,trivial⟩
theorem expand_some (r:Rl) (args:List T) (next:Nat) (hb:GvP r.body) (hfit:∀ t∈gts r.body,t.fit) (hl:args.length≤1000) (hn:¬ 100000 < next+r.ar+r.loc) :
 Spec Tryz.prog 180 [vRl r,vTs args,nv next] [] fun v A'=>v=.tup [vG (expG r args next),nv (next+r.ar+r.loc),bv true]∧A'=[]:=by
 have hla:(rowsT (args.map T.tm)).length=args.length:=by rw [rowsT_len,List.length_map]
 have hra:rowsT (args.map T.tm)=(args.map T.tm).map encT:=rowsT_eq _
 refine sp Tryz.func180 rfl Tryz.ntmps180 rfl rfl fun C=>?_
 (repeat' first|(refine kk ?_;intros)|refine kfk ?_ ?_<;>intro hb|fail)
 rename_i b3 b5 b6 b10
 refine knA 59 4 ?_
 refine kfor (ι:=Value) args (fun j u=>[(3,.one (.v (.pointer (some ⟨b3,0,none⟩)))),(5,.one (.v (.pointer (some ⟨b5,0,none⟩)))),(6,.one (.v (.pointer (some ⟨b6,0,none⟩)))),(9,nv (next+r.ar+r.loc)),(10,.one (.v (.pointer (some ⟨b10,0,none⟩)))),(26,vTs args)]) (fun j u=>arow 59 4 u (((eqsG next (args.take j)).map G.gl).map encG)::abox b10 [.v (.int .i64 7),.v (.string noS),.v (.slice none 0 0),.v u] 59::abox b6 zG 59::abox b5 [.v (.int .i64 (next:Int))] 3::[abox b3 (encR r.rl) 154]) (fun _ _=>True) (.slice none 0 0) trivial ?_ ?_
 ·rintro j x u hj hdd hjl _
  have hrow:(rowsT (args.map T.tm))[j]?=some (encT x.tm):=by rw [hra];simp [hj]
  have ht1:args.take (j+1)=args.take j++[x]:=by rw [List.take_add_one,hj];rfl
  have hle:(eqsG next (args.take j)).length≤j:=by rw [eqsG_len];simp;omega
  (repeat' first|(refine kkn ?_;intros)|refine kfk ?_ ?_<;>intro hb|fail)
  refine kdq ?_
  iterate 9 refine kar ?_
  refine kar (v:=vG (.eq (.var (next+j)) x)) ?_ (h:=PuO.le kpu vG_eq_le)
  (repeat' first|(refine kk ?_;intros)|refine kfk ?_ ?_<;>intro hb|fail)
  refine kdA 1 (ho:=rfl) fun u1=>?_
  (repeat' first|(refine kk ?_;intros)|refine kfk ?_ ?_<;>intro hb|fail)
  refine ⟨u1,trivial,?_⟩
  rw [ht1,eqsG_snoc,List.map_append,List.map_append,show (args.take j).length=j by simp;omega]
  exact kwk
 ·rintro u _
  rw [List.take_length]
  have hle:(eqsG next args).length≤1000:=by rw [eqsG_len];exact hl
  (repeat' first|(refine kk ?_;intros)|refine kfk ?_ ?_<;>intro hb|fail)
  refine kcs (A1:=[arow 59 4 u (((eqsG next args).map G.gl).map encG),abox b10 [.v (.int .i64 7),.v (.string noS),.v (.slice none 0 0),.v u] 59,abox b6 zG 59,abox b3 (encR r.rl) 154]) (h:=goalWithT_c (gf:=216) (cap:=[.pointer (some ⟨b5,0,none⟩)]) (by rfl) [abox b5 [.v (.int .i64 (next:Int))] 3] (T.shift next) (fun _=>rfl) _ r.body (Nat.le_refl _) hb fun t ht=>expand1_c b5 next t (hfit t ht) (by omega)) ?_ (hA:=by exact ((((List.Perm.swap _ _ _).cons _).cons _).cons _))
  rintro _ A' ⟨rfl,rfl⟩
  (repeat' first|(refine kkS [] [60] ?_;intros)|fail)
  refine kfbG (B:=_::_) (ds':=encG (expG r args next).gl) perm_q (VwC.cons (VwD.refl _) (VwC.cons (VwD.refl _) (VwC.cons VwD.nil (VwC.cons (VwD.row (List.mem_singleton.2 rfl) (show _=(expG r args next).gl.subE by rw [subE_eq,rowsG_eq,goals_kids];simp [expG,G.kids])) VwC.nil)))) ?_
  (repeat' first|(refine kk ?_;intros)|refine kfk ?_ ?_<;>intro hb|fail)
  exact kerC3 (A'':=[]) (v1:=vG (expG r args next)) (v2:=nv (next+r.ar+r.loc)) (v3:=bv true) ⟨rfl,rfl⟩ (.refl _) (.refl _) (.refl _)
theorem expand_none (r:Rl) (args:List T) (next:Nat) (h3:next≤1000000∧r.ar≤1000∧r.loc≤1000) (hn:100000 < next+r.ar+r.loc) :
 Spec Tryz.prog 180 [vRl r,vTs args,nv next] [] fun v A'=>v=.tup [vG .tru,nv 0,bv false]∧A'=[]:=by
 refine sp Tryz.func180 rfl Tryz.ntmps180 rfl rfl fun C=>?_
 (repeat' first|(refine kk ?_;intros)|refine kfk ?_ ?_<;>intro hb|fail)
 exact kerC3 (A'':=[]) (v1:=vG .tru) (v2:=nv 0) (v3:=bv false) ⟨rfl,rfl⟩ zG_le (.refl _) (.refl _)
end
end Go.Proofs.YtejkllmoofdpjaaGreat
