/- Parts of the proof: VX6 VX7 VX8. -/
import Derived.Test.YtejkllmoofdpjaaGreatP43
namespace Go.Proofs.YtejkllmoofdpjaaGreat
open Go
set_option linter.all false
set_option maxRecDepth 100000
set_option maxHeartbeats 4000000
noncomputable section
open Classical
abbrev encBrP (b:Br):List D:=encStt b.st++[.s 1 (b.ch.map encN)]
abbrev vBrP (b:Br):AV:=.agg (encBrP b)
abbrev encDG (x:G × Nat):List D:=encG x.1.gl++[.v (.int .i64 (x.2:Int))]
abbrev vDGs (l:List (G × Nat)):AV:=.one (.s 5 (l.map encDG))
abbrev vGs' (l:List G):AV:=.one (.s 4 ((l.map G.gl).map encG))
instance before_i:Con3 Tryz.prog 142 (List G) Nat (List (G × Nat)) vGs' nv vDGs (fun l d ts=>vDGs (frontT l d ts)) (fun l d ts=>l.length≤1000000∧ts.length≤100000000):=⟨fun l d ts ⟨hl,ht⟩=>by
 have hlen:((l.map G.gl).map encG).length=l.length:=by simp
 have hlen2:(ts.map encDG).length=ts.length:=by simp
 refine pu Tryz.func142 rfl Tryz.ntmps142 rfl rfl fun C=>?_
 (repeat' first|(refine kkz ?_;intros)|refine kfk ?_ ?_<;>intro hb|fail)
 rename_i u0
 refine kfor (ι:=Value) l (fun j u=>[(1,nv d),(2,vDGs ts),(7,.one (.v u)),(11,vGs' l)]) (fun j u=>[arow 201 5 u (((l.take j).map fun g=>(g,d)).map encDG)]) (fun _ _=>True) u0 trivial ?_ ?_
 ·rintro j x u hj hdd hjl _
  have hrow:((l.map G.gl).map encG)[j]?=some (encG x.gl):=by simp [hj]
  have ht1:l.take (j+1)=l.take j++[x]:=by rw [List.take_add_one,hj];rfl
  have hle:(l.take j).length≤j:=by simp;omega
  (repeat' first|(refine kk ?_;intros)|refine kfk ?_ ?_<;>intro hb|fail)
  rename_i u1
  refine ⟨u1,trivial,?_⟩
  rw [ht1,List.map_append,List.map_append]
  exact kwk
 ·rintro u _
  rw [List.take_length]
  (repeat' first|(refine kk ?_;intros)|refine kfk ?_ ?_<;>intro hb|fail)
  exact kr1 (rvR (List.map_append (f:=encDG) (l₁:=l.map fun g=>(g,d)) (l₂:=ts)).symm)⟩
instance choose_i:Con2 Tryz.prog 143 Br Nat vBrP nv (fun b k=>vBrP (b.choose k)) (fun b _=>b.ch.length≤1000000):=⟨fun b k hl=>by
 have hlen:(b.ch.map encN).length=b.ch.length:=by simp
 refine pu Tryz.func143 rfl Tryz.ntmps143 rfl rfl fun C=>?_
 (repeat' first|(refine kkn ?_;intros)|refine kfk ?_ ?_<;>intro hb|fail)
 rename_i b2 b4
 refine kmix 11 [0,1,3,4,6,7] [2,5,8,9,10] [abox b2 (encBrP b) 55] ?_
 iterate 6 refine kal1 ?_
 refine kal0 ?_
 refine kacO rfl rfl O_bs0 ?_
 rintro _ _ ⟨u1,rfl,rfl⟩
 refine ⟨wH,?_⟩
 refine kacO rfl rfl (O_app 0 _ _ rfl rfl rfl rfl rfl (by simp;omega)) ?_
 rintro _ _ ⟨u2,rfl,rfl⟩
 refine ⟨wH,?_⟩
 refine kacO rfl rfl (O_app 0 _ _ rfl rfl rfl rfl rfl (by simp;omega)) ?_
 rintro _ _ ⟨u3,rfl,rfl⟩
 refine ⟨wH,?_⟩
 (repeat (refine kkc ?_))
 (repeat' first|(refine kk ?_;intros)|refine kfk ?_ ?_<;>intro hb|fail)
 refine kr1 (rvw ?_)
 exact VwC.cons (VwD.refl _) (VwC.cons (VwD.refl _) (VwC.cons (VwD.refl _) (VwC.cons (VwD.refl _) (VwC.cons (VwD.refl _) (VwC.cons (VwD.row (List.Mem.head _) (show _=(b.ch++[k]).map encN by rw [List.map_append,List.nil_append];rfl)) VwC.nil)))))⟩
end
noncomputable section
open Classical
def expF (r:Rl) (args:List T) (next:Nat):Option (G × Nat):=if 100000 < next+r.ar+r.loc then none else some (expG r args next,next+r.ar+r.loc)
instance expand_i:Con3 Tryz.prog 180 Rl (List T) Nat vRl vTs nv (fun r args next=>optE (expF r args next)) (fun r args next=>(GvP r.body∧∀ t∈gts r.body,t.fit)∧args.length≤1000∧next≤1000000∧r.ar≤1000∧r.loc≤1000):=⟨fun r args next ⟨⟨h1,h2⟩,h3,h4⟩=>by
 by_cases h:100000 < next+r.ar+r.loc
 ·rw [show expF r args next=none from if_pos h]
  exact (expand_none r args next h4 h).pu
 ·rw [show expF r args next=some (expG r args next,next+r.ar+r.loc) from if_neg h]
  exact (expand_some r args next h1 h2 h3 h).pu⟩
def zBr:Br:=⟨zSt,[]⟩
abbrev optX (b:Br):Option (G × Nat)→AV
 | some (g,n)=>.tup [vBrP ⟨b.st.setN n,b.ch⟩,vG g,bv true]
 | none=>.tup [vBrP zBr,vG .tru,bv false]
theorem Has.w5 {x y p q z u v:Atm}:Has [x,y,z,u,v] [x,y,p,q,z,u,v]:=⟨[p,q],List.Perm.append_right [z,u,v] (List.perm_append_comm (l₁:=[x,y]) (l₂:=[p,q]))⟩
theorem expandIn_c (q:List Rl) (b:Br) (s:ByteArray) (args:List T) (hq:ProgP q) (hc:okC (q.map Rl.rl) (.call s args)) (hl:args.length≤1000) (hn:b.st.next≤1000000):Pu Tryz.prog 144 [vPq q,vBrP b,vG (.call s args)] (optX b (callF q b.st.next s args)):=by
 obtain ⟨k,h1,h2,h3⟩:=okC_rel hc
 have hrow:((q.map Rl.rl).map encR)[k]?=some (encR (relR q s).rl):=by simp [h2]
 have hkl:=(List.getElem?_eq_some_iff.1 h2).1
 have hql:=hq.len
 have hr:=hq.rel k _ h2
 have hlen:((q.map Rl.rl).map encR).length=q.length:=by simp
 have p1:(q.map Rl.rl).length≤1000:=by simp;omega
 have p2:(GvP (relR q s).body∧∀ t∈gts (relR q s).body,t.fit)∧args.length≤1000∧b.st.next≤1000000∧(relR q s).ar≤1000∧(relR q s).loc≤1000:=⟨⟨hr.ok.gvp,hr.ok.gvp.fit⟩,hl,hn,by have:=hr.ar;omega,by have:=hr.loc;omega⟩
 refine pu Tryz.func144 rfl Tryz.ntmps144 rfl rfl fun C=>?_
 (repeat' first|(refine kkn ?_;intros)|refine kfk ?_ ?_<;>intro hb|fail)
 rename_i b3 b4 b5 b6 b7
 refine kmix 22 [0,1,2,3,4,5,6,7,8,9,10,11,12,13,14,15,16,17] [18,19,20,21] [abox b5 (encG (G.call s args).gl) 59,abox b4 (encBrP b) 55,abox b3 (encP (q.map Rl.rl)) 46] ?_
 iterate 6 refine kal1 ?_
 rw [show (G.call s args).gl.name=s from rfl,h1]
 iterate 9 refine kal1 ?_
 have hcf:callF q b.st.next s args=expF (relR q s) args b.st.next:=rfl
 rw [hcf]
 cases he:expF (relR q s) args b.st.next with
 | none=>
  iterate 3 refine kal1 ?_
  refine kal0 ?_
  refine kacO rfl rfl (O_alloc rfl) ?_
  rintro _ _ ⟨b9,rfl,rfl⟩
  refine ⟨wH,?_⟩
  (repeat (refine kkc ?_))
  (repeat' first|(refine kk ?_;intros)|refine kfk ?_ ?_<;>intro hb|fail)
  refine kr3 (rvw ?_) (rvw ?_) (rvT rfl)
  ·exact VwC.cons (VwD.refl _) (VwC.cons VwD.nil (VwC.cons VwD.nil (VwC.cons VwD.nil (VwC.cons VwD.nil (VwC.cons VwD.nil VwC.nil)))))
  ·exact VwC.cons (VwD.refl _) (VwC.cons (VwD.refl _) (VwC.cons VwD.nil (VwC.cons VwD.nil VwC.nil)))
 | some x=>
  obtain ⟨g',n'⟩:=x
  iterate 3 refine kal1 ?_
  refine kal0 ?_
  refine kacO rfl rfl (O_alloc rfl) ?_
  rintro _ _ ⟨b9,rfl,rfl⟩
  refine ⟨wH,?_⟩
  (repeat (refine kkc ?_))
  (repeat' first|(refine kk ?_;intros)|refine kfk ?_ ?_<;>intro hb|fail)
  rename_i b12
  refine kmix 8 [0,1,2,3,4] [5,6,7] [abox b12 (encStt (b.st.setN n')) 53,abox b9 (encG g'.gl) 59,abox b5 (encG (G.call s args).gl) 59,abox b4 (encBrP b) 55,abox b3 (encP (q.map Rl.rl)) 46] ?_ (hB:=Has.w5)
  iterate 5 refine kal1 ?_
  refine kal0 ?_
  refine kacW 3 ?_ (hb:=Has.w5)
  refine kacW 2 ?_ (hb:=Has.w5)
  refine kacP ?_ (hb:=Has.w5)
  (repeat' first|(refine kk ?_;intros)|refine kfk ?_ ?_<;>intro hb|fail)
  refine kr3 (rvw ?_) (rvw ?_) (rvT rfl)
  ·exact VwC.refl _
  ·exact VwC.refl _
end
noncomputable section
theorem rdRows_take {M:Nat→Prop} {w:World}:∀ (m:Nat) {rs:List (List D)} {vss:List (List Value)},rdRows M w rs vss→rdRows M w (rs.take m) (vss.take m)
 | 0,_,_,_=>trivial
 | _+1,[],[],_=>trivial
 | m+1,_::_,_::_,⟨h1,h2⟩=>⟨h1,rdRows_take m h2⟩
theorem flatten_take {sz:Nat} {α:Type}:∀ (m:Nat) {vss:List (List α)},(∀ vs∈vss,vs.length=sz)→(vss.take m).flatten=vss.flatten.take (m * sz)
 | 0,_,_=>by simp
 | _+1,[],_=>by simp
 | m+1,v::vss,h=>by
  have hv:=h v (by simp)
  have h1:v.take ((m+1) * sz)=v:=List.take_of_length_le (by rw [hv,Nat.add_mul];omega)
  have h2:(m+1) * sz - v.length=m * sz:=by rw [hv,Nat.add_mul];omega
  rw [List.take_succ_cons,List.flatten_cons,List.flatten_cons,flatten_take m fun x hx=>h x (by simp [hx]),List.take_append,h1,h2]
section
variable {P:Program} {f:AF} {A:List Atm} {d:Option Tmp} {ty:TypeId} {pos:String} {aft:Array Edge} {gg:Option (Nat × Bool)}
theorem O_pop {t e:TypeId} {agg:Bool} {sz:Nat} {z:Value} [G:SlF P t e] [F:TyF P e agg sz z] (i:Nat) (x y:Operand) {v:Value} {rows:List (List D)} {k:IntKind} (m:Nat) (hx:eva f x=.one (.v v)) (hi:A[i]?=some (arow e sz v rows)) (hy:eva f y=.one (.v (.int k m))) (hm:m≤rows.length) :
 Opn P f A ⟨d,.slice t x none (some y) none,ty,pos,aft,gg⟩ fun u A'=>∃ v',u=.one (.v v')∧A'=A.set i (arow e sz v' (rows.take m)):=fun M w r hp h=>by
 have hok:=hp.ats _ (List.mem_of_getElem? hi)
 obtain ⟨vss,⟨hall,hown⟩,hrows⟩:=hok
 obtain ⟨a,c,rfl,hc⟩:=arow_len (hp.ats _ (List.mem_of_getElem? hi))
 have hvl:=rdRows_len hrows
 have hxv:=exact_of (h x (by simp [Op.operands])) hx
 have hyv:=exact_of (h y (by simp [Op.operands])) hy
 have hrun:=runC_run _ _ (X_slice (P:=P) (w:=w) (d:=d) (ty:=ty) (pos:=pos) (aft:=aft) (g:=gg) (t:=t) (e:=e) (sz:=sz) x none (some y) 0 m hxv rfl ⟨k,hyv⟩ (Nat.zero_le _) (by omega) hc)
 have ha:slA a 0 c sz=a:=by
  unfold slA
  split
  ·rfl
  ·cases a with
   | none=>rfl
   | some a=>simp [Addr.add]
 rw [ha,Nat.sub_zero,Nat.sub_zero] at hrun
 have hfl:(vss.take m).flatten=vss.flatten.take (m * sz):=flatten_take m hall
 have hmk:MO M (A.set i (arow e sz (.slice a m c) (rows.take m)))=MO M A:=by
  funext b
  obtain ⟨e1,e2⟩:=set_split (y:=arow e sz (.slice a m c) (rows.take m)) hi
  have ho:(arow e sz (.slice a m c) (rows.take m)).own=(arow e sz (.slice a rows.length c) rows).own:=by cases a<;>rfl
  have:oA (A.set i (arow e sz (.slice a m c) (rows.take m)))=oA A:=by
   rw [e2]
   conv=>rhs;rw [e1]
   simp [oA,ho]
  simp only [MO,this]
 refine S_run (v:=.slice a m c) (w':=w) hrun ⟨_,_,⟨_,rfl,rfl⟩,⟨rfl,?_⟩,hp.turn hi (Mod.refl _ _) ?_ ?_ ⟨vss.take m,⟨?_,?_⟩,?_⟩⟩
 ·cases a<;>rfl
 ·cases a<;>simp [arow,Value.ownBlock]
 ·intro b hb
  have hb':b∈(arow e sz (.slice a rows.length c) rows).own:=by cases a<;>exact hb
  exact ⟨hp.lt _ (mem_oA.2 ⟨_,List.mem_of_getElem? hi,hb'⟩),.inl hb'⟩
 ·exact fun vs hv=>hall vs (List.mem_of_mem_take hv)
 ·rw [hfl]
  have hl1:(vss.flatten.take (m * sz)).length=(vss.take m).length * sz:=by rw [List.length_take,List.length_take,hown.1,Nat.min_eq_left (Nat.mul_le_mul_right _ (show m≤vss.length by omega)),Nat.min_eq_left (show m≤vss.length by omega)]
  refine ⟨hl1,?_⟩
  rcases hown.2 with ⟨h1,h2⟩ | ⟨g,cap,cur,h1,h2,h3,h4,h5,h6,h7⟩
  ·simp only [Value.slice.injEq] at h1
   obtain ⟨rfl,h11,rfl⟩:=h1
   exact .inl ⟨by rw [show m=0 by omega],by rw [List.length_take];omega⟩
  ·simp only [Value.slice.injEq] at h1
   obtain ⟨rfl,h11,rfl⟩:=h1
   have hml:(vss.take m).length=m:=by rw [List.length_take];omega
   refine .inr ⟨g,c,cur,by rw [hml],h2,h3,by rw [hml];omega,h5,h6,?_⟩
   rw [hml,← h7,List.take_take,Nat.min_eq_left (Nat.mul_le_mul_right _ (by omega))]
 ·rw [hmk];exact rdRows_take m hrows
theorem P_callE {g:FuncId} [FnF P g] {avs:Array Operand} {tys:Array TypeId} (l:List AV) {v:AV} (h:Pu P g l v) (ha:avs.toList.map (eva f)=l:=by exact rfl):PuO P f A ⟨d,.call {callee:=.value (.func g),args:=avs,argTypes:=tys },ty,pos,aft,gg⟩ v:=P_call ha h
end
end
end Go.Proofs.YtejkllmoofdpjaaGreat
