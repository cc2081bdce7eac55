/- Parts of the proof: V31 V41 V11 V12 V13 V14. -/
import Derived.Test.YtejkllmoofdpjaaGreatD14
namespace Go.Proofs.YtejkllmoofdpjaaGreat
open Go
set_option linter.all false
set_option maxRecDepth 100000
set_option maxHeartbeats 4000000
noncomputable section
abbrev zT:List D:=[.v (.int .i64 0),.v (.int .i64 0),.v (.string noS),.v (.slice none 0 0)]
def optT:Option T→AV
 | some t=>.tup [vT t,bv true]
 | none=>.tup [vT .nil,bv false]
instance get_s:Con2 Tryz.prog 237 Sb Nat vS nv (fun s v=>optT (getS s v)) (fun s _=>Lng s.length):=⟨fun s v hl=>by
 have hlen:((s.map toB).map encB).length=s.length:=by simp
 refine pu Tryz.func237 rfl Tryz.ntmps237 rfl rfl fun C=>?_
 (repeat' first|(refine kk ?_;intros)|refine kfk ?_ ?_<;>intro hb|fail)
 rename_i b0
 refine kfor (ι:=Unit) s (fun j q=>[(1,nv v),(8,vS s),(4,.one (.v (.pointer (some ⟨b0,0,none⟩))))]) (fun j q=>[abox b0 zT 174]) (fun j q=>getS (s.drop j) v=getS s v) () rfl ?_ ?_
 ·rintro j ⟨u,t⟩ _ hj hd hjl hq
  have hrow:((s.map toB).map encB)[j]?=some (encB (toB (u,t))):=by simp [hj]
  rw [hd,getS] at hq
  (repeat' first|(refine kk ?_;intros)|refine kfk ?_ ?_<;>intro hb|fail)
  ·have hb:u=v:=Int.ofNat_inj.1 hb
   rw [if_pos hb] at hq
   rw [← hq]
   refine kr2 (rvw ?_) (rvV (.refl _))
   (exact wV)
  ·have hb:¬ u=v:=fun e=>hb (by rw [e])
   rw [if_neg hb] at hq
   exact ⟨(),hq,kwk⟩
 ·intro _ hq
  rw [List.drop_length] at hq
  rw [← hq]
  (repeat' first|(refine kk ?_;intros)|refine kfk ?_ ?_<;>intro hb|fail)
  refine kr2 (rvw ?_) (rvV (.refl _))
  (exact wV)⟩
theorem sub_suOf_var {s:Sb} {n:Nat}:(T.var n).sub (suOf s)=(getS s n).getD (.var n):=rfl
instance put4_s:Con2 Tryz.prog 290 Sb T vS vT (fun s t=>vT (t.sub (suOf s))) (fun s _=>Lng s.length):=.ind (fun _ t=>t.nodes) fun N ih s t hN hl=>by
 refine pu Tryz.func290 rfl Tryz.ntmps290 rfl rfl fun C=>?_
 cases t with
 | pair a b=>
  have:=nodes_pos a
  have:=nodes_pos b
  simp only [T.nodes] at hN
  have s1:a.nodes < N:=by omega
  have s2:b.nodes < N:=by omega
  (repeat' first|(refine kk ?_;intros)|refine kfk ?_ ?_<;>intro hb|fail)
  refine kr1 (rvw ?_)
  (exact wV)
 | var n=>
  rw [sub_suOf_var]
  (repeat' first|(refine kk ?_;intros)|refine kfk ?_ ?_<;>intro hb|fail)
  cases hg:getS s n with
  | none=>
   (repeat' first|(refine kk ?_;intros)|refine kfk ?_ ?_<;>intro hb|fail)
   refine kr1 (rvw ?_)
   (exact wV)
  | some x=>
   (repeat' first|(refine kk ?_;intros)|refine kfk ?_ ?_<;>intro hb|fail)
   refine kr1 (rvw ?_)
   (exact wV)
 | _=>
  (repeat' first|(refine kk ?_;intros)|refine kfk ?_ ?_<;>intro hb|fail)
  refine kr1 (rvw ?_)
  (exact wV)
instance walk_s:Con2 Tryz.prog 281 Sb T vS vT (fun s t=>vT (walkP s t)) (fun s _=>Lng s.length):=⟨fun s t hl=>by
 refine pu Tryz.func281 rfl Tryz.ntmps281 rfl rfl fun C=>?_
 cases t with
 | var n=>
  show _
  have e:walkP s (.var n)=(getS s n).getD (.var n):=rfl
  rw [e]
  (repeat' first|(refine kk ?_;intros)|refine kfk ?_ ?_<;>intro hb|fail)
  cases hg:getS s n with
  | none=>
   (repeat' first|(refine kk ?_;intros)|refine kfk ?_ ?_<;>intro hb|fail)
   refine kr1 (rvw ?_)
   (exact wV)
  | some x=>
   (repeat' first|(refine kk ?_;intros)|refine kfk ?_ ?_<;>intro hb|fail)
   refine kr1 (rvw ?_)
   (exact wV)
 | _=>
  (repeat' first|(refine kk ?_;intros)|refine kfk ?_ ?_<;>intro hb|fail)
  refine kr1 (rvw ?_)
  (exact wV)⟩
theorem fit_sub {σ:Su} {t:T} (ht:t.fit) (h:∀ v,t.Occ v→(σ v).fit):(t.sub σ).fit:=
 ⟨fun v hv=>by obtain ⟨w,h1,h2⟩:=occ_sub.1 hv;exact (h w h1).1 v h2,sub_lv ht.2 fun v hv=>(h v hv).2⟩
theorem fit_subS {s:Sb} (hs:∀ b∈s,b.2.fit) {t:T} (ht:t.fit):(t.sub (suOf s)).fit:=fit_sub ht fun v hv=>fit_suOf hs (ht.1 v hv)
theorem fit_putT {v:Nat} {x t:T} (hx:x.fit) (ht:t.fit):(putT v x t).fit:=fit_sub ht fun w hw=>by
 split
 ·exact hx
 ·exact fit_var.2 (ht.1 w hw)
instance apply_s:Con2 Tryz.prog 258 Sb T vS vT (fun s t=>.tup [vT (t.sub (suOf s)),bp ((t.sub (suOf s)).nodes≤5000)]) (fun s t=>Lng s.length∧(t.sub (suOf s)).fit):=⟨fun s t ⟨hl,hf⟩=>by
 refine pu Tryz.func258 rfl Tryz.ntmps258 rfl rfl fun C=>?_
 (repeat' first|(refine kk ?_;intros)|refine kfk ?_ ?_<;>intro hb|fail)
 refine kr2 (rvw ?_) (rvV (.refl _))
 (exact wV)⟩
end
noncomputable section
abbrev subO (φ:Nat→T) (ok:Nat→Bool):Su:=fun v=>if ok v=true then φ v else .var v
theorem zT_nil:AV.le (.agg zT) (vT .nil):=AV.le_agg ⟨.refl _,.refl _,.refl _,D.le_nil,trivial⟩
def capT (t:T):Option T:=if t.nodes≤5000 then some t else none
theorem wgt_sub {σ:Su} {f:Nat→Nat}:∀ {t:T},(∀ v,t.Occ v→f v=(σ v).nodes)→t.wgt f=(t.sub σ).nodes
 | .var v,h=>h v rfl
 | .pair a b,h=>by
  show 1+a.wgt f+b.wgt f=1+(a.sub σ).nodes+(b.sub σ).nodes
  rw [wgt_sub fun v hv=>h v (.inl hv),wgt_sub fun v hv=>h v (.inr hv)]
 | .nil,_=>rfl
 | .sym _,_=>rfl
 | .num _,_=>rfl
abbrev fbox (b g:Nat) (cap:List Value):Atm:=abox b [.v (.func (.func g) #[] cap.toArray)] 306
section
variable {g:Nat} {cap:List Value} [FnF Tryz.prog g]
theorem replaced_c (hc:cap.all Value.oneCell'=true) (J:List Atm→Prop) (φ:Nat→T) (ok:Nat→Bool) (t:T) (A:List Atm) (ht:t.fit) (hφ:∀ v,t.Occ v→ok v=true→(φ v).okT) (hg:∀ v A,t.Occ v→J A→Spec Tryz.prog g (nv v::capA cap) A fun u A'=>u=.tup [vT (φ v),bv (ok v)]∧J A') (hJ:J A) :
 Spec Tryz.prog 268 [vT t,fv g cap] A fun u A'=>u=optT (capT (t.sub (subO φ ok)))∧J A':=by
 refine sp Tryz.func268 rfl Tryz.ntmps268 rfl rfl fun C=>?_
 (repeat' first|(refine kk ?_;intros)|refine kfk ?_ ?_<;>intro hb|fail)
 rename_i b2 b3 b4
 refine kcs (A1:=[_,_]) (h:=sizeWith_c (g:=300) (cap:=[.pointer (some ⟨b3,0,none⟩)]) (by rfl) (fun A'=>∃ A0,J A0∧A'=fbox b3 g cap::A0) (fun v=>if ok v=true then max 1 (min (φ v).nodes 5000) else 1) (fun v=>by split<;>omega) t (fbox b3 g cap::A) ?_ ⟨A,hJ,rfl⟩) ?_ (hA:=List.Perm.cons _ (List.Perm.swap (abox b2 (encT t.tm) 174) (fbox b3 g cap) A))
 ·rintro v _ hv ⟨A0,hJ0,rfl⟩
  refine sp Tryz.func300 rfl Tryz.ntmps300 rfl rfl fun C=>?_
  (repeat' first|(refine kk ?_;intros)|refine kfk ?_ ?_<;>intro hb|fail)
  refine kcl (A1:=[_]) (h:=hg v A0 hv hJ0) ?_ (h1:=hc)
  rintro _ A1 ⟨rfl,hJ1⟩
  cases hok:ok v with
  | true=>
   have h1:=hφ v hv hok
   have hn:(φ v).tm.In∧(-1048576:Int)≤5000∧(5000:Int)≤1048576:=⟨tm_in h1.fit,by omega,by omega⟩
   have e:nodR (φ v).tm 5000=((max 1 (min (φ v).nodes 5000):Nat):Int):=by
    have:=h1.size
    have:=nodes_pos (φ v)
    rw [nodR_of (tm_wf h1.fit) (by rw [tm_nodes];omega),tm_nodes];omega
   (repeat' first|(refine kk ?_;intros)|refine kfk ?_ ?_<;>intro hb|fail)
   rw [e]
   exact ker1 _ ⟨rfl,A1,hJ1,rfl⟩
  | false=>
   (repeat' first|(refine kk ?_;intros)|refine kfk ?_ ?_<;>intro hb|fail)
   exact ker1 _ ⟨rfl,A1,hJ1,rfl⟩
 ·rintro u A' ⟨hu,A0,hJ0,rfl⟩
  have hw:=wgt_sub (σ:=subO φ ok) (f:=fun v=>if ok v=true then max 1 (min (φ v).nodes 5000) else 1) (t:=t) fun v hv=>by
   show (if ok v=true then _ else 1)=(if ok v=true then φ v else T.var v).nodes
   split
   ·have:=(hφ v hv (by assumption)).size
    have:=nodes_pos (φ v)
    omega
   ·rfl
  rw [hw] at hu
  subst hu
  by_cases hn:(t.sub (subO φ ok)).nodes≤5000
  ·have e:capT (t.sub (subO φ ok))=some (t.sub (subO φ ok)):=by unfold capT;rw [if_pos hn]
   rw [e]
   (repeat' first|(refine kk ?_;intros)|refine kfk ?_ ?_<;>intro hb|fail)
   refine kcs (A1:=[_,_,_]) (h:=mapVars_c hc J φ ok t A0 hg hJ0) ?_
   rintro _ A1 ⟨rfl,hJ1⟩
   (repeat' first|(refine kk ?_;intros)|refine kfk ?_ ?_<;>intro hb|fail)
   exact kerC2 ⟨rfl,hJ1⟩ (.refl _) (.refl _) (hs:=.cons _ (.cons _ (.cons _ (.refl _))))
  ·have e:capT (t.sub (subO φ ok))=none:=by unfold capT;rw [if_neg hn]
   rw [e]
   (repeat' first|(refine kk ?_;intros)|refine kfk ?_ ?_<;>intro hb|fail)
   exact kerC2 ⟨rfl,hJ0⟩ zT_nil (.refl _) (hs:=.cons _ (.cons _ (.cons _ (.refl _))))
end
abbrev putO (s:Sb) (t:T):Option T:=capT (t.sub (suOf s))
structure PutOk (s:Sb):Prop where
 asc:Asc s
 len:s.length≤1000000
 ok:∀ b∈s,b.2.okT
theorem PutOk.lng {s:Sb} (h:PutOk s):Asc s∧Lng s.length:=⟨h.asc,by have:=h.len;unfold Lng;omega⟩
theorem Vok.putOk {s:Sb} (h:Vok s):PutOk s:=⟨h.asc,by have:=h.len;omega,fun b hb=>(h.ok b hb).2⟩
theorem subO_suOf {s:Sb} (φ:Nat→T) (h:∀ v t,getS s v=some t→φ v=t):subO φ (fun v=>(getS s v).isSome)=suOf s:=by
 funext v
 show (if (getS s v).isSome=true then φ v else .var v)=(getS s v).getD (.var v)
 cases hg:getS s v with
 | none=>rfl
 | some t=>simp [h v t hg]
instance put_i:Con2 Tryz.prog 225 Sb T vS vT (fun s t=>optT (putO s t)) (fun s t=>PutOk s∧t.fit):=⟨fun s t ⟨hs,ht⟩=>by
 refine Spec.pu ?_
 have hlen:((s.map toB).map encB).length=s.length:=by simp
 have hl:=hs.lng
 refine sp Tryz.func225 rfl Tryz.ntmps225 rfl rfl fun C=>?_
 (repeat' first|(refine kk ?_;intros)|refine kfk ?_ ?_<;>intro hb|fail)
 rename_i b2 b3 b4
 refine kcs (A1:=[_,_]) (h:=replaced_c (g:=269) (cap:=[.pointer (some ⟨b2,0,none⟩)]) (by rfl) (fun A'=>A'=[sbox b2 s]) (fun v=>(getS s v).getD .nil) (fun v=>(getS s v).isSome) t [sbox b2 s] ht ?_ ?_ rfl) ?_
 ·intro v hv h
  cases hg:getS s v with
  | none=>rw [hg] at h;cases h
  | some x=>exact hs.ok _ (getS_in hg)
 ·rintro v _ hv rfl
  refine sp Tryz.func269 rfl Tryz.ntmps269 rfl rfl fun C=>?_
  rcases fI_spec hs.asc v with ⟨e1,e2⟩ | ⟨i,x,e1,e3,e2⟩
  ·rw [e2]
   (repeat' first|(refine kk ?_;intros)|refine kfk ?_ ?_<;>intro hb|fail)
   exact kerC2 ⟨rfl,rfl⟩ zT_nil (.refl _)
  ·have hrow:((s.map toB).map encB)[i]?=some (encB (toB (v,x))):=by simp [e3]
   rw [e2]
   (repeat' first|(refine kk ?_;intros)|refine kfk ?_ ?_<;>intro hb|fail)
   rw [e1]
   (repeat' first|(refine kk ?_;intros)|refine kfk ?_ ?_<;>intro hb|fail)
   exact kerC2 ⟨rfl,rfl⟩ (.refl _) (.refl _)
 ·rintro _ A' ⟨rfl,rfl⟩
  rw [subO_suOf _ fun v t h=>by rw [h];rfl]
  unfold putO
  generalize capT (t.sub (suOf s))=o
  cases o with
  | none=>
   (repeat' first|(refine kk ?_;intros)|refine kfk ?_ ?_<;>intro hb|fail)
   exact kerC2 ⟨rfl,rfl⟩ (.refl _) (.refl _)
  | some x=>
   (repeat' first|(refine kk ?_;intros)|refine kfk ?_ ?_<;>intro hb|fail)
   exact kerC2 ⟨rfl,rfl⟩ (.refl _) (.refl _)⟩
end
noncomputable section
theorem upI_none {α:Type}:(upI fun _=>none:Int→Option α)=fun _=>none:=by funext i;unfold upI;split<;>rfl
section
variable {P:Program} {n:Nat} {C:Cx} {ops:Array Oper} {K:AF→List Atm→Prop} {rest:List Oper} {f:AF} {A B:List Atm} {d:Nat} {ty:TypeId} {pos:String} {aft:Array Edge} {t:TypeId} {α:Type} {i:Nat} {rl:List Nat}
theorem kmmN (enc:α→AV) (k:∀ b:Nat,AO P n C ops K rest (au f d (.one (.v (.map (some b))))) (amap kvI b (gm enc (upI fun _=>none))::A)) (hd:Nat.blt d n=true:=by exact rfl):AO P n C ops K (⟨some d,.makeMap t none,ty,pos,aft,none⟩::rest) f A:=
 AO_o rfl hd (O_makeMap kvI) fun v A' ⟨b,h1,h2⟩=>by subst h1;subst h2;have:=k b;rw [upI_none] at this;exact this
theorem kmmG (enc:α→AV) {j s:Nat} {b:Bool} (k:∀ b:Nat,AO P n C ops K rest (au f d (.one (.v (.map (some b))))) (amap kvI b (gm enc (upI fun _=>none))::A)) (hd:Nat.blt d n=true:=by exact rfl) (ht:(ops[j]?).bind (·.dst)=some s:=by exact rfl) (hv:f s=.one (.v (.bool b)):=by exact rfl):AO P n C ops K (⟨some d,.makeMap t none,ty,pos,aft,some (j,b)⟩::rest) f A:=
 AO_gt rfl hd ht hv (O_makeMap kvI) fun v A' ⟨b,h1,h2⟩=>by subst h1;subst h2;have:=k b;rw [upI_none] at this;exact this
theorem kcsG {g:FuncId} [FnF P g] {avs:Array Operand} {tys:Array TypeId} {as1:List AV} {A1 L:List Atm} {Q':AV→List Atm→Prop} {j s:Nat} {b:Bool} (h:Spec P g as1 L Q') (k:∀ v A',Q' v A'→AO P n C ops K rest (au f d v) (A1++A')) (hA:A.Perm (A1++L):=by exact .refl _) (hd:Nat.blt d n=true:=by exact rfl) (ht:(ops[j]?).bind (·.dst)=some s:=by exact rfl) (hv:f s=.one (.v (.bool b)):=by exact rfl) (ha:avs.toList.map (eva f)=as1:=by exact rfl) :
 AO P n C ops K (⟨some d,.call {callee:=.value (.func g),args:=avs,argTypes:=tys },ty,pos,aft,some (j,b)⟩::rest) f A:=AO_gt rfl hd ht hv (O_call ha (h.front hA)) fun v A' ⟨B',h1,h2⟩=>h2▸k v B' h1
theorem kacM (enc:α→AV) (k:∀ b:Nat,Has B (amap kvI b (gm enc (upI fun _=>none))::A)∧AC P n ops B K rl (au f d (.one (.v (.map (some b))))) (amap kvI b (gm enc (upI fun _=>none))::A)) (ho:ops[i]?=some ⟨some d,.makeMap t none,ty,pos,aft,none⟩:=by exact rfl) (hd:Nat.blt d n=true:=by exact rfl):AC P n ops B K (i::rl) f A:=
 kacO ho hd (O_makeMap kvI) fun v A' ⟨b,h1,h2⟩=>by subst h1;subst h2;have:=k b;rw [upI_none] at this;exact this
end
theorem perm_seen {a b:Atm} {L:List Atm}:(a::b::L).Perm ([b]++(L++[a])):=(List.Perm.swap b a L).trans (List.Perm.cons b (List.perm_append_singleton a L).symm)
theorem shdOf_put {sh:Nat→Option T} {x:Nat} {t:T}:putN (shdOf sh) x ()=shdOf (putN sh x t):=by
 funext w;unfold shdOf putN;split<;>rfl
def CS.setSh (s:CS) (sh:Nat→Option T):CS:=⟨s.up,sh,s.co,s.sz,s.fu⟩
theorem know_c (K:CB) (s:CS) (x:Nat) (t:T) (σ:Su) (hd:Desc s.up) (hm:Met s.up) (hk:Known s.up s.sh) (ht:∀ v,t.Occ v→s.up v≠none) (hs:SemX s.up (putN s.sh x t) x σ) :
 Spec Tryz.prog 264 [cptr K,nv x,vT t] (CA K s) fun r A'=>∃ ok up',r=bv ok∧A'=CA K ((s.setSh (putN s.sh x t)).setUp up')∧More s.up up' (fun _=>False)∧(ok=false↔(t.sub σ).Occ x):=by
 have hk':Known s.up (putN s.sh x t):=fun r t' hr h v hv=>by
  rw [putN_at] at h
  split at h
  ·cases h;exact ht v hv
  ·exact hk r t' hr h v hv
 refine sp Tryz.func264 rfl Tryz.ntmps264 rfl rfl fun C=>?_
 (repeat' first|(refine kk ?_;intros)|refine kfk ?_ ?_<;>intro hb|fail)
 refine kduN 3 ?_
 (repeat' first|(refine kk ?_;intros)|refine kfk ?_ ?_<;>intro hb|fail)
 refine kmuN 4 (v:=()) ?_
 rw [shdOf_put (t:=t)]
 (repeat' first|(refine kk ?_;intros)|refine kfk ?_ ?_<;>intro hb|fail)
 refine kmmN setv ?_
 intro ms
 refine kcs (A1:=[tbox _ t]) (h:=reaches_c K x ms (t.sub σ).nodes (s.setSh (putN s.sh x t)) σ (fun _=>none) t hd hm hk' ht hs (fun v hv=>occ_nodes hv) fun r hr=>absurd rfl hr) ?_ (hA:=perm_seen)
 rintro _ A' ⟨b,up',seen',rfl,rfl,h1,h2,_⟩
 (repeat' first|(refine kk ?_;intros)|refine kfk ?_ ?_<;>intro hb|fail)
 refine ker1 _ ⟨!b,up',rfl,rfl,h1,?_⟩ (hs:=.cons _ (List.sublist_append_left _ _))
 rw [← h2];cases b<;>simp
end
noncomputable section
section
variable {P:Program} {n:Nat} {C:Cx} {ops:Array Oper} {K:AF→List Atm→Prop} {f:AF} {A B:List Atm} {v:AV} {d:Nat} {op:Op} {ty:TypeId} {pos:String} {aft:Array Edge} {i j s:Nat} {b:Bool} {rest:List Nat} {K':AF→Prop} {t:TypeId} {α:Type}
theorem kalT (k:AR P ops A K' rest (au f d v)) (ho:ops[i]?=some ⟨some d,op,ty,pos,aft,some (j,b)⟩:=by exact rfl) (ht:(ops[j]?).bind (·.dst)=some s:=by exact rfl) (hv:f s=.one (.v (.bool b)):=by exact rfl) (h:PuO P f A ⟨some d,op,ty,pos,aft,some (j,b)⟩ v:=by exact kpu):AR P ops A K' (i::rest) f:=
 ⟨v,fun o h'=>by rw [ho] at h';cases h';exact ⟨s,some b,ht,hv,by rw [if_pos rfl];exact h⟩,by simpa only [dsts,ho,Option.bind_some,auo] using k⟩
theorem kacOG {Q:AV→List Atm→Prop} (ho:ops[i]?=some ⟨some d,op,ty,pos,aft,some (j,b)⟩) (hd:Nat.blt d n=true) (ht:(ops[j]?).bind (·.dst)=some s) (hv:f s=.one (.v (.bool b))) (h:Opn P f A ⟨some d,op,ty,pos,aft,some (j,b)⟩ Q) (k:∀ v A',Q v A'→Has B A'∧AC P n ops B K rest (au f d v) A'):AC P n ops B K (i::rest) f A:=fun o h'=>by
 rw [ho] at h';cases h'
 have hc:CStep P ops f A ⟨some d,op,ty,pos,aft,some (j,b)⟩ Q:=⟨s,some b,ht,hv,by rw [if_pos rfl];exact h⟩
 exact ⟨hd,Q,hc,k⟩
theorem kacMG (enc:α→AV) (k:∀ b:Nat,Has B (amap kvI b (gm enc (upI fun _=>none))::A)∧AC P n ops B K rest (au f d (.one (.v (.map (some b))))) (amap kvI b (gm enc (upI fun _=>none))::A)) (ho:ops[i]?=some ⟨some d,.makeMap t none,ty,pos,aft,some (j,b)⟩:=by exact rfl) (hd:Nat.blt d n=true:=by exact rfl) (ht:(ops[j]?).bind (·.dst)=some s:=by exact rfl) (hv:f s=.one (.v (.bool b)):=by exact rfl):AC P n ops B K (i::rest) f A:=
 kacOG ho hd ht hv (O_makeMap kvI) fun v A' ⟨b,h1,h2⟩=>by subst h1;subst h2;have:=k b;rw [upI_none] at this;exact this
theorem kdcsG {g:FuncId} [FnF P g] {avs:Array Operand} {tys:Array TypeId} {as1:List AV} {A1 L:List Atm} {Q':AV→List Atm→Prop} (h:Spec P g as1 L Q') (k:∀ v A',Q' v A'→AD P n C ops K (i+1) (au f d v) (A1++A')) (ho:ops[i]?=some ⟨some d,.call {callee:=.value (.func g),args:=avs,argTypes:=tys },ty,pos,aft,some (j,b)⟩:=by exact rfl) (chk:oneChk ops i=true:=by decide +kernel) (hA:A.Perm (A1++L):=by exact .refl _) (hd:Nat.blt d n=true:=by exact rfl) (ht:(ops[j]?).bind (·.dst)=some s:=by exact rfl) (hv:f s=.one (.v (.bool b)):=by exact rfl) (ha:avs.toList.map (eva f)=as1:=by exact rfl) :
 AD P n C ops K i f A:=AD_gt chk ho rfl hd ht hv (O_call ha (h.front hA)) fun v A' ⟨B',h1,h2⟩=>h2▸k v B' h1
end
def EqP (K:CB) (B:Nat) (s:CS) (a b:T):AV→List Atm→Prop:=fun r A'=>∃ ok up' sh',r=bv ok∧EqR B s.up s.sh a b ok up' sh'∧A'=CA K ((s.setSh sh').setUp up')
def EqG (K:CB) (B:Nat) (s:CS) (a b:T):Prop:=Spec Tryz.prog 221 [cptr K,vT a,vT b] (CA K s) (EqP K B s a b)
structure EqH (B:Nat) (s:CS) (σ:Su) (a b:T):Prop where
 ci:CI s.up s.sh σ
 oa:∀ v,a.Occ v→s.up v≠none
 ob:∀ v,b.Occ v→s.up v≠none
 bd:∀ v,s.up v≠none→v < B
theorem equal_nv {K:CB} {B:Nat} {s:CS} {a:T} {v:Nat} (hn:∀ n,a≠.var n) (i:EqG K B s (.var v) a):EqG K B s a (.var v):=by
 cases a with
 | var n=>exact absurd rfl (hn n)
 | _=>
  unfold EqG
  refine sp Tryz.func221 rfl Tryz.ntmps221 rfl rfl fun C=>?_
  (repeat' first|(refine kk ?_;intros)|refine kfk ?_ ?_<;>intro hb|fail)
  refine kcs (A1:=[_,_]) (h:=i) ?_
  rintro _ A' ⟨ok,up',sh',rfl,h1,rfl⟩
  (repeat' first|(refine kk ?_;intros)|refine kfk ?_ ?_<;>intro hb|fail)
  exact ker1 _ ⟨ok,up',sh',rfl,h1.swap,rfl⟩
theorem equal_pp {K:CB} {B:Nat} {s:CS} {a1 a2 b1 b2:T} (i1:EqG K B s a1 b1) (i2:∀ up1 sh1,EqR B s.up s.sh a1 b1 true up1 sh1→EqG K B ((s.setSh sh1).setUp up1) a2 b2):EqG K B s (.pair a1 a2) (.pair b1 b2):=by
 unfold EqG
 refine sp Tryz.func221 rfl Tryz.ntmps221 rfl rfl fun C=>?_
 (repeat' first|(refine kkn ?_;intros)|refine kfk ?_ ?_<;>intro hb|fail)
 refine kpar 9 ?_
 (repeat' first|(refine kkn ?_;intros)|refine kfk ?_ ?_<;>intro hb|fail)
 refine kdcs (A1:=[_,_]) (h:=i1) ?_
 rintro _ A' ⟨ok,up1,sh1,rfl,h1,rfl⟩
 cases ok with
 | false=>
  refine kpar 23 ?_
  (repeat' first|(refine kk ?_;intros)|refine kfk ?_ ?_<;>intro hb|fail)
  exact ker1 _ ⟨false,up1,sh1,rfl,eq_pair_no h1,rfl⟩
 | true=>
  refine kpar 20 ?_
  (repeat' first|(refine kkn ?_;intros)|refine kfk ?_ ?_<;>intro hb|fail)
  refine kdcsG (A1:=[_,_]) (h:=i2 _ _ h1) ?_
  rintro _ A' ⟨ok,up2,sh2,rfl,h2,rfl⟩
  refine kpar 23 ?_
  (repeat' first|(refine kk ?_;intros)|refine kfk ?_ ?_<;>intro hb|fail)
  exact ker1 _ ⟨ok,up2,sh2,rfl,eq_pair h1 h2,rfl⟩
theorem equal_cc {K:CB} {B:Nat} {s:CS} {σ:Su} {a b:T} (h:CI s.up s.sh σ) (ha:∀ n,a≠.var n) (hb':∀ n,b≠.var n) (hp:∀ a1 a2 b1 b2,a=.pair a1 a2→b=.pair b1 b2→False):EqG K B s a b:=by
 have no:a≠b→EqR B s.up s.sh a b false s.up s.sh:=fun hne=>eq_false fun τ _ e=>by
  cases a<;>cases b<;>first|exact ha _ rfl|exact hb' _ rfl|exact hp _ _ _ _ rfl rfl|exact hne e|cases e
 have yes:a=b→EqR B s.up s.sh a b true s.up s.sh:=fun e=>eq_true h fun τ _=>by rw [e]
 have fn:a≠b→∃ ok up' sh',bv false=bv ok∧EqR B s.up s.sh a b ok up' sh'∧CA K s=CA K ((s.setSh sh').setUp up'):=fun hne=>⟨false,s.up,s.sh,rfl,no hne,rfl⟩
 have fy:a=b→∃ ok up' sh',bv true=bv ok∧EqR B s.up s.sh a b ok up' sh'∧CA K s=CA K ((s.setSh sh').setUp up'):=fun e=>⟨true,s.up,s.sh,rfl,yes e,rfl⟩
 unfold EqG
 cases a with
 | var n=>exact absurd rfl (ha n)
 | pair a1 a2=>
  cases b with
  | var n=>exact absurd rfl (hb' n)
  | pair b1 b2=>exact (hp _ _ _ _ rfl rfl).elim
  | _=>
   refine sp Tryz.func221 rfl Tryz.ntmps221 rfl rfl fun C=>?_
   (repeat' first|(refine kk ?_;intros)|refine kfk ?_ ?_<;>intro hb|fail)
   exact ker1 _ (fn (by simp))
 | nil=>
  cases b with
  | var n=>exact absurd rfl (hb' n)
  | nil=>
   refine sp Tryz.func221 rfl Tryz.ntmps221 rfl rfl fun C=>?_
   (repeat' first|(refine kk ?_;intros)|refine kfk ?_ ?_<;>intro hb|fail)
   exact ker1 _ (fy rfl)
  | _=>
   refine sp Tryz.func221 rfl Tryz.ntmps221 rfl rfl fun C=>?_
   (repeat' first|(refine kk ?_;intros)|refine kfk ?_ ?_<;>intro hb|fail)
   exact ker1 _ (fn (by simp))
 | sym x=>
  cases b with
  | var n=>exact absurd rfl (hb' n)
  | sym y=>
   refine sp Tryz.func221 rfl Tryz.ntmps221 rfl rfl fun C=>?_
   (repeat' first|(refine kk ?_;intros)|refine kfk ?_ ?_<;>intro hb|fail)
   ·exact ker1 _ (fn fun e=>hb (by cases e;rfl))
   ·exact ker1 _ (fy (congrArg _ (show x=y from hb)))
  | _=>
   refine sp Tryz.func221 rfl Tryz.ntmps221 rfl rfl fun C=>?_
   (repeat' first|(refine kk ?_;intros)|refine kfk ?_ ?_<;>intro hb|fail)
   exact ker1 _ (fn (by simp))
 | num x=>
  cases b with
  | var n=>exact absurd rfl (hb' n)
  | num y=>
   refine sp Tryz.func221 rfl Tryz.ntmps221 rfl rfl fun C=>?_
   (repeat' first|(refine kk ?_;intros)|refine kfk ?_ ?_<;>intro hb|fail)
   ·exact ker1 _ (fn fun e=>hb (by cases e;rfl))
   ·exact ker1 _ (fy (congrArg _ (show x=y from hb)))
  | _=>
   refine sp Tryz.func221 rfl Tryz.ntmps221 rfl rfl fun C=>?_
   (repeat' first|(refine kk ?_;intros)|refine kfk ?_ ?_<;>intro hb|fail)
   exact ker1 _ (fn (by simp))
end
noncomputable section
theorem CI.desc {up:Nat→Option Nat} {sh:Nat→Option T} {σ:Su} (h:CI up sh σ):Desc up:=h.sem.desc
theorem CI.semX {up:Nat→Option Nat} {sh sh':Nat→Option T} {σ:Su} {x:Nat} (h:CI up sh σ) (hx:Up up x x) (hs:sh x=none) (e:∀ w,w≠x→sh' w=sh w):SemX up sh' x σ:=
 ⟨h.sem.says.cls,fun r t hr hne k=>⟨h.sem.says.shp r t hr (by rw [← e r hne];exact k),fun m=>h.sem.flat r t m hr (by rw [← e r hne];exact k)⟩,fun r hr hne k=>h.sem.free r hr (by rw [← e r hne];exact k),h.sem.free x hx hs⟩
theorem Up.met {up:Nat→Option Nat} (hm:Met up) {v x:Nat} (h:Up up v x) (hv:up v≠none):up x≠none:=by
 induction h with
 | self=>exact hv
 | step h1 _ _ ih=>exact ih (hm _ _ h1)
theorem equal_vn {K:CB} {B:Nat} {s:CS} {σ:Su} {v:Nat} {b:T} (h:EqH B s σ (.var v) b) (hn:∀ n,b≠.var n) (i:∀ up1 x t,More s.up up1 (fun _=>False)→Up s.up v x→s.sh x=some t→EqG K B (s.setUp up1) t b):EqG K B s (.var v) b:=by
 have hv:=h.oa v rfl
 have key:Spec Tryz.prog 221 [cptr K,vT (.var v),vT b] (CA K s) (EqP K B s (.var v) b):=by
  cases b with
  | var n=>exact absurd rfl (hn n)
  | _=>
   refine sp Tryz.func221 rfl Tryz.ntmps221 rfl rfl fun C=>?_
   (repeat' first|(refine kk ?_;intros)|refine kfk ?_ ?_<;>intro hb|fail)
   refine kcs (A1:=[_,_]) (h:=root_c K s h.ci.desc h.ci.met v) ?_
   rintro _ A' ⟨x,up1,rfl,h1,m1',rfl⟩
   have m1:More s.up up1 (fun _=>False):=m1'.had fun w hw=>by rw [hw];exact hv
   have c1:=h.ci.more m1
   have hx:Up up1 x x:=(m1.same x x).1 h1.root
   have hxm:up1 x≠none:=(m1.dom x).2 (.inl (h1.met h.ci.met hv))
   have same:∀ τ c,Says up1 s.sh τ→((T.var x).sub τ=c↔(T.var v).sub τ=c):=fun τ c ht=>by
    have:τ v=τ x:=ht.cls v x ((m1.same v x).1 h1)
    show τ x=c↔τ v=c
    rw [this]
   cases hs:s.sh x with
   | none=>
    have f1:upI (shdOf s.sh) (x:Int)=none:=by rw [upI_nat,shdOf,hs];rfl
    (repeat' first|(refine kk ?_;intros)|refine kfk ?_ ?_<;>intro hb|fail)
    refine kcs (A1:=[_,_]) (h:=know_c K (s.setUp up1) x _ σ m1.desc m1.met c1.known (fun w hw=>(m1.dom w).2 (.inl (h.ob w hw))) (c1.semX hx hs fun w hw=>by rw [putN_at,if_neg hw];rfl)) ?_
    rintro _ A' ⟨ok,up2,rfl,rfl,m2,ho⟩
    (repeat' first|(refine kk ?_;intros)|refine kfk ?_ ?_<;>intro hb|fail)
    refine ker1 _ ⟨ok,up2,putN s.sh x _,rfl,EqR.pre m1 ((eq_know (B:=B) c1 hx hxm (h.bd x ((m1.dom x).1 hxm |>.resolve_right id)) hs hn (fun w hw=>(m1.dom w).2 (.inl (h.ob w hw))) (fun w=>putN_at) ho m2).same fun τ ht=>same τ _ ht),rfl⟩
   | some t=>
    have f1:upI (shdOf s.sh) (x:Int)=some ():=by rw [upI_nat,shdOf,hs];rfl
    have f2:upI s.sh (x:Int)=some t:=by rw [upI_nat,hs]
    have hxt:∀ τ,Says up1 s.sh τ→t.sub τ=τ x:=fun τ ht=>(ht.shp x t hx hs).symm
    (repeat' first|(refine kkn ?_;intros)|refine kfk ?_ ?_<;>intro hb|fail)
    refine kpar 8 ?_
    (repeat' first|(refine kk ?_;intros)|refine kfk ?_ ?_<;>intro hb|fail)
    refine kdcs (A1:=[_,_]) (h:=i up1 x t m1 h1 hs) ?_
    rintro _ A' ⟨ok,up2,sh2,rfl,h2,rfl⟩
    (repeat' first|(refine kk ?_;intros)|refine kfk ?_ ?_<;>intro hb|fail)
    refine ker1 _ ⟨ok,up2,sh2,rfl,EqR.pre m1 (h2.same fun τ ht=>?_),rfl⟩
    rw [hxt τ ht]
    exact same τ _ ht
 exact key
end
noncomputable section
theorem kkd {X Y:Prop} (k:Y) (h:Hv Y→X:=by intro k;(first|refine kal1 ?_|refine kalT ?_|refine kal0 ?_|refine kacP ?_|refine kac0 ?_|refine kacW 0 ?_|refine kacW 1 ?_|refine kacW 2 ?_|refine kacW 3 ?_|refine kc ?_|fail);(repeat (first|refine kal1 ?_|refine kalT ?_|refine kal0 ?_|refine kacP ?_|refine kac0 ?_|refine kacW 0 ?_|refine kacW 1 ?_|refine kacW 2 ?_|refine kacW 3 ?_|refine kc ?_|fail));exact k.out):X:=h ⟨k⟩
theorem perm_s1 {a:Atm} {R L:List Atm}:(a::(R++L)).Perm (R++(L++[a])):=(List.perm_append_singleton a (R++L)).symm.trans (by rw [List.append_assoc])
theorem perm_s2 {c:Atm} {R L:List Atm}:(R++(L++[c])).Perm ((R++[c])++L):=by
 rw [List.append_assoc];exact List.Perm.append_left R List.perm_append_comm
theorem perm_s3 {a c:Atm} {R L:List Atm}:(a::(R++(L++[c]))).Perm ((R++[c])++(L++[a])):=(List.Perm.cons a perm_s2).trans perm_s1
theorem Has.s2 {c:Atm} {R L:List Atm}:Has L (R++(L++[c])):=⟨R++[c],perm_s2⟩
theorem Has.s3 {a c:Atm} {R L:List Atm}:Has L (a::(R++(L++[c]))):=⟨a::(R++[c]),List.Perm.cons a perm_s2⟩
theorem equal_vv {K:CB} {B:Nat} {s:CS} {σ:Su} {v w:Nat} (h:EqH B s σ (.var v) (.var w))
 (i:∀ up' σ' t tx,CI up' s.sh σ'→deg B up' s.sh < deg B s.up s.sh→(∀ v,t.Occ v→up' v≠none)→(∀ v,tx.Occ v→up' v≠none)→(∀ v,up' v≠none↔s.up v≠none)→EqG K B (s.setUp up') tx t):EqG K B s (.var v) (.var w):=by
 have hv:=h.oa v rfl
 have hw:=h.ob w rfl
 unfold EqG
 refine sp Tryz.func221 rfl Tryz.ntmps221 rfl rfl fun C=>?_
 (repeat' first|(refine kk ?_;intros)|refine kfk ?_ ?_<;>intro hb|fail)
 refine kcs (A1:=[_,_]) (h:=root_c K s h.ci.desc h.ci.met v) ?_
 rintro _ A' ⟨x,up1,rfl,h1,m1',rfl⟩
 have m1:More s.up up1 (fun _=>False):=m1'.had fun u hu=>by rw [hu];exact hv
 (repeat' first|(refine kk ?_;intros)|refine kfk ?_ ?_<;>intro hb|fail)
 refine kcs (A1:=[_,_]) (h:=root_c K (s.setUp up1) m1.desc m1.met w) ?_
 rintro _ A' ⟨y,up2,rfl,h2,m2',rfl⟩
 have m2:More up1 up2 (fun _=>False):=m2'.had fun u hu=>by rw [hu];exact (m1.dom w).2 (.inl hw)
 have m:More s.up up2 (fun _=>False):=m1.trans m2 fun _=>by simp
 have c2:=h.ci.more m
 have kx:Up up2 v x:=(m.same v x).1 h1
 have ky:Up up2 w y:=(m2.same w y).1 h2
 have hx:Up up2 x x:=kx.root
 have hy:Up up2 y y:=ky.root
 have mx:up2 x≠none:=kx.met m.met ((m.dom v).2 (.inl hv))
 have my:up2 y≠none:=ky.met m.met ((m.dom w).2 (.inl hw))
 have bx:x < B:=h.bd x ((m.dom x).1 mx |>.resolve_right id)
 have byy:y < B:=h.bd y ((m.dom y).1 my |>.resolve_right id)
 have fin:∀ {ok up' sh'},EqR B up2 s.sh (.var x) (.var y) ok up' sh'→EqR B s.up s.sh (.var v) (.var w) ok up' sh':=fun e=>EqR.pre m (e.same fun τ ht=>by
  have e1:τ v=τ x:=ht.cls v x kx
  have e2:τ w=τ y:=ht.cls w y ky
  show τ x=τ y↔τ v=τ w
  rw [e1,e2])
 clear kx ky
 by_cases hxy:x=y
 ·subst hxy
  (repeat' first|(refine kk ?_;intros)|refine kfk ?_ ?_<;>intro hb|fail)
  exact ker1 _ ⟨true,up2,s.sh,rfl,fin (eq_true c2 fun τ _=>rfl),rfl⟩
 by_cases hlt:x < y
 rotate_left
 ·have hlt':y < x:=by omega
  clear hlt
  have fin':∀ {ok up' sh'},EqR B up2 s.sh (.var y) (.var x) ok up' sh'→EqR B s.up s.sh (.var v) (.var w) ok up' sh':=fun e=>fin e.swap
  clear fin h1 h2 m1' m2'
  (repeat' first|(refine kk ?_;intros)|refine kfk ?_ ?_<;>intro hb|fail)
  obtain ⟨lo,hlo⟩:∃ lo,lo=y:=⟨_,rfl⟩
  obtain ⟨hi,hhi⟩:∃ hi,hi=x:=⟨_,rfl⟩
  subst hlo hhi
  obtain ⟨hx,hy,mx,my,bx,byy,hlt⟩:=And.intro hy (And.intro hx (And.intro my (And.intro mx (And.intro byy (And.intro bx hlt')))))
  have fin:∀ {ok up' sh'},EqR B up2 s.sh (.var lo) (.var hi) ok up' sh'→EqR B s.up s.sh (.var v) (.var w) ok up' sh':=fin'
  have e:∀ w,putN up2 hi lo w=if w=hi then some lo else up2 w:=fun _=>putN_at
  obtain ⟨dom,hm1,hd1,hk1,hx1,σX,hX⟩:=join_ok c2 hx hy mx my hlt e
  have hS:SemX (putN up2 hi lo) s.sh lo σX:=hX.semX hx1 fun _=>rfl
  refine kmuN 3 (v:=lo) ?_
  cases sy:s.sh hi with
  | none=>
   have f1:upI (shdOf s.sh) (hi:Int)=none:=by rw [upI_nat,shdOf,sy];rfl
   cases sx:s.sh lo with
   | none=>
    have f2:upI (shdOf s.sh) (lo:Int)=none:=by rw [upI_nat,shdOf,sx];rfl
    (repeat' first|(refine kk ?_;intros)|refine kfk ?_ ?_<;>intro hb|fail)
    exact ker1 _ ⟨true,putN up2 hi lo,s.sh,rfl,fin (eq_join_y c2 hx hy mx my hlt byy e sy sx),rfl⟩
   | some t=>
    have f2:upI (shdOf s.sh) (lo:Int)=some ():=by rw [upI_nat,shdOf,sx];rfl
    have f3:upI s.sh (lo:Int)=some t:=by rw [upI_nat,sx]
    (repeat' first|(refine kk ?_;intros)|refine kfk ?_ ?_<;>intro hb|fail)
    refine kmmG setv ?_
    intro ms
    refine kcsG (A1:=[_,_]) (h:=reaches_c K lo ms (t.sub σX).nodes (s.setUp (putN up2 hi lo)) σX (fun _=>none) t hd1 hm1 hk1 (hk1 lo t hx1 sx) hS (fun v hv=>occ_nodes hv) fun r hr=>absurd rfl hr) ?_ (hA:=perm_s1 (R:=[_,_]))
    rintro _ A' ⟨b,up',seen',rfl,rfl,k1,k2,_⟩
    (repeat' first|(refine kk ?_;intros)|refine kfk ?_ ?_<;>intro hb|fail)
    refine ker1 _ ⟨!b,up',s.sh,rfl,fin (eq_join_x c2 hx hy mx my hlt byy e sy sx hX ?_ k1),rfl⟩ (hs:=.cons _ (.cons _ (List.sublist_append_left _ _)))
    rw [← k2];cases b<;>simp
  | some t=>
   have f1:upI (shdOf s.sh) (hi:Int)=some ():=by rw [upI_nat,shdOf,sy];rfl
   have f1':upI s.sh (hi:Int)=some t:=by rw [upI_nat,sy]
   have ot:∀ u,t.Occ u→putN up2 hi lo u≠none:=fun u hu=>(dom u).2 (c2.known hi t hy sy u hu)
   cases sx:s.sh lo with
   | none=>
    have f2:upI (shdOf s.sh) (lo:Int)=none:=by rw [upI_nat,shdOf,sx];rfl
    (repeat' first|(refine kk ?_;intros)|refine kfk ?_ ?_<;>intro hb|fail)
    refine kcs (A1:=[_,_,_]) (h:=know_c K (s.setUp (putN up2 hi lo)) lo t σX hd1 hm1 hk1 ot (hX.semX hx1 fun w=>by by_cases hw:w=lo<;>simp [putN,hw,CS.setUp])) ?_
    rintro _ A' ⟨ok,up',rfl,rfl,k1,ho⟩
    (repeat' first|(refine kk ?_;intros)|refine kfk ?_ ?_<;>intro hb|fail)
    exact ker1 _ ⟨ok,up',putN s.sh lo t,rfl,fin (eq_join_move c2 hx hy mx my hlt byy e sy sx hX (fun _=>putN_at) ho k1),rfl⟩
   | some tx=>
    have f2:upI (shdOf s.sh) (lo:Int)=some ():=by rw [upI_nat,shdOf,sx];rfl
    have f3:upI s.sh (lo:Int)=some tx:=by rw [upI_nat,sx]
    (repeat' first|(refine kkn ?_;intros)|refine kfk ?_ ?_<;>intro hb|fail)
    refine kmix 4 [0,1,2] [3] [tbox _ t] ?_
    (repeat (refine kkc ?_))
    refine kacM setv ?_
    intro ms
    refine ⟨Has.two,?_⟩
    (repeat (refine kkc ?_))
    refine kdcs (A1:=[_,_,_]) (h:=reaches_c K lo ms (t.sub σX).nodes (s.setUp (putN up2 hi lo)) σX (fun _=>none) t hd1 hm1 hk1 ot hS (fun v hv=>occ_nodes hv) fun r hr=>absurd rfl hr) ?_ (hA:=perm_s1 (R:=[_,_,_]))
    rintro _ A' ⟨b1,up3,seen3,rfl,rfl,k1,k2,_⟩
    cases b1 with
    | true=>
     refine kpar 31 ?_
     (repeat' first|(refine kk ?_;intros)|refine kfk ?_ ?_<;>intro hb|fail)
     exact ker1 _ ⟨false,up3,s.sh,rfl,fin (eq_join_loop c2 hx hy mx my hlt e sy sx hX (.inl (k2.1 rfl)) k1),rfl⟩ (hs:=.cons _ (.cons _ (.cons _ (List.sublist_append_left _ _))))
    | false=>
     refine kpar 7 ?_
     (repeat' first|(refine kkn ?_;intros)|refine kfk ?_ ?_<;>intro hb|fail)
     refine kmix 16 [7,8,9,10,11,12,13,14] [15] (CA K (s.setUp up3)) ?_ (hB:=Has.s2 (R:=[_,_,_]))
     (repeat (refine kkd ?_))
     refine kacMG setv ?_
     intro ms2
     refine ⟨Has.s3 (R:=[_,_,_]),?_⟩
     (repeat (refine kkc ?_))
     refine kdcsG (A1:=[_,_,_,_]) (h:=reaches_c K lo ms2 (tx.sub σX).nodes (s.setUp up3) σX (fun _=>none) tx k1.desc k1.met (hk1.more k1) (fun u hu=>(k1.dom u).2 (.inl (hk1 lo tx hx1 sx u hu))) (hS.same k1.same) (fun v hv=>occ_nodes hv) fun r hr=>absurd rfl hr) ?_ (hA:=perm_s3 (R:=[_,_,_]))
     rintro _ A' ⟨b2,up4,seen4,rfl,rfl,k3,k4,_⟩
     have k5:More (putN up2 hi lo) up4 (fun _=>False):=k1.trans k3 fun _=>by simp
     cases b2 with
     | true=>
      refine kpar 31 ?_
      (repeat' first|(refine kk ?_;intros)|refine kfk ?_ ?_<;>intro hb|fail)
      exact ker1 _ ⟨false,up4,s.sh,rfl,fin (eq_join_loop c2 hx hy mx my hlt e sy sx hX (.inr (k4.1 rfl)) k5),rfl⟩ (hs:=.cons _ (.cons _ (.cons _ (.cons _ (List.sublist_append_left _ _)))))
     | false=>
      have q:=fun (ok:Bool) (u2:Nat→Option Nat) (s2:Nat→Option T)=>eq_join_both (ok:=ok) (up2:=u2) (sh2:=s2) c2 hx hy mx my hlt byy e sy sx hX (fun hh=>by have:=k4.2 hh;cases this) k5
      obtain ⟨⟨σ',q1⟩,q2,q3,q4,_⟩:=q true up4 s.sh
      refine kpar 20 ?_
      (repeat' first|(refine kkn ?_;intros)|refine kfk ?_ ?_<;>intro hb|fail)
      refine kpar 28 ?_
      (repeat' first|(refine kkn ?_;intros)|refine kfk ?_ ?_<;>intro hb|fail)
      refine kdcsG (A1:=[_,_,_,_,_]) (h:=i up4 σ' t tx q1 (by rw [← deg_more m];exact q2) q3 q4 (fun u=>by rw [k5.dom,or_false,dom,m.dom,or_false])) ?_ (hA:=perm_s2 (R:=[_,_,_,_]))
      rintro _ A' ⟨ok,up5,sh5,rfl,h5,rfl⟩
      refine kpar 31 ?_
      (repeat' first|(refine kk ?_;intros)|refine kfk ?_ ?_<;>intro hb|fail)
      exact ker1 _ ⟨ok,up5,sh5,rfl,fin ((q ok up5 sh5).2.2.2.2 h5),rfl⟩
 ·clear h1 h2 m1' m2'
  (repeat' first|(refine kk ?_;intros)|refine kfk ?_ ?_<;>intro hb|fail)
  obtain ⟨lo,hlo⟩:∃ lo,lo=x:=⟨_,rfl⟩
  obtain ⟨hi,hhi⟩:∃ hi,hi=y:=⟨_,rfl⟩
  subst hlo hhi
  have e:∀ w,putN up2 hi lo w=if w=hi then some lo else up2 w:=fun _=>putN_at
  obtain ⟨dom,hm1,hd1,hk1,hx1,σX,hX⟩:=join_ok c2 hx hy mx my hlt e
  have hS:SemX (putN up2 hi lo) s.sh lo σX:=hX.semX hx1 fun _=>rfl
  refine kmuN 3 (v:=lo) ?_
  cases sy:s.sh hi with
  | none=>
   have f1:upI (shdOf s.sh) (hi:Int)=none:=by rw [upI_nat,shdOf,sy];rfl
   cases sx:s.sh lo with
   | none=>
    have f2:upI (shdOf s.sh) (lo:Int)=none:=by rw [upI_nat,shdOf,sx];rfl
    (repeat' first|(refine kk ?_;intros)|refine kfk ?_ ?_<;>intro hb|fail)
    exact ker1 _ ⟨true,putN up2 hi lo,s.sh,rfl,fin (eq_join_y c2 hx hy mx my hlt byy e sy sx),rfl⟩
   | some t=>
    have f2:upI (shdOf s.sh) (lo:Int)=some ():=by rw [upI_nat,shdOf,sx];rfl
    have f3:upI s.sh (lo:Int)=some t:=by rw [upI_nat,sx]
    (repeat' first|(refine kk ?_;intros)|refine kfk ?_ ?_<;>intro hb|fail)
    refine kmmG setv ?_
    intro ms
    refine kcsG (A1:=[_,_]) (h:=reaches_c K lo ms (t.sub σX).nodes (s.setUp (putN up2 hi lo)) σX (fun _=>none) t hd1 hm1 hk1 (hk1 lo t hx1 sx) hS (fun v hv=>occ_nodes hv) fun r hr=>absurd rfl hr) ?_ (hA:=perm_s1 (R:=[_,_]))
    rintro _ A' ⟨b,up',seen',rfl,rfl,k1,k2,_⟩
    (repeat' first|(refine kk ?_;intros)|refine kfk ?_ ?_<;>intro hb|fail)
    refine ker1 _ ⟨!b,up',s.sh,rfl,fin (eq_join_x c2 hx hy mx my hlt byy e sy sx hX ?_ k1),rfl⟩ (hs:=.cons _ (.cons _ (List.sublist_append_left _ _)))
    rw [← k2];cases b<;>simp
  | some t=>
   have f1:upI (shdOf s.sh) (hi:Int)=some ():=by rw [upI_nat,shdOf,sy];rfl
   have f1':upI s.sh (hi:Int)=some t:=by rw [upI_nat,sy]
   have ot:∀ u,t.Occ u→putN up2 hi lo u≠none:=fun u hu=>(dom u).2 (c2.known hi t hy sy u hu)
   cases sx:s.sh lo with
   | none=>
    have f2:upI (shdOf s.sh) (lo:Int)=none:=by rw [upI_nat,shdOf,sx];rfl
    (repeat' first|(refine kk ?_;intros)|refine kfk ?_ ?_<;>intro hb|fail)
    refine kcs (A1:=[_,_,_]) (h:=know_c K (s.setUp (putN up2 hi lo)) lo t σX hd1 hm1 hk1 ot (hX.semX hx1 fun w=>by by_cases hw:w=lo<;>simp [putN,hw,CS.setUp])) ?_
    rintro _ A' ⟨ok,up',rfl,rfl,k1,ho⟩
    (repeat' first|(refine kk ?_;intros)|refine kfk ?_ ?_<;>intro hb|fail)
    exact ker1 _ ⟨ok,up',putN s.sh lo t,rfl,fin (eq_join_move c2 hx hy mx my hlt byy e sy sx hX (fun _=>putN_at) ho k1),rfl⟩
   | some tx=>
    have f2:upI (shdOf s.sh) (lo:Int)=some ():=by rw [upI_nat,shdOf,sx];rfl
    have f3:upI s.sh (lo:Int)=some tx:=by rw [upI_nat,sx]
    (repeat' first|(refine kkn ?_;intros)|refine kfk ?_ ?_<;>intro hb|fail)
    refine kmix 4 [0,1,2] [3] [tbox _ t] ?_
    (repeat (refine kkc ?_))
    refine kacM setv ?_
    intro ms
    refine ⟨Has.two,?_⟩
    (repeat (refine kkc ?_))
    refine kdcs (A1:=[_,_,_]) (h:=reaches_c K lo ms (t.sub σX).nodes (s.setUp (putN up2 hi lo)) σX (fun _=>none) t hd1 hm1 hk1 ot hS (fun v hv=>occ_nodes hv) fun r hr=>absurd rfl hr) ?_ (hA:=perm_s1 (R:=[_,_,_]))
    rintro _ A' ⟨b1,up3,seen3,rfl,rfl,k1,k2,_⟩
    cases b1 with
    | true=>
     refine kpar 31 ?_
     (repeat' first|(refine kk ?_;intros)|refine kfk ?_ ?_<;>intro hb|fail)
     exact ker1 _ ⟨false,up3,s.sh,rfl,fin (eq_join_loop c2 hx hy mx my hlt e sy sx hX (.inl (k2.1 rfl)) k1),rfl⟩ (hs:=.cons _ (.cons _ (.cons _ (List.sublist_append_left _ _))))
    | false=>
     refine kpar 7 ?_
     (repeat' first|(refine kkn ?_;intros)|refine kfk ?_ ?_<;>intro hb|fail)
     refine kmix 16 [7,8,9,10,11,12,13,14] [15] (CA K (s.setUp up3)) ?_ (hB:=Has.s2 (R:=[_,_,_]))
     (repeat (refine kkd ?_))
     refine kacMG setv ?_
     intro ms2
     refine ⟨Has.s3 (R:=[_,_,_]),?_⟩
     (repeat (refine kkc ?_))
     refine kdcsG (A1:=[_,_,_,_]) (h:=reaches_c K lo ms2 (tx.sub σX).nodes (s.setUp up3) σX (fun _=>none) tx k1.desc k1.met (hk1.more k1) (fun u hu=>(k1.dom u).2 (.inl (hk1 lo tx hx1 sx u hu))) (hS.same k1.same) (fun v hv=>occ_nodes hv) fun r hr=>absurd rfl hr) ?_ (hA:=perm_s3 (R:=[_,_,_]))
     rintro _ A' ⟨b2,up4,seen4,rfl,rfl,k3,k4,_⟩
     have k5:More (putN up2 hi lo) up4 (fun _=>False):=k1.trans k3 fun _=>by simp
     cases b2 with
     | true=>
      refine kpar 31 ?_
      (repeat' first|(refine kk ?_;intros)|refine kfk ?_ ?_<;>intro hb|fail)
      exact ker1 _ ⟨false,up4,s.sh,rfl,fin (eq_join_loop c2 hx hy mx my hlt e sy sx hX (.inr (k4.1 rfl)) k5),rfl⟩ (hs:=.cons _ (.cons _ (.cons _ (.cons _ (List.sublist_append_left _ _)))))
     | false=>
      have q:=fun (ok:Bool) (u2:Nat→Option Nat) (s2:Nat→Option T)=>eq_join_both (ok:=ok) (up2:=u2) (sh2:=s2) c2 hx hy mx my hlt byy e sy sx hX (fun hh=>by have:=k4.2 hh;cases this) k5
      obtain ⟨⟨σ',q1⟩,q2,q3,q4,_⟩:=q true up4 s.sh
      refine kpar 20 ?_
      (repeat' first|(refine kkn ?_;intros)|refine kfk ?_ ?_<;>intro hb|fail)
      refine kpar 28 ?_
      (repeat' first|(refine kkn ?_;intros)|refine kfk ?_ ?_<;>intro hb|fail)
      refine kdcsG (A1:=[_,_,_,_,_]) (h:=i up4 σ' t tx q1 (by rw [← deg_more m];exact q2) q3 q4 (fun u=>by rw [k5.dom,or_false,dom,m.dom,or_false])) ?_ (hA:=perm_s2 (R:=[_,_,_,_]))
      rintro _ A' ⟨ok,up5,sh5,rfl,h5,rfl⟩
      refine kpar 31 ?_
      (repeat' first|(refine kk ?_;intros)|refine kfk ?_ ?_<;>intro hb|fail)
      exact ker1 _ ⟨ok,up5,sh5,rfl,fin ((q ok up5 sh5).2.2.2.2 h5),rfl⟩
end
end Go.Proofs.YtejkllmoofdpjaaGreat
