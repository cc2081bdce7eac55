/- Parts of the proof: V15 V16 V17 V20 V21. -/
import Derived.Test.YtejkllmoofdpjaaGreatD19
import Derived.Test.YtejkllmoofdpjaaGreatD18
namespace Go.Proofs.YtejkllmoofdpjaaGreat
open Go
set_option linter.all false
set_option maxRecDepth 100000
set_option maxHeartbeats 4000000
noncomputable section
def flag:T→T→Nat
 | .var _,_=>1
 | _,.var _=>2
 | _,_=>0
theorem flag_le (a b:T):flag a b≤2:=by unfold flag;split<;>omega
theorem flag_no {a b:T} (ha:∀ n,a≠.var n) (hb:∀ n,b≠.var n):flag a b=0:=by
 unfold flag
 split
 ·exact absurd rfl (ha _)
 ·exact absurd rfl (hb _)
 ·rfl
theorem flag_nv {a:T} {n:Nat} (ha:∀ n,a≠.var n):flag a (.var n)=2:=by
 cases a with
 | var m=>exact absurd rfl (ha m)
 | _=>rfl
def mea (σ:Su) (a b:T):Nat:=4 * ((a.sub σ).nodes+(b.sub σ).nodes)+flag a b
theorem equal_all (K:CB) (B:Nat):∀ (D M:Nat) (s:CS) (σ:Su) (a b:T),EqH B s σ a b→deg B s.up s.sh=D→mea σ a b=M→EqG K B s a b:=by
 intro D
 induction D using Nat.strongRecOn with
 | _ D ihD=>
  intro M
  induction M using Nat.strongRecOn with
  | _ M ihM=>
   intro s σ a b h hD hM
   have again:∀ (s':CS) (σ':Su) (a' b':T),EqH B s' σ' a' b'→(deg B s'.up s'.sh < D∨deg B s'.up s'.sh=D∧mea σ' a' b' < M)→EqG K B s' a' b':=by
    rintro s' σ' a' b' h' (hd | ⟨hd,hm⟩)
    ·exact ihD _ hd _ s' σ' a' b' h' rfl rfl
    ·exact ihM _ hm s' σ' a' b' h' hd rfl
   by_cases ha:∃ v,a=.var v
   ·obtain ⟨v,rfl⟩:=ha
    by_cases hb:∃ w,b=.var w
    ·obtain ⟨w,rfl⟩:=hb
     exact equal_vv h fun up' σ' t tx c q ot otx dom=>again _ σ' tx t ⟨c,otx,ot,fun v hv=>h.bd v ((dom v).1 hv)⟩ (.inl (by rw [← hD];exact q))
    ·refine equal_vn h (fun n e=>hb ⟨n,e⟩) fun up1 x t m hx hs=>again _ σ t b ⟨h.ci.more m,fun u hu=>(m.dom u).2 (.inl (h.ci.known x t hx.root hs u hu)),fun u hu=>(m.dom u).2 (.inl (h.ob u hu)),fun u hu=>h.bd u ((m.dom u).1 hu |>.resolve_right id)⟩ (.inr ⟨(deg_more m).trans hD,?_⟩)
     have e1:t.sub σ=σ v:=by rw [h.ci.sem.says.cls v x hx,h.ci.sem.says.shp x t hx.root hs]
     have f1:flag t b=0:=flag_no (fun n=>h.ci.sem.flat x t n hx.root hs) fun n e=>hb ⟨n,e⟩
     have f2:flag (.var v) b=1:=rfl
     have e2:(T.var v).sub σ=σ v:=rfl
     rw [← hM];unfold mea;rw [e1,e2,f1,f2];omega
   ·have ha':∀ n,a≠.var n:=fun n e=>ha ⟨n,e⟩
    by_cases hb:∃ w,b=.var w
    ·obtain ⟨w,rfl⟩:=hb
     refine equal_nv ha' (again s σ (.var w) a ⟨h.ci,h.ob,h.oa,h.bd⟩ (.inr ⟨hD,?_⟩))
     have f2:flag (.var w) a=1:=rfl
     rw [← hM];unfold mea;rw [flag_nv ha',f2];omega
    ·have hb':∀ n,b≠.var n:=fun n e=>hb ⟨n,e⟩
     by_cases hp:∃ a1 a2 b1 b2,a=.pair a1 a2∧b=.pair b1 b2
     ·obtain ⟨a1,a2,b1,b2,rfl,rfl⟩:=hp
      have hms:∀ x y,(x=a1∧y=b1)∨(x=a2∧y=b2)→mea σ x y < M:=fun x y hxy=>by
       have:=flag_le x y
       have p1:=nodes_pos (a1.sub σ)
       have p2:=nodes_pos (a2.sub σ)
       have p3:=nodes_pos (b1.sub σ)
       have p4:=nodes_pos (b2.sub σ)
       rw [← hM];unfold mea
       simp only [T.sub,T.nodes]
       rcases hxy with ⟨rfl,rfl⟩ | ⟨rfl,rfl⟩<;>omega
      refine equal_pp (again s σ a1 b1 ⟨h.ci,fun v hv=>h.oa v (.inl hv),fun v hv=>h.ob v (.inl hv),h.bd⟩ (.inr ⟨hD,hms _ _ (.inl ⟨rfl,rfl⟩)⟩)) fun up1 sh1 e=>?_
      obtain ⟨⟨σ',c⟩,_,hdeg⟩:=e.yes rfl
      have o1:∀ v,a2.Occ v→up1 v≠none:=fun v hv=>(e.dom v).2 (h.oa v (.inr hv))
      have o2:∀ v,b2.Occ v→up1 v≠none:=fun v hv=>(e.dom v).2 (h.ob v (.inr hv))
      have o3:∀ v,up1 v≠none→v < B:=fun v hv=>h.bd v ((e.dom v).1 hv)
      rcases hdeg with hdeg | ⟨m,rfl⟩
      ·exact again _ σ' a2 b2 ⟨c,o1,o2,o3⟩ (.inl (by rw [← hD];exact hdeg))
      ·exact again _ σ a2 b2 ⟨h.ci.more m,o1,o2,o3⟩ (.inr ⟨(deg_more m).trans hD,hms _ _ (.inr ⟨rfl,rfl⟩)⟩)
     ·exact equal_cc h.ci ha' hb' fun a1 a2 b1 b2 e1 e2=>hp ⟨a1,a2,b1,b2,e1,e2⟩
theorem equal_c (K:CB) (B:Nat) (s:CS) (σ:Su) (a b:T) (h:EqH B s σ a b):Spec Tryz.prog 221 [cptr K,vT a,vT b] (CA K s) fun r A'=>∃ ok up' sh',r=bv ok∧EqR B s.up s.sh a b ok up' sh'∧A'=CA K ((s.setSh sh').setUp up'):=equal_all K B _ _ s σ a b h rfl rfl
end
noncomputable section
section
variable {P:Program} {n:Nat} {ops:Array Oper} {K:AF→List Atm→Prop} {f:AF} {A B:List Atm} {d:Nat} {ty:TypeId} {pos:String} {aft:Array Edge} {i j s:Nat} {b:Bool} {rest:List Nat}
theorem kacsG {g:FuncId} [FnF P g] {avs:Array Operand} {tys:Array TypeId} {as1:List AV} {A1 L:List Atm} {Q':AV→List Atm→Prop} (h:Spec P g as1 L Q') (k:∀ v A',Q' v A'→Has B (A1++A')∧AC P n ops B K rest (au f d v) (A1++A')) (ho:ops[i]?=some ⟨some d,.call {callee:=.value (.func g),args:=avs,argTypes:=tys },ty,pos,aft,some (j,b)⟩:=by exact rfl) (hA:A.Perm (A1++L):=by exact .refl _) (hd:Nat.blt d n=true:=by exact rfl) (ht:(ops[j]?).bind (·.dst)=some s:=by exact rfl) (hv:f s=.one (.v (.bool b)):=by exact rfl) (ha:avs.toList.map (eva f)=as1:=by exact rfl) :
 AC P n ops B K (i::rest) f A:=kacOG ho hd ht hv (O_call ha (h.front hA)) fun v A' ⟨B',h1,h2⟩=>h2▸k v B' h1
theorem Has.p2 {x y z:Atm} {L:List Atm}:Has [y,z] (x::y::z::L):=⟨x::L,List.Perm.cons x (List.perm_append_comm (l₁:=[y,z]) (l₂:=L))⟩
theorem Has.p3 {x y z u v:Atm} {L:List Atm}:Has [y,z,v] (x::y::z::u::v::L):=by
 refine ⟨x::u::L,List.Perm.cons x ?_⟩
 have h1:(v::L).Perm (L++[v]):=(List.perm_append_singleton v L).symm
 have h2:([y,z]++(u::v::L)).Perm ([y,z]++(u::(L++[v]))):=List.Perm.append_left _ (List.Perm.cons u h1)
 have h3:(([y,z]++(u::L))++[v]).Perm (((u::L)++[y,z])++[v]):=List.Perm.append_right [v] List.perm_append_comm
 simpa using h2.trans (by simpa using h3)
end
def CB.box (K:CB):Atm:=abox K.b [.v (.map (some K.up)),.v (.map (some K.sh)),.v (.map (some K.shd)),.v (.map (some K.co)),.v (.map (some K.sz)),.v (.map (some K.fu))] 309
abbrev cut (t:T):Nat:=min t.nodes 5001
structure WgR (σ:Su) (s s':CS):Prop where
 sh:s'.sh=s.sh
 fu:s'.fu=s.fu
 up:More s.up s'.up (fun _=>False)
 blk:∀ r,s'.co r=some 2→s'.sz r=some (cut (σ r))
 old:∀ r n,s'.co r=some n→n=2∨n=1∧s.co r=some 1
 keep:∀ r,s.co r=some 2→s'.co r=some 2
theorem WgR.trans {σ:Su} {a b c:CS} (h:WgR σ a b) (k:WgR σ b c):WgR σ a c:=
 ⟨k.sh.trans h.sh,k.fu.trans h.fu,h.up.trans k.up fun _=>by simp,k.blk,fun r n hn=>(k.old r n hn).elim .inl fun ⟨e,e'⟩=>by
  rcases h.old r 1 e' with h1 | ⟨_,h2⟩
  ·cases h1
  ·exact .inr ⟨e,h2⟩,fun r hr=>k.keep r (h.keep r hr)⟩
theorem wgt_cut {σ:Su}:∀ t:T,min (t.wgt fun v=>cut (σ v)) 5001=min (t.sub σ).nodes 5001
 | .var v=>by show min (min (σ v).nodes 5001) 5001=min (σ v).nodes 5001;omega
 | .pair a b=>by
  have h1:=wgt_cut (σ:=σ) a
  have h2:=wgt_cut (σ:=σ) b
  show min (1+a.wgt _+b.wgt _) 5001=min (1+(a.sub σ).nodes+(b.sub σ).nodes) 5001
  omega
 | .nil=>rfl
 | .sym _=>rfl
 | .num _=>rfl
theorem WgR.setUp {σ:Su} {a b:CS} {up:Nat→Option Nat} (h:WgR σ a b) (m:More b.up up fun _=>False):WgR σ a (b.setUp up):=⟨h.sh,h.fu,h.up.trans m fun _=>by simp,h.blk,h.old,h.keep⟩
abbrev CS.grey (s:CS) (x:Nat):CS:=⟨s.up,s.sh,putN s.co x 1,putN s.sz x 1,s.fu⟩
theorem WgR.grey {σ:Su} {s:CS} {x:Nat} (h:WgR σ s s):WgR σ (s.grey x) (s.grey x):=
 ⟨rfl,rfl,h.up,fun r hr=>by
  have hr':putN s.co x 1 r=some 2:=hr
  show putN s.sz x 1 r=_
  rw [putN_at] at hr' ⊢
  split at hr'
  ·cases hr'
  ·rename_i hne;rw [if_neg hne];exact h.blk r hr',fun r n hn=>by
  have hn':putN s.co x 1 r=some n:=hn
  show n=2∨n=1∧putN s.co x 1 r=some 1
  rw [putN_at] at hn' ⊢
  split at hn'
  ·rename_i hr;cases hn';exact .inr ⟨rfl,by rw [if_pos hr]⟩
  ·rename_i hr;rw [if_neg hr];exact h.old r n hn',fun _ h=>h⟩
theorem WgR.last {σ:Su} {s s2 s3:CS} {x:Nat} (hco:s.co x=none) (h:WgR σ (s.grey x) s2) (e1:s3.sh=s2.sh) (e2:s3.fu=s2.fu) (e3:More s2.up s3.up fun _=>False) (e4:∀ r,s3.co r=if r=x then some 2 else s2.co r) (e5:∀ r,s3.sz r=if r=x then some (cut (σ x)) else s2.sz r):WgR σ s s3∧s3.co x=some 2:=by
 refine ⟨⟨e1.trans h.sh,e2.trans h.fu,h.up.trans e3 fun _=>by simp,fun r hr=>?_,fun r n hn=>?_,fun r hr=>?_⟩,by rw [e4,if_pos rfl]⟩
 ·rw [e4] at hr
  rw [e5]
  split
  ·rename_i h';rw [h']
  ·rename_i h';rw [if_neg h'] at hr;exact h.blk r hr
 ·rw [e4] at hn
  split at hn
  ·cases hn;exact .inl rfl
  ·rename_i hne
   refine (h.old r n hn).imp id fun ⟨h1,h2⟩=>⟨h1,?_⟩
   have h2':putN s.co x 1 r=some 1:=h2
   rwa [putN_at,if_neg hne] at h2'
 ·have hne:r≠x:=by rintro rfl;rw [hco] at hr;cases hr
  rw [e4,if_neg hne]
  exact h.keep r (by show putN s.co x 1 r=some 2;rw [putN_at,if_neg hne];exact hr)
theorem weigh_c (K:CB):∀ (N:Nat) (s:CS) (σ:Su) (x:Nat),CI s.up s.sh σ→Up s.up x x→(σ x).nodes≤N→(∀ r,s.co r=some 2→s.sz r=some (cut (σ r)))→(∀ r n,s.co r=some n→n=2∨n=1∧(σ x).nodes < (σ r).nodes)→
 Spec Tryz.prog 265 [cptr K,nv x] (CA K s) fun r A'=>∃ s',r=bv true∧A'=CA K s'∧WgR σ s s'∧s'.co x=some 2:=by
 intro N
 induction N using Nat.strongRecOn with
 | _ N ih=>
  intro s σ x hc hx hN hb2 hb1
  have hid:WgR σ s s:=⟨rfl,rfl,.refl hc.desc hc.met fun _ h=>h.elim,hb2,fun r n hn=>(hb1 r n hn).elim .inl fun h=>.inr ⟨h.1,h.1▸hn⟩,fun _ h=>h⟩
  refine sp Tryz.func265 rfl Tryz.ntmps265 rfl rfl fun C=>?_
  cases hco:s.co x with
  | some n=>
   have hn:n=2:=(hb1 x n hco).elim id fun h=>by omega
   subst hn
   have f1:upI s.co (x:Int)=some 2:=by rw [upI_nat,hco]
   (repeat' first|(refine kk ?_;intros)|refine kfk ?_ ?_<;>intro hb|fail)
   exact ker1 _ ⟨s,rfl,rfl,hid,hco⟩
  | none=>
   have f1:upI s.co (x:Int)=none:=by rw [upI_nat,hco]
   (repeat' first|(refine kk ?_;intros)|refine kfk ?_ ?_<;>intro hb|fail)
   refine kmuN (enc:=nv) 5 (m:=x) (v:=1) ?_
   (repeat' first|(refine kk ?_;intros)|refine kfk ?_ ?_<;>intro hb|fail)
   refine kmuN (enc:=nv) 6 (m:=x) (v:=1) ?_
   cases hs:s.sh x with
   | none=>
    have f2:upI (shdOf s.sh) (x:Int)=none:=by rw [upI_nat,shdOf,hs];rfl
    (repeat' first|(refine kk ?_;intros)|refine kfk ?_ ?_<;>intro hb|fail)
    refine kmuN (enc:=nv) 5 (m:=x) (v:=2) ?_
    (repeat' first|(refine kk ?_;intros)|refine kfk ?_ ?_<;>intro hb|fail)
    refine ker1 _ ⟨⟨s.up,s.sh,putN (putN s.co x 1) x 2,putN s.sz x 1,s.fu⟩,rfl,rfl,hid.grey.last hco rfl rfl (.refl hc.desc hc.met fun _ h=>h.elim) (fun r=>putN_at) fun r=>?_⟩
    show putN s.sz x 1 r=if r=x then _ else putN s.sz x 1 r
    rw [putN_at,hc.sem.free x hx hs]
    split<;>rfl
   | some t=>
    have f2:upI (shdOf s.sh) (x:Int)=some ():=by rw [upI_nat,shdOf,hs];rfl
    have f3:upI s.sh (x:Int)=some t:=by rw [upI_nat,hs]
    have ex:σ x=t.sub σ:=hc.sem.says.shp x t hx hs
    have hlt:∀ v,t.Occ v→(σ v).nodes < (σ x).nodes:=fun v hv=>by
     have:=strict_nodes (σ:=σ) hv (fun m=>hc.sem.flat x t m hx hs)
     rw [ex];omega
    (repeat' first|(refine kk ?_;intros)|refine kfk ?_ ?_<;>intro hb|fail)
    refine kcs (A1:=[]) (h:=eachVar_c (g:=295) (cap:=[.pointer (some ⟨_,0,none⟩),.pointer (some ⟨_,0,none⟩)]) (by rfl) (fun l A=>∃ s2,A=bbox _ true::pbox _ K::CA K s2∧WgR σ (s.grey x) s2∧∀ v∈l,∀ y,Up s.up v y→s2.co y=some 2) t [] _ ?_ ⟨_,rfl,hid.grey,by simp⟩) ?_
    ·rintro l v A hv ⟨s2,rfl,w2,hl⟩
     have mv:s2.up v≠none:=(w2.up.dom v).2 (.inl (hc.known x t hx hs v hv))
     refine sp Tryz.func295 rfl Tryz.ntmps295 rfl rfl fun C=>?_
     (repeat' first|(refine kkn ?_;intros)|refine kfk ?_ ?_<;>intro hb|fail)
     refine kpar 2 ?_
     (repeat' first|(refine kkn ?_;intros)|refine kfk ?_ ?_<;>intro hb|fail)
     refine kmix 7 [2,3,4] [5,6] [pbox _ K] ?_ (hB:=Has.two)
     (repeat (refine kkd ?_))
     refine kacsG (A1:=[_,_]) (h:=root_c K s2 w2.up.desc w2.up.met v) ?_
     rintro _ A' ⟨y,up2,rfl,h1,m1',rfl⟩
     refine ⟨Has.two,?_⟩
     have m1:More s2.up up2 (fun _=>False):=m1'.had fun u hu=>by rw [hu];exact mv
     have w3:=w2.setUp m1
     have h1':Up s.up v y:=(w2.up.same v y).2 h1
     have hσ:σ v=σ y:=hc.sem.says.cls v y h1'
     have hly:(σ y).nodes < (σ x).nodes:=by rw [← hσ];exact hlt v hv
     have hc3:CI (s2.setUp up2).up (s2.setUp up2).sh σ:=by
      have:=hc.more w3.up
      rwa [show s.sh=(s2.setUp up2).sh from w2.sh.symm] at this
     refine kacsG (A1:=[_,_]) (h:=ih (σ y).nodes (by omega) (s2.setUp up2) σ y hc3 ((m1.same y y).1 h1.root) (Nat.le_refl _) w3.blk fun r n hn=>?_) ?_
     ·refine (w3.old r n hn).imp id fun ⟨q1,q2⟩=>⟨q1,?_⟩
      have q2':putN s.co x 1 r=some 1:=q2
      rw [putN_at] at q2'
      split at q2'
      ·rename_i hr;rw [hr];exact hly
      ·rcases hb1 r 1 q2' with h|h
       ·cases h
       ·omega
     rintro _ A' ⟨s4,rfl,rfl,w4,hy4⟩
     refine ⟨Has.two,?_⟩
     (repeat (refine kkd ?_))
     refine kpar 9 ?_
     (repeat' first|(refine kk ?_;intros)|refine kfk ?_ ?_<;>intro hb|fail)
     refine ker0 ⟨s4,rfl,w3.trans w4,fun u hu z hz=>?_⟩
     rcases List.mem_append.1 hu with hu|hu
     ·exact w4.keep z (hl u hu z hz)
     ·simp at hu;subst hu
      rw [hz.unique h1'];exact hy4
    ·rintro u A' ⟨s2,rfl,w2,hl⟩
     have f4:upI s2.sh (x:Int)=some t:=by rw [upI_nat,w2.sh];exact hs
     (repeat' first|(refine kkn ?_;intros)|refine kfk ?_ ?_<;>intro hb|fail)
     refine kmix 13 [0,1,2,3,4,5,6,7,8,9,10,11] [12] [pbox _ K,K.box,amap kvI K.sh (gm vT (upI s2.sh))] ?_ (hB:=Has.p3)
     (repeat (refine kkd ?_))
     refine kacs (A1:=[]) (h:=sizeWith_c (g:=297) (cap:=[.pointer (some ⟨_,0,none⟩)]) (by rfl) (fun A=>∃ up',A=bbox _ true::pbox _ K::CA K (s2.setUp up')∧More s2.up up' (fun _=>False)) (fun v=>cut (σ v)) (fun v=>by have:=nodes_pos (σ v);show 1≤min (σ v).nodes 5001∧min (σ v).nodes 5001≤1000000000;omega) t _ ?_ ⟨s2.up,rfl,.refl w2.up.desc w2.up.met fun _ h=>h.elim⟩) ?_
     ·rintro v A hv ⟨up',rfl,m2⟩
      refine sp Tryz.func297 rfl Tryz.ntmps297 rfl rfl fun C=>?_
      (repeat' first|(refine kkn ?_;intros)|refine kfk ?_ ?_<;>intro hb|fail)
      refine kmix 7 [0,1,2,3,4,5] [6] [pbox _ K,K.box] ?_ (hB:=Has.p2)
      (repeat (refine kkd ?_))
      refine kacs (A1:=[_,_]) (h:=root_c K (s2.setUp up') m2.desc m2.met v) ?_
      rintro _ A' ⟨y,up3,rfl,h1,m3',rfl⟩
      refine ⟨Has.p2,?_⟩
      (repeat (refine kkd ?_))
      have mv:up' v≠none:=(m2.dom v).2 (.inl ((w2.up.dom v).2 (.inl (hc.known x t hx hs v hv))))
      have m3:More up' up3 (fun _=>False):=m3'.had fun u hu=>by rw [hu];exact mv
      have h1':Up s.up v y:=(w2.up.same v y).2 ((m2.same v y).2 h1)
      have f5:upI s2.sz (y:Int)=some (cut (σ y)):=by rw [upI_nat];exact w2.blk y (hl v (by simpa using mem_vars.2 hv) y h1')
      refine kpar 9 ?_
      (repeat' first|(refine kk ?_;intros)|refine kfk ?_ ?_<;>intro hb|fail)
      refine ker1 _ ⟨rfl,up3,rfl,m2.trans m3 fun _=>by simp⟩ (hle:=le_eq ?_)
      rw [hc.sem.says.cls v y h1']
     ·rintro u A' ⟨hu,up3,rfl,m3⟩
      have e:u=nv (cut (σ x)):=by
       rw [hu]
       show iv _=iv _
       have:=wgt_cut (σ:=σ) t
       rw [ex]
       congr 1
       simp only [cut] at this ⊢
       omega
      subst e
      clear hu
      refine ⟨Has.p3,?_⟩
      (repeat (refine kkd ?_))
      refine kduN (enc:=nv) 7 (m:=x) (v:=cut (σ x)) ?_
      (repeat' first|(refine kk ?_;intros)|refine kfk ?_ ?_<;>intro hb|fail)
      refine kmuN (enc:=nv) 6 (m:=x) (v:=2) ?_
      (repeat' first|(refine kk ?_;intros)|refine kfk ?_ ?_<;>intro hb|fail)
      exact ker1 _ ⟨⟨up3,s2.sh,putN s2.co x 2,putN s2.sz x (cut (σ x)),s2.fu⟩,rfl,rfl,w2.last hco rfl rfl m3 (fun r=>putN_at) fun r=>putN_at⟩
end
noncomputable section
def FuOk (σ:Su) (fu:Nat→Option T):Prop:=∀ r u,fu r=some u→u=σ r
theorem FuOk.put {σ:Su} {fu:Nat→Option T} {x:Nat} {t:T} (h:FuOk σ fu) (e:t=σ x):FuOk σ (putN fu x t):=fun r u hu=>by
 rw [putN_at] at hu
 split at hu
 ·rename_i hr;cases hu;rw [hr];exact e
 ·exact h r u hu
theorem value_c (K:CB):∀ (N:Nat) (s:CS) (σ:Su) (x:Nat),CI s.up s.sh σ→Up s.up x x→(σ x).nodes≤N→FuOk σ s.fu→
 Spec Tryz.prog 266 [cptr K,nv x] (CA K s) fun r A'=>∃ up' fu',r=vT (σ x)∧A'=CA K ⟨up',s.sh,s.co,s.sz,fu'⟩∧More s.up up' (fun _=>False)∧FuOk σ fu':=by
 intro N
 induction N using Nat.strongRecOn with
 | _ N ih=>
  intro s σ x hc hx hN hf
  have hid:More s.up s.up fun _=>False:=.refl hc.desc hc.met fun _ h=>h.elim
  refine sp Tryz.func266 rfl Tryz.ntmps266 rfl rfl fun C=>?_
  cases hfu:s.fu x with
  | some u=>
   have hu:u=σ x:=hf x u hfu
   subst hu
   have f1:upI s.fu (x:Int)=some (σ x):=by rw [upI_nat,hfu]
   (repeat' first|(refine kk ?_;intros)|refine kfk ?_ ?_<;>intro hb|fail)
   exact kerC _ ⟨s.up,s.fu,rfl,rfl,hid,hf⟩ (.refl _)
  | none=>
   have f1:upI s.fu (x:Int)=none:=by rw [upI_nat,hfu]
   cases hs:s.sh x with
   | none=>
    have f2:upI (shdOf s.sh) (x:Int)=none:=by rw [upI_nat,shdOf,hs];rfl
    have ex:σ x=.var x:=hc.sem.free x hx hs
    (repeat' first|(refine kkn ?_;intros)|refine kfk ?_ ?_<;>intro hb|fail)
    refine kpar 6 ?_
    (repeat' first|(refine kkn ?_;intros)|refine kfk ?_ ?_<;>intro hb|fail)
    refine kduN (enc:=vT) 10 (m:=x) (v:=.var x) ?_
    (repeat' first|(refine kk ?_;intros)|refine kfk ?_ ?_<;>intro hb|fail)
    refine kerC _ ⟨s.up,putN s.fu x (.var x),rfl,rfl,hid,hf.put ex.symm⟩ ?_
    rw [ex];exact .refl _
   | some t=>
    have f2:upI (shdOf s.sh) (x:Int)=some ():=by rw [upI_nat,shdOf,hs];rfl
    have f3:upI s.sh (x:Int)=some t:=by rw [upI_nat,hs]
    have ex:σ x=t.sub σ:=hc.sem.says.shp x t hx hs
    have hlt:∀ v,t.Occ v→(σ v).nodes < (σ x).nodes:=fun v hv=>by
     have:=strict_nodes (σ:=σ) hv (fun m=>hc.sem.flat x t m hx hs)
     rw [ex];omega
    (repeat' first|(refine kkn ?_;intros)|refine kfk ?_ ?_<;>intro hb|fail)
    refine kcs (A1:=[_,_,_]) (h:=mapVars_c (g:=298) (cap:=[.pointer (some ⟨_,0,none⟩)]) (by rfl) (fun A=>∃ up' fu',A=pbox _ K::CA K ⟨up',s.sh,s.co,s.sz,fu'⟩∧More s.up up' (fun _=>False)∧FuOk σ fu') σ (fun _=>true) t _ ?_ ⟨s.up,s.fu,rfl,hid,hf⟩) ?_
    ·rintro v A hv ⟨up',fu',rfl,m1,hf'⟩
     have mv:up' v≠none:=(m1.dom v).2 (.inl (hc.known x t hx hs v hv))
     refine sp Tryz.func298 rfl Tryz.ntmps298 rfl rfl fun C=>?_
     (repeat' first|(refine kkn ?_;intros)|refine kfk ?_ ?_<;>intro hb|fail)
     refine kmix 5 [0,1,2] [3,4] [pbox _ K] ?_ (hB:=Has.two)
     (repeat (refine kkc ?_))
     refine kacs (A1:=[_,_]) (h:=root_c K ⟨up',s.sh,s.co,s.sz,fu'⟩ m1.desc m1.met v) ?_
     rintro _ A' ⟨y,up2,rfl,h1,m2',rfl⟩
     refine ⟨Has.two,?_⟩
     have m2:More up' up2 (fun _=>False):=m2'.had fun u hu=>by rw [hu];exact mv
     have m3:More s.up up2 (fun _=>False):=m1.trans m2 fun _=>by simp
     have h1':Up s.up v y:=(m1.same v y).2 h1
     have hσ:σ v=σ y:=hc.sem.says.cls v y h1'
     refine kacs (A1:=[_,_]) (h:=ih (σ y).nodes (by rw [← hσ];have:=hlt v hv;omega) ⟨up2,s.sh,s.co,s.sz,fu'⟩ σ y (hc.more m3) ((m3.same y y).1 h1'.root) (Nat.le_refl _) hf') ?_
     rintro _ A' ⟨up3,fu3,rfl,rfl,m4,hf3⟩
     rw [← hσ]
     refine ⟨Has.two,?_⟩
     (repeat (refine kkc ?_))
     (repeat' first|(refine kk ?_;intros)|refine kfk ?_ ?_<;>intro hb|fail)
     exact kerC2 ⟨rfl,up3,fu3,rfl,m3.trans m4 fun _=>by simp,hf3⟩ (.refl _) (.refl _)
    ·rintro u A' ⟨hu,up',fu',rfl,m1,hf'⟩
     have e:u=vT (σ x):=by
      rw [hu,ex]
      rfl
     subst e
     clear hu
     (repeat' first|(refine kkn ?_;intros)|refine kfk ?_ ?_<;>intro hb|fail)
     refine kpar 6 ?_
     (repeat' first|(refine kkn ?_;intros)|refine kfk ?_ ?_<;>intro hb|fail)
     refine kduN (enc:=vT) 10 (m:=x) (v:=σ x) ?_
     (repeat' first|(refine kk ?_;intros)|refine kfk ?_ ?_<;>intro hb|fail)
     exact kerC _ ⟨up',putN fu' x (σ x),rfl,rfl,m1,hf'.put rfl⟩ (.refl _)
end
noncomputable section
def cs0:CS:=⟨fun _=>none,fun _=>none,fun _=>none,fun _=>none,fun _=>none⟩
theorem newClasses_c:Spec Tryz.prog 218 [] [] fun r A'=>∃ K:CB,r=cptr K∧A'=CA K cs0:=by
 refine sp Tryz.func218 rfl Tryz.ntmps218 rfl rfl fun C=>?_
 (repeat' first|(refine kk ?_;intros)|refine kfk ?_ ?_<;>intro hb|fail)
 refine kmmN nv ?_
 intro b1
 refine kmmN vT ?_
 intro b2
 refine kmmN setv ?_
 intro b3
 refine kmmN nv ?_
 intro b4
 refine kmmN nv ?_
 intro b5
 refine kmmN vT ?_
 intro b6
 (repeat' first|(refine kk ?_;intros)|refine kfk ?_ ?_<;>intro hb|fail)
 rename_i b7
 refine ker1P _ (A'':=CA ⟨b7,b1,b2,b3,b4,b5,b6⟩ cs0) ⟨⟨b7,b1,b2,b3,b4,b5,b6⟩,rfl,rfl⟩ ?_
 exact List.Perm.cons _ (List.reverse_perm [amap kvI b6 (gm vT (upI fun _=>none)),amap kvI b5 (gm nv (upI fun _=>none)),amap kvI b4 (gm nv (upI fun _=>none)),amap kvI b3 (gm setv (upI fun _=>none)),amap kvI b2 (gm vT (upI fun _=>none)),amap kvI b1 (gm nv (upI fun _=>none))])
def optS:Option Sb→AV
 | some s=>.tup [vS s,bv true]
 | none=>.tup [bsv [],bv false]
def setOf (l:List Nat):Nat→Option Unit:=fun v=>if v∈l then some () else none
theorem setOf_snoc {l:List Nat} {v:Nat}:putN (setOf l) v ()=setOf (l++[v]):=by
 funext w
 unfold putN setOf
 by_cases h:w=v
 ·simp [h]
 ·simp [h]
def encB0 (v:Nat):List D:=[.v (.int .i64 v),.v (.int .i64 0),.v (.int .i64 0),.v (.string noS),.v (.slice none 0 0)]
structure SolP (s:CS) (σ:Su) (s':CS):Prop where
 sh:s'.sh=s.sh
 fu:s'.fu=fun _=>none
 up:More s.up s'.up fun _=>False
 old:∀ r n,s'.co r=some n→n=2
 blk:∀ r,s'.co r=some 2→s'.sz r=some (cut (σ r))
theorem optS_none {U:Su→Prop} (h:mg U=none):AV.tup [bsv [],bv false]=optS (mg U):=by rw [h];rfl
theorem solved_c (K:CB) (s:CS) (σ:Su) (U:Su→Prop) (Dm:List Nat) (hc:CI s.up s.sh σ) (hU:Can U σ) (hD:Dm.Pairwise (· < ·)) (hdom:∀ v,v∈Dm↔s.up v≠none) (hlen:Dm.length≤1000000) (hco:s.co=fun _=>none) (hfu:s.fu=fun _=>none) :
 Spec Tryz.prog 222 [cptr K] (CA K s) fun r A'=>r=optS (mg U)∧A'=[]:=by
 refine sp Tryz.func222 rfl Tryz.ntmps222 rfl rfl fun C=>?_
 (repeat' first|(refine kkz ?_;intros)|refine kfk ?_ ?_<;>intro hb|fail)
 refine kmmN setv ?_
 intro ms
 (repeat' first|(refine kkz ?_;intros)|refine kfk ?_ ?_<;>intro hb|fail)
 refine krg 2 ?_
 intro q T
 (repeat' first|(refine kkz ?_;intros)|refine kfk ?_ ?_<;>intro hb|fail)
 refine kloop (ι:=List Nat) (fun l=>T - l.length) (fun l=>[(17,.one (.v (.pointer (some ⟨q,0,none⟩)))),(4,.one (.v (.map (some ms)))),(0,cptr K)]) (fun l=>setA ms (setOf l)::K.box::amapI kvI K.up q (gm nv (upI s.up)) T (l.map fun n:Nat=>(n:Int))::(CA K s).drop 2) (fun l=>l.length≤T∧l.Nodup∧∀ v∈l,v∈Dm) [] ⟨Nat.zero_le _,by simp,by simp⟩ ?_
 rintro l ⟨h1,h2,h3⟩
 (repeat' first|(refine kkz ?_;intros)|refine kfk ?_ ?_<;>intro hb|fail)
 refine knx 2 ?_ ?_
 ·intro e1 _ _
  have hset:setOf l=setOf Dm:=by
   funext v
   unfold setOf
   by_cases hv:v∈Dm
   ·rw [if_pos hv,if_pos]
    have hg:gm nv (upI s.up) (v:Int)≠none:=by
     unfold gm;rw [upI_nat]
     have:=(hdom v).1 hv
     simpa using this
    obtain ⟨x,hx,e⟩:=List.mem_map.1 (e1 _ hg)
    rwa [← Int.ofNat_inj.1 e]
   ·rw [if_neg hv,if_neg fun h=>hv (h3 v h)]
  (repeat' first|(refine kkz ?_;intros)|refine kfk ?_ ?_<;>intro hb|fail)
  refine kunO 2 ?_
  rw [hset]
  (repeat' first|(refine kkz ?_;intros)|refine kfk ?_ ?_<;>intro hb|fail)
  refine kcs (A1:=CA K s) (h:=sortedInts_c (c:=setOf Dm) ⟨hD,fun v=>by unfold setOf;by_cases h:v∈Dm<;>simp [h]⟩ hlen ms) ?_ (hA:=(List.perm_append_singleton (setA ms (setOf Dm)) (CA K s)).symm)
  rintro _ _ ⟨rfl,rfl⟩
  (repeat' first|(refine kkz ?_;intros)|refine kfk ?_ ?_<;>intro hb|fail)
  rename_i u0
  have hmem:∀ v,Bnd σ v→v∈Dm:=fun v hv=>(hdom v).2 fun e=>hv (free_unmet hc e)
  refine kfor (ι:=Value × CS) Dm (fun j q=>[(27,.one (.s 1 (Dm.map encN))),(0,cptr K),(7,.one (.v q.1))]) (fun j q=>arow 183 5 q.1 ((outS σ (Dm.take j)).map fun b=>encB0 b.1)::CA K q.2) (fun j q=>SolP s σ q.2∧(∀ v∈Dm.take j,Bnd σ v→(σ v).nodes≤5000)∧(outS σ (Dm.take j)).length≤400) (u0,s) ⟨⟨rfl,hfu,.refl hc.desc hc.met fun _ h=>h.elim,fun r n h=>(by rw [hco] at h;cases h),fun r h=>(by rw [hco] at h;cases h)⟩,by simp,by simp [outS]⟩ ?_ ?_
  ·rintro j v ⟨u,s'⟩ hj hd hjl ⟨hp,hsm,hl4⟩
   simp only at hp hsm hl4
   have hrow:(Dm.map encN)[j]?=some (encN v):=by simp [hj]
   have hvD:v∈Dm:=List.mem_of_getElem? hj
   have hup:s'.up v≠none:=(hp.up.dom v).2 (.inl ((hdom v).1 hvD))
   have htk:Dm.take (j+1)=Dm.take j++[v]:=by rw [List.take_add_one,hj];rfl
   (repeat' first|(refine kkz ?_;intros)|refine kfk ?_ ?_<;>intro hb|fail)
   refine kcs (A1:=[_]) (h:=root_c K s' hp.up.desc hp.up.met v) ?_
   rintro _ _ ⟨x,up2,rfl,g1,m1',rfl⟩
   have m1:More s'.up up2 (fun _=>False):=m1'.had fun u hu=>by rw [hu];exact hup
   have m2:More s.up up2 (fun _=>False):=hp.up.trans m1 fun _=>by simp
   have hx:Up s.up v x:=(hp.up.same v x).2 g1
   have hσ:σ v=σ x:=hc.sem.says.cls v x hx
   have hci:CI (s'.setUp up2).up (s'.setUp up2).sh σ:=by
    have:=hc.more m2
    rwa [show s.sh=(s'.setUp up2).sh from hp.sh.symm] at this
   (repeat' first|(refine kkz ?_;intros)|refine kfk ?_ ?_<;>intro hb|fail)
   refine kcs (A1:=[_]) (h:=weigh_c K (σ x).nodes (s'.setUp up2) σ x hci ((m2.same x x).1 hx.root) (Nat.le_refl _) hp.blk fun r n hn=>.inl (hp.old r n hn)) ?_
   rintro _ _ ⟨s3,rfl,rfl,w3,hx3⟩
   have hp3:SolP s σ s3:=⟨w3.sh.trans hp.sh,w3.fu.trans hp.fu,m2.trans w3.up fun _=>by simp,fun r n hn=>(w3.old r n hn).elim id fun ⟨_,e⟩=>(by have:=hp.old r 1 e;cases this),w3.blk⟩
   have hszx:s3.sz x=some (cut (σ x)):=w3.blk x hx3
   have f5:upI s3.sz (x:Int)=some (cut (σ x)):=by rw [upI_nat,hszx]
   have hbi:=bnd_iff hc hx
   by_cases hfree:x=v∧s.sh x=none
   ·obtain ⟨rfl,hs⟩:=hfree
    have hnb:¬ Bnd σ x:=fun h=>hbi.1 h ⟨rfl,hs⟩
    have f2:upI (shdOf s3.sh) (x:Int)=none:=by rw [upI_nat,shdOf,hp3.sh,hs];rfl
    have ho:outS σ (Dm.take (j+1))=outS σ (Dm.take j):=by rw [htk,outS_snoc_free hnb]
    (repeat' first|(refine kkz ?_;intros)|refine kfk ?_ ?_<;>intro hb|fail)
    refine ⟨(u,s3),⟨hp3,fun w hw hb=>?_,by rw [ho];exact hl4⟩,?_⟩
    ·rw [htk] at hw
     rcases List.mem_append.1 hw with hw|hw
     ·exact hsm w hw hb
     ·simp at hw;subst hw;exact absurd hb hnb
    ·simp only [ho]
     exact kwk
   ·have hbv:Bnd σ v:=hbi.2 hfree
    have ho:outS σ (Dm.take (j+1))=outS σ (Dm.take j)++[(v,σ v)]:=by rw [htk,outS_snoc_bnd hbv]
    have hsplit:(x=v→∃ t,s.sh x=some t):=fun e=>by
     cases hs:s.sh x with
     | none=>exact absurd ⟨e,hs⟩ hfree
     | some t=>exact ⟨t,rfl⟩
    have hgo:∀ u3:Value,(∀ v'∈Dm.take (j+1),Bnd σ v'→(σ v').nodes≤5000)∨5000 < (σ x).nodes:=fun _=>by
     by_cases h5:(σ x).nodes≤5000
     ·left
      intro w hw hb
      rw [htk] at hw
      rcases List.mem_append.1 hw with hw|hw
      ·exact hsm w hw hb
      ·simp at hw;subst hw;rw [hσ];exact h5
     ·right;omega
    have big1:5000 < (σ x).nodes→mg U=none:=fun h5=>mg_big hU (big_size hbv (by rw [hσ];exact h5))
    have big2:400 < (outS σ (Dm.take j)).length+1→mg U=none:=fun h=>mg_big hU (big_len (D:=Dm.take (j+1)) (hD.sublist (List.take_sublist _ _)) (by rw [ho];simpa using h))
    have h5c:(5000 < (σ x).nodes∧(cut (σ x):Int)=5001)∨((σ x).nodes≤5000∧(cut (σ x):Int)=(σ x).nodes):=by simp only [cut];omega
    by_cases hxv:x=v
    ·obtain ⟨t,hs⟩:=hsplit hxv
     have f2:upI (shdOf s3.sh) (x:Int)=some ():=by rw [upI_nat,shdOf,hp3.sh,hs];rfl
     (repeat' first|(refine kkz ?_;intros)|refine kfk ?_ ?_<;>intro hb|fail)
     ·exact ker2 ⟨optS_none (big1 (by omega)),rfl⟩ (AV.le_one D.le_nil) (.refl _)
     ·exact ker2 ⟨optS_none (big2 (by simp at hb;omega)),rfl⟩ (AV.le_one D.le_nil) (.refl _)
     ·rename_i u3 _
      refine ⟨(u3,s3),⟨hp3,(hgo u3).resolve_right (by omega),by rw [ho];simp at *;omega⟩,?_⟩
      simp only [ho,List.map_append]
      exact kwk
    ·(repeat' first|(refine kkz ?_;intros)|refine kfk ?_ ?_<;>intro hb|fail)
     ·exact ker2 ⟨optS_none (big1 (by omega)),rfl⟩ (AV.le_one D.le_nil) (.refl _)
     ·exact ker2 ⟨optS_none (big2 (by simp at hb;omega)),rfl⟩ (AV.le_one D.le_nil) (.refl _)
     ·rename_i u3 _
      refine ⟨(u3,s3),⟨hp3,(hgo u3).resolve_right (by omega),by rw [ho];simp at *;omega⟩,?_⟩
      simp only [ho,List.map_append]
      exact kwk
  ·rintro ⟨u,s'⟩ ⟨hp,hsm,hl4⟩
   simp only [List.take_length] at hp hsm hl4
   rw [List.take_length]
   (repeat' first|(refine kkz ?_;intros)|refine kfk ?_ ?_<;>intro hb|fail)
   refine kfor (ι:=CS) (outS σ Dm) (fun j q=>[(0,cptr K),(7,.one (.v u))]) (fun j q=>arow 183 5 u ((((outS σ Dm).take j).map toB).map encB++((outS σ Dm).drop j).map fun b=>encB0 b.1)::CA K q) (fun j q=>q.sh=s.sh∧More s.up q.up (fun _=>False)∧FuOk σ q.fu) s' ⟨hp.sh,hp.up,by rw [hp.fu];intro r u h;cases h⟩ ?_ ?_
   ·rintro j ⟨v,t⟩ s4 hj hd hjl ⟨g1,g2,g3⟩
    refine krowA 0 rfl (by intro e;have:=congrArg List.length e;simp at this;omega) fun b c' hu=>?_
    subst hu
    have hrow:((((outS σ Dm).take j).map toB).map encB++((outS σ Dm).drop j).map fun b=>encB0 b.1)[j]?=some (encB0 v):=by
     rw [List.getElem?_append_right (by simp;omega),hd]
     simp [Nat.min_eq_left (Nat.le_of_lt hjl)]
    have hv:v∈Dm∧Bnd σ v∧t=σ v:=by have:=mem_outS.1 (List.mem_of_getElem? hj);exact this
    have hup:s4.up v≠none:=(g2.dom v).2 (.inl ((hdom v).1 hv.1))
    have hset:((((outS σ Dm).take j).map toB).map encB++((outS σ Dm).drop j).map fun b=>encB0 b.1).set j (encB (toB (v,t)))=(((outS σ Dm).take (j+1)).map toB).map encB++((outS σ Dm).drop (j+1)).map fun b=>encB0 b.1:=by
     rw [List.set_append_right _ _ (by simp;omega),hd,List.take_add_one,hj]
     simp [Nat.min_eq_left (Nat.le_of_lt hjl)]
    (repeat' first|(refine kkz ?_;intros)|refine kfk ?_ ?_<;>intro hb|fail)
    refine kr ?_ (h:=P_load1R (j:=j) (o:=0) (sz:=5) _ rfl (by repeat (first|exact List.Mem.head _|apply List.Mem.tail)) hrow rfl)
    refine kcs (A1:=[_]) (h:=root_c K s4 g2.desc g2.met v) ?_
    rintro _ _ ⟨x,up2,rfl,e1,m1',rfl⟩
    have m1:More s4.up up2 (fun _=>False):=m1'.had fun u hu=>by rw [hu];exact hup
    have m2:More s.up up2 (fun _=>False):=g2.trans m1 fun _=>by simp
    have hx:Up s.up v x:=(g2.same v x).2 e1
    have hσ:σ v=σ x:=hc.sem.says.cls v x hx
    have hci:CI (s4.setUp up2).up (s4.setUp up2).sh σ:=by
     have:=hc.more m2
     rwa [show s.sh=(s4.setUp up2).sh from g1.symm] at this
    refine kcs (A1:=[_]) (h:=value_c K (σ x).nodes (s4.setUp up2) σ x hci ((m2.same x x).1 hx.root) (Nat.le_refl _) g3) ?_
    rintro _ _ ⟨up3,fu3,rfl,rfl,m3,g4⟩
    (repeat' first|(refine kkz ?_;intros)|refine kfk ?_ ?_<;>intro hb|fail)
    rw [← hσ,← hv.2.2]
    refine AO_o rfl rfl (O_storeRowP 0 j 1 _ _ rfl rfl rfl rfl rfl hrow (by show 1+4≤5;omega)) ?_
    rintro _ _ ⟨rfl,rfl⟩
    (repeat' first|(refine kkz ?_;intros)|refine kfk ?_ ?_<;>intro hb|fail)
    refine ⟨⟨up3,s4.sh,s4.co,s4.sz,fu3⟩,⟨g1,m2.trans m3 fun _=>by simp,g4⟩,?_⟩
    rw [← hset]
    exact kwk
   ·rintro s4 ⟨g1,g2,g3⟩
    rw [List.take_length,List.drop_length,List.map_nil,List.append_nil]
    repeat refine kc ?_
    refine kfO 0 7 ?_
    (repeat' first|(refine kkz ?_;intros)|refine kfk ?_ ?_<;>intro hb|fail)
    have hmg:mg U=some (outS σ Dm):=mg_outS hU hD hmem hl4 hsm
    exact ker2 ⟨by rw [hmg];rfl,rfl⟩ (.refl _) (.refl _)
 ·intro m hm hg hT
  obtain ⟨n,rfl,hn⟩:∃ n:Nat,m=n∧s.up n≠none:=by
   unfold gm upI at hg
   by_cases h0:0≤m
   ·rw [if_pos h0] at hg
    exact ⟨m.toNat,by omega,fun e=>hg (by rw [e];rfl)⟩
   ·rw [if_neg h0] at hg;exact absurd rfl hg
  obtain ⟨x,hx⟩:∃ x,s.up n=some x:=by cases h:s.up n with
   | none=>exact absurd h hn
   | some x=>exact ⟨x,rfl⟩
  have hgn:gm nv (upI s.up) (n:Int)=some (nv x):=by unfold gm;rw [upI_nat,hx];rfl
  (repeat' first|(refine kkz ?_;intros)|refine kfk ?_ ?_<;>intro hb|fail)
  refine kr ?_ (h:=P_entry (ka:=iv) _ rfl (by repeat (first|exact List.Mem.head _|apply List.Mem.tail)) hgn)
  (repeat' first|(refine kkz ?_;intros)|refine kfk ?_ ?_<;>intro hb|fail)
  refine kmuN (enc:=setv) 0 (m:=n) (v:=()) ?_
  (repeat' first|(refine kkz ?_;intros)|refine kfk ?_ ?_<;>intro hb|fail)
  refine ⟨l++[n],?_,⟨?_,?_,?_⟩,?_⟩
  ·simp at hT ⊢;omega
  ·simp at hT ⊢;omega
  ·rw [List.nodup_append]
   refine ⟨h2,by simp,fun a ha b hb e=>hm ?_⟩
   simp at hb;subst hb;subst e
   exact List.mem_map.2 ⟨_,ha,rfl⟩
  ·intro x hx
   rcases List.mem_append.1 hx with hx|hx
   ·exact h3 x hx
   ·simp at hx;subst hx;exact (hdom _).2 hn
  ·rw [List.map_append,← setOf_snoc]
   exact kwk
end
noncomputable section
structure SolI (s:CS) (E:List (T × T)):Prop where
 ci:∃ σ,CI s.up s.sh σ
 says:∀ τ,Says s.up s.sh τ↔∀ e∈E,e.1.sub τ=e.2.sub τ
 co:s.co=fun _=>none
 fu:s.fu=fun _=>none
 bd:∀ v,s.up v≠none→v < 100001
theorem SolI.desc {s:CS} {E:List (T × T)} (h:SolI s E):Desc s.up:=by obtain ⟨σ,h⟩:=h.ci;exact h.desc
theorem SolI.met {s:CS} {E:List (T × T)} (h:SolI s E):Met s.up:=by obtain ⟨σ,h⟩:=h.ci;exact h.met
theorem SolI.zero:SolI cs0 []:=⟨⟨_,ci_none⟩,fun τ=>⟨fun _ _ h=>by simp at h,fun _=>says_none τ⟩,rfl,rfl,fun v h=>absurd rfl h⟩
theorem SolI.more {s:CS} {E:List (T × T)} {up:Nat→Option Nat} {N:Nat→Prop} (h:SolI s E) (m:More s.up up N) (hN:∀ w,N w→w < 100001):SolI (s.setUp up) E:=by
 obtain ⟨σ,hc⟩:=h.ci
 refine ⟨⟨σ,hc.more m⟩,fun τ=>?_,h.co,h.fu,fun v hv=>?_⟩
 ·rw [← h.says]
  exact ⟨fun k=>k.same m.same.symm,fun k=>k.same m.same⟩
 ·exact ((m.dom v).1 hv).elim (h.bd v) (hN v)
theorem SolI.eqn {s:CS} {E:List (T × T)} {a b:T} {up':Nat→Option Nat} {sh':Nat→Option T} {B:Nat} (h:SolI s E) (k:EqR B s.up s.sh a b true up' sh'):SolI ((s.setSh sh').setUp up') (E++[(a,b)]):=by
 obtain ⟨h1,h2,_⟩:=k.yes rfl
 refine ⟨h1,fun τ=>?_,h.co,h.fu,fun v hv=>h.bd v ((k.dom v).1 hv)⟩
 show Says up' sh' τ↔_
 rw [h2,h.says]
 simp only [List.mem_append,List.mem_singleton]
 constructor
 ·rintro ⟨h1,h2⟩ e (he|rfl)
  ·exact h1 e he
  ·exact h2
 ·exact fun h=>⟨fun e he=>h e (.inl he),h _ (.inr rfl)⟩
theorem SolI.dead {s:CS} {E:List (T × T)} {a b:T} {up':Nat→Option Nat} {sh':Nat→Option T} {B:Nat} {U:Su→Prop} (h:SolI s E) (k:EqR B s.up s.sh a b false up' sh') (hU:∀ τ,U τ→∀ e∈E++[(a,b)],e.1.sub τ=e.2.sub τ):mg U=none:=mg_none_of fun τ ht=>by
 have h1:=hU τ ht
 exact k.no rfl τ ((h.says τ).2 fun e he=>h1 e (by simp [he])) (h1 (a,b) (by simp))
abbrev eqL (s:Sb) (l r:List T):List (T × T):=eqB s++l.zip r
theorem eqs_eqL {s:Sb} {l r:List T} {τ:Su}:eqs s (l.zip r) τ↔∀ e∈eqL s l r,e.1.sub τ=e.2.sub τ:=by
 unfold eqs eqL eqB
 simp only [List.mem_append,List.mem_map]
 constructor
 ·rintro ⟨h1,h2⟩ e (⟨b,hb,rfl⟩|he)
  ·exact h1 b hb
  ·exact h2 e he
 ·exact fun h=>⟨fun b hb=>h (.var b.1,b.2) (.inl ⟨b,hb,rfl⟩),fun e he=>h e (.inr he)⟩
abbrev FitS (s:Sb):Prop:=∀ b∈s,b.1≤100000∧b.2.fit
instance solution_c:Con3 Tryz.prog 181 Sb (List T) (List T) vS vTs vTs (fun s l r=>optS (mg (eqs s (l.zip r)))) (fun s l r=>FitS s∧(∀ t∈l,t.fit)∧(∀ t∈r,t.fit)∧l.length=r.length∧Lng s.length∧Lng l.length):=⟨fun s l r ⟨hs,hl,hr,hlr,hls,hll⟩=>by
 refine Spec.pu ?_
 refine sp Tryz.func181 rfl Tryz.ntmps181 rfl rfl fun C=>?_
 (repeat' first|(refine kk ?_;intros)|refine kfk ?_ ?_<;>intro hb|fail)
 refine kcs (A1:=[]) (h:=newClasses_c) ?_
 rintro _ _ ⟨K,rfl,rfl⟩
 (repeat' first|(refine kk ?_;intros)|refine kfk ?_ ?_<;>intro hb|fail)
 have hslen:((s.map toB).map encB).length=s.length:=by simp
 refine kfor (ι:=CS) s (fun j q=>[(8,cptr K),(13,vS s),(1,vTs l),(2,vTs r)]) (fun j q=>CA K q) (fun j q=>SolI q (eqB (s.take j))) cs0 SolI.zero ?_ ?_
 ·rintro j ⟨v,t⟩ q hj hd hjl hq
  have hb:=hs _ (List.mem_of_getElem? hj)
  have hrow:((s.map toB).map encB)[j]?=some (encB (toB (v,t))):=by simp [hj]
  (repeat' first|(refine kk ?_;intros)|refine kfk ?_ ?_<;>intro hb|fail)
  refine kcs (A1:=[_]) (h:=root_c K q hq.desc hq.met v) ?_
  rintro _ _ ⟨x,up1,rfl,g1,m1,rfl⟩
  have hq1:=hq.more m1 fun w hw=>by subst hw;have:=hb.1;omega
  (repeat' first|(refine kk ?_;intros)|refine kfk ?_ ?_<;>intro hb|fail)
  refine kcs (A1:=[_]) (h:=meet_c K (q.setUp up1) hq1.desc hq1.met t) ?_
  rintro _ _ ⟨up2,m2,rfl⟩
  have hq2:=hq1.more m2 fun w hw=>by have:=hb.2.1 w hw;omega
  obtain ⟨σ,hc⟩:=hq2.ci
  have hE:eqB (s.take (j+1))=eqB (s.take j)++[(.var v,t)]:=by unfold eqB;rw [List.take_add_one,hj];simp
  have hlv:∀ w,(T.var v).Occ w→((q.setUp up1).setUp up2).up w≠none:=fun w hw=>by
   have hw:v=w:=hw
   subst hw
   exact (m2.dom v).2 (.inl ((m1.dom v).2 (.inr rfl)))
  (repeat' first|(refine kkn ?_;intros)|refine kfk ?_ ?_<;>intro hb|fail)
  refine kpar 6 ?_
  (repeat' first|(refine kkn ?_;intros)|refine kfk ?_ ?_<;>intro hb|fail)
  refine kdcs (A1:=[_]) (h:=equal_c K 100001 ((q.setUp up1).setUp up2) σ (.var v) t ⟨hc,hlv,fun w hw=>(m2.dom w).2 (.inr hw),hq2.bd⟩) ?_
  rintro _ _ ⟨ok,up3,sh3,rfl,heq,rfl⟩
  cases ok with
  | false=>
   have hn:mg (eqs s (l.zip r))=none:=hq2.dead heq fun τ hτ e he=>by
    rw [← hE] at he
    refine eqs_eqL.1 hτ e (List.mem_append_left _ ?_)
    obtain ⟨b,hb,rfl⟩:=List.mem_map.1 he
    exact List.mem_map.2 ⟨b,List.mem_of_mem_take hb,rfl⟩
   (repeat' first|(refine kk ?_;intros)|refine kfk ?_ ?_<;>intro hb|fail)
   exact ker2 ⟨optS_none hn,rfl⟩ (AV.le_one D.le_nil) (.refl _)
  | true=>
   have hq3:=hq2.eqn heq
   rw [← hE] at hq3
   (repeat' first|(refine kk ?_;intros)|refine kfk ?_ ?_<;>intro hb|fail)
   exact ⟨_,hq3,kwk⟩
 ·intro q hq
  rw [List.take_length] at hq
  have hllen:(rowsT (l.map T.tm)).length=l.length:=by rw [rowsT_len,List.length_map]
  (repeat' first|(refine kk ?_;intros)|refine kfk ?_ ?_<;>intro hb|fail)
  refine kfor (ι:=CS) l (fun j q=>[(8,cptr K),(1,vTs l),(2,vTs r)]) (fun j q=>CA K q) (fun j q=>SolI q (eqB s++(l.zip r).take j)) q (by simpa using hq) ?_ ?_
  ·rintro j a q hj hd hjl hq
   obtain ⟨b,hb⟩:∃ b,r[j]?=some b:=⟨r[j]'(by omega),List.getElem?_eq_getElem (by omega)⟩
   have r1:(l.map T.tm)[j]?=some a.tm:=by simp [hj]
   have r2:(r.map T.tm)[j]?=some b.tm:=by simp [hb]
   have fa:=hl a (List.mem_of_getElem? hj)
   have fb:=hr b (List.mem_of_getElem? hb)
   have hE:(l.zip r).take (j+1)=(l.zip r).take j++[(a,b)]:=by
    rw [List.take_add_one,(List.getElem?_zip_eq_some (z:=(a,b))).2 ⟨hj,hb⟩];rfl
   (repeat' first|(refine kk ?_;intros)|refine kfk ?_ ?_<;>intro hb|fail)
   refine kcs (A1:=[]) (h:=meet_c K q hq.desc hq.met a) ?_
   rintro _ _ ⟨up1,m1,rfl⟩
   have hq1:=hq.more m1 fun w hw=>by have:=fa.1 w hw;omega
   (repeat' first|(refine kk ?_;intros)|refine kfk ?_ ?_<;>intro hb|fail)
   refine kcs (A1:=[]) (h:=meet_c K (q.setUp up1) hq1.desc hq1.met b) ?_
   rintro _ _ ⟨up2,m2,rfl⟩
   have hq2:=hq1.more m2 fun w hw=>by have:=fb.1 w hw;omega
   obtain ⟨σ,hc⟩:=hq2.ci
   (repeat' first|(refine kkn ?_;intros)|refine kfk ?_ ?_<;>intro hb|fail)
   refine kpar 9 ?_
   (repeat' first|(refine kkn ?_;intros)|refine kfk ?_ ?_<;>intro hb|fail)
   refine kdcs (A1:=[]) (h:=equal_c K 100001 ((q.setUp up1).setUp up2) σ a b ⟨hc,fun w hw=>(m2.dom w).2 (.inl ((m1.dom w).2 (.inr hw))),fun w hw=>(m2.dom w).2 (.inr hw),hq2.bd⟩) ?_
   rintro _ _ ⟨ok,up3,sh3,rfl,heq,rfl⟩
   cases ok with
   | false=>
    have hn:mg (eqs s (l.zip r))=none:=hq2.dead heq fun τ hτ e he=>by
     rw [List.append_assoc,← hE] at he
     refine eqs_eqL.1 hτ e ?_
     rcases List.mem_append.1 he with he|he
     ·exact List.mem_append_left _ he
     ·exact List.mem_append_right _ (List.mem_of_mem_take he)
    (repeat' first|(refine kk ?_;intros)|refine kfk ?_ ?_<;>intro hb|fail)
    exact ker2 ⟨optS_none hn,rfl⟩ (AV.le_one D.le_nil) (.refl _)
   | true=>
    have hq3:=hq2.eqn heq
    rw [List.append_assoc,← hE] at hq3
    (repeat' first|(refine kk ?_;intros)|refine kfk ?_ ?_<;>intro hb|fail)
    exact ⟨_,hq3,kwk⟩
  ·intro q hq
   rw [List.take_of_length_le (by simp [hlr])] at hq
   obtain ⟨σ,hc⟩:=hq.ci
   have hmg:mg (fun τ=>∀ e∈eqL s l r,e.1.sub τ=e.2.sub τ)=mg (eqs s (l.zip r)):=mg_congr fun τ=>eqs_eqL.symm
   have hcan:Can (fun τ=>∀ e∈eqL s l r,e.1.sub τ=e.2.sub τ) σ:=hc.sem.can.congr hq.says
   (repeat' first|(refine kk ?_;intros)|refine kfk ?_ ?_<;>intro hb|fail)
   refine kcs (A1:=[]) (h:=solved_c K q σ _ ((List.range 100001).filter fun v=>(q.up v).isSome) hc hcan (List.pairwise_lt_range.sublist List.filter_sublist) (fun v=>?_) (Nat.le_trans (List.length_filter_le _ _) (by simp)) hq.co hq.fu) ?_
   ·simp only [List.mem_filter,List.mem_range,Option.isSome_iff_ne_none]
    exact ⟨fun h=>h.2,fun h=>⟨hq.bd v h,h⟩⟩
   rintro _ _ ⟨rfl,rfl⟩
   rw [hmg]
   cases mg (eqs s (l.zip r)) with
   | none=>
    (repeat' first|(refine kk ?_;intros)|refine kfk ?_ ?_<;>intro hb|fail)
    exact ker2 ⟨rfl,rfl⟩ (.refl _) (.refl _)
   | some x=>
    (repeat' first|(refine kk ?_;intros)|refine kfk ?_ ?_<;>intro hb|fail)
    exact ker2 ⟨rfl,rfl⟩ (.refl _) (.refl _)⟩
end
end Go.Proofs.YtejkllmoofdpjaaGreat
