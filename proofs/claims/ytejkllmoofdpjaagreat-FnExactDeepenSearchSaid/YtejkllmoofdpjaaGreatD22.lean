/- Parts of the proof: V33 V34 V35 V36 V37. -/
import Derived.Test.YtejkllmoofdpjaaGreatD21
namespace Go.Proofs.YtejkllmoofdpjaaGreat
open Go
set_option linter.all false
set_option maxRecDepth 100000
set_option maxHeartbeats 4000000
noncomputable section
abbrev bAV (b:Nat × T):AV:=.agg (encB (toB b))
theorem insS_cut:∀ {s:Sb} {v:Nat} {x:T} {k:Nat},k≤s.length→(∀ b∈s.take k,b.1≤v)→(∀ b∈s.drop k,v < b.1)→insS s v x=s.take k++(v,x)::s.drop k
 | [],v,x,k,hk,_,_=>by simp [insS]
 | (w,t)::s,v,x,0,_,_,h2=>by
  have:=h2 (w,t) (by simp)
  simp only at this
  simp [insS,this]
 | (w,t)::s,v,x,k+1,hk,h1,h2=>by
  have:=h1 (w,t) (by simp)
  simp only at this
  rw [insS,if_neg (by omega),insS_cut (k:=k) (by simpa using hk) (fun b hb=>h1 b (by simp [hb])) (fun b hb=>h2 b (by simpa using hb))]
  simp
theorem le_of_asc {s:Sb} (ha:Asc s) {k v:Nat} {b:Nat × T} (hk:s[k]?=some b) (hb:b.1≤v):∀ c∈s.take (k+1),c.1≤v:=fun c hc=>by
 obtain ⟨i,hi⟩:=List.getElem?_of_mem hc
 rw [List.getElem?_take] at hi
 split at hi
 ·rcases Nat.lt_or_ge i k with h|h
  ·have:=ha.lt hi hk h;omega
  ·obtain rfl:i=k:=by omega
   rw [hk] at hi;cases hi;exact hb
 ·cases hi
instance insert4_s:Con2 Tryz.prog 329 Sb (Nat × T) vS bAV (fun s b=>vS (insS s b.1 b.2)) (fun s _=>Asc s∧s.length≤1099511627776):=⟨fun s b ⟨ha,hl⟩=>by
 obtain ⟨v,x⟩:=b
 have hlen:((s.map toB).map encB).length=s.length:=by simp
 refine pu Tryz.func329 rfl Tryz.ntmps329 rfl rfl fun C=>?_
 (repeat' first|(refine kk ?_;intros)|refine kfk ?_ ?_<;>intro hb|fail)
 rename_i b0
 refine kloop (ι:=Nat) (fun k=>k) (fun k=>[(0,vS s),(3,.one (.v (.pointer (some ⟨b0,0,none⟩)))),(5,nv k)]) (fun _=>[abox b0 (encB (toB (v,x))) 183]) (fun k=>k≤s.length∧∀ b∈s.drop k,v < b.1) s.length ⟨Nat.le_refl _,by simp⟩ ?_
 rintro k ⟨h1,h2⟩
 have key:(∀ b∈s.take k,b.1≤v)→((((s.take k).map toB).map encB++[encB (toB (v,x))])++((s.drop k).map toB).map encB)=((insS s v x).map toB).map encB:=fun g1=>by
  rw [insS_cut h1 g1 h2];simp
 have tk:((s.map toB).map encB).take k=((s.take k).map toB).map encB:=by simp
 have dk:((s.map toB).map encB).drop k=((s.drop k).map toB).map encB:=by simp
 by_cases hk:0 < k
 ·obtain ⟨⟨w,t⟩,hy⟩:∃ y,s[k - 1]?=some y:=⟨s[k - 1]'(by omega),List.getElem?_eq_getElem (by omega)⟩
  have hrow:((s.map toB).map encB)[k - 1]?=some (encB (toB (w,t))):=by simp [hy]
  by_cases hw:w≤v
  ·have hw':¬ (v:Int) < w:=by omega
   (repeat' first|(refine kkz ?_;intros)|refine kfk ?_ ?_<;>intro hb|fail)
   refine kr1 (rvR ?_)
   have:=key (by have:=le_of_asc ha hy hw;rwa [show k - 1+1=k by omega] at this)
   simpa using this
  ·have hw':(v:Int) < w:=by omega
   (repeat' first|(refine kkz ?_;intros)|refine kfk ?_ ?_<;>intro hb|fail)
   refine ⟨k - 1,by omega,⟨by omega,fun b hb=>?_⟩,kwk⟩
   rw [List.drop_eq_getElem_cons (by omega),show k - 1+1=k by omega] at hb
   rcases List.mem_cons.1 hb with rfl|hb
   ·have:=(List.getElem?_eq_some_iff.1 hy).2;rw [this];simp only;omega
   ·exact h2 b hb
 ·obtain rfl:k=0:=by omega
  (repeat' first|(refine kkz ?_;intros)|refine kfk ?_ ?_<;>intro hb|fail)
  refine kr1 (rvR ?_)
  have:=key (by simp)
  simpa using this⟩
theorem bindP_cond {s:Sb} {v:Nat} {t:T} (h:¬ ((t.sub (suOf s)).nodes≤5000∧¬ (t.sub (suOf s)).Occ v∧s.length < 400)):bindP s v t=none:=by
 unfold bindP
 rw [if_neg]
 rintro ⟨h1,h2,h3⟩
 exact h ⟨h1,fun ho=>(by rw [occB_iff.2 ho] at h2;cases h2),h3⟩
theorem bindP_big {s:Sb} {v:Nat} {t:T} {b:Nat × T} (hb:b∈s) (h:¬ (putT v (t.sub (suOf s)) b.2).nodes≤5000):bindP s v t=none:=by
 unfold bindP
 split
 ·rw [if_neg]
  intro ha
  exact h (by simpa using List.all_eq_true.1 ha b hb)
 ·rfl
theorem bindP_yes {s:Sb} {v:Nat} {t:T} (h1:(t.sub (suOf s)).nodes≤5000) (h2:¬ (t.sub (suOf s)).Occ v) (h3:s.length < 400) (h:∀ b∈s,(putT v (t.sub (suOf s)) b.2).nodes≤5000):bindP s v t=some (insS (s.map fun b=>(b.1,putT v (t.sub (suOf s)) b.2)) v (t.sub (suOf s))):=by
 unfold bindP
 rw [if_pos ⟨h1,by cases ho:occB v (t.sub (suOf s)) with
  | false=>rfl
  | true=>exact absurd (occB_iff.1 ho) h2,h3⟩,if_pos (List.all_eq_true.2 fun b hb=>by simpa using h b hb)]
theorem optS_no {o:Option Sb} (h:o=none):AV.tup [bsv [],bv false]=optS o:=by rw [h];rfl
theorem optS_yes {o:Option Sb} {x:Sb} (h:o=some x):AV.tup [vS x,bv true]=optS o:=by rw [h];rfl
abbrev mapP (v:Nat) (x:T) (s:Sb):Sb:=s.map fun b=>(b.1,putT v x b.2)
instance bind_s:Con3 Tryz.prog 289 Sb Nat T vS nv vT (fun s v t=>optS (bindP s v t)) (fun s v t=>Asc s∧s.length≤400∧FitS s∧t.fit):=⟨fun s v t ⟨ha,hl,hs,ht⟩=>by
 have hlen:((s.map toB).map encB).length=s.length:=by simp
 have hl1:Lng s.length:=by unfold Lng;omega
 have hx:=fit_subS (fun b hb=>(hs b hb).2) ht
 have hp:Lng s.length∧(t.sub (suOf s)).fit:=⟨hl1,hx⟩
 refine pu Tryz.func289 rfl Tryz.ntmps289 rfl rfl fun C=>?_
 (repeat' first|(refine kkz ?_;intros)|refine kfk ?_ ?_<;>intro hb|fail)
 ·rw [← optS_no (bindP_cond fun h=>hb h.1)]
  exact kr2 rvN (rvT rfl)
 ·rw [← optS_no (bindP_cond fun h=>h.2.1 hb)]
  exact kr2 rvN (rvT rfl)
 ·rw [← optS_no (bindP_cond fun h=>by have:=h.2.2;omega)]
  exact kr2 rvN (rvT rfl)
 ·rename_i b5 b8 hn ho u0
  have hl4:s.length < 400:=by omega
  refine kfor (ι:=Value) s (fun j u=>[(1,nv v),(8,.one (.v (.pointer (some ⟨b8,0,none⟩)))),(10,.one (.v u)),(33,vS s)]) (fun j u=>[arow 183 5 u (((mapP v (t.sub (suOf s)) (s.take j)).map toB).map encB),abox b8 (encT (t.sub (suOf s)).tm) 174]) (fun j _=>∀ b∈s.take j,(putT v (t.sub (suOf s)) b.2).nodes≤5000) u0 (by simp) ?_ ?_
  ·rintro j ⟨w,y⟩ u hj hd hjl hp
   have hrow:((s.map toB).map encB)[j]?=some (encB (toB (w,y))):=by simp [hj]
   have hmem:=List.mem_of_getElem? hj
   have hpf:(putT v (t.sub (suOf s)) y).fit:=fit_putT hx (hs _ hmem).2
   have ht1:s.take (j+1)=s.take j++[(w,y)]:=by rw [List.take_add_one,hj];rfl
   (repeat' first|(refine kk ?_;intros)|refine kfk ?_ ?_<;>intro hb|fail)
   ·rw [← optS_no (bindP_big hmem hb)]
    exact kr2 rvN (rvT rfl)
   ·rename_i u1
    refine ⟨u1,take_succ_all hj hp hb,?_⟩
    rw [show ((mapP v (t.sub (suOf s)) (s.take (j+1))).map toB).map encB=((mapP v (t.sub (suOf s)) (s.take j)).map toB).map encB++[encB (toB (w,putT v (t.sub (suOf s)) y))] by rw [ht1];simp [mapP]]
    exact kwk
  ·intro u hp
   rw [List.take_length] at hp
   rw [List.take_length]
   have e:=bindP_yes hn ho hl4 hp
   rw [← optS_yes e]
   have ha':Asc (mapP v (t.sub (suOf s)) s)∧(mapP v (t.sub (suOf s)) s).length≤1099511627776:=⟨List.pairwise_map.2 ha,by simp [mapP];omega⟩
   repeat refine kc ?_
   refine kfO 0 10 ?_
   (repeat' first|(refine kk ?_;intros)|refine kfk ?_ ?_<;>intro hb|fail)
   refine kr ?_ (h:=pc2 (y1:=mapP v (t.sub (suOf s)) s) (y2:=(v,t.sub (suOf s))) (h1:=le_eq rfl) (h2:=le_eq rfl) (hp:=ha'))
   (repeat' first|(refine kk ?_;intros)|refine kfk ?_ ?_<;>intro hb|fail)
   exact kr2 (rvT rfl) (rvT rfl)⟩
end
noncomputable section
structure SubF (s:Sb):Prop where
 sok:Sok s
 fit:FitS s
theorem mg_subF {s x:Sb} {l:List (T × T)} (hs:SubF s) (hl:∀ e∈l,e.1.fit∧e.2.fit) (h:mg (eqs s l)=some x):SubF x:=⟨mg_sok h,fun b hb=>mg_fit h (V:=varP) (p:=leafP) (fun b hb=>⟨(hs.fit b hb).1,(hs.fit b hb).2⟩) hl b hb⟩
theorem var_of {t:T} (h:t.tm.kind=1):∃ n,t=.var n:=by cases t<;>simp [T.tm] at h;exact ⟨_,rfl⟩
theorem not_var {t:T} (h:t.tm.kind≠1) (n:Nat):t≠.var n:=fun e=>h (by rw [e];rfl)
theorem no_sub {t:T} (h:t.tm.kind≠1) (τ:Su):(t.sub τ).tm.kind=t.tm.kind∧(t.sub τ).tm.int=t.tm.int∧(t.sub τ).tm.name=t.tm.name:=by
 cases t with
 | var n=>exact absurd rfl h
 | _=>exact ⟨rfl,rfl,rfl⟩
theorem mg_one {s:Sb} {a b:T} {r:Option Sb} (h:UniR (eqs s []) s a b r):mg (eqs s [(a,b)])=r:=(mg_congr fun τ=>eqs_one).trans h.mg
theorem fit_walk {s:Sb} (hs:FitS s) {t:T} (ht:t.fit):(walkP s t).fit:=by
 cases t with
 | var n=>
  show ((getS s n).getD (.var n)).fit
  cases hg:getS s n with
  | none=>exact ht
  | some x=>exact (hs _ (getS_in hg)).2
 | _=>exact ht
instance unify_s:Con3 Tryz.prog 257 Sb T T vS vT vT (fun s a b=>optS (mg (eqs s [(a,b)]))) (fun s a b=>SubF s∧a.fit∧b.fit):=by
 have key:∀ (Dg M:Nat) (s:Sb) (a b:T),SubF s→a.fit→b.fit→400 - s.length=Dg→(a.sub (suOf s)).nodes=M→Pu Tryz.prog 257 [vS s,vT a,vT b] (optS (mg (eqs s [(a,b)]))):=by
  intro Dg
  induction Dg using Nat.strongRecOn with
  | _ Dg ihD=>
  intro M
  induction M using Nat.strongRecOn with
  | _ M ihM=>
  intro s a b hs hfa hfb hD hM
  have ih:Con3 Tryz.prog 257 Sb T T vS vT vT (fun s a b=>optS (mg (eqs s [(a,b)]))) (fun s' a' b'=>(SubF s'∧a'.fit∧b'.fit)∧(400 - s'.length < Dg∨400 - s'.length=Dg∧(a'.sub (suOf s')).nodes < M)):=⟨fun {s' a' b'} ⟨⟨h1,h2,h3⟩,h4⟩=>by
   by_cases hlt:400 - s'.length < Dg
   ·exact ihD _ hlt _ s' a' b' h1 h2 h3 rfl rfl
   ·rcases h4 with h4 | ⟨h4,h5⟩
    ·exact absurd h4 hlt
    ·exact ihM _ h5 s' a' b' h1 h2 h3 h4 rfl⟩
  have hU:=eqs_closed s []
  have hw:=hs.sok.wf
  have hc:=hs.sok.can
  have hl1:Lng s.length:=by have:=hs.sok.len;unfold Lng;omega
  have hwa:=fit_walk hs.fit hfa
  have hwb:=fit_walk hs.fit hfb
  refine pu Tryz.func257 rfl Tryz.ntmps257 rfl rfl fun C=>?_
  have end1:∀ {o:Option Sb},mg (eqs s [(a,b)])=o→optS (mg (eqs s [(a,b)]))=optS o:=fun h=>by rw [h]
  (repeat' first|(refine kk ?_;intros)|refine kfk ?_ ?_<;>intro hb|fail)
  ·rename_i hka hkb
   have hlt:=hb
   obtain ⟨n,ea⟩:=var_of hka
   obtain ⟨m,eb⟩:=var_of hkb
   have hlt:n < m:=by rw [ea,eb] at hlt;have hlt:(n:Int) < m:=hlt;omega
   rw [end1 (mg_one (uni_var hU hw hc eb ea (fun e=>by cases e;omega) (fun u e=>by cases e;exact hlt)).swap)]
   refine kr ?_ (h:=pc3 (y1:=s) (y2:=m) (y3:=.var n) (h1:=le_eq rfl) (h2:=le_eq (by rw [eb];rfl)) (h3:=le_eq (by rw [ea];rfl)) (hp:=⟨hs.sok.asc,hs.sok.len,hs.fit,by rw [← ea];exact hwa⟩))
   generalize bindP s m (.var n)=o
   cases o<;>(repeat' first|(refine kk ?_;intros)|refine kfk ?_ ?_<;>intro hb|fail)<;>exact kr2 (rvT rfl) (rvT rfl)
  ·rename_i hka hkb hlt
   obtain ⟨n,ea⟩:=var_of hka
   obtain ⟨m,eb⟩:=var_of hkb
   have hnm:n=m:=by rw [ea,eb] at hb;have hb:(n:Int)=m:=hb;omega
   rw [end1 (mg_one (uni_same hw hc ea (by rw [eb,hnm])))]
   exact kr2 (rvT rfl) (rvT rfl)
  ·rename_i hka hkb hlt
   obtain ⟨n,ea⟩:=var_of hka
   obtain ⟨m,eb⟩:=var_of hkb
   have hmn:m < n:=by
    rw [ea,eb] at hb hlt
    have hb:(n:Int)≠m:=hb
    have hlt:¬ (n:Int) < m:=hlt
    omega
   rw [end1 (mg_one (uni_var hU hw hc ea eb (fun e=>by cases e;omega) (fun u e=>by cases e;exact hmn)))]
   refine kr ?_ (h:=pc3 (y1:=s) (y2:=n) (y3:=.var m) (h1:=le_eq rfl) (h2:=le_eq (by rw [ea];rfl)) (h3:=le_eq (by rw [eb];rfl)) (hp:=⟨hs.sok.asc,hs.sok.len,hs.fit,by rw [← eb];exact hwb⟩))
   generalize bindP s n (.var m)=o
   cases o<;>(repeat' first|(refine kk ?_;intros)|refine kfk ?_ ?_<;>intro hb|fail)<;>exact kr2 (rvT rfl) (rvT rfl)
  ·rename_i hka
   obtain ⟨n,ea⟩:=var_of hka
   rw [end1 (mg_one (uni_var hU hw hc ea rfl (not_var hb n) (fun u e=>absurd e (not_var hb u))))]
   refine kr ?_ (h:=pc3 (y1:=s) (y2:=n) (y3:=walkP s b) (h1:=le_eq rfl) (h2:=le_eq (by rw [ea];rfl)) (h3:=le_eq rfl) (hp:=⟨hs.sok.asc,hs.sok.len,hs.fit,hwb⟩))
   generalize bindP s n (walkP s b)=o
   cases o<;>(repeat' first|(refine kk ?_;intros)|refine kfk ?_ ?_<;>intro hb|fail)<;>exact kr2 (rvT rfl) (rvT rfl)
  ·rename_i hka
   obtain ⟨n,eb⟩:=var_of hb
   rw [end1 (mg_one (uni_var hU hw hc eb rfl (not_var hka n) (fun u e=>absurd e (not_var hka u))).swap)]
   refine kr ?_ (h:=pc3 (y1:=s) (y2:=n) (y3:=walkP s a) (h1:=le_eq rfl) (h2:=le_eq (by rw [eb];rfl)) (h3:=le_eq rfl) (hp:=⟨hs.sok.asc,hs.sok.len,hs.fit,hwa⟩))
   generalize bindP s n (walkP s a)=o
   cases o<;>(repeat' first|(refine kk ?_;intros)|refine kfk ?_ ?_<;>intro hb|fail)<;>exact kr2 (rvT rfl) (rvT rfl)
  ·rename_i hka hkb
   rw [end1 (mg_one (uni_clash hc rfl rfl fun τ e=>hb (by rw [← (no_sub hka τ).1,e,(no_sub hkb τ).1])))]
   exact kr2 rvN (rvT rfl)
  ·rename_i hka hkb _
   rw [end1 (mg_one (uni_clash hc rfl rfl fun τ e=>hb (by rw [← (no_sub hka τ).2.1,e,(no_sub hkb τ).2.1])))]
   exact kr2 rvN (rvT rfl)
  ·rename_i hka hkb _ _
   rw [end1 (mg_one (uni_clash hc rfl rfl fun τ e=>hb (by rw [← (no_sub hka τ).2.2,e,(no_sub hkb τ).2.2])))]
   exact kr2 rvN (rvT rfl)
  ·rename_i hka hkb hk hi
   by_cases hp:∃ a1 a2 b1 b2,walkP s a=.pair a1 a2∧walkP s b=.pair b1 b2
   ·obtain ⟨a1,a2,b1,b2,ea,eb⟩:=hp
    have f1:a1.fit∧a2.fit:=fit_pair.1 (ea▸hwa)
    have f2:b1.fit∧b2.fit:=fit_pair.1 (eb▸hwb)
    have hpp:=uni_pair_none hc ea eb
    have d1:=uni_dec1 hc ea
    have p1:(SubF s∧a1.fit∧b1.fit)∧(400 - s.length < Dg∨400 - s.length=Dg∧(a1.sub (suOf s)).nodes < M):=⟨⟨hs,f1.1,f2.1⟩,.inr ⟨hD,by rw [← hM];exact d1⟩⟩
    rw [ea,eb]
    (repeat' first|(refine kk ?_;intros)|refine kfk ?_ ?_<;>intro hb|fail)
    refine kun3 ?_
    (repeat' first|(refine kk ?_;intros)|refine kfk ?_ ?_<;>intro hb|fail)
    cases h1:mg (eqs s [(a1,b1)]) with
    | none=>
     have hn:mg (eqs s [(a,b)])=none:=mg_dead hs.sok h1 fun τ ht=>by
      have ht:=eqs_one.1 ht
      exact eqs_one.2 ⟨ht.1,((hpp τ ht.1).1 ht.2).1⟩
     rw [end1 hn]
     (repeat' first|(refine kk ?_;intros)|refine kfk ?_ ?_<;>intro hb|fail)
     exact kr2 rvN (rvT rfl)
    | some s1=>
     have hs1:SubF s1:=mg_subF hs (by simp [f1.1,f2.1]) h1
     have e2:mg (eqs s [(a,b)])=mg (eqs s1 [(a2,b2)]):=by
      rw [← mg_next (eqs_closed s _) h1 a2 b2]
      refine mg_congr fun τ=>?_
      rw [eqs_one,eqs_one,and_assoc]
      exact ⟨fun h=>⟨h.1,(hpp τ h.1).1 h.2⟩,fun h=>⟨h.1,(hpp τ h.1).2 h.2⟩⟩
     have hgrow:s1=s∨s.length < s1.length:=by
      obtain ⟨r,hr⟩:=uni_ex hU hw hc a1 b1
      have:=mg_one hr
      rw [h1] at this
      subst this
      exact hr.2.2
     have p2:(SubF s1∧a2.fit∧b2.fit)∧(400 - s1.length < Dg∨400 - s1.length=Dg∧(a2.sub (suOf s1)).nodes < M):=⟨⟨hs1,f1.2,f2.2⟩,by
      have:=uni_dec hc ea hs1.sok.wf hgrow
      rw [hD,hM] at this;exact this⟩
     rw [end1 e2]
     (repeat' first|(refine kk ?_;intros)|refine kfk ?_ ?_<;>intro hb|fail)
     cases h2:mg (eqs s1 [(a2,b2)]) with
     | none=>
      (repeat' first|(refine kk ?_;intros)|refine kfk ?_ ?_<;>intro hb|fail)
      exact kr2 rvN (rvT rfl)
     | some s2=>
      (repeat' first|(refine kk ?_;intros)|refine kfk ?_ ?_<;>intro hb|fail)
      exact kr2 (rvT rfl) (rvT rfl)
   ·have e:walkP s a=walkP s b:=(key_same hk hi hb).resolve_right hp
    rw [end1 (mg_one (uni_same hw hc rfl e.symm))]
    have hln:(walkP s a).tm.args.length=0:=by
     rcases argsLen (walkP s a) with h | ⟨x,y,h⟩
     ·exact h
     ·exact absurd ⟨x,y,x,y,h,by rw [← e,h]⟩ hp
    have hln':(walkP s a).tm.argE.length=0:=by rw [argE_len];exact hln
    (repeat' first|(refine kk ?_;intros)|refine kfk ?_ ?_<;>intro hb|fail)
    refine kun1 ?_
    (repeat' first|(refine kk ?_;intros)|refine kfk ?_ ?_<;>intro hb|fail)
    exact kr2 (rvT rfl) (rvT rfl)
 exact ⟨fun {s a b} ⟨h1,h2,h3⟩=>key _ _ s a b h1 h2 h3 rfl rfl⟩
end
noncomputable section
instance all_s:Con3 Tryz.prog 282 Sb (List T) (List T) vS vTs vTs (fun s l r=>optS (mg (eqs s (l.zip r)))) (fun s l r=>SubF s∧(∀ t∈l,t.fit)∧(∀ t∈r,t.fit)∧l.length=r.length∧Lng l.length):=⟨fun s l r ⟨hs,hl,hr,hlr,hll⟩=>by
 have hllen:(rowsT (l.map T.tm)).length=l.length:=by rw [rowsT_len,List.length_map]
 refine pu Tryz.func282 rfl Tryz.ntmps282 rfl rfl fun C=>?_
 (repeat' first|(refine kk ?_;intros)|refine kfk ?_ ?_<;>intro hb|fail)
 refine kfor (ι:=Sb) l (fun j x=>[(0,vS x),(2,vTs r),(12,vTs l)]) (fun j x=>[]) (fun j x=>SubF x∧mg (eqs s ((l.zip r).take j))=some x) s ⟨hs,by rw [List.take_zero];exact hs.sok.mg⟩ ?_ ?_
 ·rintro j a x hj hd hjl ⟨hx,hm⟩
  obtain ⟨b,hb⟩:∃ b,r[j]?=some b:=⟨r[j]'(by omega),List.getElem?_eq_getElem (by omega)⟩
  have r1:(l.map T.tm)[j]?=some a.tm:=by simp [hj]
  have r2:(r.map T.tm)[j]?=some b.tm:=by simp [hb]
  have fa:=hl a (List.mem_of_getElem? hj)
  have fb:=hr b (List.mem_of_getElem? hb)
  have hE:(l.zip r).take (j+1)=(l.zip r).take j++[(a,b)]:=by
   rw [List.take_add_one,(List.getElem?_zip_eq_some (z:=(a,b))).2 ⟨hj,hb⟩];rfl
  have hsn:=mg_snoc hm a b
  rw [← hE] at hsn
  have hp:SubF x∧a.fit∧b.fit:=⟨hx,fa,fb⟩
  (repeat' first|(refine kk ?_;intros)|refine kfk ?_ ?_<;>intro hb|fail)
  cases h1:mg (eqs x [(a,b)]) with
  | none=>
   rw [h1] at hsn
   have hn:mg (eqs s (l.zip r))=none:=by
    have:=mg_dead_all _ ((l.zip r).drop (j+1)) hs.sok hsn
    rwa [List.take_append_drop] at this
   (repeat' first|(refine kk ?_;intros)|refine kfk ?_ ?_<;>intro hb|fail)
   rw [← optS_no hn]
   exact kr2 rvN (rvT rfl)
  | some y=>
   rw [h1] at hsn
   (repeat' first|(refine kk ?_;intros)|refine kfk ?_ ?_<;>intro hb|fail)
   exact ⟨y,⟨mg_subF hx (by simp [fa,fb]) h1,hsn⟩,kwk⟩
 ·rintro x ⟨hx,hm⟩
  rw [List.take_of_length_le (by simp [hlr])] at hm
  rw [← optS_yes hm]
  (repeat' first|(refine kk ?_;intros)|refine kfk ?_ ?_<;>intro hb|fail)
  exact kr2 (rvT rfl) (rvT rfl)⟩
theorem zip_eqB (d:Sb):(d.map fun b=>T.var b.1).zip (d.map (·.2))=eqB d:=by rw [List.zip_map'];rfl
instance join_s:Con2 Tryz.prog 244 Sb Sb vS vS (fun s d=>optS (join s d)) (fun s d=>SubF s∧FitS d∧d.length≤1000000):=⟨fun s d ⟨hs,hd,hl⟩=>by
 have hlen:((d.map toB).map encB).length=d.length:=by simp
 have hl1:Lng d.length:=by unfold Lng;omega
 refine pu Tryz.func244 rfl Tryz.ntmps244 rfl rfl fun C=>?_
 (repeat' first|(refine kkz ?_;intros)|refine kfk ?_ ?_<;>intro hb|fail)
 rename_i u1 u2
 refine kfor (ι:=Value × Value) d (fun j x=>[(0,vS s),(6,.one (.v x.1)),(7,.one (.v x.2)),(12,vS d)]) (fun j x=>[arow 174 4 x.2 (rowsT (((d.take j).map (·.2)).map T.tm)),arow 174 4 x.1 (rowsT (((d.take j).map fun b=>T.var b.1).map T.tm))]) (fun j x=>True) (u1,u2) trivial ?_ ?_
 ·rintro j ⟨v,t⟩ ⟨u1,u2⟩ hj hdd hjl _
  have hrow:((d.map toB).map encB)[j]?=some (encB (toB (v,t))):=by simp [hj]
  have ht1:d.take (j+1)=d.take j++[(v,t)]:=by rw [List.take_add_one,hj];rfl
  (repeat' first|(refine kk ?_;intros)|refine kfk ?_ ?_<;>intro hb|fail)
  rename_i u3 u4
  refine ⟨(u3,u4),trivial,?_⟩
  simp only [ht1,List.map_append,rowsT_app]
  exact kwk
 ·rintro ⟨u1,u2⟩ _
  rw [List.take_length]
  repeat refine kc ?_
  refine kfO 0 7 ?_
  refine kfO 0 6 ?_
  have hp:SubF s∧(∀ t∈(d.map fun b=>T.var b.1),t.fit)∧(∀ t∈(d.map (·.2)),t.fit)∧(d.map fun b=>T.var b.1).length=(d.map (·.2)).length∧Lng (d.map fun b=>T.var b.1).length:=
   ⟨hs,fun t ht=>by obtain ⟨b,hb,rfl⟩:=List.mem_map.1 ht;exact fit_var.2 (hd b hb).1,fun t ht=>by obtain ⟨b,hb,rfl⟩:=List.mem_map.1 ht;exact (hd b hb).2,by simp,by simpa using hl1⟩
  have e:=zip_eqB d
  show AO _ _ _ _ _ _ _ _
  (repeat' first|(refine kk ?_;intros)|refine kfk ?_ ?_<;>intro hb|fail)
  rw [e]
  rw [show join s d=mg (eqs s (eqB d)) from rfl]
  cases hj:mg (eqs s (eqB d)) with
  | none=>
   (repeat' first|(refine kk ?_;intros)|refine kfk ?_ ?_<;>intro hb|fail)
   exact kr2 (rvT rfl) (rvT rfl)
  | some x=>
   (repeat' first|(refine kk ?_;intros)|refine kfk ?_ ?_<;>intro hb|fail)
   exact kr2 (rvT rfl) (rvT rfl)⟩
theorem newB_snoc {s x:Sb} {b:Nat × T}:newB s (x++[b])=newB s x++(if getS s b.1=none then [b] else []):=by
 unfold newB
 rw [List.filter_append]
 by_cases h:getS s b.1=none<;>simp [h]
instance new_s:Con2 Tryz.prog 245 Sb Sb vS vS (fun s x=>vS (newB s x)) (fun s x=>Lng s.length∧x.length≤1000000):=⟨fun s x ⟨hls,hl⟩=>by
 have hlen:((x.map toB).map encB).length=x.length:=by simp
 have hl1:Lng x.length:=by unfold Lng;omega
 refine pu Tryz.func245 rfl Tryz.ntmps245 rfl rfl fun C=>?_
 (repeat' first|(refine kkz ?_;intros)|refine kfk ?_ ?_<;>intro hb|fail)
 rename_i u0
 refine kfor (ι:=Value) x (fun j u=>[(0,vS s),(5,.one (.v u)),(11,vS x)]) (fun j u=>[arow 183 5 u (((newB s (x.take j)).map toB).map encB)]) (fun j _=>True) u0 trivial ?_ ?_
 ·rintro j ⟨v,t⟩ u hj hdd hjl _
  have hrow:((x.map toB).map encB)[j]?=some (encB (toB (v,t))):=by simp [hj]
  have ht1:x.take (j+1)=x.take j++[(v,t)]:=by rw [List.take_add_one,hj];rfl
  have hle:(newB s (x.take j)).length≤j:=Nat.le_trans (List.length_filter_le _ _) (by simp;omega)
  (repeat' first|(refine kk ?_;intros)|refine kfk ?_ ?_<;>intro hb|fail)
  cases hg:getS s v with
  | none=>
   (repeat' first|(refine kk ?_;intros)|refine kfk ?_ ?_<;>intro hb|fail)
   rename_i u1
   refine ⟨u1,trivial,?_⟩
   simp only [ht1,newB_snoc,hg,if_true,List.map_append]
   exact kwk
  | some y=>
   (repeat' first|(refine kk ?_;intros)|refine kfk ?_ ?_<;>intro hb|fail)
   refine ⟨u,trivial,?_⟩
   rw [ht1,newB_snoc,if_neg (by simp [hg]),List.append_nil]
   exact kwk
 ·intro u _
  rw [List.take_length]
  (repeat' first|(refine kk ?_;intros)|refine kfk ?_ ?_<;>intro hb|fail)
  exact kr1 (rvR rfl)⟩
end
noncomputable section
theorem mem_of_varsA {t:T} {k w:Nat} (h:(varsA [] t)[k]?=some w):t.Occ w:=by
 rcases mem_varsA.1 (List.mem_of_getElem? h) with h|h
 ·exact h
 ·cases h
instance substOk_s:Con1 Tryz.prog 188 (List BdR) bsv (fun r=>bp (SubR r)) (fun r=>Lng r.length∧InB r):=⟨fun r ⟨hl,hin⟩=>by
 refine pu Tryz.func188 rfl Tryz.ntmps188 rfl rfl fun C=>?_
 by_cases hv:VOk r
 ·obtain ⟨s,rfl,hs⟩:=vok_iff.1 hv
  have hlen:((s.map toB).map encB).length=s.length:=by simp
  have hls:Lng s.length:=by simpa using hl
  have ha:=hs.asc
  (repeat' first|(refine kk ?_;intros)|refine kfk ?_ ?_<;>intro hb|fail)
  ·exact absurd hv hb
  ·refine kfor (ι:=Unit) s (fun j _=>[(0,vS s),(12,vS s)]) (fun j _=>[]) (fun j _=>∀ b∈s.take j,SubB s b) () (by simp) ?_ ?_
   ·rintro j ⟨v,t⟩ _ hj hd hjl hp
    have hrow:((s.map toB).map encB)[j]?=some (encB (toB (v,t))):=by simp [hj]
    have hmem:=List.mem_of_getElem? hj
    have hsz:=(hs.ok _ hmem).2.size
    have hpv:AscN []∧([]:List Nat).length+t.nodes≤1099511627776:=⟨.nil,by simp only [List.length_nil];simp only at hsz;omega⟩
    have hvl:(List.map encN (varsA [] t)).length=(varsA [] t).length:=by simp
    have hvb:(varsA [] t).length≤4611686018427387904:=by
     have:=len_foldA (m:=t.vars) (l:=[]) .nil
     have:=vars_len t
     show (t.vars.foldl insA []).length≤_
     simp only [List.length_nil] at *;omega
    have last:∀ (hori:∀ u,t=.var u→u < v),(∀ w∈varsA [] t,getS s w=none)→SubB s (v,t):=fun hori h=>⟨fun w hw=>h w (mem_varsA.2 (.inl hw)),hori⟩
    by_cases hori:∀ u,t=.var u→u < v
    ·have hc:¬ (t.tm.kind=1∧(v:Int)≤t.tm.int):=fun ⟨h1,h2⟩=>by
      obtain ⟨u,rfl⟩:=var_of h1
      have:=hori u rfl
      have h2:(v:Int)≤u:=h2
      omega
     (repeat' first|(refine kk ?_;intros)|refine kfk ?_ ?_<;>intro hb|fail)
     ·rename_i hk
      exact absurd ⟨hk,hb⟩ hc
     all_goals
      refine kfor (ι:=Unit) (varsA [] t) (fun k _=>[(0,vS s),(12,vS s),(13,iv s.length),(14,iv j),(32,nsv (varsA [] t))]) (fun k _=>[]) (fun k _=>∀ w∈(varsA [] t).take k,getS s w=none) () (by simp) ?_ ?_
      ·rintro k w _ hk hkd hkl hq
       have hrow:((varsA [] t).map encN)[k]?=some (encN w):=by simp [hk]
       (repeat' first|(refine kk ?_;intros)|refine kfk ?_ ?_<;>intro hb|fail)
       cases hg:getS s w with
       | some x=>
        (repeat' first|(refine kk ?_;intros)|refine kfk ?_ ?_<;>intro hb|fail)
        exact kret (bpF (not_sub hs hmem fun h=>by rw [h.1 w (mem_of_varsA hk)] at hg;cases hg))
       | none=>
        (repeat' first|(refine kk ?_;intros)|refine kfk ?_ ?_<;>intro hb|fail)
        exact ⟨(),take_succ_all hk hq hg,kwk⟩
      ·intro _ hq
       rw [List.take_length] at hq
       (repeat' first|(refine kk ?_;intros)|refine kfk ?_ ?_<;>intro hb|fail)
       exact ⟨(),take_succ_all hj hp (last hori hq),kwk⟩
    ·obtain ⟨u,hu⟩:∃ u,t=.var u∧¬ u < v:=by
      by_cases h:∃ u,t=.var u∧¬ u < v
      ·exact h
      ·exact absurd (fun u e=>Decidable.byContradiction fun hn=>h ⟨u,e,hn⟩) hori
     obtain ⟨rfl,hu⟩:=hu
     have hu':(v:Int)≤u:=by omega
     (repeat' first|(refine kk ?_;intros)|refine kfk ?_ ?_<;>intro hb|fail)
     ·exact kret (bpF (not_sub hs hmem fun h=>hu (h.2 u rfl)))
     ·exact absurd hu' hb
   ·intro _ hp
    (repeat' first|(refine kk ?_;intros)|refine kfk ?_ ?_<;>intro hb|fail)
    exact kret (bpT (yes_sub hs hp))
 ·(repeat' first|(refine kk ?_;intros)|refine kfk ?_ ?_<;>intro hb|fail)
  ·exact kret (bpF fun h=>hv h.vok)
  ·exact absurd hb hv⟩
end
noncomputable section
theorem Sub.pre {s:Sb} (h:Sub s):Lng (s.map toB).length∧InB (s.map toB):=⟨by have:=h.vok.len;unfold Lng;simp;omega,fun r hr=>by
 obtain ⟨b,hb,rfl⟩:=List.mem_map.1 hr
 have:=h.vok.ok b hb
 exact ⟨by have:=this.1;unfold I64;simp only [toB];omega,tm_in this.2.fit⟩⟩
theorem Sub.lng {s:Sb} (h:Sub s):Lng s.length:=by simpa using h.pre.1
def MoreB (t:Sb) (b:Nat × T):Prop:=(suOf t b.1).nodes≤5000∧(b.2.sub (suOf t)).nodes≤5000∧suOf t b.1=b.2.sub (suOf t)
theorem moreG_iff {s t:Sb}:moreG s t↔∀ b∈s.take s.length,MoreB t b:=by rw [List.take_length];rfl
theorem substYes_s:Con1 Tryz.prog 188 Sb vS (fun _=>bv true) Sub:=⟨fun s hs=>by
 have h:=substOk_s.h (s.map toB) hs.pre
 rwa [show bp (SubR (s.map toB))=bv true from (bpT (subR_of.2 hs)).symm] at h⟩
instance moreGeneral_s:Con2 Tryz.prog 283 Sb Sb vS vS (fun s t=>bp (moreG s t)) (fun s t=>Sub s∧Sub t):=⟨fun s t ⟨hs,ht⟩=>by
 have q1:SubR (s.map toB):=subR_of.2 hs
 have q2:SubR (t.map toB):=subR_of.2 ht
 have i1:=hs.pre
 haveI:=substYes_s
 have i2:=ht.pre
 have l1:=hs.lng
 have l2:=ht.lng
 have hlen:((s.map toB).map encB).length=s.length:=by simp
 refine pu Tryz.func283 rfl Tryz.ntmps283 rfl rfl fun C=>?_
 (repeat' first|(refine kk ?_;intros)|refine kfk ?_ ?_<;>intro hb|fail)
 refine kfor (ι:=Unit) s (fun j _=>[(1,vS t),(19,vS s)]) (fun j _=>[]) (fun j _=>∀ b∈s.take j,MoreB t b) () (by simp) ?_ ?_
 ·rintro j ⟨v,x⟩ _ hj hd hjl hp
  have hrow:((s.map toB).map encB)[j]?=some (encB (toB (v,x))):=by simp [hj]
  have hmem:=List.mem_of_getElem? hj
  have p1:Lng t.length∧((T.var v).sub (suOf t)).fit:=⟨l2,fit_subS ht.fit (fit_var.2 (hs.vok.ok _ hmem).1)⟩
  have p2:Lng t.length∧(x.sub (suOf t)).fit:=⟨l2,fit_subS ht.fit (hs.fit _ hmem)⟩
  (repeat' first|(refine kk ?_;intros)|refine kfk ?_ ?_<;>intro hb|fail)
  ·exact kret (bpF fun h=>hb (h _ hmem).1)
  ·exact kret (bpF fun h=>hb (h _ hmem).2.1)
  ·exact kret (bpF fun h=>hb (h _ hmem).2.2)
  ·rename_i g1 g2
   exact ⟨(),take_succ_all hj hp ⟨g1,g2,hb⟩,kwk⟩
 ·intro _ hp
  have hp:=moreG_iff.2 hp
  (repeat' first|(refine kk ?_;intros)|refine kfk ?_ ?_<;>intro hb|fail)
  exact kret (bpT hp)⟩
end
end Go.Proofs.YtejkllmoofdpjaaGreat
