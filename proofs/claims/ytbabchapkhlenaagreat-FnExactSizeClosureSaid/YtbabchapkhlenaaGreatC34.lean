/- Parts of the proof: V74 VP7. -/
import Derived.Test.YtbabchapkhlenaaGreatC32
namespace Go.Proofs.YtbabchapkhlenaaGreat
open Go
set_option linter.all false
set_option maxRecDepth 100000
set_option maxHeartbeats 4000000
noncomputable section
abbrev eCl (c:List G):List D:=[.s 4 ((c.map G.gl).map encG)]
abbrev vCl (l:Cl):AV:=.one (.s 1 (l.map eCl))
abbrev optCl:Option Cl→AV
 | some l=>.tup [vCl l,bv true]
 | none=>.tup [.one (.s 1 []),bv false]
theorem eCl_app {a b:List G}:eCl (a++b)=[.s 4 ((a.map G.gl).map encG++(b.map G.gl).map encG)]:=by simp [eCl]
theorem prodL_take {a c:Cl} {k:Nat} {x:List G} (hk:a[k]?=some x):prodL (a.take (k+1)) c=prodL (a.take k) c++c.map fun y=>x++y:=by
 unfold prodL
 rw [List.take_add_one,hk,List.flatMap_append]
 simp
theorem prodL_lens {a c:Cl} {m n:Nat} (ha:∀ x∈a,x.length≤m) (hc:∀ x∈c,x.length≤n):∀ x∈prodL a c,x.length≤m+n:=by
 intro x hx
 unfold prodL at hx
 obtain ⟨y,hy,hx⟩:=List.mem_flatMap.1 hx
 obtain ⟨z,hz,rfl⟩:=List.mem_map.1 hx
 have:=ha y hy
 have:=hc z hz
 simp;omega
theorem clF_lens {g:G} {c:Cl} (h:clF g=some c) (hn:g.nodes≤80):c.length≤64∧∀ x∈c,x.length≤80:=by
 obtain ⟨h1,h2⟩:=clF_some h
 subst h1
 exact ⟨h2,fun x hx=>by have:=(clS_mem g x hx).1;omega⟩
theorem ok_kids {g:G} (h:g.Ok):g.kids.length≤8∧∀ x∈g.kids,x.Ok:=by
 cases g with
 | all l => have h : l.length ≤ 8 ∧ OkL l := by simpa [G.Ok] using h
            exact ⟨h.1,OkL_all.1 h.2⟩
 | any l => have h : l.length ≤ 8 ∧ OkL l := by simpa [G.Ok] using h
            exact ⟨h.1,OkL_all.1 h.2⟩
 | non s l=>exact ⟨by simp [G.kids],fun x hx=>by simp [G.kids] at hx;subst hx;simpa [G.Ok] using h⟩
 | _=>exact ⟨by simp [G.kids],by simp [G.kids]⟩
theorem orF_drop {l:List G} {j:Nat} {x:G} {out:Cl} (hd:l.drop j=x::l.drop (j+1)):orF ((l.drop j).map clF) out=match clF x with|none=>none|some c=>if 64 < (out++c).length then none else orF ((l.drop (j+1)).map clF) (out++c):=by
 rw [hd,List.map_cons]
 cases clF x<;>rfl
theorem andF_drop {l:List G} {j:Nat} {x:G} {out:Cl} (hd:l.drop j=x::l.drop (j+1)):andF ((l.drop j).map clF) out=match clF x with|none=>none|some c=>if 64 < (prodL out c).length then none else andF ((l.drop (j+1)).map clF) (prodL out c):=by
 rw [hd,List.map_cons]
 cases clF x<;>rfl
instance clausesOf_i:Con1 Tryz.prog 30 G vG (fun g=>optCl (clF g)) (fun g=>g.Ok∧g.nodes≤80):=.ind G.nodes fun N ih g hN ⟨hok,hn⟩=>by
 have hgo:=goals_kids g
 have e3:g.gl.subE=(g.kids.map G.gl).map encG:=by rw [subE_eq,rowsG_eq,hgo]
 have e4:g.gl.goals.length=g.kids.length:=by rw [hgo,List.length_map]
 obtain ⟨k2,kok⟩:=ok_kids hok
 refine pu Tryz.func30 rfl Tryz.ntmps30 rfl rfl fun C=>?_
 cases g with
 | any l=>
  replace e3:(G.any l).gl.subE=(l.map G.gl).map encG:=e3
  replace e4:(G.any l).gl.goals.length=l.length:=e4
  replace k2:l.length≤8:=k2
  have hv:clF (G.any l)=orF (l.map clF) []:=by rw [clF,clFs_eq]
  rw [hv]
  (repeat' first|(refine kkz ?_;intros)|refine kfk ?_ ?_<;>intro hb|fail)
  rw [e3,e4]
  rename_i b1 u0
  refine kfor (ι:=Value × Cl) l (fun j q=>[(1,.one (.v (.pointer (some ⟨b1,0,none⟩)))),(4,.one (.v q.1)),(34,.one (.s 4 ((l.map G.gl).map encG)))]) (fun j q=>[arow 41 1 q.1 (q.2.map eCl),abox b1 (encG (G.any l).gl) 43]) (fun j q=>orF (l.map clF) []=orF ((l.drop j).map clF) q.2∧q.2.length≤64) (u0,[]) ⟨rfl,by simp⟩ ?_ ?_
  ·rintro j x ⟨u,out⟩ hj hdd hjl ⟨q1,q2⟩
   have hrow:((l.map G.gl).map encG)[j]?=some (encG x.gl):=by simp [hj]
   have hx:=List.mem_of_getElem? hj
   have hxn:=kids_nodes (g:=.any l) hx
   have p1:x.nodes < N∧x.Ok∧x.nodes≤80:=⟨by omega,kok x hx,by omega⟩
   rw [orF_drop hdd] at q1
   cases hc:clF x with
   | none=>
    rw [hc] at q1
    (repeat' first|(refine kk ?_;intros)|fail)
    rw [hc]
    (repeat' first|(refine kk ?_;intros)|fail)
    rw [q1]
    exact kr2 rvN (rvT rfl)
   | some c=>
    rw [hc] at q1
    simp only at q1
    have hcl:=(clF_lens hc (by omega)).1
    simp only at q2
    by_cases h64:64 < (out++c).length
    ·rw [if_pos h64] at q1
     simp only [List.length_append] at h64
     (repeat' first|(refine kk ?_;intros)|fail)
     rw [hc]
     (repeat' first|(refine kk ?_;intros)|refine kfk ?_ ?_<;>intro hb|fail)
     all_goals first
      | (rw [q1];exact kr2 rvN (rvT rfl))
      | (exfalso;simp at hb;omega)
    ·rw [if_neg h64] at q1
     simp only [List.length_append] at h64
     (repeat' first|(refine kk ?_;intros)|fail)
     rw [hc]
     (repeat' first|(refine kk ?_;intros)|refine kfk ?_ ?_<;>intro hb|fail)
     ·exfalso;simp at hb;omega
     ·rename_i b2 u2
      refine ⟨(u2,out++c),⟨q1,by simp;omega⟩,?_⟩
      simp only [List.map_append]
      exact kwk
  ·rintro ⟨u,out⟩ ⟨q1,q2⟩
   rw [List.drop_length] at q1
   rw [q1]
   (repeat' first|(refine kk ?_;intros)|refine kfk ?_ ?_<;>intro hb|fail)
   exact kr2 (rvR rfl) (rvT rfl)
 | all l=>
  replace e3:(G.all l).gl.subE=(l.map G.gl).map encG:=e3
  replace e4:(G.all l).gl.goals.length=l.length:=e4
  replace k2:l.length≤8:=k2
  have hv:clF (G.all l)=andF (l.map clF) [[]]:=by rw [clF,clFs_eq]
  rw [hv]
  (repeat' first|(refine kk ?_;intros)|refine kfk ?_ ?_<;>intro hb|fail)
  rw [e3,e4]
  rename_i b1
  refine kfor (ι:=Cl) l (fun j out=>[(1,.one (.v (.pointer (some ⟨b1,0,none⟩)))),(4,vCl out),(9,bv false),(59,.one (.s 4 ((l.map G.gl).map encG)))]) (fun j out=>[abox b1 (encG (G.all l).gl) 43]) (fun j out=>andF (l.map clF) [[]]=andF ((l.drop j).map clF) out∧out.length≤64∧∀ x∈out,x.length≤80 * j) [[]] ⟨rfl,by simp,by simp⟩ ?_ ?_
  ·rintro j x out hj hdd hjl ⟨q1,q2,q3⟩
   have hrow:((l.map G.gl).map encG)[j]?=some (encG x.gl):=by simp [hj]
   have hx:=List.mem_of_getElem? hj
   have hxn:=kids_nodes (g:=.all l) hx
   have p1:x.nodes < N∧x.Ok∧x.nodes≤80:=⟨by omega,kok x hx,by omega⟩
   rw [andF_drop hdd] at q1
   cases hc:clF x with
   | none=>
    rw [hc] at q1
    (repeat' first|(refine kk ?_;intros)|fail)
    rw [hc]
    (repeat' first|(refine kk ?_;intros)|fail)
    rw [q1]
    exact kr2 rvN (rvT rfl)
   | some c=>
    rw [hc] at q1
    simp only at q1
    obtain ⟨hcl,hce⟩:=clF_lens hc (by omega)
    have hlo:(out.map eCl).length=out.length:=by simp
    have hlc:(c.map eCl).length=c.length:=by simp
    (repeat' first|(refine kk ?_;intros)|fail)
    rw [hc]
    (repeat' first|(refine kkz ?_;intros)|refine kfk ?_ ?_<;>intro hb|fail)
    rename_i b2 u0
    refine kfor (ι:=Value) out (fun k u=>[(1,.one (.v (.pointer (some ⟨b1,0,none⟩)))),(12,vCl c),(14,.one (.v u)),(9,bv false),(59,.one (.s 4 ((l.map G.gl).map encG))),(61,iv j),(60,iv l.length),(73,vCl out)]) (fun k u=>[arow 41 1 u ((prodL (out.take k) c).map eCl),abox b1 (encG (G.all l).gl) 43]) (fun _ _=>True) u0 trivial ?_ ?_
    ·rintro k a u hk hkd hkl _
     have hrow1:(out.map eCl)[k]?=some (eCl a):=by simp [hk]
     have ha:=q3 a (List.mem_of_getElem? hk)
     have hP:(prodL (out.take k) c).length≤4096:=by
      rw [prodL_len]
      exact Nat.le_trans (Nat.mul_le_mul (show (out.take k).length≤64 by simp;omega) hcl) (by omega)
     (repeat' first|(refine kk ?_;intros)|refine kfk ?_ ?_<;>intro hb|fail)
     refine kfor (ι:=Value) c (fun m u=>[(1,.one (.v (.pointer (some ⟨b1,0,none⟩)))),(12,vCl c),(14,.one (.v u)),(9,bv false),(59,.one (.s 4 ((l.map G.gl).map encG))),(61,iv j),(60,iv l.length),(73,vCl out),(75,iv k),(74,iv out.length),(16,.one (.s 4 ((a.map G.gl).map encG))),(79,vCl c)]) (fun m u=>[arow 41 1 u ((prodL (out.take k) c).map eCl++((c.take m).map fun y=>a++y).map eCl),abox b1 (encG (G.all l).gl) 43]) (fun _ _=>True) u trivial ?_ ?_ (kwk (hs:=by simp only [List.take_zero,List.map_nil,List.append_nil];(exact wS)))
     ·rintro m b v hm hmd hml _
      have hrow2:(c.map eCl)[m]?=some (eCl b):=by simp [hm]
      have hb':=hce b (List.mem_of_getElem? hm)
      have ht1:c.take (m+1)=c.take m++[b]:=by rw [List.take_add_one,hm];rfl
      (repeat' first|(refine kkSz [] [91] ?_;intros)|fail)
      rename_i u2 u3 u4
      refine kfO 0 90 ?_
      (repeat' first|(refine kkz ?_;intros)|refine kfk ?_ ?_<;>intro hb|fail)
      rename_i u5
      refine ⟨u5,trivial,?_⟩
      rw [ht1]
      exact kwk (hs:=by
       simp only [List.map_cons,List.map_nil,List.map_append,List.nil_append,eCl_app,← List.append_assoc]
       (exact wS))
     ·rintro v _
      rw [List.take_length]
      (repeat' first|(refine kk ?_;intros)|refine kfk ?_ ?_<;>intro hb|fail)
      refine ⟨v,trivial,?_⟩
      rw [prodL_take hk,List.map_append]
      exact kwk
    ·rintro u _
     rw [List.take_length]
     (repeat' first|(refine kkSz [] [95] ?_;intros)|fail)
     refine kfO 0 14 ?_
     by_cases h64:64 < (prodL out c).length
     ·rw [if_pos h64] at q1
      (repeat' first|(refine kk ?_;intros)|refine kfk ?_ ?_<;>intro hb|fail)
      all_goals first
       | (rw [q1];exact kr2 rvN (rvT rfl))
       | (exfalso;omega)
     ·rw [if_neg h64] at q1
      (repeat' first|(refine kk ?_;intros)|refine kfk ?_ ?_<;>intro hb|fail)
      all_goals first
       | exact ⟨prodL out c,⟨q1,by omega,fun y hy=>by have:=prodL_lens q3 hce y hy;omega⟩,kwk⟩
       | (exfalso;omega)
  ·rintro out ⟨q1,q2,q3⟩
   rw [List.drop_length] at q1
   rw [q1]
   (repeat' first|(refine kk ?_;intros)|refine kfk ?_ ?_<;>intro hb|fail)
   exact kr2 (rvT rfl) (rvT rfl)
 | _=>
  (repeat' first|(refine kk ?_;intros)|refine kfk ?_ ?_<;>intro hb|fail)
  exact kr2 (rvT rfl) (rvT rfl)
instance clausesFine_i:Con1 Tryz.prog 29 (List Rl) vPq (fun q=>bp (∀ r∈q,(clF r.body).isSome=true)) ProgP:=⟨fun q hq=>by
 have hlen:((q.map Rl.rl).map encR).length=q.length:=by simp
 have hql:=hq.len
 refine pu Tryz.func29 rfl Tryz.ntmps29 rfl rfl fun C=>?_
 (repeat' first|(refine kk ?_;intros)|refine kfk ?_ ?_<;>intro hb|fail)
 rename_i b1
 refine kfor (ι:=Unit) q (fun j _=>[(8,.one (.s 7 ((q.map Rl.rl).map encR)))]) (fun j _=>[]) (fun j _=>∀ r∈q.take j,(clF r.body).isSome=true) () (by simp) ?_ ?_
 ·rintro j r _ hj hd hjl hp
  have hrow:((q.map Rl.rl).map encR)[j]?=some (encR r.rl):=by simp [hj]
  obtain ⟨k,hr⟩:=hq.mem (List.mem_of_getElem? hj)
  have p1:r.body.Ok∧r.body.nodes≤80:=⟨hr.ok,by have:=hr.size;omega⟩
  (repeat' first|(refine kk ?_;intros)|fail)
  cases hc:clF r.body with
  | none=>
   (repeat' first|(refine kk ?_;intros)|refine kfk ?_ ?_<;>intro hb|fail)
   exact kret (bpF fun h=>by have:=h r (List.mem_of_getElem? hj);rw [hc] at this;cases this)
  | some c=>
   (repeat' first|(refine kk ?_;intros)|refine kfk ?_ ?_<;>intro hb|fail)
   exact ⟨(),take_succ_allP hj hp (by rw [hc];rfl),kwk⟩
 ·rintro _ hp
  rw [List.take_length] at hp
  (repeat' first|(refine kk ?_;intros)|refine kfk ?_ ?_<;>intro hb|fail)
  exact kret (bpT hp)⟩
end
noncomputable section
open Classical
theorem settle_SP {tags:List ByteArray} {st st':Stt} (h:SP tags st) (e:settleF st=some st'):SP tags st'∧st'.next=st.next∧st'.dis.length≤30:=by
 obtain ⟨h1,h2,h3⟩:=settle_pre h.pre e
 unfold settleF at e
 split at e
 ·rename_i ks ms hk hm
  split at e
  ·cases e
  ·rename_i left hl
   split at e
   ·cases e
   ·cases e
    have hd:(minF left).length≤30:=by omega
    exact ⟨⟨h1,(MB.marks h.pre.bind.fit .nil (fun b hb=>⟨h.mrk.ok.ok b hb,h.mrk.tg b hb⟩) hm).filter,by simp only;omega,h.nx⟩,rfl,hd⟩
 ·cases e
theorem req_SP {tags:List ByteArray} {st st':Stt} {g:G} (h:RP tags st g) (hd:st.dis.length≤30) (e:reqF st g=some st'):SP tags st'∧st'.next=st.next∧st'.dis.length≤30:=by
 have hsp:=h.sp
 have hpre:=hsp.pre
 have hbind:=hpre.bind
 have hgk:=h.gk
 cases g with
 | tru=>cases e;exact ⟨hsp,rfl,hd⟩
 | eq a b=>
  have hab:a.okT∧b.okT:=by simpa [G.Ok] using hgk
  simp only [reqF] at e
  cases hm:mg (eqs st.bind [(a,b)]) with
  | none=>rw [hm] at e;exact absurd e (by simp)
  | some x=>
   rw [hm] at e
   have hx:Sub x:=mg_sub hbind (l:=[(a,b)]) (by simpa using ⟨hab.1.fit,hab.2.fit⟩) hm
   exact settle_SP (st:=⟨st.next,x,st.dis,st.kinds,st.marks⟩) ⟨⟨hx,hpre.dis,hpre.kinds,hpre.marks⟩,hsp.mrk,hsp.dl,hsp.nx⟩ e
 | ne a b=>
  have hab:a.okT∧b.okT:=by simpa [G.Ok] using hgk
  simp only [reqF] at e
  cases hm:mg (eqs st.bind [(a,b)]) with
  | none=>rw [hm] at e;exact settle_SP hsp e
  | some x=>
   rw [hm] at e
   simp only at e
   have hx:Sub x:=mg_sub hbind (l:=[(a,b)]) (by simpa using ⟨hab.1.fit,hab.2.fit⟩) hm
   split at e
   ·cases e
   ·have hxn:Sub (newB st.bind x):=hx.filter
    exact settle_SP (st:=⟨st.next,st.bind,st.dis++[newB st.bind x],st.kinds,st.marks⟩) ⟨⟨hbind,fun d hd=>by
     rcases List.mem_append.1 hd with hd|hd
     ·exact hpre.dis d hd
     ·obtain rfl:=List.mem_singleton.1 hd;exact hxn,hpre.kinds,hpre.marks⟩,hsp.mrk,by simp;omega,hsp.nx⟩ e
 | sy a=>
  have ha:a.okT:=by simpa [G.Ok] using hgk
  simp only [reqF] at e
  cases hm:(putO st.bind a).bind fun x=>kindAdd st.kinds x 2 with
  | none=>rw [hm] at e;exact absurd e (by simp)
  | some ks=>
   rw [hm] at e
   have hks:KOk ks:=by
    obtain ⟨x,hx,hk⟩:=Option.bind_eq_some_iff.1 hm
    have hx2:=put_some hx
    exact kindAdd_ok hpre.kinds (by simp) (fun v e=>by
     subst e
     have:=fit_subS (fun b hb=>(hbind.sbfit b hb).2) ha.fit (s:=st.bind)
     rw [hx2.2] at this;exact fit_var.1 this) hk
   exact settle_SP (st:=⟨st.next,st.bind,st.dis,ks,st.marks⟩) ⟨⟨hbind,hpre.dis,hks,hpre.marks⟩,hsp.mrk,hsp.dl,hsp.nx⟩ e
 | nu a=>
  have ha:a.okT:=by simpa [G.Ok] using hgk
  simp only [reqF] at e
  cases hm:(putO st.bind a).bind fun x=>kindAdd st.kinds x 3 with
  | none=>rw [hm] at e;exact absurd e (by simp)
  | some ks=>
   rw [hm] at e
   have hks:KOk ks:=by
    obtain ⟨x,hx,hk⟩:=Option.bind_eq_some_iff.1 hm
    have hx2:=put_some hx
    exact kindAdd_ok hpre.kinds (by simp) (fun v e=>by
     subst e
     have:=fit_subS (fun b hb=>(hbind.sbfit b hb).2) ha.fit (s:=st.bind)
     rw [hx2.2] at this;exact fit_var.1 this) hk
   exact settle_SP (st:=⟨st.next,st.bind,st.dis,ks,st.marks⟩) ⟨⟨hbind,hpre.dis,hks,hpre.marks⟩,hsp.mrk,hsp.dl,hsp.nx⟩ e
 | ab g a=>
  have ha:NameP g∧a.okT:=by simpa [G.Ok] using hgk
  have hgt:=h.ab g a rfl
  simp only [reqF] at e
  cases hm:(putO st.bind a).bind fun x=>markAdd st.marks x g with
  | none=>rw [hm] at e;exact absurd e (by simp)
  | some ms=>
   rw [hm] at e
   have hms:MB tags ms:=by
    obtain ⟨x,hx,hk⟩:=Option.bind_eq_some_iff.1 hm
    have hx2:=put_some hx
    have hf:=fit_subS (fun b hb=>(hbind.sbfit b hb).2) ha.2.fit (s:=st.bind)
    rw [hx2.2] at hf
    exact hsp.mrk.add ha.1 hgt (fun v hv=>hf.1 v hv) hk
   exact settle_SP (st:=⟨st.next,st.bind,st.dis,st.kinds,ms⟩) ⟨⟨hbind,hpre.dis,hpre.kinds,hms.ok⟩,hms,hsp.dl,hsp.nx⟩ e
 | fail=>cases e
 | all l=>cases e
 | any l=>cases e
 | call s l=>cases e
 | non s l=>cases e
def isCall:G→Prop
 | .call _ _=>True
 | _=>False
theorem isCall_kind {g:G} (hs:g.single) (hn:¬ isN g):(g.gl.kind > 6↔isCall g)∧(g.gl.kind≤6↔¬ isCall g):=by
 cases g<;>simp [G.gl,isCall,isN,G.single] at *
def foldR (st:Stt):List G→Option Stt
 | []=>some st
 | g::l=>if isCall g then foldR st l else (reqF st g).bind fun st'=>foldR st' l
def mapT (φ:T→Option T):List T→Option (List T)
 | []=>some []
 | t::l=>(φ t).bind fun x=>(mapT φ l).map (x::·)
abbrev putTs (b:Sb):List T→Option (List T):=mapT (putO b)
theorem mapT_drop {φ:T→Option T} {l:List T} {j:Nat} {x:T} (hd:l.drop j=x::l.drop (j+1)):mapT φ (l.drop j)=(φ x).bind fun y=>(mapT φ (l.drop (j+1))).map (y::·):=by rw [hd];rfl
def putC (b:Sb):G→Option G
 | .call s l=>(putTs b l).map (.call s)
 | _=>none
def callsR (b:Sb):List G→Option (List G)
 | []=>some []
 | g::l=>if isCall g then (putC b g).bind fun x=>(callsR b l).map (x::·) else callsR b l
abbrev st0 (n:Nat):Stt:=⟨n,[],[],[],[]⟩
def solveF (n:Nat) (l:List G):Option (Stt × List G):=(foldR (st0 n) l).bind fun st=>(callsR st.bind l).map fun c=>(st,c)
structure ClP (n:Nat) (l:List G):Prop where
 nn:n≤100000
 len:l.length≤1000
 ok:∀ g∈l,g.Ok∧g.nodes≤80
 single:∀ g∈l,g.single
 pos:∀ g∈l,¬ isN g
 vars:∀ g∈l,∀ v∈gvars g,v < n
theorem st0_SP {tags:List ByteArray} {n:Nat} (h:n≤100000):SP tags (st0 n):=⟨⟨⟨⟨by simp,.nil,by simp⟩,⟨.nil,by simp,by simp,by simp,by simp⟩⟩,by simp,.nil,.nil⟩,.nil,by simp,by simp only;omega⟩
def tagsOf (l:List G):List ByteArray:=l.filterMap fun | .ab s _=>some s | _=>none
theorem tagsOf_mem {l:List G} {s:ByteArray} {a:T} (h:G.ab s a∈l):s∈tagsOf l:=List.mem_filterMap.2 ⟨_,h,rfl⟩
theorem tagsOf_len {l:List G}:(tagsOf l).length≤l.length:=List.length_filterMap_le _ _
end
end Go.Proofs.YtbabchapkhlenaaGreat
