/- Parts of the proof: V55. -/
import Derived.Test.YtbabchapkhlenaaGreatC30
namespace Go.Proofs.YtbabchapkhlenaaGreat
open Go
set_option linter.all false
set_option maxRecDepth 100000
set_option maxHeartbeats 4000000
noncomputable section
open Classical
instance rest_i:Con3 Tryz.prog 108 Sb Sb Bool vS vS bv (fun s x ok=>.tup (if ok=true then (if s=x then [bsv [],iv 2] else [vS (newB s x),iv 0]) else [bsv [],iv 1])) (fun s x ok=>ok=true→Sub s∧Sub x):=⟨fun s x ok h=>by
 refine pu Tryz.func108 rfl Tryz.ntmps108 rfl rfl fun C=>?_
 cases ok with
 | false=>
  (repeat' first|(refine kk ?_;intros)|refine kfk ?_ ?_<;>intro hb|fail)
  exact kr2 rvN (rvT rfl)
 | true=>
  obtain ⟨hs,hx⟩:=h rfl
  have p1:Sub s∧Sub x:=⟨hs,hx⟩
  have p2:s.length≤1000000∧x.length≤1000000:=⟨by have:=hs.vok.len;omega,by have:=hx.vok.len;omega⟩
  by_cases hq:s=x
  ·rw [if_pos rfl,if_pos hq]
   (repeat' first|(refine kk ?_;intros)|refine kfk ?_ ?_<;>intro hb|fail)
   ·exact kr2 rvN (rvT rfl)
   ·exact absurd hq hb
  ·rw [if_pos rfl,if_neg hq]
   (repeat' first|(refine kk ?_;intros)|refine kfk ?_ ?_<;>intro hb|fail)
   ·exact absurd hb hq
   ·exact kr2 (rvT rfl) (rvT rfl)⟩
theorem rest_none (s:Sb):Pu Tryz.prog 108 [vS s,.one (.s 5 []),bv false] (.tup [bsv [],iv 1]):=rest_i.h s [] false (by simp)
theorem perm_4 {a b c d:Atm}:[a,b,c,d].Perm (d::([b,c]++[a])):=(List.perm_append_comm (l₁:=[a,b,c]) (l₂:=[d])).trans (List.Perm.cons d (List.perm_append_comm (l₁:=[a]) (l₂:=[b,c])))
theorem aoA {P:Program} {n:Nat} {C:Cx} {ops:Array Oper} {K:AF→List Atm→Prop} {rest:List Oper} {f:AF} {A:List Atm} (A':List Atm) (h:A=A') (k:AO P n C ops K rest f A'):AO P n C ops K rest f A:=h▸k
instance require_i:Con2 Tryz.prog 69 Stt G vSt vG (fun st g=>optSt (reqF st g)) (fun st g=>∃ tags,tags.length≤10000000∧RP tags st g):=⟨fun st g ⟨tags,htl,hr⟩=>by
 have hsp:=hr.sp
 have hpre:=hsp.pre
 have hbind:=hpre.bind
 have hdl:=hr.dl
 have hgk:=hr.gk
 have hdlen:(st.dis.map eS).length=st.dis.length:=by simp
 refine pu Tryz.func69 rfl Tryz.ntmps69 rfl rfl fun C=>?_
 cases g with
 | tru=>
  (repeat' first|(refine kk ?_;intros)|refine kfk ?_ ?_<;>intro hb|fail)
  refine kr2 (rvw ?_) (rvV (.refl _))
  (exact wV)
 | eq a b=>
  have hab:a.okT∧b.okT:=by simpa [G.Ok] using hgk
  have p1:FitS st.bind∧(∀ t∈[a],t.fit)∧(∀ t∈[b],t.fit)∧[a].length=[b].length∧Lng st.bind.length∧Lng [a].length:=⟨hbind.sbfit,by simpa using hab.1.fit,by simpa using hab.2.fit,rfl,hbind.lng_i,by unfold Lng;simp⟩
  have hv:reqF st (.eq a b)=match mg (eqs st.bind ([a].zip [b])) with|none=>none|some x=>settleF ⟨st.next,x,st.dis,st.kinds,st.marks⟩:=rfl
  (repeat' first|(refine kk ?_;intros)|refine kfk ?_ ?_<;>intro hb|fail)
  refine kar ?_ (h:=P_sliceT (k:=1) (r':=rowsT ([a].map T.tm)) (hle:=by show 1≤2;omega) (hr:=rfl))
  (repeat' first|(refine kk ?_;intros)|refine kfk ?_ ?_<;>intro hb|fail)
  refine kar ?_ (h:=P_sliceF (k:=1) (r':=rowsT ([b].map T.tm)) (hle:=by show 1≤2;omega) (hr:=rfl))
  (repeat' first|(refine kk ?_;intros)|refine kfk ?_ ?_<;>intro hb|fail)
  rename_i b2 b3 b4
  cases hm:mg (eqs st.bind ([a].zip [b])) with
  | none=>
   rw [show reqF st (.eq a b)=none from hv.trans (by rw [hm])]
   (repeat' first|(refine kk ?_;intros)|refine kfk ?_ ?_<;>intro hb|fail)
   refine kr2 (rvw ?_) (rvV (.refl _))
   (exact wV)
  | some x=>
   rw [show reqF st (.eq a b)=settleF ⟨st.next,x,st.dis,st.kinds,st.marks⟩ from hv.trans (by rw [hm])]
   have hx:Sub x:=mg_sub hbind (l:=[(a,b)]) (by simpa using ⟨hab.1.fit,hab.2.fit⟩) hm
   have hsp2:∃ tags,tags.length≤10000000∧SP tags ⟨st.next,x,st.dis,st.kinds,st.marks⟩:=⟨tags,htl,⟨⟨hx,hpre.dis,hpre.kinds,hpre.marks⟩,hsp.mrk,hsp.dl,hsp.nx⟩⟩
   (repeat' first|(refine kkS [] [128] ?_;intros)|fail)
   refine aoA [abox b4 zCs 54,abox b3 (encG (G.eq a b).gl) 43,abox b2 (encStt (⟨st.next,x,st.dis,st.kinds,st.marks⟩:Stt)) 54] (by rfl) ?_
   generalize (⟨st.next,x,st.dis,st.kinds,st.marks⟩:Stt)=s2 at hsp2 ⊢
   (repeat' first|(refine kk ?_;intros)|refine kfk ?_ ?_<;>intro hb|fail)
   cases hs:settleF s2 with
   | none=>
    (repeat' first|(refine kk ?_;intros)|refine kfk ?_ ?_<;>intro hb|fail)
    refine kr2 (rvw ?_) (rvV (.refl _))
    (exact wV)
   | some s3=>
    (repeat' first|(refine kk ?_;intros)|refine kfk ?_ ?_<;>intro hb|fail)
    refine kr2 (rvw ?_) (rvV (.refl _))
    (exact wV)
 | ne a b=>
  have hab:a.okT∧b.okT:=by simpa [G.Ok] using hgk
  have p1:FitS st.bind∧(∀ t∈[a],t.fit)∧(∀ t∈[b],t.fit)∧[a].length=[b].length∧Lng st.bind.length∧Lng [a].length:=⟨hbind.sbfit,by simpa using hab.1.fit,by simpa using hab.2.fit,rfl,hbind.lng_i,by unfold Lng;simp⟩
  have hv:reqF st (.ne a b)=match mg (eqs st.bind ([a].zip [b])) with|none=>settleF st|some x=>if st.bind=x then none else settleF ⟨st.next,st.bind,st.dis++[newB st.bind x],st.kinds,st.marks⟩:=rfl
  (repeat' first|(refine kk ?_;intros)|refine kfk ?_ ?_<;>intro hb|fail)
  refine kar ?_ (h:=P_sliceT (k:=1) (r':=rowsT ([a].map T.tm)) (hle:=by show 1≤2;omega) (hr:=rfl))
  (repeat' first|(refine kk ?_;intros)|refine kfk ?_ ?_<;>intro hb|fail)
  refine kar ?_ (h:=P_sliceF (k:=1) (r':=rowsT ([b].map T.tm)) (hle:=by show 1≤2;omega) (hr:=rfl))
  (repeat' first|(refine kk ?_;intros)|refine kfk ?_ ?_<;>intro hb|fail)
  rename_i b2 b3 b4
  cases hm:mg (eqs st.bind ([a].zip [b])) with
  | none=>
   rw [show reqF st (.ne a b)=settleF st from hv.trans (by rw [hm])]
   have p2:false=true→Sub st.bind∧Sub []:=fun h=>by cases h
   have hsp2:∃ tags,tags.length≤10000000∧SP tags st:=⟨tags,htl,hsp⟩
   (repeat' first|(refine kk ?_;intros)|refine kfk ?_ ?_<;>intro hb|fail)
   refine kr ?_ (h:=P_callL (show leA [_,_,_] [vS st.bind,.one (.s 5 []),bv false] from ⟨.refl _,.refl _,.refl _,trivial⟩) (rest_none st.bind))
   (repeat' first|(refine kkS [] [128] ?_;intros)|fail)
   refine aoA [abox b4 zCs 54,abox b3 (encG (G.ne a b).gl) 43,abox b2 (encStt st) 54] (by rfl) ?_
   (repeat' first|(refine kk ?_;intros)|refine kfk ?_ ?_<;>intro hb|fail)
   cases hs:settleF st with
   | none=>
    (repeat' first|(refine kk ?_;intros)|refine kfk ?_ ?_<;>intro hb|fail)
    refine kr2 (rvw ?_) (rvV (.refl _))
    (exact wV)
   | some s3=>
    (repeat' first|(refine kk ?_;intros)|refine kfk ?_ ?_<;>intro hb|fail)
    refine kr2 (rvw ?_) (rvV (.refl _))
    (exact wV)
  | some x=>
   have hx:Sub x:=mg_sub hbind (l:=[(a,b)]) (by simpa using ⟨hab.1.fit,hab.2.fit⟩) hm
   have p2:true=true→Sub st.bind∧Sub x:=fun _=>⟨hbind,hx⟩
   by_cases hq:st.bind=x
   ·rw [show reqF st (.ne a b)=none from hv.trans (by rw [hm];exact if_pos hq)]
    (repeat' first|(refine kk ?_;intros)|refine kfk ?_ ?_<;>intro hb|fail)
    rw [if_pos rfl,if_pos hq]
    (repeat' first|(refine kk ?_;intros)|refine kfk ?_ ?_<;>intro hb|fail)
    refine kr2 (rvw ?_) (rvV (.refl _))
    (exact wV)
   ·rw [show reqF st (.ne a b)=settleF ⟨st.next,st.bind,st.dis++[newB st.bind x],st.kinds,st.marks⟩ from hv.trans (by rw [hm];exact if_neg hq)]
    have hnl:=newB_len (s:=st.bind) hx
    have hxn:Sub (newB st.bind x):=hx.filter
    have hsp2:∃ tags,tags.length≤10000000∧SP tags ⟨st.next,st.bind,st.dis++[newB st.bind x],st.kinds,st.marks⟩:=⟨tags,htl,⟨⟨hbind,fun d hd=>by
     rcases List.mem_append.1 hd with hd|hd
     ·exact hpre.dis d hd
     ·obtain rfl:=List.mem_singleton.1 hd;exact hxn,hpre.kinds,hpre.marks⟩,hsp.mrk,by simp;omega,hsp.nx⟩⟩
    (repeat' first|(refine kk ?_;intros)|refine kfk ?_ ?_<;>intro hb|fail)
    rw [if_pos rfl,if_neg hq]
    (repeat' first|(refine kkSz [] [128] ?_;intros)|fail)
    rename_i u1 u2 u3
    refine kfbG (u:=u3) (B:=[abox b4 zCs 54,abox b3 (encG (G.ne a b).gl) 43]) (ds':=encStt ⟨st.next,st.bind,st.dis++[newB st.bind x],st.kinds,st.marks⟩) perm_4 (VwC.cons (VwD.refl _) (VwC.cons (VwD.refl _) (VwC.cons (VwD.row (List.mem_singleton.2 rfl) (by simp)) (VwC.cons (VwD.refl _) (VwC.cons (VwD.refl _) VwC.nil))))) ?_
    generalize (⟨st.next,st.bind,st.dis++[newB st.bind x],st.kinds,st.marks⟩:Stt)=s2 at hsp2 ⊢
    (repeat' first|(refine kk ?_;intros)|refine kfk ?_ ?_<;>intro hb|fail)
    cases hs:settleF s2 with
    | none=>
     (repeat' first|(refine kk ?_;intros)|refine kfk ?_ ?_<;>intro hb|fail)
     refine kr2 (rvw ?_) (rvV (.refl _))
     (exact wV)
    | some s3=>
     (repeat' first|(refine kk ?_;intros)|refine kfk ?_ ?_<;>intro hb|fail)
     refine kr2 (rvw ?_) (rvV (.refl _))
     (exact wV)
 | sy a=>
  have ha:a.okT:=by simpa [G.Ok] using hgk
  have p1:Sub st.bind∧KOk st.kinds∧a.okT∧((2:Int)=2∨(2:Int)=3):=⟨hbind,hpre.kinds,ha,by simp⟩
  have hv:reqF st (.sy a)=match (putO st.bind a).bind fun x=>kindAdd st.kinds x 2 with|none=>none|some ks=>settleF ⟨st.next,st.bind,st.dis,ks,st.marks⟩:=rfl
  have hrow:(rowsT (G.sy a).gl.terms)[0]?=some (encT a.tm):=rfl
  (repeat' first|(refine kk ?_;intros)|refine kfk ?_ ?_<;>intro hb|fail)
  rename_i b2 b3 b4
  cases hm:(putO st.bind a).bind fun x=>kindAdd st.kinds x 2 with
  | none=>
   rw [show reqF st (.sy a)=none from hv.trans (by rw [hm])]
   (repeat' first|(refine kk ?_;intros)|refine kfk ?_ ?_<;>intro hb|fail)
   refine kr2 (rvw ?_) (rvV (.refl _))
   (exact wV)
  | some ks=>
   rw [show reqF st (.sy a)=settleF ⟨st.next,st.bind,st.dis,ks,st.marks⟩ from hv.trans (by rw [hm])]
   have hks:KOk ks:=by
    obtain ⟨x,hx,hk⟩:=Option.bind_eq_some_iff.1 hm
    have hx2:=put_some hx
    exact kindAdd_ok hpre.kinds (by simp) (fun v e=>by
     subst e
     have:=fit_subS (fun b hb=>(hbind.sbfit b hb).2) ha.fit (s:=st.bind)
     rw [hx2.2] at this;exact fit_var.1 this) hk
   have hsp2:∃ tags,tags.length≤10000000∧SP tags ⟨st.next,st.bind,st.dis,ks,st.marks⟩:=⟨tags,htl,⟨⟨hbind,hpre.dis,hks,hpre.marks⟩,hsp.mrk,hsp.dl,hsp.nx⟩⟩
   (repeat' first|(refine kkS [] [128] ?_;intros)|fail)
   refine aoA [abox b4 zCs 54,abox b3 (encG (G.sy a).gl) 43,abox b2 (encStt (⟨st.next,st.bind,st.dis,ks,st.marks⟩:Stt)) 54] (by rfl) ?_
   generalize (⟨st.next,st.bind,st.dis,ks,st.marks⟩:Stt)=s2 at hsp2 ⊢
   (repeat' first|(refine kk ?_;intros)|refine kfk ?_ ?_<;>intro hb|fail)
   cases hs:settleF s2 with
   | none=>
    (repeat' first|(refine kk ?_;intros)|refine kfk ?_ ?_<;>intro hb|fail)
    refine kr2 (rvw ?_) (rvV (.refl _))
    (exact wV)
   | some s3=>
    (repeat' first|(refine kk ?_;intros)|refine kfk ?_ ?_<;>intro hb|fail)
    refine kr2 (rvw ?_) (rvV (.refl _))
    (exact wV)
 | nu a=>
  have ha:a.okT:=by simpa [G.Ok] using hgk
  have p1:Sub st.bind∧KOk st.kinds∧a.okT∧((3:Int)=2∨(3:Int)=3):=⟨hbind,hpre.kinds,ha,by simp⟩
  have hv:reqF st (.nu a)=match (putO st.bind a).bind fun x=>kindAdd st.kinds x 3 with|none=>none|some ks=>settleF ⟨st.next,st.bind,st.dis,ks,st.marks⟩:=rfl
  have hrow:(rowsT (G.nu a).gl.terms)[0]?=some (encT a.tm):=rfl
  (repeat' first|(refine kk ?_;intros)|refine kfk ?_ ?_<;>intro hb|fail)
  rename_i b2 b3 b4
  cases hm:(putO st.bind a).bind fun x=>kindAdd st.kinds x 3 with
  | none=>
   rw [show reqF st (.nu a)=none from hv.trans (by rw [hm])]
   (repeat' first|(refine kk ?_;intros)|refine kfk ?_ ?_<;>intro hb|fail)
   refine kr2 (rvw ?_) (rvV (.refl _))
   (exact wV)
  | some ks=>
   rw [show reqF st (.nu a)=settleF ⟨st.next,st.bind,st.dis,ks,st.marks⟩ from hv.trans (by rw [hm])]
   have hks:KOk ks:=by
    obtain ⟨x,hx,hk⟩:=Option.bind_eq_some_iff.1 hm
    have hx2:=put_some hx
    exact kindAdd_ok hpre.kinds (by simp) (fun v e=>by
     subst e
     have:=fit_subS (fun b hb=>(hbind.sbfit b hb).2) ha.fit (s:=st.bind)
     rw [hx2.2] at this;exact fit_var.1 this) hk
   have hsp2:∃ tags,tags.length≤10000000∧SP tags ⟨st.next,st.bind,st.dis,ks,st.marks⟩:=⟨tags,htl,⟨⟨hbind,hpre.dis,hks,hpre.marks⟩,hsp.mrk,hsp.dl,hsp.nx⟩⟩
   (repeat' first|(refine kkS [] [128] ?_;intros)|fail)
   refine aoA [abox b4 zCs 54,abox b3 (encG (G.nu a).gl) 43,abox b2 (encStt (⟨st.next,st.bind,st.dis,ks,st.marks⟩:Stt)) 54] (by rfl) ?_
   generalize (⟨st.next,st.bind,st.dis,ks,st.marks⟩:Stt)=s2 at hsp2 ⊢
   (repeat' first|(refine kk ?_;intros)|refine kfk ?_ ?_<;>intro hb|fail)
   cases hs:settleF s2 with
   | none=>
    (repeat' first|(refine kk ?_;intros)|refine kfk ?_ ?_<;>intro hb|fail)
    refine kr2 (rvw ?_) (rvV (.refl _))
    (exact wV)
   | some s3=>
    (repeat' first|(refine kk ?_;intros)|refine kfk ?_ ?_<;>intro hb|fail)
    refine kr2 (rvw ?_) (rvV (.refl _))
    (exact wV)
 | ab g a=>
  have ha:NameP g∧a.okT:=by simpa [G.Ok] using hgk
  have hgt:=hr.ab g a rfl
  have p1:Sub st.bind∧MOk st.marks∧st.marks.length≤1099511627776∧a.okT∧NameP g:=⟨hbind,hpre.marks,hsp.mrk.len htl,ha.2,ha.1⟩
  have hv:reqF st (.ab g a)=match (putO st.bind a).bind fun x=>markAdd st.marks x (T.sym g).tm.name with|none=>none|some ms=>settleF ⟨st.next,st.bind,st.dis,st.kinds,ms⟩:=rfl
  have hrow:(rowsT (G.ab g a).gl.terms)[1]?=some (encT a.tm):=rfl
  have hrow2:(rowsT (G.ab g a).gl.terms)[0]?=some (encT (T.sym g).tm):=rfl
  (repeat' first|(refine kk ?_;intros)|refine kfk ?_ ?_<;>intro hb|fail)
  rename_i b2 b3 b4
  cases hm:(putO st.bind a).bind fun x=>markAdd st.marks x (T.sym g).tm.name with
  | none=>
   rw [show reqF st (.ab g a)=none from hv.trans (by rw [hm])]
   (repeat' first|(refine kk ?_;intros)|refine kfk ?_ ?_<;>intro hb|fail)
   refine kr2 (rvw ?_) (rvV (.refl _))
   (exact wV)
  | some ms=>
   rw [show reqF st (.ab g a)=settleF ⟨st.next,st.bind,st.dis,st.kinds,ms⟩ from hv.trans (by rw [hm])]
   have hms:MB tags ms:=by
    obtain ⟨x,hx,hk⟩:=Option.bind_eq_some_iff.1 hm
    have hx2:=put_some hx
    have hf:=fit_subS (fun b hb=>(hbind.sbfit b hb).2) ha.2.fit (s:=st.bind)
    rw [hx2.2] at hf
    exact hsp.mrk.add ha.1 hgt (fun v hv=>hf.1 v hv) hk
   have hsp2:∃ tags,tags.length≤10000000∧SP tags ⟨st.next,st.bind,st.dis,st.kinds,ms⟩:=⟨tags,htl,⟨⟨hbind,hpre.dis,hpre.kinds,hms.ok⟩,hms,hsp.dl,hsp.nx⟩⟩
   (repeat' first|(refine kkS [] [128] ?_;intros)|fail)
   refine aoA [abox b4 zCs 54,abox b3 (encG (G.ab g a).gl) 43,abox b2 (encStt (⟨st.next,st.bind,st.dis,st.kinds,ms⟩:Stt)) 54] (by rfl) ?_
   generalize (⟨st.next,st.bind,st.dis,st.kinds,ms⟩:Stt)=s2 at hsp2 ⊢
   (repeat' first|(refine kk ?_;intros)|refine kfk ?_ ?_<;>intro hb|fail)
   cases hs:settleF s2 with
   | none=>
    (repeat' first|(refine kk ?_;intros)|refine kfk ?_ ?_<;>intro hb|fail)
    refine kr2 (rvw ?_) (rvV (.refl _))
    (exact wV)
   | some s3=>
    (repeat' first|(refine kk ?_;intros)|refine kfk ?_ ?_<;>intro hb|fail)
    refine kr2 (rvw ?_) (rvV (.refl _))
    (exact wV)
 | fail=>
  (repeat' first|(refine kk ?_;intros)|refine kfk ?_ ?_<;>intro hb|fail)
  refine kr2 (rvw ?_) (rvV (.refl _))
  (exact wV)
 | all l=>
  (repeat' first|(refine kk ?_;intros)|refine kfk ?_ ?_<;>intro hb|fail)
  refine kr2 (rvw ?_) (rvV (.refl _))
  (exact wV)
 | any l=>
  (repeat' first|(refine kk ?_;intros)|refine kfk ?_ ?_<;>intro hb|fail)
  refine kr2 (rvw ?_) (rvV (.refl _))
  (exact wV)
 | call s l=>
  (repeat' first|(refine kk ?_;intros)|refine kfk ?_ ?_<;>intro hb|fail)
  refine kr2 (rvw ?_) (rvV (.refl _))
  (exact wV)
 | non s l=>
  (repeat' first|(refine kk ?_;intros)|refine kfk ?_ ?_<;>intro hb|fail)
  refine kr2 (rvw ?_) (rvV (.refl _))
  (exact wV)⟩
end
end Go.Proofs.YtbabchapkhlenaaGreat
