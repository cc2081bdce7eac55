/- Parts of the proof: V79 V81. -/
import Derived.Test.YtbabchapkhlenaaGreatC43
namespace Go.Proofs.YtbabchapkhlenaaGreat
open Go
set_option linter.all false
set_option maxRecDepth 100000
set_option maxHeartbeats 4000000
noncomputable section
open Classical
instance solve_s:Con2 Tryz.prog 22 Nat (List G) nv vGs (fun n l=>optC (solveF n l)) ClP:=⟨fun n l hl=>by
 have hn:=hl.nn
 have hlen:((l.map G.gl).map encG).length=l.length:=by simp
 have hll:=hl.len
 refine pu Tryz.func22 rfl Tryz.ntmps22 rfl rfl fun C=>?_
 haveI:=inYes_s
 haveI:=single_s
 (repeat' first|(refine kk ?_;intros)|refine kfk ?_ ?_<;>intro hb|fail)
 rename_i b4 b7
 refine AW_box0 (ds':=encStt (st0 n)) ⟨.refl _,D.le_nil,D.le_nil,D.le_nil,D.le_nil,trivial⟩ ?_
 refine kfor (ι:=Unit) l (fun j _=>[(0,nv n),(1,vGs l),(4,.one (.v (.pointer (some ⟨b4,0,none⟩)))),(7,.one (.v (.pointer (some ⟨b7,0,none⟩)))),(8,bv true),(21,vGs l)]) (fun j _=>[abox b7 (encStt (st0 n)) 54,abox b4 zCs 54]) (fun _ _=>True) () trivial ?_ ?_
 ·rintro j g _ hj hdd hjl _
  have hrow:((l.map G.gl).map encG)[j]?=some (encG g.gl):=by simp [hj]
  have hm:=List.mem_of_getElem? hj
  have hok:=hl.ok g hm
  have k78:¬ g.gl.kind=7∧¬ g.gl.kind=8:=by
   have:=hl.single g hm
   cases g<;>simp [G.gl,G.single] at *
  have p1:(g.gl.In∧g.okG)∧¬ g.gl.kind=7∧¬ g.gl.kind=8:=⟨⟨gl_in hok.1,hok.1,hok.2⟩,k78⟩
  have p2:GvS g∧AsV []:=⟨hok.1.gvs,.nil,by simp⟩
  have hgd:(gts g).foldl varsA []=gvars g:=rfl
  have hvs:=hl.vars g hm
  have hlen3:=gvars_len hok.1.gvp
  (repeat' first|(refine kkS [] [11] ?_;intros)|fail)
  rw [hgd]
  generalize gvars g=L at hvs hlen3 ⊢
  have hlen2:(L.map encN).length=L.length:=by simp
  rcases (show L=[]∨∃ l m,L=l++[m] by rcases L.eq_nil_or_concat with h | ⟨l,m,h⟩;exact .inl h;exact .inr ⟨l,m,by rw [h,List.concat_eq_append]⟩) with rfl | ⟨l',m,rfl⟩
  ·(repeat' first|(refine kk ?_;intros)|refine kfk ?_ ?_<;>intro hb|fail)
   exact ⟨(),trivial,kwk⟩
  ·have hrow2:((l'++[m]).map encN)[(l'++[m]).length - 1]?=some [.v (.int .i64 (m:Int))]:=by simp [encI]
   have hpos:(l'++[m]).length≠0:=by simp
   have hmn:m < n:=hvs m (by simp)
   (repeat' first|(refine kk ?_;intros)|refine kfk ?_ ?_<;>intro hb|fail)
   exact ⟨(),trivial,kwk⟩
 rintro _ _
 (repeat' first|(refine kk ?_;intros)|refine kfk ?_ ?_<;>intro hb|fail)
 refine kfor (ι:=Stt × Bool) l (fun j q=>[(0,nv n),(1,vGs l),(4,.one (.v (.pointer (some ⟨b4,0,none⟩)))),(7,.one (.v (.pointer (some ⟨b7,0,none⟩)))),(8,bv q.2),(50,vGs l)]) (fun j q=>[abox b7 (encStt q.1) 54,abox b4 zCs 54]) (fun j q=>(q.2=true→foldR (st0 n) l=foldR q.1 (l.drop j)∧SP (tagsOf l) q.1∧q.1.dis.length≤30)∧(q.2=false→foldR (st0 n) l=none)) (st0 n,true) ⟨fun _=>⟨rfl,st0_SP hn,by simp⟩,fun h=>by cases h⟩ ?_ ?_
 ·rintro j g ⟨st,ok⟩ hj hdd hjl ⟨q1,q2⟩
  have hrow:((l.map G.gl).map encG)[j]?=some (encG g.gl):=by simp [hj]
  have hm:=List.mem_of_getElem? hj
  have hk:=isCall_kind (hl.single g hm) (hl.pos g hm)
  cases ok with
  | false=>
   (repeat' first|(refine kk ?_;intros)|refine kfk ?_ ?_<;>intro hb|fail)
   exact ⟨(st,false),⟨fun h=>(by cases h),fun _=>q2 rfl⟩,kwk⟩
  | true=>
   obtain ⟨q1,q3,q4⟩:=q1 rfl
   simp only at q1 q3 q4
   rw [foldR_drop hdd] at q1
   by_cases hc:isCall g
   ·rw [if_pos hc] at q1
    have hk6:=hk.1.2 hc
    (repeat' first|(refine kk ?_;intros)|refine kfk ?_ ?_<;>intro hb|fail)
    exact ⟨(st,true),⟨fun _=>⟨q1,q3,q4⟩,fun h=>by cases h⟩,kwk⟩
   ·rw [if_neg hc] at q1
    have hk6:=hk.2.2 hc
    have hrp:RP (tagsOf l) st g:=⟨q3,by omega,(hl.ok g hm).1,fun s a e=>by subst e;exact tagsOf_mem hm⟩
    have p3:∃ tags,tags.length≤10000000∧RP tags st g:=⟨tagsOf l,by have:=tagsOf_len (l:=l);omega,hrp⟩
    have hF:=reqR_F hrp
    (repeat' first|(refine kk ?_;intros)|refine kfk ?_ ?_<;>intro hb|fail)
    refine ⟨(reqR st g),⟨fun h=>?_,fun h=>?_⟩,kwk⟩
    ·rw [if_pos h] at hF
     rw [hF] at q1
     obtain ⟨r1,r2,r3⟩:=req_SP hrp q4 hF
     exact ⟨q1,r1,r3⟩
    ·rw [if_neg (by rw [h];simp)] at hF
     rw [hF] at q1;exact q1
 rintro ⟨st,ok⟩ ⟨q1,q2⟩
 rw [List.drop_length] at q1
 have hb:ok=true→Sub st.bind:=fun h=>(q1 h).2.1.pre.bind
 (repeat' first|(refine kkz ?_;intros)|refine kfk ?_ ?_<;>intro hb|fail)
 rename_i u0
 refine kfor (ι:=Value × List G × Bool) l (fun j q=>[(4,.one (.v (.pointer (some ⟨b4,0,none⟩)))),(7,.one (.v (.pointer (some ⟨b7,0,none⟩)))),(8,bv q.2.2),(14,.one (.v q.1)),(70,vGs l)]) (fun j q=>[arow 43 4 q.1 ((q.2.1.map G.gl).map encG),abox b7 (encStt st) 54,abox b4 zCs 54]) (fun j q=>q.2.1.length≤j∧(q.2.2=true→ok=true∧callsR st.bind l=(callsR st.bind (l.drop j)).map (q.2.1++·)∧∀ g∈q.2.1,g.Ok)∧(q.2.2=false→solveF n l=none)) (u0,[],ok) ⟨by simp,fun h=>⟨h,by simp,by simp⟩,fun h=>by unfold solveF;rw [q2 h];rfl⟩ ?_ ?_
 ·rintro j g ⟨u,acc,ok2⟩ hj hdd hjl ⟨q5,q6,q7⟩
  have hrow:((l.map G.gl).map encG)[j]?=some (encG g.gl):=by simp [hj]
  have hm:=List.mem_of_getElem? hj
  have hk:=isCall_kind (hl.single g hm) (hl.pos g hm)
  simp only at q5
  cases ok2 with
  | false=>
   (repeat' first|(refine kk ?_;intros)|refine kfk ?_ ?_<;>intro hb|fail)
   exact ⟨(u,acc,false),⟨by simp only;omega,fun h=>(by cases h),fun _=>q7 rfl⟩,kwk⟩
  | true=>
   obtain ⟨hok,q6,q8⟩:=q6 rfl
   simp only at q6 q8
   rw [callsR_drop hdd] at q6
   by_cases hc:isCall g
   case neg=>
    rw [if_neg hc] at q6
    have hk6:=hk.2.2 hc
    (repeat' first|(refine kk ?_;intros)|refine kfk ?_ ?_<;>intro hb|fail)
    exact ⟨(u,acc,true),⟨by simp only;omega,fun _=>⟨hok,q6,q8⟩,fun h=>by cases h⟩,kwk⟩
   rw [if_pos hc] at q6
   have hk6:=hk.1.2 hc
   have hgk:=(hl.ok g hm).1
   have p4:Sub st.bind∧isCall g∧g.Ok:=⟨hb hok,hc,hgk⟩
   have hsp:=subC_put (hb hok) hc hgk
   (repeat' first|(refine kk ?_;intros)|refine kfk ?_ ?_<;>intro hb|fail)
   rename_i u2
   refine ⟨(u2,acc++[subC st.bind g],decide (subC st.bind g).gl.ok),⟨by simp;omega,fun h=>?_,fun h=>?_⟩,?_⟩
   ·have h:(subC st.bind g).gl.ok:=by simpa using h
    rw [if_pos h] at hsp
    rw [hsp] at q6
    refine ⟨hok,?_,fun x hx=>?_⟩
    ·rw [q6]
     cases callsR st.bind (l.drop (j+1))<;>simp
    ·rcases List.mem_append.1 hx with hx|hx
     ·exact q8 x hx
     ·obtain rfl:=List.mem_singleton.1 hx
      obtain ⟨v,e,hv⟩:=okG_iff.1 h
      rw [gl_inj e];exact hv.ok
   ·have h:¬ (subC st.bind g).gl.ok:=by simpa using h
    rw [if_neg h] at hsp
    rw [hsp] at q6
    unfold solveF
    rw [(q1 hok).1]
    show (callsR st.bind l).map _=none
    rw [q6];rfl
   ·simp only [List.map_append]
    exact kwk
 ·rintro ⟨u,acc,ok2⟩ ⟨q5,q6,q7⟩
  cases ok2 with
  | false=>
   rw [q7 rfl]
   (repeat' first|(refine kk ?_;intros)|refine kfk ?_ ?_<;>intro hb|fail)
   refine kr3 (rvw ?_) rvN (rvT rfl)
   (exact wV)
  | true=>
   obtain ⟨hok,q6,q8⟩:=q6 rfl
   rw [List.drop_length] at q6
   obtain ⟨q9,q10,q11⟩:=q1 hok
   simp only at q5 q6 q8 q9 q10 q11
   have hs:=q10.pre.bind
   have hstl:StL st:=⟨by have:=hs.vok.len;omega,by omega,fun d hd=>by have:=(q10.pre.dis d hd).vok.len;omega,by have:=q10.pre.kinds.len;omega,q10.mrk.len (by have:=tagsOf_len (l:=l);omega)⟩
   have p5:acc.length≤1000000∧∀ g∈acc,GvS g:=⟨by omega,fun g hg=>(q8 g hg).gvs⟩
   have hv:solveF n l=some (st,acc):=by
    unfold solveF
    rw [q9]
    show (callsR st.bind l).map _=_
    rw [q6];simp [callsR]
   rw [hv]
   (repeat' first|(refine kkSz [] [99] ?_;intros)|fail)
   refine kfO 0 14 ?_
   (repeat' first|(refine kk ?_;intros)|refine kfk ?_ ?_<;>intro hb|fail)
   refine kr3 (rvw ?_) (rvT rfl) (rvT rfl)
   (exact wV)⟩
end
noncomputable section
open Classical
abbrev optGs:Option (List Gr)→AV
 | some l=>.tup [.one (.s 3 (l.map encGr)),bv true]
 | none=>.tup [.one (.s 3 []),bv false]
theorem walkYes_s:Con2 Tryz.prog 23 Sb T vS vT (fun s t=>vT (t.sub (suOf s))) (fun s t=>s.length≤1000000∧∃ i:Nat,t=.var i):=⟨fun s t ⟨hl,i,e⟩=>by
 subst e
 have:=walk_s.h s (.var i) (by unfold Lng;omega)
 rwa [walkP_var] at this⟩
theorem sameYes_s:Con2 Tryz.prog 26 T T vT vT (fun t a=>bp (a=t)) (fun _ _=>True):=⟨fun t a _=>by
 have:=same_s.h t a trivial
 rwa [show bp (t=a)=bp (a=t) from congrArg bp (propext eq_comm)] at this⟩
instance sizeGraphs_s:Con1 Tryz.prog 7 (List RlR) vP (fun p=>optGs (sizeF p)) InP:=⟨fun p hin=>by
 refine pu Tryz.func7 rfl Tryz.ntmps7 rfl rfl fun C=>?_
 by_cases hpos:posOk p
 case neg=>
  rw [sizeF_none hpos]
  (repeat' first|(refine kk ?_;intros)|refine kfk ?_ ?_<;>intro hb|fail)
  all_goals first
   | exact absurd (by assumption) hpos
   | exact kr2 rvN (rvT rfl)
 obtain ⟨q,rfl,hq,hqp⟩:=posOk_some hpos
 rw [sizeF_pos hq hqp]
 haveI:Con1 Tryz.prog 20 (List Rl) vPq (fun _=>bv true) (fun q=>InP (q.map Rl.rl)∧posOk (q.map Rl.rl)):=⟨fun q ⟨h1,h2⟩=>by
  have:=isPositive_s.h _ h1
  rwa [show bp (posOk (q.map Rl.rl))=bv true from (bpT h2).symm] at this⟩
 have p1:=And.intro hin hpos
 have hlen:((q.map Rl.rl).map encR).length=q.length:=by simp
 have hql:=hq.len
 (repeat' first|(refine kkz ?_;intros)|refine kfk ?_ ?_<;>intro hb|fail)
 rename_i b1 u0
 refine kfor (ι:=Value × List Gr) q (fun j x=>[(4,.one (.v x.1)),(26,.one (.s 7 ((q.map Rl.rl).map encR)))]) (fun j x=>[arow 59 3 x.1 (x.2.map encGr)]) (fun j x=>x.2=(q.take j).flatMap graphsR∧x.2.length≤64000 * j∧∀ r∈q.take j,(clF r.body).isSome=true) (u0,[]) ⟨rfl,by simp,by simp⟩ ?_ ?_
 ·rintro j r ⟨u,os⟩ hj hdd hjl ⟨q1,q2,q0⟩
  simp only at q1 q2
  have hrow:((q.map Rl.rl).map encR)[j]?=some (encR r.rl):=by simp [hj]
  have hrm:=List.mem_of_getElem? hj
  have hr:=hq.rel j r hj
  have p3:r.body.gl.In∧r.body.okG:=⟨gl_in hr.ok,hr.ok,by have:=hr.size;omega⟩
  have har:=hr.ar
  have hlo:=hr.loc
  cases hcl:clF r.body with
  | none=>
   have hno:graphsP q=none:=graphsP_none fun h=>by have:=h r hrm;rw [hcl] at this;cases this
   rw [hno]
   (repeat' first|(refine kkS [] [32] ?_;intros)|fail)
   rw [hcl]
   (repeat' first|(refine kk ?_;intros)|refine kfk ?_ ?_<;>intro hb|fail)
   exact kr2 rvN (rvT rfl)
  | some cl=>
   have hgr:graphsR r=cl.flatMap (graphsC r):=by unfold graphsR;rw [hcl];rfl
   have hll:=(clF_lens hcl p3.2.size).1
   have hll2:(cl.map eCl).length=cl.length:=by simp
   (repeat' first|(refine kkS [] [32] ?_;intros)|fail)
   rw [hcl]
   (repeat' first|(refine kk ?_;intros)|refine kfk ?_ ?_<;>intro hb|fail)
   rename_i b6
   refine kfor (ι:=Value × List Gr) cl (fun k x=>[(4,.one (.v x.1)),(6,.one (.v (.pointer (some ⟨b6,0,none⟩)))),(26,.one (.s 7 ((q.map Rl.rl).map encR))),(28,iv j),(27,iv q.length),(40,vCl cl)]) (fun k x=>[arow 59 3 x.1 (x.2.map encGr),abox b6 (encR r.rl) 45]) (fun k x=>x.2=(q.take j).flatMap graphsR++(cl.take k).flatMap (graphsC r)∧x.2.length≤64000 * j+1000 * k) (u,os) ⟨by simpa using q1,by simp only;omega⟩ ?_ ?_ ⟨leF_fl wL,_,List.Perm.swap _ _ _,.refl _⟩
   ·rintro k c ⟨u,os⟩ hk hkd hkl ⟨q3,q4⟩
    simp only at q3 q4
    have hrow1:(cl.map eCl)[k]?=some (eCl c):=by simp [hk]
    have hcp:=rl_clause hr (hqp r hrm) hcl (List.mem_of_getElem? hk)
    have ht1:cl.take (k+1)=cl.take k++[c]:=by rw [List.take_add_one,hk];rfl
    (repeat' first|(refine kk ?_;intros)|refine kfk ?_ ?_<;>intro hb|fail)
    cases hs:solveF (r.ar+r.loc) c with
    | none=>
     have hgc:graphsC r c=[]:=by unfold graphsC;rw [hs]
     (repeat' first|(refine kk ?_;intros)|refine kfk ?_ ?_<;>intro hb|fail)
     refine kun3 ?_
     (repeat' first|(refine kk ?_;intros)|refine kfk ?_ ?_<;>intro hb|fail)
     exact ⟨(u,os),⟨by rw [ht1,List.flatMap_append];simpa [hgc] using q3,by simp only;omega⟩,kwk⟩
    | some sq=>
     obtain ⟨st,calls⟩:=sq
     have hgc:graphsC r c=calls.map (graphOf r.name st.bind r.ar):=by unfold graphsC;rw [hs]
     have hsv:=solveF_P hcp hs
     have hbd:=hsv.bind
     have hcll:=hsv.len
     simp only at hbd hcll
     have hcl2:((calls.map G.gl).map encG).length=calls.length:=by simp
     (repeat' first|(refine kk ?_;intros)|refine kfk ?_ ?_<;>intro hb|fail)
     rename_i b11
     refine kfor (ι:=Value × List Gr) calls (fun m x=>[(4,.one (.v x.1)),(6,.one (.v (.pointer (some ⟨b6,0,none⟩)))),(11,.one (.v (.pointer (some ⟨b11,0,none⟩)))),(26,.one (.s 7 ((q.map Rl.rl).map encR))),(28,iv j),(27,iv q.length),(40,vCl cl),(42,iv k),(41,iv cl.length),(57,vGs calls)]) (fun m x=>[arow 59 3 x.1 (x.2.map encGr),abox b6 (encR r.rl) 45,abox b11 (encStt st) 54]) (fun m x=>x.2=((q.take j).flatMap graphsR++(cl.take k).flatMap (graphsC r))++(calls.take m).map (graphOf r.name st.bind r.ar)∧x.2.length≤64000 * j+1000 * k+m) (u,os) ⟨by simpa using q3,by simp only;omega⟩ ?_ ?_ ⟨leF_fl wL,_,(List.Perm.cons _ (List.Perm.swap _ _ _)).trans (List.Perm.swap _ _ _),.refl _⟩
     ·rintro m g ⟨u,os⟩ hm hmd hml ⟨q5,q6⟩
      simp only at q5 q6
      have hrow2:((calls.map G.gl).map encG)[m]?=some (encG g.gl):=by simp [hm]
      obtain ⟨s,ts,rfl,hsn,hts⟩:=hsv.call g (List.mem_of_getElem? hm)
      have hts2:((ts.map T.tm).map encT).length=ts.length:=by simp
      have hmt:calls.take (m+1)=calls.take m++[.call s ts]:=by rw [List.take_add_one,hm];rfl
      have e1:rowsT (G.call s ts).gl.terms=(ts.map T.tm).map encT:=by rw [rowsT_eq];rfl
      have e2:(G.call s ts).gl.terms.length=ts.length:=List.length_map _
      (repeat' first|(refine kk ?_;intros)|refine kfk ?_ ?_<;>intro hb|fail)
      rename_i b15 b16
      refine knA 66 3 ?_
      refine kloop (ι:=Nat × Value) (fun y=>r.ar - y.1) (fun y=>[(4,.one (.v u)),(6,.one (.v (.pointer (some ⟨b6,0,none⟩)))),(11,.one (.v (.pointer (some ⟨b11,0,none⟩)))),(15,.one (.v (.pointer (some ⟨b15,0,none⟩)))),(16,.one (.v (.pointer (some ⟨b16,0,none⟩)))),(26,.one (.s 7 ((q.map Rl.rl).map encR))),(28,iv j),(27,iv q.length),(40,vCl cl),(42,iv k),(41,iv cl.length),(57,vGs calls),(59,iv m),(58,iv calls.length),(17,nv y.1)]) (fun y=>[arow 66 3 y.2 ((colK st.bind ts y.1).map encA),gbxO b16 r.name s y.2,abox b15 (encG (G.call s ts).gl) 43,arow 59 3 u (os.map encGr),abox b6 (encR r.rl) 45,abox b11 (encStt st) 54]) (fun y=>y.1≤r.ar) (0,.slice none 0 0) (Nat.zero_le _) ?_
      rintro ⟨i,ua⟩ hi
      simp only at hi
      dsimp only
      have e3:r.rl.ar=(r.ar:Int):=rfl
      by_cases hir:i < r.ar
      ·haveI:=walkYes_s
       haveI:=sameYes_s
       have p5:st.bind.length≤1000000∧∃ i':Nat,T.var i=T.var i':=⟨by have:=hbd.vok.len;omega,i,rfl⟩
       have hcl3:=colK_len (b:=st.bind) (ts:=ts) (n:=i) (by omega) hts
       (repeat' first|(refine kk ?_;intros)|refine kfk ?_ ?_<;>intro hb|fail)
       refine kmix 6 [0,1,2,3,4] [5] [abox b11 (encStt st) 54] ?_ (hB:=Has.mem (by repeat (first|exact List.Mem.head _|apply List.Mem.tail)))
       (repeat (refine kkc ?_))
       refine kacO rfl rfl (O_alloc rfl) ?_
       rintro v A' ⟨b18,rfl,rfl⟩
       refine ⟨Has.mem (by repeat (first|exact List.Mem.head _|apply List.Mem.tail)),?_⟩
       (repeat (refine kkc ?_))
       (repeat' first|(refine kk ?_;intros)|refine kfk ?_ ?_<;>intro hb|fail)
       rw [e1,e2]
       refine kfor (ι:=Value) ts (fun n u9=>[(4,.one (.v u)),(6,.one (.v (.pointer (some ⟨b6,0,none⟩)))),(11,.one (.v (.pointer (some ⟨b11,0,none⟩)))),(15,.one (.v (.pointer (some ⟨b15,0,none⟩)))),(16,.one (.v (.pointer (some ⟨b16,0,none⟩)))),(26,.one (.s 7 ((q.map Rl.rl).map encR))),(28,iv j),(27,iv q.length),(40,vCl cl),(42,iv k),(41,iv cl.length),(57,vGs calls),(59,iv m),(58,iv calls.length),(17,nv i),(18,.one (.v (.pointer (some ⟨b18,0,none⟩)))),(80,.one (.s 4 ((ts.map T.tm).map encT)))]) (fun n u9=>[abox b18 (encT ((T.var i).sub (suOf st.bind)).tm) 61,arow 66 3 u9 ((colK st.bind ts i++rowK ((T.var i).sub (suOf st.bind)) i ts n).map encA),gbxO b16 r.name s u9,abox b15 (encG (G.call s ts).gl) 43,arow 59 3 u (os.map encGr),abox b6 (encR r.rl) 45,abox b11 (encStt st) 54]) (fun _ _=>True) ua trivial ?_ ?_ ?_
       ·rintro n a u9 hn hnd hnl _
        have hrow3:((ts.map T.tm).map encT)[n]?=some (encT a.tm):=by simp [hn]
        have hrl:=rowK_len (t:=(T.var i).sub (suOf st.bind)) (i:=i) (ts:=ts) n
        have hrs:=rowK_succ (t:=(T.var i).sub (suOf st.bind)) (i:=i) hn
        (repeat' first|(refine kk ?_;intros)|refine kfk ?_ ?_<;>intro hb|fail)
        ·refine kdA 2 (ho:=rfl) fun u10=>?_
         (repeat' first|(refine kk ?_;intros)|refine kfk ?_ ?_<;>intro hb|fail)
         refine ⟨u10,trivial,?_⟩
         rw [hrs,if_pos hb,← List.append_assoc]
         exact kwk (hs:=by
          simp only [List.map_append,List.map_cons,List.map_nil]
          (exact wS))
        ·refine ⟨u9,trivial,?_⟩
         rw [hrs,if_neg hb,List.append_nil]
         exact kwk
       ·rintro u9 _
        (repeat' first|(refine kk ?_;intros)|refine kfk ?_ ?_<;>intro hb|fail)
        exact ⟨(i+1,u9),by simp only;omega,by simp only;omega,kwk⟩
       ·exact kwk (hs:=by
         simp only [rowK,List.append_nil]
         (exact wS))
      ·obtain rfl:i=r.ar:=by omega
       (repeat' first|(refine kkS [] [104] ?_;intros)|fail)
       refine kfbG (u:=ua) (B:=[abox b15 (encG (G.call s ts).gl) 43,arow 59 3 u (os.map encGr),abox b6 (encR r.rl) 45,abox b11 (encStt st) 54]) (ds':=encGr (graphOf r.name st.bind r.ar (.call s ts))) perm_sw (VwC.cons (VwD.refl _) (VwC.cons (VwD.refl _) (VwC.cons (VwD.row (List.mem_singleton.2 rfl) rfl) VwC.nil))) ?_
       (repeat' first|(refine kk ?_;intros)|refine kfk ?_ ?_<;>intro hb|fail)
       rename_i u2
       refine ⟨(u2,os++[graphOf r.name st.bind r.ar (.call s ts)]),⟨?_,by simp;omega⟩,?_⟩
       ·rw [hmt,List.map_append,q5]
        simp
       ·simp only [List.map_append]
        exact kwk
     ·rintro ⟨u,os⟩ ⟨q5,q6⟩
      simp only at q5 q6
      rw [List.take_length] at q5
      (repeat' first|(refine kk ?_;intros)|refine kfk ?_ ?_<;>intro hb|fail)
      refine ⟨(u,os),⟨by rw [ht1,List.flatMap_append];simpa [hgc] using q5,by simp only;omega⟩,kwk⟩
   ·rintro ⟨u,os⟩ ⟨q3,q4⟩
    simp only at q3 q4
    rw [List.take_length] at q3
    (repeat' first|(refine kk ?_;intros)|refine kfk ?_ ?_<;>intro hb|fail)
    refine ⟨(u,os),⟨?_,by simp only;omega,take_succ_allP hj q0 (by rw [hcl];rfl)⟩,kwk⟩
    rw [List.take_add_one,hj]
    simpa [List.flatMap_append,hgr] using q3
 ·rintro ⟨u,os⟩ ⟨q1,q2,q0⟩
  rw [List.take_length] at q1 q0
  have hv:graphsP q=some os:=by rw [graphsP_some q0];exact congrArg some q1.symm
  rw [hv]
  (repeat' first|(refine kk ?_;intros)|refine kfk ?_ ?_<;>intro hb|fail)
  exact kr2 (rvR rfl) (rvT rfl)⟩
end
end Go.Proofs.YtbabchapkhlenaaGreat
