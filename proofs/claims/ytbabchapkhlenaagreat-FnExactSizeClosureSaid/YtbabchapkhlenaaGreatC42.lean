/- Parts of the proof: V77 V78. -/
import Derived.Test.YtbabchapkhlenaaGreatC39
import Derived.Test.YtbabchapkhlenaaGreatC41
import Derived.Test.YtbabchapkhlenaaGreatC31
namespace Go.Proofs.YtbabchapkhlenaaGreat
open Go
set_option linter.all false
set_option maxRecDepth 100000
set_option maxHeartbeats 4000000
noncomputable section
open Classical
theorem in_terms {l:List T} (h:∀ t∈l,t.fit):InL (l.map T.tm):=InL.all.2 fun t ht=>by
 obtain ⟨u,hu,rfl⟩:=List.mem_map.1 ht
 exact tm_in (h u hu)
mutual
theorem gl_in:∀ {g:G},g.Ok→g.gl.In
 | .tru,_=>by simp [G.gl,Gl.In,InL,InG];decide
 | .fail,_=>by simp [G.gl,Gl.In,InL,InG];decide
 | .eq a b,h=>by
  have h:a.okT∧b.okT:=by simpa [G.Ok] using h
  exact ⟨by decide,by decide,by simp [Lng],by simp [InL,tm_in h.1.fit,tm_in h.2.fit],by simp,by simp [InG]⟩
 | .ne a b,h=>by
  have h:a.okT∧b.okT:=by simpa [G.Ok] using h
  exact ⟨by decide,by decide,by simp [Lng],by simp [InL,tm_in h.1.fit,tm_in h.2.fit],by simp,by simp [InG]⟩
 | .sy a,h=>by
  have h:a.okT:=by simpa [G.Ok] using h
  exact ⟨by decide,by decide,by simp [Lng],by simp [InL,tm_in h.fit],by simp,by simp [InG]⟩
 | .nu a,h=>by
  have h:a.okT:=by simpa [G.Ok] using h
  exact ⟨by decide,by decide,by simp [Lng],by simp [InL,tm_in h.fit],by simp,by simp [InG]⟩
 | .ab s a,h=>by
  have h:NameP s∧a.okT:=by simpa [G.Ok] using h
  exact ⟨by decide,by decide,by simp [Lng],by simp only [InL,tm_in h.2.fit,tm_in (fit_sym.2 h.1)];simp,by simp,by simp [InG]⟩
 | .all l,h=>by
  have h:l.length≤8∧OkL l:=by simpa [G.Ok] using h
  exact ⟨by decide,by decide,by simp [Lng],by simp [InL],by rw [glL_eq,List.length_map];omega,glL_in h.2⟩
 | .any l,h=>by
  have h:l.length≤8∧OkL l:=by simpa [G.Ok] using h
  exact ⟨by decide,by decide,by simp [Lng],by simp [InL],by rw [glL_eq,List.length_map];omega,glL_in h.2⟩
 | .call s l,h=>by
  have h:RelP s∧l.length≤4∧∀ t∈l,t.okT:=by simpa [G.Ok] using h
  exact ⟨by decide,relP_lng h.1,by simp [Lng];omega,in_terms fun t ht=>(h.2.2 t ht).fit,by simp,by simp [InG]⟩
 | .non s l,h=>by
  have h:RelP s∧l.length≤4∧∀ t∈l,t.okT:=by simpa [G.Ok] using h
  refine ⟨by decide,by decide,by simp [Lng],by simp [InL],by simp,⟨?_,trivial⟩⟩
  exact ⟨by decide,relP_lng h.1,by simp [Lng];omega,in_terms fun t ht=>(h.2.2 t ht).fit,by simp,by simp [InG]⟩
theorem glL_in:∀ {l:List G},OkL l→InG (glL l)
 | [],_=>by simp [glL,InG]
 | g::l,h=>by
  have h:g.Ok∧OkL l:=by simpa [OkL] using h
  exact ⟨gl_in h.1,glL_in h.2⟩
end
abbrev vGs (l:List G):AV:=.one (.s 4 ((l.map G.gl).map encG))
abbrev optC:Option (Stt × List G)→AV
 | some q=>.tup [vSt q.1,vGs q.2,bv true]
 | none=>.tup [vSt zSt,.one (.s 4 []),bv false]
theorem goalYes_i:Con1 Tryz.prog 66 G vG (fun _=>bv true) (fun g=>g.Ok∧g.nodes≤80):=⟨fun g ⟨hok,hn⟩=>by
 have:=goalOk_i.h g.gl (gl_in hok)
 rwa [show bp g.gl.ok=bv true from (bpT (okG_iff.2 ⟨g,rfl,hok,hn⟩)).symm] at this⟩
theorem varsYes_i:Con2 Tryz.prog 67 G Nat vG nv (fun _ _=>bv true) (fun g n=>GvP g∧∀ v∈gvars g,v < n):=⟨fun g n ⟨hg,hv⟩=>by
 have:=varsBelow_c.h g n hg
 rwa [show bp (∀ v∈gvars g,(v:Int) < (n:Int))=bv true from (bpT fun v h=>by have:=hv v h;omega).symm] at this⟩
instance newState_i:Con1 Tryz.prog 68 Nat nv (fun n=>vSt (st0 n)) (fun n=>n≤100000):=⟨fun n hn=>by
 refine pu Tryz.func68 rfl Tryz.ntmps68 rfl rfl fun C=>?_
 (repeat' first|(refine kk ?_;intros)|refine kfk ?_ ?_<;>intro hb|fail)
 refine kr1 (rvw ?_)
 (exact wV)⟩
theorem solve1_c (b:Nat) (st:Stt) (t:T) (hs:Sub st.bind) (ht:t.fit):Spec Tryz.prog 71 (vT t::capA [.pointer (some ⟨b,0,none⟩)]) [abox b (encStt st) 54] fun v A'=>v=optT (putO st.bind t)∧A'=[abox b (encStt st) 54]:=by
 have p1:PutOk st.bind∧t.fit:=⟨hs.vok.putOk,ht⟩
 show Spec _ _ [vT t,.one (.v (.pointer (some ⟨b,0,none⟩)))] _ _
 refine sp Tryz.func71 rfl Tryz.ntmps71 rfl rfl fun C=>?_
 (repeat' first|(refine kk ?_;intros)|refine kfk ?_ ?_<;>intro hb|fail)
 cases hp:putO st.bind t with
 | none=>
  (repeat' first|(refine kk ?_;intros)|refine kfk ?_ ?_<;>intro hb|fail)
  exact kerC2 (v1:=vT .nil) (v2:=bv false) ⟨rfl,rfl⟩ (.refl _) (.refl _)
 | some x=>
  (repeat' first|(refine kk ?_;intros)|refine kfk ?_ ?_<;>intro hb|fail)
  exact kerC2 (v1:=vT x) (v2:=bv true) ⟨rfl,rfl⟩ (.refl _) (.refl _)
theorem callsR_drop {b:Sb} {l:List G} {j:Nat} {x:G} (hd:l.drop j=x::l.drop (j+1)):callsR b (l.drop j)=if isCall x then (putC b x).bind fun y=>(callsR b (l.drop (j+1))).map (y::·) else callsR b (l.drop (j+1)):=by rw [hd];rfl
theorem foldR_drop {st:Stt} {l:List G} {j:Nat} {x:G} (hd:l.drop j=x::l.drop (j+1)):foldR st (l.drop j)=if isCall x then foldR st (l.drop (j+1)) else (reqF st x).bind fun st'=>foldR st' (l.drop (j+1)):=by rw [hd];rfl
theorem isCall_ex {g:G} (h:isCall g):∃ s ts,g=.call s ts:=by cases g<;>simp [isCall] at h ⊢
instance solve_i:Con2 Tryz.prog 31 Nat (List G) nv vGs (fun n l=>optC (solveF n l)) ClP:=⟨fun n l hl=>by
 have hn:=hl.nn
 have hlen:((l.map G.gl).map encG).length=l.length:=by simp
 have hll:=hl.len
 refine pu Tryz.func31 rfl Tryz.ntmps31 rfl rfl fun C=>?_
 haveI:=goalYes_i
 haveI:=varsYes_i
 (repeat' first|(refine kk ?_;intros)|refine kfk ?_ ?_<;>intro hb|fail)
 rename_i b4
 refine kfor (ι:=Unit) l (fun j _=>[(0,nv n),(1,vGs l),(4,.one (.v (.pointer (some ⟨b4,0,none⟩)))),(26,vGs l)]) (fun j _=>[abox b4 zCs 54]) (fun _ _=>True) () trivial ?_ ?_
 ·rintro j g _ hj hdd hjl _
  have hrow:((l.map G.gl).map encG)[j]?=some (encG g.gl):=by simp [hj]
  have hm:=List.mem_of_getElem? hj
  have p1:=hl.ok g hm
  have p2:GvP g∧∀ v∈gvars g,v < n:=⟨p1.1.gvp,hl.vars g hm⟩
  have hk:=isCall_kind (hl.single g hm) (hl.pos g hm)
  have k7:¬ g.gl.kind=7∧¬ g.gl.kind=8:=by
   have:=hl.single g hm
   cases g<;>simp [G.gl,G.single] at *
  obtain ⟨k7,k8⟩:=k7
  (repeat' first|(refine kk ?_;intros)|refine kfk ?_ ?_<;>intro hb|fail)
  exact ⟨(),trivial,kwk⟩
 rintro _ _
 (repeat' first|(refine kk ?_;intros)|refine kfk ?_ ?_<;>intro hb|fail)
 rename_i b9
 refine kfor (ι:=Stt) l (fun j st=>[(0,nv n),(1,vGs l),(4,.one (.v (.pointer (some ⟨b4,0,none⟩)))),(9,.one (.v (.pointer (some ⟨b9,0,none⟩)))),(55,vGs l)]) (fun j st=>[abox b9 (encStt st) 54,abox b4 zCs 54]) (fun j st=>foldR (st0 n) l=foldR st (l.drop j)∧SP (tagsOf l) st∧st.dis.length≤30) (st0 n) ⟨rfl,st0_SP hn,by simp⟩ ?_ ?_
 ·rintro j g st hj hdd hjl ⟨q1,q2,q3⟩
  have hrow:((l.map G.gl).map encG)[j]?=some (encG g.gl):=by simp [hj]
  have hm:=List.mem_of_getElem? hj
  have hk:=isCall_kind (hl.single g hm) (hl.pos g hm)
  rw [foldR_drop hdd] at q1
  by_cases hc:isCall g
  ·rw [if_pos hc] at q1
   have hk6:=hk.1.2 hc
   (repeat' first|(refine kk ?_;intros)|refine kfk ?_ ?_<;>intro hb|fail)
   exact ⟨st,⟨q1,q2,q3⟩,kwk⟩
  ·rw [if_neg hc] at q1
   have hk6:=hk.2.2 hc
   have hrp:RP (tagsOf l) st g:=⟨q2,by omega,(hl.ok g hm).1,fun s a e=>by subst e;exact tagsOf_mem hm⟩
   have p3:∃ tags,tags.length≤10000000∧RP tags st g:=⟨tagsOf l,by have:=tagsOf_len (l:=l);omega,hrp⟩
   (repeat' first|(refine kk ?_;intros)|refine kfk ?_ ?_<;>intro hb|fail)
   cases hr:reqF st g with
   | none=>
    rw [hr] at q1
    have hv:solveF n l=none:=by unfold solveF;rw [q1];rfl
    rw [hv]
    (repeat' first|(refine kk ?_;intros)|refine kfk ?_ ?_<;>intro hb|fail)
    refine kr3 (rvw ?_) rvN (rvT rfl)
    (exact wV)
   | some st'=>
    rw [hr] at q1
    obtain ⟨r1,r2,r3⟩:=req_SP hrp q3 hr
    (repeat' first|(refine kk ?_;intros)|refine kfk ?_ ?_<;>intro hb|fail)
    exact ⟨st',⟨q1,r1,r3⟩,kwk⟩
 rintro st ⟨q1,q2,q3⟩
 rw [List.drop_length] at q1
 replace q1:foldR (st0 n) l=some st:=q1
 have hv:solveF n l=(callsR st.bind l).map fun c=>(st,c):=by unfold solveF;rw [q1];rfl
 rw [hv]
 have hs:=q2.pre.bind
 have hstl:StL st:=⟨by have:=hs.vok.len;omega,by omega,fun d hd=>by have:=(q2.pre.dis d hd).vok.len;omega,by have:=q2.pre.kinds.len;omega,q2.mrk.len (by have:=tagsOf_len (l:=l);omega)⟩
 (repeat' first|(refine kkz ?_;intros)|refine kfk ?_ ?_<;>intro hb|fail)
 rename_i u0
 refine kfor (ι:=Value × List G) l (fun j q=>[(4,.one (.v (.pointer (some ⟨b4,0,none⟩)))),(9,.one (.v (.pointer (some ⟨b9,0,none⟩)))),(14,.one (.v q.1)),(76,vGs l)]) (fun j q=>[arow 43 4 q.1 ((q.2.map G.gl).map encG),abox b4 zCs 54,abox b9 (encStt st) 54]) (fun j q=>callsR st.bind l=(callsR st.bind (l.drop j)).map (q.2++·)∧q.2.length≤j) (u0,[]) ⟨by simp,by simp⟩ ?_ ?_ ⟨leF_fl wL,_,List.Perm.cons _ (List.Perm.swap _ _ _),.refl _⟩
 ·rintro j g ⟨u,acc⟩ hj hdd hjl ⟨q4,q5⟩
  have hrow:((l.map G.gl).map encG)[j]?=some (encG g.gl):=by simp [hj]
  have hm:=List.mem_of_getElem? hj
  have hk:=isCall_kind (hl.single g hm) (hl.pos g hm)
  rw [callsR_drop hdd] at q4
  simp only at q5
  by_cases hc:isCall g
  case neg=>
   rw [if_neg hc] at q4
   have hk6:=hk.2.2 hc
   (repeat' first|(refine kk ?_;intros)|refine kfk ?_ ?_<;>intro hb|fail)
   exact ⟨(u,acc),⟨q4,by simp only;omega⟩,kwk⟩
  rw [if_pos hc] at q4
  have hk6:=hk.1.2 hc
  obtain ⟨s,ts,rfl⟩:=isCall_ex hc
  have hgk:=(hl.ok _ hm).1
  have hts:RelP s∧ts.length≤4∧∀ t∈ts,t.okT:=by simpa [G.Ok] using hgk
  (repeat' first|(refine kkS [70] [] ?_;intros)|refine kfS [70] [] ?_ ?_<;>intro hb|fail)
  rename_i b16
  refine kcs (A1:=[abox b16 (encG (G.call s ts).gl) 43,arow 43 4 u ((acc.map G.gl).map encG),abox b4 zCs 54]) (h:=goalWith_c (g:=71) (cap:=[.pointer (some ⟨b9,0,none⟩)]) (by rfl) [abox b9 (encStt st) 54] (putO st.bind) s ts (by omega) fun t ht=>solve1_c b9 st t hs (hts.2.2 t ht).fit) ?_
  rintro v A' ⟨rfl,rfl⟩
  have hpc:putC st.bind (.call s ts)=(mapT (putO st.bind) ts).map (.call s):=rfl
  rw [hpc] at q4
  cases hm2:(mapT (putO st.bind) ts).map (G.call s) with
  | none=>
   rw [hm2] at q4
   replace q4:callsR st.bind l=none:=q4
   rw [q4]
   (repeat' first|(refine kk ?_;intros)|refine kfk ?_ ?_<;>intro hb|fail)
   refine kr3 (rvw ?_) rvN (rvT rfl)
   (exact wV)
  | some x=>
   rw [hm2] at q4
   (repeat' first|(refine kk ?_;intros)|refine kfk ?_ ?_<;>intro hb|fail)
   rename_i u2
   refine ⟨(u2,acc++[x]),⟨?_,by simp;omega⟩,?_⟩
   ·rw [q4]
    cases callsR st.bind (l.drop (j+1))<;>simp
   ·simp only [List.map_append]
    exact kwk
 ·rintro ⟨u,acc⟩ ⟨q4,q5⟩
  rw [List.drop_length] at q4
  replace q4:callsR st.bind l=some acc:=by rw [q4];simp [callsR]
  rw [q4]
  (repeat' first|(refine kk ?_;intros)|refine kfk ?_ ?_<;>intro hb|fail)
  refine kr3 (rvw ?_) (rvR rfl) (rvT rfl)
  (exact wV)⟩
end
noncomputable section
open Classical
def subC (b:Sb):G→G
 | .call s l=>.call s (l.map fun t=>t.sub (suOf b))
 | g=>g
instance put13_s:Con2 Tryz.prog 97 G Sb vG vS (fun g b=>vG (subC b g)) (fun g b=>isCall g∧g.ts.length≤1000∧b.length≤1000000):=⟨fun g b ⟨hc,hl,hb⟩=>by
 obtain ⟨s,ts,rfl⟩:=isCall_ex hc
 replace hl:ts.length≤1000:=hl
 have hbl:Lng b.length:=by unfold Lng;omega
 have e1:rowsT (G.call s ts).gl.terms=(ts.map T.tm).map encT:=by rw [rowsT_eq];rfl
 have e2:(G.call s ts).gl.terms.length=ts.length:=List.length_map _
 refine pu Tryz.func97 rfl Tryz.ntmps97 rfl rfl fun C=>?_
 (repeat' first|(refine kk ?_;intros)|refine kfk ?_ ?_<;>intro hb|fail)
 rw [e1,e2]
 rename_i b2 b4 b5
 refine knA 61 4 ?_
 refine kfor (ι:=Value) ts (fun j u=>[(1,vS b),(2,.one (.v (.pointer (some ⟨b2,0,none⟩)))),(4,.one (.v (.pointer (some ⟨b4,0,none⟩)))),(5,.one (.v (.pointer (some ⟨b5,0,none⟩)))),(16,.one (.s 4 ((ts.map T.tm).map encT)))]) (fun j u=>[arow 61 4 u ((((ts.take j).map fun t=>t.sub (suOf b)).map T.tm).map encT),abox b5 [.v (.int .i64 9),.v (.string s),.v u,.v (.slice none 0 0)] 43,abox b4 zG 43,abox b2 (encG (G.call s ts).gl) 43]) (fun _ _=>True) (.slice none 0 0) trivial ?_ ?_
 ·rintro j x u hj hdd hjl _
  have hrow:((ts.map T.tm).map encT)[j]?=some (encT x.tm):=by simp [hj]
  have ht1:ts.take (j+1)=ts.take j++[x]:=by rw [List.take_add_one,hj];rfl
  have hle:(ts.take j).length≤j:=by simp;omega
  (repeat' first|(refine kk ?_;intros)|refine kfk ?_ ?_<;>intro hb|fail)
  refine kdA 1 (ho:=rfl) fun u1=>?_
  (repeat' first|(refine kk ?_;intros)|refine kfk ?_ ?_<;>intro hb|fail)
  refine ⟨u1,trivial,?_⟩
  rw [ht1,List.map_append,List.map_append,List.map_append]
  exact kwk
 ·rintro u _
  rw [List.take_length]
  (repeat' first|(refine kk ?_;intros)|refine kfk ?_ ?_<;>intro hb|fail)
  refine kun3 ?_
  (repeat' first|(refine kk ?_;intros)|refine kfk ?_ ?_<;>intro hb|fail)
  refine kr1 (rvw ?_)
  exact VwC.cons (VwD.refl _) (VwC.cons (VwD.refl _) (VwC.cons (VwD.row (List.Mem.head _) (by rw [rowsT_eq];rfl)) (VwC.cons VwD.nil VwC.nil)))⟩
instance single_s:Con1 Tryz.prog 56 G vG (fun _=>bv true) (fun g=>(g.gl.In∧g.okG)∧¬ g.gl.kind=7∧¬ g.gl.kind=8):=⟨fun g ⟨h,h7,h8⟩=>by
 haveI:=goalYes_s
 refine pu Tryz.func56 rfl Tryz.ntmps56 rfl rfl fun C=>?_
 (repeat' first|(refine kk ?_;intros)|refine kfk ?_ ?_<;>intro hb|fail)
 exact kret rfl⟩
theorem mapT_put {b:Sb}:∀ {ts:List T},(mapT (putO b) ts=some (ts.map fun t=>t.sub (suOf b))∧∀ t∈ts,(t.sub (suOf b)).nodes≤5000)∨(mapT (putO b) ts=none∧∃ t∈ts,¬ (t.sub (suOf b)).nodes≤5000)
 | []=>.inl ⟨rfl,by simp⟩
 | t::ts=>by
  unfold mapT
  by_cases hn:(t.sub (suOf b)).nodes≤5000
  ·have e:putO b t=some (t.sub (suOf b)):=by unfold putO capT;rw [if_pos hn]
   rw [e]
   rcases mapT_put (b:=b) (ts:=ts) with ⟨h1,h2⟩ | ⟨h1,x,hx,h2⟩
   ·exact .inl ⟨by rw [h1];rfl,by simpa using ⟨hn,h2⟩⟩
   ·exact .inr ⟨by rw [h1];rfl,x,by simp [hx],h2⟩
  ·have e:putO b t=none:=by unfold putO capT;rw [if_neg hn]
   rw [e]
   exact .inr ⟨rfl,t,by simp,hn⟩
theorem subC_fit {b:Sb} {s:ByteArray} {ts:List T} (hb:Sub b) (h:(G.call s ts).Ok):∀ t∈ts.map (fun t=>t.sub (suOf b)),t.fit:=fun t ht=>by
 obtain ⟨u,hu,rfl⟩:=List.mem_map.1 ht
 have h:RelP s∧ts.length≤4∧∀ t∈ts,t.okT:=by simpa [G.Ok] using h
 exact fit_subS (fun c hc=>(hb.sbfit c hc).2) (h.2.2 u hu).fit
theorem subC_in {b:Sb} {g:G} (hb:Sub b) (hc:isCall g) (h:g.Ok):(subC b g).gl.In:=by
 obtain ⟨s,ts,rfl⟩:=isCall_ex hc
 have h':RelP s∧ts.length≤4∧∀ t∈ts,t.okT:=by simpa [G.Ok] using h
 exact ⟨by decide,relP_lng h'.1,by simp [Lng];omega,in_terms (subC_fit hb h),by simp,by simp [InG]⟩
theorem subC_put {b:Sb} {g:G} (hb:Sub b) (hc:isCall g) (h:g.Ok):putC b g=if (subC b g).gl.ok then some (subC b g) else none:=by
 obtain ⟨s,ts,rfl⟩:=isCall_ex hc
 have h':RelP s∧ts.length≤4∧∀ t∈ts,t.okT:=by simpa [G.Ok] using h
 have hf:=subC_fit hb h
 rcases mapT_put (b:=b) (ts:=ts) with ⟨h1,h2⟩ | ⟨h1,x,hx,h2⟩
 ·have hok:(subC b (.call s ts)).Ok:=by
   simp only [subC,G.Ok]
   exact ⟨h'.1,by simp;omega,fun t ht=>⟨hf t ht,by obtain ⟨u,hu,rfl⟩:=List.mem_map.1 ht;exact h2 u hu⟩⟩
  rw [if_pos (okG_iff.2 ⟨_,rfl,hok,by simp [subC,G.nodes]⟩)]
  show (mapT (putO b) ts).map (G.call s)=_
  rw [h1];rfl
 ·rw [if_neg]
  ·show (mapT (putO b) ts).map (G.call s)=_
   rw [h1];rfl
  ·intro hk
   obtain ⟨u,e,hu⟩:=okG_iff.1 hk
   have:=gl_inj e
   subst this
   have hok:=hu.ok
   simp only [subC,G.Ok] at hok
   exact h2 (hok.2.2 _ (List.mem_map.2 ⟨x,hx,rfl⟩)).size
instance apply16_s:Con2 Tryz.prog 59 Sb G vS vG (fun b g=>.tup [vG (subC b g),bp (subC b g).gl.ok]) (fun b g=>Sub b∧isCall g∧g.Ok):=⟨fun b g ⟨hb,hc,hg⟩=>by
 have hin:=subC_in hb hc hg
 have p1:isCall g∧g.ts.length≤1000∧b.length≤1000000:=⟨hc,by
  obtain ⟨s,ts,rfl⟩:=isCall_ex hc
  have h':RelP s∧ts.length≤4∧∀ t∈ts,t.okT:=by simpa [G.Ok] using hg
  show ts.length≤1000;omega,by have:=hb.vok.len;omega⟩
 refine pu Tryz.func59 rfl Tryz.ntmps59 rfl rfl fun C=>?_
 (repeat' first|(refine kk ?_;intros)|refine kfk ?_ ?_<;>intro hb|fail)
 refine kr2 (rvw ?_) (rvT rfl)
 (exact wV)⟩
instance copy11_s:Con1 Tryz.prog 60 Stt vSt (fun st=>vSt st) StL:=⟨fun st hst=>by
 have hb:=hst.b
 have hd:=hst.d
 have hk:=hst.k
 have hm:=hst.m
 have hds:=hst.ds
 have p1:st.dis.length≤1000000∧∀ s∈st.dis,s.length≤1000000:=⟨hd,hds⟩
 have hdl:(st.dis.map eS).length=st.dis.length:=by simp
 have hkl:((st.kinds.map toK).map encK).length=st.kinds.length:=by simp
 have hml:((st.marks.map toM).map encM).length=st.marks.length:=by simp
 refine pu Tryz.func60 rfl Tryz.ntmps60 rfl rfl fun C=>?_
 (repeat' first|(refine kk ?_;intros)|refine kfk ?_ ?_<;>intro hb|fail)
 rename_i b1 b2
 refine kjoin (ι:=Value × Value) 16 (fun q=>[(1,.one (.v (.pointer (some ⟨b1,0,none⟩)))),(2,.one (.v (.pointer (some ⟨b2,0,none⟩)))),(4,.one (.v (.int .i64 (st.next:Int)))),(7,vS st.bind),(10,vSs st.dis),(14,.one (.v q.1)),(18,.one (.v q.2))]) (fun q=>[arow 212 2 q.1 ((st.kinds.map toK).map encK),arow 217 2 q.2 ((st.marks.map toM).map encM),abox b2 zCs 54,abox b1 (encStt st) 54]) (fun join=>?_) ?_
 ·refine kmix2 16 [0,1,2,3,4,5,6,7,9,10,13,14] [8,11,12,15] [abox b1 (encStt st) 54] ?_
  (repeat (refine kkc ?_))
  refine kt4 rfl (fun _=>?_) (fun h=>?_) (fun _=>?_) (fun h=>?_)
  ·refine ks2 rfl rfl O_bs0 ?_
   rintro _ _ ⟨u,rfl,rfl⟩
   refine ⟨wH,kt3 rfl (fun _=>?_) (fun _=>?_) (fun h=>?_)⟩
   ·refine ks2 rfl rfl (O_app (e:=212) (sz:=2) 0 _ _ rfl rfl rfl rfl rfl (by simp only [List.length_map,List.length_nil];omega)) ?_
    rintro _ _ ⟨u1,rfl,rfl⟩
    refine ⟨wH,kt2 rfl (fun _=>?_) (fun h=>?_)⟩
    ·refine ks2 rfl rfl O_bs0 ?_
     rintro _ _ ⟨v,rfl,rfl⟩
     refine ⟨wH,kt1 (ks2 rfl rfl (O_app (e:=217) (sz:=2) 0 _ _ rfl rfl rfl rfl rfl (by simp only [List.length_map,List.length_nil];omega)) ?_)⟩
     rintro _ _ ⟨v1,rfl,rfl⟩
     exact ⟨wH,join (u1,v1) _ _ ⟨leF_fl wL,_,List.Perm.swap _ _ _,.refl _⟩⟩
    ·exact absurd h (by decide +kernel)
   ·refine ks2 rfl rfl O_bs0 ?_
    rintro _ _ ⟨v,rfl,rfl⟩
    refine ⟨wH,kt2 rfl (fun _=>?_) (fun h=>?_)⟩
    ·refine ks2 rfl rfl (O_app (e:=212) (sz:=2) 1 _ _ rfl rfl rfl rfl rfl (by simp only [List.length_map,List.length_nil];omega)) ?_
     rintro _ _ ⟨u1,rfl,rfl⟩
     refine ⟨wH,kt1 (ks2 rfl rfl (O_app (e:=217) (sz:=2) 0 _ _ rfl rfl rfl rfl rfl (by simp only [List.length_map,List.length_nil];omega)) ?_)⟩
     rintro _ _ ⟨v1,rfl,rfl⟩
     exact ⟨wH,join (u1,v1) _ _ ⟨leF_fl wL,_,List.Perm.swap _ _ _,.refl _⟩⟩
    ·exact absurd h (by decide +kernel)
   ·exact absurd h (by decide +kernel)
  ·exact absurd h (by decide +kernel)
  ·refine ks2 rfl rfl O_bs0 ?_
   rintro _ _ ⟨v,rfl,rfl⟩
   refine ⟨wH,kt3 rfl (fun _=>?_) (fun h=>?_) (fun h=>?_)⟩
   ·refine ks2 rfl rfl O_bs0 ?_
    rintro _ _ ⟨u,rfl,rfl⟩
    refine ⟨wH,kt2 rfl (fun _=>?_) (fun h=>?_)⟩
    ·refine ks2 rfl rfl (O_app (e:=212) (sz:=2) 0 _ _ rfl rfl rfl rfl rfl (by simp only [List.length_map,List.length_nil];omega)) ?_
     rintro _ _ ⟨u1,rfl,rfl⟩
     refine ⟨wH,kt1 (ks2 rfl rfl (O_app (e:=217) (sz:=2) 1 _ _ rfl rfl rfl rfl rfl (by simp only [List.length_map,List.length_nil];omega)) ?_)⟩
     rintro _ _ ⟨v1,rfl,rfl⟩
     exact ⟨wH,join (u1,v1) _ _ kwk⟩
    ·exact absurd h (by decide +kernel)
   ·exact absurd h (by decide +kernel)
   ·exact absurd h (by decide +kernel)
  ·exact absurd h (by decide +kernel)
 ·rintro ⟨u,v⟩
  (repeat' first|(refine kk ?_;intros)|refine kfk ?_ ?_<;>intro hb|fail)
  refine kr1 (rvw ?_)
  (exact wV)⟩
end
end Go.Proofs.YtbabchapkhlenaaGreat
