/- Parts of the proof: V74 VP7 V70. -/
import Derived.Test.YtejkllmoofdpjaaGreatD30
namespace Go.Proofs.YtejkllmoofdpjaaGreat
open Go
set_option linter.all false
set_option maxRecDepth 100000
set_option maxHeartbeats 4000000
noncomputable section
open Classical
theorem settle_SP {tags:List ByteArray} {st st':Stt} (h:SP tags st) (e:settleF st=some st'):SP tags st'∧st'.next=st.next∧st'.dis.length≤30:=by
 obtain ⟨h1,h2,h3⟩:=settle_pre h.pre e
 unfold settleF at e
 split at e
 ·rename_i ks ms hk hm
  split at e
  ·cases e
  ·rename_i left hl
   split at e
   ·cases e
   ·cases e
    have hd:(minF left).length≤30:=by omega
    exact ⟨⟨h1,(MB.marks h.pre.bind.fit .nil (fun b hb=>⟨h.mrk.ok.ok b hb,h.mrk.tg b hb⟩) hm).filter,by simp only;omega,h.nx⟩,rfl,hd⟩
 ·cases e
theorem req_SP {tags:List ByteArray} {st st':Stt} {g:G} (h:RP tags st g) (hd:st.dis.length≤30) (e:reqF st g=some st'):SP tags st'∧st'.next=st.next∧st'.dis.length≤30:=by
 have hsp:=h.sp
 have hpre:=hsp.pre
 have hbind:=hpre.bind
 have hgk:=h.gk
 cases g with
 | tru=>cases e;exact ⟨hsp,rfl,hd⟩
 | eq a b=>
  have hab:a.okT∧b.okT:=by simpa [G.Ok] using hgk
  simp only [reqF] at e
  cases hm:mg (eqs st.bind [(a,b)]) with
  | none=>rw [hm] at e;exact absurd e (by simp)
  | some x=>
   rw [hm] at e
   have hx:Sub x:=mg_sub hbind (l:=[(a,b)]) (by simpa using ⟨hab.1.fit,hab.2.fit⟩) hm
   exact settle_SP (st:=⟨st.next,x,st.dis,st.kinds,st.marks⟩) ⟨⟨hx,hpre.dis,hpre.kinds,hpre.marks⟩,hsp.mrk,hsp.dl,hsp.nx⟩ e
 | ne a b=>
  have hab:a.okT∧b.okT:=by simpa [G.Ok] using hgk
  simp only [reqF] at e
  cases hm:mg (eqs st.bind [(a,b)]) with
  | none=>rw [hm] at e;exact settle_SP hsp e
  | some x=>
   rw [hm] at e
   simp only at e
   have hx:Sub x:=mg_sub hbind (l:=[(a,b)]) (by simpa using ⟨hab.1.fit,hab.2.fit⟩) hm
   split at e
   ·cases e
   ·have hxn:Sub (newB st.bind x):=hx.filter
    exact settle_SP (st:=⟨st.next,st.bind,st.dis++[newB st.bind x],st.kinds,st.marks⟩) ⟨⟨hbind,fun d hd=>by
     rcases List.mem_append.1 hd with hd|hd
     ·exact hpre.dis d hd
     ·obtain rfl:=List.mem_singleton.1 hd;exact hxn,hpre.kinds,hpre.marks⟩,hsp.mrk,by simp;omega,hsp.nx⟩ e
 | sy a=>
  have ha:a.okT:=by simpa [G.Ok] using hgk
  simp only [reqF] at e
  cases hm:(putO st.bind a).bind fun x=>kindAdd st.kinds x 2 with
  | none=>rw [hm] at e;exact absurd e (by simp)
  | some ks=>
   rw [hm] at e
   have hks:KOk ks:=by
    obtain ⟨x,hx,hk⟩:=Option.bind_eq_some_iff.1 hm
    have hx2:=put_some hx
    exact kindAdd_ok hpre.kinds (by simp) (fun v e=>by
     subst e
     have:=fit_subS (fun b hb=>(hbind.sbfit b hb).2) ha.fit (s:=st.bind)
     rw [hx2.2] at this;exact fit_var.1 this) hk
   exact settle_SP (st:=⟨st.next,st.bind,st.dis,ks,st.marks⟩) ⟨⟨hbind,hpre.dis,hks,hpre.marks⟩,hsp.mrk,hsp.dl,hsp.nx⟩ e
 | nu a=>
  have ha:a.okT:=by simpa [G.Ok] using hgk
  simp only [reqF] at e
  cases hm:(putO st.bind a).bind fun x=>kindAdd st.kinds x 3 with
  | none=>rw [hm] at e;exact absurd e (by simp)
  | some ks=>
   rw [hm] at e
   have hks:KOk ks:=by
    obtain ⟨x,hx,hk⟩:=Option.bind_eq_some_iff.1 hm
    have hx2:=put_some hx
    exact kindAdd_ok hpre.kinds (by simp) (fun v e=>by
     subst e
     have:=fit_subS (fun b hb=>(hbind.sbfit b hb).2) ha.fit (s:=st.bind)
     rw [hx2.2] at this;exact fit_var.1 this) hk
   exact settle_SP (st:=⟨st.next,st.bind,st.dis,ks,st.marks⟩) ⟨⟨hbind,hpre.dis,hks,hpre.marks⟩,hsp.mrk,hsp.dl,hsp.nx⟩ e
 | ab g a=>
  have ha:NameP g∧a.okT:=by simpa [G.Ok] using hgk
  have hgt:=h.ab g a rfl
  simp only [reqF] at e
  cases hm:(putO st.bind a).bind fun x=>markAdd st.marks x g with
  | none=>rw [hm] at e;exact absurd e (by simp)
  | some ms=>
   rw [hm] at e
   have hms:MB tags ms:=by
    obtain ⟨x,hx,hk⟩:=Option.bind_eq_some_iff.1 hm
    have hx2:=put_some hx
    have hf:=fit_subS (fun b hb=>(hbind.sbfit b hb).2) ha.2.fit (s:=st.bind)
    rw [hx2.2] at hf
    exact hsp.mrk.add ha.1 hgt (fun v hv=>hf.1 v hv) hk
   exact settle_SP (st:=⟨st.next,st.bind,st.dis,st.kinds,ms⟩) ⟨⟨hbind,hpre.dis,hpre.kinds,hms.ok⟩,hms,hsp.dl,hsp.nx⟩ e
 | fail=>cases e
 | all l=>cases e
 | any l=>cases e
 | call s l=>cases e
 | non s l=>cases e
abbrev st0 (n:Nat):Stt:=⟨n,[],[],[],[]⟩
theorem st0_SP {tags:List ByteArray} {n:Nat} (h:n≤100000):SP tags (st0 n):=⟨⟨⟨⟨by simp,.nil,by simp⟩,⟨.nil,by simp,by simp,by simp,by simp⟩⟩,by simp,.nil,.nil⟩,.nil,by simp,by simp only;omega⟩
end
noncomputable section
open Classical
abbrev vg (g:Gl):AV:=.agg (encG g)
def tcnt (k:Int):Int:=if k=6 then 2 else if k=5 then 1 else if k=4 then 1 else if k=3 then 2 else if k=2 then 2 else 0
theorem tc_look (k:Int):((cput (cput (cput (cput (cput (fun _=>none) 2 (2:Int)) 3 2) 4 1) 5 1) 6 2) k).getD 0=tcnt k:=by
 simp only [cput,tcnt]
 repeat' split
 all_goals simp_all
theorem gnR_le {g:Gl} {r b:Int} (hb:0≤b) (h:r≤b):-1≤gnR g r∧gnR g r≤b:=by
 unfold gnR
 split<;>omega
theorem tcnts:tcnt 0=0∧tcnt 1=0∧tcnt 2=2∧tcnt 3=2∧tcnt 4=1∧tcnt 5=1∧tcnt 6=2∧tcnt 7=0∧tcnt 8=0∧tcnt 9=0∧tcnt 10=0:=by decide
theorem termsYes_i:Con1 Tryz.prog 168 (List Tm) tsv (fun _=>bv true) (fun l=>(Lng l.length∧InL l)∧∀ t∈l,t.ok):=⟨fun l ⟨hl,h⟩=>by
 have:=termsOk_i.h l hl
 rwa [show bp (∀ t∈l,t.ok)=bv true from (bpT h).symm] at this⟩
theorem gl_cases (k:Int):(k=0∨k=1∨k=2∨k=3∨k=4∨k=5∨k=6)∨k=7∨k=8∨k=9∨k=10∨¬ (0≤k∧k≤10):=by omega
instance goalNodes_i:Con2 Tryz.prog 123 Gl Int vg iv (fun g r=>iv (gnR g r)) (fun g r=>g.In∧-1048576≤r∧r≤1048576):=.ind (fun g _=>SizeOf.sizeOf g) fun N ih g r hN ⟨hin,hr1,hr2⟩=>by
 obtain ⟨_,hsz,htl,htin,hgl,hgin⟩:=Gl.in_iff.1 hin
 have hp:=g.nodes_pos
 have hlt:(rowsT g.terms).length=g.terms.length:=rowsT_len _
 have p0:Lng g.terms.length∧InL g.terms:=⟨htl,htin⟩
 refine pu Tryz.func123 rfl Tryz.ntmps123 rfl rfl fun C=>?_
 by_cases hr:r < 1
 ·(repeat' first|(refine kk ?_;intros)|refine kfk ?_ ?_<;>intro hb|fail)
  all_goals first
   | exact kret (congrArg iv (gnR_not (by omega)).symm)
   | (exfalso;omega)
 by_cases ht:∀ t∈g.terms,t.ok
 case neg=>
  (repeat' first|(refine kk ?_;intros)|refine kfk ?_ ?_<;>intro hb|fail)
  all_goals first
   | exact kret (congrArg iv (gnR_wf (fun h=>ht (Gl.wf_iff.1 h).1)).symm)
   | exact absurd hb ht
 haveI:=termsYes_i
 have p1:=And.intro p0 ht
 rcases gl_cases g.kind with hk|hk|hk|hk|hk|hk
 ·rcases hk with hk|hk|hk|hk|hk|hk|hk
  rotate_right
  ·by_cases h2:g.terms.length=2
   ·obtain ⟨a,b,e,h0,h1⟩:∃ a b,g.terms=[a,b]∧g.terms[0]?=some a∧g.terms[1]?=some b:=by
     obtain ⟨a,b,e⟩:=len2 h2
     exact ⟨a,b,e,by rw [e];rfl,by rw [e];rfl⟩
    have hw:=Gl.wf_iff (g:=g)
    rw [hk] at hw
    simp only [Int.reduceEq,false_or,or_false,false_and,true_and,or_self,and_self,true_or,or_true] at hw
    have hn:=Gl.nodes_eq g
    have hc:=congrArg tcnt hk
    simp only [tcnts] at hc
    (repeat' first|(refine kkS [] [18] ?_;intros)|fail)
    refine kmm kvI iv fun ms=>?_
    refine kmi 0 (enc:=iv) (c:=fun _=>none) (m:=2) (v:=(2:Int)) ?_
    refine kmi 0 (enc:=iv) (m:=3) (v:=(2:Int)) ?_
    refine kmi 0 (enc:=iv) (m:=4) (v:=(1:Int)) ?_
    refine kmi 0 (enc:=iv) (m:=5) (v:=(1:Int)) ?_
    refine kmi 0 (enc:=iv) (m:=6) (v:=(2:Int)) ?_
    (repeat' first|(refine kkS [] [5] ?_;intros)|fail)
    rw [tc_look,hc]
    (repeat' first|(refine kk ?_;intros)|refine kfk ?_ ?_<;>intro hb|fail)
    all_goals first
     | (refine kret (congrArg iv (gnR_wf fun w=>?_).symm);clear ih hN hin htin hgin p0 p1;have w:=(hw.1 w).2;clear hw;first|(simp_all [noS];done)|(simp_all [noS];omega)|omega)
     | (have w : g.wf := hw.2 ⟨ht, by clear ih hN hin htin hgin p0 p1 hw; first | (simp_all [noS]; done) | (simp_all [noS]; omega)⟩
        have hg:g.goals=[]:=by clear ih hN hin htin hgin p0 p1 hw;simp_all
        rw [hg] at hn
        exact kret (congrArg iv (show (1:Int)=gnR g r by rw [gnR_of w (by simp [nodesGl] at hn;omega)];simp [nodesGl] at hn;omega)))
   ·have hw:=Gl.wf_iff (g:=g)
    rw [hk] at hw
    simp only [Int.reduceEq,false_or,or_false,false_and,true_and,or_self,and_self,true_or,or_true] at hw
    have hn:=Gl.nodes_eq g
    have hc:=congrArg tcnt hk
    simp only [tcnts] at hc
    (repeat' first|(refine kkS [] [18] ?_;intros)|fail)
    refine kmm kvI iv fun ms=>?_
    refine kmi 0 (enc:=iv) (c:=fun _=>none) (m:=2) (v:=(2:Int)) ?_
    refine kmi 0 (enc:=iv) (m:=3) (v:=(2:Int)) ?_
    refine kmi 0 (enc:=iv) (m:=4) (v:=(1:Int)) ?_
    refine kmi 0 (enc:=iv) (m:=5) (v:=(1:Int)) ?_
    refine kmi 0 (enc:=iv) (m:=6) (v:=(2:Int)) ?_
    (repeat' first|(refine kkS [] [5] ?_;intros)|fail)
    rw [tc_look,hc]
    (repeat' first|(refine kk ?_;intros)|refine kfk ?_ ?_<;>intro hb|fail)
    all_goals first
     | (refine kret (congrArg iv (gnR_wf fun w=>?_).symm);clear ih hN hin htin hgin p0 p1;have w:=(hw.1 w).2;clear hw;first|(simp_all [noS];done)|(simp_all [noS];omega)|omega)
     | (have w : g.wf := hw.2 ⟨ht, by clear ih hN hin htin hgin p0 p1 hw; first | (simp_all [noS]; done) | (simp_all [noS]; omega)⟩
        have hg:g.goals=[]:=by clear ih hN hin htin hgin p0 p1 hw;simp_all
        rw [hg] at hn
        exact kret (congrArg iv (show (1:Int)=gnR g r by rw [gnR_of w (by simp [nodesGl] at hn;omega)];simp [nodesGl] at hn;omega)))
  all_goals
   have hw:=Gl.wf_iff (g:=g)
   rw [hk] at hw
   simp only [Int.reduceEq,false_or,or_false,false_and,true_and,or_self,and_self,true_or,or_true] at hw
   have hn:=Gl.nodes_eq g
   have hc:=congrArg tcnt hk
   simp only [tcnts] at hc
   (repeat' first|(refine kkS [] [18] ?_;intros)|fail)
   refine kmm kvI iv fun ms=>?_
   refine kmi 0 (enc:=iv) (c:=fun _=>none) (m:=2) (v:=(2:Int)) ?_
   refine kmi 0 (enc:=iv) (m:=3) (v:=(2:Int)) ?_
   refine kmi 0 (enc:=iv) (m:=4) (v:=(1:Int)) ?_
   refine kmi 0 (enc:=iv) (m:=5) (v:=(1:Int)) ?_
   refine kmi 0 (enc:=iv) (m:=6) (v:=(2:Int)) ?_
   (repeat' first|(refine kkS [] [5] ?_;intros)|fail)
   rw [tc_look,hc]
   (repeat' first|(refine kk ?_;intros)|refine kfk ?_ ?_<;>intro hb|fail)
   all_goals first
    | (refine kret (congrArg iv (gnR_wf fun w=>?_).symm);clear ih hN hin htin hgin p0 p1;have w:=(hw.1 w).2;clear hw;first|(simp_all [noS];done)|(simp_all [noS];omega)|omega)
    | (have w : g.wf := hw.2 ⟨ht, by clear ih hN hin htin hgin p0 p1 hw; first | (simp_all [noS]; done) | (simp_all [noS]; omega)⟩
       have hg:g.goals=[]:=by clear ih hN hin htin hgin p0 p1 hw;simp_all
       rw [hg] at hn
       exact kret (congrArg iv (show (1:Int)=gnR g r by rw [gnR_of w (by simp [nodesGl] at hn;omega)];simp [nodesGl] at hn;omega)))
 ·have hw:=Gl.wf_iff (g:=g)
  rw [hk] at hw
  simp only [Int.reduceEq,false_or,or_false,false_and,true_and,or_self,and_self,true_or,or_true] at hw
  have hn:=Gl.nodes_eq g
  have hc:=congrArg tcnt hk
  simp only [tcnts] at hc
  (repeat' first|(refine kkS [] [18] ?_;intros)|fail)
  refine kmm kvI iv fun ms=>?_
  refine kmi 0 (enc:=iv) (c:=fun _=>none) (m:=2) (v:=(2:Int)) ?_
  refine kmi 0 (enc:=iv) (m:=3) (v:=(2:Int)) ?_
  refine kmi 0 (enc:=iv) (m:=4) (v:=(1:Int)) ?_
  refine kmi 0 (enc:=iv) (m:=5) (v:=(1:Int)) ?_
  refine kmi 0 (enc:=iv) (m:=6) (v:=(2:Int)) ?_
  (repeat' first|(refine kkS [] [5] ?_;intros)|fail)
  rw [tc_look,hc]
  (repeat' first|(refine kk ?_;intros)|refine kfk ?_ ?_<;>intro hb|fail)
  iterate 3 (· refine kret (congrArg iv (gnR_wf fun w=>?_).symm);clear ih hN hin htin hgin p0 p1;have w:=(hw.1 w).2;clear hw;first|(simp_all [noS];done)|(simp_all [noS];omega)|omega)
  have hsh:g.wf↔wfGl g.goals:=⟨fun w=>by have w:=(hw.1 w).2;first|exact w.2.2.2|exact w.2.2.2.2,fun w=>hw.2 ⟨ht,by assumption,List.length_eq_zero_iff.1 (by omega),by omega,w⟩⟩
  refine kfor (ι:=Int) g.goals (fun j n=>[(1,iv r),(6,iv n),(124,.one (.s 4 g.subE))]) (fun j n=>[]) (fun j n=>(g.wf↔wfGl (g.goals.drop j))∧n+nodesGl (g.goals.drop j)=g.nodes∧1≤n∧n≤r) 1 ⟨by simpa using hsh,by rw [List.drop_zero];omega,by omega,by omega⟩ ?_ ?_
  ·rintro j x n hj hd hjl ⟨q1,q2,q3,q4⟩
   have hxi:=Gl.kid_in hin hj
   have hxs:=Gl.kid_lt hj
   have hnd:=nodesGl_drop hd
   have hwd:wfGl (g.goals.drop j)↔x.wf∧wfGl (g.goals.drop (j+1)):=by rw [hd];exact Iff.rfl
   have s1:SizeOf.sizeOf x < N∧x.In∧-1048576≤r - n∧r - n≤1048576:=⟨by omega,hxi,by omega,by omega⟩
   have hgb:-1≤gnR x (r - n)∧gnR x (r - n)≤1048576:=gnR_le (by omega) (by omega)
   (repeat' first|(refine kk ?_;intros)|refine kfk ?_ ?_<;>intro hb|fail)
   ·exact kret (congrArg iv (gnR_not (fun ⟨w1,w2⟩=>by have w3:=hwd.1 (q1.1 w1);have:=gnR_of (room:=r - n) w3.1 (by omega);omega)).symm)
   ·have hp2:=gnR_pos (g:=x) (room:=r - n) (by omega)
    exact ⟨n+gnR x (r - n),⟨by rw [q1,hwd];exact ⟨And.right,fun h=>⟨hp2.1,h⟩⟩,by omega,by omega,by omega⟩,kwk⟩
  ·rintro n ⟨q1,q2,q3,q4⟩
   rw [List.drop_length] at q1 q2
   (repeat' first|(refine kk ?_;intros)|refine kfk ?_ ?_<;>intro hb|fail)
   exact kret (congrArg iv (show n=gnR g r by rw [gnR_of (q1.2 trivial) (by simp [nodesGl] at q2;omega)];simp [nodesGl] at q2;omega))
 ·have hw:=Gl.wf_iff (g:=g)
  rw [hk] at hw
  simp only [Int.reduceEq,false_or,or_false,false_and,true_and,or_self,and_self,true_or,or_true] at hw
  have hn:=Gl.nodes_eq g
  have hc:=congrArg tcnt hk
  simp only [tcnts] at hc
  (repeat' first|(refine kkS [] [18] ?_;intros)|fail)
  refine kmm kvI iv fun ms=>?_
  refine kmi 0 (enc:=iv) (c:=fun _=>none) (m:=2) (v:=(2:Int)) ?_
  refine kmi 0 (enc:=iv) (m:=3) (v:=(2:Int)) ?_
  refine kmi 0 (enc:=iv) (m:=4) (v:=(1:Int)) ?_
  refine kmi 0 (enc:=iv) (m:=5) (v:=(1:Int)) ?_
  refine kmi 0 (enc:=iv) (m:=6) (v:=(2:Int)) ?_
  (repeat' first|(refine kkS [] [5] ?_;intros)|fail)
  rw [tc_look,hc]
  (repeat' first|(refine kk ?_;intros)|refine kfk ?_ ?_<;>intro hb|fail)
  iterate 3 (· refine kret (congrArg iv (gnR_wf fun w=>?_).symm);clear ih hN hin htin hgin p0 p1;have w:=(hw.1 w).2;clear hw;first|(simp_all [noS];done)|(simp_all [noS];omega)|omega)
  have hsh:g.wf↔wfGl g.goals:=⟨fun w=>by have w:=(hw.1 w).2;first|exact w.2.2.2|exact w.2.2.2.2,fun w=>hw.2 ⟨ht,by assumption,List.length_eq_zero_iff.1 (by omega),by omega,w⟩⟩
  refine kfor (ι:=Int) g.goals (fun j n=>[(1,iv r),(6,iv n),(124,.one (.s 4 g.subE))]) (fun j n=>[]) (fun j n=>(g.wf↔wfGl (g.goals.drop j))∧n+nodesGl (g.goals.drop j)=g.nodes∧1≤n∧n≤r) 1 ⟨by simpa using hsh,by rw [List.drop_zero];omega,by omega,by omega⟩ ?_ ?_
  ·rintro j x n hj hd hjl ⟨q1,q2,q3,q4⟩
   have hxi:=Gl.kid_in hin hj
   have hxs:=Gl.kid_lt hj
   have hnd:=nodesGl_drop hd
   have hwd:wfGl (g.goals.drop j)↔x.wf∧wfGl (g.goals.drop (j+1)):=by rw [hd];exact Iff.rfl
   have s1:SizeOf.sizeOf x < N∧x.In∧-1048576≤r - n∧r - n≤1048576:=⟨by omega,hxi,by omega,by omega⟩
   have hgb:-1≤gnR x (r - n)∧gnR x (r - n)≤1048576:=gnR_le (by omega) (by omega)
   (repeat' first|(refine kk ?_;intros)|refine kfk ?_ ?_<;>intro hb|fail)
   ·exact kret (congrArg iv (gnR_not (fun ⟨w1,w2⟩=>by have w3:=hwd.1 (q1.1 w1);have:=gnR_of (room:=r - n) w3.1 (by omega);omega)).symm)
   ·have hp2:=gnR_pos (g:=x) (room:=r - n) (by omega)
    exact ⟨n+gnR x (r - n),⟨by rw [q1,hwd];exact ⟨And.right,fun h=>⟨hp2.1,h⟩⟩,by omega,by omega,by omega⟩,kwk⟩
  ·rintro n ⟨q1,q2,q3,q4⟩
   rw [List.drop_length] at q1 q2
   (repeat' first|(refine kk ?_;intros)|refine kfk ?_ ?_<;>intro hb|fail)
   exact kret (congrArg iv (show n=gnR g r by rw [gnR_of (q1.2 trivial) (by simp [nodesGl] at q2;omega)];simp [nodesGl] at q2;omega))
 ·have hw:=Gl.wf_iff (g:=g)
  rw [hk] at hw
  simp only [Int.reduceEq,false_or,or_false,false_and,true_and,or_self,and_self,true_or,or_true] at hw
  have hn:=Gl.nodes_eq g
  have hc:=congrArg tcnt hk
  simp only [tcnts] at hc
  (repeat' first|(refine kkS [] [18] ?_;intros)|fail)
  refine kmm kvI iv fun ms=>?_
  refine kmi 0 (enc:=iv) (c:=fun _=>none) (m:=2) (v:=(2:Int)) ?_
  refine kmi 0 (enc:=iv) (m:=3) (v:=(2:Int)) ?_
  refine kmi 0 (enc:=iv) (m:=4) (v:=(1:Int)) ?_
  refine kmi 0 (enc:=iv) (m:=5) (v:=(1:Int)) ?_
  refine kmi 0 (enc:=iv) (m:=6) (v:=(2:Int)) ?_
  (repeat' first|(refine kkS [] [5] ?_;intros)|fail)
  rw [tc_look,hc]
  (repeat' first|(refine kk ?_;intros)|refine kfk ?_ ?_<;>intro hb|fail)
  all_goals first
   | (refine kret (congrArg iv (gnR_wf fun w=>?_).symm);clear ih hN hin htin hgin p0 p1;have w:=(hw.1 w).2;clear hw;first|(simp_all [noS];done)|(simp_all [noS];omega)|omega)
   | (have w : g.wf := hw.2 ⟨ht, by clear ih hN hin htin hgin p0 p1 hw; first | (simp_all [noS]; done) | (simp_all [noS]; omega)⟩
      have hg:g.goals=[]:=by clear ih hN hin htin hgin p0 p1 hw;simp_all
      rw [hg] at hn
      exact kret (congrArg iv (show (1:Int)=gnR g r by rw [gnR_of w (by simp [nodesGl] at hn;omega)];simp [nodesGl] at hn;omega)))
 ·by_cases h1:g.goals.length=1
  ·obtain ⟨x,e⟩:=len1 h1
   have h0:g.goals[0]?=some x:=by rw [e];rfl
   have hw:=Gl.wf_iff (g:=g)
   rw [hk] at hw
   simp only [Int.reduceEq,false_or,or_false,false_and,true_and,or_self,and_self,true_or,or_true] at hw
   have hn:=Gl.nodes_eq g
   have hc:=congrArg tcnt hk
   simp only [tcnts] at hc
   (repeat' first|(refine kkS [] [18] ?_;intros)|fail)
   refine kmm kvI iv fun ms=>?_
   refine kmi 0 (enc:=iv) (c:=fun _=>none) (m:=2) (v:=(2:Int)) ?_
   refine kmi 0 (enc:=iv) (m:=3) (v:=(2:Int)) ?_
   refine kmi 0 (enc:=iv) (m:=4) (v:=(1:Int)) ?_
   refine kmi 0 (enc:=iv) (m:=5) (v:=(1:Int)) ?_
   refine kmi 0 (enc:=iv) (m:=6) (v:=(2:Int)) ?_
   (repeat' first|(refine kkS [] [5] ?_;intros)|fail)
   rw [tc_look,hc]
   (repeat' first|(refine kk ?_;intros)|refine kfk ?_ ?_<;>intro hb|fail)
   iterate 3 (· refine kret (congrArg iv (gnR_wf fun w=>?_).symm);clear ih hN hin htin hgin p0 p1;have w:=(hw.1 w).2;clear hw;first|(simp_all [noS];done)|(simp_all [noS];omega)|omega)
   have hsh:g.wf↔wfGl g.goals:=⟨fun w=>by have w:=(hw.1 w).2;first|exact w.2.2.2|exact w.2.2.2.2,fun w=>hw.2 ⟨ht,by assumption,List.length_eq_zero_iff.1 (by omega),h1,fun y hy=>by rw [h0] at hy;cases hy;omega,w⟩⟩
   refine kfor (ι:=Int) g.goals (fun j n=>[(1,iv r),(6,iv n),(124,.one (.s 4 g.subE))]) (fun j n=>[]) (fun j n=>(g.wf↔wfGl (g.goals.drop j))∧n+nodesGl (g.goals.drop j)=g.nodes∧1≤n∧n≤r) 1 ⟨by simpa using hsh,by rw [List.drop_zero];omega,by omega,by omega⟩ ?_ ?_
   ·rintro j x n hj hd hjl ⟨q1,q2,q3,q4⟩
    have hxi:=Gl.kid_in hin hj
    have hxs:=Gl.kid_lt hj
    have hnd:=nodesGl_drop hd
    have hwd:wfGl (g.goals.drop j)↔x.wf∧wfGl (g.goals.drop (j+1)):=by rw [hd];exact Iff.rfl
    have s1:SizeOf.sizeOf x < N∧x.In∧-1048576≤r - n∧r - n≤1048576:=⟨by omega,hxi,by omega,by omega⟩
    have hgb:-1≤gnR x (r - n)∧gnR x (r - n)≤1048576:=gnR_le (by omega) (by omega)
    (repeat' first|(refine kk ?_;intros)|refine kfk ?_ ?_<;>intro hb|fail)
    ·exact kret (congrArg iv (gnR_not (fun ⟨w1,w2⟩=>by have w3:=hwd.1 (q1.1 w1);have:=gnR_of (room:=r - n) w3.1 (by omega);omega)).symm)
    ·have hp2:=gnR_pos (g:=x) (room:=r - n) (by omega)
     exact ⟨n+gnR x (r - n),⟨by rw [q1,hwd];exact ⟨And.right,fun h=>⟨hp2.1,h⟩⟩,by omega,by omega,by omega⟩,kwk⟩
   ·rintro n ⟨q1,q2,q3,q4⟩
    rw [List.drop_length] at q1 q2
    (repeat' first|(refine kk ?_;intros)|refine kfk ?_ ?_<;>intro hb|fail)
    exact kret (congrArg iv (show n=gnR g r by rw [gnR_of (q1.2 trivial) (by simp [nodesGl] at q2;omega)];simp [nodesGl] at q2;omega))
  ·have hw:=Gl.wf_iff (g:=g)
   rw [hk] at hw
   simp only [Int.reduceEq,false_or,or_false,false_and,true_and,or_self,and_self,true_or,or_true] at hw
   have hn:=Gl.nodes_eq g
   have hc:=congrArg tcnt hk
   simp only [tcnts] at hc
   (repeat' first|(refine kkS [] [18] ?_;intros)|fail)
   refine kmm kvI iv fun ms=>?_
   refine kmi 0 (enc:=iv) (c:=fun _=>none) (m:=2) (v:=(2:Int)) ?_
   refine kmi 0 (enc:=iv) (m:=3) (v:=(2:Int)) ?_
   refine kmi 0 (enc:=iv) (m:=4) (v:=(1:Int)) ?_
   refine kmi 0 (enc:=iv) (m:=5) (v:=(1:Int)) ?_
   refine kmi 0 (enc:=iv) (m:=6) (v:=(2:Int)) ?_
   (repeat' first|(refine kkS [] [5] ?_;intros)|fail)
   rw [tc_look,hc]
   (repeat' first|(refine kk ?_;intros)|refine kfk ?_ ?_<;>intro hb|fail)
   all_goals first
    | (refine kret (congrArg iv (gnR_wf fun w=>?_).symm);clear ih hN hin htin hgin p0 p1;have w:=(hw.1 w).2;clear hw;first|(simp_all [noS];done)|(simp_all [noS];omega)|omega)
 ·have hw:=Gl.wf_iff (g:=g)
  have hn:=Gl.nodes_eq g
  have hc:tcnt g.kind=0:=by unfold tcnt;repeat' split<;>omega
  (repeat' first|(refine kkS [] [18] ?_;intros)|fail)
  refine kmm kvI iv fun ms=>?_
  refine kmi 0 (enc:=iv) (c:=fun _=>none) (m:=2) (v:=(2:Int)) ?_
  refine kmi 0 (enc:=iv) (m:=3) (v:=(2:Int)) ?_
  refine kmi 0 (enc:=iv) (m:=4) (v:=(1:Int)) ?_
  refine kmi 0 (enc:=iv) (m:=5) (v:=(1:Int)) ?_
  refine kmi 0 (enc:=iv) (m:=6) (v:=(2:Int)) ?_
  (repeat' first|(refine kkS [] [5] ?_;intros)|fail)
  rw [tc_look,hc]
  (repeat' first|(refine kk ?_;intros)|refine kfk ?_ ?_<;>intro hb|fail)
  all_goals (refine kret (congrArg iv (gnR_wf fun w=>?_).symm);have w:=(hw.1 w).2;omega)
end
end Go.Proofs.YtejkllmoofdpjaaGreat
