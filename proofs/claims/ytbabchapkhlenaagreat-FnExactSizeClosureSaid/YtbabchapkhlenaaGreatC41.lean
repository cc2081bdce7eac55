/- Parts of the proof: V75. -/
import Derived.Test.YtbabchapkhlenaaGreatC34
import Derived.Test.YtbabchapkhlenaaGreatC38
import Derived.Test.YtbabchapkhlenaaGreatC40
namespace Go.Proofs.YtbabchapkhlenaaGreat
open Go
set_option linter.all false
set_option maxRecDepth 100000
set_option maxHeartbeats 4000000
noncomputable section
theorem orS_drop {l:List G} {j:Nat} {x:G} {out:Cl} (hd:l.drop j=x::l.drop (j+1)):orS ((l.drop j).map clS) out=if 64 < (clS x).length then clS x else orS ((l.drop (j+1)).map clS) (out++clS x):=by
 rw [hd,List.map_cons];rfl
theorem andS_drop {l:List G} {j:Nat} {x:G} {out:Cl} (hd:l.drop j=x::l.drop (j+1)):andS ((l.drop j).map clS) out=if 64 < (clS x).length then clS x else if 64 < (prodL out (clS x)).length then prodL out (clS x) else andS ((l.drop (j+1)).map clS) (prodL out (clS x)):=by
 rw [hd,List.map_cons];rfl
theorem clS_lens {g:G} (hok:g.Ok) (hn:g.nodes≤80):(clS g).length≤4096∧∀ x∈clS g,x.length≤80:=⟨clS_len hok,fun x hx=>by have:=(clS_mem g x hx).1;omega⟩
mutual
theorem leaf_ok:∀ {g:G},g.Ok→∀ x∈g.leaves,x.Ok
 | .all l,h,x,hx=>by
  have h:l.length≤8∧OkL l:=by simpa [G.Ok] using h
  exact leafL_ok h.2 x (by simpa [G.leaves] using hx)
 | .any l,h,x,hx=>by
  have h:l.length≤8∧OkL l:=by simpa [G.Ok] using h
  exact leafL_ok h.2 x (by simpa [G.leaves] using hx)
 | .tru,h,x,hx=>by simp [G.leaves] at hx
 | .fail,h,x,hx=>by simp [G.leaves] at hx
 | .eq _ _,h,x,hx=>by simp [G.leaves] at hx;subst hx;exact h
 | .ne _ _,h,x,hx=>by simp [G.leaves] at hx;subst hx;exact h
 | .sy _,h,x,hx=>by simp [G.leaves] at hx;subst hx;exact h
 | .nu _,h,x,hx=>by simp [G.leaves] at hx;subst hx;exact h
 | .ab _ _,h,x,hx=>by simp [G.leaves] at hx;subst hx;exact h
 | .call _ _,h,x,hx=>by simp [G.leaves] at hx;subst hx;exact h
 | .non _ _,h,x,hx=>by simp [G.leaves] at hx;subst hx;exact h
theorem leafL_ok:∀ {l:List G},OkL l→∀ x∈leavesL l,x.Ok
 | [],_,x,hx=>by simp [leavesL] at hx
 | g::l,h,x,hx=>by
  have h:g.Ok∧OkL l:=by simpa [OkL] using h
  simp only [leavesL,List.mem_append] at hx
  exact hx.elim (leaf_ok h.1 x) (leafL_ok h.2 x)
end
instance clauses_s:Con1 Tryz.prog 53 G vG (fun g=>vCl (clS g)) (fun g=>g.Ok∧g.nodes≤80):=.ind G.nodes fun N ih g hN ⟨hok,hn⟩=>by
 have hgo:=goals_kids g
 have e3:g.gl.subE=(g.kids.map G.gl).map encG:=by rw [subE_eq,rowsG_eq,hgo]
 have e4:g.gl.goals.length=g.kids.length:=by rw [hgo,List.length_map]
 obtain ⟨k2,kok⟩:=ok_kids hok
 refine pu Tryz.func53 rfl Tryz.ntmps53 rfl rfl fun C=>?_
 cases g with
 | any l=>
  replace e3:(G.any l).gl.subE=(l.map G.gl).map encG:=e3
  replace e4:(G.any l).gl.goals.length=l.length:=e4
  replace k2:l.length≤8:=k2
  have hv:clS (G.any l)=orS (l.map clS) []:=by rw [clS,clSs_eq]
  rw [hv]
  (repeat' first|(refine kkz ?_;intros)|refine kfk ?_ ?_<;>intro hb|fail)
  rw [e3,e4]
  rename_i b1 u0
  refine kfor (ι:=Value × Cl) l (fun j q=>[(1,.one (.v (.pointer (some ⟨b1,0,none⟩)))),(3,.one (.v q.1)),(28,.one (.s 4 ((l.map G.gl).map encG)))]) (fun j q=>[arow 41 1 q.1 (q.2.map eCl),abox b1 (encG (G.any l).gl) 43]) (fun j q=>orS (l.map clS) []=orS ((l.drop j).map clS) q.2∧q.2.length≤64 * j) (u0,[]) ⟨rfl,by simp⟩ ?_ ?_
  ·rintro j x ⟨u,out⟩ hj hdd hjl ⟨q1,q2⟩
   have hrow:((l.map G.gl).map encG)[j]?=some (encG x.gl):=by simp [hj]
   have hx:=List.mem_of_getElem? hj
   have hxn:=kids_nodes (g:=.any l) hx
   have p1:x.nodes < N∧x.Ok∧x.nodes≤80:=⟨by omega,kok x hx,by omega⟩
   rw [orS_drop hdd] at q1
   obtain ⟨hcl,hce⟩:=clS_lens p1.2.1 p1.2.2
   have hlc:((clS x).map eCl).length=(clS x).length:=by simp
   simp only at q2
   by_cases h64:64 < (clS x).length
   ·rw [if_pos h64] at q1
    (repeat' first|(refine kk ?_;intros)|refine kfk ?_ ?_<;>intro hb|fail)
    all_goals first
     | (rw [q1];exact kr1 (rvT rfl))
     | (exfalso;omega)
   ·rw [if_neg h64] at q1
    (repeat' first|(refine kk ?_;intros)|refine kfk ?_ ?_<;>intro hb|fail)
    rename_i b2 u2
    refine ⟨(u2,out++clS x),⟨q1,by simp;omega⟩,?_⟩
    simp only [List.map_append]
    exact kwk
  ·rintro ⟨u,out⟩ ⟨q1,q2⟩
   rw [List.drop_length] at q1
   rw [q1]
   (repeat' first|(refine kk ?_;intros)|refine kfk ?_ ?_<;>intro hb|fail)
   exact kr1 (rvR rfl)
 | all l=>
  replace e3:(G.all l).gl.subE=(l.map G.gl).map encG:=e3
  replace e4:(G.all l).gl.goals.length=l.length:=e4
  replace k2:l.length≤8:=k2
  have hv:clS (G.all l)=andS (l.map clS) [[]]:=by rw [clS,clSs_eq]
  rw [hv]
  (repeat' first|(refine kkSz [] [48] ?_;intros)|fail)
  (repeat' first|(refine kkS [] [51] ?_;intros)|fail)
  refine kfO 0 3 ?_
  (repeat' first|(refine kk ?_;intros)|refine kfk ?_ ?_<;>intro hb|fail)
  rw [e3,e4]
  rename_i b1 u0 u1
  refine kfor (ι:=Cl) l (fun j out=>[(1,.one (.v (.pointer (some ⟨b1,0,none⟩)))),(3,vCl out),(52,.one (.s 4 ((l.map G.gl).map encG)))]) (fun j out=>[abox b1 (encG (G.all l).gl) 43]) (fun j out=>andS (l.map clS) [[]]=andS ((l.drop j).map clS) out∧out.length≤64∧∀ x∈out,x.length≤80 * j) [[]] ⟨rfl,by simp,by simp⟩ ?_ ?_
  ·rintro j x out hj hdd hjl ⟨q1,q2,q3⟩
   have hrow:((l.map G.gl).map encG)[j]?=some (encG x.gl):=by simp [hj]
   have hx:=List.mem_of_getElem? hj
   have hxn:=kids_nodes (g:=.all l) hx
   have p1:x.nodes < N∧x.Ok∧x.nodes≤80:=⟨by omega,kok x hx,by omega⟩
   rw [andS_drop hdd] at q1
   obtain ⟨hcl,hce⟩:=clS_lens p1.2.1 p1.2.2
   obtain ⟨c,hc⟩:∃ c,clS x=c:=⟨_,rfl⟩
   rw [hc] at q1 hcl hce
   have hlo:(out.map eCl).length=out.length:=by simp
   have hlc:(c.map eCl).length=c.length:=by simp
   (repeat' first|(refine kkS [] [60] ?_;intros)|fail)
   rw [hc]
   by_cases h64:64 < c.length
   ·rw [if_pos h64] at q1
    (repeat' first|(refine kk ?_;intros)|refine kfk ?_ ?_<;>intro hb|fail)
    all_goals first
     | (rw [q1];exact kr1 (rvT rfl))
     | (exfalso;omega)
   rw [if_neg h64] at q1
   (repeat' first|(refine kkz ?_;intros)|refine kfk ?_ ?_<;>intro hb|fail)
   rename_i b2 u0
   refine kfor (ι:=Value) out (fun k u=>[(1,.one (.v (.pointer (some ⟨b1,0,none⟩)))),(9,vCl c),(10,.one (.v u)),(52,.one (.s 4 ((l.map G.gl).map encG))),(54,iv j),(53,iv l.length),(65,vCl out)]) (fun k u=>[arow 41 1 u ((prodL (out.take k) c).map eCl),abox b1 (encG (G.all l).gl) 43]) (fun _ _=>True) u0 trivial ?_ ?_
   ·rintro k a u hk hkd hkl _
    have hrow1:(out.map eCl)[k]?=some (eCl a):=by simp [hk]
    have ha:=q3 a (List.mem_of_getElem? hk)
    have hP:(prodL (out.take k) c).length≤4096:=by
     rw [prodL_len]
     exact Nat.le_trans (Nat.mul_le_mul (show (out.take k).length≤64 by simp;omega) (show c.length≤64 by omega)) (by omega)
    (repeat' first|(refine kk ?_;intros)|refine kfk ?_ ?_<;>intro hb|fail)
    refine kfor (ι:=Value) c (fun m u=>[(1,.one (.v (.pointer (some ⟨b1,0,none⟩)))),(9,vCl c),(10,.one (.v u)),(52,.one (.s 4 ((l.map G.gl).map encG))),(54,iv j),(53,iv l.length),(65,vCl out),(67,iv k),(66,iv out.length),(12,.one (.s 4 ((a.map G.gl).map encG))),(71,vCl c)]) (fun m u=>[arow 41 1 u ((prodL (out.take k) c).map eCl++((c.take m).map fun y=>a++y).map eCl),abox b1 (encG (G.all l).gl) 43]) (fun _ _=>True) u trivial ?_ ?_ (kwk (hs:=by simp only [List.take_zero,List.map_nil,List.append_nil];(exact wS)))
    ·rintro m b v hm hmd hml _
     have hrow2:(c.map eCl)[m]?=some (eCl b):=by simp [hm]
     have hb':=hce b (List.mem_of_getElem? hm)
     have ht1:c.take (m+1)=c.take m++[b]:=by rw [List.take_add_one,hm];rfl
     (repeat' first|(refine kkSz [] [83] ?_;intros)|fail)
     rename_i u2 u3 u4
     refine kfO 0 82 ?_
     (repeat' first|(refine kkz ?_;intros)|refine kfk ?_ ?_<;>intro hb|fail)
     rename_i u5
     refine ⟨u5,trivial,?_⟩
     rw [ht1]
     exact kwk (hs:=by
      simp only [List.map_cons,List.map_nil,List.map_append,List.nil_append,eCl_app,← List.append_assoc]
      (exact wS))
    ·rintro v _
     rw [List.take_length]
     (repeat' first|(refine kk ?_;intros)|refine kfk ?_ ?_<;>intro hb|fail)
     refine ⟨v,trivial,?_⟩
     rw [prodL_take hk,List.map_append]
     exact kwk
   ·rintro u _
    rw [List.take_length]
    have hPl:((prodL out c).map eCl).length=(prodL out c).length:=by simp
    (repeat' first|(refine kkSz [] [87] ?_;intros)|fail)
    refine kfO 0 10 ?_
    by_cases h65:64 < (prodL out c).length
    ·rw [if_pos h65] at q1
     (repeat' first|(refine kk ?_;intros)|refine kfk ?_ ?_<;>intro hb|fail)
     all_goals first
      | (rw [q1];exact kr1 (rvT rfl))
      | (exfalso;omega)
    ·rw [if_neg h65] at q1
     (repeat' first|(refine kk ?_;intros)|refine kfk ?_ ?_<;>intro hb|fail)
     all_goals first
      | exact ⟨prodL out c,⟨q1,by omega,fun y hy=>by have:=prodL_lens q3 hce y hy;omega⟩,kwk⟩
      | (exfalso;omega)
  ·rintro out ⟨q1,q2,q3⟩
   rw [List.drop_length] at q1
   rw [q1]
   (repeat' first|(refine kk ?_;intros)|refine kfk ?_ ?_<;>intro hb|fail)
   exact kr1 (rvT rfl)
 | tru=>
  (repeat' first|(refine kk ?_;intros)|refine kfk ?_ ?_<;>intro hb|fail)
  exact kr1 (rvT rfl)
 | fail=>
  (repeat' first|(refine kk ?_;intros)|refine kfk ?_ ?_<;>intro hb|fail)
  exact kr1 (rvT rfl)
 | _=>
  (repeat' first|(refine kkz ?_;intros)|refine kfk ?_ ?_<;>intro hb|fail)
  exact kr1 (rvR rfl)
instance clausesOf_s:Con1 Tryz.prog 21 G vG (fun g=>optCl (clF g)) (fun g=>g.gl.In∧g.okG):=⟨fun g ⟨hin,hg⟩=>by
 haveI:=goalYes_s
 have i1:=And.intro hin hg
 have p1:g.Ok∧g.nodes≤80:=⟨hg.ok,hg.size⟩
 obtain ⟨hcl,hce⟩:=clS_lens hg.ok hg.size
 have hlim:=clF_lim g
 have hmem:=clS_mem g
 obtain ⟨c,hc⟩:∃ c,clS g=c:=⟨_,rfl⟩
 rw [hc] at hlim hcl hce hmem
 have hlc:(c.map eCl).length=c.length:=by simp
 refine pu Tryz.func21 rfl Tryz.ntmps21 rfl rfl fun C=>?_
 (repeat' first|(refine kkS [] [4] ?_;intros)|fail)
 rw [hc]
 by_cases h64:64 < c.length
 ·rw [hlim]
  unfold lim
  rw [if_pos h64]
  (repeat' first|(refine kk ?_;intros)|refine kfk ?_ ?_<;>intro hb|fail)
  all_goals first
   | exact kr2 rvN (rvT rfl)
   | (exfalso;omega)
 rw [hlim]
 unfold lim
 rw [if_neg h64]
 (repeat' first|(refine kkz ?_;intros)|refine kfk ?_ ?_<;>intro hb|fail)
 rename_i b1 u0
 refine kfor (ι:=Value) c (fun j u=>[(5,.one (.v u)),(17,vCl c)]) (fun j u=>[arow 41 1 u ((c.take j).map eCl)]) (fun _ _=>True) u0 trivial ?_ ?_
 ·rintro j x u hj hdd hjl _
  have hrow:(c.map eCl)[j]?=some (eCl x):=by simp [hj]
  have hx:=hce x (List.mem_of_getElem? hj)
  have hgs:x.length≤1000000∧∀ g∈x,GvS g:=⟨by omega,fun y hy=>(leaf_ok hg.ok y ((hmem x (List.mem_of_getElem? hj)).2 y hy).1).gvs⟩
  have ht1:c.take (j+1)=c.take j++[x]:=by rw [List.take_add_one,hj];rfl
  (repeat' first|(refine kk ?_;intros)|refine kfk ?_ ?_<;>intro hb|fail)
  rename_i u2
  refine ⟨u2,trivial,?_⟩
  rw [ht1,List.map_append]
  exact kwk
 ·rintro u _
  rw [List.take_length]
  (repeat' first|(refine kk ?_;intros)|refine kfk ?_ ?_<;>intro hb|fail)
  exact kr2 (rvR rfl) (rvT rfl)⟩
end
end Go.Proofs.YtbabchapkhlenaaGreat
