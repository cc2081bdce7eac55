/- Parts of the proof: V87. -/
import Derived.Test.YtbabchapkhlenaaGreatC48
import Derived.Test.YtbabchapkhlenaaGreatC47
namespace Go.Proofs.YtbabchapkhlenaaGreat
open Go
set_option linter.all false
set_option maxRecDepth 100000
set_option maxHeartbeats 4000000
noncomputable section
open Classical
theorem grOk_law:Comp (fun g:Gr=>GrOk g) meetsG compG:=⟨fun a b ha hb _=>⟨compA_ok _ _,ha.r1,hb.r2⟩,fun _ _ _=>.rfl,fun _ _ _=>.rfl,fun a b d ha hb hd=>compG_law.assoc a b d ha.arcs hb.arcs hd.arcs⟩
structure RnI (first all next:List Gr):Prop where
 st:Strict cG next
 sub:∀ g∈all,g∈next
 cl:∀ g∈next,RClo meetsG compG first g
 len:next.length≤201∨next.length≤all.length
theorem RnI.ins {first all next:List Gr} {a b:Gr} (h:RnI first all next) (ha:a∈all) (hb:b∈first) (hm:meetsG a b) (hl:next.length≤200):RnI first all (insU cG (compG a b) next):=
 ⟨strict_insU cG_tot h.st,fun g hg=>(mem_insU cG_tot).2 (.inr (h.sub g hg)),fun g hg=>((mem_insU cG_tot).1 hg).elim (fun e=>e▸.step (h.cl a (h.sub a ha)) hb hm) (h.cl g),.inl (by have:=len_insU (c:=cG) (x:=compG a b) (l:=next);omega)⟩
theorem RClo.okG {first:List Gr} (hf:∀ g∈first,GrOk g) {g:Gr} (h:RClo meetsG compG first g):GrOk g:=h.fine grOk_law hf
instance sizeClosure_s:Con1 Tryz.prog 17 (List RlR) vP (fun p=>optGs (closeP p)) InP:=⟨fun p hin=>by
 refine pu Tryz.func17 rfl Tryz.ntmps17 rfl rfl fun C=>?_
 (repeat' first|(refine kk ?_;intros)|refine kfk ?_ ?_<;>intro hb|fail)
 cases hs:sizeF p with
 | none=>
  rw [show closeP p=none by unfold closeP;rw [hs];rfl]
  (repeat' first|(refine kk ?_;intros)|refine kfk ?_ ?_<;>intro hb|fail)
  exact kr2 rvN (rvT rfl)
 | some first=>
  have hv:closeP p=closeF cG meetsG compG 200 first:=by unfold closeP;rw [hs];rfl
  rw [hv]
  obtain ⟨hf,hfl⟩:=sizeF_ok hs
  have hlen:(first.map encGr).length=first.length:=by simp
  (repeat' first|(refine kk ?_;intros)|refine kfk ?_ ?_<;>intro hb|fail)
  refine kfor (ι:=List Gr) first (fun j all=>[(4,vGrs first),(6,vGrs all),(25,vGrs first)]) (fun j all=>[]) (fun j all=>Strict cG all∧(∀ g,g∈all↔g∈first.take j)∧all.length≤j) [] ⟨.nil,by simp,by simp⟩ ?_ ?_
  ·rintro j x all hj hdd hjl ⟨q1,q2,q3⟩
   have hrow:(first.map encGr)[j]?=some (encGr x):=by simp [hj]
   have hx:=List.mem_of_getElem? hj
   have p1:Strict cG all∧all.length≤1000000∧(∀ y∈all,y.arcs.length≤16)∧x.arcs.length≤16:=⟨q1,by omega,fun y hy=>(hf y (List.mem_of_mem_take ((q2 y).1 hy))).arcs.len,(hf x hx).arcs.len⟩
   have ht1:first.take (j+1)=first.take j++[x]:=by rw [List.take_add_one,hj];rfl
   (repeat' first|(refine kk ?_;intros)|refine kfk ?_ ?_<;>intro hb|fail)
   refine ⟨insU cG x all,⟨strict_insU cG_tot q1,fun g=>?_,by have:=len_insU (c:=cG) (x:=x) (l:=all);omega⟩,kwk⟩
   rw [mem_insU cG_tot,q2,ht1]
   simp [or_comm]
  rintro all ⟨q1,q2,q3⟩
  rw [List.take_length] at q2
  (repeat' first|(refine kk ?_;intros)|refine kfk ?_ ?_<;>intro hb|fail)
  refine kloopE (ι:=List Gr) 2 (fun all=>201 - all.length) (fun all=>[(4,vGrs first),(6,vGrs all)]) (fun _=>[]) (fun all=>Strict cG all∧(∀ g∈first,g∈all)∧(∀ g∈all,RClo meetsG compG first g)∧all.length≤600000) (fun all=>Strict cG all∧(∀ g,g∈all↔Clo meetsG compG first g)∧all.length≤200) all ⟨q1,fun g hg=>(q2 g).2 hg,fun g hg=>.base ((q2 g).1 hg),by omega⟩ ?_ ?_
  ·clear q1 q2 q3 all
   rintro all ⟨q1,q2,q3,q4⟩
   have hla:(all.map encGr).length=all.length:=by simp
   (repeat' first|(refine kk ?_;intros)|refine kfk ?_ ?_<;>intro hb|fail)
   refine kfor (ι:=List Gr) all (fun j next=>[(4,vGrs first),(6,vGrs all),(9,vGrs next),(36,vGrs all)]) (fun _ _=>[]) (fun j next=>RnI first all next∧(next.length≤200→∀ a∈all.take j,∀ b∈first,meetsG a b→compG a b∈next)) all ⟨⟨q1,fun _ h=>h,q3,.inr (Nat.le_refl _)⟩,by simp⟩ ?_ ?_
   ·rintro j a next hj hdd hjl ⟨q5,q6⟩
    have hrow:(all.map encGr)[j]?=some (encGr a):=by simp [hj]
    have ha:=List.mem_of_getElem? hj
    have hta:all.take (j+1)=all.take j++[a]:=by rw [List.take_add_one,hj];rfl
    (repeat' first|(refine kk ?_;intros)|refine kfk ?_ ?_<;>intro hb|fail)
    rename_i b11
    refine kfor (ι:=List Gr) first (fun m next=>[(4,vGrs first),(6,vGrs all),(9,vGrs next),(36,vGrs all),(38,iv j),(37,iv all.length),(11,.one (.v (.pointer (some ⟨b11,0,none⟩)))),(42,vGrs first)]) (fun _ _=>[abox b11 (encGr a) 59]) (fun m next=>RnI first all next∧(next.length≤200→(∀ a'∈all.take j,∀ b∈first,meetsG a' b→compG a' b∈next)∧∀ b∈first.take m,meetsG a b→compG a b∈next)) next ⟨q5,fun h=>⟨q6 h,by simp⟩⟩ ?_ ?_
    ·rintro m b nx hm hmd hml ⟨q7,q8⟩
     have hrow2:(first.map encGr)[m]?=some (encGr b):=by simp [hm]
     have hb0:=List.mem_of_getElem? hm
     have htb:first.take (m+1)=first.take m++[b]:=by rw [List.take_add_one,hm];rfl
     have hln:(nx.map encGr).length=nx.length:=by simp
     have hla2:=q7.len
     by_cases hmt:a.callee=b.caller
     ·by_cases hnl:nx.length≤200
      ·have p2:a.arcs.length≤16∧b.arcs.length≤16:=⟨((q3 a ha).okG hf).arcs.len,(hf b hb0).arcs.len⟩
       have p3:Strict cG nx∧nx.length≤1000000∧(∀ y∈nx,y.arcs.length≤16)∧(compG a b).arcs.length≤16:=⟨q7.st,by omega,fun y hy=>((q7.cl y hy).okG hf).arcs.len,(compA_ok _ _).len⟩
       obtain ⟨q9,q10⟩:=q8 hnl
       (repeat' first|(refine kk ?_;intros)|refine kfk ?_ ?_<;>intro hb|fail)
       all_goals first
        | (exfalso;omega)
        | exact absurd hmt (by assumption)
        | (refine ⟨insU cG (compG a b) nx, ⟨q7.ins ha hb0 hmt hnl, fun _ => ⟨fun a' h1 b' h2 h3 => (mem_insU cG_tot).2 (.inr (q9 a' h1 b' h2 h3)), fun b' h1 h3 => ?_⟩⟩, kwk⟩
           rw [htb] at h1
           rcases List.mem_append.1 h1 with h1|h1
           ·exact (mem_insU cG_tot).2 (.inr (q10 b' h1 h3))
           ·obtain rfl:=List.mem_singleton.1 h1;exact (mem_insU cG_tot).2 (.inl rfl))
      ·(repeat' first|(refine kk ?_;intros)|refine kfk ?_ ?_<;>intro hb|fail)
       all_goals first
        | (exfalso;omega)
        | exact absurd hmt (by assumption)
        | exact ⟨nx,⟨q7,fun h=>absurd h hnl⟩,kwk⟩
     ·(repeat' first|(refine kk ?_;intros)|refine kfk ?_ ?_<;>intro hb|fail)
      all_goals first
       | exact absurd (by assumption) hmt
       | (refine ⟨nx, ⟨q7, fun h => ⟨(q8 h).1, fun b' h1 h3 => ?_⟩⟩, kwk⟩
          rw [htb] at h1
          rcases List.mem_append.1 h1 with h1|h1
          ·exact (q8 h).2 b' h1 h3
          ·obtain rfl:=List.mem_singleton.1 h1;exact absurd h3 hmt)
    ·rintro nx ⟨q7,q8⟩
     rw [List.take_length] at q8
     (repeat' first|(refine kk ?_;intros)|refine kfk ?_ ?_<;>intro hb|fail)
     refine ⟨nx,⟨q7,fun h a' h1 b' h2 h3=>?_⟩,kwk⟩
     rw [hta] at h1
     rcases List.mem_append.1 h1 with h1|h1
     ·exact (q8 h).1 a' h1 b' h2 h3
     ·obtain rfl:=List.mem_singleton.1 h1;exact (q8 h).2 b' h2 h3
   ·rintro nx ⟨q5,q6⟩
    rw [List.take_length] at q6
    have hln:(nx.map encGr).length=nx.length:=by simp
    have hnd:=strict_nodup cG_tot q5.st
    have hclo:∀ g∈nx,Clo meetsG compG first g:=fun g hg=>(clo_iff grOk_law hf).2 (q5.cl g hg)
    have hle:all.length≤nx.length:=nodup_len (strict_nodup cG_tot q1) q5.sub
    by_cases h200:200 < nx.length
    ·rw [closeF_none hnd h200 hclo]
     (repeat' first|(refine kk ?_;intros)|refine kfk ?_ ?_<;>intro hb|fail)
     all_goals first
      | exact kr2 rvN (rvT rfl)
      | (exfalso;omega)
    ·by_cases heq:nx.length=all.length
     ·have hback:∀ g∈nx,g∈all:=fun g hg=>Classical.byContradiction fun hn=>by
       have:=nodup_len (l:=g::all) (m:=nx) (List.nodup_cons.2 ⟨hn,strict_nodup cG_tot q1⟩) fun z hz=>by
        rcases List.mem_cons.1 hz with rfl|hz
        ·exact hg
        ·exact q5.sub z hz
       simp at this;omega
      (repeat' first|(refine kk ?_;intros)|refine kfk ?_ ?_<;>intro hb|fail)
      all_goals first
       | (exfalso;omega)
       | exact ⟨all,⟨q1,closed_right grOk_law hf q2 q3 fun a ha b hb hm=>hback _ (q6 (by omega) a ha b hb hm),by omega⟩,kwk⟩
     ·(repeat' first|(refine kk ?_;intros)|refine kfk ?_ ?_<;>intro hb|fail)
      all_goals first
       | (exfalso;omega)
       | exact ⟨nx,by omega,⟨q5.st,fun g hg=>q5.sub g (q2 g hg),q5.cl,by omega⟩,kwk⟩
  clear q1 q2 q3 all
  rintro all ⟨q1,q2,q3⟩
  have hla:(all.map encGr).length=all.length:=by simp
  have hok:∀ g∈all,GrOk g:=fun g hg=>clo_ok hf ((q2 g).1 hg)
  rw [closeF_some cG_tot q1 q3 q2]
  (repeat' first|(refine kkz ?_;intros)|refine kfk ?_ ?_<;>intro hb|fail)
  rename_i u0
  refine kfor (ι:=Value × List OG) all (fun j q=>[(14,.one (.v q.1)),(75,vGrs all)]) (fun j q=>AG q.1 q.2) (fun j q=>q.2.map (·.2)=all.take j) (u0,[]) rfl ?_ ?_
  ·rintro j x ⟨u,os⟩ hj hdd hjl q4
   simp only at q4
   dsimp only
   have hrow:(all.map encGr)[j]?=some (encGr x):=by simp [hj]
   have hx16:=(hok x (List.mem_of_getElem? hj)).arcs.len
   have hol:os.length≤j:=by have:=congrArg List.length q4;simp at this;omega
   (repeat' first|(refine kk ?_;intros)|refine kfk ?_ ?_<;>intro hb|fail)
   rename_i b16
   refine kmix 12 [0,1,2,3,4,6,7] [5,8,9,10,11] [abox b16 (encGr x) 59] ?_ (hB:=Has.mem (by repeat (first|exact List.Mem.head _|apply List.Mem.tail)))
   iterate 7 refine kal1 ?_
   refine kal0 ?_
   refine kacO rfl rfl O_bs0 ?_
   rintro _ _ ⟨ua,rfl,rfl⟩
   refine ⟨Has.mem (by repeat (first|exact List.Mem.head _|apply List.Mem.tail)),?_⟩
   refine kacO rfl rfl (O_app (e:=66) (sz:=3) 0 _ _ rfl rfl rfl rfl rfl (by simp only [List.length_map,List.length_nil];omega)) ?_
   rintro _ _ ⟨ub,rfl,rfl⟩
   refine ⟨Has.mem (by repeat (first|exact List.Mem.head _|apply List.Mem.tail)),?_⟩
   refine kacP (hb:=Has.mem (by repeat (first|exact List.Mem.head _|apply List.Mem.tail))) ?_
   refine kacP (hb:=Has.mem (by repeat (first|exact List.Mem.head _|apply List.Mem.tail))) ?_
   refine kacO rfl rfl (O_app (e:=59) (sz:=3) 2 _ _ rfl rfl rfl rfl rfl (by simp only [List.length_map,List.length_cons,List.length_nil];omega)) ?_
   rintro _ _ ⟨uc,rfl,rfl⟩
   refine ⟨Has.mem (by repeat (first|exact List.Mem.head _|apply List.Mem.tail)),?_⟩
   (repeat (refine kkc ?_))
   (repeat' first|(refine kk ?_;intros)|refine kfk ?_ ?_<;>intro hb|fail)
   refine ⟨(uc,os++[(ub,x)]),?_,⟨leF_fl wL,?_⟩⟩
   ·rw [List.take_add_one,hj,List.map_append,q4];rfl
   ·show ∃ B,List.Perm B _∧(arow 59 3 uc ((os++[(ub,x)]).map rowO)::(os++[(ub,x)]).map atmO).Sublist B
    simp only [List.map_append,List.map_cons,List.map_nil]
    exact ats_last (L:=arow 59 3 uc (os.map rowO++[rowO (ub,x)])::os.map atmO) (y:=atmO (ub,x)) 0 rfl (by (exact wS))
  ·rintro ⟨u,os⟩ q4
   rw [List.take_length] at q4
   simp only at q4
   dsimp only
   (repeat' first|(refine kkS [] [94] ?_;intros)|fail)
   refine AO_freezeV (A1:=[]) (B:=AG u os) (t:=14) (.refl _) rfl vwAG' ?_
   rw [q4]
   (repeat' first|(refine kk ?_;intros)|refine kfk ?_ ?_<;>intro hb|fail)
   exact kr2 (rvT rfl) (rvT rfl)⟩
end
end Go.Proofs.YtbabchapkhlenaaGreat
