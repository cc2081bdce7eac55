/- Parts of the proof: V39 V48. -/
import Derived.Test.YtejkllmoofdpjaaGreatD23
import Derived.Test.YtejkllmoofdpjaaGreatD22
namespace Go.Proofs.YtejkllmoofdpjaaGreat
open Go
set_option linter.all false
set_option maxRecDepth 100000
set_option maxHeartbeats 4000000
noncomputable section
theorem markAdd_fold {l:Ms} {x:T} {g:ByteArray} (hl:MOk l) (h:¬ x.hasSym g):markAdd l x g=some ((varsA [] x).foldl (fun l v=>insU cMk (v,g) l) l):=by
 unfold markAdd
 rw [if_neg h]
 congr 1
 have:∀ (vs:List Nat) (l:Ms),Strict cMk l→sortU cMk (l++vs.map fun v=>(v,g))=vs.foldl (fun l v=>insU cMk (v,g) l) l:=by
  intro vs
  induction vs with
  | nil=>intro l hl;simpa using sortU_strict cMk_tot hl
  | cons v vs ih=>
   intro l hl
   rw [List.foldl_cons,← ih _ (strict_insU cMk_tot hl)]
   refine sortU_congr cMk_tot fun z=>?_
   simp only [List.mem_append,mem_insU cMk_tot,List.map_cons,List.mem_cons]
   constructor
   ·rintro (h|h|h)<;>simp [h]
   ·rintro ((h|h)|h)<;>simp [h]
 rw [← this _ _ hl.asc]
 refine sortU_congr cMk_tot fun z=>?_
 simp only [List.mem_append,List.mem_map,mem_varsA,mem_vars]
 simp
theorem len_insU {α:Type} {c:α→α→Int} {x:α}:∀ {l:List α},(insU c x l).length≤l.length+1
 | []=>by simp [insU]
 | y::l=>by
  unfold insU
  split
  ·simp
  ·split
   ·simp
   ·simp only [List.length_cons];have:=len_insU (c:=c) (x:=x) (l:=l);omega
abbrev foldM (g:ByteArray) (l:Ms) (vs:List Nat):Ms:=vs.foldl (fun l v=>insU cMk (v,g) l) l
theorem foldM_strict {g:ByteArray}:∀ {vs:List Nat} {l:Ms},Strict cMk l→Strict cMk (foldM g l vs)
 | [],_,h=>h
 | v::vs,l,h=>by
  show Strict cMk (foldM g (insU cMk (v,g) l) vs)
  exact foldM_strict (strict_insU cMk_tot h)
theorem foldM_len {g:ByteArray}:∀ {vs:List Nat} {l:Ms},(foldM g l vs).length≤l.length+vs.length
 | [],_=>by simp
 | v::vs,l=>by
  have h1:=foldM_len (g:=g) (vs:=vs) (l:=insU cMk (v,g) l)
  have h2:=len_insU (c:=cMk) (x:=(v,g)) (l:=l)
  simp only [foldM,List.foldl_cons,List.length_cons] at h1 ⊢
  omega
theorem lt_of_strict {l:Ms} (hs:Strict cMk l) {k:Nat} {b x:Nat × ByteArray} (hk:l[k]?=some b) (hb:cMk b x=-1):∀ c∈l.take (k+1),cMk c x=-1:=fun c hc=>by
 obtain ⟨i,hi⟩:=List.getElem?_of_mem hc
 rw [List.getElem?_take] at hi
 split at hi
 ·rcases Nat.lt_or_ge i k with h|h
  ·exact cMk_tot.trans _ _ _ (asc_get hs hi hk h) hb
  ·obtain rfl:i=k:=by omega
   rw [hk] at hi;cases hi;exact hb
 ·cases hi
instance mark_s:Con3 Tryz.prog 259 Ms T ByteArray vM vT sv (fun l x g=>.tup [.one (.s 2 ((((markAdd l x g).getD []).map toM).map encM)),bv (markAdd l x g).isSome]) (fun l x g=>MOk l∧l.length≤1099511627776∧x.nodes≤5000):=⟨fun l x g ⟨hl,hl1,hx⟩=>by
 have p1:AscN []∧([]:List Nat).length+x.nodes≤1099511627776:=⟨.nil,by simp;omega⟩
 refine pu Tryz.func259 rfl Tryz.ntmps259 rfl rfl fun C=>?_
 by_cases hb0:x.hasSym g
 ·have hv:markAdd l x g=none:=if_pos hb0
  rw [hv]
  (repeat' first|(refine kk ?_;intros)|refine kfk ?_ ?_<;>intro hb|fail)
  ·exact kr2 rvN (rvT rfl)
  ·exact absurd hb0 hb
 ·have hv:=markAdd_fold hl hb0
  rw [hv]
  (repeat' first|(refine kk ?_;intros)|refine kfk ?_ ?_<;>intro hb|fail)
  ·exact absurd hb hb0
  ·have hvl:(varsA [] x).length≤5000:=by
    have h1:=len_foldA (m:=x.vars) (l:=[]) .nil
    have h2:=vars_len x
    unfold varsA;simp at h1;omega
   generalize varsA [] x=vs at hv hvl ⊢
   refine kfor (ι:=Ms) vs (fun j m=>[(0,vM m),(2,sv g),(17,nsv vs)]) (fun j m=>[]) (fun j m=>m=foldM g l (vs.take j)) l rfl ?_ ?_
   ·rintro j v m hj hdd hjl hm
    have ht1:vs.take (j+1)=vs.take j++[v]:=by rw [List.take_add_one,hj];rfl
    have hm1:foldM g l (vs.take (j+1))=insU cMk (v,g) m:=by rw [ht1,hm];simp [foldM]
    have hms:Strict cMk m:=hm▸foldM_strict hl.asc
    have hml:m.length≤1099511627776+5000:=by
     have:=foldM_len (g:=g) (vs:=vs.take j) (l:=l)
     rw [← hm] at this
     simp at this;omega
    have hmlen:((m.map toM).map encM).length=m.length:=by simp
    have hrow:(vs.map encN)[j]?=some [.v (.int .i64 (v:Int))]:=by simp [hj,encI]
    (repeat' first|(refine kk ?_;intros)|refine kfk ?_ ?_<;>intro hb|fail)
    rename_i b10
    refine kloop (ι:=Nat) (fun i=>m.length - i) (fun i=>[(0,vM m),(2,sv g),(10,.one (.v (.pointer (some ⟨b10,0,none⟩)))),(11,nv i),(17,nsv vs),(18,nv vs.length),(19,nv j)]) (fun _=>[abox b10 (encM (toM (v,g))) 189]) (fun i=>i≤m.length∧∀ y∈m.take i,cMk y (v,g)=-1) 0 ⟨Nat.zero_le _,by simp⟩ ?_
    rintro i ⟨h1,h2⟩
    have tk:((m.map toM).map encM).take i=((m.take i).map toM).map encM:=by simp
    have dk:((m.map toM).map encM).drop i=((m.drop i).map toM).map encM:=by simp
    have h2':∀ y∈m.take i,cMk (v,g) y=1:=fun y hy=>by rw [cMk_tot.anti,h2 y hy];rfl
    have key:(∀ y,m[i]?=some y→cMk (v,g) y=-1)→((((m.take i).map toM).map encM++[encM (toM (v,g))])++((m.drop i).map toM).map encM)=((insU cMk (v,g) m).map toM).map encM:=fun g1=>by
     rw [insU_put h1 h2' g1];simp
    by_cases hi:i < m.length
    ·obtain ⟨⟨w,k⟩,hy⟩:∃ y,m[i]?=some y:=⟨m[i],List.getElem?_eq_getElem hi⟩
     have hrow2:((m.map toM).map encM)[i]?=some (encM (toM (w,k))):=by simp [hy]
     by_cases hw:cMk (w,k) (v,g)=-1
     ·(repeat' first|(refine kkSz [] [0] ?_;intros)|refine kfS [] [0] ?_ ?_<;>intro hb|fail)
      ·exact ⟨i+1,by omega,⟨by omega,lt_of_strict hms hy hw⟩,kwk⟩
      ·exact absurd hw hb
     ·have hins:¬ cMk (v,g) (w,k)=-1→insU cMk (v,g) m=m:=fun hw2=>insU_same h2' hy (by
       rcases cMk_tot.val (v,g) (w,k) with e|e|e
       ·exact absurd e hw2
       ·exact e
       ·exact absurd (by rw [cMk_tot.anti,e]) hw)
      (repeat' first|(refine kkSz [] [0] ?_;intros)|refine kfS [] [0] ?_ ?_<;>intro hb|fail)
      ·exact absurd hb hw
      ·refine kfO 0 65 ?_
       (repeat' first|(refine kk ?_;intros)|refine kfk ?_ ?_<;>intro hb|fail)
       refine ⟨_,hm1.symm,kwk (h:=⟨.refl _,.refl _,le_eq ?_,.refl _,.refl _,trivial⟩)⟩
       show AV.one (.s 2 _)=AV.one (.s 2 _)
       rw [← key fun y hy'=>by rw [hy] at hy';cases hy';exact hb]
       simp
      ·exact ⟨m,by rw [hm1,hins hb],kwk⟩
    ·obtain rfl:i=m.length:=by omega
     (repeat' first|(refine kkSz [] [0] ?_;intros)|refine kfS [] [0] ?_ ?_<;>intro hb|fail)
     refine kfO 0 65 ?_
     (repeat' first|(refine kk ?_;intros)|refine kfk ?_ ?_<;>intro hb|fail)
     refine ⟨_,hm1.symm,kwk (h:=⟨.refl _,.refl _,le_eq ?_,.refl _,.refl _,trivial⟩)⟩
     show AV.one (.s 2 _)=AV.one (.s 2 _)
     rw [← key fun y hy'=>by simp at hy']
     have e1:List.take m.length (List.map toM m)=List.map toM m:=List.take_of_length_le (by simp)
     have e2:List.drop m.length (List.map toM m)=[]:=List.drop_of_length_le (by simp)
     simp [e1,e2]
   ·rintro m hm
    rw [List.take_length] at hm
    subst hm
    (repeat' first|(refine kkz ?_;intros)|refine kfk ?_ ?_<;>intro hb|fail)
    exact kr2 (rvT rfl) (rvT rfl)⟩
end
noncomputable section
theorem walkP_var {s:Sb} {v:Nat}:walkP s (.var v)=suOf s v:=by
 show (getS s v).getD (.var v)=suOf s v
 unfold suOf
 cases getS s v<;>rfl
instance kinds_s:Con2 Tryz.prog 240 Sb Ks vS vK (fun s l=>optK (kindsG s l [])) (fun s l=>Sub s∧KOk l):=⟨fun s l ⟨hs,hl⟩=>by
 have hlen:((l.map toK).map encK).length=l.length:=by simp
 have hl1:=hl.lng
 have hl2:=hl.len
 have hsl:=hs.lng
 refine pu Tryz.func240 rfl Tryz.ntmps240 rfl rfl fun C=>?_
 (repeat' first|(refine kk ?_;intros)|refine kfk ?_ ?_<;>intro hb|fail)
 refine kfor (ι:=Ks) l (fun j o=>[(0,vS s),(6,vK o),(11,vK l)]) (fun j o=>[]) (fun j o=>KOk o∧kindsG s l []=kindsG s (l.drop j) o) [] ⟨.nil,rfl⟩ ?_ ?_
 ·rintro j ⟨v,k⟩ o hj hdd hjl ⟨ho,hp⟩
  have hrow:((l.map toK).map encK)[j]?=some [.v (.int .i64 (v:Int)),.v (.int .i64 k)]:=by simp [hj,encK]
  have hm:=hl.ok _ (List.mem_of_getElem? hj)
  simp only at hm
  have hstep:kindsG s l []=match kindAdd o (suOf s v) k with|none=>none|some out=>kindsG s (l.drop (j+1)) out:=by rw [hp,hdd];rfl
  (repeat' first|(refine kk ?_;intros)|refine kfk ?_ ?_<;>intro hb|fail)
  refine kpar 10 ?_
  (repeat' first|(refine kk ?_;intros)|refine kfk ?_ ?_<;>intro hb|fail)
  rw [walkP_var,hstep]
  cases he:kindAdd o (suOf s v) k with
  | none=>
   (repeat' first|(refine kk ?_;intros)|refine kfk ?_ ?_<;>intro hb|fail)
   refine kpar 14 ?_
   (repeat' first|(refine kk ?_;intros)|refine kfk ?_ ?_<;>intro hb|fail)
   exact kr2 rvN (rvT rfl)
  | some out=>
   have hok:=kindAdd_ok ho hm.2 (fun w e=>by have:=fit_suOf hs.fit hm.1;rw [e] at this;exact fit_var.1 this) he
   rw [he] at hstep
   (repeat' first|(refine kk ?_;intros)|refine kfk ?_ ?_<;>intro hb|fail)
   refine kpar 14 ?_
   (repeat' first|(refine kk ?_;intros)|refine kfk ?_ ?_<;>intro hb|fail)
   exact ⟨out,⟨hok,rfl⟩,kwk⟩
 ·rintro o ⟨ho,hp⟩
  rw [List.drop_length] at hp
  rw [hp]
  (repeat' first|(refine kk ?_;intros)|refine kfk ?_ ?_<;>intro hb|fail)
  exact kr2 (rvT rfl) (rvT rfl)⟩
instance marks_s:Con2 Tryz.prog 241 Sb Ms vS vM (fun s l=>optM (marksG s l [])) (fun s l=>Sub s∧∃ tags:List ByteArray,tags.length≤10000000∧MB tags l):=⟨fun s l ⟨hs,tags,htl,hl⟩=>by
 have hlen:((l.map toM).map encM).length=l.length:=by simp
 have hl2:=hl.len htl
 have hl1:Lng l.length:=by unfold Lng;omega
 have hsl:=hs.lng
 refine pu Tryz.func241 rfl Tryz.ntmps241 rfl rfl fun C=>?_
 (repeat' first|(refine kk ?_;intros)|refine kfk ?_ ?_<;>intro hb|fail)
 refine kfor (ι:=Ms) l (fun j o=>[(0,vS s),(6,vM o),(11,vM l)]) (fun j o=>[]) (fun j o=>MB tags o∧marksG s l []=marksG s (l.drop j) o) [] ⟨.nil,rfl⟩ ?_ ?_
 ·rintro j ⟨v,g⟩ o hj hdd hjl ⟨ho,hp⟩
  have hrow:((l.map toM).map encM)[j]?=some [.v (.int .i64 (v:Int)),.v (.string g)]:=by simp [hj,encM]
  have hmem:=List.mem_of_getElem? hj
  have hm:=hl.ok.ok _ hmem
  simp only at hm
  have hn:(walkP s (.var v)).nodes≤5000:=by rw [walkP_var];exact (put_some (putO_var hs hm.1)).1
  have p1:MOk o∧o.length≤1099511627776∧(walkP s (.var v)).nodes≤5000:=⟨ho.ok,ho.len htl,hn⟩
  have hstep:marksG s l []=match markAdd o (suOf s v) g with|none=>none|some out=>marksG s (l.drop (j+1)) out:=by rw [hp,hdd];rfl
  (repeat' first|(refine kk ?_;intros)|refine kfk ?_ ?_<;>intro hb|fail)
  refine kpar 10 ?_
  (repeat' first|(refine kk ?_;intros)|refine kfk ?_ ?_<;>intro hb|fail)
  rw [walkP_var,hstep]
  cases he:markAdd o (suOf s v) g with
  | none=>
   (repeat' first|(refine kk ?_;intros)|refine kfk ?_ ?_<;>intro hb|fail)
   refine kpar 14 ?_
   (repeat' first|(refine kk ?_;intros)|refine kfk ?_ ?_<;>intro hb|fail)
   exact kr2 rvN (rvT rfl)
  | some out=>
   have hok:=ho.add hm.2 (hl.tg _ hmem) (fun w e=>(fit_suOf hs.fit hm.1).1 w e) he
   rw [he] at hstep
   (repeat' first|(refine kk ?_;intros)|refine kfk ?_ ?_<;>intro hb|fail)
   refine kpar 14 ?_
   (repeat' first|(refine kk ?_;intros)|refine kfk ?_ ?_<;>intro hb|fail)
   exact ⟨out,⟨hok,rfl⟩,kwk⟩
 ·rintro o ⟨ho,hp⟩
  rw [List.drop_length] at hp
  rw [hp]
  (repeat' first|(refine kk ?_;intros)|refine kfk ?_ ?_<;>intro hb|fail)
  exact kr2 (rvT rfl) (rvT rfl)⟩
end
end Go.Proofs.YtejkllmoofdpjaaGreat
