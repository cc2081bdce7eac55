/- Parts of the proof: V53 V52. -/
import Derived.Test.YtejkllmoofdpjaaGreatD26
namespace Go.Proofs.YtejkllmoofdpjaaGreat
open Go
set_option linter.all false
set_option maxRecDepth 100000
set_option maxHeartbeats 4000000
noncomputable section
open Classical
abbrev zCs:List D:=[.v (.int .i64 0),.v (.slice none 0 0),.v (.slice none 0 0),.v (.slice none 0 0),.v (.slice none 0 0)]
def isN3 (l:Ks):Nat→Option Unit:=fun v=>if (v,3)∈l then some () else none
theorem isN3_nil:upI (isN3 [])=fun _=>none:=by funext x;simp [upI,isN3]
theorem isN3_put {l:Ks} {v:Nat}:putN (isN3 l) v ()=isN3 (l++[(v,3)]):=by
 funext x
 unfold putN isN3
 by_cases h:x=v<;>simp [h]
theorem isN3_other {l:Ks} {v:Nat} {k:Int} (h:¬ k=3):isN3 (l++[(v,k)])=isN3 l:=by
 funext x
 unfold isN3
 have:¬ ((3:Int)=k):=fun e=>h e.symm
 simp [this]
theorem keptM_yes {ks:Ks} {l:Ms} {v:Nat} {g:ByteArray} (h:¬ kGet ks v=some 3):keptM ks (l++[(v,g)])=keptM ks l++[(v,g)]:=by
 unfold keptM;rw [List.filter_append];simp [List.filter,h]
theorem keptM_no {ks:Ks} {l:Ms} {v:Nat} {g:ByteArray} (h:kGet ks v=some 3):keptM ks (l++[(v,g)])=keptM ks l:=by
 unfold keptM;rw [List.filter_append];simp [List.filter,h]
instance settle_i:Con1 Tryz.prog 185 Stt vSt (fun st=>optSt (settleF st)) (fun st=>∃ tags,tags.length≤10000000∧SP tags st):=⟨fun st ⟨tags,htl,hst⟩=>by
 have hpre:=hst.pre
 have hbind:=hpre.bind
 have hkinds:=hpre.kinds
 have hbl:st.bind.length≤1000000:=by have:=hbind.vok.len;omega
 have hmb:=hst.mrk
 have q1:Sub st.bind∧KOk st.kinds:=⟨hbind,hkinds⟩
 have q2:Sub st.bind∧∃ tags:List ByteArray,tags.length≤10000000∧MB tags st.marks:=⟨hbind,tags,htl,hmb⟩
 refine pu Tryz.func185 rfl Tryz.ntmps185 rfl rfl fun C=>?_
 (repeat' first|(refine kk ?_;intros)|refine kfk ?_ ?_<;>intro hb|fail)
 cases hk:kindsG st.bind st.kinds [] with
 | none=>
  rw [settleF_k hk]
  (repeat' first|(refine kk ?_;intros)|refine kfk ?_ ?_<;>intro hb|fail)
  cases hm:marksG st.bind st.marks [] with
  | none=>
   (repeat' first|(refine kk ?_;intros)|refine kfk ?_ ?_<;>intro hb|fail)
   refine kr2 (rvw ?_) (rvV (.refl _))
   (exact wV)
  | some ms=>
   (repeat' first|(refine kk ?_;intros)|refine kfk ?_ ?_<;>intro hb|fail)
   refine kr2 (rvw ?_) (rvV (.refl _))
   (exact wV)
 | some ks=>
  (repeat' first|(refine kk ?_;intros)|refine kfk ?_ ?_<;>intro hb|fail)
  cases hm:marksG st.bind st.marks [] with
  | none=>
   rw [settleF_m hk hm]
   (repeat' first|(refine kk ?_;intros)|refine kfk ?_ ?_<;>intro hb|fail)
   refine kr2 (rvw ?_) (rvV (.refl _))
   (exact wV)
  | some ms=>
   have hks:KOk ks:=kindsG_ok hbind.fit .nil hkinds.ok hk
   have hmsb:MB tags ms:=MB.marks hbind.fit .nil (fun b hb=>⟨hmb.ok.ok b hb,hmb.tg b hb⟩) hm
   (repeat' first|(refine kk ?_;intros)|refine kfk ?_ ?_<;>intro hb|fail)
   refine kmm kvI setv fun mb=>?_
   (repeat' first|(refine kk ?_;intros)|refine kfk ?_ ?_<;>intro hb|fail)
   rename_i b1 b2
   have hkl:((ks.map toK).map encK).length=ks.length:=by simp
   have hkl1:=hks.lng
   have hkl2:=hks.len
   have hml:((ms.map toM).map encM).length=ms.length:=by simp
   have hml2:=hmsb.len htl
   refine kfor (ι:=Unit) ks (fun j _=>[(1,.one (.v (.pointer (some ⟨b1,0,none⟩)))),(2,.one (.v (.pointer (some ⟨b2,0,none⟩)))),(4,vK ks),(6,vM ms),(8,.one (.v (.map (some mb)))),(49,vK ks)]) (fun j _=>[amap kvI mb (gm setv (upI (isN3 (ks.take j)))),abox b2 zCs 53,abox b1 (encStt st) 53]) (fun _ _=>True) () trivial ?_ ?_ (kwk (hs:=by rw [show upI (isN3 (ks.take 0))=fun _=>none from isN3_nil];(exact wS)))
   ·rintro j ⟨v,kd⟩ _ hj hdd hjl _
    have hrow:((ks.map toK).map encK)[j]?=some [.v (.int .i64 (v:Int)),.v (.int .i64 kd)]:=by simp [hj,encK]
    have ht1:ks.take (j+1)=ks.take j++[(v,kd)]:=by rw [List.take_add_one,hj];rfl
    by_cases hkk:kd=3
    ·subst hkk
     (repeat' first|(refine kk ?_;intros)|refine kfk ?_ ?_<;>intro hb|fail)
     refine kmuN 1 (v:=()) ?_
     rw [isN3_put,← ht1]
     (repeat' first|(refine kk ?_;intros)|refine kfk ?_ ?_<;>intro hb|fail)
     exact ⟨(),trivial,kwk⟩
    ·(repeat' first|(refine kk ?_;intros)|refine kfk ?_ ?_<;>intro hb|fail)
     ·refine ⟨(),trivial,?_⟩
      rw [ht1,isN3_other hkk]
      exact kwk
   ·intro _ _
    rw [List.take_length]
    (repeat' first|(refine kkz ?_;intros)|refine kfk ?_ ?_<;>intro hb|fail)
    rename_i u0
    refine kfor (ι:=Value) ms (fun j u=>[(1,.one (.v (.pointer (some ⟨b1,0,none⟩)))),(2,.one (.v (.pointer (some ⟨b2,0,none⟩)))),(4,vK ks),(8,.one (.v (.map (some mb)))),(11,.one (.v u)),(63,vM ms)]) (fun j u=>[arow 189 2 u ((keptM ks (ms.take j)).map eM),amap kvI mb (gm setv (upI (isN3 ks))),abox b2 zCs 53,abox b1 (encStt st) 53]) (fun _ _=>True) u0 trivial ?_ ?_
    ·rintro j ⟨v,g⟩ u hj hdd hjl _
     have hrow:((ms.map toM).map encM)[j]?=some (encM (toM (v,g))):=by simp [hj]
     have ht1:ms.take (j+1)=ms.take j++[(v,g)]:=by rw [List.take_add_one,hj];rfl
     have hle:(keptM ks (ms.take j)).length≤j:=Nat.le_trans (List.length_filter_le _ _) (by simp;omega)
     by_cases h3:kGet ks v=some 3
     ·have f1:upI (isN3 ks) (v:Int)=some ():=by rw [upI_nat];unfold isN3;rw [if_pos (kGet_mem h3)]
      (repeat' first|(refine kk ?_;intros)|refine kfk ?_ ?_<;>intro hb|fail)
      refine ⟨u,trivial,?_⟩
      rw [ht1,keptM_no h3]
      exact kwk
     ·have f1:upI (isN3 ks) (v:Int)=none:=by rw [upI_nat];unfold isN3;rw [if_neg fun h=>h3 (kGet_of_mem hks.asc h)]
      (repeat' first|(refine kk ?_;intros)|refine kfk ?_ ?_<;>intro hb|fail)
      rename_i u1
      refine ⟨u1,trivial,?_⟩
      rw [ht1,keptM_yes h3,List.map_append]
      exact kwk
    ·intro u _
     rw [List.take_length]
     (repeat' first|(refine kkSz [] [79] ?_;intros)|fail)
     refine kfO 0 11 ?_
     (repeat' first|(refine kkz ?_;intros)|refine kfk ?_ ?_<;>intro hb|fail)
     rename_i u2
     generalize hkm:keptM ks ms=km
     have hkmb:MB tags km:=hkm▸hmsb.filter
     have hdl:=hst.dl
     have hdlen:(st.dis.map eS).length=st.dis.length:=by simp
     refine kfor (ι:=Value × List Sb) st.dis (fun j x=>[(1,.one (.v (.pointer (some ⟨b1,0,none⟩)))),(2,.one (.v (.pointer (some ⟨b2,0,none⟩)))),(4,vK ks),(11,vM km),(14,.one (.v x.1)),(81,vSs st.dis)]) (fun j x=>[arow 48 1 x.1 (x.2.map eS),abox b2 zCs 53,abox b1 (encStt st) 53]) (fun j x=>(leftG st.bind ks km st.dis=(leftG st.bind ks km (st.dis.drop j)).map (x.2++·))∧x.2.length≤j) (u2,[]) ⟨by simp,by simp⟩ ?_ ?_ (kwk (h:=⟨.refl _,.refl _,.refl _,.refl _,.refl _,le_eq (by show AV.one (.s 2 (km.map eM))=AV.one (.s 2 ((km.map toM).map encM));rw [List.map_map];rfl),.refl _,.refl _,trivial⟩))
     ·rintro j d ⟨u,L⟩ hj hdd hjl ⟨hL,hLl⟩
      simp only at hL hLl
      dsimp only
      have hd:=hpre.dis d (List.mem_of_getElem? hj)
      have hrow:(st.dis.map eS)[j]?=some (eS d):=by simp [hj]
      have p1:Sub st.bind∧Sub d:=⟨hbind,hd⟩
      rw [hdd] at hL
      (repeat' first|(refine kk ?_;intros)|refine kfk ?_ ?_<;>intro hb|fail)
      have skip:leftG st.bind ks km (d::st.dis.drop (j+1))=leftG st.bind ks km (st.dis.drop (j+1))→∃ s':Value × List Sb,((leftG st.bind ks km st.dis=(leftG st.bind ks km (st.dis.drop (j+1))).map (s'.2++·))∧s'.2.length≤j+1)∧s'=(u,L):=fun e=>⟨(u,L),⟨by rw [hL,e],by simp only;omega⟩,rfl⟩
      cases hjn:join st.bind d with
      | none=>
       (repeat' first|(refine kk ?_;intros)|refine kfk ?_ ?_<;>intro hb|fail)
       obtain ⟨_,h,rfl⟩:=skip (leftG_none hjn)
       exact ⟨_,h,kwk⟩
      | some x=>
       have hx:=join_sub hbind hd hjn
       have p2:Sub x∧KOk ks:=⟨hx,hks⟩
       have p3:Sub x∧∃ tags:List ByteArray,tags.length≤10000000∧MB tags km:=⟨hx,tags,htl,hkmb⟩
       have p4:Sub st.bind∧Sub x:=⟨hbind,hx⟩
       (repeat' first|(refine kk ?_;intros)|refine kfk ?_ ?_<;>intro hb|fail)
       cases hk2:kindsG x ks [] with
       | none=>
        have hsk:=skip (leftG_skip hjn (.inl hk2))
        (repeat' first|(refine kk ?_;intros)|refine kfk ?_ ?_<;>intro hb|fail)
        cases hm2:marksG x km []<;>(repeat' first|(refine kk ?_;intros)|refine kfk ?_ ?_<;>intro hb|fail)<;>(obtain ⟨_,h,rfl⟩:=hsk;exact ⟨_,h,kwk⟩)
       | some ks2=>
        (repeat' first|(refine kk ?_;intros)|refine kfk ?_ ?_<;>intro hb|fail)
        cases hm2:marksG x km [] with
        | none=>
         have hsk:=skip (leftG_skip hjn (.inr hm2))
         (repeat' first|(refine kk ?_;intros)|refine kfk ?_ ?_<;>intro hb|fail)
         obtain ⟨_,h,rfl⟩:=hsk
         exact ⟨_,h,kwk⟩
        | some ms2=>
         have hno:¬ (kindsG x ks []=none∨marksG x km []=none):=by rw [hk2,hm2];simp
         have hnl:=newB_len (s:=st.bind) hx
         have hnlen:(((newB st.bind x).map toB).map encB).length=(newB st.bind x).length:=by simp
         by_cases hn:newB st.bind x=[]
         ·have hn0:(newB st.bind x).length=0:=by rw [hn];rfl
          have hl0:leftG st.bind ks km st.dis=none:=by rw [hL,leftG_stop hjn hno hn];rfl
          rw [settleF_l hk hm (by rw [hkm];exact hl0)]
          (repeat' first|(refine kk ?_;intros)|refine kfk ?_ ?_<;>intro hb|fail)
          refine kr2 (rvw ?_) (rvV (.refl _))
          (exact wV)
         ·have hn0:¬ (newB st.bind x).length=0:=fun h=>hn (List.length_eq_zero_iff.1 h)
          (repeat' first|(refine kk ?_;intros)|refine kfk ?_ ?_<;>intro hb|fail)
          rename_i u3
          refine ⟨(u3,L++[newB st.bind x]),⟨?_,by simp;omega⟩,?_⟩
          ·rw [hL,leftG_more hjn hno hn,Option.map_map]
           congr 1
           funext z;simp
          ·simp only [List.map_append]
           exact kwk
     ·rintro ⟨u,L⟩ ⟨hL,hLl⟩
      rw [List.drop_length] at hL
      simp only at hL hLl
      dsimp only
      have hL2:leftG st.bind ks km st.dis=some L:=by rw [hL];simp [leftG]
      have p5:(∀ d∈L,Sub d)∧L.length≤2000000:=⟨leftG_sub hbind hpre.dis hL2,by omega⟩
      rw [settleF_s hk hm (by rw [hkm];exact hL2),hkm]
      (repeat' first|(refine kkSz [] [128] ?_;intros)|fail)
      refine kfO 0 127 ?_
      have hmlen:((minF L).map eS).length=(minF L).length:=by simp
      by_cases h30:30 < (minF L).length
      ·rw [if_pos h30]
       (repeat' first|(refine kk ?_;intros)|refine kfk ?_ ?_<;>intro hb|fail)
       refine kr2 (rvw ?_) (rvV (.refl _))
       (exact wV)
      ·rw [if_neg h30]
       (repeat' first|(refine kk ?_;intros)|refine kfk ?_ ?_<;>intro hb|fail)
       refine kr2 (rvw ?_) (rvV (.refl _))
       (exact wV)⟩
end
noncomputable section
open Classical
theorem before_of {out:List Sb} {e:Sb} (hs:Strict cSb out) {k:Nat} (h:k=0∨∃ y,out[k - 1]?=some y∧cSb y e=-1):∀ z∈out.take k,cSb e z=1:=fun z hz=>by
 obtain ⟨i,hi⟩:=List.getElem?_of_mem hz
 rw [List.getElem?_take] at hi
 split at hi
 ·rename_i hik
  rcases h with h | ⟨y,hy,hye⟩
  ·omega
  ·have hze:cSb z e=-1:=by
    rcases Nat.lt_or_ge i (k - 1) with h1|h1
    ·exact cSb_tot.trans _ _ _ (asc_get hs hi hy h1) hye
    ·obtain rfl:i=k - 1:=by omega
     rw [hy] at hi;cases hi;exact hye
   rw [cSb_tot.anti,hze];rfl
 ·cases hi
abbrev pM (l:List Sb):Sb→Bool:=fun e=>decide (∀ d∈l,d=e∨¬ moreG d e)
abbrev oS (l:List Sb) (j:Nat):List Sb:=sortU cSb ((l.take j).filter (pM l))
theorem oS_yes {l:List Sb} {j:Nat} {e:Sb} (hj:l[j]?=some e) (h:pM l e=true):oS l (j+1)=insU cSb e (oS l j):=by
 unfold oS
 rw [List.take_add_one,hj,List.filter_append,← sortU_snoc cSb_tot]
 simp [List.filter,h]
theorem oS_no {l:List Sb} {j:Nat} {e:Sb} (hj:l[j]?=some e) (h:¬ pM l e=true):oS l (j+1)=oS l j:=by
 unfold oS
 rw [List.take_add_one,hj,List.filter_append]
 simp [List.filter,h]
theorem oS_len {l:List Sb}:∀ j,(oS l j).length≤j
 | 0=>by simp [oS,sortU]
 | j+1=>by
  have:=oS_len (l:=l) j
  cases hj:l[j]? with
  | none=>unfold oS at this ⊢;rw [List.take_add_one,hj];simp at this ⊢;omega
  | some e=>
   by_cases h:pM l e=true
   ·rw [oS_yes hj h]
    have:=len_insU (c:=cSb) (x:=e) (l:=oS l j)
    omega
   ·rw [oS_no hj h];omega
theorem oS_mem {l:List Sb} {j:Nat} {e:Sb} (h:e∈oS l j):e∈l:=List.mem_of_mem_take (List.mem_filter.1 ((mem_sortU cSb_tot).1 h)).1
instance minimal_s:Con1 Tryz.prog 246 (List Sb) vSs (fun l=>vSs (minF l)) (fun l=>(∀ d∈l,Sub d)∧l.length≤2000000):=⟨fun l ⟨hs,hl⟩=>by
 have hlen:(l.map eS).length=l.length:=by simp
 have hlg:Lng l.length:=by unfold Lng;omega
 have hll:∀ d∈l,d.length≤1000000:=fun d hd=>by have:=(hs d hd).vok.len;omega
 refine pu Tryz.func246 rfl Tryz.ntmps246 rfl rfl fun C=>?_
 (repeat' first|(refine kk ?_;intros)|refine kfk ?_ ?_<;>intro hb|fail)
 refine kfor (ι:=List Sb) l (fun j o=>[(0,vSs l),(3,vSs o),(12,vSs l)]) (fun j o=>[]) (fun j o=>o=oS l j) [] (by simp [oS,sortU]) ?_ ?_
 ·rintro j e o hj hdd hjl ho
  have hrow:(l.map eS)[j]?=some (eS e):=by simp [hj]
  have he:=hs e (List.mem_of_getElem? hj)
  have hel:=hll e (List.mem_of_getElem? hj)
  (repeat' first|(refine kk ?_;intros)|refine kfk ?_ ?_<;>intro hb|fail)
  refine kfor (ι:=Bool) l (fun i k=>[(0,vSs l),(3,vSs o),(5,vS e),(6,bv k),(12,vSs l),(13,nv l.length),(14,nv j),(18,vSs l)]) (fun _ _=>[]) (fun i k=>k=true↔∀ d∈l.take i,d=e∨¬ moreG d e) true (by simp) ?_ ?_
  ·rintro i d k hi hid hil hk
   have hrow3:(l.map eS)[i]?=some (eS d):=by simp [hi]
   have hd:=hs d (List.mem_of_getElem? hi)
   have hdl:d.length≤1000000∧e.length≤1000000:=⟨hll d (List.mem_of_getElem? hi),hel⟩
   have hde:Sub d∧Sub e:=⟨hd,he⟩
   have ht1:∀ {q:Sb→Prop},(∀ x∈l.take (i+1),q x)↔(∀ x∈l.take i,q x)∧q d:=fun {q}=>by
    rw [List.take_add_one,hi]
    simp only [Option.toList_some,List.mem_append,List.mem_singleton]
    exact ⟨fun h=>⟨fun x hx=>h x (.inl hx),h d (.inr rfl)⟩,fun h x hx=>hx.elim (h.1 x) fun e=>e▸h.2⟩
   cases k with
   | false=>
    have hk':¬ ∀ d∈l.take i,d=e∨¬ moreG d e:=fun h=>by have:=hk.2 h;cases this
    (repeat' first|(refine kk ?_;intros)|refine kfk ?_ ?_<;>intro hb|fail)
    exact ⟨false,by rw [ht1];simp only [Bool.false_eq_true,false_iff];exact fun h=>hk' h.1,kwk⟩
   | true=>
    have hk':=hk.1 rfl
    by_cases hq:d=e
    ·have hz:cSb d e=0:=(cSb_tot.eq _ _).2 hq
     (repeat' first|(refine kk ?_;intros)|refine kfk ?_ ?_<;>intro hb|fail)
     exact ⟨true,by rw [ht1];simp only [true_iff];exact ⟨hk',.inl hq⟩,kwk⟩
    ·have hz:¬ cSb d e=0:=fun h=>hq ((cSb_tot.eq _ _).1 h)
     (repeat' first|(refine kk ?_;intros)|refine kfk ?_ ?_<;>intro hb|fail)
     exact ⟨!decide (moreG d e),by rw [ht1];simp only [Bool.not_eq_true',decide_eq_false_iff_not];exact ⟨fun h=>⟨hk',.inr h⟩,fun h=>h.2.resolve_left hq⟩,kwk⟩
  ·rintro k hk
   rw [List.take_length] at hk
   have hkp:k=pM l e:=by
    cases hpm:pM l e with
    | true=>exact hk.2 (of_decide_eq_true hpm)
    | false=>
     cases k with
     | false=>rfl
     | true=>exact absurd (decide_eq_true (hk.1 rfl)) (by rw [show decide (∀ d∈l,d=e∨¬ moreG d e)=pM l e from rfl,hpm];simp)
   subst ho
   have hos:Strict cSb (oS l j):=strict_sortU cSb_tot
   have hol:=oS_len (l:=l) j
   have hoin:∀ y∈oS l j,y.length≤1000000:=fun y hy=>hll y (oS_mem hy)
   generalize hO:oS l j=o at hos hol hoin ⊢
   have holen:(o.map eS).length=o.length:=by simp
   (repeat' first|(refine kk ?_;intros)|refine kfk ?_ ?_<;>intro hb|fail)
   refine kloop (ι:=Nat) (fun q=>q) (fun q=>[(0,vSs l),(3,vSs o),(5,vS e),(6,bv k),(9,nv q),(12,vSs l),(13,nv l.length),(14,nv j)]) (fun _=>[]) (fun q=>q≤o.length∧∀ y∈o.drop q,cSb y e≠-1) o.length ⟨Nat.le_refl _,by simp⟩ ?_
   rintro q ⟨h1,h2⟩
   have hfin:∀ o',o'=(if k=true then insU cSb e o else o)→o'=oS l (j+1):=fun o' ho'=>by
    rw [ho']
    by_cases hkt:k=true
    ·rw [if_pos hkt,oS_yes hj (by rw [← hkp];exact hkt),hO]
    ·rw [if_neg hkt,oS_no hj (by rw [← hkp];exact hkt),hO]
   have key:(∀ z∈o.take q,cSb e z=1)→(∀ z,o[q]?=some z→cSb e z=-1)→(((o.take q).map eS++[eS e])++(o.drop q).map eS)=(insU cSb e o).map eS:=fun g0 g1=>by
    rw [insU_put h1 g0 g1];simp
   have hcs:(0 < q∧∃ y,o[q - 1]?=some y∧¬ cSb y e=-1)∨(q=0∨(0 < q∧∃ y,o[q - 1]?=some y∧cSb y e=-1)):=by
    by_cases h0:q=0
    ·exact .inr (.inl h0)
    ·obtain ⟨y,hy⟩:∃ y,o[q - 1]?=some y:=⟨o[q - 1]'(by omega),List.getElem?_eq_getElem (by omega)⟩
     by_cases hye:cSb y e=-1
     ·exact .inr (.inr ⟨by omega,y,hy,hye⟩)
     ·exact .inl ⟨by omega,y,hy,hye⟩
   rcases hcs with ⟨h0,y,hy,hye⟩|hst
   ·have hrow4:(o.map eS)[q - 1]?=some (eS y):=by simp [hy]
    have hyl:=hoin y (List.mem_of_getElem? hy)
    have hge:0≤cSb y e:=by rcases cSb_tot.val y e with h|h|h<;>omega
    (repeat' first|(refine kk ?_;intros)|refine kfk ?_ ?_<;>intro hb|fail)
    refine ⟨q - 1,by omega,⟨by omega,fun z hz=>?_⟩,kwk⟩
    rw [List.drop_eq_getElem_cons (by omega),show q - 1+1=q by omega] at hz
    rcases List.mem_cons.1 hz with rfl|hz
    ·rw [(List.getElem?_eq_some_iff.1 hy).2];exact hye
    ·exact h2 z hz
   ·have hbf:=before_of hos (k:=q) (e:=e) (hst.imp id fun ⟨_,y,hy,hye⟩=>⟨y,hy,hye⟩)
    rcases hst with h0 | ⟨h0,y,hy,hye⟩
    rotate_left
    have hrow4:(o.map eS)[q - 1]?=some (eS y):=by simp [hy]
    have hyl:=hoin y (List.mem_of_getElem? hy)
    have hge:¬ 0≤cSb y e:=by omega
    rotate_left
    all_goals
     cases k with
     | false=>
      (repeat' first|(refine kk ?_;intros)|refine kfk ?_ ?_<;>intro hb|fail)
      exact ⟨o,hfin o (by simp),kwk⟩
     | true=>
      by_cases hql:q < o.length
      ·obtain ⟨z,hz⟩:∃ z,o[q]?=some z:=⟨o[q],List.getElem?_eq_getElem hql⟩
       have hrow5:(o.map eS)[q]?=some (eS z):=by simp [hz]
       have hzl:=hoin z (List.mem_of_getElem? hz)
       have hzm:z∈o.drop q:=by rw [List.drop_eq_getElem_cons hql];exact List.mem_cons.2 (.inl (List.getElem?_eq_some_iff.1 hz).2.symm)
       have hzn:=h2 z hzm
       by_cases hz0:cSb z e=0
       ·(repeat' first|(refine kk ?_;intros)|refine kfk ?_ ?_<;>intro hb|fail)
        exact ⟨o,hfin o (by rw [if_pos rfl,insU_same hbf hz (by rw [cSb_tot.anti,hz0];rfl)]),kwk⟩
       ·have hz1:cSb e z=-1:=by
         rw [cSb_tot.anti]
         rcases cSb_tot.val z e with h|h|h<;>omega
        (repeat' first|(refine kkSz [] [3] ?_;intros)|refine kfS [] [3] ?_ ?_<;>intro hb|fail)
        refine kfO 0 83 ?_
        (repeat' first|(refine kk ?_;intros)|refine kfk ?_ ?_<;>intro hb|fail)
        refine ⟨insU cSb e o,hfin _ (by rw [if_pos rfl]),kwk (h:=⟨.refl _,.refl _,.refl _,le_eq ?_,.refl _,trivial⟩)⟩
        show AV.one (.s 1 _)=AV.one (.s 1 _)
        rw [← key hbf fun y hy'=>by rw [hz] at hy';cases hy';exact hz1]
        simp
      ·obtain rfl:q=o.length:=by omega
       (repeat' first|(refine kkSz [] [3] ?_;intros)|refine kfS [] [3] ?_ ?_<;>intro hb|fail)
       refine kfO 0 83 ?_
       (repeat' first|(refine kk ?_;intros)|refine kfk ?_ ?_<;>intro hb|fail)
       refine ⟨insU cSb e o,hfin _ (by rw [if_pos rfl]),kwk (h:=⟨.refl _,.refl _,.refl _,le_eq ?_,.refl _,trivial⟩)⟩
       show AV.one (.s 1 _)=AV.one (.s 1 _)
       rw [← key hbf fun y hy'=>by simp at hy']
       have e1:List.take o.length (List.map eS o)=List.map eS o:=List.take_of_length_le (by simp)
       have e2:List.drop o.length (List.map eS o)=[]:=List.drop_of_length_le (by simp)
       simp [e1,e2]
 ·rintro o ho
  have hm:o=minF l:=by rw [ho];unfold oS;rw [List.take_length];rfl
  subst hm
  (repeat' first|(refine kk ?_;intros)|refine kfk ?_ ?_<;>intro hb|fail)
  exact kret rfl⟩
end
end Go.Proofs.YtejkllmoofdpjaaGreat
