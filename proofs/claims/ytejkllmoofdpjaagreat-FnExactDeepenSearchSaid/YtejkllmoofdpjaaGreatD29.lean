/- Parts of the proof: V54 V56 V57 V55. -/
import Derived.Test.YtejkllmoofdpjaaGreatD28
import Derived.Test.YtejkllmoofdpjaaGreatD27
namespace Go.Proofs.YtejkllmoofdpjaaGreat
open Go
set_option linter.all false
set_option maxRecDepth 100000
set_option maxHeartbeats 4000000
noncomputable section
open Classical
theorem kfbG {P:Program} {C:Cx} {f:AF} {A B:List Atm} {b sz:Nat} {ds ds':List D} {T e:TypeId} {u:Value} {rows:List (List D)} {n:Nat} {ops:Array Oper} {K:AF→List Atm→Prop} {rest:List Oper} (hA:A.Perm (abox b ds T::(B++[arow e sz u rows]))) (hv:VwC [arow e sz u rows] ds ds') (k:AO P n C ops K rest f (abox b ds' T::B)):AO P n C ops K rest f A:=
 fun gf w hi=>k gf w (hi.fbox hA hv)
def settleR (st:Stt):Stt × Bool:=match kindsG st.bind st.kinds [],marksG st.bind st.marks [] with
 | some ks,some ms=>match leftG st.bind ks (keptM ks ms) st.dis with
  | none=>(zSt,false)
  | some left=>(⟨st.next,st.bind,minF left,ks,keptM ks ms⟩,decide ((minF left).length≤30))
 | _,_=>(zSt,false)
theorem settleR_F {st:Stt}:settleF st=if (settleR st).2=true then some (settleR st).1 else none:=by
 unfold settleF settleR
 cases kindsG st.bind st.kinds [] with
 | none=>simp
 | some ks=>
  cases marksG st.bind st.marks [] with
  | none=>simp
  | some ms=>
   simp only
   cases leftG st.bind ks (keptM ks ms) st.dis with
   | none=>simp
   | some left=>
    simp only
    by_cases h:30 < (minF left).length
    ·rw [if_pos h,if_neg (by simp;omega)]
    ·rw [if_neg h,if_pos (by simp;omega)]
theorem settleR_k {st:Stt} (h:kindsG st.bind st.kinds []=none):settleR st=(zSt,false):=by unfold settleR;rw [h]
theorem settleR_m {st:Stt} {ks:Ks} (h:kindsG st.bind st.kinds []=some ks) (h2:marksG st.bind st.marks []=none):settleR st=(zSt,false):=by unfold settleR;rw [h,h2]
theorem settleR_l {st:Stt} {ks:Ks} {ms:Ms} (h:kindsG st.bind st.kinds []=some ks) (h2:marksG st.bind st.marks []=some ms) (h3:leftG st.bind ks (keptM ks ms) st.dis=none):settleR st=(zSt,false):=by unfold settleR;rw [h,h2];simp only;rw [h3]
theorem settleR_s {st:Stt} {ks:Ks} {ms:Ms} {left:List Sb} (h:kindsG st.bind st.kinds []=some ks) (h2:marksG st.bind st.marks []=some ms) (h3:leftG st.bind ks (keptM ks ms) st.dis=some left):settleR st=(⟨st.next,st.bind,minF left,ks,keptM ks ms⟩,decide ((minF left).length≤30)):=by unfold settleR;rw [h,h2];simp only;rw [h3]
abbrev resSt (r:Stt × Bool):AV:=.tup [vSt r.1,bv r.2]
instance settle_s:Con1 Tryz.prog 193 Stt vSt (fun st=>resSt (settleR st)) (fun st=>∃ tags,tags.length≤10000000∧SP tags st):=⟨fun st ⟨tags,htl,hst⟩=>by
 have hpre:=hst.pre
 have hbind:=hpre.bind
 have hkinds:=hpre.kinds
 have hbl:st.bind.length≤1000000:=by have:=hbind.vok.len;omega
 have hmb:=hst.mrk
 have q1:Sub st.bind∧KOk st.kinds:=⟨hbind,hkinds⟩
 have q2:Sub st.bind∧∃ tags:List ByteArray,tags.length≤10000000∧MB tags st.marks:=⟨hbind,tags,htl,hmb⟩
 refine pu Tryz.func193 rfl Tryz.ntmps193 rfl rfl fun C=>?_
 (repeat' first|(refine kk ?_;intros)|refine kfk ?_ ?_<;>intro hb|fail)
 cases hk:kindsG st.bind st.kinds [] with
 | none=>
  rw [settleR_k hk]
  (repeat' first|(refine kk ?_;intros)|refine kfk ?_ ?_<;>intro hb|fail)
  cases hm:marksG st.bind st.marks [] with
  | none=>
   (repeat' first|(refine kk ?_;intros)|refine kfk ?_ ?_<;>intro hb|fail)
   refine kr2 (rvw ?_) (rvV (.refl _))
   (exact wV)
  | some ms=>
   (repeat' first|(refine kk ?_;intros)|refine kfk ?_ ?_<;>intro hb|fail)
   refine kr2 (rvw ?_) (rvV (.refl _))
   (exact wV)
 | some ks=>
  (repeat' first|(refine kk ?_;intros)|refine kfk ?_ ?_<;>intro hb|fail)
  cases hm:marksG st.bind st.marks [] with
  | none=>
   rw [settleR_m hk hm]
   (repeat' first|(refine kk ?_;intros)|refine kfk ?_ ?_<;>intro hb|fail)
   refine kr2 (rvw ?_) (rvV (.refl _))
   (exact wV)
  | some ms=>
   have hks:KOk ks:=kindsG_ok hbind.fit .nil hkinds.ok hk
   have hmsb:MB tags ms:=MB.marks hbind.fit .nil (fun b hb=>⟨hmb.ok.ok b hb,hmb.tg b hb⟩) hm
   (repeat' first|(refine kk ?_;intros)|refine kfk ?_ ?_<;>intro hb|fail)
   rename_i b1 b2 b8
   have hml:((ms.map toM).map encM).length=ms.length:=by simp
   have hml2:=hmsb.len htl
   refine knA 189 2 ?_
   refine kfor (ι:=Value) ms (fun j u=>[(1,.one (.v (.pointer (some ⟨b1,0,none⟩)))),(2,.one (.v (.pointer (some ⟨b2,0,none⟩)))),(4,vK ks),(5,bv true),(7,bv true),(8,.one (.v (.pointer (some ⟨b8,0,none⟩)))),(48,vM ms)]) (fun j u=>[arow 189 2 u ((keptM ks (ms.take j)).map eM),abox b8 [.v (.int .i64 (st.next:Int)),.s 5 ((st.bind.map toB).map encB),.v (.slice none 0 0),.s 2 ((ks.map toK).map encK),.v u] 53,abox b2 zCs 53,abox b1 (encStt st) 53]) (fun _ _=>True) (.slice none 0 0) trivial ?_ ?_
   ·rintro j ⟨v,g⟩ u hj hdd hjl _
    have hrow:((ms.map toM).map encM)[j]?=some (encM (toM (v,g))):=by simp [hj]
    have ht1:ms.take (j+1)=ms.take j++[(v,g)]:=by rw [List.take_add_one,hj];rfl
    have hle:(keptM ks (ms.take j)).length≤j:=Nat.le_trans (List.length_filter_le _ _) (by simp;omega)
    by_cases h3:kGet ks v=some 3
    ·have hw:(kindAdd ks (.var v) 2).isSome=false:=by rw [kindAdd_old h3];rfl
     (repeat' first|(refine kk ?_;intros)|refine kfk ?_ ?_<;>intro hb|fail)
     ·exact nomatch (hb.symm.trans hw)
     ·refine ⟨u,trivial,?_⟩
      rw [ht1,keptM_no h3]
      exact kwk
    ·have hw:(kindAdd ks (.var v) 2).isSome=true:=by
      cases hg:kGet ks v with
      | none=>rw [kindAdd_new hg];rfl
      | some k'=>
       have hk2:k'=2:=by
        rcases (hks.ok _ (kGet_mem hg)).2 with h|h
        ·exact h
        ·exact absurd (by rw [hg];congr 1) h3
       rw [kindAdd_old hg,hk2];rfl
     (repeat' first|(refine kk ?_;intros)|refine kfk ?_ ?_<;>intro hb|fail)
     ·rename_i u1
      refine ⟨u1,trivial,?_⟩
      rw [ht1,keptM_yes h3,List.map_append]
      exact kwk
     ·exact nomatch (hb.symm.trans hw)
   ·intro u _
    rw [List.take_length]
    (repeat' first|(refine kkSz [] [70] ?_;intros)|fail)
    have hkme:(keptM ks ms).map eM=((keptM ks ms).map toM).map encM:=by rw [List.map_map];rfl
    rw [hkme]
    refine kfbG (B:=[abox b2 zCs 53,abox b1 (encStt st) 53]) (List.perm_append_comm (l₁:=[_]) (l₂:=[_,_,_])) (VwC.cons (VwD.refl _) (VwC.cons (VwD.refl _) (VwC.cons (VwD.refl _) (VwC.cons (VwD.refl _) (VwC.cons (VwD.row (List.mem_singleton.2 rfl) rfl) VwC.nil))))) ?_
    (repeat' first|(refine kkz ?_;intros)|refine kfk ?_ ?_<;>intro hb|fail)
    rename_i u2
    generalize hkm:keptM ks ms=km
    have hkmb:MB tags km:=hkm▸hmsb.filter
    have hdl:=hst.dl
    have hdlen:(st.dis.map eS).length=st.dis.length:=by simp
    refine kfor (ι:=Value × List Sb) st.dis (fun j x=>[(1,.one (.v (.pointer (some ⟨b1,0,none⟩)))),(2,.one (.v (.pointer (some ⟨b2,0,none⟩)))),(5,bv true),(7,bv true),(8,.one (.v (.pointer (some ⟨b8,0,none⟩)))),(13,.one (.v x.1)),(72,vSs st.dis)]) (fun j x=>[arow 48 1 x.1 (x.2.map eS),abox b8 [.v (.int .i64 (st.next:Int)),.s 5 ((st.bind.map toB).map encB),.v (.slice none 0 0),.s 2 ((ks.map toK).map encK),.s 2 ((km.map toM).map encM)] 53,abox b2 zCs 53,abox b1 (encStt st) 53]) (fun j x=>(leftG st.bind ks km st.dis=(leftG st.bind ks km (st.dis.drop j)).map (x.2++·))∧x.2.length≤j) (u2,[]) ⟨by simp,by simp⟩ ?_ ?_
    ·rintro j d ⟨u,L⟩ hj hdd hjl ⟨hL,hLl⟩
     simp only at hL hLl
     dsimp only
     have hd:=hpre.dis d (List.mem_of_getElem? hj)
     have hrow:(st.dis.map eS)[j]?=some (eS d):=by simp [hj]
     have p1:SubF st.bind∧FitS d∧d.length≤1000000:=⟨⟨hbind.sok,hbind.sbfit⟩,hd.sbfit,by have:=hd.vok.len;omega⟩
     rw [hdd] at hL
     (repeat' first|(refine kk ?_;intros)|refine kfk ?_ ?_<;>intro hb|fail)
     have skip:leftG st.bind ks km (d::st.dis.drop (j+1))=leftG st.bind ks km (st.dis.drop (j+1))→∃ s':Value × List Sb,((leftG st.bind ks km st.dis=(leftG st.bind ks km (st.dis.drop (j+1))).map (s'.2++·))∧s'.2.length≤j+1)∧s'=(u,L):=fun e=>⟨(u,L),⟨by rw [hL,e],by simp only;omega⟩,rfl⟩
     cases hjn:join st.bind d with
     | none=>
      (repeat' first|(refine kk ?_;intros)|refine kfk ?_ ?_<;>intro hb|fail)
      obtain ⟨_,h,rfl⟩:=skip (leftG_none hjn)
      exact ⟨_,h,kwk⟩
     | some x=>
      have hx:=join_sub hbind hd hjn
      have p2:Sub x∧KOk ks:=⟨hx,hks⟩
      have p3:Sub x∧∃ tags:List ByteArray,tags.length≤10000000∧MB tags km:=⟨hx,tags,htl,hkmb⟩
      have p4:Lng st.bind.length∧x.length≤1000000:=⟨hbind.lng,by have:=hx.vok.len;omega⟩
      (repeat' first|(refine kk ?_;intros)|refine kfk ?_ ?_<;>intro hb|fail)
      cases hk2:kindsG x ks [] with
      | none=>
       have hsk:=skip (leftG_skip hjn (.inl hk2))
       (repeat' first|(refine kk ?_;intros)|refine kfk ?_ ?_<;>intro hb|fail)
       cases hm2:marksG x km []<;>(repeat' first|(refine kk ?_;intros)|refine kfk ?_ ?_<;>intro hb|fail)<;>(obtain ⟨_,h,rfl⟩:=hsk;exact ⟨_,h,kwk⟩)
      | some ks2=>
       (repeat' first|(refine kk ?_;intros)|refine kfk ?_ ?_<;>intro hb|fail)
       cases hm2:marksG x km [] with
       | none=>
        have hsk:=skip (leftG_skip hjn (.inr hm2))
        (repeat' first|(refine kk ?_;intros)|refine kfk ?_ ?_<;>intro hb|fail)
        obtain ⟨_,h,rfl⟩:=hsk
        exact ⟨_,h,kwk⟩
       | some ms2=>
        have hno:¬ (kindsG x ks []=none∨marksG x km []=none):=by rw [hk2,hm2];simp
        have hnl:=newB_len (s:=st.bind) hx
        have hnlen:(((newB st.bind x).map toB).map encB).length=(newB st.bind x).length:=by simp
        by_cases hn:newB st.bind x=[]
        ·have hn0:(newB st.bind x).length=0:=by rw [hn];rfl
         have hl0:leftG st.bind ks km st.dis=none:=by rw [hL,leftG_stop hjn hno hn];rfl
         rw [settleR_l hk hm (by rw [hkm];exact hl0)]
         (repeat' first|(refine kk ?_;intros)|refine kfk ?_ ?_<;>intro hb|fail)
         refine kr2 (rvw ?_) (rvV (.refl _))
         (exact wV)
        ·have hn0:¬ (newB st.bind x).length=0:=fun h=>hn (List.length_eq_zero_iff.1 h)
         (repeat' first|(refine kk ?_;intros)|refine kfk ?_ ?_<;>intro hb|fail)
         rename_i u3
         refine ⟨(u3,L++[newB st.bind x]),⟨?_,by simp;omega⟩,?_⟩
         ·rw [hL,leftG_more hjn hno hn,Option.map_map]
          congr 1
          funext z;simp
         ·simp only [List.map_append]
          exact kwk
    ·rintro ⟨u,L⟩ ⟨hL,hLl⟩
     rw [List.drop_length] at hL
     simp only at hL hLl
     dsimp only
     have hL2:leftG st.bind ks km st.dis=some L:=by rw [hL];simp [leftG]
     have p5:(∀ d∈L,Sub d)∧L.length≤2000000:=⟨leftG_sub hbind hpre.dis hL2,by omega⟩
     rw [settleR_s hk hm (by rw [hkm];exact hL2),hkm]
     (repeat' first|(refine kkSz [] [124] ?_;intros)|fail)
     refine kfO 0 123 ?_
     have hmlen:((minF L).map eS).length=(minF L).length:=by simp
     (repeat' first|(refine kk ?_;intros)|refine kfk ?_ ?_<;>intro hb|fail)
     refine kmix 7 [0,1,2,3,4] [5,6] [abox b8 [.v (.int .i64 (st.next:Int)),.s 5 ((st.bind.map toB).map encB),.s 1 ((minF L).map eS),.s 2 ((ks.map toK).map encK),.s 2 ((km.map toM).map encM)] 53] ?_
     (repeat (refine kkc ?_))
     (repeat' first|(refine kk ?_;intros)|refine kfk ?_ ?_<;>intro hb|fail)
     refine kr2 (rvw ?_) (rvV (VwA.eq (a:=bv (decide (((minF L).length:Int)≤30))) (.refl _) (congrArg bv (decide_eq_decide.2 (show ((minF L).length:Int)≤30↔(minF L).length≤30 by omega)))))
     (exact wV)⟩
end
noncomputable section
open Classical
theorem aoB {P:Program} {n:Nat} {C:Cx} {ops:Array Oper} {K:AF→List Atm→Prop} {rest:List Oper} {f:AF} {A:List Atm} (A':List Atm) (h:A=A') (k:AO P n C ops K rest f A'):AO P n C ops K rest f A:=h▸k
theorem perm_5 {a b c d e g:Atm}:[a,b,c,d,e,g].Perm (b::([c,d,e,g]++[a])):=List.perm_append_comm (l₁:=[a]) (l₂:=[b,c,d,e,g])
def addR (st:Stt) (k:Int) (a b:T) (kd:Int) (g:ByteArray):Stt × Bool:=
 if k=0 then match mg (eqs st.bind [(a,b)]) with
  | none=>(zSt,false)
  | some x=>settleR ⟨st.next,x,st.dis,st.kinds,st.marks⟩
 else if k=1 then match mg (eqs st.bind [(a,b)]) with
  | none=>settleR st
  | some x=>if newB st.bind x=[] then (zSt,false) else settleR ⟨st.next,st.bind,st.dis++[newB st.bind x],st.kinds,st.marks⟩
 else match putO st.bind a with
  | none=>(zSt,false)
  | some x=>if k=2 then match kindAdd st.kinds x kd with
   | none=>(zSt,false)
   | some ks=>settleR ⟨st.next,st.bind,st.dis,ks,st.marks⟩
   else match markAdd st.marks x g with
    | none=>(zSt,false)
    | some ms=>settleR ⟨st.next,st.bind,st.dis,st.kinds,ms⟩
structure AP (tags:List ByteArray) (st:Stt) (k:Int) (a b:T) (kd:Int) (g:ByteArray):Prop where
 sp:SP tags st
 dl:st.dis.length≤900000
 ha:a.okT
 hb:b.okT
 hk:k=0∨k=1∨(k=2∧(kd=2∨kd=3))∨(k=3∧NameP g∧g∈tags)
theorem applyYes_s:Con2 Tryz.prog 258 Sb T vS vT (fun s t=>.tup [vT (t.sub (suOf s)),bv true]) (fun s t=>(Lng s.length∧(t.sub (suOf s)).fit)∧(t.sub (suOf s)).nodes≤5000):=⟨fun s t h=>by
 have h1:=apply_s.h s t h.1
 rwa [show bp ((t.sub (suOf s)).nodes≤5000)=bv true from (bpT h.2).symm] at h1⟩
theorem applyNo_s:Con2 Tryz.prog 258 Sb T vS vT (fun s t=>.tup [vT (t.sub (suOf s)),bv false]) (fun s t=>(Lng s.length∧(t.sub (suOf s)).fit)∧¬ (t.sub (suOf s)).nodes≤5000):=⟨fun s t h=>by
 have h1:=apply_s.h s t h.1
 rwa [show bp ((t.sub (suOf s)).nodes≤5000)=bv false from (bpF h.2).symm] at h1⟩
instance add_s:Con6 Tryz.prog 213 Stt Int T T Int ByteArray vSt iv vT vT iv sv (fun st k a b kd g=>resSt (addR st k a b kd g)) (fun st k a b kd g=>∃ tags,tags.length≤10000000∧AP tags st k a b kd g):=⟨fun st k a b kd g ⟨tags,htl,hr⟩=>by
 have hsp:=hr.sp
 have hpre:=hsp.pre
 have hbind:=hpre.bind
 have hdl:=hr.dl
 have ha:=hr.ha
 have hb0:=hr.hb
 have hdlen:(st.dis.map eS).length=st.dis.length:=by simp
 refine pu Tryz.func213 rfl Tryz.ntmps213 rfl rfl fun C=>?_
 rcases hr.hk with rfl|rfl | ⟨rfl,hkd⟩ | ⟨rfl,hg,hgt⟩
 ·have p1:SubF st.bind∧a.fit∧b.fit:=⟨⟨hbind.sok,hbind.sbfit⟩,ha.fit,hb0.fit⟩
  have hv:addR st 0 a b kd g=match mg (eqs st.bind [(a,b)]) with|none=>(zSt,false)|some x=>settleR ⟨st.next,x,st.dis,st.kinds,st.marks⟩:=if_pos rfl
  (repeat' first|(refine kk ?_;intros)|refine kfk ?_ ?_<;>intro hb|fail)
  rename_i b6 b8 b9 b12 b14
  cases hm:mg (eqs st.bind [(a,b)]) with
  | none=>
   rw [hm] at hv
   rw [hv]
   (repeat' first|(refine kk ?_;intros)|refine kfk ?_ ?_<;>intro hb|fail)
   refine kr2 (rvw ?_) (rvV (.refl _))
   (exact wV)
  | some x=>
   have hv2:addR st 0 a b kd g=settleR ⟨st.next,x,st.dis,st.kinds,st.marks⟩:=by rw [hm] at hv;exact hv
   rw [hv2]
   have hx:Sub x:=mg_sub hbind (l:=[(a,b)]) (by simpa using ⟨ha.fit,hb0.fit⟩) hm
   have hsp2:∃ tags,tags.length≤10000000∧SP tags ⟨st.next,x,st.dis,st.kinds,st.marks⟩:=⟨tags,htl,⟨⟨hx,hpre.dis,hpre.kinds,hpre.marks⟩,hsp.mrk,hsp.dl,hsp.nx⟩⟩
   (repeat' first|(refine kkS [] [88] ?_;intros)|fail)
   refine aoB [abox b14 (encStt (⟨st.next,x,st.dis,st.kinds,st.marks⟩:Stt)) 53,abox b12 zCs 53,abox b9 (encT b.tm) 174,abox b8 (encT a.tm) 174,abox b6 (encStt st) 53] (by rfl) ?_
   generalize (⟨st.next,x,st.dis,st.kinds,st.marks⟩:Stt)=s2 at hsp2 ⊢
   (repeat' first|(refine kk ?_;intros)|refine kfk ?_ ?_<;>intro hb|fail)
   refine kr2 (rvw ?_) (rvV (.refl _))
   (exact wV)
 ·have p1:SubF st.bind∧a.fit∧b.fit:=⟨⟨hbind.sok,hbind.sbfit⟩,ha.fit,hb0.fit⟩
  have hv:addR st 1 a b kd g=match mg (eqs st.bind [(a,b)]) with|none=>settleR st|some x=>if newB st.bind x=[] then (zSt,false) else settleR ⟨st.next,st.bind,st.dis++[newB st.bind x],st.kinds,st.marks⟩:=(if_neg (by decide)).trans (if_pos rfl)
  (repeat' first|(refine kk ?_;intros)|refine kfk ?_ ?_<;>intro hb|fail)
  rename_i b6 b8 b9 b12 b14
  cases hm:mg (eqs st.bind [(a,b)]) with
  | none=>
   have hv2:addR st 1 a b kd g=settleR st:=by rw [hm] at hv;exact hv
   rw [hv2]
   have hsp2:∃ tags,tags.length≤10000000∧SP tags st:=⟨tags,htl,hsp⟩
   (repeat' first|(refine kkS [] [88] ?_;intros)|fail)
   refine aoB [abox b14 (encStt st) 53,abox b12 zCs 53,abox b9 (encT b.tm) 174,abox b8 (encT a.tm) 174,abox b6 (encStt st) 53] (by rfl) ?_
   (repeat' first|(refine kk ?_;intros)|refine kfk ?_ ?_<;>intro hb|fail)
   refine kr2 (rvw ?_) (rvV (.refl _))
   (exact wV)
  | some x=>
   rw [hm] at hv
   have hx:Sub x:=mg_sub hbind (l:=[(a,b)]) (by simpa using ⟨ha.fit,hb0.fit⟩) hm
   have p2:Lng st.bind.length∧x.length≤1000000:=⟨hbind.lng,by have:=hx.vok.len;omega⟩
   have hnl:=newB_len (s:=st.bind) hx
   have hxn:Sub (newB st.bind x):=hx.filter
   have hnlen:(((newB st.bind x).map toB).map encB).length=(newB st.bind x).length:=by simp
   by_cases hn:newB st.bind x=[]
   ·have hn0:(newB st.bind x).length=0:=by rw [hn];rfl
    rw [hv,show (match some x with|none=>settleR st|some x=>if newB st.bind x=[] then (zSt,false) else settleR ⟨st.next,st.bind,st.dis++[newB st.bind x],st.kinds,st.marks⟩)=(zSt,false) from if_pos hn]
    (repeat' first|(refine kkz ?_;intros)|refine kfk ?_ ?_<;>intro hb|fail)
    refine kr2 (rvw ?_) (rvV (.refl _))
    (exact wV)
   ·have hn0:¬ (newB st.bind x).length=0:=fun h=>hn (List.length_eq_zero_iff.1 h)
    rw [hv,show (match some x with|none=>settleR st|some x=>if newB st.bind x=[] then (zSt,false) else settleR ⟨st.next,st.bind,st.dis++[newB st.bind x],st.kinds,st.marks⟩)=settleR ⟨st.next,st.bind,st.dis++[newB st.bind x],st.kinds,st.marks⟩ from if_neg hn]
    have hsp2:∃ tags,tags.length≤10000000∧SP tags ⟨st.next,st.bind,st.dis++[newB st.bind x],st.kinds,st.marks⟩:=⟨tags,htl,⟨⟨hbind,fun d hd=>by
     rcases List.mem_append.1 hd with hd|hd
     ·exact hpre.dis d hd
     ·obtain rfl:=List.mem_singleton.1 hd;exact hxn,hpre.kinds,hpre.marks⟩,hsp.mrk,by simp;omega,hsp.nx⟩⟩
    (repeat' first|(refine kkSz [] [88] ?_;intros)|fail)
    rename_i u1 u2 u3
    refine kfbG (u:=u3) (B:=[abox b12 zCs 53,abox b9 (encT b.tm) 174,abox b8 (encT a.tm) 174,abox b6 (encStt st) 53]) (ds':=encStt ⟨st.next,st.bind,st.dis++[newB st.bind x],st.kinds,st.marks⟩) perm_5 (VwC.cons (VwD.refl _) (VwC.cons (VwD.refl _) (VwC.cons (VwD.row (List.mem_singleton.2 rfl) (by simp)) (VwC.cons (VwD.refl _) (VwC.cons (VwD.refl _) VwC.nil))))) ?_
    generalize (⟨st.next,st.bind,st.dis++[newB st.bind x],st.kinds,st.marks⟩:Stt)=s2 at hsp2 ⊢
    (repeat' first|(refine kk ?_;intros)|refine kfk ?_ ?_<;>intro hb|fail)
    refine kr2 (rvw ?_) (rvV (.refl _))
    (exact wV)
 ·have hf:=fit_subS (fun b hb=>(hbind.sbfit b hb).2) ha.fit (s:=st.bind)
  by_cases hn:(a.sub (suOf st.bind)).nodes≤5000
  ·haveI:=applyYes_s
   have p1:(Lng st.bind.length∧(a.sub (suOf st.bind)).fit)∧(a.sub (suOf st.bind)).nodes≤5000:=⟨⟨hbind.lng,hf⟩,hn⟩
   have p2:KOk st.kinds:=hpre.kinds
   have hp:putO st.bind a=some (a.sub (suOf st.bind)):=if_pos hn
   have hv:addR st 2 a b kd g=match kindAdd st.kinds (a.sub (suOf st.bind)) kd with|none=>(zSt,false)|some ks=>settleR ⟨st.next,st.bind,st.dis,ks,st.marks⟩:=by
    unfold addR
    rw [if_neg (by decide),if_neg (by decide),hp]
    exact if_pos rfl
   (repeat' first|(refine kkS [] [72] ?_;intros)|fail)
   rename_i b6 b8 b9 b12 b14 b19
   cases hm:kindAdd st.kinds (a.sub (suOf st.bind)) kd with
   | none=>
    rw [show addR st 2 a b kd g=(zSt,false) from by rw [hm] at hv;exact hv]
    (repeat' first|(refine kk ?_;intros)|refine kfk ?_ ?_<;>intro hb|fail)
    refine kr2 (rvw ?_) (rvV (.refl _))
    (exact wV)
   | some ks=>
    rw [show addR st 2 a b kd g=settleR ⟨st.next,st.bind,st.dis,ks,st.marks⟩ from by rw [hm] at hv;exact hv]
    have hks:KOk ks:=kindAdd_ok hpre.kinds hkd (fun v e=>by rw [e] at hf;exact fit_var.1 hf) hm
    have hsp2:∃ tags,tags.length≤10000000∧SP tags ⟨st.next,st.bind,st.dis,ks,st.marks⟩:=⟨tags,htl,⟨⟨hbind,hpre.dis,hks,hpre.marks⟩,hsp.mrk,hsp.dl,hsp.nx⟩⟩
    (repeat' first|(refine kkS [] [88] ?_;intros)|fail)
    refine aoB [abox b19 (encT (a.sub (suOf st.bind)).tm) 174,abox b14 (encStt ⟨st.next,st.bind,st.dis,ks,st.marks⟩) 53,abox b12 zCs 53,abox b9 (encT b.tm) 174,abox b8 (encT a.tm) 174,abox b6 (encStt st) 53] (by rfl) ?_
    generalize (⟨st.next,st.bind,st.dis,ks,st.marks⟩:Stt)=s2 at hsp2 ⊢
    (repeat' first|(refine kk ?_;intros)|refine kfk ?_ ?_<;>intro hb|fail)
    refine kr2 (rvw ?_) (rvV (.refl _))
    (exact wV)
  ·haveI:=applyNo_s
   have p1:(Lng st.bind.length∧(a.sub (suOf st.bind)).fit)∧¬ (a.sub (suOf st.bind)).nodes≤5000:=⟨⟨hbind.lng,hf⟩,hn⟩
   have hp:putO st.bind a=none:=if_neg hn
   have hv:addR st 2 a b kd g=(zSt,false):=by
    unfold addR
    rw [if_neg (by decide),if_neg (by decide),hp]
   rw [hv]
   (repeat' first|(refine kk ?_;intros)|refine kfk ?_ ?_<;>intro hb|fail)
   refine kr2 (rvw ?_) (rvV (.refl _))
   (exact wV)
 ·have hf:=fit_subS (fun b hb=>(hbind.sbfit b hb).2) ha.fit (s:=st.bind)
  by_cases hn:(a.sub (suOf st.bind)).nodes≤5000
  ·haveI:=applyYes_s
   have p1:(Lng st.bind.length∧(a.sub (suOf st.bind)).fit)∧(a.sub (suOf st.bind)).nodes≤5000:=⟨⟨hbind.lng,hf⟩,hn⟩
   have p2:MOk st.marks∧st.marks.length≤1099511627776∧(a.sub (suOf st.bind)).nodes≤5000:=⟨hpre.marks,hsp.mrk.len htl,hn⟩
   have hp:putO st.bind a=some (a.sub (suOf st.bind)):=if_pos hn
   have hv:addR st 3 a b kd g=match markAdd st.marks (a.sub (suOf st.bind)) g with|none=>(zSt,false)|some ms=>settleR ⟨st.next,st.bind,st.dis,st.kinds,ms⟩:=by
    unfold addR
    rw [if_neg (by decide),if_neg (by decide),hp]
    exact if_neg (by decide)
   (repeat' first|(refine kkS [] [82] ?_;intros)|fail)
   rename_i b6 b8 b9 b12 b14 b19
   cases hm:markAdd st.marks (a.sub (suOf st.bind)) g with
   | none=>
    rw [show addR st 3 a b kd g=(zSt,false) from by rw [hm] at hv;exact hv]
    (repeat' first|(refine kk ?_;intros)|refine kfk ?_ ?_<;>intro hb|fail)
    refine kr2 (rvw ?_) (rvV (.refl _))
    (exact wV)
   | some ms=>
    rw [show addR st 3 a b kd g=settleR ⟨st.next,st.bind,st.dis,st.kinds,ms⟩ from by rw [hm] at hv;exact hv]
    have hms:MB tags ms:=hsp.mrk.add hg hgt (fun v hv=>hf.1 v hv) hm
    have hsp2:∃ tags,tags.length≤10000000∧SP tags ⟨st.next,st.bind,st.dis,st.kinds,ms⟩:=⟨tags,htl,⟨⟨hbind,hpre.dis,hpre.kinds,hms.ok⟩,hms,hsp.dl,hsp.nx⟩⟩
    (repeat' first|(refine kkS [] [88] ?_;intros)|fail)
    refine aoB [abox b19 (encT (a.sub (suOf st.bind)).tm) 174,abox b14 (encStt ⟨st.next,st.bind,st.dis,st.kinds,ms⟩) 53,abox b12 zCs 53,abox b9 (encT b.tm) 174,abox b8 (encT a.tm) 174,abox b6 (encStt st) 53] (by rfl) ?_
    generalize (⟨st.next,st.bind,st.dis,st.kinds,ms⟩:Stt)=s2 at hsp2 ⊢
    (repeat' first|(refine kk ?_;intros)|refine kfk ?_ ?_<;>intro hb|fail)
    refine kr2 (rvw ?_) (rvV (.refl _))
    (exact wV)
  ·haveI:=applyNo_s
   have p1:(Lng st.bind.length∧(a.sub (suOf st.bind)).fit)∧¬ (a.sub (suOf st.bind)).nodes≤5000:=⟨⟨hbind.lng,hf⟩,hn⟩
   have hp:putO st.bind a=none:=if_neg hn
   have hv:addR st 3 a b kd g=(zSt,false):=by
    unfold addR
    rw [if_neg (by decide),if_neg (by decide),hp]
   rw [hv]
   (repeat' first|(refine kk ?_;intros)|refine kfk ?_ ?_<;>intro hb|fail)
   refine kr2 (rvw ?_) (rvV (.refl _))
   (exact wV)⟩
end
noncomputable section
open Classical
def reqR (st:Stt):G→Stt × Bool
 | .tru=>(st,true)
 | .eq a b=>addR st 0 a b 0 ⟨#[]⟩
 | .ne a b=>addR st 1 a b 0 ⟨#[]⟩
 | .sy a=>addR st 2 a a 2 ⟨#[]⟩
 | .nu a=>addR st 2 a a 3 ⟨#[]⟩
 | .ab g a=>addR st 3 a a 0 g
 | _=>(zSt,false)
theorem reqR_F {tags:List ByteArray} {st:Stt} {g:G} (h:RP tags st g):reqF st g=if (reqR st g).2=true then some (reqR st g).1 else none:=by
 have hbind:=h.sp.pre.bind
 cases g with
 | tru=>rfl
 | eq a b=>
  show (match mg (eqs st.bind [(a,b)]) with|none=>none|some x=>settleF ⟨st.next,x,st.dis,st.kinds,st.marks⟩)=if (addR st 0 a b 0 ⟨#[]⟩).2=true then some (addR st 0 a b 0 ⟨#[]⟩).1 else none
  rw [show addR st 0 a b 0 ⟨#[]⟩=match mg (eqs st.bind [(a,b)]) with|none=>(zSt,false)|some x=>settleR ⟨st.next,x,st.dis,st.kinds,st.marks⟩ from if_pos rfl]
  cases mg (eqs st.bind [(a,b)]) with
  | none=>rfl
  | some x=>exact settleR_F
 | ne a b=>
  show (match mg (eqs st.bind [(a,b)]) with|none=>settleF st|some x=>if st.bind=x then none else settleF ⟨st.next,st.bind,st.dis++[newB st.bind x],st.kinds,st.marks⟩)=if (addR st 1 a b 0 ⟨#[]⟩).2=true then some (addR st 1 a b 0 ⟨#[]⟩).1 else none
  rw [show addR st 1 a b 0 ⟨#[]⟩=match mg (eqs st.bind [(a,b)]) with|none=>settleR st|some x=>if newB st.bind x=[] then (zSt,false) else settleR ⟨st.next,st.bind,st.dis++[newB st.bind x],st.kinds,st.marks⟩ from (if_neg (by decide)).trans (if_pos rfl)]
  cases hm:mg (eqs st.bind [(a,b)]) with
  | none=>exact settleR_F
  | some x=>
   simp only
   by_cases hn:st.bind=x
   ·rw [if_pos hn,if_pos ((newB_nil hbind hm).2 hn)];rfl
   ·rw [if_neg hn,if_neg (fun e=>hn ((newB_nil hbind hm).1 e))];exact settleR_F
 | sy a=>
  show (match (putO st.bind a).bind fun x=>kindAdd st.kinds x 2 with|none=>none|some ks=>settleF ⟨st.next,st.bind,st.dis,ks,st.marks⟩)=if (addR st 2 a a 2 ⟨#[]⟩).2=true then some (addR st 2 a a 2 ⟨#[]⟩).1 else none
  rw [show addR st 2 a a 2 ⟨#[]⟩=match putO st.bind a with|none=>(zSt,false)|some x=>match kindAdd st.kinds x 2 with|none=>(zSt,false)|some ks=>settleR ⟨st.next,st.bind,st.dis,ks,st.marks⟩ from (if_neg (by decide)).trans ((if_neg (by decide)).trans (by cases putO st.bind a<;>first|rfl|exact if_pos rfl))]
  cases putO st.bind a with
  | none=>rfl
  | some x=>
   simp only [Option.bind_some]
   cases kindAdd st.kinds x 2 with
   | none=>rfl
   | some ks=>exact settleR_F
 | nu a=>
  show (match (putO st.bind a).bind fun x=>kindAdd st.kinds x 3 with|none=>none|some ks=>settleF ⟨st.next,st.bind,st.dis,ks,st.marks⟩)=if (addR st 2 a a 3 ⟨#[]⟩).2=true then some (addR st 2 a a 3 ⟨#[]⟩).1 else none
  rw [show addR st 2 a a 3 ⟨#[]⟩=match putO st.bind a with|none=>(zSt,false)|some x=>match kindAdd st.kinds x 3 with|none=>(zSt,false)|some ks=>settleR ⟨st.next,st.bind,st.dis,ks,st.marks⟩ from (if_neg (by decide)).trans ((if_neg (by decide)).trans (by cases putO st.bind a<;>first|rfl|exact if_pos rfl))]
  cases putO st.bind a with
  | none=>rfl
  | some x=>
   simp only [Option.bind_some]
   cases kindAdd st.kinds x 3 with
   | none=>rfl
   | some ks=>exact settleR_F
 | ab g a=>
  show (match (putO st.bind a).bind fun x=>markAdd st.marks x g with|none=>none|some ms=>settleF ⟨st.next,st.bind,st.dis,st.kinds,ms⟩)=if (addR st 3 a a 0 g).2=true then some (addR st 3 a a 0 g).1 else none
  rw [show addR st 3 a a 0 g=match putO st.bind a with|none=>(zSt,false)|some x=>match markAdd st.marks x g with|none=>(zSt,false)|some ms=>settleR ⟨st.next,st.bind,st.dis,st.kinds,ms⟩ from (if_neg (by decide)).trans ((if_neg (by decide)).trans (by cases putO st.bind a<;>first|rfl|exact if_neg (by decide)))]
  cases putO st.bind a with
  | none=>rfl
  | some x=>
   simp only [Option.bind_some]
   cases markAdd st.marks x g with
   | none=>rfl
   | some ms=>exact settleR_F
 | fail=>rfl
 | all l=>rfl
 | any l=>rfl
 | call s l=>rfl
 | non s l=>rfl
instance require_s:Con2 Tryz.prog 175 Stt G vSt vG (fun st g=>resSt (reqR st g)) (fun st g=>∃ tags,tags.length≤10000000∧RP tags st g):=⟨fun st g ⟨tags,htl,hr⟩=>by
 have hgk:=hr.gk
 refine pu Tryz.func175 rfl Tryz.ntmps175 rfl rfl fun C=>?_
 cases g with
 | tru=>
  (repeat' first|(refine kk ?_;intros)|refine kfk ?_ ?_<;>intro hb|fail)
  refine kr2 (rvw ?_) (rvV (.refl _))
  (exact wV)
 | eq a b=>
  have hab:a.okT∧b.okT:=by simpa [G.Ok] using hgk
  have p1:∃ tags,tags.length≤10000000∧AP tags st 0 a b 0 ⟨#[]⟩:=⟨tags,htl,⟨hr.sp,hr.dl,hab.1,hab.2,.inl rfl⟩⟩
  have hr0:(rowsT (G.eq a b).gl.terms)[0]?=some (encT a.tm):=rfl
  have hr1:(rowsT (G.eq a b).gl.terms)[1]?=some (encT b.tm):=rfl
  (repeat' first|(refine kk ?_;intros)|refine kfk ?_ ?_<;>intro hb|fail)
  refine kr2 (rvw ?_) (rvV (.refl _))
  (exact wV)
 | ne a b=>
  have hab:a.okT∧b.okT:=by simpa [G.Ok] using hgk
  have p1:∃ tags,tags.length≤10000000∧AP tags st 1 a b 0 ⟨#[]⟩:=⟨tags,htl,⟨hr.sp,hr.dl,hab.1,hab.2,.inr (.inl rfl)⟩⟩
  have hr0:(rowsT (G.ne a b).gl.terms)[0]?=some (encT a.tm):=rfl
  have hr1:(rowsT (G.ne a b).gl.terms)[1]?=some (encT b.tm):=rfl
  (repeat' first|(refine kk ?_;intros)|refine kfk ?_ ?_<;>intro hb|fail)
  refine kr2 (rvw ?_) (rvV (.refl _))
  (exact wV)
 | sy a=>
  have ha:a.okT:=by simpa [G.Ok] using hgk
  have p1:∃ tags,tags.length≤10000000∧AP tags st 2 a a 2 ⟨#[]⟩:=⟨tags,htl,⟨hr.sp,hr.dl,ha,ha,.inr (.inr (.inl ⟨rfl,by decide⟩))⟩⟩
  have hr0:(rowsT (G.sy a).gl.terms)[0]?=some (encT a.tm):=rfl
  (repeat' first|(refine kk ?_;intros)|refine kfk ?_ ?_<;>intro hb|fail)
  refine kr2 (rvw ?_) (rvV (.refl _))
  (exact wV)
 | nu a=>
  have ha:a.okT:=by simpa [G.Ok] using hgk
  have p1:∃ tags,tags.length≤10000000∧AP tags st 2 a a 3 ⟨#[]⟩:=⟨tags,htl,⟨hr.sp,hr.dl,ha,ha,.inr (.inr (.inl ⟨rfl,by decide⟩))⟩⟩
  have hr0:(rowsT (G.nu a).gl.terms)[0]?=some (encT a.tm):=rfl
  (repeat' first|(refine kk ?_;intros)|refine kfk ?_ ?_<;>intro hb|fail)
  refine kr2 (rvw ?_) (rvV (.refl _))
  (exact wV)
 | ab g a=>
  have ha:NameP g∧a.okT:=by simpa [G.Ok] using hgk
  have p1:∃ tags,tags.length≤10000000∧AP tags st 3 a a 0 (T.sym g).tm.name:=⟨tags,htl,⟨hr.sp,hr.dl,ha.2,ha.2,.inr (.inr (.inr ⟨rfl,ha.1,hr.ab g a rfl⟩))⟩⟩
  have hr0:(rowsT (G.ab g a).gl.terms)[0]?=some (encT (T.sym g).tm):=rfl
  have hr1:(rowsT (G.ab g a).gl.terms)[1]?=some (encT a.tm):=rfl
  (repeat' first|(refine kk ?_;intros)|refine kfk ?_ ?_<;>intro hb|fail)
  refine kr2 (rvw ?_) (rvV (.refl _))
  (exact wV)
 | fail=>
  (repeat' first|(refine kk ?_;intros)|refine kfk ?_ ?_<;>intro hb|fail)
  refine kr2 (rvw ?_) (rvV (.refl _))
  (exact wV)
 | all l=>
  (repeat' first|(refine kk ?_;intros)|refine kfk ?_ ?_<;>intro hb|fail)
  refine kr2 (rvw ?_) (rvV (.refl _))
  (exact wV)
 | any l=>
  (repeat' first|(refine kk ?_;intros)|refine kfk ?_ ?_<;>intro hb|fail)
  refine kr2 (rvw ?_) (rvV (.refl _))
  (exact wV)
 | call s l=>
  (repeat' first|(refine kk ?_;intros)|refine kfk ?_ ?_<;>intro hb|fail)
  refine kr2 (rvw ?_) (rvV (.refl _))
  (exact wV)
 | non s l=>
  (repeat' first|(refine kk ?_;intros)|refine kfk ?_ ?_<;>intro hb|fail)
  refine kr2 (rvw ?_) (rvV (.refl _))
  (exact wV)⟩
end
noncomputable section
open Classical
instance rest_i:Con3 Tryz.prog 182 Sb Sb Bool vS vS bv (fun s x ok=>.tup (if ok=true then (if s=x then [bsv [],iv 2] else [vS (newB s x),iv 0]) else [bsv [],iv 1])) (fun s x ok=>ok=true→Sub s∧Sub x):=⟨fun s x ok h=>by
 refine pu Tryz.func182 rfl Tryz.ntmps182 rfl rfl fun C=>?_
 cases ok with
 | false=>
  (repeat' first|(refine kk ?_;intros)|refine kfk ?_ ?_<;>intro hb|fail)
  exact kr2 rvN (rvT rfl)
 | true=>
  obtain ⟨hs,hx⟩:=h rfl
  have p1:Sub s∧Sub x:=⟨hs,hx⟩
  have p2:s.length≤1000000∧x.length≤1000000:=⟨by have:=hs.vok.len;omega,by have:=hx.vok.len;omega⟩
  by_cases hq:s=x
  ·rw [if_pos rfl,if_pos hq]
   (repeat' first|(refine kk ?_;intros)|refine kfk ?_ ?_<;>intro hb|fail)
   ·exact kr2 rvN (rvT rfl)
   ·exact absurd hq hb
  ·rw [if_pos rfl,if_neg hq]
   (repeat' first|(refine kk ?_;intros)|refine kfk ?_ ?_<;>intro hb|fail)
   ·exact absurd hb hq
   ·exact kr2 (rvT rfl) (rvT rfl)⟩
theorem rest_none (s:Sb):Pu Tryz.prog 182 [vS s,.one (.s 5 []),bv false] (.tup [bsv [],iv 1]):=rest_i.h s [] false (by simp)
theorem perm_4 {a b c d:Atm}:[a,b,c,d].Perm (d::([b,c]++[a])):=(List.perm_append_comm (l₁:=[a,b,c]) (l₂:=[d])).trans (List.Perm.cons d (List.perm_append_comm (l₁:=[a]) (l₂:=[b,c])))
theorem aoA {P:Program} {n:Nat} {C:Cx} {ops:Array Oper} {K:AF→List Atm→Prop} {rest:List Oper} {f:AF} {A:List Atm} (A':List Atm) (h:A=A') (k:AO P n C ops K rest f A'):AO P n C ops K rest f A:=h▸k
instance require_i:Con2 Tryz.prog 145 Stt G vSt vG (fun st g=>optSt (reqF st g)) (fun st g=>∃ tags,tags.length≤10000000∧RP tags st g):=⟨fun st g ⟨tags,htl,hr⟩=>by
 have hsp:=hr.sp
 have hpre:=hsp.pre
 have hbind:=hpre.bind
 have hdl:=hr.dl
 have hgk:=hr.gk
 have hdlen:(st.dis.map eS).length=st.dis.length:=by simp
 refine pu Tryz.func145 rfl Tryz.ntmps145 rfl rfl fun C=>?_
 cases g with
 | tru=>
  (repeat' first|(refine kk ?_;intros)|refine kfk ?_ ?_<;>intro hb|fail)
  refine kr2 (rvw ?_) (rvV (.refl _))
  (exact wV)
 | eq a b=>
  have hab:a.okT∧b.okT:=by simpa [G.Ok] using hgk
  have p1:FitS st.bind∧(∀ t∈[a],t.fit)∧(∀ t∈[b],t.fit)∧[a].length=[b].length∧Lng st.bind.length∧Lng [a].length:=⟨hbind.sbfit,by simpa using hab.1.fit,by simpa using hab.2.fit,rfl,hbind.lng_i,by unfold Lng;simp⟩
  have hv:reqF st (.eq a b)=match mg (eqs st.bind ([a].zip [b])) with|none=>none|some x=>settleF ⟨st.next,x,st.dis,st.kinds,st.marks⟩:=rfl
  (repeat' first|(refine kk ?_;intros)|refine kfk ?_ ?_<;>intro hb|fail)
  refine kar ?_ (h:=P_sliceT (k:=1) (r':=rowsT ([a].map T.tm)) (hle:=by show 1≤2;omega) (hr:=rfl))
  (repeat' first|(refine kk ?_;intros)|refine kfk ?_ ?_<;>intro hb|fail)
  refine kar ?_ (h:=P_sliceF (k:=1) (r':=rowsT ([b].map T.tm)) (hle:=by show 1≤2;omega) (hr:=rfl))
  (repeat' first|(refine kk ?_;intros)|refine kfk ?_ ?_<;>intro hb|fail)
  rename_i b2 b3 b4
  cases hm:mg (eqs st.bind ([a].zip [b])) with
  | none=>
   rw [show reqF st (.eq a b)=none from hv.trans (by rw [hm])]
   (repeat' first|(refine kk ?_;intros)|refine kfk ?_ ?_<;>intro hb|fail)
   refine kr2 (rvw ?_) (rvV (.refl _))
   (exact wV)
  | some x=>
   rw [show reqF st (.eq a b)=settleF ⟨st.next,x,st.dis,st.kinds,st.marks⟩ from hv.trans (by rw [hm])]
   have hx:Sub x:=mg_sub hbind (l:=[(a,b)]) (by simpa using ⟨hab.1.fit,hab.2.fit⟩) hm
   have hsp2:∃ tags,tags.length≤10000000∧SP tags ⟨st.next,x,st.dis,st.kinds,st.marks⟩:=⟨tags,htl,⟨⟨hx,hpre.dis,hpre.kinds,hpre.marks⟩,hsp.mrk,hsp.dl,hsp.nx⟩⟩
   (repeat' first|(refine kkS [] [128] ?_;intros)|fail)
   refine aoA [abox b4 zCs 53,abox b3 (encG (G.eq a b).gl) 59,abox b2 (encStt (⟨st.next,x,st.dis,st.kinds,st.marks⟩:Stt)) 53] (by rfl) ?_
   generalize (⟨st.next,x,st.dis,st.kinds,st.marks⟩:Stt)=s2 at hsp2 ⊢
   (repeat' first|(refine kk ?_;intros)|refine kfk ?_ ?_<;>intro hb|fail)
   cases hs:settleF s2 with
   | none=>
    (repeat' first|(refine kk ?_;intros)|refine kfk ?_ ?_<;>intro hb|fail)
    refine kr2 (rvw ?_) (rvV (.refl _))
    (exact wV)
   | some s3=>
    (repeat' first|(refine kk ?_;intros)|refine kfk ?_ ?_<;>intro hb|fail)
    refine kr2 (rvw ?_) (rvV (.refl _))
    (exact wV)
 | ne a b=>
  have hab:a.okT∧b.okT:=by simpa [G.Ok] using hgk
  have p1:FitS st.bind∧(∀ t∈[a],t.fit)∧(∀ t∈[b],t.fit)∧[a].length=[b].length∧Lng st.bind.length∧Lng [a].length:=⟨hbind.sbfit,by simpa using hab.1.fit,by simpa using hab.2.fit,rfl,hbind.lng_i,by unfold Lng;simp⟩
  have hv:reqF st (.ne a b)=match mg (eqs st.bind ([a].zip [b])) with|none=>settleF st|some x=>if st.bind=x then none else settleF ⟨st.next,st.bind,st.dis++[newB st.bind x],st.kinds,st.marks⟩:=rfl
  (repeat' first|(refine kk ?_;intros)|refine kfk ?_ ?_<;>intro hb|fail)
  refine kar ?_ (h:=P_sliceT (k:=1) (r':=rowsT ([a].map T.tm)) (hle:=by show 1≤2;omega) (hr:=rfl))
  (repeat' first|(refine kk ?_;intros)|refine kfk ?_ ?_<;>intro hb|fail)
  refine kar ?_ (h:=P_sliceF (k:=1) (r':=rowsT ([b].map T.tm)) (hle:=by show 1≤2;omega) (hr:=rfl))
  (repeat' first|(refine kk ?_;intros)|refine kfk ?_ ?_<;>intro hb|fail)
  rename_i b2 b3 b4
  cases hm:mg (eqs st.bind ([a].zip [b])) with
  | none=>
   rw [show reqF st (.ne a b)=settleF st from hv.trans (by rw [hm])]
   have p2:false=true→Sub st.bind∧Sub []:=fun h=>by cases h
   have hsp2:∃ tags,tags.length≤10000000∧SP tags st:=⟨tags,htl,hsp⟩
   (repeat' first|(refine kk ?_;intros)|refine kfk ?_ ?_<;>intro hb|fail)
   refine kr ?_ (h:=P_callL (show leA [_,_,_] [vS st.bind,.one (.s 5 []),bv false] from ⟨.refl _,.refl _,.refl _,trivial⟩) (rest_none st.bind))
   (repeat' first|(refine kkS [] [128] ?_;intros)|fail)
   refine aoA [abox b4 zCs 53,abox b3 (encG (G.ne a b).gl) 59,abox b2 (encStt st) 53] (by rfl) ?_
   (repeat' first|(refine kk ?_;intros)|refine kfk ?_ ?_<;>intro hb|fail)
   cases hs:settleF st with
   | none=>
    (repeat' first|(refine kk ?_;intros)|refine kfk ?_ ?_<;>intro hb|fail)
    refine kr2 (rvw ?_) (rvV (.refl _))
    (exact wV)
   | some s3=>
    (repeat' first|(refine kk ?_;intros)|refine kfk ?_ ?_<;>intro hb|fail)
    refine kr2 (rvw ?_) (rvV (.refl _))
    (exact wV)
  | some x=>
   have hx:Sub x:=mg_sub hbind (l:=[(a,b)]) (by simpa using ⟨hab.1.fit,hab.2.fit⟩) hm
   have p2:true=true→Sub st.bind∧Sub x:=fun _=>⟨hbind,hx⟩
   by_cases hq:st.bind=x
   ·rw [show reqF st (.ne a b)=none from hv.trans (by rw [hm];exact if_pos hq)]
    (repeat' first|(refine kk ?_;intros)|refine kfk ?_ ?_<;>intro hb|fail)
    rw [if_pos rfl,if_pos hq]
    (repeat' first|(refine kk ?_;intros)|refine kfk ?_ ?_<;>intro hb|fail)
    refine kr2 (rvw ?_) (rvV (.refl _))
    (exact wV)
   ·rw [show reqF st (.ne a b)=settleF ⟨st.next,st.bind,st.dis++[newB st.bind x],st.kinds,st.marks⟩ from hv.trans (by rw [hm];exact if_neg hq)]
    have hnl:=newB_len (s:=st.bind) hx
    have hxn:Sub (newB st.bind x):=hx.filter
    have hsp2:∃ tags,tags.length≤10000000∧SP tags ⟨st.next,st.bind,st.dis++[newB st.bind x],st.kinds,st.marks⟩:=⟨tags,htl,⟨⟨hbind,fun d hd=>by
     rcases List.mem_append.1 hd with hd|hd
     ·exact hpre.dis d hd
     ·obtain rfl:=List.mem_singleton.1 hd;exact hxn,hpre.kinds,hpre.marks⟩,hsp.mrk,by simp;omega,hsp.nx⟩⟩
    (repeat' first|(refine kk ?_;intros)|refine kfk ?_ ?_<;>intro hb|fail)
    rw [if_pos rfl,if_neg hq]
    (repeat' first|(refine kkSz [] [128] ?_;intros)|fail)
    rename_i u1 u2 u3
    refine kfbG (u:=u3) (B:=[abox b4 zCs 53,abox b3 (encG (G.ne a b).gl) 59]) (ds':=encStt ⟨st.next,st.bind,st.dis++[newB st.bind x],st.kinds,st.marks⟩) perm_4 (VwC.cons (VwD.refl _) (VwC.cons (VwD.refl _) (VwC.cons (VwD.row (List.mem_singleton.2 rfl) (by simp)) (VwC.cons (VwD.refl _) (VwC.cons (VwD.refl _) VwC.nil))))) ?_
    generalize (⟨st.next,st.bind,st.dis++[newB st.bind x],st.kinds,st.marks⟩:Stt)=s2 at hsp2 ⊢
    (repeat' first|(refine kk ?_;intros)|refine kfk ?_ ?_<;>intro hb|fail)
    cases hs:settleF s2 with
    | none=>
     (repeat' first|(refine kk ?_;intros)|refine kfk ?_ ?_<;>intro hb|fail)
     refine kr2 (rvw ?_) (rvV (.refl _))
     (exact wV)
    | some s3=>
     (repeat' first|(refine kk ?_;intros)|refine kfk ?_ ?_<;>intro hb|fail)
     refine kr2 (rvw ?_) (rvV (.refl _))
     (exact wV)
 | sy a=>
  have ha:a.okT:=by simpa [G.Ok] using hgk
  have p1:Sub st.bind∧KOk st.kinds∧a.okT∧((2:Int)=2∨(2:Int)=3):=⟨hbind,hpre.kinds,ha,by simp⟩
  have hv:reqF st (.sy a)=match (putO st.bind a).bind fun x=>kindAdd st.kinds x 2 with|none=>none|some ks=>settleF ⟨st.next,st.bind,st.dis,ks,st.marks⟩:=rfl
  have hrow:(rowsT (G.sy a).gl.terms)[0]?=some (encT a.tm):=rfl
  (repeat' first|(refine kk ?_;intros)|refine kfk ?_ ?_<;>intro hb|fail)
  rename_i b2 b3 b4
  cases hm:(putO st.bind a).bind fun x=>kindAdd st.kinds x 2 with
  | none=>
   rw [show reqF st (.sy a)=none from hv.trans (by rw [hm])]
   (repeat' first|(refine kk ?_;intros)|refine kfk ?_ ?_<;>intro hb|fail)
   refine kr2 (rvw ?_) (rvV (.refl _))
   (exact wV)
  | some ks=>
   rw [show reqF st (.sy a)=settleF ⟨st.next,st.bind,st.dis,ks,st.marks⟩ from hv.trans (by rw [hm])]
   have hks:KOk ks:=by
    obtain ⟨x,hx,hk⟩:=Option.bind_eq_some_iff.1 hm
    have hx2:=put_some hx
    exact kindAdd_ok hpre.kinds (by simp) (fun v e=>by
     subst e
     have:=fit_subS (fun b hb=>(hbind.sbfit b hb).2) ha.fit (s:=st.bind)
     rw [hx2.2] at this;exact fit_var.1 this) hk
   have hsp2:∃ tags,tags.length≤10000000∧SP tags ⟨st.next,st.bind,st.dis,ks,st.marks⟩:=⟨tags,htl,⟨⟨hbind,hpre.dis,hks,hpre.marks⟩,hsp.mrk,hsp.dl,hsp.nx⟩⟩
   (repeat' first|(refine kkS [] [128] ?_;intros)|fail)
   refine aoA [abox b4 zCs 53,abox b3 (encG (G.sy a).gl) 59,abox b2 (encStt (⟨st.next,st.bind,st.dis,ks,st.marks⟩:Stt)) 53] (by rfl) ?_
   generalize (⟨st.next,st.bind,st.dis,ks,st.marks⟩:Stt)=s2 at hsp2 ⊢
   (repeat' first|(refine kk ?_;intros)|refine kfk ?_ ?_<;>intro hb|fail)
   cases hs:settleF s2 with
   | none=>
    (repeat' first|(refine kk ?_;intros)|refine kfk ?_ ?_<;>intro hb|fail)
    refine kr2 (rvw ?_) (rvV (.refl _))
    (exact wV)
   | some s3=>
    (repeat' first|(refine kk ?_;intros)|refine kfk ?_ ?_<;>intro hb|fail)
    refine kr2 (rvw ?_) (rvV (.refl _))
    (exact wV)
 | nu a=>
  have ha:a.okT:=by simpa [G.Ok] using hgk
  have p1:Sub st.bind∧KOk st.kinds∧a.okT∧((3:Int)=2∨(3:Int)=3):=⟨hbind,hpre.kinds,ha,by simp⟩
  have hv:reqF st (.nu a)=match (putO st.bind a).bind fun x=>kindAdd st.kinds x 3 with|none=>none|some ks=>settleF ⟨st.next,st.bind,st.dis,ks,st.marks⟩:=rfl
  have hrow:(rowsT (G.nu a).gl.terms)[0]?=some (encT a.tm):=rfl
  (repeat' first|(refine kk ?_;intros)|refine kfk ?_ ?_<;>intro hb|fail)
  rename_i b2 b3 b4
  cases hm:(putO st.bind a).bind fun x=>kindAdd st.kinds x 3 with
  | none=>
   rw [show reqF st (.nu a)=none from hv.trans (by rw [hm])]
   (repeat' first|(refine kk ?_;intros)|refine kfk ?_ ?_<;>intro hb|fail)
   refine kr2 (rvw ?_) (rvV (.refl _))
   (exact wV)
  | some ks=>
   rw [show reqF st (.nu a)=settleF ⟨st.next,st.bind,st.dis,ks,st.marks⟩ from hv.trans (by rw [hm])]
   have hks:KOk ks:=by
    obtain ⟨x,hx,hk⟩:=Option.bind_eq_some_iff.1 hm
    have hx2:=put_some hx
    exact kindAdd_ok hpre.kinds (by simp) (fun v e=>by
     subst e
     have:=fit_subS (fun b hb=>(hbind.sbfit b hb).2) ha.fit (s:=st.bind)
     rw [hx2.2] at this;exact fit_var.1 this) hk
   have hsp2:∃ tags,tags.length≤10000000∧SP tags ⟨st.next,st.bind,st.dis,ks,st.marks⟩:=⟨tags,htl,⟨⟨hbind,hpre.dis,hks,hpre.marks⟩,hsp.mrk,hsp.dl,hsp.nx⟩⟩
   (repeat' first|(refine kkS [] [128] ?_;intros)|fail)
   refine aoA [abox b4 zCs 53,abox b3 (encG (G.nu a).gl) 59,abox b2 (encStt (⟨st.next,st.bind,st.dis,ks,st.marks⟩:Stt)) 53] (by rfl) ?_
   generalize (⟨st.next,st.bind,st.dis,ks,st.marks⟩:Stt)=s2 at hsp2 ⊢
   (repeat' first|(refine kk ?_;intros)|refine kfk ?_ ?_<;>intro hb|fail)
   cases hs:settleF s2 with
   | none=>
    (repeat' first|(refine kk ?_;intros)|refine kfk ?_ ?_<;>intro hb|fail)
    refine kr2 (rvw ?_) (rvV (.refl _))
    (exact wV)
   | some s3=>
    (repeat' first|(refine kk ?_;intros)|refine kfk ?_ ?_<;>intro hb|fail)
    refine kr2 (rvw ?_) (rvV (.refl _))
    (exact wV)
 | ab g a=>
  have ha:NameP g∧a.okT:=by simpa [G.Ok] using hgk
  have hgt:=hr.ab g a rfl
  have p1:Sub st.bind∧MOk st.marks∧st.marks.length≤1099511627776∧a.okT∧NameP g:=⟨hbind,hpre.marks,hsp.mrk.len htl,ha.2,ha.1⟩
  have hv:reqF st (.ab g a)=match (putO st.bind a).bind fun x=>markAdd st.marks x (T.sym g).tm.name with|none=>none|some ms=>settleF ⟨st.next,st.bind,st.dis,st.kinds,ms⟩:=rfl
  have hrow:(rowsT (G.ab g a).gl.terms)[1]?=some (encT a.tm):=rfl
  have hrow2:(rowsT (G.ab g a).gl.terms)[0]?=some (encT (T.sym g).tm):=rfl
  (repeat' first|(refine kk ?_;intros)|refine kfk ?_ ?_<;>intro hb|fail)
  rename_i b2 b3 b4
  cases hm:(putO st.bind a).bind fun x=>markAdd st.marks x (T.sym g).tm.name with
  | none=>
   rw [show reqF st (.ab g a)=none from hv.trans (by rw [hm])]
   (repeat' first|(refine kk ?_;intros)|refine kfk ?_ ?_<;>intro hb|fail)
   refine kr2 (rvw ?_) (rvV (.refl _))
   (exact wV)
  | some ms=>
   rw [show reqF st (.ab g a)=settleF ⟨st.next,st.bind,st.dis,st.kinds,ms⟩ from hv.trans (by rw [hm])]
   have hms:MB tags ms:=by
    obtain ⟨x,hx,hk⟩:=Option.bind_eq_some_iff.1 hm
    have hx2:=put_some hx
    have hf:=fit_subS (fun b hb=>(hbind.sbfit b hb).2) ha.2.fit (s:=st.bind)
    rw [hx2.2] at hf
    exact hsp.mrk.add ha.1 hgt (fun v hv=>hf.1 v hv) hk
   have hsp2:∃ tags,tags.length≤10000000∧SP tags ⟨st.next,st.bind,st.dis,st.kinds,ms⟩:=⟨tags,htl,⟨⟨hbind,hpre.dis,hpre.kinds,hms.ok⟩,hms,hsp.dl,hsp.nx⟩⟩
   (repeat' first|(refine kkS [] [128] ?_;intros)|fail)
   refine aoA [abox b4 zCs 53,abox b3 (encG (G.ab g a).gl) 59,abox b2 (encStt (⟨st.next,st.bind,st.dis,st.kinds,ms⟩:Stt)) 53] (by rfl) ?_
   generalize (⟨st.next,st.bind,st.dis,st.kinds,ms⟩:Stt)=s2 at hsp2 ⊢
   (repeat' first|(refine kk ?_;intros)|refine kfk ?_ ?_<;>intro hb|fail)
   cases hs:settleF s2 with
   | none=>
    (repeat' first|(refine kk ?_;intros)|refine kfk ?_ ?_<;>intro hb|fail)
    refine kr2 (rvw ?_) (rvV (.refl _))
    (exact wV)
   | some s3=>
    (repeat' first|(refine kk ?_;intros)|refine kfk ?_ ?_<;>intro hb|fail)
    refine kr2 (rvw ?_) (rvV (.refl _))
    (exact wV)
 | fail=>
  (repeat' first|(refine kk ?_;intros)|refine kfk ?_ ?_<;>intro hb|fail)
  refine kr2 (rvw ?_) (rvV (.refl _))
  (exact wV)
 | all l=>
  (repeat' first|(refine kk ?_;intros)|refine kfk ?_ ?_<;>intro hb|fail)
  refine kr2 (rvw ?_) (rvV (.refl _))
  (exact wV)
 | any l=>
  (repeat' first|(refine kk ?_;intros)|refine kfk ?_ ?_<;>intro hb|fail)
  refine kr2 (rvw ?_) (rvV (.refl _))
  (exact wV)
 | call s l=>
  (repeat' first|(refine kk ?_;intros)|refine kfk ?_ ?_<;>intro hb|fail)
  refine kr2 (rvw ?_) (rvV (.refl _))
  (exact wV)
 | non s l=>
  (repeat' first|(refine kk ?_;intros)|refine kfk ?_ ?_<;>intro hb|fail)
  refine kr2 (rvw ?_) (rvV (.refl _))
  (exact wV)⟩
end
end Go.Proofs.YtejkllmoofdpjaaGreat
