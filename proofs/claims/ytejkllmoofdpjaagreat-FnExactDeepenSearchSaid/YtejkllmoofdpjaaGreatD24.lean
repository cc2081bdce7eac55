/- Parts of the proof: V43 V45. -/
import Derived.Test.YtejkllmoofdpjaaGreatD23
namespace Go.Proofs.YtejkllmoofdpjaaGreat
open Go
set_option linter.all false
set_option maxRecDepth 100000
set_option maxHeartbeats 4000000
section
open Go Go.Sort
noncomputable section
theorem lessK_c (p:Nat) {u:Value} {b n c:Nat} (hu:u=.slice (some ⟨b,0,none⟩) n c) (d:Array (Nat × Int)) (hd:d.size=n) (hn:n≤1000000) (i j:Nat) (hi:i < n) (hj:j < n) :
 Spec Tryz.prog 227 [nv i,nv j,.one (.v (.pointer (some ⟨p,0,none⟩)))] [abox p [.v u] 50,arow 186 2 u (d.toList.map eK)] fun v A'=>v=bv (decide (d[i]!.1 < d[j]!.1))∧A'=[abox p [.v u] 50,arow 186 2 u (d.toList.map eK)]:=by
 subst hu
 subst hd
 have hlen:(d.toList.map eK).length=d.size:=by simp
 have r1:(d.toList.map eK)[i]?=some [.v (.int .i64 (d[i]!.1:Int)),.v (.int .i64 d[i]!.2)]:=by simp [hi,eK,encK]
 have r2:(d.toList.map eK)[j]?=some [.v (.int .i64 (d[j]!.1:Int)),.v (.int .i64 d[j]!.2)]:=by simp [hj,eK,encK]
 generalize d[i]! = x at r1 ⊢
 generalize d[j]! = y at r2 ⊢
 refine sp Tryz.func227 rfl Tryz.ntmps227 rfl rfl fun C=>?_
 (repeat' first|(refine kk ?_;intros)|refine kfk ?_ ?_<;>intro hb|fail)
 refine kar ?_ (h:=P_load1R (j:=i) (o:=0) (sz:=2) _ rfl (by repeat (first|exact List.Mem.head _|apply List.Mem.tail)) r1 rfl)
 (repeat' first|(refine kk ?_;intros)|refine kfk ?_ ?_<;>intro hb|fail)
 refine kar ?_ (h:=P_load1R (j:=j) (o:=0) (sz:=2) _ rfl (by repeat (first|exact List.Mem.head _|apply List.Mem.tail)) r2 rfl)
 (repeat' first|(refine kk ?_;intros)|refine kfk ?_ ?_<;>intro hb|fail)
 exact ker1 _ ⟨rfl,rfl⟩ (hle:=le_eq (by rw [decide_eq_decide.2 (show (x.1:Int) < y.1↔x.1 < y.1 by omega)]))
instance addKind_c:Con4 Tryz.prog 183 Sb Ks T Int vS vK vT iv (fun s l t k=>optK ((putO s t).bind fun x=>kindAdd l x k)) (fun s l t k=>Sub s∧KOk l∧t.okT∧(k=2∨k=3)):=⟨fun s l t k ⟨hs,hl,ht,hk⟩=>by
 haveI:=substYes_i
 haveI:=termYes_i
 haveI:=kindsYes_i
 have hlen:((l.map toK).map encK).length=l.length:=by simp
 have hl1:=hl.lng
 have hl2:=hl.len
 have p1:PutOk s∧t.fit:=⟨hs.vok.putOk,ht.fit⟩
 refine pu Tryz.func183 rfl Tryz.ntmps183 rfl rfl fun C=>?_
 (repeat' first|(refine kkz ?_;intros)|refine kfk ?_ ?_<;>intro hb|fail)
 all_goals
  cases hx:putO s t with
  | none=>
   (repeat' first|(refine kkz ?_;intros)|refine kfk ?_ ?_<;>intro hb|fail)
   exact kr2 rvN (rvT rfl)
  | some x=>
   have hx1:=put_some hx
   cases x with
   | var v=>
    (repeat' first|(refine kkz ?_;intros)|refine kfk ?_ ?_<;>intro hb|fail)
    rename_i b6 b10 u0 u1 b12
    refine kfor (ι:=Unit) l (fun j _=>[(3,iv k),(10,.one (.v (.pointer (some ⟨b10,0,none⟩)))),(12,.one (.v (.pointer (some ⟨b12,0,none⟩)))),(55,vK l)]) (fun j _=>[abox b12 [.v u1] 50,arow 186 2 u1 ((l.map toK).map encK),abox b10 [.v (.int .i64 1),.v (.int .i64 (v:Int)),.v (.string noS),.s 4 []] 174]) (fun j _=>∀ b∈l.take j,b.1≠v) () (by simp) ?_ ?_
    ·rintro j ⟨w,kk⟩ _ hj hdd hjl hp
     have hrow:((l.map toK).map encK)[j]?=some [.v (.int .i64 (w:Int)),.v (.int .i64 kk)]:=by simp [hj,encK]
     by_cases hw:w=v
     ·subst hw
      have hg:=kGet_of_mem hl.asc (List.mem_of_getElem? hj)
      rw [show ((some (T.var w)).bind fun x=>kindAdd l x k)=if kk=k then some l else none from kindAdd_old hg]
      by_cases hkk:kk=k
      ·rw [if_pos hkk]
       (repeat' first|(refine kkz ?_;intros)|refine kfk ?_ ?_<;>intro hb|fail)
       exact kr2 (rvR rfl) (rvT rfl)
      ·rw [if_neg hkk]
       (repeat' first|(refine kkz ?_;intros)|refine kfk ?_ ?_<;>intro hb|fail)
       exact kr2 rvN (rvT rfl)
     ·have hw':¬ (w:Int)=v:=by omega
      (repeat' first|(refine kkz ?_;intros)|refine kfk ?_ ?_<;>intro hb|fail)
      exact ⟨(),take_succ_allP hj hp hw,kwk⟩
    ·intro _ hp
     rw [List.take_length] at hp
     have hg:kGet l v=none:=kGet_none.2 hp
     rw [show ((some (T.var v)).bind fun x=>kindAdd l x k)=some (kIns v k l) from kindAdd_new hg]
     (repeat' first|(refine kkz ?_;intros)|refine kfk ?_ ?_<;>intro hb|fail)
     rename_i u2
     refine kr ?_ (h:=P_iface _ rfl)
     (repeat' first|(refine kkS [226] [] ?_;intros)|refine kfS [226] [] ?_ ?_<;>intro hb|fail)
     refine kcs (A1:=[abox b10 [.v (.int .i64 1),.v (.int .i64 (v:Int)),.v (.string noS),.s 4 []] 174]) (h:=sortS_c (t:=50) (e:=186) swo_fst (by simp) eK [abox b12 [.v u2] 50] (g:=227) (capL:=[.pointer (some ⟨b12,0,none⟩)]) u2 (l++[(v,k)]).toArray (by simp;omega) ?_) ?_ (hA:=perm_rw3 (X:=((l.map toK).map encK)++[encK (toK (v,k))]) (Y:=(l++[(v,k)]).toArray.toList.map eK) (by simp [eK]))
     ·intro bb c hu d' i j h1 h2 h3
      exact CallV.of_spec (by rfl) (lessK_c b12 hu d' h1 (by simp;omega) i j h2 h3)
     ·rintro _ _ ⟨d',rfl,h1,h2⟩
      have hd:=kIns_sort (v:=v) (x:=k) hl.asc hg (d':=d') (by simpa using h1) (by simpa using h2)
      rw [hd]
      (repeat' first|(refine kk ?_;intros)|refine kfk ?_ ?_<;>intro hb|fail)
      refine kr2 (rvR ?_) (rvT rfl)
      simp [eK]
   | _=>
    (repeat' first|(refine kkz ?_;intros)|refine kfk ?_ ?_<;>intro hb|fail)
    ·rw [show (Option.bind (some _) fun x=>kindAdd l x k)=none from (kindAdd_leaf (by intros;simp)).trans (if_neg (by exact hb))]
     exact kr2 rvN (rvT rfl)
    ·rw [show (Option.bind (some _) fun x=>kindAdd l x k)=some l from (kindAdd_leaf (by intros;simp)).trans (if_pos (by exact hb))]
     exact kr2 (rvR rfl) (rvT rfl)⟩
end
end
section
open Go Go.Sort
noncomputable section
open Classical
theorem lessM_c (p:Nat) {u:Value} {b n c:Nat} (hu:u=.slice (some ⟨b,0,none⟩) n c) (d:Array (Nat × ByteArray)) (hd:d.size=n) (hn:n≤1152921504606846976) (i j:Nat) (hi:i < n) (hj:j < n) :
 Spec Tryz.prog 230 [nv i,nv j,.one (.v (.pointer (some ⟨p,0,none⟩)))] [abox p [.v u] 51,arow 189 2 u (d.toList.map eM)] fun v A'=>v=bv (ltC cMk d[i]! d[j]!)∧A'=[abox p [.v u] 51,arow 189 2 u (d.toList.map eM)]:=by
 subst hu
 subst hd
 have hlen:(d.toList.map eM).length=d.size:=by simp
 have r1:(d.toList.map eM)[i]?=some (encM (toM d[i]!)):=by simp [hi,eM]
 have r2:(d.toList.map eM)[j]?=some (encM (toM d[j]!)):=by simp [hj,eM]
 generalize d[i]! = x at r1 ⊢
 generalize d[j]! = y at r2 ⊢
 refine sp Tryz.func230 rfl Tryz.ntmps230 rfl rfl fun C=>?_
 (repeat' first|(refine kk ?_;intros)|refine kfk ?_ ?_<;>intro hb|fail)
 refine kar ?_ (h:=P_loadNR (j:=i) (o:=0) (sz:=2) _ rfl (by repeat (first|exact List.Mem.head _|apply List.Mem.tail)) r1 rfl rfl)
 (repeat' first|(refine kk ?_;intros)|refine kfk ?_ ?_<;>intro hb|fail)
 refine kar ?_ (h:=P_loadNR (j:=j) (o:=0) (sz:=2) _ rfl (by repeat (first|exact List.Mem.head _|apply List.Mem.tail)) r2 rfl rfl)
 (repeat' first|(refine kk ?_;intros)|refine kfk ?_ ?_<;>intro hb|fail)
 exact ker1 _ ⟨rfl,rfl⟩ (hle:=le_eq (congrArg bv (decide_eq_decide.2 Iff.rfl)))
def inM (L:List (Nat × ByteArray)):Nat × ByteArray→Option Unit:=fun m=>if m∈L then some () else none
theorem inM_put {L:List (Nat × ByteArray)} {m:Nat × ByteArray}:cput (inM L) m ()=inM (L++[m]):=by
 funext x
 unfold cput inM
 by_cases h:x=m<;>simp [h]
theorem inM_nil:inM []=fun _=>none:=by funext x;simp [inM]
instance addAbs_c:Con4 Tryz.prog 184 Sb Ms T ByteArray vS vM vT sv (fun s l t g=>optM ((putO s t).bind fun x=>markAdd l x g)) (fun s l t g=>Sub s∧MOk l∧l.length≤1099511627776∧t.okT∧NameP g):=⟨fun s l t g ⟨hs,hl,hl1,ht,hg⟩=>by
 haveI:=substYes_i
 haveI:=termYes_i
 haveI:=marksYes_i
 haveI:=nameYes_i
 have hlen:((l.map toM).map encM).length=l.length:=by simp
 have hlg:Lng l.length:=by unfold Lng;omega
 have q1:MOk l∧Lng l.length:=⟨hl,hlg⟩
 have q2:Lng g.size∧NameP g:=⟨nameP_lng hg,hg⟩
 have p1:PutOk s∧t.fit:=⟨hs.vok.putOk,ht.fit⟩
 refine pu Tryz.func184 rfl Tryz.ntmps184 rfl rfl fun C=>?_
 (repeat' first|(refine kkz ?_;intros)|refine kfk ?_ ?_<;>intro hb|fail)
 cases hx:putO s t with
 | none=>
  (repeat' first|(refine kkz ?_;intros)|refine kfk ?_ ?_<;>intro hb|fail)
  exact kr2 rvN (rvT rfl)
 | some x=>
  have hx1:=put_some hx
  (repeat' first|(refine kkz ?_;intros)|refine kfk ?_ ?_<;>intro hb|fail)
  ·rw [show ((some x).bind fun x=>markAdd l x g)=none from if_pos hb]
   exact kr2 rvN (rvT rfl)
  ·refine kmm kvM setv fun mb=>?_
   (repeat' first|(refine kkz ?_;intros)|refine kfk ?_ ?_<;>intro hb|fail)
   rename_i b6 b7 b10 b12
   refine kfor (ι:=Unit) l (fun j _=>[(7,.one (.v (.pointer (some ⟨b7,0,none⟩)))),(10,.one (.v (.pointer (some ⟨b10,0,none⟩)))),(12,.one (.v (.pointer (some ⟨b12,0,none⟩)))),(49,vM l)]) (fun j _=>[abox b12 [.v (.map (some mb))] 290,amap kvM mb (gm setv (inM (l.take j))),abox b10 (encT x.tm) 174,abox b7 [.v (.string g)] 9]) (fun j _=>True) () trivial ?_ ?_ (kwk (hs:=by rw [show inM (l.take 0)=fun _=>none from inM_nil];(exact wS)))
   ·rintro j ⟨v,k⟩ _ hj hdd hjl _
    have hrow:((l.map toM).map encM)[j]?=some [.v (.int .i64 (v:Int)),.v (.string k)]:=by simp [hj,encM]
    have ht1:l.take (j+1)=l.take j++[(v,k)]:=by rw [List.take_add_one,hj];rfl
    (repeat' first|(refine kk ?_;intros)|refine kfk ?_ ?_<;>intro hb|fail)
    refine kmu 2 (m:=(v,k)) (c:=inM (l.take j)) (v:=()) ?_
    rw [inM_put,← ht1]
    (repeat' first|(refine kk ?_;intros)|refine kfk ?_ ?_<;>intro hb|fail)
    exact ⟨(),trivial,kwk⟩
   ·intro _ _
    rw [List.take_length]
    (repeat' first|(refine kkS [209] [] ?_;intros)|refine kfS [209] [] ?_ ?_<;>intro hb|fail)
    refine kcs (A1:=[abox b10 (encT x.tm) 174]) (h:=eachVar_c (g:=229) (cap:=[.pointer (some ⟨b12,0,none⟩),.pointer (some ⟨b7,0,none⟩)]) (by rfl) (fun vs A'=>A'=[abox b12 [.v (.map (some mb))] 290,amap kvM mb (gm setv (inM (l++vs.map fun v=>(v,g)))),abox b7 [.v (.string g)] 9]) x [] _ ?_ rfl) ?_ (hA:=by simp only [List.map_nil,List.append_nil];exact List.perm_middle (l₁:=[_,_]) (l₂:=[_]))
    ·rintro vs v A' hv rfl
     refine sp Tryz.func229 rfl Tryz.ntmps229 rfl rfl fun C=>?_
     (repeat' first|(refine kk ?_;intros)|refine kfk ?_ ?_<;>intro hb|fail)
     refine kmu 1 (m:=(v,g)) (c:=inM (l++vs.map fun v=>(v,g))) (v:=()) ?_
     rw [inM_put,show (l++vs.map fun v=>(v,g))++[(v,g)]=l++(vs++[v]).map fun v=>(v,g) by simp]
     (repeat' first|(refine kk ?_;intros)|refine kfk ?_ ?_<;>intro hb|fail)
     exact ker0 rfl
    ·rintro _ A' rfl
     rw [List.nil_append]
     generalize hL:(l++x.vars.map fun v=>(v,g))=L
     have hLl:L.length≤1099511627776+5000:=by
      have h1:=vars_len x
      have h2:=hx1.1
      rw [hx1.2] at h2
      rw [← hL];simp;omega
     rw [show ((some x).bind fun x=>markAdd l x g)=some (sortU cMk L) from (if_neg hb).trans (by rw [hL])]
     (repeat' first|(refine kkz ?_;intros)|refine kfk ?_ ?_<;>intro hb|fail)
     rename_i u0 b15
     refine krg 4 ?_
     intro q T
     (repeat' first|(refine kkz ?_;intros)|refine kfk ?_ ?_<;>intro hb|fail)
     refine kloop (ι:=Value × List (Nat × ByteArray)) (fun z=>T - z.2.length) (fun z=>[(15,.one (.v (.pointer (some ⟨b15,0,none⟩)))),(63,.one (.v (.pointer (some ⟨q,0,none⟩))))]) (fun z=>[abox b15 [.v z.1] 51,arow 189 2 z.1 (z.2.map eM),amapI kvM mb q (gm setv (inM L)) T z.2]) (fun z=>z.2.length≤T∧z.2.Nodup∧∀ m∈z.2,m∈L) (u0,[]) ⟨Nat.zero_le _,by simp,by simp⟩ ?_
     rintro ⟨u,ks⟩ ⟨h1,h2,h3⟩
     simp only at h1 h2 h3
     dsimp only
     have hkl:ks.length≤L.length:=nodup_len h2 h3
     have hkl2:(ks.map eM).length=ks.length:=by simp
     (repeat' first|(refine kkz ?_;intros)|refine kfk ?_ ?_<;>intro hb|fail)
     refine knx 2 ?_ ?_
     ·intro e1 e2 e3
      have hks:∀ m,m∈ks↔m∈L:=fun m=>⟨h3 m,fun hm=>e1 m (by simp [gm,inM,hm])⟩
      (repeat' first|(refine kkz ?_;intros)|refine kfk ?_ ?_<;>intro hb|fail)
      refine kunO 2 ?_
      refine kr ?_ (h:=P_iface _ rfl)
      (repeat' first|(refine kkS [226] [] ?_;intros)|refine kfS [226] [] ?_ ?_<;>intro hb|fail)
      refine kcs (A1:=[amap kvM mb (gm setv (inM L))]) (h:=sortS_c (t:=51) (e:=189) cMk_tot.swo (by simp) eM [abox b15 [.v u] 51] (g:=230) (capL:=[.pointer (some ⟨b15,0,none⟩)]) u ks.toArray (by simp;omega) ?_) ?_ (hA:=List.perm_append_comm (l₁:=[_,_]) (l₂:=[_]))
      ·intro bb c hu d' i j g1 g2 g3
       exact CallV.of_spec (by rfl) (lessM_c b15 hu d' g1 (by simp;omega) i j g2 g3)
      ·rintro _ _ ⟨d',rfl,g1,g2⟩
       have hd:d'.toList=sortU cMk L:=(sort_strict cMk_tot (d:=ks.toArray) g1 g2 (by simpa using h2)).trans (sortU_congr cMk_tot fun m=>by simpa using hks m)
       rw [hd]
       (repeat' first|(refine kk ?_;intros)|refine kfk ?_ ?_<;>intro hb|fail)
       refine kr2 (rvR ?_) (rvT rfl)
       simp [eM]
     ·intro m hm hg0 hT
      have hmL:m∈L:=by
       by_cases h:m∈L
       ·exact h
       ·exact absurd (by simp [gm,inM,h]) hg0
      have hgn:gm setv (inM L) m=some (bv true):=by simp [gm,inM,hmL,setv]
      (repeat' first|(refine kkz ?_;intros)|refine kfk ?_ ?_<;>intro hb|fail)
      refine kr ?_ (h:=P_entry (ka:=mAV) _ rfl (by repeat (first|exact List.Mem.head _|apply List.Mem.tail)) hgn)
      (repeat' first|(refine kkz ?_;intros)|refine kfk ?_ ?_<;>intro hb|fail)
      rename_i u1
      refine ⟨(u1,ks++[m]),?_,⟨?_,?_,?_⟩,?_⟩
      ·simp at hT ⊢;omega
      ·simp at hT ⊢;omega
      ·rw [List.nodup_append]
       refine ⟨h2,by simp,fun a ha b hb e=>hm ?_⟩
       simp at hb;subst hb;subst e
       exact ha
      ·intro x hx
       rcases List.mem_append.1 hx with hx|hx
       ·exact h3 x hx
       ·simp at hx;subst hx;exact hmL
      ·show Wk _ _ _ [_,arow _ 2 _ (List.map eM (ks++[m])),amapI _ _ _ _ _ (ks++[m])]
       rw [List.map_append]
       exact kwk⟩
end
end
end Go.Proofs.YtejkllmoofdpjaaGreat
