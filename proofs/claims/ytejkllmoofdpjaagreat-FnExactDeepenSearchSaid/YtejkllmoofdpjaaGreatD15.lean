/- Parts of the proof: V60 V38 VZ1 VZ2. -/
import Derived.Test.YtejkllmoofdpjaaGreatD14
import Derived.Sort.AssemblyPlain
namespace Go.Proofs.YtejkllmoofdpjaaGreat
open Go
set_option linter.all false
set_option maxRecDepth 100000
set_option maxHeartbeats 4000000
noncomputable section
class BoF (P:Program) (t:TypeId):Prop where
 und:P.underlying t=some .bool
instance boF:BoF Tryz.prog 4:=⟨Tryz.underlying4⟩
theorem P_neB {P:Program} {f:AF} {A:List Atm} {d:Option Tmp} {ty:TypeId} {pos:String} {aft:Array Edge} {gg:Option (Nat × Bool)} {xt yt:TypeId} [G:BoF P xt] (x y:Operand) {a b:Bool} (hx:eva f x=bv a) (hy:eva f y=bv b):PuO P f A ⟨d,.binOp .neq xt x y yt,ty,pos,aft,gg⟩ (bv (a != b)):=P_ex2 x y rfl hx hy rfl fun w r h1 h2=>by
 have e:runC P w (Op.equal xt (.bool a) (.bool b))=some (a == b):=by
  unfold Op.equal
  rw [show Op.maxDepth=9999+1 from rfl]
  unfold Op.equalIn
  rw [runC_bind,runC_underlying G.und]
  rfl
 simp only [execOp,h1,h2,eqGuard,binOp]
 simp only [runC_bind,runC_pure,bind_assoc,e,Option.bind_some]
 rfl
theorem lexC_drop {α:Type} {c:α→α→Int} {l m:List α} {i:Nat} {x y:α} (hl:l[i]?=some x) (hm:m[i]?=some y):lexC c (l.drop i) (m.drop i)=if c x y≠0 then c x y else lexC c (l.drop (i+1)) (m.drop (i+1)):=by
 obtain ⟨h1,rfl⟩:=List.getElem?_eq_some_iff.1 hl
 obtain ⟨h2,rfl⟩:=List.getElem?_eq_some_iff.1 hm
 rw [List.drop_eq_getElem_cons h1,List.drop_eq_getElem_cons h2]
 rfl
theorem lexC_end {α:Type} {c:α→α→Int} {l m:List α} {i:Nat} (h1:i≤l.length) (h2:i≤m.length) (h:i=l.length∨i=m.length):lexC c (l.drop i) (m.drop i)=cI (l.length:Int) m.length:=by
 unfold cI
 rcases h with rfl|rfl
 ·rw [List.drop_length]
  by_cases e:l.length=m.length
  ·rw [e,List.drop_length];simp [lexC]
  ·rw [List.drop_eq_getElem_cons (show l.length < m.length by omega),if_pos (by omega)];rfl
 ·rw [List.drop_length]
  by_cases e:l.length=m.length
  ·rw [← e,List.drop_length];simp [lexC]
  ·rw [List.drop_eq_getElem_cons (show m.length < l.length by omega),if_neg (by omega),if_pos (by omega)];rfl
end
noncomputable section
instance less_s:Con2 Tryz.prog 238 (Nat × ByteArray) (Nat × ByteArray) mAV mAV (fun a b=>bp (cMk a b=-1)) (fun _ _=>True):=⟨fun a b _=>by
 obtain ⟨v,s⟩:=a
 obtain ⟨w,t⟩:=b
 refine pu Tryz.func238 rfl Tryz.ntmps238 rfl rfl fun C=>?_
 (repeat' first|(refine kk ?_;intros)|refine kfk ?_ ?_<;>intro hb|fail)
 ·have hb:(v:Int) < w:=hb
  exact kret (bpT (cMk_less.2 (.inl (by simp only;omega))))
 ·have hb:(v:Int)=w:=hb
  have hv:v=w:=by omega
  exact kret (bpI ⟨fun h=>cMk_less.2 (.inr ⟨hv,h⟩),fun h=>((cMk_less.1 h).resolve_left (by simp only;omega)).2⟩)
 ·rename_i g1
  have g1:¬ (v:Int) < w:=g1
  have hb:¬ (v:Int)=w:=hb
  exact kret (bpF fun h=>by have:=cMk_less.1 h;simp only at this;omega)⟩
instance contains_s:Con2 Tryz.prog 292 T ByteArray vT sv (fun t s=>bp (t.hasSym s)) (fun _ _=>True):=.ind (fun t _=>t.nodes) fun N ih t s hN _=>by
 refine pu Tryz.func292 rfl Tryz.ntmps292 rfl rfl fun C=>?_
 cases t with
 | pair a b=>
  have:=nodes_pos a
  have:=nodes_pos b
  simp only [T.nodes] at hN
  have s1:a.nodes < N∧True:=⟨by omega,trivial⟩
  have s2:b.nodes < N∧True:=⟨by omega,trivial⟩
  (repeat' first|(refine kk ?_;intros)|refine kfk ?_ ?_<;>intro hb|fail)
  refine kun3 ?_
  (repeat' first|(refine kk ?_;intros)|refine kfk ?_ ?_<;>intro hb|fail)
  ·exact kret (bpT (.inl hb))
  ·exact kret (bpT (.inr hb))
  ·rename_i g1 _
   exact kret (bpF fun h=>h.elim g1 hb)
 | sym n=>
  (repeat' first|(refine kk ?_;intros)|refine kfk ?_ ?_<;>intro hb|fail)
  refine kun3 ?_
  (repeat' first|(refine kk ?_;intros)|refine kfk ?_ ?_<;>intro hb|fail)
  exact kret (bpI (p:=n=s) ⟨fun h=>bytes_ext' (eq_of_beq h),fun h=>by subst h;exact beq_self_eq_true _⟩)
 | _=>
  (repeat' first|(refine kk ?_;intros)|refine kfk ?_ ?_<;>intro hb|fail)
  refine kun3 ?_
  (repeat' first|(refine kk ?_;intros)|refine kfk ?_ ?_<;>intro hb|fail)
  exact kret (bpF fun h=>h)
theorem kindRes_eq {l:Ks} {j k:Int} {o:Option Ks} (h:o=if j=k then some l else none):AV.tup [vK (o.getD l),bv o.isSome]=.tup [vK l,bv (j == k)]:=by
 subst h
 by_cases e:j=k<;>simp [e]
theorem kindAdd_leaf {l:Ks} {x:T} {k:Int} (hx:∀ v,x≠.var v):kindAdd l x k=if x.kind=k then some l else none:=by
 cases x<;>first|exact absurd rfl (hx _)|rfl
theorem kindAdd_old {l:Ks} {v:Nat} {j k:Int} (h:kGet l v=some j):kindAdd l (.var v) k=if j=k then some l else none:=by
 unfold kindAdd;simp only [h]
theorem kindAdd_new {l:Ks} {v:Nat} {k:Int} (h:kGet l v=none):kindAdd l (.var v) k=some (kIns v k l):=by
 unfold kindAdd;simp only [h]
instance kind_s:Con3 Tryz.prog 242 Ks T Int vK vT iv (fun l x k=>.tup [vK ((kindAdd l x k).getD l),bv (kindAdd l x k).isSome]) (fun l _ _=>KOk l):=⟨fun l x k hl=>by
 have hlen:((l.map toK).map encK).length=l.length:=by simp
 have hl1:=hl.lng
 have hl2:=hl.len
 refine pu Tryz.func242 rfl Tryz.ntmps242 rfl rfl fun C=>?_
 cases x with
 | var v=>
  (repeat' first|(refine kkz ?_;intros)|refine kfk ?_ ?_<;>intro hb|fail)
  rename_i b4
  refine kloop (ι:=Nat) (fun i=>l.length - i) (fun i=>[(0,vK l),(2,iv k),(4,.one (.v (.pointer (some ⟨b4,0,none⟩)))),(8,nv i)]) (fun _=>[abox b4 [.v (.int .i64 1),.v (.int .i64 (v:Int)),.v (.string noS),.s 4 []] 174]) (fun i=>i≤l.length∧∀ b∈l.take i,b.1 < v) 0 ⟨Nat.zero_le _,by simp⟩ ?_
  rintro i ⟨h1,h2⟩
  have tk:((l.map toK).map encK).take i=((l.take i).map toK).map encK:=by simp
  have dk:((l.map toK).map encK).drop i=((l.drop i).map toK).map encK:=by simp
  have key:(∀ b,l[i]?=some b→¬ b.1 < v)→((((l.take i).map toK).map encK++[encK (toK (v,k))])++((l.drop i).map toK).map encK)=((kIns v k l).map toK).map encK:=fun g1=>by
   rw [kIns_at h1 h2 g1];simp
  by_cases hi:i < l.length
  ·obtain ⟨⟨w,j⟩,hy⟩:∃ y,l[i]?=some y:=⟨l[i],List.getElem?_eq_getElem hi⟩
   have hrow:((l.map toK).map encK)[i]?=some [.v (.int .i64 (w:Int)),.v (.int .i64 j)]:=by simp [hy,encK]
   by_cases hw:w < v
   ·have hw':(w:Int) < v:=by omega
    (repeat' first|(refine kkz ?_;intros)|refine kfk ?_ ?_<;>intro hb|fail)
    refine ⟨i+1,by omega,⟨by omega,fun b hb=>?_⟩,kwk⟩
    rw [List.take_add_one,hy] at hb
    rcases List.mem_append.1 hb with hb|hb
    ·exact h2 b hb
    ·obtain rfl:b=(w,j):=by simpa using hb
     exact hw
   ·have hw':¬ (w:Int) < v:=by omega
    have hg:=kGet_at hl.asc h2 hy hw
    simp only at hg
    by_cases he:w=v
    ·have he':(w:Int)=v:=by omega
     rw [if_pos he] at hg
     rw [kindRes_eq (kindAdd_old hg)]
     (repeat' first|(refine kkz ?_;intros)|refine kfk ?_ ?_<;>intro hb|fail)
     exact kr2 (rvT rfl) (rvT rfl)
    ·have he':¬ (w:Int)=v:=by omega
     rw [if_neg he] at hg
     rw [kindAdd_new hg]
     (repeat' first|(refine kkz ?_;intros)|refine kfk ?_ ?_<;>intro hb|fail)
     refine kr2 (rvR ?_) (rvT rfl)
     have:=key fun b hb=>by rw [hy] at hb;cases hb;exact hw
     simpa [encK,putD] using this
  ·obtain rfl:i=l.length:=by omega
   have hg:=kGet_end (l:=l) (v:=v) (by simpa using h2)
   rw [kindAdd_new hg]
   (repeat' first|(refine kkz ?_;intros)|refine kfk ?_ ?_<;>intro hb|fail)
   refine kr2 (rvR ?_) (rvT rfl)
   have:=key fun b hb=>by simp at hb
   have e1:List.take l.length (List.map (encK ∘ toK) l)=List.map (encK ∘ toK) l:=List.take_of_length_le (by simp)
   have e2:List.drop l.length (List.map (encK ∘ toK) l)=[]:=List.drop_of_length_le (by simp)
   simpa [encK,putD,e1,e2] using this
 | _=>
  rw [kindRes_eq (kindAdd_leaf (by intros;simp))]
  (repeat' first|(refine kkz ?_;intros)|refine kfk ?_ ?_<;>intro hb|fail)
  exact kr2 (rvT rfl) (rvT rfl)⟩
end
section
open Go Go.Sort
section
variable {α:Type} [Inhabited α] {lt:α→α→Bool}
def Sw (d:Array α) (a b k:Nat) (d':Array α):Prop:=d'.size=d.size∧∀ i,d'[i]! = if a≤i∧i < a+k then d[b+(i - a)]! else if b≤i∧i < b+k then d[a+(i - b)]! else d[i]!
theorem Sw.zero {d:Array α} {a b:Nat}:Sw d a b 0 d:=⟨rfl,fun i=>by rw [if_neg (by omega),if_neg (by omega)]⟩
theorem Sw.step {d d':Array α} {a b k:Nat} (h:Sw d a b k d') (hab:a+k < b) (hb:b+k < d.size):Sw d a b (k+1) (swp d' (a+k) (b+k)):=by
 refine ⟨by rw [size_swp,h.1],fun i=>?_⟩
 rw [swp_get d' (by rw [h.1];omega) (by rw [h.1];omega),h.2,h.2,h.2]
 (repeat' split)<;>first|omega|rfl|(congr 1;omega)
def Rot (d:Array α) (a m b:Nat) (d':Array α):Prop:=d'.size=d.size∧∀ i,d'[i]! = if a≤i∧i < a+(b - m) then d[m+(i - a)]! else if a+(b - m)≤i∧i < b then d[a+(i - (a+(b - m)))]! else d[i]!
theorem Rot.eq {d d':Array α} {m i:Nat} (hi:i≤m) (h:Sw d (m - i) m i d'):Rot d (m - i) m (m+i) d':=by
 refine ⟨h.1,fun k=>?_⟩
 rw [h.2]
 (repeat' split)<;>first|omega|rfl|(congr 1;omega)
theorem Rot.left {d d1 d':Array α} {m i j:Nat} (hi:i≤m) (hij:j < i) (h:Sw d (m - i) m j d1) (k:Rot d1 (m - (i - j)) m (m+j) d'):Rot d (m - i) m (m+j) d':=by
 refine ⟨k.1.trans h.1,fun x=>?_⟩
 rw [k.2,h.2,h.2,h.2]
 (repeat' split)<;>first|omega|rfl|(congr 1;omega)
theorem Rot.right {d d1 d':Array α} {m i j:Nat} (hi:i≤m) (hij:i < j) (h:Sw d (m - i) (m+j - i) i d1) (k:Rot d1 (m - i) m (m+(j - i)) d'):Rot d (m - i) m (m+j) d':=by
 refine ⟨k.1.trans h.1,fun x=>?_⟩
 rw [k.2,h.2,h.2,h.2]
 (repeat' split)<;>first|omega|rfl|(congr 1;omega)
theorem sorted_le (hO:SWO lt) {a b:Nat} {d:Array α} (h:SortedIn lt a b d) {i j:Nat} (hi:a≤i) (hij:i≤j) (hj:j < b):lt d[j]! d[i]! = false:=by
 rcases Nat.eq_or_lt_of_le hij with rfl|hlt
 ·exact hO.irrefl _
 ·exact h i j hi hlt hj
def Under (lt:α→α→Bool) (a m b:Nat) (d:Array α):Prop:=∀ i j,a≤i→i < m→m≤j→j < b→lt d[j]! d[i]! = false
theorem Under.sorted {a m b:Nat} {d:Array α} (h:Under lt a m b d) (h1:SortedIn lt a m d) (h2:SortedIn lt m b d):SortedIn lt a b d:=fun i j hi hij hj=>by
 by_cases c:j < m
 ·exact h1 i j hi hij c
 ·by_cases c2:i < m
  ·exact h i j hi c2 (by omega) hj
  ·exact h2 i j (by omega) hij hj
theorem permIn_low {a m b:Nat} {d d':Array α} (h:Under lt a m b d) (hp:PermIn a m d d') (hm:m≤d.size):Under lt a m b d':=fun i j hi him hmj hj=>by
 rw [hp.2.1 j (.inr hmj)]
 exact permIn_all d d' a m (fun x=>lt d[j]! x=false) hm hp (fun i hi him=>h i j hi him hmj hj) i hi him
theorem permIn_high {a m b:Nat} {d d':Array α} (h:Under lt a m b d) (hp:PermIn m b d d') (hb:b≤d.size):Under lt a m b d':=fun i j hi him hmj hj=>by
 rw [hp.2.1 i (.inl him)]
 exact permIn_all d d' m b (fun x=>lt x d[i]! = false) hb hp (fun j hj hjb=>h i j hi him hj hjb) j hmj hj
theorem sorted_of {a b a' b':Nat} {d d':Array α} (h:SortedIn lt a' b' d) (e:∀ i,a≤i→i < b→d'[i]! = d[a'+(i - a)]!) (hb:a'+(b - a)≤b'):SortedIn lt a b d':=fun i j hi hij hj=>by
 rw [e i hi (by omega),e j (by omega) hj]
 exact h _ _ (by omega) (by omega) (by omega)
theorem sorted_same {a b:Nat} {d d':Array α} (h:SortedIn lt a b d) (e:∀ i,a≤i→i < b→d'[i]! = d[i]!):SortedIn lt a b d':=fun i j hi hij hj=>by
 rw [e i hi (by omega),e j (by omega) hj]
 exact h _ _ hi hij hj
structure Cut (lt:α→α→Bool) (d:Array α) (a m b mid start:Nat):Prop where
 lo:a≤start
 m1:start≤m
 m2:m≤mid+m - start
 hi:mid+m - start≤b
 sm:start≤mid
 le:∀ i j,a≤i→i < start→mid+m - start≤j→j < b→lt d[j]! d[i]! = false
 gt:∀ i j,start≤i→i < m→m≤j→j < mid+m - start→lt d[i]! d[j]! = false
theorem Cut.under {d d':Array α} {a m b mid start:Nat} (hO:SWO lt) (h:Cut lt d a m b mid start) (s1:SortedIn lt a m d) (s2:SortedIn lt m b d) (hmid:mid≤b) (hr:Rot d start m (mid+m - start) d'):Under lt a mid b d'∧SortedIn lt a start d'∧SortedIn lt start mid d'∧SortedIn lt mid (mid+m - start) d'∧SortedIn lt (mid+m - start) b d':=by
 obtain ⟨l1,l2,l3,l4,l5,hle,hgt⟩:=h
 have e1:∀ i,i < start→d'[i]! = d[i]!:=fun i hi=>by rw [hr.2,if_neg (by omega),if_neg (by omega)]
 have e2:∀ i,start≤i→i < mid→d'[i]! = d[m+(i - start)]!:=fun i hi hm=>by rw [hr.2,if_pos (by omega)]
 have e3:∀ i,mid≤i→i < mid+m - start→d'[i]! = d[start+(i - mid)]!:=fun i hi hm=>by
  rw [hr.2,if_neg (by omega),if_pos (by omega)];congr 2;omega
 have e4:∀ i,mid+m - start≤i→d'[i]! = d[i]!:=fun i hi=>by rw [hr.2,if_neg (by omega),if_neg (by omega)]
 refine ⟨fun i j hi him hmj hj=>?_,(fun i j hi hij hj=>by rw [e1 i (by omega),e1 j hj];exact s1 i j hi hij (by omega)),sorted_of s2 e2 (by omega),sorted_of (a':=start) (b':=m) (fun i j hi hij hj=>s1 i j (by omega) hij hj) e3 (by omega),fun i j hi hij hj=>?_⟩
 ·by_cases c1:i < start
  ·rw [e1 i c1]
   by_cases c2:j < mid+m - start
   ·rw [e3 j hmj c2];exact sorted_le hO s1 hi (by omega) (by omega)
   ·rw [e4 j (by omega)];exact hle i j hi c1 (by omega) hj
  ·rw [e2 i (by omega) him]
   by_cases c2:j < mid+m - start
   ·rw [e3 j hmj c2];exact hgt _ _ (by omega) (by omega) (by omega) (by omega)
   ·rw [e4 j (by omega)];exact sorted_le hO s2 (by omega) (by omega) hj
 ·rw [e4 i hi,e4 j (by omega)];exact s2 i j (by omega) hij hj
end
end
section
open Go Go.Sort
noncomputable section
section
variable {P:Program} {f:AF} {A:List Atm} {o:Oper}
theorem Opn.front {A1 B:List Atm} {Q':AV→List Atm→Prop} (h:Opn P f B o Q') (hA:A.Perm (A1++B)):Opn P f A o fun v A'=>∃ B',Q' v B'∧A'=A1++B':=fun M w r hp hx=>by
 have hp1:=hp.perm hA.symm
 have hmo:∀ b,MO (MO M A1) B b→MO M A b:=fun b hb=>((MO_app b).2 hb).imp id fun h=>(oA_perm hA).symm.subset h
 refine (h (MO M A1) w r hp1.front fun x hx'=>AV.grow (fun b _=>hmo b) (hx x hx')).mono ?_
 rintro u w' ⟨v,B',hq,hr,hs⟩
 have hs':=hs.front hp1
 refine ⟨v,_,⟨B',hq,rfl⟩,AV.grow (fun b _ hb=>(MO_app b).1 hb) hr,⟨hs'.mod.mono fun b hb=>(oA_perm hA).symm.subset hb,hs'.pre,fun b hb=>(hs'.new b hb).imp (fun h=>(oA_perm hA).symm.subset h) id⟩⟩
end
def CallV (P:Program) (u:Value) (as1:List AV) (A:List Atm) (Q':AV→List Atm→Prop):Prop:=
 ∀ (f:AF) (d:Option Tmp) (ty:TypeId) (pos:String) (aft:Array Edge) (gg:Option (Nat × Bool)) (c:Operand) (avs:Array Operand) (tys:Array TypeId),eva f c=.one (.v u)→avs.toList.map (eva f)=as1→Opn P f A ⟨d,.call {callee:=.value c,args:=avs,argTypes:=tys },ty,pos,aft,gg⟩ Q'
section
variable {P:Program}
theorem CallV.of_spec {g:Nat} [FnF P g] {cap:List Value} {as1:List AV} {A:List Atm} {Q':AV→List Atm→Prop} (h1:cap.all Value.oneCell'=true) (h:Spec P g (as1++capA cap) A Q'):CallV P (.func (.func g) #[] cap.toArray) as1 A Q':=fun _ _ _ _ _ _ _ _ _ hc ha=>O_clo hc ha h1 h
theorem CallV.of_ext {g:Nat} {cap:List Value} {as1:List AV} {A:List Atm} {Q':AV→List Atm→Prop} (h:∀ (M:Nat→Prop) (w:World) (vs:List Value),Pre A M w→rdA (MO M A) w as1 vs→∃ u w',(callFunc g (vs++cap).toArray).run P w=.ok (.value u) w'∧Post A Q' M w u w'):CallV P (.func (.func g) #[] cap.toArray) as1 A Q':=fun f d ty pos aft gg c avs tys hc ha M w r hp hx=>by
 obtain ⟨hx1,hx2⟩:=call_rd hx
 have hm:=rdA_map hx2
 rw [ha] at hm
 obtain ⟨u,w',h1,h2⟩:=h M w _ hp hm
 refine S_run (v:=u) (w':=w') ?_ h2
 have e:(avs.toList.map r++cap).toArray=avs.map r++cap.toArray:=by apply Array.ext';simp
 rw [e] at h1
 have e0:=exact_of hx1 hc
 simp only [execOp,resolve,e0,Deferred.ofValue,pure_bind,invoke,Array.empty_append]
 exact h1
variable {n:Nat} {C:Cx} {ops:Array Oper} {K:AF→List Atm→Prop} {rest:List Oper} {f:AF} {A:List Atm} {d:Nat} {dd:Option Tmp} {ty:TypeId} {pos:String} {aft:Array Edge}
theorem kcv {u:Value} {x:Operand} {avs:Array Operand} {tys:Array TypeId} {as1:List AV} {A1 B:List Atm} {Q':AV→List Atm→Prop} (h:CallV P u as1 B Q') (k:∀ v A',Q' v A'→AO P n C ops K rest (au f d v) (A1++A')) (hA:A.Perm (A1++B):=by exact .refl _) (hd:Nat.blt d n=true:=by exact rfl) (hc:eva f x=.one (.v u):=by exact rfl) (ha:avs.toList.map (eva f)=as1:=by exact rfl) :
 AO P n C ops K (⟨some d,.call {callee:=.value x,args:=avs,argTypes:=tys },ty,pos,aft,none⟩::rest) f A:=AO_o rfl hd ((h f _ _ _ _ _ x avs tys hc ha).front hA) fun v A' ⟨B',h1,h2⟩=>h2▸k v B' h1
theorem kcvG {u:Value} {x:Operand} {avs:Array Operand} {tys:Array TypeId} {as1:List AV} {A1 B:List Atm} {Q':AV→List Atm→Prop} {j s:Nat} {b:Bool} (h:CallV P u as1 B Q') (k:∀ v A',Q' v A'→AO P n C ops K rest (au f d v) (A1++A')) (hA:A.Perm (A1++B):=by exact .refl _) (hd:Nat.blt d n=true:=by exact rfl) (ht:(ops[j]?).bind (·.dst)=some s:=by exact rfl) (hv:f s=.one (.v (.bool b)):=by exact rfl) (hc:eva f x=.one (.v u):=by exact rfl) (ha:avs.toList.map (eva f)=as1:=by exact rfl) :
 AO P n C ops K (⟨some d,.call {callee:=.value x,args:=avs,argTypes:=tys },ty,pos,aft,some (j,b)⟩::rest) f A:=AO_gt rfl hd ht hv ((h f _ _ _ _ _ x avs tys hc ha).front hA) fun v A' ⟨B',h1,h2⟩=>h2▸k v B' h1
end
structure SortC (P:Program) {α:Type} [Inhabited α] (n:Nat) (R:Array α→List Atm) (lt:α→α→Bool) (uL uS:Value):Prop where
 oneL:uL.oneCell'=true
 oneS:uS.oneCell'=true
 lim:n≤1152921504606846976
 less:∀ (d:Array α) (i j:Nat),d.size=n→i < n→j < n→CallV P uL [nv i,nv j] (R d) fun v A'=>v=bv (lt d[i]! d[j]!)∧A'=R d
 swap:∀ (d:Array α) (i j:Nat),d.size=n→i < n→j < n→CallV P uS [nv i,nv j] (R d) fun v A'=>A'=R (swp d i j)
abbrev lsw (uL uS:Value):AV:=.agg [.v uL,.v uS]
section
variable {P:Program} {f:AF}
theorem args2 {x y:Operand} {a b i j:Int} (hx:eva f x=iv a:=by exact rfl) (hy:eva f y=iv b:=by exact rfl) (h1:a=i) (h2:b=j):[x,y].map (eva f)=[iv i,iv j]:=by simp [hx,hy,h1,h2]
end
section
variable {α:Type} [Inhabited α] {n:Nat} {R:Array α→List Atm} {lt:α→α→Bool} {uL uS:Value}
theorem insInner_go {a j:Nat} {d:Array α} (h:a < j) (hl:lt d[j]! d[j - 1]! = true):insInner lt a j d=insInner lt a (j - 1) (swp d j (j - 1)):=by
 obtain ⟨k,rfl⟩:∃ k,j=k+1:=⟨j - 1,by omega⟩
 simp only [Nat.add_sub_cancel] at hl ⊢
 rw [insInner,if_pos (by simp [hl];omega)]
theorem insInner_stop {a j:Nat} {d:Array α} (h:j≤a∨lt d[j]! d[j - 1]! = false):insInner lt a j d=d:=by
 cases j with
 | zero=>rfl
 | succ k=>
  simp only [Nat.add_sub_cancel] at h
  rw [insInner,if_neg]
  rcases h with h|h
  ·simp;omega
  ·simp [h]
theorem insOuter_go {a b i:Nat} {d:Array α} (h:i < b):insOuter lt a b i d=insOuter lt a b (i+1) (insInner lt a i d):=by rw [insOuter,if_pos h]
theorem insOuter_stop {a b i:Nat} {d:Array α} (h:¬ i < b):insOuter lt a b i d=d:=by rw [insOuter,if_neg h]
theorem insertionSort_c (S:SortC Tryz.prog n R lt uL uS) (d:Array α) (a b:Nat) (hd:d.size=n) (hab:a≤b) (hb:b≤n) :
 Spec Tryz.prog 312 [lsw uL uS,nv a,nv b] (R d) fun _ A'=>A'=R (insertionSort lt d a b):=by
 have hl:=S.lim
 refine sp Tryz.func312 rfl Tryz.ntmps312 rfl rfl fun C=>?_
 (repeat' first|(refine kk ?_;intros)|refine kfk ?_ ?_<;>intro hb|fail)
 rename_i bx
 refine kloop (ι:=Nat × Array α) (fun q=>b+1 - q.1) (fun q=>[(1,nv a),(2,nv b),(3,.one (.v (.pointer (some ⟨bx,0,none⟩)))),(6,nv q.1)]) (fun q=>abox bx [.v uL,.v uS] 326::R q.2) (fun q=>(a < q.1∧q.1≤b+1)∧q.2.size=n∧insOuter lt a b q.1 q.2=insOuter lt a b (a+1) d) (a+1,d) ⟨⟨by simp only;omega,by simp only;omega⟩,hd,rfl⟩ ?_
 rintro ⟨i,d1⟩ ⟨⟨h1,h2⟩,h3,h4⟩
 simp only at h1 h2 h3 h4
 by_cases hi:i < b
 ·(repeat' first|(refine kk ?_;intros)|refine kfk ?_ ?_<;>intro hb|fail)
  refine kloop (ι:=Nat × Array α) (fun q=>q.1) (fun q=>[(1,nv a),(2,nv b),(3,.one (.v (.pointer (some ⟨bx,0,none⟩)))),(6,nv i),(7,nv q.1)]) (fun q=>abox bx [.v uL,.v uS] 326::R q.2) (fun q=>(a≤q.1∧q.1≤i)∧q.2.size=n∧insInner lt a q.1 q.2=insInner lt a i d1) (i,d1) ⟨⟨by simp only;omega,Nat.le_refl _⟩,h3,rfl⟩ ?_
  rintro ⟨j,d2⟩ ⟨⟨g1,g2⟩,g3,g4⟩
  simp only at g1 g2 g3 g4
  have out:insInner lt a j d2=d2→insOuter lt a b (i+1) d2=insOuter lt a b (a+1) d:=fun e=>by rw [← h4,insOuter_go hi,← g4,e]
  by_cases hj:a < j
  ·(repeat' first|(refine kk ?_;intros)|refine kfk ?_ ?_<;>intro hb|fail)
   refine kcvG (A1:=[_]) (h:=S.less d2 j (j - 1) g3 (by omega) (by omega)) ?_
   rintro _ _ ⟨rfl,rfl⟩
   (repeat' first|(refine kk ?_;intros)|refine kfk ?_ ?_<;>intro hb|fail)
   ·refine kcv (A1:=[_]) (h:=S.swap d2 j (j - 1) g3 (by omega) (by omega)) ?_
    rintro _ _ rfl
    (repeat' first|(refine kk ?_;intros)|refine kfk ?_ ?_<;>intro hb|fail)
    exact ⟨(j - 1,swp d2 j (j - 1)),by simp only;omega,⟨⟨by simp only;omega,by simp only;omega⟩,by rw [size_swp];exact g3,by rw [← g4,insInner_go hj hb]⟩,kwk⟩
   ·exact ⟨(i+1,d2),by simp only;omega,⟨⟨by simp only;omega,by simp only;omega⟩,g3,out (insInner_stop (.inr hb))⟩,kwk⟩
  ·(repeat' first|(refine kk ?_;intros)|refine kfk ?_ ?_<;>intro hb|fail)
   exact ⟨(i+1,d2),by simp only;omega,⟨⟨by simp only;omega,by simp only;omega⟩,g3,out (insInner_stop (.inl (by omega)))⟩,kwk⟩
 ·(repeat' first|(refine kk ?_;intros)|refine kfk ?_ ?_<;>intro hb|fail)
  refine ker0 (A'':=R d1) ?_
  rw [insertionSort,← h4,insOuter_stop hi]
section
variable {P:Program} {f:AF} {A:List Atm} {d:Option Tmp} {ty:TypeId} {pos:String} {aft:Array Edge} {gg:Option (Nat × Bool)}
theorem P_quo {xt yt:TypeId} (x y:Operand) {a b:Nat} (hx:eva f x=.one (.v (.int .i64 (a:Nat)))) (hy:eva f y=.one (.v (.int .i64 (b:Nat)))) (hb:b≠0) (ha:a≤9223372036854775807):PuO P f A ⟨d,.binOp .quo xt x y yt,ty,pos,aft,gg⟩ (nv (a / b)):=P_ex2 x y rfl hx hy rfl fun _ _ h1 h2=>by
 have h0:¬ (b:Int)=0:=by omega
 have h3:(a:Int).tdiv (b:Int)=((a / b:Nat):Int):=rfl
 have h4:=Nat.div_le_self a b
 generalize a / b=q at h3 h4 ⊢
 have h5:IntKind.i64.wrap (q:Int)=(q:Int):=IntWalk.i64_in _ ⟨by omega,by omega⟩
 simp only [execOp,h1,h2,eqGuard,binOp,Op.intDiv,h0,if_false,h3,h5]
 rfl
end
theorem siftDown_stop {hi first root:Nat} {d:Array α} (h:hi≤2 * root+1):siftDown lt hi first root d=d:=by rw [siftDown,dif_pos (by omega)]
def kid (lt:α→α→Bool) (hi first root:Nat) (d:Array α):Nat:=if 2 * root+2 < hi∧lt d[first+(2 * root+1)]! d[first+(2 * root+2)]! = true then 2 * root+2 else 2 * root+1
theorem siftDown_kid {hi first root:Nat} {d:Array α} (h:2 * root+1 < hi):siftDown lt hi first root d=if lt d[first+root]! d[first+kid lt hi first root d]! = false then d else siftDown lt hi first (kid lt hi first root d) (swp d (first+root) (first+kid lt hi first root d)):=by
 rw [siftDown,dif_neg (by omega)]
 unfold kid
 by_cases c:2 * root+2 < hi∧lt d[first+(2 * root+1)]! d[first+(2 * root+2)]! = true
 ·rw [if_pos c,if_pos (by simpa [Nat.add_assoc] using c),dif_pos c.1]
  cases lt d[first+root]! d[first+(2 * root+2)]!<;>simp
 ·rw [if_neg c,if_neg (by simpa [Nat.add_assoc] using c)]
  cases lt d[first+root]! d[first+(2 * root+1)]!<;>simp
theorem kid_lt {hi first root:Nat} {d:Array α} (h:2 * root+1 < hi):root < kid lt hi first root d∧kid lt hi first root d < hi:=by
 unfold kid;split<;>omega
theorem siftDown_size {hi first:Nat} (m:Nat):∀ {root:Nat} {d:Array α},hi - root≤m→(siftDown lt hi first root d).size=d.size:=by
 induction m with
 | zero=>intro root d h;rw [siftDown_stop (by omega)]
 | succ m ih=>
  intro root d h
  by_cases hc:2 * root+1 < hi
  ·have hk:=kid_lt (lt:=lt) (first:=first) (d:=d) hc
   rw [siftDown_kid hc]
   split
   ·rfl
   ·rw [ih (by omega),size_swp]
  ·rw [siftDown_stop (by omega)]
theorem siftDown_c (S:SortC Tryz.prog n R lt uL uS) (d:Array α) (lo hi first:Nat) (hd:d.size=n) (hlo:lo≤n) (hhi:first+hi≤n) :
 Spec Tryz.prog 330 [lsw uL uS,nv lo,nv hi,nv first] (R d) fun _ A'=>A'=R (siftDown lt hi first lo d):=by
 have hl:=S.lim
 refine sp Tryz.func330 rfl Tryz.ntmps330 rfl rfl fun C=>?_
 (repeat' first|(refine kk ?_;intros)|refine kfk ?_ ?_<;>intro hb|fail)
 rename_i bx
 refine kloop (ι:=Nat × Array α) (fun q=>n+hi - q.1) (fun q=>[(2,nv hi),(3,nv first),(4,.one (.v (.pointer (some ⟨bx,0,none⟩)))),(8,nv q.1)]) (fun q=>abox bx [.v uL,.v uS] 326::R q.2) (fun q=>q.1≤n∧q.2.size=n∧siftDown lt hi first q.1 q.2=siftDown lt hi first lo d) (lo,d) ⟨hlo,hd,rfl⟩ ?_
 rintro ⟨root,d1⟩ ⟨h1,h2,h3⟩
 simp only at h1 h2 h3
 by_cases hc:2 * root+1 < hi
 ·have hk:=siftDown_kid (lt:=lt) (first:=first) (d:=d1) hc
  have hkl:=kid_lt (lt:=lt) (first:=first) (d:=d1) hc
  by_cases h2c:2 * root+2 < hi
  ·(repeat' first|(refine kk ?_;intros)|refine kfk ?_ ?_<;>intro hb|fail)
   refine kcvG (A1:=[_]) (h:=S.less d1 (first+(2 * root+1)) (first+(2 * root+2)) h2 (by omega) (by omega)) ?_ (ha:=args2 (h1:=by omega) (h2:=by omega))
   rintro _ _ ⟨rfl,rfl⟩
   (repeat' first|(refine kk ?_;intros)|refine kfk ?_ ?_<;>intro hb|fail)
   ·have ek:kid lt hi first root d1=2 * root+2:=by unfold kid;rw [if_pos ⟨h2c,hb⟩]
    rw [ek] at hk
    refine kcv (A1:=[_]) (h:=S.less d1 (first+root) (first+(2 * root+2)) h2 (by omega) (by omega)) ?_ (ha:=args2 (h1:=by omega) (h2:=by omega))
    rintro _ _ ⟨rfl,rfl⟩
    (repeat' first|(refine kk ?_;intros)|refine kfk ?_ ?_<;>intro hb|fail)
    ·exact ker0 (A'':=R d1) (by rw [← h3,hk,if_pos (by assumption)])
    ·refine kcv (A1:=[_]) (h:=S.swap d1 (first+root) (first+(2 * root+2)) h2 (by omega) (by omega)) ?_ (ha:=args2 (h1:=by omega) (h2:=by omega))
     rintro _ _ rfl
     (repeat' first|(refine kk ?_;intros)|refine kfk ?_ ?_<;>intro hb|fail)
     exact ⟨(2 * root+2,swp d1 (first+root) (first+(2 * root+2))),by simp only;omega,⟨by simp only;omega,by rw [size_swp];exact h2,by rw [← h3,hk,if_neg (by simpa using (by assumption))]⟩,kwk (h:=⟨.refl _,.refl _,.refl _,le_eq (by show iv _=iv _;congr 1),trivial⟩)⟩
   ·have ek:kid lt hi first root d1=2 * root+1:=by unfold kid;rw [if_neg (by simp [hb])]
    rw [ek] at hk
    refine kcv (A1:=[_]) (h:=S.less d1 (first+root) (first+(2 * root+1)) h2 (by omega) (by omega)) ?_ (ha:=args2 (h1:=by omega) (h2:=by omega))
    rintro _ _ ⟨rfl,rfl⟩
    (repeat' first|(refine kk ?_;intros)|refine kfk ?_ ?_<;>intro hb|fail)
    ·exact ker0 (A'':=R d1) (by rw [← h3,hk,if_pos (by assumption)])
    ·refine kcv (A1:=[_]) (h:=S.swap d1 (first+root) (first+(2 * root+1)) h2 (by omega) (by omega)) ?_ (ha:=args2 (h1:=by omega) (h2:=by omega))
     rintro _ _ rfl
     (repeat' first|(refine kk ?_;intros)|refine kfk ?_ ?_<;>intro hb|fail)
     exact ⟨(2 * root+1,swp d1 (first+root) (first+(2 * root+1))),by simp only;omega,⟨by simp only;omega,by rw [size_swp];exact h2,by rw [← h3,hk,if_neg (by simpa using (by assumption))]⟩,kwk (h:=⟨.refl _,.refl _,.refl _,le_eq (by show iv _=iv _;congr 1),trivial⟩)⟩
  ·have ek:kid lt hi first root d1=2 * root+1:=by unfold kid;rw [if_neg (by omega)]
   rw [ek] at hk
   (repeat' first|(refine kk ?_;intros)|refine kfk ?_ ?_<;>intro hb|fail)
   refine kcv (A1:=[_]) (h:=S.less d1 (first+root) (first+(2 * root+1)) h2 (by omega) (by omega)) ?_ (ha:=args2 (h1:=by omega) (h2:=by omega))
   rintro _ _ ⟨rfl,rfl⟩
   (repeat' first|(refine kk ?_;intros)|refine kfk ?_ ?_<;>intro hb|fail)
   ·exact ker0 (A'':=R d1) (by rw [← h3,hk,if_pos (by assumption)])
   ·refine kcv (A1:=[_]) (h:=S.swap d1 (first+root) (first+(2 * root+1)) h2 (by omega) (by omega)) ?_ (ha:=args2 (h1:=by omega) (h2:=by omega))
    rintro _ _ rfl
    (repeat' first|(refine kk ?_;intros)|refine kfk ?_ ?_<;>intro hb|fail)
    exact ⟨(2 * root+1,swp d1 (first+root) (first+(2 * root+1))),by simp only;omega,⟨by simp only;omega,by rw [size_swp];exact h2,by rw [← h3,hk,if_neg (by simpa using (by assumption))]⟩,kwk (h:=⟨.refl _,.refl _,.refl _,le_eq (by show iv _=iv _;congr 1),trivial⟩)⟩
 ·(repeat' first|(refine kk ?_;intros)|refine kfk ?_ ?_<;>intro hb|fail)
  exact ker0 (A'':=R d1) (by rw [← h3,siftDown_stop (by omega)])
theorem heapSort_c (S:SortC Tryz.prog n R lt uL uS) (d:Array α) (a b:Nat) (hd:d.size=n) (hab:a < b) (hb:b≤n) :
 Spec Tryz.prog 313 [lsw uL uS,nv a,nv b] (R d) fun _ A'=>A'=R (heapSort lt d a b):=by
 have hl:=S.lim
 refine sp Tryz.func313 rfl Tryz.ntmps313 rfl rfl fun C=>?_
 (repeat' first|(refine kk ?_;intros)|refine kfk ?_ ?_<;>intro hb|fail)
 rename_i bx
 refine kr ?_ (h:=P_quo (a:=b - a - 1) (b:=2) _ _ rfl rfl (by omega) (by omega))
 (repeat' first|(refine kk ?_;intros)|refine kfk ?_ ?_<;>intro hb|fail)
 refine kloop (ι:=Int × Array α) (fun q=>(q.1+1).toNat) (fun q=>[(3,.one (.v (.pointer (some ⟨bx,0,none⟩)))),(6,nv a),(7,iv 0),(8,nv (b - a)),(9,iv q.1)]) (fun q=>abox bx [.v uL,.v uS] 326::R q.2) (fun q=>q.2.size=n∧q.1≤(b:Int) - a∧∃ k:Nat,q.1=(k:Int) - 1∧heapBuild lt (b - a) a k q.2=heapBuild lt (b - a) a ((b - a - 1) / 2+1) d) ((((b - a - 1) / 2:Nat):Int),d) ⟨hd,by simp only;omega,_,by simp only;omega,rfl⟩ ?_
 rintro ⟨i,d1⟩ ⟨h1,h2,k,h3,h4⟩
 simp only at h1 h2 h3 h4
 by_cases hi:0≤i
 ·obtain ⟨j,rfl⟩:∃ j:Nat,i=j:=⟨i.toNat,by omega⟩
  obtain rfl:k=j+1:=by omega
  (repeat' first|(refine kk ?_;intros)|refine kfk ?_ ?_<;>intro hb|fail)
  refine kcs (A1:=[_]) (h:=siftDown_c S d1 j (b - a) a h1 (by omega) (by omega)) ?_
  rintro _ _ rfl
  (repeat' first|(refine kk ?_;intros)|refine kfk ?_ ?_<;>intro hb|fail)
  refine ⟨((j:Int) - 1,siftDown lt (b - a) a j d1),by simp only;omega,⟨by rw [siftDown_size _ (Nat.le_refl _)];exact h1,by simp only;omega,j,rfl,by rw [← h4,heapBuild]⟩,kwk⟩
 ·obtain rfl:k=0:=by omega
  (repeat' first|(refine kk ?_;intros)|refine kfk ?_ ?_<;>intro hb|fail)
  rw [heapBuild] at h4
  refine kloop (ι:=Int × Array α) (fun q=>(q.1+1).toNat) (fun q=>[(3,.one (.v (.pointer (some ⟨bx,0,none⟩)))),(6,nv a),(7,iv 0),(10,iv q.1)]) (fun q=>abox bx [.v uL,.v uS] 326::R q.2) (fun q=>q.2.size=n∧∃ k:Nat,q.1=(k:Int) - 1∧k≤b - a∧heapPop lt a k q.2=heapPop lt a (b - a) d1) ((((b - a - 1:Nat)):Int),d1) ⟨h1,b - a,by simp only;omega,Nat.le_refl _,rfl⟩ ?_
  rintro ⟨i2,d2⟩ ⟨g1,k,g3,g4,g5⟩
  simp only at g1 g3 g4 g5
  by_cases hi2:0≤i2
  ·obtain ⟨j,rfl⟩:∃ j:Nat,i2=j:=⟨i2.toNat,by omega⟩
   obtain rfl:k=j+1:=by omega
   (repeat' first|(refine kk ?_;intros)|refine kfk ?_ ?_<;>intro hb|fail)
   refine kcv (A1:=[_]) (h:=S.swap d2 a (a+j) g1 (by omega) (by omega)) ?_
   rintro _ _ rfl
   (repeat' first|(refine kk ?_;intros)|refine kfk ?_ ?_<;>intro hb|fail)
   refine kcs (A1:=[_]) (h:=siftDown_c S (swp d2 a (a+j)) 0 j a (by rw [size_swp];exact g1) (by omega) (by omega)) ?_
   rintro _ _ rfl
   (repeat' first|(refine kk ?_;intros)|refine kfk ?_ ?_<;>intro hb|fail)
   refine ⟨((j:Int) - 1,siftDown lt j a 0 (swp d2 a (a+j))),by simp only;omega,⟨by rw [siftDown_size _ (Nat.le_refl _),size_swp];exact g1,j,rfl,by omega,by rw [← g5,heapPop]⟩,kwk⟩
  ·obtain rfl:k=0:=by omega
   (repeat' first|(refine kk ?_;intros)|refine kfk ?_ ?_<;>intro hb|fail)
   rw [heapPop] at g5
   exact ker0 (A'':=R d2) (by rw [heapSort,← h4,← g5])
end
end
end
end Go.Proofs.YtejkllmoofdpjaaGreat
