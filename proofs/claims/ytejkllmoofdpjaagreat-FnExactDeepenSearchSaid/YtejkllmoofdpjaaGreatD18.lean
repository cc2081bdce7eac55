/- Parts of the proof: VZ9 VZA V19 VKm VKo VK3 VK4. -/
import Derived.Test.YtejkllmoofdpjaaGreatD15
namespace Go.Proofs.YtejkllmoofdpjaaGreat
open Go
set_option linter.all false
set_option maxRecDepth 100000
set_option maxHeartbeats 4000000
section
open Go Go.Sort
noncomputable section
section
variable {α:Type} [Inhabited α] {n:Nat} {R:Array α→List Atm} {lt:α→α→Bool} {uL uS:Value}
theorem swapRange_c (S:SortC Tryz.prog n R lt uL uS) (d:Array α) (a b k:Nat) (hd:d.size=n) (hab:a+k≤b) (hb:b+k≤n) :
 Spec Tryz.prog 353 [lsw uL uS,nv a,nv b,nv k] (R d) fun _ A'=>∃ d',A'=R d'∧Sw d a b k d'∧PermIn a (b+k) d d':=by
 have hl:=S.lim
 refine sp Tryz.func353 rfl Tryz.ntmps353 rfl rfl fun C=>?_
 (repeat' first|(refine kk ?_;intros)|fail)
 rename_i bx
 refine kloop (ι:=Nat × Array α) (fun q=>k - q.1) (fun q=>[(1,nv a),(2,nv b),(3,nv k),(4,.one (.v (.pointer (some ⟨bx,0,none⟩)))),(8,nv q.1)]) (fun q=>abox bx [.v uL,.v uS] 326::R q.2) (fun q=>q.1≤k∧Sw d a b q.1 q.2∧PermIn a (b+k) d q.2) (0,d) ⟨Nat.zero_le _,Sw.zero,permIn_refl _ _ _⟩ ?_
 rintro ⟨i,d1⟩ ⟨h1,h2,h3⟩
 simp only at h1 h2 h3
 dsimp only
 have hd1:d1.size=n:=h2.1.trans hd
 by_cases hi:i < k
 ·(repeat' first|(refine kk ?_;intros)|refine kfk ?_ ?_<;>intro hb|fail)
  refine kcv (A1:=[_]) (h:=S.swap d1 (a+i) (b+i) hd1 (by omega) (by omega)) ?_
  rintro _ _ rfl
  (repeat' first|(refine kk ?_;intros)|refine kfk ?_ ?_<;>intro hb|fail)
  exact ⟨(i+1,swp d1 (a+i) (b+i)),by simp only;omega,⟨by simp only;omega,h2.step (by omega) (by omega),permIn_trans _ _ _ _ _ h3 (swp_permIn _ _ _ _ _ (by omega) (by omega) (by omega) (by omega) (by omega))⟩,kwk⟩
 ·obtain rfl:i=k:=by omega
  (repeat' first|(refine kk ?_;intros)|refine kfk ?_ ?_<;>intro hb|fail)
  exact ker0 (A'':=R d1) ⟨d1,rfl,h2,h3⟩
theorem rotate_c (S:SortC Tryz.prog n R lt uL uS) (d:Array α) (a m b:Nat) (hd:d.size=n) (ham:a < m) (hmb:m < b) (hb:b≤n) :
 Spec Tryz.prog 346 [lsw uL uS,nv a,nv m,nv b] (R d) fun _ A'=>∃ d',A'=R d'∧Rot d a m b d'∧PermIn a b d d':=by
 have hl:=S.lim
 refine sp Tryz.func346 rfl Tryz.ntmps346 rfl rfl fun C=>?_
 (repeat' first|(refine kk ?_;intros)|fail)
 rename_i bx
 refine kloop (ι:=Nat × Nat × Array α) (fun q=>q.1+q.2.1) (fun q=>[(2,nv m),(4,.one (.v (.pointer (some ⟨bx,0,none⟩)))),(8,nv q.1),(9,nv q.2.1)]) (fun q=>abox bx [.v uL,.v uS] 326::R q.2.2) (fun q=>(0 < q.1∧q.1≤m - a∧0 < q.2.1∧q.2.1≤b - m)∧q.2.2.size=n∧PermIn a b d q.2.2∧∀ d',Rot q.2.2 (m - q.1) m (m+q.2.1) d'→Rot d a m b d') (m - a,b - m,d) ⟨by simp only;omega,hd,permIn_refl _ _ _,fun d' h=>by simp only at h;rwa [show m - (m - a)=a by omega,show m+(b - m)=b by omega] at h⟩ ?_
 rintro ⟨i,j,d1⟩ ⟨⟨i0,i1,j0,j1⟩,h1,h2,h3⟩
 simp only at i0 i1 j0 j1 h1 h2 h3
 dsimp only
 have mono:∀ {x y:Nat} {d':Array α},a≤x→y≤b→PermIn x y d1 d'→PermIn a b d d':=fun hx hy hp=>permIn_trans _ _ _ _ _ h2 (permIn_mono _ _ _ _ _ _ hx hy (by omega) hp)
 by_cases hij:i=j
 ·subst hij
  (repeat' first|(refine kkS [353] [] ?_;intros)|refine kfS [353] [] ?_ ?_<;>intro hb|fail)
  refine kcs (A1:=[_]) (h:=swapRange_c S d1 (m - i) m i h1 (by omega) (by omega)) ?_
  rintro _ _ ⟨d2,rfl,s1,s2⟩
  (repeat' first|(refine kk ?_;intros)|refine kfk ?_ ?_<;>intro hb|fail)
  exact ker0 (A'':=R d2) ⟨d2,rfl,h3 _ (Rot.eq (by omega) s1),mono (by omega) (by omega) s2⟩
 ·by_cases hlt:j < i
  ·(repeat' first|(refine kkS [353] [] ?_;intros)|refine kfS [353] [] ?_ ?_<;>intro hb|fail)
   refine kcs (A1:=[_]) (h:=swapRange_c S d1 (m - i) m j h1 (by omega) (by omega)) ?_
   rintro _ _ ⟨d2,rfl,s1,s2⟩
   (repeat' first|(refine kk ?_;intros)|refine kfk ?_ ?_<;>intro hb|fail)
   exact ⟨(i - j,j,d2),by simp only;omega,⟨by simp only;omega,s1.1.trans h1,mono (by omega) (by omega) s2,fun d' h=>h3 d' (Rot.left (by omega) hlt s1 h)⟩,kwk⟩
  ·(repeat' first|(refine kkS [353] [] ?_;intros)|refine kfS [353] [] ?_ ?_<;>intro hb|fail)
   refine kcs (A1:=[_]) (h:=swapRange_c S d1 (m - i) (m+j - i) i h1 (by omega) (by omega)) ?_
   rintro _ _ ⟨d2,rfl,s1,s2⟩
   (repeat' first|(refine kk ?_;intros)|refine kfk ?_ ?_<;>intro hb|fail)
   exact ⟨(i,j - i,d2),by simp only;omega,⟨by simp only;omega,s1.1.trans h1,mono (by omega) (by omega) s2,fun d' h=>h3 d' (Rot.right (by omega) (by omega) s1 h)⟩,kwk⟩
end
end
end
section
open Go Go.Sort
section
variable {α:Type} [Inhabited α] {lt:α→α→Bool}
theorem Rot.triv {d:Array α} {a m b:Nat} (h:a=m∨m=b):Rot d a m b d:=⟨rfl,fun i=>by
 rcases h with rfl|rfl
 ·(repeat' split)<;>first|omega|rfl|(congr 1;omega)
 ·(repeat' split)<;>first|omega|rfl|(congr 1;omega)⟩
theorem Rot.up {d d1:Array α} {a k:Nat} (h:Rot d a (a+1) (k+1) d1) (hk:a≤k) (hs:k+1 < d.size):Rot d a (a+1) (k+2) (swp d1 k (k+1)):=by
 refine ⟨by rw [size_swp,h.1],fun i=>?_⟩
 rw [swp_get d1 (by rw [h.1];omega) (by rw [h.1];omega),h.2,h.2,h.2]
 (repeat' split)<;>first|omega|rfl|(congr 1;omega)
theorem Rot.down {d d1:Array α} {m k:Nat} (h:Rot d (k+1) m (m+1) d1) (hk:k+1≤m) (hs:m < d.size):Rot d k m (m+1) (swp d1 (k+1) k):=by
 refine ⟨by rw [size_swp,h.1],fun i=>?_⟩
 rw [swp_get d1 (by rw [h.1];omega) (by rw [h.1];omega),h.2,h.2,h.2]
 (repeat' split)<;>first|omega|rfl|(congr 1;omega)
theorem symOne {d d':Array α} {a b i:Nat} (hO:SWO lt) (s2:SortedIn lt (a+1) b d) (hi:a+1≤i) (hib:i≤b) (c1:i=a+1∨lt d[i - 1]! d[a]! = true) (c2:i=b∨lt d[i]! d[a]! = false) (hr:Rot d a (a+1) i d'):SortedIn lt a b d':=by
 have e1:∀ x,a≤x→x < i - 1→d'[x]! = d[x+1]!:=fun x h1 h2=>by rw [hr.2,if_pos (by omega)];congr 1;omega
 have e2:d'[i - 1]! = d[a]!:=by rw [hr.2,if_neg (by omega),if_pos (by omega)];congr 1;omega
 have e3:∀ x,i≤x→d'[x]! = d[x]!:=fun x h1=>by rw [hr.2,if_neg (by omega),if_neg (by omega)]
 intro x y hx hxy hy
 by_cases y1:y < i - 1
 ·rw [e1 y (by omega) y1,e1 x hx (by omega)];exact s2 _ _ (by omega) (by omega) (by omega)
 ·by_cases y2:y=i - 1
  ·subst y2
   rw [e2,e1 x hx hxy]
   have c1:=c1.resolve_left (by omega)
   exact hO.ntrans _ _ _ (hO.asymm c1) (sorted_le hO s2 (by omega) (by omega) (by omega))
  ·rw [e3 y (by omega)]
   by_cases x1:x < i - 1
   ·rw [e1 x hx x1];exact sorted_le hO s2 (by omega) (by omega) hy
   ·by_cases x2:x=i - 1
    ·subst x2
     rw [e2]
     have c2:=c2.resolve_left (by omega)
     exact hO.ntrans _ _ _ (sorted_le hO s2 (by omega) (by omega:i≤y) hy) c2
    ·rw [e3 x (by omega)];exact s2 _ _ (by omega) hxy hy
theorem symLast {d d':Array α} {a m i:Nat} (hO:SWO lt) (s1:SortedIn lt a m d) (hi:a≤i) (him:i≤m) (c1:i=a∨lt d[m]! d[i - 1]! = false) (c2:i=m∨lt d[m]! d[i]! = true) (hr:Rot d i m (m+1) d'):SortedIn lt a (m+1) d':=by
 have e1:∀ x,x < i→d'[x]! = d[x]!:=fun x h1=>by rw [hr.2,if_neg (by omega),if_neg (by omega)]
 have e2:d'[i]! = d[m]!:=by rw [hr.2,if_pos (by omega)];congr 1;omega
 have e3:∀ x,i < x→x≤m→d'[x]! = d[x - 1]!:=fun x h1 h2=>by rw [hr.2,if_neg (by omega),if_pos (by omega)];congr 1;omega
 intro x y hx hxy hy
 by_cases y1:y < i
 ·rw [e1 y y1,e1 x (by omega)];exact s1 _ _ hx hxy (by omega)
 ·by_cases y2:y=i
  ·subst y2
   rw [e2,e1 x hxy]
   have c1:=c1.resolve_left (by omega)
   exact hO.ntrans _ _ _ c1 (sorted_le hO s1 hx (by omega) (by omega))
  ·rw [e3 y (by omega) (by omega)]
   by_cases x1:x < i
   ·rw [e1 x x1];exact sorted_le hO s1 hx (by omega) (by omega)
   ·by_cases x2:x=i
    ·subst x2
     rw [e2]
     have c2:=c2.resolve_left (by omega)
     exact hO.ntrans _ _ _ (sorted_le hO s1 hx (by omega:x≤y - 1) (by omega)) (hO.asymm c2)
    ·rw [e3 x (by omega) (by omega)];exact s1 _ _ (by omega) (by omega) (by omega)
theorem symCut (hO:SWO lt) {d:Array α} {a m b mid lo hi start:Nat} (s1:SortedIn lt a m d) (s2:SortedIn lt m b d) (ham:a < m) (hmb:m < b) (hmid:mid=(a+b) / 2) (h0:mid < m∧lo=mid+m - b∧hi=mid∨m≤mid∧lo=a∧hi=m)
 (h1:lo≤start) (h2:start≤hi) (h3:start=lo∨lt d[mid+m - start]! d[start - 1]! = false) (h4:start=hi∨lt d[mid+m - 1 - start]! d[start]! = true):Cut lt d a m b mid start:=by
 have q1:2 * mid≤a+b:=by omega
 have q2:a+b < 2 * mid+2:=by omega
 refine ⟨by omega,by omega,by omega,by omega,by omega,fun i j hi1 hi2 hj1 hj2=>?_,fun i j hi1 hi2 hj1 hj2=>?_⟩
 ·have h3:=h3.resolve_left (by omega)
  exact hO.ntrans _ _ _ (sorted_le hO s2 (by omega) hj1 hj2) (hO.ntrans _ _ _ h3 (sorted_le hO s1 hi1 (by omega) (by omega)))
 ·have h4:=h4.resolve_left (by omega)
  exact hO.ntrans _ _ _ (sorted_le hO s1 (by omega) hi1 hi2) (hO.ntrans _ _ _ (hO.asymm h4) (sorted_le hO s2 hj1 (by omega) (by omega)))
end
end
section
variable {P:Program} {f:AF} {A:List Atm} {d:Option Tmp} {ty:TypeId} {pos:String} {aft:Array Edge} {gg:Option (Nat × Bool)} {M:Nat→Prop} {w:World}
theorem flatten_setP {sz:Nat}:∀ {vss:List (List Value)} {j o:Nat} {vs us:List Value},(∀ vs∈vss,vs.length=sz)→vss[j]?=some vs→o+us.length≤sz→(vss.set j (putAt vs o us)).flatten=putAt vss.flatten (j * sz+o) us
 | [],_,_,_,_,_,h,_=>by simp at h
 | v::vss,0,o,vs,us,h,hj,hu=>by
  have hv:=h v (by simp)
  simp at hj;subst hj
  simp only [List.set_cons_zero,List.flatten_cons,Nat.zero_mul,Nat.zero_add,putAt]
  rw [List.take_append_of_le_length (by omega),List.drop_append_of_le_length (by omega)]
  simp only [List.append_assoc]
 | v::vss,j+1,o,vs,us,h,hj,hu=>by
  have hv:=h v (by simp)
  simp only [List.set_cons_succ,List.flatten_cons]
  rw [flatten_setP (fun x hx=>h x (by simp [hx])) (by simpa using hj) hu]
  unfold putAt
  rw [Nat.add_mul,Nat.one_mul,List.take_append,List.take_of_length_le (l:=v) (by omega),show j * sz+sz+o - v.length=j * sz+o by omega,List.drop_append,List.drop_of_length_le (i:=j * sz+sz+o+us.length) (l:=v) (by omega),List.nil_append,show j * sz+sz+o+us.length - v.length=j * sz+o+us.length by omega,List.append_assoc]
theorem flat_getP {sz:Nat}:∀ {vss:List (List Value)} {j o:Nat} {vs:List Value} {u:Value},(∀ vs∈vss,vs.length=sz)→vss[j]?=some vs→vs[o]?=some u→vss.flatten[j * sz+o]?=some u
 | [],_,_,_,_,_,h,_=>by simp at h
 | v::vss,0,o,vs,u,h,hj,hu=>by
  simp at hj;subst hj
  have:=(List.getElem?_eq_some_iff.1 hu).1
  simp only [List.flatten_cons,Nat.zero_mul,Nat.zero_add]
  rw [List.getElem?_append_left this];exact hu
 | v::vss,j+1,o,vs,u,h,hj,hu=>by
  have hv:=h v (by simp)
  simp only [List.flatten_cons]
  rw [Nat.add_mul,Nat.one_mul,List.getElem?_append_right (by omega),show j * sz+sz+o - v.length=j * sz+o by omega]
  exact flat_getP (fun x hx=>h x (by simp [hx])) (by simpa using hj) hu
theorem row_cells {e:TypeId} {sz b n c:Nat} {rows:List (List D)} (h:(arow e sz (.slice (some ⟨b,0,none⟩) n c) rows).ok M w) {j:Nat} {r:List D} (hr:rows[j]?=some r):∃ vs,vs.length=sz∧rdC M w r vs∧Cells w b (0+j * sz) vs:=by
 obtain ⟨vss,⟨hall,hlen,hown⟩,h2⟩:=h
 rcases hown with ⟨h0,_⟩ | ⟨g,cap,cur,e1,hg0,hb,hnc,hcm,hcs,htake⟩
 ·cases h0
 cases e1
 obtain ⟨vs,h3,h4⟩:=rdRows_get j h2 hr
 refine ⟨vs,hall vs (List.mem_of_getElem? h3),h4,fun i u hi=>?_⟩
 have h5:=flat_getP hall h3 hi
 rw [← htake,List.getElem?_take] at h5
 split at h5
 ·rw [block_cell hb,Nat.zero_add];exact h5
 ·cases h5
theorem P_load1R {t e:TypeId} {sz0 sz:Nat} {z:Value} [TyF P t false sz0 z] (x:Operand) {b j o n c:Nat} {rows:List (List D)} {r:List D} {u:D} (hx:eva f x=.one (.v (.pointer (some ⟨b,0+j * sz+o,none⟩)))) (hm:arow e sz (.slice (some ⟨b,0,none⟩) n c) rows∈A) (hr:rows[j]?=some r) (hu:r[o]?=some u) :
 PuO P f A ⟨d,.load t x,ty,pos,aft,gg⟩ (.one u):=PuO_rd fun M w rr hp h=>by
 obtain ⟨vs,h1,h2,h3⟩:=row_cells (hp.ats _ hm) hr
 obtain ⟨y,h4,h5⟩:=rdC_get o h2 hu
 exact ⟨y,X_load1 x (exact_of (h x (by simp [Op.operands])) hx) (h3 o y h4),h5⟩
theorem P_loadNR {t e:TypeId} {sz0 sz:Nat} {z:Value} [TyF P t true sz0 z] (x:Operand) {b j o n c:Nat} {rows:List (List D)} {r cs:List D} (hx:eva f x=.one (.v (.pointer (some ⟨b,0+j * sz+o,none⟩)))) (hm:arow e sz (.slice (some ⟨b,0,none⟩) n c) rows∈A) (hr:rows[j]?=some r) (hu:(r.drop o).take sz0=cs) (hl:cs.length=sz0) :
 PuO P f A ⟨d,.load t x,ty,pos,aft,gg⟩ (.agg cs):=PuO_rd fun M w rr hp h=>by
 obtain ⟨vs,h1,h2,h3⟩:=row_cells (hp.ats _ hm) hr
 have h4:rdC (MO M A) w cs ((vs.drop o).take sz0):=hu▸rdC_take sz0 (rdC_drop o h2)
 exact ⟨_,X_loadN x (exact_of (h x (by simp [Op.operands])) hx) ((h3.drop o).take sz0) (by rw [rdC_len h4,hl]),_,rfl,h4⟩
theorem O_storeRowP {t e:TypeId} {agg:Bool} {sz0 sz:Nat} {z:Value} [F:TyF P t agg sz0 z] (i j o:Nat) (x y:Operand) {b n c:Nat} {rows:List (List D)} {r0 cs:List D} {a:AV} (hx:eva f x=.one (.v (.pointer (some ⟨b,0+j * sz+o,none⟩)))) (hi:A[i]?=some (arow e sz (.slice (some ⟨b,0,none⟩) n c) rows)) (hy:eva f y=a) (hc:a.cellsD=some cs) (hl:cs.length=sz0) (hr:rows[j]?=some r0) (ho:o+cs.length≤sz) :
 Opn P f A ⟨d,.store t x y,ty,pos,aft,gg⟩ fun v A'=>v=.tup []∧A'=A.set i (arow e sz (.slice (some ⟨b,0,none⟩) n c) (rows.set j (putD r0 o cs))):=fun M w r hp h=>by
 obtain ⟨vss,⟨hall,hlen,hown⟩,h2⟩:=hp.ats _ (List.mem_of_getElem? hi)
 have hvl:=rdRows_len h2
 rcases hown with ⟨h0,_⟩ | ⟨g,cap,cur,e1,hg0,hb,hnc,hcm,hcs,htake⟩
 ·cases h0
 cases e1
 have h3:=h y (by simp [Op.operands])
 rw [hy] at h3
 obtain ⟨us,h4,h5⟩:=cellsD_rd hc h3
 obtain ⟨vs0,hv0,hr0⟩:=rdRows_get j h2 hr
 have hv0l:=hall vs0 (List.mem_of_getElem? hv0)
 have hjl:=(List.getElem?_eq_some_iff.1 hv0).1
 have hul:us.length=cs.length:=rdC_len h5
 have hjs:j * sz+sz≤vss.length * sz:=by
  have:=Nat.mul_le_mul_right sz (show j+1≤vss.length by omega)
  rw [Nat.add_mul] at this;omega
 have hcl:cur.toList.length=c * sz:=by simpa using hcs
 have hcn:vss.length * sz≤c * sz:=Nat.mul_le_mul_right _ hnc
 obtain ⟨w',e1,e2,e3,e4⟩:=storeVar_at (P:=P) (t:=t) (b:=b) (o:=0+j * sz+o) (xs:=cur.toList) h4 (by rw [hul,hl]) (rdC_one h5) (by simpa using hb) (by rw [hcl,Nat.zero_add];omega)
 have hoA:∀ rows',oA (A.set i (arow e sz (.slice (some ⟨b,0,none⟩) vss.length c) rows'))=oA A:=fun rows'=>set_own hi (by simp [arow])
 have hmb:∀ {q:Nat},q∈[b]→q∈(arow e sz (.slice (some ⟨b,0,none⟩) vss.length c) rows).own:=fun hq=>by simpa [arow,Value.ownBlock] using hq
 have keep:∀ q,q < w.heap.size→¬ MO M A q→w'.heap[q]?=w.heap[q]?:=fun q hq hn=>e2.block q hq fun hqb=>hn (.inr (mem_oA.2 ⟨_,List.mem_of_getElem? hi,hmb hqb⟩))
 have hpl:(putAt vs0 o us).length=sz:=by rw [putAt_len (by omega),hv0l]
 refine S_skip (w':=w') ?_ ⟨_,_,⟨rfl,rfl⟩,undef_rd,hp.turn hi (e2.mono fun q hq=>hmb hq) (by simp [arow,Value.ownBlock]) (fun q hq=>⟨?_,.inl hq⟩) ⟨vss.set j (putAt vs0 o us),⟨fun vs hvs=>?_,?_,.inr ⟨b,c,(putAt cur.toList (0+j * sz+o) us).toArray,by rw [List.length_set],hg0,e4,by rw [List.length_set];exact hnc,hcm,?_,?_⟩⟩,?_⟩⟩
 ·simp only [execOp,Instr.storeAt,exact_of (h x (by simp [Op.operands])) hx,bind_assoc,Sem.run_bind]
  show ((Instr.sureAddr _).run P w).andThen _=_
  simp only [Instr.sureAddr,Sem.run_pure,Result.andThen_ok,Sem.run_bind,e1]
 ·simp only [arow,Value.ownBlock,Option.toList_some,List.mem_singleton] at hq;subst hq
  rw [e3];exact (Array.getElem?_eq_some_iff.1 hb).1
 ·rcases List.mem_or_eq_of_mem_set hvs with h|rfl
  ·exact hall vs h
  ·exact hpl
 ·rw [flatten_setP hall hv0 (by omega),putAt_len (by rw [hlen];omega),hlen,List.length_set]
 ·rw [List.size_toArray,putAt_len (by rw [hcl];omega),hcl]
 ·rw [List.length_set,flatten_setP hall hv0 (by omega),← htake,Nat.zero_add]
  exact take_putAt (by omega) (by rw [hcl];omega)
 ·have h6:=rdRows_set j (rdRows_keep keep h2) (rdC_put o (rdC_keep keep hr0) (rdC_keep keep h5))
  refine rdRows_grow (fun q _ hM=>?_) h6
  unfold MO at hM ⊢
  rwa [hoA] at hM
theorem Inv.rowAt {C:Cx} {gf:FF} (hi:Inv C f A gf w) {i:Nat} {e:TypeId} {sz:Nat} {u:Value} {rows:List (List D)} (ha:A[i]?=some (arow e sz u rows)) (hn:rows≠[]):∃ b c,u=.slice (some ⟨b,0,none⟩) rows.length c:=by
 obtain ⟨vss,⟨hall,hlen,hown⟩,h2⟩:=hi.st.pre.ats _ (List.mem_of_getElem? ha)
 have hvl:=rdRows_len h2
 rcases hown with ⟨_,h0⟩ | ⟨g,cap,cur,e1,hg0,hb,_⟩
 ·have:rows.length=0:=by have:=h0;simp_all
  exact absurd (List.eq_nil_of_length_eq_zero this) hn
 ·exact ⟨g,cap,by rw [e1,hvl]⟩
end
section
variable {P:Program} {n:Nat} {C:Cx} {ops:Array Oper} {K:AF→List Atm→Prop} {rest:List Oper} {f:AF} {A:List Atm} {Q:AQ} {c:Code} {i:Nat} {e:TypeId} {sz:Nat} {u:Value} {rows:List (List D)} {k:Nat}
theorem krowA (i:Nat) (ha:A[i]?=some (arow e sz u rows)) (hn:rows≠[]) (kk:∀ b c',u=.slice (some ⟨b,0,none⟩) rows.length c'→AW P n C c Q f A):AW P n C c Q f A:=fun g w hi=>by
 obtain ⟨b,c',h⟩:=hi.rowAt ha hn
 exact kk b c' h g w hi
end
theorem wkP {f:AF} {A A':List Atm} (h:A'.Perm A):Wk f A f A':=⟨fun _=>.refl _,A',h,.refl _⟩
theorem ker1P {P:Program} {f:AF} {A A'':List Atm} {Q':AV→List Atm→Prop} {t:Nat} {a:AV} (v:AV) (hq:Q' v A'') (hs:A''.Perm A) (hx:f t=a:=by (first|exact sh1 rfl|exact sh2 rfl|exact sh3 rfl|exact sh4 rfl|exact sh5 rfl|exact rfl|fail)) (hle:a.le v:=by (first|exact le_eq rfl|exact le_nilM|exact le_nilT|fail)):∃ l v A'',RV P f A [.tmp t] l∧Q' v A''∧(AV.of1 l).le v∧Wk f A f A'':=⟨[f t],v,A'',⟨_,_,rfl,R1_tmp,rfl⟩,hq,by rw [show AV.of1 [f t]=f t from rfl,hx];exact hle,wkP hs⟩
noncomputable section
def kvM (x:Nat × ByteArray):Value:=.agg #[.int .i64 (x.1:Int),.string x.2]
theorem chkM (w:World) (e:Bool) (x:Nat × ByteArray):runC Tryz.prog w (Instr.checkKey e 10000 189 (kvM x))=some ():=by
 unfold kvM
 kernel_rfl
theorem eqI (w:World) (n:Nat) (a b:Int):runC Tryz.prog w (Op.equalIn (n+1) 3 (.int .i64 a) (.int .i64 b))=some (a == b):=by
 unfold Op.equalIn
 rw [runC_bind,runC_underlying Tryz.underlying3]
 rfl
theorem eqS (w:World) (n:Nat) (a b:ByteArray):runC Tryz.prog w (Op.equalIn (n+1) 9 (.string a) (.string b))=some (a == b):=by
 unfold Op.equalIn
 rw [runC_bind,runC_underlying Tryz.underlying9]
 rfl
theorem eqM (w:World) (n:Nat) (a b:Int) (s t:ByteArray):runC Tryz.prog w (Op.equalIn (n+2) 189 (.agg #[.int .i64 a,.string s]) (.agg #[.int .i64 b,.string t]))=some ((a == b) && (s == t)):=by
 have e1:=eqI w n a b
 have e2:=eqS w n s t
 rw [Op.equalIn]
 rw [runC_bind,runC_underlying Tryz.underlying189]
 simp only [Option.bind_some]
 rw [runC_bind,show runC Tryz.prog w program=some Tryz.prog from rfl]
 simp only [Option.bind_some]
 rw [if_neg (by rw [show Tryz.prog.stoodInHeld 189=false by kernel_rfl];simp)]
 have p1:runC Tryz.prog w (part 3 #[.int .i64 a,.string s] 0)=some (.int .i64 a):=by kernel_rfl
 have p2:runC Tryz.prog w (part 3 #[.int .i64 b,.string t] 0)=some (.int .i64 b):=by kernel_rfl
 have p3:runC Tryz.prog w (part 9 #[.int .i64 a,.string s] 1)=some (.string s):=by kernel_rfl
 have p4:runC Tryz.prog w (part 9 #[.int .i64 b,.string t] 1)=some (.string t):=by kernel_rfl
 simp only [← Array.forIn_toList,List.forIn_cons,List.forIn_nil,bind_assoc,ne_eq,reduceCtorEq]
 have n1 : ¬ ("Var" : String) = "_" := by decide
 have n2 : ¬ ("Tag" : String) = "_" := by decide
 simp only [n1,n2,not_false_eq_true,if_true,bind_assoc,pure_bind]
 simp only [runC_bind,p1,p2,p3,p4,e1,e2,Option.bind_some]
 generalize (a == b)=q1
 generalize (s == t)=q2 at e2 ⊢
 cases q1<;>cases q2<;>simp [runC_bind,runC_pure,p3,p4,e2]
theorem bytes_beq {s t:ByteArray}:(s == t)=true↔s=t:=by
 cases s with|mk d=>
 cases t with|mk d'=>
 show (d == d')=true↔_
 rw [beq_iff_eq]
 exact ⟨fun h=>by rw [h],fun h=>by cases h;rfl⟩
theorem beqM {a b:Int} {s t:ByteArray}:((a == b) && (s == t))=true↔a=b∧s=t:=by
 rw [Bool.and_eq_true,beq_iff_eq,bytes_beq]
theorem findM (w:World) (x:Nat × ByteArray):∀ (l:List (EntK (Nat × ByteArray))) (i:Nat),runC Tryz.prog w (Instr.findAsking 189 (kvM x) (l.map (entK kvM)) i)=some (lookIx l x i)
 | [],_=>rfl
 | e::l,i=>by
  obtain ⟨⟨b,t⟩,v,c⟩:=e
  obtain ⟨a,s⟩:=x
  simp only [List.map_cons,Instr.findAsking,entK,lookIx]
  rw [runC_bind]
  have h:=eqM w 9998 (a:Int) b s t
  have h:runC Tryz.prog w (Op.equal 189 (kvM (a,s)) (kvM (b,t)))=some (((a:Int) == b) && (s == t)):=h
  rw [h]
  simp only [Option.bind_some]
  by_cases hq:(((a:Int) == b) && (s == t))=true
  ·obtain ⟨h1,h2⟩:=beqM.1 hq
   have h1:a=b:=by omega
   subst h1 h2
   rw [if_pos hq,if_pos rfl]
   rfl
  ·rw [if_neg hq,if_neg fun e=>hq (by cases e;exact beqM.2 ⟨rfl,rfl⟩)]
   exact findM w (a,s) l (i+1)
instance keyM:KeyF Tryz.prog 189 (Nat × ByteArray) kvM:=⟨chkM,fun w x l=>by
 unfold Instr.findKey
 rw [runC_bind,runC_underlying Tryz.underlying189]
 simp only [Option.bind_some]
 cases l with
 | nil=>rfl
 | cons e l=>exact findM w x (e::l) 0,fun x=>by
 obtain ⟨a,s⟩:=x
 simp [kvM,Instr.sameBits,bytes_beq.2 rfl],fun x=>⟨mAV x,fun M w y=>by
 obtain ⟨a,s⟩:=x
 constructor
 ·rintro ⟨vs,rfl,y1,r1,rfl,⟨rfl,_⟩,y2,r2,rfl,⟨rfl,_⟩,rfl⟩
  rfl
 ·rintro rfl
  exact ⟨_,rfl,_,_,rfl,⟨rfl,rfl⟩,_,_,rfl,⟨rfl,rfl⟩,rfl⟩⟩⟩
instance keyAM:KeyA (Nat × ByteArray) kvM mAV:=⟨fun M w x y h=>by
 obtain ⟨a,s⟩:=x
 obtain ⟨vs,rfl,y1,r1,rfl,⟨rfl,_⟩,y2,r2,rfl,⟨rfl,_⟩,rfl⟩:=h
 rfl⟩
instance keyWM:KeyW (Nat × ByteArray) kvM mAV:=⟨fun M w x=>by
 obtain ⟨a,s⟩:=x
 exact ⟨_,rfl,_,_,rfl,⟨rfl,rfl⟩,_,_,rfl,⟨rfl,rfl⟩,rfl⟩⟩
end
noncomputable section
structure MB (tags:List ByteArray) (l:Ms):Prop where
 ok:MOk l
 tg:∀ m∈l,m.2∈tags
theorem filter_len {α:Type} {p:α→Bool}:∀ {l:List α},l.length=(l.filter p).length+(l.filter fun m=>!p m).length
 | []=>rfl
 | a::l=>by
  have:=filter_len (p:=p) (l:=l)
  cases h:p a<;>simp [List.filter,h]<;>omega
theorem markLen_aux {tags:List ByteArray}:∀ (n:Nat) {l:Ms},l.Nodup→(∀ m∈l,m.1 < n∧m.2∈tags)→l.length≤n * tags.length
 | 0,l,_,h=>by
  cases l with
  | nil=>simp
  | cons m l=>exact absurd (h m (by simp)).1 (by omega)
 | n+1,l,hn,h=>by
  have h1:=markLen_aux n (l:=l.filter fun m=>decide (m.1 < n)) (hn.sublist List.filter_sublist) fun m hm=>by
   obtain ⟨a,b⟩:=List.mem_filter.1 hm
   exact ⟨of_decide_eq_true b,(h m a).2⟩
  have h2:(l.filter fun m=>!decide (m.1 < n)).length≤tags.length:=by
   have hf:=hn.sublist (List.filter_sublist (p:=fun m=>!decide (m.1 < n)) (l:=l))
   have hm:∀ m∈l.filter (fun m=>!decide (m.1 < n)),m.1=n∧m.2∈tags:=fun m hm=>by
    obtain ⟨a,b⟩:=List.mem_filter.1 hm
    have:=(h m a).1
    have b:¬ m.1 < n:=by simpa using b
    exact ⟨by omega,(h m a).2⟩
   have h3:((l.filter fun m=>!decide (m.1 < n)).map (·.2)).Nodup:=by
    rw [List.nodup_iff_pairwise_ne,List.pairwise_map]
    refine (List.nodup_iff_pairwise_ne.1 hf).imp_of_mem fun {a b} ha hb hab e=>hab ?_
    exact Prod.ext ((hm a ha).1.trans (hm b hb).1.symm) e
   have:=nodup_len h3 fun x hx=>by
    obtain ⟨m,hm',rfl⟩:=List.mem_map.1 hx
    exact (hm m hm').2
   simpa using this
  have h4:l.length=(l.filter fun m=>decide (m.1 < n)).length+(l.filter fun m=>!decide (m.1 < n)).length:=filter_len
  rw [Nat.add_mul,Nat.one_mul]
  omega
theorem MB.len {tags:List ByteArray} {l:Ms} (h:MB tags l) (ht:tags.length≤10000000):l.length≤1099511627776:=by
 have hn:l.Nodup:=h.ok.asc.imp fun {a b} h e=>by rw [e,cMk_tot.self] at h;cases h
 have:=markLen_aux (tags:=tags) 100001 hn fun m hm=>⟨by have:=(h.ok.ok m hm).1;omega,h.tg m hm⟩
 have:100001 * tags.length≤100001 * 10000000:=Nat.mul_le_mul_left _ ht
 omega
theorem MB.nil {tags:List ByteArray}:MB tags []:=⟨.nil,by simp⟩
theorem MB.filter {tags:List ByteArray} {l:Ms} {p:Nat × ByteArray→Bool} (h:MB tags l):MB tags (l.filter p):=⟨h.ok.filter,fun m hm=>h.tg m (List.mem_filter.1 hm).1⟩
theorem MB.add {tags:List ByteArray} {l l':Ms} {x:T} {g:ByteArray} (h:MB tags l) (hg:NameP g) (hgt:g∈tags) (hx:∀ v,x.Occ v→v≤100000) (e:markAdd l x g=some l'):MB tags l':=by
 refine ⟨markAdd_ok h.ok hg hx e,?_⟩
 unfold markAdd at e
 split at e
 ·cases e
 ·cases e
  intro b hb
  rcases List.mem_append.1 ((mem_sortU cMk_tot).1 hb) with hb|hb
  ·exact h.tg b hb
  ·obtain ⟨v,hv,rfl⟩:=List.mem_map.1 hb
   exact hgt
theorem MB.marks {tags:List ByteArray} {s:Sb} (hs:∀ b∈s,b.2.fit):∀ {l out out':Ms},MB tags out→(∀ b∈l,(b.1≤100000∧NameP b.2)∧b.2∈tags)→marksG s l out=some out'→MB tags out'
 | [],_,_,ho,_,h=>by cases h;exact ho
 | b::l,out,out',ho,hl,h=>by
  unfold marksG at h
  split at h
  ·cases h
  ·rename_i o1 h1
   have hb:=hl b (by simp)
   exact MB.marks hs (ho.add hb.1.2 hb.2 (fun v hv=>(fit_suOf hs hb.1.1).1 v hv) h1) (fun c hc=>hl c (by simp [hc])) h
end
noncomputable section
abbrev Cl:=List (List G)
def lim (l:Cl):Option Cl:=if 64 < l.length then none else some l
theorem G.nodes_pos:∀ g:G,1≤g.nodes
 | .tru | .fail | .eq _ _ | .ne _ _ | .sy _ | .nu _ | .ab _ _ | .call _ _=>by simp [G.nodes]
 | .non _ _=>by simp [G.nodes]
 | .all _=>by simp [G.nodes]
 | .any _=>by simp [G.nodes]
end
noncomputable section
open Classical
mutual
/-- what a machine can hold -/
def Gl.In:Gl→Prop
 | .mk k s ts gs=>I64 k∧Lng s.size∧Lng ts.length∧InL ts∧gs.length≤1048576∧InG gs
def InG:List Gl→Prop
 | []=>True
 | g::l=>g.In∧InG l
end
theorem InG.all {l:List Gl}:InG l↔∀ t∈l,t.In:=by
 induction l with
 | nil=>simp [InG]
 | cons t l ih=>simp [InG,ih]
theorem Gl.in_iff {g:Gl}:g.In↔I64 g.kind∧Lng g.name.size∧Lng g.terms.length∧InL g.terms∧g.goals.length≤1048576∧InG g.goals:=by cases g;exact Iff.rfl
theorem Gl.kid_in {g x:Gl} {j:Nat} (h:g.In) (hj:g.goals[j]?=some x):x.In:=InG.all.1 (Gl.in_iff.1 h).2.2.2.2.2 x (List.mem_of_getElem? hj)
theorem Gl.kid_lt {g x:Gl} {j:Nat} (hj:g.goals[j]?=some x):SizeOf.sizeOf x < SizeOf.sizeOf g:=by
 cases g
 have:=List.sizeOf_lt_of_mem (List.mem_of_getElem? hj)
 simp at this ⊢;omega
def gnR (g:Gl) (room:Int):Int:=if g.wf∧(g.nodes:Int)≤room then (g.nodes:Int) else -1
theorem gnR_pos {g:Gl} {room:Int} (h:0≤gnR g room):g.wf∧(g.nodes:Int)≤room∧gnR g room=g.nodes:=by
 unfold gnR at *
 split at h
 ·rename_i h';exact ⟨h'.1,h'.2,by rw [if_pos h']⟩
 ·omega
theorem gnR_of {g:Gl} {room:Int} (h1:g.wf) (h2:(g.nodes:Int)≤room):gnR g room=g.nodes:=by unfold gnR;rw [if_pos ⟨h1,h2⟩]
theorem gnR_not {g:Gl} {room:Int} (h:¬ (g.wf∧(g.nodes:Int)≤room)):gnR g room=-1:=by unfold gnR;rw [if_neg h]
theorem gnR_wf {g:Gl} {room:Int} (h:¬ g.wf):gnR g room=-1:=gnR_not fun h'=>h h'.1
theorem nodesGl_drop {l:List Gl} {j:Nat} {x:Gl} (h:l.drop j=x::l.drop (j+1)):nodesGl (l.drop j)=x.nodes+nodesGl (l.drop (j+1)):=by rw [h];rfl
mutual
/-- l13Count -/
def Gl.cnt (m:Int):Gl→Int
 | .mk _ _ _ l=>cntGl m l 1
def cntGl (m:Int):List Gl→Int→Int
 | [],n=>n
 | t::l,n=>if n > m then n else cntGl m l (n+t.cnt (m - n))
end
mutual
theorem gcnt_le:∀ (t:Gl) (m:Int),0≤m→1≤t.cnt m∧t.cnt m≤m+1
 | .mk _ _ _ l,m,h=>by unfold Gl.cnt;exact gcntL_le l m 1 (by omega) (by omega)
theorem gcntL_le:∀ (l:List Gl) (m n:Int),1≤n→n≤m+1→1≤cntGl m l n∧cntGl m l n≤m+1
 | [],m,n,h,h'=>by unfold cntGl;exact ⟨h,h'⟩
 | t::l,m,n,h,h'=>by
  unfold cntGl
  split
  ·exact ⟨h,h'⟩
  ·have:=gcnt_le t (m - n) (by omega)
   exact gcntL_le l m _ (by omega) (by omega)
end
mutual
theorem gcnt_nodes:∀ (t:Gl) (m:Int),0≤m→t.cnt m=t.nodes∨(m < t.cnt m∧m < t.nodes)
 | .mk _ _ _ l,m,h=>by
  have:=gcntL_nodes l m 1 (by omega) (by omega)
  simp only [Gl.cnt,Gl.nodes]
  omega
theorem gcntL_nodes:∀ (l:List Gl) (m n:Int),1≤n→n≤m+1→cntGl m l n=n+nodesGl l∨(m < cntGl m l n∧m < n+nodesGl l)
 | [],m,n,h,h'=>by simp [cntGl,nodesGl]
 | t::l,m,n,h,h'=>by
  have hp:=t.nodes_pos
  simp only [cntGl,nodesGl]
  split
  ·omega
  ·have h1:=gcnt_nodes t (m - n) (by omega)
   have h2:=gcnt_le t (m - n) (by omega)
   have h3:=gcntL_nodes l m (n+t.cnt (m - n)) (by omega) (by omega)
   omega
end
end
end Go.Proofs.YtejkllmoofdpjaaGreat
