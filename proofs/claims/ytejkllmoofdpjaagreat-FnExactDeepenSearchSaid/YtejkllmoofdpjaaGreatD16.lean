/- Parts of the proof: VZ3 VZ4 VZ5 VZ6. -/
import Derived.Test.YtejkllmoofdpjaaGreatD15
namespace Go.Proofs.YtejkllmoofdpjaaGreat
open Go
set_option linter.all false
set_option maxRecDepth 100000
set_option maxHeartbeats 4000000
section
open Go Go.Sort
noncomputable section
def exq (id:Nat) (K:AF→List Atm→Prop) (Q:AQ):AQ
 | .exit id',f,A=>if id'=id then K f A else Q (.exit id') f A
 | e,f,A=>Q e f A
section
variable {P:Program} {n:Nat} {C:Cx} {Q:AQ} {f:AF} {A:List Atm} {K:AF→List Atm→Prop} {i:Nat}
instance cvZ1:Cv (exq i K Q (.exit i) f A) (K f A):=⟨fun h=>by simpa [exq] using h⟩
theorem kloopE {c:Code} {ι:Type} (e:Nat) (μ:ι→Nat) (F:ι→List (Nat × AV)) (B:ι→List Atm) (p E:ι→Prop) (x:ι) (hp:p x)
 (round:∀ x,p x→AW P n C c (asq (fun f' A'=>∃ y,μ y < μ x∧p y∧Wk f' A' (fl (F y)) (B y)) (exq e (fun f' A'=>∃ y,E y∧Wk f' A' (fl (F y)) (B y)) Q)) (fl (F x)) (B x))
 (after:∀ y,E y→Q (.exit e) (fl (F y)) (B y)) (hw:Wk f A (fl (F x)) (B x):=by exact kwk):AW P n C (.loop c) Q f A:=fun g w hi=>by
 refine W_mono (kloop μ F B p x hp round hw g w hi) ?_
 rintro e' g' w' ⟨f',A',hq,hi'⟩
 cases e' with
 | exit id'=>
  simp only [exq] at hq
  split at hq
  ·rename_i h
   subst h
   obtain ⟨y,hE,hw⟩:=hq
   exact ⟨_,_,after y hE,hw.inv hi'⟩
  ·exact ⟨f',A',hq,hi'⟩
 | _=>exact ⟨f',A',hq,hi'⟩
end
section
variable {α:Type} [Inhabited α] {n:Nat} {R:Array α→List Atm} {lt:α→α→Bool} {uL uS:Value}
theorem reverse_go {i j:Nat} {d:Array α} (h:i < j):reverseLoop i j d=reverseLoop (i+1) (j - 1) (swp d i j):=by rw [reverseLoop,if_pos h]
theorem reverse_stop {i j:Nat} {d:Array α} (h:¬ i < j):reverseLoop i j d=d:=by rw [reverseLoop,if_neg h]
theorem reverseRange_c (S:SortC Tryz.prog n R lt uL uS) (d:Array α) (a b:Nat) (hd:d.size=n) (hab:a < b) (hb:b≤n) :
 Spec Tryz.prog 316 [lsw uL uS,nv a,nv b] (R d) fun _ A'=>A'=R (reverseRange d a b):=by
 have hl:=S.lim
 refine sp Tryz.func316 rfl Tryz.ntmps316 rfl rfl fun C=>?_
 (repeat' first|(refine kk ?_;intros)|refine kfk ?_ ?_<;>intro hb|fail)
 rename_i bx
 refine kloop (ι:=Nat × Nat × Array α) (fun q=>q.2.1 - q.1) (fun q=>[(3,.one (.v (.pointer (some ⟨bx,0,none⟩)))),(6,nv q.1),(7,nv q.2.1)]) (fun q=>abox bx [.v uL,.v uS] 326::R q.2.2) (fun q=>q.2.2.size=n∧q.2.1 < n∧reverseLoop q.1 q.2.1 q.2.2=reverseRange d a b) (a,b - 1,d) ⟨hd,by simp only;omega,rfl⟩ ?_
 rintro ⟨i,j,d1⟩ ⟨h1,h2,h3⟩
 simp only at h1 h2 h3
 dsimp only
 by_cases hij:i < j
 ·(repeat' first|(refine kk ?_;intros)|refine kfk ?_ ?_<;>intro hb|fail)
  refine kcv (A1:=[_]) (h:=S.swap d1 i j h1 (by omega) h2) ?_
  rintro _ _ rfl
  (repeat' first|(refine kk ?_;intros)|refine kfk ?_ ?_<;>intro hb|fail)
  refine ⟨(i+1,j - 1,swp d1 i j),by simp only;omega,⟨by rw [size_swp];exact h1,by simp only;omega,by rw [← h3,reverse_go hij]⟩,kwk⟩
 ·(repeat' first|(refine kk ?_;intros)|refine kfk ?_ ?_<;>intro hb|fail)
  exact ker0 (A'':=R d1) (by rw [← h3,reverse_stop hij])
section
variable {p:α→Bool}
theorem scanUp_go {d:Array α} {i j:Nat} (h:i≤j) (hp:p d[i]! = true):scanUp p d j i=scanUp p d j (i+1):=by rw [scanUp,if_pos (by simp [h,hp])]
theorem scanUp_stop {d:Array α} {i j:Nat} (h:j < i∨p d[i]! = false):scanUp p d j i=i:=by
 rw [scanUp,if_neg]
 rcases h with h|h
 ·simp;omega
 ·simp [h]
theorem scanDown_go {d:Array α} {i j:Nat} (h:i≤j) (h0:0 < j) (hp:p d[j]! = true):scanDown p d i j=scanDown p d i (j - 1):=by
 obtain ⟨k,rfl⟩:∃ k,j=k+1:=⟨j - 1,by omega⟩
 rw [scanDown,if_pos (by simp [h,hp])];rfl
theorem scanDown_stop {d:Array α} {i j:Nat} (h:j < i∨p d[j]! = false):scanDown p d i j=j:=by
 cases j with
 | zero=>rfl
 | succ k=>
  rw [scanDown,if_neg]
  rcases h with h|h
  ·simp;omega
  ·simp [h]
end
theorem partLoop_go {a i j i2 j2:Nat} {d:Array α} (h1:scanUp (fun x=>lt x d[a]!) d j i=i2) (h2:scanDown (fun x=>!lt x d[a]!) d i2 j=j2) (hi:i≤i2) (hj:j2≤j):partLoop lt a i j d=if i2 > j2 then (j2,d) else partLoop lt a (i2+1) (j2 - 1) (swp d i2 j2):=by
 rw [partLoop]
 simp only [h1,h2]
 split
 ·rfl
 ·rw [dif_pos (by omega)]
theorem partEqLoop_go {a i j i2 j2:Nat} {d:Array α} (h1:scanUp (fun x=>!lt d[a]! x) d j i=i2) (h2:scanDown (fun x=>lt d[a]! x) d i2 j=j2) (hi:i≤i2) (hj:j2≤j):partEqLoop lt a i j d=if i2 > j2 then (i2,d) else partEqLoop lt a (i2+1) (j2 - 1) (swp d i2 j2):=by
 rw [partEqLoop]
 simp only [h1,h2]
 split
 ·rfl
 ·rw [dif_pos (by omega)]
theorem partitionEqual_c (S:SortC Tryz.prog n R lt uL uS) (d:Array α) (a b pivot:Nat) (hd:d.size=n) (hab:a < b) (hp:pivot < b) (hb:b≤n) :
 Spec Tryz.prog 318 [lsw uL uS,nv a,nv b,nv pivot] (R d) fun v A'=>v=nv (partitionEqual lt d a b pivot).1∧A'=R (partitionEqual lt d a b pivot).2:=by
 have hl:=S.lim
 refine sp Tryz.func318 rfl Tryz.ntmps318 rfl rfl fun C=>?_
 (repeat' first|(refine kk ?_;intros)|refine kfk ?_ ?_<;>intro hb|fail)
 rename_i bx
 refine kcv (A1:=[_]) (h:=S.swap d a pivot hd (by omega) (by omega)) ?_
 rintro _ _ rfl
 (repeat' first|(refine kk ?_;intros)|refine kfk ?_ ?_<;>intro hb|fail)
 refine kloop (ι:=Nat × Nat × Array α) (fun q=>q.2.1+2 - q.1) (fun q=>[(1,nv a),(4,.one (.v (.pointer (some ⟨bx,0,none⟩)))),(9,nv q.1),(10,nv q.2.1)]) (fun q=>abox bx [.v uL,.v uS] 326::R q.2.2) (fun q=>(0 < q.1∧q.1≤n)∧q.2.2.size=n∧q.2.1 < n∧partEqLoop lt a q.1 q.2.1 q.2.2=partitionEqual lt d a b pivot) (a+1,b - 1,swp d a pivot) ⟨by simp only;omega,by rw [size_swp];exact hd,by simp only;omega,rfl⟩ ?_
 rintro ⟨i,j,d1⟩ ⟨⟨h0,h0'⟩,h1,h2,h3⟩
 simp only at h0 h0' h1 h2 h3
 dsimp only
 (repeat' first|(refine kk ?_;intros)|refine kfk ?_ ?_<;>intro hb|fail)
 refine kloopE (ι:=Nat) 2 (fun q=>j+1 - q) (fun q=>[(1,nv a),(4,.one (.v (.pointer (some ⟨bx,0,none⟩)))),(9,nv q),(10,nv j)]) (fun q=>abox bx [.v uL,.v uS] 326::R d1) (fun q=>(i≤q∧q≤n)∧scanUp (fun x=>!lt d1[a]! x) d1 j q=scanUp (fun x=>!lt d1[a]! x) d1 j i) (fun q=>(i≤q∧q≤n)∧scanUp (fun x=>!lt d1[a]! x) d1 j i=q) i ⟨⟨Nat.le_refl _,h0'⟩,rfl⟩ ?_ ?_
 ·rintro i1 ⟨⟨g1,g1'⟩,g2⟩
  by_cases hij:i1≤j
  ·(repeat' first|(refine kk ?_;intros)|refine kfk ?_ ?_<;>intro hb|fail)
   refine kcvG (A1:=[_]) (h:=S.less d1 a i1 h1 (by omega) (by omega)) ?_
   rintro _ _ ⟨rfl,rfl⟩
   (repeat' first|(refine kk ?_;intros)|refine kfk ?_ ?_<;>intro hb|fail)
   ·exact ⟨i1+1,by omega,⟨⟨by omega,by omega⟩,by rw [← g2,scanUp_go hij (by simp [hb])]⟩,kwk⟩
   ·exact ⟨i1,⟨⟨g1,g1'⟩,by rw [← g2,scanUp_stop (.inr (by simp [hb]))]⟩,kwk⟩
  ·(repeat' first|(refine kk ?_;intros)|refine kfk ?_ ?_<;>intro hb|fail)
   exact ⟨i1,⟨⟨g1,g1'⟩,by rw [← g2,scanUp_stop (.inl (by omega))]⟩,kwk⟩
 rintro i1 ⟨⟨g1,g1'⟩,g2⟩
 (repeat' first|(refine kk ?_;intros)|refine kfk ?_ ?_<;>intro hb|fail)
 refine kloopE (ι:=Nat) 4 (fun q=>q) (fun q=>[(1,nv a),(4,.one (.v (.pointer (some ⟨bx,0,none⟩)))),(9,nv i1),(10,nv q)]) (fun q=>abox bx [.v uL,.v uS] 326::R d1) (fun q=>q≤j∧scanDown (fun x=>lt d1[a]! x) d1 i1 q=scanDown (fun x=>lt d1[a]! x) d1 i1 j) (fun q=>q≤j∧scanDown (fun x=>lt d1[a]! x) d1 i1 j=q) j ⟨Nat.le_refl _,rfl⟩ ?_ ?_
 ·rintro j1 ⟨k1,k2⟩
  by_cases hij:i1≤j1
  ·(repeat' first|(refine kk ?_;intros)|refine kfk ?_ ?_<;>intro hb|fail)
   refine kcvG (A1:=[_]) (h:=S.less d1 a j1 h1 (by omega) (by omega)) ?_
   rintro _ _ ⟨rfl,rfl⟩
   (repeat' first|(refine kk ?_;intros)|refine kfk ?_ ?_<;>intro hb|fail)
   ·exact ⟨j1 - 1,by omega,⟨by omega,by rw [← k2,scanDown_go hij (by omega) hb]⟩,kwk⟩
   ·exact ⟨j1,⟨k1,by rw [← k2,scanDown_stop (.inr (by simp [hb]))]⟩,kwk⟩
  ·(repeat' first|(refine kk ?_;intros)|refine kfk ?_ ?_<;>intro hb|fail)
   exact ⟨j1,⟨k1,by rw [← k2,scanDown_stop (.inl (by omega))]⟩,kwk⟩
 rintro j1 ⟨k1,k2⟩
 have hgo:=partEqLoop_go g2 k2 g1 k1
 by_cases hij:j1 < i1
 ·(repeat' first|(refine kk ?_;intros)|refine kfk ?_ ?_<;>intro hb|fail)
  refine ker1 (A'':=R d1) _ ⟨?_,?_⟩
  ·rw [← h3,hgo,if_pos hij]
  ·rw [← h3,hgo,if_pos hij]
 ·rw [if_neg hij] at hgo
  (repeat' first|(refine kk ?_;intros)|refine kfk ?_ ?_<;>intro hb|fail)
  refine kcv (A1:=[_]) (h:=S.swap d1 i1 j1 h1 (by omega) (by omega)) ?_
  rintro _ _ rfl
  (repeat' first|(refine kk ?_;intros)|refine kfk ?_ ?_<;>intro hb|fail)
  exact ⟨(i1+1,j1 - 1,swp d1 i1 j1),by simp only;omega,⟨⟨by simp only;omega,by simp only;omega⟩,by rw [size_swp];exact h1,by simp only;omega,by rw [← h3,hgo]⟩,kwk⟩
end
end
end
section
open Go Go.Sort
noncomputable section
section
variable {α:Type} [Inhabited α] {n:Nat} {R:Array α→List Atm} {lt:α→α→Bool} {uL uS:Value}
theorem partition_eq {d d0:Array α} {a b pivot i j:Nat} (h0:d0=swp d a pivot) (h1:scanUp (fun x=>lt x d0[a]!) d0 (b - 1) (a+1)=i) (h2:scanDown (fun x=>!lt x d0[a]!) d0 i (b - 1)=j) :
 partition lt d a b pivot=if i > j then (j,true,swp d0 j a) else ((partLoop lt a (i+1) (j - 1) (swp d0 i j)).1,false,swp (partLoop lt a (i+1) (j - 1) (swp d0 i j)).2 (partLoop lt a (i+1) (j - 1) (swp d0 i j)).1 a):=by
 subst h0
 unfold partition
 simp only [h1,h2]
theorem partition_c (S:SortC Tryz.prog n R lt uL uS) (d:Array α) (a b pivot:Nat) (hd:d.size=n) (hab:a < b) (hp:pivot < b) (hb:b≤n) :
 Spec Tryz.prog 319 [lsw uL uS,nv a,nv b,nv pivot] (R d) fun v A'=>v=.tup [nv (partition lt d a b pivot).1,bv (partition lt d a b pivot).2.1]∧A'=R (partition lt d a b pivot).2.2:=by
 have hl:=S.lim
 have hd0:(swp d a pivot).size=n:=by rw [size_swp];exact hd
 refine sp Tryz.func319 rfl Tryz.ntmps319 rfl rfl fun C=>?_
 (repeat' first|(refine kk ?_;intros)|refine kfk ?_ ?_<;>intro hb|fail)
 rename_i bx
 refine kcv (A1:=[_]) (h:=S.swap d a pivot hd (by omega) (by omega)) ?_
 rintro _ _ rfl
 have hpe:=fun i j=>@partition_eq α _ lt d _ a b pivot i j rfl
 generalize swp d a pivot=d0 at hd0 hpe ⊢
 (repeat' first|(refine kk ?_;intros)|refine kfk ?_ ?_<;>intro hb|fail)
 refine kloopE (ι:=Nat) 0 (fun q=>b - q) (fun q=>[(1,nv a),(4,.one (.v (.pointer (some ⟨bx,0,none⟩)))),(10,nv q),(11,nv (b - 1))]) (fun q=>abox bx [.v uL,.v uS] 326::R d0) (fun q=>(a+1≤q∧q≤n)∧scanUp (fun x=>lt x d0[a]!) d0 (b - 1) q=scanUp (fun x=>lt x d0[a]!) d0 (b - 1) (a+1)) (fun q=>(a+1≤q∧q≤n)∧scanUp (fun x=>lt x d0[a]!) d0 (b - 1) (a+1)=q) (a+1) ⟨⟨Nat.le_refl _,by omega⟩,rfl⟩ ?_ ?_
 ·rintro i1 ⟨⟨g1,g1'⟩,g2⟩
  by_cases hij:i1≤b - 1
  ·(repeat' first|(refine kk ?_;intros)|refine kfk ?_ ?_<;>intro hb|fail)
   refine kcvG (A1:=[_]) (h:=S.less d0 i1 a hd0 (by omega) (by omega)) ?_
   rintro _ _ ⟨rfl,rfl⟩
   (repeat' first|(refine kk ?_;intros)|refine kfk ?_ ?_<;>intro hb|fail)
   ·exact ⟨i1+1,by omega,⟨⟨by omega,by omega⟩,by rw [← g2,scanUp_go hij hb]⟩,kwk⟩
   ·exact ⟨i1,⟨⟨g1,g1'⟩,by rw [← g2,scanUp_stop (.inr (by simp [hb]))]⟩,kwk⟩
  ·(repeat' first|(refine kk ?_;intros)|refine kfk ?_ ?_<;>intro hb|fail)
   exact ⟨i1,⟨⟨g1,g1'⟩,by rw [← g2,scanUp_stop (.inl (by omega))]⟩,kwk⟩
 rintro i1 ⟨⟨g1,g1'⟩,g2⟩
 (repeat' first|(refine kk ?_;intros)|refine kfk ?_ ?_<;>intro hb|fail)
 refine kloopE (ι:=Nat) 2 (fun q=>q) (fun q=>[(1,nv a),(4,.one (.v (.pointer (some ⟨bx,0,none⟩)))),(10,nv i1),(11,nv q)]) (fun q=>abox bx [.v uL,.v uS] 326::R d0) (fun q=>q≤b - 1∧scanDown (fun x=>!lt x d0[a]!) d0 i1 q=scanDown (fun x=>!lt x d0[a]!) d0 i1 (b - 1)) (fun q=>q≤b - 1∧scanDown (fun x=>!lt x d0[a]!) d0 i1 (b - 1)=q) (b - 1) ⟨Nat.le_refl _,rfl⟩ ?_ ?_
 ·rintro j1 ⟨k1,k2⟩
  by_cases hij:i1≤j1
  ·(repeat' first|(refine kk ?_;intros)|refine kfk ?_ ?_<;>intro hb|fail)
   refine kcvG (A1:=[_]) (h:=S.less d0 j1 a hd0 (by omega) (by omega)) ?_
   rintro _ _ ⟨rfl,rfl⟩
   (repeat' first|(refine kk ?_;intros)|refine kfk ?_ ?_<;>intro hb|fail)
   ·exact ⟨j1 - 1,by omega,⟨by omega,by rw [← k2,scanDown_go hij (by omega) (by simp [hb])]⟩,kwk⟩
   ·exact ⟨j1,⟨k1,by rw [← k2,scanDown_stop (.inr (by simp [hb]))]⟩,kwk⟩
  ·(repeat' first|(refine kk ?_;intros)|refine kfk ?_ ?_<;>intro hb|fail)
   exact ⟨j1,⟨k1,by rw [← k2,scanDown_stop (.inl (by omega))]⟩,kwk⟩
 rintro j1 ⟨k1,k2⟩
 have hpe:=hpe i1 j1 g2 k2
 by_cases hij:j1 < i1
 ·rw [if_pos hij] at hpe
  (repeat' first|(refine kk ?_;intros)|refine kfk ?_ ?_<;>intro hb|fail)
  refine kcv (A1:=[_]) (h:=S.swap d0 j1 a hd0 (by omega) (by omega)) ?_
  rintro _ _ rfl
  (repeat' first|(refine kk ?_;intros)|refine kfk ?_ ?_<;>intro hb|fail)
  exact ker2 (A'':=R (swp d0 j1 a)) ⟨by rw [hpe],by rw [hpe]⟩ (.refl _) (.refl _)
 rw [if_neg hij] at hpe
 (repeat' first|(refine kk ?_;intros)|refine kfk ?_ ?_<;>intro hb|fail)
 refine kcv (A1:=[_]) (h:=S.swap d0 i1 j1 hd0 (by omega) (by omega)) ?_
 rintro _ _ rfl
 have hd3:(swp d0 i1 j1).size=n:=by rw [size_swp];exact hd0
 generalize swp d0 i1 j1=d3 at hd3 hpe ⊢
 (repeat' first|(refine kk ?_;intros)|refine kfk ?_ ?_<;>intro hb|fail)
 refine kloop (ι:=Nat × Nat × Array α) (fun q=>q.2.1+2 - q.1) (fun q=>[(1,nv a),(4,.one (.v (.pointer (some ⟨bx,0,none⟩)))),(10,nv q.1),(11,nv q.2.1)]) (fun q=>abox bx [.v uL,.v uS] 326::R q.2.2) (fun q=>(0 < q.1∧q.1≤n)∧q.2.2.size=n∧q.2.1 < n∧partLoop lt a q.1 q.2.1 q.2.2=partLoop lt a (i1+1) (j1 - 1) d3) (i1+1,j1 - 1,d3) ⟨by simp only;omega,hd3,by simp only;omega,rfl⟩ ?_
 rintro ⟨i,j,d1⟩ ⟨⟨h0,h0'⟩,h1,h2,h3⟩
 simp only at h0 h0' h1 h2 h3
 dsimp only
 (repeat' first|(refine kk ?_;intros)|refine kfk ?_ ?_<;>intro hb|fail)
 refine kloopE (ι:=Nat) 6 (fun q=>j+1 - q) (fun q=>[(1,nv a),(4,.one (.v (.pointer (some ⟨bx,0,none⟩)))),(10,nv q),(11,nv j)]) (fun q=>abox bx [.v uL,.v uS] 326::R d1) (fun q=>(i≤q∧q≤n)∧scanUp (fun x=>lt x d1[a]!) d1 j q=scanUp (fun x=>lt x d1[a]!) d1 j i) (fun q=>(i≤q∧q≤n)∧scanUp (fun x=>lt x d1[a]!) d1 j i=q) i ⟨⟨Nat.le_refl _,h0'⟩,rfl⟩ ?_ ?_
 ·rintro i2 ⟨⟨g1,g1'⟩,g2⟩
  by_cases hij:i2≤j
  ·(repeat' first|(refine kk ?_;intros)|refine kfk ?_ ?_<;>intro hb|fail)
   refine kcvG (A1:=[_]) (h:=S.less d1 i2 a h1 (by omega) (by omega)) ?_
   rintro _ _ ⟨rfl,rfl⟩
   (repeat' first|(refine kk ?_;intros)|refine kfk ?_ ?_<;>intro hb|fail)
   ·exact ⟨i2+1,by omega,⟨⟨by omega,by omega⟩,by rw [← g2,scanUp_go hij hb]⟩,kwk⟩
   ·exact ⟨i2,⟨⟨g1,g1'⟩,by rw [← g2,scanUp_stop (.inr (by simp [hb]))]⟩,kwk⟩
  ·(repeat' first|(refine kk ?_;intros)|refine kfk ?_ ?_<;>intro hb|fail)
   exact ⟨i2,⟨⟨g1,g1'⟩,by rw [← g2,scanUp_stop (.inl (by omega))]⟩,kwk⟩
 rintro i2 ⟨⟨g1,g1'⟩,g2⟩
 (repeat' first|(refine kk ?_;intros)|refine kfk ?_ ?_<;>intro hb|fail)
 refine kloopE (ι:=Nat) 8 (fun q=>q) (fun q=>[(1,nv a),(4,.one (.v (.pointer (some ⟨bx,0,none⟩)))),(10,nv i2),(11,nv q)]) (fun q=>abox bx [.v uL,.v uS] 326::R d1) (fun q=>q≤j∧scanDown (fun x=>!lt x d1[a]!) d1 i2 q=scanDown (fun x=>!lt x d1[a]!) d1 i2 j) (fun q=>q≤j∧scanDown (fun x=>!lt x d1[a]!) d1 i2 j=q) j ⟨Nat.le_refl _,rfl⟩ ?_ ?_
 ·rintro j2 ⟨k1,k2⟩
  by_cases hij:i2≤j2
  ·(repeat' first|(refine kk ?_;intros)|refine kfk ?_ ?_<;>intro hb|fail)
   refine kcvG (A1:=[_]) (h:=S.less d1 j2 a h1 (by omega) (by omega)) ?_
   rintro _ _ ⟨rfl,rfl⟩
   (repeat' first|(refine kk ?_;intros)|refine kfk ?_ ?_<;>intro hb|fail)
   ·exact ⟨j2 - 1,by omega,⟨by omega,by rw [← k2,scanDown_go hij (by omega) (by simp [hb])]⟩,kwk⟩
   ·exact ⟨j2,⟨k1,by rw [← k2,scanDown_stop (.inr (by simp [hb]))]⟩,kwk⟩
  ·(repeat' first|(refine kk ?_;intros)|refine kfk ?_ ?_<;>intro hb|fail)
   exact ⟨j2,⟨k1,by rw [← k2,scanDown_stop (.inl (by omega))]⟩,kwk⟩
 rintro j2 ⟨k1,k2⟩
 have hgo:=partLoop_go g2 k2 g1 k1
 by_cases hij:j2 < i2
 ·rw [if_pos hij] at hgo
  (repeat' first|(refine kk ?_;intros)|refine kfk ?_ ?_<;>intro hb|fail)
  refine kcv (A1:=[_]) (h:=S.swap d1 j2 a h1 (by omega) (by omega)) ?_
  rintro _ _ rfl
  (repeat' first|(refine kk ?_;intros)|refine kfk ?_ ?_<;>intro hb|fail)
  refine ker2 (A'':=R (swp d1 j2 a)) ⟨?_,?_⟩ (.refl _) (.refl _)
  ·rw [hpe,← h3,hgo]
  ·rw [hpe,← h3,hgo]
 ·rw [if_neg hij] at hgo
  (repeat' first|(refine kk ?_;intros)|refine kfk ?_ ?_<;>intro hb|fail)
  refine kcv (A1:=[_]) (h:=S.swap d1 i2 j2 h1 (by omega) (by omega)) ?_
  rintro _ _ rfl
  (repeat' first|(refine kk ?_;intros)|refine kfk ?_ ?_<;>intro hb|fail)
  exact ⟨(i2+1,j2 - 1,swp d1 i2 j2),by simp only;omega,⟨⟨by simp only;omega,by simp only;omega⟩,by rw [size_swp];exact h1,by simp only;omega,by rw [← h3,hgo]⟩,kwk⟩
end
end
end
section
open Go Go.Sort
noncomputable section
section
variable {α:Type} [Inhabited α] {n:Nat} {R:Array α→List Atm} {lt:α→α→Bool} {uL uS:Value}
theorem scanSorted_go {d:Array α} {b i:Nat} (h:i < b) (hl:lt d[i]! d[i - 1]! = false):scanSorted lt d b i=scanSorted lt d b (i+1):=by rw [scanSorted,if_pos (by simp [h,hl])]
theorem scanSorted_stop {d:Array α} {b i:Nat} (h:¬ i < b∨lt d[i]! d[i - 1]! = true):scanSorted lt d b i=i:=by
 rw [scanSorted,if_neg]
 rcases h with h|h
 ·simp [h]
 ·simp [h]
theorem shiftDown_go {d:Array α} {j:Nat} (h:0 < j) (hl:lt d[j]! d[j - 1]! = true):Go.Sort.shiftDown lt j d=Go.Sort.shiftDown lt (j - 1) (swp d j (j - 1)):=by
 obtain ⟨k,rfl⟩:∃ k,j=k+1:=⟨j - 1,by omega⟩
 simp only [Nat.add_sub_cancel] at hl ⊢
 rw [Go.Sort.shiftDown,if_neg (by simp [hl])]
theorem shiftDown_stop {d:Array α} {j:Nat} (h:¬ 0 < j∨lt d[j]! d[j - 1]! = false):Go.Sort.shiftDown lt j d=d:=by
 cases j with
 | zero=>rfl
 | succ k=>
  simp only [Nat.add_sub_cancel] at h
  rw [Go.Sort.shiftDown,if_pos]
  rcases h with h|h
  ·omega
  ·simp [h]
theorem shiftUp_go {d:Array α} {b j:Nat} (h:j < b) (hl:lt d[j]! d[j - 1]! = true):shiftUp lt b j d=shiftUp lt b (j+1) (swp d j (j - 1)):=by rw [shiftUp,if_pos h,if_neg (by simp [hl])]
theorem shiftUp_stop {d:Array α} {b j:Nat} (h:¬ j < b∨lt d[j]! d[j - 1]! = false):shiftUp lt b j d=d:=by
 rw [shiftUp]
 rcases h with h|h
 ·rw [if_neg h]
 ·split
  ·rw [if_pos (by simp [h])]
  ·rfl
theorem partialIns_go {d d2 d3:Array α} {a b s i i1:Nat} (h1:scanSorted lt d b i=i1) (h2:(if i1 - a ≥ 2 then Go.Sort.shiftDown lt (i1 - 1) (swp d i1 (i1 - 1)) else swp d i1 (i1 - 1))=d2):partialIns lt a b (s+1) i d=if i1=b then (d,true) else if b - a < 50 then (d,false) else partialIns lt a b s i1 (if b - i1 ≥ 2 then shiftUp lt b (i1+1) d2 else d2):=by
 rw [partialIns]
 simp only [h1,h2]
theorem partialInsertionSort_c (S:SortC Tryz.prog n R lt uL uS) (d:Array α) (a b:Nat) (hd:d.size=n) (hab:a < b) (hb:b≤n) :
 Spec Tryz.prog 317 [lsw uL uS,nv a,nv b] (R d) fun v A'=>v=bv (partialInsertionSort lt d a b).2∧A'=R (partialInsertionSort lt d a b).1:=by
 have hl:=S.lim
 refine sp Tryz.func317 rfl Tryz.ntmps317 rfl rfl fun C=>?_
 (repeat' first|(refine kk ?_;intros)|refine kfk ?_ ?_<;>intro hb|fail)
 rename_i bx
 refine kloop (ι:=Nat × Nat × Array α) (fun q=>6 - q.1) (fun q=>[(1,nv a),(2,nv b),(3,.one (.v (.pointer (some ⟨bx,0,none⟩)))),(7,nv q.2.1),(8,nv q.1)]) (fun q=>abox bx [.v uL,.v uS] 326::R q.2.2) (fun q=>q.1≤5∧(a < q.2.1∧q.2.1≤b)∧q.2.2.size=n∧partialIns lt a b (5 - q.1) q.2.1 q.2.2=partialInsertionSort lt d a b) (0,a+1,d) ⟨by simp only;omega,by simp only;omega,hd,rfl⟩ ?_
 rintro ⟨c,i,d1⟩ ⟨h1,⟨h2,h2'⟩,h3,h4⟩
 simp only at h1 h2 h2' h3 h4
 dsimp only
 by_cases hc:c < 5
 ·obtain ⟨s,hs⟩:∃ s,5 - c=s+1:=⟨4 - c,by omega⟩
  rw [hs] at h4
  (repeat' first|(refine kk ?_;intros)|refine kfk ?_ ?_<;>intro hb|fail)
  refine kloopE (ι:=Nat) 2 (fun q=>b - q) (fun q=>[(1,nv a),(2,nv b),(3,.one (.v (.pointer (some ⟨bx,0,none⟩)))),(7,nv q),(8,nv c)]) (fun q=>abox bx [.v uL,.v uS] 326::R d1) (fun q=>(i≤q∧q≤b)∧scanSorted lt d1 b q=scanSorted lt d1 b i) (fun q=>(i≤q∧q≤b)∧scanSorted lt d1 b i=q) i ⟨⟨Nat.le_refl _,h2'⟩,rfl⟩ ?_ ?_
  ·rintro i1 ⟨⟨g1,g1'⟩,g2⟩
   by_cases hij:i1 < b
   ·(repeat' first|(refine kk ?_;intros)|refine kfk ?_ ?_<;>intro hb|fail)
    refine kcvG (A1:=[_]) (h:=S.less d1 i1 (i1 - 1) h3 (by omega) (by omega)) ?_
    rintro _ _ ⟨rfl,rfl⟩
    (repeat' first|(refine kk ?_;intros)|refine kfk ?_ ?_<;>intro hb|fail)
    ·exact ⟨i1+1,by omega,⟨⟨by omega,by omega⟩,by rw [← g2,scanSorted_go hij hb]⟩,kwk⟩
    ·exact ⟨i1,⟨⟨g1,g1'⟩,by rw [← g2,scanSorted_stop (.inr (by simpa using hb))]⟩,kwk⟩
   ·(repeat' first|(refine kk ?_;intros)|refine kfk ?_ ?_<;>intro hb|fail)
    exact ⟨i1,⟨⟨g1,g1'⟩,by rw [← g2,scanSorted_stop (.inl hij)]⟩,kwk⟩
  rintro i1 ⟨⟨g1,g1'⟩,g2⟩
  have hgo:=fun d2=>@partialIns_go α _ lt d1 d2 d2 a b s i i1 g2
  by_cases hib:i1=b
  ·(repeat' first|(refine kk ?_;intros)|refine kfk ?_ ?_<;>intro hb|fail)
   have hgo:=hgo _ rfl
   rw [if_pos hib] at hgo
   exact ker1 (A'':=R d1) _ ⟨by rw [← h4,hgo],by rw [← h4,hgo]⟩
  by_cases h50:b - a < 50
  ·(repeat' first|(refine kk ?_;intros)|refine kfk ?_ ?_<;>intro hb|fail)
   have hgo:=hgo _ rfl
   rw [if_neg hib,if_pos h50] at hgo
   exact ker1 (A'':=R d1) _ ⟨by rw [← h4,hgo],by rw [← h4,hgo]⟩
  simp only [if_neg hib,if_neg h50] at hgo
  (repeat' first|(refine kk ?_;intros)|refine kfk ?_ ?_<;>intro hb|fail)
  refine kcv (A1:=[_]) (h:=S.swap d1 i1 (i1 - 1) h3 (by omega) (by omega)) ?_
  rintro _ _ rfl
  have hd2:(swp d1 i1 (i1 - 1)).size=n:=by rw [size_swp];exact h3
  generalize swp d1 i1 (i1 - 1)=d2 at hd2 hgo ⊢
  by_cases hdn:2≤i1 - a
  ·have hgo:=hgo _ (if_pos hdn)
   (repeat' first|(refine kk ?_;intros)|refine kfk ?_ ?_<;>intro hb|fail)
   refine kloopE (ι:=Nat × Array α) 4 (fun q=>q.1) (fun q=>[(1,nv a),(2,nv b),(3,.one (.v (.pointer (some ⟨bx,0,none⟩)))),(7,nv i1),(8,nv c),(9,nv q.1)]) (fun q=>abox bx [.v uL,.v uS] 326::R q.2) (fun q=>q.1 < n∧q.2.size=n∧Go.Sort.shiftDown lt q.1 q.2=Go.Sort.shiftDown lt (i1 - 1) d2) (fun q=>q.2.size=n∧q.2=Go.Sort.shiftDown lt (i1 - 1) d2) (i1 - 1,d2) ⟨by simp only;omega,hd2,rfl⟩ ?_ ?_
   ·rintro ⟨j,d4⟩ ⟨k1,k2,k3⟩
    simp only at k1 k2 k3
    dsimp only
    by_cases hj:1≤j
    ·(repeat' first|(refine kk ?_;intros)|refine kfk ?_ ?_<;>intro hb|fail)
     refine kcv (A1:=[_]) (h:=S.less d4 j (j - 1) k2 (by omega) (by omega)) ?_
     rintro _ _ ⟨rfl,rfl⟩
     (repeat' first|(refine kk ?_;intros)|refine kfk ?_ ?_<;>intro hb|fail)
     ·exact ⟨(j,d4),⟨k2,by rw [← k3,shiftDown_stop (.inr hb)]⟩,kwk⟩
     ·have hb:lt d4[j]! d4[j - 1]! = true:=by simpa using hb
      refine kcv (A1:=[_]) (h:=S.swap d4 j (j - 1) k2 (by omega) (by omega)) ?_
      rintro _ _ rfl
      (repeat' first|(refine kk ?_;intros)|refine kfk ?_ ?_<;>intro hb|fail)
      exact ⟨(j - 1,swp d4 j (j - 1)),by simp only;omega,⟨by simp only;omega,by rw [size_swp];exact k2,by rw [← k3,shiftDown_go hj hb]⟩,kwk⟩
    ·(repeat' first|(refine kk ?_;intros)|refine kfk ?_ ?_<;>intro hb|fail)
     exact ⟨(j,d4),⟨k2,by rw [← k3,shiftDown_stop (.inl hj)]⟩,kwk⟩
   rintro ⟨j,d3⟩ ⟨hd3,k3⟩
   simp only at hd3 k3
   rw [← k3] at hgo
   clear k3
   dsimp only
   by_cases hup:2≤b - i1
   ·have he3:(if b - i1 ≥ 2 then shiftUp lt b (i1+1) d3 else d3)=shiftUp lt b (i1+1) d3:=if_pos hup
    rw [he3] at hgo
    (repeat' first|(refine kk ?_;intros)|refine kfk ?_ ?_<;>intro hb|fail)
    refine kloopE (ι:=Nat × Array α) 6 (fun q=>b - q.1) (fun q=>[(1,nv a),(2,nv b),(3,.one (.v (.pointer (some ⟨bx,0,none⟩)))),(7,nv i1),(8,nv c),(10,nv q.1)]) (fun q=>abox bx [.v uL,.v uS] 326::R q.2) (fun q=>(i1 < q.1∧q.1≤b)∧q.2.size=n∧shiftUp lt b q.1 q.2=shiftUp lt b (i1+1) d3) (fun q=>q.2.size=n∧q.2=shiftUp lt b (i1+1) d3) (i1+1,d3) ⟨by simp only;omega,hd3,rfl⟩ ?_ ?_
    ·rintro ⟨j,d4⟩ ⟨⟨k1,k1'⟩,k2,k3⟩
     simp only at k1 k1' k2 k3
     dsimp only
     by_cases hj:j < b
     ·(repeat' first|(refine kk ?_;intros)|refine kfk ?_ ?_<;>intro hb|fail)
      refine kcv (A1:=[_]) (h:=S.less d4 j (j - 1) k2 (by omega) (by omega)) ?_
      rintro _ _ ⟨rfl,rfl⟩
      (repeat' first|(refine kk ?_;intros)|refine kfk ?_ ?_<;>intro hb|fail)
      ·exact ⟨(j,d4),⟨k2,by rw [← k3,shiftUp_stop (.inr hb)]⟩,kwk⟩
      ·have hb:lt d4[j]! d4[j - 1]! = true:=by simpa using hb
       refine kcv (A1:=[_]) (h:=S.swap d4 j (j - 1) k2 (by omega) (by omega)) ?_
       rintro _ _ rfl
       (repeat' first|(refine kk ?_;intros)|refine kfk ?_ ?_<;>intro hb|fail)
       exact ⟨(j+1,swp d4 j (j - 1)),by simp only;omega,⟨by simp only;omega,by rw [size_swp];exact k2,by rw [← k3,shiftUp_go hj hb]⟩,kwk⟩
     ·(repeat' first|(refine kk ?_;intros)|refine kfk ?_ ?_<;>intro hb|fail)
      exact ⟨(j,d4),⟨k2,by rw [← k3,shiftUp_stop (.inl hj)]⟩,kwk⟩
    rintro ⟨j,d4⟩ ⟨k2,k3⟩
    simp only at k2 k3
    dsimp only
    subst k3
    (repeat' first|(refine kk ?_;intros)|refine kfk ?_ ?_<;>intro hb|fail)
    exact ⟨(c+1,i1,_),by simp only;omega,⟨by simp only;omega,by simp only;omega,k2,by rw [show 5 - (c+1)=s by omega,← h4,hgo]⟩,kwk⟩
   ·have he3:(if b - i1 ≥ 2 then shiftUp lt b (i1+1) d3 else d3)=d3:=if_neg hup
    rw [he3] at hgo
    (repeat' first|(refine kk ?_;intros)|refine kfk ?_ ?_<;>intro hb|fail)
    exact ⟨(c+1,i1,d3),by simp only;omega,⟨by simp only;omega,by simp only;omega,hd3,by rw [show 5 - (c+1)=s by omega,← h4,hgo]⟩,kwk⟩
  ·have hgo:=hgo _ (if_neg hdn)
   have hd3:=hd2
   generalize d2=d3 at hgo hd3 ⊢
   clear hd2
   by_cases hup:2≤b - i1
   ·have he3:(if b - i1 ≥ 2 then shiftUp lt b (i1+1) d3 else d3)=shiftUp lt b (i1+1) d3:=if_pos hup
    rw [he3] at hgo
    (repeat' first|(refine kk ?_;intros)|refine kfk ?_ ?_<;>intro hb|fail)
    refine kloopE (ι:=Nat × Array α) 6 (fun q=>b - q.1) (fun q=>[(1,nv a),(2,nv b),(3,.one (.v (.pointer (some ⟨bx,0,none⟩)))),(7,nv i1),(8,nv c),(10,nv q.1)]) (fun q=>abox bx [.v uL,.v uS] 326::R q.2) (fun q=>(i1 < q.1∧q.1≤b)∧q.2.size=n∧shiftUp lt b q.1 q.2=shiftUp lt b (i1+1) d3) (fun q=>q.2.size=n∧q.2=shiftUp lt b (i1+1) d3) (i1+1,d3) ⟨by simp only;omega,hd3,rfl⟩ ?_ ?_
    ·rintro ⟨j,d4⟩ ⟨⟨k1,k1'⟩,k2,k3⟩
     simp only at k1 k1' k2 k3
     dsimp only
     by_cases hj:j < b
     ·(repeat' first|(refine kk ?_;intros)|refine kfk ?_ ?_<;>intro hb|fail)
      refine kcv (A1:=[_]) (h:=S.less d4 j (j - 1) k2 (by omega) (by omega)) ?_
      rintro _ _ ⟨rfl,rfl⟩
      (repeat' first|(refine kk ?_;intros)|refine kfk ?_ ?_<;>intro hb|fail)
      ·exact ⟨(j,d4),⟨k2,by rw [← k3,shiftUp_stop (.inr hb)]⟩,kwk⟩
      ·have hb:lt d4[j]! d4[j - 1]! = true:=by simpa using hb
       refine kcv (A1:=[_]) (h:=S.swap d4 j (j - 1) k2 (by omega) (by omega)) ?_
       rintro _ _ rfl
       (repeat' first|(refine kk ?_;intros)|refine kfk ?_ ?_<;>intro hb|fail)
       exact ⟨(j+1,swp d4 j (j - 1)),by simp only;omega,⟨by simp only;omega,by rw [size_swp];exact k2,by rw [← k3,shiftUp_go hj hb]⟩,kwk⟩
     ·(repeat' first|(refine kk ?_;intros)|refine kfk ?_ ?_<;>intro hb|fail)
      exact ⟨(j,d4),⟨k2,by rw [← k3,shiftUp_stop (.inl hj)]⟩,kwk⟩
    rintro ⟨j,d4⟩ ⟨k2,k3⟩
    simp only at k2 k3
    dsimp only
    subst k3
    (repeat' first|(refine kk ?_;intros)|refine kfk ?_ ?_<;>intro hb|fail)
    exact ⟨(c+1,i1,_),by simp only;omega,⟨by simp only;omega,by simp only;omega,k2,by rw [show 5 - (c+1)=s by omega,← h4,hgo]⟩,kwk⟩
   ·exact absurd h50 (by omega)
 ·have hz:5 - c=0:=by omega
  rw [hz,partialIns] at h4
  (repeat' first|(refine kk ?_;intros)|refine kfk ?_ ?_<;>intro hb|fail)
  exact ker1 (A'':=R d1) _ ⟨by rw [← h4],by rw [← h4]⟩
end
end
end
section
open Go Go.Sort
noncomputable section
section
variable {α:Type} [Inhabited α] {n:Nat} {R:Array α→List Atm} {lt:α→α→Bool} {uL uS:Value}
abbrev swb (q k:Nat):Atm:=abox q [.v (.int .i64 k)] 3
abbrev ptr (q:Nat):AV:=.one (.v (.pointer (some ⟨q,0,none⟩)))
theorem order2_c (S:SortC Tryz.prog n R lt uL uS) (d:Array α) (a b q k:Nat) (hd:d.size=n) (ha:a < n) (hb:b < n) (hk:k≤1000) :
 Spec Tryz.prog 345 [lsw uL uS,nv a,nv b,ptr q] (swb q k::R d) fun v A'=>∃ x y k',v=.tup [nv x,nv y]∧A'=swb q k'::R d∧(x=a∧y=b∨x=b∧y=a)∧k'≤k+1:=by
 have hl:=S.lim
 refine sp Tryz.func345 rfl Tryz.ntmps345 rfl rfl fun C=>?_
 (repeat' first|(refine kkS [345,334,333] [] ?_;intros)|refine kfS [345,334,333] [] ?_ ?_<;>intro hb|fail)
 rename_i bx
 refine kcv (A1:=[_,_]) (h:=S.less d b a hd (by omega) (by omega)) ?_
 rintro _ _ ⟨rfl,rfl⟩
 (repeat' first|(refine kkS [345,334,333] [] ?_;intros)|refine kfS [345,334,333] [] ?_ ?_<;>intro hb|fail)
 ·exact ker2 (A'':=swb q (k+1)::R d) ⟨b,a,k+1,rfl,rfl,.inr ⟨rfl,rfl⟩,Nat.le_refl _⟩ (.refl _) (.refl _)
 ·exact ker2 (A'':=swb q k::R d) ⟨a,b,k,rfl,rfl,.inl ⟨rfl,rfl⟩,by omega⟩ (.refl _) (.refl _)
theorem median_c (S:SortC Tryz.prog n R lt uL uS) (d:Array α) (a b c q k:Nat) (hd:d.size=n) (ha:a < n) (hb:b < n) (hc:c < n) (hk:k≤900) :
 Spec Tryz.prog 334 [lsw uL uS,nv a,nv b,nv c,ptr q] (swb q k::R d) fun v A'=>∃ x k',v=nv x∧A'=swb q k'::R d∧(x=a∨x=b∨x=c)∧k'≤k+3:=by
 refine sp Tryz.func334 rfl Tryz.ntmps334 rfl rfl fun C=>?_
 (repeat' first|(refine kkS [345,334,333] [] ?_;intros)|refine kfS [345,334,333] [] ?_ ?_<;>intro hb|fail)
 rename_i bx
 refine kcs (A1:=[_]) (h:=order2_c S d a b q k hd ha hb (by omega)) ?_
 rintro _ _ ⟨x1,y1,k1,rfl,rfl,h1,l1⟩
 have hx1:x1 < n∧y1 < n:=by omega
 (repeat' first|(refine kkS [345,334,333] [] ?_;intros)|refine kfS [345,334,333] [] ?_ ?_<;>intro hb|fail)
 refine kcs (A1:=[_]) (h:=order2_c S d y1 c q k1 hd hx1.2 hc (by omega)) ?_
 rintro _ _ ⟨x2,y2,k2,rfl,rfl,h2,l2⟩
 have hx2:x2 < n∧y2 < n:=by omega
 (repeat' first|(refine kkS [345,334,333] [] ?_;intros)|refine kfS [345,334,333] [] ?_ ?_<;>intro hb|fail)
 refine kcs (A1:=[_]) (h:=order2_c S d x1 x2 q k2 hd hx1.1 hx2.1 (by omega)) ?_
 rintro _ _ ⟨x3,y3,k3,rfl,rfl,h3,l3⟩
 (repeat' first|(refine kkS [345,334,333] [] ?_;intros)|refine kfS [345,334,333] [] ?_ ?_<;>intro hb|fail)
 exact ker1 (A'':=swb q k3::R d) _ ⟨y3,k3,rfl,rfl,by omega,by omega⟩
theorem medianAdjacent_c (S:SortC Tryz.prog n R lt uL uS) (d:Array α) (a q k:Nat) (hd:d.size=n) (h0:0 < a) (ha:a+1 < n) (hk:k≤900) :
 Spec Tryz.prog 333 [lsw uL uS,nv a,ptr q] (swb q k::R d) fun v A'=>∃ x k',v=nv x∧A'=swb q k'::R d∧(a≤x+1∧x≤a+1)∧k'≤k+3:=by
 have hl:=S.lim
 refine sp Tryz.func333 rfl Tryz.ntmps333 rfl rfl fun C=>?_
 (repeat' first|(refine kkS [345,334,333] [] ?_;intros)|refine kfS [345,334,333] [] ?_ ?_<;>intro hb|fail)
 rename_i bx
 refine kcs (A1:=[_]) (h:=median_c S d (a - 1) a (a+1) q k hd (by omega) (by omega) (by omega) hk) ?_
 rintro _ _ ⟨x,k',rfl,rfl,h1,l1⟩
 (repeat' first|(refine kkS [345,334,333] [] ?_;intros)|refine kfS [345,334,333] [] ?_ ?_<;>intro hb|fail)
 exact ker1 (A'':=swb q k'::R d) _ ⟨x,k',rfl,rfl,by omega,l1⟩
theorem kwA {P:Program} {nt:Nat} {C:Cx} {Q:AQ} {f:AF} {A:List Atm} {c:Code} (F:List (Nat × AV)) (B:List Atm) (hw:Wk f A (fl F) B) (k:AW P nt C c Q (fl F) B):AW P nt C c Q f A:=AW_weak hw k
theorem choosePivot_c (S:SortC Tryz.prog n R lt uL uS) (d:Array α) (a b:Nat) (hd:d.size=n) (hab:a < b) (hb:b≤n) :
 Spec Tryz.prog 315 [lsw uL uS,nv a,nv b] (R d) fun v A'=>∃ x h,v=.tup [nv x,nv h]∧A'=R d∧(a≤x∧x < b)∧h≤2:=by
 have hl:=S.lim
 have hq:4 * ((b - a) / 4)≤b - a:=Nat.mul_div_le _ _
 refine sp Tryz.func315 rfl Tryz.ntmps315 rfl rfl fun C=>?_
 (repeat' first|(refine kkS [345,334,333] [] ?_;intros)|refine kfS [345,334,333] [] ?_ ?_<;>intro hb|fail)
 rename_i bx bs
 refine kr ?_ (h:=P_quo (a:=b - a) (b:=4) _ _ rfl rfl (by omega) (by omega))
 generalize hqe:(b - a) / 4=q at hq
 (repeat' first|(refine kkS [345,334,333] [] ?_;intros)|refine kfS [345,334,333] [] ?_ ?_<;>intro hb|fail)
 refine kr ?_ (h:=P_quo (a:=b - a) (b:=4) _ _ rfl rfl (by omega) (by omega))
 rw [hqe]
 (repeat' first|(refine kkS [345,334,333] [] ?_;intros)|refine kfS [345,334,333] [] ?_ ?_<;>intro hb|fail)
 refine kr ?_ (h:=P_quo (a:=b - a) (b:=4) _ _ rfl rfl (by omega) (by omega))
 rw [hqe]
 (repeat' first|(refine kk ?_;intros)|fail)
 refine kwA [(3,.one (.v (.pointer (some ⟨bx,0,none⟩)))),(8,nv (b - a)),(9,.one (.v (.pointer (some ⟨bs,0,none⟩)))),(10,nv (a+q)),(11,nv (a+2 * q)),(12,nv (a+3 * q)),(32,bv (decide ((8:Int)≤((b - a:Nat):Int))))] (swb bs 0::abox bx [.v uL,.v uS] 326::R d) (kwk (h:=⟨.refl _,.refl _,.refl _,le_eq (by show iv _=iv _;congr 1;omega),le_eq (by show iv _=iv _;congr 1;omega),le_eq (by show iv _=iv _;congr 1;omega),.refl _,trivial⟩)) ?_
 by_cases h8:8≤b - a
 ·by_cases h50:50≤b - a
  ·(repeat' first|(refine kkS [345,334,333] [] ?_;intros)|refine kfS [345,334,333] [] ?_ ?_<;>intro hb|fail)
   rotate_left
   ·exfalso;omega
   refine kcs (A1:=[_]) (h:=medianAdjacent_c S d (a+q) bs 0 hd (by omega) (by omega) (by omega)) ?_ (hA:=List.Perm.swap _ _ _)
   rintro _ _ ⟨x1,k1,rfl,rfl,h1,l1⟩
   (repeat' first|(refine kkS [345,334,333] [] ?_;intros)|refine kfS [345,334,333] [] ?_ ?_<;>intro hb|fail)
   refine kcs (A1:=[_]) (h:=medianAdjacent_c S d (a+2 * q) bs k1 hd (by omega) (by omega) (by omega)) ?_
   rintro _ _ ⟨x2,k2,rfl,rfl,h2,l2⟩
   (repeat' first|(refine kkS [345,334,333] [] ?_;intros)|refine kfS [345,334,333] [] ?_ ?_<;>intro hb|fail)
   refine kcs (A1:=[_]) (h:=medianAdjacent_c S d (a+3 * q) bs k2 hd (by omega) (by omega) (by omega)) ?_
   rintro _ _ ⟨x3,k3,rfl,rfl,h3,l3⟩
   (repeat' first|(refine kkS [345,334,333] [] ?_;intros)|refine kfS [345,334,333] [] ?_ ?_<;>intro hb|fail)
   refine kcs (A1:=[_]) (h:=median_c S d x1 x2 x3 bs k3 hd (by omega) (by omega) (by omega) (by omega)) ?_
   rintro _ _ ⟨x,k,rfl,rfl,h4,l4⟩
   (repeat' first|(refine kkS [345,334,333] [] ?_;intros)|refine kfS [345,334,333] [] ?_ ?_<;>intro hb|fail)
   ·exact ker2 (A'':=R d) ⟨x,1,rfl,rfl,by omega,by omega⟩ (.refl _) (.refl _)
   ·exact ker2 (A'':=R d) ⟨x,2,rfl,rfl,by omega,by omega⟩ (.refl _) (.refl _)
   ·exact ker2 (A'':=R d) ⟨x,0,rfl,rfl,by omega,by omega⟩ (.refl _) (.refl _)
  ·(repeat' first|(refine kkS [345,334,333] [] ?_;intros)|refine kfS [345,334,333] [] ?_ ?_<;>intro hb|fail)
   rotate_left
   ·exfalso;omega
   refine kcs (A1:=[_]) (h:=median_c S d (a+q) (a+2 * q) (a+3 * q) bs 0 hd (by omega) (by omega) (by omega) (by omega)) ?_ (hA:=List.Perm.swap _ _ _)
   rintro _ _ ⟨x,k,rfl,rfl,h4,l4⟩
   (repeat' first|(refine kkS [345,334,333] [] ?_;intros)|refine kfS [345,334,333] [] ?_ ?_<;>intro hb|fail)
   ·exact ker2 (A'':=R d) ⟨x,1,rfl,rfl,by omega,by omega⟩ (.refl _) (.refl _)
   ·exact ker2 (A'':=R d) ⟨x,0,rfl,rfl,by omega,by omega⟩ (.refl _) (.refl _)
 ·(repeat' first|(refine kkS [345,334,333] [] ?_;intros)|refine kfS [345,334,333] [] ?_ ?_<;>intro hb|fail)
  ·exfalso;omega
  exact ker2 (A'':=R d) ⟨a+2 * q,1,rfl,rfl,by omega,by omega⟩ (.refl _) (.refl _)
end
end
end
end Go.Proofs.YtejkllmoofdpjaaGreat
