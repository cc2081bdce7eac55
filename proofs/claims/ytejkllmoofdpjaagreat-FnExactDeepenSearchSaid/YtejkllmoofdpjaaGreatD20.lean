/- Parts of the proof: VZB VZC VZD VZE VZF VZG. -/
import Derived.Test.YtejkllmoofdpjaaGreatD17
import Derived.Test.YtejkllmoofdpjaaGreatD18
import Derived.Lib.ReflectliteSwap
namespace Go.Proofs.YtejkllmoofdpjaaGreat
open Go
set_option linter.all false
set_option maxRecDepth 100000
set_option maxHeartbeats 4000000
section
open Go Go.Sort
noncomputable section
section
variable {P:Program} {f:AF} {A:List Atm} {d:Option Tmp} {ty:TypeId} {pos:String} {aft:Array Edge} {gg:Option (Nat × Bool)}
theorem P_half {xt yt:TypeId} (x y:Operand) {a:Nat} (hx:eva f x=uv a) (hy:eva f y=.one (.v (.int .u64 1))):PuO P f A ⟨d,.binOp .shr xt x y yt,ty,pos,aft,gg⟩ (uv (a / 2)):=P_ex2 x y rfl hx hy rfl fun _ _ h1 h2=>by
 have h3:(a:Int) / 2 ^ (1:Int).toNat=((a / 2:Nat):Int):=by simp
 simp only [execOp,h1,h2,eqGuard,binOp]
 rw [shift_shr .u64 .u64 (a:Int) 1 (by decide) (by decide),h3]
 rfl
end
instance cnvZ3:CnvF Tryz.prog 3 323 .u64:=⟨⟨_,Tryz.underlying3⟩,Tryz.underlying323⟩
theorem WO_mono {P:Program} {nt:Nat} {ops:Array Oper} {K K':FF→World→Prop} (hk:∀ g w,K g w→K' g w):∀ {rest:List Oper} {g:FF} {w:World},WO P nt ops K rest g w→WO P nt ops K' rest g w
 | [],_,_,h=>hk _ _ h
 | o::rest,g,w,h=>by
  unfold WO at h ⊢
  split at h
  ·rename_i hw
   rw [if_pos hw]
   exact ⟨h.1,h.2.mono fun v w' h=>WO_mono hk h⟩
  ·rename_i hw
   rw [if_neg hw]
   exact ⟨WO_mono hk h.1,h.2⟩
theorem kcutO {P:Program} {nt:Nat} {C:Cx} {Q:AQ} {f:AF} {A:List Atm} {ops:Array Oper} {rest:List Oper} {c:Code} {k:AF→List Atm→Prop} {ι:Type} (F:ι→List (Nat × AV)) (B:ι→List Atm) (E:ι→Prop)
 (h1:AO P nt C ops (AW P nt C c (asq (fun f' A'=>∃ y,E y∧Wk f' A' (fl (F y)) (B y)) Q)) rest f A) (h2:∀ y,E y→k (fl (F y)) (B y)):AO P nt C ops (AW P nt C c (asq k Q)) rest f A:=fun g w hi=>
 WO_mono (fun g' w' ⟨f',A',hk,hi'⟩=>⟨f',A',kcut F B E hk h2,hi'⟩) (h1 g w hi)
section
variable {α:Type} [Inhabited α] {n:Nat} {R:Array α→List Atm} {lt:α→α→Bool} {uL uS:Value}
theorem symMerge_c (hO:SWO lt) (S:SortC Tryz.prog n R lt uL uS) (N:Nat):∀ (d:Array α) (a m b:Nat),b - a≤N→d.size=n→a < m→m < b→b≤n→SortedIn lt a m d→SortedIn lt m b d→
 Spec Tryz.prog 335 [lsw uL uS,nv a,nv m,nv b] (R d) fun _ A'=>∃ d',A'=R d'∧PermIn a b d d'∧SortedIn lt a b d':=by
 induction N using Nat.strongRecOn with
 | _ N ih=>
 intro d a m b hN hd ham hmb hb s1 s2
 have hl:=S.lim
 refine sp Tryz.func335 rfl Tryz.ntmps335 rfl rfl fun C=>?_
 by_cases hone:m - a=1
 ·obtain rfl:m=a+1:=by omega
  (repeat' first|(refine kk ?_;intros)|refine kfk ?_ ?_<;>intro hb|fail)
  rename_i bx
  refine kloopE (ι:=Nat × Nat) 0 (fun q=>q.2 - q.1) (fun q=>[(1,nv a),(4,.one (.v (.pointer (some ⟨bx,0,none⟩)))),(8,nv q.1),(9,nv q.2)]) (fun q=>abox bx [.v uL,.v uS] 326::R d) (fun q=>(a+1≤q.1∧q.1≤q.2∧q.2≤b)∧(q.1=a+1∨lt d[q.1 - 1]! d[a]! = true)∧(q.2=b∨lt d[q.2]! d[a]! = false)) (fun q=>(a+1≤q.1∧q.1=q.2∧q.2≤b)∧(q.1=a+1∨lt d[q.1 - 1]! d[a]! = true)∧(q.2=b∨lt d[q.2]! d[a]! = false)) (a+1,b) ⟨⟨Nat.le_refl _,by simp only;omega,Nat.le_refl _⟩,.inl rfl,.inl rfl⟩ ?_ ?_
  ·rintro ⟨i,j⟩ ⟨⟨g1,g2,g3⟩,g4,g5⟩
   simp only at g1 g2 g3 g4 g5
   dsimp only
   by_cases hij:i < j
   ·(repeat' first|(refine kk ?_;intros)|refine kfk ?_ ?_<;>intro hb|fail)
    refine kr ?_ (h:=P_conv _ rfl (u64_in (i+j) (by omega)))
    refine kr ?_ (h:=P_half _ _ rfl rfl)
    refine kr ?_ (h:=P_conv _ rfl (by rw [IntKind.wrap_i64];omega))
    have hh:i≤(i+j) / 2∧(i+j) / 2 < j:=by omega
    generalize (i+j) / 2=h at hh
    (repeat' first|(refine kk ?_;intros)|refine kfk ?_ ?_<;>intro hb|fail)
    refine kcv (A1:=[_]) (h:=S.less d h a hd (by omega) (by omega)) ?_
    rintro _ _ ⟨rfl,rfl⟩
    (repeat' first|(refine kk ?_;intros)|refine kfk ?_ ?_<;>intro hb|fail)
    ·exact ⟨(h+1,j),by simp only;omega,⟨by simp only;omega,.inr hb,g5⟩,kwk⟩
    ·exact ⟨(i,h),by simp only;omega,⟨by simp only;omega,g4,.inr hb⟩,kwk⟩
   ·(repeat' first|(refine kk ?_;intros)|refine kfk ?_ ?_<;>intro hb|fail)
    exact ⟨(i,j),⟨by simp only;omega,g4,g5⟩,kwk⟩
  rintro ⟨i,j⟩ ⟨⟨g1,ge,g3⟩,g4,g5⟩
  simp only at g1 ge g3 g4 g5
  subst ge
  dsimp only
  (repeat' first|(refine kk ?_;intros)|refine kfk ?_ ?_<;>intro hb|fail)
  refine kloop (ι:=Nat × Array α) (fun q=>i - q.1) (fun q=>[(4,.one (.v (.pointer (some ⟨bx,0,none⟩)))),(8,nv i),(11,nv q.1)]) (fun q=>abox bx [.v uL,.v uS] 326::R q.2) (fun q=>(a≤q.1∧q.1+1≤i)∧Rot d a (a+1) (q.1+1) q.2∧PermIn a b d q.2) (a,d) ⟨by simp only;omega,Rot.triv (.inr rfl),permIn_refl _ _ _⟩ ?_
  rintro ⟨k,d1⟩ ⟨⟨k1,k2⟩,k3,k4⟩
  simp only at k1 k2 k3 k4
  dsimp only
  have hd1:d1.size=n:=k3.1.trans hd
  by_cases hk:k+1 < i
  ·(repeat' first|(refine kk ?_;intros)|refine kfk ?_ ?_<;>intro hb|fail)
   refine kcv (A1:=[_]) (h:=S.swap d1 k (k+1) hd1 (by omega) (by omega)) ?_
   rintro _ _ rfl
   (repeat' first|(refine kk ?_;intros)|refine kfk ?_ ?_<;>intro hb|fail)
   exact ⟨(k+1,swp d1 k (k+1)),by simp only;omega,⟨by simp only;omega,k3.up k1 (by omega),permIn_trans _ _ _ _ _ k4 (swp_permIn _ _ _ _ _ (by omega) (by omega) (by omega) (by omega) (by omega))⟩,kwk⟩
  ·obtain rfl:i=k+1:=by omega
   (repeat' first|(refine kk ?_;intros)|refine kfk ?_ ?_<;>intro hb|fail)
   exact ker0 (A'':=R d1) ⟨d1,rfl,k4,symOne hO s2 g1 g3 g4 g5 k3⟩
 by_cases hlast:b - m=1
 ·obtain rfl:b=m+1:=by omega
  (repeat' first|(refine kk ?_;intros)|refine kfk ?_ ?_<;>intro hb|fail)
  rename_i bx
  refine kloopE (ι:=Nat × Nat) 4 (fun q=>q.2 - q.1) (fun q=>[(2,nv m),(4,.one (.v (.pointer (some ⟨bx,0,none⟩)))),(12,nv q.1),(13,nv q.2)]) (fun q=>abox bx [.v uL,.v uS] 326::R d) (fun q=>(a≤q.1∧q.1≤q.2∧q.2≤m)∧(q.1=a∨lt d[m]! d[q.1 - 1]! = false)∧(q.2=m∨lt d[m]! d[q.2]! = true)) (fun q=>(a≤q.1∧q.1=q.2∧q.2≤m)∧(q.1=a∨lt d[m]! d[q.1 - 1]! = false)∧(q.2=m∨lt d[m]! d[q.2]! = true)) (a,m) ⟨⟨Nat.le_refl _,by simp only;omega,Nat.le_refl _⟩,.inl rfl,.inl rfl⟩ ?_ ?_
  ·rintro ⟨i,j⟩ ⟨⟨g1,g2,g3⟩,g4,g5⟩
   simp only at g1 g2 g3 g4 g5
   dsimp only
   by_cases hij:i < j
   ·(repeat' first|(refine kk ?_;intros)|refine kfk ?_ ?_<;>intro hb|fail)
    refine kr ?_ (h:=P_conv _ rfl (u64_in (i+j) (by omega)))
    refine kr ?_ (h:=P_half _ _ rfl rfl)
    refine kr ?_ (h:=P_conv _ rfl (by rw [IntKind.wrap_i64];omega))
    have hh:i≤(i+j) / 2∧(i+j) / 2 < j:=by omega
    generalize (i+j) / 2=h at hh
    (repeat' first|(refine kk ?_;intros)|refine kfk ?_ ?_<;>intro hb|fail)
    refine kcv (A1:=[_]) (h:=S.less d m h hd (by omega) (by omega)) ?_
    rintro _ _ ⟨rfl,rfl⟩
    (repeat' first|(refine kk ?_;intros)|refine kfk ?_ ?_<;>intro hb|fail)
    ·exact ⟨(h+1,j),by simp only;omega,⟨by simp only;omega,.inr hb,g5⟩,kwk⟩
    ·exact ⟨(i,h),by simp only;omega,⟨by simp only;omega,g4,.inr (by simpa using hb)⟩,kwk⟩
   ·(repeat' first|(refine kk ?_;intros)|refine kfk ?_ ?_<;>intro hb|fail)
    exact ⟨(i,j),⟨by simp only;omega,g4,g5⟩,kwk⟩
  rintro ⟨i,j⟩ ⟨⟨g1,ge,g3⟩,g4,g5⟩
  simp only at g1 ge g3 g4 g5
  subst ge
  dsimp only
  (repeat' first|(refine kk ?_;intros)|refine kfk ?_ ?_<;>intro hb|fail)
  refine kloop (ι:=Nat × Array α) (fun q=>q.1) (fun q=>[(4,.one (.v (.pointer (some ⟨bx,0,none⟩)))),(12,nv i),(15,nv q.1)]) (fun q=>abox bx [.v uL,.v uS] 326::R q.2) (fun q=>(i≤q.1∧q.1≤m)∧Rot d q.1 m (m+1) q.2∧PermIn a (m+1) d q.2) (m,d) ⟨by simp only;omega,Rot.triv (.inl rfl),permIn_refl _ _ _⟩ ?_
  rintro ⟨k,d1⟩ ⟨⟨k1,k2⟩,k3,k4⟩
  simp only at k1 k2 k3 k4
  dsimp only
  have hd1:d1.size=n:=k3.1.trans hd
  by_cases hk:i < k
  ·obtain ⟨k,rfl⟩:∃ x,k=x+1:=⟨k - 1,by omega⟩
   (repeat' first|(refine kk ?_;intros)|refine kfk ?_ ?_<;>intro hb|fail)
   refine kcv (A1:=[_]) (h:=S.swap d1 (k+1) k hd1 (by omega) (by omega)) ?_
   rintro _ _ rfl
   (repeat' first|(refine kk ?_;intros)|refine kfk ?_ ?_<;>intro hb|fail)
   exact ⟨(k,swp d1 (k+1) k),by simp only;omega,⟨by simp only;omega,k3.down k2 (by omega),permIn_trans _ _ _ _ _ k4 (swp_permIn _ _ _ _ _ (by omega) (by omega) (by omega) (by omega) (by omega))⟩,kwk⟩
  ·obtain rfl:k=i:=by omega
   (repeat' first|(refine kk ?_;intros)|refine kfk ?_ ?_<;>intro hb|fail)
   exact ker0 (A'':=R d1) ⟨d1,rfl,k4,symLast hO s1 g1 g3 g4 g5 k3⟩
 (repeat' first|(refine kk ?_;intros)|refine kfk ?_ ?_<;>intro hb|fail)
 rename_i bx
 refine kr ?_ (h:=P_conv _ rfl (u64_in (a+b) (by omega)))
 refine kr ?_ (h:=P_half _ _ rfl rfl)
 obtain ⟨mid,hmid⟩:∃ mid,mid=(a+b) / 2:=⟨_,rfl⟩
 rw [← hmid]
 refine kr ?_ (h:=P_conv _ rfl (by rw [IntKind.wrap_i64];omega))
 (repeat' first|(refine kk ?_;intros)|fail)
 refine kcut (ι:=Nat × Nat) (fun q=>[(1,nv a),(2,nv m),(3,nv b),(4,.one (.v (.pointer (some ⟨bx,0,none⟩)))),(16,nv mid),(17,nv (mid+m)),(18,nv q.1),(19,nv q.2)]) (fun q=>abox bx [.v uL,.v uS] 326::R d) (fun q=>mid < m∧q.1=mid+m - b∧q.2=mid∨m≤mid∧q.1=a∧q.2=m) ?_ ?_
 ·(repeat' first|(refine kk ?_;intros)|refine kfk ?_ ?_<;>intro hb|fail)
  ·exact ⟨(mid+m - b,mid),.inl ⟨by omega,rfl,rfl⟩,kwk⟩
  ·exact ⟨(a,m),.inr ⟨by omega,rfl,rfl⟩,kwk⟩
 rintro ⟨lo,hi⟩ h0
 simp only at h0
 dsimp only
 (repeat' first|(refine kk ?_;intros)|fail)
 refine kloopE (ι:=Nat × Nat) 8 (fun q=>q.2 - q.1) (fun q=>[(1,nv a),(2,nv m),(3,nv b),(4,.one (.v (.pointer (some ⟨bx,0,none⟩)))),(16,nv mid),(17,nv (mid+m)),(18,nv q.1),(19,nv q.2),(20,nv (mid+m - 1))]) (fun q=>abox bx [.v uL,.v uS] 326::R d) (fun q=>(lo≤q.1∧q.1≤q.2∧q.2≤hi)∧(q.1=lo∨lt d[mid+m - q.1]! d[q.1 - 1]! = false)∧(q.2=hi∨lt d[mid+m - 1 - q.2]! d[q.2]! = true)) (fun q=>(lo≤q.1∧q.1=q.2∧q.2≤hi)∧(q.1=lo∨lt d[mid+m - q.1]! d[q.1 - 1]! = false)∧(q.2=hi∨lt d[mid+m - 1 - q.2]! d[q.2]! = true)) (lo,hi) ⟨⟨Nat.le_refl _,by simp only;omega,Nat.le_refl _⟩,.inl rfl,.inl rfl⟩ ?_ ?_
 ·rintro ⟨i,j⟩ ⟨⟨g1,g2,g3⟩,g4,g5⟩
  simp only at g1 g2 g3 g4 g5
  dsimp only
  by_cases hij:i < j
  ·(repeat' first|(refine kk ?_;intros)|refine kfk ?_ ?_<;>intro hb|fail)
   refine kr ?_ (h:=P_conv _ rfl (u64_in (i+j) (by omega)))
   refine kr ?_ (h:=P_half _ _ rfl rfl)
   refine kr ?_ (h:=P_conv _ rfl (by rw [IntKind.wrap_i64];omega))
   have hh:i≤(i+j) / 2∧(i+j) / 2 < j:=by omega
   generalize (i+j) / 2=h at hh
   (repeat' first|(refine kk ?_;intros)|refine kfk ?_ ?_<;>intro hb|fail)
   refine kcv (A1:=[_]) (h:=S.less d (mid+m - 1 - h) h hd (by omega) (by omega)) ?_ (ha:=args2 (h1:=by omega) (h2:=rfl))
   rintro _ _ ⟨rfl,rfl⟩
   (repeat' first|(refine kk ?_;intros)|refine kfk ?_ ?_<;>intro hb|fail)
   ·exact ⟨(h+1,j),by simp only;omega,⟨by simp only;omega,.inr (by simp only [Nat.add_sub_cancel];rw [show mid+m - (h+1)=mid+m - 1 - h by omega];exact hb),g5⟩,kwk⟩
   ·exact ⟨(i,h),by simp only;omega,⟨by simp only;omega,g4,.inr (by simpa using hb)⟩,kwk⟩
  ·(repeat' first|(refine kk ?_;intros)|refine kfk ?_ ?_<;>intro hb|fail)
   exact ⟨(i,j),⟨by simp only;omega,g4,g5⟩,kwk⟩
 rintro ⟨st,j⟩ ⟨⟨g1,ge,g3⟩,g4,g5⟩
 simp only at g1 ge g3 g4 g5
 subst ge
 dsimp only
 have cut:=symCut hO s1 s2 ham hmb hmid h0 g1 g3 g4 g5
 have c1:=cut.lo
 have c2:=cut.m1
 have c3:=cut.m2
 have c4:=cut.hi
 have c5:=cut.sm
 have hmb':mid≤b:=by omega
 (repeat' first|(refine kkS [] [138] ?_;intros)|fail)
 refine kcutO (ι:=Array α) (fun q=>[(1,nv a),(3,nv b),(4,.one (.v (.pointer (some ⟨bx,0,none⟩)))),(16,nv mid),(18,nv st),(22,nv (mid+m - st))]) (fun q=>abox bx [.v uL,.v uS] 326::R q) (fun q=>q.size=n∧Rot d st m (mid+m - st) q∧PermIn a b d q) ?_ ?_
 ·by_cases r1:st < m
  ·by_cases r2:m < mid+m - st
   ·(repeat' first|(refine kkS [346] [] ?_;intros)|refine kfS [346] [] ?_ ?_<;>intro hb|fail)
    refine kcs (A1:=[_]) (h:=rotate_c S d st m (mid+m - st) hd r1 r2 (by omega)) ?_
    rintro _ _ ⟨d1,rfl,t1,t2⟩
    (repeat' first|(refine kk ?_;intros)|refine kfk ?_ ?_<;>intro hb|fail)
    exact ⟨d1,⟨t1.1.trans hd,t1,permIn_mono _ _ _ _ _ _ c1 c4 (by omega) t2⟩,kwk⟩
   ·(repeat' first|(refine kk ?_;intros)|refine kfk ?_ ?_<;>intro hb|fail)
    exact ⟨d,⟨hd,Rot.triv (.inr (by omega)),permIn_refl _ _ _⟩,kwk⟩
  ·(repeat' first|(refine kk ?_;intros)|refine kfk ?_ ?_<;>intro hb|fail)
   exact ⟨d,⟨hd,Rot.triv (.inl (by omega)),permIn_refl _ _ _⟩,kwk⟩
 rintro d1 ⟨hd1,t1,t2⟩
 obtain ⟨u0,u1,u2,u3,u4⟩:=cut.under hO s1 s2 hmb' t1
 clear t1 g1 g3 g4 g5 cut h0 s1 s2
 generalize he:mid+m - st=e at u3 u4 c3 c4
 (repeat' first|(refine kkS [] [151] ?_;intros)|fail)
 refine kcutO (ι:=Array α) (fun q=>[(3,nv b),(4,.one (.v (.pointer (some ⟨bx,0,none⟩)))),(16,nv mid),(22,nv e)]) (fun q=>abox bx [.v uL,.v uS] 326::R q) (fun q=>q.size=n∧PermIn a mid d1 q∧SortedIn lt a mid q) ?_ ?_
 ·by_cases r1:a < st
  ·by_cases r2:st < mid
   ·(repeat' first|(refine kkS [335] [] ?_;intros)|refine kfS [335] [] ?_ ?_<;>intro hb|fail)
    refine kcs (A1:=[_]) (h:=ih (mid - a) (by omega) d1 a st mid (Nat.le_refl _) hd1 r1 r2 (by omega) u1 u2) ?_
    rintro _ _ ⟨d2,rfl,v1,v2⟩
    (repeat' first|(refine kk ?_;intros)|refine kfk ?_ ?_<;>intro hb|fail)
    exact ⟨d2,⟨v1.1.trans hd1,v1,v2⟩,kwk⟩
   ·obtain rfl:st=mid:=by omega
    (repeat' first|(refine kk ?_;intros)|refine kfk ?_ ?_<;>intro hb|fail)
    exact ⟨d1,⟨hd1,permIn_refl _ _ _,u1⟩,kwk⟩
  ·obtain rfl:a=st:=by omega
   (repeat' first|(refine kk ?_;intros)|refine kfk ?_ ?_<;>intro hb|fail)
   exact ⟨d1,⟨hd1,permIn_refl _ _ _,u2⟩,kwk⟩
 rintro d2 ⟨hd2,v1,v2⟩
 have w0:=permIn_low u0 v1 (by omega)
 have w3:SortedIn lt mid e d2:=sorted_same u3 fun i h1 h2=>v1.2.1 i (.inr h1)
 have w4:SortedIn lt e b d2:=sorted_same u4 fun i h1 h2=>v1.2.1 i (.inr (by omega))
 have t3:PermIn a b d d2:=permIn_trans _ _ _ _ _ t2 (permIn_mono _ _ _ _ _ _ (Nat.le_refl _) hmb' (by omega) v1)
 clear u0 u1 u2 u3 u4 v1 t2 hd1
 clear d1
 have fin:∀ d3,PermIn mid b d2 d3→SortedIn lt mid b d3→PermIn a b d d3∧SortedIn lt a b d3:=fun d3 x1 x2=>⟨permIn_trans _ _ _ _ _ t3 (permIn_mono _ _ _ _ _ _ (by omega) (Nat.le_refl _) (by omega) x1),(permIn_high w0 x1 (by omega)).sorted (sorted_same v2 fun i h1 h2=>x1.2.1 i (.inl h2)) x2⟩
 by_cases r1:mid < e
 ·by_cases r2:e < b
  ·(repeat' first|(refine kkS [335] [] ?_;intros)|refine kfS [335] [] ?_ ?_<;>intro hb|fail)
   refine kcs (A1:=[_]) (h:=ih (b - mid) (by omega) d2 mid e b (Nat.le_refl _) hd2 r1 r2 hb w3 w4) ?_
   rintro _ _ ⟨d3,rfl,x1,x2⟩
   (repeat' first|(refine kk ?_;intros)|refine kfk ?_ ?_<;>intro hb|fail)
   exact ker0 (A'':=R d3) ⟨d3,rfl,fin d3 x1 x2⟩
  ·obtain rfl:e=b:=by omega
   (repeat' first|(refine kk ?_;intros)|refine kfk ?_ ?_<;>intro hb|fail)
   exact ker0 (A'':=R d2) ⟨d2,rfl,fin d2 (permIn_refl _ _ _) w3⟩
 ·obtain rfl:mid=e:=by omega
  (repeat' first|(refine kk ?_;intros)|refine kfk ?_ ?_<;>intro hb|fail)
  exact ker0 (A'':=R d2) ⟨d2,rfl,fin d2 (permIn_refl _ _ _) w4⟩
end
end
end
section
open Go Go.Sort
noncomputable section
section
variable {α:Type} [Inhabited α] {n:Nat} {R:Array α→List Atm} {lt:α→α→Bool} {uL uS:Value}
def Blk (lt:α→α→Bool) (bs n:Nat) (p:Nat→Prop) (d:Array α):Prop:=∀ c,p c→SortedIn lt (c * bs) (min (c * bs+bs) n) d
theorem Blk.keep {bs:Nat} {p:Nat→Prop} {d d':Array α} {a b:Nat} (h:Blk lt bs n p d) (hp:PermIn a b d d') (ho:∀ c,p c→c * bs+bs≤a∨b≤c * bs):Blk lt bs n p d':=fun c hc=>sorted_same (h c hc) fun i h1 h2=>hp.2.1 i (by have:=ho c hc;omega)
theorem blk_lt {c c' bs:Nat} (h:c' < c):c' * bs+bs≤c * bs:=by
 have:=Nat.mul_le_mul_right bs h
 rwa [Nat.succ_mul] at this
theorem sorted_empty {a b:Nat} {d:Array α} (h:b≤a+1):SortedIn lt a b d:=fun i j h1 h2 h3=>by omega
theorem stable_c (hO:SWO lt) (S:SortC Tryz.prog n R lt uL uS) (d:Array α) (hd:d.size=n) :
 Spec Tryz.prog 320 [lsw uL uS,nv n] (R d) fun v A'=>v=.tup []∧∃ d',A'=R d'∧PermIn 0 n d d'∧SortedIn lt 0 n d':=by
 have hl:=S.lim
 refine sp Tryz.func320 rfl Tryz.ntmps320 rfl rfl fun C=>?_
 (repeat' first|(refine kk ?_;intros)|fail)
 rename_i bx
 refine kloop (ι:=Nat × Array α) (fun q=>n+21 - q.1 * 20) (fun q=>[(1,nv n),(2,.one (.v (.pointer (some ⟨bx,0,none⟩)))),(4,nv 20),(5,nv (q.1 * 20)),(6,nv (q.1 * 20+20))]) (fun q=>abox bx [.v uL,.v uS] 326::R q.2) (fun q=>q.1 * 20≤n∧q.2.size=n∧PermIn 0 n d q.2∧Blk lt 20 n (· < q.1) q.2) (0,d) ⟨by simp,hd,permIn_refl _ _ _,fun c hc=>by simp at hc⟩ ?_
 rintro ⟨c,d1⟩ ⟨h1,h2,h3,h4⟩
 simp only at h1 h2 h3 h4
 dsimp only
 by_cases hc:c * 20+20≤n
 ·(repeat' first|(refine kkS [312] [] ?_;intros)|refine kfS [312] [] ?_ ?_<;>intro hb|fail)
  refine kcs (A1:=[_]) (h:=insertionSort_c S d1 (c * 20) (c * 20+20) h2 (by omega) hc) ?_
  rintro _ _ rfl
  have p1:=insertionSort_holds (lt:=lt) hO d1 (c * 20) (c * 20+20) (by omega) (by omega)
  generalize insertionSort lt d1 (c * 20) (c * 20+20)=d2 at p1 ⊢
  (repeat' first|(refine kk ?_;intros)|refine kfk ?_ ?_<;>intro hb|fail)
  refine ⟨(c+1,d2),by simp only;omega,⟨by simp only;omega,p1.1.1.trans h2,permIn_trans _ _ _ _ _ h3 (permIn_mono _ _ _ _ _ _ (Nat.zero_le _) hc (by omega) p1.1),fun c' hc'=>?_⟩,kwk (h:=⟨.refl _,.refl _,.refl _,le_eq (by show iv _=iv _;congr 1;omega),le_eq (by show iv _=iv _;congr 1;omega),trivial⟩)⟩
  by_cases e:c'=c
  ·subst e;rw [Nat.min_eq_left hc];exact p1.2
  ·exact (h4.keep p1.1 fun c'' h=>.inl (blk_lt h)) c' (by simp only at hc';omega)
 ·(repeat' first|(refine kkS [312] [] ?_;intros)|refine kfS [312] [] ?_ ?_<;>intro hb|fail)
  refine kcs (A1:=[_]) (h:=insertionSort_c S d1 (c * 20) n h2 h1 (Nat.le_refl _)) ?_
  rintro _ _ rfl
  have p1:=insertionSort_holds (lt:=lt) hO d1 (c * 20) n h1 (by omega)
  generalize insertionSort lt d1 (c * 20) n=d2 at p1 ⊢
  have b0:Blk lt 20 n (fun _=>True) d2:=fun c' _=>by
   by_cases e:c' < c
   ·exact (h4.keep p1.1 fun c'' h=>.inl (blk_lt h)) c' e
   ·by_cases e2:c'=c
    ·subst e2;rw [Nat.min_eq_right (by omega)];exact p1.2
    ·exact sorted_empty (by omega)
  have q0:PermIn 0 n d d2:=permIn_trans _ _ _ _ _ h3 (permIn_mono _ _ _ _ _ _ (Nat.zero_le _) (Nat.le_refl _) (by omega) p1.1)
  have z0:d2.size=n:=p1.1.1.trans h2
  clear p1 h4 h3 h2
  (repeat' first|(refine kk ?_;intros)|refine kfk ?_ ?_<;>intro hb|fail)
  refine kloop (ι:=Nat × Array α) (fun q=>n - q.1) (fun q=>[(1,nv n),(2,.one (.v (.pointer (some ⟨bx,0,none⟩)))),(4,nv q.1)]) (fun q=>abox bx [.v uL,.v uS] 326::R q.2) (fun q=>(20≤q.1∧q.1≤4611686018427387904)∧q.2.size=n∧PermIn 0 n d q.2∧Blk lt q.1 n (fun _=>True) q.2) (20,d2) ⟨by simp only;omega,z0,q0,b0⟩ ?_
  clear b0 q0 z0 hc h1
  clear d1 d2 c
  rintro ⟨bs,d1⟩ ⟨⟨h1,h1'⟩,h2,h3,h4⟩
  simp only at h1 h1' h2 h3 h4
  dsimp only
  by_cases hbs:bs < n
  ·(repeat' first|(refine kk ?_;intros)|refine kfk ?_ ?_<;>intro hb|fail)
   refine kloopE (ι:=Nat × Nat × Nat × Array α) 4 (fun q=>n+2 * bs - q.2.1) (fun q=>[(1,nv n),(2,.one (.v (.pointer (some ⟨bx,0,none⟩)))),(4,nv bs),(5,nv q.2.1),(6,nv q.2.2.1)]) (fun q=>abox bx [.v uL,.v uS] 326::R q.2.2.2) (fun q=>(q.2.1=q.1 * (2 * bs)∧q.2.2.1=q.2.1+2 * bs∧q.2.1≤n)∧q.2.2.2.size=n∧PermIn 0 n d q.2.2.2∧Blk lt (2 * bs) n (· < q.1) q.2.2.2∧Blk lt bs n (2 * q.1≤·) q.2.2.2) (fun q=>(q.2.1=q.1 * (2 * bs)∧n < q.2.1+2 * bs∧q.2.1≤n)∧q.2.2.2.size=n∧PermIn 0 n d q.2.2.2∧Blk lt (2 * bs) n (· < q.1) q.2.2.2∧Blk lt bs n (2 * q.1≤·) q.2.2.2) (0,0,2 * bs,d1) ⟨by simp,h2,h3,fun c hc=>by simp at hc,fun c _=>h4 c trivial⟩ ?_ ?_
   ·rintro ⟨c,a,b,d2⟩ ⟨⟨g1,g2,g3⟩,k1,k2,k3,k4⟩
    simp only at g1 g2 g3 k1 k2 k3 k4
    dsimp only
    have e1:2 * c * bs=a:=by rw [g1,Nat.mul_comm 2 c,Nat.mul_assoc]
    have e2:(2 * c+1) * bs=a+bs:=by rw [Nat.succ_mul,e1]
    have e3:(c+1) * (2 * bs)=a+2 * bs:=by rw [Nat.succ_mul,g1]
    by_cases hb:b≤n
    ·have s1:=k4 (2 * c) (Nat.le_refl _)
     have s2:=k4 (2 * c+1) (by simp only;omega)
     rw [e1,Nat.min_eq_left (by omega)] at s1
     rw [e2,Nat.min_eq_left (by omega),show a+bs+bs=b by omega] at s2
     (repeat' first|(refine kkS [335] [] ?_;intros)|refine kfS [335] [] ?_ ?_<;>intro hb|fail)
     refine kcs (A1:=[_]) (h:=symMerge_c hO S (b - a) d2 a (a+bs) b (Nat.le_refl _) k1 (by omega) (by omega) hb s1 s2) ?_
     rintro _ _ ⟨d3,rfl,v1,v2⟩
     (repeat' first|(refine kk ?_;intros)|refine kfk ?_ ?_<;>intro hb|fail)
     have n1:Blk lt (2 * bs) n (· < c+1) d3:=fun c' hc'=>by
      by_cases e:c'=c
      ·subst e;rw [← g1,← g2,Nat.min_eq_left hb];exact v2
      ·exact (k3.keep v1 fun c'' h=>.inl (by rw [g1];exact blk_lt h)) c' (by simp only at hc' ⊢;omega)
     have n2:Blk lt bs n (2 * (c+1)≤·) d3:=Blk.keep (fun c' h=>k4 c' (show 2 * c≤c' by have h:2 * (c+1)≤c':=h;omega)) v1 fun c' h=>.inr (by have:=blk_lt (bs:=bs) (show 2 * c+1 < c' by have h:2 * (c+1)≤c':=h;omega);omega)
     exact ⟨(c+1,b,b+2 * bs,d3),by simp only;omega,⟨⟨by simp only;rw [e3];omega,rfl,hb⟩,v1.1.trans k1,permIn_trans _ _ _ _ _ k2 (permIn_mono _ _ _ _ _ _ (Nat.zero_le _) hb (by omega) v1),n1,n2⟩,kwk⟩
    ·(repeat' first|(refine kk ?_;intros)|refine kfk ?_ ?_<;>intro hb|fail)
     exact ⟨(c,a,b,d2),⟨⟨g1,by simp only;omega,g3⟩,k1,k2,k3,k4⟩,kwk⟩
   rintro ⟨c,a,b,d2⟩ ⟨⟨g1,g2,g3⟩,k1,k2,k3,k4⟩
   simp only at g1 g2 g3 k1 k2 k3 k4
   dsimp only
   have e1:2 * c * bs=a:=by rw [g1,Nat.mul_comm 2 c,Nat.mul_assoc]
   have e2:(2 * c+1) * bs=a+bs:=by rw [Nat.succ_mul,e1]
   have fin:∀ d3,PermIn a n d2 d3→SortedIn lt a n d3→PermIn 0 n d d3∧Blk lt (2 * bs) n (fun _=>True) d3:=fun d3 x1 x2=>⟨permIn_trans _ _ _ _ _ k2 (permIn_mono _ _ _ _ _ _ (Nat.zero_le _) (Nat.le_refl _) (by omega) x1),fun c' _=>by
    by_cases e:c' < c
    ·exact (k3.keep x1 fun c'' h=>.inl (by rw [g1];exact blk_lt h)) c' e
    ·by_cases e2:c'=c
     ·subst e2;rw [← g1,Nat.min_eq_right (by omega)];exact x2
     ·have:=blk_lt (bs:=2 * bs) (show c < c' by omega)
      exact sorted_empty (by omega)⟩
   by_cases hm:a+bs < n
   ·have s1:=k4 (2 * c) (Nat.le_refl _)
    have s2:=k4 (2 * c+1) (by simp only;omega)
    rw [e1,Nat.min_eq_left (by omega)] at s1
    rw [e2,Nat.min_eq_right (by omega)] at s2
    (repeat' first|(refine kkS [335] [] ?_;intros)|refine kfS [335] [] ?_ ?_<;>intro hb|fail)
    refine kcs (A1:=[_]) (h:=symMerge_c hO S (n - a) d2 a (a+bs) n (Nat.le_refl _) k1 (by omega) hm (Nat.le_refl _) s1 s2) ?_
    rintro _ _ ⟨d3,rfl,v1,v2⟩
    obtain ⟨f1,f2⟩:=fin d3 v1 v2
    (repeat' first|(refine kk ?_;intros)|refine kfk ?_ ?_<;>intro hb|fail)
    exact ⟨(2 * bs,d3),by simp only;omega,⟨by simp only;omega,v1.1.trans k1,f1,f2⟩,kwk (h:=⟨.refl _,.refl _,le_eq (by show iv _=iv _;congr 1;omega),trivial⟩)⟩
   ·have s1:=k4 (2 * c) (Nat.le_refl _)
    rw [e1,Nat.min_eq_right (by omega)] at s1
    obtain ⟨f1,f2⟩:=fin d2 (permIn_refl _ _ _) s1
    (repeat' first|(refine kk ?_;intros)|refine kfk ?_ ?_<;>intro hb|fail)
    exact ⟨(2 * bs,d2),by simp only;omega,⟨by simp only;omega,k1,f1,f2⟩,kwk (h:=⟨.refl _,.refl _,le_eq (by show iv _=iv _;congr 1;omega),trivial⟩)⟩
  ·have s1:=h4 0 trivial
   rw [Nat.zero_mul,Nat.zero_add,Nat.min_eq_right (by omega)] at s1
   (repeat' first|(refine kk ?_;intros)|refine kfk ?_ ?_<;>intro hb|fail)
   exact ker0 (A'':=R d1) ⟨rfl,d1,rfl,h3,s1⟩
end
end
end
section
open Go Go.Sort Go.Lib Go.Extern
noncomputable section
section
variable {P:Program} {w:World} {e:TypeId} {agg:Bool} {sz:Nat} {z:Value}
theorem rowPut [F:TyF P e agg sz z] {b n c:Nat} {vss:List (List Value)} (ho:(orow e sz (.slice (some ⟨b,0,none⟩) n c) vss).ok w) {j:Nat} {vs0 us:List Value} {x:Value} (hv:vss[j]?=some vs0) (hx:x.cells=us.toArray) (hl:us.length=sz) (h1:∀ u∈us,u.oneCell'=true) :
 ∃ w',(storeVar e ⟨b,0+j * sz,none⟩ x).run P w=.ok () w'∧Mod [b] w w'∧w'.heap.size=w.heap.size∧(orow e sz (.slice (some ⟨b,0,none⟩) n c) (vss.set j us)).ok w':=by
 obtain ⟨hall,hlen,hown⟩:=ho
 rcases hown with ⟨h0,_⟩ | ⟨g,cap,cur,e1,hg0,hb,hnc,hcm,hcs,htake⟩
 ·cases h0
 cases e1
 have hv0l:=hall vs0 (List.mem_of_getElem? hv)
 have hjl:=(List.getElem?_eq_some_iff.1 hv).1
 have hjs:j * sz+sz≤vss.length * sz:=by
  have:=Nat.mul_le_mul_right sz (show j+1≤vss.length by omega)
  rw [Nat.add_mul] at this;omega
 have hcl:cur.toList.length=c * sz:=by simpa using hcs
 have hcn:vss.length * sz≤c * sz:=Nat.mul_le_mul_right _ hnc
 obtain ⟨w',e1,e2,e3,e4⟩:=storeVar_at (P:=P) (t:=e) (b:=b) (o:=0+j * sz) (xs:=cur.toList) hx hl h1 (by simpa using hb) (by rw [hcl,Nat.zero_add];omega)
 have hpa:putAt vs0 0 us=us:=putAt_all (by rw [hl,hv0l])
 have hfl:(vss.set j us).flatten=putAt vss.flatten (j * sz) us:=by
  have:=flatten_setP hall hv (o:=0) (us:=us) (by omega)
  rwa [hpa,Nat.add_zero] at this
 refine ⟨w',e1,e2,e3,fun vs hvs=>?_,?_,.inr ⟨b,c,(putAt cur.toList (0+j * sz) us).toArray,by rw [List.length_set],hg0,e4,by rw [List.length_set];exact hnc,hcm,?_,?_⟩⟩
 ·rcases List.mem_or_eq_of_mem_set hvs with h|rfl
  ·exact hall vs h
  ·exact hl
 ·rw [hfl,putAt_len (by rw [hlen];omega),hlen,List.length_set]
 ·rw [List.size_toArray,putAt_len (by rw [hcl];omega),hcl]
 ·rw [List.length_set,hfl,← htake,Nat.zero_add]
  exact take_putAt (by omega) (by rw [hcl];omega)
theorem rowGet [F:TyF P e agg sz z] {b n c:Nat} {vss:List (List Value)} (ho:(orow e sz (.slice (some ⟨b,0,none⟩) n c) vss).ok w) {j:Nat} {vs:List Value} (hv:vss[j]?=some vs) (hone:agg=false→sz=1) (h1:∀ u∈vs,u.oneCell'=true) :
 ∃ x,(loadVar e ⟨b,0+j * sz,none⟩).run P w=.ok x w∧x.cells=vs.toArray:=by
 obtain ⟨hall,hlen,hown⟩:=ho
 rcases hown with ⟨h0,_⟩ | ⟨g,cap,cur,e1,hg0,hb,hnc,hcm,hcs,htake⟩
 ·cases h0
 cases e1
 have hvl:=hall vs (List.mem_of_getElem? hv)
 have C:Cells w b (0+j * sz) vs:=fun i u hi=>by
  have h5:=flat_getP hall hv hi
  rw [← htake,List.getElem?_take] at h5
  split at h5
  ·rw [block_cell hb,Nat.zero_add];exact h5
  ·cases h5
 cases agg with
 | true=>exact ⟨.agg vs.toArray,runC_run _ _ (loadVar_CN C hvl),rfl⟩
 | false=>
  have h2:=hone rfl
  match vs,hvl.trans h2 with
  | [v],_=>
   refine ⟨v,runC_run _ _ (loadVar_C1 (by simpa using C 0 v rfl)),?_⟩
   have h3:=h1 v (by simp)
   cases v<;>first|rfl|cases h3
theorem run_swapRow [F:TyF P e agg sz z] (gS:Bool) (hone:agg=false→sz=1) {b n c:Nat} {vss:List (List Value)} (ho:(orow e sz (.slice (some ⟨b,0,none⟩) n c) vss).ok w) (hn:vss.length=n) {i j:Nat} (hi:i < n) (hj:j < n) {vi vj:List Value} (hvi:vss[i]?=some vi) (hvj:vss[j]?=some vj) (h1:∀ u∈vi,u.oneCell'=true) (h2:∀ u∈vj,u.oneCell'=true) :
 ∃ w',(ReflectliteSwapper.swap gS #[.int .i64 i,.int .i64 j,.slice (some ⟨b,0,none⟩) n c,typeHandle P e]).run P w=.ok (.tuple #[]) w'∧Mod [b] w w'∧w'.heap.size=w.heap.size∧(orow e sz (.slice (some ⟨b,0,none⟩) n c) ((vss.set i vj).set j vi)).ok w':=by
 obtain ⟨x,l1,c1⟩:=rowGet (P:=P) ho hvi hone h1
 obtain ⟨y,l2,c2⟩:=rowGet (P:=P) ho hvj hone h2
 have li:=ho.1 vi (List.mem_of_getElem? hvi)
 have lj:=ho.1 vj (List.mem_of_getElem? hvj)
 obtain ⟨w1,s1,m1,z1,o1⟩:=rowPut (P:=P) ho hvi c2 lj h2
 obtain ⟨v1,hv1⟩:∃ v1,(vss.set i vj)[j]?=some v1:=⟨_,List.getElem?_eq_getElem (by rw [List.length_set];omega)⟩
 obtain ⟨w2,s2,m2,z2,o2⟩:=rowPut (P:=P) o1 hv1 c1 li h1
 refine ⟨w2,?_,m1.trans m2,z2.trans z1,o2⟩
 have i0:¬ ((i:Int) < 0):=by omega
 have i1:¬ ((i:Int) ≥ n):=by omega
 have j0:¬ ((j:Int) < 0):=by omega
 have j1:¬ ((j:Int) ≥ n):=by omega
 have hs:=runC_run _ _ (F.size w)
 rw [Nat.zero_add] at l1 l2 s1 s2
 rw [rl_swap]
 cases gS<;>simp [i0,i1,j0,j1,Rtype.ofHandle,handleType,typeHandle,ReflectliteSwapper.exchange,hs,Addr.add_lit,l1,l2,s1,s2,Result.andThen]
theorem swapV {f:Nat} {gS:Bool} (hx:∀ args W,(callFunc f args).run P W=((ReflectliteSwapper.swap gS args).run P W).andThen fun v w'=>.ok (.value v) w') [F:TyF P e agg sz z] (hone:agg=false→sz=1) {b n c i j:Nat} {rows:List (List D)} (hn:rows.length=n) {ri rj:List D} (hi:rows[i]?=some ri) (hj:rows[j]?=some rj) :
 CallV P (.func (.func f) #[] [.slice (some ⟨b,0,none⟩) n c,typeHandle P e].toArray) [nv i,nv j] [arow e sz (.slice (some ⟨b,0,none⟩) n c) rows] fun _ A'=>A'=[arow e sz (.slice (some ⟨b,0,none⟩) n c) ((rows.set i rj).set j ri)]:=CallV.of_ext fun M w vs hp hv=>by
 obtain ⟨x,xs,rfl,⟨rfl,_⟩,y,ys,rfl,⟨rfl,_⟩,rfl⟩:=hv
 obtain ⟨vss,ho,hrd⟩:=hp.ats _ (List.mem_singleton.2 rfl)
 obtain ⟨vi,hvi,ci⟩:=rdRows_get i hrd hi
 obtain ⟨vj,hvj,cj⟩:=rdRows_get j hrd hj
 have hil:=(List.getElem?_eq_some_iff.1 hi).1
 have hjl:=(List.getElem?_eq_some_iff.1 hj).1
 obtain ⟨w',e1,e2,e3,e4⟩:=run_swapRow (P:=P) gS hone ho (by rw [rdRows_len hrd];exact hn) (by omega) (by omega) hvi hvj (rdC_one ci) (rdC_one cj)
 refine ⟨.tuple #[],w',?_,.tup [],_,rfl,undef_rd,?_⟩
 ·rw [hx]
  show ((ReflectliteSwapper.swap gS #[.int .i64 i,.int .i64 j,.slice (some ⟨b,0,none⟩) n c,typeHandle P e]).run P w).andThen _=_
  rw [e1];rfl
 ·have hoA:∀ rows',oA [arow e sz (.slice (some ⟨b,0,none⟩) n c) rows']=oA [arow e sz (.slice (some ⟨b,0,none⟩) n c) rows]:=fun _=>by simp [oA,arow]
  have keep:∀ q,q < w.heap.size→¬ MO M [arow e sz (.slice (some ⟨b,0,none⟩) n c) rows] q→w'.heap[q]?=w.heap[q]?:=fun q hq hn=>e2.block q hq fun hqb=>hn (.inr (by simpa [oA,arow,Value.ownBlock] using hqb))
  refine hp.turn (i:=0) (a':=arow e sz (.slice (some ⟨b,0,none⟩) n c) ((rows.set i rj).set j ri)) rfl (e2.mono fun q hq=>by simpa [arow,Value.ownBlock] using hq) (by simp [arow,Value.ownBlock]) (fun q hq=>⟨?_,.inl hq⟩) ⟨(vss.set i vj).set j vi,e4,?_⟩
  ·rw [e3];exact hp.lt q (mem_oA.2 ⟨_,List.mem_singleton.2 rfl,by simpa [arow,Value.ownBlock] using hq⟩)
  ·have h6:=rdRows_set j (rdRows_set i (rdRows_keep keep hrd) (rdC_keep keep cj)) (rdC_keep keep ci)
   refine rdRows_grow (fun q _ hM=>?_) h6
   unfold MO at hM ⊢
   first|exact hM|(rw [List.set_cons_zero,hoA];exact hM)
end
end
end
section
open Go Go.Sort Go.Lib Go.Extern Go.Shelf
noncomputable section
theorem CallV.front {P:Program} {u:Value} {as1:List AV} {A1 B:List Atm} {Q':AV→List Atm→Prop} (h:CallV P u as1 B Q'):CallV P u as1 (A1++B) fun v A'=>∃ B',Q' v B'∧A'=A1++B':=fun f d ty pos aft gg c avs tys hc ha=>(h f d ty pos aft gg c avs tys hc ha).front (.refl _)
theorem CallV.mono {P:Program} {u:Value} {as1:List AV} {A:List Atm} {Q1 Q2:AV→List Atm→Prop} (h:CallV P u as1 A Q1) (k:∀ v A',Q1 v A'→Q2 v A'):CallV P u as1 A Q2:=fun f d ty pos aft gg c avs tys hc ha M w r hp hx=>
 OS.mono (h f d ty pos aft gg c avs tys hc ha M w r hp hx) fun _ _ ⟨v,A',h1,h2,h3⟩=>⟨v,A',k v A' h1,h2,h3⟩
theorem swp_toList {α:Type} [Inhabited α] {d:Array α} {i j:Nat} (hi:i < d.size) (hj:j < d.size):(swp d i j).toList=(d.toList.set i d[j]!).set j d[i]!:=by
 simp [swp,Array.toList_setIfInBounds]
theorem swp_same {α:Type} [Inhabited α] {d:Array α} {i:Nat} (hi:i < d.size):swp d i i=d:=by
 apply Array.ext'
 rw [swp_toList hi hi]
 have h:d[i]! = d.toList[i]'(by simpa using hi):=by simp [hi]
 rw [h,List.set_getElem_self,List.set_getElem_self]
def swp2:Array Value→Go.Sem Value
 | #[.int .i64 0,.int .i64 0]=>pure (.tuple #[])
 | _=>ReflectliteSwapper.outOfRange
structure SwpF (P:Program) (e:TypeId) (n:Nat) (u:Value) (f:Nat) (cap:List Value):Prop where
 none:n=0∨n=1∧cap=[]∧(∀ args W,(callFunc f args).run P W=((swp2 args).run P W).andThen fun v w'=>.ok (.value v) w')∨
  2≤n∧cap=[u,typeHandle P e]∧∃ gS,∀ args W,(callFunc f args).run P W=((ReflectliteSwapper.swap gS args).run P W).andThen fun v w'=>.ok (.value v) w'
theorem swap_any {P:Program} {α:Type} [Inhabited α] {e:TypeId} {agg:Bool} {sz:Nat} {z:Value} [F:TyF P e agg sz z] (hone:agg=false→sz=1) (enc:α→List D) (A0:List Atm) {b n c f:Nat} {cap:List Value} (h:SwpF P e n (.slice (some ⟨b,0,none⟩) n c) f cap) (d:Array α) (i j:Nat) (hd:d.size=n) (hi:i < n) (hj:j < n) :
 CallV P (.func (.func f) #[] cap.toArray) [nv i,nv j] (A0++[arow e sz (.slice (some ⟨b,0,none⟩) n c) (d.toList.map enc)]) fun _ A'=>A'=A0++[arow e sz (.slice (some ⟨b,0,none⟩) n c) ((swp d i j).toList.map enc)]:=by
 rcases h.none with h0 | ⟨h1,rfl,hx⟩ | ⟨h1,rfl,gS,hx⟩
 ·omega
 ·obtain rfl:i=0:=by omega
  obtain rfl:j=0:=by omega
  rw [swp_same (by omega)]
  refine CallV.of_ext fun M w vs hp hv=>?_
  obtain ⟨x,xs,rfl,⟨rfl,_⟩,y,ys,rfl,⟨rfl,_⟩,rfl⟩:=hv
  refine ⟨.tuple #[],w,?_,.tup [],_,rfl,undef_rd,.refl hp⟩
  rw [hx]
  rfl
 ·refine (CallV.front (swapV hx hone (by simp [hd]) (ri:=enc d[i]!) (rj:=enc d[j]!) ?_ ?_)).mono ?_
  ·rw [List.getElem?_map,Array.getElem?_toList];simp [hd,hi]
  ·rw [List.getElem?_map,Array.getElem?_toList];simp [hd,hj]
  ·rintro _ _ ⟨B',rfl,rfl⟩
   rw [swp_toList (by omega) (by omega),List.map_set,List.map_set]
theorem sortC_row {P:Program} {α:Type} [Inhabited α] {e:TypeId} {agg:Bool} {sz:Nat} {z:Value} [F:TyF P e agg sz z] (hone:agg=false→sz=1) (enc:α→List D) (A0:List Atm) (lt:α→α→Bool) {b n c f g:Nat} {cap capL:List Value} (h:SwpF P e n (.slice (some ⟨b,0,none⟩) n c) f cap) (hn:n≤1152921504606846976)
 (less:∀ (d:Array α) (i j:Nat),d.size=n→i < n→j < n→CallV P (.func (.func g) #[] capL.toArray) [nv i,nv j] (A0++[arow e sz (.slice (some ⟨b,0,none⟩) n c) (d.toList.map enc)]) fun v A'=>v=bv (lt d[i]! d[j]!)∧A'=A0++[arow e sz (.slice (some ⟨b,0,none⟩) n c) (d.toList.map enc)]) :
 SortC P n (fun d=>A0++[arow e sz (.slice (some ⟨b,0,none⟩) n c) (d.toList.map enc)]) lt (.func (.func g) #[] capL.toArray) (.func (.func f) #[] cap.toArray):=⟨rfl,rfl,hn,less,fun d i j hd hi hj=>swap_any hone enc A0 h d i j hd hi hj⟩
end
end
section
open Go Go.Sort Go.Lib Go.Extern Go.Shelf
noncomputable section
theorem swIx1 : Tryz.prog.funcs.findIdx? (·.name == "internal/reflectlite" ++ ".Swapper$" ++ toString 1) = some 301 := by kernel_rfl
theorem swIx2 : Tryz.prog.funcs.findIdx? (·.name == "internal/reflectlite" ++ ".Swapper$" ++ toString 2) = some 302 := by kernel_rfl
theorem swIx9 : Tryz.prog.funcs.findIdx? (·.name == "internal/reflectlite" ++ ".Swapper$" ++ toString 9) = some 309 := by kernel_rfl
theorem swp_of {n : Nat} {e : TypeId} {ie : TypeInfo} {ke : Nat} (hK : ∀ n, 2 ≤ n → swapperK n ie ke = 9) (u : Value) : ∃ f cap, Tryz.prog.funcs.findIdx? (·.name == "internal/reflectlite" ++ ".Swapper$" ++ toString (swapperK n ie ke)) = some f ∧ (if swapperK n ie ke ≤ 2 then #[] else #[u, typeHandle Tryz.prog e]) = List.toArray cap ∧ SwpF Tryz.prog e n u f cap := by
 rcases Nat.lt_or_ge n 2 with h|h
 ·rcases Nat.lt_or_ge n 1 with h0|h0
  ·obtain rfl:n=0:=by omega
   exact ⟨_,[],swIx1,rfl,⟨.inl rfl⟩⟩
  ·obtain rfl:n=1:=by omega
   exact ⟨_,[],swIx2,rfl,⟨.inr (.inl ⟨rfl,rfl,fun args W=>run_callFunc_extern Tryz.func302 (by kernel_rfl) (by kernel_rfl) (by kernel_rfl) (e:=swp2) (by kernel_rfl) args W⟩)⟩⟩
 ·rw [hK n h]
  exact ⟨_,[u,typeHandle Tryz.prog e],swIx9,rfl,⟨.inr (.inr ⟨h,rfl,false,fun args W=>run_callFunc_extern Tryz.func309 (by kernel_rfl) (by kernel_rfl) (by kernel_rfl) (e:=Extern.ReflectliteSwapper.swap false) (by kernel_rfl) args W⟩)⟩⟩
theorem sortSlice_c {α:Type} [Inhabited α] {lt:α→α→Bool} (hO:SWO lt) {t e:TypeId} {agg:Bool} {sz:Nat} {z:Value} [F:TyF Tryz.prog e agg sz z] (hone:agg=false→sz=1) (it ie:TypeInfo) (hi:Tryz.prog.info? t=some it) (hd:it.desc=.slice e) (hpk:Tryz.prog.packed t=false) (hie:Tryz.prog.info? e=some ie) (ke:Nat) (hke:∀ w,(Rtype.kind e).run Tryz.prog w=.ok ke w) (hK:∀ n,2≤n→swapperK n ie ke=9)
 (enc:α→List D) (A0:List Atm) {g:Nat} {capL:List Value} (u:Value) (d:Array α) (hn:d.size≤1152921504606846976)
 (less:∀ b c,u=.slice (some ⟨b,0,none⟩) d.size c→∀ (d':Array α) (i j:Nat),d'.size=d.size→i < d.size→j < d.size→CallV Tryz.prog (.func (.func g) #[] capL.toArray) [nv i,nv j] (A0++[arow e sz u (d'.toList.map enc)]) fun v A'=>v=bv (lt d'[i]! d'[j]!)∧A'=A0++[arow e sz u (d'.toList.map enc)]) :
 Spec Tryz.prog 226 [.one (.v (.iface t u)),.one (.v (.func (.func g) #[] capL.toArray))] (A0++[arow e sz u (d.toList.map enc)]) fun _ A'=>∃ d',A'=A0++[arow e sz u (d'.toList.map enc)]∧PermIn 0 d.size d d'∧SortedIn lt 0 d.size d':=fun M w vs hp hv=>by
 obtain ⟨x,xs,rfl,⟨rfl,_⟩,y,ys,rfl,⟨rfl,_⟩,rfl⟩:=hv
 obtain ⟨vss,⟨hall,hlen,hown⟩,hrd⟩:=hp.ats (arow e sz u (d.toList.map enc)) (by simp)
 have hvl:vss.length=d.size:=by have:=rdRows_len hrd;simpa using this
 have key : ∀ (p : Option Addr) (c f : Nat) (cap : List Value), u = .slice p d.size c → Tryz.prog.funcs.findIdx? (·.name == "internal/reflectlite" ++ ".Swapper$" ++ toString (swapperK d.size ie ke)) = some f → sliceBound Tryz.prog e ie ke p d.size c = cap.toArray →
  SortC Tryz.prog d.size (fun d=>A0++[arow e sz u (d.toList.map enc)]) lt (.func (.func g) #[] capL.toArray) (.func (.func f) #[] cap.toArray)→Calls Tryz.prog 226 #[.iface t u,.func (.func g) #[] capL.toArray] w (Ret (Post (A0++[arow e sz u (d.toList.map enc)]) (fun _ A'=>∃ d',A'=A0++[arow e sz u (d'.toList.map enc)]∧PermIn 0 d.size d d'∧SortedIn lt 0 d.size d') M w)):=by
  intro p c f cap hu hf hcap S
  subst hu
  have hm:Mod [] w (sliceWorld Tryz.prog Tryz.laysGg6_ren t p d.size c w):=by
   unfold sliceWorld
   exact ((Mod.refl [] w).alloc _).alloc _
  refine Calls.mono (Any.sort_Slice_of_pdq Tryz.laysGg6 t e it ie hi hd hpk hie ke hke p d.size c (by omega) f hf (.func g) #[] capL.toArray w (fun w'=>Post (A0++[arow e sz (.slice p d.size c) (d.toList.map enc)]) (fun _ A'=>∃ d',A'=A0++[arow e sz (.slice p d.size c) (d'.toList.map enc)]∧PermIn 0 d.size d d'∧SortedIn lt 0 d.size d') M w (.tuple #[]) w') ?_) ?_
  ·rw [hcap]
   have hb:Lib.bitLen d.size≤64:=bitLen_le d.size 64 (by omega) (by omega)
   have h:=pdq_c hO S d.size d 0 d.size (Lib.bitLen d.size) (Nat.le_refl _) rfl (Nat.zero_le _) (Nat.le_refl _) (by omega) (.inl rfl) M (sliceWorld Tryz.prog Tryz.laysGg6_ren t p d.size c w) [.agg #[.func (.func g) #[] capL.toArray,.func (.func f) #[] cap.toArray],.int .i64 0,.int .i64 d.size,.int .i64 (Lib.bitLen d.size)] (hp.mod hm) ?_
   ·refine Calls.mono h ?_
    rintro e' w' ⟨u',rfl,v,A',⟨rfl,d',rfl,h1,h2⟩,⟨vs',rfl,rfl⟩,hst⟩
    exact ⟨rfl,.tup [],_,⟨d',rfl,h1,h2⟩,undef_rd,(Step.pure hp hm).trans hst⟩
   ·exact ⟨_,_,rfl,⟨_,rfl,_,_,rfl,⟨rfl,rfl⟩,_,_,rfl,⟨rfl,rfl⟩,rfl⟩,_,_,rfl,⟨rfl,rfl⟩,_,_,rfl,⟨rfl,rfl⟩,_,_,rfl,⟨rfl,rfl⟩,rfl⟩
  ·rintro e' w' ⟨rfl,h⟩
   exact ⟨_,rfl,h⟩
 obtain ⟨f,cap,hf,hcap,hS⟩:=swp_of (n:=d.size) (e:=e) hK u
 rcases hown with ⟨hu,h0⟩ | ⟨b,c,cur,hu,_⟩
 ·subst hu
  have hz:d.size=0:=by omega
  refine key none 0 f cap (by rw [hz]) hf ?_ ⟨rfl,rfl,hn,fun d' i j h1 h2=>by omega,fun d' i j h1 h2=>by omega⟩
  rw [hz] at hcap ⊢
  exact hcap
 ·rw [hvl] at hu
  subst hu
  exact key _ c f cap rfl hf hcap (sortC_row hone enc A0 lt hS hn fun d' i j h1 h2 h3=>less b c rfl d' i j h1 h2 h3)
end
end
section
open Go Go.Sort Go.Lib Go.Extern Go.Shelf
noncomputable section
theorem sortStable_c {α:Type} [Inhabited α] {lt:α→α→Bool} (hO:SWO lt) {t e:TypeId} {agg:Bool} {sz:Nat} {z:Value} [F:TyF Tryz.prog e agg sz z] (hone:agg=false→sz=1) (it ie:TypeInfo) (hi:Tryz.prog.info? t=some it) (hd:it.desc=.slice e) (hpk:Tryz.prog.packed t=false) (hie:Tryz.prog.info? e=some ie) (ke:Nat) (hke:∀ w,(Rtype.kind e).run Tryz.prog w=.ok ke w) (hK:∀ n,2≤n→swapperK n ie ke=9)
 (enc:α→List D) (A0:List Atm) {g:Nat} {capL:List Value} (u:Value) (d:Array α) (hn:d.size≤1152921504606846976)
 (less:∀ b c,u=.slice (some ⟨b,0,none⟩) d.size c→∀ (d':Array α) (i j:Nat),d'.size=d.size→i < d.size→j < d.size→CallV Tryz.prog (.func (.func g) #[] capL.toArray) [nv i,nv j] (A0++[arow e sz u (d'.toList.map enc)]) fun v A'=>v=bv (lt d'[i]! d'[j]!)∧A'=A0++[arow e sz u (d'.toList.map enc)]) :
 Spec Tryz.prog 276 [.one (.v (.iface t u)),.one (.v (.func (.func g) #[] capL.toArray))] (A0++[arow e sz u (d.toList.map enc)]) fun _ A'=>∃ d',A'=A0++[arow e sz u (d'.toList.map enc)]∧PermIn 0 d.size d d'∧SortedIn lt 0 d.size d':=fun M w vs hp hv=>by
 obtain ⟨x,xs,rfl,⟨rfl,_⟩,y,ys,rfl,⟨rfl,_⟩,rfl⟩:=hv
 obtain ⟨vss,⟨hall,hlen,hown⟩,hrd⟩:=hp.ats (arow e sz u (d.toList.map enc)) (by simp)
 have hvl:vss.length=d.size:=by have:=rdRows_len hrd;simpa using this
 have key : ∀ (p : Option Addr) (c f : Nat) (cap : List Value), u = .slice p d.size c → Tryz.prog.funcs.findIdx? (·.name == "internal/reflectlite" ++ ".Swapper$" ++ toString (swapperK d.size ie ke)) = some f → sliceBound Tryz.prog e ie ke p d.size c = cap.toArray →
  SortC Tryz.prog d.size (fun d=>A0++[arow e sz u (d.toList.map enc)]) lt (.func (.func g) #[] capL.toArray) (.func (.func f) #[] cap.toArray)→Calls Tryz.prog 276 #[.iface t u,.func (.func g) #[] capL.toArray] w (Ret (Post (A0++[arow e sz u (d.toList.map enc)]) (fun _ A'=>∃ d',A'=A0++[arow e sz u (d'.toList.map enc)]∧PermIn 0 d.size d d'∧SortedIn lt 0 d.size d') M w)):=by
  intro p c f cap hu hf hcap S
  subst hu
  have hm:Mod [] w (stableWorld Tryz.prog Tryz.laysGt8_ren t p d.size c w):=by
   unfold stableWorld
   exact ((Mod.refl [] w).alloc _).alloc _
  refine Calls.mono (Any.sort_SliceStable_of_stable Tryz.laysGt8 t e it ie hi hd hpk hie ke hke p d.size c (by omega) f hf (.func g) #[] capL.toArray w (fun w'=>Post (A0++[arow e sz (.slice p d.size c) (d.toList.map enc)]) (fun _ A'=>∃ d',A'=A0++[arow e sz (.slice p d.size c) (d'.toList.map enc)]∧PermIn 0 d.size d d'∧SortedIn lt 0 d.size d') M w (.tuple #[]) w') ?_) ?_
  ·rw [hcap]
   have h:=stable_c hO S d rfl M (stableWorld Tryz.prog Tryz.laysGt8_ren t p d.size c w) [.agg #[.func (.func g) #[] capL.toArray,.func (.func f) #[] cap.toArray],.int .i64 d.size] (hp.mod hm) ?_
   ·refine Calls.mono h ?_
    rintro e' w' ⟨u',rfl,v,A',⟨rfl,d',rfl,h1,h2⟩,⟨vs',rfl,rfl⟩,hst⟩
    exact ⟨rfl,.tup [],_,⟨d',rfl,h1,h2⟩,undef_rd,(Step.pure hp hm).trans hst⟩
   ·exact ⟨_,_,rfl,⟨_,rfl,_,_,rfl,⟨rfl,rfl⟩,_,_,rfl,⟨rfl,rfl⟩,rfl⟩,_,_,rfl,⟨rfl,rfl⟩,rfl⟩
  ·rintro e' w' ⟨rfl,h⟩
   exact ⟨_,rfl,h⟩
 obtain ⟨f,cap,hf,hcap,hS⟩:=swp_of (n:=d.size) (e:=e) hK u
 rcases hown with ⟨hu,h0⟩ | ⟨b,c,cur,hu,_⟩
 ·subst hu
  have hz:d.size=0:=by omega
  refine key none 0 f cap (by rw [hz]) hf ?_ ⟨rfl,rfl,hn,fun d' i j h1 h2=>by omega,fun d' i j h1 h2=>by omega⟩
  rw [hz] at hcap ⊢
  exact hcap
 ·rw [hvl] at hu
  subst hu
  exact key _ c f cap rfl hf hcap (sortC_row hone enc A0 lt hS hn fun d' i j h1 h2 h3=>less b c rfl d' i j h1 h2 h3)
class SrtF (P:Program) (t e:TypeId):Prop where
 ex:∃ (it ie:TypeInfo) (ke:Nat),P.info? t=some it∧it.desc=.slice e∧P.packed t=false∧P.info? e=some ie∧(∀ w,(Rtype.kind e).run P w=.ok ke w)∧∀ n,2≤n→swapperK n ie ke=9
theorem swK9a {n:Nat} {ie:TypeInfo} {ke:Nat} (hn:2≤n) (h1:ie.hasPointers=true) (h2:(ie.bytes == 8)=false) (h3:(ke == 24)=false):swapperK n ie ke=9:=by
 have c:(n == 0)=false:=by simp;omega
 have d:(n == 1)=false:=by simp;omega
 simp [swapperK,h1,h2,h3,c,d]
theorem swK9b {n:Nat} {ie:TypeInfo} {ke:Nat} (hn:2≤n) (h1:ie.hasPointers=false) (h2:ie.bytes=16):swapperK n ie ke=9:=by
 have c:(n == 0)=false:=by simp;omega
 have d:(n == 1)=false:=by simp;omega
 simp [swapperK,h1,h2,c,d]
noncomputable def itVk:TypeInfo:=(Tryz.prog.info? 50).get (by kernel_rfl)
noncomputable def ieVk:TypeInfo:=(Tryz.prog.info? 186).get (by kernel_rfl)
instance:SrtF Tryz.prog 50 186:=⟨itVk,ieVk,25,by kernel_rfl,by kernel_rfl,by kernel_rfl,by kernel_rfl,fun _=>by kernel_rfl,fun n hn=>swK9b hn (by kernel_rfl) (by kernel_rfl)⟩
noncomputable def itMk:TypeInfo:=(Tryz.prog.info? 51).get (by kernel_rfl)
noncomputable def ieMk:TypeInfo:=(Tryz.prog.info? 189).get (by kernel_rfl)
instance:SrtF Tryz.prog 51 189:=⟨itMk,ieMk,25,by kernel_rfl,by kernel_rfl,by kernel_rfl,by kernel_rfl,fun _=>by kernel_rfl,fun n hn=>swK9a hn (by kernel_rfl) (by kernel_rfl) (by kernel_rfl)⟩
noncomputable def itBs:TypeInfo:=(Tryz.prog.info? 49).get (by kernel_rfl)
noncomputable def ieBs:TypeInfo:=(Tryz.prog.info? 48).get (by kernel_rfl)
instance:SrtF Tryz.prog 49 48:=⟨itBs,ieBs,23,by kernel_rfl,by kernel_rfl,by kernel_rfl,by kernel_rfl,fun _=>by kernel_rfl,fun n hn=>swK9a hn (by kernel_rfl) (by kernel_rfl) (by kernel_rfl)⟩
theorem sortS_c {α:Type} [Inhabited α] {lt:α→α→Bool} (hO:SWO lt) {t e:TypeId} {agg:Bool} {sz:Nat} {z:Value} [F:TyF Tryz.prog e agg sz z] [S:SrtF Tryz.prog t e] (hone:agg=false→sz=1) (enc:α→List D) (A0:List Atm) {g:Nat} {capL:List Value} (u:Value) (d:Array α) (hn:d.size≤1152921504606846976)
 (less:∀ b c,u=.slice (some ⟨b,0,none⟩) d.size c→∀ (d':Array α) (i j:Nat),d'.size=d.size→i < d.size→j < d.size→CallV Tryz.prog (.func (.func g) #[] capL.toArray) [nv i,nv j] (A0++[arow e sz u (d'.toList.map enc)]) fun v A'=>v=bv (lt d'[i]! d'[j]!)∧A'=A0++[arow e sz u (d'.toList.map enc)]) :
 Spec Tryz.prog 226 [.one (.v (.iface t u)),.one (.v (.func (.func g) #[] capL.toArray))] (A0++[arow e sz u (d.toList.map enc)]) fun _ A'=>∃ d',A'=A0++[arow e sz u (d'.toList.map enc)]∧PermIn 0 d.size d d'∧SortedIn lt 0 d.size d':=by
 obtain ⟨it,ie,ke,h1,h2,h3,h4,h5,h6⟩:=S.ex
 exact sortSlice_c hO hone it ie h1 h2 h3 h4 ke h5 h6 enc A0 u d hn less
theorem sortT_c {α:Type} [Inhabited α] {lt:α→α→Bool} (hO:SWO lt) {t e:TypeId} {agg:Bool} {sz:Nat} {z:Value} [F:TyF Tryz.prog e agg sz z] [S:SrtF Tryz.prog t e] (hone:agg=false→sz=1) (enc:α→List D) (A0:List Atm) {g:Nat} {capL:List Value} (u:Value) (d:Array α) (hn:d.size≤1152921504606846976)
 (less:∀ b c,u=.slice (some ⟨b,0,none⟩) d.size c→∀ (d':Array α) (i j:Nat),d'.size=d.size→i < d.size→j < d.size→CallV Tryz.prog (.func (.func g) #[] capL.toArray) [nv i,nv j] (A0++[arow e sz u (d'.toList.map enc)]) fun v A'=>v=bv (lt d'[i]! d'[j]!)∧A'=A0++[arow e sz u (d'.toList.map enc)]) :
 Spec Tryz.prog 276 [.one (.v (.iface t u)),.one (.v (.func (.func g) #[] capL.toArray))] (A0++[arow e sz u (d.toList.map enc)]) fun _ A'=>∃ d',A'=A0++[arow e sz u (d'.toList.map enc)]∧PermIn 0 d.size d d'∧SortedIn lt 0 d.size d':=by
 obtain ⟨it,ie,ke,h1,h2,h3,h4,h5,h6⟩:=S.ex
 exact sortStable_c hO hone it ie h1 h2 h3 h4 ke h5 h6 enc A0 u d hn less
end
end
end Go.Proofs.YtejkllmoofdpjaaGreat
