/- Parts of the proof: VZ7 VZ8. -/
import Derived.Laws.Bits64b
import Derived.Test.YtejkllmoofdpjaaGreatD16
namespace Go.Proofs.YtejkllmoofdpjaaGreat
open Go
set_option linter.all false
set_option maxRecDepth 100000
set_option maxHeartbeats 4000000
section
open Go Go.Sort
noncomputable section
section
variable {P:Program} {f:AF} {A:List Atm} {d:Option Tmp} {ty:TypeId} {pos:String} {aft:Array Edge} {gg:Option (Nat × Bool)}
abbrev uv (n:Nat):AV:=.one (.v (.int .u64 (n:Nat)))
theorem u64_in (n:Nat) (h:n < 18446744073709551616):IntKind.u64.wrap (n:Int)=n:=by rw [IntKind.wrap_u64];omega
theorem P_sub64 {xt yt:TypeId} (x y:Operand) {a b:Nat} (hx:eva f x=uv a) (hy:eva f y=.one (.v (.int .u64 (b:Nat)))) (hb:b≤a) (ha:a < 18446744073709551616):PuO P f A ⟨d,.binOp .sub xt x y yt,ty,pos,aft,gg⟩ (uv (a - b)):=P_ex2 x y rfl hx hy rfl fun _ _ h1 h2=>by
 have h3:(a:Int) - (b:Int)=((a - b:Nat):Int):=by omega
 have h5:=u64_in (a - b) (by omega)
 generalize a - b=q at h3 h5 ⊢
 simp only [execOp,h1,h2,eqGuard,binOp,Op.intArith,h3,h5]
 rfl
theorem P_and64 {xt yt:TypeId} (x y:Operand) {a b:Nat} (hx:eva f x=uv a) (hy:eva f y=uv b) (ha:a < 18446744073709551616) (hb:b < 18446744073709551616):PuO P f A ⟨d,.binOp .and xt x y yt,ty,pos,aft,gg⟩ (uv (a &&& b)):=P_ex2 x y rfl hx hy rfl fun _ _ h1 h2=>by
 have h3:=bits_and_u64_nat a b ha hb
 generalize a &&& b=q at h3 ⊢
 simp only [execOp,h1,h2,eqGuard,binOp]
 show some (Next.value (Value.int .u64 (bits .and .u64 a b)))=_
 rw [h3]
end
instance cnvZ:CnvF Tryz.prog 3 353 .u64:=⟨⟨_,Tryz.underlying3⟩,Tryz.underlying353⟩
instance cnvZ2:CnvF Tryz.prog 323 3 .i64:=⟨⟨_,Tryz.underlying323⟩,Tryz.underlying3⟩
instance pow2_c:Con1 Tryz.prog 331 Nat nv (fun n=>uv (1 <<< bitsLen n)) (fun n=>n < 4611686018427387904):=⟨fun n hn M w vs hM hv=>by
 obtain ⟨x,xs,rfl,⟨rfl,_⟩,rfl⟩:=hv
 refine Calls.mono (Tryz.nextPowerOfTwo n hn w) ?_
 rintro e w' ⟨rfl,rfl⟩
 exact ⟨_,rfl,⟨rfl,rfl⟩,.refl _ _⟩⟩
abbrev xbox (q X:Nat):Atm:=abox q [.v (.int .u64 (X:Nat))] 353
theorem next_c (q X:Nat) (hX:X < 18446744073709551616):Spec Tryz.prog 332 [.one (.v (.pointer (some ⟨q,0,none⟩)))] [xbox q X] fun v A'=>∃ Y:Nat,Y < 18446744073709551616∧v=uv Y∧A'=[xbox q Y]:=fun M w vs hp hv=>by
 obtain ⟨x,xs,rfl,⟨rfl,_⟩,rfl⟩:=hv
 obtain ⟨vs,hg,hrd⟩:=hp.ats _ (List.mem_singleton.2 rfl)
 obtain ⟨y,ys,rfl,⟨rfl,_⟩,rfl⟩:=hrd
 have hql:q < w.heap.size:=(Array.getElem?_eq_some_iff.1 hg).1
 have hc:w.cell? ⟨q,0,none⟩=some (.int .u64 (X:Nat)):=by rw [block_cell hg];rfl
 refine Calls.mono (Tryz.xorshift_Next q 0 X hX w hc (by simp [World.frozen?,hg])) ?_
 rintro e w' ⟨rfl,rfl⟩
 refine ⟨_,rfl,uv (xorNextN X),[xbox q (xorNextN X)],⟨_,xorNextN_lt X hX,rfl,rfl⟩,⟨rfl,rfl⟩,?_⟩
 have hheap:((w.setCell ⟨q,0,none⟩ (.int .u64 (xorNextN X:Nat))).drewN 3).heap=w.heap.setIfInBounds q (.cells #[.int .u64 (xorNextN X:Nat)] 353 (0,0)):=by
  refine Array.ext_getElem? fun k=>?_
  show (w.heap.modify q _)[k]?=_
  rw [Array.getElem?_modify,Array.getElem?_setIfInBounds]
  by_cases h:q=k
  ·subst h
   rw [if_pos rfl,if_pos rfl,if_pos hql,hg]
   rfl
  ·rw [if_neg h,if_neg h]
 refine hp.turn (i:=0) (a':=xbox q (xorNextN X)) rfl ⟨rfl,rfl,rfl,by rw [hheap];simp,fun k hk hn=>?_⟩ (by simp [abox]) (fun c hc=>?_) ⟨[.int .u64 (xorNextN X:Nat)],?_,⟨_,_,rfl,⟨rfl,rfl⟩,rfl⟩⟩
 ·rw [hheap,Array.getElem?_setIfInBounds_ne (fun e=>hn (by simp [abox,e]))]
 ·simp only [abox,List.mem_singleton] at hc
  subst hc
  exact ⟨by rw [hheap];simpa using hql,.inl (by simp [abox])⟩
 ·rw [hheap,Array.getElem?_setIfInBounds_self_of_lt hql]
section
variable {α:Type} [Inhabited α] {n:Nat} {R:Array α→List Atm} {lt:α→α→Bool} {uL uS:Value}
theorem breakPatterns_c (S:SortC Tryz.prog n R lt uL uS) (d:Array α) (a b:Nat) (hd:d.size=n) (hab:a≤b) (hb:b≤n) :
 Spec Tryz.prog 314 [lsw uL uS,nv a,nv b] (R d) fun _ A'=>∃ d',A'=R d'∧PermIn a b d d':=by
 have hl:=S.lim
 refine sp Tryz.func314 rfl Tryz.ntmps314 rfl rfl fun C=>?_
 by_cases h8:8≤b - a
 ·(repeat' first|(refine kk ?_;intros)|refine kfk ?_ ?_<;>intro hb|fail)
  rename_i bx
  refine kr ?_ (h:=P_conv _ rfl (u64_in _ (by omega)))
  (repeat' first|(refine kk ?_;intros)|refine kfk ?_ ?_<;>intro hb|fail)
  rename_i qx
  have hq:4 * ((b - a) / 4)≤b - a:=Nat.mul_div_le _ _
  have hq2:b - a < 4 * ((b - a) / 4)+4:=by omega
  obtain ⟨M,hM⟩:∃ M:Nat,M=1 <<< bitsLen (b - a):=⟨_,rfl⟩
  have hM1:1≤M:=by rw [hM,Nat.one_shiftLeft];exact Nat.two_pow_pos _
  have hM2:M≤2 * (b - a):=by rw [hM,Nat.one_shiftLeft];exact two_pow_bitsLen_le (by omega)
  rw [← hM]
  refine kr ?_ (h:=P_quo (a:=b - a) (b:=4) _ _ rfl rfl (by omega) (by omega))
  generalize hqe:(b - a) / 4=q at hq hq2
  (repeat' first|(refine kk ?_;intros)|refine kfk ?_ ?_<;>intro hb|fail)
  refine kloop (ι:=Nat × Nat × Array α) (fun x=>a+q * 2+2 - x.1) (fun x=>[(1,nv a),(3,.one (.v (.pointer (some ⟨bx,0,none⟩)))),(6,nv (b - a)),(7,.one (.v (.pointer (some ⟨qx,0,none⟩)))),(8,uv M),(9,nv x.1)]) (fun x=>xbox qx x.2.1::abox bx [.v uL,.v uS] 326::R x.2.2) (fun x=>(a+q * 2≤x.1+1∧x.1≤a+q * 2+2)∧x.2.1 < 18446744073709551616∧x.2.2.size=n∧PermIn a b d x.2.2) (a+q * 2 - 1,b - a,d) ⟨by simp only;omega,by simp only;omega,hd,permIn_refl _ _ _⟩ ?_ (hw:=kwk (h:=⟨.refl _,.refl _,.refl _,.refl _,.refl _,le_eq (by show iv _=iv _;congr 1;omega),trivial⟩))
  rintro ⟨i,X,d1⟩ ⟨⟨h1,h2⟩,h3,h4,h5⟩
  simp only at h1 h2 h3 h4 h5
  dsimp only
  (repeat' first|(refine kk ?_;intros)|refine kfk ?_ ?_<;>intro hb|fail)
  refine kr ?_ (h:=P_quo (a:=b - a) (b:=4) _ _ rfl rfl (by omega) (by omega))
  rw [hqe]
  by_cases hi:i≤a+q * 2+1
  ·(repeat' first|(refine kk ?_;intros)|refine kfk ?_ ?_<;>intro hb|fail)
   refine kcs (A1:=abox bx [.v uL,.v uS] 326::R d1) (h:=next_c qx X h3) ?_ (hA:=(List.perm_append_singleton _ _).symm)
   rintro _ _ ⟨Y,hY,rfl,rfl⟩
   (repeat' first|(refine kk ?_;intros)|refine kfk ?_ ?_<;>intro hb|fail)
   refine kr ?_ (h:=P_sub64 (a:=M) (b:=1) _ _ rfl rfl hM1 (by omega))
   refine kr ?_ (h:=P_and64 _ _ rfl rfl hY (by omega))
   have hO:Y &&& (M - 1)≤M - 1:=Nat.and_le_right
   generalize Y &&& (M - 1)=O at hO
   refine kr ?_ (h:=P_conv _ rfl (by rw [IntKind.wrap_i64];omega))
   (repeat' first|(refine kk ?_;intros)|refine kfk ?_ ?_<;>intro hb|fail)
   ·refine kcv (A1:=[_,_]) (h:=S.swap d1 i (a+(O - (b - a))) h4 (by omega) (by omega)) ?_ (hA:=List.perm_append_singleton _ _) (ha:=args2 (h1:=rfl) (h2:=by omega))
    rintro _ _ rfl
    (repeat' first|(refine kk ?_;intros)|refine kfk ?_ ?_<;>intro hb|fail)
    exact ⟨(i+1,Y,swp d1 i (a+(O - (b - a)))),by simp only;omega,⟨by simp only;omega,hY,by rw [size_swp];exact h4,permIn_trans _ _ _ _ _ h5 (swp_permIn _ _ _ _ _ (by omega) (by omega) (by omega) (by omega) (by omega))⟩,kwk⟩
   ·refine kcv (A1:=[_,_]) (h:=S.swap d1 i (a+O) h4 (by omega) (by omega)) ?_ (hA:=List.perm_append_singleton _ _) (ha:=args2 (h1:=rfl) (h2:=by omega))
    rintro _ _ rfl
    (repeat' first|(refine kk ?_;intros)|refine kfk ?_ ?_<;>intro hb|fail)
    exact ⟨(i+1,Y,swp d1 i (a+O)),by simp only;omega,⟨by simp only;omega,hY,by rw [size_swp];exact h4,permIn_trans _ _ _ _ _ h5 (swp_permIn _ _ _ _ _ (by omega) (by omega) (by omega) (by omega) (by omega))⟩,kwk⟩
  ·(repeat' first|(refine kk ?_;intros)|refine kfk ?_ ?_<;>intro hb|fail)
   exact ker0 (A'':=R d1) ⟨d1,rfl,h5⟩
 ·(repeat' first|(refine kk ?_;intros)|refine kfk ?_ ?_<;>intro hb|fail)
  exact ker0 (A'':=R d) ⟨d,rfl,permIn_refl _ _ _⟩
end
end
end
section
open Go Go.Sort
noncomputable section
theorem kcut {P:Program} {nt:Nat} {C:Cx} {Q:AQ} {f:AF} {A:List Atm} {c:Code} {k:AF→List Atm→Prop} {ι:Type} (F:ι→List (Nat × AV)) (B:ι→List Atm) (E:ι→Prop)
 (h1:AW P nt C c (asq (fun f' A'=>∃ y,E y∧Wk f' A' (fl (F y)) (B y)) Q) f A) (h2:∀ y,E y→k (fl (F y)) (B y)):AW P nt C c (asq k Q) f A:=fun g w hi=>by
 refine W_mono (h1 g w hi) ?_
 rintro e g' w' ⟨f',A',hq,hi'⟩
 cases e with
 | normal=>
  obtain ⟨y,hE,hw⟩:=hq
  exact ⟨_,_,h2 y hE,hw.inv hi'⟩
 | _=>exact ⟨f',A',hq,hi'⟩
section
variable {α:Type} [Inhabited α] {n:Nat} {R:Array α→List Atm} {lt:α→α→Bool} {uL uS:Value}
theorem pdq_c (hO:SWO lt) (S:SortC Tryz.prog n R lt uL uS) (N:Nat):∀ (d:Array α) (a b limit:Nat),b - a≤N→d.size=n→a≤b→b≤n→limit≤100→Below lt a b d→
 Spec Tryz.prog 274 [lsw uL uS,nv a,nv b,nv limit] (R d) fun v A'=>v=.tup []∧∃ d',A'=R d'∧PermIn a b d d'∧SortedIn lt a b d':=by
 induction N using Nat.strongRecOn with
 | _ N ih=>
 intro d a b limit hN hd hab hb hlim hB
 have hl:=S.lim
 refine sp Tryz.func274 rfl Tryz.ntmps274 rfl rfl fun C=>?_
 (repeat' first|(refine kk ?_;intros)|fail)
 rename_i bx
 refine kloop (ι:=(Nat × Nat × Nat) × (Bool × Bool) × Array α) (fun q=>q.1.2.1 - q.1.1) (fun q=>[(1,nv q.1.1),(2,nv q.1.2.1),(3,nv q.1.2.2),(4,.one (.v (.pointer (some ⟨bx,0,none⟩)))),(8,bv q.2.1.1),(9,bv q.2.1.2)]) (fun q=>abox bx [.v uL,.v uS] 326::R q.2.2) (fun q=>(q.1.1≤q.1.2.1∧q.1.2.1 - q.1.1≤N∧q.1.2.1≤n∧q.1.2.2≤100)∧q.2.2.size=n∧Below lt q.1.1 q.1.2.1 q.2.2∧∀ d2,PermIn q.1.1 q.1.2.1 q.2.2 d2→SortedIn lt q.1.1 q.1.2.1 d2→PermIn a b d d2∧SortedIn lt a b d2) ((a,b,limit),(true,true),d) ⟨⟨hab,hN,hb,hlim⟩,hd,hB,fun _ h1 h2=>⟨h1,h2⟩⟩ ?_
 rintro ⟨⟨a1,b1,lim⟩,⟨wb,wp⟩,d0⟩ ⟨⟨g1,g2,g3,g4⟩,h1,h2,h3⟩
 simp only at g1 g2 g3 g4 h1 h2 h3
 dsimp only
 clear hN hd hab hb hlim hB
 have hb0:b1≤d0.size:=by omega
 by_cases h12:b1 - a1≤12
 ·(repeat' first|(refine kkS [312] [] ?_;intros)|refine kfS [312] [] ?_ ?_<;>intro hb|fail)
  refine kcs (A1:=[_]) (h:=insertionSort_c S d0 a1 b1 h1 g1 g3) ?_
  rintro _ _ rfl
  (repeat' first|(refine kk ?_;intros)|fail)
  have h:=insertionSort_holds (lt:=lt) hO d0 a1 b1 g1 hb0
  exact ker0 (A'':=R _) ⟨rfl,_,rfl,h3 _ h.1 h.2⟩
 by_cases hl0:lim=0
 ·(repeat' first|(refine kkS [313] [] ?_;intros)|refine kfS [313] [] ?_ ?_<;>intro hb|fail)
  refine kcs (A1:=[_]) (h:=heapSort_c S d0 a1 b1 h1 (by omega) g3) ?_
  rintro _ _ rfl
  (repeat' first|(refine kk ?_;intros)|fail)
  have h:=heapSort_holds (lt:=lt) hO d0 a1 b1 g1 hb0
  exact ker0 (A'':=R _) ⟨rfl,_,rfl,h3 _ h.1 h.2⟩
 (repeat' first|(refine kk ?_;intros)|fail)
 refine kcut (ι:=Nat × Array α) (fun q=>[(1,nv a1),(2,nv b1),(3,nv q.1),(4,.one (.v (.pointer (some ⟨bx,0,none⟩)))),(8,bv wb),(9,bv wp),(10,nv (b1 - a1))]) (fun q=>abox bx [.v uL,.v uS] 326::R q.2) (fun q=>q.1≤100∧q.2.size=n∧PermIn a1 b1 d0 q.2) ?_ ?_
 ·cases wb with
  | true=>
   (repeat' first|(refine kk ?_;intros)|fail)
   exact ⟨(lim,d0),⟨g4,h1,permIn_refl _ _ _⟩,kwk⟩
  | false=>
   (repeat' first|(refine kkS [314] [] ?_;intros)|refine kfS [314] [] ?_ ?_<;>intro hb|fail)
   refine kcs (A1:=[_]) (h:=breakPatterns_c S d0 a1 b1 h1 g1 g3) ?_
   rintro _ _ ⟨d1,rfl,p1⟩
   (repeat' first|(refine kk ?_;intros)|fail)
   exact ⟨(lim - 1,d1),⟨by simp only;omega,by rw [p1.1];exact h1,p1⟩,kwk⟩
 rintro ⟨lim1,d1⟩ ⟨g4',k1,k2⟩
 simp only at g4' k1 k2
 dsimp only
 have hB1:=h2.perm hb0 k2
 have h3':∀ d2,PermIn a1 b1 d1 d2→SortedIn lt a1 b1 d2→PermIn a b d d2∧SortedIn lt a b d2:=fun d2 x y=>h3 d2 (permIn_trans _ _ _ _ _ k2 x) y
 clear k2 h2 g4 h1 hb0 h3
 (repeat' first|(refine kkS [315] [] ?_;intros)|refine kfS [315] [] ?_ ?_<;>intro hb|fail)
 refine kcs (A1:=[_]) (h:=choosePivot_c S d1 a1 b1 k1 (by omega) g3) ?_
 rintro _ _ ⟨x,hh,rfl,rfl,⟨x1,x2⟩,hh2⟩
 (repeat' first|(refine kk ?_;intros)|fail)
 refine kcut (ι:=Nat × Nat × Array α) (fun q=>[(1,nv a1),(2,nv b1),(3,nv lim1),(4,.one (.v (.pointer (some ⟨bx,0,none⟩)))),(8,bv wb),(9,bv wp),(10,nv (b1 - a1)),(11,nv q.1),(12,nv q.2.1)]) (fun q=>abox bx [.v uL,.v uS] 326::R q.2.2) (fun q=>(a1≤q.1∧q.1 < b1)∧q.2.1≤2∧q.2.2.size=n∧PermIn a1 b1 d1 q.2.2) ?_ ?_
 ·(repeat' first|(refine kkS [316] [] ?_;intros)|refine kfS [316] [] ?_ ?_<;>intro hb|fail)
  ·refine kcs (A1:=[_]) (h:=reverseRange_c S d1 a1 b1 k1 (by omega) g3) ?_
   rintro _ _ rfl
   have p1:=reverseRange_holds d1 a1 b1 g1 (by omega)
   generalize reverseRange d1 a1 b1=d2 at p1 ⊢
   (repeat' first|(refine kk ?_;intros)|fail)
   exact ⟨((b1 - 1) - (x - a1),1,d2),⟨by simp only;omega,by simp only;omega,by rw [p1.1];exact k1,p1⟩,kwk⟩
  ·exact ⟨(x,hh,d1),⟨⟨x1,x2⟩,hh2,k1,permIn_refl _ _ _⟩,kwk⟩
 clear x1 x2 hh2
 rintro ⟨piv,h2,d2⟩ ⟨⟨x1,x2⟩,hh2,k2,p2⟩
 simp only at x1 x2 hh2 k2 p2
 dsimp only
 have hB2:=hB1.perm (by omega) p2
 have h4:∀ d',PermIn a1 b1 d2 d'→SortedIn lt a1 b1 d'→PermIn a b d d'∧SortedIn lt a b d':=fun d' x y=>h3' d' (permIn_trans _ _ _ _ _ p2 x) y
 clear p2 k1 hB1 h3'
 clear d1
 refine AW_seq ?_
 refine kcut (ι:=Array α) (fun q=>[(1,nv a1),(2,nv b1),(3,nv lim1),(4,.one (.v (.pointer (some ⟨bx,0,none⟩)))),(8,bv wb),(9,bv wp),(10,nv (b1 - a1)),(11,nv piv)]) (fun q=>abox bx [.v uL,.v uS] 326::R q) (fun q=>q.size=n∧PermIn a1 b1 d2 q) ?_ ?_
 ·have skip:∀ f A,Wk f A (fl [(1,nv a1),(2,nv b1),(3,nv lim1),(4,.one (.v (.pointer (some ⟨bx,0,none⟩)))),(8,bv wb),(9,bv wp),(10,nv (b1 - a1)),(11,nv piv)]) (abox bx [.v uL,.v uS] 326::R d2)→∃ y,(y.size=n∧PermIn a1 b1 d2 y)∧Wk f A (fl [(1,nv a1),(2,nv b1),(3,nv lim1),(4,.one (.v (.pointer (some ⟨bx,0,none⟩)))),(8,bv wb),(9,bv wp),(10,nv (b1 - a1)),(11,nv piv)]) (abox bx [.v uL,.v uS] 326::R y):=fun f A h=>⟨d2,⟨k2,permIn_refl _ _ _⟩,h⟩
  cases wb with
  | false=>
   (repeat' first|(refine kk ?_;intros)|fail)
   exact skip _ _ kwk
  | true=>
   cases wp with
   | false=>
    (repeat' first|(refine kk ?_;intros)|fail)
    exact skip _ _ kwk
   | true=>
    by_cases h1e:h2=1
    ·(repeat' first|(refine kkS [317] [] ?_;intros)|refine kfS [317] [] ?_ ?_<;>intro hb|fail)
     refine kcs (A1:=[_]) (h:=partialInsertionSort_c S d2 a1 b1 k2 (by omega) g3) ?_
     rintro _ _ ⟨rfl,rfl⟩
     have p1:=partialInsertionSort_holds (lt:=lt) hO d2 a1 b1 (by omega) (by omega) hB2
     generalize partialInsertionSort lt d2 a1 b1=r at p1 ⊢
     obtain ⟨d3,ok⟩:=r
     simp only at p1
     dsimp only
     cases ok with
     | true=>
      (repeat' first|(refine kk ?_;intros)|fail)
      exact ker0 (A'':=R _) ⟨rfl,_,rfl,h4 _ p1.1 (p1.2 rfl)⟩
     | false=>
      (repeat' first|(refine kk ?_;intros)|fail)
      exact ⟨d3,⟨by rw [p1.1.1];exact k2,p1.1⟩,kwk⟩
    ·(repeat' first|(refine kk ?_;intros)|fail)
     exact skip _ _ kwk
 rintro d3 ⟨k3,p3⟩
 have hB3:=hB2.perm (by omega) p3
 have h5:∀ d',PermIn a1 b1 d3 d'→SortedIn lt a1 b1 d'→PermIn a b d d'∧SortedIn lt a b d':=fun d' x y=>h4 d' (permIn_trans _ _ _ _ _ p3 x) y
 clear p3 k2 hB2 h4
 clear d2
 refine AW_seq ?_
 refine kcut (ι:=Unit) (fun q=>[(1,nv a1),(2,nv b1),(3,nv lim1),(4,.one (.v (.pointer (some ⟨bx,0,none⟩)))),(8,bv wb),(9,bv wp),(10,nv (b1 - a1)),(11,nv piv)]) (fun q=>abox bx [.v uL,.v uS] 326::R d3) (fun _=>True) ?_ ?_
 ·by_cases ha:0 < a1
  ·(repeat' first|(refine kkS [318] [] ?_;intros)|refine kfS [318] [] ?_ ?_<;>intro hb|fail)
   refine kcvG (A1:=[_]) (h:=S.less d3 (a1 - 1) piv k3 (by omega) (by omega)) ?_
   rintro _ _ ⟨rfl,rfl⟩
   (repeat' first|(refine kkS [318] [] ?_;intros)|refine kfS [318] [] ?_ ?_<;>intro hb|fail)
   ·refine kcs (A1:=[_]) (h:=partitionEqual_c S d3 a1 b1 piv k3 (by omega) x2 g3) ?_
    rintro _ _ ⟨rfl,rfl⟩
    obtain ⟨r1,r2,r3,r4,r5⟩:=round_eq hO (partitionEqual_holds lt) ha x1 x2 (by omega) hB3 (by simpa using hb) (mid:=(partitionEqual lt d3 a1 b1 piv).1) (d4:=(partitionEqual lt d3 a1 b1 piv).2) rfl
    generalize partitionEqual lt d3 a1 b1 piv=r at r1 r2 r3 r4 r5 ⊢
    obtain ⟨mid,d4⟩:=r
    simp only at r1 r2 r3 r4 r5
    dsimp only
    (repeat' first|(refine kk ?_;intros)|fail)
    exact ⟨((mid,b1,lim1),(wb,wp),d4),by simp only;omega,⟨by simp only;omega,by simp only;omega,r4,fun d' x y=>h5 d' (r5 d' x y).1 (r5 d' x y).2⟩,kwk⟩
   ·exact ⟨(),trivial,kwk⟩
  ·(repeat' first|(refine kk ?_;intros)|fail)
   exact ⟨(),trivial,kwk⟩
 rintro _ _
 (repeat' first|(refine kkS [319] [] ?_;intros)|refine kfS [319] [] ?_ ?_<;>intro hb|fail)
 refine kcs (A1:=[_]) (h:=partition_c S d3 a1 b1 piv k3 (by omega) x2 g3) ?_
 rintro _ _ ⟨rfl,rfl⟩
 obtain ⟨r1,r2,r3,r4,r5,r6,r7⟩:=round_part hO (partition_holds lt) x1 x2 (by omega) hB3 (mid:=(partition lt d3 a1 b1 piv).1) (ap:=(partition lt d3 a1 b1 piv).2.1) (d4:=(partition lt d3 a1 b1 piv).2.2) rfl
 generalize partition lt d3 a1 b1 piv=r at r1 r2 r3 r4 r5 r6 r7 ⊢
 obtain ⟨mid,ap,d4⟩:=r
 simp only at r1 r2 r3 r4 r5 r6 r7
 dsimp only
 have k4:d4.size=n:=r3.trans k3
 (repeat' first|(refine kk ?_;intros)|fail)
 refine kr ?_ (h:=P_quo (a:=b1 - a1) (b:=8) _ _ rfl rfl (by omega) (by omega))
 generalize (b1 - a1) / 8=bal
 by_cases hside:mid - a1 < b1 - mid
 ·(repeat' first|(refine kkS [274] [] ?_;intros)|refine kfS [274] [] ?_ ?_<;>intro hb|fail)
  refine kcs (A1:=[_]) (h:=ih (mid - a1) (by omega) d4 a1 mid lim1 (Nat.le_refl _) k4 r1 (by omega) g4' r4) ?_
  rintro _ _ ⟨_,d5,rfl,q1,q2⟩
  obtain ⟨s1,s2⟩:=r6 d5 q1 q2
  (repeat' first|(refine kk ?_;intros)|fail)
  exact ⟨((mid+1,b1,lim1),(_,ap),d5),by simp only;omega,⟨by simp only;omega,by rw [q1.1];exact k4,s1,fun d' x y=>h5 d' (s2 d' x y).1 (s2 d' x y).2⟩,kwk⟩
 ·(repeat' first|(refine kkS [274] [] ?_;intros)|refine kfS [274] [] ?_ ?_<;>intro hb|fail)
  refine kcs (A1:=[_]) (h:=ih (b1 - (mid+1)) (by omega) d4 (mid+1) b1 lim1 (Nat.le_refl _) k4 (by omega) g3 g4' r5) ?_
  rintro _ _ ⟨_,d5,rfl,q1,q2⟩
  obtain ⟨s1,s2⟩:=r7 d5 q1 q2
  (repeat' first|(refine kk ?_;intros)|fail)
  exact ⟨((a1,mid,lim1),(_,ap),d5),by simp only;omega,⟨by simp only;omega,by rw [q1.1];exact k4,s1,fun d' x y=>h5 d' (s2 d' x y).1 (s2 d' x y).2⟩,kwk⟩
end
end
end
end Go.Proofs.YtejkllmoofdpjaaGreat
