/- Parts of the proof: V07 V08 V09 V10 V40. -/
import Derived.Test.YtejkllmoofdpjaaGreatD10
namespace Go.Proofs.YtejkllmoofdpjaaGreat
open Go
set_option linter.all false
set_option maxRecDepth 100000
set_option maxHeartbeats 4000000
noncomputable section
abbrev fv (g:Nat) (cap:List Value):AV:=.one (.v (.func (.func g) #[] cap.toArray))
section
variable {g:Nat} {cap:List Value} [FnF Tryz.prog g]
theorem eachVar_c (hc:cap.all Value.oneCell'=true) (I:List Nat→List Atm→Prop):∀ (t:T) (l:List Nat) (A:List Atm),(∀ l v A,t.Occ v→I l A→Spec Tryz.prog g (nv v::capA cap) A fun _ A'=>I (l++[v]) A')→I l A→
 Spec Tryz.prog 209 [vT t,fv g cap] A fun _ A'=>I (l++t.vars) A'
 | .var n,l,A,hg,h0=>by
  refine sp Tryz.func209 rfl Tryz.ntmps209 rfl rfl fun C=>?_
  (repeat' first|(refine kk ?_;intros)|refine kfk ?_ ?_<;>intro hb|fail)
  refine kcl (A1:=[_]) (h:=hg l n A rfl h0) ?_ (h1:=hc)
  intro v A' h'
  (repeat' first|(refine kk ?_;intros)|refine kfk ?_ ?_<;>intro hb|fail)
  exact ker0 h'
 | .pair a b,l,A,hg,h0=>by
  have i1:=eachVar_c hc I a l A (fun l v A hv=>hg l v A (.inl hv)) h0
  have i2:=fun A' h'=>eachVar_c hc I b (l++a.vars) A' (fun l v A hv=>hg l v A (.inr hv)) h'
  refine sp Tryz.func209 rfl Tryz.ntmps209 rfl rfl fun C=>?_
  (repeat' first|(refine kk ?_;intros)|refine kfk ?_ ?_<;>intro hb|fail)
  refine kcs (A1:=[_]) (h:=i1) ?_
  intro v A' h'
  (repeat' first|(refine kk ?_;intros)|refine kfk ?_ ?_<;>intro hb|fail)
  refine kcs (A1:=[_]) (h:=i2 A' h') ?_
  intro v A'' h''
  (repeat' first|(refine kk ?_;intros)|refine kfk ?_ ?_<;>intro hb|fail)
  exact ker0 (by rw [T.vars,← List.append_assoc];exact h'')
 | .nil,l,A,hg,h0=>by
  refine sp Tryz.func209 rfl Tryz.ntmps209 rfl rfl fun C=>?_
  (repeat' first|(refine kk ?_;intros)|refine kfk ?_ ?_<;>intro hb|fail)
  exact ker0 (by show I (l++[]) A;rw [List.append_nil];exact h0)
 | .sym _,l,A,hg,h0=>by
  refine sp Tryz.func209 rfl Tryz.ntmps209 rfl rfl fun C=>?_
  (repeat' first|(refine kk ?_;intros)|refine kfk ?_ ?_<;>intro hb|fail)
  exact ker0 (by show I (l++[]) A;rw [List.append_nil];exact h0)
 | .num _,l,A,hg,h0=>by
  refine sp Tryz.func209 rfl Tryz.ntmps209 rfl rfl fun C=>?_
  (repeat' first|(refine kk ?_;intros)|refine kfk ?_ ?_<;>intro hb|fail)
  exact ker0 (by show I (l++[]) A;rw [List.append_nil];exact h0)
theorem mapVars_c (hc:cap.all Value.oneCell'=true) (J:List Atm→Prop) (φ:Nat→T) (ok:Nat→Bool):∀ (t:T) (A:List Atm),(∀ v A,t.Occ v→J A→Spec Tryz.prog g (nv v::capA cap) A fun u A'=>u=.tup [vT (φ v),bv (ok v)]∧J A')→J A→
 Spec Tryz.prog 260 [vT t,fv g cap] A fun u A'=>u=vT (t.sub fun v=>if ok v=true then φ v else .var v)∧J A'
 | .var n,A,hg,h0=>by
  refine sp Tryz.func260 rfl Tryz.ntmps260 rfl rfl fun C=>?_
  (repeat' first|(refine kk ?_;intros)|refine kfk ?_ ?_<;>intro hb|fail)
  refine kcl (A1:=[_,_]) (h:=hg n A rfl h0) ?_ (h1:=hc)
  rintro v A' ⟨rfl,h'⟩
  (repeat' first|(refine kk ?_;intros)|refine kfk ?_ ?_<;>intro hb|fail)
  ·refine kerC _ ⟨rfl,h'⟩ ?_
   show (AV.agg _).le (vT (if ok n=true then φ n else .var n))
   rw [if_pos hb]
   exact .refl _
  ·refine kerC _ ⟨rfl,h'⟩ ?_
   show (AV.agg _).le (vT (if ok n=true then φ n else .var n))
   rw [if_neg (by simp [hb])]
   exact .refl _
 | .pair a b,A,hg,h0=>by
  have i1:=mapVars_c hc J φ ok a A (fun v A hv=>hg v A (.inl hv)) h0
  have i2:=fun A' h'=>mapVars_c hc J φ ok b A' (fun v A hv=>hg v A (.inr hv)) h'
  refine sp Tryz.func260 rfl Tryz.ntmps260 rfl rfl fun C=>?_
  (repeat' first|(refine kkn ?_;intros)|refine kfk ?_ ?_<;>intro hb|fail)
  refine kmix 14 [0,1,2,3,4,6,7,8,9,10] [5,11,12,13] _ ?_ (hB:=Has.two)
  (repeat (refine kkc ?_))
  refine kacs (A1:=[_,_]) (h:=i1) ?_
  rintro v A' ⟨rfl,h'⟩
  refine ⟨Has.two,?_⟩
  refine kacs (A1:=[_,_]) (h:=i2 A' h') ?_
  rintro v A'' ⟨rfl,h''⟩
  refine ⟨Has.two,?_⟩
  (repeat (refine kkc ?_))
  (repeat' first|(refine kk ?_;intros)|refine kfk ?_ ?_<;>intro hb|fail)
  refine kerC _ ⟨rfl,h''⟩ ?_
  exact .refl _
 | .nil,A,hg,h0=>by
  refine sp Tryz.func260 rfl Tryz.ntmps260 rfl rfl fun C=>?_
  (repeat' first|(refine kk ?_;intros)|refine kfk ?_ ?_<;>intro hb|fail)
  exact kerC _ ⟨rfl,h0⟩ (.refl _)
 | .sym _,A,hg,h0=>by
  refine sp Tryz.func260 rfl Tryz.ntmps260 rfl rfl fun C=>?_
  (repeat' first|(refine kk ?_;intros)|refine kfk ?_ ?_<;>intro hb|fail)
  exact kerC _ ⟨rfl,h0⟩ (.refl _)
 | .num _,A,hg,h0=>by
  refine sp Tryz.func260 rfl Tryz.ntmps260 rfl rfl fun C=>?_
  (repeat' first|(refine kk ?_;intros)|refine kfk ?_ ?_<;>intro hb|fail)
  exact kerC _ ⟨rfl,h0⟩ (.refl _)
def T.wgt (f:Nat→Nat):T→Nat
 | .var n=>f n
 | .pair a b=>1+a.wgt f+b.wgt f
 | _=>1
theorem wgt_pos {f:Nat→Nat} (hf:∀ v,1≤f v) (t:T):1≤t.wgt f:=by cases t<;>simp [T.wgt]<;>first|omega|exact hf _
theorem wgt_big {a b:Nat} (h:(5000:Int) < min (a:Int) 5001):min (a:Int) 5001=min ((1+a+b:Nat):Int) 5001:=by omega
theorem wgt_small {a b:Nat} (h:¬ (5000:Int) < min (a:Int) 5001):min (1+min (a:Int) 5001+min (b:Int) 5001) 5001=min ((1+a+b:Nat):Int) 5001:=by omega
theorem sizeWith_c (hc:cap.all Value.oneCell'=true) (J:List Atm→Prop) (sz:Nat→Nat) (hs:∀ v,1≤sz v∧sz v≤1000000000):∀ (t:T) (A:List Atm),(∀ v A,t.Occ v→J A→Spec Tryz.prog g (nv v::capA cap) A fun u A'=>u=nv (sz v)∧J A')→J A→
 Spec Tryz.prog 296 [vT t,fv g cap] A fun u A'=>u=iv (min (t.wgt sz:Nat) 5001)∧J A'
 | .var n,A,hg,h0=>by
  refine sp Tryz.func296 rfl Tryz.ntmps296 rfl rfl fun C=>?_
  (repeat' first|(refine kk ?_;intros)|refine kfk ?_ ?_<;>intro hb|fail)
  refine kcl (A1:=[_]) (h:=hg n A rfl h0) ?_ (h1:=hc)
  rintro v A' ⟨rfl,h'⟩
  (repeat' first|(refine kk ?_;intros)|refine kfk ?_ ?_<;>intro hb|fail)
  exact ker1 _ ⟨rfl,h'⟩
 | .pair a b,A,hg,h0=>by
  have i1:=sizeWith_c hc J sz hs a A (fun v A hv=>hg v A (.inl hv)) h0
  have i2:=fun A' h'=>sizeWith_c hc J sz hs b A' (fun v A hv=>hg v A (.inr hv)) h'
  have p1:=wgt_pos (fun v=>(hs v).1) a
  have p2:=wgt_pos (fun v=>(hs v).1) b
  refine sp Tryz.func296 rfl Tryz.ntmps296 rfl rfl fun C=>?_
  (repeat' first|(refine kk ?_;intros)|refine kfk ?_ ?_<;>intro hb|fail)
  refine kcs (A1:=[_]) (h:=i1) ?_
  rintro v A' ⟨rfl,h'⟩
  (repeat' first|(refine kk ?_;intros)|refine kfk ?_ ?_<;>intro hb|fail)
  ·refine ker1 _ ⟨rfl,h'⟩ (hle:=le_eq ?_)
   rw [T.wgt,wgt_big hb]
  ·refine kcs (A1:=[_]) (h:=i2 A' h') ?_
   rintro v A' ⟨rfl,h'⟩
   (repeat' first|(refine kk ?_;intros)|refine kfk ?_ ?_<;>intro hb|fail)
   refine ker1 _ ⟨rfl,h'⟩ (hle:=le_eq ?_)
   rw [T.wgt,wgt_small hb]
 | .nil,A,hg,h0=>by
  refine sp Tryz.func296 rfl Tryz.ntmps296 rfl rfl fun C=>?_
  (repeat' first|(refine kk ?_;intros)|refine kfk ?_ ?_<;>intro hb|fail)
  exact ker1 _ ⟨rfl,h0⟩
 | .sym _,A,hg,h0=>by
  refine sp Tryz.func296 rfl Tryz.ntmps296 rfl rfl fun C=>?_
  (repeat' first|(refine kk ?_;intros)|refine kfk ?_ ?_<;>intro hb|fail)
  exact ker1 _ ⟨rfl,h0⟩
 | .num _,A,hg,h0=>by
  refine sp Tryz.func296 rfl Tryz.ntmps296 rfl rfl fun C=>?_
  (repeat' first|(refine kk ?_;intros)|refine kfk ?_ ?_<;>intro hb|fail)
  exact ker1 _ ⟨rfl,h0⟩
end
end
noncomputable section
section
variable {P:Program} {f:AF} {A:List Atm} {d:Option Tmp} {ty:TypeId} {pos:String} {aft:Array Edge} {gg:Option (Nat × Bool)}
theorem P_shr1 {xt yt:TypeId} (x y:Operand) {n:Nat} (hx:eva f x=.one (.v (.int .u64 n))) (hy:eva f y=.one (.v (.int .u64 1))):PuO P f A ⟨d,.binOp .shr xt x y yt,ty,pos,aft,gg⟩ (.one (.v (.int .u64 ((n / 2:Nat):Int)))):=
 P_ex2 x y rfl hx hy rfl fun _ r h1 h2=>by
  simp only [execOp,h1,h2,eqGuard,binOp,Op.shift]
  simp [runC_pure,IntKind.bits,Int.fdiv_eq_ediv]
end
instance:CnvF Tryz.prog 3 323 .u64:=⟨⟨_,Tryz.underlying3⟩,Tryz.underlying323⟩
instance:CnvF Tryz.prog 323 3 .i64:=⟨⟨_,Tryz.underlying323⟩,Tryz.underlying3⟩
theorem wrap_u64 {n:Nat} (h:n≤9223372036854775807):IntKind.u64.wrap (n:Int)=n:=by
 simp only [IntKind.wrap,IntKind.signed,IntKind.bits]
 simp;omega
theorem Search_c {g:Nat} {cap:List Value} [FnF Tryz.prog g] (hc:cap.all Value.oneCell'=true) (A:List Atm) (n:Nat) (p:Nat→Bool) (hn:n≤4611686018427387904) (hg:∀ i,i < n→Spec Tryz.prog g (nv i::capA cap) A fun u A'=>u=bv (p i)∧A'=A) (mono:∀ i j,i≤j→j < n→p i=true→p j=true) :
 Spec Tryz.prog 284 [nv n,fv g cap] A fun u A'=>(∃ i,u=nv i∧i≤n∧(∀ j,j < i→p j=false)∧(i < n→p i=true))∧A'=A:=by
 refine sp Tryz.func284 rfl Tryz.ntmps284 rfl rfl fun C=>?_
 (repeat' first|(refine kk ?_;intros)|refine kfk ?_ ?_<;>intro hb|fail)
 refine kloop (ι:=Nat × Nat) (fun q=>q.2 - q.1) (fun q=>[(1,fv g cap),(5,nv q.1),(6,nv q.2)]) (fun _=>A) (fun q=>q.1≤q.2∧q.2≤n∧(∀ j,j < q.1→p j=false)∧(q.2 < n→p q.2=true)) (0,n) ⟨Nat.zero_le _,Nat.le_refl _,by simp,by simp⟩ ?_
 rintro ⟨i,j⟩ ⟨h1,h2,h3,h4⟩
 simp only at h1 h2 h3 h4
 by_cases hij:i < j
 ·(repeat' first|(refine kk ?_;intros)|refine kfk ?_ ?_<;>intro hb|fail)
  refine kr ?_ (h:=P_conv _ rfl (wrap_u64 (n:=i+j) (by omega)))
  refine kr ?_ (h:=P_shr1 _ _ rfl rfl)
  refine kr ?_ (h:=P_conv (n:=(((i+j) / 2:Nat):Int)) _ rfl (by rw [IntKind.wrap_i64];omega))
  (repeat' first|(refine kk ?_;intros)|refine kfk ?_ ?_<;>intro hb|fail)
  refine kcl (A1:=[]) (B:=A) (h:=hg ((i+j) / 2) (by omega)) ?_ (h1:=hc)
  rintro v A' ⟨rfl,rfl⟩
  (repeat' first|(refine kk ?_;intros)|refine kfk ?_ ?_<;>intro hb|fail)
  ·refine ⟨((i+j) / 2+1,j),by simp only;omega,⟨by simp only;omega,h2,fun k hk=>?_,h4⟩,kwk⟩
   cases hpk:p k with
   | false=>rfl
   | true=>have:=mono k ((i+j) / 2) (by simp only at hk;omega) (by omega) hpk;rw [hb] at this;cases this
  ·refine ⟨(i,(i+j) / 2),by simp only;omega,⟨by simp only;omega,by simp only;omega,h3,fun _=>hb⟩,kwk⟩
 ·(repeat' first|(refine kk ?_;intros)|refine kfk ?_ ?_<;>intro hb|fail)
  obtain rfl:i=j:=by omega
  exact ker1 _ ⟨⟨i,rfl,h2,h3,h4⟩,rfl⟩
def fI:Sb→Nat→Int
 | [],_=>-1
 | b::s,v=>if b.1=v then 0 else if fI s v < 0 then -1 else fI s v+1
theorem fI_none {s:Sb} {v:Nat} (h:∀ b∈s,b.1≠v):fI s v=-1:=by
 induction s with
 | nil=>rfl
 | cons b s ih=>
  unfold fI
  rw [if_neg (h b (by simp)),ih fun c hc=>h c (by simp [hc])];rfl
theorem fI_at {s:Sb} {v:Nat}:∀ {i:Nat} {b:Nat × T},Asc s→s[i]?=some b→b.1=v→fI s v=i:=by
 induction s with
 | nil=>intro i b _ h;simp at h
 | cons c s ih=>
  intro i b ha hi hb
  obtain ⟨h1,h2⟩:=List.pairwise_cons.1 ha
  cases i with
  | zero=>simp at hi;subst hi;unfold fI;rw [if_pos hb];rfl
  | succ i=>
   have hi':s[i]?=some b:=by simpa using hi
   have:=h1 b (List.mem_of_getElem? hi')
   have e:=ih h2 hi' hb
   unfold fI
   rw [if_neg (by omega),e]
   simp only [Int.natCast_add]
   rw [if_neg (by omega)];rfl
theorem fI_spec {s:Sb} (ha:Asc s) (v:Nat):(fI s v=-1∧getS s v=none)∨∃ (i:Nat) (t:T),fI s v=i∧s[i]?=some (v,t)∧getS s v=some t:=by
 cases hg:getS s v with
 | none=>
  left
  refine ⟨fI_none fun b hb e=>?_,rfl⟩
  have:=getS_at ha (show (b.1,b.2)∈s from hb)
  rw [e,hg] at this;cases this
 | some t=>
  right
  obtain ⟨i,hi⟩:=List.getElem?_of_mem (getS_in hg)
  exact ⟨i,t,fI_at ha hi rfl,hi,rfl⟩
theorem find1_c {s:Sb} {v:Nat} {b1 b2:Nat} (i:Nat) (hi:i < s.length) :
 Spec Tryz.prog 285 (nv i::capA [.pointer (some ⟨b1,0,none⟩),.pointer (some ⟨b2,0,none⟩)]) [abox b2 [.v (.int .i64 v)] 3,abox b1 [.s 5 ((s.map toB).map encB)] 48] fun u A'=>u=bv (decide (∀ b,s[i]?=some b→v≤b.1))∧A'=[abox b2 [.v (.int .i64 v)] 3,abox b1 [.s 5 ((s.map toB).map encB)] 48]:=by
 obtain ⟨b,hb⟩:∃ b,s[i]?=some b:=⟨s[i],List.getElem?_eq_getElem hi⟩
 have hr:((s.map toB).map encB)[i]?=some (encB (toB b)):=by simp [hb]
 have e:decide (∀ c,s[i]?=some c→v≤c.1)=decide ((v:Int)≤b.1):=by
  rw [hb];simp
 refine sp Tryz.func285 rfl Tryz.ntmps285 rfl rfl fun C=>?_
 (repeat' first|(refine kk ?_;intros)|refine kfk ?_ ?_<;>intro hb|fail)
 exact ker1 _ ⟨by rw [e],rfl⟩
instance find_c:Con2 Tryz.prog 249 Sb Nat vS nv (fun s v=>iv (fI s v)) (fun s _=>Asc s∧Lng s.length):=⟨fun s v ⟨ha,hl⟩=>by
 have hlen:((s.map toB).map encB).length=s.length:=by simp
 refine pu Tryz.func249 rfl Tryz.ntmps249 rfl rfl fun C=>?_
 (repeat' first|(refine kk ?_;intros)|refine kfk ?_ ?_<;>intro hb|fail)
 refine kcs (A1:=[]) (h:=Search_c (g:=285) (cap:=[.pointer (some ⟨_,0,none⟩),.pointer (some ⟨_,0,none⟩)]) (by rfl) [abox _ [.v (.int .i64 v)] 3,abox _ [.s 5 ((s.map toB).map encB)] 48] s.length (fun i=>decide (∀ b,s[i]?=some b→v≤b.1)) (by omega) (fun i hi=>find1_c i hi) ?_) ?_
 ·intro i j hij hj h
  simp only [decide_eq_true_eq] at h ⊢
  intro b hb
  obtain ⟨c,hc⟩:∃ c,s[i]?=some c:=⟨s[i],List.getElem?_eq_getElem (by omega)⟩
  have:=h c hc
  rcases Nat.eq_or_lt_of_le hij with rfl|hlt
  ·rw [hc] at hb;cases hb;exact this
  ·have:=ha.lt hc hb hlt;omega
 rintro u A' ⟨⟨i,rfl,h1,h2,h3⟩,rfl⟩
 simp only [decide_eq_true_eq,decide_eq_false_iff_not] at h2 h3
 by_cases hi:i < s.length
 ·obtain ⟨b,hx⟩:∃ b,s[i]?=some b:=⟨s[i],List.getElem?_eq_getElem hi⟩
  have hr:((s.map toB).map encB)[i]?=some (encB (toB b)):=by simp [hx]
  have h3:=h3 hi b hx
  (repeat' first|(refine kk ?_;intros)|refine kfk ?_ ?_<;>intro hb|fail)
  ·refine kret ?_
   rw [fI_at ha hx (by simp only at hb;omega)]
  ·refine kret ?_
   rw [fI_none]
   intro c hc e
   obtain ⟨j,hj⟩:=List.getElem?_of_mem hc
   simp only at hb
   rcases Nat.lt_trichotomy j i with hji|hji|hji
   ·exact h2 j hji fun d hd=>by rw [hj] at hd;cases hd;omega
   ·subst hji;rw [hx] at hj;cases hj;omega
   ·have:=ha.lt hx hj hji;omega
 ·obtain rfl:i=s.length:=by omega
  (repeat' first|(refine kk ?_;intros)|refine kfk ?_ ?_<;>intro hb|fail)
  refine kret ?_
  rw [fI_none]
  intro c hc e
  obtain ⟨j,hj⟩:=List.getElem?_of_mem hc
  exact h2 j (List.getElem?_eq_some_iff.1 hj).1 fun d hd=>by rw [hj] at hd;cases hd;omega⟩
end
noncomputable section
def upI {α:Type} (f:Nat→Option α):Int→Option α:=fun i=>if 0≤i then f i.toNat else none
def putN {α:Type} (f:Nat→Option α) (v:Nat) (x:α):Nat→Option α:=fun w=>if w=v then some x else f w
theorem upI_nat {α:Type} {f:Nat→Option α} (v:Nat):upI f (v:Int)=f v:=by simp [upI]
theorem upI_put {α:Type} {f:Nat→Option α} {v:Nat} {x:α}:cput (upI f) (v:Int) x=upI (putN f v x):=by
 funext i
 unfold cput upI putN
 by_cases h:i=(v:Int)
 ·subst h;simp
 ·rw [if_neg h]
  split
  ·rw [if_neg (by omega)]
  ·rfl
theorem putN_same {α:Type} {f:Nat→Option α} {v:Nat} {x:α}:putN f v x v=some x:=by simp [putN]
theorem putN_at {α:Type} {f:Nat→Option α} {v w:Nat} {x:α}:putN f v x w=if w=v then some x else f w:=rfl
section
variable {P:Program} {n:Nat} {C:Cx} {ops:Array Oper} {K:AF→List Atm→Prop} {rest:List Oper} {f:AF} {A:List Atm} {d:Nat} {dd:Option Tmp} {ty:TypeId} {pos:String} {aft:Array Edge} {x1 x2 x3:Operand} {t e kt:TypeId} {α:Type} {enc:α→AV}
theorem kmuN [G:MapF P t kt e] [I:KeyF P kt Int kvI] (i:Nat) {b:Nat} {m:Nat} {c:Nat→Option α} {v:α} (k:AO P n C ops K rest f (A.set i (amap kvI b (gm enc (upI (putN c m v)))))) (hx:eva f x1=.one (.v (.map (some b))):=by exact rfl) (hi:A[i]?=some (amap kvI b (gm enc (upI c))):=by exact rfl) (hy:eva f x2=nv m:=by exact rfl) (hz:eva f x3=enc v:=by exact rfl) :
 AO P n C ops K (⟨none,.mapUpdate t x1 x2 x3,ty,pos,aft,none⟩::rest) f A:=AO_o rfl rfl (O_update (ka:=iv) i x1 x2 x3 hi hx hy hz) fun v' A' ⟨h1,h2⟩=>by subst h1;subst h2;rw [gm_put,upI_put];exact k
theorem kduN [G:MapF P t kt e] [I:KeyF P kt Int kvI] {j:Nat} (i:Nat) {b:Nat} {m:Nat} {c:Nat→Option α} {v:α} (k:AD P n C ops K (j+1) f (A.set i (amap kvI b (gm enc (upI (putN c m v)))))) (ho:ops[j]?=some ⟨none,.mapUpdate t x1 x2 x3,ty,pos,aft,none⟩:=by exact rfl) (chk:oneChk ops j=true:=by decide +kernel) (hx:eva f x1=.one (.v (.map (some b))):=by exact rfl) (hi:A[i]?=some (amap kvI b (gm enc (upI c))):=by exact rfl) (hy:eva f x2=nv m:=by exact rfl) (hz:eva f x3=enc v:=by exact rfl) :
 AD P n C ops K j f A:=AD_o chk ho rfl rfl (O_update (ka:=iv) i x1 x2 x3 hi hx hy hz) fun v' A' ⟨h1,h2⟩=>by subst h1;subst h2;rw [gm_put,upI_put];exact k
end
structure CB where
 (b up sh shd co sz fu:Nat)
structure CS where
 up:Nat→Option Nat
 sh:Nat→Option T
 co:Nat→Option Nat
 sz:Nat→Option Nat
 fu:Nat→Option T
abbrev cptr (K:CB):AV:=.one (.v (.pointer (some ⟨K.b,0,none⟩)))
def shdOf (sh:Nat→Option T):Nat→Option Unit:=fun v=>(sh v).map fun _=>()
def CA (K:CB) (s:CS):List Atm:=[abox K.b [.v (.map (some K.up)),.v (.map (some K.sh)),.v (.map (some K.shd)),.v (.map (some K.co)),.v (.map (some K.sz)),.v (.map (some K.fu))] 309,
 amap kvI K.up (gm nv (upI s.up)),amap kvI K.sh (gm vT (upI s.sh)),amap kvI K.shd (gm setv (upI (shdOf s.sh))),amap kvI K.co (gm nv (upI s.co)),amap kvI K.sz (gm nv (upI s.sz)),amap kvI K.fu (gm vT (upI s.fu))]
def CS.setUp (s:CS) (up:Nat→Option Nat):CS:=⟨up,s.sh,s.co,s.sz,s.fu⟩
theorem root_c (K:CB) (s:CS) (hd:Desc s.up) (hm:Met s.up) (v:Nat) :
 Spec Tryz.prog 219 [cptr K,nv v] (CA K s) fun r A'=>∃ x up',r=nv x∧Up s.up v x∧More s.up up' (·=v)∧A'=CA K (s.setUp up'):=by
 refine sp Tryz.func219 rfl Tryz.ntmps219 rfl rfl fun C=>?_
 cases hv:s.up v with
 | none=>
  have e1:upI s.up (v:Int)=none:=by rw [upI_nat,hv]
  have HU:=More.new hd hm hv (up2:=putN s.up v v) fun w=>rfl
  (repeat' first|(refine kk ?_;intros)|refine kfk ?_ ?_<;>intro hb|fail)
  refine kmuN 1 ?_
  (repeat' first|(refine kk ?_;intros)|refine kfk ?_ ?_<;>intro hb|fail)
  refine kloop (ι:=Nat × (Nat→Option Nat)) (fun q=>q.1) (fun q=>[(0,cptr K),(1,nv q.1)]) (fun q=>CA K (s.setUp q.2)) (fun q=>(q.2 q.1≠none∧∀ x,Up q.2 q.1 x→Up s.up v x)∧More s.up q.2 (·=v)) (v,putN s.up v v) ⟨⟨(HU.dom v).2 (.inr rfl),fun x hx=>(HU.same v x).2 hx⟩,HU⟩ ?_
  rintro ⟨y,up⟩ ⟨⟨hy,hr⟩,hm1⟩
  simp only at hy hr hm1
  cases hyu:up y with
  | none=>exact absurd hyu hy
  | some u=>
   have f1:upI up (y:Int)=some u:=by rw [upI_nat,hyu]
   by_cases huy:u=y
   ·subst huy
    (repeat' first|(refine kk ?_;intros)|refine kfk ?_ ?_<;>intro hb|fail)
    exact ker1 _ ⟨u,up,rfl,hr u (.at_root hyu),hm1,rfl⟩
   ·have hlt:u < y:=by have:=hm1.desc y u hyu;omega
    cases huu:up u with
    | none=>exact absurd huu (hm1.met y u hyu)
    | some u'=>
     have f2:upI up (u:Int)=some u':=by rw [upI_nat,huu]
     have f3:upI (putN up y u') (y:Int)=some u':=by rw [upI_nat,putN_same]
     have hu':=hm1.desc u u' huu
     have hh:=More.half hm1.desc hm1.met hyu huy huu (up2:=putN up y u') fun w=>rfl
     (repeat' first|(refine kk ?_;intros)|refine kfk ?_ ?_<;>intro hb|fail)
     refine kduN 1 ?_
     (repeat' first|(refine kk ?_;intros)|refine kfk ?_ ?_<;>intro hb|fail)
     refine ⟨(u',putN up y u'),by simp only;omega,⟨⟨(hh.dom u').2 (.inl (hm1.met u u' huu)),fun x hx=>hr x ((hh.same y x).2 ?_)⟩,hm1.trans hh fun _=>by simp⟩,kwk⟩
     exact .step_inv putN_same hx
 | some u0=>
  have e1:upI s.up (v:Int)=some u0:=by rw [upI_nat,hv]
  have HU:More s.up s.up (·=v):=.refl hd hm fun w hw=>by rw [hw,hv];simp
  (repeat' first|(refine kk ?_;intros)|refine kfk ?_ ?_<;>intro hb|fail)
  refine kloop (ι:=Nat × (Nat→Option Nat)) (fun q=>q.1) (fun q=>[(0,cptr K),(1,nv q.1)]) (fun q=>CA K (s.setUp q.2)) (fun q=>(q.2 q.1≠none∧∀ x,Up q.2 q.1 x→Up s.up v x)∧More s.up q.2 (·=v)) (v,s.up) ⟨⟨(HU.dom v).2 (.inr rfl),fun x hx=>(HU.same v x).2 hx⟩,HU⟩ ?_
  rintro ⟨y,up⟩ ⟨⟨hy,hr⟩,hm1⟩
  simp only at hy hr hm1
  cases hyu:up y with
  | none=>exact absurd hyu hy
  | some u=>
   have f1:upI up (y:Int)=some u:=by rw [upI_nat,hyu]
   by_cases huy:u=y
   ·subst huy
    (repeat' first|(refine kk ?_;intros)|refine kfk ?_ ?_<;>intro hb|fail)
    exact ker1 _ ⟨u,up,rfl,hr u (.at_root hyu),hm1,rfl⟩
   ·have hlt:u < y:=by have:=hm1.desc y u hyu;omega
    cases huu:up u with
    | none=>exact absurd huu (hm1.met y u hyu)
    | some u'=>
     have f2:upI up (u:Int)=some u':=by rw [upI_nat,huu]
     have f3:upI (putN up y u') (y:Int)=some u':=by rw [upI_nat,putN_same]
     have hu':=hm1.desc u u' huu
     have hh:=More.half hm1.desc hm1.met hyu huy huu (up2:=putN up y u') fun w=>rfl
     (repeat' first|(refine kk ?_;intros)|refine kfk ?_ ?_<;>intro hb|fail)
     refine kduN 1 ?_
     (repeat' first|(refine kk ?_;intros)|refine kfk ?_ ?_<;>intro hb|fail)
     refine ⟨(u',putN up y u'),by simp only;omega,⟨⟨(hh.dom u').2 (.inl (hm1.met u u' huu)),fun x hx=>hr x ((hh.same y x).2 ?_)⟩,hm1.trans hh fun _=>by simp⟩,kwk⟩
     exact .step_inv putN_same hx
end
noncomputable section
theorem Step.perm {A A' A'':List Atm} {M:Nat→Prop} {w w':World} (h:Step A A' M w w') (hp:A''.Perm A'):Step A A'' M w w':=⟨h.mod,h.pre.perm hp,fun b hb=>h.new b ((oA_perm hp).subset hb)⟩
theorem Spec.back {P:Program} {g:Nat} {as1:List AV} {B R:List Atm} {Q':AV→List Atm→Prop} (h:Spec P g as1 B Q'):Spec P g as1 (B++R) fun v A'=>∃ B',Q' v B'∧A'=B'++R:=fun M w vs hp hv=>by
 refine Calls.mono (h.front (A1:=R) List.perm_append_comm M w vs hp hv) ?_
 rintro e w' ⟨u,rfl,v,A',⟨B',h1,rfl⟩,h2,h3⟩
 exact ⟨u,rfl,v,B'++R,⟨B',h1,rfl⟩,AV.grow (fun b _ hb=>hb.imp id fun h=>(oA_perm List.perm_append_comm).subset h) h2,h3.perm List.perm_append_comm⟩
section
variable {P:Program} {n:Nat} {C:Cx} {ops:Array Oper} {K:AF→List Atm→Prop} {f:AF} {A:List Atm} {d:Nat} {ty:TypeId} {pos:String} {aft:Array Edge} {i:Nat}
theorem kdcs {g:FuncId} [FnF P g] {avs:Array Operand} {tys:Array TypeId} {as1:List AV} {A1 L:List Atm} {Q':AV→List Atm→Prop} (h:Spec P g as1 L Q') (k:∀ v A',Q' v A'→AD P n C ops K (i+1) (au f d v) (A1++A')) (ho:ops[i]?=some ⟨some d,.call {callee:=.value (.func g),args:=avs,argTypes:=tys },ty,pos,aft,none⟩:=by exact rfl) (chk:oneChk ops i=true:=by decide +kernel) (hA:A.Perm (A1++L):=by exact .refl _) (hd:Nat.blt d n=true:=by exact rfl) (ha:avs.toList.map (eva f)=as1:=by exact rfl) :
 AD P n C ops K i f A:=AD_o chk ho rfl hd (O_call ha (h.front hA)) fun v A' ⟨B',h1,h2⟩=>h2▸k v B' h1
end
theorem More.had {a b:Nat→Option Nat} {N:Nat→Prop} (h:More a b N) (hN:∀ w,N w→a w≠none):More a b fun _=>False:=⟨h.same,h.desc,h.met,fun w=>by rw [h.dom,or_false];exact ⟨fun h=>h.elim id (hN w),.inl⟩⟩
abbrev pbox (b:Nat) (K:CB):Atm:=abox b [.v (.pointer (some ⟨K.b,0,none⟩))] 279
abbrev tbox (b:Nat) (t:T):Atm:=abox b (encT t.tm) 174
abbrev ibox (b:Nat) (n:Nat):Atm:=abox b [.v (.int .i64 (n:Int))] 3
abbrev bbox (b:Nat) (x:Bool):Atm:=abox b [.v (.bool x)] 4
abbrev mbox (b m:Nat):Atm:=abox b [.v (.map (some m))] 268
abbrev setA (m:Nat) (c:Nat→Option Unit):Atm:=amap kvI m (gm setv (upI c))
theorem meet_c (K:CB) (s:CS) (hd:Desc s.up) (hm:Met s.up) (t:T):Spec Tryz.prog 220 [cptr K,vT t] (CA K s) fun _ A'=>∃ up',More s.up up' (fun w=>t.Occ w)∧A'=CA K (s.setUp up'):=by
 refine sp Tryz.func220 rfl Tryz.ntmps220 rfl rfl fun C=>?_
 (repeat' first|(refine kk ?_;intros)|refine kfk ?_ ?_<;>intro hb|fail)
 refine kcs (A1:=[]) (h:=eachVar_c (g:=262) (cap:=[.pointer (some ⟨_,0,none⟩)]) (by rfl) (fun l A=>∃ up',More s.up up' (fun w=>w∈l)∧A=tbox _ t::pbox _ K::CA K (s.setUp up')) t [] _ ?_ ⟨s.up,.refl hd hm fun w hw=>by simp at hw,rfl⟩) ?_
 ·rintro l v A hv ⟨up',hu,rfl⟩
  refine sp Tryz.func262 rfl Tryz.ntmps262 rfl rfl fun C=>?_
  (repeat' first|(refine kk ?_;intros)|refine kfk ?_ ?_<;>intro hb|fail)
  refine kcs (A1:=[_,_]) (h:=root_c K (s.setUp up') hu.desc hu.met v) ?_
  rintro _ A' ⟨x,up2,rfl,h1,h2,rfl⟩
  (repeat' first|(refine kk ?_;intros)|refine kfk ?_ ?_<;>intro hb|fail)
  exact ker0 ⟨up2,hu.trans h2 fun w=>by simp,rfl⟩
 ·rintro u A' ⟨up',hu,rfl⟩
  (repeat' first|(refine kk ?_;intros)|refine kfk ?_ ?_<;>intro hb|fail)
  refine ker0 ⟨up',⟨hu.same,hu.desc,hu.met,fun w=>?_⟩,rfl⟩
  rw [hu.dom,List.nil_append,mem_vars]
def NoNew (σ:Su) (x:Nat) (seen seen':Nat→Option Unit):Prop:=∀ r,seen' r≠none→seen r≠none∨¬ (σ r).Occ x
theorem NoNew.trans {σ:Su} {x:Nat} {a b c:Nat→Option Unit} (h:NoNew σ x a b) (k:NoNew σ x b c):NoNew σ x a c:=fun r hr=>(k r hr).elim (h r) .inr
structure RchI (K:CB) (s:CS) (σ:Su) (x:Nat) (seen:Nat→Option Unit) (b4 b5 b6 b7 b9 ms:Nat) (t:T) (l:List Nat) (A:List Atm):Prop where
 ex:∃ up' fnd seen',A=bbox b9 fnd::mbox b7 ms::ibox b6 x::tbox b5 t::pbox b4 K::(CA K (s.setUp up')++[setA ms seen'])∧More s.up up' (fun _=>False)∧(fnd=true↔∃ v∈l,(σ v).Occ x)∧(fnd=false→NoNew σ x seen seen')
theorem reaches_c (K:CB) (x:Nat) (ms:Nat):∀ (N:Nat) (s:CS) (σ:Su) (seen:Nat→Option Unit) (t:T),Desc s.up→Met s.up→Known s.up s.sh→(∀ v,t.Occ v→s.up v≠none)→SemX s.up s.sh x σ→(∀ v,t.Occ v→(σ v).nodes≤N)→(∀ r,seen r≠none→(σ r).nodes≤N→¬ (σ r).Occ x)→
 Spec Tryz.prog 263 [cptr K,vT t,nv x,.one (.v (.map (some ms)))] (CA K s++[setA ms seen]) fun r A'=>∃ b up' seen',r=bv b∧A'=CA K (s.setUp up')++[setA ms seen']∧More s.up up' (fun _=>False)∧(b=true↔(t.sub σ).Occ x)∧(b=false→NoNew σ x seen seen'):=by
 intro N
 induction N using Nat.strongRecOn with
 | _ N ih=>
  intro s σ seen t hd hm hk ht hs hno hpre
  refine sp Tryz.func263 rfl Tryz.ntmps263 rfl rfl fun C=>?_
  (repeat' first|(refine kk ?_;intros)|refine kfk ?_ ?_<;>intro hb|fail)
  refine kcs (A1:=[]) (h:=eachVar_c (g:=294) (cap:=[.pointer (some ⟨_,0,none⟩),.pointer (some ⟨_,0,none⟩),.pointer (some ⟨_,0,none⟩),.pointer (some ⟨_,0,none⟩)]) (by rfl) (RchI K s σ x seen _ _ _ _ _ ms t) t [] _ ?_ ⟨s.up,false,seen,rfl,.refl hd hm fun w h=>h.elim,by simp,fun _ r hr=>.inl hr⟩) ?_
  ·rintro l v A hv ⟨up',fnd,seen',rfl,hu,hf,hn⟩
   refine sp Tryz.func294 rfl Tryz.ntmps294 rfl rfl fun C=>?_
   (repeat' first|(refine kk ?_;intros)|refine kfk ?_ ?_<;>intro hb|fail)
   refine kcs (A1:=[_,_,_,_,_]) (h:=(root_c K (s.setUp up') hu.desc hu.met v).back (R:=[setA ms seen'])) ?_
   rintro _ A' ⟨_,⟨r,up2,rfl,h1,h2,rfl⟩,rfl⟩
   have h1':Up s.up v r:=(hu.same v r).2 h1
   have hσ:σ v=σ r:=hs.cls v r h1'
   have hu2:More s.up up2 fun _=>False:=hu.trans (h2.had fun w hw=>by rw [hw];exact (hu.dom v).2 (.inl (ht v hv))) fun w=>by simp
   cases fnd with
   | true=>
    (repeat' first|(refine kk ?_;intros)|refine kfk ?_ ?_<;>intro hb|fail)
    refine ker0 ⟨up2,true,seen',rfl,hu2,⟨fun _=>?_,fun _=>rfl⟩,fun h=>(by cases h)⟩
    obtain ⟨u,h3,h4⟩:=hf.1 rfl
    exact ⟨u,by simp [h3],h4⟩
   | false=>
    have hn0:=hn rfl
    by_cases hrx:r=x
    ·(repeat' first|(refine kk ?_;intros)|refine kfk ?_ ?_<;>intro hb|fail)
     refine ker0 ⟨up2,true,seen',rfl,hu2,⟨fun _=>⟨v,by simp,?_⟩,fun _=>rfl⟩,fun h=>(by cases h)⟩
     rw [hσ,hrx,hs.own];rfl
    ·have stay:¬ (σ v).Occ x→((∃ u∈l++[v],(σ u).Occ x)↔false=true):=fun hn=>⟨fun ⟨u,h3,h4⟩=>by
      rcases List.mem_append.1 h3 with h3|h3
      ·exact hf.2 ⟨u,h3,h4⟩
      ·simp at h3;subst h3;exact absurd h4 hn,fun h=>by cases h⟩
     cases hsn:seen' r with
     | some _=>
      have f1:upI seen' (r:Int)=some ():=by rw [upI_nat,hsn]
      have hno':¬ (σ v).Occ x:=by
       rw [hσ]
       exact (hn0 r (by rw [hsn];simp)).elim (fun h=>hpre r h (by rw [← hσ];exact hno v hv)) id
      (repeat' first|(refine kk ?_;intros)|refine kfk ?_ ?_<;>intro hb|fail)
      exact ker0 ⟨up2,false,seen',rfl,hu2,(stay hno').symm,fun _=>hn0⟩
     | none=>
      have f1:upI seen' (r:Int)=none:=by rw [upI_nat,hsn]
      cases hsh:s.sh r with
      | none=>
       have f2:upI (shdOf s.sh) (r:Int)=none:=by rw [upI_nat,shdOf,hsh];rfl
       have hno':¬ (σ v).Occ x:=by rw [hσ,hs.free r h1'.root hrx hsh];exact hrx
       (repeat' first|(refine kk ?_;intros)|refine kfk ?_ ?_<;>intro hb|fail)
       exact ker0 ⟨up2,false,seen',rfl,hu2,(stay hno').symm,fun _=>hn0⟩
      | some t'=>
       have f2:upI (shdOf s.sh) (r:Int)=some ():=by rw [upI_nat,shdOf,hsh];rfl
       have f3:upI s.sh (r:Int)=some t':=by rw [upI_nat,hsh]
       obtain ⟨e,hnv⟩:=hs.shp r t' h1'.root hrx hsh
       have hnn:(σ r).nodes≤N:=by rw [← hσ];exact hno v hv
       have hp:=nodes_pos (σ r)
       have io:(t'.sub σ).Occ x↔(σ v).Occ x:=by rw [hσ,e]
       (repeat' first|(refine kk ?_;intros)|refine kfk ?_ ?_<;>intro hb|fail)
       refine kmuN 12 (v:=()) ?_
       (repeat' first|(refine kkn ?_;intros)|refine kfk ?_ ?_<;>intro hb|fail)
       refine kpar 9 ?_
       (repeat' first|(refine kk ?_;intros)|refine kfk ?_ ?_<;>intro hb|fail)
       refine kdcs (A1:=[_,_,_,_,_]) (h:=ih ((σ r).nodes - 1) (by omega) (s.setUp up2) σ (putN seen' r ()) t' hu2.desc hu2.met (hk.more hu2) (fun w hw=>(hu2.dom w).2 (.inl (hk r t' h1'.root hsh w hw))) (hs.same hu2.same) (fun w hw=>by have:=strict_nodes (σ:=σ) hw hnv;rw [← e] at this;omega) ?_) ?_
       ·intro w hw hwn
        rw [putN_at] at hw
        by_cases hwr:w=r
        ·subst hwr;omega
        ·rw [if_neg hwr] at hw
         exact (hn0 w hw).elim (fun h=>hpre w h (by omega)) id
       rintro _ A' ⟨b,up3,seen3,rfl,rfl,h3,h4,h5⟩
       (repeat' first|(refine kk ?_;intros)|refine kfk ?_ ?_<;>intro hb|fail)
       refine ker0 ⟨up3,b,seen3,rfl,hu2.trans h3 fun w=>by simp,⟨fun h=>⟨v,by simp,io.1 (h4.1 h)⟩,fun ⟨u,h6,h7⟩=>?_⟩,fun hb w hw=>?_⟩
       ·rcases List.mem_append.1 h6 with h6|h6
        ·have:=hf.2 ⟨u,h6,h7⟩;cases this
        ·simp at h6;subst h6;exact h4.2 (io.2 h7)
       ·rcases h5 hb w hw with h|h
        ·rw [putN_at] at h
         by_cases hwr:w=r
         ·subst hwr
          refine .inr fun ho=>?_
          have:=h4.2 (io.2 (by rw [hσ];exact ho))
          rw [hb] at this;cases this
         ·rw [if_neg hwr] at h;exact hn0 w h
        ·exact .inr h
  ·rintro u A' ⟨up',fnd,seen',rfl,hu,hf,hn⟩
   (repeat' first|(refine kk ?_;intros)|refine kfk ?_ ?_<;>intro hb|fail)
   refine ker1 _ ⟨fnd,up',seen',rfl,rfl,hu,hf.trans ?_,hn⟩
   rw [List.nil_append,occ_sub]
   exact ⟨fun ⟨v,h1,h2⟩=>⟨v,mem_vars.1 h1,h2⟩,fun ⟨v,h1,h2⟩=>⟨v,mem_vars.2 h1,h2⟩⟩
end
noncomputable section
def SubR (r:List BdR):Prop:=∃ s:Sb,r=s.map toB∧Sub s
theorem subR_of {s:Sb}:SubR (s.map toB)↔Sub s:=⟨fun ⟨_,h,hs⟩=>toB_inj h▸hs,fun h=>⟨s,rfl,h⟩⟩
theorem SubR.vok {r:List BdR} (h:SubR r):VOk r:=by obtain ⟨s,rfl,hs⟩:=h;exact vok_iff.2 ⟨s,rfl,hs.vok⟩
def SubB (s:Sb) (b:Nat × T):Prop:=(∀ v,b.2.Occ v→getS s v=none)∧∀ u,b.2=.var u→u < b.1
theorem sub_iff {s:Sb} (h:Vok s):Sub s↔∀ b∈s,SubB s b:=⟨fun hs b hb=>⟨hs.sok.free b hb,hs.sok.ori b hb⟩,fun hs=>⟨h,⟨h.asc,h.len,fun b hb=>(h.ok b hb).2.size,fun b hb=>(hs b hb).2,fun b hb=>(hs b hb).1⟩⟩⟩
theorem not_sub {s:Sb} (h:Vok s) {b:Nat × T} (hb:b∈s) (hn:¬ SubB s b):¬ SubR (s.map toB):=fun hs=>hn ((sub_iff h).1 (subR_of.1 hs) b hb)
theorem yes_sub {s:Sb} (h:Vok s) (hs:∀ b∈s.take s.length,SubB s b):SubR (s.map toB):=subR_of.2 ((sub_iff h).2 (by rwa [List.take_length] at hs))
theorem take_succ_all {α:Type} {l:List α} {j:Nat} {x:α} {p:α→Prop} (hj:l[j]?=some x) (h:∀ y∈l.take j,p y) (hx:p x):∀ y∈l.take (j+1),p y:=fun y hy=>by
 rw [List.take_add_one,hj] at hy
 rcases List.mem_append.1 hy with hy|hy
 ·exact h y hy
 ·simp at hy;subst hy;exact hx
abbrev sbox (b:Nat) (s:Sb):Atm:=abox b [.s 5 ((s.map toB).map encB)] 48
instance substOk_i:Con1 Tryz.prog 197 (List BdR) bsv (fun r=>bp (SubR r)) (fun r=>Lng r.length∧InB r):=⟨fun r ⟨hl,hin⟩=>by
 by_cases hv:VOk r
 ·obtain ⟨s,rfl,hs⟩:=vok_iff.1 hv
  have hlen:((s.map toB).map encB).length=s.length:=by simp
  have hls:Lng s.length:=by simpa using hl
  have ha:=hs.asc
  refine Spec.pu ?_
  refine sp Tryz.func197 rfl Tryz.ntmps197 rfl rfl fun C=>?_
  (repeat' first|(refine kk ?_;intros)|refine kfk ?_ ?_<;>intro hb|fail)
  ·exact absurd hv hb
  ·rename_i b1
   refine kfor (ι:=Unit) s (fun j _=>[(9,vS s),(1,.one (.v (.pointer (some ⟨b1,0,none⟩))))]) (fun j _=>[sbox b1 s]) (fun j _=>∀ b∈s.take j,SubB s b) () (by simp) ?_ ?_
   ·rintro j ⟨v,t⟩ _ hj hd hjl hp
    have hrow:((s.map toB).map encB)[j]?=some (encB (toB (v,t))):=by simp [hj]
    have hmem:=List.mem_of_getElem? hj
    (repeat' first|(refine kk ?_;intros)|refine kfk ?_ ?_<;>intro hb|fail)
    rename_i b4 b5
    refine kcs (A1:=[]) (h:=eachVar_c (g:=248) (cap:=[.pointer (some ⟨b1,0,none⟩),.pointer (some ⟨b5,0,none⟩)]) (by rfl) (fun l A=>∃ c:Bool,A=[bbox b5 c,abox b4 (encB (toB (v,t))) 183,sbox b1 s]∧(c=true↔∀ w∈l,getS s w=none)) t [] _ ?_ ⟨true,rfl,by simp⟩) ?_
    ·rintro l w A hw ⟨c,rfl,hc⟩
     refine sp Tryz.func248 rfl Tryz.ntmps248 rfl rfl fun C=>?_
     rcases fI_spec ha w with ⟨e1,e2⟩ | ⟨i,x,e1,_,e2⟩
     ·(repeat' first|(refine kk ?_;intros)|refine kfk ?_ ?_<;>intro hb|fail)
      refine ker0 ⟨c,rfl,hc.trans ?_⟩
      simp [List.mem_append,or_imp,forall_and,e2]
     ·(repeat' first|(refine kk ?_;intros)|refine kfk ?_ ?_<;>intro hb|fail)
      refine ker0 ⟨false,rfl,?_⟩
      simp [List.mem_append,or_imp,forall_and,e2]
    ·rintro u A' ⟨c,rfl,hc⟩
     rw [List.nil_append] at hc
     cases c with
     | false=>
      (repeat' first|(refine kk ?_;intros)|refine kfk ?_ ?_<;>intro hb|fail)
      exact ker1 _ ⟨bpF (not_sub hs hmem fun h=>absurd (hc.2 fun w hw=>h.1 w (mem_vars.1 hw)) (by simp)),rfl⟩
     | true=>
      have hfree:∀ w,t.Occ w→getS s w=none:=fun w hw=>hc.1 rfl w (mem_vars.2 hw)
      cases t with
      | var u=>
       (repeat' first|(refine kk ?_;intros)|refine kfk ?_ ?_<;>intro hb|fail)
       ·have hb:(v:Int)≤u:=hb
        exact ker1 _ ⟨bpF (not_sub hs hmem fun h=>by have:=h.2 u rfl;simp only at this;omega),rfl⟩
       ·have hb:¬ (v:Int)≤u:=hb
        exact ⟨(),take_succ_all hj hp ⟨hfree,fun w hw=>by cases hw;simp only;omega⟩,kwk⟩
      | _=>
       (repeat' first|(refine kk ?_;intros)|refine kfk ?_ ?_<;>intro hb|fail)
       exact ⟨(),take_succ_all hj hp ⟨hfree,fun w hw=>by cases hw⟩,kwk⟩
   ·intro _ hp
    (repeat' first|(refine kk ?_;intros)|refine kfk ?_ ?_<;>intro hb|fail)
    exact ker1 _ ⟨bpT (yes_sub hs hp),rfl⟩
 ·refine pu Tryz.func197 rfl Tryz.ntmps197 rfl rfl fun C=>?_
  (repeat' first|(refine kk ?_;intros)|refine kfk ?_ ?_<;>intro hb|fail)
  ·exact kret (bpF fun h=>hv h.vok)
  ·exact absurd hb hv⟩
end
end Go.Proofs.YtejkllmoofdpjaaGreat
