/- Parts of the proof: YW YR. -/
import Derived.WalkKit
import Derived.Deep.LoopGhost
import Derived.Orders
import Derived.RegionTactic
namespace Go.Proofs.YtejkllmoofdpjaaGreat
open Go
set_option linter.all false
set_option maxRecDepth 100000
set_option maxHeartbeats 4000000
abbrev FF:=Nat→Value
def upd (f:FF) (d:Nat) (v:Value):FF:=fun i=>cond (Nat.beq i d) v (f i)
def updo (f:FF):Option Nat→Value→FF
 | some d,v=>upd f d v
 | none,_=>f
def dlt:Option Nat→Nat→Bool
 | some d,n=>Nat.blt d n
 | none,_=>true
theorem upd_same (f:FF) (d:Nat) (v:Value):upd f d v d=v:=by simp [upd]
theorem upd_ne {f:FF} {d i:Nat} {v:Value} (h:i≠d):upd f d v i=f i:=by
 have:Nat.beq i d=false:=by cases hb:Nat.beq i d with|false=>rfl|true=>exact absurd (Nat.eq_of_beq_eq_true hb) h
 simp [upd,this]
structure Fr (n:Nat) (f:FF) (a:Act):Prop where
 size:a.tmps.size=n
 get:∀ i,a.tmps.getD i undef=f i
 defers:a.defers=[]
def ev (f:FF):Operand→Value
 | .tmp t=>f t
 | .const v=>v
 | .global g=>.pointer (some ⟨g,0,none⟩)
 | .func g=>.func (.func g) #[] #[]
theorem Fr.eval {n:Nat} {f:FF} {a:Act} (h:Fr n f a):a.eval=ev f:=by
 funext x
 cases x with
 | tmp t=>exact h.get t
 | const v=>rfl
 | global g=>rfl
 | func g=>rfl
theorem Fr.put {n:Nat} {f:FF} {a:Act} (h:Fr n f a) {d:Option Nat} (hd:dlt d n=true) (v:Value):Fr n (updo f d v) (a.put d v):=by
 cases d with
 | none=>exact h
 | some d=>
  have hd':d < a.tmps.size:=by rw [h.size];simpa [dlt] using hd
  refine ⟨by simp [Act.put,h.size],fun i=>?_,h.defers⟩
  simp only [Act.put,updo]
  by_cases hi:i=d
  ·subst hi
   rw [upd_same]
   simp [hd']
  ·rw [upd_ne hi,← h.get i]
   simp [Array.getElem?_setIfInBounds_ne (Ne.symm hi)]
abbrev FPost:=Exit→FF→World→Prop
def toQ (n:Nat) (Q:FPost):Exit→Act→World→Prop:=fun e a w=>∃ f,Fr n f a∧Q e f w
def W (P:Program) (n:Nat) (c:Code) (Q:FPost) (f:FF) (w:World):Prop:=∀ a,Fr n f a→c.wp P (toQ n Q) a w
def sq (k:FF→World→Prop) (Q:FPost):FPost
 | .normal,f,w=>k f w
 | e,f,w=>Q e f w
def bq (id:Nat) (Q:FPost):FPost
 | .exit id',f,w=>if id'=id then Q .normal f w else Q (.exit id') f w
 | e,f,w=>Q e f w
section
variable {Q:FPost} {f:FF} {w:World} {k:FF→World→Prop}
theorem nx (h:k f w):sq k Q .normal f w:=h
end
section
variable {P:Program} {n:Nat} {Q:FPost} {f:FF} {w:World}
theorem W_mono {c:Code} {Q':FPost} (h:W P n c Q f w) (hq:∀ e f w,Q e f w→Q' e f w):W P n c Q' f w:=
 fun a ha=>wp_mono (h a ha) fun e _ w' ⟨f',hf,q⟩=>⟨f',hf,hq e f' w' q⟩
theorem W_seq {x y:Code} (h:W P n x (sq (W P n y Q) Q) f w):W P n (.seq x y) Q f w:=by
 intro a ha
 refine wp_seq (wp_mono (h a ha) ?_)
 rintro e a' w' ⟨f',hf,hq⟩
 cases e with
 | normal=>exact hq a' hf
 | exit id=>exact ⟨f',hf,hq⟩
 | goto l=>exact ⟨f',hf,hq⟩
 | ret=>exact ⟨f',hf,hq⟩
 | panic ch=>exact ⟨f',hf,hq⟩
 | outgrown=>exact ⟨f',hf,hq⟩
theorem W_block {id:Nat} {c:Code} (h:W P n c (bq id Q) f w):W P n (.block id c) Q f w:=by
 intro a ha
 refine wp_block (wp_mono (h a ha) ?_)
 rintro e a' w' ⟨f',hf,hq⟩
 cases e with
 | exit id'=>
  by_cases hid:id'=id
  ·subst hid
   simp only [Exit.inBlock,if_true]
   simp only [bq,if_true] at hq
   exact ⟨f',hf,hq⟩
  ·simp only [Exit.inBlock,hid,if_false]
   simp only [bq,hid,if_false] at hq
   exact ⟨f',hf,hq⟩
 | normal=>exact ⟨f',hf,hq⟩
 | goto l=>exact ⟨f',hf,hq⟩
 | ret=>exact ⟨f',hf,hq⟩
 | panic ch=>exact ⟨f',hf,hq⟩
 | outgrown=>exact ⟨f',hf,hq⟩
theorem W_skip (h:Q .normal f w):W P n .skip Q f w:=fun _ ha=>wp_skip ⟨f,ha,h⟩
theorem W_exit {id:Nat} (h:Q (.exit id) f w):W P n (.exit id) Q f w:=fun _ ha=>wp_exit ⟨f,ha,h⟩
theorem W_ret (h:Q .ret f w):W P n .ret Q f w:=fun _ ha=>wp_ret ⟨f,ha,h⟩
theorem W_split {c:Operand} {x y:Code} (b:Bool) (hc:ev f c=.bool b) (ht:b=true→W P n x Q f w) (hf:b=false→W P n y Q f w):W P n (.cond c x y) Q f w:=
 fun a ha=>wp_cond_split (by rw [ha.eval];exact hc) (fun h=>ht h a ha) (fun h=>hf h a ha)
theorem W_loop {c:Code} (I:Nat→FF→World→Prop) (m:Nat) (h0:I m f w)
 (round:∀ m f w,I m f w→W P n c (sq (fun f' w'=>∃ m',m' < m∧I m' f' w') Q) f w):W P n (.loop c) Q f w:=by
 intro a ha
 refine wp_loop_ghost (fun k a w=>∃ f,Fr n f a∧I k f w) m ⟨f,ha,h0⟩ ?_
 rintro k a w ⟨f,hf,hI⟩
 refine wp_mono (round k f w hI a hf) ?_
 rintro e a' w' ⟨f',hf',hq⟩
 cases e with
 | normal=>obtain ⟨m',h1,h2⟩:=hq;exact ⟨m',h1,f',hf',h2⟩
 | exit id=>exact ⟨f',hf',hq⟩
 | goto l=>exact ⟨f',hf',hq⟩
 | ret=>exact ⟨f',hf',hq⟩
 | panic ch=>exact ⟨f',hf',hq⟩
 | outgrown=>exact ⟨f',hf',hq⟩
def OS (P:Program) (o:Oper) (r:Operand→Value) (w:World) (K:Value→World→Prop):Prop:=
 match (execOp r o).run P w with
 | .ok (.value v) w'=>K v w'
 | .ok .skip w'=>K undef w'
 | .ok (.enter g args) w'=>Calls P g args w' fun e w''=>∃ v,e=.returned v∧K v w''
 | _=>False
def OW (P:Program) (n:Nat) (o:Oper) (K:FF→World→Prop) (f:FF) (w:World):Prop:=
 dlt o.dst n=true∧OS P o (ev f) w fun v w'=>K (updo f o.dst v) w'
theorem OS.mono {o:Oper} {r:Operand→Value} {K K':Value→World→Prop} (h:OS P o r w K) (hk:∀ v w,K v w→K' v w):OS P o r w K':=by
 unfold OS at *
 generalize (execOp r o).run P w=x at *
 cases x with
 | ok m w'=>
  cases m<;>simp only at h ⊢<;>first|exact hk _ _ h|exact h|exact Calls.mono h (fun e w'' ⟨v,he,hv⟩=>⟨v,he,hk _ _ hv⟩)
 | halt x w'=>exact h
theorem OW.wp {o:Oper} {K:FF→World→Prop} (h:OW P n o K f w) (a:Act) (ha:Fr n f a) (Q:Exit→Act→World→Prop):o.wp P a w (fun a' w'=>∃ f',Fr n f' a'∧K f' w') Q:=by
 obtain ⟨hd,h⟩:=h
 unfold OS at h
 unfold Oper.wp
 rw [ha.eval]
 generalize (execOp (ev f) o).run P w=x at *
 cases x with
 | ok m w'=>
  cases m<;>simp only at h
  case value v=>exact ⟨_,ha.put hd v,h⟩
  case skip=>exact ⟨_,ha.put hd undef,h⟩
  case enter g args=>
   refine Calls.mono h fun e w'' he=>?_
   obtain ⟨v,rfl,hv⟩:=he
   exact ⟨_,ha.put hd v,hv⟩
 | halt x w'=>exact h.elim
theorem S_run {o:Oper} {r:Operand→Value} {K:Value→World→Prop} {v:Value} {w':World} (h:(execOp r o).run P w=.ok (.value v) w') (k:K v w'):OS P o r w K:=by
 unfold OS;rw [h];exact k
theorem S_skip {o:Oper} {r:Operand→Value} {K:Value→World→Prop} {w':World} (h:(execOp r o).run P w=.ok .skip w') (k:K undef w'):OS P o r w K:=by
 unfold OS;rw [h];exact k
theorem OW.mono {o:Oper} {K K':FF→World→Prop} (h:OW P n o K f w) (hk:∀ f w,K f w→K' f w):OW P n o K' f w:=⟨h.1,h.2.mono fun _ _=>hk _ _⟩
def yl (ops:Array Oper) (f:FF) (j:Nat):Option Bool:=
 match (ops[j]?).bind (·.dst) with
 | some t=>(match f t with | .bool b=>some b | _=>none)
 | none=>none
def WO (P:Program) (n:Nat) (ops:Array Oper) (K:FF→World→Prop):List Oper→FF→World→Prop
 | [],f,w=>K f w
 | o::rest,f,w=>if Region.wanted o (yl ops f)=true
  then OW P n o (WO P n ops K rest) f w else WO P n ops K rest (updo f o.dst undef) w∧dlt o.dst n=true
theorem Fr.under {a:Act} (ha:Fr n f a) {t:Nat} (ht:n≤t):f t=undef:=by
 rw [← ha.get t,Array.getD_eq_getD_getElem?,Array.getElem?_eq_none (by rw [ha.size];exact ht)];rfl
theorem Fr.yielded {ops:Array Oper} {a:Act} (ha:Fr n f a):yielded ops a.tmps=yl ops f:=by
 funext j
 unfold Go.yielded yl
 cases h:(ops[j]?).bind (·.dst) with
 | none=>rfl
 | some t=>
  simp only [Option.bind_some]
  rw [← ha.get t]
  cases ht:a.tmps[t]? with
  | none=>simp [ht,undef]
  | some v=>cases v<;>simp [ht]
theorem wpList_of_WO {ops:Array Oper} {K:FF→World→Prop} (hK:∀ f w,K f w→Q .normal f w):∀ (l:List Oper) (f:FF) (w:World) (a:Act),Fr n f a→WO P n ops K l f w→wpList P ops (toQ n Q) l a w
 | [],f,w,a,ha,h=>⟨f,ha,hK f w h⟩
 | o::rest,f,w,a,ha,h=>by
  unfold wpList
  rw [ha.yielded]
  unfold WO at h
  split
  ·rename_i hw
   rw [if_pos hw] at h
   refine .inl (Oper.wp_mono ?_ (h.wp a ha _))
   rintro a' w' ⟨f',hf',hr⟩
   exact wpList_of_WO hK rest f' w' a' hf' hr
  ·rename_i hw
   rw [if_neg hw] at h
   exact wpList_of_WO hK rest _ w _ (ha.put h.2 undef) h.1
theorem W_region {id:Nat} {l:List Oper} (h:WO P n l.toArray (fun f w=>Q .normal f w) l f w):W P n (.region id l.toArray false) Q f w:=
 fun a ha=>wp_region_list (wpList_of_WO (fun _ _ h=>h) _ f w a ha (by simpa using h))
theorem calls_W {g:FuncId} {fn:Func} {c:Code} {args:Array Value} {R:Ending→World→Prop} (hf:P.funcs[g]?=some fn) (hb:fn.body=some c) (hn:fn.ntmps=n) (ha:args.size≤n)
 (h:W P n c (fun e f' w'=>match e with
   | .normal | .ret=>∀ tmps:Array Value,(∀ i,tmps.getD i undef=f' i)→∃ v,(results fn tmps).run P w'=.ok v w'∧R (.returned v) w'
   | _=>False) (fun i=>args.getD i undef) w):Calls P g args w R:=by
 refine calls_of_wp hf hb ?_
 refine wp_mono (h {tmps:=args++Array.replicate (fn.ntmps - args.size) undef,defers:=[] } ⟨by simp [hn];omega,fun i=>?_,rfl⟩) ?_
 ·simp only [Array.getD_eq_getD_getElem?]
  by_cases hi:i < args.size
  ·rw [Array.getElem?_append_left hi]
  ·rw [Array.getElem?_append_right (by omega),Array.getElem?_eq_none (xs:=args) (by omega)]
   simp only [Option.getD_none,Array.getElem?_replicate]
   split<;>rfl
 ·rintro e a' w' ⟨f',hf',hq⟩
  cases e with
  | normal=>obtain ⟨v,h1,h2⟩:=hq a'.tmps hf'.get;exact ⟨hf'.defers,v,h1,h2⟩
  | ret=>obtain ⟨v,h1,h2⟩:=hq a'.tmps hf'.get;exact ⟨hf'.defers,v,h1,h2⟩
  | exit id=>exact hq.elim
  | goto l=>exact hq.elim
  | panic ch=>exact hq.elim
  | outgrown=>exact hq.elim
end
structure Mod (S:List Nat) (w w':World):Prop where
 os:w'.os=w.os
 tape:w'.tape=w.tape
 output:w'.output=w.output
 size:w.heap.size≤w'.heap.size
 block:∀ k,k < w.heap.size→k∉S→w'.heap[k]?=w.heap[k]?
theorem Mod.refl (S:List Nat) (w:World):Mod S w w:=⟨rfl,rfl,rfl,Nat.le_refl _,fun _ _ _=>rfl⟩
theorem Mod.trans {S:List Nat} {a b c:World} (h:Mod S a b) (k:Mod S b c):Mod S a c:=
 ⟨k.os.trans h.os,k.tape.trans h.tape,k.output.trans h.output,Nat.le_trans h.size k.size,fun i hi hS=>(k.block i (Nat.lt_of_lt_of_le hi h.size) hS).trans (h.block i hi hS)⟩
theorem Mod.mono {S S':List Nat} {a b:World} (h:Mod S a b) (hs:∀ x∈S,x∈S'):Mod S' a b:=⟨h.os,h.tape,h.output,h.size,fun i hi hS=>h.block i hi fun hm=>hS (hs i hm)⟩
theorem Mod.fresh {S S':List Nat} {a b c:World} (h:Mod S a b) (k:Mod S' b c) (hs:∀ x∈S',x∈S∨a.heap.size≤x):Mod S a c:=
 ⟨k.os.trans h.os,k.tape.trans h.tape,k.output.trans h.output,Nat.le_trans h.size k.size,fun i hi hS=>(k.block i (Nat.lt_of_lt_of_le hi h.size) fun hm=>by
  rcases hs i hm with h1|h1
  ·exact hS h1
  ·omega).trans (h.block i hi hS)⟩
theorem Mod.drew {S:List Nat} {a b:World} (h:Mod S a b):Mod S a b.drew:=⟨h.os,h.tape,h.output,h.size,h.block⟩
theorem Mod.alloc {S:List Nat} {a b:World} (h:Mod S a b) (o:Obj):Mod S a (b.alloc o):=
 h.trans ⟨rfl,rfl,rfl,by simp,fun k hk _=>RowKit.Below.heap_alloc _ _ _ hk⟩
theorem Mod.set {S:List Nat} {a b:World} (h:Mod S a b) {p:Addr} (hp:p.block∈S∨a.heap.size≤p.block) (u:Value):Mod S a (b.setCell p u):=
 h.fresh (S':=[p.block]) ⟨rfl,rfl,rfl,by simp [World.setCell],fun k _ hk=>RowKit.Below.heap_setCell _ _ _ _ (by simpa using hk)⟩ (by simpa using hp)
theorem Mod.below {a b:World} (h:Mod [] a b):RowKit.Below a.heap.size a b:=⟨h.os,h.tape,h.output,h.size,fun k hk=>h.block k hk (by simp)⟩
theorem Mod.of_below {a b:World} (h:RowKit.Below a.heap.size a b):Mod [] a b:=⟨h.os,h.tape,h.output,h.size,fun k hk _=>h.block k hk⟩
theorem Mod.cell {a b:World} (h:Mod [] a b) {p:Addr} {v:Value} (hc:a.cell? p=some v):b.cell? p=some v:=by
 have hlt:=World.block_lt_of_cell? a p hc
 rw [World.cell?_of_block (w:=a) (h.block p.block hlt (by simp))]
 exact hc
def runC (P:Program) (w:World) {α:Type}:Sem α→Option α
 | .pure a=>some a
 | .load _ a k=>match w.cell? a with
  | some v=>runC P w (k v)
  | none=>none
 | .shape r k=>if r < w.heap.size then runC P w (k (w.shape? r)) else none
 | .frozen a k=>if a.block < w.heap.size then runC P w (k (w.frozen? a)) else none
 | .getObj r k=>match w.heap[r]? with
  | some (.cells ..)=>none
  | some o=>runC P w (k o)
  | none=>none
 | .program k=>runC P w (k P)
 | .mark _ k=>runC P w k
 | _=>none
theorem runC_run {P:Program} {w:World} {α:Type}:∀ (s:Sem α) (x:α),runC P w s=some x→s.run P w=.ok x w:=by
 intro s
 induction s with
 | pure a=>intro x h;simp only [runC,Option.some.injEq] at h;subst h;rfl
 | load m a k ih=>
  intro x h
  simp only [runC] at h
  simp only [Sem.run]
  cases hc:w.cell? a with
  | none=>simp [hc] at h
  | some v=>simp only [hc] at h ⊢;exact ih v x h
 | shape r k ih=>intro x h;simp only [runC] at h;split at h;exact ih _ x h;cases h
 | frozen a k ih=>intro x h;simp only [runC] at h;split at h;exact ih _ x h;cases h
 | getObj r k ih=>
  intro x h
  simp only [runC] at h
  simp only [Sem.run]
  cases hc:w.heap[r]? with
  | none=>simp [hc] at h
  | some o=>cases o<;>simp only [hc] at h ⊢<;>first|cases h|exact ih _ x h
 | program k ih=>intro x h;simp only [runC] at h;exact ih _ x h
 | mark m k ih=>intro x h;simp only [runC] at h;exact ih x h
 | store=>intro x h;simp [runC] at h
 | new=>intro x h;simp [runC] at h
 | freeze=>intro x h;simp [runC] at h
 | setObj=>intro x h;simp [runC] at h
 | choose=>intro x h;simp [runC] at h
 | sys=>intro x h;simp [runC] at h
 | halt=>intro x h;simp [runC] at h
theorem runC_keep {P:Program} {w w':World} (hm:Mod [] w w') {α:Type}:∀ (s:Sem α) (x:α),runC P w s=some x→runC P w' s=some x:=by
 have hb:∀ k,k < w.heap.size→w'.heap[k]?=w.heap[k]?:=fun k hk=>hm.block k hk (by simp)
 intro s
 induction s with
 | pure a=>intro x h;exact h
 | load m a k ih=>
  intro x h
  simp only [runC] at h ⊢
  cases hc:w.cell? a with
  | none=>simp [hc] at h
  | some v=>simp only [hc] at h;simp only [hm.cell hc];exact ih v x h
 | shape r k ih=>
  intro x h
  simp only [runC] at h ⊢
  split at h
  ·rename_i hr
   rw [if_pos (Nat.lt_of_lt_of_le hr hm.size)]
   have:w'.shape? r=w.shape? r:=by simp only [World.shape?,hb r hr]
   rw [this];exact ih _ x h
  ·cases h
 | frozen a k ih=>
  intro x h
  simp only [runC] at h ⊢
  split at h
  ·rename_i hr
   rw [if_pos (Nat.lt_of_lt_of_le hr hm.size)]
   have:w'.frozen? a=w.frozen? a:=by simp only [World.frozen?,hb a.block hr]
   rw [this];exact ih _ x h
  ·cases h
 | getObj r k ih=>
  intro x h
  simp only [runC] at h ⊢
  cases hc:w.heap[r]? with
  | none=>simp [hc] at h
  | some o=>
   rw [hb r (Array.getElem?_eq_some_iff.1 hc).1,hc]
   cases o<;>simp only [hc] at h ⊢<;>first|cases h|exact ih _ x h
 | program k ih=>intro x h;simp only [runC] at h ⊢;exact ih _ x h
 | mark m k ih=>intro x h;simp only [runC] at h ⊢;exact ih x h
 | store=>intro x h;simp [runC] at h
 | new=>intro x h;simp [runC] at h
 | freeze=>intro x h;simp [runC] at h
 | setObj=>intro x h;simp [runC] at h
 | choose=>intro x h;simp [runC] at h
 | sys=>intro x h;simp [runC] at h
 | halt=>intro x h;simp [runC] at h
theorem runC_bind {P:Program} {w:World} {α β:Type} (f:α→Sem β):∀ (s:Sem α),runC P w (s >>= f)=(runC P w s).bind fun a=>runC P w (f a):=by
 intro s
 show runC P w (Sem.bind s f)=_
 induction s with
 | pure a=>rfl
 | load m a k ih=>simp only [Sem.bind,runC];cases w.cell? a<;>simp [ih]
 | shape r k ih=>simp only [Sem.bind,runC];split<;>simp [ih]
 | frozen a k ih=>simp only [Sem.bind,runC];split<;>simp [ih]
 | getObj r k ih=>
  simp only [Sem.bind,runC]
  cases w.heap[r]? with
  | none=>rfl
  | some o=>cases o<;>simp [ih]
 | program k ih=>simp only [Sem.bind,runC];exact ih _
 | mark m k ih=>simp only [Sem.bind,runC];exact ih
 | store=>rfl
 | new=>rfl
 | freeze=>rfl
 | setObj=>rfl
 | choose=>rfl
 | sys=>rfl
 | halt=>rfl
theorem S_read {P:Program} {w:World} {o:Oper} {r:Operand→Value} {K:Value→World→Prop} {v:Value} (h:runC P w (execOp r o)=some (.value v)) (k:K v w):OS P o r w K:=
 S_run (runC_run _ _ h) k
def bedge (e:Edge):Bool:=Region.binds .any e
def dirs (ops:Array Oper) (i:Nat):List Nat:=match ops[i]? with|some o=>(o.after.toList.filter bedge).map (·.on)|none=>[]
def bfs (ops:Array Oper):Nat→List Nat→List Nat
 | 0,l=>l
 | k+1,l=>bfs ops k (l++(l.flatMap (dirs ops))).eraseDups
def clo (ops:Array Oper) (i:Nat):List Nat:=bfs ops ops.size (dirs ops i)
def preL (ops:Array Oper) (k m i:Nat):List Nat:=(List.range i).filter fun j=>decide (k≤j) && decide (j < m) && (clo ops i).contains j
def looks (ops:Array Oper) (i:Nat):List Tmp:=match ops[i]? with|some o=>o.looksAt ops|none=>[]
def dsts (ops:Array Oper) (i:Nat):Option Tmp:=(ops[i]?).bind (·.dst)
def notSelect (o:Oper):Bool:=match o.op with | .select ..=>false | _=>true
def span (k m:Nat):List Nat:=(List.range m).filter fun j=>decide (k≤j)
def backChk (ops:Array Oper):Bool:=(List.range ops.size).all (fun i=>(dirs ops i).all fun j=>decide (j < i))
def parChk (ops:Array Oper) (n k m:Nat) (pre:List (List Nat)):Bool:=
 decide (k≤m) && decide (m≤ops.size) && backChk ops &&
 (span k m).all (fun i=>(dsts ops i).isSome && dlt (dsts ops i) n && (ops[i]?).all notSelect) &&
 (span k m).all (fun i=>(span k m).all fun j=>(i == j || dsts ops i != dsts ops j) && (!((looks ops i).any fun t=>dsts ops j == some t) || (dirs ops i).contains j)) &&
 (List.range ops.size).all (fun j=>decide (j < m) || (span k m).all fun i=>(clo ops j).contains i) &&
 (span k m).all (fun i=>(preL ops k m i).all fun j=>(dirs ops j).all fun x=>decide (x < k) || (preL ops k m i).contains x) &&
 ((span k m).map (preL ops k m) == pre)
def oneChk (ops:Array Oper) (k:Nat):Bool:=
 decide (k < ops.size) && backChk ops && (List.range ops.size).all (fun j=>decide (j≤k) || (clo ops j).contains k)
section
variable {P:Program} {ops:Array Oper} (loud:Nat→Option (Value→World→Prop))
def okd (P:Program) (ops:Array Oper) (loud:Nat→Option (Value→World→Prop)) (i:Nat) (o:Oper) (f:FF) (v:Value) (w:World):Prop:=
 if Region.wanted o (yl ops f)=true then (match loud i with|some p=>p v w|none=>runC P w (execOp (ev f) o)=some (.value v)) else v=undef
def WR (P:Program) (ops:Array Oper) (loud:Nat→Option (Value→World→Prop)) (K:FF→World→Prop) (w:World):List Nat→FF→Prop
 | [],f=>K f w
 | i::rest,f=>∀ o v,ops[i]?=some o→okd P ops loud i o f v w→WR P ops loud K w rest (updo f o.dst v)
def OwesAt (P:Program) (ops:Array Oper) (loud:Nat→Option (Value→World→Prop)) (i:Nat) (f:FF) (w:World):Prop:=
 ∀ o,ops[i]?=some o→Region.wanted o (yl ops f)=true→match loud i with
  | some p=>OS P o (ev f) w fun v w'=>p v w'∧Mod [] w w'
  | none=>∃ v,runC P w (execOp (ev f) o)=some (.value v)
def chain (ops:Array Oper) (g:FF):List Nat→FF→FF
 | [],f=>f
 | i::rest,f=>chain ops g rest (updo f (dsts ops i) (match dsts ops i with|some d=>g d|none=>undef))
theorem chain_old {ops:Array Oper} {g:FF} (t:Nat):∀ (l:List Nat) (f:FF),(∀ i∈l,dsts ops i≠some t)→chain ops g l f t=f t:=by
 intro l
 induction l with
 | nil=>intro f _;rfl
 | cons i rest ih=>
  intro f h
  simp only [chain]
  rw [ih _ fun j hj=>h j (List.mem_cons_of_mem _ hj)]
  cases hd:dsts ops i with
  | none=>rfl
  | some d=>exact upd_ne fun e=>h i (by simp) (by rw [hd,e])
theorem chain_new {ops:Array Oper} {g:FF} (t:Nat):∀ (l:List Nat) (f:FF),(∃ i∈l,dsts ops i=some t)→chain ops g l f t=g t:=by
 intro l
 induction l with
 | nil=>rintro f ⟨i,hi,_⟩;cases hi
 | cons i rest ih=>
  rintro f ⟨j,hj,hjt⟩
  simp only [chain]
  by_cases hr:∃ i∈rest,dsts ops i=some t
  ·exact ih _ hr
  ·have hr':∀ i∈rest,dsts ops i≠some t:=fun i hi he=>hr ⟨i,hi,he⟩
   rw [chain_old t rest _ hr']
   rcases List.mem_cons.1 hj with rfl|hj
   ·simp only [hjt,updo];exact upd_same _ _ _
   ·exact absurd hjt (hr' j hj)
theorem looks_ev {o:Oper} {f g:FF} (h:∀ t∈o.looksAt ops,f t=g t):∀ x∈o.op.operands,ev f x=ev g x:=by
 intro x hx
 cases x with
 | tmp t=>exact h t (List.mem_append_left _ (List.mem_filterMap.2 ⟨.tmp t,by simpa using hx,rfl⟩))
 | const v=>rfl
 | global g=>rfl
 | func g=>rfl
theorem looks_exec {o:Oper} {f g:FF} (hs:notSelect o=true) (h:∀ t∈o.looksAt ops,f t=g t):execOp (ev f) o=execOp (ev g) o:=
 execOp_congr o (fun cs b e=>by simp [notSelect,e] at hs) (looks_ev h)
theorem looks_want {o:Oper} {f g:FF} (h:∀ t∈o.looksAt ops,f t=g t):Region.wanted o (yl ops f)=Region.wanted o (yl ops g):=by
 unfold Region.wanted
 cases hg:o.guard with
 | none=>rfl
 | some gw=>
  obtain ⟨j,b⟩:=gw
  have:yl ops f j=yl ops g j:=by
   unfold yl
   cases ht:(ops[j]?).bind (·.dst) with
   | none=>rfl
   | some t=>simp only [];rw [h t (by simp [Oper.looksAt,hg,ht])]
  simp only [this]
theorem okd_congr {i:Nat} {o:Oper} {f g:FF} {v:Value} {w:World} (hs:notSelect o=true) (h:∀ t∈o.looksAt ops,f t=g t) (hk:okd P ops loud i o f v w):okd P ops loud i o g v w:=by
 unfold okd at *
 rw [← looks_want h,← looks_exec hs h]
 exact hk
theorem WR_append {K:FF→World→Prop} {w:World}:∀ (l1 l2:List Nat) (f:FF),WR P ops loud K w (l1++l2) f→WR P ops loud (fun f w=>WR P ops loud K w l2 f) w l1 f
 | [],_,_,h=>h
 | _::r,l2,_,h=>fun o v ho hv=>WR_append r l2 _ (h o v ho hv)
theorem chain_append {g:FF}:∀ (l1 l2:List Nat) (f:FF),chain ops g (l1++l2) f=chain ops g l2 (chain ops g l1 f)
 | [],_,_=>rfl
 | i::r,l2,f=>by simp only [List.cons_append,chain];exact chain_append r l2 _
theorem back_of (h:backChk ops=true) (i j:Nat) (hi:i < ops.size) (hj:j∈dirs ops i):j < i:=by
 simp only [backChk,List.all_eq_true,List.mem_range,decide_eq_true_eq] at h
 exact h i hi j hj
theorem mem_span {k m i:Nat}:i∈span k m↔k≤i∧i < m:=by simp [span,and_comm]
structure Facts (ops:Array Oper) (n k m:Nat):Prop where
 km:k≤m
 le:m≤ops.size
 back:∀ i j,i < ops.size→j∈dirs ops i→j < i
 dst:∀ i o,k≤i→i < m→ops[i]?=some o→(∃ d,o.dst=some d)∧dlt o.dst n=true∧notSelect o=true
 one:∀ i j,k≤i→i < m→k≤j→j < m→i≠j→dsts ops i≠dsts ops j
 dir:∀ i j t,k≤i→i < m→k≤j→j < m→t∈looks ops i→dsts ops j=some t→j∈dirs ops i
 tail:∀ i j,j < ops.size→m≤j→k≤i→i < m→i∈clo ops j
 clos:∀ i j x,k≤i→i < m→j∈preL ops k m i→x∈dirs ops j→x < k∨x∈preL ops k m i
theorem facts_of {n k m:Nat} {pre:List (List Nat)} (h:parChk ops n k m pre=true):Facts ops n k m∧(span k m).map (preL ops k m)=pre:=by
 simp only [parChk,Bool.and_eq_true,List.all_eq_true,mem_span,List.mem_range,decide_eq_true_eq,beq_iff_eq] at h
 obtain ⟨⟨⟨⟨⟨⟨⟨h00,h0⟩,h1⟩,h2⟩,h3⟩,h4⟩,h5⟩,h6⟩:=h
 refine ⟨⟨h00,h0,back_of h1,fun i o hk hi ho=>?_,fun i j hk hi hk' hj hne=>?_,fun i j t hk hi hk' hj ht hd=>?_,fun i j hj hm hki him=>?_,fun i j x hk hi hj hx=>?_⟩,h6⟩
 ·obtain ⟨⟨a,b⟩,c⟩:=h2 i ⟨hk,hi⟩
  simp only [dsts,ho,Option.bind_some,Option.all_some] at a b c
  exact ⟨Option.isSome_iff_exists.1 a,b,c⟩
 ·have:=(h3 i ⟨hk,hi⟩ j ⟨hk',hj⟩).1
  simpa [hne] using this
 ·have:=(h3 i ⟨hk,hi⟩ j ⟨hk',hj⟩).2
  simp only [Bool.or_eq_true,Bool.not_eq_true',List.any_eq_false,beq_iff_eq,List.contains_iff_mem] at this
  rcases this with h'|h'
  ·exact absurd hd (h' t ht)
  ·exact h'
 ·have:=h4 j hj
  simp only [Bool.or_eq_true,decide_eq_true_eq,List.all_eq_true,mem_span,List.contains_iff_mem] at this
  exact this.resolve_left (by omega) i ⟨hki,him⟩
 ·have:=h5 i ⟨hk,hi⟩ j hj x hx
  simpa using this
theorem bfs_all {p:Nat→Prop} (hd:∀ i,p i→∀ j∈dirs ops i,p j):∀ (k:Nat) (l:List Nat),(∀ x∈l,p x)→∀ x∈bfs ops k l,p x
 | 0,_,h=>h
 | k+1,l,h=>bfs_all hd k _ fun x hx=>by
  rw [List.mem_eraseDups] at hx
  rcases List.mem_append.1 hx with hx|hx
  ·exact h x hx
  ·obtain ⟨i,hi,hj⟩:=List.mem_flatMap.1 hx
   exact hd i (h i hi) x hj
structure St (P:Program) (ops:Array Oper) (loud:Nat→Option (Value→World→Prop)) (k m:Nat) (f0:FF) (w1:World) (listed:Array Bool) (f:FF) (w:World):Prop where
 mod:Mod [] w1 w
 base:∀ i,i < k→listed.getD i false=true
 low:∀ i,listed.getD i false=true→i < m
 down:∀ i,listed.getD i false=true→k≤i→∀ j∈dirs ops i,listed.getD j false=true
 ok:∀ i o d,k≤i→listed.getD i false=true→ops[i]?=some o→o.dst=some d→okd P ops loud i o f (f d) w
 old:∀ t,(∀ i,k≤i→listed.getD i false=true→dsts ops i≠some t)→f t=f0 t
 size:listed.size=ops.size
theorem St.inst {n k m:Nat} {f0:FF} {w1:World} {listed:Array Bool} {f:FF} {w:World} (F:Facts ops n k m) (s:St P ops loud k m f0 w1 listed f w) (p:Nat→Bool)
 (hpk:∀ j,p j=true→k≤j) (hp:∀ j,p j=true→∀ x∈dirs ops j,x < k∨p x=true):∀ (x:Nat) (K:FF→World→Prop),(∀ j,j < x→p j=true→listed.getD j false=true)→
   WR P ops loud K w ((List.range x).filter p) f0→K (chain ops f ((List.range x).filter p) f0) w:=by
 intro x
 induction x with
 | zero=>intro K _ h;exact h
 | succ x ih=>
  intro K hl h
  rw [List.range_succ,List.filter_append] at h ⊢
  have h1:=ih _ (fun j hj=>hl j (by omega)) (WR_append loud _ _ _ h)
  cases hpx:p x with
  | false=>simp only [List.filter_cons,hpx,List.filter_nil,List.append_nil,Bool.false_eq_true,if_false,WR] at h1 ⊢;exact h1
  | true=>
   simp only [List.filter_cons,hpx,List.filter_nil,if_true] at h1 ⊢
   rw [chain_append]
   have hlx:=hl x (by omega) hpx
   have hxk:=hpk x hpx
   have hxm:=s.low x hlx
   have hxs:x < ops.size:=Nat.lt_of_lt_of_le hxm F.le
   have ho:ops[x]?=some ops[x]:=Array.getElem?_eq_getElem hxs
   obtain ⟨⟨d,hd⟩,_,hns⟩:=F.dst x _ hxk hxm ho
   have h2:=h1 ops[x] (f d) ho (okd_congr loud (f:=f) hns (fun t ht=>?_) (s.ok x _ d hxk hlx ho hd))
   ·simp only [chain,dsts,ho,Option.bind_some,hd] at h2 ⊢
    exact h2
   ·by_cases hex:∃ y∈(List.range x).filter p,dsts ops y=some t
    ·exact (chain_new t _ _ hex).symm
    ·have hno:∀ y∈(List.range x).filter p,dsts ops y≠some t:=fun y hy he=>hex ⟨y,hy,he⟩
     rw [chain_old t _ _ hno]
     refine s.old t fun i hik hi he=>?_
     have hdir:=F.dir x i t hxk hxm hik (s.low i hi) (by simpa [looks,ho] using ht) he
     exact hno i (List.mem_filter.2 ⟨List.mem_range.2 (F.back x i hxs hdir),(hp x hpx i hdir).resolve_left (by omega)⟩) he
theorem OS_congr {o:Oper} {f g:FF} {w:World} {K:Value→World→Prop} (hs:notSelect o=true) (h:∀ t∈o.looksAt ops,f t=g t) (hk:OS P o (ev f) w K):OS P o (ev g) w K:=by
 unfold OS at *
 rw [← looks_exec hs h]
 exact hk
theorem listed_set {listed:Array Bool} {i j:Nat} (hi:i < listed.size):(listed.setIfInBounds i true).getD j false=true↔j=i∨listed.getD j false=true:=by
 by_cases h:j=i
 ·subst h;simp [hi]
 ·rw [getD_set_ne false (Ne.symm h)];simp [h]
theorem St.next {n k m:Nat} {f0:FF} {w1:World} {listed:Array Bool} {f:FF} {w w':World} {i d:Nat} {o:Oper} {v:Value} (F:Facts ops n k m)
 (stab:∀ i p,loud i=some p→∀ v w w',p v w→Mod [] w w'→p v w')
 (s:St P ops loud k m f0 w1 listed f w) (hki:k≤i) (him:i < m) (ho:ops[i]?=some o) (hd:o.dst=some d) (hun:listed.getD i false=false) (hpre:∀ j∈dirs ops i,listed.getD j false=true)
 (hm:Mod [] w w') (hv:okd P ops loud i o f v w'):St P ops loud k m f0 w1 (listed.setIfInBounds i true) (upd f d v) w':=by
 have hil:i < listed.size:=by rw [s.size];exact Nat.lt_of_lt_of_le him F.le
 have hdi:dsts ops i=some d:=by simp [dsts,ho,hd]
 have keep:∀ j oj,k≤j→j < m→(j=i∨listed.getD j false=true)→ops[j]?=some oj→∀ t∈oj.looksAt ops,f t=upd f d v t:=by
  intro j oj hkj hj hji hoj t ht
  refine (upd_ne fun e=>?_).symm
  subst e
  have hdir:=F.dir j i t hkj hj hki him (by simpa [looks,hoj] using ht) hdi
  rcases hji with rfl|hji
  ·exact absurd (F.back j j (Nat.lt_of_lt_of_le hj F.le) hdir) (by omega)
  ·rw [s.down j hji hkj i hdir] at hun;cases hun
 refine ⟨s.mod.trans hm,fun j hj=>(listed_set hil).2 (.inr (s.base j hj)),fun j hj=>?_,fun j hj hkj x hx=>?_,fun j oj dj hkj hj hoj hdj=>?_,fun t ht=>?_,by simp [s.size]⟩
 ·rcases (listed_set hil).1 hj with rfl|hj
  ·exact him
  ·exact s.low j hj
 ·refine (listed_set hil).2 (.inr ?_)
  rcases (listed_set hil).1 hj with rfl|hj
  ·exact hpre x hx
  ·exact s.down j hj hkj x hx
 ·have hjj:=(listed_set hil).1 hj
  have hjm:j < m:=by rcases hjj with rfl|h;exact him;exact s.low j h
  have hns:=(F.dst j oj hkj hjm hoj).2.2
  rcases hjj with rfl|hjl
  ·rw [ho] at hoj;cases hoj
   rw [hd] at hdj;cases hdj
   rw [upd_same]
   exact okd_congr loud hns (keep j o hki him (.inl rfl) ho) hv
  ·by_cases hji:j=i
   ·subst hji;rw [hjl] at hun;cases hun
   ·have hne:dj≠d:=fun e=>F.one j i hkj hjm hki him hji (by rw [hdi];simp [dsts,hoj,hdj,e])
    rw [upd_ne hne]
    have h1:=s.ok j oj dj hkj hjl hoj hdj
    refine okd_congr loud hns (keep j oj hkj hjm (.inr hjl) hoj) ?_
    unfold okd at h1 ⊢
    split
    ·rename_i hw
     rw [if_pos hw] at h1
     cases hl:loud j with
     | none=>simp only [hl] at h1 ⊢;exact runC_keep hm _ _ h1
     | some p=>simp only [hl] at h1 ⊢;exact stab j p hl _ _ _ h1 hm
    ·rename_i hw
     rw [if_neg hw] at h1
     exact h1
 ·have hne:t≠d:=fun e=>ht i hki ((listed_set hil).2 (.inl rfl)) (by rw [hdi,e])
  rw [upd_ne hne]
  exact s.old t fun j hkj hj=>ht j hkj ((listed_set hil).2 (.inr hj))
def WD (P:Program) (n:Nat) (ops:Array Oper) (K:FF→World→Prop) (k:Nat) (f:FF) (w:World):Prop:=
 ∀ (Q:FPost),(∀ f w,K f w→Q .normal f w)→∀ (r:Nat) (listed:Array Bool) (a:Act),k+r=ops.size→listed.size=ops.size→(∀ i,listed.getD i false=true↔i < k)→Fr n f a→
  wpAny P .any ops (toQ n Q) r listed a w
theorem not_listed {listed:Array Bool} {i:Nat} (hi:i < listed.size):listed.getD i true=false↔¬ listed.getD i false=true:=by
 rw [Array.getD_eq_getD_getElem?,Array.getD_eq_getD_getElem?,Array.getElem?_eq_getElem hi];simp
theorem WD_end {n k:Nat} {K:FF→World→Prop} {f:FF} {w:World} (hk:ops.size≤k) (h:K f w):WD P n ops K k f w:=by
 intro Q hK r listed a hr hs hl ha
 have hnil:Region.ready .any ops listed=[]:=by
  refine List.eq_nil_iff_forall_not_mem.2 fun j hj=>?_
  obtain ⟨h0,o,ho,_⟩:=mem_ready.1 hj
  have hjs:=(Array.getElem?_eq_some_iff.1 ho).1
  exact (not_listed (by omega)).1 h0 ((hl j).2 (by omega))
 exact wpAny_done hnil ⟨f,ha,hK f w h⟩ r
theorem WD_at {n k:Nat} {K:FF→World→Prop} {f:FF} {w:World} {o:Oper} (chk:oneChk ops k=true) (ho:ops[k]?=some o)
 (h:if Region.wanted o (yl ops f)=true then OW P n o (WD P n ops K (k+1)) f w else WD P n ops K (k+1) (updo f o.dst undef) w∧dlt o.dst n=true):WD P n ops K k f w:=by
 simp only [oneChk,Bool.and_eq_true,decide_eq_true_eq,List.all_eq_true,List.mem_range,Bool.or_eq_true,List.contains_iff_mem] at chk
 obtain ⟨⟨hks,hback⟩,hall0⟩:=chk
 intro Q hK r listed a hr hs hl ha
 obtain ⟨r,rfl⟩:∃ r',r=r'+1:=⟨r - 1,by omega⟩
 have only:∀ j∈Region.ready .any ops listed,j=k:=by
  intro j hj
  obtain ⟨h0,o,ho,hall⟩:=mem_ready.1 hj
  have hjs:=(Array.getElem?_eq_some_iff.1 ho).1
  have hjk:¬ j < k:=fun h=>(not_listed (by omega)).1 h0 ((hl j).2 h)
  rcases Nat.lt_or_ge k j with hlt|hge
  ·have hc:=(hall0 j hjs).resolve_left (by omega)
   have hdirs:∀ x∈dirs ops j,x < k:=fun x hx=>by
    simp only [dirs,ho,List.mem_map,List.mem_filter] at hx
    obtain ⟨e,⟨he,hb⟩,rfl⟩:=hx
    exact (hl _).1 (hall e (Array.mem_toList_iff.1 he) hb)
   have:=bfs_all (ops:=ops) (p:=fun x=>x < k) (fun i hi j hj=>by
    have:i < ops.size:=by omega
    have:=back_of hback i j this hj
    omega) ops.size _ hdirs k hc
   omega
  ·omega
 have kin:k∈Region.ready .any ops listed:=by
  refine mem_ready.2 ⟨(not_listed (by omega)).2 fun h=>by have:=(hl k).1 h;omega,o,ho,fun e he hb=>(hl _).2 (back_of hback k _ hks ?_)⟩
  simp only [dirs,ho,List.mem_map,List.mem_filter]
  exact ⟨e,⟨Array.mem_toList_iff.2 he,hb⟩,rfl⟩
 refine ⟨fun h0=>(by rw [h0] at kin;cases kin),fun j hj=>?_⟩
 have hjk:=only j hj
 subst hjk
 have hl':∀ i,(listed.setIfInBounds j true).getD i false=true↔i < j+1:=fun i=>by
  rw [listed_set (by omega),hl i];omega
 unfold wpOp
 simp only [ho]
 rw [ha.yielded]
 split
 ·rename_i hw
  rw [if_pos hw] at h
  refine .inl (Oper.wp_mono ?_ (h.wp a ha _))
  rintro a' w' ⟨f',hf',hr'⟩
  exact hr' Q hK r _ a' (by omega) (by simp [hs]) hl' hf'
 ·rename_i hw
  rw [if_neg hw] at h
  exact h.1 Q hK r _ _ (by omega) (by simp [hs]) hl' (ha.put h.2 undef)
theorem phase_any {n k m:Nat} {f0:FF} {w1:World} {Q:FPost} {K:FF→World→Prop} (F:Facts ops n k m) (hK:∀ f w,K f w→Q .normal f w)
 (stab:∀ i p,loud i=some p→∀ v w w',p v w→Mod [] w w'→p v w')
 (obl:∀ i,k≤i→i < m→∀ w,Mod [] w1 w→WR P ops loud (OwesAt P ops loud i) w (preL ops k m i) f0)
 (fin:∀ w,Mod [] w1 w→WR P ops loud (WD P n ops K m) w (span k m) f0) :
 ∀ (r:Nat) (listed:Array Bool) (f:FF) (a:Act) (w:World) (c:Nat),c+r=ops.size→((List.range m).filter fun i=>listed.getD i false).length=c→St P ops loud k m f0 w1 listed f w→Fr n f a→
  wpAny P .any ops (toQ n Q) r listed a w:=by
 intro r
 have last:∀ (r:Nat) (listed:Array Bool) (f:FF) (a:Act) (w:World),m+r=ops.size→St P ops loud k m f0 w1 listed f w→Fr n f a→(∀ i,i < m→listed.getD i false=true)→
  wpAny P .any ops (toQ n Q) r listed a w:=by
  intro r listed f a w hr s ha hall
  have h:=s.inst loud F (fun j=>decide (k≤j)) (fun j hj=>of_decide_eq_true hj) (fun _ _ x _=>by rcases Nat.lt_or_ge x k with h|h;exact .inl h;exact .inr (decide_eq_true h)) m _ (fun j hj _=>hall j hj) (fin w s.mod)
  have hch:chain ops f ((List.range m).filter fun j=>decide (k≤j)) f0=f:=by
   funext t
   by_cases hex:∃ x∈(List.range m).filter (fun j=>decide (k≤j)),dsts ops x=some t
   ·exact chain_new t _ _ hex
   ·have hno:∀ x∈(List.range m).filter (fun j=>decide (k≤j)),dsts ops x≠some t:=fun x hx he=>hex ⟨x,hx,he⟩
    rw [chain_old t _ _ hno]
    exact (s.old t fun i hki hi=>hno i (by simpa using ⟨s.low i hi,hki⟩)).symm
  rw [hch] at h
  exact h Q hK r listed a hr s.size (fun i=>⟨s.low i,hall i⟩) ha
 induction r with
 | zero=>
  intro listed f a w c hc hcnt s ha
  have hlen:((List.range m).filter fun i=>listed.getD i false).length=(List.range m).length:=by
   have:=List.length_filter_le (fun i=>listed.getD i false) (List.range m)
   have:=F.le
   simp only [List.length_range] at *;omega
  have hall:∀ i,i < m→listed.getD i false=true:=fun i hi=>List.length_filter_eq_length_iff.1 hlen i (List.mem_range.2 hi)
  exact last 0 listed f a w (by simp only [List.length_range] at hlen;omega) s ha hall
 | succ r ih=>
  intro listed f a w c hc hcnt s ha
  by_cases hall:∀ i,i < m→listed.getD i false=true
  ·have hcm:c=m:=by
    rw [← hcnt,List.filter_eq_self.2 (fun i hi=>hall i (List.mem_range.1 hi)),List.length_range]
   exact last (r+1) listed f a w (by omega) s ha hall
  ·obtain ⟨i0,hi0m,hi0⟩:∃ i,i < m∧¬ listed.getD i false=true:=by
    refine Classical.byContradiction fun hn=>hall fun i hi=>Classical.byContradiction fun h=>hn ⟨i,hi,h⟩
   obtain ⟨i1,⟨hi1m,hi1⟩,hmin⟩:=exists_least (p:=fun i=>i < m∧¬ listed.getD i false=true) ⟨i0,hi0m,hi0⟩
   have hin:i1∈Region.ready .any ops listed:=by
    have hs1:i1 < ops.size:=Nat.lt_of_lt_of_le hi1m F.le
    refine mem_ready.2 ⟨(not_listed (by rw [s.size];exact hs1)).2 hi1,ops[i1],Array.getElem?_eq_getElem hs1,fun e he hb=>?_⟩
    have hlt:=F.back i1 e.on hs1 (by
     simp only [dirs,Array.getElem?_eq_getElem hs1,List.mem_map,List.mem_filter]
     exact ⟨e,⟨Array.mem_toList_iff.2 he,hb⟩,rfl⟩)
    exact Classical.byContradiction fun hn=>by have:=hmin e.on ⟨by omega,hn⟩;omega
   refine ⟨fun h0=>(by rw [h0] at hin;cases hin),fun i hi=>?_⟩
   obtain ⟨h0,o,ho,hpre⟩:=mem_ready.1 hi
   have his:i < ops.size:=(Array.getElem?_eq_some_iff.1 ho).1
   have hun':=(not_listed (by rw [s.size];exact his)).1 h0
   have hun:listed.getD i false=false:=by simpa using hun'
   have hki:k≤i:=Classical.byContradiction fun hn=>hun' (s.base i (by omega))
   have hdirs:∀ x∈dirs ops i,listed.getD x false=true:=fun x hx=>by
    simp only [dirs,ho,List.mem_map,List.mem_filter] at hx
    obtain ⟨e,⟨he,hb⟩,rfl⟩:=hx
    exact hpre e (Array.mem_toList_iff.1 he) hb
   have hclo:∀ x∈clo ops i,listed.getD x false=true:=bfs_all (p:=fun x=>listed.getD x false=true) (fun j hj x hx=>by
    rcases Nat.lt_or_ge j k with hjk|hjk
    ·exact s.base x (by
      have:=F.back j x (by have:=F.le;have:=F.km;omega) hx
      omega)
    ·exact s.down j hj hjk x hx) _ _ hdirs
   have him:i < m:=by
    rcases Nat.lt_or_ge i m with h|h
    ·exact h
    ·have hk1:k≤i1:=Classical.byContradiction fun hn=>hi1 (s.base i1 (by omega))
     exact absurd (hclo i1 (F.tail i1 i his h hk1 hi1m)) hi1
   obtain ⟨⟨d,hd⟩,hdl,hns⟩:=F.dst i o hki him ho
   have hpl:preL ops k m i=(List.range i).filter fun j=>decide (k≤j) && decide (j < m) && (clo ops i).contains j:=rfl
   have h1:=s.inst loud F (fun j=>decide (j < i) && (decide (k≤j) && decide (j < m) && (clo ops i).contains j)) (fun j hj=>by
    simp only [Bool.and_eq_true,decide_eq_true_eq] at hj;exact hj.2.1.1) (fun j hj x hx=>by
    simp only [Bool.and_eq_true,decide_eq_true_eq,List.contains_iff_mem] at hj ⊢
    refine (F.clos i j x hki him (by rw [hpl];exact List.mem_filter.2 ⟨List.mem_range.2 hj.1,by simpa using hj.2⟩) hx).imp id fun h=>?_
    rw [hpl] at h
    have:=List.mem_filter.1 h
    simpa using this) i _ (fun j _ hj=>hclo j (by simp only [Bool.and_eq_true,List.contains_iff_mem] at hj;exact hj.2.2))
    (by
      have:=obl i hki him w s.mod
      rw [hpl] at this
      rwa [show ((List.range i).filter fun j=>decide (j < i) && (decide (k≤j) && decide (j < m) && (clo ops i).contains j))=(List.range i).filter fun j=>decide (k≤j) && decide (j < m) && (clo ops i).contains j from List.filter_congr fun j hj=>by
       simp [List.mem_range.1 hj]])
   have agree:∀ t∈o.looksAt ops,chain ops f ((List.range i).filter fun j=>decide (j < i) && (decide (k≤j) && decide (j < m) && (clo ops i).contains j)) f0 t=f t:=by
    intro t ht
    by_cases hex:∃ x∈(List.range i).filter (fun j=>decide (j < i) && (decide (k≤j) && decide (j < m) && (clo ops i).contains j)),dsts ops x=some t
    ·exact chain_new t _ _ hex
    ·have hno:∀ x∈(List.range i).filter (fun j=>decide (j < i) && (decide (k≤j) && decide (j < m) && (clo ops i).contains j)),dsts ops x≠some t:=fun x hx he=>hex ⟨x,hx,he⟩
     rw [chain_old t _ _ hno]
     refine (s.old t fun x hkx hx he=>?_).symm
     have hdir:=F.dir i x t hki him hkx (s.low x hx) (by simpa [looks,ho] using ht) he
     have hxi:=F.back i x his hdir
     have hxc:x∈clo ops i:=by
      have sub:∀ (y:Nat) (l:List Nat),x∈l→x∈bfs ops y l:=by
       intro y
       induction y with
       | zero=>exact fun l h=>h
       | succ y ih=>exact fun l h=>ih _ (List.mem_eraseDups.2 (List.mem_append.2 (.inl h)))
      exact sub _ _ hdir
     exact hno x (List.mem_filter.2 ⟨List.mem_range.2 hxi,by simp [hxi,hkx,s.low x hx,hxc]⟩) he
   have cnt':((List.range m).filter fun j=>(listed.setIfInBounds i true).getD j false).length=c+1:=by
    have hil:i < listed.size:=by rw [s.size];exact his
    rw [← hcnt,← List.countP_eq_length_filter,← List.countP_eq_length_filter]
    have key:∀ x,i < x→(List.range x).countP (fun j=>(listed.setIfInBounds i true).getD j false)=(List.range x).countP (fun j=>listed.getD j false)+1:=by
     intro x
     induction x with
     | zero=>omega
     | succ x ihx=>
      intro hix
      rw [List.range_succ,List.countP_append,List.countP_append,List.countP_singleton,List.countP_singleton]
      by_cases hxi:x=i
      ·subst hxi
       have e1:(listed.setIfInBounds x true).getD x false=true:=(listed_set hil).2 (.inl rfl)
       rw [e1,hun]
       have e2:(List.range x).countP (fun j=>(listed.setIfInBounds x true).getD j false)=(List.range x).countP (fun j=>listed.getD j false):=
        List.countP_congr fun j hj=>by
         have:j≠x:=by have:=List.mem_range.1 hj;omega
         rw [getD_set_ne false (Ne.symm this)]
       rw [e2];simp
      ·rw [ihx (by omega),getD_set_ne false (Ne.symm hxi)];omega
    exact key m him
   unfold wpOp
   simp only [ho]
   rw [ha.yielded]
   have hwant:Region.wanted o (yl ops (chain ops f ((List.range i).filter fun j=>decide (j < i) && (decide (k≤j) && decide (j < m) && (clo ops i).contains j)) f0))=Region.wanted o (yl ops f):=looks_want agree
   split
   ·rename_i hw
    have h2:=h1 o ho (hwant.trans hw)
    have hOS:OS P o (ev f) w fun v w'=>okd P ops loud i o f v w'∧Mod [] w w':=by
     cases hl:loud i with
     | some p=>
      simp only [hl] at h2
      refine (OS_congr hns agree h2).mono ?_
      rintro v w' ⟨hp,hm⟩
      exact ⟨by unfold okd;rw [if_pos hw];simp only [hl];exact hp,hm⟩
     | none=>
      simp only [hl] at h2
      obtain ⟨v,hv⟩:=h2
      rw [looks_exec hns agree] at hv
      exact S_read hv ⟨by unfold okd;rw [if_pos hw];simp only [hl];exact hv,Mod.refl _ _⟩
    have hOW:OW P n o (fun f' w'=>∃ v,f'=upd f d v∧okd P ops loud i o f v w'∧Mod [] w w') f w:=by
     refine ⟨hdl,hOS.mono fun v w' h=>⟨v,by simp only [hd,updo],h⟩⟩
    refine .inl (Oper.wp_mono ?_ (hOW.wp a ha _))
    rintro a' w' ⟨f',hf',v,rfl,hv,hm⟩
    exact ih _ _ a' w' (c+1) (by omega) cnt' (s.next loud F stab hki him ho hd hun hdirs hm hv) hf'
   ·rename_i hw
    refine ih _ (upd f d undef) _ w (c+1) (by omega) cnt' (s.next loud F stab hki him ho hd hun hdirs (Mod.refl _ _) ?_) ?_
    ·unfold okd;rw [if_neg hw]
    ·have:=ha.put hdl undef
     rwa [hd] at this ⊢
theorem WD_par {n:Nat} {K:FF→World→Prop} {f0:FF} {w1:World} (k m:Nat) (pre:List (List Nat)) (chk:parChk ops n k m pre=true)
 (stab:∀ i p,loud i=some p→∀ v w w',p v w→Mod [] w w'→p v w')
 (obl:∀ i l,pre[i]?=some l→∀ w,Mod [] w1 w→WR P ops loud (OwesAt P ops loud (k+i)) w l f0)
 (fin:∀ w,Mod [] w1 w→WR P ops loud (WD P n ops K m) w (span k m) f0):WD P n ops K k f0 w1:=by
 obtain ⟨F,hpre⟩:=facts_of chk
 intro Q hK r listed a hr hs hl ha
 have hspan:span k m=(List.range (m - k)).map (k+·):=by
  have h1:span k m=List.range' k (m - k):=by
   have e:m=k+(m - k):=by have:=F.km;omega
   rw [span,e,List.range_eq_range',← List.range'_append_1,List.filter_append,List.filter_eq_nil_iff.2 (fun x hx=>by
    have:=List.mem_range'_1.1 hx;simp;omega),List.filter_eq_self.2 (fun x hx=>by have:=List.mem_range'_1.1 hx;simp;omega)]
   simp
  rw [h1,List.range'_eq_map_range]
 refine phase_any loud F hK stab (fun i hki hi w hw=>?_) fin r listed f0 a w1 k hr ?_ ⟨Mod.refl _ _,fun i hi=>(hl i).2 hi,fun i hi=>?_,fun i hi hk=>?_,fun i o d hk hi=>?_,fun _ _=>rfl,hs⟩ ha
 ·have h:=obl (i - k) (preL ops k m i) (by
   rw [← hpre,hspan,List.map_map,List.getElem?_map,List.getElem?_range (by omega)]
   simp [show k+(i - k)=i by omega]) w hw
  rwa [show k+(i - k)=i by omega] at h
 ·have:(List.range m).filter (fun i=>listed.getD i false)=List.range k:=by
   have e:m=k+(m - k):=by have:=F.km;omega
   rw [e,List.range_eq_range',← List.range'_append_1,List.filter_append,List.filter_eq_self.2 (fun x hx=>(hl x).2 (by have:=List.mem_range'_1.1 hx;omega)),List.filter_eq_nil_iff.2 (fun x hx=>by
    have:=List.mem_range'_1.1 hx
    intro hh
    have:=(hl x).1 hh
    omega),List.append_nil,List.range_eq_range']
  rw [this,List.length_range]
 ·have:=(hl i).1 hi
  have:=F.km
  omega
 ·have:=(hl i).1 hi;omega
 ·have:=(hl i).1 hi;omega
end
theorem W_drawn {P:Program} {ops:Array Oper} {n:Nat} {Q:FPost} {f:FF} {w:World} {id:Nat} (mixed:P.follows .mixedOrders=true) (h:WD P n ops (fun f w=>Q .normal f w) 0 f w.drew):W P n (.region id ops true) Q f w:=by
 intro a ha
 have e:∀ i,(Array.replicate ops.size false).getD i false=false:=fun i=>by
  rw [Array.getD_eq_getD_getElem?,Array.getElem?_replicate];split<;>rfl
 exact wp_region_any mixed (h Q (fun _ _ h=>h) ops.size _ a (by omega) (by simp) (fun i=>by simp [e]) ha)
section
variable {P:Program} {ops:Array Oper} {n k:Nat} {K:FF→World→Prop} {f:FF} {w:World} {o:Oper}
theorem WD_one (chk:oneChk ops k=true) (ho:ops[k]?=some o) (hg:o.guard=none) (hd:dlt o.dst n=true) (h:OS P o (ev f) w fun v w'=>WD P n ops K (k+1) (updo f o.dst v) w'):WD P n ops K k f w:=
 WD_at chk ho (by rw [if_pos (by simp [Region.wanted,hg])];exact ⟨hd,h⟩)
theorem WD_want {j t:Nat} {b:Bool} (chk:oneChk ops k=true) (ho:ops[k]?=some o) (hg:o.guard=some (j,b)) (hd:dlt o.dst n=true) (ht:(ops[j]?).bind (·.dst)=some t) (hv:f t=.bool b)
 (h:OS P o (ev f) w fun v w'=>WD P n ops K (k+1) (updo f o.dst v) w'):WD P n ops K k f w:=
 WD_at chk ho (by rw [if_pos (by simp [Region.wanted,yl,hg,ht,hv])];exact ⟨hd,h⟩)
end
end Go.Proofs.YtejkllmoofdpjaaGreat
