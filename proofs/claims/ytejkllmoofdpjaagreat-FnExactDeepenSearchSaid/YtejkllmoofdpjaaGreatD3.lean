/- Parts of the proof: VD VE VS VF VT VM. -/
import Derived.Test.YtejkllmoofdpjaaGreatD2
import Derived.Maps.RangeRun
namespace Go.Proofs.YtejkllmoofdpjaaGreat
open Go
set_option linter.all false
set_option maxRecDepth 100000
set_option maxHeartbeats 4000000
section
variable {P:Program} {f:AF} {A:List Atm} {d:Option Tmp} {ty:TypeId} {pos:String} {aft:Array Edge} {gg:Option (Nat × Bool)} {M:Nat→Prop} {w w':World}
theorem Pre.cons {a:Atm} (hp:Pre A M w) (hm:Mod [] w w') (hnd:a.own.Nodup) (hlt:∀ b∈a.own,b < w'.heap.size∧w.heap.size≤b) (hok:a.ok (MO M (a::A)) w'):Step A (a::A) M w w':=by
 have hp':=hp.mod hm
 have e:oA (a::A)=a.own++oA A:=oA_cons
 refine ⟨hm.mono (by simp),⟨hp'.hM,?_,fun b hb=>?_,fun b hb hM=>?_,fun x hx=>?_⟩,fun b hb=>?_⟩
 ·rw [e]
  exact List.nodup_append.2 ⟨hnd,hp.nd,fun x hx y hy e=>by have:=(hlt x hx).2;have:=hp.lt y hy;omega⟩
 ·rw [e] at hb
  exact (List.mem_append.1 hb).elim (fun h=>(hlt b h).1) (hp'.lt b)
 ·rw [e] at hb
  rcases List.mem_append.1 hb with hb|hb
  ·have:=(hlt b hb).2;have:=hp.hM b hM;omega
  ·exact hp.dis b hb hM
 ·rcases List.mem_cons.1 hx with rfl|hx
  ·exact hok
  ·have h1:=x.grow _ (fun b=>MO M A b∨w.heap.size≤b) w (fun b hb h=>h.resolve_right (by omega)) (hp.ats x hx)
   have h2:=x.keep _ w w' (fun b hb=>hm.block b (hp.lt b (mem_oA.2 ⟨x,hx,hb⟩)) (by simp)) (fun b hb _=>hm.block b hb (by simp)) h1
   refine x.grow _ _ w' (fun b _ hM=>?_) h2
   rcases hM with hM|hM
   ·exact .inl (.inl hM)
   ·rw [e] at hM
    exact (List.mem_append.1 hM).elim (fun h=>.inr (hlt b h).2) fun h=>.inl (.inr h)
 ·rw [e] at hb
  exact (List.mem_append.1 hb).elim (fun h=>.inr (hlt b h).2) .inl
theorem Pre.turn {i:Nat} {a a':Atm} (hp:Pre A M w) (hi:A[i]?=some a) (hm:Mod a.own w w') (hnd:a'.own.Nodup) (hlt:∀ b∈a'.own,b < w'.heap.size∧(b∈a.own∨w.heap.size≤b)) (hok:a'.ok (MO M (A.set i a')) w'):Step A (A.set i a') M w w':=by
 obtain ⟨e1,e2⟩:=set_split (y:=a') hi
 have p1:A.Perm ((A.take i++A.drop (i+1))++[a]):=by
  refine (List.Perm.of_eq e1).trans ?_
  exact List.perm_middle.trans (List.perm_append_singleton _ _).symm
 have p2:(A.set i a').Perm ((A.take i++A.drop (i+1))++[a']):=by
  rw [e2]
  exact List.perm_middle.trans (List.perm_append_singleton _ _).symm
 have hp1:=hp.perm p1.symm
 have hf:=hp1.front
 have hs:Step [a] [a'] (MO M (A.take i++A.drop (i+1))) w w':=by
  have eo:∀ x:Atm,oA [x]=x.own:=fun x=>by simp [oA]
  have hother:∀ b,MO M (A.take i++A.drop (i+1)) b→b∉a.own:=fun b hb ha=>hf.dis b (by rw [eo];exact ha) hb
  refine ⟨by rw [eo];exact hm,⟨fun b hb=>Nat.lt_of_lt_of_le (hf.hM b hb) hm.size,by rw [eo];exact hnd,fun b hb=>(hlt b (by rwa [eo] at hb)).1,fun b hb hM=>?_,fun x hx=>?_⟩,fun b hb=>by rw [eo] at hb ⊢;exact (hlt b hb).2⟩
  ·rw [eo] at hb
   rcases (hlt b hb).2 with h|h
   ·exact hother b hM h
   ·have:=hf.hM b hM;omega
  ·simp only [List.mem_singleton] at hx
   subst hx
   exact x.grow _ _ w' (fun b _ h=>by
    rw [← MO_app] at h
    exact h.imp id fun h=>(oA_perm p2).symm.subset h) hok
 have h:=hs.front hp1
 have hpost:=h.pre.perm p2
 refine ⟨h.mod.mono fun b hb=>(oA_perm p1).symm.subset hb,hpost,fun b hb=>?_⟩
 exact (h.new b ((oA_perm p2).subset hb)).imp (fun h=>(oA_perm p1).symm.subset h) id
theorem box_new (hp:Pre A M w) {ds:List D} {vs:List Value} (T:TypeId) (h:rdC (MO M A) w ds vs):Step A (abox w.heap.size ds T::A) M w (w.alloc (.cells vs.toArray T)):=by
 have hm:Mod [] w (w.alloc (.cells vs.toArray T)):=(Mod.refl _ _).alloc _
 refine hp.cons hm (by simp [abox]) (by simp [abox]) ⟨vs,by show (w.heap.push _)[w.heap.size]?=_;simp,?_⟩
 have h1:rdC (fun b=>MO M A b∨w.heap.size≤b) w ds vs:=rdC_grow (fun b hb h=>h.resolve_right (by omega)) h
 refine rdC_grow (fun b _ hM=>?_) (rdC_keep (fun b hb _=>hm.block b hb (by simp)) h1)
 rcases hM with hM|hM
 ·exact .inl (.inl hM)
 ·rw [oA_cons] at hM
  rcases List.mem_append.1 hM with h|h
  ·exact .inr (by simp [abox] at h;omega)
  ·exact .inl (.inr h)
theorem O_box {T:TypeId} (x:Operand) {a:AV} {ds:List D} (hx:eva f x=a) (hd:a.cellsD=some ds):Opn P f A ⟨d,.box T x,ty,pos,aft,gg⟩ fun v A'=>∃ b,v=.one (.v (.pointer (some ⟨b,0,none⟩)))∧A'=abox b ds T::A:=fun M w r hp h=>by
 have h1:=h x (by simp [Op.operands])
 rw [hx] at h1
 obtain ⟨vs,h2,h3⟩:=cellsD_rd hd h1
 refine S_run (v:=.pointer (some ⟨w.heap.size,0,none⟩)) (w':=w.alloc (.cells vs.toArray T)) ?_ ⟨_,_,⟨_,rfl,rfl⟩,⟨rfl,rfl⟩,box_new hp T h3⟩
 simp only [execOp,Instr.box,newVar,newRow,newObj,h2]
 rfl
theorem O_alloc {T:TypeId} {agg:Bool} {sz:Nat} {z:Value} [F:TyF P T agg sz z] {ds:List D} (hz:cstL z.cells.toList=some ds):Opn P f A ⟨d,.alloc T,ty,pos,aft,gg⟩ fun v A'=>∃ b,v=.one (.v (.pointer (some ⟨b,0,none⟩)))∧A'=abox b ds T::A:=fun M w r hp h=>by
 refine S_run (v:=.pointer (some ⟨w.heap.size,0,none⟩)) (w':=w.alloc (.cells z.cells.toList.toArray T)) ?_ ⟨_,_,⟨_,rfl,rfl⟩,⟨rfl,rfl⟩,box_new hp T (cstL_rd hz)⟩
 simp only [execOp,Instr.alloc,newVar,newRow,newObj,bind_assoc,Sem.run_bind,runC_run _ _ (F.zero w),Result.andThen_ok]
 rfl
theorem O_store {t:TypeId} {agg:Bool} {sz:Nat} {z:Value} [F:TyF P t agg sz z] (i:Nat) (x y:Operand) {b o:Nat} {T:TypeId} {ds cs:List D} {a:AV} (hx:eva f x=.one (.v (.pointer (some ⟨b,o,none⟩)))) (hi:A[i]?=some (abox b ds T)) (hy:eva f y=a) (hc:a.cellsD=some cs) (hl:cs.length=sz) (hle:Nat.ble (o+sz) ds.length=true) :
 Opn P f A ⟨d,.store t x y,ty,pos,aft,gg⟩ fun v A'=>v=.tup []∧A'=A.set i (abox b (putD ds o cs) T):=fun M w r hp h=>by
 obtain ⟨vs,hb,h2⟩:=hp.ats _ (List.mem_of_getElem? hi)
 have h3:=h y (by simp [Op.operands])
 rw [hy] at h3
 obtain ⟨us,h4,h5⟩:=cellsD_rd hc h3
 have hlen:=rdC_len h2
 obtain ⟨w',e1,e2,e3,e4⟩:=storeVar_at (P:=P) (t:=t) h4 (by rw [rdC_len h5,hl]) (rdC_one h5) hb (by rw [hlen];exact Nat.le_of_ble_eq_true hle)
 have ho:∀ ds',oA (A.set i (abox b ds' T))=oA A:=fun ds'=>by
  obtain ⟨s1,s2⟩:=set_split (y:=abox b ds' T) hi
  rw [s2]
  conv=>rhs;rw [s1]
  simp [oA,abox]
 refine S_skip (w':=w') ?_ ⟨_,_,⟨rfl,rfl⟩,undef_rd,hp.turn hi e2 (by simp [abox]) (fun c hc=>⟨?_,.inl hc⟩) ⟨_,e4,?_⟩⟩
 ·simp only [execOp,Instr.storeAt,exact_of (h x (by simp [Op.operands])) hx,bind_assoc,Sem.run_bind]
  show ((Instr.sureAddr _).run P w).andThen _=_
  simp only [Instr.sureAddr,Sem.run_pure,Result.andThen_ok,Sem.run_bind,e1]
 ·simp only [abox,List.mem_singleton] at hc;subst hc
  rw [e3];exact (Array.getElem?_eq_some_iff.1 hb).1
 ·have hput:=rdC_put o h2 h5
  refine rdC_grow (fun c _ hM=>?_) (rdC_keep (M:=MO M A) (fun c hc hn=>e2.block c hc fun hcb=>hn (.inr (mem_oA.2 ⟨_,List.mem_of_getElem? hi,hcb⟩))) hput)
  unfold MO at hM ⊢
  rwa [ho] at hM
def rdRows (M:Nat→Prop) (w:World):List (List D)→List (List Value)→Prop
 | [],[]=>True
 | r::rs,v::vs=>rdC M w r v∧rdRows M w rs vs
 | _,_=>False
theorem rdRows_len {M:Nat→Prop} {w:World}:∀ {rs:List (List D)} {vss:List (List Value)},rdRows M w rs vss→vss.length=rs.length
 | [],[],_=>rfl
 | _::_,_::_,⟨_,h⟩=>by simp [rdRows_len h]
theorem rdRows_keep {M:Nat→Prop} {w w':World} (h:∀ b,b < w.heap.size→¬ M b→w'.heap[b]?=w.heap[b]?):∀ {rs:List (List D)} {vss:List (List Value)},rdRows M w rs vss→rdRows M w' rs vss
 | [],[],_=>trivial
 | _::_,_::_,⟨h1,h2⟩=>⟨rdC_keep h h1,rdRows_keep h h2⟩
theorem rdRows_grow {M M':Nat→Prop} {w:World} (h:∀ b,b < w.heap.size→M' b→M b):∀ {rs:List (List D)} {vss:List (List Value)},rdRows M w rs vss→rdRows M' w rs vss
 | [],[],_=>trivial
 | _::_,_::_,⟨h1,h2⟩=>⟨rdC_grow h h1,rdRows_grow h h2⟩
theorem rdRows_app {M:Nat→Prop} {w:World}:∀ {rs rs':List (List D)} {vss vss':List (List Value)},rdRows M w rs vss→rdRows M w rs' vss'→rdRows M w (rs++rs') (vss++vss')
 | [],_,[],_,_,h=>h
 | _::_,_,_::_,_,⟨h1,h2⟩,h=>⟨h1,rdRows_app h2 h⟩
theorem rdRows_get {M:Nat→Prop} {w:World}:∀ {rs:List (List D)} {vss:List (List Value)} (i:Nat) {r:List D},rdRows M w rs vss→rs[i]?=some r→∃ vs,vss[i]?=some vs∧rdC M w r vs
 | [],[],_,_,_,h=>by simp at h
 | _::_,_::_,0,r,⟨h1,_⟩,h=>by simp at h;subst h;exact ⟨_,rfl,h1⟩
 | _::_,_::_,i+1,r,⟨_,h2⟩,h=>by simpa using rdRows_get i h2 (by simpa using h)
def arow (e:TypeId) (sz:Nat) (v:Value) (rows:List (List D)):Atm:=⟨v.ownBlock.toList,fun M w=>∃ vss,(orow e sz v vss).ok w∧rdRows M w rows vss,
 fun _ w w' h1 h2 ⟨vss,h3,h4⟩=>⟨vss,(orow e sz v vss).loc w w' h1 h3,rdRows_keep h2 h4⟩,fun _ _ _ h ⟨vss,h3,h4⟩=>⟨vss,h3,rdRows_grow h h4⟩⟩
theorem rows_of {M:Nat→Prop} {w:World} {sz:Nat} {b:Nat}:∀ {o:Nat} {rs:List (List D)},rdR M w sz b o rs→∃ vss,rdRows M w rs vss∧(∀ vs∈vss,vs.length=sz)∧Cells w b o vss.flatten
 | _,[],_=>⟨[],trivial,by simp,by simpa using Cells.nil⟩
 | o,r::rs,⟨⟨vs,h1,h2,h3⟩,h4⟩=>by
  obtain ⟨vss,h5,h6,h7⟩:=rows_of h4
  refine ⟨vs::vss,⟨h2,h5⟩,fun x hx=>?_,?_⟩
  ·rcases List.mem_cons.1 hx with rfl|hx
   ·exact h1
   ·exact h6 x hx
  ·rw [List.flatten_cons]
   exact Cells.append.2 ⟨h3,by rw [h1];exact h7⟩
theorem rows_one {M:Nat→Prop} {w:World}:∀ {rs:List (List D)} {vss:List (List Value)},rdRows M w rs vss→∀ u∈vss.flatten,u.oneCell'=true
 | [],[],_,_,hu=>by simp at hu
 | _::_,_::_,⟨h1,h2⟩,u,hu=>by
  rw [List.flatten_cons] at hu
  exact (List.mem_append.1 hu).elim (rdC_one h1 u) (rows_one h2 u)
theorem flatten_len {sz:Nat}:∀ {vss:List (List Value)},(∀ vs∈vss,vs.length=sz)→vss.flatten.length=vss.length * sz
 | [],_=>by simp
 | v::vss,h=>by rw [List.flatten_cons,List.length_append,h v (by simp),flatten_len fun x hx=>h x (by simp [hx]),List.length_cons,Nat.add_mul];omega
theorem O_append {t e:TypeId} {agg:Bool} {sz bytes:Nat} {z:Value} [G:SlF P t e] [F:TyF P e agg sz z] [B:ByF P e bytes] (i:Nat) (s x:Operand) {v:Value} {rows rs:List (List D)} (hs:eva f s=.one (.v v)) (hi:A[i]?=some (arow e sz v rows)) (hx:eva f x=.one (.s sz rs))
 (hne:Nat.blt 0 rs.length=true) (hsz:Nat.blt 0 sz=true) (hzs:z.cells.size=sz) (hlen:(rows.length+rs.length) * (bytes+1)≤140737488355328) :
 Opn P f A ⟨d,.call {callee:=.builtin .append,args:=#[s,x],argTypes:=#[t,t] },ty,pos,aft,gg⟩ fun v A'=>∃ u,v=.one (.v u)∧A'=A.set i (arow e sz u (rows++rs)):=fun M w r hp h=>by
 have hsz:0 < sz:=Nat.le_of_ble_eq_true hsz
 have hne:0 < rs.length:=Nat.le_of_ble_eq_true hne
 obtain ⟨inf,hinf,hby⟩:=Option.map_eq_some_iff.1 B.run
 obtain ⟨hz,hsize⟩:=TyF.info (P:=P) w hinf
 obtain ⟨vss,⟨hall,hown⟩,hrows⟩:=hp.ats _ (List.mem_of_getElem? hi)
 have hx1:=h x (by simp [Op.operands,Call.operands])
 rw [hx] at hx1
 obtain ⟨a,c,hxv,hc1,hc2⟩:=hx1
 rcases hc2 with rfl | ⟨b,o,rfl,hMb,hb,hR⟩
 ·simp at hne
 obtain ⟨nss,hn1,hn2,hn3⟩:=rows_of hR
 have hnl:=rdRows_len hn1
 have hvl:=rdRows_len hrows
 have hadd:∀ m,(⟨b,o,none⟩:Addr).add m=⟨b,o+m,none⟩:=fun m=>by unfold Addr.add;split<;>simp_all
 have hlen':rows.length+rs.length≤140737488355328:=Nat.le_trans (Nat.le_mul_of_pos_right _ (by omega)) hlen
 obtain ⟨v',w',hr,h2,h3,h4⟩:=run_append_own2' (P:=P) w 0 t ty e inf z sz bytes G.und hinf hz hsize hby hzs hsz v vss.length vss.flatten hown ⟨b,o,none⟩ rs.length c nss.flatten (by rw [flatten_len hn2,hnl]) (fun j u hj=>by rw [hadd];exact hn3 j u hj) (rows_one hn1)
  hne (by rw [hvl];unfold maxLen;omega) (by rw [hvl];exact Nat.le_trans (Nat.mul_le_mul_left _ (by omega)) hlen) (Nat.zero_le _)
 have hmod:Mod (arow e sz v rows).own w w':=⟨h3.os,h3.tape,h3.output,h3.size,fun k hk hn=>h3.block k hk (fun e'=>hn (by simp [arow,← e']))⟩
 have hsv:=exact_of (h s (by simp [Op.operands,Call.operands])) hs
 have hnew:∀ c∈(arow e sz v' (rows++rs)).own,c < w'.heap.size∧(c∈(arow e sz v rows).own∨w.heap.size≤c):=by
  intro c hc
  simp only [arow,Option.mem_toList] at hc
  refine ⟨(h2.lt c hc).2,?_⟩
  rcases h4 with ⟨h4,_⟩ | ⟨h4,_⟩
  ·exact .inl (by simp only [arow,Option.mem_toList];rw [← h4];exact hc)
  ·rw [h4] at hc
   cases hc
   exact .inr (Nat.le_refl _)
 refine S_run (v:=v') (w':=w') ?_ ⟨_,_,⟨v',rfl,rfl⟩,⟨rfl,?_⟩,hp.turn hi hmod ?_ hnew ⟨vss++nss,⟨?_,?_⟩,?_⟩⟩
 ·simp only [execOp,resolve,pure_bind,invoke,builtin,List.map_toArray,List.map_cons,List.map_nil,hsv,hxv,Sem.run_bind,hr,Result.andThen_ok];rfl
 ·rcases h2.2 with ⟨rfl,_⟩ | ⟨g,cap,cur,rfl,_⟩<;>rfl
 ·simp only [arow];cases v'.ownBlock<;>simp
 ·intro us hus
  exact (List.mem_append.1 hus).elim (hall us) (hn2 us)
 ·rw [List.length_append,List.flatten_append,hnl];exact h2
 ·have hk:∀ c,c < w.heap.size→¬ MO M A c→w'.heap[c]?=w.heap[c]?:=fun c hc hn=>hmod.block c hc fun hcb=>hn (.inr (mem_oA.2 ⟨_,List.mem_of_getElem? hi,hcb⟩))
  have h5:=rdRows_app hrows hn1
  have h6:=rdRows_grow (M':=fun b=>MO M A b∨w.heap.size≤b) (fun b hb h=>h.resolve_right (by omega)) h5
  refine rdRows_grow (fun c _ hM=>?_) (rdRows_keep (w':=w') (fun c hc hn=>hk c hc fun h=>hn (.inl h)) h6)
  rcases hM with hM|hM
  ·exact .inl (.inl hM)
  ·obtain ⟨y,hy,hcy⟩:=mem_oA.1 hM
   rcases List.mem_or_eq_of_mem_set hy with hy|rfl
   ·exact .inl (.inr (mem_oA.2 ⟨y,hy,hcy⟩))
   ·rcases (hnew c hcy).2 with h|h
    ·exact .inl (.inr (mem_oA.2 ⟨_,List.mem_of_getElem? hi,h⟩))
    ·exact .inr h
end
section
variable {P:Program} {n:Nat} {C:Cx} {Q:AQ} {f:AF} {A:List Atm} {d:Option Tmp} {ty:TypeId} {pos:String} {aft:Array Edge} {gg:Option (Nat × Bool)} {M:Nat→Prop} {w w':World}
theorem rdA_map {r:Operand→Value}:∀ {l:List Operand},(∀ x∈l,(eva f x).rd M w (r x))→rdA M w (l.map (eva f)) (l.map r)
 | [],_=>rfl
 | x::l,h=>⟨r x,l.map r,rfl,h x (by simp),rdA_map fun y hy=>h y (by simp [hy])⟩
theorem rdA_app:∀ {l l':List AV} {vs vs':List Value},rdA M w l vs→rdA M w l' vs'→rdA M w (l++l') (vs++vs')
 | [],_,_,_,h,h'=>by cases h;exact h'
 | _::_,_,_,_,⟨x,xs,h1,h2,h3⟩,h'=>by subst h1;exact ⟨x,_,rfl,h2,rdA_app h3 h'⟩
def capA (cap:List Value):List AV:=cap.map fun u=>.one (.v u)
theorem capA_rd:∀ {cap:List Value},cap.all Value.oneCell'=true→rdA M w (capA cap) cap
 | [],_=>rfl
 | u::cap,h=>by
  simp only [List.all_cons,Bool.and_eq_true] at h
  exact ⟨u,cap,rfl,⟨rfl,h.1⟩,capA_rd h.2⟩
theorem call_rd {x:Operand} {avs:Array Operand} {r:Operand→Value} (h:∀ y∈(Op.call {callee:=.value x,args:=avs,argTypes:=#[] }).operands.toList,(eva f y).rd M w (r y)):(eva f x).rd M w (r x)∧∀ y∈avs.toList,(eva f y).rd M w (r y):=
 ⟨h x (by simp [Op.operands,Call.operands]),fun y hy=>h y (by simp [Op.operands,Call.operands];exact .inr (Array.mem_toList_iff.1 hy))⟩
theorem P_clo {g:FuncId} [FnF P g] {c:Operand} {cap:List Value} {avs:Array Operand} {tys:Array TypeId} {as:List AV} {v:AV} (hc:eva f c=.one (.v (.func (.func g) #[] cap.toArray))) (ha:avs.toList.map (eva f)=as) (h1:cap.all Value.oneCell'=true) (h:Pu P g (as++capA cap) v) :
 PuO P f A ⟨d,.call {callee:=.value c,args:=avs,argTypes:=tys },ty,pos,aft,gg⟩ v:=fun M w r hp hx=>by
 obtain ⟨hx1,hx2⟩:=call_rd hx
 have hm:=rdA_map hx2
 rw [ha] at hm
 have e:(avs.toList.map r++cap).toArray=avs.map r++cap.toArray:=by apply Array.ext';simp
 refine S_clo (exact_of hx1 hc) rfl (by
  have:=h (MO M A) w (avs.toList.map r++cap) (MO.lt hp) (rdA_app hm (capA_rd h1))
  rwa [e] at this) fun v w' h=>h
theorem P_call {g:FuncId} [FnF P g] {avs:Array Operand} {tys:Array TypeId} {as:List AV} {v:AV} (ha:avs.toList.map (eva f)=as) (h:Pu P g as v):PuO P f A ⟨d,.call {callee:=.value (.func g),args:=avs,argTypes:=tys },ty,pos,aft,gg⟩ v:=
 P_clo (cap:=[]) rfl ha rfl (by simpa [capA] using h)
theorem leA_rd {l m:List AV} {vs:List Value} (h:leA l m) (hr:rdA M w l vs):rdA M w m vs:=rdA_le h hr
theorem P_callL {g:FuncId} [FnF P g] {avs:Array Operand} {tys:Array TypeId} {as:List AV} {v:AV} (ha:leA (avs.toList.map (eva f)) as) (h:Pu P g as v):PuO P f A ⟨d,.call {callee:=.value (.func g),args:=avs,argTypes:=tys },ty,pos,aft,gg⟩ v:=fun M w r hp hx=>by
 obtain ⟨hx1,hx2⟩:=call_rd hx
 have hm:=leA_rd ha (rdA_map hx2)
 have e:(avs.toList.map r).toArray=avs.map r++#[]:=by apply Array.ext';simp
 exact S_clo (cap:=#[]) (exact_of hx1 rfl) rfl (by
  have:=h (MO M A) w (avs.toList.map r) (MO.lt hp) hm
  rwa [e] at this) fun v w' h=>h
theorem Spec.front {g:Nat} {as:List AV} {A1 B:List Atm} {Q':AV→List Atm→Prop} (h:Spec P g as B Q') (hA:A.Perm (A1++B)):Spec P g as A fun v A'=>∃ B',Q' v B'∧A'=A1++B':=fun M w vs hp hv=>by
 have hp1:=hp.perm hA.symm
 have hmo:∀ b,MO (MO M A1) B b→MO M A b:=fun b hb=>((MO_app b).2 hb).imp id fun h=>(oA_perm hA).symm.subset h
 refine Calls.mono (h (MO M A1) w vs hp1.front (rdA_grow (fun b _=>hmo b) hv)) ?_
 rintro e w' ⟨u,rfl,v,B',hq,hr,hs⟩
 have hs':=hs.front hp1
 refine ⟨u,rfl,v,_,⟨B',hq,rfl⟩,AV.grow (fun b _ hb=>(MO_app b).1 hb) hr,⟨hs'.mod.mono fun b hb=>(oA_perm hA).symm.subset hb,hs'.pre,fun b hb=>(hs'.new b hb).imp (fun h=>(oA_perm hA).symm.subset h) id⟩⟩
theorem O_clo {g:FuncId} [FnF P g] {c:Operand} {cap:List Value} {avs:Array Operand} {tys:Array TypeId} {as:List AV} {Q':AV→List Atm→Prop} (hc:eva f c=.one (.v (.func (.func g) #[] cap.toArray))) (ha:avs.toList.map (eva f)=as) (h1:cap.all Value.oneCell'=true) (h:Spec P g (as++capA cap) A Q') :
 Opn P f A ⟨d,.call {callee:=.value c,args:=avs,argTypes:=tys },ty,pos,aft,gg⟩ Q':=fun M w r hp hx=>by
 obtain ⟨hx1,hx2⟩:=call_rd hx
 have hm:=rdA_map hx2
 rw [ha] at hm
 have e:(avs.toList.map r++cap).toArray=avs.map r++cap.toArray:=by apply Array.ext';simp
 refine S_clo (exact_of hx1 hc) rfl (by
  have:=h M w (avs.toList.map r++cap) hp (rdA_app hm (capA_rd h1))
  rwa [e] at this) fun v w' h=>h
theorem O_call {g:FuncId} [FnF P g] {avs:Array Operand} {tys:Array TypeId} {as:List AV} {Q':AV→List Atm→Prop} (ha:avs.toList.map (eva f)=as) (h:Spec P g as A Q'):Opn P f A ⟨d,.call {callee:=.value (.func g),args:=avs,argTypes:=tys },ty,pos,aft,gg⟩ Q':=
 O_clo (cap:=[]) rfl ha rfl (by simpa [capA] using h)
theorem Spec.pu {g:Nat} {as:List AV} {v:AV} (h:Spec P g as [] fun v' A'=>v'=v∧A'=[]):Pu P g as v:=fun M w vs hM hv=>by
 refine Calls.mono (h M w vs ⟨hM,by simp [oA],by simp [oA],by simp [oA],by simp⟩ (rdA_grow (fun b _ hb=>hb.elim id fun h=>by simp [oA] at h) hv)) ?_
 rintro e w' ⟨u,rfl,v',B',⟨rfl,rfl⟩,hr,hs⟩
 exact ⟨u,rfl,AV.grow (fun b _ hb=>.inl hb) hr,hs.mod⟩
def argA (as:List AV):AF:=fun i=>as.getD i .junk
def aretQ (p:AF→List Atm→Prop):AQ
 | .normal,f,A=>p f A
 | .ret,f,A=>p f A
 | _,_,_=>False
theorem anr {p:AF→List Atm→Prop} (h:p f A):aretQ p .ret f A:=h
theorem ann {p:AF→List Atm→Prop} (h:p f A):aretQ p .normal f A:=h
theorem argA_rd:∀ {as:List AV} {vs:List Value},rdA M w as vs→∀ i,(argA as i).rd M w (argF vs i)
 | [],vs,h,i=>by simp [argA,AV.rd]
 | a::as,vs,⟨x,xs,h1,h2,h3⟩,i=>by
  subst h1
  cases i with
  | zero=>exact h2
  | succ i=>
   have:=argA_rd h3 i
   simpa [argA,argF] using this
variable {g:FuncId} {fn:Func} {c:Code} {as:List AV}
theorem enterS {q:AF→List Atm→Prop} {Q':AV→List Atm→Prop} (hf:P.funcs[g]?=some fn) (hb:fn.body=some c) (hn:fn.ntmps=n) (hl:as.length≤n)
 (hr:∀ (C:Cx) (f:AF) (A':List Atm) (gf:FF) (w':World) (tmps:Array Value),(∀ i,tmps.getD i undef=gf i)→q f A'→Inv C f A' gf w'→∃ v v' A'',(results fn tmps).run P w'=.ok v w'∧Q' v' A''∧v'.rd (MO C.M A'') w' v∧Step C.A0 A'' C.M C.w0 w')
 (h:∀ C:Cx,C.A0=A→AW P n C c (aretQ q) (argA as) A):Spec P g as A Q':=fun M w vs hp hv=>by
 refine enter_any (q:=fun gf w'=>∃ f A',q f A'∧Inv ⟨M,w,A⟩ f A' gf w') hf hb hn (by rw [rdA_len hv];exact hl) ?_ ?_
 ·rintro gf w' tmps ht ⟨f,A',hq,hi⟩
  obtain ⟨v,v',A'',h1,h2,h3,h4⟩:=hr _ f A' gf w' tmps ht hq hi
  exact ⟨v,h1,v',A'',h2,h3,h4⟩
 ·refine W_mono (h ⟨M,w,A⟩ rfl (argF vs) w ⟨.refl hp,argA_rd hv⟩) ?_
  rintro e gf w' ⟨f,A',hq,hi⟩
  cases e<;>first|exact ⟨f,A',hq,hi⟩|exact hq.elim
theorem Inv.sub {A':List Atm} {gf:FF} (hi:Inv C f A gf w) (hs:A'.Sublist A):Inv C f A' gf w:=
 Wk.inv ⟨fun i=>.refl _,A,.refl _,hs⟩ hi
def rvS (gf:FF):ResultVar→Sem Value
 | .tmp t=>pure (gf t)
 | .cell a t=>do loadVar t (← asAddr (gf a))
def R1 (P:Program) (f:AF) (A:List Atm) (x:ResultVar) (a:AV):Prop:=
 ∀ (M:Nat→Prop) (w:World) (gf:FF),Pre A M w→(∀ i,(f i).rd (MO M A) w (gf i))→∃ u,(rvS gf x).run P w=.ok u w∧a.rd (MO M A) w u
theorem R1_tmp {t:Tmp}:R1 P f A (.tmp t) (f t):=fun _ _ gf _ h=>⟨gf t,rfl,h t⟩
theorem R1_cell {t:Tmp} {T T':TypeId} {sz:Nat} {z:Value} [F:TyF P T true sz z] {b o:Nat} {ds cs:List D} (hx:f t=.one (.v (.pointer (some ⟨b,o,none⟩)))) (hm:abox b ds T'∈A) (hc:(ds.drop o).take sz=cs) (hl:Nat.beq cs.length sz=true):R1 P f A (.cell t T) (.agg cs):=fun M w gf hp h=>by
 obtain ⟨vs,h1,h2⟩:=hp.ats _ hm
 have h3:rdC (MO M A) w cs ((vs.drop o).take sz):=hc▸rdC_take sz (rdC_drop o h2)
 have h4:=h t
 rw [hx] at h4
 have h5:=runC_run _ _ (loadVar_CN (P:=P) (t:=T) (block_cells h1 (o:=o) (n:=sz) rfl) (by rw [rdC_len h3];exact Nat.eq_of_beq_eq_true hl))
 exact ⟨_,by simp [rvS,h4.1,asAddr,h5],_,rfl,h3⟩
def VwD (A:List Atm) (d d':D):Prop:=∀ (M:Nat→Prop) (w:World) (u:Value),Pre A M w→d.rd (MO M A) w u→d'.rd M w u
def VwC (A:List Atm) (l l':List D):Prop:=∀ (M:Nat→Prop) (w:World) (u:List Value),Pre A M w→rdC (MO M A) w l u→rdC M w l' u
def VwA (A:List Atm) (a a':AV):Prop:=∀ (M:Nat→Prop) (w:World) (u:Value),Pre A M w→a.rd (MO M A) w u→a'.rd M w u
def VwL (A:List Atm) (l l':List AV):Prop:=∀ (M:Nat→Prop) (w:World) (u:List Value),Pre A M w→rdA (MO M A) w l u→rdA M w l' u
theorem VwD.refl (d:D):VwD A d d:=fun _ _ _ _ h=>D.grow (fun _ _ h=>.inl h) h
theorem VwC.refl (d:List D):VwC A d d:=fun _ _ _ _ h=>rdC_grow (fun _ _ h=>.inl h) h
theorem VwA.refl (d:AV):VwA A d d:=fun _ _ _ _ h=>AV.grow (fun _ _ h=>.inl h) h
theorem VwD.nil {p:Option Addr} {c sz:Nat}:VwD A (.v (.slice p 0 c)) (.s sz []):=fun _ _ _ _ h=>⟨p,c,h.1,Nat.zero_le _,.inl rfl⟩
theorem rdR_rows {sz b:Nat}:∀ {o:Nat} {rows:List (List D)} {vss:List (List Value)},rdRows M w rows vss→(∀ vs∈vss,vs.length=sz)→Cells w b o vss.flatten→rdR M w sz b o rows
 | _,[],[],_,_,_=>trivial
 | o,r::rs,v::vss,⟨h1,h2⟩,h3,h4=>by
  rw [List.flatten_cons] at h4
  obtain ⟨h5,h6⟩:=Cells.append.1 h4
  rw [h3 v (by simp)] at h6
  exact ⟨⟨v,h3 v (by simp),h1,h5⟩,rdR_rows h2 (fun x hx=>h3 x (by simp [hx])) h6⟩
theorem row_rd {e:TypeId} {sz:Nat} {u:Value} {rows:List (List D)} (hok:(arow e sz u rows).ok M w) (hn:∀ b∈(arow e sz u rows).own,¬ M b∧b < w.heap.size):(D.s sz rows).rd M w u:=by
 obtain ⟨vss,⟨hall,hlen,hrow⟩,hr⟩:=hok
 have hvl:=rdRows_len hr
 rcases hrow with ⟨rfl,h0⟩ | ⟨b,cap,cur,rfl,_,hg,hnc,_,hcs,htake⟩
 ·have:rows=[]:=List.eq_nil_of_length_eq_zero (by omega)
  subst this
  exact ⟨none,0,rfl,Nat.zero_le _,.inl rfl⟩
 ·obtain ⟨hM,hb⟩:=hn b (by simp [arow,Value.ownBlock])
  refine ⟨some ⟨b,0,none⟩,cap,by rw [hvl],by rw [← hvl];exact hnc,.inr ⟨b,0,rfl,hM,hb,rdR_rows hr hall fun j u hj=>?_⟩⟩
  rw [← htake,List.getElem?_take] at hj
  split at hj
  ·rw [Nat.zero_add]
   simp only [World.cell?,hg]
   simpa using hj
  ·cases hj
theorem VwD.row {e:TypeId} {sz:Nat} {u:Value} {rows rows':List (List D)} (hm:arow e sz u rows∈A) (hr:rows=rows'):VwD A (.v u) (.s sz rows'):=fun M w y hp h=>by
 subst hr
 rw [h.1]
 exact row_rd ((arow e sz u rows).grow _ _ w (fun b _ h=>.inl h) (hp.ats _ hm)) fun b hb=>⟨hp.dis b (mem_oA.2 ⟨_,hm,hb⟩),hp.lt b (mem_oA.2 ⟨_,hm,hb⟩)⟩
theorem VwC.nil:VwC A [] []:=fun _ _ _ _ h=>h
theorem VwC.cons {d d':D} {l l':List D} (h:VwD A d d') (k:VwC A l l'):VwC A (d::l) (d'::l'):=fun M w u hp ⟨x,xs,h1,h2,h3⟩=>⟨x,xs,h1,h M w x hp h2,k M w xs hp h3⟩
theorem VwA.one {d d':D} (h:VwD A d d'):VwA A (.one d) (.one d'):=h
theorem VwA.agg {l l':List D} (h:VwC A l l'):VwA A (.agg l) (.agg l'):=fun M w u hp ⟨vs,h1,h2⟩=>⟨vs,h1,h M w vs hp h2⟩
theorem VwL.nil:VwL A [] []:=fun _ _ _ _ h=>h
theorem VwL.cons {d d':AV} {l l':List AV} (h:VwA A d d') (k:VwL A l l'):VwL A (d::l) (d'::l'):=fun M w u hp ⟨x,xs,h1,h2,h3⟩=>⟨x,xs,h1,h M w x hp h2,k M w xs hp h3⟩
theorem VwA.tup {l l':List AV} (h:VwL A l l'):VwA A (.tup l) (.tup l'):=fun M w u hp ⟨vs,h1,h2⟩=>⟨vs,h1,h M w vs hp h2⟩
theorem VwA.eq {a b c:AV} (h:VwA A a b) (e:b=c):VwA A a c:=e▸h
theorem Inv.freeze {i t:Nat} {e:TypeId} {sz:Nat} {u:Value} {rows:List (List D)} {gf:FF} (hi:Inv C f A gf w) (ha:A[i]?=some (arow e sz u rows)) (ht:f t=.one (.v u)):Inv C (au f t (.one (.s sz rows))) (A.eraseIdx i) gf w:=by
 have hA:A.Perm (A.eraseIdx i++[arow e sz u rows]):=by
  obtain ⟨e1,_⟩:=set_split (y:=arow e sz u rows) ha
  have e2:A.eraseIdx i=A.take i++A.drop (i+1):=List.eraseIdx_eq_take_drop_succ ..
  rw [e2]
  exact (List.Perm.of_eq e1).trans (List.perm_middle.trans (List.perm_append_singleton _ _).symm)
 have hs:(A.eraseIdx i).Sublist A:=List.eraseIdx_sublist ..
 have hi':=hi.sub hs
 refine ⟨hi'.st,fun j=>?_⟩
 by_cases hj:j=t
 ·subst hj
  have h1:=hi.fr j
  rw [ht] at h1
  have e3:au f j (.one (.s sz rows)) j=.one (.s sz rows):=by simp [au]
  rw [e3,h1.1]
  have hp:=(hi.st.pre.perm hA.symm)
  refine row_rd ((arow e sz u rows).grow _ _ w (fun b _ h=>?_) (hi.st.pre.ats _ (List.mem_of_getElem? ha))) fun b hb=>⟨?_,hi.st.pre.lt b (mem_oA.2 ⟨_,List.mem_of_getElem? ha,hb⟩)⟩
  ·exact h.imp id fun h=>(oA_sub hs).subset h
  ·have:=hp.front.dis b (by simp [oA];exact hb)
   exact this
 ·have e3:au f t (.one (.s sz rows)) j=f j:=by
   have hb:Nat.beq j t=false:=by cases hb:Nat.beq j t with|false=>rfl|true=>exact absurd (Nat.eq_of_beq_eq_true hb) hj
   simp [au,hb]
  rw [e3];exact hi'.fr j
theorem AO_freeze {i t:Nat} {e:TypeId} {sz:Nat} {u:Value} {rows:List (List D)} {ops:Array Oper} {K:AF→List Atm→Prop} {rest:List Oper} (ha:A[i]?=some (arow e sz u rows)) (ht:f t=.one (.v u)) (k:AO P n C ops K rest (au f t (.one (.s sz rows))) (A.eraseIdx i)):AO P n C ops K rest f A:=fun g w hi=>k g w (hi.freeze ha ht)
def AV.of1:List AV→AV
 | [a]=>a
 | l=>.tup l
def RV (P:Program) (f:AF) (A:List Atm):List ResultVar→List AV→Prop
 | [],l=>l=[]
 | x::xs,l=>∃ a as,l=a::as∧R1 P f A x a∧RV P f A xs as
theorem RV_run {gf:FF} (hp:Pre A M w) (h:∀ i,(f i).rd (MO M A) w (gf i)):∀ {xs:List ResultVar} {as:List AV},RV P f A xs as→∃ us,(xs.mapM (rvS gf)).run P w=.ok us w∧rdA (MO M A) w as us
 | [],as,h'=>by cases h';exact ⟨[],rfl,rfl⟩
 | x::xs,as,⟨a,as',h1,h2,h3⟩=>by
  subst h1
  obtain ⟨u,h4,h5⟩:=h2 M w gf hp h
  obtain ⟨us,h6,h7⟩:=RV_run hp h h3
  exact ⟨u::us,by simp [h4,h6],u,us,rfl,h5,h7⟩
theorem results_run {gf:FF} {tmps:Array Value} (ht:∀ i,tmps.getD i undef=gf i) {xs:List ResultVar} (hx:fn.results=xs.toArray) {us:List Value} (h:(xs.mapM (rvS gf)).run P w=.ok us w):(results fn tmps).run P w=.ok (if h:us.length=1 then us[0] else .tuple us.toArray) w:=by
 have e:(fun x:ResultVar=>match x with
  | .tmp t=>pure (tmps.getD t undef)
  | .cell a t=>(do loadVar t (← asAddr (tmps.getD a undef)):Sem Value))=rvS gf:=by
  funext x;cases x<;>simp [rvS,ht]
 have e2:results fn tmps=(do let vs ← fn.results.mapM (rvS gf);pure (if h:vs.size=1 then vs[0] else .tuple vs)):=
  congrArg (fun F:ResultVar→Sem Value=>(do let vs ← fn.results.mapM F;pure (if h:vs.size=1 then vs[0] else .tuple vs))) e
 rw [e2,hx,List.mapM_toArray]
 simp only [Sem.run_bind,Sem.run_map,h]
 simp
theorem of1_rd {as:List AV} {us:List Value} (h:rdA M w as us):(AV.of1 as).rd M w (if h:us.length=1 then us[0] else .tuple us.toArray):=by
 match as,h with
 | [],h=>cases h;exact ⟨[],rfl,rfl⟩
 | [a],⟨x,xs,h1,h2,h3⟩=>cases h3;subst h1;simpa [AV.of1] using h2
 | a::b::l,⟨x,xs,h1,h2,y,ys,h3,h4⟩=>
  subst h1 h3
  simp only [List.length_cons]
  rw [dif_neg (by omega)]
  exact ⟨_,rfl,x,_,rfl,h2,y,ys,rfl,h4⟩
theorem pu {xs:List ResultVar} {v:AV} (hf:P.funcs[g]?=some fn) (hb:fn.body=some c) (hn:fn.ntmps=n) (hres:fn.results=xs.toArray) (hl:Nat.ble as.length n=true)
 (h:∀ C:Cx,AW P n C c (aretQ fun f A=>∃ l,RV P f A xs l∧VwA A (AV.of1 l) v) (argA as) []):Pu P g as v:=
 Spec.pu (enterS hf hb hn (Nat.le_of_ble_eq_true hl) (fun C f A' gf w' tmps ht ⟨l,h1,h2⟩ hi=>by
  obtain ⟨us,h3,h4⟩:=RV_run hi.st.pre hi.fr h1
  have hs:Step C.A0 [] C.M C.w0 w':=(hi.sub (List.nil_sublist A')).st
  refine ⟨_,v,[],results_run ht hres h3,⟨rfl,rfl⟩,AV.grow (fun b _ hb=>hb.elim id fun h=>by simp [oA] at h) (h2 C.M w' _ hi.st.pre (of1_rd h4)),hs⟩) fun C _=>h C)
theorem sp {xs:List ResultVar} {Q':AV→List Atm→Prop} (hf:P.funcs[g]?=some fn) (hb:fn.body=some c) (hn:fn.ntmps=n) (hres:fn.results=xs.toArray) (hl:Nat.ble as.length n=true)
 (h:∀ C:Cx,AW P n C c (aretQ fun f A'=>∃ l v A'',RV P f A' xs l∧Q' v A''∧(AV.of1 l).le v∧Wk f A' f A'') (argA as) A):Spec P g as A Q':=
 enterS hf hb hn (Nat.le_of_ble_eq_true hl) (fun C f A' gf w' tmps ht ⟨l,v,A'',h1,h2,h3,h4⟩ hi=>by
  obtain ⟨us,h5,h6⟩:=RV_run hi.st.pre hi.fr h1
  have hi':=h4.inv hi
  have hsub:∀ b,MO C.M A'' b→MO C.M A' b:=fun b hb=>hb.imp id fun hb=>by
   obtain ⟨B,hp,hs⟩:=h4.ats
   exact (oA_perm hp).subset ((oA_sub hs).subset hb)
  exact ⟨_,v,A'',results_run ht hres h5,h2,AV.grow (fun b _=>hsub b) (h3 _ _ _ (of1_rd h6)),hi'.st⟩) fun C _=>h C
end
def slA (a:Option Addr) (l c sz:Nat):Option Addr:=if c=l then a else a.map (·.add (l * sz))
def bnd (r:Operand→Value) (o:Option Operand) (dflt v:Nat):Prop:=match o with
 | none=>v=dflt
 | some x=>∃ k,r x=.int k (v:Nat)
section
variable {P:Program} {w:World} {r:Operand→Value} {d:Option Tmp} {ty:TypeId} {pos:String} {aft:Array Edge} {g:Option (Nat × Bool)}
theorem runC_sliceBound {k:IntKind} {i y:Nat} {code:BoundsCode} (h:i≤y):runC P w (Instr.sliceBound (.int k (i:Nat)) y code)=some i:=by
 unfold Instr.sliceBound
 rw [runC_bind]
 have:runC P w (asIntOf (.int k (i:Nat)))=some (k,((i:Nat):Int)):=rfl
 rw [this]
 simp only [Option.bind_some]
 rw [if_pos ⟨by omega,by omega⟩]
 simp [runC_pure]
theorem X_slice {t e:TypeId} {agg:Bool} {sz:Nat} {z:Value} [G:SlF P t e] [F:TyF P e agg sz z] (x:Operand) (lo hi:Option Operand) {a:Option Addr} {n c:Nat} (l h:Nat) (hx:r x=.slice a n c) (hlo:bnd r lo 0 l) (hhi:bnd r hi n h) (h1:l≤h) (h2:h≤c) (h3:n≤c) :
 runC P w (execOp r ⟨d,.slice t x lo hi none,ty,pos,aft,g⟩)=some (.value (.slice (slA a l c sz) (h - l) (c - l))):=by
 show runC P w (Instr.sliceAt t (r x) (lo.map r) (hi.map r) none >>= fun v=>pure (Next.value v))=_
 unfold Instr.sliceAt Instr.slice
 simp only [bind_assoc]
 rw [runC_bind,runC_underlying G.und,hx]
 simp only [Option.bind_some,bind_assoc]
 rw [runC_bind,runC_underlying G.und]
 simp only [Option.bind_some,bind_assoc]
 have hb:runC P w (Instr.sliceBounds true n c (lo.map r) (hi.map r) none)=some (l,h,c):=by
  unfold Instr.sliceBounds
  cases lo with
  | none=>
   have hl:l=0:=hlo
   subst hl
   cases hi with
   | none=>
    have hh:h=n:=hhi
    subst hh
    simp [runC_pure]
   | some y=>
    obtain ⟨k,hy⟩:=hhi
    simp only [Option.map_some,Option.map_none,hy,pure_bind,runC_bind,runC_sliceBound h2,Option.bind_some,runC_pure]
  | some y=>
   obtain ⟨k,hy⟩:=hlo
   cases hi with
   | none=>
    have hh:h=n:=hhi
    subst hh
    simp only [Option.map_some,Option.map_none,hy,pure_bind,runC_bind,runC_sliceBound h1,Option.bind_some,runC_pure]
   | some y'=>
    obtain ⟨k',hy'⟩:=hhi
    simp only [Option.map_some,hy,hy',pure_bind,runC_bind,runC_sliceBound h1,runC_sliceBound h2,Option.bind_some,runC_pure]
 rw [runC_bind,hb]
 simp only [Option.bind_some]
 rw [runC_bind,F.size]
 simp only [Option.bind_some,runC_pure,pure_bind]
 unfold slA
 rfl
end
section
variable {P:Program} {f:AF} {A:List Atm} {d:Option Tmp} {ty:TypeId} {pos:String} {aft:Array Edge} {gg:Option (Nat × Bool)} {M:Nat→Prop} {w:World}
def bndA (f:AF):Option Operand→Nat→Nat→Prop
 | none,dflt,v=>v=dflt
 | some x,_,v=>∃ k,eva f x=.one (.v (.int k (v:Nat)))
theorem bnd_of {r:Operand→Value} {o:Option Operand} {dflt v:Nat} (h:bndA f o dflt v) (hr:∀ x,o=some x→(eva f x).rd M w (r x)):bnd r o dflt v:=by
 cases o with
 | none=>exact h
 | some x=>obtain ⟨k,hk⟩:=h;exact ⟨k,exact_of (hr x rfl) hk⟩
theorem P_slice {t e:TypeId} {agg:Bool} {sz:Nat} {z:Value} [G:SlF P t e] [F:TyF P e agg sz z] (x:Operand) (lo hi:Option Operand) {rows:List (List D)} (l h:Nat) (hx:eva f x=.one (.s sz rows)) (hlo:bndA f lo 0 l) (hhi:bndA f hi rows.length h) (h1:l≤h) (h2:h≤rows.length) :
 PuO P f A ⟨d,.slice t x lo hi none,ty,pos,aft,gg⟩ (.one (.s sz ((rows.take h).drop l))):=PuO_rd fun M w r hp hr=>by
 have hx1:=hr x (by simp [Op.operands])
 rw [hx] at hx1
 obtain ⟨a,c,h3,h4,h5⟩:=hx1
 refine ⟨_,X_slice x lo hi l h h3 (bnd_of hlo fun y hy=>hr y (by simp [Op.operands,hy])) (bnd_of hhi fun y hy=>hr y (by simp [Op.operands,hy])) h1 (by omega) h4,slA a l c sz,c - l,by rw [List.length_drop,List.length_take,Nat.min_eq_left h2],by rw [List.length_drop,List.length_take];omega,?_⟩
 rcases h5 with rfl | ⟨b,o,rfl,hM,hb,hR⟩
 ·exact .inl (by simp)
 ·by_cases hc:c=l
  ·left
   apply List.eq_nil_of_length_eq_zero
   rw [List.length_drop,List.length_take];omega
  ·right
   refine ⟨b,o+l * sz,?_,hM,hb,rdR_drop l (rdR_take h hR)⟩
   unfold slA
   rw [if_neg hc]
   simp [Addr.add]
def rowsP (f:AF) (sz:Nat):Nat→List (Nat × Operand)→Option (List (List D))
 | _,[]=>some []
 | k,(i,x)::l=>cond (Nat.beq i k) (match (eva f x).cellsD with
  | some c=>cond (Nat.beq c.length sz) ((rowsP f sz (k+1) l).map (c::·)) none
  | none=>none) none
def ix:Nat→List (List Value)→List (Nat × List Value)
 | _,[]=>[]
 | k,v::l=>(k,v)::ix (k+1) l
theorem rowsP_rd {sz:Nat} {r:Operand→Value}:∀ {k:Nat} {ps:List (Nat × Operand)} {rows:List (List D)},rowsP f sz k ps=some rows→(∀ p∈ps,(eva f p.2).rd M w (r p.2))→
 ∃ vss,rdRows M w rows vss∧(∀ vs∈vss,vs.length=sz)∧ps.map (fun p=>(p.1,(r p.2).cells))=(ix k vss).map (fun q=>(q.1,q.2.toArray))∧vss.length=ps.length
 | _,[],rows,h,_=>by cases h;exact ⟨[],trivial,by simp,rfl,rfl⟩
 | k,(i,x)::ps,rows,h,hx=>by
  unfold rowsP at h
  cases hik:Nat.beq i k with
  | false=>rw [hik] at h;cases h
  | true=>
   rw [hik,cond_true] at h
   have hik:=Nat.eq_of_beq_eq_true hik
   subst hik
   split at h
   ·rename_i c hc
    cases hl:Nat.beq c.length sz with
    | false=>rw [hl] at h;cases h
    | true=>
     rw [hl,cond_true] at h
     obtain ⟨rows',h1,rfl⟩:=Option.map_eq_some_iff.1 h
     obtain ⟨vss,h2,h3,h4,h5⟩:=rowsP_rd h1 fun p hp=>hx p (by simp [hp])
     obtain ⟨vs,h6,h7⟩:=cellsD_rd hc (hx (i,x) (by simp))
     refine ⟨vs::vss,⟨h7,h2⟩,fun v hv=>?_,by simp [ix,h4,h6],by simp [h5]⟩
     rcases List.mem_cons.1 hv with rfl|hv
     ·rw [rdC_len h7];exact Nat.eq_of_beq_eq_true hl
     ·exact h3 v hv
   ·cases h
theorem lfill_ix {sz:Nat}:∀ {vss:List (List Value)} {k:Nat} {zs:List Value},(∀ vs∈vss,vs.length=sz)→zs.length=(k+vss.length) * sz→lfill (fun i=>some (i * sz,sz)) zs (ix k vss)=some (zs.take (k * sz)++vss.flatten)
 | [],k,zs,_,hz=>by simp only [ix,lfill,List.flatten_nil,List.append_nil];rw [List.take_of_length_le (by rw [hz];simp)]
 | v::vss,k,zs,h,hz=>by
  have hv:=h v (by simp)
  have hz':zs.length=k * sz+sz+vss.length * sz:=by rw [hz,List.length_cons,show k+(vss.length+1)=k+1+vss.length by omega,Nat.add_mul,Nat.add_mul];omega
  simp only [ix,lfill]
  rw [if_neg (by simp [hv];omega),lfill_ix (fun x hx=>h x (by simp [hx])) (by rw [putAt_len (by omega),hz,List.length_cons,show k+(vss.length+1)=k+1+vss.length by omega])]
  congr 1
  rw [List.flatten_cons,← List.append_assoc]
  congr 1
  unfold putAt
  rw [show (k+1) * sz=k * sz+sz by rw [Nat.add_mul];omega,← List.append_assoc,List.take_append_of_le_length (by simp;omega),List.take_of_length_le (by simp;omega)]
theorem run_bslice {t e:TypeId} {agg:Bool} {sz:Nat} {z:Value} [G:SlF P t e] [F:TyF P e agg sz z] (hz:z.cells.size=sz) {n:Nat} (hn:n * sz≤16777216) (hn0:n * sz≠0) {ps:Array (Nat × Operand)} {r:Operand→Value} (qs:List (Nat × List Value)) (hq:ps.toList.map (fun p=>(p.1,(r p.2).cells))=qs.map (fun q=>(q.1,q.2.toArray))) {xs:List Value}
 (hf:∀ zs:List Value,zs.length=n * sz→lfill (fun i=>some (i * sz,sz)) zs qs=some xs):(execOp r ⟨d,.buildSlice t n ps,ty,pos,aft,gg⟩).run P w=.ok (.value (.slice (some ⟨w.heap.size,0,none⟩) n n)) (w.alloc (.cells xs.toArray e)):=by
 have hzz:z.cells=z.cells.toList.toArray:=by simp
 have hzl:z.cells.toList.length=sz:=by simpa using hz
 show (Instr.buildSlice t n (ps.map fun x=>(x.1,r x.2)) >>= fun v=>pure (Next.value v)).run P w=_
 unfold Instr.buildSlice
 simp only [bind_assoc,Sem.run_bind,runC_run _ _ (runC_underlying G.und),Result.andThen_ok,runC_run _ _ (F.size w)]
 rw [if_neg (by omega)]
 simp only [Sem.run_bind,Sem.run_pure,Result.andThen_ok,if_neg hn0,runC_run _ _ (F.zero w)]
 have e1:((Array.range (n * sz)).map (z.cells[· % z.cells.size]!))=((List.range (n * sz)).map fun i=>z.cells.toList[i % sz]!).toArray:=by
  have:=zero_cells z.cells.toList n
  rw [hzl] at this
  simpa [hz] using this
 rw [e1,fill_list _ _ qs _ (by simpa [Function.comp_def] using hq),hf _ (by simp)]
 simp [newRow,newObj]
 rfl
theorem P_bs {t e:TypeId} {agg:Bool} {sz n:Nat} {z:Value} [G:SlF P t e] [F:TyF P e agg sz z] {ps:Array (Nat × Operand)} {rows:List (List D)} (hr:rowsP f sz 0 ps.toList=some rows) (hz:z.cells.size=sz) (hl:ps.size=n) (hn:Nat.ble (n * sz) 16777216=true) (h0:Nat.blt 0 (n * sz)=true) :
 PuO P f A ⟨d,.buildSlice t n ps,ty,pos,aft,gg⟩ (.one (.s sz rows)):=fun M w r hp hx=>by
 obtain ⟨vss,h1,h2,h3,h4⟩:=rowsP_rd (r:=r) hr fun p hp=>hx p.2 (by simp [Op.operands];exact ⟨p.1,Array.mem_toList_iff.1 hp⟩)
 have hvn:vss.length=n:=by rw [h4];simpa using hl
 have h0':0 < n * sz:=Nat.le_of_ble_eq_true h0
 have hm:Mod [] w (w.alloc (.cells vss.flatten.toArray e)):=(Mod.refl _ _).alloc _
 refine S_run (run_bslice hz (Nat.le_of_ble_eq_true hn) (by omega) (ix 0 vss) h3 (xs:=vss.flatten) fun zs hzs=>by
  rw [lfill_ix h2 (by rw [hzs,hvn];simp)];simp) ⟨⟨_,n,by rw [← rdRows_len h1,hvn],by rw [← rdRows_len h1,hvn];exact Nat.le_refl _,.inr ⟨w.heap.size,0,rfl,fun h=>by have:=MO.lt hp _ h;omega,by simp,?_⟩⟩,hm⟩
 refine rdR_rows (rdRows_keep (fun b hb _=>hm.block b hb (by simp)) h1) h2 fun j u hj=>?_
 rw [Nat.zero_add]
 have:(w.alloc (.cells vss.flatten.toArray e)).heap[w.heap.size]?=some (.cells vss.flatten.toArray e (0,0)):=by show (w.heap.push _)[w.heap.size]?=_;simp
 simp only [World.cell?,this]
 simpa using hj
theorem run_bslice0 {t e:TypeId} {agg:Bool} {sz:Nat} {z:Value} [G:SlF P t e] [F:TyF P e agg sz z] {r:Operand→Value}:(execOp r ⟨d,.buildSlice t 0 #[],ty,pos,aft,gg⟩).run P w=.ok (.value (.slice (some ⟨w.heap.size,0,none⟩) 0 0)) (w.alloc (.cells #[] e)):=by
 show (Instr.buildSlice t 0 ((#[]:Array (Nat × Operand)).map fun x=>(x.1,r x.2)) >>= fun v=>pure (Next.value v)).run P w=_
 unfold Instr.buildSlice
 simp only [bind_assoc,Sem.run_bind,runC_run _ _ (runC_underlying G.und),Result.andThen_ok,runC_run _ _ (F.size w)]
 have e0:Array.range 0=#[]:=rfl
 simp [Instr.fill,newRow,newObj,e0]
 rfl
theorem P_bs0 {t e:TypeId} {agg:Bool} {sz:Nat} {z:Value} [G:SlF P t e] [F:TyF P e agg sz z]:PuO P f A ⟨d,.buildSlice t 0 #[],ty,pos,aft,gg⟩ (.one (.s sz [])):=fun M w r hp hx=>
 S_run run_bslice0 ⟨⟨_,0,rfl,Nat.le_refl _,.inl rfl⟩,(Mod.refl _ _).alloc _⟩
theorem O_bs0 {t e:TypeId} {agg:Bool} {sz:Nat} {z:Value} [G:SlF P t e] [F:TyF P e agg sz z]:Opn P f A ⟨d,.buildSlice t 0 #[],ty,pos,aft,gg⟩ fun v A'=>∃ u,v=.one (.v u)∧A'=arow e sz u []::A:=fun M w r hp hx=>by
 have hm:Mod [] w (w.alloc (.cells #[] e)):=(Mod.refl _ _).alloc _
 refine S_run run_bslice0 ⟨_,_,⟨.slice (some ⟨w.heap.size,0,none⟩) 0 0,rfl,rfl⟩,⟨rfl,rfl⟩,hp.cons hm (by simp [arow,Value.ownBlock]) (by simp [arow,Value.ownBlock]) ⟨[],⟨by simp,by simp,.inr ⟨w.heap.size,0,#[],rfl,Nat.zero_le _,?_,Nat.zero_le _,Nat.zero_le _,by simp,by simp⟩⟩,trivial⟩⟩
 show (w.heap.push _)[w.heap.size]?=_
 simp
theorem O_bs {t e:TypeId} {agg:Bool} {sz n:Nat} {z:Value} [G:SlF P t e] [F:TyF P e agg sz z] {ps:Array (Nat × Operand)} {rows:List (List D)} (hr:rowsP f sz 0 ps.toList=some rows) (hz:z.cells.size=sz) (hl:ps.size=n) (hn:Nat.ble (n * sz) 16777216=true) (h0:Nat.blt 0 (n * sz)=true) (hn':Nat.ble n 16777216=true) :
 Opn P f A ⟨d,.buildSlice t n ps,ty,pos,aft,gg⟩ fun v A'=>∃ u,v=.one (.v u)∧A'=arow e sz u rows::A:=fun M w r hp hx=>by
 obtain ⟨vss,h1,h2,h3,h4⟩:=rowsP_rd (r:=r) hr fun p hp=>hx p.2 (by simp [Op.operands];exact ⟨p.1,Array.mem_toList_iff.1 hp⟩)
 have hvn:vss.length=n:=by rw [h4];simpa using hl
 have h0':0 < n * sz:=Nat.le_of_ble_eq_true h0
 have hn'':=Nat.le_of_ble_eq_true hn'
 have hm:Mod [] w (w.alloc (.cells vss.flatten.toArray e)):=(Mod.refl _ _).alloc _
 refine S_run (run_bslice hz (Nat.le_of_ble_eq_true hn) (by omega) (ix 0 vss) h3 (xs:=vss.flatten) fun zs hzs=>by
  rw [lfill_ix h2 (by rw [hzs,hvn];simp)];simp) ⟨_,_,⟨.slice (some ⟨w.heap.size,0,none⟩) n n,rfl,rfl⟩,⟨rfl,rfl⟩,hp.cons hm (by simp [arow,Value.ownBlock]) (by simp [arow,Value.ownBlock]) ⟨vss,⟨h2,flatten_len h2,.inr ⟨w.heap.size,n,vss.flatten.toArray,by rw [hvn],Nat.zero_le _,?_,by omega,by unfold maxLen;omega,by simp [flatten_len h2,hvn],?_⟩⟩,?_⟩⟩
 ·show (w.heap.push _)[w.heap.size]?=_
  simp
 ·rw [hvn,List.take_of_length_le (by simp [flatten_len h2,hvn])]
 ·have h5:=rdRows_grow (M':=fun b=>MO M A b∨w.heap.size≤b) (fun b hb h=>h.resolve_right (by omega)) h1
  refine rdRows_grow (fun b _ hM=>?_) (rdRows_keep (w':=w.alloc (.cells vss.flatten.toArray e)) (fun b hb _=>hm.block b hb (by simp)) h5)
  rcases hM with hM|hM
  ·exact .inl (.inl hM)
  ·rw [oA_cons] at hM
   rcases List.mem_append.1 hM with h|h
   ·exact .inr (by simp [arow,Value.ownBlock] at h;omega)
   ·exact .inl (.inr h)
theorem Inv.nilRow {C:Cx} {f:AF} {gf:FF} (hi:Inv C f A gf w) (e:TypeId) (sz:Nat):Inv C f (arow e sz (.slice none 0 0) []::A) gf w:=by
 have hs:Step A (arow e sz (.slice none 0 0) []::A) C.M w w:=hi.st.pre.cons (Mod.refl _ _) (by simp [arow,Value.ownBlock]) (by simp [arow,Value.ownBlock]) ⟨[],⟨by simp,by simp,.inl ⟨rfl,rfl⟩⟩,trivial⟩
 exact ⟨hi.st.trans hs,fun i=>hs.keep (hi.fr i)⟩
end
def obv:Option Bool→AV
 | some b=>.one (.v (.bool b))
 | none=>.tup []
theorem yl_obv {M:Nat→Prop} {w:World} {ops:Array Oper} {g:FF} {j t:Nat} {c:Option Bool} (h:(ops[j]?).bind (·.dst)=some t) (h4:(obv c).rd M w (g t)):yl ops g j=c:=by
 cases c with
 | some c=>simp [yl,h,h4.1]
 | none=>have:=undef_eq h4;simp [yl,h,this,undef]
def RStep (P:Program) (ops:Array Oper) (f:AF) (A:List Atm) (o:Oper) (v:AV):Prop:=
 match o.guard with
 | none=>PuO P f A o v
 | some (j,b)=>∃ t c,(ops[j]?).bind (·.dst)=some t∧f t=obv c∧if c=some b then PuO P f A o v else v=.tup []
def AR (P:Program) (ops:Array Oper) (A:List Atm) (K:AF→Prop):List Nat→AF→Prop
 | [],f=>K f
 | i::rest,f=>∃ v,(∀ o,ops[i]?=some o→RStep P ops f A o v)∧AR P ops A K rest (auo f (dsts ops i) v)
def ach (ops:Array Oper) (val:Nat→AV):List Nat→AF→AF
 | [],f=>f
 | i::rest,f=>ach ops val rest (auo f (dsts ops i) (val i))
def AD (P:Program) (n:Nat) (C:Cx) (ops:Array Oper) (K:AF→List Atm→Prop) (k:Nat) (f:AF) (A:List Atm):Prop:=
 ∀ g w,Inv C f A g w→WD P n ops (fun g w=>∃ f A,K f A∧Inv C f A g w) k g w
section
variable {P:Program} {ops:Array Oper} {A:List Atm} {val:Nat→AV}
theorem ach_app:∀ (l l':List Nat) (f:AF),ach ops val (l++l') f=ach ops val l' (ach ops val l f)
 | [],_,_=>rfl
 | _::r,l',f=>by simp only [List.cons_append,ach];exact ach_app r l' _
theorem ach_congr {val':Nat→AV}:∀ (l:List Nat) (f:AF),(∀ i∈l,val i=val' i)→ach ops val l f=ach ops val' l f
 | [],_,_=>rfl
 | i::r,f,h=>by simp only [ach];rw [h i (by simp)];exact ach_congr r _ fun j hj=>h j (by simp [hj])
theorem auo_ne {f:AF} {d:Option Nat} {v:AV} {t:Nat} (h:d≠some t):auo f d v t=f t:=by
 cases d with
 | none=>rfl
 | some d=>
  have:t≠d:=fun e=>h (by rw [e])
  have hb:Nat.beq t d=false:=by cases hb:Nat.beq t d with|false=>rfl|true=>exact absurd (Nat.eq_of_beq_eq_true hb) this
  simp [auo,au,hb]
theorem au_same {f:AF} {t:Nat} {v:AV}:au f t v t=v:=by simp [au]
theorem ach_old (t:Nat):∀ (l:List Nat) (f:AF),(∀ i∈l,dsts ops i≠some t)→ach ops val l f t=f t
 | [],_,_=>rfl
 | i::r,f,h=>by
  simp only [ach]
  rw [ach_old t r _ fun j hj=>h j (by simp [hj]),auo_ne (h i (by simp))]
theorem ach_at (t j:Nat):∀ (l:List Nat) (f:AF),j∈l→dsts ops j=some t→(∀ i∈l,dsts ops i=some t→i=j)→ach ops val l f t=val j
 | i::r,f,hj,hd,hu=>by
  simp only [ach]
  by_cases hr:j∈r
  ·exact ach_at t j r _ hr hd fun i hi=>hu i (by simp [hi])
  ·have hij:i=j:=(List.mem_cons.1 hj).elim Eq.symm fun h=>absurd h hr
   subst hij
   rw [ach_old t r _ fun x hx e=>hr (hu x (by simp [hx]) e▸hx),hd]
   exact au_same
theorem AR_val {K:AF→Prop}:∀ (n i:Nat) (f:AF),AR P ops A K (List.range' i n) f→∃ val:Nat→AV,(∀ j o,i≤j→j < i+n→ops[j]?=some o→RStep P ops (ach ops val (List.range' i (j - i)) f) A o (val j))∧K (ach ops val (List.range' i n) f)
 | 0,i,f,h=>⟨fun _=>.junk,fun j o h1 h2=>by omega,h⟩
 | n+1,i,f,⟨v,h1,h2⟩=>by
  obtain ⟨val,h3,h4⟩:=AR_val n (i+1) _ h2
  have hc:∀ (m:Nat) (f:AF),ach ops (fun j=>if j=i then v else val j) (List.range' (i+1) m) f=ach ops val (List.range' (i+1) m) f:=fun m f=>
   ach_congr _ _ fun x hx=>by have:=(List.mem_range'_1.1 hx).1;rw [if_neg (by omega)]
  refine ⟨fun j=>if j=i then v else val j,fun j o hij hjn ho=>?_,?_⟩
  ·by_cases hji:j=i
   ·subst hji
    simp only [Nat.sub_self,List.range'_zero,ach,if_true]
    exact h1 o ho
   ·show RStep P ops _ A o (if j=i then v else val j)
    rw [if_neg hji,show j - i=(j - (i+1))+1 by omega,List.range'_succ]
    simp only [ach,if_true]
    rw [hc]
    exact h3 j o (by omega) (by omega) ho
  ·rw [List.range'_succ]
   simp only [ach,if_true]
   rw [hc]
   exact h4
theorem eva_congr {f f':AF} {o:Oper} (h:∀ t∈o.looksAt ops,f t=f' t):∀ x∈o.op.operands.toList,eva f x=eva f' x:=fun x hx=>by
 cases x with
 | tmp t=>exact h t (List.mem_append_left _ (List.mem_filterMap.2 ⟨.tmp t,hx,rfl⟩))
 | const v=>rfl
 | global g=>rfl
 | func g=>rfl
theorem PuO.congr {f f':AF} {o:Oper} {v:AV} (h:∀ t∈o.looksAt ops,f t=f' t) (hp:PuO P f A o v):PuO P f' A o v:=fun M w r h1 h2=>hp M w r h1 fun x hx=>by rw [eva_congr h x hx];exact h2 x hx
theorem RStep.congr {f f':AF} {o:Oper} {v:AV} (h:∀ t∈o.looksAt ops,f t=f' t) (hp:RStep P ops f A o v):RStep P ops f' A o v:=by
 unfold RStep at *
 cases hg:o.guard with
 | none=>rw [hg] at hp;exact PuO.congr h hp
 | some gw=>
  obtain ⟨j,b⟩:=gw
  rw [hg] at hp
  obtain ⟨t,c,h1,h2,h3⟩:=hp
  refine ⟨t,c,h1,by rw [← h t (by simp [Oper.looksAt,hg,h1])];exact h2,?_⟩
  split
  ·rename_i hc;rw [if_pos hc] at h3;exact PuO.congr h h3
  ·rename_i hc;rw [if_neg hc] at h3;exact h3
section par
variable {n k m:Nat} {f:AF} {M:Nat→Prop}
theorem ach_agree (F:Facts ops n k m) {i:Nat} (hki:k≤i) (him:i < m) (p:Nat→Bool) (hp:∀ j,p j=true→k≤j∧j < i) (hin:∀ j,k≤j→j∈dirs ops i→p j=true) {o:Oper} (ho:ops[i]?=some o) :
 ∀ t∈o.looksAt ops,ach ops val (List.range' k (i - k)) f t=ach ops val ((List.range i).filter p) f t:=by
 intro t ht
 by_cases hex:∃ j,k≤j∧j < i∧dsts ops j=some t
 ·obtain ⟨j,hkj,hji,hd⟩:=hex
  have hdir:=F.dir i j t hki him hkj (by omega) (by simpa [looks,ho] using ht) hd
  have un:∀ x,k≤x→x < i→dsts ops x=some t→x=j:=fun x hkx hxi hx=>Classical.byContradiction fun hne=>F.one x j hkx (by omega) hkj (by omega) hne (by rw [hx,hd])
  rw [ach_at t j _ _ (List.mem_range'_1.2 ⟨hkj,by omega⟩) hd (fun x hx=>un x (List.mem_range'_1.1 hx).1 (by have:=(List.mem_range'_1.1 hx).2;omega)),
   ach_at t j _ _ (List.mem_filter.2 ⟨List.mem_range.2 hji,hin j hkj hdir⟩) hd (fun x hx=>un x (hp x (List.mem_filter.1 hx).2).1 (hp x (List.mem_filter.1 hx).2).2)]
 ·rw [ach_old t _ _ fun x hx e=>hex ⟨x,(List.mem_range'_1.1 hx).1,by have:=(List.mem_range'_1.1 hx).2;omega,e⟩,
   ach_old t _ _ fun x hx e=>hex ⟨x,(hp x (List.mem_filter.1 hx).2).1,(hp x (List.mem_filter.1 hx).2).2,e⟩]
def ldV (M:Nat→Prop) (val:Nat→AV) (k m:Nat):Nat→Option (Value→World→Prop):=fun i=>if k≤i∧i < m then some fun u w=>(val i).rd M w u else none
theorem WR_ach {w:World} (F:Facts ops n k m) (hv:∀ j o,k≤j→j < m→ops[j]?=some o→RStep P ops (ach ops val (List.range' k (j - k)) f) A o (val j)) (p:Nat→Bool) (hpk:∀ j,p j=true→k≤j∧j < m)
 (hcl:∀ j,p j=true→∀ x∈dirs ops j,k≤x→p x=true):∀ (x:Nat) (K:FF→World→Prop) (g:FF),(∀ t,(f t).rd M w (g t))→(∀ g',(∀ t,(ach ops val ((List.range x).filter p) f t).rd M w (g' t))→K g' w)→
   WR P ops (ldV M val k m) K w ((List.range x).filter p) g
 | 0,K,g,hg,h=>h g hg
 | x+1,K,g,hg,h=>by
  rw [List.range_succ,List.filter_append] at h ⊢
  cases hpx:p x with
  | false=>
   simp only [List.filter_cons,hpx,List.filter_nil,List.append_nil,Bool.false_eq_true,if_false] at h ⊢
   exact WR_ach F hv p hpk hcl x K g hg h
  | true=>
   simp only [List.filter_cons,hpx,List.filter_nil,if_true] at h ⊢
   have happ:∀ (l1 l2:List Nat) (g:FF),WR P ops (ldV M val k m) (fun g w=>WR P ops (ldV M val k m) K w l2 g) w l1 g→WR P ops (ldV M val k m) K w (l1++l2) g:=by
    intro l1
    induction l1 with
    | nil=>exact fun _ _ h=>h
    | cons i r ih=>exact fun l2 g h o v ho hv=>ih l2 _ (h o v ho hv)
   refine happ _ _ _ (WR_ach F hv p hpk hcl x _ g hg fun g' hg'=>?_)
   intro o v ho hok
   refine h _ fun t=>?_
   rw [ach_app]
   simp only [ach]
   obtain ⟨hkx,hxm⟩:=hpk x hpx
   have hd:dsts ops x=o.dst:=by simp [dsts,ho]
   have hag:=ach_agree (val:=val) (f:=f) F hkx hxm (fun j=>decide (j < x) && p j) (fun j hj=>by simp only [Bool.and_eq_true,decide_eq_true_eq] at hj;exact ⟨(hpk j hj.2).1,hj.1⟩)
    (fun j hkj hj=>by simp only [Bool.and_eq_true,decide_eq_true_eq];exact ⟨F.back x j (Nat.lt_of_lt_of_le hxm F.le) hj,hcl x hpx j hj hkj⟩) ho
   rw [show (List.range x).filter (fun j=>decide (j < x) && p j)=(List.range x).filter p from List.filter_congr fun j hj=>by simp [List.mem_range.1 hj]] at hag
   have hs:=RStep.congr hag (hv x o hkx hxm ho)
   have hval:(val x).rd M w v:=by
    unfold okd at hok
    have hl:ldV M val k m x=some fun u w=>(val x).rd M w u:=by simp [ldV,hkx,hxm]
    unfold RStep at hs
    cases hg0:o.guard with
    | none=>
     rw [if_pos (by simp [Region.wanted,hg0])] at hok
     rw [hl] at hok;exact hok
    | some gw=>
     obtain ⟨j,b⟩:=gw
     rw [hg0] at hs
     obtain ⟨t',c,h1,h2,h3⟩:=hs
     have h4:=hg' t'
     rw [h2] at h4
     have hy:yl ops g' j=c:=yl_obv h1 h4
     by_cases hcb:c=some b
     ·rw [if_pos (by simp [Region.wanted,hg0,hy,hcb])] at hok
      rw [hl] at hok;exact hok
     ·rw [if_neg (by simp [Region.wanted,hg0,hy,hcb])] at hok
      rw [if_neg hcb] at h3
      rw [h3,hok];exact undef_rd
   rw [hd]
   exact auo_rd hg' hval o.dst t
theorem RStep.pu {M:Nat→Prop} {w:World} {f':AF} {o:Oper} {v:AV} {g':FF} (hs:RStep P ops f' A o v) (hg':∀ t,(f' t).rd M w (g' t)) (hw:Region.wanted o (yl ops g')=true):PuO P f' A o v:=by
 unfold RStep at hs
 cases hg0:o.guard with
 | none=>rw [hg0] at hs;exact hs
 | some gw=>
  obtain ⟨j,b⟩:=gw
  rw [hg0] at hs
  obtain ⟨t',c,h1,h2,h3⟩:=hs
  have h4:=hg' t'
  rw [h2] at h4
  have hy:yl ops g' j=c:=yl_obv h1 h4
  by_cases hcb:c=some b
  ·rw [if_pos hcb] at h3;exact h3
  ·rw [show Region.wanted o (yl ops g')=false by simp [Region.wanted,hg0,hy,hcb]] at hw;cases hw
theorem pre_eq (ops:Array Oper) (k m:Nat) (n:Nat) (h:parChk ops n k m ((span k m).map (preL ops k m))=true):Facts ops n k m:=(facts_of h).1
theorem AD_par {C:Cx} {K:AF→List Atm→Prop} (m:Nat) (chk:parChk ops n k m ((span k m).map (preL ops k m))=true) (h:AR P ops A (fun f=>AD P n C ops K m f A) (List.range' k (m - k)) f):AD P n C ops K k f A:=by
 intro g w hi
 have F:=pre_eq ops k m n chk
 obtain ⟨val,hv,hK⟩:=AR_val _ _ _ h
 have hv':∀ j o,k≤j→j < m→ops[j]?=some o→RStep P ops (ach ops val (List.range' k (j - k)) f) A o (val j):=fun j o h1 h2 h3=>hv j o h1 (by omega) h3
 have hspan:∀ i,i < m - k→(span k m)[i]?=some (k+i):=by
  have h1:span k m=List.range' k (m - k):=by
   have e:m=k+(m - k):=by have:=F.km;omega
   rw [span,e,List.range_eq_range',← List.range'_append_1,List.filter_append,List.filter_eq_nil_iff.2 (fun x hx=>by
    have:=List.mem_range'_1.1 hx;simp;omega),List.filter_eq_self.2 (fun x hx=>by have:=List.mem_range'_1.1 hx;simp;omega)]
   simp
  intro i hi
  rw [h1,List.getElem?_range' hi];simp
 have hsp:span k m=(List.range m).filter fun j=>decide (k≤j):=rfl
 have hspr:span k m=List.range' k (m - k):=List.ext_getElem? fun i=>by
  by_cases hi:i < m - k
  ·rw [hspan i hi,List.getElem?_range' hi];simp
  ·have hl:(span k m).length=m - k:=by
    have e:m=k+(m - k):=by have:=F.km;omega
    rw [hsp,e,List.range_eq_range',← List.range'_append_1,List.filter_append,List.filter_eq_nil_iff.2 (fun x hx=>by
     have:=List.mem_range'_1.1 hx;simp;omega),List.filter_eq_self.2 (fun x hx=>by have:=List.mem_range'_1.1 hx;simp;omega)]
    simp
   rw [List.getElem?_eq_none (by omega),List.getElem?_eq_none (by simp;omega)]
 have hfr:∀ w',Mod [] w w'→∀ t,(f t).rd (MO C.M A) w' (g t):=fun w' hm t=>AV.keep (fun b hb _=>hm.block b hb (by simp)) (hi.fr t)
 refine WD_par (ldV (MO C.M A) val k m) k m _ chk (fun i p hl v w1 w2 hp hm=>?_) (fun i l hl w' hm=>?_) (fun w' hm=>?_)
 ·unfold ldV at hl
  split at hl
  ·cases hl;exact AV.keep (fun b hb _=>hm.block b hb (by simp)) hp
  ·cases hl
 ·rw [List.getElem?_map] at hl
  obtain ⟨j,hj,rfl⟩:=Option.map_eq_some_iff.1 hl
  have him:i < m - k:=by
   have:=(List.getElem?_eq_some_iff.1 hj).1
   rw [hspr] at this;simpa using this
  rw [hspan i him] at hj
  cases hj
  have hpre:preL ops k m (k+i)=(List.range (k+i)).filter fun j=>decide (k≤j) && decide (j < m) && (clo ops (k+i)).contains j:=rfl
  have hp:∀ j,(decide (k≤j) && decide (j < m) && (clo ops (k+i)).contains j)=true→k≤j∧j < m:=fun j hj=>by
   simp only [Bool.and_eq_true,decide_eq_true_eq] at hj;exact hj.1
  have hi0:k+i < ops.size:=by have:=F.le;omega
  -- whatever comes ahead of it is below it
  have hclo:∀ j∈clo ops (k+i),j < k+i:=by
   refine bfs_all (p:=fun j=>j < k+i) (fun a ha b hb=>?_) _ _ fun a ha=>F.back _ _ hi0 ha
   have:=F.back a b (by omega) hb;omega
  rw [hpre]
  have hcl:∀ j,(decide (j < k+i) && (decide (k≤j) && decide (j < m) && (clo ops (k+i)).contains j))=true→∀ x∈dirs ops j,k≤x→(decide (x < k+i) && (decide (k≤x) && decide (x < m) && (clo ops (k+i)).contains x))=true:=by
   intro j hj x hx hkx
   simp only [Bool.and_eq_true,decide_eq_true_eq] at hj
   have h1:=F.clos (k+i) j x (by omega) (by omega) (by rw [hpre];exact List.mem_filter.2 ⟨List.mem_range.2 hj.1,by simpa using hj.2⟩) hx
   have h2:=h1.resolve_left (by omega)
   rw [hpre] at h2
   have h3:=List.mem_filter.1 h2
   simp only [Bool.and_eq_true,decide_eq_true_eq]
   exact ⟨List.mem_range.1 h3.1,by simpa using h3.2⟩
  rw [show ((List.range (k+i)).filter fun j=>decide (k≤j) && decide (j < m) && (clo ops (k+i)).contains j)=(List.range (k+i)).filter fun j=>decide (j < k+i) && (decide (k≤j) && decide (j < m) && (clo ops (k+i)).contains j) from List.filter_congr fun j hj=>by simp [List.mem_range.1 hj]]
  refine WR_ach F hv' _ (fun j hj=>by simp only [Bool.and_eq_true,decide_eq_true_eq] at hj;exact hj.2.1) hcl _ _ g (hfr w' hm) fun g' hg'=>?_
  intro o ho hw
  have hl2:ldV (MO C.M A) val k m (k+i)=some fun u w=>(val (k+i)).rd (MO C.M A) w u:=by simp [ldV];omega
  rw [hl2]
  have hag:=ach_agree (val:=val) (f:=f) F (i:=k+i) (by omega) (by omega) (fun j=>decide (j < k+i) && (decide (k≤j) && decide (j < m) && (clo ops (k+i)).contains j)) (fun j hj=>by simp only [Bool.and_eq_true,decide_eq_true_eq] at hj;exact ⟨hj.2.1.1,hj.1⟩)
   (fun j hkj hj=>by
     have sub:∀ (y:Nat) (l:List Nat),j∈l→j∈bfs ops y l:=by
      intro y
      induction y with
      | zero=>exact fun l h=>h
      | succ y ih=>exact fun l h=>ih _ (List.mem_eraseDups.2 (List.mem_append.2 (.inl h)))
     have:=F.back _ _ hi0 hj
     simp only [Bool.and_eq_true,decide_eq_true_eq,List.contains_iff_mem]
     exact ⟨this,⟨hkj,by omega⟩,sub _ _ hj⟩) ho
  have hs:=RStep.congr hag (hv' (k+i) o (by omega) (by omega) ho)
  exact (hs.pu hg' hw) C.M w' (ev g') (hi.st.pre.mod hm) fun x _=>eva_rd hg' x
 ·have he:span k m=(List.range m).filter fun j=>decide (k≤j) && decide (j < m):=List.filter_congr fun j hj=>by simp [List.mem_range.1 hj]
  rw [he]
  refine WR_ach F hv' _ (fun j hj=>by simpa using hj) (fun j hj x hx hkx=>?_) m _ g (hfr w' hm) fun g' hg'=>?_
  ·simp only [Bool.and_eq_true,decide_eq_true_eq] at hj ⊢
   have:=F.back j x (by have:=F.le;omega) hx
   exact ⟨hkx,by omega⟩
  ·rw [← he,hspr] at hg'
   exact hK g' w' ⟨hi.st.trans (.pure hi.st.pre hm),hg'⟩
end par
section tail
variable {n k:Nat} {C:Cx} {f:AF} {K:AF→List Atm→Prop} {Q:AQ} {o:Oper}
theorem AD_end (hk:ops.size≤k) (h:K f A):AD P n C ops K k f A:=fun _ _ hi=>WD_end hk ⟨f,A,h,hi⟩
theorem AD_o {Q':AV→List Atm→Prop} (chk:oneChk ops k=true) (ho:ops[k]?=some o) (hg:o.guard=none) (hd:dlt o.dst n=true) (h:Opn P f A o Q') (kk:∀ v A',Q' v A'→AD P n C ops K (k+1) (auo f o.dst v) A'):AD P n C ops K k f A:=fun g w hi=>
 WD_one chk ho hg hd ((OW_opn hi hd h).2.mono fun _ w' ⟨v,A',hq,hi'⟩=>kk v A' hq _ w' hi')
theorem AD_gt {Q':AV→List Atm→Prop} {j t:Nat} {b:Bool} (chk:oneChk ops k=true) (ho:ops[k]?=some o) (hg:o.guard=some (j,b)) (hd:dlt o.dst n=true) (ht:(ops[j]?).bind (·.dst)=some t) (hv:f t=.one (.v (.bool b))) (h:Opn P f A o Q')
 (kk:∀ v A',Q' v A'→AD P n C ops K (k+1) (auo f o.dst v) A'):AD P n C ops K k f A:=fun g w hi=>by
 have hv':=hi.fr t
 rw [hv] at hv'
 exact WD_want chk ho hg hd ht hv'.1 ((OW_opn hi hd h).2.mono fun _ w' ⟨v,A',hq,hi'⟩=>kk v A' hq _ w' hi')
theorem Inv.drew {g:FF} {w:World} (hi:Inv C f A g w):Inv C f A g w.drew:=
 have hm:Mod [] w w.drew:=(Mod.refl _ _).drew
 ⟨hi.st.trans (.pure hi.st.pre hm),fun i=>AV.keep (w:=w) (w':=w.drew) (fun _ _ _=>rfl) (hi.fr i)⟩
theorem AW_drawn {id:Nat} (mixed:P.follows .mixedOrders=true) (h:AD P n C ops (fun f A=>Q .normal f A) 0 f A):AW P n C (.region id ops true) Q f A:=fun g w hi=>W_drawn mixed (h g _ hi.drew)
theorem AW_ds {id:Nat} {y:Code} (mixed:P.follows .mixedOrders=true) (h:AD P n C ops (AW P n C y Q) 0 f A):AW P n C (.seq (.region id ops true) y) Q f A:=AW_seq (AW_drawn mixed h)
end tail
end
inductive Tm where
 | mk (k n:Int) (s:ByteArray) (l:List Tm)
def Tm.kind:Tm→Int | .mk k _ _ _=>k
def Tm.int:Tm→Int | .mk _ n _ _=>n
def Tm.name:Tm→ByteArray | .mk _ _ s _=>s
def Tm.args:Tm→List Tm | .mk _ _ _ l=>l
@[simp] theorem Tm.kind_mk {k n:Int} {s:ByteArray} {l:List Tm}:(Tm.mk k n s l).kind=k:=rfl
@[simp] theorem Tm.int_mk {k n:Int} {s:ByteArray} {l:List Tm}:(Tm.mk k n s l).int=n:=rfl
@[simp] theorem Tm.name_mk {k n:Int} {s:ByteArray} {l:List Tm}:(Tm.mk k n s l).name=s:=rfl
@[simp] theorem Tm.args_mk {k n:Int} {s:ByteArray} {l:List Tm}:(Tm.mk k n s l).args=l:=rfl
mutual
def Tm.argE:Tm→List (List D)
 | .mk _ _ _ l=>rowsT l
def rowsT:List Tm→List (List D)
 | []=>[]
 | t::l=>[.v (.int .i64 t.kind),.v (.int .i64 t.int),.v (.string t.name),.s 4 t.argE]::rowsT l
end
def encT (t:Tm):List D:=[.v (.int .i64 t.kind),.v (.int .i64 t.int),.v (.string t.name),.s 4 t.argE]
theorem rowsT_eq:∀ l:List Tm,rowsT l=l.map encT
 | []=>rfl
 | t::l=>by simp only [rowsT,List.map_cons,rowsT_eq l];rfl
theorem rowsT_len (l:List Tm):(rowsT l).length=l.length:=by rw [rowsT_eq,List.length_map]
theorem rowsT_get {l:List Tm} {j:Nat} {x:Tm} (h:l[j]?=some x):(rowsT l)[j]?=some (encT x):=by rw [rowsT_eq,List.getElem?_map,h];rfl
theorem argE_eq (t:Tm):t.argE=rowsT t.args:=by cases t;rfl
theorem argE_len (t:Tm):t.argE.length=t.args.length:=by rw [argE_eq,rowsT_len]
theorem argE_get {t:Tm} {j:Nat} {x:Tm} (h:t.args[j]?=some x):t.argE[j]?=some (encT x):=by rw [argE_eq];exact rowsT_get h
theorem rowsT_app (l m:List Tm):rowsT (l++m)=rowsT l++rowsT m:=by simp [rowsT_eq]
abbrev iv (n:Int):AV:=.one (.v (.int .i64 n))
abbrev bv (b:Bool):AV:=.one (.v (.bool b))
abbrev sv (s:ByteArray):AV:=.one (.v (.string s))
abbrev tv (t:Tm):AV:=.agg (encT t)
abbrev tsv (l:List Tm):AV:=.one (.s 4 (rowsT l))
abbrev BdR:=Int × Tm
def encB (x:BdR):List D:=.v (.int .i64 x.1)::encT x.2
abbrev VkR:=Int × Int
def encK (x:VkR):List D:=[.v (.int .i64 x.1),.v (.int .i64 x.2)]
abbrev MkR:=Int × ByteArray
def encM (x:MkR):List D:=[.v (.int .i64 x.1),.v (.string x.2)]
def encL {α:Type} (n:Nat) (e:α→List D) (l:List α):List D:=[.s n (l.map e)]
def encI (n:Int):List D:=[.v (.int .i64 n)]
structure StR where
 next:Int
 bind:List BdR
 dis:List (List BdR)
 kinds:List VkR
 marks:List MkR
def encSt (s:StR):List D:=[.v (.int .i64 s.next),.s 5 (s.bind.map encB),.s 1 (s.dis.map (encL 5 encB)),.s 2 (s.kinds.map encK),.s 2 (s.marks.map encM)]
inductive Gl where
 | mk (k:Int) (s:ByteArray) (ts:List Tm) (gs:List Gl)
def Gl.kind:Gl→Int | .mk k _ _ _=>k
def Gl.name:Gl→ByteArray | .mk _ s _ _=>s
def Gl.terms:Gl→List Tm | .mk _ _ l _=>l
def Gl.goals:Gl→List Gl | .mk _ _ _ l=>l
@[simp] theorem Gl.kind_mk {k:Int} {s:ByteArray} {l:List Tm} {m:List Gl}:(Gl.mk k s l m).kind=k:=rfl
@[simp] theorem Gl.name_mk {k:Int} {s:ByteArray} {l:List Tm} {m:List Gl}:(Gl.mk k s l m).name=s:=rfl
@[simp] theorem Gl.terms_mk {k:Int} {s:ByteArray} {l:List Tm} {m:List Gl}:(Gl.mk k s l m).terms=l:=rfl
@[simp] theorem Gl.goals_mk {k:Int} {s:ByteArray} {l:List Tm} {m:List Gl}:(Gl.mk k s l m).goals=m:=rfl
mutual
def Gl.subE:Gl→List (List D)
 | .mk _ _ _ l=>rowsG l
def rowsG:List Gl→List (List D)
 | []=>[]
 | t::l=>[.v (.int .i64 t.kind),.v (.string t.name),.s 4 (rowsT t.terms),.s 4 t.subE]::rowsG l
end
def encG (t:Gl):List D:=[.v (.int .i64 t.kind),.v (.string t.name),.s 4 (rowsT t.terms),.s 4 t.subE]
theorem rowsG_eq:∀ l:List Gl,rowsG l=l.map encG
 | []=>rfl
 | t::l=>by simp only [rowsG,List.map_cons,rowsG_eq l];rfl
theorem rowsG_len (l:List Gl):(rowsG l).length=l.length:=by rw [rowsG_eq,List.length_map]
theorem rowsG_get {l:List Gl} {j:Nat} {x:Gl} (h:l[j]?=some x):(rowsG l)[j]?=some (encG x):=by rw [rowsG_eq,List.getElem?_map,h];rfl
theorem subE_eq (t:Gl):t.subE=rowsG t.goals:=by cases t;rfl
theorem subE_len (t:Gl):t.subE.length=t.goals.length:=by rw [subE_eq,rowsG_len]
theorem subE_get {t:Gl} {j:Nat} {x:Gl} (h:t.goals[j]?=some x):t.subE[j]?=some (encG x):=by rw [subE_eq];exact rowsG_get h
structure RlR where
 name:ByteArray
 ar:Int
 loc:Int
 body:Gl
def encR (r:RlR):List D:=.v (.string r.name)::.v (.int .i64 r.ar)::.v (.int .i64 r.loc)::encG r.body
def encP (p:List RlR):List D:=[.s 7 (p.map encR)]
structure BrR where
 st:StR
 ch:List Int
def encBr (b:BrR):List D:=encSt b.st++[.s 1 (b.ch.map encI)]
inductive Sm where
 | mk (k:Int) (br:BrR) (g:Gl) (kids:List Sm)
def Sm.kind:Sm→Int | .mk k _ _ _=>k
def Sm.br:Sm→BrR | .mk _ b _ _=>b
def Sm.goal:Sm→Gl | .mk _ _ g _=>g
def Sm.kids:Sm→List Sm | .mk _ _ _ l=>l
@[simp] theorem Sm.kind_mk {k:Int} {b:BrR} {g:Gl} {m:List Sm}:(Sm.mk k b g m).kind=k:=rfl
@[simp] theorem Sm.br_mk {k:Int} {b:BrR} {g:Gl} {m:List Sm}:(Sm.mk k b g m).br=b:=rfl
@[simp] theorem Sm.goal_mk {k:Int} {b:BrR} {g:Gl} {m:List Sm}:(Sm.mk k b g m).goal=g:=rfl
@[simp] theorem Sm.kids_mk {k:Int} {b:BrR} {g:Gl} {m:List Sm}:(Sm.mk k b g m).kids=m:=rfl
theorem rows_get {α:Type} {l:List α} {e:α→List D} {k:Nat} {x:α} (h:l[k]?=some x):(l.map e)[k]?=some (e x):=by rw [List.getElem?_map,h];rfl
section
variable {κ:Type} [DecidableEq κ]
abbrev EntK (κ:Type):=κ × Value × Nat
def entK (kv:κ→Value) (x:EntK κ):MapEntry:=⟨kv x.1,x.2.1,x.2.2⟩
def look:List (EntK κ)→κ→Option Value
 | [],_=>none
 | x::l,n=>if x.1=n then some x.2.1 else look l n
def lookIx:List (EntK κ)→κ→Nat→Option (Nat × Value)
 | [],_,_=>none
 | x::l,n,i=>if x.1=n then some (i,x.2.1) else lookIx l n (i+1)
theorem lookIx_look (n:κ):∀ (l:List (EntK κ)) (i:Nat),(lookIx l n i).map (·.2)=look l n
 | [],_=>rfl
 | x::l,i=>by
  unfold lookIx look
  split
  ·rfl
  ·exact lookIx_look n l (i+1)
theorem lookIx_at (n:κ):∀ (l:List (EntK κ)) (i:Nat) (j:Nat) (v:Value),lookIx l n i=some (j,v)→∃ k x,j=i+k∧l[k]?=some x∧x.1=n∧x.2.1=v
 | [],_,_,_,h=>by cases h
 | x::l,i,j,v,h=>by
  unfold lookIx at h
  split at h
  ·rename_i hx
   cases h
   exact ⟨0,x,rfl,rfl,hx,rfl⟩
  ·obtain ⟨k,y,h1,h2,h3⟩:=lookIx_at n l (i+1) j v h
   exact ⟨k+1,y,by omega,by simpa using h2,h3⟩
theorem look_none {n:κ}:∀ {l:List (EntK κ)},look l n=none→∀ x∈l,x.1≠n
 | [],_,_,h=>by cases h
 | y::l,hl,x,h=>by
  unfold look at hl
  split at hl
  ·cases hl
  ·rename_i hy
   rcases List.mem_cons.1 h with rfl|h
   ·exact hy
   ·exact look_none hl x h
theorem look_of_mem {x:EntK κ}:∀ {l:List (EntK κ)},(l.map (·.1)).Nodup→x∈l→look l x.1=some x.2.1
 | y::l,hn,h=>by
  unfold look
  simp only [List.map_cons,List.nodup_cons] at hn
  rcases List.mem_cons.1 h with rfl|h
  ·simp
  ·have hne:y.1≠x.1:=fun e=>hn.1 (e▸List.mem_map_of_mem h)
   rw [if_neg hne]
   exact look_of_mem hn.2 h
theorem look_mem {n:κ} {v:Value}:∀ {l:List (EntK κ)},look l n=some v→∃ x∈l,x.1=n∧x.2.1=v
 | [],h=>by cases h
 | y::l,h=>by
  unfold look at h
  split at h
  ·rename_i hy;cases h;exact ⟨y,by simp,hy,rfl⟩
  ·obtain ⟨x,hx,h⟩:=look_mem h;exact ⟨x,by simp [hx],h⟩
theorem look_snoc (n k:κ) (b:Nat) (v:Value):∀ {l:List (EntK κ)},look l k=none→look (l++[(k,v,b)]) n=if n=k then some v else look l n
 | [],_=>by simp [look,eq_comm]
 | x::l,h=>by
  unfold look at h
  split at h
  ·cases h
  ·rename_i hx
   simp only [List.cons_append,look]
   by_cases h1:x.1=n
   ·have hnk:n≠k:=fun e=>hx (h1.trans e)
    simp [h1,hnk]
   ·rw [if_neg h1,if_neg h1];exact look_snoc n k b v h
theorem look_modify (n:κ) (v:Value):∀ {l:List (EntK κ)} {k:Nat} {x:EntK κ},(l.map (·.1)).Nodup→l[k]?=some x→look (l.modify k fun y=>(y.1,v,y.2.2)) n=if n=x.1 then some v else look l n
 | [],k,x,_,h=>by simp at h
 | y::l,0,x,hn,h=>by
  simp at h;subst h
  simp only [List.modify_zero_cons,look]
  by_cases h1:n=y.1
  ·simp [h1]
  ·simp [h1,Ne.symm h1]
 | y::l,k+1,x,hn,h=>by
  simp only [List.map_cons,List.nodup_cons] at hn
  simp at h
  simp only [List.modify_succ_cons,look]
  have hx:x∈l:=List.mem_of_getElem? h
  by_cases h1:y.1=n
  ·have hne:n≠x.1:=fun e=>hn.1 (h1▸e▸List.mem_map_of_mem hx)
   simp [h1,hne]
  ·rw [if_neg h1,if_neg h1];exact look_modify n v hn.2 h
class KeyF (P:Program) (k:TypeId) (κ:outParam Type) [DecidableEq κ] (kv:outParam (κ→Value)):Prop where
 chk:∀ w e x,runC P w (Instr.checkKey e 10000 k (kv x))=some ()
 find:∀ w x (l:List (EntK κ)),runC P w (Instr.findKey k (kv x) (l.map (entK kv)))=some (lookIx l x 0)
 same:∀ x,Instr.sameBits 10000 (kv x) (kv x)=true
 rdk:∀ x,∃ a:AV,∀ M w y,a.rd M w y↔y=kv x
def optRd (M:Nat→Prop) (w:World):Option AV→Option Value→Prop
 | none,none=>True
 | some a,some v=>a.rd M w v
 | _,_=>False
def cput {α:Type} (c:κ→Option α) (k:κ) (v:α):κ→Option α:=fun x=>if x=k then some v else c x
structure MapAt (M:Nat→Prop) (w:World) (kv:κ→Value) (b:Nat) (g:κ→Option AV) (l:List (EntK κ)) (clock:Nat):Prop where
 blk:w.heap[b]?=some (.map (l.map (entK kv)).toArray clock)
 keys:(l.map (·.1)).Nodup
 ages:(l.map (·.2.2)).Nodup
 old:∀ x∈l,x.2.2 < clock
 val:∀ x,optRd M w (g x) (look l x)
def amap (kv:κ→Value) (b:Nat) (g:κ→Option AV):Atm:=⟨[b],fun M w=>∃ l c,MapAt M w kv b g l c,
 fun M w w' h1 h2 ⟨l,c,h⟩=>⟨l,c,by rw [h1 b (by simp)];exact h.blk,h.keys,h.ages,h.old,fun x=>by
  have:=h.val x
  cases hg:g x<;>cases hl:look l x<;>rw [hg,hl] at this<;>first|exact this|exact AV.keep h2 this⟩,
 fun M M' w hm ⟨l,c,h⟩=>⟨l,c,h.blk,h.keys,h.ages,h.old,fun x=>by
  have:=h.val x
  cases hg:g x<;>cases hl:look l x<;>rw [hg,hl] at this<;>first|exact this|exact AV.grow hm this⟩⟩
end
section
variable {P:Program} {f:AF} {A:List Atm} {d:Option Tmp} {ty:TypeId} {pos:String} {aft:Array Edge} {gg:Option (Nat × Bool)} {M:Nat→Prop} {w:World} {κ:Type} [DecidableEq κ] {kv:κ→Value}
theorem runC_getMap {b:Nat} {es:Array MapEntry} {c:Nat} (h:w.heap[b]?=some (.map es c)):runC P w (getObj b)=some (.map es c):=by
 simp [getObj,runC,h]
theorem runC_lookup {t k e:TypeId} {agg:Bool} {sz:Nat} {z:Value} [G:MapF P t k e] [I:KeyF P k κ kv] [F:TyF P e agg sz z] {b:Nat} {g:κ→Option AV} {l:List (EntK κ)} {cl:Nat} (h:MapAt M w kv b g l cl) (n:κ) (c:Bool) :
 runC P w (Instr.lookup t (.map (some b)) (kv n) c)=some (if c then .tuple #[(look l n).getD z,.bool (look l n).isSome] else (look l n).getD z):=by
 unfold Instr.lookup
 rw [runC_bind,runC_underlying G.und]
 simp only [Option.bind_some]
 rw [runC_bind,runC_getMap h.blk]
 simp only [Option.bind_some]
 show runC P w (Instr.checkKey _ 10000 k (kv n) >>= _)=_
 rw [runC_bind,I.chk]
 simp only [Option.bind_some]
 rw [runC_bind,I.find]
 simp only [Option.bind_some]
 have hl:=lookIx_look n l 0
 cases hx:lookIx l n 0 with
 | none=>
  rw [hx] at hl
  simp only [Option.map_none] at hl
  rw [← hl]
  simp only [runC_bind,F.zero,Option.bind_some,runC_pure]
  cases c<;>rfl
 | some p=>
  rw [hx] at hl
  simp only [Option.map_some] at hl
  rw [← hl]
  cases c<;>rfl
class KeyA (κ:Type) (kv:outParam (κ→Value)) (ka:outParam (κ→AV)):Prop where
 rd:∀ M w x y,(ka x).rd M w y→y=kv x
theorem P_look {t k e:TypeId} {agg:Bool} {sz:Nat} {z:Value} {ka:κ→AV} [G:MapF P t k e] [I:KeyF P k κ kv] [KA:KeyA κ kv ka] [F:TyF P e agg sz z] (x y:Operand) {b:Nat} {n:κ} {g:κ→Option AV} {v:AV} (hx:eva f x=.one (.v (.map (some b)))) (hy:eva f y=ka n) (hm:amap kv b g∈A) (hv:(g n).getD (cst z)=v) :
 PuO P f A ⟨d,.lookup t x y false,ty,pos,aft,gg⟩ v:=PuO_rd fun M w r hp h=>by
 obtain ⟨l,c,hm⟩:=hp.ats _ hm
 have e2:=h y (by simp [Op.operands])
 rw [hy] at e2
 have hval:=hm.val n
 refine ⟨(look l n).getD z,?_,?_⟩
 ·show runC P w (Instr.lookup t (r x) (r y) false >>= fun v=>pure (Next.value v))=_
  rw [runC_bind,exact_of (h x (by simp [Op.operands])) hx,KA.rd _ _ _ _ e2,runC_lookup hm];rfl
 ·subst hv
  cases hg:g n<;>cases hl:look l n<;>rw [hg,hl] at hval<;>first|exact hval.elim|exact hval|exact cst_rd z
theorem P_lookOk {t k e:TypeId} {agg:Bool} {sz:Nat} {z:Value} {ka:κ→AV} [G:MapF P t k e] [I:KeyF P k κ kv] [KA:KeyA κ kv ka] [F:TyF P e agg sz z] (x y:Operand) {b:Nat} {n:κ} {g:κ→Option AV} {v:AV} {o:Bool} (hx:eva f x=.one (.v (.map (some b)))) (hy:eva f y=ka n) (hm:amap kv b g∈A) (hv:(g n).getD (cst z)=v) (ho:(g n).isSome=o) :
 PuO P f A ⟨d,.lookup t x y true,ty,pos,aft,gg⟩ (.tup [v,.one (.v (.bool o))]):=PuO_rd fun M w r hp h=>by
 obtain ⟨l,c,hm⟩:=hp.ats _ hm
 have e2:=h y (by simp [Op.operands])
 rw [hy] at e2
 have hval:=hm.val n
 refine ⟨.tuple #[(look l n).getD z,.bool (look l n).isSome],?_,[(look l n).getD z,.bool (look l n).isSome],rfl,_,_,rfl,?_,_,[],rfl,?_,rfl⟩
 ·show runC P w (Instr.lookup t (r x) (r y) true >>= fun v=>pure (Next.value v))=_
  rw [runC_bind,exact_of (h x (by simp [Op.operands])) hx,KA.rd _ _ _ _ e2,runC_lookup hm];rfl
 ·subst hv
  cases hg:g n<;>cases hl:look l n<;>rw [hg,hl] at hval<;>first|exact hval.elim|exact hval|exact cst_rd z
 ·subst ho
  cases hg:g n<;>cases hl:look l n<;>rw [hg,hl] at hval<;>first|exact hval.elim|exact ⟨rfl,rfl⟩
theorem O_makeMap (kv:κ→Value) {t:TypeId}:Opn P f A ⟨d,.makeMap t none,ty,pos,aft,gg⟩ fun v A'=>∃ b,v=.one (.v (.map (some b)))∧A'=amap kv b (fun _=>none)::A:=fun M w r hp h=>by
 refine S_run (v:=.map (some w.heap.size)) (w':=w.alloc (.map #[] 0)) rfl ⟨_,_,⟨w.heap.size,rfl,rfl⟩,⟨rfl,rfl⟩,hp.cons ((Mod.refl _ _).alloc _) (by simp [amap]) (by simp [amap]) ⟨[],0,by show (w.heap.push _)[w.heap.size]?=_;simp,by simp,by simp,by simp,fun _=>trivial⟩⟩
theorem run_update {t k e:TypeId} [G:MapF P t k e] [I:KeyF P k κ kv] {b:Nat} {g:κ→Option AV} {l:List (EntK κ)} {cl:Nat} (h:MapAt M w kv b g l cl) (n:κ) (v:Value) :
 ∃ w' l' cl',(Instr.mapUpdate t (.map (some b)) (kv n) v).run P w=.ok () w'∧Mod [b] w w'∧w'.heap.size=w.heap.size∧w'.heap[b]?=some (.map (l'.map (entK kv)).toArray cl')∧(l'.map (·.1)).Nodup∧(l'.map (·.2.2)).Nodup∧(∀ x∈l',x.2.2 < cl')∧∀ x,look l' x=if x=n then some v else look l x:=by
 obtain ⟨h1,h2,h3,h4,h5⟩:=h
 have hblt:b < w.heap.size:=(Array.getElem?_eq_some_iff.1 h1).1
 have mod:∀ o,Mod [b] w (ChangeMaps.setBlock w b o):=fun o=>⟨rfl,rfl,rfl,by simp [ChangeMaps.setBlock],fun i _ hi=>by
  have hi':b≠i:=fun e=>hi (by simp [e])
  simp [ChangeMaps.setBlock,Array.getElem?_setIfInBounds_ne hi']⟩
 have at':∀ o,(ChangeMaps.setBlock w b o).heap[b]?=some o:=fun o=>by simp [ChangeMaps.setBlock,hblt]
 have run_set:∀ o,(setObj b o).run P w=.ok () (ChangeMaps.setBlock w b o):=fun o=>by simp [setObj,Sem.run,h1,ChangeMaps.setBlock]
 unfold Instr.mapUpdate
 simp only [Sem.run_bind,runC_run _ _ (runC_underlying G.und),Result.andThen_ok,runC_run _ _ (runC_getMap h1),runC_run _ _ (I.chk w false n),runC_run _ _ (I.find w n l)]
 have hl:=lookIx_look n l 0
 cases hx:lookIx l n 0 with
 | none=>
  rw [hx] at hl
  simp only [Option.map_none] at hl
  have hno:look l n=none:=hl.symm
  simp only []
  rw [run_set]
  refine ⟨_,l++[(n,v,cl)],cl+1,rfl,mod _,by simp [ChangeMaps.setBlock],?_,?_,?_,?_,?_⟩
  ·rw [at'];simp [entK]
  ·rw [List.map_append,List.nodup_append]
   refine ⟨h2,by simp,fun a ha c hc=>?_⟩
   obtain ⟨x,hxl,rfl⟩:=List.mem_map.1 ha
   simp at hc;subst hc
   exact look_none hno x hxl
  ·rw [List.map_append,List.nodup_append]
   refine ⟨h3,by simp,fun a ha c hc=>?_⟩
   obtain ⟨x,hxl,rfl⟩:=List.mem_map.1 ha
   simp at hc;subst hc
   have:=h4 x hxl;omega
  ·intro x hxl
   rcases List.mem_append.1 hxl with hxl|hxl
   ·have:=h4 x hxl;omega
   ·simp at hxl;subst hxl;simp
  ·intro m
   exact look_snoc m n cl v hno
 | some p=>
  obtain ⟨j,u⟩:=p
  obtain ⟨k',x,hj,hk,hx1,hx2⟩:=lookIx_at n l 0 j u hx
  have hjk:j=k':=by omega
  subst hjk
  have hes:(l.map (entK kv)).toArray[j]?=some (entK kv x):=by simp [hk]
  simp only [hes,Option.map_some,Option.getD_some,entK,hx1,Instr.keyThatStays,I.same,if_true,Sem.run_bind,Sem.run_pure,Result.andThen_ok]
  rw [run_set]
  refine ⟨_,l.modify j (fun y=>(y.1,v,y.2.2)),cl,rfl,mod _,by simp [ChangeMaps.setBlock],?_,?_,?_,?_,?_⟩
  ·rw [at']
   congr 2
   apply Array.ext'
   simp only [Array.toList_modify]
   apply List.ext_getElem?
   intro i
   simp only [List.getElem?_modify,List.getElem?_map]
   by_cases hij:j=i
   ·subst hij;simp [hk,entK,hx1]
   ·simp [hij]
  ·have:(l.modify j fun y=>(y.1,v,y.2.2)).map (·.1)=l.map (·.1):=by
    apply List.ext_getElem?
    intro i
    simp only [List.getElem?_modify,List.getElem?_map]
    by_cases hij:j=i
    ·subst hij;simp [hk]
    ·simp [hij]
   rw [this];exact h2
  ·have:(l.modify j fun y=>(y.1,v,y.2.2)).map (·.2.2)=l.map (·.2.2):=by
    apply List.ext_getElem?
    intro i
    simp only [List.getElem?_modify,List.getElem?_map]
    by_cases hij:j=i
    ·subst hij;simp [hk]
    ·simp [hij]
   rw [this];exact h3
  ·intro y hy
   obtain ⟨i,hi⟩:=List.getElem?_of_mem hy
   rw [List.getElem?_modify] at hi
   by_cases hij:j=i
   ·subst hij
    simp only [hk,if_true] at hi
    cases hi
    exact h4 x (List.mem_of_getElem? hk)
   ·simp only [hij,if_false,Option.map_eq_map,Option.map_id_fun',id_eq] at hi
    exact h4 y (List.mem_of_getElem? hi)
  ·intro m
   rw [look_modify m v h2 hk,hx1]
theorem O_mapSet {t k e:TypeId} {ka:κ→AV} [G:MapF P t k e] [I:KeyF P k κ kv] [KA:KeyA κ kv ka] (i:Nat) (x y z:Operand) {b:Nat} {n:κ} {g:κ→Option AV} {a:AV} {op:Op} (hop:op.operands=#[x,y,z]) (hex:∀ r:Operand→Value,execOp r ⟨d,op,ty,pos,aft,gg⟩=(Instr.mapUpdate t (r x) (r y) (r z) >>= fun _=>pure Next.skip))
 (hi:A[i]?=some (amap kv b g)) (hx:eva f x=.one (.v (.map (some b)))) (hy:eva f y=ka n) (hz:eva f z=a) :
 Opn P f A ⟨d,op,ty,pos,aft,gg⟩ fun v A'=>v=.tup []∧A'=A.set i (amap kv b (cput g n a)):=fun M w r hp h=>by
 obtain ⟨l,c,hm⟩:=hp.ats _ (List.mem_of_getElem? hi)
 have e2:=h y (by simp [hop])
 rw [hy] at e2
 have e3:=h z (by simp [hop])
 rw [hz] at e3
 obtain ⟨w',l',cl',h1,h2,h3,h4,h5,h6,h7,h8⟩:=run_update (P:=P) (t:=t) hm n (r z)
 have hblt:b < w.heap.size:=(Array.getElem?_eq_some_iff.1 hm.blk).1
 have ho:∀ g',oA (A.set i (amap kv b g'))=oA A:=fun g'=>by
  obtain ⟨s1,s2⟩:=set_split (y:=amap kv b g') hi
  rw [s2]
  conv=>rhs;rw [s1]
  simp [oA,amap]
 have keep:∀ {a:AV} {u:Value},a.rd (MO M A) w u→a.rd (MO M A) w' u:=fun hr=>AV.keep (fun c hc hn=>h2.block c hc fun hcb=>hn (.inr (mem_oA.2 ⟨_,List.mem_of_getElem? hi,by simpa [amap] using hcb⟩))) hr
 refine S_skip (w':=w') ?_ ⟨_,_,⟨rfl,rfl⟩,undef_rd,hp.turn hi h2 (by simp [amap]) (fun c hc=>⟨?_,.inl hc⟩) ⟨l',cl',h4,h5,h6,h7,fun u=>?_⟩⟩
 ·rw [hex,exact_of (h x (by simp [hop])) hx,KA.rd _ _ _ _ e2,Sem.run_bind,h1];rfl
 ·simp only [amap,List.mem_singleton] at hc;subst hc;omega
 ·have hMO:∀ b',MO M (A.set i (amap kv b (cput g n a))) b'→MO M A b':=fun b' hb'=>by unfold MO at hb' ⊢;rwa [ho] at hb'
  rw [h8]
  unfold cput
  by_cases hu:u=n
  ·rw [if_pos hu,if_pos hu];exact AV.grow (fun b' _=>hMO b') (keep e3)
  ·rw [if_neg hu,if_neg hu]
   have:=hm.val u
   cases hg:g u<;>cases hl:look l u<;>rw [hg,hl] at this<;>first|exact this|exact AV.grow (fun b' _=>hMO b') (keep this)
theorem O_update {t k e:TypeId} {ka:κ→AV} [G:MapF P t k e] [I:KeyF P k κ kv] [KA:KeyA κ kv ka] (i:Nat) (x y z:Operand) {b:Nat} {n:κ} {g:κ→Option AV} {a:AV} (hi:A[i]?=some (amap kv b g)) (hx:eva f x=.one (.v (.map (some b)))) (hy:eva f y=ka n) (hz:eva f z=a) :
 Opn P f A ⟨d,.mapUpdate t x y z,ty,pos,aft,gg⟩ fun v A'=>v=.tup []∧A'=A.set i (amap kv b (cput g n a)):=O_mapSet i x y z rfl (fun _=>rfl) hi hx hy hz
theorem O_insert {t k e:TypeId} {ka:κ→AV} [G:MapF P t k e] [I:KeyF P k κ kv] [KA:KeyA κ kv ka] (i:Nat) (x y z:Operand) {b:Nat} {n:κ} {g:κ→Option AV} {a:AV} (hi:A[i]?=some (amap kv b g)) (hx:eva f x=.one (.v (.map (some b)))) (hy:eva f y=ka n) (hz:eva f z=a) :
 Opn P f A ⟨d,.insert t x y z,ty,pos,aft,gg⟩ fun v A'=>v=.tup []∧A'=A.set i (amap kv b (cput g n a)):=O_mapSet i x y z rfl (fun _=>rfl) hi hx hy hz
end
def kvI (n:Int):Value:=.int .i64 n
class IntF (P:Program) (t:TypeId):Prop where
 und:P.underlying t=some (.int .i64)
instance:KeyA Int kvI (fun n=>.one (.v (.int .i64 n))):=⟨fun _ _ _ _ h=>h.1⟩
theorem findNow_look (n:Int):∀ (l:List (EntK Int)) (i:Nat),Instr.findNow (.int .i64) (.int .i64 n) (l.map (entK kvI)) i=some (lookIx l n i)
 | [],_=>rfl
 | x::l,i=>by
  simp only [List.map_cons,Instr.findNow,lookIx,entK,kvI,Instr.sameNow,if_true]
  by_cases h:x.1=n
  ·subst h;simp
  ·have h1:((n:Int) == (x.1:Int))=false:=by simp;omega
   rw [h1,if_neg h]
   exact findNow_look n l (i+1)
instance {P:Program} {k:TypeId} [I:IntF P k]:KeyF P k Int kvI:=⟨fun w e x=>by
 unfold Instr.checkKey
 rw [runC_bind,runC_underlying I.und]
 rfl,fun w x l=>by
 unfold Instr.findKey
 rw [runC_bind,runC_underlying I.und]
 simp only [Option.bind_some]
 have:=findNow_look x l 0
 unfold kvI at this ⊢
 rw [this]
 rfl,fun x=>by simp [kvI,Instr.sameBits],fun x=>⟨.one (.v (kvI x)),fun M w y=>⟨fun h=>h.1,fun h=>⟨h,rfl⟩⟩⟩⟩
def gm {κ α:Type} (enc:α→AV) (c:κ→Option α):κ→Option AV:=fun x=>(c x).map enc
theorem gm_put {κ α:Type} [DecidableEq κ] {enc:α→AV} {c:κ→Option α} {k:κ} {v:α}:cput (gm enc c) k (enc v)=gm enc (cput c k v):=by
 funext x;unfold cput gm;by_cases h:x=k<;>simp [h]
end Go.Proofs.YtejkllmoofdpjaaGreat
