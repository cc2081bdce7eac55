/- Parts of the proof: VN YF. -/
import Derived.Test.YtejkllmoofdpjaaGreatD3
import Derived.Test.YtejkllmoofdpjaaGreatProg
import Derived.Shelf.Abstract
namespace Go.Proofs.YtejkllmoofdpjaaGreat
open Go
set_option linter.all false
set_option maxRecDepth 100000
set_option maxHeartbeats 4000000
section
variable {P:Program} {f:AF} {A:List Atm} {d:Option Tmp} {ty:TypeId} {pos:String} {aft:Array Edge} {gg:Option (Nat × Bool)} {M:Nat→Prop} {w w':World}
theorem run_append_empty {t e:TypeId} {i:TypeInfo} (ht:P.underlying t=some (.slice e)) (hi:P.info? e=some i) {sz n c:Nat} {v:Value} {xs:List Value} {a:Option Addr} (hown:w.ownsRow 0 e sz v n xs) :
 (Builtin.append_ #[t,t] ty #[v,.slice a 0 c]).run P w=.ok v w:=by
 rcases hown.2 with ⟨rfl,rfl⟩ | ⟨g,cap,cur,rfl,_,_,hnc,_⟩
 ·cases a<;>simp [Builtin.append_,run_underlying ht,sizeOf,typeInfo,hi,Builtin.lenOf,Builtin.firstCells,loadCells,loadCellsFrom]
 ·cases a<;>simp [Builtin.append_,run_underlying ht,sizeOf,typeInfo,hi,Builtin.lenOf,Builtin.firstCells,hnc,storeCells,loadCells,loadCellsFrom]
theorem arow_len {e:TypeId} {sz:Nat} {v:Value} {rows:List (List D)} (h:(arow e sz v rows).ok M w):∃ a c,v=.slice a rows.length c∧rows.length≤c:=by
 obtain ⟨vss,⟨h1,h2,h3⟩,h4⟩:=h
 have hl:=rdRows_len h4
 rcases h3 with ⟨rfl,h0⟩ | ⟨g,cap,cur,rfl,_,_,hnc,_⟩
 ·exact ⟨none,0,by rw [← hl,h0],by omega⟩
 ·exact ⟨_,cap,by rw [hl],by omega⟩
theorem O_app {t e:TypeId} {agg:Bool} {sz bytes:Nat} {z:Value} [G:SlF P t e] [F:TyF P e agg sz z] [B:ByF P e bytes] (i:Nat) (s x:Operand) {v:Value} {rows rs:List (List D)} (hs:eva f s=.one (.v v)) (hi:A[i]?=some (arow e sz v rows)) (hx:eva f x=.one (.s sz rs))
 (hsz:Nat.blt 0 sz=true) (hzs:z.cells.size=sz) (hlen:(rows.length+rs.length) * (bytes+1)≤140737488355328) :
 Opn P f A ⟨d,.call {callee:=.builtin .append,args:=#[s,x],argTypes:=#[t,t] },ty,pos,aft,gg⟩ fun v A'=>∃ u,v=.one (.v u)∧A'=A.set i (arow e sz u (rows++rs)):=by
 cases rs with
 | cons r rs=>exact O_append i s x hs hi hx (by simp) hsz hzs hlen
 | nil=>
  intro M w r hp h
  obtain ⟨inf,hinf,hby⟩:=Option.map_eq_some_iff.1 B.run
  obtain ⟨vss,⟨hall,hown⟩,hrows⟩:=hp.ats _ (List.mem_of_getElem? hi)
  have hx1:=h x (by simp [Op.operands,Call.operands])
  rw [hx] at hx1
  obtain ⟨a,c,hxv,_⟩:=hx1
  have hsv:=exact_of (h s (by simp [Op.operands,Call.operands])) hs
  have hone:v.oneCell'=true:=by
   have:=h s (by simp [Op.operands,Call.operands])
   rw [hs] at this;exact this.2
  have hA:A.set i (arow e sz v (rows++[]))=A:=by
   rw [List.append_nil]
   apply List.ext_getElem?
   intro j
   rw [List.getElem?_set]
   by_cases hij:i=j
   ·subst hij;rw [hi];simp [(List.getElem?_eq_some_iff.1 hi).1]
   ·simp [hij]
  refine S_run (v:=v) (w':=w) ?_ ⟨_,_,⟨v,rfl,rfl⟩,⟨rfl,hone⟩,by rw [hA];exact .refl hp⟩
  simp only [execOp,resolve,pure_bind,invoke,builtin,List.map_toArray,List.map_cons,List.map_nil,hsv,hxv,Sem.run_bind]
  have:=run_append_empty (P:=P) (w:=w) (ty:=ty) (c:=c) (a:=a) G.und hinf hown
  simp only [List.length_nil] at this ⊢
  rw [this];rfl
theorem P_lenRow {t e:TypeId} [S:SlF P t e] (x:Operand) {e':TypeId} {sz n:Nat} {v:Value} {rows:List (List D)} (hx:eva f x=.one (.v v)) (hm:arow e' sz v rows∈A) (hn:rows.length=n):PuO P f A ⟨d,.call {callee:=.builtin .len,args:=#[x],argTypes:=#[t] },ty,pos,aft,gg⟩ (.one (.v (.int .i64 n))):=PuO_rd fun M w r hp h=>by
 obtain ⟨a,c,h1,_⟩:=arow_len (hp.ats _ hm)
 have h2:=exact_of (h x (by simp [Op.operands,Call.operands])) hx
 rw [h1] at h2
 exact ⟨_,X_len x h2,by rw [hn];exact ⟨rfl,rfl⟩⟩
theorem flatten_set {sz:Nat}:∀ {vss:List (List Value)} {j:Nat} {us:List Value},(∀ vs∈vss,vs.length=sz)→j < vss.length→us.length=sz→(vss.set j us).flatten=putAt vss.flatten (j * sz) us
 | v::vss,0,us,h,_,hu=>by
  have hv:=h v (by simp)
  simp only [List.set_cons_zero,List.flatten_cons,putAt,Nat.zero_mul,List.take_zero,List.nil_append,Nat.zero_add,hu]
  rw [List.drop_append_of_le_length (by omega),List.drop_of_length_le (by omega),List.nil_append]
 | v::vss,j+1,us,h,hj,hu=>by
  have hv:=h v (by simp)
  simp only [List.set_cons_succ,List.flatten_cons]
  rw [flatten_set (fun x hx=>h x (by simp [hx])) (by simpa using hj) hu]
  unfold putAt
  rw [Nat.add_mul,Nat.one_mul,List.take_append,List.take_of_length_le (l:=v) (by omega),show j * sz+sz - v.length=j * sz by omega,List.drop_append,List.drop_of_length_le (i:=j * sz+sz+us.length) (l:=v) (by omega),List.nil_append,show j * sz+sz+us.length - v.length=j * sz+us.length by omega,List.append_assoc]
theorem take_putAt {xs us:List Value} {o m:Nat} (h:o+us.length≤m) (hm:m≤xs.length):(putAt xs o us).take m=putAt (xs.take m) o us:=by
 unfold putAt
 have h1:(xs.take m).take o=xs.take o:=by rw [List.take_take];congr 1;omega
 have h2:(xs.take m).drop (o+us.length)=(xs.drop (o+us.length)).take (m - (o+us.length)):=by rw [List.drop_take]
 rw [h1,h2,List.take_append,List.take_of_length_le (l:=xs.take o) (by simp;omega),List.take_append,List.take_of_length_le (l:=us) (by simp;omega)]
 congr 3
 simp;omega
theorem rdRows_set {M:Nat→Prop} {w:World}:∀ {rs:List (List D)} {vss:List (List Value)} {r:List D} {vs:List Value} (j:Nat),rdRows M w rs vss→rdC M w r vs→rdRows M w (rs.set j r) (vss.set j vs)
 | [],[],_,_,_,h,_=>h
 | _::_,_::_,_,_,0,⟨_,h2⟩,h=>⟨h,h2⟩
 | _::_,_::_,_,_,j+1,⟨h1,h2⟩,h=>⟨h1,rdRows_set j h2 h⟩
theorem rdRows_replicate {M:Nat→Prop} {w:World} {zs:List D} {vs:List Value} (h:rdC M w zs vs):∀ n,rdRows M w (List.replicate n zs) (List.replicate n vs)
 | 0=>trivial
 | n+1=>⟨h,rdRows_replicate h n⟩
theorem madeCells_flat (vs:List Value) (n:Nat):(madeCells vs.toArray (n * vs.length)).toList=(List.replicate n vs).flatten:=by
 by_cases h0:vs.length=0
 ·have:vs=[]:=List.eq_nil_of_length_eq_zero h0
  subst this;simp [madeCells]
 ·apply List.ext_getElem?
  intro j
  have hl:(List.replicate n vs).flatten.length=n * vs.length:=by simp
  by_cases hj:j < n * vs.length
  ·have hlt:j % vs.length < vs.length:=Nat.mod_lt _ (by omega)
   have hdiv:j / vs.length < n:=Nat.div_lt_of_lt_mul (by rw [Nat.mul_comm];exact hj)
   have e1:(madeCells vs.toArray (n * vs.length)).toList[j]?=some vs[j % vs.length]:=by simp [madeCells,hj,hlt]
   rw [e1]
   have:∀ (n j:Nat),j < n * vs.length→(List.replicate n vs).flatten[j]?=vs[j % vs.length]?:=by
    intro n
    induction n with
    | zero=>intro j hj;omega
    | succ n ih=>
     intro j hj
     rw [List.replicate_succ,List.flatten_cons]
     by_cases hjl:j < vs.length
     ·rw [List.getElem?_append_left hjl,Nat.mod_eq_of_lt hjl]
     ·rw [List.getElem?_append_right (by omega),ih _ (by rw [Nat.succ_mul] at hj;omega),Nat.mod_eq_sub_mod (a:=j) (by omega)]
   rw [this n j hj]
   simp [hlt]
  ·rw [List.getElem?_eq_none (by simp [madeCells];omega),List.getElem?_eq_none (by rw [hl];omega)]
theorem O_make {t e:TypeId} {agg:Bool} {sz bytes:Nat} {z:Value} [G:SlF P t e] [F:TyF P e agg sz z] [B:ByF P e bytes] (x y:Operand) {n:Nat} {zs:List D} (hx:eva f x=.one (.v (.int .i64 n))) (hy:eva f y=.one (.v (.int .i64 n))) (hz:cstL z.cells.toList=some zs) (hzs:z.cells.size=sz) (hlen:n * (bytes+1)≤140737488355328) :
 Opn P f A ⟨d,.makeSlice t x y,ty,pos,aft,gg⟩ fun v A'=>∃ b,v=.one (.v (.slice (some ⟨b,0,none⟩) n n))∧A'=arow e sz (.slice (some ⟨b,0,none⟩) n n) (List.replicate n zs)::A:=fun M w r hp h=>by
 obtain ⟨inf,hinf,hby⟩:=Option.map_eq_some_iff.1 B.run
 obtain ⟨hzz,hsize⟩:=TyF.info (P:=P) w hinf
 have hl1:n≤140737488355328:=Nat.le_trans (Nat.le_mul_of_pos_right _ (by omega)) hlen
 have hl2:inf.bytes * n≤281474976710656:=by rw [hby,Nat.mul_comm];rw [Nat.mul_add] at hlen;omega
 obtain ⟨w',h1,h2,h3⟩:=run_make_full (P:=P) w 0 t e inf z sz G.und hinf hzz hsize .i64 .i64 n hl2 (by unfold maxLen;omega) (Nat.zero_le _)
 have hm:Mod [] w w':=⟨h3.os,h3.tape,h3.output,h3.size,fun k hk _=>h3.block k hk (by simp)⟩
 have hnew:w.heap.size < w'.heap.size:=(h2.lt w.heap.size rfl).2
 have hzl:z.cells.toList.length=sz:=by simpa using hzs
 have hzr:rdC (MO M (arow e sz (.slice (some ⟨w.heap.size,0,none⟩) n n) (List.replicate n zs)::A)) w' zs z.cells.toList:=cstL_rd hz
 have hflat:(madeCells z.cells (n * sz)).toList=(List.replicate n z.cells.toList).flatten:=by
  have:=madeCells_flat z.cells.toList n
  rw [hzl] at this
  simpa using this
 refine S_run (v:=.slice (some ⟨w.heap.size,0,none⟩) n n) (w':=w') ?_ ⟨_,_,⟨w.heap.size,rfl,rfl⟩,⟨rfl,rfl⟩,hp.cons hm (by simp [arow,Value.ownBlock]) (fun b hb=>?_) ⟨List.replicate n z.cells.toList,⟨fun vs hvs=>by rw [List.eq_of_mem_replicate hvs,hzl],?_⟩,rdRows_replicate hzr n⟩⟩
 ·show (Instr.makeSlice t (r x) (r y) >>= fun v=>pure (Next.value v)).run P w=_
  rw [exact_of (h x (by simp [Op.operands])) hx,exact_of (h y (by simp [Op.operands])) hy,Sem.run_bind,h1];rfl
 ·simp only [arow,Value.ownBlock,Option.toList_some,List.mem_singleton] at hb
  subst hb;exact ⟨hnew,Nat.le_refl _⟩
 ·rw [List.length_replicate,← hflat];exact h2
theorem P_indexV {t e:TypeId} {agg:Bool} {sz:Nat} {z:Value} [S:SlF P t e] [T:TyF P e agg sz z] (x i:Operand) {b n c:Nat} {k:IntKind} (j:Nat) (hx:eva f x=.one (.v (.slice (some ⟨b,0,none⟩) n c))) (hi:eva f i=.one (.v (.int k j))) (hj:j < n) :
 PuO P f A ⟨d,.indexAddr t x i,ty,pos,aft,gg⟩ (.one (.v (.pointer (some ⟨b,0+j * sz,none⟩)))):=P_ex2 x i rfl hx hi rfl fun _ _ h1 h2=>X_indexAddr x i j h1 h2 hj
theorem O_storeRow {t e:TypeId} {agg:Bool} {sz:Nat} {z:Value} [F:TyF P t agg sz z] (i j:Nat) (x y:Operand) {b n c:Nat} {rows:List (List D)} {cs:List D} {a:AV} (hx:eva f x=.one (.v (.pointer (some ⟨b,0+j * sz,none⟩)))) (hi:A[i]?=some (arow e sz (.slice (some ⟨b,0,none⟩) n c) rows)) (hy:eva f y=a) (hc:a.cellsD=some cs) (hl:cs.length=sz) (hj:j < rows.length) :
 Opn P f A ⟨d,.store t x y,ty,pos,aft,gg⟩ fun v A'=>v=.tup []∧A'=A.set i (arow e sz (.slice (some ⟨b,0,none⟩) n c) (rows.set j cs)):=fun M w r hp h=>by
 obtain ⟨vss,⟨hall,hlen,hown⟩,h2⟩:=hp.ats _ (List.mem_of_getElem? hi)
 have hvl:=rdRows_len h2
 rcases hown with ⟨h0,_⟩ | ⟨g,cap,cur,e1,hg0,hb,hnc,hcm,hcs,htake⟩
 ·cases h0
 cases e1
 have h3:=h y (by simp [Op.operands])
 rw [hy] at h3
 obtain ⟨us,h4,h5⟩:=cellsD_rd hc h3
 have hul:us.length=sz:=by rw [rdC_len h5,hl]
 have hjs:j * sz+sz≤vss.length * sz:=by
  have:=Nat.mul_le_mul_right sz (show j+1≤vss.length by omega)
  rw [Nat.add_mul] at this;omega
 have hcl:cur.toList.length=c * sz:=by simpa using hcs
 have hcn:vss.length * sz≤c * sz:=Nat.mul_le_mul_right _ hnc
 obtain ⟨w',e1,e2,e3,e4⟩:=storeVar_at (P:=P) (t:=t) (b:=b) (o:=0+j * sz) (xs:=cur.toList) h4 hul (rdC_one h5) (by simpa using hb) (by rw [hcl,Nat.zero_add];omega)
 have ho:∀ rows',oA (A.set i (arow e sz (.slice (some ⟨b,0,none⟩) vss.length c) rows'))=oA A:=fun rows'=>by
  obtain ⟨s1,s2⟩:=set_split (y:=arow e sz (.slice (some ⟨b,0,none⟩) vss.length c) rows') hi
  rw [s2]
  conv=>rhs;rw [s1]
  simp [oA,arow]
 have hmb:∀ {q:Nat},q∈[b]→q∈(arow e sz (.slice (some ⟨b,0,none⟩) vss.length c) rows).own:=fun hq=>by simpa [arow,Value.ownBlock] using hq
 have keep:∀ q,q < w.heap.size→¬ MO M A q→w'.heap[q]?=w.heap[q]?:=fun q hq hn=>e2.block q hq fun hqb=>hn (.inr (mem_oA.2 ⟨_,List.mem_of_getElem? hi,hmb hqb⟩))
 refine S_skip (w':=w') ?_ ⟨_,_,⟨rfl,rfl⟩,undef_rd,hp.turn hi (e2.mono fun q hq=>hmb hq) (by simp [arow,Value.ownBlock]) (fun q hq=>⟨?_,.inl hq⟩) ⟨vss.set j us,⟨fun vs hvs=>?_,?_,.inr ⟨b,c,(putAt cur.toList (0+j * sz) us).toArray,by rw [List.length_set],hg0,e4,by rw [List.length_set];exact hnc,hcm,?_,?_⟩⟩,?_⟩⟩
 ·simp only [execOp,Instr.storeAt,exact_of (h x (by simp [Op.operands])) hx,bind_assoc,Sem.run_bind]
  show ((Instr.sureAddr _).run P w).andThen _=_
  simp only [Instr.sureAddr,Sem.run_pure,Result.andThen_ok,Sem.run_bind,e1]
 ·simp only [arow,Value.ownBlock,Option.toList_some,List.mem_singleton] at hq;subst hq
  rw [e3];exact (Array.getElem?_eq_some_iff.1 hb).1
 ·rcases List.mem_or_eq_of_mem_set hvs with h|rfl
  ·exact hall vs h
  ·exact hul
 ·rw [flatten_set hall (by omega) hul,putAt_len (by rw [hlen];omega),hlen,List.length_set]
 ·rw [List.size_toArray,putAt_len (by rw [hcl];omega),hcl]
 ·rw [List.length_set,flatten_set hall (by omega) hul,← htake,Nat.zero_add]
  exact take_putAt (by omega) (by rw [hcl];omega)
 ·have h6:=rdRows_set j (rdRows_keep keep h2) (rdC_keep keep h5)
  refine rdRows_grow (fun q _ hM=>?_) h6
  unfold MO at hM ⊢
  rwa [ho] at hM
end
instance:TyF Tryz.prog 3 false 1 (.int .i64 0):=⟨fun _=>by kernel_rfl,fun _=>by kernel_rfl,fun _=>by kernel_rfl⟩
instance:TyF Tryz.prog 4 false 1 (.bool false):=⟨fun _=>by kernel_rfl,fun _=>by kernel_rfl,fun _=>by kernel_rfl⟩
instance:TyF Tryz.prog 9 false 1 (.string ⟨#[]⟩):=⟨fun _=>by kernel_rfl,fun _=>by kernel_rfl,fun _=>by kernel_rfl⟩
instance:StF Tryz.prog 9:=⟨Tryz.underlying9⟩
instance:TyF Tryz.prog 22 false 1 (.slice none 0 0):=⟨fun _=>by kernel_rfl,fun _=>by kernel_rfl,fun _=>by kernel_rfl⟩
instance:SlF Tryz.prog 22 150:=⟨Tryz.underlying22⟩
instance:TyF Tryz.prog 24 true 1 (.agg #[.slice none 0 0]):=⟨fun _=>by kernel_rfl,fun _=>by kernel_rfl,fun _=>by kernel_rfl⟩
instance:FldF Tryz.prog 24 0 0:=⟨fun _ _ _=>by kernel_rfl⟩
instance:TyF Tryz.prog 31 false 1 (.slice none 0 0):=⟨fun _=>by kernel_rfl,fun _=>by kernel_rfl,fun _=>by kernel_rfl⟩
instance:ByF Tryz.prog 3 8:=⟨by kernel_rfl⟩
instance:SlF Tryz.prog 31 3:=⟨Tryz.underlying31⟩
instance:TyF Tryz.prog 34 false 1 (.slice none 0 0):=⟨fun _=>by kernel_rfl,fun _=>by kernel_rfl,fun _=>by kernel_rfl⟩
instance:SlF Tryz.prog 34 168:=⟨Tryz.underlying34⟩
instance:TyF Tryz.prog 35 false 1 (.slice none 0 0):=⟨fun _=>by kernel_rfl,fun _=>by kernel_rfl,fun _=>by kernel_rfl⟩
instance:SlF Tryz.prog 35 37:=⟨Tryz.underlying35⟩
instance:TyF Tryz.prog 37 true 4 (.agg #[.int .i64 0,.string ⟨#[]⟩,.slice none 0 0,.slice none 0 0]):=⟨fun _=>by kernel_rfl,fun _=>by kernel_rfl,fun _=>by kernel_rfl⟩
instance:FldF Tryz.prog 37 0 0:=⟨fun _ _ _=>by kernel_rfl⟩
instance:FldF Tryz.prog 37 1 1:=⟨fun _ _ _=>by kernel_rfl⟩
instance:FldF Tryz.prog 37 2 2:=⟨fun _ _ _=>by kernel_rfl⟩
instance:FldF Tryz.prog 37 3 3:=⟨fun _ _ _=>by kernel_rfl⟩
instance:TyF Tryz.prog 44 false 1 (.slice none 0 0):=⟨fun _=>by kernel_rfl,fun _=>by kernel_rfl,fun _=>by kernel_rfl⟩
instance:ByF Tryz.prog 154 104:=⟨by kernel_rfl⟩
instance:SlF Tryz.prog 44 154:=⟨Tryz.underlying44⟩
instance:TyF Tryz.prog 46 true 1 (.agg #[.slice none 0 0]):=⟨fun _=>by kernel_rfl,fun _=>by kernel_rfl,fun _=>by kernel_rfl⟩
instance:FldF Tryz.prog 46 0 0:=⟨fun _ _ _=>by kernel_rfl⟩
instance:TyF Tryz.prog 48 false 1 (.slice none 0 0):=⟨fun _=>by kernel_rfl,fun _=>by kernel_rfl,fun _=>by kernel_rfl⟩
instance:ByF Tryz.prog 183 64:=⟨by kernel_rfl⟩
instance:SlF Tryz.prog 48 183:=⟨Tryz.underlying48⟩
instance:TyF Tryz.prog 49 false 1 (.slice none 0 0):=⟨fun _=>by kernel_rfl,fun _=>by kernel_rfl,fun _=>by kernel_rfl⟩
instance:ByF Tryz.prog 48 24:=⟨by kernel_rfl⟩
instance:SlF Tryz.prog 49 48:=⟨Tryz.underlying49⟩
instance:TyF Tryz.prog 50 false 1 (.slice none 0 0):=⟨fun _=>by kernel_rfl,fun _=>by kernel_rfl,fun _=>by kernel_rfl⟩
instance:ByF Tryz.prog 186 16:=⟨by kernel_rfl⟩
instance:SlF Tryz.prog 50 186:=⟨Tryz.underlying50⟩
instance:TyF Tryz.prog 51 false 1 (.slice none 0 0):=⟨fun _=>by kernel_rfl,fun _=>by kernel_rfl,fun _=>by kernel_rfl⟩
instance:ByF Tryz.prog 189 24:=⟨by kernel_rfl⟩
instance:SlF Tryz.prog 51 189:=⟨Tryz.underlying51⟩
instance:TyF Tryz.prog 53 true 5 (.agg #[.int .i64 0,.slice none 0 0,.slice none 0 0,.slice none 0 0,.slice none 0 0]):=⟨fun _=>by kernel_rfl,fun _=>by kernel_rfl,fun _=>by kernel_rfl⟩
instance:FldF Tryz.prog 53 0 0:=⟨fun _ _ _=>by kernel_rfl⟩
instance:FldF Tryz.prog 53 1 1:=⟨fun _ _ _=>by kernel_rfl⟩
instance:FldF Tryz.prog 53 2 2:=⟨fun _ _ _=>by kernel_rfl⟩
instance:FldF Tryz.prog 53 3 3:=⟨fun _ _ _=>by kernel_rfl⟩
instance:FldF Tryz.prog 53 4 4:=⟨fun _ _ _=>by kernel_rfl⟩
instance:FieldsF Tryz.prog 53 [(0,1),(1,1),(2,1),(3,1),(4,1)]:=⟨⟨_,Tryz.underlying53,fun _=>by kernel_rfl⟩⟩
instance:TyF Tryz.prog 55 true 6 (.agg #[.int .i64 0,.slice none 0 0,.slice none 0 0,.slice none 0 0,.slice none 0 0,.slice none 0 0]):=⟨fun _=>by kernel_rfl,fun _=>by kernel_rfl,fun _=>by kernel_rfl⟩
instance:FldF Tryz.prog 55 0 0:=⟨fun _ _ _=>by kernel_rfl⟩
instance:FldF Tryz.prog 55 1 5:=⟨fun _ _ _=>by kernel_rfl⟩
instance:FieldsF Tryz.prog 55 [(0,5),(5,1)]:=⟨⟨_,Tryz.underlying55,fun _=>by kernel_rfl⟩⟩
instance:TyF Tryz.prog 56 false 1 (.slice none 0 0):=⟨fun _=>by kernel_rfl,fun _=>by kernel_rfl,fun _=>by kernel_rfl⟩
instance:ByF Tryz.prog 174 56:=⟨by kernel_rfl⟩
instance:SlF Tryz.prog 56 174:=⟨Tryz.underlying56⟩
instance:TyF Tryz.prog 57 false 1 (.slice none 0 0):=⟨fun _=>by kernel_rfl,fun _=>by kernel_rfl,fun _=>by kernel_rfl⟩
instance:ByF Tryz.prog 59 72:=⟨by kernel_rfl⟩
instance:SlF Tryz.prog 57 59:=⟨Tryz.underlying57⟩
instance:TyF Tryz.prog 59 true 4 (.agg #[.int .i64 0,.string ⟨#[]⟩,.slice none 0 0,.slice none 0 0]):=⟨fun _=>by kernel_rfl,fun _=>by kernel_rfl,fun _=>by kernel_rfl⟩
instance:FldF Tryz.prog 59 0 0:=⟨fun _ _ _=>by kernel_rfl⟩
instance:FldF Tryz.prog 59 1 1:=⟨fun _ _ _=>by kernel_rfl⟩
instance:FldF Tryz.prog 59 2 2:=⟨fun _ _ _=>by kernel_rfl⟩
instance:FldF Tryz.prog 59 3 3:=⟨fun _ _ _=>by kernel_rfl⟩
instance:FieldsF Tryz.prog 59 [(0,1),(1,1),(2,1),(3,1)]:=⟨⟨_,Tryz.underlying59,fun _=>by kernel_rfl⟩⟩
instance:TyF Tryz.prog 62 true 12 (.agg #[.int .i64 0,.int .i64 0,.slice none 0 0,.slice none 0 0,.slice none 0 0,.slice none 0 0,.slice none 0 0,.int .i64 0,.string ⟨#[]⟩,.slice none 0 0,.slice none 0 0,.slice none 0 0]):=⟨fun _=>by kernel_rfl,fun _=>by kernel_rfl,fun _=>by kernel_rfl⟩
instance:FieldsF Tryz.prog 62 [(0,1),(1,6),(7,4),(11,1)]:=⟨⟨_,Tryz.underlying62,fun _=>by kernel_rfl⟩⟩
instance:ByF Tryz.prog 147 136:=⟨by kernel_rfl⟩
instance:SlF Tryz.prog 89 147:=⟨Tryz.underlying89⟩
instance:TyF Tryz.prog 147 true 7 (.agg #[.int .i64 0,.slice none 0 0,.slice none 0 0,.slice none 0 0,.slice none 0 0,.slice none 0 0,.int .i64 0]):=⟨fun _=>by kernel_rfl,fun _=>by kernel_rfl,fun _=>by kernel_rfl⟩
instance:FldF Tryz.prog 147 0 0:=⟨fun _ _ _=>by kernel_rfl⟩
instance:FldF Tryz.prog 147 1 6:=⟨fun _ _ _=>by kernel_rfl⟩
instance:FieldsF Tryz.prog 147 [(0,6),(6,1)]:=⟨⟨_,Tryz.underlying147,fun _=>by kernel_rfl⟩⟩
instance:TyF Tryz.prog 150 true 7 (.agg #[.string ⟨#[]⟩,.int .i64 0,.int .i64 0,.int .i64 0,.string ⟨#[]⟩,.slice none 0 0,.slice none 0 0]):=⟨fun _=>by kernel_rfl,fun _=>by kernel_rfl,fun _=>by kernel_rfl⟩
instance:FldF Tryz.prog 150 0 0:=⟨fun _ _ _=>by kernel_rfl⟩
instance:FldF Tryz.prog 150 1 1:=⟨fun _ _ _=>by kernel_rfl⟩
instance:FldF Tryz.prog 150 2 2:=⟨fun _ _ _=>by kernel_rfl⟩
instance:FldF Tryz.prog 150 3 3:=⟨fun _ _ _=>by kernel_rfl⟩
instance:TyF Tryz.prog 154 true 7 (.agg #[.string ⟨#[]⟩,.int .i64 0,.int .i64 0,.int .i64 0,.string ⟨#[]⟩,.slice none 0 0,.slice none 0 0]):=⟨fun _=>by kernel_rfl,fun _=>by kernel_rfl,fun _=>by kernel_rfl⟩
instance:FldF Tryz.prog 154 0 0:=⟨fun _ _ _=>by kernel_rfl⟩
instance:FldF Tryz.prog 154 1 1:=⟨fun _ _ _=>by kernel_rfl⟩
instance:FldF Tryz.prog 154 2 2:=⟨fun _ _ _=>by kernel_rfl⟩
instance:FldF Tryz.prog 154 3 3:=⟨fun _ _ _=>by kernel_rfl⟩
instance:TyF Tryz.prog 157 false 1 (.map none):=⟨fun _=>by kernel_rfl,fun _=>by kernel_rfl,fun _=>by kernel_rfl⟩
instance:MapF Tryz.prog 157 3 3:=⟨Tryz.underlying157⟩
instance:TyF Tryz.prog 168 true 4 (.agg #[.int .i64 0,.int .i64 0,.string ⟨#[]⟩,.slice none 0 0]):=⟨fun _=>by kernel_rfl,fun _=>by kernel_rfl,fun _=>by kernel_rfl⟩
instance:FldF Tryz.prog 168 0 0:=⟨fun _ _ _=>by kernel_rfl⟩
instance:FldF Tryz.prog 168 1 1:=⟨fun _ _ _=>by kernel_rfl⟩
instance:FldF Tryz.prog 168 2 2:=⟨fun _ _ _=>by kernel_rfl⟩
instance:FldF Tryz.prog 168 3 3:=⟨fun _ _ _=>by kernel_rfl⟩
instance:TyF Tryz.prog 174 true 4 (.agg #[.int .i64 0,.int .i64 0,.string ⟨#[]⟩,.slice none 0 0]):=⟨fun _=>by kernel_rfl,fun _=>by kernel_rfl,fun _=>by kernel_rfl⟩
instance:FldF Tryz.prog 174 0 0:=⟨fun _ _ _=>by kernel_rfl⟩
instance:FldF Tryz.prog 174 1 1:=⟨fun _ _ _=>by kernel_rfl⟩
instance:FldF Tryz.prog 174 2 2:=⟨fun _ _ _=>by kernel_rfl⟩
instance:FldF Tryz.prog 174 3 3:=⟨fun _ _ _=>by kernel_rfl⟩
instance:FieldsF Tryz.prog 174 [(0,1),(1,1),(2,1),(3,1)]:=⟨⟨_,Tryz.underlying174,fun _=>by kernel_rfl⟩⟩
instance:TyF Tryz.prog 183 true 5 (.agg #[.int .i64 0,.int .i64 0,.int .i64 0,.string ⟨#[]⟩,.slice none 0 0]):=⟨fun _=>by kernel_rfl,fun _=>by kernel_rfl,fun _=>by kernel_rfl⟩
instance:FldF Tryz.prog 183 0 0:=⟨fun _ _ _=>by kernel_rfl⟩
instance:FldF Tryz.prog 183 1 1:=⟨fun _ _ _=>by kernel_rfl⟩
instance:FieldsF Tryz.prog 183 [(0,1),(1,4)]:=⟨⟨_,Tryz.underlying183,fun _=>by kernel_rfl⟩⟩
instance:TyF Tryz.prog 186 true 2 (.agg #[.int .i64 0,.int .i64 0]):=⟨fun _=>by kernel_rfl,fun _=>by kernel_rfl,fun _=>by kernel_rfl⟩
instance:FldF Tryz.prog 186 0 0:=⟨fun _ _ _=>by kernel_rfl⟩
instance:FldF Tryz.prog 186 1 1:=⟨fun _ _ _=>by kernel_rfl⟩
instance:FieldsF Tryz.prog 186 [(0,1),(1,1)]:=⟨⟨_,Tryz.underlying186,fun _=>by kernel_rfl⟩⟩
instance:TyF Tryz.prog 189 true 2 (.agg #[.int .i64 0,.string ⟨#[]⟩]):=⟨fun _=>by kernel_rfl,fun _=>by kernel_rfl,fun _=>by kernel_rfl⟩
instance:FldF Tryz.prog 189 0 0:=⟨fun _ _ _=>by kernel_rfl⟩
instance:FldF Tryz.prog 189 1 1:=⟨fun _ _ _=>by kernel_rfl⟩
instance:FieldsF Tryz.prog 189 [(0,1),(1,1)]:=⟨⟨_,Tryz.underlying189,fun _=>by kernel_rfl⟩⟩
instance:TyF Tryz.prog 193 true 5 (.agg #[.int .i64 0,.string ⟨#[]⟩,.slice none 0 0,.slice none 0 0,.int .i64 0]):=⟨fun _=>by kernel_rfl,fun _=>by kernel_rfl,fun _=>by kernel_rfl⟩
instance:FldF Tryz.prog 193 0 0:=⟨fun _ _ _=>by kernel_rfl⟩
instance:FldF Tryz.prog 193 1 4:=⟨fun _ _ _=>by kernel_rfl⟩
instance:FieldsF Tryz.prog 193 [(0,4),(4,1)]:=⟨⟨_,Tryz.underlying193,fun _=>by kernel_rfl⟩⟩
instance:TyF Tryz.prog 194 false 1 (.slice none 0 0):=⟨fun _=>by kernel_rfl,fun _=>by kernel_rfl,fun _=>by kernel_rfl⟩
instance:ByF Tryz.prog 193 80:=⟨by kernel_rfl⟩
instance:SlF Tryz.prog 194 193:=⟨Tryz.underlying194⟩
instance:TyF Tryz.prog 196 true 8 (.agg #[.int .i64 0,.slice none 0 0,.slice none 0 0,.slice none 0 0,.slice none 0 0,.slice none 0 0,.int .i64 0,.slice none 0 0]):=⟨fun _=>by kernel_rfl,fun _=>by kernel_rfl,fun _=>by kernel_rfl⟩
instance:FldF Tryz.prog 196 0 0:=⟨fun _ _ _=>by kernel_rfl⟩
instance:FldF Tryz.prog 196 1 7:=⟨fun _ _ _=>by kernel_rfl⟩
instance:FieldsF Tryz.prog 196 [(0,7),(7,1)]:=⟨⟨_,Tryz.underlying196,fun _=>by kernel_rfl⟩⟩
instance:ByF Tryz.prog 196 160:=⟨by kernel_rfl⟩
instance:SlF Tryz.prog 197 196:=⟨Tryz.underlying197⟩
instance:TyF Tryz.prog 201 true 5 (.agg #[.int .i64 0,.string ⟨#[]⟩,.slice none 0 0,.slice none 0 0,.int .i64 0]):=⟨fun _=>by kernel_rfl,fun _=>by kernel_rfl,fun _=>by kernel_rfl⟩
instance:FldF Tryz.prog 201 0 0:=⟨fun _ _ _=>by kernel_rfl⟩
instance:FldF Tryz.prog 201 1 4:=⟨fun _ _ _=>by kernel_rfl⟩
instance:FieldsF Tryz.prog 201 [(0,4),(4,1)]:=⟨⟨_,Tryz.underlying201,fun _=>by kernel_rfl⟩⟩
instance:TyF Tryz.prog 202 false 1 (.slice none 0 0):=⟨fun _=>by kernel_rfl,fun _=>by kernel_rfl,fun _=>by kernel_rfl⟩
instance:ByF Tryz.prog 201 80:=⟨by kernel_rfl⟩
instance:SlF Tryz.prog 202 201:=⟨Tryz.underlying202⟩
instance:TyF Tryz.prog 204 true 8 (.agg #[.int .i64 0,.slice none 0 0,.slice none 0 0,.slice none 0 0,.slice none 0 0,.slice none 0 0,.slice none 0 0,.int .i64 0]):=⟨fun _=>by kernel_rfl,fun _=>by kernel_rfl,fun _=>by kernel_rfl⟩
instance:FldF Tryz.prog 204 0 0:=⟨fun _ _ _=>by kernel_rfl⟩
instance:FldF Tryz.prog 204 1 6:=⟨fun _ _ _=>by kernel_rfl⟩
instance:FldF Tryz.prog 204 2 7:=⟨fun _ _ _=>by kernel_rfl⟩
instance:FieldsF Tryz.prog 204 [(0,6),(6,1),(7,1)]:=⟨⟨_,Tryz.underlying204,fun _=>by kernel_rfl⟩⟩
instance:ByF Tryz.prog 204 160:=⟨by kernel_rfl⟩
instance:SlF Tryz.prog 205 204:=⟨Tryz.underlying205⟩
instance:TyF Tryz.prog 223 false 1 (.nilFunc):=⟨fun _=>by kernel_rfl,fun _=>by kernel_rfl,fun _=>by kernel_rfl⟩
instance:SlF Tryz.prog 224 9:=⟨Tryz.underlying224⟩
instance:TyF Tryz.prog 268 false 1 (.map none):=⟨fun _=>by kernel_rfl,fun _=>by kernel_rfl,fun _=>by kernel_rfl⟩
instance:MapF Tryz.prog 268 3 4:=⟨Tryz.underlying268⟩
instance:TyF Tryz.prog 279 false 1 (.pointer none):=⟨fun _=>by kernel_rfl,fun _=>by kernel_rfl,fun _=>by kernel_rfl⟩
instance:TyF Tryz.prog 288 false 1 (.nilFunc):=⟨fun _=>by kernel_rfl,fun _=>by kernel_rfl,fun _=>by kernel_rfl⟩
instance:TyF Tryz.prog 290 false 1 (.map none):=⟨fun _=>by kernel_rfl,fun _=>by kernel_rfl,fun _=>by kernel_rfl⟩
instance:MapF Tryz.prog 290 189 4:=⟨Tryz.underlying290⟩
instance:TyF Tryz.prog 306 false 1 (.nilFunc):=⟨fun _=>by kernel_rfl,fun _=>by kernel_rfl,fun _=>by kernel_rfl⟩
instance:TyF Tryz.prog 307 false 1 (.map none):=⟨fun _=>by kernel_rfl,fun _=>by kernel_rfl,fun _=>by kernel_rfl⟩
instance:MapF Tryz.prog 307 3 174:=⟨Tryz.underlying307⟩
instance:TyF Tryz.prog 309 true 6 (.agg #[.map none,.map none,.map none,.map none,.map none,.map none]):=⟨fun _=>by kernel_rfl,fun _=>by kernel_rfl,fun _=>by kernel_rfl⟩
instance:FldF Tryz.prog 309 0 0:=⟨fun _ _ _=>by kernel_rfl⟩
instance:FldF Tryz.prog 309 1 1:=⟨fun _ _ _=>by kernel_rfl⟩
instance:FldF Tryz.prog 309 2 2:=⟨fun _ _ _=>by kernel_rfl⟩
instance:FldF Tryz.prog 309 3 3:=⟨fun _ _ _=>by kernel_rfl⟩
instance:FldF Tryz.prog 309 4 4:=⟨fun _ _ _=>by kernel_rfl⟩
instance:FldF Tryz.prog 309 5 5:=⟨fun _ _ _=>by kernel_rfl⟩
instance:FieldsF Tryz.prog 309 [(0,1),(1,1),(2,1),(3,1),(4,1),(5,1)]:=⟨⟨_,Tryz.underlying309,fun _=>by kernel_rfl⟩⟩
instance:TyF Tryz.prog 319 false 1 (.nilFunc):=⟨fun _=>by kernel_rfl,fun _=>by kernel_rfl,fun _=>by kernel_rfl⟩
instance:TyF Tryz.prog 326 true 2 (.agg #[.nilFunc,.nilFunc]):=⟨fun _=>by kernel_rfl,fun _=>by kernel_rfl,fun _=>by kernel_rfl⟩
instance:FldF Tryz.prog 326 0 0:=⟨fun _ _ _=>by kernel_rfl⟩
instance:FldF Tryz.prog 326 1 1:=⟨fun _ _ _=>by kernel_rfl⟩
instance:TyF Tryz.prog 353 false 1 (.int .u64 0):=⟨fun _=>by kernel_rfl,fun _=>by kernel_rfl,fun _=>by kernel_rfl⟩
instance:FnF Tryz.prog 9:=⟨enters_of Tryz.func9 (by kernel_rfl) rfl⟩
instance:FnF Tryz.prog 12:=⟨enters_of Tryz.func12 (by kernel_rfl) rfl⟩
instance:FnF Tryz.prog 15:=⟨enters_of Tryz.func15 (by kernel_rfl) rfl⟩
instance:FnF Tryz.prog 22:=⟨enters_of Tryz.func22 (by kernel_rfl) rfl⟩
instance:FnF Tryz.prog 24:=⟨enters_of Tryz.func24 (by kernel_rfl) rfl⟩
instance:FnF Tryz.prog 27:=⟨enters_of Tryz.func27 (by kernel_rfl) rfl⟩
instance:FnF Tryz.prog 28:=⟨enters_of Tryz.func28 (by kernel_rfl) rfl⟩
instance:FnF Tryz.prog 29:=⟨enters_of Tryz.func29 (by kernel_rfl) rfl⟩
instance:FnF Tryz.prog 30:=⟨enters_of Tryz.func30 (by kernel_rfl) rfl⟩
instance:FnF Tryz.prog 31:=⟨enters_of Tryz.func31 (by kernel_rfl) rfl⟩
instance:FnF Tryz.prog 32:=⟨enters_of Tryz.func32 (by kernel_rfl) rfl⟩
instance:FnF Tryz.prog 35:=⟨enters_of Tryz.func35 (by kernel_rfl) rfl⟩
instance:FnF Tryz.prog 36:=⟨enters_of Tryz.func36 (by kernel_rfl) rfl⟩
instance:FnF Tryz.prog 37:=⟨enters_of Tryz.func37 (by kernel_rfl) rfl⟩
instance:FnF Tryz.prog 38:=⟨enters_of Tryz.func38 (by kernel_rfl) rfl⟩
instance:FnF Tryz.prog 39:=⟨enters_of Tryz.func39 (by kernel_rfl) rfl⟩
instance:FnF Tryz.prog 44:=⟨enters_of Tryz.func44 (by kernel_rfl) rfl⟩
instance:FnF Tryz.prog 47:=⟨enters_of Tryz.func47 (by kernel_rfl) rfl⟩
instance:FnF Tryz.prog 49:=⟨enters_of Tryz.func49 (by kernel_rfl) rfl⟩
instance:FnF Tryz.prog 52:=⟨enters_of Tryz.func52 (by kernel_rfl) rfl⟩
instance:FnF Tryz.prog 54:=⟨enters_of Tryz.func54 (by kernel_rfl) rfl⟩
instance:FnF Tryz.prog 55:=⟨enters_of Tryz.func55 (by kernel_rfl) rfl⟩
instance:FnF Tryz.prog 57:=⟨enters_of Tryz.func57 (by kernel_rfl) rfl⟩
instance:FnF Tryz.prog 60:=⟨enters_of Tryz.func60 (by kernel_rfl) rfl⟩
instance:FnF Tryz.prog 62:=⟨enters_of Tryz.func62 (by kernel_rfl) rfl⟩
instance:FnF Tryz.prog 64:=⟨enters_of Tryz.func64 (by kernel_rfl) rfl⟩
instance:FnF Tryz.prog 66:=⟨enters_of Tryz.func66 (by kernel_rfl) rfl⟩
instance:FnF Tryz.prog 67:=⟨enters_of Tryz.func67 (by kernel_rfl) rfl⟩
instance:FnF Tryz.prog 69:=⟨enters_of Tryz.func69 (by kernel_rfl) rfl⟩
instance:FnF Tryz.prog 70:=⟨enters_of Tryz.func70 (by kernel_rfl) rfl⟩
instance:FnF Tryz.prog 71:=⟨enters_of Tryz.func71 (by kernel_rfl) rfl⟩
instance:FnF Tryz.prog 73:=⟨enters_of Tryz.func73 (by kernel_rfl) rfl⟩
instance:FnF Tryz.prog 74:=⟨enters_of Tryz.func74 (by kernel_rfl) rfl⟩
instance:FnF Tryz.prog 75:=⟨enters_of Tryz.func75 (by kernel_rfl) rfl⟩
instance:FnF Tryz.prog 76:=⟨enters_of Tryz.func76 (by kernel_rfl) rfl⟩
instance:FnF Tryz.prog 77:=⟨enters_of Tryz.func77 (by kernel_rfl) rfl⟩
instance:FnF Tryz.prog 78:=⟨enters_of Tryz.func78 (by kernel_rfl) rfl⟩
instance:FnF Tryz.prog 79:=⟨enters_of Tryz.func79 (by kernel_rfl) rfl⟩
instance:FnF Tryz.prog 80:=⟨enters_of Tryz.func80 (by kernel_rfl) rfl⟩
instance:FnF Tryz.prog 81:=⟨enters_of Tryz.func81 (by kernel_rfl) rfl⟩
instance:FnF Tryz.prog 82:=⟨enters_of Tryz.func82 (by kernel_rfl) rfl⟩
instance:FnF Tryz.prog 83:=⟨enters_of Tryz.func83 (by kernel_rfl) rfl⟩
instance:FnF Tryz.prog 84:=⟨enters_of Tryz.func84 (by kernel_rfl) rfl⟩
instance:FnF Tryz.prog 85:=⟨enters_of Tryz.func85 (by kernel_rfl) rfl⟩
instance:FnF Tryz.prog 86:=⟨enters_of Tryz.func86 (by kernel_rfl) rfl⟩
instance:FnF Tryz.prog 87:=⟨enters_of Tryz.func87 (by kernel_rfl) rfl⟩
instance:FnF Tryz.prog 88:=⟨enters_of Tryz.func88 (by kernel_rfl) rfl⟩
instance:FnF Tryz.prog 89:=⟨enters_of Tryz.func89 (by kernel_rfl) rfl⟩
instance:FnF Tryz.prog 90:=⟨enters_of Tryz.func90 (by kernel_rfl) rfl⟩
instance:FnF Tryz.prog 91:=⟨enters_of Tryz.func91 (by kernel_rfl) rfl⟩
instance:FnF Tryz.prog 92:=⟨enters_of Tryz.func92 (by kernel_rfl) rfl⟩
instance:FnF Tryz.prog 93:=⟨enters_of Tryz.func93 (by kernel_rfl) rfl⟩
instance:FnF Tryz.prog 94:=⟨enters_of Tryz.func94 (by kernel_rfl) rfl⟩
instance:FnF Tryz.prog 95:=⟨enters_of Tryz.func95 (by kernel_rfl) rfl⟩
instance:FnF Tryz.prog 96:=⟨enters_of Tryz.func96 (by kernel_rfl) rfl⟩
instance:FnF Tryz.prog 97:=⟨enters_of Tryz.func97 (by kernel_rfl) rfl⟩
instance:FnF Tryz.prog 98:=⟨enters_of Tryz.func98 (by kernel_rfl) rfl⟩
instance:FnF Tryz.prog 101:=⟨enters_of Tryz.func101 (by kernel_rfl) rfl⟩
instance:FnF Tryz.prog 103:=⟨enters_of Tryz.func103 (by kernel_rfl) rfl⟩
instance:FnF Tryz.prog 104:=⟨enters_of Tryz.func104 (by kernel_rfl) rfl⟩
instance:FnF Tryz.prog 106:=⟨enters_of Tryz.func106 (by kernel_rfl) rfl⟩
instance:FnF Tryz.prog 110:=⟨enters_of Tryz.func110 (by kernel_rfl) rfl⟩
instance:FnF Tryz.prog 111:=⟨enters_of Tryz.func111 (by kernel_rfl) rfl⟩
instance:FnF Tryz.prog 112:=⟨enters_of Tryz.func112 (by kernel_rfl) rfl⟩
instance:FnF Tryz.prog 113:=⟨enters_of Tryz.func113 (by kernel_rfl) rfl⟩
instance:FnF Tryz.prog 114:=⟨enters_of Tryz.func114 (by kernel_rfl) rfl⟩
instance:FnF Tryz.prog 115:=⟨enters_of Tryz.func115 (by kernel_rfl) rfl⟩
instance:FnF Tryz.prog 116:=⟨enters_of Tryz.func116 (by kernel_rfl) rfl⟩
instance:FnF Tryz.prog 117:=⟨enters_of Tryz.func117 (by kernel_rfl) rfl⟩
instance:FnF Tryz.prog 119:=⟨enters_of Tryz.func119 (by kernel_rfl) rfl⟩
instance:FnF Tryz.prog 120:=⟨enters_of Tryz.func120 (by kernel_rfl) rfl⟩
instance:FnF Tryz.prog 121:=⟨enters_of Tryz.func121 (by kernel_rfl) rfl⟩
instance:FnF Tryz.prog 122:=⟨enters_of Tryz.func122 (by kernel_rfl) rfl⟩
instance:FnF Tryz.prog 123:=⟨enters_of Tryz.func123 (by kernel_rfl) rfl⟩
instance:FnF Tryz.prog 124:=⟨enters_of Tryz.func124 (by kernel_rfl) rfl⟩
instance:FnF Tryz.prog 125:=⟨enters_of Tryz.func125 (by kernel_rfl) rfl⟩
instance:FnF Tryz.prog 126:=⟨enters_of Tryz.func126 (by kernel_rfl) rfl⟩
instance:FnF Tryz.prog 128:=⟨enters_of Tryz.func128 (by kernel_rfl) rfl⟩
instance:FnF Tryz.prog 129:=⟨enters_of Tryz.func129 (by kernel_rfl) rfl⟩
instance:FnF Tryz.prog 130:=⟨enters_of Tryz.func130 (by kernel_rfl) rfl⟩
instance:FnF Tryz.prog 131:=⟨enters_of Tryz.func131 (by kernel_rfl) rfl⟩
instance:FnF Tryz.prog 133:=⟨enters_of Tryz.func133 (by kernel_rfl) rfl⟩
instance:FnF Tryz.prog 134:=⟨enters_of Tryz.func134 (by kernel_rfl) rfl⟩
instance:FnF Tryz.prog 135:=⟨enters_of Tryz.func135 (by kernel_rfl) rfl⟩
instance:FnF Tryz.prog 136:=⟨enters_of Tryz.func136 (by kernel_rfl) rfl⟩
instance:FnF Tryz.prog 137:=⟨enters_of Tryz.func137 (by kernel_rfl) rfl⟩
instance:FnF Tryz.prog 138:=⟨enters_of Tryz.func138 (by kernel_rfl) rfl⟩
instance:FnF Tryz.prog 139:=⟨enters_of Tryz.func139 (by kernel_rfl) rfl⟩
instance:FnF Tryz.prog 140:=⟨enters_of Tryz.func140 (by kernel_rfl) rfl⟩
instance:FnF Tryz.prog 141:=⟨enters_of Tryz.func141 (by kernel_rfl) rfl⟩
instance:FnF Tryz.prog 142:=⟨enters_of Tryz.func142 (by kernel_rfl) rfl⟩
instance:FnF Tryz.prog 143:=⟨enters_of Tryz.func143 (by kernel_rfl) rfl⟩
instance:FnF Tryz.prog 144:=⟨enters_of Tryz.func144 (by kernel_rfl) rfl⟩
instance:FnF Tryz.prog 145:=⟨enters_of Tryz.func145 (by kernel_rfl) rfl⟩
instance:FnF Tryz.prog 146:=⟨enters_of Tryz.func146 (by kernel_rfl) rfl⟩
instance:FnF Tryz.prog 151:=⟨enters_of Tryz.func151 (by kernel_rfl) rfl⟩
instance:FnF Tryz.prog 158:=⟨enters_of Tryz.func158 (by kernel_rfl) rfl⟩
instance:FnF Tryz.prog 159:=⟨enters_of Tryz.func159 (by kernel_rfl) rfl⟩
instance:FnF Tryz.prog 160:=⟨enters_of Tryz.func160 (by kernel_rfl) rfl⟩
instance:FnF Tryz.prog 161:=⟨enters_of Tryz.func161 (by kernel_rfl) rfl⟩
instance:FnF Tryz.prog 162:=⟨enters_of Tryz.func162 (by kernel_rfl) rfl⟩
instance:FnF Tryz.prog 163:=⟨enters_of Tryz.func163 (by kernel_rfl) rfl⟩
instance:FnF Tryz.prog 164:=⟨enters_of Tryz.func164 (by kernel_rfl) rfl⟩
instance:FnF Tryz.prog 165:=⟨enters_of Tryz.func165 (by kernel_rfl) rfl⟩
instance:FnF Tryz.prog 166:=⟨enters_of Tryz.func166 (by kernel_rfl) rfl⟩
instance:FnF Tryz.prog 167:=⟨enters_of Tryz.func167 (by kernel_rfl) rfl⟩
instance:FnF Tryz.prog 168:=⟨enters_of Tryz.func168 (by kernel_rfl) rfl⟩
instance:FnF Tryz.prog 169:=⟨enters_of Tryz.func169 (by kernel_rfl) rfl⟩
instance:FnF Tryz.prog 170:=⟨enters_of Tryz.func170 (by kernel_rfl) rfl⟩
instance:FnF Tryz.prog 171:=⟨enters_of Tryz.func171 (by kernel_rfl) rfl⟩
instance:FnF Tryz.prog 174:=⟨enters_of Tryz.func174 (by kernel_rfl) rfl⟩
instance:FnF Tryz.prog 175:=⟨enters_of Tryz.func175 (by kernel_rfl) rfl⟩
instance:FnF Tryz.prog 176:=⟨enters_of Tryz.func176 (by kernel_rfl) rfl⟩
instance:FnF Tryz.prog 177:=⟨enters_of Tryz.func177 (by kernel_rfl) rfl⟩
instance:FnF Tryz.prog 178:=⟨enters_of Tryz.func178 (by kernel_rfl) rfl⟩
instance:FnF Tryz.prog 179:=⟨enters_of Tryz.func179 (by kernel_rfl) rfl⟩
instance:FnF Tryz.prog 180:=⟨enters_of Tryz.func180 (by kernel_rfl) rfl⟩
instance:FnF Tryz.prog 181:=⟨enters_of Tryz.func181 (by kernel_rfl) rfl⟩
instance:FnF Tryz.prog 182:=⟨enters_of Tryz.func182 (by kernel_rfl) rfl⟩
instance:FnF Tryz.prog 183:=⟨enters_of Tryz.func183 (by kernel_rfl) rfl⟩
instance:FnF Tryz.prog 184:=⟨enters_of Tryz.func184 (by kernel_rfl) rfl⟩
instance:FnF Tryz.prog 185:=⟨enters_of Tryz.func185 (by kernel_rfl) rfl⟩
instance:FnF Tryz.prog 188:=⟨enters_of Tryz.func188 (by kernel_rfl) rfl⟩
instance:FnF Tryz.prog 193:=⟨enters_of Tryz.func193 (by kernel_rfl) rfl⟩
instance:FnF Tryz.prog 197:=⟨enters_of Tryz.func197 (by kernel_rfl) rfl⟩
instance:FnF Tryz.prog 198:=⟨enters_of Tryz.func198 (by kernel_rfl) rfl⟩
instance:FnF Tryz.prog 199:=⟨enters_of Tryz.func199 (by kernel_rfl) rfl⟩
instance:FnF Tryz.prog 202:=⟨enters_of Tryz.func202 (by kernel_rfl) rfl⟩
instance:FnF Tryz.prog 203:=⟨enters_of Tryz.func203 (by kernel_rfl) rfl⟩
instance:FnF Tryz.prog 204:=⟨enters_of Tryz.func204 (by kernel_rfl) rfl⟩
instance:FnF Tryz.prog 205:=⟨enters_of Tryz.func205 (by kernel_rfl) rfl⟩
instance:FnF Tryz.prog 206:=⟨enters_of Tryz.func206 (by kernel_rfl) rfl⟩
instance:FnF Tryz.prog 207:=⟨enters_of Tryz.func207 (by kernel_rfl) rfl⟩
instance:FnF Tryz.prog 208:=⟨enters_of Tryz.func208 (by kernel_rfl) rfl⟩
instance:FnF Tryz.prog 209:=⟨enters_of Tryz.func209 (by kernel_rfl) rfl⟩
instance:FnF Tryz.prog 210:=⟨enters_of Tryz.func210 (by kernel_rfl) rfl⟩
instance:FnF Tryz.prog 211:=⟨enters_of Tryz.func211 (by kernel_rfl) rfl⟩
instance:FnF Tryz.prog 212:=⟨enters_of Tryz.func212 (by kernel_rfl) rfl⟩
instance:FnF Tryz.prog 213:=⟨enters_of Tryz.func213 (by kernel_rfl) rfl⟩
instance:FnF Tryz.prog 214:=⟨enters_of Tryz.func214 (by kernel_rfl) rfl⟩
instance:FnF Tryz.prog 215:=⟨enters_of Tryz.func215 (by kernel_rfl) rfl⟩
instance:FnF Tryz.prog 216:=⟨enters_of Tryz.func216 (by kernel_rfl) rfl⟩
instance:FnF Tryz.prog 217:=⟨enters_of Tryz.func217 (by kernel_rfl) rfl⟩
instance:FnF Tryz.prog 218:=⟨enters_of Tryz.func218 (by kernel_rfl) rfl⟩
instance:FnF Tryz.prog 219:=⟨enters_of Tryz.func219 (by kernel_rfl) rfl⟩
instance:FnF Tryz.prog 220:=⟨enters_of Tryz.func220 (by kernel_rfl) rfl⟩
instance:FnF Tryz.prog 221:=⟨enters_of Tryz.func221 (by kernel_rfl) rfl⟩
instance:FnF Tryz.prog 222:=⟨enters_of Tryz.func222 (by kernel_rfl) rfl⟩
instance:FnF Tryz.prog 223:=⟨enters_of Tryz.func223 (by kernel_rfl) rfl⟩
instance:FnF Tryz.prog 224:=⟨enters_of Tryz.func224 (by kernel_rfl) rfl⟩
instance:FnF Tryz.prog 225:=⟨enters_of Tryz.func225 (by kernel_rfl) rfl⟩
instance:FnF Tryz.prog 226:=⟨enters_of Tryz.func226 (by kernel_rfl) rfl⟩
instance:FnF Tryz.prog 227:=⟨enters_of Tryz.func227 (by kernel_rfl) rfl⟩
instance:FnF Tryz.prog 228:=⟨enters_of Tryz.func228 (by kernel_rfl) rfl⟩
instance:FnF Tryz.prog 229:=⟨enters_of Tryz.func229 (by kernel_rfl) rfl⟩
instance:FnF Tryz.prog 230:=⟨enters_of Tryz.func230 (by kernel_rfl) rfl⟩
instance:FnF Tryz.prog 231:=⟨enters_of Tryz.func231 (by kernel_rfl) rfl⟩
instance:FnF Tryz.prog 232:=⟨enters_of Tryz.func232 (by kernel_rfl) rfl⟩
instance:FnF Tryz.prog 233:=⟨enters_of Tryz.func233 (by kernel_rfl) rfl⟩
instance:FnF Tryz.prog 234:=⟨enters_of Tryz.func234 (by kernel_rfl) rfl⟩
instance:FnF Tryz.prog 235:=⟨enters_of Tryz.func235 (by kernel_rfl) rfl⟩
instance:FnF Tryz.prog 236:=⟨enters_of Tryz.func236 (by kernel_rfl) rfl⟩
instance:FnF Tryz.prog 237:=⟨enters_of Tryz.func237 (by kernel_rfl) rfl⟩
instance:FnF Tryz.prog 238:=⟨enters_of Tryz.func238 (by kernel_rfl) rfl⟩
instance:FnF Tryz.prog 240:=⟨enters_of Tryz.func240 (by kernel_rfl) rfl⟩
instance:FnF Tryz.prog 241:=⟨enters_of Tryz.func241 (by kernel_rfl) rfl⟩
instance:FnF Tryz.prog 242:=⟨enters_of Tryz.func242 (by kernel_rfl) rfl⟩
instance:FnF Tryz.prog 243:=⟨enters_of Tryz.func243 (by kernel_rfl) rfl⟩
instance:FnF Tryz.prog 244:=⟨enters_of Tryz.func244 (by kernel_rfl) rfl⟩
instance:FnF Tryz.prog 245:=⟨enters_of Tryz.func245 (by kernel_rfl) rfl⟩
instance:FnF Tryz.prog 246:=⟨enters_of Tryz.func246 (by kernel_rfl) rfl⟩
instance:FnF Tryz.prog 247:=⟨enters_of Tryz.func247 (by kernel_rfl) rfl⟩
instance:FnF Tryz.prog 248:=⟨enters_of Tryz.func248 (by kernel_rfl) rfl⟩
instance:FnF Tryz.prog 249:=⟨enters_of Tryz.func249 (by kernel_rfl) rfl⟩
instance:FnF Tryz.prog 251:=⟨enters_of Tryz.func251 (by kernel_rfl) rfl⟩
instance:FnF Tryz.prog 252:=⟨enters_of Tryz.func252 (by kernel_rfl) rfl⟩
instance:FnF Tryz.prog 253:=⟨enters_of Tryz.func253 (by kernel_rfl) rfl⟩
instance:FnF Tryz.prog 254:=⟨enters_of Tryz.func254 (by kernel_rfl) rfl⟩
instance:FnF Tryz.prog 255:=⟨enters_of Tryz.func255 (by kernel_rfl) rfl⟩
instance:FnF Tryz.prog 256:=⟨enters_of Tryz.func256 (by kernel_rfl) rfl⟩
instance:FnF Tryz.prog 257:=⟨enters_of Tryz.func257 (by kernel_rfl) rfl⟩
instance:FnF Tryz.prog 258:=⟨enters_of Tryz.func258 (by kernel_rfl) rfl⟩
instance:FnF Tryz.prog 259:=⟨enters_of Tryz.func259 (by kernel_rfl) rfl⟩
instance:FnF Tryz.prog 260:=⟨enters_of Tryz.func260 (by kernel_rfl) rfl⟩
instance:FnF Tryz.prog 261:=⟨enters_of Tryz.func261 (by kernel_rfl) rfl⟩
instance:FnF Tryz.prog 262:=⟨enters_of Tryz.func262 (by kernel_rfl) rfl⟩
instance:FnF Tryz.prog 263:=⟨enters_of Tryz.func263 (by kernel_rfl) rfl⟩
instance:FnF Tryz.prog 264:=⟨enters_of Tryz.func264 (by kernel_rfl) rfl⟩
instance:FnF Tryz.prog 265:=⟨enters_of Tryz.func265 (by kernel_rfl) rfl⟩
instance:FnF Tryz.prog 266:=⟨enters_of Tryz.func266 (by kernel_rfl) rfl⟩
instance:FnF Tryz.prog 267:=⟨enters_of Tryz.func267 (by kernel_rfl) rfl⟩
instance:FnF Tryz.prog 268:=⟨enters_of Tryz.func268 (by kernel_rfl) rfl⟩
instance:FnF Tryz.prog 269:=⟨enters_of Tryz.func269 (by kernel_rfl) rfl⟩
instance:FnF Tryz.prog 274:=⟨enters_of Tryz.func274 (by kernel_rfl) rfl⟩
instance:FnF Tryz.prog 275:=⟨enters_of Tryz.func275 (by kernel_rfl) rfl⟩
instance:FnF Tryz.prog 276:=⟨enters_of Tryz.func276 (by kernel_rfl) rfl⟩
instance:FnF Tryz.prog 277:=⟨enters_of Tryz.func277 (by kernel_rfl) rfl⟩
instance:FnF Tryz.prog 278:=⟨enters_of Tryz.func278 (by kernel_rfl) rfl⟩
instance:FnF Tryz.prog 279:=⟨enters_of Tryz.func279 (by kernel_rfl) rfl⟩
instance:FnF Tryz.prog 280:=⟨enters_of Tryz.func280 (by kernel_rfl) rfl⟩
instance:FnF Tryz.prog 281:=⟨enters_of Tryz.func281 (by kernel_rfl) rfl⟩
instance:FnF Tryz.prog 282:=⟨enters_of Tryz.func282 (by kernel_rfl) rfl⟩
instance:FnF Tryz.prog 283:=⟨enters_of Tryz.func283 (by kernel_rfl) rfl⟩
instance:FnF Tryz.prog 284:=⟨enters_of Tryz.func284 (by kernel_rfl) rfl⟩
instance:FnF Tryz.prog 285:=⟨enters_of Tryz.func285 (by kernel_rfl) rfl⟩
instance:FnF Tryz.prog 288:=⟨enters_of Tryz.func288 (by kernel_rfl) rfl⟩
instance:FnF Tryz.prog 289:=⟨enters_of Tryz.func289 (by kernel_rfl) rfl⟩
instance:FnF Tryz.prog 290:=⟨enters_of Tryz.func290 (by kernel_rfl) rfl⟩
instance:FnF Tryz.prog 291:=⟨enters_of Tryz.func291 (by kernel_rfl) rfl⟩
instance:FnF Tryz.prog 292:=⟨enters_of Tryz.func292 (by kernel_rfl) rfl⟩
instance:FnF Tryz.prog 293:=⟨enters_of Tryz.func293 (by kernel_rfl) rfl⟩
instance:FnF Tryz.prog 294:=⟨enters_of Tryz.func294 (by kernel_rfl) rfl⟩
instance:FnF Tryz.prog 295:=⟨enters_of Tryz.func295 (by kernel_rfl) rfl⟩
instance:FnF Tryz.prog 296:=⟨enters_of Tryz.func296 (by kernel_rfl) rfl⟩
instance:FnF Tryz.prog 297:=⟨enters_of Tryz.func297 (by kernel_rfl) rfl⟩
instance:FnF Tryz.prog 298:=⟨enters_of Tryz.func298 (by kernel_rfl) rfl⟩
instance:FnF Tryz.prog 299:=⟨enters_of Tryz.func299 (by kernel_rfl) rfl⟩
instance:FnF Tryz.prog 300:=⟨enters_of Tryz.func300 (by kernel_rfl) rfl⟩
instance:FnF Tryz.prog 312:=⟨enters_of Tryz.func312 (by kernel_rfl) rfl⟩
instance:FnF Tryz.prog 313:=⟨enters_of Tryz.func313 (by kernel_rfl) rfl⟩
instance:FnF Tryz.prog 314:=⟨enters_of Tryz.func314 (by kernel_rfl) rfl⟩
instance:FnF Tryz.prog 315:=⟨enters_of Tryz.func315 (by kernel_rfl) rfl⟩
instance:FnF Tryz.prog 316:=⟨enters_of Tryz.func316 (by kernel_rfl) rfl⟩
instance:FnF Tryz.prog 317:=⟨enters_of Tryz.func317 (by kernel_rfl) rfl⟩
instance:FnF Tryz.prog 318:=⟨enters_of Tryz.func318 (by kernel_rfl) rfl⟩
instance:FnF Tryz.prog 319:=⟨enters_of Tryz.func319 (by kernel_rfl) rfl⟩
instance:FnF Tryz.prog 321:=⟨enters_of Tryz.func321 (by kernel_rfl) rfl⟩
instance:FnF Tryz.prog 322:=⟨enters_of Tryz.func322 (by kernel_rfl) rfl⟩
instance:FnF Tryz.prog 323:=⟨enters_of Tryz.func323 (by kernel_rfl) rfl⟩
instance:FnF Tryz.prog 324:=⟨enters_of Tryz.func324 (by kernel_rfl) rfl⟩
instance:FnF Tryz.prog 326:=⟨enters_of Tryz.func326 (by kernel_rfl) rfl⟩
instance:FnF Tryz.prog 327:=⟨enters_of Tryz.func327 (by kernel_rfl) rfl⟩
instance:FnF Tryz.prog 328:=⟨enters_of Tryz.func328 (by kernel_rfl) rfl⟩
instance:FnF Tryz.prog 329:=⟨enters_of Tryz.func329 (by kernel_rfl) rfl⟩
instance:FnF Tryz.prog 330:=⟨enters_of Tryz.func330 (by kernel_rfl) rfl⟩
instance:FnF Tryz.prog 331:=⟨enters_of Tryz.func331 (by kernel_rfl) rfl⟩
instance:FnF Tryz.prog 332:=⟨enters_of Tryz.func332 (by kernel_rfl) rfl⟩
instance:FnF Tryz.prog 333:=⟨enters_of Tryz.func333 (by kernel_rfl) rfl⟩
instance:FnF Tryz.prog 334:=⟨enters_of Tryz.func334 (by kernel_rfl) rfl⟩
instance:FnF Tryz.prog 335:=⟨enters_of Tryz.func335 (by kernel_rfl) rfl⟩
instance:FnF Tryz.prog 345:=⟨enters_of Tryz.func345 (by kernel_rfl) rfl⟩
instance:FnF Tryz.prog 346:=⟨enters_of Tryz.func346 (by kernel_rfl) rfl⟩
instance:FnF Tryz.prog 353:=⟨enters_of Tryz.func353 (by kernel_rfl) rfl⟩
theorem mixed:Tryz.prog.follows .mixedOrders=true:=by kernel_rfl
end Go.Proofs.YtejkllmoofdpjaaGreat
