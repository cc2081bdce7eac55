/- Parts of the proof: YX YM YT YS YO VA VB VC. -/
import Derived.Test.YtejkllmoofdpjaaGreatD1
import Derived.Laws.Append
import Derived.IntWalk
import Derived.Laws.AppendOwn
import Derived.Below
import Derived.Laws.OwnMore
namespace Go.Proofs.YtejkllmoofdpjaaGreat
open Go
set_option linter.all false
set_option maxRecDepth 100000
set_option maxHeartbeats 4000000
theorem runC_pure {P:Program} {w:World} {α:Type} (a:α):runC P w (pure a:Sem α)=some a:=rfl
class TyF (P:Program) (t:TypeId) (agg:outParam Bool) (sz:outParam Nat) (z:outParam Value):Prop where
 isAgg:∀ w,runC P w (Go.isAgg t)=some agg
 size:∀ w,runC P w (sizeOf t)=some sz
 zero:∀ w,runC P w (zeroValue t)=some z
class FldF (P:Program) (s k:Nat) (off:outParam Nat):Prop where
 place:∀ w b o,runC P w (Instr.fieldAt s (.pointer (some ⟨b,o,none⟩)) k)=some (.pointer (some ⟨b,o+off,none⟩))
class SlF (P:Program) (t:TypeId) (e:outParam TypeId):Prop where
 und:P.underlying t=some (.slice e)
class StF (P:Program) (t:TypeId):Prop where
 und:P.underlying t=some .string
class MapF (P:Program) (t:TypeId) (k e:outParam TypeId):Prop where
 und:P.underlying t=some (.map k e)
class FnF (P:Program) (g:Nat):Prop where
 enter:∀ args w,(callFunc g args).run P w=.ok (.enter g args) w
theorem runC_underlying {P:Program} {w:World} {t:TypeId} {d:TypeDesc} (h:P.underlying t=some d):runC P w (underlying t)=some d:=by
 unfold underlying program
 rw [runC_bind]
 simp only [runC,Option.bind_some,h]
 rfl
theorem bytes_ne {a b:ByteArray} (h:a≠b):(a.toList == b.toList)=false:=by
 rw [ByteArray.toList_eq,ByteArray.toList_eq,beq_eq_false_iff_ne]
 exact fun hh=>h (Go.WideShapes.bytes_inj hh)
section
variable {P:Program} {w:World} {r:Operand→Value} {d:Option Tmp} {ty:TypeId} {pos:String} {aft:Array Edge} {g:Option (Nat × Bool)}
theorem X_pick (c x y:Operand) {b:Bool} (hc:r c=.bool b):runC P w (execOp r ⟨d,.pick c x y,ty,pos,aft,g⟩)=some (.value (bif b then r x else r y)):=by
 simp only [execOp,hc,asBool]
 cases b<;>rfl
theorem X_pickT (c x y:Operand) (hc:r c=.bool true):runC P w (execOp r ⟨d,.pick c x y,ty,pos,aft,g⟩)=some (.value (r x)):=X_pick c x y hc
theorem X_pickF (c x y:Operand) (hc:r c=.bool false):runC P w (execOp r ⟨d,.pick c x y,ty,pos,aft,g⟩)=some (.value (r y)):=X_pick c x y hc
theorem X_fieldAddr {s k off:Nat} [F:FldF P s k off] (x:Operand) {b o:Nat} (hx:r x=.pointer (some ⟨b,o,none⟩)) :
 runC P w (execOp r ⟨d,.fieldAddr s x k,ty,pos,aft,g⟩)=some (.value (.pointer (some ⟨b,o+off,none⟩))):=by
 show runC P w (Instr.fieldAt s (r x) k >>= fun v=>pure (Next.value v))=_
 rw [runC_bind,hx,F.place];rfl
theorem loadCellsFrom_C (b o:Nat):∀ (vs:List Value) (i:Nat) (acc:Array Value),(∀ j u,vs[j]?=some u→w.cell? ⟨b,o+(i+j),none⟩=some u)→
 runC P w (loadCellsFrom ⟨b,o,none⟩ i vs.length acc)=some (acc++vs.toArray):=by
 intro vs
 induction vs with
 | nil=>intro i acc _;simp [loadCellsFrom,runC_pure]
 | cons v vs ih=>
  intro i acc h
  have hadd:(⟨b,o,none⟩:Addr).add i=⟨b,o+i,none⟩:=by unfold Addr.add;split<;>simp_all
  have h0:=h 0 v rfl
  simp only [Nat.add_zero] at h0
  simp only [List.length_cons,loadCellsFrom,load]
  rw [hadd]
  show runC P w (Sem.bind _ _)=_
  simp only [Sem.bind,runC,h0]
  have:=ih (i+1) (acc.push v) (fun j u hj=>by
   have:=h (j+1) u (by simpa using hj)
   rwa [show i+(j+1)=i+1+j by omega] at this)
  show runC P w (loadCellsFrom ⟨b,o,none⟩ (i+1) vs.length (acc.push v))=_
  rw [this]
  simp
def Cells (w:World) (b o:Nat) (vs:List Value):Prop:=∀ j u,vs[j]?=some u→w.cell? ⟨b,o+j,none⟩=some u
theorem loadVar_C1 {t:TypeId} {sz:Nat} {z:Value} [T:TyF P t false sz z] {b o:Nat} {v:Value} (hc:w.cell? ⟨b,o,none⟩=some v):runC P w (loadVar t ⟨b,o,none⟩)=some v:=by
 unfold loadVar load
 rw [runC_bind,T.isAgg]
 simp only [Option.bind_some,Bool.false_eq_true,if_false,runC,hc]
theorem loadVar_CN {t:TypeId} {sz:Nat} {z:Value} [T:TyF P t true sz z] {b o:Nat} {vs:List Value} (hc:Cells w b o vs) (hl:vs.length=sz):runC P w (loadVar t ⟨b,o,none⟩)=some (.agg vs.toArray):=by
 unfold loadVar
 rw [runC_bind,T.isAgg]
 simp only [Option.bind_some,if_true]
 rw [runC_bind,T.size]
 simp only [Option.bind_some]
 rw [runC_bind,loadCells,← hl,loadCellsFrom_C b o vs 0 #[] (fun j u hj=>by simpa using hc j u hj)]
 simp [runC_pure]
theorem X_load1 {t:TypeId} {sz:Nat} {z:Value} [TyF P t false sz z] (x:Operand) {b o:Nat} {v:Value} (hx:r x=.pointer (some ⟨b,o,none⟩)) (hc:w.cell? ⟨b,o,none⟩=some v) :
 runC P w (execOp r ⟨d,.load t x,ty,pos,aft,g⟩)=some (.value v):=by
 show runC P w (Instr.loadAt t (r x) >>= fun v=>pure (Next.value v))=_
 rw [runC_bind,hx]
 show (runC P w (Instr.sureAddr _ >>= fun a=>loadVar t a)).bind _=_
 rw [runC_bind]
 show (((some ⟨b,o,none⟩:Option Addr)).bind _).bind _=_
 simp only [Option.bind_some,loadVar_C1 hc];rfl
theorem X_loadN {t:TypeId} {sz:Nat} {z:Value} [TyF P t true sz z] (x:Operand) {b o:Nat} {vs:List Value} (hx:r x=.pointer (some ⟨b,o,none⟩)) (hc:Cells w b o vs) (hl:vs.length=sz) :
 runC P w (execOp r ⟨d,.load t x,ty,pos,aft,g⟩)=some (.value (.agg vs.toArray)):=by
 show runC P w (Instr.loadAt t (r x) >>= fun v=>pure (Next.value v))=_
 rw [runC_bind,hx]
 show (runC P w (Instr.sureAddr _ >>= fun a=>loadVar t a)).bind _=_
 rw [runC_bind]
 show (((some ⟨b,o,none⟩:Option Addr)).bind _).bind _=_
 simp only [Option.bind_some,loadVar_CN hc hl];rfl
theorem X_indexAddr {t e:TypeId} {agg:Bool} {sz:Nat} {z:Value} [S:SlF P t e] [T:TyF P e agg sz z] (x i:Operand) {b o n c:Nat} {k:IntKind} (j:Nat) (hx:r x=.slice (some ⟨b,o,none⟩) n c) (hi:r i=.int k j) (hj:j < n) :
 runC P w (execOp r ⟨d,.indexAddr t x i,ty,pos,aft,g⟩)=some (.value (.pointer (some ⟨b,o+j * sz,none⟩))):=by
 show runC P w (Instr.indexAt t (r x) (r i) >>= fun v=>pure (Next.value v))=_
 rw [runC_bind,hx,hi]
 have hadd:∀ m,(⟨b,o,none⟩:Addr).add m=⟨b,o+m,none⟩:=fun m=>by unfold Addr.add;split<;>simp_all
 have hu:runC P w (underlying t)=some (.slice e):=runC_underlying S.und
 unfold Instr.indexAt
 simp only [asIntOf,pure_bind,runC_bind,hu,Option.bind_some,runC_pure,hadd]
 rw [if_pos ⟨by omega,by omega⟩,runC_bind,T.size]
 rfl
theorem X_len {t:TypeId} {e:TypeId} [S:SlF P t e] (x:Operand) {a:Option Addr} {n c:Nat} (hx:r x=.slice a n c) :
 runC P w (execOp r ⟨d,.call {callee:=.builtin .len,args:=#[x],argTypes:=#[t] },ty,pos,aft,g⟩)=some (.value (.int .i64 n)):=by
 have hu:runC P w (underlying t)=some (.slice e):=runC_underlying S.und
 simp only [execOp,resolve,pure_bind,invoke,builtin,List.map_toArray,List.map_cons,List.map_nil,hx,Builtin.len_]
 simp [runC_bind,hu,runC_pure,goInt]
theorem X_lenS {t:TypeId} [S:StF P t] (x:Operand) {s:ByteArray} (hx:r x=.string s) :
 runC P w (execOp r ⟨d,.call {callee:=.builtin .len,args:=#[x],argTypes:=#[t] },ty,pos,aft,g⟩)=some (.value (.int .i64 s.size)):=by
 have hu:runC P w (underlying t)=some .string:=runC_underlying S.und
 simp only [execOp,resolve,pure_bind,invoke,builtin,List.map_toArray,List.map_cons,List.map_nil,hx,Builtin.len_]
 simp [runC_bind,hu,runC_pure,goInt]
section ints
variable {xt yt:TypeId} (x y:Operand) {k:IntKind} {a b:Int} (hx:r x=.int k a) (hy:r y=.int k b)
include hx hy
theorem X_cmp_eql:runC P w (execOp r ⟨d,.binOp .eql xt x y yt,ty,pos,aft,g⟩)=some (.value (.bool (a == b))):=by
 simp only [execOp,hx,hy,eqGuard,binOp,Op.intCmp];simp [runC_pure]
theorem X_cmp_neq:runC P w (execOp r ⟨d,.binOp .neq xt x y yt,ty,pos,aft,g⟩)=some (.value (.bool (a != b))):=by
 simp only [execOp,hx,hy,eqGuard,binOp,Op.intCmp];simp [runC_pure]
theorem X_cmp_lss:runC P w (execOp r ⟨d,.binOp .lss xt x y yt,ty,pos,aft,g⟩)=some (.value (.bool (decide (a < b)))):=by
 simp only [execOp,hx,hy,eqGuard,binOp,Op.intCmp];simp [runC_pure]
theorem X_cmp_leq:runC P w (execOp r ⟨d,.binOp .leq xt x y yt,ty,pos,aft,g⟩)=some (.value (.bool (decide (a≤b)))):=by
 simp only [execOp,hx,hy,eqGuard,binOp,Op.intCmp];simp [runC_pure]
theorem X_cmp_gtr:runC P w (execOp r ⟨d,.binOp .gtr xt x y yt,ty,pos,aft,g⟩)=some (.value (.bool (decide (b < a)))):=by
 simp only [execOp,hx,hy,eqGuard,binOp,Op.intCmp];simp [runC_pure]
theorem X_cmp_geq:runC P w (execOp r ⟨d,.binOp .geq xt x y yt,ty,pos,aft,g⟩)=some (.value (.bool (decide (b≤a)))):=by
 simp only [execOp,hx,hy,eqGuard,binOp,Op.intCmp];simp [runC_pure]
theorem X_arith_add:runC P w (execOp r ⟨d,.binOp .add xt x y yt,ty,pos,aft,g⟩)=some (.value (.int k (k.wrap (a+b)))):=by
 simp only [execOp,hx,hy,eqGuard,binOp,Op.intArith];simp [runC_pure]
theorem X_arith_sub:runC P w (execOp r ⟨d,.binOp .sub xt x y yt,ty,pos,aft,g⟩)=some (.value (.int k (k.wrap (a - b)))):=by
 simp only [execOp,hx,hy,eqGuard,binOp,Op.intArith];simp [runC_pure]
theorem X_arith_mul:runC P w (execOp r ⟨d,.binOp .mul xt x y yt,ty,pos,aft,g⟩)=some (.value (.int k (k.wrap (a * b)))):=by
 simp only [execOp,hx,hy,eqGuard,binOp,Op.intArith];simp [runC_pure]
end ints
section sums
variable {xt yt:TypeId} (x y:Operand) {a b:Int} (hx:r x=.int .i64 a) (hy:r y=.int .i64 b)
include hx hy
theorem X_add (h:-9223372036854775808≤a+b∧a+b≤9223372036854775807):runC P w (execOp r ⟨d,.binOp .add xt x y yt,ty,pos,aft,g⟩)=some (.value (.int .i64 (a+b))):=by
 rw [X_arith_add x y hx hy,IntWalk.i64_in _ h]
theorem X_sub (h:-9223372036854775808≤a - b∧a - b≤9223372036854775807):runC P w (execOp r ⟨d,.binOp .sub xt x y yt,ty,pos,aft,g⟩)=some (.value (.int .i64 (a - b))):=by
 rw [X_arith_sub x y hx hy,IntWalk.i64_in _ h]
theorem X_mul (h:-9223372036854775808≤a * b∧a * b≤9223372036854775807):runC P w (execOp r ⟨d,.binOp .mul xt x y yt,ty,pos,aft,g⟩)=some (.value (.int .i64 (a * b))):=by
 rw [X_arith_mul x y hx hy,IntWalk.i64_in _ h]
end sums
section strings
variable {xt yt:TypeId} (x y:Operand) {a b:ByteArray} (hx:r x=.string a) (hy:r y=.string b)
include hx hy
theorem X_str_eql:runC P w (execOp r ⟨d,.binOp .eql xt x y yt,ty,pos,aft,g⟩)=some (.value (.bool (a.toList == b.toList))):=by
 simp only [execOp,hx,hy,eqGuard,binOp,Op.stringOp];simp [runC_pure]
theorem X_str_neq:runC P w (execOp r ⟨d,.binOp .neq xt x y yt,ty,pos,aft,g⟩)=some (.value (.bool !(a.toList == b.toList))):=by
 simp only [execOp,hx,hy,eqGuard,binOp,Op.stringOp];simp [runC_pure]
theorem X_str_lss:runC P w (execOp r ⟨d,.binOp .lss xt x y yt,ty,pos,aft,g⟩)=some (.value (.bool (Op.bytesLess a.toList b.toList))):=by
 simp only [execOp,hx,hy,eqGuard,binOp,Op.stringOp];simp [runC_pure]
theorem X_seT (h:a=b):runC P w (execOp r ⟨d,.binOp .eql xt x y yt,ty,pos,aft,g⟩)=some (.value (.bool true)):=by
 subst h;rw [X_str_eql x y hx hy];simp
theorem X_seF (h:a≠b):runC P w (execOp r ⟨d,.binOp .eql xt x y yt,ty,pos,aft,g⟩)=some (.value (.bool false)):=by
 rw [X_str_eql x y hx hy,bytes_ne h]
theorem X_snT (h:a≠b):runC P w (execOp r ⟨d,.binOp .neq xt x y yt,ty,pos,aft,g⟩)=some (.value (.bool true)):=by
 rw [X_str_neq x y hx hy,bytes_ne h];rfl
theorem X_snF (h:a=b):runC P w (execOp r ⟨d,.binOp .neq xt x y yt,ty,pos,aft,g⟩)=some (.value (.bool false)):=by
 subst h;rw [X_str_neq x y hx hy];simp
end strings
theorem X_not {t:TypeId} (x:Operand) {b:Bool} (hx:r x=.bool b):runC P w (execOp r ⟨d,.unOp .not t x,ty,pos,aft,g⟩)=some (.value (.bool !b)):=by
 simp only [execOp,hx,Op.unary];rfl
theorem X_nil (x:Operand) {a:Addr} (hx:r x=.pointer (some a)):runC P w (execOp r ⟨d,.nilCheck x,ty,pos,aft,g⟩)=some (.value (.pointer (some a))):=by
 simp only [execOp,hx];rfl
theorem X_extract (x:Operand) {i:Nat} {vs:Array Value} {v:Value} (hx:r x=.tuple vs) (hv:vs[i]?=some v):runC P w (execOp r ⟨d,.extract x i,ty,pos,aft,g⟩)=some (.value v):=by
 simp only [execOp,hx,Instr.extract,hv];rfl
theorem X_index {t:TypeId} [S:StF P t] (x i:Operand) {s:ByteArray} {k:IntKind} (j:Nat) {c:UInt8} (hx:r x=.string s) (hi:r i=.int k j) (hc:s[j]?=some c) :
 runC P w (execOp r ⟨d,.index t x i,ty,pos,aft,g⟩)=some (.value (.int .u8 c.toNat)):=by
 have hu:runC P w (underlying t)=some .string:=runC_underlying S.und
 show runC P w (Instr.index t (r x) (r i) >>= fun v=>pure (Next.value v))=_
 rw [runC_bind,hx,hi]
 unfold Instr.index
 simp only [asIntOf,pure_bind,runC_bind,hu,Option.bind_some]
 simp [hc,runC_pure]
end
structure Atom where
 own:List Nat
 ok:World→Prop
 loc:∀ w w',(∀ b∈own,w'.heap[b]?=w.heap[b]?)→ok w→ok w'
theorem block_cell {w:World} {b:Nat} {xs:List Value} {T:TypeId} {fz:Nat × Nat} (h:w.heap[b]?=some (.cells xs.toArray T fz)) (o:Nat):w.cell? ⟨b,o,none⟩=xs[o]?:=by
 simp [World.cell?,h]
theorem block_cells {w:World} {b:Nat} {xs:List Value} {T:TypeId} {fz:Nat × Nat} (h:w.heap[b]?=some (.cells xs.toArray T fz)) {o n:Nat} {vs:List Value} (hv:(xs.drop o).take n=vs):Cells w b o vs:=by
 intro j u hj
 rw [block_cell h]
 subst hv
 rw [List.getElem?_take] at hj
 split at hj
 ·simpa using hj
 ·cases hj
theorem Cells.keep {w w':World} {b o:Nat} {vs:List Value} (h:w'.heap[b]?=w.heap[b]?) (hc:Cells w b o vs):Cells w' b o vs:=fun j u hj=>by
 rw [World.cell?_of_block (w:=w) h];exact hc j u hj
theorem Cells.append {w:World} {b o:Nat} {vs us:List Value}:Cells w b o (vs++us)↔Cells w b o vs∧Cells w b (o+vs.length) us:=by
 constructor
 ·intro h
  refine ⟨fun j u hj=>h j u ?_,fun j u hj=>?_⟩
  ·rw [List.getElem?_append_left (List.getElem?_eq_some_iff.1 hj).1];exact hj
  ·have:=h (vs.length+j) u (by rw [List.getElem?_append_right (by omega)];simpa using hj)
   rwa [show o+vs.length+j=o+(vs.length+j) by omega]
 ·rintro ⟨h1,h2⟩ j u hj
  rcases Nat.lt_or_ge j vs.length with h|h
  ·rw [List.getElem?_append_left h] at hj;exact h1 j u hj
  ·rw [List.getElem?_append_right h] at hj
   have:=h2 (j - vs.length) u hj
   rwa [show o+vs.length+(j - vs.length)=o+j by omega] at this
theorem Cells.nil {w:World} {b o:Nat}:Cells w b o []:=fun j u hj=>by simp at hj
theorem lt_keep {w w':World} {M:Nat→Prop} (h:∀ b,b < w.heap.size→¬ M b→w'.heap[b]?=w.heap[b]?) {b:Nat} (h2:b < w.heap.size) (h1:¬ M b):b < w'.heap.size:=by
 have:=h b h2 h1
 rcases Nat.lt_or_ge b w'.heap.size with h'|h'
 ·exact h'
 ·rw [Array.getElem?_eq_none h',Array.getElem?_eq_getElem h2] at this;cases this
inductive T where
 | nil
 | var (n:Nat)
 | sym (s:ByteArray)
 | num (n:Int)
 | pair (a b:T)
def T.kind:T→Int | .nil=>0 | .var _=>1 | .sym _=>2 | .num _=>3 | .pair _ _=>4
def T.int:T→Int | .var n=>n | .num n=>n | _=>0
def T.name:T→ByteArray | .sym s=>s | _=>⟨#[]⟩
def Ret (p:Value→World→Prop):Ending→World→Prop:=fun e w=>∃ v,e=.returned v∧p v w
def putAt (xs:List Value) (o:Nat) (vs:List Value):List Value:=xs.take o++(vs++xs.drop (o+vs.length))
theorem putAt_cons {xs:List Value} {o:Nat} {v:Value} {vs:List Value} (h:o < xs.length):putAt (xs.set o v) (o+1) vs=putAt xs o (v::vs):=by
 unfold putAt
 rw [List.take_set,List.drop_set,if_pos (by omega),List.take_succ_eq_append_getElem h,List.set_append_right _ _ (by simp;omega)]
 simp only [List.length_take,List.length_cons,List.append_assoc,List.cons_append]
 rw [show o - min o xs.length=0 by omega]
 simp [Nat.add_assoc,Nat.add_comm 1]
theorem putAt_len {xs:List Value} {o:Nat} {vs:List Value} (h:o+vs.length≤xs.length):(putAt xs o vs).length=xs.length:=by
 simp [putAt];omega
section
variable {P:Program}
theorem storeCells_at (b o:Nat) (T:TypeId):∀ (vs:List Value) (i:Nat) (xs:List Value) (w:World),w.heap[b]?=some (.cells xs.toArray T (0,0))→o+i+vs.length≤xs.length→(∀ v∈vs,v.oneCell'=true)→
 ∃ w',(storeCells ⟨b,o,none⟩ vs i).run P w=.ok () w'∧Mod [b] w w'∧w'.heap.size=w.heap.size∧w'.heap[b]?=some (.cells (putAt xs (o+i) vs).toArray T (0,0)):=by
 intro vs
 induction vs with
 | nil=>
  intro i xs w hb hl _
  exact ⟨w,rfl,Mod.refl _ _,rfl,by simpa [putAt] using hb⟩
 | cons v vs ih=>
  intro i xs w hb hl h1
  simp only [List.length_cons] at hl
  have hadd:(⟨b,o,none⟩:Addr).add i=⟨b,o+i,none⟩:=by unfold Addr.add;split<;>simp_all
  have hc:w.cell? ⟨b,o+i,none⟩=some xs[o+i]:=by rw [block_cell hb,List.getElem?_eq_getElem (by omega)]
  have hf:w.frozen? ⟨b,o+i,none⟩=false:=by simp [World.frozen?,hb]
  have hb':(w.setCell ⟨b,o+i,none⟩ v).heap[b]?=some (.cells (xs.set (o+i) v).toArray T (0,0)):=by
   simp [World.setCell,Array.getElem?_modify,hb]
  obtain ⟨w',h2,h3,h4,h5⟩:=ih (i+1) (xs.set (o+i) v) (w.setCell ⟨b,o+i,none⟩ v) hb' (by simp;omega) (fun u hu=>h1 u (by simp [hu]))
  refine ⟨w',?_,((Mod.refl _ _).set (.inl (by simp)) v).trans h3,by rw [h4];simp [World.setCell],?_⟩
  ·have h1v:=h1 v (by simp)
   unfold storeCells
   simp only [hadd]
   show (Sem.bind _ _).run P w=_
   cases v<;>first|(simp [Value.oneCell'] at h1v;done)|(simp only [store,Sem.bind,Sem.run,hc,hf];exact h2)
  ·rw [h5,show o+(i+1)=o+i+1 by omega,putAt_cons (by omega)]
theorem storeVar_at {t:TypeId} {agg:Bool} {sz:Nat} {z:Value} [F:TyF P t agg sz z] {b o:Nat} {T:TypeId} {v:Value} {vs xs:List Value} {w:World} (hv:v.cells=vs.toArray) (hl:vs.length=sz) (h1:∀ v∈vs,v.oneCell'=true)
 (hb:w.heap[b]?=some (.cells xs.toArray T (0,0))) (hle:o+sz≤xs.length) :
 ∃ w',(storeVar t ⟨b,o,none⟩ v).run P w=.ok () w'∧Mod [b] w w'∧w'.heap.size=w.heap.size∧w'.heap[b]?=some (.cells (putAt xs o vs).toArray T (0,0)):=by
 obtain ⟨w',h2,h3,h4,h5⟩:=storeCells_at (P:=P) b o T vs 0 xs w hb (by omega) h1
 refine ⟨w',?_,h3,h4,h5⟩
 unfold storeVar
 rw [Sem.run_bind,runC_run _ _ (F.size w)]
 simp only [Result.andThen_ok,hv,List.size_toArray,hl,ne_eq,not_true_eq_false,if_false]
 exact h2
variable {w0 w:World} {S:List Nat} {A:List Atom} {r:Operand→Value} {d:Option Tmp} {ty:TypeId} {pos:String} {aft:Array Edge} {g:Option (Nat × Bool)} {K:Value→World→Prop}
theorem set_split {α:Type}:∀ {l:List α} {i:Nat} {x y:α},l[i]?=some x→l=l.take i++x::l.drop (i+1)∧l.set i y=l.take i++y::l.drop (i+1):=by
 intro l i x y h
 obtain ⟨hi,rfl⟩:=List.getElem?_eq_some_iff.1 h
 refine ⟨?_,?_⟩
 ·rw [← List.drop_eq_getElem_cons hi,List.take_append_drop]
 ·rw [List.set_eq_take_append_cons_drop,if_pos hi]
theorem fill_fold:∀ (vs:List Value) (i o:Nat) (xs:List Value),o+i+vs.length≤xs.length→
 (vs.zipIdx i).foldl (fun (cs:Array Value) (x:Value × Nat)=>cs.setIfInBounds (o+x.2) x.1) xs.toArray=(putAt xs (o+i) vs).toArray:=by
 intro vs
 induction vs with
 | nil=>intro i o xs _;simp [putAt]
 | cons v vs ih=>
  intro i o xs h
  simp only [List.length_cons] at h
  simp only [List.zipIdx_cons,List.foldl_cons,List.setIfInBounds_toArray]
  rw [ih (i+1) o (xs.set (o+i) v) (by simp;omega),show o+(i+1)=o+i+1 by omega,putAt_cons (by omega)]
def lfill (place:Nat→Option (Nat × Nat)) (xs:List Value):List (Nat × List Value)→Option (List Value)
 | []=>some xs
 | (i,vs)::rest=>match place i with
  | none=>none
  | some (off,size)=>if vs.length≠size || decide (off+vs.length > xs.length) then none else lfill place (putAt xs off vs) rest
theorem fill_list (place:Nat→Option (Nat × Nat)):∀ (ps:List (Nat × Value)) (qs:List (Nat × List Value)) (xs:List Value),ps.map (fun p=>(p.1,p.2.cells))=qs.map (fun q=>(q.1,q.2.toArray))→
 Instr.fill place xs.toArray ps=(lfill place xs qs).map (·.toArray):=by
 intro ps
 induction ps with
 | nil=>intro qs xs h;cases qs with|nil=>rfl|cons=>simp at h
 | cons p ps ih=>
  intro qs xs h
  cases qs with
  | nil=>simp at h
  | cons q qs=>
   simp only [List.map_cons,List.cons.injEq,Prod.mk.injEq] at h
   obtain ⟨⟨h1,h2⟩,h3⟩:=h
   obtain ⟨i,v⟩:=p
   obtain ⟨j,vs⟩:=q
   simp only at h1 h2
   subst h1
   simp only [Instr.fill,lfill,h2]
   cases place i with
   | none=>rfl
   | some x=>
    obtain ⟨off,size⟩:=x
    simp only [List.size_toArray]
    split
    ·rfl
    ·rename_i hc
     simp only [Bool.or_eq_true,decide_eq_true_eq,not_or] at hc
     rw [show vs.toArray.zipIdx.foldl (fun (cs:Array Value) (x:Value × Nat)=>match x with|(c,j)=>cs.setIfInBounds (off+j) c) xs.toArray=(putAt xs off vs).toArray by
      rw [← Array.foldl_toList,Array.toList_zipIdx]
      exact fill_fold vs 0 off xs (by omega)]
     exact ih qs _ h3
class FieldsF (P:Program) (t:TypeId) (places:outParam (List (Nat × Nat))):Prop where
 run:∃ fs,P.underlying t=some (.struct fs)∧∀ w,runC P w (fs.mapM fun f=>do pure (f.offset,← sizeOf f.type))=some places.toArray
theorem X_build {t:TypeId} {agg:Bool} {sz:Nat} {z:Value} {places:List (Nat × Nat)} [F:TyF P t agg sz z] [G:FieldsF P t places] {zs:List Value} (hz:z.cells=zs.toArray) {ps:Array (Nat × Operand)} (qs:List (Nat × List Value))
 (hq:ps.toList.map (fun p=>(p.1,(r p.2).cells))=qs.map (fun q=>(q.1,q.2.toArray))) {xs:List Value} (hf:lfill (places[·]?) zs qs=some xs) :
 runC P w (execOp r ⟨d,.build t ps,ty,pos,aft,g⟩)=some (.value (.agg xs.toArray)):=by
 obtain ⟨fs,h1,h2⟩:=G.run
 show runC P w (Instr.build t (ps.map fun x=>(x.1,r x.2)) >>= fun v=>pure (Next.value v))=_
 rw [runC_bind]
 unfold Instr.build
 rw [runC_bind,F.zero,Option.bind_some,runC_bind,runC_underlying h1,Option.bind_some]
 simp only []
 rw [runC_bind,h2,Option.bind_some,hz,fill_list _ _ qs zs (by simpa [Function.comp_def] using hq)]
 simp only [List.getElem?_toArray,hf,Option.map_some]
 rfl
theorem putAt_all {xs vs:List Value} (h:vs.length=xs.length):putAt xs 0 vs=vs:=by simp [putAt,h]
theorem zero_cells (zs:List Value) (n:Nat):((Array.range (n * zs.length)).map (zs.toArray[· % zs.toArray.size]!))=((List.range (n * zs.length)).map fun i=>zs[i % zs.length]!).toArray:=by
 apply Array.ext'
 simp
section
variable {p:Value→World→Prop} {R:Value→World→Prop}
theorem calls_ret {f:FuncId} {args:Array Value} {w:World} (hc:Calls P f args w (Ret p)) (k:∀ v w',p v w'→K v w'):Calls P f args w fun e w''=>∃ v,e=.returned v∧K v w'':=
 Calls.mono hc fun _ _ ⟨v,he,hv⟩=>⟨v,he,k v _ hv⟩
theorem S_clo {f:FuncId} [F:FnF P f] {x:Operand} {cap:Array Value} {avs:Array Operand} {tys:Array TypeId} {args:Array Value} (hx:r x=.func (.func f) #[] cap) (ha:avs.map r=args) (hc:Calls P f (args++cap) w (Ret p)) (k:∀ v w',p v w'→K v w') :
 OS P ⟨d,.call {callee:=.value x,args:=avs,argTypes:=tys },ty,pos,aft,g⟩ r w K:=by
 have e:(execOp r ⟨d,.call {callee:=.value x,args:=avs,argTypes:=tys },ty,pos,aft,g⟩).run P w=.ok (.enter f (args++cap)) w:=by
  simp only [execOp,resolve,hx,ha,Deferred.ofValue,pure_bind,invoke,Array.empty_append]
  exact F.enter _ _
 unfold OS
 rw [e]
 exact calls_ret hc k
end
end
theorem run_append_own2' {P:Program} (w:World) (base:Nat) (t ty e:TypeId) (i:TypeInfo) (z:Value) (size bytes:Nat) (ht:P.underlying t=some (.slice e)) (hi:P.info? e=some i) (hz:i.zero=some z)
 (hsize:i.size=size) (hby:i.bytes=bytes) (hzs:z.cells.size=size) (hsz:0 < size)
 (v:Value) (n:Nat) (xs:List Value) (hown:w.ownsRow base e size v n xs)
 (a:Addr) (m c:Nat) (news:List Value) (hl:news.length=m * size) (hnews:∀ j u,news[j]?=some u→w.cell? (a.add j)=some u) (h1:∀ u∈news,u.oneCell'=true)
 (hm:0 < m) (h63:n+m≤maxLen) (hbytes:(n+m) * bytes≤140737488355328) (hbase:base≤w.heap.size) :
 ∃ v' w',(Builtin.append_ #[t,t] ty #[v,.slice (some a) m c]).run P w=.ok v' w'∧w'.ownsRow base e size v' (n+m) (xs++news)∧w.grownBy w' v.ownBlock∧
  ((v'.ownBlock=v.ownBlock∧w'.heap.size=w.heap.size)∨(v'.ownBlock=some w.heap.size∧w'.heap.size=w.heap.size+1)):=by
 obtain ⟨v',w',hr,h2,h3,h4⟩:=run_append_own (P:=P) w base t ty e i z size bytes ht hi hz hsize hby hzs hsz v n xs hown a m c news hl hnews h1 h63 hbytes hbase
 refine ⟨v',w',hr,h2,h3,?_⟩
 subst hsize hby
 have h63':n+m≤9223372036854775807:=by simp only [maxLen] at h63;omega
 rcases hown.2 with ⟨rfl,rfl⟩ | ⟨g,cap,cur,rfl,hbg,hg,hnc,hcm,hcs,htake⟩
 ·have hr2:=run_append_nil (P:=P) w t ty e i z ht hi hz a m c news hl hnews hm (by omega) (by have hb:=hbytes;simp only [Nat.zero_add] at hb;omega)
  rw [hr] at hr2
  cases hr2
  exact .inr ⟨rfl,by simp⟩
 ·by_cases hroom:n+m≤cap
  ·have hfit:n * i.size+news.length≤cur.size:=by rw [hl,hcs,← Nat.add_mul];exact Nat.mul_le_mul_right _ hroom
   have hr2:=run_append_room (P:=P) w t ty e i ht hi g n cap cur hg a m c news hl hnews h1 hroom hfit
   rw [hr] at hr2
   cases hr2
   exact .inl ⟨rfl,by simp⟩
  ·have holds:∀ j u,xs[j]?=some u→w.cell? ((⟨g,0,none⟩:Addr).add j)=some u:=hown.cells (g:=g) rfl
   have hr2:=run_append_grow (P:=P) w t ty e i z ht hi hz ⟨g,0,none⟩ n cap xs hown.1 holds a m c news hl hnews (by omega) (by omega) (growslice_fits (by omega) hbytes)
   rw [hr] at hr2
   cases hr2
   exact .inr ⟨rfl,by simp⟩
def orow (e:TypeId) (sz:Nat) (v:Value) (vss:List (List Value)):Atom:=
 ⟨v.ownBlock.toList,fun w=>(∀ vs∈vss,vs.length=sz)∧w.ownsRow 0 e sz v vss.length vss.flatten,by
  rintro w w' h ⟨h0,h1,h2⟩
  refine ⟨h0,h1,h2.imp id ?_⟩
  rintro ⟨g,cap,cur,rfl,hb,hg,rest⟩
  exact ⟨g,cap,cur,rfl,hb,by rw [h g (by simp [Value.ownBlock])];exact hg,rest⟩⟩
class ByF (P:Program) (e:TypeId) (bytes:outParam Nat):Prop where
 run:(P.info? e).map (·.bytes)=some bytes
section
variable {P:Program} {w0 w:World} {S:List Nat} {A:List Atom} {r:Operand→Value} {d:Option Tmp} {ty:TypeId} {pos:String} {aft:Array Edge} {g:Option (Nat × Bool)} {K:Value→World→Prop}
theorem TyF.info (w:World) {e:TypeId} {agg:Bool} {sz:Nat} {z:Value} [F:TyF P e agg sz z] {i:TypeInfo} (hi:P.info? e=some i):i.zero=some z∧i.size=sz:=by
 have h1:=F.zero w
 have h2:=F.size w
 have ht:runC P w (typeInfo e)=some i:=by
  unfold typeInfo program
  rw [runC_bind]
  simp only [runC,Option.bind_some,hi]
  rfl
 unfold zeroValue at h1
 unfold sizeOf at h2
 rw [runC_bind,ht,Option.bind_some] at h1 h2
 refine ⟨?_,?_⟩
 ·cases hz:i.zero with
  | none=>simp [hz,unsupported,runC] at h1
  | some z'=>
   simp only [hz] at h1
   exact h1
 ·simpa [runC_pure] using h2
end
def retQ (p:FF→World→Prop):FPost
 | .normal,f,w=>p f w
 | .ret,f,w=>p f w
 | _,_,_=>False
section
variable {P:Program} {n:Nat} {g:FuncId} {fn:Func} {c:Code} {args:Array Value} {p:Value→World→Prop} {w:World}
def argF (args:List Value):FF:=fun i=>args.getD i undef
theorem enter_any {q:FF→World→Prop} (hf:P.funcs[g]?=some fn) (hb:fn.body=some c) (hn:fn.ntmps=n) {avs:List Value} (ha:avs.length≤n)
 (hr:∀ (f:FF) (w':World) (tmps:Array Value),(∀ i,tmps.getD i undef=f i)→q f w'→∃ v,(results fn tmps).run P w'=.ok v w'∧p v w')
 (h:W P n c (retQ q) (argF avs) w):Calls P g avs.toArray w (Ret p):=by
 refine calls_W hf hb hn (by simpa using ha) ?_
 have e:(fun i=>avs.toArray.getD i undef)=argF avs:=by funext i;simp [argF]
 rw [e]
 refine W_mono h fun e f w' hq=>?_
 cases e<;>simp only [retQ] at hq ⊢<;>first|exact hq|(intro tmps ht;obtain ⟨v,h1,h2⟩:=hr f w' tmps ht hq;exact ⟨v,h1,v,rfl,h2⟩)
end
inductive D where
 | v (x:Value)
 | s (sz:Nat) (rows:List (List D))
inductive AV where
 | one (d:D)
 | agg (l:List D)
 | tup (l:List AV)
 | pto (l:List D)
 | junk
def D.rd (M:Nat→Prop) (w:World):D→Value→Prop
 | .v x,y=>y=x∧x.oneCell'=true
 | .s sz rows,y=>∃ a c,y=.slice a rows.length c∧rows.length≤c∧(rows=[]∨∃ b o,a=some ⟨b,o,none⟩∧¬ M b∧b < w.heap.size∧rdR M w sz b o rows)
where
 rdR (M:Nat→Prop) (w:World) (sz b:Nat):Nat→List (List D)→Prop
  | _,[]=>True
  | o,r::rs=>(∃ vs,vs.length=sz∧rdC M w r vs∧Cells w b o vs)∧rdR M w sz b (o+sz) rs
 rdC (M:Nat→Prop) (w:World):List D→List Value→Prop
  | [],vs=>vs=[]
  | d::ds,vs=>∃ x xs,vs=x::xs∧D.rd M w d x∧rdC M w ds xs
abbrev rdC:=D.rd.rdC
abbrev rdR:=D.rd.rdR
def AV.rd (M:Nat→Prop) (w:World):AV→Value→Prop
 | .one d,y=>d.rd M w y
 | .agg l,y=>∃ vs,y=.agg vs.toArray∧rdC M w l vs
 | .tup l,y=>∃ vs,y=.tuple vs.toArray∧rdA M w l vs
 | .pto l,y=>∃ b o vs,y=.pointer (some ⟨b,o,none⟩)∧¬ M b∧b < w.heap.size∧rdC M w l vs∧Cells w b o vs
 | .junk,_=>True
where
 rdA (M:Nat→Prop) (w:World):List AV→List Value→Prop
  | [],vs=>vs=[]
  | d::ds,vs=>∃ x xs,vs=x::xs∧AV.rd M w d x∧rdA M w ds xs
abbrev rdA:=AV.rd.rdA
section
variable {M M':Nat→Prop} {w w':World}
mutual
theorem D.keep (h:∀ b,b < w.heap.size→¬ M b→w'.heap[b]?=w.heap[b]?):∀ {d:D} {y:Value},d.rd M w y→d.rd M w' y
 | .v _,_,h1=>h1
 | .s sz rows,y,⟨a,c,h1,h2,h3⟩=>⟨a,c,h1,h2,h3.imp id fun ⟨b,o,ha,hM,hb,hr⟩=>⟨b,o,ha,hM,lt_keep h hb hM,rdR_keep h (h b hb hM) hr⟩⟩
theorem rdR_keep (h:∀ b,b < w.heap.size→¬ M b→w'.heap[b]?=w.heap[b]?) {sz b:Nat} (hb:w'.heap[b]?=w.heap[b]?):∀ {o:Nat} {rows:List (List D)},rdR M w sz b o rows→rdR M w' sz b o rows
 | _,[],_=>trivial
 | _,r::rs,⟨⟨vs,h1,h2,h3⟩,h4⟩=>⟨⟨vs,h1,rdC_keep h h2,h3.keep hb⟩,rdR_keep h hb h4⟩
theorem rdC_keep (h:∀ b,b < w.heap.size→¬ M b→w'.heap[b]?=w.heap[b]?):∀ {l:List D} {vs:List Value},rdC M w l vs→rdC M w' l vs
 | [],_,h1=>h1
 | d::ds,vs,⟨x,xs,h1,h2,h3⟩=>⟨x,xs,h1,D.keep h h2,rdC_keep h h3⟩
end
mutual
theorem D.grow (h:∀ b,b < w.heap.size→M' b→M b):∀ {d:D} {y:Value},d.rd M w y→d.rd M' w y
 | .v _,_,h1=>h1
 | .s sz rows,y,⟨a,c,h1,h2,h3⟩=>⟨a,c,h1,h2,h3.imp id fun ⟨b,o,ha,hM,hb,hr⟩=>⟨b,o,ha,fun hm=>hM (h b hb hm),hb,rdR_grow h hr⟩⟩
theorem rdR_grow (h:∀ b,b < w.heap.size→M' b→M b) {sz b:Nat}:∀ {o:Nat} {rows:List (List D)},rdR M w sz b o rows→rdR M' w sz b o rows
 | _,[],_=>trivial
 | _,r::rs,⟨⟨vs,h1,h2,h3⟩,h4⟩=>⟨⟨vs,h1,rdC_grow h h2,h3⟩,rdR_grow h h4⟩
theorem rdC_grow (h:∀ b,b < w.heap.size→M' b→M b):∀ {l:List D} {vs:List Value},rdC M w l vs→rdC M' w l vs
 | [],_,h1=>h1
 | d::ds,vs,⟨x,xs,h1,h2,h3⟩=>⟨x,xs,h1,D.grow h h2,rdC_grow h h3⟩
end
mutual
theorem AV.keep (h:∀ b,b < w.heap.size→¬ M b→w'.heap[b]?=w.heap[b]?):∀ {a:AV} {y:Value},a.rd M w y→a.rd M w' y
 | .one _,_,h1=>D.keep h h1
 | .agg _,_,⟨vs,h1,h2⟩=>⟨vs,h1,rdC_keep h h2⟩
 | .tup _,_,⟨vs,h1,h2⟩=>⟨vs,h1,rdA_keep h h2⟩
 | .pto _,_,⟨b,o,vs,h1,h2,h3,h4,h5⟩=>⟨b,o,vs,h1,h2,lt_keep h h3 h2,rdC_keep h h4,h5.keep (h b h3 h2)⟩
 | .junk,_,_=>trivial
theorem rdA_keep (h:∀ b,b < w.heap.size→¬ M b→w'.heap[b]?=w.heap[b]?):∀ {l:List AV} {vs:List Value},rdA M w l vs→rdA M w' l vs
 | [],_,h1=>h1
 | d::ds,vs,⟨x,xs,h1,h2,h3⟩=>⟨x,xs,h1,AV.keep h h2,rdA_keep h h3⟩
end
mutual
theorem AV.grow (h:∀ b,b < w.heap.size→M' b→M b):∀ {a:AV} {y:Value},a.rd M w y→a.rd M' w y
 | .one _,_,h1=>D.grow h h1
 | .agg _,_,⟨vs,h1,h2⟩=>⟨vs,h1,rdC_grow h h2⟩
 | .tup _,_,⟨vs,h1,h2⟩=>⟨vs,h1,rdA_grow h h2⟩
 | .pto _,_,⟨b,o,vs,h1,h2,h3,h4,h5⟩=>⟨b,o,vs,h1,fun hm=>h2 (h b h3 hm),h3,rdC_grow h h4,h5⟩
 | .junk,_,_=>trivial
theorem rdA_grow (h:∀ b,b < w.heap.size→M' b→M b):∀ {l:List AV} {vs:List Value},rdA M w l vs→rdA M' w l vs
 | [],_,h1=>h1
 | d::ds,vs,⟨x,xs,h1,h2,h3⟩=>⟨x,xs,h1,AV.grow h h2,rdA_grow h h3⟩
end
theorem D.oneC:∀ {d:D} {y:Value},d.rd M w y→y.oneCell'=true
 | .v _,_,⟨h1,h2⟩=>by rw [h1];exact h2
 | .s _ _,_,⟨a,c,h1,_⟩=>by rw [h1];rfl
theorem rdC_len:∀ {l:List D} {vs:List Value},rdC M w l vs→vs.length=l.length
 | [],_,h=>by cases h;rfl
 | _::_,_,⟨x,xs,h1,_,h3⟩=>by subst h1;simp [rdC_len h3]
theorem rdC_one:∀ {l:List D} {vs:List Value},rdC M w l vs→∀ u∈vs,u.oneCell'=true
 | [],_,h,_,hu=>by cases h;cases hu
 | _::_,_,⟨x,xs,h1,h2,h3⟩,u,hu=>by
  subst h1
  rcases List.mem_cons.1 hu with rfl|hu
  ·exact D.oneC h2
  ·exact rdC_one h3 u hu
theorem rdC_append:∀ {l l':List D} {vs vs':List Value},rdC M w l vs→rdC M w l' vs'→rdC M w (l++l') (vs++vs')
 | [],_,_,_,h,h'=>by cases h;exact h'
 | _::_,_,_,_,⟨x,xs,h1,h2,h3⟩,h'=>by subst h1;exact ⟨x,_,rfl,h2,rdC_append h3 h'⟩
theorem rdC_split:∀ {l l':List D} {vs:List Value},rdC M w (l++l') vs→∃ us ts,vs=us++ts∧rdC M w l us∧rdC M w l' ts
 | [],_,vs,h=>⟨[],vs,rfl,rfl,h⟩
 | _::_,_,_,⟨x,xs,h1,h2,h3⟩=>by
  obtain ⟨us,ts,rfl,h4,h5⟩:=rdC_split h3
  subst h1
  exact ⟨x::us,ts,rfl,⟨x,us,rfl,h2,h4⟩,h5⟩
theorem rdC_take:∀ (n:Nat) {l:List D} {vs:List Value},rdC M w l vs→rdC M w (l.take n) (vs.take n)
 | 0,_,_,_=>by simp [D.rd.rdC]
 | _+1,[],_,h=>by cases h;simp [D.rd.rdC]
 | n+1,_::_,_,⟨x,xs,h1,h2,h3⟩=>by subst h1;exact ⟨x,_,rfl,h2,rdC_take n h3⟩
theorem rdC_drop:∀ (n:Nat) {l:List D} {vs:List Value},rdC M w l vs→rdC M w (l.drop n) (vs.drop n)
 | 0,_,_,h=>h
 | _+1,[],_,h=>by cases h;simp [D.rd.rdC]
 | n+1,_::_,_,⟨x,xs,h1,h2,h3⟩=>by subst h1;exact rdC_drop n h3
theorem rdC_get:∀ {l:List D} {vs:List Value} (i:Nat) {d:D},rdC M w l vs→l[i]?=some d→∃ u,vs[i]?=some u∧d.rd M w u
 | [],_,_,_,_,h=>by simp at h
 | _::_,_,0,d,⟨x,xs,h1,h2,h3⟩,h=>by subst h1;simp at h;subst h;exact ⟨x,rfl,h2⟩
 | _::_,_,i+1,d,⟨x,xs,h1,h2,h3⟩,h=>by subst h1;simpa using rdC_get i h3 (by simpa using h)
def putD (xs:List D) (o:Nat) (vs:List D):List D:=xs.take o++(vs++xs.drop (o+vs.length))
theorem rdC_put {l us:List D} {vs ts:List Value} (o:Nat) (h:rdC M w l vs) (h':rdC M w us ts):rdC M w (putD l o us) (putAt vs o ts):=by
 unfold putD putAt
 rw [rdC_len h']
 exact rdC_append (rdC_take _ h) (rdC_append h' (rdC_drop _ h))
theorem rdA_get:∀ {l:List AV} {vs:List Value} (i:Nat) {d:AV},rdA M w l vs→l[i]?=some d→∃ u,vs[i]?=some u∧d.rd M w u
 | [],_,_,_,_,h=>by simp at h
 | _::_,_,0,d,⟨x,xs,h1,h2,h3⟩,h=>by subst h1;simp at h;subst h;exact ⟨x,rfl,h2⟩
 | _::_,_,i+1,d,⟨x,xs,h1,h2,h3⟩,h=>by subst h1;simpa using rdA_get i h3 (by simpa using h)
theorem rdA_len:∀ {l:List AV} {vs:List Value},rdA M w l vs→vs.length=l.length
 | [],_,h=>by cases h;rfl
 | _::_,_,⟨x,xs,h1,_,h3⟩=>by subst h1;simp [rdA_len h3]
theorem rdR_get {sz b:Nat}:∀ {o:Nat} {rows:List (List D)} (i:Nat) {r:List D},rdR M w sz b o rows→rows[i]?=some r→∃ vs,vs.length=sz∧rdC M w r vs∧Cells w b (o+i * sz) vs
 | _,[],_,_,_,h=>by simp at h
 | o,_::_,0,r,⟨h1,_⟩,h=>by simp at h;subst h;simpa using h1
 | o,_::_,i+1,r,⟨_,h2⟩,h=>by
  obtain ⟨vs,h3,h4,h5⟩:=rdR_get i h2 (by simpa using h)
  refine ⟨vs,h3,h4,?_⟩
  rwa [show o+(i+1) * sz=o+sz+i * sz by rw [Nat.add_mul];omega]
theorem rdR_drop {sz b:Nat}:∀ {o:Nat} (i:Nat) {rows:List (List D)},rdR M w sz b o rows→rdR M w sz b (o+i * sz) (rows.drop i)
 | o,0,_,h=>by simpa using h
 | _,_+1,[],_=>trivial
 | o,i+1,_::_,⟨_,h2⟩=>by
  have:=rdR_drop i h2
  rw [show o+(i+1) * sz=o+sz+i * sz by rw [Nat.add_mul];omega]
  simpa using this
theorem rdR_take {sz b:Nat}:∀ {o:Nat} (i:Nat) {rows:List (List D)},rdR M w sz b o rows→rdR M w sz b o (rows.take i)
 | _,0,_,_=>trivial
 | _,_+1,[],_=>trivial
 | _,i+1,_::_,⟨h1,h2⟩=>⟨h1,rdR_take i h2⟩
end
theorem undef_rd {M:Nat→Prop} {w:World}:(AV.tup []).rd M w undef:=⟨[],rfl,rfl⟩
theorem undef_eq {M:Nat→Prop} {w:World} {u:Value} (h:(AV.tup []).rd M w u):u=undef:=by obtain ⟨vs,rfl,h2⟩:=h;cases h2;rfl
abbrev AF:=Nat→AV
def au (f:AF) (d:Nat) (v:AV):AF:=fun i=>cond (Nat.beq i d) v (f i)
def auo (f:AF):Option Nat→AV→AF
 | some d,v=>au f d v
 | none,_=>f
def fl:List (Nat × AV)→AF
 | [],_=>.junk
 | (j,v)::l,i=>cond (Nat.beq i j) v (fl l i)
def cstL:List Value→Option (List D)
 | []=>some []
 | x::l=>cond x.oneCell' ((cstL l).map (.v x::·)) none
def cst:Value→AV
 | .agg vs=>match cstL vs.toList with|some l=>.agg l|none=>.junk
 | .tuple _=>.junk
 | x=>.one (.v x)
def eva (f:AF):Operand→AV
 | .tmp t=>f t
 | .const v=>cst v
 | .global g=>.one (.v (.pointer (some ⟨g,0,none⟩)))
 | .func g=>.one (.v (.func (.func g) #[] #[]))
theorem cstL_rd {M:Nat→Prop} {w:World}:∀ {vs:List Value} {l:List D},cstL vs=some l→rdC M w l vs
 | [],_,h=>by cases h;rfl
 | x::vs,l,h=>by
  unfold cstL at h
  cases hx:x.oneCell' with
  | false=>rw [hx] at h;cases h
  | true=>
   rw [hx,cond_true] at h
   obtain ⟨l',h1,rfl⟩:=Option.map_eq_some_iff.1 h
   exact ⟨x,vs,rfl,⟨rfl,hx⟩,cstL_rd h1⟩
theorem cst_rd {M:Nat→Prop} {w:World} (v:Value):(cst v).rd M w v:=by
 cases v<;>first
  | exact ⟨rfl,rfl⟩
  | trivial
  | (rename_i vs
     simp only [cst]
     cases h:cstL vs.toList with
     | none=>trivial
     | some l=>exact ⟨vs.toList,by simp,cstL_rd h⟩)
theorem eva_rd {M:Nat→Prop} {w:World} {f:AF} {g:FF} (h:∀ i,(f i).rd M w (g i)) (x:Operand):(eva f x).rd M w (ev g x):=by
 cases x with
 | tmp t=>exact h t
 | const v=>exact cst_rd v
 | global g=>exact ⟨rfl,rfl⟩
 | func g=>exact ⟨rfl,rfl⟩
theorem au_rd {M:Nat→Prop} {w:World} {f:AF} {g:FF} {v:AV} {u:Value} (h:∀ i,(f i).rd M w (g i)) (hv:v.rd M w u) (d:Nat):∀ i,(au f d v i).rd M w (upd g d u i):=by
 intro i
 unfold au upd
 cases Nat.beq i d with
 | true=>exact hv
 | false=>exact h i
theorem auo_rd {M:Nat→Prop} {w:World} {f:AF} {g:FF} {v:AV} {u:Value} (h:∀ i,(f i).rd M w (g i)) (hv:v.rd M w u):∀ (d:Option Nat) (i:Nat),(auo f d v i).rd M w (updo g d u i)
 | some d,i=>au_rd h hv d i
 | none,i=>h i
def AV.le (a b:AV):Prop:=∀ M w y,a.rd M w y→b.rd M w y
theorem AV.le.refl (a:AV):a.le a:=fun _ _ _ h=>h
theorem AV.le.trans {a b c:AV} (h:a.le b) (k:b.le c):a.le c:=fun M w y hy=>k M w y (h M w y hy)
theorem AV.le_junk (a:AV):a.le .junk:=fun _ _ _ _=>trivial
def D.le (a b:D):Prop:=∀ M w y,a.rd M w y→b.rd M w y
theorem D.le.refl (a:D):a.le a:=fun _ _ _ h=>h
theorem D.le_nil {p:Option Addr} {c sz:Nat}:(D.v (.slice p 0 c)).le (.s sz []):=fun _ _ _ h=>⟨p,c,h.1,Nat.zero_le _,.inl rfl⟩
theorem AV.le_one {a b:D} (h:a.le b):(AV.one a).le (.one b):=h
def leC:List D→List D→Prop
 | [],[]=>True
 | a::l,b::m=>a.le b∧leC l m
 | _,_=>False
theorem rdC_le {M:Nat→Prop} {w:World}:∀ {l m:List D} {vs:List Value},leC l m→rdC M w l vs→rdC M w m vs
 | [],[],_,_,h=>h
 | _::_,_::_,_,⟨h1,h2⟩,⟨x,xs,h3,h4,h5⟩=>⟨x,xs,h3,h1 _ _ _ h4,rdC_le h2 h5⟩
theorem leC.refl:∀ (l:List D),leC l l
 | []=>trivial
 | a::l=>⟨.refl a,leC.refl l⟩
theorem AV.le_agg {l m:List D} (h:leC l m):(AV.agg l).le (.agg m):=fun _ _ _ ⟨vs,h1,h2⟩=>⟨vs,h1,rdC_le h h2⟩
def leA:List AV→List AV→Prop
 | [],[]=>True
 | a::l,b::m=>a.le b∧leA l m
 | _,_=>False
theorem rdA_le {M:Nat→Prop} {w:World}:∀ {l m:List AV} {vs:List Value},leA l m→rdA M w l vs→rdA M w m vs
 | [],[],_,_,h=>h
 | _::_,_::_,_,⟨h1,h2⟩,⟨x,xs,h3,h4,h5⟩=>⟨x,xs,h3,h1 _ _ _ h4,rdA_le h2 h5⟩
theorem AV.le_tup {l m:List AV} (h:leA l m):(AV.tup l).le (.tup m):=fun _ _ _ ⟨vs,h1,h2⟩=>⟨vs,h1,rdA_le h h2⟩
structure Atm where
 own:List Nat
 ok:(Nat→Prop)→World→Prop
 keep:∀ M w w',(∀ b∈own,w'.heap[b]?=w.heap[b]?)→(∀ b,b < w.heap.size→¬ M b→w'.heap[b]?=w.heap[b]?)→ok M w→ok M w'
 grow:∀ M M' w,(∀ b,b < w.heap.size→M' b→M b)→ok M w→ok M' w
def oA (A:List Atm):List Nat:=A.flatMap Atm.own
theorem mem_oA {A:List Atm} {b:Nat}:b∈oA A↔∃ a∈A,b∈a.own:=by simp [oA]
def MO (M:Nat→Prop) (A:List Atm):Nat→Prop:=fun b=>M b∨b∈oA A
structure Pre (A:List Atm) (M:Nat→Prop) (w:World):Prop where
 hM:∀ b,M b→b < w.heap.size
 nd:(oA A).Nodup
 lt:∀ b∈oA A,b < w.heap.size
 dis:∀ b∈oA A,¬ M b
 ats:∀ a∈A,a.ok (MO M A) w
structure Step (A A':List Atm) (M:Nat→Prop) (w w':World):Prop where
 mod:Mod (oA A) w w'
 pre:Pre A' M w'
 new:∀ b∈oA A',b∈oA A∨w.heap.size≤b
def Post (A:List Atm) (Q:AV→List Atm→Prop) (M:Nat→Prop) (w:World):Value→World→Prop:=
 fun u w'=>∃ v A',Q v A'∧v.rd (MO M A') w' u∧Step A A' M w w'
def Spec (P:Program) (g:Nat) (args:List AV) (A:List Atm) (Q:AV→List Atm→Prop):Prop:=
 ∀ (M:Nat→Prop) (w:World) (vs:List Value),Pre A M w→rdA (MO M A) w args vs→Calls P g vs.toArray w (Ret (Post A Q M w))
def Opn (P:Program) (f:AF) (A:List Atm) (o:Oper) (Q:AV→List Atm→Prop):Prop:=
 ∀ (M:Nat→Prop) (w:World) (r:Operand→Value),Pre A M w→(∀ x∈o.op.operands.toList,(eva f x).rd (MO M A) w (r x))→OS P o r w (Post A Q M w)
def Pu (P:Program) (g:Nat) (args:List AV) (v:AV):Prop:=
 ∀ (M:Nat→Prop) (w:World) (vs:List Value),(∀ b,M b→b < w.heap.size)→rdA M w args vs→Calls P g vs.toArray w (Ret fun u w'=>v.rd M w' u∧Mod [] w w')
def PuO (P:Program) (f:AF) (A:List Atm) (o:Oper) (v:AV):Prop:=
 ∀ (M:Nat→Prop) (w:World) (r:Operand→Value),Pre A M w→(∀ x∈o.op.operands.toList,(eva f x).rd (MO M A) w (r x))→OS P o r w (fun u w'=>v.rd (MO M A) w' u∧Mod [] w w')
section
variable {M M':Nat→Prop} {w w':World} {A A' A1 A2:List Atm}
theorem oA_app:oA (A1++A2)=oA A1++oA A2:=by simp [oA]
theorem oA_cons {a:Atm}:oA (a::A)=a.own++oA A:=by simp [oA]
theorem MO.lt (hp:Pre A M w):∀ b,MO M A b→b < w.heap.size:=fun b h=>h.elim (hp.hM b) (hp.lt b)
theorem Pre.mod (hp:Pre A M w) (hm:Mod [] w w'):Pre A M w':=by
 have same:∀ b,b < w.heap.size→w'.heap[b]?=w.heap[b]?:=fun b hb=>hm.block b hb (by simp)
 exact ⟨fun b hb=>Nat.lt_of_lt_of_le (hp.hM b hb) hm.size,hp.nd,fun b hb=>Nat.lt_of_lt_of_le (hp.lt b hb) hm.size,hp.dis,
  fun a ha=>a.keep _ w w' (fun b hb=>same b (hp.lt b (mem_oA.2 ⟨a,ha,hb⟩))) (fun b hb _=>same b hb) (hp.ats a ha)⟩
theorem Step.refl (hp:Pre A M w):Step A A M w w:=⟨Mod.refl _ _,hp,fun _ h=>.inl h⟩
theorem Step.trans {A3:List Atm} {w'':World} (h:Step A A' M w w') (k:Step A' A3 M w' w''):Step A A3 M w w'':=
 ⟨h.mod.fresh k.mod h.new,k.pre,fun b hb=>(k.new b hb).elim (h.new b) fun h'=>.inr (Nat.le_trans h.mod.size h')⟩
theorem Step.pure (hp:Pre A M w) (hm:Mod [] w w'):Step A A M w w':=⟨hm.mono (by simp),hp.mod hm,fun _ h=>.inl h⟩
theorem Step.keep {v:AV} {y:Value} (h:Step A A' M w w') (hv:v.rd (MO M A) w y):v.rd (MO M A') w' y:=by
 have hb:∀ b,b < w.heap.size→¬ MO M A b→w'.heap[b]?=w.heap[b]?:=fun b hb hn=>h.mod.block b hb fun hA=>hn (.inr hA)
 have h1:v.rd (fun b=>MO M A b∨w.heap.size≤b) w y:=AV.grow (fun b hb h=>h.resolve_right (by omega)) hv
 have h2:v.rd (fun b=>MO M A b∨w.heap.size≤b) w' y:=AV.keep (fun b hb' hn=>hb b hb' fun h=>hn (.inl h)) h1
 refine AV.grow (fun b _ hM=>?_) h2
 rcases hM with hM|hM
 ·exact .inl (.inl hM)
 ·exact (h.new b hM).imp .inr id
theorem Pre.sub (hp:Pre A M w) (hs:A'.Sublist A):Pre A' M w:=by
 have ho:(oA A').Sublist (oA A):=by
  induction hs with
  | slnil=>exact .refl _
  | cons a _ ih=>exact (ih ⟨hp.hM,(List.nodup_append.1 (by simpa [oA] using hp.nd)).2.1,fun b hb=>hp.lt b (by simp [oA_cons,hb]),fun b hb=>hp.dis b (by simp [oA_cons,hb]),fun x hx=>x.grow _ _ w (fun b _ h=>h.imp id fun h=>by simp [oA_cons,h]) (hp.ats x (by simp [hx]))⟩).trans (List.sublist_append_right a.own _)
  | cons_cons a _ ih=>exact (ih ⟨hp.hM,(List.nodup_append.1 (by simpa [oA] using hp.nd)).2.1,fun b hb=>hp.lt b (by simp [oA_cons,hb]),fun b hb=>hp.dis b (by simp [oA_cons,hb]),fun x hx=>x.grow _ _ w (fun b _ h=>h.imp id fun h=>by simp [oA_cons,h]) (hp.ats x (by simp [hx]))⟩).append_left a.own
 exact ⟨hp.hM,hp.nd.sublist ho,fun b hb=>hp.lt b (ho.subset hb),fun b hb=>hp.dis b (ho.subset hb),fun a ha=>a.grow _ _ w (fun b _ h=>h.imp id fun h=>ho.subset h) (hp.ats a (hs.subset ha))⟩
theorem oA_sub (hs:A'.Sublist A):(oA A').Sublist (oA A):=by
 induction hs with
 | slnil=>exact .refl _
 | cons a _ ih=>exact ih.trans (List.sublist_append_right a.own _)
 | cons_cons a _ ih=>exact ih.append_left a.own
theorem oA_perm (hs:A'.Perm A):(oA A').Perm (oA A):=hs.flatMap_right Atm.own
theorem Pre.perm (hp:Pre A M w) (hs:A'.Perm A):Pre A' M w:=by
 have ho:=oA_perm hs
 exact ⟨hp.hM,ho.nodup_iff.2 hp.nd,fun b hb=>hp.lt b (ho.subset hb),fun b hb=>hp.dis b (ho.subset hb),fun a ha=>a.grow _ _ w (fun b _ h=>h.imp id fun h=>ho.subset h) (hp.ats a (hs.subset ha))⟩
theorem Pre.front (hp:Pre (A1++A) M w):Pre A (MO M A1) w:=by
 have nd:=hp.nd
 rw [oA_app] at nd
 obtain ⟨n1,n2,n3⟩:=List.nodup_append.1 nd
 refine ⟨fun b hb=>hb.elim (hp.hM b) fun h=>hp.lt b (by rw [oA_app];simp [h]),n2,fun b hb=>hp.lt b (by rw [oA_app];simp [hb]),fun b hb hM=>?_,fun a ha=>?_⟩
 ·rcases hM with hM|hM
  ·exact hp.dis b (by rw [oA_app];simp [hb]) hM
  ·exact n3 b hM b hb rfl
 ·refine a.grow _ _ w (fun b _ h=>?_) (hp.ats a (by simp [ha]))
  rcases h with (h|h)|h
  ·exact .inl h
  ·exact .inr (by rw [oA_app];simp [h])
  ·exact .inr (by rw [oA_app];simp [h])
theorem MO_app (b:Nat):MO M (A1++A) b↔MO (MO M A1) A b:=by
 unfold MO;rw [oA_app];simp [or_assoc]
theorem Step.front (hp:Pre (A1++A) M w) (h:Step A A' (MO M A1) w w'):Step (A1++A) (A1++A') M w w':=by
 have nd:=hp.nd
 rw [oA_app] at nd
 obtain ⟨n1,n2,n3⟩:=List.nodup_append.1 nd
 have hlt1:∀ b∈oA A1,b < w.heap.size:=fun b hb=>hp.lt b (by rw [oA_app];simp [hb])
 have same1:∀ b∈oA A1,w'.heap[b]?=w.heap[b]?:=fun b hb=>h.mod.block b (hlt1 b hb) fun hA=>n3 b hb b hA rfl
 refine ⟨h.mod.mono (by rw [oA_app];simp;exact fun x hx=>.inr hx),⟨fun b hb=>h.pre.hM b (.inl hb),?_,fun b hb=>?_,fun b hb hM=>?_,fun a ha=>?_⟩,fun b hb=>?_⟩
 ·rw [oA_app]
  refine List.nodup_append.2 ⟨n1,h.pre.nd,fun x hx y hy e=>?_⟩
  subst e
  exact h.pre.dis x hy (.inr hx)
 ·rw [oA_app] at hb
  rcases List.mem_append.1 hb with hb|hb
  ·exact Nat.lt_of_lt_of_le (hlt1 b hb) h.mod.size
  ·exact h.pre.lt b hb
 ·rw [oA_app] at hb
  rcases List.mem_append.1 hb with hb|hb
  ·exact hp.dis b (by rw [oA_app];simp [hb]) hM
  ·exact h.pre.dis b hb (.inl hM)
 ·rcases List.mem_append.1 ha with ha|ha
  ·have h0:=hp.ats a (by simp [ha])
   have h1:=a.grow _ (fun b=>MO M (A1++A) b∨w.heap.size≤b) w (fun b hb h=>h.resolve_right (by omega)) h0
   have h2:=a.keep _ w w' (fun b hb=>same1 b (mem_oA.2 ⟨a,ha,hb⟩)) (fun b hb hn=>h.mod.block b hb fun hA=>hn (.inl (.inr (by rw [oA_app];simp [hA])))) h1
   refine a.grow _ _ w' (fun b _ hM=>?_) h2
   rw [MO_app] at hM
   rcases hM with hM|hM
   ·exact .inl (hM.imp id fun h=>by rw [oA_app];simp [h])
   ·rcases h.new b hM with h'|h'
    ·exact .inl (.inr (by rw [oA_app];simp [h']))
    ·exact .inr h'
  ·exact a.grow _ _ w' (fun b _ hM=>(MO_app b).1 hM) (h.pre.ats a ha)
 ·rw [oA_app] at hb ⊢
  rcases List.mem_append.1 hb with hb|hb
  ·exact .inl (by simp [hb])
  ·exact (h.new b hb).imp (fun h=>by simp [h]) id
end
structure Cx where
 M:Nat→Prop
 w0:World
 A0:List Atm
structure Inv (C:Cx) (f:AF) (A:List Atm) (g:FF) (w:World):Prop where
 st:Step C.A0 A C.M C.w0 w
 fr:∀ i,(f i).rd (MO C.M A) w (g i)
abbrev AQ:=Exit→AF→List Atm→Prop
def lf (C:Cx) (Q:AQ):FPost:=fun e g w=>∃ f A,Q e f A∧Inv C f A g w
def AW (P:Program) (n:Nat) (C:Cx) (c:Code) (Q:AQ) (f:AF) (A:List Atm):Prop:=∀ g w,Inv C f A g w→W P n c (lf C Q) g w
def AO (P:Program) (n:Nat) (C:Cx) (ops:Array Oper) (K:AF→List Atm→Prop) (rest:List Oper) (f:AF) (A:List Atm):Prop:=
 ∀ g w,Inv C f A g w→WO P n ops (fun g w=>∃ f A,K f A∧Inv C f A g w) rest g w
def asq (k:AF→List Atm→Prop) (Q:AQ):AQ
 | .normal,f,A=>k f A
 | e,f,A=>Q e f A
def abq (id:Nat) (Q:AQ):AQ
 | .exit id',f,A=>if id'=id then Q .normal f A else Q (.exit id') f A
 | e,f,A=>Q e f A
section
variable {P:Program} {n:Nat} {C:Cx} {Q:AQ} {f f':AF} {A A':List Atm} {k:AF→List Atm→Prop}
theorem anx (h:k f A):asq k Q .normal f A:=h
theorem anx_ret (h:Q .ret f A):asq k Q .ret f A:=h
theorem anx_exit {i:Nat} (h:Q (.exit i) f A):asq k Q (.exit i) f A:=h
theorem anb {i:Nat} (h:Q .normal f A):abq i Q .normal f A:=h
theorem anb_ret {i:Nat} (h:Q .ret f A):abq i Q .ret f A:=h
theorem anb_exit {i:Nat} (h:Q .normal f A):abq i Q (.exit i) f A:=by simpa [abq] using h
theorem anb_out {i j:Nat} (hn:Nat.beq j i=false) (h:Q (.exit j) f A):abq i Q (.exit j) f A:=by
 have:j≠i:=fun e=>by subst e;simp at hn
 simpa [abq,this] using h
theorem AW_seq {x y:Code} (h:AW P n C x (asq (AW P n C y Q) Q) f A):AW P n C (.seq x y) Q f A:=fun g w hi=>W_seq (W_mono (h g w hi) fun e g' w' ⟨f',A',hq,hi'⟩=>by
 cases e<;>first|exact hq g' w' hi'|exact ⟨f',A',hq,hi'⟩)
theorem AW_block {id:Nat} {c:Code} (h:AW P n C c (abq id Q) f A):AW P n C (.block id c) Q f A:=fun g w hi=>W_block (W_mono (h g w hi) fun e g' w' ⟨f',A',hq,hi'⟩=>by
 cases e with
 | exit id'=>
  simp only [abq] at hq
  simp only [bq]
  split
  ·rename_i h;rw [if_pos h] at hq;exact ⟨f',A',hq,hi'⟩
  ·rename_i h;rw [if_neg h] at hq;exact ⟨f',A',hq,hi'⟩
 | _=>exact ⟨f',A',hq,hi'⟩)
theorem AW_skip (h:Q .normal f A):AW P n C .skip Q f A:=fun _ _ hi=>W_skip ⟨f,A,h,hi⟩
theorem AW_exit {id:Nat} (h:Q (.exit id) f A):AW P n C (.exit id) Q f A:=fun _ _ hi=>W_exit ⟨f,A,h,hi⟩
theorem AW_ret (h:Q .ret f A):AW P n C .ret Q f A:=fun _ _ hi=>W_ret ⟨f,A,h,hi⟩
theorem AW_cond {c:Operand} {x y:Code} (b:Bool) (hc:eva f c=.one (.v (.bool b))) (ht:b=true→AW P n C x Q f A) (hf:b=false→AW P n C y Q f A):AW P n C (.cond c x y) Q f A:=fun g w hi=>by
 have h:=eva_rd hi.fr c
 rw [hc] at h
 exact W_split b h.1 (fun hb=>ht hb g w hi) (fun hb=>hf hb g w hi)
theorem AW_true {c:Operand} {x y:Code} (hc:eva f c=.one (.v (.bool true))) (h:AW P n C x Q f A):AW P n C (.cond c x y) Q f A:=AW_cond true hc (fun _=>h) (fun h=>by cases h)
theorem AW_false {c:Operand} {x y:Code} (hc:eva f c=.one (.v (.bool false))) (h:AW P n C y Q f A):AW P n C (.cond c x y) Q f A:=AW_cond false hc (fun h=>by cases h) (fun _=>h)
structure Wk (f:AF) (A:List Atm) (f':AF) (A':List Atm):Prop where
 fr:∀ i,(f i).le (f' i)
 ats:∃ B,B.Perm A∧A'.Sublist B
theorem Wk.inv (h:Wk f A f' A') {g:FF} {w:World} (hi:Inv C f A g w):Inv C f' A' g w:=by
 obtain ⟨B,hp,hs⟩:=h.ats
 have hsub:∀ b∈oA A',b∈oA A:=fun b hb=>(oA_perm hp).subset ((oA_sub hs).subset hb)
 exact ⟨⟨hi.st.mod,(hi.st.pre.perm hp).sub hs,fun b hb=>hi.st.new b (hsub b hb)⟩,fun i=>AV.grow (fun b _ hM=>hM.imp id (hsub b)) (h.fr i _ _ _ (hi.fr i))⟩
theorem AW_weak {c:Code} (hw:Wk f A f' A') (h:AW P n C c Q f' A'):AW P n C c Q f A:=fun g w hi=>h g w (hw.inv hi)
theorem AW_loop {c:Code} {ι:Type} (μ:ι→Nat) (F:ι→AF) (B:ι→List Atm) (p:ι→Prop) (x:ι) (hp:p x) (hw:Wk f A (F x) (B x))
 (round:∀ x,p x→AW P n C c (asq (fun f' A'=>∃ y,μ y < μ x∧p y∧Wk f' A' (F y) (B y)) Q) (F x) (B x)):AW P n C (.loop c) Q f A:=fun g w hi=>by
 refine W_loop (fun m g w=>∃ x,μ x=m∧p x∧Inv C (F x) (B x) g w) (μ x) ⟨x,rfl,hp,hw.inv hi⟩ ?_
 rintro m g w ⟨x,rfl,hp,hi⟩
 refine W_mono (round x hp g w hi) ?_
 rintro e g' w' ⟨f',A',hq,hi'⟩
 cases e with
 | normal=>obtain ⟨y,h1,h2,h3⟩:=hq;exact ⟨μ y,h1,y,rfl,h2,h3.inv hi'⟩
 | _=>exact ⟨f',A',hq,hi'⟩
theorem AW_region {id:Nat} {l:List Oper} (h:AO P n C l.toArray (fun f A=>Q .normal f A) l f A):AW P n C (.region id l.toArray false) Q f A:=fun g w hi=>W_region (h g w hi)
theorem AW_rs {id:Nat} {l:List Oper} {y:Code} (h:AO P n C l.toArray (AW P n C y Q) l f A):AW P n C (.seq (.region id l.toArray false) y) Q f A:=AW_seq (AW_region h)
variable {ops:Array Oper} {K:AF→List Atm→Prop} {rest:List Oper} {o:Oper}
theorem AO_end (h:K f A):AO P n C ops K [] f A:=fun _ _ hi=>⟨f,A,h,hi⟩
theorem OW_opn {Q':AV→List Atm→Prop} {g:FF} {w:World} (hi:Inv C f A g w) (hd:dlt o.dst n=true) (h:Opn P f A o Q'):OW P n o (fun g' w'=>∃ v A',Q' v A'∧Inv C (auo f o.dst v) A' g' w') g w:=by
 refine ⟨hd,(h C.M w (ev g) hi.st.pre fun x _=>eva_rd hi.fr x).mono ?_⟩
 rintro u w' ⟨v,A',hq,hv,hs⟩
 exact ⟨v,A',hq,hi.st.trans hs,auo_rd (fun i=>hs.keep (hi.fr i)) hv o.dst⟩
theorem PuO.opn {v:AV} (h:PuO P f A o v):Opn P f A o fun v' A'=>v'=v∧A'=A:=fun M w r hp hx=>(h M w r hp hx).mono fun u w' ⟨h1,h2⟩=>⟨v,A,⟨rfl,rfl⟩,h1,.pure hp h2⟩
theorem OW.all {K K':FF→World→Prop} {g:FF} {w:World} (h:OW P n o K g w) (hk:∀ f w,K f w→K' f w):OW P n o K' g w:=h.mono hk
theorem AO_o {Q':AV→List Atm→Prop} (hg:o.guard=none) (hd:dlt o.dst n=true) (h:Opn P f A o Q') (k:∀ v A',Q' v A'→AO P n C ops K rest (auo f o.dst v) A'):AO P n C ops K (o::rest) f A:=fun g w hi=>by
 unfold WO
 rw [if_pos (by simp [Region.wanted,hg])]
 exact (OW_opn hi hd h).mono fun g' w' ⟨v,A',hq,hi'⟩=>k v A' hq g' w' hi'
theorem AO_gt {Q':AV→List Atm→Prop} {j t:Nat} {b:Bool} (hg:o.guard=some (j,b)) (hd:dlt o.dst n=true) (ht:(ops[j]?).bind (·.dst)=some t) (hv:f t=.one (.v (.bool b))) (h:Opn P f A o Q') (k:∀ v A',Q' v A'→AO P n C ops K rest (auo f o.dst v) A'):AO P n C ops K (o::rest) f A:=fun g w hi=>by
 have hv':=hi.fr t
 rw [hv] at hv'
 unfold WO
 rw [if_pos (by simp [Region.wanted,yl,hg,ht,hv'.1])]
 exact (OW_opn hi hd h).mono fun g' w' ⟨v,A',hq,hi'⟩=>k v A' hq g' w' hi'
theorem AO_gf {j t:Nat} {b:Bool} (hg:o.guard=some (j,b)) (hd:dlt o.dst n=true) (ht:(ops[j]?).bind (·.dst)=some t) (hv:f t=.one (.v (.bool !b))∨f t=.tup []) (h:AO P n C ops K rest (auo f o.dst (.tup [])) A):AO P n C ops K (o::rest) f A:=fun g w hi=>by
 have hn:¬ Region.wanted o (yl ops g)=true:=by
  have hv':=hi.fr t
  rcases hv with hv|hv
  ·rw [hv] at hv';simp [Region.wanted,yl,hg,ht,hv'.1]
  ·rw [hv] at hv';have e:=undef_eq hv';simp [Region.wanted,yl,hg,ht,e,undef]
 unfold WO
 rw [if_neg hn]
 exact ⟨h _ _ ⟨hi.st,auo_rd hi.fr undef_rd o.dst⟩,hd⟩
end
section
variable {P:Program} {f:AF} {A:List Atm} {d:Option Tmp} {ty:TypeId} {pos:String} {aft:Array Edge} {gg:Option (Nat × Bool)}
theorem PuO_rd {o:Oper} {v:AV} (h:∀ (M:Nat→Prop) (w:World) (r:Operand→Value),Pre A M w→(∀ x∈o.op.operands.toList,(eva f x).rd (MO M A) w (r x))→∃ u,runC P w (execOp r o)=some (.value u)∧v.rd (MO M A) w u):PuO P f A o v:=fun M w r hp hx=>by
 obtain ⟨u,h1,h2⟩:=h M w r hp hx
 exact S_read h1 ⟨h2,Mod.refl _ _⟩
theorem PuO.le {o:Oper} {v v':AV} (h:PuO P f A o v) (hl:v.le v'):PuO P f A o v':=fun M w r hp hx=>(h M w r hp hx).mono fun _ _ ⟨h1,h2⟩=>⟨hl _ _ _ h1,h2⟩
theorem P_move (x:Operand) {v:AV} (hx:eva f x=v):PuO P f A ⟨d,.move x,ty,pos,aft,gg⟩ v:=PuO_rd fun M w r hp h=>⟨r x,rfl,by rw [← hx];exact h x (by simp [Op.operands])⟩
theorem P_assign (x:Operand) {v:AV} (hx:eva f x=v):PuO P f A ⟨d,.assign x,ty,pos,aft,gg⟩ v:=PuO_rd fun M w r hp h=>⟨r x,rfl,by rw [← hx];exact h x (by simp [Op.operands])⟩
theorem exact_of {M:Nat→Prop} {w:World} {r:Operand→Value} {x:Operand} {u:Value} (h:(eva f x).rd M w (r x)) (hx:eva f x=.one (.v u)):r x=u:=by rw [hx] at h;exact h.1
theorem P_ex1 {op:Op} (x:Operand) {a u:Value} (hop:op.operands=#[x]) (hx:eva f x=.one (.v a)) (hu:u.oneCell'=true) (h:∀ (w:World) (r:Operand→Value),r x=a→runC P w (execOp r ⟨d,op,ty,pos,aft,gg⟩)=some (.value u)):PuO P f A ⟨d,op,ty,pos,aft,gg⟩ (.one (.v u)):=
 PuO_rd fun M w r hp hr=>⟨u,h w r (exact_of (hr x (by simp [hop])) hx),rfl,hu⟩
theorem P_ex2 {op:Op} (x y:Operand) {a b u:Value} (hop:op.operands=#[x,y]) (hx:eva f x=.one (.v a)) (hy:eva f y=.one (.v b)) (hu:u.oneCell'=true)
 (h:∀ (w:World) (r:Operand→Value),r x=a→r y=b→runC P w (execOp r ⟨d,op,ty,pos,aft,gg⟩)=some (.value u)):PuO P f A ⟨d,op,ty,pos,aft,gg⟩ (.one (.v u)):=
 PuO_rd fun M w r hp hr=>⟨u,h w r (exact_of (hr x (by simp [hop])) hx) (exact_of (hr y (by simp [hop])) hy),rfl,hu⟩
section cmp
variable {xt yt:TypeId} (x y:Operand) {k:IntKind} {a b:Int} (hx:eva f x=.one (.v (.int k a))) (hy:eva f y=.one (.v (.int k b)))
include hx hy
theorem P_eql:PuO P f A ⟨d,.binOp .eql xt x y yt,ty,pos,aft,gg⟩ (.one (.v (.bool (a == b)))):=P_ex2 x y rfl hx hy rfl fun _ _ h1 h2=>X_cmp_eql x y h1 h2
theorem P_neq:PuO P f A ⟨d,.binOp .neq xt x y yt,ty,pos,aft,gg⟩ (.one (.v (.bool (a != b)))):=P_ex2 x y rfl hx hy rfl fun _ _ h1 h2=>X_cmp_neq x y h1 h2
theorem P_lss:PuO P f A ⟨d,.binOp .lss xt x y yt,ty,pos,aft,gg⟩ (.one (.v (.bool (decide (a < b))))):=P_ex2 x y rfl hx hy rfl fun _ _ h1 h2=>X_cmp_lss x y h1 h2
theorem P_leq:PuO P f A ⟨d,.binOp .leq xt x y yt,ty,pos,aft,gg⟩ (.one (.v (.bool (decide (a≤b))))):=P_ex2 x y rfl hx hy rfl fun _ _ h1 h2=>X_cmp_leq x y h1 h2
theorem P_gtr:PuO P f A ⟨d,.binOp .gtr xt x y yt,ty,pos,aft,gg⟩ (.one (.v (.bool (decide (b < a))))):=P_ex2 x y rfl hx hy rfl fun _ _ h1 h2=>X_cmp_gtr x y h1 h2
theorem P_geq:PuO P f A ⟨d,.binOp .geq xt x y yt,ty,pos,aft,gg⟩ (.one (.v (.bool (decide (b≤a))))):=P_ex2 x y rfl hx hy rfl fun _ _ h1 h2=>X_cmp_geq x y h1 h2
theorem P_eqlB {c:Bool} (h:(a == b)=c):PuO P f A ⟨d,.binOp .eql xt x y yt,ty,pos,aft,gg⟩ (.one (.v (.bool c))):=h▸P_eql x y hx hy
theorem P_neqB {c:Bool} (h:(a != b)=c):PuO P f A ⟨d,.binOp .neq xt x y yt,ty,pos,aft,gg⟩ (.one (.v (.bool c))):=h▸P_neq x y hx hy
theorem P_lssB {c:Bool} (h:decide (a < b)=c):PuO P f A ⟨d,.binOp .lss xt x y yt,ty,pos,aft,gg⟩ (.one (.v (.bool c))):=h▸P_lss x y hx hy
theorem P_leqB {c:Bool} (h:decide (a≤b)=c):PuO P f A ⟨d,.binOp .leq xt x y yt,ty,pos,aft,gg⟩ (.one (.v (.bool c))):=h▸P_leq x y hx hy
theorem P_gtrB {c:Bool} (h:decide (b < a)=c):PuO P f A ⟨d,.binOp .gtr xt x y yt,ty,pos,aft,gg⟩ (.one (.v (.bool c))):=h▸P_gtr x y hx hy
theorem P_geqB {c:Bool} (h:decide (b≤a)=c):PuO P f A ⟨d,.binOp .geq xt x y yt,ty,pos,aft,gg⟩ (.one (.v (.bool c))):=h▸P_geq x y hx hy
end cmp
section sums
variable {xt yt:TypeId} (x y:Operand) {a b:Int} (hx:eva f x=.one (.v (.int .i64 a))) (hy:eva f y=.one (.v (.int .i64 b)))
include hx hy
theorem P_add (h:-9223372036854775808≤a+b∧a+b≤9223372036854775807):PuO P f A ⟨d,.binOp .add xt x y yt,ty,pos,aft,gg⟩ (.one (.v (.int .i64 (a+b)))):=P_ex2 x y rfl hx hy rfl fun _ _ h1 h2=>X_add x y h1 h2 h
theorem P_sub (h:-9223372036854775808≤a - b∧a - b≤9223372036854775807):PuO P f A ⟨d,.binOp .sub xt x y yt,ty,pos,aft,gg⟩ (.one (.v (.int .i64 (a - b)))):=P_ex2 x y rfl hx hy rfl fun _ _ h1 h2=>X_sub x y h1 h2 h
theorem P_mul (h:-9223372036854775808≤a * b∧a * b≤9223372036854775807):PuO P f A ⟨d,.binOp .mul xt x y yt,ty,pos,aft,gg⟩ (.one (.v (.int .i64 (a * b)))):=P_ex2 x y rfl hx hy rfl fun _ _ h1 h2=>X_mul x y h1 h2 h
theorem P_addN {m n:Nat} (ha:a=(m:Int)) (hb:b=(n:Int)) (h:m+n≤9223372036854775807):PuO P f A ⟨d,.binOp .add xt x y yt,ty,pos,aft,gg⟩ (.one (.v (.int .i64 ((m+n:Nat):Int)))):=by
 subst ha hb;have:=P_add (P:=P) (A:=A) (d:=d) (ty:=ty) (pos:=pos) (aft:=aft) (gg:=gg) (xt:=xt) (yt:=yt) x y hx hy (by omega);rwa [← Int.natCast_add] at this
theorem P_subN {m n:Nat} (ha:a=(m:Int)) (hb:b=(n:Int)) (h:b≤a) (h':a≤9223372036854775807):PuO P f A ⟨d,.binOp .sub xt x y yt,ty,pos,aft,gg⟩ (.one (.v (.int .i64 ((m - n:Nat):Int)))):=by
 subst ha hb;have:=P_sub (P:=P) (A:=A) (d:=d) (ty:=ty) (pos:=pos) (aft:=aft) (gg:=gg) (xt:=xt) (yt:=yt) x y hx hy (by omega);rwa [← Int.ofNat_sub (by omega)] at this
end sums
theorem P_sub1 {xt yt:TypeId} (x y:Operand) {m:Nat} (hx:eva f x=.one (.v (.int .i64 m))) (hy:eva f y=.one (.v (.int .i64 1))) (h:1≤m) (h':m≤9223372036854775807):PuO P f A ⟨d,.binOp .sub xt x y yt,ty,pos,aft,gg⟩ (.one (.v (.int .i64 ((m - 1:Nat):Int)))):=
 P_subN x y hx hy rfl rfl (by omega) (by omega)
theorem P_add1 {xt yt:TypeId} (x y:Operand) {m:Nat} (hx:eva f x=.one (.v (.int .i64 m))) (hy:eva f y=.one (.v (.int .i64 1))) (h':m < 9223372036854775807):PuO P f A ⟨d,.binOp .add xt x y yt,ty,pos,aft,gg⟩ (.one (.v (.int .i64 ((m+1:Nat):Int)))):=
 P_addN x y hx hy rfl rfl (by omega)
theorem P_addT {xt yt:TypeId} (x y:Nat) {m n:Nat} (hx:eva f (.tmp x)=.one (.v (.int .i64 m))) (hy:eva f (.tmp y)=.one (.v (.int .i64 n))) (h':m+n≤9223372036854775807):PuO P f A ⟨d,.binOp .add xt (.tmp x) (.tmp y) yt,ty,pos,aft,gg⟩ (.one (.v (.int .i64 ((m+n:Nat):Int)))):=
 P_addN _ _ hx hy rfl rfl h'
theorem P_subT {xt yt:TypeId} (x y:Nat) {m n:Nat} (hx:eva f (.tmp x)=.one (.v (.int .i64 m))) (hy:eva f (.tmp y)=.one (.v (.int .i64 n))) (h:n≤m) (h':m≤9223372036854775807):PuO P f A ⟨d,.binOp .sub xt (.tmp x) (.tmp y) yt,ty,pos,aft,gg⟩ (.one (.v (.int .i64 ((m - n:Nat):Int)))):=
 P_subN _ _ hx hy rfl rfl (by omega) (by omega)
section strs
variable {xt yt:TypeId} (x y:Operand) {a b:ByteArray} (hx:eva f x=.one (.v (.string a))) (hy:eva f y=.one (.v (.string b)))
include hx hy
theorem P_seql:PuO P f A ⟨d,.binOp .eql xt x y yt,ty,pos,aft,gg⟩ (.one (.v (.bool (a.toList == b.toList)))):=P_ex2 x y rfl hx hy rfl fun _ _ h1 h2=>X_str_eql x y h1 h2
theorem P_sneq:PuO P f A ⟨d,.binOp .neq xt x y yt,ty,pos,aft,gg⟩ (.one (.v (.bool !(a.toList == b.toList)))):=P_ex2 x y rfl hx hy rfl fun _ _ h1 h2=>X_str_neq x y h1 h2
theorem P_slss:PuO P f A ⟨d,.binOp .lss xt x y yt,ty,pos,aft,gg⟩ (.one (.v (.bool (Op.bytesLess a.toList b.toList)))):=P_ex2 x y rfl hx hy rfl fun _ _ h1 h2=>X_str_lss x y h1 h2
theorem P_seqlT (h:a=b):PuO P f A ⟨d,.binOp .eql xt x y yt,ty,pos,aft,gg⟩ (.one (.v (.bool true))):=P_ex2 x y rfl hx hy rfl fun _ _ h1 h2=>X_seT x y h1 h2 h
theorem P_seqlF (h:a≠b):PuO P f A ⟨d,.binOp .eql xt x y yt,ty,pos,aft,gg⟩ (.one (.v (.bool false))):=P_ex2 x y rfl hx hy rfl fun _ _ h1 h2=>X_seF x y h1 h2 h
theorem P_sneqT (h:a≠b):PuO P f A ⟨d,.binOp .neq xt x y yt,ty,pos,aft,gg⟩ (.one (.v (.bool true))):=P_ex2 x y rfl hx hy rfl fun _ _ h1 h2=>X_snT x y h1 h2 h
theorem P_sneqF (h:a=b):PuO P f A ⟨d,.binOp .neq xt x y yt,ty,pos,aft,gg⟩ (.one (.v (.bool false))):=P_ex2 x y rfl hx hy rfl fun _ _ h1 h2=>X_snF x y h1 h2 h
end strs
theorem P_not {t:TypeId} (x:Operand) {b:Bool} (hx:eva f x=.one (.v (.bool b))):PuO P f A ⟨d,.unOp .not t x,ty,pos,aft,gg⟩ (.one (.v (.bool !b))):=P_ex1 x rfl hx rfl fun _ _ h=>X_not x h
theorem P_nil (x:Operand) {a:Addr} (hx:eva f x=.one (.v (.pointer (some a)))):PuO P f A ⟨d,.nilCheck x,ty,pos,aft,gg⟩ (.one (.v (.pointer (some a)))):=P_ex1 x rfl hx rfl fun _ _ h=>X_nil x h
theorem P_pickT (c x y:Operand) {v:AV} (hc:eva f c=.one (.v (.bool true))) (hx:eva f x=v):PuO P f A ⟨d,.pick c x y,ty,pos,aft,gg⟩ v:=PuO_rd fun M w r hp h=>
 ⟨r x,X_pickT c x y (exact_of (h c (by simp [Op.operands])) hc),by rw [← hx];exact h x (by simp [Op.operands])⟩
theorem P_pickF (c x y:Operand) {v:AV} (hc:eva f c=.one (.v (.bool false))) (hx:eva f y=v):PuO P f A ⟨d,.pick c x y,ty,pos,aft,gg⟩ v:=PuO_rd fun M w r hp h=>
 ⟨r y,X_pickF c x y (exact_of (h c (by simp [Op.operands])) hc),by rw [← hx];exact h y (by simp [Op.operands])⟩
theorem P_extract (x:Operand) {i:Nat} {l:List AV} {v:AV} (hx:eva f x=.tup l) (hv:l[i]?=some v):PuO P f A ⟨d,.extract x i,ty,pos,aft,gg⟩ v:=PuO_rd fun M w r hp h=>by
 have h1:=h x (by simp [Op.operands])
 rw [hx] at h1
 obtain ⟨vs,h2,h3⟩:=h1
 obtain ⟨u,h4,h5⟩:=rdA_get i h3 hv
 exact ⟨u,X_extract x h2 (by simpa using h4),h5⟩
theorem X_minI {w:World} {r:Operand→Value} {tys:Array TypeId} (x y:Operand) {a b:Int} (hx:r x=.int .i64 a) (hy:r y=.int .i64 b) :
 runC P w (execOp r ⟨d,.call {callee:=.builtin .min,args:=#[x,y],argTypes:=tys },ty,pos,aft,gg⟩)=some (.value (.int .i64 (min a b))):=by
 simp only [execOp,resolve,pure_bind,invoke,builtin,List.map_toArray,List.map_cons,List.map_nil,hx,hy,Builtin.min_,List.foldlM,Builtin.min2]
 by_cases h:b < a
 ·have:min a b=b:=by omega
  simp [runC_pure,h,this]
 ·have:min a b=a:=by omega
  simp [runC_pure,h,this]
theorem X_maxI {w:World} {r:Operand→Value} {tys:Array TypeId} (x y:Operand) {a b:Int} (hx:r x=.int .i64 a) (hy:r y=.int .i64 b) :
 runC P w (execOp r ⟨d,.call {callee:=.builtin .max,args:=#[x,y],argTypes:=tys },ty,pos,aft,gg⟩)=some (.value (.int .i64 (max a b))):=by
 simp only [execOp,resolve,pure_bind,invoke,builtin,List.map_toArray,List.map_cons,List.map_nil,hx,hy,Builtin.max_,List.foldlM,Builtin.max2]
 by_cases h:b > a
 ·have:max a b=b:=by omega
  simp [runC_pure,h,this]
 ·have:max a b=a:=by omega
  simp [runC_pure,h,this]
theorem P_min {tys:Array TypeId} (x y:Operand) {a b:Int} (hx:eva f x=.one (.v (.int .i64 a))) (hy:eva f y=.one (.v (.int .i64 b))):PuO P f A ⟨d,.call {callee:=.builtin .min,args:=#[x,y],argTypes:=tys },ty,pos,aft,gg⟩ (.one (.v (.int .i64 (min a b)))):=P_ex2 x y rfl hx hy rfl fun _ _ h1 h2=>X_minI x y h1 h2
theorem P_max {tys:Array TypeId} (x y:Operand) {a b:Int} (hx:eva f x=.one (.v (.int .i64 a))) (hy:eva f y=.one (.v (.int .i64 b))):PuO P f A ⟨d,.call {callee:=.builtin .max,args:=#[x,y],argTypes:=tys },ty,pos,aft,gg⟩ (.one (.v (.int .i64 (max a b)))):=P_ex2 x y rfl hx hy rfl fun _ _ h1 h2=>X_maxI x y h1 h2
class CnvF (P:Program) (src dst:TypeId) (k':outParam IntKind):Prop where
 s:∃ e,P.underlying src=some e
 d:P.underlying dst=some (.int k')
theorem P_conv {src dst:TypeId} {k k':IntKind} [C:CnvF P src dst k'] (x:Operand) {n:Int} (hx:eva f x=.one (.v (.int k n))) (hw:k'.wrap n=n):PuO P f A ⟨d,.convert src dst x,ty,pos,aft,gg⟩ (.one (.v (.int k' n))):=fun M w r hp h=>by
 obtain ⟨e,hs⟩:=C.s
 have hk:P.intKind dst=k':=by simp [Program.intKind,C.d]
 refine S_run (v:=.int k' n) (w':=w) ?_ ⟨⟨rfl,rfl⟩,Mod.refl _ _⟩
 show (convert src dst (r x) >>= fun v=>pure (Next.value v)).run P w=_
 rw [Sem.run_bind,exact_of (h x (by simp [Op.operands])) hx,run_convert_int w src dst k n (by rw [hs];rfl) (by rw [hk];exact C.d),hk,hw]
 rfl
def exs (f:AF):List Operand→Option (List Value)
 | []=>some []
 | x::l=>match eva f x with
  | .one (.v u)=>(exs f l).map (u::·)
  | _=>none
theorem exs_eq {M:Nat→Prop} {w:World} {r:Operand→Value}:∀ {l:List Operand} {vs:List Value},exs f l=some vs→(∀ x∈l,(eva f x).rd M w (r x))→l.map r=vs
 | [],vs,h,_=>by cases h;rfl
 | x::l,vs,h,hx=>by
  unfold exs at h
  split at h
  ·rename_i u hu
   obtain ⟨vs',h1,rfl⟩:=Option.map_eq_some_iff.1 h
   rw [List.map_cons,exact_of (hx x (by simp)) hu,exs_eq h1 fun y hy=>hx y (by simp [hy])]
  ·cases h
theorem P_fn {fn:Fn} {cs:Array Operand} {us:List Value} (h:exs f cs.toList=some us):PuO P f A ⟨d,.makeFunc fn #[] cs,ty,pos,aft,gg⟩ (.one (.v (.func fn #[] us.toArray))):=PuO_rd fun M w r hp hr=>by
 have h1:cs.map r=us.toArray:=by
  have e:=exs_eq h fun x hx=>hr x (by simp [Op.operands];exact Array.mem_toList_iff.1 hx)
  apply Array.ext'
  rw [Array.toList_map,e]
 exact ⟨_,by simp [execOp,Instr.makeFunc,runC_pure,h1],rfl,rfl⟩
theorem P_field {s k off:Nat} [F:FldF P s k off] (x:Operand) {b o:Nat} (hx:eva f x=.one (.v (.pointer (some ⟨b,o,none⟩)))):PuO P f A ⟨d,.fieldAddr s x k,ty,pos,aft,gg⟩ (.one (.v (.pointer (some ⟨b,o+off,none⟩)))):=
 P_ex1 x rfl hx rfl fun _ _ h=>X_fieldAddr x h
theorem Cells.drop {w:World} {b o:Nat} {vs:List Value} (n:Nat) (h:Cells w b o vs):Cells w b (o+n) (vs.drop n):=fun j u hj=>by
 have:=h (n+j) u (by simpa using hj)
 rwa [show o+n+j=o+(n+j) by omega]
theorem Cells.take {w:World} {b o:Nat} {vs:List Value} (n:Nat) (h:Cells w b o vs):Cells w b o (vs.take n):=fun j u hj=>h j u (by
 rw [List.getElem?_take] at hj;split at hj;exact hj;cases hj)
theorem P_fieldP {s k off:Nat} [F:FldF P s k off] (x:Operand) {l:List D} (hx:eva f x=.pto l):PuO P f A ⟨d,.fieldAddr s x k,ty,pos,aft,gg⟩ (.pto (l.drop off)):=PuO_rd fun M w r hp h=>by
 have h1:=h x (by simp [Op.operands])
 rw [hx] at h1
 obtain ⟨b,o,vs,h2,h3,h4,h5,h6⟩:=h1
 exact ⟨_,X_fieldAddr x h2,b,o+off,vs.drop off,rfl,h3,h4,rdC_drop off h5,h6.drop off⟩
def abox (b:Nat) (ds:List D) (T:TypeId):Atm:=⟨[b],fun M w=>∃ vs:List Value,w.heap[b]?=some (.cells vs.toArray T (0,0))∧rdC M w ds vs,
 fun _ _ _ h1 h2 ⟨vs,h3,h4⟩=>⟨vs,by rw [h1 b (by simp)];exact h3,rdC_keep h2 h4⟩,fun _ _ _ h ⟨vs,h1,h2⟩=>⟨vs,h1,rdC_grow h h2⟩⟩
theorem P_load1 {t:TypeId} {sz:Nat} {z:Value} [TyF P t false sz z] (x:Operand) {b o:Nat} {ds:List D} {T:TypeId} {c:D} (hx:eva f x=.one (.v (.pointer (some ⟨b,o,none⟩)))) (hm:abox b ds T∈A) (hc:ds[o]?=some c) :
 PuO P f A ⟨d,.load t x,ty,pos,aft,gg⟩ (.one c):=PuO_rd fun M w r hp h=>by
 obtain ⟨vs,h1,h2⟩:=hp.ats _ hm
 obtain ⟨u,h3,h4⟩:=rdC_get o h2 hc
 exact ⟨u,X_load1 x (exact_of (h x (by simp [Op.operands])) hx) (by rw [block_cell h1];exact h3),h4⟩
theorem P_loadN {t:TypeId} {sz:Nat} {z:Value} [TyF P t true sz z] (x:Operand) {b o:Nat} {ds:List D} {T:TypeId} {cs:List D} (hx:eva f x=.one (.v (.pointer (some ⟨b,o,none⟩)))) (hm:abox b ds T∈A) (hc:(ds.drop o).take sz=cs) (hl:Nat.beq cs.length sz=true) :
 PuO P f A ⟨d,.load t x,ty,pos,aft,gg⟩ (.agg cs):=PuO_rd fun M w r hp h=>by
 obtain ⟨vs,h1,h2⟩:=hp.ats _ hm
 have h3:rdC (MO M A) w cs ((vs.drop o).take sz):=hc▸rdC_take sz (rdC_drop o h2)
 exact ⟨_,X_loadN x (exact_of (h x (by simp [Op.operands])) hx) (block_cells h1 rfl) (by rw [rdC_len h3];exact Nat.eq_of_beq_eq_true hl),_,rfl,h3⟩
theorem P_loadW {t:TypeId} {sz:Nat} {z:Value} [TyF P t true sz z] (x:Operand) {b:Nat} {ds:List D} {T:TypeId} (hx:eva f x=.one (.v (.pointer (some ⟨b,0,none⟩)))) (hm:abox b ds T∈A) (hl:ds.length=sz) :
 PuO P f A ⟨d,.load t x,ty,pos,aft,gg⟩ (.agg ds):=P_loadN x hx hm (by simp [← hl]) (by simp [hl])
theorem P_load1P {t:TypeId} {sz:Nat} {z:Value} [TyF P t false sz z] (x:Operand) {l:List D} {c:D} (hx:eva f x=.pto l) (hc:l[0]?=some c):PuO P f A ⟨d,.load t x,ty,pos,aft,gg⟩ (.one c):=PuO_rd fun M w r hp h=>by
 have h1:=h x (by simp [Op.operands])
 rw [hx] at h1
 obtain ⟨b,o,vs,h2,h3,h4,h5,h6⟩:=h1
 obtain ⟨u,h7,h8⟩:=rdC_get 0 h5 hc
 exact ⟨u,X_load1 x h2 (by simpa using h6 0 u h7),h8⟩
theorem P_loadNP {t:TypeId} {sz:Nat} {z:Value} [TyF P t true sz z] (x:Operand) {l cs:List D} (hx:eva f x=.pto l) (hc:l.take sz=cs) (hl:Nat.beq cs.length sz=true):PuO P f A ⟨d,.load t x,ty,pos,aft,gg⟩ (.agg cs):=PuO_rd fun M w r hp h=>by
 have h1:=h x (by simp [Op.operands])
 rw [hx] at h1
 obtain ⟨b,o,vs,h2,h3,h4,h5,h6⟩:=h1
 have h7:rdC (MO M A) w cs (vs.take sz):=hc▸rdC_take sz h5
 exact ⟨_,X_loadN x h2 (h6.take sz) (by rw [rdC_len h7];exact Nat.eq_of_beq_eq_true hl),_,rfl,h7⟩
theorem P_loadAP {t:TypeId} {sz:Nat} {z:Value} [TyF P t true sz z] (x:Operand) {l:List D} (hx:eva f x=.pto l) (hl:l.length=sz):PuO P f A ⟨d,.load t x,ty,pos,aft,gg⟩ (.agg l):=PuO_rd fun M w r hp h=>by
 have h1:=h x (by simp [Op.operands])
 rw [hx] at h1
 obtain ⟨b,o,vs,h2,h3,h4,h5,h6⟩:=h1
 exact ⟨_,X_loadN x h2 h6 (by rw [rdC_len h5,hl]),_,rfl,h5⟩
theorem P_index {t e:TypeId} {agg:Bool} {sz:Nat} {z:Value} [S:SlF P t e] [T:TyF P e agg sz z] (x i:Operand) {rows:List (List D)} {r:List D} {k:IntKind} (j:Nat) (hx:eva f x=.one (.s sz rows)) (hi:eva f i=.one (.v (.int k j))) (hr:rows[j]?=some r) :
 PuO P f A ⟨d,.indexAddr t x i,ty,pos,aft,gg⟩ (.pto r):=PuO_rd fun M w rr hp h=>by
 have h1:=h x (by simp [Op.operands])
 rw [hx] at h1
 obtain ⟨a,c,h2,h3,h4⟩:=h1
 have hj:j < rows.length:=(List.getElem?_eq_some_iff.1 hr).1
 rcases h4 with rfl | ⟨b,o,rfl,hM,hb,hR⟩
 ·simp at hj
 ·obtain ⟨vs,h5,h6,h7⟩:=rdR_get j hR hr
  exact ⟨_,X_indexAddr x i j h2 (exact_of (h i (by simp [Op.operands])) hi) hj,b,o+j * sz,vs,rfl,hM,hb,h6,h7⟩
theorem P_len {t e:TypeId} [S:SlF P t e] (x:Operand) {sz:Nat} {rows:List (List D)} (hx:eva f x=.one (.s sz rows)):PuO P f A ⟨d,.call {callee:=.builtin .len,args:=#[x],argTypes:=#[t] },ty,pos,aft,gg⟩ (.one (.v (.int .i64 rows.length))):=PuO_rd fun M w r hp h=>by
 have h1:=h x (by simp [Op.operands,Call.operands])
 rw [hx] at h1
 obtain ⟨a,c,h2,_⟩:=h1
 exact ⟨_,X_len x h2,rfl,rfl⟩
theorem P_lenR {t e:TypeId} [S:SlF P t e] (x:Operand) {sz n:Nat} {rows:List (List D)} (hx:eva f x=.one (.s sz rows)) (hn:rows.length=n):PuO P f A ⟨d,.call {callee:=.builtin .len,args:=#[x],argTypes:=#[t] },ty,pos,aft,gg⟩ (.one (.v (.int .i64 n))):=hn▸P_len x hx
theorem P_lenV {t e:TypeId} [S:SlF P t e] (x:Operand) {a:Option Addr} {n c:Nat} (hx:eva f x=.one (.v (.slice a n c))):PuO P f A ⟨d,.call {callee:=.builtin .len,args:=#[x],argTypes:=#[t] },ty,pos,aft,gg⟩ (.one (.v (.int .i64 n))):=
 P_ex1 x rfl hx rfl fun _ _ h=>X_len x h
theorem P_lenS {t:TypeId} [S:StF P t] (x:Operand) {s:ByteArray} (hx:eva f x=.one (.v (.string s))):PuO P f A ⟨d,.call {callee:=.builtin .len,args:=#[x],argTypes:=#[t] },ty,pos,aft,gg⟩ (.one (.v (.int .i64 s.size))):=
 P_ex1 x rfl hx rfl fun _ _ h=>X_lenS x h
theorem P_char {t:TypeId} [S:StF P t] (x i:Operand) {s:ByteArray} {k:IntKind} (j:Nat) {c:UInt8} (hx:eva f x=.one (.v (.string s))) (hi:eva f i=.one (.v (.int k j))) (hc:s[j]?=some c) :
 PuO P f A ⟨d,.index t x i,ty,pos,aft,gg⟩ (.one (.v (.int .u8 c.toNat))):=P_ex2 x i rfl hx hi rfl fun _ _ h1 h2=>X_index x i j h1 h2 hc
def AV.cellsD:AV→Option (List D)
 | .one c=>some [c]
 | .agg l=>some l
 | _=>none
theorem cellsD_rd {M:Nat→Prop} {w:World} {a:AV} {l:List D} {y:Value} (h:a.cellsD=some l) (hr:a.rd M w y):∃ vs,y.cells=vs.toArray∧rdC M w l vs:=by
 cases a with
 | one c=>
  cases h
  have h1:=D.oneC (d:=c) hr
  refine ⟨[y],?_,y,[],rfl,hr,rfl⟩
  cases y<;>first|rfl|cases h1
 | agg l'=>cases h;obtain ⟨vs,rfl,h2⟩:=hr;exact ⟨vs,rfl,h2⟩
 | tup _=>cases h
 | pto _=>cases h
 | junk=>cases h
def partsD (f:AF):List (Nat × Operand)→Option (List (Nat × List D))
 | []=>some []
 | (i,x)::l=>match (eva f x).cellsD,partsD f l with
  | some c,some r=>some ((i,c)::r)
  | _,_=>none
def dfill (place:Nat→Option (Nat × Nat)) (xs:List D):List (Nat × List D)→Option (List D)
 | []=>some xs
 | (i,vs)::rest=>match place i with
  | none=>none
  | some (off,size)=>if vs.length≠size || decide (off+vs.length > xs.length) then none else dfill place (putD xs off vs) rest
theorem parts_rd {M:Nat→Prop} {w:World} {r:Operand→Value}:∀ {ps:List (Nat × Operand)} {qs:List (Nat × List D)},partsD f ps=some qs→(∀ p∈ps,(eva f p.2).rd M w (r p.2))→
 ∃ us:List (Nat × List Value),ps.map (fun p=>(p.1,(r p.2).cells))=us.map (fun q=>(q.1,q.2.toArray))∧∀ (place:Nat→Option (Nat × Nat)) (zs:List D) (xs:List D) (ys:List Value),rdC M w zs ys→dfill place zs qs=some xs→∃ ts,lfill place ys us=some ts∧rdC M w xs ts
 | [],qs,h,_=>by cases h;exact ⟨[],rfl,fun place zs xs ys h1 h2=>by cases h2;exact ⟨ys,rfl,h1⟩⟩
 | (i,x)::ps,qs,h,hx=>by
  unfold partsD at h
  split at h
  ·rename_i c rr hc hr
   cases h
   obtain ⟨us,h1,h2⟩:=parts_rd hr fun p hp=>hx p (by simp [hp])
   obtain ⟨vs,h3,h4⟩:=cellsD_rd hc (hx (i,x) (by simp))
   refine ⟨(i,vs)::us,by simp [h1,h3],fun place zs xs ys h5 h6=>?_⟩
   unfold dfill at h6
   unfold lfill
   cases hp:place i with
   | none=>rw [hp] at h6;cases h6
   | some q=>
    obtain ⟨off,size⟩:=q
    rw [hp] at h6
    simp only [] at h6 ⊢
    split at h6
    ·cases h6
    ·rename_i hn
     rw [if_neg (by rw [rdC_len h4,rdC_len h5];exact hn)]
     exact h2 place _ _ _ (rdC_put off h5 h4) h6
  ·cases h
theorem P_build {t:TypeId} {agg:Bool} {sz:Nat} {z:Value} {places:List (Nat × Nat)} [F:TyF P t agg sz z] [G:FieldsF P t places] {ps:Array (Nat × Operand)} {zs xs:List D} {qs:List (Nat × List D)} (hz:cstL z.cells.toList=some zs) (hq:partsD f ps.toList=some qs) (hf:dfill (places[·]?) zs qs=some xs) :
 PuO P f A ⟨d,.build t ps,ty,pos,aft,gg⟩ (.agg xs):=PuO_rd fun M w r hp h=>by
 obtain ⟨us,h1,h2⟩:=parts_rd (r:=r) hq fun p hp=>h p.2 (by simp [Op.operands];exact ⟨p.1,Array.mem_toList_iff.1 hp⟩)
 obtain ⟨ts,h3,h4⟩:=h2 _ _ _ _ (cstL_rd hz) hf
 exact ⟨_,X_build (by simp) us h1 h3,ts,rfl,h4⟩
end
end Go.Proofs.YtejkllmoofdpjaaGreat
