/- A walk over frames that are functions: one law for each form of code, and for a region whatever its order. A region that draws its order: reads go by what they read, calls by what they leave; whatever the order, the rest follows in the text's. What single operations leave: reads. What a call holds of memory: blocks of its own, each for itself, and data that nobody writes. Terms as plain data, how plain data stand in cells, and slices of them. What single operations leave: new blocks, stores, rows, calls. Rows that a call appends to; the beginning and the end of a call. Words for walking: frames at a loop, regions in any order, cells of what is held. What the laws of the walk ask of the types and the functions (printed by gen_facts.py). -/
import Derived.WalkKit
import Derived.Deep.LoopGhost
import Derived.Orders
import Derived.RegionTactic
import Derived.Laws.Append
import Derived.IntWalk
import Derived.Laws.AppendOwn
import Derived.Below
import Derived.Laws.OwnMore
import Derived.Test.YtljpfnjpifhdlaaGreatDoorRows
import Derived.Shelf.Abstract
namespace Go.Proofs.YtljpfnjpifhdlaaGreatDoor
open Go

abbrev FF := Nat → Value
/-- a frame with one slot set anew -/
def upd (f : FF) (d : Nat) (v : Value) : FF := fun i => cond (Nat.beq i d) v (f i)
def updo (f : FF) : Option Nat → Value → FF
  | some d, v => upd f d v
  | none, _ => f
def dlt : Option Nat → Nat → Bool
  | some d, n => Nat.blt d n
  | none, _ => true
theorem upd_same (f : FF) (d : Nat) (v : Value) : upd f d v d = v := by simp [upd]
theorem upd_ne {f : FF} {d i : Nat} {v : Value} (h : i ≠ d) : upd f d v i = f i := by
  have : Nat.beq i d = false := by cases hb : Nat.beq i d with | false => rfl | true => exact absurd (Nat.eq_of_beq_eq_true hb) h
  simp [upd, this]

/-- the frame's slots are as f says -/
structure Fr (n : Nat) (f : FF) (a : Act) : Prop where
  size : a.tmps.size = n
  get : ∀ i, a.tmps.getD i undef = f i
  defers : a.defers = []

def ev (f : FF) : Operand → Value
  | .tmp t => f t
  | .const v => v
  | .global g => .pointer (some ⟨g, 0, none⟩)
  | .func g => .func (.func g) #[] #[]

theorem Fr.eval {n : Nat} {f : FF} {a : Act} (h : Fr n f a) : a.eval = ev f := by
  funext x
  cases x with
  | tmp t => exact h.get t
  | const v => rfl
  | global g => rfl
  | func g => rfl

theorem Fr.put {n : Nat} {f : FF} {a : Act} (h : Fr n f a) {d : Option Nat} (hd : dlt d n = true) (v : Value) : Fr n (updo f d v) (a.put d v) := by
  cases d with
  | none => exact h
  | some d =>
    have hd' : d < a.tmps.size := by rw [h.size]; simpa [dlt] using hd
    refine ⟨by simp [Act.put, h.size], fun i => ?_, h.defers⟩
    simp only [Act.put, updo]
    by_cases hi : i = d
    · subst hi
      rw [upd_same]
      simp [hd']
    · rw [upd_ne hi, ← h.get i]
      simp [Array.getElem?_setIfInBounds_ne (Ne.symm hi)]

abbrev FPost := Exit → FF → World → Prop
def toQ (n : Nat) (Q : FPost) : Exit → Act → World → Prop := fun e a w => ∃ f, Fr n f a ∧ Q e f w

/-- the code from frame f and world w on -/
def W (P : Program) (n : Nat) (c : Code) (Q : FPost) (f : FF) (w : World) : Prop := ∀ a, Fr n f a → c.wp P (toQ n Q) a w

def sq (k : FF → World → Prop) (Q : FPost) : FPost
  | .normal, f, w => k f w
  | e, f, w => Q e f w
def bq (id : Nat) (Q : FPost) : FPost
  | .exit id', f, w => if id' = id then Q .normal f w else Q (.exit id') f w
  | e, f, w => Q e f w

section
variable {Q : FPost} {f : FF} {w : World} {k : FF → World → Prop}
theorem nx (h : k f w) : sq k Q .normal f w := h
theorem nx_ret (h : Q .ret f w) : sq k Q .ret f w := h
theorem nx_exit {i : Nat} (h : Q (.exit i) f w) : sq k Q (.exit i) f w := h
theorem nb {i : Nat} (h : Q .normal f w) : bq i Q .normal f w := h
theorem nb_ret {i : Nat} (h : Q .ret f w) : bq i Q .ret f w := h
theorem nb_exit {i : Nat} (h : Q .normal f w) : bq i Q (.exit i) f w := by simpa [bq] using h
theorem nb_out {i j : Nat} (hn : Nat.beq j i = false) (h : Q (.exit j) f w) : bq i Q (.exit j) f w := by
  have : j ≠ i := fun e => by subst e; simp at hn
  simpa [bq, this] using h
end

section
variable {P : Program} {n : Nat} {Q : FPost} {f : FF} {w : World}

theorem W_mono {c : Code} {Q' : FPost} (h : W P n c Q f w) (hq : ∀ e f w, Q e f w → Q' e f w) : W P n c Q' f w :=
  fun a ha => wp_mono (h a ha) fun e _ w' ⟨f', hf, q⟩ => ⟨f', hf, hq e f' w' q⟩

theorem W_seq {x y : Code} (h : W P n x (sq (W P n y Q) Q) f w) : W P n (.seq x y) Q f w := by
  intro a ha
  refine wp_seq (wp_mono (h a ha) ?_)
  rintro e a' w' ⟨f', hf, hq⟩
  cases e with
  | normal => exact hq a' hf
  | exit id => exact ⟨f', hf, hq⟩
  | goto l => exact ⟨f', hf, hq⟩
  | ret => exact ⟨f', hf, hq⟩
  | panic ch => exact ⟨f', hf, hq⟩
  | outgrown => exact ⟨f', hf, hq⟩

theorem W_block {id : Nat} {c : Code} (h : W P n c (bq id Q) f w) : W P n (.block id c) Q f w := by
  intro a ha
  refine wp_block (wp_mono (h a ha) ?_)
  rintro e a' w' ⟨f', hf, hq⟩
  cases e with
  | exit id' =>
    by_cases hid : id' = id
    · subst hid
      simp only [Exit.inBlock, if_true]
      simp only [bq, if_true] at hq
      exact ⟨f', hf, hq⟩
    · simp only [Exit.inBlock, hid, if_false]
      simp only [bq, hid, if_false] at hq
      exact ⟨f', hf, hq⟩
  | normal => exact ⟨f', hf, hq⟩
  | goto l => exact ⟨f', hf, hq⟩
  | ret => exact ⟨f', hf, hq⟩
  | panic ch => exact ⟨f', hf, hq⟩
  | outgrown => exact ⟨f', hf, hq⟩

theorem W_skip (h : Q .normal f w) : W P n .skip Q f w := fun _ ha => wp_skip ⟨f, ha, h⟩
theorem W_exit {id : Nat} (h : Q (.exit id) f w) : W P n (.exit id) Q f w := fun _ ha => wp_exit ⟨f, ha, h⟩
theorem W_ret (h : Q .ret f w) : W P n .ret Q f w := fun _ ha => wp_ret ⟨f, ha, h⟩
theorem W_label {l : Nat} (h : Q .normal f w) : W P n (.label l) Q f w := fun _ ha => wp_label ⟨f, ha, h⟩

theorem W_true {c : Operand} {x y : Code} (hc : ev f c = .bool true) (h : W P n x Q f w) : W P n (.cond c x y) Q f w :=
  fun a ha => wp_cond_true (by rw [ha.eval]; exact hc) (h a ha)
theorem W_false {c : Operand} {x y : Code} (hc : ev f c = .bool false) (h : W P n y Q f w) : W P n (.cond c x y) Q f w :=
  fun a ha => wp_cond_false (by rw [ha.eval]; exact hc) (h a ha)
theorem W_split {c : Operand} {x y : Code} (b : Bool) (hc : ev f c = .bool b) (ht : b = true → W P n x Q f w) (hf : b = false → W P n y Q f w) : W P n (.cond c x y) Q f w :=
  fun a ha => wp_cond_split (by rw [ha.eval]; exact hc) (fun h => ht h a ha) (fun h => hf h a ha)

/-- a loop: a relation that bears a number, which each round lowers -/
theorem W_loop {c : Code} (I : Nat → FF → World → Prop) (m : Nat) (h0 : I m f w)
    (round : ∀ m f w, I m f w → W P n c (sq (fun f' w' => ∃ m', m' < m ∧ I m' f' w') Q) f w) : W P n (.loop c) Q f w := by
  intro a ha
  refine wp_loop_ghost (fun k a w => ∃ f, Fr n f a ∧ I k f w) m ⟨f, ha, h0⟩ ?_
  rintro k a w ⟨f, hf, hI⟩
  refine wp_mono (round k f w hI a hf) ?_
  rintro e a' w' ⟨f', hf', hq⟩
  cases e with
  | normal => obtain ⟨m', h1, h2⟩ := hq; exact ⟨m', h1, f', hf', h2⟩
  | exit id => exact ⟨f', hf', hq⟩
  | goto l => exact ⟨f', hf', hq⟩
  | ret => exact ⟨f', hf', hq⟩
  | panic ch => exact ⟨f', hf', hq⟩
  | outgrown => exact ⟨f', hf', hq⟩

/-! One operation -/
/-- what an operation leaves, its operands' values given -/
def OS (P : Program) (o : Oper) (r : Operand → Value) (w : World) (K : Value → World → Prop) : Prop :=
  match (execOp r o).run P w with
  | .ok (.value v) w' => K v w'
  | .ok .skip w' => K undef w'
  | .ok (.enter g args) w' => Calls P g args w' fun e w'' => ∃ v, e = .returned v ∧ K v w''
  | _ => False
/-- the operation from frame f and world w on -/
def OW (P : Program) (n : Nat) (o : Oper) (K : FF → World → Prop) (f : FF) (w : World) : Prop :=
  dlt o.dst n = true ∧ OS P o (ev f) w fun v w' => K (updo f o.dst v) w'

theorem OS.mono {o : Oper} {r : Operand → Value} {K K' : Value → World → Prop} (h : OS P o r w K) (hk : ∀ v w, K v w → K' v w) : OS P o r w K' := by
  unfold OS at *
  generalize (execOp r o).run P w = x at *
  cases x with
  | ok m w' =>
    cases m <;> simp only at h ⊢ <;> first | exact hk _ _ h | exact h | exact Calls.mono h (fun e w'' ⟨v, he, hv⟩ => ⟨v, he, hk _ _ hv⟩)
  | halt x w' => exact h
theorem OW.wp {o : Oper} {K : FF → World → Prop} (h : OW P n o K f w) (a : Act) (ha : Fr n f a) (Q : Exit → Act → World → Prop) : o.wp P a w (fun a' w' => ∃ f', Fr n f' a' ∧ K f' w') Q := by
  obtain ⟨hd, h⟩ := h
  unfold OS at h
  unfold Oper.wp
  rw [ha.eval]
  generalize (execOp (ev f) o).run P w = x at *
  cases x with
  | ok m w' =>
    cases m <;> simp only at h
    case value v => exact ⟨_, ha.put hd v, h⟩
    case skip => exact ⟨_, ha.put hd undef, h⟩
    case enter g args =>
      refine Calls.mono h fun e w'' he => ?_
      obtain ⟨v, rfl, hv⟩ := he
      exact ⟨_, ha.put hd v, hv⟩
  | halt x w' => exact h.elim

theorem S_run {o : Oper} {r : Operand → Value} {K : Value → World → Prop} {v : Value} {w' : World} (h : (execOp r o).run P w = .ok (.value v) w') (k : K v w') : OS P o r w K := by
  unfold OS; rw [h]; exact k
theorem S_skip {o : Oper} {r : Operand → Value} {K : Value → World → Prop} {w' : World} (h : (execOp r o).run P w = .ok .skip w') (k : K undef w') : OS P o r w K := by
  unfold OS; rw [h]; exact k
theorem S_enter {o : Oper} {r : Operand → Value} {K : Value → World → Prop} {g : Nat} {args : Array Value} {R : Ending → World → Prop} (h : (execOp r o).run P w = .ok (.enter g args) w)
    (hc : Calls P g args w R) (k : ∀ e w', R e w' → ∃ v, e = .returned v ∧ K v w') : OS P o r w K := by
  unfold OS; rw [h]; exact Calls.mono hc k
theorem OW.mono {o : Oper} {K K' : FF → World → Prop} (h : OW P n o K f w) (hk : ∀ f w, K f w → K' f w) : OW P n o K' f w := ⟨h.1, h.2.mono fun _ _ => hk _ _⟩

/-! The operations of a region in the text's order -/
def yl (ops : Array Oper) (f : FF) (j : Nat) : Option Bool :=
  match (ops[j]?).bind (·.dst) with
  | some t => (match f t with | .bool b => some b | _ => none)
  | none => none
def WO (P : Program) (n : Nat) (ops : Array Oper) (K : FF → World → Prop) : List Oper → FF → World → Prop
  | [], f, w => K f w
  | o :: rest, f, w => if Region.wanted o (yl ops f) = true
      then OW P n o (WO P n ops K rest) f w else WO P n ops K rest (updo f o.dst undef) w ∧ dlt o.dst n = true

theorem Fr.under {a : Act} (ha : Fr n f a) {t : Nat} (ht : n ≤ t) : f t = undef := by
  rw [← ha.get t, Array.getD_eq_getD_getElem?, Array.getElem?_eq_none (by rw [ha.size]; exact ht)]; rfl
theorem Fr.yielded {ops : Array Oper} {a : Act} (ha : Fr n f a) : yielded ops a.tmps = yl ops f := by
  funext j
  unfold Go.yielded yl
  cases h : (ops[j]?).bind (·.dst) with
  | none => rfl
  | some t =>
    simp only [Option.bind_some]
    rw [← ha.get t]
    cases ht : a.tmps[t]? with
    | none => simp [ht, undef]
    | some v => cases v <;> simp [ht]

theorem wpList_of_WO {ops : Array Oper} {K : FF → World → Prop} (hK : ∀ f w, K f w → Q .normal f w) : ∀ (l : List Oper) (f : FF) (w : World) (a : Act), Fr n f a → WO P n ops K l f w → wpList P ops (toQ n Q) l a w
  | [], f, w, a, ha, h => ⟨f, ha, hK f w h⟩
  | o :: rest, f, w, a, ha, h => by
    unfold wpList
    rw [ha.yielded]
    unfold WO at h
    split
    · rename_i hw
      rw [if_pos hw] at h
      refine .inl (Oper.wp_mono ?_ (h.wp a ha _))
      rintro a' w' ⟨f', hf', hr⟩
      exact wpList_of_WO hK rest f' w' a' hf' hr
    · rename_i hw
      rw [if_neg hw] at h
      exact wpList_of_WO hK rest _ w _ (ha.put h.2 undef) h.1

theorem W_region {id : Nat} {l : List Oper} (h : WO P n l.toArray (fun f w => Q .normal f w) l f w) : W P n (.region id l.toArray false) Q f w :=
  fun a ha => wp_region_list (wpList_of_WO (fun _ _ h => h) _ f w a ha (by simpa using h))
/-- a region and what follows -/
theorem W_rs {id : Nat} {l : List Oper} {y : Code} (h : WO P n l.toArray (W P n y Q) l f w) : W P n (.seq (.region id l.toArray false) y) Q f w :=
  W_seq (W_region h)

theorem WO_op {ops : Array Oper} {K : FF → World → Prop} {o : Oper} {rest : List Oper} (hg : o.guard = none) (hd : dlt o.dst n = true)
    (h : OS P o (ev f) w fun v w' => WO P n ops K rest (updo f o.dst v) w') : WO P n ops K (o :: rest) f w := by
  unfold WO
  rw [if_pos (by simp [Region.wanted, hg])]
  exact ⟨hd, h⟩
theorem WO_want {ops : Array Oper} {K : FF → World → Prop} {o : Oper} {rest : List Oper} {j t : Nat} {b : Bool} (hg : o.guard = some (j, b)) (hd : dlt o.dst n = true) (ht : (ops[j]?).bind (·.dst) = some t) (hv : f t = .bool b)
    (h : OS P o (ev f) w fun v w' => WO P n ops K rest (updo f o.dst v) w') : WO P n ops K (o :: rest) f w := by
  unfold WO
  rw [if_pos (by simp [Region.wanted, yl, hg, ht, hv])]
  exact ⟨hd, h⟩
theorem WO_not {ops : Array Oper} {K : FF → World → Prop} {o : Oper} {rest : List Oper} {j t : Nat} {b : Bool} (hg : o.guard = some (j, b)) (hd : dlt o.dst n = true) (ht : (ops[j]?).bind (·.dst) = some t) (hv : f t = .bool !b)
    (h : WO P n ops K rest (updo f o.dst undef) w) : WO P n ops K (o :: rest) f w := by
  unfold WO
  rw [if_neg (by simp [Region.wanted, yl, hg, ht, hv])]
  exact ⟨h, hd⟩
section
variable {ops : Array Oper} {K : FF → World → Prop} {rest : List Oper} {d : Nat} {op : Op} {ty : TypeId} {pos : String} {aft : Array Edge}
theorem WO_s (hd : Nat.blt d n = true) (h : OS P ⟨some d, op, ty, pos, aft, none⟩ (ev f) w fun v w' => WO P n ops K rest (upd f d v) w') : WO P n ops K (⟨some d, op, ty, pos, aft, none⟩ :: rest) f w := WO_op rfl hd h
theorem WO_n (h : OS P ⟨none, op, ty, pos, aft, none⟩ (ev f) w fun _ w' => WO P n ops K rest f w') : WO P n ops K (⟨none, op, ty, pos, aft, none⟩ :: rest) f w := WO_op rfl rfl h
theorem WO_g {j t : Nat} {b : Bool} (hd : Nat.blt d n = true) (ht : (ops[j]?).bind (·.dst) = some t) (hv : f t = .bool b) (h : OS P ⟨some d, op, ty, pos, aft, some (j, b)⟩ (ev f) w fun v w' => WO P n ops K rest (upd f d v) w') :
    WO P n ops K (⟨some d, op, ty, pos, aft, some (j, b)⟩ :: rest) f w := WO_want rfl hd ht hv h
theorem WO_gn {j t : Nat} {b : Bool} (hd : Nat.blt d n = true) (ht : (ops[j]?).bind (·.dst) = some t) (hv : f t = .bool !b) (h : WO P n ops K rest (upd f d undef) w) :
    WO P n ops K (⟨some d, op, ty, pos, aft, some (j, b)⟩ :: rest) f w := WO_not rfl hd ht hv h
end
theorem WO_end {ops : Array Oper} {K : FF → World → Prop} (h : K f w) : WO P n ops K [] f w := h

/-! The beginning and the end of a call -/
theorem calls_W {g : FuncId} {fn : Func} {c : Code} {args : Array Value} {R : Ending → World → Prop} (hf : P.funcs[g]? = some fn) (hb : fn.body = some c) (hn : fn.ntmps = n) (ha : args.size ≤ n)
    (h : W P n c (fun e f' w' => match e with
      | .normal | .ret => ∀ tmps : Array Value, (∀ i, tmps.getD i undef = f' i) → ∃ v, (results fn tmps).run P w' = .ok v w' ∧ R (.returned v) w'
      | _ => False) (fun i => args.getD i undef) w) : Calls P g args w R := by
  refine calls_of_wp hf hb ?_
  refine wp_mono (h { tmps := args ++ Array.replicate (fn.ntmps - args.size) undef, defers := [] } ⟨by simp [hn]; omega, fun i => ?_, rfl⟩) ?_
  · simp only [Array.getD_eq_getD_getElem?]
    by_cases hi : i < args.size
    · rw [Array.getElem?_append_left hi]
    · rw [Array.getElem?_append_right (by omega), Array.getElem?_eq_none (xs := args) (by omega)]
      simp only [Option.getD_none, Array.getElem?_replicate]
      split <;> rfl
  · rintro e a' w' ⟨f', hf', hq⟩
    cases e with
    | normal => obtain ⟨v, h1, h2⟩ := hq a'.tmps hf'.get; exact ⟨hf'.defers, v, h1, h2⟩
    | ret => obtain ⟨v, h1, h2⟩ := hq a'.tmps hf'.get; exact ⟨hf'.defers, v, h1, h2⟩
    | exit id => exact hq.elim
    | goto l => exact hq.elim
    | panic ch => exact hq.elim
    | outgrown => exact hq.elim
end
end Go.Proofs.YtljpfnjpifhdlaaGreatDoor
namespace Go.Proofs.YtljpfnjpifhdlaaGreatDoor
open Go

/-- w' is w but for new blocks and for what stands in the blocks S -/
structure Mod (S : List Nat) (w w' : World) : Prop where
  os : w'.os = w.os
  tape : w'.tape = w.tape
  output : w'.output = w.output
  size : w.heap.size ≤ w'.heap.size
  block : ∀ k, k < w.heap.size → k ∉ S → w'.heap[k]? = w.heap[k]?
theorem Mod.refl (S : List Nat) (w : World) : Mod S w w := ⟨rfl, rfl, rfl, Nat.le_refl _, fun _ _ _ => rfl⟩
theorem Mod.trans {S : List Nat} {a b c : World} (h : Mod S a b) (k : Mod S b c) : Mod S a c :=
  ⟨k.os.trans h.os, k.tape.trans h.tape, k.output.trans h.output, Nat.le_trans h.size k.size, fun i hi hS => (k.block i (Nat.lt_of_lt_of_le hi h.size) hS).trans (h.block i hi hS)⟩
theorem Mod.mono {S S' : List Nat} {a b : World} (h : Mod S a b) (hs : ∀ x ∈ S, x ∈ S') : Mod S' a b := ⟨h.os, h.tape, h.output, h.size, fun i hi hS => h.block i hi fun hm => hS (hs i hm)⟩
/-- new blocks may be written -/
theorem Mod.fresh {S S' : List Nat} {a b c : World} (h : Mod S a b) (k : Mod S' b c) (hs : ∀ x ∈ S', x ∈ S ∨ a.heap.size ≤ x) : Mod S a c :=
  ⟨k.os.trans h.os, k.tape.trans h.tape, k.output.trans h.output, Nat.le_trans h.size k.size, fun i hi hS => (k.block i (Nat.lt_of_lt_of_le hi h.size) fun hm => by
    rcases hs i hm with h1 | h1
    · exact hS h1
    · omega).trans (h.block i hi hS)⟩
theorem Mod.drew {S : List Nat} {a b : World} (h : Mod S a b) : Mod S a b.drew := ⟨h.os, h.tape, h.output, h.size, h.block⟩
theorem Mod.of_drew {S : List Nat} {a b : World} (h : Mod S a.drew b) : Mod S a b := ⟨h.os, h.tape, h.output, h.size, h.block⟩
theorem Mod.alloc {S : List Nat} {a b : World} (h : Mod S a b) (o : Obj) : Mod S a (b.alloc o) :=
  h.trans ⟨rfl, rfl, rfl, by simp, fun k hk _ => RowKit.Below.heap_alloc _ _ _ hk⟩
theorem Mod.set {S : List Nat} {a b : World} (h : Mod S a b) {p : Addr} (hp : p.block ∈ S ∨ a.heap.size ≤ p.block) (u : Value) : Mod S a (b.setCell p u) :=
  h.fresh (S' := [p.block]) ⟨rfl, rfl, rfl, by simp [World.setCell], fun k _ hk => RowKit.Below.heap_setCell _ _ _ _ (by simpa using hk)⟩ (by simpa using hp)
theorem Mod.below {a b : World} (h : Mod [] a b) : RowKit.Below a.heap.size a b := ⟨h.os, h.tape, h.output, h.size, fun k hk => h.block k hk (by simp)⟩
theorem Mod.of_below {a b : World} (h : RowKit.Below a.heap.size a b) : Mod [] a b := ⟨h.os, h.tape, h.output, h.size, fun k hk _ => h.block k hk⟩
theorem Mod.cell {a b : World} (h : Mod [] a b) {p : Addr} {v : Value} (hc : a.cell? p = some v) : b.cell? p = some v := by
  have hlt := World.block_lt_of_cell? a p hc
  rw [World.cell?_of_block (w := a) (h.block p.block hlt (by simp))]
  exact hc

/-- a computation that only reads what is there -/
def runC (P : Program) (w : World) {α : Type} : Sem α → Option α
  | .pure a => some a
  | .load _ a k => match w.cell? a with
    | some v => runC P w (k v)
    | none => none
  | .shape r k => if r < w.heap.size then runC P w (k (w.shape? r)) else none
  | .frozen a k => if a.block < w.heap.size then runC P w (k (w.frozen? a)) else none
  | .getObj r k => match w.heap[r]? with
    | some (.cells ..) => none
    | some o => runC P w (k o)
    | none => none
  | .program k => runC P w (k P)
  | .mark _ k => runC P w k
  | _ => none

theorem runC_run {P : Program} {w : World} {α : Type} : ∀ (s : Sem α) (x : α), runC P w s = some x → s.run P w = .ok x w := by
  intro s
  induction s with
  | pure a => intro x h; simp only [runC, Option.some.injEq] at h; subst h; rfl
  | load m a k ih =>
    intro x h
    simp only [runC] at h
    simp only [Sem.run]
    cases hc : w.cell? a with
    | none => simp [hc] at h
    | some v => simp only [hc] at h ⊢; exact ih v x h
  | shape r k ih => intro x h; simp only [runC] at h; split at h; exact ih _ x h; cases h
  | frozen a k ih => intro x h; simp only [runC] at h; split at h; exact ih _ x h; cases h
  | getObj r k ih =>
    intro x h
    simp only [runC] at h
    simp only [Sem.run]
    cases hc : w.heap[r]? with
    | none => simp [hc] at h
    | some o => cases o <;> simp only [hc] at h ⊢ <;> first | cases h | exact ih _ x h
  | program k ih => intro x h; simp only [runC] at h; exact ih _ x h
  | mark m k ih => intro x h; simp only [runC] at h; exact ih x h
  | store => intro x h; simp [runC] at h
  | new => intro x h; simp [runC] at h
  | freeze => intro x h; simp [runC] at h
  | setObj => intro x h; simp [runC] at h
  | choose => intro x h; simp [runC] at h
  | sys => intro x h; simp [runC] at h
  | halt => intro x h; simp [runC] at h

theorem runC_keep {P : Program} {w w' : World} (hm : Mod [] w w') {α : Type} : ∀ (s : Sem α) (x : α), runC P w s = some x → runC P w' s = some x := by
  have hb : ∀ k, k < w.heap.size → w'.heap[k]? = w.heap[k]? := fun k hk => hm.block k hk (by simp)
  intro s
  induction s with
  | pure a => intro x h; exact h
  | load m a k ih =>
    intro x h
    simp only [runC] at h ⊢
    cases hc : w.cell? a with
    | none => simp [hc] at h
    | some v => simp only [hc] at h; simp only [hm.cell hc]; exact ih v x h
  | shape r k ih =>
    intro x h
    simp only [runC] at h ⊢
    split at h
    · rename_i hr
      rw [if_pos (Nat.lt_of_lt_of_le hr hm.size)]
      have : w'.shape? r = w.shape? r := by simp only [World.shape?, hb r hr]
      rw [this]; exact ih _ x h
    · cases h
  | frozen a k ih =>
    intro x h
    simp only [runC] at h ⊢
    split at h
    · rename_i hr
      rw [if_pos (Nat.lt_of_lt_of_le hr hm.size)]
      have : w'.frozen? a = w.frozen? a := by simp only [World.frozen?, hb a.block hr]
      rw [this]; exact ih _ x h
    · cases h
  | getObj r k ih =>
    intro x h
    simp only [runC] at h ⊢
    cases hc : w.heap[r]? with
    | none => simp [hc] at h
    | some o =>
      rw [hb r (Array.getElem?_eq_some_iff.1 hc).1, hc]
      cases o <;> simp only [hc] at h ⊢ <;> first | cases h | exact ih _ x h
  | program k ih => intro x h; simp only [runC] at h ⊢; exact ih _ x h
  | mark m k ih => intro x h; simp only [runC] at h ⊢; exact ih x h
  | store => intro x h; simp [runC] at h
  | new => intro x h; simp [runC] at h
  | freeze => intro x h; simp [runC] at h
  | setObj => intro x h; simp [runC] at h
  | choose => intro x h; simp [runC] at h
  | sys => intro x h; simp [runC] at h
  | halt => intro x h; simp [runC] at h

theorem runC_bind {P : Program} {w : World} {α β : Type} (f : α → Sem β) : ∀ (s : Sem α), runC P w (s >>= f) = (runC P w s).bind fun a => runC P w (f a) := by
  intro s
  show runC P w (Sem.bind s f) = _
  induction s with
  | pure a => rfl
  | load m a k ih => simp only [Sem.bind, runC]; cases w.cell? a <;> simp [ih]
  | shape r k ih => simp only [Sem.bind, runC]; split <;> simp [ih]
  | frozen a k ih => simp only [Sem.bind, runC]; split <;> simp [ih]
  | getObj r k ih =>
    simp only [Sem.bind, runC]
    cases w.heap[r]? with
    | none => rfl
    | some o => cases o <;> simp [ih]
  | program k ih => simp only [Sem.bind, runC]; exact ih _
  | mark m k ih => simp only [Sem.bind, runC]; exact ih
  | store => rfl
  | new => rfl
  | freeze => rfl
  | setObj => rfl
  | choose => rfl
  | sys => rfl
  | halt => rfl

theorem S_read {P : Program} {w : World} {o : Oper} {r : Operand → Value} {K : Value → World → Prop} {v : Value} (h : runC P w (execOp r o) = some (.value v)) (k : K v w) : OS P o r w K :=
  S_run (runC_run _ _ h) k

theorem WO_rd {P : Program} {n : Nat} {ops : Array Oper} {K : FF → World → Prop} {rest : List Oper} {d : Nat} {op : Op} {ty : TypeId} {pos : String} {aft : Array Edge} {f : FF} {w : World} {v : Value} (hd : Nat.blt d n = true)
    (h : runC P w (execOp (ev f) ⟨some d, op, ty, pos, aft, none⟩) = some (.value v)) (k : WO P n ops K rest (upd f d v) w) : WO P n ops K (⟨some d, op, ty, pos, aft, none⟩ :: rest) f w := WO_s hd (S_read h k)

/-! ### A region in whatever order -/
def bedge (e : Edge) : Bool := Region.binds .any e
/-- the operations that come before number i by the region's edges -/
def dirs (ops : Array Oper) (i : Nat) : List Nat := match ops[i]? with | some o => (o.after.toList.filter bedge).map (·.on) | none => []
def bfs (ops : Array Oper) : Nat → List Nat → List Nat
  | 0, l => l
  | k + 1, l => bfs ops k (l ++ (l.flatMap (dirs ops))).eraseDups
def clo (ops : Array Oper) (i : Nat) : List Nat := bfs ops ops.size (dirs ops i)
def preL (ops : Array Oper) (k m i : Nat) : List Nat := (List.range i).filter fun j => decide (k ≤ j) && decide (j < m) && (clo ops i).contains j

def looks (ops : Array Oper) (i : Nat) : List Tmp := match ops[i]? with | some o => o.looksAt ops | none => []
def dsts (ops : Array Oper) (i : Nat) : Option Tmp := (ops[i]?).bind (·.dst)
def notSelect (o : Oper) : Bool := match o.op with | .select .. => false | _ => true
def span (k m : Nat) : List Nat := (List.range m).filter fun j => decide (k ≤ j)
def backChk (ops : Array Oper) : Bool := (List.range ops.size).all (fun i => (dirs ops i).all fun j => decide (j < i))

/-- the operations k .. m-1 may be taken in whatever order, all others wait for them -/
def parChk (ops : Array Oper) (n k m : Nat) (pre : List (List Nat)) : Bool :=
  decide (k ≤ m) && decide (m ≤ ops.size) && backChk ops &&
  (span k m).all (fun i => (dsts ops i).isSome && dlt (dsts ops i) n && (ops[i]?).all notSelect) &&
  (span k m).all (fun i => (span k m).all fun j => (i == j || dsts ops i != dsts ops j) && (!((looks ops i).any fun t => dsts ops j == some t) || (dirs ops i).contains j)) &&
  (List.range ops.size).all (fun j => decide (j < m) || (span k m).all fun i => (clo ops j).contains i) &&
  (span k m).all (fun i => (preL ops k m i).all fun j => (dirs ops j).all fun x => decide (x < k) || (preL ops k m i).contains x) &&
  ((span k m).map (preL ops k m) == pre)
/-- all others wait for operation k -/
def oneChk (ops : Array Oper) (k : Nat) : Bool :=
  decide (k < ops.size) && backChk ops && (List.range ops.size).all (fun j => decide (j ≤ k) || (clo ops j).contains k)

section
variable {P : Program} {ops : Array Oper} (loud : Nat → Option (Value → World → Prop))

/-- what number i has left in its slot -/
def okd (P : Program) (ops : Array Oper) (loud : Nat → Option (Value → World → Prop)) (i : Nat) (o : Oper) (f : FF) (v : Value) (w : World) : Prop :=
  if Region.wanted o (yl ops f) = true then (match loud i with | some p => p v w | none => runC P w (execOp (ev f) o) = some (.value v)) else v = undef

/-- behind the operations l, whatever they have left -/
def WR (P : Program) (ops : Array Oper) (loud : Nat → Option (Value → World → Prop)) (K : FF → World → Prop) (w : World) : List Nat → FF → Prop
  | [], f => K f w
  | i :: rest, f => ∀ o v, ops[i]? = some o → okd P ops loud i o f v w → WR P ops loud K w rest (updo f o.dst v)

/-- what number i owes -/
def OwesAt (P : Program) (ops : Array Oper) (loud : Nat → Option (Value → World → Prop)) (i : Nat) (f : FF) (w : World) : Prop :=
  ∀ o, ops[i]? = some o → Region.wanted o (yl ops f) = true → match loud i with
    | some p => OS P o (ev f) w fun v w' => p v w' ∧ Mod [] w w'
    | none => ∃ v, runC P w (execOp (ev f) o) = some (.value v)

def chain (ops : Array Oper) (g : FF) : List Nat → FF → FF
  | [], f => f
  | i :: rest, f => chain ops g rest (updo f (dsts ops i) (match dsts ops i with | some d => g d | none => undef))

theorem chain_get {ops : Array Oper} {g : FF} (t : Nat) : ∀ (l : List Nat) (f : FF), (f t = g t ∨ ∀ i ∈ l, dsts ops i ≠ some t) → chain ops g l f t = f t ∨ chain ops g l f t = g t := by
  intro l
  induction l with
  | nil => intro f _; exact .inl rfl
  | cons i rest ih =>
    intro f h
    simp only [chain]
    cases hd : dsts ops i with
    | none =>
      simp only [updo]
      exact ih f (h.imp id fun h j hj => h j (List.mem_cons_of_mem _ hj))
    | some d =>
      simp only [updo]
      by_cases hdt : t = d
      · subst hdt
        have e : upd f t (g t) t = g t := upd_same _ _ _
        rcases ih (upd f t (g t)) (.inl e) with h1 | h1
        · exact .inr (h1.trans e)
        · exact .inr h1
      · have e : upd f d (g d) t = f t := upd_ne hdt
        rcases ih (upd f d (g d)) (h.imp (fun h => e.trans h) fun h j hj => h j (List.mem_cons_of_mem _ hj)) with h1 | h1
        · exact .inl (h1.trans e)
        · exact .inr h1
theorem chain_old {ops : Array Oper} {g : FF} (t : Nat) : ∀ (l : List Nat) (f : FF), (∀ i ∈ l, dsts ops i ≠ some t) → chain ops g l f t = f t := by
  intro l
  induction l with
  | nil => intro f _; rfl
  | cons i rest ih =>
    intro f h
    simp only [chain]
    rw [ih _ fun j hj => h j (List.mem_cons_of_mem _ hj)]
    cases hd : dsts ops i with
    | none => rfl
    | some d => exact upd_ne fun e => h i (by simp) (by rw [hd, e])
theorem chain_new {ops : Array Oper} {g : FF} (t : Nat) : ∀ (l : List Nat) (f : FF), (∃ i ∈ l, dsts ops i = some t) → chain ops g l f t = g t := by
  intro l
  induction l with
  | nil => rintro f ⟨i, hi, _⟩; cases hi
  | cons i rest ih =>
    rintro f ⟨j, hj, hjt⟩
    simp only [chain]
    by_cases hr : ∃ i ∈ rest, dsts ops i = some t
    · exact ih _ hr
    · have hr' : ∀ i ∈ rest, dsts ops i ≠ some t := fun i hi he => hr ⟨i, hi, he⟩
      rw [chain_old t rest _ hr']
      rcases List.mem_cons.1 hj with rfl | hj
      · simp only [hjt, updo]; exact upd_same _ _ _
      · exact absurd hjt (hr' j hj)

theorem looks_ev {o : Oper} {f g : FF} (h : ∀ t ∈ o.looksAt ops, f t = g t) : ∀ x ∈ o.op.operands, ev f x = ev g x := by
  intro x hx
  cases x with
  | tmp t => exact h t (List.mem_append_left _ (List.mem_filterMap.2 ⟨.tmp t, by simpa using hx, rfl⟩))
  | const v => rfl
  | global g => rfl
  | func g => rfl
theorem looks_exec {o : Oper} {f g : FF} (hs : notSelect o = true) (h : ∀ t ∈ o.looksAt ops, f t = g t) : execOp (ev f) o = execOp (ev g) o :=
  execOp_congr o (fun cs b e => by simp [notSelect, e] at hs) (looks_ev h)
theorem looks_want {o : Oper} {f g : FF} (h : ∀ t ∈ o.looksAt ops, f t = g t) : Region.wanted o (yl ops f) = Region.wanted o (yl ops g) := by
  unfold Region.wanted
  cases hg : o.guard with
  | none => rfl
  | some gw =>
    obtain ⟨j, b⟩ := gw
    have : yl ops f j = yl ops g j := by
      unfold yl
      cases ht : (ops[j]?).bind (·.dst) with
      | none => rfl
      | some t => simp only []; rw [h t (by simp [Oper.looksAt, hg, ht])]
    simp only [this]
theorem okd_congr {i : Nat} {o : Oper} {f g : FF} {v : Value} {w : World} (hs : notSelect o = true) (h : ∀ t ∈ o.looksAt ops, f t = g t) (hk : okd P ops loud i o f v w) : okd P ops loud i o g v w := by
  unfold okd at *
  rw [← looks_want h, ← looks_exec hs h]
  exact hk

theorem WR_append {K : FF → World → Prop} {w : World} : ∀ (l1 l2 : List Nat) (f : FF), WR P ops loud K w (l1 ++ l2) f → WR P ops loud (fun f w => WR P ops loud K w l2 f) w l1 f
  | [], _, _, h => h
  | _ :: r, l2, _, h => fun o v ho hv => WR_append r l2 _ (h o v ho hv)

theorem chain_append {g : FF} : ∀ (l1 l2 : List Nat) (f : FF), chain ops g (l1 ++ l2) f = chain ops g l2 (chain ops g l1 f)
  | [], _, _ => rfl
  | i :: r, l2, f => by simp only [List.cons_append, chain]; exact chain_append r l2 _

theorem back_of (h : backChk ops = true) (i j : Nat) (hi : i < ops.size) (hj : j ∈ dirs ops i) : j < i := by
  simp only [backChk, List.all_eq_true, List.mem_range, decide_eq_true_eq] at h
  exact h i hi j hj
theorem mem_span {k m i : Nat} : i ∈ span k m ↔ k ≤ i ∧ i < m := by simp [span, and_comm]

structure Facts (ops : Array Oper) (n k m : Nat) : Prop where
  km : k ≤ m
  le : m ≤ ops.size
  back : ∀ i j, i < ops.size → j ∈ dirs ops i → j < i
  dst : ∀ i o, k ≤ i → i < m → ops[i]? = some o → (∃ d, o.dst = some d) ∧ dlt o.dst n = true ∧ notSelect o = true
  one : ∀ i j, k ≤ i → i < m → k ≤ j → j < m → i ≠ j → dsts ops i ≠ dsts ops j
  dir : ∀ i j t, k ≤ i → i < m → k ≤ j → j < m → t ∈ looks ops i → dsts ops j = some t → j ∈ dirs ops i
  tail : ∀ i j, j < ops.size → m ≤ j → k ≤ i → i < m → i ∈ clo ops j
  clos : ∀ i j x, k ≤ i → i < m → j ∈ preL ops k m i → x ∈ dirs ops j → x < k ∨ x ∈ preL ops k m i

theorem facts_of {n k m : Nat} {pre : List (List Nat)} (h : parChk ops n k m pre = true) : Facts ops n k m ∧ (span k m).map (preL ops k m) = pre := by
  simp only [parChk, Bool.and_eq_true, List.all_eq_true, mem_span, List.mem_range, decide_eq_true_eq, beq_iff_eq] at h
  obtain ⟨⟨⟨⟨⟨⟨⟨h00, h0⟩, h1⟩, h2⟩, h3⟩, h4⟩, h5⟩, h6⟩ := h
  refine ⟨⟨h00, h0, back_of h1, fun i o hk hi ho => ?_, fun i j hk hi hk' hj hne => ?_, fun i j t hk hi hk' hj ht hd => ?_, fun i j hj hm hki him => ?_, fun i j x hk hi hj hx => ?_⟩, h6⟩
  · obtain ⟨⟨a, b⟩, c⟩ := h2 i ⟨hk, hi⟩
    simp only [dsts, ho, Option.bind_some, Option.all_some] at a b c
    exact ⟨Option.isSome_iff_exists.1 a, b, c⟩
  · have := (h3 i ⟨hk, hi⟩ j ⟨hk', hj⟩).1
    simpa [hne] using this
  · have := (h3 i ⟨hk, hi⟩ j ⟨hk', hj⟩).2
    simp only [Bool.or_eq_true, Bool.not_eq_true', List.any_eq_false, beq_iff_eq, List.contains_iff_mem] at this
    rcases this with h' | h'
    · exact absurd hd (h' t ht)
    · exact h'
  · have := h4 j hj
    simp only [Bool.or_eq_true, decide_eq_true_eq, List.all_eq_true, mem_span, List.contains_iff_mem] at this
    exact this.resolve_left (by omega) i ⟨hki, him⟩
  · have := h5 i ⟨hk, hi⟩ j hj x hx
    simpa using this

theorem bfs_all {p : Nat → Prop} (hd : ∀ i, p i → ∀ j ∈ dirs ops i, p j) : ∀ (k : Nat) (l : List Nat), (∀ x ∈ l, p x) → ∀ x ∈ bfs ops k l, p x
  | 0, _, h => h
  | k + 1, l, h => bfs_all hd k _ fun x hx => by
    rw [List.mem_eraseDups] at hx
    rcases List.mem_append.1 hx with hx | hx
    · exact h x hx
    · obtain ⟨i, hi, hj⟩ := List.mem_flatMap.1 hx
      exact hd i (h i hi) x hj

structure St (P : Program) (ops : Array Oper) (loud : Nat → Option (Value → World → Prop)) (k m : Nat) (f0 : FF) (w1 : World) (listed : Array Bool) (f : FF) (w : World) : Prop where
  mod : Mod [] w1 w
  base : ∀ i, i < k → listed.getD i false = true
  low : ∀ i, listed.getD i false = true → i < m
  down : ∀ i, listed.getD i false = true → k ≤ i → ∀ j ∈ dirs ops i, listed.getD j false = true
  ok : ∀ i o d, k ≤ i → listed.getD i false = true → ops[i]? = some o → o.dst = some d → okd P ops loud i o f (f d) w
  old : ∀ t, (∀ i, k ≤ i → listed.getD i false = true → dsts ops i ≠ some t) → f t = f0 t
  size : listed.size = ops.size

theorem St.inst {n k m : Nat} {f0 : FF} {w1 : World} {listed : Array Bool} {f : FF} {w : World} (F : Facts ops n k m) (s : St P ops loud k m f0 w1 listed f w) (p : Nat → Bool)
    (hpk : ∀ j, p j = true → k ≤ j) (hp : ∀ j, p j = true → ∀ x ∈ dirs ops j, x < k ∨ p x = true) : ∀ (x : Nat) (K : FF → World → Prop), (∀ j, j < x → p j = true → listed.getD j false = true) →
      WR P ops loud K w ((List.range x).filter p) f0 → K (chain ops f ((List.range x).filter p) f0) w := by
  intro x
  induction x with
  | zero => intro K _ h; exact h
  | succ x ih =>
    intro K hl h
    rw [List.range_succ, List.filter_append] at h ⊢
    have h1 := ih _ (fun j hj => hl j (by omega)) (WR_append loud _ _ _ h)
    cases hpx : p x with
    | false => simp only [List.filter_cons, hpx, List.filter_nil, List.append_nil, Bool.false_eq_true, if_false, WR] at h1 ⊢; exact h1
    | true =>
      simp only [List.filter_cons, hpx, List.filter_nil, if_true] at h1 ⊢
      rw [chain_append]
      have hlx := hl x (by omega) hpx
      have hxk := hpk x hpx
      have hxm := s.low x hlx
      have hxs : x < ops.size := Nat.lt_of_lt_of_le hxm F.le
      have ho : ops[x]? = some ops[x] := Array.getElem?_eq_getElem hxs
      obtain ⟨⟨d, hd⟩, _, hns⟩ := F.dst x _ hxk hxm ho
      have h2 := h1 ops[x] (f d) ho (okd_congr loud (f := f) hns (fun t ht => ?_) (s.ok x _ d hxk hlx ho hd))
      · simp only [chain, dsts, ho, Option.bind_some, hd] at h2 ⊢
        exact h2
      · by_cases hex : ∃ y ∈ (List.range x).filter p, dsts ops y = some t
        · exact (chain_new t _ _ hex).symm
        · have hno : ∀ y ∈ (List.range x).filter p, dsts ops y ≠ some t := fun y hy he => hex ⟨y, hy, he⟩
          rw [chain_old t _ _ hno]
          refine s.old t fun i hik hi he => ?_
          have hdir := F.dir x i t hxk hxm hik (s.low i hi) (by simpa [looks, ho] using ht) he
          exact hno i (List.mem_filter.2 ⟨List.mem_range.2 (F.back x i hxs hdir), (hp x hpx i hdir).resolve_left (by omega)⟩) he

theorem OS_congr {o : Oper} {f g : FF} {w : World} {K : Value → World → Prop} (hs : notSelect o = true) (h : ∀ t ∈ o.looksAt ops, f t = g t) (hk : OS P o (ev f) w K) : OS P o (ev g) w K := by
  unfold OS at *
  rw [← looks_exec hs h]
  exact hk

theorem listed_set {listed : Array Bool} {i j : Nat} (hi : i < listed.size) : (listed.setIfInBounds i true).getD j false = true ↔ j = i ∨ listed.getD j false = true := by
  by_cases h : j = i
  · subst h; simp [hi]
  · rw [getD_set_ne false (Ne.symm h)]; simp [h]

/-- a state goes on by one operation -/
theorem St.next {n k m : Nat} {f0 : FF} {w1 : World} {listed : Array Bool} {f : FF} {w w' : World} {i d : Nat} {o : Oper} {v : Value} (F : Facts ops n k m)
    (stab : ∀ i p, loud i = some p → ∀ v w w', p v w → Mod [] w w' → p v w')
    (s : St P ops loud k m f0 w1 listed f w) (hki : k ≤ i) (him : i < m) (ho : ops[i]? = some o) (hd : o.dst = some d) (hun : listed.getD i false = false) (hpre : ∀ j ∈ dirs ops i, listed.getD j false = true)
    (hm : Mod [] w w') (hv : okd P ops loud i o f v w') : St P ops loud k m f0 w1 (listed.setIfInBounds i true) (upd f d v) w' := by
  have hil : i < listed.size := by rw [s.size]; exact Nat.lt_of_lt_of_le him F.le
  have hdi : dsts ops i = some d := by simp [dsts, ho, hd]
  have keep : ∀ j oj, k ≤ j → j < m → (j = i ∨ listed.getD j false = true) → ops[j]? = some oj → ∀ t ∈ oj.looksAt ops, f t = upd f d v t := by
    intro j oj hkj hj hji hoj t ht
    refine (upd_ne fun e => ?_).symm
    subst e
    have hdir := F.dir j i t hkj hj hki him (by simpa [looks, hoj] using ht) hdi
    rcases hji with rfl | hji
    · exact absurd (F.back j j (Nat.lt_of_lt_of_le hj F.le) hdir) (by omega)
    · rw [s.down j hji hkj i hdir] at hun; cases hun
  refine ⟨s.mod.trans hm, fun j hj => (listed_set hil).2 (.inr (s.base j hj)), fun j hj => ?_, fun j hj hkj x hx => ?_, fun j oj dj hkj hj hoj hdj => ?_, fun t ht => ?_, by simp [s.size]⟩
  · rcases (listed_set hil).1 hj with rfl | hj
    · exact him
    · exact s.low j hj
  · refine (listed_set hil).2 (.inr ?_)
    rcases (listed_set hil).1 hj with rfl | hj
    · exact hpre x hx
    · exact s.down j hj hkj x hx
  · have hjj := (listed_set hil).1 hj
    have hjm : j < m := by rcases hjj with rfl | h; exact him; exact s.low j h
    have hns := (F.dst j oj hkj hjm hoj).2.2
    rcases hjj with rfl | hjl
    · rw [ho] at hoj; cases hoj
      rw [hd] at hdj; cases hdj
      rw [upd_same]
      exact okd_congr loud hns (keep j o hki him (.inl rfl) ho) hv
    · by_cases hji : j = i
      · subst hji; rw [hjl] at hun; cases hun
      · have hne : dj ≠ d := fun e => F.one j i hkj hjm hki him hji (by rw [hdi]; simp [dsts, hoj, hdj, e])
        rw [upd_ne hne]
        have h1 := s.ok j oj dj hkj hjl hoj hdj
        refine okd_congr loud hns (keep j oj hkj hjm (.inr hjl) hoj) ?_
        unfold okd at h1 ⊢
        split
        · rename_i hw
          rw [if_pos hw] at h1
          cases hl : loud j with
          | none => simp only [hl] at h1 ⊢; exact runC_keep hm _ _ h1
          | some p => simp only [hl] at h1 ⊢; exact stab j p hl _ _ _ h1 hm
        · rename_i hw
          rw [if_neg hw] at h1
          exact h1
  · have hne : t ≠ d := fun e => ht i hki ((listed_set hil).2 (.inl rfl)) (by rw [hdi, e])
    rw [upd_ne hne]
    exact s.old t fun j hkj hj => ht j hkj ((listed_set hil).2 (.inr hj))

/-- what is left of a region behind its first k operations, frame f, world w -/
def WD (P : Program) (n : Nat) (ops : Array Oper) (K : FF → World → Prop) (k : Nat) (f : FF) (w : World) : Prop :=
  ∀ (Q : FPost), (∀ f w, K f w → Q .normal f w) → ∀ (r : Nat) (listed : Array Bool) (a : Act), k + r = ops.size → listed.size = ops.size → (∀ i, listed.getD i false = true ↔ i < k) → Fr n f a →
    wpAny P .any ops (toQ n Q) r listed a w

theorem not_listed {listed : Array Bool} {i : Nat} (hi : i < listed.size) : listed.getD i true = false ↔ ¬ listed.getD i false = true := by
  rw [Array.getD_eq_getD_getElem?, Array.getD_eq_getD_getElem?, Array.getElem?_eq_getElem hi]; simp

theorem WD_end {n k : Nat} {K : FF → World → Prop} {f : FF} {w : World} (hk : ops.size ≤ k) (h : K f w) : WD P n ops K k f w := by
  intro Q hK r listed a hr hs hl ha
  have hnil : Region.ready .any ops listed = [] := by
    refine List.eq_nil_iff_forall_not_mem.2 fun j hj => ?_
    obtain ⟨h0, o, ho, _⟩ := mem_ready.1 hj
    have hjs := (Array.getElem?_eq_some_iff.1 ho).1
    exact (not_listed (by omega)).1 h0 ((hl j).2 (by omega))
  exact wpAny_done hnil ⟨f, ha, hK f w h⟩ r

/-- number k comes next, in every order -/
theorem WD_at {n k : Nat} {K : FF → World → Prop} {f : FF} {w : World} {o : Oper} (chk : oneChk ops k = true) (ho : ops[k]? = some o)
    (h : if Region.wanted o (yl ops f) = true then OW P n o (WD P n ops K (k + 1)) f w else WD P n ops K (k + 1) (updo f o.dst undef) w ∧ dlt o.dst n = true) : WD P n ops K k f w := by
  simp only [oneChk, Bool.and_eq_true, decide_eq_true_eq, List.all_eq_true, List.mem_range, Bool.or_eq_true, List.contains_iff_mem] at chk
  obtain ⟨⟨hks, hback⟩, hall0⟩ := chk
  intro Q hK r listed a hr hs hl ha
  obtain ⟨r, rfl⟩ : ∃ r', r = r' + 1 := ⟨r - 1, by omega⟩
  have only : ∀ j ∈ Region.ready .any ops listed, j = k := by
    intro j hj
    obtain ⟨h0, o, ho, hall⟩ := mem_ready.1 hj
    have hjs := (Array.getElem?_eq_some_iff.1 ho).1
    have hjk : ¬ j < k := fun h => (not_listed (by omega)).1 h0 ((hl j).2 h)
    rcases Nat.lt_or_ge k j with hlt | hge
    · have hc := (hall0 j hjs).resolve_left (by omega)
      have hdirs : ∀ x ∈ dirs ops j, x < k := fun x hx => by
        simp only [dirs, ho, List.mem_map, List.mem_filter] at hx
        obtain ⟨e, ⟨he, hb⟩, rfl⟩ := hx
        exact (hl _).1 (hall e (Array.mem_toList_iff.1 he) hb)
      have := bfs_all (ops := ops) (p := fun x => x < k) (fun i hi j hj => by
        have : i < ops.size := by omega
        have := back_of hback i j this hj
        omega) ops.size _ hdirs k hc
      omega
    · omega
  have kin : k ∈ Region.ready .any ops listed := by
    refine mem_ready.2 ⟨(not_listed (by omega)).2 fun h => by have := (hl k).1 h; omega, o, ho, fun e he hb => (hl _).2 (back_of hback k _ hks ?_)⟩
    simp only [dirs, ho, List.mem_map, List.mem_filter]
    exact ⟨e, ⟨Array.mem_toList_iff.2 he, hb⟩, rfl⟩
  refine ⟨fun h0 => (by rw [h0] at kin; cases kin), fun j hj => ?_⟩
  have hjk := only j hj
  subst hjk
  have hl' : ∀ i, (listed.setIfInBounds j true).getD i false = true ↔ i < j + 1 := fun i => by
    rw [listed_set (by omega), hl i]; omega
  unfold wpOp
  simp only [ho]
  rw [ha.yielded]
  split
  · rename_i hw
    rw [if_pos hw] at h
    refine .inl (Oper.wp_mono ?_ (h.wp a ha _))
    rintro a' w' ⟨f', hf', hr'⟩
    exact hr' Q hK r _ a' (by omega) (by simp [hs]) hl' hf'
  · rename_i hw
    rw [if_neg hw] at h
    exact h.1 Q hK r _ _ (by omega) (by simp [hs]) hl' (ha.put h.2 undef)

theorem phase_any {n k m : Nat} {f0 : FF} {w1 : World} {Q : FPost} {K : FF → World → Prop} (F : Facts ops n k m) (hK : ∀ f w, K f w → Q .normal f w)
    (stab : ∀ i p, loud i = some p → ∀ v w w', p v w → Mod [] w w' → p v w')
    (obl : ∀ i, k ≤ i → i < m → ∀ w, Mod [] w1 w → WR P ops loud (OwesAt P ops loud i) w (preL ops k m i) f0)
    (fin : ∀ w, Mod [] w1 w → WR P ops loud (WD P n ops K m) w (span k m) f0) :
    ∀ (r : Nat) (listed : Array Bool) (f : FF) (a : Act) (w : World) (c : Nat), c + r = ops.size → ((List.range m).filter fun i => listed.getD i false).length = c → St P ops loud k m f0 w1 listed f w → Fr n f a →
      wpAny P .any ops (toQ n Q) r listed a w := by
  intro r
  have last : ∀ (r : Nat) (listed : Array Bool) (f : FF) (a : Act) (w : World), m + r = ops.size → St P ops loud k m f0 w1 listed f w → Fr n f a → (∀ i, i < m → listed.getD i false = true) →
      wpAny P .any ops (toQ n Q) r listed a w := by
    intro r listed f a w hr s ha hall
    have h := s.inst loud F (fun j => decide (k ≤ j)) (fun j hj => of_decide_eq_true hj) (fun _ _ x _ => by rcases Nat.lt_or_ge x k with h | h; exact .inl h; exact .inr (decide_eq_true h)) m _ (fun j hj _ => hall j hj) (fin w s.mod)
    have hch : chain ops f ((List.range m).filter fun j => decide (k ≤ j)) f0 = f := by
      funext t
      by_cases hex : ∃ x ∈ (List.range m).filter (fun j => decide (k ≤ j)), dsts ops x = some t
      · exact chain_new t _ _ hex
      · have hno : ∀ x ∈ (List.range m).filter (fun j => decide (k ≤ j)), dsts ops x ≠ some t := fun x hx he => hex ⟨x, hx, he⟩
        rw [chain_old t _ _ hno]
        exact (s.old t fun i hki hi => hno i (by simpa using ⟨s.low i hi, hki⟩)).symm
    rw [hch] at h
    exact h Q hK r listed a hr s.size (fun i => ⟨s.low i, hall i⟩) ha
  induction r with
  | zero =>
    intro listed f a w c hc hcnt s ha
    have hlen : ((List.range m).filter fun i => listed.getD i false).length = (List.range m).length := by
      have := List.length_filter_le (fun i => listed.getD i false) (List.range m)
      have := F.le
      simp only [List.length_range] at *; omega
    have hall : ∀ i, i < m → listed.getD i false = true := fun i hi => List.length_filter_eq_length_iff.1 hlen i (List.mem_range.2 hi)
    exact last 0 listed f a w (by simp only [List.length_range] at hlen; omega) s ha hall
  | succ r ih =>
    intro listed f a w c hc hcnt s ha
    by_cases hall : ∀ i, i < m → listed.getD i false = true
    · have hcm : c = m := by
        rw [← hcnt, List.filter_eq_self.2 (fun i hi => hall i (List.mem_range.1 hi)), List.length_range]
      exact last (r + 1) listed f a w (by omega) s ha hall
    · obtain ⟨i0, hi0m, hi0⟩ : ∃ i, i < m ∧ ¬ listed.getD i false = true := by
        refine Classical.byContradiction fun hn => hall fun i hi => Classical.byContradiction fun h => hn ⟨i, hi, h⟩
      obtain ⟨i1, ⟨hi1m, hi1⟩, hmin⟩ := exists_least (p := fun i => i < m ∧ ¬ listed.getD i false = true) ⟨i0, hi0m, hi0⟩
      have hin : i1 ∈ Region.ready .any ops listed := by
        have hs1 : i1 < ops.size := Nat.lt_of_lt_of_le hi1m F.le
        refine mem_ready.2 ⟨(not_listed (by rw [s.size]; exact hs1)).2 hi1, ops[i1], Array.getElem?_eq_getElem hs1, fun e he hb => ?_⟩
        have hlt := F.back i1 e.on hs1 (by
          simp only [dirs, Array.getElem?_eq_getElem hs1, List.mem_map, List.mem_filter]
          exact ⟨e, ⟨Array.mem_toList_iff.2 he, hb⟩, rfl⟩)
        exact Classical.byContradiction fun hn => by have := hmin e.on ⟨by omega, hn⟩; omega
      refine ⟨fun h0 => (by rw [h0] at hin; cases hin), fun i hi => ?_⟩
      obtain ⟨h0, o, ho, hpre⟩ := mem_ready.1 hi
      have his : i < ops.size := (Array.getElem?_eq_some_iff.1 ho).1
      have hun' := (not_listed (by rw [s.size]; exact his)).1 h0
      have hun : listed.getD i false = false := by simpa using hun'
      have hki : k ≤ i := Classical.byContradiction fun hn => hun' (s.base i (by omega))
      have hdirs : ∀ x ∈ dirs ops i, listed.getD x false = true := fun x hx => by
        simp only [dirs, ho, List.mem_map, List.mem_filter] at hx
        obtain ⟨e, ⟨he, hb⟩, rfl⟩ := hx
        exact hpre e (Array.mem_toList_iff.1 he) hb
      have hclo : ∀ x ∈ clo ops i, listed.getD x false = true := bfs_all (p := fun x => listed.getD x false = true) (fun j hj x hx => by
        rcases Nat.lt_or_ge j k with hjk | hjk
        · exact s.base x (by
            have := F.back j x (by have := F.le; have := F.km; omega) hx
            omega)
        · exact s.down j hj hjk x hx) _ _ hdirs
      have him : i < m := by
        rcases Nat.lt_or_ge i m with h | h
        · exact h
        · have hk1 : k ≤ i1 := Classical.byContradiction fun hn => hi1 (s.base i1 (by omega))
          exact absurd (hclo i1 (F.tail i1 i his h hk1 hi1m)) hi1
      obtain ⟨⟨d, hd⟩, hdl, hns⟩ := F.dst i o hki him ho
      have hpl : preL ops k m i = (List.range i).filter fun j => decide (k ≤ j) && decide (j < m) && (clo ops i).contains j := rfl
      have h1 := s.inst loud F (fun j => decide (j < i) && (decide (k ≤ j) && decide (j < m) && (clo ops i).contains j)) (fun j hj => by
          simp only [Bool.and_eq_true, decide_eq_true_eq] at hj; exact hj.2.1.1) (fun j hj x hx => by
          simp only [Bool.and_eq_true, decide_eq_true_eq, List.contains_iff_mem] at hj ⊢
          refine (F.clos i j x hki him (by rw [hpl]; exact List.mem_filter.2 ⟨List.mem_range.2 hj.1, by simpa using hj.2⟩) hx).imp id fun h => ?_
          rw [hpl] at h
          have := List.mem_filter.1 h
          simpa using this) i _ (fun j _ hj => hclo j (by simp only [Bool.and_eq_true, List.contains_iff_mem] at hj; exact hj.2.2))
        (by
          have := obl i hki him w s.mod
          rw [hpl] at this
          rwa [show ((List.range i).filter fun j => decide (j < i) && (decide (k ≤ j) && decide (j < m) && (clo ops i).contains j)) = (List.range i).filter fun j => decide (k ≤ j) && decide (j < m) && (clo ops i).contains j from List.filter_congr fun j hj => by
            simp [List.mem_range.1 hj]])
      have agree : ∀ t ∈ o.looksAt ops, chain ops f ((List.range i).filter fun j => decide (j < i) && (decide (k ≤ j) && decide (j < m) && (clo ops i).contains j)) f0 t = f t := by
        intro t ht
        by_cases hex : ∃ x ∈ (List.range i).filter (fun j => decide (j < i) && (decide (k ≤ j) && decide (j < m) && (clo ops i).contains j)), dsts ops x = some t
        · exact chain_new t _ _ hex
        · have hno : ∀ x ∈ (List.range i).filter (fun j => decide (j < i) && (decide (k ≤ j) && decide (j < m) && (clo ops i).contains j)), dsts ops x ≠ some t := fun x hx he => hex ⟨x, hx, he⟩
          rw [chain_old t _ _ hno]
          refine (s.old t fun x hkx hx he => ?_).symm
          have hdir := F.dir i x t hki him hkx (s.low x hx) (by simpa [looks, ho] using ht) he
          have hxi := F.back i x his hdir
          have hxc : x ∈ clo ops i := by
            have sub : ∀ (y : Nat) (l : List Nat), x ∈ l → x ∈ bfs ops y l := by
              intro y
              induction y with
              | zero => exact fun l h => h
              | succ y ih => exact fun l h => ih _ (List.mem_eraseDups.2 (List.mem_append.2 (.inl h)))
            exact sub _ _ hdir
          exact hno x (List.mem_filter.2 ⟨List.mem_range.2 hxi, by simp [hxi, hkx, s.low x hx, hxc]⟩) he
      have cnt' : ((List.range m).filter fun j => (listed.setIfInBounds i true).getD j false).length = c + 1 := by
        have hil : i < listed.size := by rw [s.size]; exact his
        rw [← hcnt, ← List.countP_eq_length_filter, ← List.countP_eq_length_filter]
        have key : ∀ x, i < x → (List.range x).countP (fun j => (listed.setIfInBounds i true).getD j false) = (List.range x).countP (fun j => listed.getD j false) + 1 := by
          intro x
          induction x with
          | zero => omega
          | succ x ihx =>
            intro hix
            rw [List.range_succ, List.countP_append, List.countP_append, List.countP_singleton, List.countP_singleton]
            by_cases hxi : x = i
            · subst hxi
              have e1 : (listed.setIfInBounds x true).getD x false = true := (listed_set hil).2 (.inl rfl)
              rw [e1, hun]
              have e2 : (List.range x).countP (fun j => (listed.setIfInBounds x true).getD j false) = (List.range x).countP (fun j => listed.getD j false) :=
                List.countP_congr fun j hj => by
                  have : j ≠ x := by have := List.mem_range.1 hj; omega
                  rw [getD_set_ne false (Ne.symm this)]
              rw [e2]; simp
            · rw [ihx (by omega), getD_set_ne false (Ne.symm hxi)]; omega
        exact key m him
      unfold wpOp
      simp only [ho]
      rw [ha.yielded]
      have hwant : Region.wanted o (yl ops (chain ops f ((List.range i).filter fun j => decide (j < i) && (decide (k ≤ j) && decide (j < m) && (clo ops i).contains j)) f0)) = Region.wanted o (yl ops f) := looks_want agree
      split
      · rename_i hw
        have h2 := h1 o ho (hwant.trans hw)
        have hOS : OS P o (ev f) w fun v w' => okd P ops loud i o f v w' ∧ Mod [] w w' := by
          cases hl : loud i with
          | some p =>
            simp only [hl] at h2
            refine (OS_congr hns agree h2).mono ?_
            rintro v w' ⟨hp, hm⟩
            exact ⟨by unfold okd; rw [if_pos hw]; simp only [hl]; exact hp, hm⟩
          | none =>
            simp only [hl] at h2
            obtain ⟨v, hv⟩ := h2
            rw [looks_exec hns agree] at hv
            exact S_read hv ⟨by unfold okd; rw [if_pos hw]; simp only [hl]; exact hv, Mod.refl _ _⟩
        have hOW : OW P n o (fun f' w' => ∃ v, f' = upd f d v ∧ okd P ops loud i o f v w' ∧ Mod [] w w') f w := by
          refine ⟨hdl, hOS.mono fun v w' h => ⟨v, by simp only [hd, updo], h⟩⟩
        refine .inl (Oper.wp_mono ?_ (hOW.wp a ha _))
        rintro a' w' ⟨f', hf', v, rfl, hv, hm⟩
        exact ih _ _ a' w' (c + 1) (by omega) cnt' (s.next loud F stab hki him ho hd hun hdirs hm hv) hf'
      · rename_i hw
        refine ih _ (upd f d undef) _ w (c + 1) (by omega) cnt' (s.next loud F stab hki him ho hd hun hdirs (Mod.refl _ _) ?_) ?_
        · unfold okd; rw [if_neg hw]
        · have := ha.put hdl undef
          rwa [hd] at this ⊢

/-- OPERATIONS IN WHATEVER ORDER. pre: for each of the operations k .. m-1 those of them that come before it; loud: what a call (or a new block) leaves, said so that later calls and new blocks do not turn it. -/
theorem WD_par {n : Nat} {K : FF → World → Prop} {f0 : FF} {w1 : World} (k m : Nat) (pre : List (List Nat)) (chk : parChk ops n k m pre = true)
    (stab : ∀ i p, loud i = some p → ∀ v w w', p v w → Mod [] w w' → p v w')
    (obl : ∀ i l, pre[i]? = some l → ∀ w, Mod [] w1 w → WR P ops loud (OwesAt P ops loud (k + i)) w l f0)
    (fin : ∀ w, Mod [] w1 w → WR P ops loud (WD P n ops K m) w (span k m) f0) : WD P n ops K k f0 w1 := by
  obtain ⟨F, hpre⟩ := facts_of chk
  intro Q hK r listed a hr hs hl ha
  have hspan : span k m = (List.range (m - k)).map (k + ·) := by
    have h1 : span k m = List.range' k (m - k) := by
      have e : m = k + (m - k) := by have := F.km; omega
      rw [span, e, List.range_eq_range', ← List.range'_append_1, List.filter_append, List.filter_eq_nil_iff.2 (fun x hx => by
        have := List.mem_range'_1.1 hx; simp; omega), List.filter_eq_self.2 (fun x hx => by have := List.mem_range'_1.1 hx; simp; omega)]
      simp
    rw [h1, List.range'_eq_map_range]
  refine phase_any loud F hK stab (fun i hki hi w hw => ?_) fin r listed f0 a w1 k hr ?_ ⟨Mod.refl _ _, fun i hi => (hl i).2 hi, fun i hi => ?_, fun i hi hk => ?_, fun i o d hk hi => ?_, fun _ _ => rfl, hs⟩ ha
  · have h := obl (i - k) (preL ops k m i) (by
      rw [← hpre, hspan, List.map_map, List.getElem?_map, List.getElem?_range (by omega)]
      simp [show k + (i - k) = i by omega]) w hw
    rwa [show k + (i - k) = i by omega] at h
  · have : (List.range m).filter (fun i => listed.getD i false) = List.range k := by
      have e : m = k + (m - k) := by have := F.km; omega
      rw [e, List.range_eq_range', ← List.range'_append_1, List.filter_append, List.filter_eq_self.2 (fun x hx => (hl x).2 (by have := List.mem_range'_1.1 hx; omega)), List.filter_eq_nil_iff.2 (fun x hx => by
        have := List.mem_range'_1.1 hx
        intro hh
        have := (hl x).1 hh
        omega), List.append_nil, List.range_eq_range']
    rw [this, List.length_range]
  · have := (hl i).1 hi
    have := F.km
    omega
  · have := (hl i).1 hi; omega
  · have := (hl i).1 hi; omega
end

/-- A REGION THAT DRAWS ITS ORDER -/
theorem W_drawn {P : Program} {ops : Array Oper} {n : Nat} {Q : FPost} {f : FF} {w : World} {id : Nat} (mixed : P.follows .mixedOrders = true) (h : WD P n ops (fun f w => Q .normal f w) 0 f w.drew) : W P n (.region id ops true) Q f w := by
  intro a ha
  have e : ∀ i, (Array.replicate ops.size false).getD i false = false := fun i => by
    rw [Array.getD_eq_getD_getElem?, Array.getElem?_replicate]; split <;> rfl
  exact wp_region_any mixed (h Q (fun _ _ h => h) ops.size _ a (by omega) (by simp) (fun i => by simp [e]) ha)
theorem W_ds {P : Program} {ops : Array Oper} {n : Nat} {Q : FPost} {f : FF} {w : World} {id : Nat} {y : Code} (mixed : P.follows .mixedOrders = true) (h : WD P n ops (W P n y Q) 0 f w.drew) : W P n (.seq (.region id ops true) y) Q f w :=
  W_seq (W_drawn mixed h)
section
variable {P : Program} {ops : Array Oper} {n k : Nat} {K : FF → World → Prop} {f : FF} {w : World} {o : Oper}
theorem WD_rd {d : Nat} {op : Op} {ty : TypeId} {pos : String} {aft : Array Edge} {v : Value} (chk : oneChk ops k = true) (ho : ops[k]? = some ⟨some d, op, ty, pos, aft, none⟩) (hd : Nat.blt d n = true)
    (h : runC P w (execOp (ev f) ⟨some d, op, ty, pos, aft, none⟩) = some (.value v)) (k' : WD P n ops K (k + 1) (upd f d v) w) : WD P n ops K k f w :=
  WD_at chk ho (by rw [if_pos (by simp [Region.wanted])]; exact ⟨hd, S_read h k'⟩)
theorem WD_s {d : Nat} {op : Op} {ty : TypeId} {pos : String} {aft : Array Edge} (chk : oneChk ops k = true) (ho : ops[k]? = some ⟨some d, op, ty, pos, aft, none⟩) (hd : Nat.blt d n = true)
    (h : OS P ⟨some d, op, ty, pos, aft, none⟩ (ev f) w fun v w' => WD P n ops K (k + 1) (upd f d v) w') : WD P n ops K k f w :=
  WD_at chk ho (by rw [if_pos (by simp [Region.wanted])]; exact ⟨hd, h⟩)
theorem WD_n {op : Op} {ty : TypeId} {pos : String} {aft : Array Edge} (chk : oneChk ops k = true) (ho : ops[k]? = some ⟨none, op, ty, pos, aft, none⟩)
    (h : OS P ⟨none, op, ty, pos, aft, none⟩ (ev f) w fun _ w' => WD P n ops K (k + 1) f w') : WD P n ops K k f w :=
  WD_at chk ho (by rw [if_pos (by simp [Region.wanted])]; exact ⟨rfl, h⟩)
theorem WD_one (chk : oneChk ops k = true) (ho : ops[k]? = some o) (hg : o.guard = none) (hd : dlt o.dst n = true) (h : OS P o (ev f) w fun v w' => WD P n ops K (k + 1) (updo f o.dst v) w') : WD P n ops K k f w :=
  WD_at chk ho (by rw [if_pos (by simp [Region.wanted, hg])]; exact ⟨hd, h⟩)
theorem WD_want {j t : Nat} {b : Bool} (chk : oneChk ops k = true) (ho : ops[k]? = some o) (hg : o.guard = some (j, b)) (hd : dlt o.dst n = true) (ht : (ops[j]?).bind (·.dst) = some t) (hv : f t = .bool b)
    (h : OS P o (ev f) w fun v w' => WD P n ops K (k + 1) (updo f o.dst v) w') : WD P n ops K k f w :=
  WD_at chk ho (by rw [if_pos (by simp [Region.wanted, yl, hg, ht, hv])]; exact ⟨hd, h⟩)
theorem WD_not {j t : Nat} {b : Bool} (chk : oneChk ops k = true) (ho : ops[k]? = some o) (hg : o.guard = some (j, b)) (hd : dlt o.dst n = true) (ht : (ops[j]?).bind (·.dst) = some t) (hv : f t = .bool !b)
    (h : WD P n ops K (k + 1) (updo f o.dst undef) w) : WD P n ops K k f w :=
  WD_at chk ho (by rw [if_neg (by simp [Region.wanted, yl, hg, ht, hv])]; exact ⟨h, hd⟩)
end
end Go.Proofs.YtljpfnjpifhdlaaGreatDoor
namespace Go.Proofs.YtljpfnjpifhdlaaGreatDoor
open Go

theorem runC_pure {P : Program} {w : World} {α : Type} (a : α) : runC P w (pure a : Sem α) = some a := rfl
theorem runC_program {P : Program} {w : World} {α : Type} (k : Program → Sem α) : runC P w (Sem.program k) = runC P w (k P) := rfl

class TyF (P : Program) (t : TypeId) (agg : outParam Bool) (sz : outParam Nat) (z : outParam Value) : Prop where
  isAgg : ∀ w, runC P w (Go.isAgg t) = some agg
  size : ∀ w, runC P w (sizeOf t) = some sz
  zero : ∀ w, runC P w (zeroValue t) = some z
class FldF (P : Program) (s k : Nat) (off : outParam Nat) : Prop where
  place : ∀ w b o, runC P w (Instr.fieldAt s (.pointer (some ⟨b, o, none⟩)) k) = some (.pointer (some ⟨b, o + off, none⟩))
class SlF (P : Program) (t : TypeId) (e : outParam TypeId) : Prop where
  und : P.underlying t = some (.slice e)
class StF (P : Program) (t : TypeId) : Prop where
  und : P.underlying t = some .string
class MapF (P : Program) (t : TypeId) (k e : outParam TypeId) : Prop where
  und : P.underlying t = some (.map k e)
class FnF (P : Program) (g : Nat) : Prop where
  enter : ∀ args w, (callFunc g args).run P w = .ok (.enter g args) w

theorem runC_underlying {P : Program} {w : World} {t : TypeId} {d : TypeDesc} (h : P.underlying t = some d) : runC P w (underlying t) = some d := by
  unfold underlying program
  rw [runC_bind]
  simp only [runC, Option.bind_some, h]
  rfl

theorem bytes_ne {a b : ByteArray} (h : a ≠ b) : (a.toList == b.toList) = false := by
  rw [ByteArray.toList_eq, ByteArray.toList_eq, beq_eq_false_iff_ne]
  exact fun hh => h (Go.WideShapes.bytes_inj hh)
section
variable {P : Program} {w : World} {r : Operand → Value} {d : Option Tmp} {ty : TypeId} {pos : String} {aft : Array Edge} {g : Option (Nat × Bool)}

theorem X_move (x : Operand) : runC P w (execOp r ⟨d, .move x, ty, pos, aft, g⟩) = some (.value (r x)) := rfl
theorem X_assign (x : Operand) : runC P w (execOp r ⟨d, .assign x, ty, pos, aft, g⟩) = some (.value (r x)) := rfl
theorem X_mv (x : Operand) {v : Value} (hx : r x = v) : runC P w (execOp r ⟨d, .move x, ty, pos, aft, g⟩) = some (.value v) := by rw [← hx]; rfl
theorem X_as (x : Operand) {v : Value} (hx : r x = v) : runC P w (execOp r ⟨d, .assign x, ty, pos, aft, g⟩) = some (.value v) := by rw [← hx]; rfl
theorem X_pick (c x y : Operand) {b : Bool} (hc : r c = .bool b) : runC P w (execOp r ⟨d, .pick c x y, ty, pos, aft, g⟩) = some (.value (bif b then r x else r y)) := by
  simp only [execOp, hc, asBool]
  cases b <;> rfl
theorem X_pickT (c x y : Operand) (hc : r c = .bool true) : runC P w (execOp r ⟨d, .pick c x y, ty, pos, aft, g⟩) = some (.value (r x)) := X_pick c x y hc
theorem X_pickF (c x y : Operand) (hc : r c = .bool false) : runC P w (execOp r ⟨d, .pick c x y, ty, pos, aft, g⟩) = some (.value (r y)) := X_pick c x y hc

theorem X_fieldAddr {s k off : Nat} [F : FldF P s k off] (x : Operand) {b o : Nat} (hx : r x = .pointer (some ⟨b, o, none⟩)) :
    runC P w (execOp r ⟨d, .fieldAddr s x k, ty, pos, aft, g⟩) = some (.value (.pointer (some ⟨b, o + off, none⟩))) := by
  show runC P w (Instr.fieldAt s (r x) k >>= fun v => pure (Next.value v)) = _
  rw [runC_bind, hx, F.place]; rfl

theorem loadCellsFrom_C (b o : Nat) : ∀ (vs : List Value) (i : Nat) (acc : Array Value), (∀ j u, vs[j]? = some u → w.cell? ⟨b, o + (i + j), none⟩ = some u) →
    runC P w (loadCellsFrom ⟨b, o, none⟩ i vs.length acc) = some (acc ++ vs.toArray) := by
  intro vs
  induction vs with
  | nil => intro i acc _; simp [loadCellsFrom, runC_pure]
  | cons v vs ih =>
    intro i acc h
    have hadd : (⟨b, o, none⟩ : Addr).add i = ⟨b, o + i, none⟩ := by unfold Addr.add; split <;> simp_all
    have h0 := h 0 v rfl
    simp only [Nat.add_zero] at h0
    simp only [List.length_cons, loadCellsFrom, load]
    rw [hadd]
    show runC P w (Sem.bind _ _) = _
    simp only [Sem.bind, runC, h0]
    have := ih (i + 1) (acc.push v) (fun j u hj => by
      have := h (j + 1) u (by simpa using hj)
      rwa [show i + (j + 1) = i + 1 + j by omega] at this)
    show runC P w (loadCellsFrom ⟨b, o, none⟩ (i + 1) vs.length (acc.push v)) = _
    rw [this]
    simp

/-- the cells vs lie in block b from o on -/
def Cells (w : World) (b o : Nat) (vs : List Value) : Prop := ∀ j u, vs[j]? = some u → w.cell? ⟨b, o + j, none⟩ = some u

theorem loadVar_C1 {t : TypeId} {sz : Nat} {z : Value} [T : TyF P t false sz z] {b o : Nat} {v : Value} (hc : w.cell? ⟨b, o, none⟩ = some v) : runC P w (loadVar t ⟨b, o, none⟩) = some v := by
  unfold loadVar load
  rw [runC_bind, T.isAgg]
  simp only [Option.bind_some, Bool.false_eq_true, if_false, runC, hc]
theorem loadVar_CN {t : TypeId} {sz : Nat} {z : Value} [T : TyF P t true sz z] {b o : Nat} {vs : List Value} (hc : Cells w b o vs) (hl : vs.length = sz) : runC P w (loadVar t ⟨b, o, none⟩) = some (.agg vs.toArray) := by
  unfold loadVar
  rw [runC_bind, T.isAgg]
  simp only [Option.bind_some, if_true]
  rw [runC_bind, T.size]
  simp only [Option.bind_some]
  rw [runC_bind, loadCells, ← hl, loadCellsFrom_C b o vs 0 #[] (fun j u hj => by simpa using hc j u hj)]
  simp [runC_pure]

/-- a load of one cell -/
theorem X_load1 {t : TypeId} {sz : Nat} {z : Value} [TyF P t false sz z] (x : Operand) {b o : Nat} {v : Value} (hx : r x = .pointer (some ⟨b, o, none⟩)) (hc : w.cell? ⟨b, o, none⟩ = some v) :
    runC P w (execOp r ⟨d, .load t x, ty, pos, aft, g⟩) = some (.value v) := by
  show runC P w (Instr.loadAt t (r x) >>= fun v => pure (Next.value v)) = _
  rw [runC_bind, hx]
  show (runC P w (Instr.sureAddr _ >>= fun a => loadVar t a)).bind _ = _
  rw [runC_bind]
  show (((some ⟨b, o, none⟩ : Option Addr)).bind _).bind _ = _
  simp only [Option.bind_some, loadVar_C1 hc]; rfl
/-- a load of several cells -/
theorem X_loadN {t : TypeId} {sz : Nat} {z : Value} [TyF P t true sz z] (x : Operand) {b o : Nat} {vs : List Value} (hx : r x = .pointer (some ⟨b, o, none⟩)) (hc : Cells w b o vs) (hl : vs.length = sz) :
    runC P w (execOp r ⟨d, .load t x, ty, pos, aft, g⟩) = some (.value (.agg vs.toArray)) := by
  show runC P w (Instr.loadAt t (r x) >>= fun v => pure (Next.value v)) = _
  rw [runC_bind, hx]
  show (runC P w (Instr.sureAddr _ >>= fun a => loadVar t a)).bind _ = _
  rw [runC_bind]
  show (((some ⟨b, o, none⟩ : Option Addr)).bind _).bind _ = _
  simp only [Option.bind_some, loadVar_CN hc hl]; rfl

theorem X_indexAddr {t e : TypeId} {agg : Bool} {sz : Nat} {z : Value} [S : SlF P t e] [T : TyF P e agg sz z] (x i : Operand) {b o n c : Nat} {k : IntKind} (j : Nat) (hx : r x = .slice (some ⟨b, o, none⟩) n c) (hi : r i = .int k j) (hj : j < n) :
    runC P w (execOp r ⟨d, .indexAddr t x i, ty, pos, aft, g⟩) = some (.value (.pointer (some ⟨b, o + j * sz, none⟩))) := by
  show runC P w (Instr.indexAt t (r x) (r i) >>= fun v => pure (Next.value v)) = _
  rw [runC_bind, hx, hi]
  have hadd : ∀ m, (⟨b, o, none⟩ : Addr).add m = ⟨b, o + m, none⟩ := fun m => by unfold Addr.add; split <;> simp_all
  have hu : runC P w (underlying t) = some (.slice e) := runC_underlying S.und
  unfold Instr.indexAt
  simp only [asIntOf, pure_bind, runC_bind, hu, Option.bind_some, runC_pure, hadd]
  rw [if_pos ⟨by omega, by omega⟩, runC_bind, T.size]
  rfl

theorem X_len {t : TypeId} {e : TypeId} [S : SlF P t e] (x : Operand) {a : Option Addr} {n c : Nat} (hx : r x = .slice a n c) :
    runC P w (execOp r ⟨d, .call { callee := .builtin .len, args := #[x], argTypes := #[t] }, ty, pos, aft, g⟩) = some (.value (.int .i64 n)) := by
  have hu : runC P w (underlying t) = some (.slice e) := runC_underlying S.und
  simp only [execOp, resolve, pure_bind, invoke, builtin, List.map_toArray, List.map_cons, List.map_nil, hx, Builtin.len_]
  simp [runC_bind, hu, runC_pure, goInt]
theorem X_lenS {t : TypeId} [S : StF P t] (x : Operand) {s : ByteArray} (hx : r x = .string s) :
    runC P w (execOp r ⟨d, .call { callee := .builtin .len, args := #[x], argTypes := #[t] }, ty, pos, aft, g⟩) = some (.value (.int .i64 s.size)) := by
  have hu : runC P w (underlying t) = some .string := runC_underlying S.und
  simp only [execOp, resolve, pure_bind, invoke, builtin, List.map_toArray, List.map_cons, List.map_nil, hx, Builtin.len_]
  simp [runC_bind, hu, runC_pure, goInt]

section ints
variable {xt yt : TypeId} (x y : Operand) {k : IntKind} {a b : Int} (hx : r x = .int k a) (hy : r y = .int k b)
include hx hy
theorem X_cmp_eql : runC P w (execOp r ⟨d, .binOp .eql xt x y yt, ty, pos, aft, g⟩) = some (.value (.bool (a == b))) := by
  simp only [execOp, hx, hy, eqGuard, binOp, Op.intCmp]; simp [runC_pure]
theorem X_cmp_neq : runC P w (execOp r ⟨d, .binOp .neq xt x y yt, ty, pos, aft, g⟩) = some (.value (.bool (a != b))) := by
  simp only [execOp, hx, hy, eqGuard, binOp, Op.intCmp]; simp [runC_pure]
theorem X_cmp_lss : runC P w (execOp r ⟨d, .binOp .lss xt x y yt, ty, pos, aft, g⟩) = some (.value (.bool (decide (a < b)))) := by
  simp only [execOp, hx, hy, eqGuard, binOp, Op.intCmp]; simp [runC_pure]
theorem X_cmp_leq : runC P w (execOp r ⟨d, .binOp .leq xt x y yt, ty, pos, aft, g⟩) = some (.value (.bool (decide (a ≤ b)))) := by
  simp only [execOp, hx, hy, eqGuard, binOp, Op.intCmp]; simp [runC_pure]
theorem X_cmp_gtr : runC P w (execOp r ⟨d, .binOp .gtr xt x y yt, ty, pos, aft, g⟩) = some (.value (.bool (decide (b < a)))) := by
  simp only [execOp, hx, hy, eqGuard, binOp, Op.intCmp]; simp [runC_pure]
theorem X_cmp_geq : runC P w (execOp r ⟨d, .binOp .geq xt x y yt, ty, pos, aft, g⟩) = some (.value (.bool (decide (b ≤ a)))) := by
  simp only [execOp, hx, hy, eqGuard, binOp, Op.intCmp]; simp [runC_pure]
theorem X_eqlT (h : a = b) : runC P w (execOp r ⟨d, .binOp .eql xt x y yt, ty, pos, aft, g⟩) = some (.value (.bool true)) := by
  rw [X_cmp_eql x y hx hy]; simp [h]
theorem X_eqlF (h : a ≠ b) : runC P w (execOp r ⟨d, .binOp .eql xt x y yt, ty, pos, aft, g⟩) = some (.value (.bool false)) := by
  rw [X_cmp_eql x y hx hy]; simp [h]
theorem X_neqT (h : a ≠ b) : runC P w (execOp r ⟨d, .binOp .neq xt x y yt, ty, pos, aft, g⟩) = some (.value (.bool true)) := by
  rw [X_cmp_neq x y hx hy]; simp [h]
theorem X_neqF (h : a = b) : runC P w (execOp r ⟨d, .binOp .neq xt x y yt, ty, pos, aft, g⟩) = some (.value (.bool false)) := by
  rw [X_cmp_neq x y hx hy]; simp [h]
theorem X_lssT (h : a < b) : runC P w (execOp r ⟨d, .binOp .lss xt x y yt, ty, pos, aft, g⟩) = some (.value (.bool true)) := by
  rw [X_cmp_lss x y hx hy]; rw [decide_eq_true h]
theorem X_lssF (h : b ≤ a) : runC P w (execOp r ⟨d, .binOp .lss xt x y yt, ty, pos, aft, g⟩) = some (.value (.bool false)) := by
  rw [X_cmp_lss x y hx hy]; rw [decide_eq_false (by omega)]
theorem X_leqT (h : a ≤ b) : runC P w (execOp r ⟨d, .binOp .leq xt x y yt, ty, pos, aft, g⟩) = some (.value (.bool true)) := by
  rw [X_cmp_leq x y hx hy]; rw [decide_eq_true h]
theorem X_leqF (h : b < a) : runC P w (execOp r ⟨d, .binOp .leq xt x y yt, ty, pos, aft, g⟩) = some (.value (.bool false)) := by
  rw [X_cmp_leq x y hx hy]; rw [decide_eq_false (by omega)]
theorem X_gtrT (h : b < a) : runC P w (execOp r ⟨d, .binOp .gtr xt x y yt, ty, pos, aft, g⟩) = some (.value (.bool true)) := by
  rw [X_cmp_gtr x y hx hy]; rw [decide_eq_true h]
theorem X_gtrF (h : a ≤ b) : runC P w (execOp r ⟨d, .binOp .gtr xt x y yt, ty, pos, aft, g⟩) = some (.value (.bool false)) := by
  rw [X_cmp_gtr x y hx hy]; rw [decide_eq_false (by omega)]
theorem X_geqT (h : b ≤ a) : runC P w (execOp r ⟨d, .binOp .geq xt x y yt, ty, pos, aft, g⟩) = some (.value (.bool true)) := by
  rw [X_cmp_geq x y hx hy]; rw [decide_eq_true h]
theorem X_geqF (h : a < b) : runC P w (execOp r ⟨d, .binOp .geq xt x y yt, ty, pos, aft, g⟩) = some (.value (.bool false)) := by
  rw [X_cmp_geq x y hx hy]; rw [decide_eq_false (by omega)]
theorem X_arith_add : runC P w (execOp r ⟨d, .binOp .add xt x y yt, ty, pos, aft, g⟩) = some (.value (.int k (k.wrap (a + b)))) := by
  simp only [execOp, hx, hy, eqGuard, binOp, Op.intArith]; simp [runC_pure]
theorem X_arith_sub : runC P w (execOp r ⟨d, .binOp .sub xt x y yt, ty, pos, aft, g⟩) = some (.value (.int k (k.wrap (a - b)))) := by
  simp only [execOp, hx, hy, eqGuard, binOp, Op.intArith]; simp [runC_pure]
theorem X_arith_mul : runC P w (execOp r ⟨d, .binOp .mul xt x y yt, ty, pos, aft, g⟩) = some (.value (.int k (k.wrap (a * b)))) := by
  simp only [execOp, hx, hy, eqGuard, binOp, Op.intArith]; simp [runC_pure]
end ints
section sums
variable {xt yt : TypeId} (x y : Operand) {a b : Int} (hx : r x = .int .i64 a) (hy : r y = .int .i64 b)
include hx hy
theorem X_add (h : -9223372036854775808 ≤ a + b ∧ a + b ≤ 9223372036854775807) : runC P w (execOp r ⟨d, .binOp .add xt x y yt, ty, pos, aft, g⟩) = some (.value (.int .i64 (a + b))) := by
  rw [X_arith_add x y hx hy, IntWalk.i64_in _ h]
theorem X_sub (h : -9223372036854775808 ≤ a - b ∧ a - b ≤ 9223372036854775807) : runC P w (execOp r ⟨d, .binOp .sub xt x y yt, ty, pos, aft, g⟩) = some (.value (.int .i64 (a - b))) := by
  rw [X_arith_sub x y hx hy, IntWalk.i64_in _ h]
theorem X_mul (h : -9223372036854775808 ≤ a * b ∧ a * b ≤ 9223372036854775807) : runC P w (execOp r ⟨d, .binOp .mul xt x y yt, ty, pos, aft, g⟩) = some (.value (.int .i64 (a * b))) := by
  rw [X_arith_mul x y hx hy, IntWalk.i64_in _ h]
end sums
section strings
variable {xt yt : TypeId} (x y : Operand) {a b : ByteArray} (hx : r x = .string a) (hy : r y = .string b)
include hx hy
theorem X_str_eql : runC P w (execOp r ⟨d, .binOp .eql xt x y yt, ty, pos, aft, g⟩) = some (.value (.bool (a.toList == b.toList))) := by
  simp only [execOp, hx, hy, eqGuard, binOp, Op.stringOp]; simp [runC_pure]
theorem X_str_neq : runC P w (execOp r ⟨d, .binOp .neq xt x y yt, ty, pos, aft, g⟩) = some (.value (.bool !(a.toList == b.toList))) := by
  simp only [execOp, hx, hy, eqGuard, binOp, Op.stringOp]; simp [runC_pure]
theorem X_str_lss : runC P w (execOp r ⟨d, .binOp .lss xt x y yt, ty, pos, aft, g⟩) = some (.value (.bool (Op.bytesLess a.toList b.toList))) := by
  simp only [execOp, hx, hy, eqGuard, binOp, Op.stringOp]; simp [runC_pure]
theorem X_seT (h : a = b) : runC P w (execOp r ⟨d, .binOp .eql xt x y yt, ty, pos, aft, g⟩) = some (.value (.bool true)) := by
  subst h; rw [X_str_eql x y hx hy]; simp
theorem X_seF (h : a ≠ b) : runC P w (execOp r ⟨d, .binOp .eql xt x y yt, ty, pos, aft, g⟩) = some (.value (.bool false)) := by
  rw [X_str_eql x y hx hy, bytes_ne h]
theorem X_snT (h : a ≠ b) : runC P w (execOp r ⟨d, .binOp .neq xt x y yt, ty, pos, aft, g⟩) = some (.value (.bool true)) := by
  rw [X_str_neq x y hx hy, bytes_ne h]; rfl
theorem X_snF (h : a = b) : runC P w (execOp r ⟨d, .binOp .neq xt x y yt, ty, pos, aft, g⟩) = some (.value (.bool false)) := by
  subst h; rw [X_str_neq x y hx hy]; simp
theorem X_str_add (h : a.size + b.size ≤ 9223372036854775807) : runC P w (execOp r ⟨d, .binOp .add xt x y yt, ty, pos, aft, g⟩) = some (.value (.string (a ++ b))) := by
  have : ¬ (((a.size + b.size : Nat) : Int) > IntKind.i64.max) := by
    have : IntKind.i64.max = 9223372036854775807 := rfl
    omega
  simp only [execOp, hx, hy, eqGuard, binOp, Op.stringOp, if_neg this]; simp [runC_pure]
end strings

theorem X_not {t : TypeId} (x : Operand) {b : Bool} (hx : r x = .bool b) : runC P w (execOp r ⟨d, .unOp .not t x, ty, pos, aft, g⟩) = some (.value (.bool !b)) := by
  simp only [execOp, hx, Op.unary]; rfl
theorem X_nil (x : Operand) {a : Addr} (hx : r x = .pointer (some a)) : runC P w (execOp r ⟨d, .nilCheck x, ty, pos, aft, g⟩) = some (.value (.pointer (some a))) := by
  simp only [execOp, hx]; rfl
theorem X_extract (x : Operand) {i : Nat} {vs : Array Value} {v : Value} (hx : r x = .tuple vs) (hv : vs[i]? = some v) : runC P w (execOp r ⟨d, .extract x i, ty, pos, aft, g⟩) = some (.value v) := by
  simp only [execOp, hx, Instr.extract, hv]; rfl
theorem X_fn0 {fn : Fn} : runC P w (execOp r ⟨d, .makeFunc fn #[] #[], ty, pos, aft, g⟩) = some (.value (.func fn #[] #[])) := by simp [execOp, Instr.makeFunc, runC_pure]
theorem X_fn1 {fn : Fn} (x : Operand) : runC P w (execOp r ⟨d, .makeFunc fn #[] #[x], ty, pos, aft, g⟩) = some (.value (.func fn #[] #[r x])) := by simp [execOp, Instr.makeFunc, runC_pure]
theorem X_fn2 {fn : Fn} (x y : Operand) : runC P w (execOp r ⟨d, .makeFunc fn #[] #[x, y], ty, pos, aft, g⟩) = some (.value (.func fn #[] #[r x, r y])) := by simp [execOp, Instr.makeFunc, runC_pure]
theorem X_fn3 {fn : Fn} (x y z : Operand) : runC P w (execOp r ⟨d, .makeFunc fn #[] #[x, y, z], ty, pos, aft, g⟩) = some (.value (.func fn #[] #[r x, r y, r z])) := by simp [execOp, Instr.makeFunc, runC_pure]
theorem X_fn4 {fn : Fn} (x y z u : Operand) : runC P w (execOp r ⟨d, .makeFunc fn #[] #[x, y, z, u], ty, pos, aft, g⟩) = some (.value (.func fn #[] #[r x, r y, r z, r u])) := by simp [execOp, Instr.makeFunc, runC_pure]

/-! strings -/
theorem X_index {t : TypeId} [S : StF P t] (x i : Operand) {s : ByteArray} {k : IntKind} (j : Nat) {c : UInt8} (hx : r x = .string s) (hi : r i = .int k j) (hc : s[j]? = some c) :
    runC P w (execOp r ⟨d, .index t x i, ty, pos, aft, g⟩) = some (.value (.int .u8 c.toNat)) := by
  have hu : runC P w (underlying t) = some .string := runC_underlying S.und
  show runC P w (Instr.index t (r x) (r i) >>= fun v => pure (Next.value v)) = _
  rw [runC_bind, hx, hi]
  unfold Instr.index
  simp only [asIntOf, pure_bind, runC_bind, hu, Option.bind_some]
  simp [hc, runC_pure]

end
end Go.Proofs.YtljpfnjpifhdlaaGreatDoor
namespace Go.Proofs.YtljpfnjpifhdlaaGreatDoor
open Go

/-- a part of memory that only its own blocks make up -/
structure Atom where
  own : List Nat
  ok : World → Prop
  loc : ∀ w w', (∀ b ∈ own, w'.heap[b]? = w.heap[b]?) → ok w → ok w'
/-- data: M, the blocks that may be written -/
structure Dat where
  ok : (Nat → Prop) → World → Prop
  keep : ∀ M w w', (∀ b, b < w.heap.size → ¬ M b → w'.heap[b]? = w.heap[b]?) → ok M w → ok M w'
  grow : ∀ M M' w, (∀ b, b < w.heap.size → M' b → M b) → ok M w → ok M' w

def owns (A : List Atom) : List Nat := A.flatMap Atom.own
theorem mem_owns {A : List Atom} {b : Nat} : b ∈ owns A ↔ ∃ a ∈ A, b ∈ a.own := by simp [owns]
structure Holds (w0 : World) (S : List Nat) (A : List Atom) (D : List Dat) (w : World) : Prop where
  mod : Mod S w0 w
  nd : (owns A).Nodup
  lt : ∀ b ∈ owns A, b < w.heap.size
  low : ∀ b ∈ owns A, w0.heap.size ≤ b ∨ b ∈ S
  at' : ∀ a ∈ A, a.ok w
  dt : ∀ d ∈ D, d.ok (· ∈ owns A) w

theorem owns_sub {A A' : List Atom} (h : A'.Sublist A) : (owns A').Sublist (owns A) := by
  induction h with
  | slnil => exact List.Sublist.refl _
  | cons a _ ih => exact ih.trans (List.sublist_append_right a.own _)
  | cons_cons a _ ih => exact ih.append_left a.own
theorem nodup_sub {l l' : List Nat} (h : l.Nodup) (hs : l'.Sublist l) : l'.Nodup := h.sublist hs

section
variable {w0 w w' : World} {S : List Nat} {A : List Atom} {D : List Dat}

theorem Holds.start (w : World) (S : List Nat) : Holds w S [] [] w :=
  ⟨Mod.refl _ _, by simp [owns], by simp [owns], by simp [owns], by simp, by simp⟩
theorem Holds.dat (H : Holds w0 S A D w) {d : Dat} (h : d ∈ D) : d.ok (· ∈ owns A) w := H.dt d h
theorem Holds.atom (H : Holds w0 S A D w) {a : Atom} (h : a ∈ A) : a.ok w := H.at' a h
/-- only new blocks, or none -/
theorem Holds.call (H : Holds w0 S A D w) (hm : Mod [] w w') : Holds w0 S A D w' := by
  have same : ∀ b, b < w.heap.size → w'.heap[b]? = w.heap[b]? := fun b hb => hm.block b hb (by simp)
  refine ⟨H.mod.fresh hm (by simp), H.nd, fun b hb => Nat.lt_of_lt_of_le (H.lt b hb) hm.size, H.low, fun a ha => a.loc w w' (fun b hb => same b (H.lt b (mem_owns.2 ⟨a, ha, hb⟩))) (H.at' a ha), fun d hd => ?_⟩
  exact d.keep _ w w' (fun b hb _ => same b hb) (H.dt d hd)
theorem Holds.drew (H : Holds w0 S A D w) : Holds w0 S A D w.drew := H.call (Mod.refl _ _).drew
theorem Holds.add (H : Holds w0 S A D w) {d : Dat} (h : d.ok (· ∈ owns A) w) : Holds w0 S A (d :: D) w :=
  ⟨H.mod, H.nd, H.lt, H.low, H.at', fun x hx => by rcases List.mem_cons.1 hx with rfl | hx; exact h; exact H.dt x hx⟩
/-- fewer atoms, fewer data -/
theorem Holds.sub (H : Holds w0 S A D w) {A' : List Atom} {D' : List Dat} (hA : A'.Sublist A) (hD : ∀ d ∈ D', d ∈ D) : Holds w0 S A' D' w := by
  have hs : (owns A').Sublist (owns A) := owns_sub hA
  refine ⟨H.mod, nodup_sub H.nd hs, fun b hb => H.lt b (hs.subset hb), fun b hb => H.low b (hs.subset hb), fun a ha => H.at' a (hA.subset ha), fun d hd => ?_⟩
  exact d.grow _ _ w (fun b _ h => hs.subset h) (H.dt d (hD d hd))
theorem Holds.perm (H : Holds w0 S A D w) {A' : List Atom} (hA : A'.Perm A) : Holds w0 S A' D w := by
  have hp : (owns A').Perm (owns A) := hA.flatMap_right Atom.own
  refine ⟨H.mod, hp.nodup_iff.2 H.nd, fun b hb => H.lt b (hp.subset hb), fun b hb => H.low b (hp.subset hb), fun a ha => H.at' a (hA.subset ha), fun d hd => ?_⟩
  exact d.grow _ _ w (fun b _ h => hp.subset h) (H.dt d hd)

/-- one atom's blocks are written, or new ones; the atom stands anew -/
theorem Holds.turn (H : Holds w0 S A D w) {A1 A2 : List Atom} {a a' : Atom} (hA : A = A1 ++ a :: A2) (hm : Mod a.own w w') (hok : a'.ok w') (hnd : a'.own.Nodup) (hown : ∀ b ∈ a'.own, b < w'.heap.size ∧ (b ∈ a.own ∨ w.heap.size ≤ b)) :
    Holds w0 S (A1 ++ a' :: A2) D w' := by
  subst hA
  have nd := H.nd
  have e : ∀ x : Atom, owns (A1 ++ x :: A2) = owns A1 ++ (x.own ++ owns A2) := fun x => by simp [owns]
  rw [e, List.nodup_append, List.nodup_append] at nd
  obtain ⟨n1, ⟨n2, n3, n4⟩, n5⟩ := nd
  have hlt : ∀ b ∈ owns A1 ++ (a.own ++ owns A2), b < w.heap.size := fun b hb => H.lt b (by rw [e]; exact hb)
  have other : ∀ b, b ∈ owns A1 ∨ b ∈ owns A2 → w'.heap[b]? = w.heap[b]? := by
    intro b hb
    refine hm.block b (hlt b ?_) fun ha => ?_
    · simp only [List.mem_append]; rcases hb with h | h; exact .inl h; exact .inr (.inr h)
    · rcases hb with h | h
      · exact n5 b h b (List.mem_append.2 (.inl ha)) rfl
      · exact n4 b ha b h rfl
  refine ⟨H.mod.fresh hm (fun x hx => ?_), ?_, fun b hb => ?_, fun b hb => ?_, fun x hx => ?_, fun d hd => ?_⟩
  · have hx' : x ∈ owns (A1 ++ a :: A2) := by rw [e]; exact List.mem_append.2 (.inr (List.mem_append.2 (.inl hx)))
    rcases H.low x hx' with h | h
    · exact .inr h
    · exact .inl h
  · rw [e, List.nodup_append, List.nodup_append]
    refine ⟨n1, ⟨hnd, n3, fun x hx y hy => ?_⟩, fun x hx y hy => ?_⟩
    · rcases (hown x hx).2 with h | h
      · exact n4 x h y hy
      · have := hlt y (by simp [hy]); omega
    · rcases List.mem_append.1 hy with hy | hy
      · rcases (hown y hy).2 with h | h
        · exact n5 x hx y (List.mem_append.2 (.inl h))
        · have := hlt x (by simp [hx]); omega
      · exact n5 x hx y (List.mem_append.2 (.inr hy))
  · rw [e] at hb
    rcases List.mem_append.1 hb with hb | hb
    · exact Nat.lt_of_lt_of_le (hlt b (by simp [hb])) hm.size
    · rcases List.mem_append.1 hb with hb | hb
      · exact (hown b hb).1
      · exact Nat.lt_of_lt_of_le (hlt b (by simp [hb])) hm.size
  · rw [e] at hb
    rcases List.mem_append.1 hb with hb | hb
    · exact H.low b (by rw [e]; simp [hb])
    · rcases List.mem_append.1 hb with hb | hb
      · rcases (hown b hb).2 with h | h
        · exact H.low b (by rw [e]; simp [h])
        · exact .inl (Nat.le_trans H.mod.size h)
      · exact H.low b (by rw [e]; simp [hb])
  · rcases List.mem_append.1 hx with hx | hx
    · exact x.loc w w' (fun b hb => other b (.inl (mem_owns.2 ⟨x, hx, hb⟩))) (H.at' x (by simp [hx]))
    · rcases List.mem_cons.1 hx with rfl | hx
      · exact hok
      · exact x.loc w w' (fun b hb => other b (.inr (mem_owns.2 ⟨x, hx, hb⟩))) (H.at' x (by simp [hx]))
  · have h2 := d.grow (· ∈ owns (A1 ++ a :: A2)) (fun b => b ∈ owns (A1 ++ a :: A2) ∨ w.heap.size ≤ b) w (fun b hb h => h.resolve_right (by omega)) (H.dt d hd)
    have h3 := d.keep _ w w' (fun b hb hn => hm.block b hb fun ha => hn (.inl (by rw [e]; simp [ha]))) h2
    refine d.grow _ _ w' (fun b _ h => ?_) h3
    rw [e] at h
    rcases List.mem_append.1 h with h | h
    · exact .inl (by rw [e]; simp [h])
    · rcases List.mem_append.1 h with h | h
      · rcases (hown b h).2 with h | h
        · exact .inl (by rw [e]; simp [h])
        · exact .inr h
      · exact .inl (by rw [e]; simp [h])

/-- a new atom in new blocks -/
theorem Holds.new (H : Holds w0 S A D w) {a : Atom} (hm : Mod [] w w') (hok : a.ok w') (hnd : a.own.Nodup) (hown : ∀ b ∈ a.own, b < w'.heap.size ∧ w.heap.size ≤ b) : Holds w0 S (a :: A) D w' := by
  have H' := H.call hm
  refine ⟨H'.mod, ?_, fun b hb => ?_, fun b hb => ?_, fun x hx => ?_, fun d hd => ?_⟩
  · show (a.own ++ owns A).Nodup
    exact List.nodup_append.2 ⟨hnd, H.nd, fun x hx y hy => by have := (hown x hx).2; have := H.lt y hy; omega⟩
  · rcases List.mem_append.1 (show b ∈ a.own ++ owns A from hb) with hb | hb
    · exact (hown b hb).1
    · exact H'.lt b hb
  · rcases List.mem_append.1 (show b ∈ a.own ++ owns A from hb) with hb | hb
    · exact .inl (Nat.le_trans H.mod.size (hown b hb).2)
    · exact H.low b hb
  · rcases List.mem_cons.1 hx with rfl | hx
    · exact hok
    · exact H'.at' x hx
  · have h2 := d.grow (· ∈ owns A) (fun b => b ∈ owns A ∨ w.heap.size ≤ b) w (fun b hb h => h.resolve_right (by omega)) (H.dt d hd)
    have h3 := d.keep _ w w' (fun b hb _ => hm.block b hb (by simp)) h2
    refine d.grow _ _ w' (fun b _ h => ?_) h3
    rcases List.mem_append.1 (show b ∈ a.own ++ owns A from h) with h | h
    · exact .inr (hown b h).2
    · exact .inl h
end

/-! A box: a block of cells -/
def box (b : Nat) (xs : List Value) (T : TypeId) : Atom := ⟨[b], fun w => w.heap[b]? = some (.cells xs.toArray T (0, 0)), fun _ _ h hw => by rw [h b (by simp)]; exact hw⟩

theorem block_cell {w : World} {b : Nat} {xs : List Value} {T : TypeId} {fz : Nat × Nat} (h : w.heap[b]? = some (.cells xs.toArray T fz)) (o : Nat) : w.cell? ⟨b, o, none⟩ = xs[o]? := by
  simp [World.cell?, h]
theorem block_cells {w : World} {b : Nat} {xs : List Value} {T : TypeId} {fz : Nat × Nat} (h : w.heap[b]? = some (.cells xs.toArray T fz)) {o n : Nat} {vs : List Value} (hv : (xs.drop o).take n = vs) : Cells w b o vs := by
  intro j u hj
  rw [block_cell h]
  subst hv
  rw [List.getElem?_take] at hj
  split at hj
  · simpa using hj
  · cases hj

section
variable {w0 w : World} {S : List Nat} {A : List Atom} {D : List Dat}
theorem Holds.alloc (H : Holds w0 S A D w) (xs : List Value) (T : TypeId) : Holds w0 S (box w.heap.size xs T :: A) D (w.alloc (.cells xs.toArray T)) :=
  H.new (a := box w.heap.size xs T) ((Mod.refl _ _).alloc _) (by show (w.heap.push _)[w.heap.size]? = _; simp) (by simp [box]) (by simp [box])
theorem Holds.set (H : Holds w0 S A D w) {A1 A2 : List Atom} {b : Nat} {xs : List Value} {T : TypeId} (hA : A = A1 ++ box b xs T :: A2) (o : Nat) (v : Value) :
    Holds w0 S (A1 ++ box b (xs.set o v) T :: A2) D (w.setCell ⟨b, o, none⟩ v) := by
  have hb : w.heap[b]? = some (.cells xs.toArray T (0, 0)) := H.atom (a := box b xs T) (by rw [hA]; simp)
  refine H.turn hA ((Mod.refl _ _).set (.inl (by simp [box])) v) ?_ (by simp [box]) (fun x hx => ?_)
  · show (w.setCell ⟨b, o, none⟩ v).heap[b]? = _
    simp [World.setCell, Array.getElem?_modify, hb]
  · simp only [box, List.mem_singleton] at hx
    subst hx
    refine ⟨?_, .inl (by simp [box])⟩
    simpa [World.setCell] using (Array.getElem?_eq_some_iff.1 hb).1
end
end Go.Proofs.YtljpfnjpifhdlaaGreatDoor
namespace Go.Proofs.YtljpfnjpifhdlaaGreatDoor
open Go

/-- how a plain value stands in cells; M: the blocks that may be written -/
structure Lay (α : Type) where
  sz : Nat
  rd : (Nat → Prop) → World → α → List Value → Prop
  len : ∀ M w x vs, rd M w x vs → vs.length = sz
  one : ∀ M w x vs, rd M w x vs → ∀ u ∈ vs, u.oneCell' = true
  keep : ∀ M w w' x vs, (∀ b, b < w.heap.size → ¬ M b → w'.heap[b]? = w.heap[b]?) → rd M w x vs → rd M w' x vs
  grow : ∀ M M' w x vs, (∀ b, b < w.heap.size → M' b → M b) → rd M w x vs → rd M' w x vs

/-- plain data that has nothing of M -/
def Lay.dat {α : Type} (L : Lay α) (M : Nat → Prop) (x : α) (vs : List Value) : Dat := ⟨fun X w => L.rd (fun b => M b ∨ X b) w x vs,
  fun _ w w' h => L.keep _ w w' x vs fun b hb hn => h b hb fun hx => hn (.inr hx), fun _ _ w h => L.grow _ _ w x vs fun b hb hx => hx.imp id (h b hb)⟩

theorem Cells.keep {w w' : World} {b o : Nat} {vs : List Value} (h : w'.heap[b]? = w.heap[b]?) (hc : Cells w b o vs) : Cells w' b o vs := fun j u hj => by
  rw [World.cell?_of_block (w := w) h]; exact hc j u hj
theorem Cells.append {w : World} {b o : Nat} {vs us : List Value} : Cells w b o (vs ++ us) ↔ Cells w b o vs ∧ Cells w b (o + vs.length) us := by
  constructor
  · intro h
    refine ⟨fun j u hj => h j u ?_, fun j u hj => ?_⟩
    · rw [List.getElem?_append_left (List.getElem?_eq_some_iff.1 hj).1]; exact hj
    · have := h (vs.length + j) u (by rw [List.getElem?_append_right (by omega)]; simpa using hj)
      rwa [show o + vs.length + j = o + (vs.length + j) by omega]
  · rintro ⟨h1, h2⟩ j u hj
    rcases Nat.lt_or_ge j vs.length with h | h
    · rw [List.getElem?_append_left h] at hj; exact h1 j u hj
    · rw [List.getElem?_append_right h] at hj
      have := h2 (j - vs.length) u hj
      rwa [show o + vs.length + (j - vs.length) = o + j by omega] at this
theorem Cells.nil {w : World} {b o : Nat} : Cells w b o [] := fun j u hj => by simp at hj

theorem lt_keep {w w' : World} {M : Nat → Prop} (h : ∀ b, b < w.heap.size → ¬ M b → w'.heap[b]? = w.heap[b]?) {b : Nat} (h2 : b < w.heap.size) (h1 : ¬ M b) : b < w'.heap.size := by
  have := h b h2 h1
  rcases Nat.lt_or_ge b w'.heap.size with h' | h'
  · exact h'
  · rw [Array.getElem?_eq_none h', Array.getElem?_eq_getElem h2] at this; cases this

/-- opened cells, as data -/
def dcells (b o : Nat) (vs : List Value) : Dat := ⟨fun M w => ¬ M b ∧ b < w.heap.size ∧ Cells w b o vs,
  fun _ _ _ h ⟨h1, h2, h3⟩ => ⟨h1, lt_keep h h2 h1, h3.keep (h b h2 h1)⟩,
  fun _ _ _ h ⟨h1, h2, h3⟩ => ⟨fun h' => h1 (h b h2 h'), h2, h3⟩⟩

/-- plain values one behind the other -/
def RdL {α : Type} (L : Lay α) (M : Nat → Prop) (w : World) (b : Nat) : Nat → List α → Prop
  | _, [] => True
  | o, x :: xs => (∃ vs, L.rd M w x vs ∧ Cells w b o vs) ∧ RdL L M w b (o + L.sz) xs
/-- a slice of plain values -/
def RdSl {α : Type} (L : Lay α) (M : Nat → Prop) (w : World) (l : List α) (a : Option Addr) (n c : Nat) : Prop :=
  n = l.length ∧ n ≤ c ∧ (l = [] ∨ ∃ b o, a = some ⟨b, o, none⟩ ∧ ¬ M b ∧ b < w.heap.size ∧ RdL L M w b o l)

section
variable {α : Type} {L : Lay α} {M M' : Nat → Prop} {w w' : World}
theorem RdL.keep (h : ∀ b, b < w.heap.size → ¬ M b → w'.heap[b]? = w.heap[b]?) {b : Nat} (hb : b < w.heap.size) (hM : ¬ M b) : ∀ {o : Nat} {l : List α}, RdL L M w b o l → RdL L M w' b o l
  | _, [], _ => trivial
  | _, _ :: _, ⟨⟨vs, h1, h2⟩, h3⟩ => ⟨⟨vs, L.keep _ _ _ _ _ h h1, h2.keep (h b hb hM)⟩, RdL.keep h hb hM h3⟩
theorem RdL.grow (h : ∀ b, b < w.heap.size → M' b → M b) {b : Nat} : ∀ {o : Nat} {l : List α}, RdL L M w b o l → RdL L M' w b o l
  | _, [], _ => trivial
  | _, _ :: _, ⟨⟨vs, h1, h2⟩, h3⟩ => ⟨⟨vs, L.grow _ _ _ _ _ h h1, h2⟩, RdL.grow h h3⟩
theorem RdSl.keep {l : List α} {a : Option Addr} {n c : Nat} (h : ∀ b, b < w.heap.size → ¬ M b → w'.heap[b]? = w.heap[b]?) (hr : RdSl L M w l a n c) : RdSl L M w' l a n c := by
  obtain ⟨h1, h2, h3⟩ := hr
  refine ⟨h1, h2, h3.imp id ?_⟩
  rintro ⟨b, o, ha, hM, hb, hl⟩
  exact ⟨b, o, ha, hM, lt_keep h hb hM, RdL.keep h hb hM hl⟩
theorem RdSl.grow {l : List α} {a : Option Addr} {n c : Nat} (h : ∀ b, b < w.heap.size → M' b → M b) (hr : RdSl L M w l a n c) : RdSl L M' w l a n c := by
  obtain ⟨h1, h2, h3⟩ := hr
  refine ⟨h1, h2, h3.imp id ?_⟩
  rintro ⟨b, o, ha, hM, hb, hl⟩
  exact ⟨b, o, ha, fun hm => hM (h b hb hm), hb, RdL.grow h hl⟩
theorem RdSl.nil (a : Option Addr) (c : Nat) : RdSl L M w [] a 0 c := ⟨rfl, Nat.zero_le _, .inl rfl⟩

theorem RdL.get {b : Nat} : ∀ {o : Nat} {l : List α} (i : Nat) {x : α}, l[i]? = some x → RdL L M w b o l → ∃ vs, L.rd M w x vs ∧ Cells w b (o + i * L.sz) vs
  | _, [], i, _, hx, _ => by simp at hx
  | o, y :: l, 0, x, hx, ⟨h1, _⟩ => by simp at hx; subst hx; simpa using h1
  | o, y :: l, i + 1, x, hx, ⟨_, h2⟩ => by
    obtain ⟨vs, h3, h4⟩ := RdL.get i (by simpa using hx) h2
    refine ⟨vs, h3, ?_⟩
    rwa [show o + (i + 1) * L.sz = o + L.sz + i * L.sz by rw [Nat.add_mul]; omega]
theorem RdL.of_get {b : Nat} : ∀ {o : Nat} {l : List α}, (∀ i x, l[i]? = some x → ∃ vs, L.rd M w x vs ∧ Cells w b (o + i * L.sz) vs) → RdL L M w b o l
  | _, [], _ => trivial
  | o, y :: l, h => ⟨by simpa using h 0 y rfl, RdL.of_get fun i x hx => by
      obtain ⟨vs, h1, h2⟩ := h (i + 1) x (by simpa using hx)
      refine ⟨vs, h1, ?_⟩
      rwa [show o + L.sz + i * L.sz = o + (i + 1) * L.sz by rw [Nat.add_mul]; omega]⟩
/-- an element of a slice -/
theorem RdSl.get {l : List α} {a : Option Addr} {n c : Nat} (hr : RdSl L M w l a n c) (i : Nat) {x : α} (hx : l[i]? = some x) :
    ∃ b o vs, a = some ⟨b, o, none⟩ ∧ ¬ M b ∧ b < w.heap.size ∧ L.rd M w x vs ∧ Cells w b (o + i * L.sz) vs := by
  obtain ⟨h1, h2, h3⟩ := hr
  rcases h3 with rfl | ⟨b, o, ha, hM, hb, hl⟩
  · simp at hx
  · obtain ⟨vs, h4, h5⟩ := RdL.get i hx hl
    exact ⟨b, o, vs, ha, hM, hb, h4, h5⟩
theorem RdL.drop {b : Nat} : ∀ {o : Nat} (i : Nat) {l : List α}, RdL L M w b o l → RdL L M w b (o + i * L.sz) (l.drop i)
  | o, 0, l, h => by simpa using h
  | o, i + 1, [], h => trivial
  | o, i + 1, y :: l, ⟨_, h2⟩ => by
    have := RdL.drop i h2
    rw [show o + (i + 1) * L.sz = o + L.sz + i * L.sz by rw [Nat.add_mul]; omega]
    simpa using this
theorem RdL.take {b : Nat} : ∀ {o : Nat} (i : Nat) {l : List α}, RdL L M w b o l → RdL L M w b o (l.take i)
  | _, 0, _, _ => trivial
  | _, _ + 1, [], _ => trivial
  | _, i + 1, _ :: _, ⟨h1, h2⟩ => ⟨h1, RdL.take i h2⟩
end

/-- a slice as one cell -/
def LSl {α : Type} (L : Lay α) : Lay (List α) where
  sz := 1
  rd M w l vs := ∃ a n c, vs = [.slice a n c] ∧ RdSl L M w l a n c
  len := by rintro M w l vs ⟨a, n, c, rfl, _⟩; rfl
  one := by rintro M w l vs ⟨a, n, c, rfl, _⟩; simp [Value.oneCell']
  keep := by rintro M w w' l vs h ⟨a, n, c, rfl, hr⟩; exact ⟨a, n, c, rfl, hr.keep h⟩
  grow := by rintro M M' w l vs h ⟨a, n, c, rfl, hr⟩; exact ⟨a, n, c, rfl, hr.grow h⟩
def LInt : Lay Int where
  sz := 1
  rd _ _ n vs := vs = [.int .i64 n]
  len := by rintro M w n vs rfl; rfl
  one := by rintro M w n vs rfl; simp [Value.oneCell']
  keep := by rintro M w w' n vs _ rfl; rfl
  grow := by rintro M M' w n vs _ rfl; rfl
def LNat : Lay Nat where
  sz := 1
  rd _ _ n vs := vs = [.int .i64 n]
  len := by rintro M w n vs rfl; rfl
  one := by rintro M w n vs rfl; simp [Value.oneCell']
  keep := by rintro M w w' n vs _ rfl; rfl
  grow := by rintro M M' w n vs _ rfl; rfl
def LStr : Lay ByteArray where
  sz := 1
  rd _ _ s vs := vs = [.string s]
  len := by rintro M w n vs rfl; rfl
  one := by rintro M w n vs rfl; simp [Value.oneCell']
  keep := by rintro M w w' n vs _ rfl; rfl
  grow := by rintro M M' w n vs _ rfl; rfl
/-- one behind the other -/
def Lay.and {α β : Type} (L : Lay α) (K : Lay β) : Lay (α × β) where
  sz := L.sz + K.sz
  rd M w x vs := ∃ us ts, vs = us ++ ts ∧ L.rd M w x.1 us ∧ K.rd M w x.2 ts
  len := by rintro M w x vs ⟨us, ts, rfl, h1, h2⟩; rw [List.length_append, L.len _ _ _ _ h1, K.len _ _ _ _ h2]
  one := by
    rintro M w x vs ⟨us, ts, rfl, h1, h2⟩ u hu
    rcases List.mem_append.1 hu with hu | hu
    · exact L.one _ _ _ _ h1 u hu
    · exact K.one _ _ _ _ h2 u hu
  keep := by rintro M w w' x vs h ⟨us, ts, rfl, h1, h2⟩; exact ⟨us, ts, rfl, L.keep _ _ _ _ _ h h1, K.keep _ _ _ _ _ h h2⟩
  grow := by rintro M M' w x vs h ⟨us, ts, rfl, h1, h2⟩; exact ⟨us, ts, rfl, L.grow _ _ _ _ _ h h1, K.grow _ _ _ _ _ h h2⟩
/-- by way of another type -/
def Lay.via {α β : Type} (L : Lay β) (f : α → β) : Lay α where
  sz := L.sz
  rd M w x vs := L.rd M w (f x) vs
  len := fun M w x vs h => L.len M w (f x) vs h
  one := fun M w x vs h => L.one M w (f x) vs h
  keep := fun M w w' x vs h => L.keep M w w' (f x) vs h
  grow := fun M M' w x vs h => L.grow M M' w (f x) vs h

/-- a well-formed term -/
inductive T where
  | nil
  | var (n : Nat)
  | sym (s : ByteArray)
  | num (n : Int)
  | pair (a b : T)
def T.kind : T → Int | .nil => 0 | .var _ => 1 | .sym _ => 2 | .num _ => 3 | .pair _ _ => 4
def T.int : T → Int | .var n => n | .num n => n | _ => 0
def T.name : T → ByteArray | .sym s => s | _ => ⟨#[]⟩
def T.args : T → List T | .pair a b => [a, b] | _ => []

def rdT (M : Nat → Prop) (w : World) : T → List Value → Prop
  | .pair x y, vs => ∃ b o c us ts, vs = [.int .i64 4, .int .i64 0, .string ⟨#[]⟩, .slice (some ⟨b, o, none⟩) 2 c] ∧ 2 ≤ c ∧ ¬ M b ∧ b < w.heap.size ∧ us.length = 4 ∧ rdT M w x us ∧ rdT M w y ts ∧ Cells w b o us ∧ Cells w b (o + 4) ts
  | t, vs => ∃ a c, vs = [.int .i64 t.kind, .int .i64 t.int, .string t.name, .slice a 0 c]

/-- the four values of a term -/
theorem rdT_four {M : Nat → Prop} {w : World} : ∀ {t : T} {vs : List Value}, rdT M w t vs → ∃ a c, vs = [.int .i64 t.kind, .int .i64 t.int, .string t.name, .slice a t.args.length c]
  | .pair _ _, _, ⟨_, _, c, _, _, h, _⟩ => ⟨_, c, h⟩
  | .nil, _, ⟨a, c, h⟩ => ⟨a, c, h⟩
  | .var _, _, ⟨a, c, h⟩ => ⟨a, c, h⟩
  | .sym _, _, ⟨a, c, h⟩ => ⟨a, c, h⟩
  | .num _, _, ⟨a, c, h⟩ => ⟨a, c, h⟩
theorem rdT_keep {M : Nat → Prop} {w w' : World} (h : ∀ b, b < w.heap.size → ¬ M b → w'.heap[b]? = w.heap[b]?) : ∀ (t : T) (vs : List Value), rdT M w t vs → rdT M w' t vs
  | .pair x y, _, ⟨b, o, c, us, ts, h1, h2, h3, h4, h5, h6, h7, h8, h9⟩ => ⟨b, o, c, us, ts, h1, h2, h3, lt_keep h h4 h3, h5, rdT_keep h x us h6, rdT_keep h y ts h7, h8.keep (h b h4 h3), h9.keep (h b h4 h3)⟩
  | .nil, _, h => h
  | .var _, _, h => h
  | .sym _, _, h => h
  | .num _, _, h => h
theorem rdT_grow {M M' : Nat → Prop} {w : World} (h : ∀ b, b < w.heap.size → M' b → M b) : ∀ (t : T) (vs : List Value), rdT M w t vs → rdT M' w t vs
  | .pair x y, _, ⟨b, o, c, us, ts, h1, h2, h3, h4, h5, h6, h7, h8, h9⟩ => ⟨b, o, c, us, ts, h1, h2, fun hm => h3 (h b h4 hm), h4, h5, rdT_grow h x us h6, rdT_grow h y ts h7, h8, h9⟩
  | .nil, _, h => h
  | .var _, _, h => h
  | .sym _, _, h => h
  | .num _, _, h => h
def LT : Lay T where
  sz := 4
  rd := rdT
  len := by intro M w t vs h; obtain ⟨a, c, rfl⟩ := rdT_four h; rfl
  one := by intro M w t vs h; obtain ⟨a, c, rfl⟩ := rdT_four h; simp [Value.oneCell']
  keep := fun _ _ _ t vs h => rdT_keep h t vs
  grow := fun _ _ _ t vs h => rdT_grow h t vs

/-- an element of an argument's slice of a pair, as four values -/
theorem rdT_pair {M : Nat → Prop} {w : World} {x y : T} {vs : List Value} (h : rdT M w (.pair x y) vs) :
    ∃ b o c, vs = [.int .i64 4, .int .i64 0, .string ⟨#[]⟩, .slice (some ⟨b, o, none⟩) 2 c] ∧ 2 ≤ c ∧ ¬ M b ∧ b < w.heap.size ∧ (∃ us, rdT M w x us ∧ Cells w b o us) ∧ ∃ ts, rdT M w y ts ∧ Cells w b (o + 4) ts := by
  obtain ⟨b, o, c, us, ts, h1, h2, h3, h4, _, h6, h7, h8, h9⟩ := h
  exact ⟨b, o, c, h1, h2, h3, h4, ⟨us, h6, h8⟩, ts, h7, h9⟩
theorem rdT_args {M : Nat → Prop} {w : World} : ∀ {t : T} {vs : List Value}, rdT M w t vs → ∃ a n c, vs = [.int .i64 t.kind, .int .i64 t.int, .string t.name, .slice a n c] ∧ RdSl LT M w t.args a n c
  | .pair _ _, _, ⟨b, o, c, us, ts, h1, h2, h3, h4, _, h6, h7, h8, h9⟩ => ⟨_, _, c, h1, rfl, h2, .inr ⟨b, o, rfl, h3, h4, ⟨us, h6, h8⟩, ⟨ts, h7, h9⟩, trivial⟩⟩
  | .nil, _, ⟨a, c, h⟩ => ⟨a, 0, c, h, RdSl.nil _ _⟩
  | .var _, _, ⟨a, c, h⟩ => ⟨a, 0, c, h, RdSl.nil _ _⟩
  | .sym _, _, ⟨a, c, h⟩ => ⟨a, 0, c, h, RdSl.nil _ _⟩
  | .num _, _, ⟨a, c, h⟩ => ⟨a, 0, c, h, RdSl.nil _ _⟩
/-- two terms in a block make a pair -/
theorem rdT_mk {M : Nat → Prop} {w : World} {x y : T} {us ts : List Value} {b o c : Nat} (hc : 2 ≤ c) (hM : ¬ M b) (hb : b < w.heap.size) (hx : rdT M w x us) (hy : rdT M w y ts) (h : Cells w b o (us ++ ts)) :
    rdT M w (.pair x y) [.int .i64 4, .int .i64 0, .string ⟨#[]⟩, .slice (some ⟨b, o, none⟩) 2 c] := by
  have hl : us.length = 4 := LT.len _ _ _ _ hx
  obtain ⟨h1, h2⟩ := Cells.append.1 h
  rw [hl] at h2
  exact ⟨b, o, c, us, ts, rfl, hc, hM, hb, hl, hx, hy, h1, h2⟩
end Go.Proofs.YtljpfnjpifhdlaaGreatDoor
namespace Go.Proofs.YtljpfnjpifhdlaaGreatDoor
open Go

/-- what a call hands back -/
def Ret (p : Value → World → Prop) : Ending → World → Prop := fun e w => ∃ v, e = .returned v ∧ p v w

/-- vs laid over xs from place o on -/
def putAt (xs : List Value) (o : Nat) (vs : List Value) : List Value := xs.take o ++ (vs ++ xs.drop (o + vs.length))
theorem putAt_cons {xs : List Value} {o : Nat} {v : Value} {vs : List Value} (h : o < xs.length) : putAt (xs.set o v) (o + 1) vs = putAt xs o (v :: vs) := by
  unfold putAt
  rw [List.take_set, List.drop_set, if_pos (by omega), List.take_succ_eq_append_getElem h, List.set_append_right _ _ (by simp; omega)]
  simp only [List.length_take, List.length_cons, List.append_assoc, List.cons_append]
  rw [show o - min o xs.length = 0 by omega]
  simp [Nat.add_assoc, Nat.add_comm 1]
theorem putAt_len {xs : List Value} {o : Nat} {vs : List Value} (h : o + vs.length ≤ xs.length) : (putAt xs o vs).length = xs.length := by
  simp [putAt]; omega

section
variable {P : Program}

theorem storeCells_at (b o : Nat) (T : TypeId) : ∀ (vs : List Value) (i : Nat) (xs : List Value) (w : World), w.heap[b]? = some (.cells xs.toArray T (0, 0)) → o + i + vs.length ≤ xs.length → (∀ v ∈ vs, v.oneCell' = true) →
    ∃ w', (storeCells ⟨b, o, none⟩ vs i).run P w = .ok () w' ∧ Mod [b] w w' ∧ w'.heap.size = w.heap.size ∧ w'.heap[b]? = some (.cells (putAt xs (o + i) vs).toArray T (0, 0)) := by
  intro vs
  induction vs with
  | nil =>
    intro i xs w hb hl _
    exact ⟨w, rfl, Mod.refl _ _, rfl, by simpa [putAt] using hb⟩
  | cons v vs ih =>
    intro i xs w hb hl h1
    simp only [List.length_cons] at hl
    have hadd : (⟨b, o, none⟩ : Addr).add i = ⟨b, o + i, none⟩ := by unfold Addr.add; split <;> simp_all
    have hc : w.cell? ⟨b, o + i, none⟩ = some xs[o + i] := by rw [block_cell hb, List.getElem?_eq_getElem (by omega)]
    have hf : w.frozen? ⟨b, o + i, none⟩ = false := by simp [World.frozen?, hb]
    have hb' : (w.setCell ⟨b, o + i, none⟩ v).heap[b]? = some (.cells (xs.set (o + i) v).toArray T (0, 0)) := by
      simp [World.setCell, Array.getElem?_modify, hb]
    obtain ⟨w', h2, h3, h4, h5⟩ := ih (i + 1) (xs.set (o + i) v) (w.setCell ⟨b, o + i, none⟩ v) hb' (by simp; omega) (fun u hu => h1 u (by simp [hu]))
    refine ⟨w', ?_, ((Mod.refl _ _).set (.inl (by simp)) v).trans h3, by rw [h4]; simp [World.setCell], ?_⟩
    · have h1v := h1 v (by simp)
      unfold storeCells
      simp only [hadd]
      show (Sem.bind _ _).run P w = _
      cases v <;> first | (simp [Value.oneCell'] at h1v; done) | (simp only [store, Sem.bind, Sem.run, hc, hf]; exact h2)
    · rw [h5, show o + (i + 1) = o + i + 1 by omega, putAt_cons (by omega)]

theorem storeVar_at {t : TypeId} {agg : Bool} {sz : Nat} {z : Value} [F : TyF P t agg sz z] {b o : Nat} {T : TypeId} {v : Value} {vs xs : List Value} {w : World} (hv : v.cells = vs.toArray) (hl : vs.length = sz) (h1 : ∀ v ∈ vs, v.oneCell' = true)
    (hb : w.heap[b]? = some (.cells xs.toArray T (0, 0))) (hle : o + sz ≤ xs.length) :
    ∃ w', (storeVar t ⟨b, o, none⟩ v).run P w = .ok () w' ∧ Mod [b] w w' ∧ w'.heap.size = w.heap.size ∧ w'.heap[b]? = some (.cells (putAt xs o vs).toArray T (0, 0)) := by
  obtain ⟨w', h2, h3, h4, h5⟩ := storeCells_at (P := P) b o T vs 0 xs w hb (by omega) h1
  refine ⟨w', ?_, h3, h4, h5⟩
  unfold storeVar
  rw [Sem.run_bind, runC_run _ _ (F.size w)]
  simp only [Result.andThen_ok, hv, List.size_toArray, hl, ne_eq, not_true_eq_false, if_false]
  exact h2

variable {w0 w : World} {S : List Nat} {A : List Atom} {D : List Dat} {r : Operand → Value} {d : Option Tmp} {ty : TypeId} {pos : String} {aft : Array Edge} {g : Option (Nat × Bool)} {K : Value → World → Prop}

theorem S_box (H : Holds w0 S A D w) {T : TypeId} (x : Operand) {xs : List Value} (hx : (r x).cells = xs.toArray) (k : ∀ b w', Holds w0 S (box b xs T :: A) D w' → K (.pointer (some ⟨b, 0, none⟩)) w') :
    OS P ⟨d, .box T x, ty, pos, aft, g⟩ r w K := by
  refine S_run (v := .pointer (some ⟨w.heap.size, 0, none⟩)) (w' := w.alloc (.cells xs.toArray T)) ?_ (k _ _ (H.alloc xs T))
  simp only [execOp, Instr.box, newVar, newRow, newObj, hx]
  rfl
theorem S_alloc {T : TypeId} {sz : Nat} {xs : List Value} [F : TyF P T true sz (.agg xs.toArray)] (H : Holds w0 S A D w) (k : ∀ b w', Holds w0 S (box b xs T :: A) D w' → K (.pointer (some ⟨b, 0, none⟩)) w') :
    OS P ⟨d, .alloc T, ty, pos, aft, g⟩ r w K := by
  refine S_run (v := .pointer (some ⟨w.heap.size, 0, none⟩)) (w' := w.alloc (.cells xs.toArray T)) ?_ (k _ _ (H.alloc xs T))
  simp only [execOp, Instr.alloc, newVar, newRow, newObj, bind_assoc, Sem.run_bind, runC_run _ _ (F.zero w), Result.andThen_ok, Value.cells]
  rfl
theorem S_alloc1 {T : TypeId} {z : Value} [F : TyF P T false 1 z] (H : Holds w0 S A D w) (hz : z.cells = #[z]) (k : ∀ b w', Holds w0 S (box b [z] T :: A) D w' → K (.pointer (some ⟨b, 0, none⟩)) w') :
    OS P ⟨d, .alloc T, ty, pos, aft, g⟩ r w K := by
  refine S_run (v := .pointer (some ⟨w.heap.size, 0, none⟩)) (w' := w.alloc (.cells #[z] T)) ?_ (k _ _ (H.alloc [z] T))
  simp only [execOp, Instr.alloc, newVar, newRow, newObj, bind_assoc, Sem.run_bind, runC_run _ _ (F.zero w), Result.andThen_ok, hz]
  rfl
/-- a box of one cell -/
theorem S_box1 (H : Holds w0 S A D w) {T : TypeId} (x : Operand) {v : Value} (hx : r x = v) (h1 : v.cells = #[v]) (k : ∀ b w', Holds w0 S (box b [v] T :: A) D w' → K (.pointer (some ⟨b, 0, none⟩)) w') :
    OS P ⟨d, .box T x, ty, pos, aft, g⟩ r w K := S_box H x (xs := [v]) (by rw [hx, h1]) k
/-- a box of several cells -/
theorem S_boxN (H : Holds w0 S A D w) {T : TypeId} (x : Operand) {xs : List Value} (hx : r x = .agg xs.toArray) (k : ∀ b w', Holds w0 S (box b xs T :: A) D w' → K (.pointer (some ⟨b, 0, none⟩)) w') :
    OS P ⟨d, .box T x, ty, pos, aft, g⟩ r w K := S_box H x (by rw [hx]; rfl) k

theorem set_split {α : Type} : ∀ {l : List α} {i : Nat} {x y : α}, l[i]? = some x → l = l.take i ++ x :: l.drop (i + 1) ∧ l.set i y = l.take i ++ y :: l.drop (i + 1) := by
  intro l i x y h
  obtain ⟨hi, rfl⟩ := List.getElem?_eq_some_iff.1 h
  refine ⟨?_, ?_⟩
  · rw [← List.drop_eq_getElem_cons hi, List.take_append_drop]
  · rw [List.set_eq_take_append_cons_drop, if_pos hi]

theorem Holds.turnAt (H : Holds w0 S A D w) {w' : World} (i : Nat) {a a' : Atom} (hi : A[i]? = some a) (hm : Mod a.own w w') (hok : a'.ok w') (hnd : a'.own.Nodup) (hown : ∀ b ∈ a'.own, b < w'.heap.size ∧ (b ∈ a.own ∨ w.heap.size ≤ b)) :
    Holds w0 S (A.set i a') D w' := by
  rw [(set_split (y := a') hi).2]
  exact H.turn (set_split (y := a') hi).1 hm hok hnd hown
theorem Holds.boxAt (H : Holds w0 S A D w) (i : Nat) {b : Nat} {xs : List Value} {T : TypeId} (hi : A[i]? = some (box b xs T)) : w.heap[b]? = some (.cells xs.toArray T (0, 0)) := H.atom (a := box b xs T) (List.mem_of_getElem? hi)

/-- a store into a box of one's own -/
theorem S_store (H : Holds w0 S A D w) (i : Nat) {t : TypeId} {agg : Bool} {sz : Nat} {z : Value} [F : TyF P t agg sz z] (x y : Operand) {b o : Nat} {T : TypeId} {xs vs : List Value} (hi : A[i]? = some (box b xs T))
    (hx : r x = .pointer (some ⟨b, o, none⟩)) (hy : (r y).cells = vs.toArray) (hl : vs.length = sz) (h1 : vs.all Value.oneCell' = true) (hle : Nat.ble (o + sz) xs.length = true) (k : ∀ w', Holds w0 S (A.set i (box b (putAt xs o vs) T)) D w' → K undef w') :
    OS P ⟨d, .store t x y, ty, pos, aft, g⟩ r w K := by
  obtain ⟨w', h2, h3, h4, h5⟩ := storeVar_at (P := P) (t := t) hy hl (List.all_eq_true.1 h1) (H.boxAt i hi) (Nat.le_of_ble_eq_true hle)
  refine S_skip (w' := w') ?_ (k w' (H.turnAt i hi h3 h5 (by simp [box]) (fun c hc => ?_)))
  · show (Instr.storeAt t (r x) (r y) >>= fun _ => pure Next.skip).run P w = _
    rw [Sem.run_bind, hx]
    show Result.andThen ((Sem.bind (Sem.pure _) fun a => storeVar t a (r y)).run P w) _ = _
    show Result.andThen ((storeVar t ⟨b, o, none⟩ (r y)).run P w) _ = _
    rw [h2]; rfl
  · simp only [box, List.mem_singleton] at hc
    subst hc
    refine ⟨?_, .inl (by simp [box])⟩
    rw [h4]; exact (Array.getElem?_eq_some_iff.1 (H.boxAt i hi)).1

/-! slices that the call makes -/
theorem fill_fold : ∀ (vs : List Value) (i o : Nat) (xs : List Value), o + i + vs.length ≤ xs.length →
    (vs.zipIdx i).foldl (fun (cs : Array Value) (x : Value × Nat) => cs.setIfInBounds (o + x.2) x.1) xs.toArray = (putAt xs (o + i) vs).toArray := by
  intro vs
  induction vs with
  | nil => intro i o xs _; simp [putAt]
  | cons v vs ih =>
    intro i o xs h
    simp only [List.length_cons] at h
    simp only [List.zipIdx_cons, List.foldl_cons, List.setIfInBounds_toArray]
    rw [ih (i + 1) o (xs.set (o + i) v) (by simp; omega), show o + (i + 1) = o + i + 1 by omega, putAt_cons (by omega)]
def lfill (place : Nat → Option (Nat × Nat)) (xs : List Value) : List (Nat × List Value) → Option (List Value)
  | [] => some xs
  | (i, vs) :: rest => match place i with
    | none => none
    | some (off, size) => if vs.length ≠ size || decide (off + vs.length > xs.length) then none else lfill place (putAt xs off vs) rest
theorem fill_list (place : Nat → Option (Nat × Nat)) : ∀ (ps : List (Nat × Value)) (qs : List (Nat × List Value)) (xs : List Value), ps.map (fun p => (p.1, p.2.cells)) = qs.map (fun q => (q.1, q.2.toArray)) →
    Instr.fill place xs.toArray ps = (lfill place xs qs).map (·.toArray) := by
  intro ps
  induction ps with
  | nil => intro qs xs h; cases qs with | nil => rfl | cons => simp at h
  | cons p ps ih =>
    intro qs xs h
    cases qs with
    | nil => simp at h
    | cons q qs =>
      simp only [List.map_cons, List.cons.injEq, Prod.mk.injEq] at h
      obtain ⟨⟨h1, h2⟩, h3⟩ := h
      obtain ⟨i, v⟩ := p
      obtain ⟨j, vs⟩ := q
      simp only at h1 h2
      subst h1
      simp only [Instr.fill, lfill, h2]
      cases place i with
      | none => rfl
      | some x =>
        obtain ⟨off, size⟩ := x
        simp only [List.size_toArray]
        split
        · rfl
        · rename_i hc
          simp only [Bool.or_eq_true, decide_eq_true_eq, not_or] at hc
          rw [show vs.toArray.zipIdx.foldl (fun (cs : Array Value) (x : Value × Nat) => match x with | (c, j) => cs.setIfInBounds (off + j) c) xs.toArray = (putAt xs off vs).toArray by
            rw [← Array.foldl_toList, Array.toList_zipIdx]
            exact fill_fold vs 0 off xs (by omega)]
          exact ih qs _ h3

class FieldsF (P : Program) (t : TypeId) (places : outParam (List (Nat × Nat))) : Prop where
  run : ∃ fs, P.underlying t = some (.struct fs) ∧ ∀ w, runC P w (fs.mapM fun f => do pure (f.offset, ← sizeOf f.type)) = some places.toArray

/-- a struct's value from its parts -/
theorem X_build {t : TypeId} {agg : Bool} {sz : Nat} {z : Value} {places : List (Nat × Nat)} [F : TyF P t agg sz z] [G : FieldsF P t places] {zs : List Value} (hz : z.cells = zs.toArray) {ps : Array (Nat × Operand)} (qs : List (Nat × List Value))
    (hq : ps.toList.map (fun p => (p.1, (r p.2).cells)) = qs.map (fun q => (q.1, q.2.toArray))) {xs : List Value} (hf : lfill (places[·]?) zs qs = some xs) :
    runC P w (execOp r ⟨d, .build t ps, ty, pos, aft, g⟩) = some (.value (.agg xs.toArray)) := by
  obtain ⟨fs, h1, h2⟩ := G.run
  show runC P w (Instr.build t (ps.map fun x => (x.1, r x.2)) >>= fun v => pure (Next.value v)) = _
  rw [runC_bind]
  unfold Instr.build
  rw [runC_bind, F.zero, Option.bind_some, runC_bind, runC_underlying h1, Option.bind_some]
  simp only []
  rw [runC_bind, h2, Option.bind_some, hz, fill_list _ _ qs zs (by simpa [Function.comp_def] using hq)]
  simp only [List.getElem?_toArray, hf, Option.map_some]
  rfl

theorem putAt_all {xs vs : List Value} (h : vs.length = xs.length) : putAt xs 0 vs = vs := by simp [putAt, h]

/-- an empty slice -/
theorem S_bslice0 (H : Holds w0 S A D w) {t e : TypeId} {agg : Bool} {sz : Nat} {z : Value} [G : SlF P t e] [F : TyF P e agg sz z] (k : ∀ b w', Holds w0 S (box b [] e :: A) D w' → K (.slice (some ⟨b, 0, none⟩) 0 0) w') :
    OS P ⟨d, .buildSlice t 0 #[], ty, pos, aft, g⟩ r w K := by
  refine S_run (v := .slice (some ⟨w.heap.size, 0, none⟩) 0 0) (w' := w.alloc (.cells #[] e)) ?_ (k _ _ (H.alloc [] e))
  show (Instr.buildSlice t 0 ((#[] : Array (Nat × Operand)).map fun x => (x.1, r x.2)) >>= fun v => pure (Next.value v)).run P w = _
  unfold Instr.buildSlice
  simp only [bind_assoc, Sem.run_bind, runC_run _ _ (runC_underlying G.und), Result.andThen_ok, runC_run _ _ (F.size w)]
  have e0 : Array.range 0 = #[] := rfl
  simp [Instr.fill, newRow, newObj, e0]
  rfl

theorem zero_cells (zs : List Value) (n : Nat) : ((Array.range (n * zs.length)).map (zs.toArray[· % zs.toArray.size]!)) = ((List.range (n * zs.length)).map fun i => zs[i % zs.length]!).toArray := by
  apply Array.ext'
  simp

/-- a slice of n elements -/
theorem S_bslice (H : Holds w0 S A D w) {t e : TypeId} {agg : Bool} {sz : Nat} {z : Value} [G : SlF P t e] [F : TyF P e agg sz z] {zs : List Value} (hz : z.cells = zs.toArray) (hzl : zs.length = sz) {n : Nat} (hn : n * sz ≤ 16777216) (hn0 : n * sz ≠ 0)
    {ps : Array (Nat × Operand)} (qs : List (Nat × List Value)) (hq : ps.toList.map (fun p => (p.1, (r p.2).cells)) = qs.map (fun q => (q.1, q.2.toArray))) {xs : List Value}
    (hf : lfill (fun i => some (i * sz, sz)) ((List.range (n * sz)).map fun i => zs[i % sz]!) qs = some xs) (k : ∀ b w', Holds w0 S (box b xs e :: A) D w' → K (.slice (some ⟨b, 0, none⟩) n n) w') :
    OS P ⟨d, .buildSlice t n ps, ty, pos, aft, g⟩ r w K := by
  subst hzl
  refine S_run (v := .slice (some ⟨w.heap.size, 0, none⟩) n n) (w' := w.alloc (.cells xs.toArray e)) ?_ (k _ _ (H.alloc xs e))
  show (Instr.buildSlice t n (ps.map fun x => (x.1, r x.2)) >>= fun v => pure (Next.value v)).run P w = _
  unfold Instr.buildSlice
  simp only [bind_assoc, Sem.run_bind, runC_run _ _ (runC_underlying G.und), Result.andThen_ok, runC_run _ _ (F.size w)]
  rw [if_neg (by omega)]
  simp only [Sem.run_bind, Sem.run_pure, Result.andThen_ok, if_neg hn0, runC_run _ _ (F.zero w), hz]
  rw [zero_cells, fill_list _ _ qs _ (by simpa [Function.comp_def] using hq), hf]
  simp [newRow, newObj]
  rfl

theorem lfill1 {zs us : List Value} {sz : Nat} (h : us.length = sz) (hz : zs.length = sz) : lfill (fun i => some (i * sz, sz)) zs [(0, us)] = some us := by
  simp only [lfill, h, Nat.zero_mul]
  rw [if_neg (by simp [hz])]
  rw [putAt_all (by omega)]
theorem lfill2 {zs us ts : List Value} {sz : Nat} (h : us.length = sz) (h' : ts.length = sz) (hz : zs.length = 2 * sz) : lfill (fun i => some (i * sz, sz)) zs [(0, us), (1, ts)] = some (us ++ ts) := by
  simp only [lfill, h, h', Nat.zero_mul, Nat.one_mul]
  rw [if_neg (by simp [hz]; omega)]
  have hl : (putAt zs 0 us).length = 2 * sz := by rw [putAt_len (by omega), hz]
  rw [if_neg (by simp [hl]; omega)]
  congr 1
  simp only [putAt, List.take_zero, List.nil_append, Nat.zero_add, h, h']
  rw [List.take_append_of_le_length (by omega), List.take_of_length_le (by omega), List.drop_append, List.drop_eq_nil_of_le (by omega), List.drop_drop, List.nil_append, List.drop_eq_nil_of_le (by omega), List.append_nil]
/-- a slice of one element -/
theorem S_bslice1 (H : Holds w0 S A D w) {t e : TypeId} {agg : Bool} {sz : Nat} {z : Value} [G : SlF P t e] [F : TyF P e agg sz z] (x : Operand) {us : List Value} (hx : (r x).cells = us.toArray) (hl : us.length = sz) (hz : z.cells.size = sz) (hs : Nat.ble sz 100 = true) (h0 : Nat.blt 0 sz = true)
    (k : ∀ b w', Holds w0 S (box b us e :: A) D w' → K (.slice (some ⟨b, 0, none⟩) 1 1) w') : OS P ⟨d, .buildSlice t 1 #[(0, x)], ty, pos, aft, g⟩ r w K := by
  have := Nat.le_of_ble_eq_true hs
  have h0' : 0 < sz := Nat.lt_of_lt_of_le (Nat.lt_succ_self 0) (Nat.le_of_ble_eq_true h0)
  refine S_bslice H (zs := z.cells.toList) (by simp) (by simpa using hz) (by omega) (by omega) [(0, us)] (by simp [hx]) (xs := us) ?_ k
  exact lfill1 hl (by simp)
theorem S_bslice1N (H : Holds w0 S A D w) {t e : TypeId} {sz : Nat} {z : Value} [G : SlF P t e] [F : TyF P e true sz z] (x : Operand) {us : List Value} (hx : r x = .agg us.toArray) (hl : us.length = sz) (hz : z.cells.size = sz) (hs : Nat.ble sz 100 = true) (h0 : Nat.blt 0 sz = true)
    (k : ∀ b w', Holds w0 S (box b us e :: A) D w' → K (.slice (some ⟨b, 0, none⟩) 1 1) w') : OS P ⟨d, .buildSlice t 1 #[(0, x)], ty, pos, aft, g⟩ r w K :=
  S_bslice1 H x (by rw [hx]; rfl) hl hz hs h0 k
theorem S_bslice1s (H : Holds w0 S A D w) {t e : TypeId} {z : Value} [G : SlF P t e] [F : TyF P e false 1 z] (x : Operand) {v : Value} (hx : r x = v) (h1 : v.cells = #[v]) (hz : z.cells.size = 1)
    (k : ∀ b w', Holds w0 S (box b [v] e :: A) D w' → K (.slice (some ⟨b, 0, none⟩) 1 1) w') : OS P ⟨d, .buildSlice t 1 #[(0, x)], ty, pos, aft, g⟩ r w K :=
  S_bslice1 H x (us := [v]) (by rw [hx, h1]) rfl hz rfl rfl k
/-- a slice of two elements -/
theorem S_bslice2N (H : Holds w0 S A D w) {t e : TypeId} {sz : Nat} {z : Value} [G : SlF P t e] [F : TyF P e true sz z] (x y : Operand) {us ts : List Value} (hx : r x = .agg us.toArray) (hy : r y = .agg ts.toArray) (hl : us.length = sz) (hl' : ts.length = sz)
    (hz : z.cells.size = sz) (hs : Nat.ble sz 100 = true) (h0 : Nat.blt 0 sz = true) (k : ∀ b w', Holds w0 S (box b (us ++ ts) e :: A) D w' → K (.slice (some ⟨b, 0, none⟩) 2 2) w') : OS P ⟨d, .buildSlice t 2 #[(0, x), (1, y)], ty, pos, aft, g⟩ r w K := by
  have := Nat.le_of_ble_eq_true hs
  have h0' : 0 < sz := Nat.lt_of_lt_of_le (Nat.lt_succ_self 0) (Nat.le_of_ble_eq_true h0)
  refine S_bslice H (zs := z.cells.toList) (by simp) (by simpa using hz) (by omega) (by omega) [(0, us), (1, ts)] (by simp [hx, hy, Value.cells]) (xs := us ++ ts) ?_ k
  exact lfill2 hl hl' (by simp)
theorem S_storeN (H : Holds w0 S A D w) (i : Nat) {t : TypeId} {sz : Nat} {z : Value} [F : TyF P t true sz z] (x y : Operand) {b o : Nat} {T : TypeId} {xs vs : List Value} (hi : A[i]? = some (box b xs T))
    (hx : r x = .pointer (some ⟨b, o, none⟩)) (hy : r y = .agg vs.toArray) (hl : vs.length = sz) (h1 : vs.all Value.oneCell' = true) (hle : Nat.ble (o + sz) xs.length = true) (k : ∀ w', Holds w0 S (A.set i (box b (putAt xs o vs) T)) D w' → K undef w') :
    OS P ⟨d, .store t x y, ty, pos, aft, g⟩ r w K := S_store H i x y hi hx (by rw [hy]; rfl) hl h1 hle k
theorem S_store1 (H : Holds w0 S A D w) (i : Nat) {t : TypeId} {z : Value} [F : TyF P t false 1 z] (x y : Operand) {b o : Nat} {T : TypeId} {xs : List Value} {v : Value} (hi : A[i]? = some (box b xs T))
    (hx : r x = .pointer (some ⟨b, o, none⟩)) (hy : r y = v) (hv : v.cells = #[v]) (h1 : v.oneCell' = true) (hle : Nat.ble (o + 1) xs.length = true) (k : ∀ w', Holds w0 S (A.set i (box b (putAt xs o [v]) T)) D w' → K undef w') :
    OS P ⟨d, .store t x y, ty, pos, aft, g⟩ r w K := S_store H i x y hi hx (vs := [v]) (by rw [hy, hv]) rfl (by simp [h1]) hle k

/-! calls -/
section
variable {p : Value → World → Prop} {R : Value → World → Prop}
theorem calls_ret {f : FuncId} {args : Array Value} {w : World} (hc : Calls P f args w (Ret p)) (k : ∀ v w', p v w' → K v w') : Calls P f args w fun e w'' => ∃ v, e = .returned v ∧ K v w'' :=
  Calls.mono hc fun _ _ ⟨v, he, hv⟩ => ⟨v, he, k v _ hv⟩
/-- a call of a function value -/
theorem S_clo {f : FuncId} [F : FnF P f] {x : Operand} {cap : Array Value} {avs : Array Operand} {tys : Array TypeId} {args : Array Value} (hx : r x = .func (.func f) #[] cap) (ha : avs.map r = args) (hc : Calls P f (args ++ cap) w (Ret p)) (k : ∀ v w', p v w' → K v w') :
    OS P ⟨d, .call { callee := .value x, args := avs, argTypes := tys }, ty, pos, aft, g⟩ r w K := by
  have e : (execOp r ⟨d, .call { callee := .value x, args := avs, argTypes := tys }, ty, pos, aft, g⟩).run P w = .ok (.enter f (args ++ cap)) w := by
    simp only [execOp, resolve, hx, ha, Deferred.ofValue, pure_bind, invoke, Array.empty_append]
    exact F.enter _ _
  unfold OS
  rw [e]
  exact calls_ret hc k
/-- a call of a function -/
theorem S_call {f : FuncId} [FnF P f] {avs : Array Operand} {tys : Array TypeId} {args : Array Value} (hx : r (.func f) = .func (.func f) #[] #[]) (ha : avs.map r = args) (hc : Calls P f args w (Ret p)) (k : ∀ v w', p v w' → K v w') :
    OS P ⟨d, .call { callee := .value (.func f), args := avs, argTypes := tys }, ty, pos, aft, g⟩ r w K :=
  S_clo hx ha (by simpa using hc) k
theorem S_call0 {f : FuncId} [FnF P f] {tys : Array TypeId} (hx : r (.func f) = .func (.func f) #[] #[])  (hc : Calls P f #[] w (Ret p)) (k : ∀ v w', p v w' → K v w') :
    OS P ⟨d, .call { callee := .value (.func f), args := #[], argTypes := tys }, ty, pos, aft, g⟩ r w K :=
  S_call hx (by simp) hc k
theorem S_clo0 {f : FuncId} [FnF P f] {c : Operand} {cap : Array Value} {tys : Array TypeId} (hx : r c = .func (.func f) #[] cap)  (hc : Calls P f (#[] ++ cap) w (Ret p)) (k : ∀ v w', p v w' → K v w') :
    OS P ⟨d, .call { callee := .value c, args := #[], argTypes := tys }, ty, pos, aft, g⟩ r w K :=
  S_clo hx (by simp) hc k
theorem S_call1 {f : FuncId} [FnF P f] {tys : Array TypeId} (x1 : Operand) {v1 : Value} (hx : r (.func f) = .func (.func f) #[] #[]) (h1 : r x1 = v1) (hc : Calls P f #[v1] w (Ret p)) (k : ∀ v w', p v w' → K v w') :
    OS P ⟨d, .call { callee := .value (.func f), args := #[x1], argTypes := tys }, ty, pos, aft, g⟩ r w K :=
  S_call hx (by simp [h1]) hc k
theorem S_clo1 {f : FuncId} [FnF P f] {c : Operand} {cap : Array Value} {tys : Array TypeId} (x1 : Operand) {v1 : Value} (hx : r c = .func (.func f) #[] cap) (h1 : r x1 = v1) (hc : Calls P f (#[v1] ++ cap) w (Ret p)) (k : ∀ v w', p v w' → K v w') :
    OS P ⟨d, .call { callee := .value c, args := #[x1], argTypes := tys }, ty, pos, aft, g⟩ r w K :=
  S_clo hx (by simp [h1]) hc k
theorem S_call2 {f : FuncId} [FnF P f] {tys : Array TypeId} (x1 x2 : Operand) {v1 v2 : Value} (hx : r (.func f) = .func (.func f) #[] #[]) (h1 : r x1 = v1) (h2 : r x2 = v2) (hc : Calls P f #[v1, v2] w (Ret p)) (k : ∀ v w', p v w' → K v w') :
    OS P ⟨d, .call { callee := .value (.func f), args := #[x1, x2], argTypes := tys }, ty, pos, aft, g⟩ r w K :=
  S_call hx (by simp [h1, h2]) hc k
theorem S_clo2 {f : FuncId} [FnF P f] {c : Operand} {cap : Array Value} {tys : Array TypeId} (x1 x2 : Operand) {v1 v2 : Value} (hx : r c = .func (.func f) #[] cap) (h1 : r x1 = v1) (h2 : r x2 = v2) (hc : Calls P f (#[v1, v2] ++ cap) w (Ret p)) (k : ∀ v w', p v w' → K v w') :
    OS P ⟨d, .call { callee := .value c, args := #[x1, x2], argTypes := tys }, ty, pos, aft, g⟩ r w K :=
  S_clo hx (by simp [h1, h2]) hc k
theorem S_call3 {f : FuncId} [FnF P f] {tys : Array TypeId} (x1 x2 x3 : Operand) {v1 v2 v3 : Value} (hx : r (.func f) = .func (.func f) #[] #[]) (h1 : r x1 = v1) (h2 : r x2 = v2) (h3 : r x3 = v3) (hc : Calls P f #[v1, v2, v3] w (Ret p)) (k : ∀ v w', p v w' → K v w') :
    OS P ⟨d, .call { callee := .value (.func f), args := #[x1, x2, x3], argTypes := tys }, ty, pos, aft, g⟩ r w K :=
  S_call hx (by simp [h1, h2, h3]) hc k
theorem S_clo3 {f : FuncId} [FnF P f] {c : Operand} {cap : Array Value} {tys : Array TypeId} (x1 x2 x3 : Operand) {v1 v2 v3 : Value} (hx : r c = .func (.func f) #[] cap) (h1 : r x1 = v1) (h2 : r x2 = v2) (h3 : r x3 = v3) (hc : Calls P f (#[v1, v2, v3] ++ cap) w (Ret p)) (k : ∀ v w', p v w' → K v w') :
    OS P ⟨d, .call { callee := .value c, args := #[x1, x2, x3], argTypes := tys }, ty, pos, aft, g⟩ r w K :=
  S_clo hx (by simp [h1, h2, h3]) hc k
theorem S_call4 {f : FuncId} [FnF P f] {tys : Array TypeId} (x1 x2 x3 x4 : Operand) {v1 v2 v3 v4 : Value} (hx : r (.func f) = .func (.func f) #[] #[]) (h1 : r x1 = v1) (h2 : r x2 = v2) (h3 : r x3 = v3) (h4 : r x4 = v4) (hc : Calls P f #[v1, v2, v3, v4] w (Ret p)) (k : ∀ v w', p v w' → K v w') :
    OS P ⟨d, .call { callee := .value (.func f), args := #[x1, x2, x3, x4], argTypes := tys }, ty, pos, aft, g⟩ r w K :=
  S_call hx (by simp [h1, h2, h3, h4]) hc k
theorem S_call5 {f : FuncId} [FnF P f] {tys : Array TypeId} (x1 x2 x3 x4 x5 : Operand) {v1 v2 v3 v4 v5 : Value} (hx : r (.func f) = .func (.func f) #[] #[]) (h1 : r x1 = v1) (h2 : r x2 = v2) (h3 : r x3 = v3) (h4 : r x4 = v4) (h5 : r x5 = v5) (hc : Calls P f #[v1, v2, v3, v4, v5] w (Ret p)) (k : ∀ v w', p v w' → K v w') :
    OS P ⟨d, .call { callee := .value (.func f), args := #[x1, x2, x3, x4, x5], argTypes := tys }, ty, pos, aft, g⟩ r w K :=
  S_call hx (by simp [h1, h2, h3, h4, h5]) hc k
theorem S_call6 {f : FuncId} [FnF P f] {tys : Array TypeId} (x1 x2 x3 x4 x5 x6 : Operand) {v1 v2 v3 v4 v5 v6 : Value} (hx : r (.func f) = .func (.func f) #[] #[]) (h1 : r x1 = v1) (h2 : r x2 = v2) (h3 : r x3 = v3) (h4 : r x4 = v4) (h5 : r x5 = v5) (h6 : r x6 = v6) (hc : Calls P f #[v1, v2, v3, v4, v5, v6] w (Ret p)) (k : ∀ v w', p v w' → K v w') :
    OS P ⟨d, .call { callee := .value (.func f), args := #[x1, x2, x3, x4, x5, x6], argTypes := tys }, ty, pos, aft, g⟩ r w K :=
  S_call hx (by simp [h1, h2, h3, h4, h5, h6]) hc k
end
end
end Go.Proofs.YtljpfnjpifhdlaaGreatDoor
namespace Go.Proofs.YtljpfnjpifhdlaaGreatDoor
open Go

theorem run_append_own2' {P : Program} (w : World) (base : Nat) (t ty e : TypeId) (i : TypeInfo) (z : Value) (size bytes : Nat) (ht : P.underlying t = some (.slice e)) (hi : P.info? e = some i) (hz : i.zero = some z)
    (hsize : i.size = size) (hby : i.bytes = bytes) (hzs : z.cells.size = size) (hsz : 0 < size)
    (v : Value) (n : Nat) (xs : List Value) (hown : w.ownsRow base e size v n xs)
    (a : Addr) (m c : Nat) (news : List Value) (hl : news.length = m * size) (hnews : ∀ j u, news[j]? = some u → w.cell? (a.add j) = some u) (h1 : ∀ u ∈ news, u.oneCell' = true)
    (hm : 0 < m) (h63 : n + m ≤ maxLen) (hbytes : (n + m) * bytes ≤ 140737488355328) (hbase : base ≤ w.heap.size) :
    ∃ v' w', (Builtin.append_ #[t, t] ty #[v, .slice (some a) m c]).run P w = .ok v' w' ∧ w'.ownsRow base e size v' (n + m) (xs ++ news) ∧ w.grownBy w' v.ownBlock ∧
      ((v'.ownBlock = v.ownBlock ∧ w'.heap.size = w.heap.size) ∨ (v'.ownBlock = some w.heap.size ∧ w'.heap.size = w.heap.size + 1)) := by
  obtain ⟨v', w', hr, h2, h3, h4⟩ := run_append_own (P := P) w base t ty e i z size bytes ht hi hz hsize hby hzs hsz v n xs hown a m c news hl hnews h1 h63 hbytes hbase
  refine ⟨v', w', hr, h2, h3, ?_⟩
  subst hsize hby
  have h63' : n + m ≤ 9223372036854775807 := by simp only [maxLen] at h63; omega
  rcases hown.2 with ⟨rfl, rfl⟩ | ⟨g, cap, cur, rfl, hbg, hg, hnc, hcm, hcs, htake⟩
  · have hr2 := run_append_nil (P := P) w t ty e i z ht hi hz a m c news hl hnews hm (by omega) (by have hb := hbytes; simp only [Nat.zero_add] at hb; omega)
    rw [hr] at hr2
    cases hr2
    exact .inr ⟨rfl, by simp⟩
  · by_cases hroom : n + m ≤ cap
    · have hfit : n * i.size + news.length ≤ cur.size := by rw [hl, hcs, ← Nat.add_mul]; exact Nat.mul_le_mul_right _ hroom
      have hr2 := run_append_room (P := P) w t ty e i ht hi g n cap cur hg a m c news hl hnews h1 hroom hfit
      rw [hr] at hr2
      cases hr2
      exact .inl ⟨rfl, by simp⟩
    · have holds : ∀ j u, xs[j]? = some u → w.cell? ((⟨g, 0, none⟩ : Addr).add j) = some u := hown.cells (g := g) rfl
      have hr2 := run_append_grow (P := P) w t ty e i z ht hi hz ⟨g, 0, none⟩ n cap xs hown.1 holds a m c news hl hnews (by omega) (by omega) (growslice_fits (by omega) hbytes)
      rw [hr] at hr2
      cases hr2
      exact .inr ⟨rfl, by simp⟩

/-- a row of the call's own: slice value v, its elements' cells vss -/
def orow (e : TypeId) (sz : Nat) (v : Value) (vss : List (List Value)) : Atom :=
  ⟨v.ownBlock.toList, fun w => (∀ vs ∈ vss, vs.length = sz) ∧ w.ownsRow 0 e sz v vss.length vss.flatten, by
    rintro w w' h ⟨h0, h1, h2⟩
    refine ⟨h0, h1, h2.imp id ?_⟩
    rintro ⟨g, cap, cur, rfl, hb, hg, rest⟩
    exact ⟨g, cap, cur, rfl, hb, by rw [h g (by simp [Value.ownBlock])]; exact hg, rest⟩⟩

class ByF (P : Program) (e : TypeId) (bytes : outParam Nat) : Prop where
  run : (P.info? e).map (·.bytes) = some bytes

section
variable {P : Program} {w0 w : World} {S : List Nat} {A : List Atom} {D : List Dat} {r : Operand → Value} {d : Option Tmp} {ty : TypeId} {pos : String} {aft : Array Edge} {g : Option (Nat × Bool)} {K : Value → World → Prop}

theorem TyF.info (w : World) {e : TypeId} {agg : Bool} {sz : Nat} {z : Value} [F : TyF P e agg sz z] {i : TypeInfo} (hi : P.info? e = some i) : i.zero = some z ∧ i.size = sz := by
  have h1 := F.zero w
  have h2 := F.size w
  have ht : runC P w (typeInfo e) = some i := by
    unfold typeInfo program
    rw [runC_bind]
    simp only [runC, Option.bind_some, hi]
    rfl
  unfold zeroValue at h1
  unfold sizeOf at h2
  rw [runC_bind, ht, Option.bind_some] at h1 h2
  refine ⟨?_, ?_⟩
  · cases hz : i.zero with
    | none => simp [hz, unsupported, runC] at h1
    | some z' =>
      simp only [hz] at h1
      exact h1
  · simpa [runC_pure] using h2

/-- the row that an empty slice literal is -/
theorem Holds.toRow (H : Holds w0 S A D w) (i : Nat) {b : Nat} {e : TypeId} (sz : Nat) (hi : A[i]? = some (box b [] e)) : Holds w0 S (A.set i (orow e sz (.slice (some ⟨b, 0, none⟩) 0 0) [])) D w := by
  refine H.turnAt i hi (Mod.refl _ _) ⟨by simp, by simp, .inr ⟨b, 0, #[], rfl, Nat.zero_le _, by simpa using H.boxAt i hi, Nat.zero_le _, Nat.zero_le _, by simp, by simp⟩⟩ (by simp [orow, Value.ownBlock]) (fun c hc => ?_)
  simp only [orow, Value.ownBlock, Option.toList_some, List.mem_singleton] at hc
  subst hc
  exact ⟨H.lt _ (mem_owns.2 ⟨_, List.mem_of_getElem? hi, by simp [box]⟩), .inl (by simp [box])⟩
/-- a nil slice is a row -/
theorem Holds.nilRow (H : Holds w0 S A D w) (e : TypeId) (sz : Nat) : Holds w0 S (orow e sz (.slice none 0 0) [] :: A) D w :=
  H.new (a := orow e sz (.slice none 0 0) []) (Mod.refl _ _) ⟨by simp, by simp, .inl ⟨rfl, rfl⟩⟩ (by simp [orow, Value.ownBlock]) (by simp [orow, Value.ownBlock])

/-- one element more -/
theorem S_append (H : Holds w0 S A D w) (i : Nat) {t e : TypeId} {agg : Bool} {sz bytes : Nat} {z : Value} [G : SlF P t e] [F : TyF P e agg sz z] [B : ByF P e bytes] (s x : Operand) {v : Value} {vss : List (List Value)} {vs : List Value} {b o c : Nat}
    (hi : A[i]? = some (orow e sz v vss)) (hs : r s = v) (hx : r x = .slice (some ⟨b, o, none⟩) 1 c) (hc : Cells w b o vs) (hl : vs.length = sz) (h1 : ∀ u ∈ vs, u.oneCell' = true) (hsz : 0 < sz) (hzs : z.cells.size = sz)
    (hlen : (vss.length + 1) * (bytes + 1) ≤ 140737488355328) (k : ∀ v' w', Holds w0 S (A.set i (orow e sz v' (vss ++ [vs]))) D w' → K v' w') :
    OS P ⟨d, .call { callee := .builtin .append, args := #[s, x], argTypes := #[t, t] }, ty, pos, aft, g⟩ r w K := by
  obtain ⟨inf, hinf, hby⟩ := Option.map_eq_some_iff.1 B.run
  obtain ⟨hz, hsize⟩ := TyF.info (P := P) w hinf
  obtain ⟨hall, hown⟩ := H.atom (List.mem_of_getElem? hi)
  have hadd : ∀ m, (⟨b, o, none⟩ : Addr).add m = ⟨b, o + m, none⟩ := fun m => by unfold Addr.add; split <;> simp_all
  have hlen' : vss.length + 1 ≤ 140737488355328 := Nat.le_trans (Nat.le_mul_of_pos_right _ (by omega)) hlen
  obtain ⟨v', w', hr, h2, h3, h4⟩ := run_append_own2' (P := P) w 0 t ty e inf z sz bytes G.und hinf hz hsize hby hzs hsz v vss.length vss.flatten hown ⟨b, o, none⟩ 1 c vs (by simpa using hl) (fun j u hj => by rw [hadd]; exact hc j u hj) h1
    (by decide) (by unfold maxLen; omega) (Nat.le_trans (Nat.mul_le_mul_left _ (by omega)) hlen) (Nat.zero_le _)
  refine S_run (v := v') (w' := w') ?_ (k v' w' (H.turnAt i hi ⟨h3.os, h3.tape, h3.output, h3.size, fun k hk hn => h3.block k hk (fun e => hn ?_)⟩ ⟨?_, ?_⟩ ?_ ?_))
  · simp only [execOp, resolve, pure_bind, invoke, builtin, List.map_toArray, List.map_cons, List.map_nil, hs, hx, Sem.run_bind, hr, Result.andThen_ok]; rfl
  · simp [orow, ← e]
  · intro us hus
    rcases List.mem_append.1 hus with h | h
    · exact hall us h
    · simp only [List.mem_singleton] at h; subst h; exact hl
  · simpa using h2
  · simp only [orow]; cases v'.ownBlock <;> simp
  · intro c hc
    simp only [orow, Option.mem_toList] at hc
    have hlt := h2.lt c hc
    refine ⟨hlt.2, ?_⟩
    rcases h4 with ⟨h4, _⟩ | ⟨h4, _⟩
    · exact .inl (by simp only [orow, Option.mem_toList]; rw [← h4]; exact hc)
    · rw [h4] at hc
      cases hc
      exact .inr (Nat.le_refl _)

/-- element by element -/
def Alls {α β : Type} (R : α → β → Prop) : List α → List β → Prop
  | [], [] => True
  | x :: l, y :: m => R x y ∧ Alls R l m
  | _, _ => False
theorem Alls.imp {α β : Type} {R R' : α → β → Prop} (h : ∀ x y, R x y → R' x y) : ∀ {l : List α} {m : List β}, Alls R l m → Alls R' l m
  | [], [], _ => trivial
  | _ :: _, _ :: _, ⟨h1, h2⟩ => ⟨h _ _ h1, h2.imp h⟩
  | [], _ :: _, h' => h'.elim
  | _ :: _, [], h' => h'.elim
theorem Alls.get {α β : Type} {R : α → β → Prop} : ∀ {l : List α} {m : List β}, Alls R l m → l.length = m.length ∧ ∀ (i : Nat) x, l[i]? = some x → ∃ y, m[i]? = some y ∧ R x y
  | [], [], _ => ⟨rfl, by simp⟩
  | _ :: _, _ :: _, ⟨h, t⟩ => by
    obtain ⟨h1, h2⟩ := t.get
    refine ⟨by simp [h1], fun i x hx => ?_⟩
    cases i with
    | zero => simp at hx; subst hx; exact ⟨_, rfl, h⟩
    | succ i => simpa using h2 i x (by simpa using hx)
  | [], _ :: _, h' => h'.elim
  | _ :: _, [], h' => h'.elim
theorem Alls.snoc {α β : Type} {R : α → β → Prop} {x : α} {y : β} (h' : R x y) : ∀ {l : List α} {m : List β}, Alls R l m → Alls R (l ++ [x]) (m ++ [y])
  | [], [], _ => ⟨h', trivial⟩
  | _ :: _, _ :: _, ⟨h, t⟩ => ⟨h, t.snoc h'⟩
  | [], _ :: _, h' => h'.elim
  | _ :: _, [], h' => h'.elim
/-- the elements' data -/
def dall {α : Type} (L : Lay α) (M : Nat → Prop) (l : List α) (vss : List (List Value)) : Dat := ⟨fun X w => Alls (L.rd (fun b => M b ∨ X b) w) l vss,
  fun _ w w' h hr => hr.imp fun x vs => L.keep _ w w' x vs fun b hb hn => h b hb fun hx => hn (.inr hx), fun _ _ w h hr => hr.imp fun x vs => L.grow _ _ w x vs fun b hb hx => hx.imp id (h b hb)⟩

theorem flat_get {sz : Nat} : ∀ {vss : List (List Value)} (_ : ∀ vs ∈ vss, vs.length = sz) {i : Nat} {vs : List Value} (_ : vss[i]? = some vs) {j : Nat} {u : Value} (_ : vs[j]? = some u), vss.flatten[i * sz + j]? = some u
  | [], _, i, vs, h, _, _, _ => by simp at h
  | us :: vss, hall, 0, vs, h, j, u, hu => by
    simp at h; subst h
    rw [List.flatten_cons, Nat.zero_mul, Nat.zero_add, List.getElem?_append_left (List.getElem?_eq_some_iff.1 hu).1]; exact hu
  | us :: vss, hall, i + 1, vs, h, j, u, hu => by
    have hl := hall us (by simp)
    rw [List.flatten_cons, List.getElem?_append_right (by rw [hl, Nat.add_mul]; omega), hl, show (i + 1) * sz + j - sz = i * sz + j by rw [Nat.add_mul]; omega]
    exact flat_get (fun x hx => hall x (by simp [hx])) (by simpa using h) hu

/-- what has been appended, avs a slice: nobody writes it any more -/
theorem Holds.freeze {α : Type} {L : Lay α} {l : List α} {e : TypeId} {v : Value} {vss : List (List Value)} {A1 A2 : List Atom} (H : Holds w0 S (A1 ++ orow e L.sz v vss :: A2) D w) {M : Nat → Prop} (hM : ∀ b, M b → b < w0.heap.size) (hd : (dall L M l vss).ok (· ∈ owns (A1 ++ orow e L.sz v vss :: A2)) w)
    (hS : ∀ b ∈ S, b ∈ owns (A1 ++ A2)) : Holds w0 S (A1 ++ A2) ((LSl L).dat M l [v] :: D) w := by
  have hsub : (A1 ++ A2).Sublist (A1 ++ orow e L.sz v vss :: A2) := (List.Sublist.refl A1).append (List.sublist_cons_self _ _)
  refine (H.sub hsub (fun _ h => h)).add ?_
  obtain ⟨hall, hlen, hrow⟩ := H.atom (a := orow e L.sz v vss) (by simp)
  obtain ⟨hll, hget⟩ := hd.get
  rcases hrow with ⟨rfl, h0⟩ | ⟨b, cap, cur, rfl, _, hg, hnc, _, hcs, htake⟩
  · have : l = [] := List.eq_nil_of_length_eq_zero (by omega)
    subst this
    exact ⟨none, 0, 0, rfl, RdSl.nil _ _⟩
  · have hbo : b ∈ owns (A1 ++ orow e L.sz (.slice (some ⟨b, 0, none⟩) vss.length cap) vss :: A2) := mem_owns.2 ⟨orow e L.sz (.slice (some ⟨b, 0, none⟩) vss.length cap) vss, by simp, by simp [orow, Value.ownBlock]⟩
    have hblt := H.lt b hbo
    have hlow := H.low b hbo
    have hnin : b ∉ owns (A1 ++ A2) := by
      intro hb
      have nd := H.nd
      have e1 : owns (A1 ++ orow e L.sz (.slice (some ⟨b, 0, none⟩) vss.length cap) vss :: A2) = owns A1 ++ (b :: owns A2) := by simp [owns, orow, Value.ownBlock]
      have e2 : owns (A1 ++ A2) = owns A1 ++ owns A2 := by simp [owns]
      rw [e1, List.nodup_append] at nd
      rw [e2] at hb
      rcases List.mem_append.1 hb with h | h
      · exact nd.2.2 b h b (by simp) rfl
      · exact (List.nodup_cons.1 nd.2.1).1 h
    have hnot : ¬ (M b ∨ b ∈ owns (A1 ++ A2)) := by
      rintro (h | h)
      · have := hM b h
        rcases hlow with h' | h'
        · omega
        · exact hnin (hS b h')
      · exact hnin h
    refine ⟨_, _, cap, rfl, hll.symm, hnc, .inr ⟨b, 0, rfl, hnot, hblt, RdL.of_get fun i x hx => ?_⟩⟩
    obtain ⟨vs, hvs, hrd⟩ := hget i x hx
    refine ⟨vs, L.grow _ _ _ _ _ (fun c _ h => h.imp id fun h => (owns_sub hsub).subset h) hrd, fun j u hj => ?_⟩
    have h2 : vss.flatten[i * L.sz + j]? = some u := flat_get hall hvs hj
    rw [← htake, List.getElem?_take] at h2
    split at h2
    · rw [Nat.zero_add]
      simp only [World.cell?, hg]
      simpa using h2
    · cases h2
end

/-! the end of a call -/
def retQ (p : FF → World → Prop) : FPost
  | .normal, f, w => p f w
  | .ret, f, w => p f w
  | _, _, _ => False
theorem nr {p : FF → World → Prop} {f : FF} {w : World} (h : p f w) : retQ p .ret f w := h
theorem nn {p : FF → World → Prop} {f : FF} {w : World} (h : p f w) : retQ p .normal f w := h
section
variable {P : Program} {n : Nat} {g : FuncId} {fn : Func} {c : Code} {args : Array Value} {p : Value → World → Prop} {w : World}
def argF (args : List Value) : FF := fun i => args.getD i undef
theorem enter_any {q : FF → World → Prop} (hf : P.funcs[g]? = some fn) (hb : fn.body = some c) (hn : fn.ntmps = n) {avs : List Value} (ha : avs.length ≤ n)
    (hr : ∀ (f : FF) (w' : World) (tmps : Array Value), (∀ i, tmps.getD i undef = f i) → q f w' → ∃ v, (results fn tmps).run P w' = .ok v w' ∧ p v w')
    (h : W P n c (retQ q) (argF avs) w) : Calls P g avs.toArray w (Ret p) := by
  refine calls_W hf hb hn (by simpa using ha) ?_
  have e : (fun i => avs.toArray.getD i undef) = argF avs := by funext i; simp [argF]
  rw [e]
  refine W_mono h fun e f w' hq => ?_
  cases e <;> simp only [retQ] at hq ⊢ <;> first | exact hq | (intro tmps ht; obtain ⟨v, h1, h2⟩ := hr f w' tmps ht hq; exact ⟨v, h1, v, rfl, h2⟩)
theorem enter0 (hf : P.funcs[g]? = some fn) (hb : fn.body = some c) (hn : fn.ntmps = n) (hres : fn.results = #[]) {avs : List Value} (ha : avs.length ≤ n)
    (h : W P n c (retQ fun _ w => p (.tuple #[]) w) (argF avs) w) : Calls P g avs.toArray w (Ret p) :=
  enter_any hf hb hn ha (fun f w' tmps _ hq => ⟨_, by simp [results, hres], hq⟩) h
theorem enter1 {t : Tmp} (hf : P.funcs[g]? = some fn) (hb : fn.body = some c) (hn : fn.ntmps = n) (hres : fn.results = #[.tmp t]) {avs : List Value} (ha : avs.length ≤ n)
    (h : W P n c (retQ fun f w => p (f t) w) (argF avs) w) : Calls P g avs.toArray w (Ret p) :=
  enter_any hf hb hn ha (fun f w' tmps ht hq => ⟨f t, by rw [← ht t]; simp [results, hres], hq⟩) h
theorem enter2 {t u : Tmp} (hf : P.funcs[g]? = some fn) (hb : fn.body = some c) (hn : fn.ntmps = n) (hres : fn.results = #[.tmp t, .tmp u]) {avs : List Value} (ha : avs.length ≤ n)
    (h : W P n c (retQ fun f w => p (.tuple #[f t, f u]) w) (argF avs) w) : Calls P g avs.toArray w (Ret p) :=
  enter_any hf hb hn ha (fun f w' tmps ht hq => ⟨.tuple #[f t, f u], by rw [← ht t, ← ht u]; simp [results, hres], hq⟩) h
theorem enter3 {t u x : Tmp} (hf : P.funcs[g]? = some fn) (hb : fn.body = some c) (hn : fn.ntmps = n) (hres : fn.results = #[.tmp t, .tmp u, .tmp x]) {avs : List Value} (ha : avs.length ≤ n)
    (h : W P n c (retQ fun f w => p (.tuple #[f t, f u, f x]) w) (argF avs) w) : Calls P g avs.toArray w (Ret p) :=
  enter_any hf hb hn ha (fun f w' tmps ht hq => ⟨.tuple #[f t, f u, f x], by rw [← ht t, ← ht u, ← ht x]; simp [results, hres], hq⟩) h
theorem enterC {t : Tmp} {T : TypeId} {sz : Nat} {z : Value} [F : TyF P T true sz z] (hf : P.funcs[g]? = some fn) (hb : fn.body = some c) (hn : fn.ntmps = n) (hres : fn.results = #[.cell t T]) {avs : List Value} (ha : avs.length ≤ n)
    (h : W P n c (retQ fun f w => ∃ b o xs, f t = .pointer (some ⟨b, o, none⟩) ∧ Cells w b o xs ∧ xs.length = sz ∧ p (.agg xs.toArray) w) (argF avs) w) : Calls P g avs.toArray w (Ret p) :=
  enter_any hf hb hn ha (fun f w' tmps ht ⟨b, o, xs, h1, h2, h3, h4⟩ => ⟨.agg xs.toArray, by
    have h5 := runC_run _ _ (loadVar_CN (P := P) (t := T) h2 h3)
    simp [results, hres, ht, h1, asAddr, h5], h4⟩) h
theorem enterCT {t u : Tmp} {T : TypeId} {sz : Nat} {z : Value} [F : TyF P T true sz z] (hf : P.funcs[g]? = some fn) (hb : fn.body = some c) (hn : fn.ntmps = n) (hres : fn.results = #[.cell t T, .tmp u]) {avs : List Value} (ha : avs.length ≤ n)
    (h : W P n c (retQ fun f w => ∃ b o xs, f t = .pointer (some ⟨b, o, none⟩) ∧ Cells w b o xs ∧ xs.length = sz ∧ p (.tuple #[.agg xs.toArray, f u]) w) (argF avs) w) : Calls P g avs.toArray w (Ret p) :=
  enter_any hf hb hn ha (fun f w' tmps ht ⟨b, o, xs, h1, h2, h3, h4⟩ => ⟨.tuple #[.agg xs.toArray, f u], by
    have h5 := runC_run _ _ (loadVar_CN (P := P) (t := T) h2 h3)
    rw [← ht u]
    simp [results, hres, ht, h1, asAddr, h5], h4⟩) h
end
end Go.Proofs.YtljpfnjpifhdlaaGreatDoor
namespace Go.Proofs.YtljpfnjpifhdlaaGreatDoor
open Go

/-- a frame with some slots known -/
def sl (g : FF) : List (Nat × Value) → FF
  | [] => g
  | p :: l => upd (sl g l) p.1 p.2
def AllS (f : FF) : List (Nat × Value) → Prop
  | [] => True
  | p :: l => f p.1 = p.2 ∧ AllS f l
theorem sl_back {f : FF} : ∀ {l : List (Nat × Value)}, AllS f l → f = sl f l
  | [], _ => rfl
  | p :: l, ⟨h1, h2⟩ => by
    have := sl_back h2
    simp only [sl]
    rw [← this]
    funext i
    by_cases hi : i = p.1
    · subst hi; rw [upd_same]; exact h1
    · rw [upd_ne hi]

section
variable {P : Program} {ops : Array Oper} {n : Nat} {w : World}

def loudL : List (Nat × (Value → World → Prop)) → Nat → Option (Value → World → Prop)
  | [], _ => none
  | (j, p) :: l, i => bif Nat.beq j i then some p else loudL l i
def StabAll : List (Nat × (Value → World → Prop)) → Prop
  | [] => True
  | (_, p) :: l => (∀ v w w', p v w → Mod [] w w' → p v w') ∧ StabAll l
theorem stab_of : ∀ {l : List (Nat × (Value → World → Prop))}, StabAll l → ∀ i p, loudL l i = some p → ∀ v w w', p v w → Mod [] w w' → p v w'
  | [], _, i, p, h => by simp [loudL] at h
  | (j, q) :: l, ⟨h1, h2⟩, i, p, h => by
    unfold loudL at h
    cases hq : Nat.beq j i with
    | true => simp only [hq, cond_true, Option.some.injEq] at h; subst h; exact h1
    | false => simp only [hq, cond_false] at h; exact stab_of h2 i p h

def OblAll (P : Program) (ops : Array Oper) (loud : Nat → Option (Value → World → Prop)) (f0 : FF) (w1 : World) : Nat → List (List Nat) → Prop
  | _, [] => True
  | k, l :: pre => (∀ w, Mod [] w1 w → WR P ops loud (OwesAt P ops loud k) w l f0) ∧ OblAll P ops loud f0 w1 (k + 1) pre
theorem obl_of {loud : Nat → Option (Value → World → Prop)} {f0 : FF} {w1 : World} : ∀ {pre : List (List Nat)} {k : Nat}, OblAll P ops loud f0 w1 k pre → ∀ i l, pre[i]? = some l → ∀ w, Mod [] w1 w → WR P ops loud (OwesAt P ops loud (k + i)) w l f0
  | [], k, _, i, l, h => by simp at h
  | x :: pre, k, ⟨h1, h2⟩, 0, l, h => by simp at h; subst h; simpa using h1
  | x :: pre, k, ⟨h1, h2⟩, i + 1, l, h => by
    have := obl_of h2 i l (by simpa using h)
    rwa [show k + 1 + i = k + (i + 1) by omega] at this

/-- operations k .. m-1 in whatever order; ls: what calls and new blocks leave -/
theorem WD_any {K : FF → World → Prop} {f : FF} {w : World} {k : Nat} (m : Nat) (pre : List (List Nat)) (ls : List (Nat × (Value → World → Prop))) (chk : parChk ops n k m pre = true) (stab : StabAll ls)
    (obl : OblAll P ops (loudL ls) f w k pre) (sp : List Nat) (hsp : span k m = sp) (fin : ∀ w', Mod [] w w' → WR P ops (loudL ls) (WD P n ops K m) w' sp f) : WD P n ops K k f w :=
  WD_par (loudL ls) k m pre chk (stab_of stab) (obl_of obl) (by rw [hsp]; exact fin)

theorem WR_nil {loud : Nat → Option (Value → World → Prop)} {K : FF → World → Prop} {f : FF} (h : K f w) : WR P ops loud K w [] f := h
theorem WR_read {loud : Nat → Option (Value → World → Prop)} {K : FF → World → Prop} {f : FF} {i : Nat} {rest : List Nat} {o : Oper} {v : Value} (ho : ops[i]? = some o) (hg : o.guard = none) (hl : loud i = none) (h : runC P w (execOp (ev f) o) = some (.value v))
    (k : WR P ops loud K w rest (updo f o.dst v)) : WR P ops loud K w (i :: rest) f := by
  intro o' v' ho' hv'
  rw [ho] at ho'
  cases ho'
  unfold okd at hv'
  rw [if_pos (by simp [Region.wanted, hg])] at hv'
  simp only [hl, h, Option.some.injEq, Next.value.injEq] at hv'
  subst hv'
  exact k
theorem WR_rd {loud : Nat → Option (Value → World → Prop)} {K : FF → World → Prop} {f : FF} {i : Nat} {rest : List Nat} {d : Nat} {op : Op} {ty : TypeId} {pos : String} {aft : Array Edge} {v : Value} (ho : ops[i]? = some ⟨some d, op, ty, pos, aft, none⟩) (hl : loud i = none)
    (h : runC P w (execOp (ev f) ⟨some d, op, ty, pos, aft, none⟩) = some (.value v)) (k : WR P ops loud K w rest (upd f d v)) : WR P ops loud K w (i :: rest) f := WR_read ho rfl hl h k
theorem WR_ld {loud : Nat → Option (Value → World → Prop)} {K : FF → World → Prop} {f : FF} {i : Nat} {rest : List Nat} {d : Nat} {op : Op} {ty : TypeId} {pos : String} {aft : Array Edge} {p : Value → World → Prop} (ho : ops[i]? = some ⟨some d, op, ty, pos, aft, none⟩) (hl : loud i = some p)
    (k : ∀ v, p v w → WR P ops loud K w rest (upd f d v)) : WR P ops loud K w (i :: rest) f := by
  intro o' v' ho' hv'
  rw [ho] at ho'
  cases ho'
  unfold okd at hv'
  rw [if_pos (by simp [Region.wanted])] at hv'
  simp only [hl] at hv'
  exact k v' hv'
theorem WR_loud {loud : Nat → Option (Value → World → Prop)} {K : FF → World → Prop} {f : FF} {i : Nat} {rest : List Nat} {o : Oper} {p : Value → World → Prop} (ho : ops[i]? = some o) (hg : o.guard = none) (hl : loud i = some p)
    (k : ∀ v, p v w → WR P ops loud K w rest (updo f o.dst v)) : WR P ops loud K w (i :: rest) f := by
  intro o' v' ho' hv'
  rw [ho] at ho'
  cases ho'
  unfold okd at hv'
  rw [if_pos (by simp [Region.wanted, hg])] at hv'
  simp only [hl] at hv'
  exact k v' hv'
theorem WR_readG {loud : Nat → Option (Value → World → Prop)} {K : FF → World → Prop} {f : FF} {i : Nat} {rest : List Nat} {o : Oper} {v : Value} {j t : Nat} {b : Bool} (ho : ops[i]? = some o) (hg : o.guard = some (j, b)) (ht : (ops[j]?).bind (·.dst) = some t) (hv : f t = .bool b)
    (hl : loud i = none) (h : runC P w (execOp (ev f) o) = some (.value v)) (k : WR P ops loud K w rest (updo f o.dst v)) : WR P ops loud K w (i :: rest) f := by
  intro o' v' ho' hv'
  rw [ho] at ho'
  cases ho'
  unfold okd at hv'
  rw [if_pos (by simp [Region.wanted, yl, hg, ht, hv])] at hv'
  simp only [hl, h, Option.some.injEq, Next.value.injEq] at hv'
  subst hv'
  exact k
theorem WR_loudG {loud : Nat → Option (Value → World → Prop)} {K : FF → World → Prop} {f : FF} {i : Nat} {rest : List Nat} {o : Oper} {p : Value → World → Prop} {j t : Nat} {b : Bool} (ho : ops[i]? = some o) (hg : o.guard = some (j, b)) (ht : (ops[j]?).bind (·.dst) = some t) (hv : f t = .bool b)
    (hl : loud i = some p) (k : ∀ v, p v w → WR P ops loud K w rest (updo f o.dst v)) : WR P ops loud K w (i :: rest) f := by
  intro o' v' ho' hv'
  rw [ho] at ho'
  cases ho'
  unfold okd at hv'
  rw [if_pos (by simp [Region.wanted, yl, hg, ht, hv])] at hv'
  simp only [hl] at hv'
  exact k v' hv'
theorem WR_not {loud : Nat → Option (Value → World → Prop)} {K : FF → World → Prop} {f : FF} {i : Nat} {rest : List Nat} {o : Oper} {j t : Nat} {b : Bool} (ho : ops[i]? = some o) (hg : o.guard = some (j, b)) (ht : (ops[j]?).bind (·.dst) = some t) (hv : f t = .bool !b)
    (k : WR P ops loud K w rest (updo f o.dst undef)) : WR P ops loud K w (i :: rest) f := by
  intro o' v' ho' hv'
  rw [ho] at ho'
  cases ho'
  unfold okd at hv'
  rw [if_neg (by simp [Region.wanted, yl, hg, ht, hv])] at hv'
  subst hv'
  exact k
theorem OA_read {loud : Nat → Option (Value → World → Prop)} {f : FF} {i : Nat} {o : Oper} {v : Value} (ho : ops[i]? = some o) (hl : loud i = none) (h : runC P w (execOp (ev f) o) = some (.value v)) : OwesAt P ops loud i f w := by
  intro o' ho' _
  rw [ho] at ho'
  cases ho'
  simp only [hl]
  exact ⟨v, h⟩
theorem OA_rd {loud : Nat → Option (Value → World → Prop)} {f : FF} {i : Nat} {d : Option Nat} {op : Op} {ty : TypeId} {pos : String} {aft : Array Edge} {g : Option (Nat × Bool)} {v : Value} (ho : ops[i]? = some ⟨d, op, ty, pos, aft, g⟩) (hl : loud i = none)
    (h : runC P w (execOp (ev f) ⟨d, op, ty, pos, aft, g⟩) = some (.value v)) : WR P ops loud (OwesAt P ops loud i) w [] f := OA_read ho hl h
theorem OA_ld {loud : Nat → Option (Value → World → Prop)} {f : FF} {i : Nat} {d : Option Nat} {op : Op} {ty : TypeId} {pos : String} {aft : Array Edge} {g : Option (Nat × Bool)} {p : Value → World → Prop} (ho : ops[i]? = some ⟨d, op, ty, pos, aft, g⟩) (hl : loud i = some p)
    (h : OS P ⟨d, op, ty, pos, aft, g⟩ (ev f) w fun v w' => p v w' ∧ Mod [] w w') : WR P ops loud (OwesAt P ops loud i) w [] f := by
  intro o' ho' _
  rw [ho] at ho'
  cases ho'
  simp only [hl]
  exact h
theorem OA_loud {loud : Nat → Option (Value → World → Prop)} {f : FF} {i : Nat} {o : Oper} {p : Value → World → Prop} (ho : ops[i]? = some o) (hl : loud i = some p) (h : OS P o (ev f) w fun v w' => p v w' ∧ Mod [] w w') : OwesAt P ops loud i f w := by
  intro o' ho' _
  rw [ho] at ho'
  cases ho'
  simp only [hl]
  exact h
theorem OA_not {loud : Nat → Option (Value → World → Prop)} {f : FF} {i : Nat} {o : Oper} {j t : Nat} {b : Bool} (ho : ops[i]? = some o) (hg : o.guard = some (j, b)) (ht : (ops[j]?).bind (·.dst) = some t) (hv : f t = .bool !b) : OwesAt P ops loud i f w := by
  intro o' ho' hw
  rw [ho] at ho'
  cases ho'
  simp [Region.wanted, yl, hg, ht, hv] at hw
end

section
variable {w0 w : World} {S : List Nat} {A : List Atom} {D : List Dat}
/-- a cell of a box -/
theorem Holds.bcell (H : Holds w0 S A D w) (i : Nat) {b o : Nat} {xs : List Value} {T : TypeId} {v : Value} (hi : A[i]? = some (box b xs T)) (hv : xs[o]? = some v) : w.cell? ⟨b, o, none⟩ = some v := by
  rw [block_cell (H.boxAt i hi)]; exact hv
theorem Holds.bcells (H : Holds w0 S A D w) (i n : Nat) {b o : Nat} {xs vs : List Value} {T : TypeId} (hi : A[i]? = some (box b xs T)) (hv : (xs.drop o).take n = vs) : Cells w b o vs :=
  block_cells (H.boxAt i hi) hv
/-- a cell of opened data -/
theorem Holds.dcell (H : Holds w0 S A D w) (i : Nat) {b o j : Nat} {vs : List Value} {v : Value} (hi : D[i]? = some (dcells b o vs)) (hv : vs[j]? = some v) : w.cell? ⟨b, o + j, none⟩ = some v :=
  (H.dat (List.mem_of_getElem? hi)).2.2 j v hv
theorem Holds.dcell0 (H : Holds w0 S A D w) (i : Nat) {b o : Nat} {vs : List Value} {v : Value} (hi : D[i]? = some (dcells b o vs)) (hv : vs[0]? = some v) : w.cell? ⟨b, o, none⟩ = some v :=
  (H.dat (List.mem_of_getElem? hi)).2.2 0 v hv
theorem Holds.dcs (H : Holds w0 S A D w) (i : Nat) {b o : Nat} {vs : List Value} (hi : D[i]? = some (dcells b o vs)) : Cells w b o vs := (H.dat (List.mem_of_getElem? hi)).2.2
theorem Holds.get (H : Holds w0 S A D w) (i : Nat) {d : Dat} (hi : D[i]? = some d) : d.ok (· ∈ owns A) w := H.dat (List.mem_of_getElem? hi)
end
end Go.Proofs.YtljpfnjpifhdlaaGreatDoor
namespace Go.Proofs.YtljpfnjpifhdlaaGreatDoor
open Go
section
variable {w0 w : World} {S : List Nat} {A : List Atom} {D : List Dat}
/-- the blocks that a callee's result keeps off -/
theorem Holds.hM (H : Holds w0 S A D w) {M : Nat → Prop} (hM : ∀ b, M b → b < w0.heap.size) : ∀ b, M b ∨ b ∈ owns A → b < w.heap.size := fun b h => by
  rcases h with h | h
  · exact Nat.lt_of_lt_of_le (hM b h) H.mod.size
  · exact H.lt b h
theorem Holds.arg {α : Type} {L : Lay α} {M : Nat → Prop} {x : α} {vs : List Value} (H : Holds w [] [] D w) (h : L.rd M w x vs) : Holds w [] [] (L.dat M x vs :: D) w :=
  H.add (L.grow _ _ _ _ _ (fun b _ hb => hb.resolve_right (by simp [owns])) h)
/-- at the end: what was made keeps off M -/
theorem Holds.out {α : Type} {L : Lay α} {M : Nat → Prop} {x : α} {vs : List Value} (H : Holds w0 S A D w) (i : Nat) (h : D[i]? = some (L.dat M x vs)) : L.rd M w x vs :=
  L.grow _ _ _ _ _ (fun _ _ hb => .inl hb) (H.get i h)
/-- a block of the call's own is none of M -/
theorem Holds.own {M : Nat → Prop} (H : Holds w0 [] A D w) (hM : ∀ b, M b → b < w0.heap.size) (i : Nat) {b : Nat} {xs : List Value} {T : TypeId} (hi : A[i]? = some (box b xs T)) : ¬ M b ∧ b < w.heap.size := by
  have hb : b ∈ owns A := mem_owns.2 ⟨box b xs T, List.mem_of_getElem? hi, by simp [box]⟩
  refine ⟨fun h => ?_, H.lt b hb⟩
  have := hM b h
  rcases H.low b hb with h' | h'
  · omega
  · simp at h'
/-- a box, whole -/
theorem X_loadAll {P : Program} {r : Operand → Value} {d : Option Tmp} {ty : TypeId} {pos : String} {aft : Array Edge} {g : Option (Nat × Bool)} (H : Holds w0 S A D w) {t : TypeId} {sz : Nat} {z : Value} [TyF P t true sz z] (x : Operand) {b : Nat} {xs : List Value} {T : TypeId}
    (hx : r x = .pointer (some ⟨b, 0, none⟩)) (hi : box b xs T ∈ A) (hl : xs.length = sz) : runC P w (execOp r ⟨d, .load t x, ty, pos, aft, g⟩) = some (.value (.agg xs.toArray)) :=
  X_loadN x hx (block_cells (T := T) (n := sz) (H.atom hi) (by rw [← hl]; simp)) hl
/-- a part of a box -/
theorem X_loadPart {P : Program} {r : Operand → Value} {d : Option Tmp} {ty : TypeId} {pos : String} {aft : Array Edge} {g : Option (Nat × Bool)} (H : Holds w0 S A D w) {t : TypeId} {sz : Nat} {z : Value} [TyF P t true sz z] (x : Operand) {b o : Nat} {xs : List Value} {T : TypeId}
    (hx : r x = .pointer (some ⟨b, o, none⟩)) (hi : box b xs T ∈ A) (hl : Nat.ble (o + sz) xs.length = true) : runC P w (execOp r ⟨d, .load t x, ty, pos, aft, g⟩) = some (.value (.agg ((xs.drop o).take sz).toArray)) :=
  X_loadN x hx (block_cells (T := T) (H.atom hi) rfl) (by have := Nat.le_of_ble_eq_true hl; simp; omega)
/-- an element of opened data, whole -/
theorem X_loadDat {P : Program} {r : Operand → Value} {d : Option Tmp} {ty : TypeId} {pos : String} {aft : Array Edge} {g : Option (Nat × Bool)} (H : Holds w0 S A D w) {t : TypeId} {sz : Nat} {z : Value} [TyF P t true sz z] (x : Operand) {b o : Nat} {vs : List Value}
    (hx : r x = .pointer (some ⟨b, o, none⟩)) (hi : dcells b o vs ∈ D) (hl : vs.length = sz) : runC P w (execOp r ⟨d, .load t x, ty, pos, aft, g⟩) = some (.value (.agg vs.toArray)) :=
  X_loadN x hx (H.dat hi).2.2 hl
/-- a cell of a box -/
theorem X_loadB {P : Program} {r : Operand → Value} {d : Option Tmp} {ty : TypeId} {pos : String} {aft : Array Edge} {g : Option (Nat × Bool)} (H : Holds w0 S A D w) {t : TypeId} {z : Value} [TyF P t false 1 z] (x : Operand) {b o : Nat} {xs : List Value} {T : TypeId} {v : Value}
    (hx : r x = .pointer (some ⟨b, o, none⟩)) (hi : box b xs T ∈ A) (hv : xs[o]? = some v) : runC P w (execOp r ⟨d, .load t x, ty, pos, aft, g⟩) = some (.value v) :=
  X_load1 x hx (by rw [block_cell (T := T) (H.atom hi)]; exact hv)
theorem X_loadD {P : Program} {r : Operand → Value} {d : Option Tmp} {ty : TypeId} {pos : String} {aft : Array Edge} {g : Option (Nat × Bool)} (H : Holds w0 S A D w) {t : TypeId} {z : Value} [TyF P t false 1 z] (x : Operand) {b o j : Nat} {vs : List Value} {v : Value}
    (hx : r x = .pointer (some ⟨b, o + j, none⟩)) (hi : dcells b o vs ∈ D) (hv : vs[j]? = some v) : runC P w (execOp r ⟨d, .load t x, ty, pos, aft, g⟩) = some (.value v) :=
  X_load1 x hx ((H.dat hi).2.2 j v hv)
theorem X_loadD0 {P : Program} {r : Operand → Value} {d : Option Tmp} {ty : TypeId} {pos : String} {aft : Array Edge} {g : Option (Nat × Bool)} (H : Holds w0 S A D w) {t : TypeId} {z : Value} [TyF P t false 1 z] (x : Operand) {b o : Nat} {vs : List Value} {v : Value}
    (hx : r x = .pointer (some ⟨b, o, none⟩)) (hi : dcells b o vs ∈ D) (hv : vs[0]? = some v) : runC P w (execOp r ⟨d, .load t x, ty, pos, aft, g⟩) = some (.value v) :=
  X_load1 x hx ((H.dat hi).2.2 0 v hv)
end
/-- what a call hands back: several cells -/
def PN {α : Type} (L : Lay α) (M : Nat → Prop) (x : α) : Value → World → Prop := fun v w => ∃ vs, v = .agg vs.toArray ∧ L.rd M w x vs
/-- one cell -/
def P1 {α : Type} (L : Lay α) (M : Nat → Prop) (x : α) : Value → World → Prop := fun v w => L.rd M w x [v]
/-- a plain value -/
def PV (u : Value) : Value → World → Prop := fun v _ => v = u
theorem PN_stab {α : Type} {L : Lay α} {M : Nat → Prop} {x : α} : ∀ v w w', PN L M x v w → Mod [] w w' → PN L M x v w' := fun _ _ _ ⟨vs, h1, h2⟩ hm => ⟨vs, h1, L.keep _ _ _ _ _ (fun b hb _ => hm.block b hb (by simp)) h2⟩
theorem P1_stab {α : Type} {L : Lay α} {M : Nat → Prop} {x : α} : ∀ v w w', P1 L M x v w → Mod [] w w' → P1 L M x v w' := fun _ _ _ h hm => L.keep _ _ _ _ _ (fun b hb _ => hm.block b hb (by simp)) h
theorem PV_stab {u : Value} : ∀ v w w', PV u v w → Mod [] w w' → PV u v w' := fun _ _ _ h _ => h
end Go.Proofs.YtljpfnjpifhdlaaGreatDoor
namespace Go.Proofs.YtljpfnjpifhdlaaGreatDoor
open Go
section
variable {w0 w : World} {S : List Nat} {A : List Atom} {D : List Dat}
/-- what new data must keep off: the caller's M and the blocks of the atoms -/
theorem Holds.off {M : Nat → Prop} (H : Holds w0 S A D w) (hM : ∀ b, M b → b < w0.heap.size) : ∃ M' : Nat → Prop, (∀ w' : World, w.heap.size ≤ w'.heap.size → ∀ b, M' b → b < w'.heap.size) ∧ (∀ b, M b → M' b) ∧
    ∀ {α : Type} {L : Lay α} {x : α} {vs : List Value} {w' : World}, L.rd M' w' x vs → (L.dat M x vs).ok (· ∈ owns A) w' :=
  ⟨fun b => M b ∨ b ∈ owns A, fun _ h b hb => Nat.lt_of_lt_of_le (H.hM hM b hb) h, fun _ h => .inl h, fun h => h⟩
theorem rdSl_one {α : Type} {L : Lay α} {M : Nat → Prop} {x : α} {us : List Value} {b c : Nat} (hc : 1 ≤ c) (hM : ¬ M b ∧ b < w.heap.size) (hx : L.rd M w x us) (h : Cells w b 0 us) : (LSl L).rd M w [x] [.slice (some ⟨b, 0, none⟩) 1 c] :=
  ⟨_, _, _, rfl, rfl, hc, .inr ⟨b, 0, rfl, hM.1, hM.2, ⟨us, hx, h⟩, trivial⟩⟩
theorem rdSl_two {α : Type} {L : Lay α} {M : Nat → Prop} {x y : α} {us ts : List Value} {b c : Nat} (hc : 2 ≤ c) (hM : ¬ M b ∧ b < w.heap.size) (hx : L.rd M w x us) (hy : L.rd M w y ts) (h : Cells w b 0 (us ++ ts)) : (LSl L).rd M w [x, y] [.slice (some ⟨b, 0, none⟩) 2 c] := by
  obtain ⟨h1, h2⟩ := Cells.append.1 h
  rw [L.len _ _ _ _ hx] at h2
  exact ⟨_, _, _, rfl, rfl, hc, .inr ⟨b, 0, rfl, hM.1, hM.2, ⟨us, hx, h1⟩, ⟨ts, hy, h2⟩, trivial⟩⟩
end
/-- two terms in a slice make a pair -/
theorem rdT_of_slice {M : Nat → Prop} {w : World} {x y : T} {v : Value} (h : (LSl LT).rd M w [x, y] [v]) : rdT M w (.pair x y) [.int .i64 4, .int .i64 0, .string ⟨#[]⟩, v] := by
  obtain ⟨a, n, c, hv, hn, hc, hl⟩ := h
  simp only [List.cons.injEq, and_true] at hv
  subst hv hn
  rcases hl with hl | ⟨b, o, rfl, hM, hb, ⟨us, hx, c1⟩, ⟨ts, hy, c2⟩, _⟩
  · cases hl
  · exact ⟨b, o, c, us, ts, rfl, hc, hM, hb, LT.len _ _ _ _ hx, hx, hy, c1, c2⟩
end Go.Proofs.YtljpfnjpifhdlaaGreatDoor
namespace Go.Proofs.YtljpfnjpifhdlaaGreatDoor
open Go
theorem bt {p : Prop} [Decidable p] (h : p) : Value.bool (decide p) = .bool true := by rw [decide_eq_true h]
theorem bte {a b : Int} (h : a = b) : Value.bool (a == b) = .bool true := by rw [h]; simp
theorem bfe {a b : Int} (h : a ≠ b) : Value.bool (a == b) = .bool false := by simp [h]
theorem btn {a b : Int} (h : a ≠ b) : Value.bool (a != b) = .bool true := by simp [h]
theorem bfn {a b : Int} (h : a = b) : Value.bool (a != b) = .bool false := by simp [h]
theorem bf {p : Prop} [Decidable p] (h : ¬ p) : Value.bool (decide p) = .bool false := by rw [decide_eq_false h]
section
variable {w0 w : World} {S : List Nat} {A : List Atom} {D : List Dat}
/-- one element more, its data -/
theorem Holds.snoc {α : Type} {L : Lay α} {M : Nat → Prop} {l : List α} {vss : List (List Value)} {x : α} {vs : List Value} (H : Holds w0 S A D w) (h1 : dall L M l vss ∈ D) (h2 : (L.dat M x vs).ok (· ∈ owns A) w) : Holds w0 S A (dall L M (l ++ [x]) (vss ++ [vs]) :: D) w :=
  H.add (d := dall L M (l ++ [x]) (vss ++ [vs])) (Alls.snoc (R := L.rd (fun b => M b ∨ b ∈ owns A) w) h2 (H.dat h1))
theorem Holds.dnil {α : Type} {L : Lay α} {M : Nat → Prop} (H : Holds w0 S A D w) : Holds w0 S A (dall L M [] [] :: D) w := H.add (d := dall L M [] []) trivial
/-- an element of a slice, opened -/
theorem Holds.elem {α : Type} {L : Lay α} {M : Nat → Prop} {l : List α} {a : Option Addr} {n c : Nat} (H : Holds w0 S A D w) (hm : (LSl L).dat M l [.slice a n c] ∈ D) (i : Nat) {x : α} (hx : l[i]? = some x) :
    ∃ b o vs, a = some ⟨b, o, none⟩ ∧ n = l.length ∧ i < n ∧ L.rd (fun b => M b ∨ b ∈ owns A) w x vs ∧ Holds w0 S A (dcells b (o + i * L.sz) vs :: L.dat M x vs :: D) w := by
  obtain ⟨a', n', c', h1, h2⟩ := H.dat hm
  simp only [List.cons.injEq, Value.slice.injEq, and_true] at h1
  obtain ⟨rfl, rfl, rfl⟩ := h1
  obtain ⟨b, o, vs, rfl, hM, hb, hr, hc⟩ := h2.get i hx
  refine ⟨b, o, vs, rfl, h2.1, ?_, hr, (H.add (d := L.dat M x vs) hr).add (d := dcells b (o + i * L.sz) vs) ⟨fun h => hM (.inr h), hb, hc⟩⟩
  rw [h2.1]; exact (List.getElem?_eq_some_iff.1 hx).1
theorem Holds.slen {α : Type} {L : Lay α} {M : Nat → Prop} {l : List α} {a : Option Addr} {n c : Nat} (H : Holds w0 S A D w) (hm : (LSl L).dat M l [.slice a n c] ∈ D) : n = l.length := by
  obtain ⟨a', n', c', h1, h2⟩ := H.dat hm
  simp only [List.cons.injEq, Value.slice.injEq, and_true] at h1
  obtain ⟨rfl, rfl, rfl⟩ := h1
  exact h2.1
end
theorem rdSl_val {α : Type} {L : Lay α} {M : Nat → Prop} {w : World} {l : List α} {v : Value} (h : (LSl L).rd M w l [v]) : ∃ a c, v = .slice a l.length c := by
  obtain ⟨a, n, c, h1, h2, _⟩ := h
  simp only [List.cons.injEq, and_true] at h1
  subst h1 h2
  exact ⟨a, c, rfl⟩
/-- the one element of a slice -/
theorem rdSl_at {α : Type} {L : Lay α} {M : Nat → Prop} {w : World} {x : α} {v : Value} (h : (LSl L).rd M w [x] [v]) : ∃ b o c vs, v = .slice (some ⟨b, o, none⟩) 1 c ∧ L.rd M w x vs ∧ Cells w b o vs := by
  obtain ⟨a, n, c, h1, h2⟩ := h
  simp only [List.cons.injEq, and_true] at h1
  obtain ⟨b, o, vs, rfl, _, _, hr, hc⟩ := h2.get 0 rfl
  have := h2.1
  simp at this
  subst h1 this
  exact ⟨b, o, c, vs, rfl, hr, by simpa using hc⟩
theorem take_snoc {α : Type} {l : List α} {k : Nat} {x : α} (h : l[k]? = some x) : l.take (k + 1) = l.take k ++ [x] := by
  obtain ⟨hk, rfl⟩ := List.getElem?_eq_some_iff.1 h
  rw [List.take_succ_eq_append_getElem hk]
end Go.Proofs.YtljpfnjpifhdlaaGreatDoor
namespace Go.Proofs.YtljpfnjpifhdlaaGreatDoor
section
variable {α : Type} {D : List α} {a b c d e f : α}
theorem sub0 : ∀ x ∈ ([] : List α), x ∈ D := by simp
theorem sub1 (h1 : a ∈ D) : ∀ x ∈ [a], x ∈ D := by simpa using h1
theorem sub2 (h1 : a ∈ D) (h2 : b ∈ D) : ∀ x ∈ [a, b], x ∈ D := by
  intro x hx; simp only [List.mem_cons, List.not_mem_nil, or_false] at hx; rcases hx with rfl | rfl <;> assumption
theorem sub3 (h1 : a ∈ D) (h2 : b ∈ D) (h3 : c ∈ D) : ∀ x ∈ [a, b, c], x ∈ D := by
  intro x hx; simp only [List.mem_cons, List.not_mem_nil, or_false] at hx; rcases hx with rfl | rfl | rfl <;> assumption
theorem sub4 (h1 : a ∈ D) (h2 : b ∈ D) (h3 : c ∈ D) (h4 : d ∈ D) : ∀ x ∈ [a, b, c, d], x ∈ D := by
  intro x hx; simp only [List.mem_cons, List.not_mem_nil, or_false] at hx; rcases hx with rfl | rfl | rfl | rfl <;> assumption
theorem sub5 (h1 : a ∈ D) (h2 : b ∈ D) (h3 : c ∈ D) (h4 : d ∈ D) (h5 : e ∈ D) : ∀ x ∈ [a, b, c, d, e], x ∈ D := by
  intro x hx; simp only [List.mem_cons, List.not_mem_nil, or_false] at hx; rcases hx with rfl | rfl | rfl | rfl | rfl <;> assumption
theorem sub6 (h1 : a ∈ D) (h2 : b ∈ D) (h3 : c ∈ D) (h4 : d ∈ D) (h5 : e ∈ D) (h6 : f ∈ D) : ∀ x ∈ [a, b, c, d, e, f], x ∈ D := by
  intro x hx; simp only [List.mem_cons, List.not_mem_nil, or_false] at hx; rcases hx with rfl | rfl | rfl | rfl | rfl | rfl <;> assumption
end

/-! Steps that find their own side conditions -/
section
variable {P : Program} {n : Nat} {ops : Array Oper} {K : FF → World → Prop} {rest : List Oper} {f : FF} {w w0 : World} {S : List Nat} {A A' : List Atom} {D : List Dat} {r : Operand → Value} {o : Oper} {v : Value} {d : Nat} {op : Op} {ty : TypeId} {pos : String} {aft : Array Edge} {Q : FPost} {x y : Code} {c : Operand} {g : Nat × Bool} {j t : Nat} {b : Bool}
theorem qrx (h : runC P w (execOp r o) = some (.value v) := by (first | ((with_reducible show runC _ _ (execOp _ ⟨_, .move _, _, _, _, _⟩) = _); first | exact X_mv (v := .int _ _) _ (by exact rfl) | exact X_mv (v := .slice _ _ _) _ (by exact rfl) | exact X_mv (v := .pointer _) _ (by exact rfl) | exact X_mv (v := .bool _) _ (by exact rfl) | exact X_mv (v := .string _) _ (by exact rfl) | exact X_mv (v := .map _) _ (by exact rfl) | exact X_mv (v := .func _ _ _) _ (by exact rfl) | exact X_mv (v := .agg _) _ (by exact rfl) | exact X_mv (v := .tuple _) _ (by exact rfl) | exact X_mv (v := _) _ (by exact rfl) ) | ((with_reducible show runC _ _ (execOp _ ⟨_, .assign _, _, _, _, _⟩) = _); first | exact X_as (v := .int _ _) _ (by exact rfl) | exact X_as (v := .slice _ _ _) _ (by exact rfl) | exact X_as (v := .pointer _) _ (by exact rfl) | exact X_as (v := .bool _) _ (by exact rfl) | exact X_as (v := .string _) _ (by exact rfl) | exact X_as (v := .map _) _ (by exact rfl) | exact X_as (v := .func _ _ _) _ (by exact rfl) | exact X_as (v := .agg _) _ (by exact rfl) | exact X_as (v := .tuple _) _ (by exact rfl) | exact X_as (v := _) _ (by exact rfl) ) | ((with_reducible show runC _ _ (execOp _ ⟨_, .fieldAddr _ _ _, _, _, _, _⟩) = _); first | exact X_fieldAddr _ (by exact rfl) ) | ((with_reducible show runC _ _ (execOp _ ⟨_, .load _ _, _, _, _, _⟩) = _); first | exact X_loadB H _ (by exact rfl) (by repeat (first | exact List.Mem.head _ | apply List.Mem.tail)) (by exact rfl) | exact X_loadAll H _ (by exact rfl) (by repeat (first | exact List.Mem.head _ | apply List.Mem.tail)) (by exact rfl) | exact X_loadD H _ (by exact rfl) (by repeat (first | exact List.Mem.head _ | apply List.Mem.tail)) (by exact rfl) | exact X_loadD0 H _ (by exact rfl) (by repeat (first | exact List.Mem.head _ | apply List.Mem.tail)) (by exact rfl) | exact X_loadDat H _ (by exact rfl) (by repeat (first | exact List.Mem.head _ | apply List.Mem.tail)) (by exact rfl) | exact X_loadPart H _ (by exact rfl) (by repeat (first | exact List.Mem.head _ | apply List.Mem.tail)) (by exact rfl) ) | ((with_reducible show runC _ _ (execOp _ ⟨_, .indexAddr _ _ _, _, _, _, _⟩) = _); first | exact X_indexAddr _ _ _ (by exact rfl) (by exact rfl) (by first | exact Nat.le_of_ble_eq_true (by exact rfl) | omega) ) | ((with_reducible show runC _ _ (execOp _ ⟨_, .call ⟨.builtin .len, _, _⟩, _, _, _, _⟩) = _); first | exact X_len _ (by exact rfl) | exact X_lenS _ (by exact rfl) ) | ((with_reducible show runC _ _ (execOp _ ⟨_, .nilCheck _, _, _, _, _⟩) = _); first | exact X_nil _ (by exact rfl) ) | ((with_reducible show runC _ _ (execOp _ ⟨_, .binOp .eql _ _ _ _, _, _, _, _⟩) = _); first | exact X_eqlT _ _ (by exact rfl) (by exact rfl) (by omega) | exact X_eqlF _ _ (by exact rfl) (by exact rfl) (by omega) | exact X_cmp_eql _ _ (by exact rfl) (by exact rfl) | exact X_seT _ _ (by exact rfl) (by exact rfl) (by first | exact rfl | assumption) | exact X_seF _ _ (by exact rfl) (by exact rfl) (by assumption) | exact X_str_eql _ _ (by exact rfl) (by exact rfl) ) | ((with_reducible show runC _ _ (execOp _ ⟨_, .binOp .neq _ _ _ _, _, _, _, _⟩) = _); first | exact X_neqT _ _ (by exact rfl) (by exact rfl) (by omega) | exact X_neqF _ _ (by exact rfl) (by exact rfl) (by omega) | exact X_cmp_neq _ _ (by exact rfl) (by exact rfl) | exact X_snF _ _ (by exact rfl) (by exact rfl) (by first | exact rfl | assumption) | exact X_snT _ _ (by exact rfl) (by exact rfl) (by assumption) | exact X_str_neq _ _ (by exact rfl) (by exact rfl) ) | ((with_reducible show runC _ _ (execOp _ ⟨_, .binOp .lss _ _ _ _, _, _, _, _⟩) = _); first | exact X_lssT _ _ (by exact rfl) (by exact rfl) (by omega) | exact X_lssF _ _ (by exact rfl) (by exact rfl) (by omega) | exact X_cmp_lss _ _ (by exact rfl) (by exact rfl) | exact X_str_lss _ _ (by exact rfl) (by exact rfl) ) | ((with_reducible show runC _ _ (execOp _ ⟨_, .binOp .leq _ _ _ _, _, _, _, _⟩) = _); first | exact X_leqT _ _ (by exact rfl) (by exact rfl) (by omega) | exact X_leqF _ _ (by exact rfl) (by exact rfl) (by omega) | exact X_cmp_leq _ _ (by exact rfl) (by exact rfl) ) | ((with_reducible show runC _ _ (execOp _ ⟨_, .binOp .gtr _ _ _ _, _, _, _, _⟩) = _); first | exact X_gtrT _ _ (by exact rfl) (by exact rfl) (by omega) | exact X_gtrF _ _ (by exact rfl) (by exact rfl) (by omega) | exact X_cmp_gtr _ _ (by exact rfl) (by exact rfl) ) | ((with_reducible show runC _ _ (execOp _ ⟨_, .binOp .geq _ _ _ _, _, _, _, _⟩) = _); first | exact X_geqT _ _ (by exact rfl) (by exact rfl) (by omega) | exact X_geqF _ _ (by exact rfl) (by exact rfl) (by omega) | exact X_cmp_geq _ _ (by exact rfl) (by exact rfl) ) | ((with_reducible show runC _ _ (execOp _ ⟨_, .binOp .add _ _ _ _, _, _, _, _⟩) = _); first | exact X_add _ _ (by exact rfl) (by exact rfl) (by omega) ) | ((with_reducible show runC _ _ (execOp _ ⟨_, .binOp .sub _ _ _ _, _, _, _, _⟩) = _); first | exact X_sub _ _ (by exact rfl) (by exact rfl) (by omega) ) | ((with_reducible show runC _ _ (execOp _ ⟨_, .unOp .not _ _, _, _, _, _⟩) = _); first | exact X_not _ (by exact rfl) ) | ((with_reducible show runC _ _ (execOp _ ⟨_, .extract _ _, _, _, _, _⟩) = _); first | exact X_extract _ (by exact rfl) (by exact rfl) ) | ((with_reducible show runC _ _ (execOp _ ⟨_, .lookup _ _ _ _, _, _, _, _⟩) = _); first | exact X_lookV H _ _ (by exact rfl) (by exact rfl) (by repeat (first | exact List.Mem.head _ | apply List.Mem.tail)) (by assumption) | exact X_lookN H _ _ (by exact rfl) (by exact rfl) (by repeat (first | exact List.Mem.head _ | apply List.Mem.tail)) (by assumption) | exact X_lookOkV H _ _ (by exact rfl) (by exact rfl) (by repeat (first | exact List.Mem.head _ | apply List.Mem.tail)) (by assumption) | exact X_lookOkN H _ _ (by exact rfl) (by exact rfl) (by repeat (first | exact List.Mem.head _ | apply List.Mem.tail)) (by assumption) ) | ((with_reducible show runC _ _ (execOp _ ⟨_, .makeFunc _ _ _, _, _, _, _⟩) = _); first | exact X_fn0 | exact X_fn1 _ | exact X_fn2 _ _ | exact X_fn3 _ _ _ | exact X_fn4 _ _ _ _ ) | ((with_reducible show runC _ _ (execOp _ ⟨_, .pick _ _ _, _, _, _, _⟩) = _); first | exact X_pickT _ _ _ (by exact rfl) | exact X_pickF _ _ _ (by exact rfl) ) | ((with_reducible show runC _ _ (execOp _ ⟨_, .index _ _ _, _, _, _, _⟩) = _); first | exact X_index _ _ _ (by exact rfl) (by exact rfl) (by assumption) ))) : runC P w (execOp r o) = some (.value v) := h
theorem qrp (h : runC P w (execOp r o) = some (.value v) := by (first | ((with_reducible show runC _ _ (execOp _ ⟨_, .move _, _, _, _, _⟩) = _); first | exact X_mv (v := .int _ _) _ (by exact rfl) | exact X_mv (v := .slice _ _ _) _ (by exact rfl) | exact X_mv (v := .pointer _) _ (by exact rfl) | exact X_mv (v := .bool _) _ (by exact rfl) | exact X_mv (v := .string _) _ (by exact rfl) | exact X_mv (v := .map _) _ (by exact rfl) | exact X_mv (v := .func _ _ _) _ (by exact rfl) | exact X_mv (v := .agg _) _ (by exact rfl) | exact X_mv (v := .tuple _) _ (by exact rfl) | exact X_mv (v := _) _ (by exact rfl) ) | ((with_reducible show runC _ _ (execOp _ ⟨_, .assign _, _, _, _, _⟩) = _); first | exact X_as (v := .int _ _) _ (by exact rfl) | exact X_as (v := .slice _ _ _) _ (by exact rfl) | exact X_as (v := .pointer _) _ (by exact rfl) | exact X_as (v := .bool _) _ (by exact rfl) | exact X_as (v := .string _) _ (by exact rfl) | exact X_as (v := .map _) _ (by exact rfl) | exact X_as (v := .func _ _ _) _ (by exact rfl) | exact X_as (v := .agg _) _ (by exact rfl) | exact X_as (v := .tuple _) _ (by exact rfl) | exact X_as (v := _) _ (by exact rfl) ) | ((with_reducible show runC _ _ (execOp _ ⟨_, .fieldAddr _ _ _, _, _, _, _⟩) = _); first | exact X_fieldAddr _ (by exact rfl) ) | ((with_reducible show runC _ _ (execOp _ ⟨_, .load _ _, _, _, _, _⟩) = _); first | exact X_loadB H _ (by exact rfl) (by repeat (first | exact List.Mem.head _ | apply List.Mem.tail)) (by exact rfl) | exact X_loadAll H _ (by exact rfl) (by repeat (first | exact List.Mem.head _ | apply List.Mem.tail)) (by exact rfl) | exact X_loadD H _ (by exact rfl) (by repeat (first | exact List.Mem.head _ | apply List.Mem.tail)) (by exact rfl) | exact X_loadD0 H _ (by exact rfl) (by repeat (first | exact List.Mem.head _ | apply List.Mem.tail)) (by exact rfl) | exact X_loadDat H _ (by exact rfl) (by repeat (first | exact List.Mem.head _ | apply List.Mem.tail)) (by exact rfl) | exact X_loadPart H _ (by exact rfl) (by repeat (first | exact List.Mem.head _ | apply List.Mem.tail)) (by exact rfl) ) | ((with_reducible show runC _ _ (execOp _ ⟨_, .indexAddr _ _ _, _, _, _, _⟩) = _); first | exact X_indexAddr _ _ _ (by exact rfl) (by exact rfl) (by first | exact Nat.le_of_ble_eq_true rfl | omega) ) | ((with_reducible show runC _ _ (execOp _ ⟨_, .nilCheck _, _, _, _, _⟩) = _); first | exact X_nil _ (by exact rfl) ) | ((with_reducible show runC _ _ (execOp _ ⟨_, .extract _ _, _, _, _, _⟩) = _); first | exact X_extract _ (by exact rfl) (by exact rfl) ) | ((with_reducible show runC _ _ (execOp _ ⟨_, .pick _ _ _, _, _, _, _⟩) = _); first | exact X_pickT _ _ _ (by exact rfl) | exact X_pickF _ _ _ (by exact rfl) ) | ((with_reducible show runC _ _ (execOp _ ⟨_, .unOp .not _ _, _, _, _, _⟩) = _); first | exact X_not _ (by exact rfl) ) | ((with_reducible show runC _ _ (execOp _ ⟨_, .makeFunc _ _ _, _, _, _, _⟩) = _); first | exact X_fn0 | exact X_fn1 _ | exact X_fn2 _ _ | exact X_fn3 _ _ _ | exact X_fn4 _ _ _ _ ) | ((with_reducible show runC _ _ (execOp _ ⟨_, .index _ _ _, _, _, _, _⟩) = _); first | exact X_index _ _ _ (by exact rfl) (by exact rfl) (by assumption) ) | ((with_reducible show runC _ _ (execOp _ ⟨_, .lookup _ _ _ _, _, _, _, _⟩) = _); first | exact X_lookV H _ _ (by exact rfl) (by exact rfl) (by repeat (first | exact List.Mem.head _ | apply List.Mem.tail)) (by assumption) | exact X_lookN H _ _ (by exact rfl) (by exact rfl) (by repeat (first | exact List.Mem.head _ | apply List.Mem.tail)) (by assumption) | exact X_lookOkV H _ _ (by exact rfl) (by exact rfl) (by repeat (first | exact List.Mem.head _ | apply List.Mem.tail)) (by assumption) | exact X_lookOkN H _ _ (by exact rfl) (by exact rfl) (by repeat (first | exact List.Mem.head _ | apply List.Mem.tail)) (by assumption) ) | ((with_reducible show runC _ _ (execOp _ ⟨_, .binOp .add _ _ _ _, _, _, _, _⟩) = _); first | exact X_add _ _ (by exact rfl) (by exact rfl) (by omega) | exact X_str_add _ _ (by exact rfl) (by exact rfl) (by omega) ) | ((with_reducible show runC _ _ (execOp _ ⟨_, .binOp .sub _ _ _ _, _, _, _, _⟩) = _); first | exact X_sub _ _ (by exact rfl) (by exact rfl) (by omega) ) | ((with_reducible show runC _ _ (execOp _ ⟨_, .binOp .eql _ _ _ _, _, _, _, _⟩) = _); first | exact X_cmp_eql _ _ (by exact rfl) (by exact rfl) | exact X_str_eql _ _ (by exact rfl) (by exact rfl) ) | ((with_reducible show runC _ _ (execOp _ ⟨_, .binOp .neq _ _ _ _, _, _, _, _⟩) = _); first | exact X_cmp_neq _ _ (by exact rfl) (by exact rfl) | exact X_str_neq _ _ (by exact rfl) (by exact rfl) ) | ((with_reducible show runC _ _ (execOp _ ⟨_, .binOp .lss _ _ _ _, _, _, _, _⟩) = _); first | exact X_cmp_lss _ _ (by exact rfl) (by exact rfl) | exact X_str_lss _ _ (by exact rfl) (by exact rfl) ) | ((with_reducible show runC _ _ (execOp _ ⟨_, .binOp .leq _ _ _ _, _, _, _, _⟩) = _); first | exact X_cmp_leq _ _ (by exact rfl) (by exact rfl) ) | ((with_reducible show runC _ _ (execOp _ ⟨_, .binOp .gtr _ _ _ _, _, _, _, _⟩) = _); first | exact X_cmp_gtr _ _ (by exact rfl) (by exact rfl) ) | ((with_reducible show runC _ _ (execOp _ ⟨_, .binOp .geq _ _ _ _, _, _, _, _⟩) = _); first | exact X_cmp_geq _ _ (by exact rfl) (by exact rfl) ) | ((with_reducible show runC _ _ (execOp _ ⟨_, .call ⟨.builtin .len, _, _⟩, _, _, _, _⟩) = _); first | exact X_len _ (by exact rfl) | exact X_lenS _ (by exact rfl) ))) : runC P w (execOp r o) = some (.value v) := h
theorem qi0 (k : WO P n ops K (⟨some d, op, ty, pos, aft, none⟩ :: rest) f w) : WO P n ops K (⟨some d, op, ty, pos, aft, none⟩ :: rest) f w := k
theorem qi1 (k : WO P n ops K (⟨some d, op, ty, pos, aft, some g⟩ :: rest) f w) : WO P n ops K (⟨some d, op, ty, pos, aft, some g⟩ :: rest) f w := k
theorem qi2 {g : Option (Nat × Bool)} (k : WO P n ops K (⟨none, op, ty, pos, aft, g⟩ :: rest) f w) : WO P n ops K (⟨none, op, ty, pos, aft, g⟩ :: rest) f w := k
theorem qi3 (k : W P n (.cond c x y) Q f w) : W P n (.cond c x y) Q f w := k
theorem qrd (k : WO P n ops K rest (upd f d v) w) (hd : Nat.blt d n = true := by exact rfl) (h : runC P w (execOp (ev f) ⟨some d, op, ty, pos, aft, none⟩) = some (.value v) := by exact qrx) : WO P n ops K (⟨some d, op, ty, pos, aft, none⟩ :: rest) f w := WO_rd hd h k
theorem qrg (k : WO P n ops K rest (upd f d v) w) (hd : Nat.blt d n = true := by exact rfl) (ht : (ops[j]?).bind (·.dst) = some t := by exact rfl) (hv : f t = .bool b := by exact rfl) (h : runC P w (execOp (ev f) ⟨some d, op, ty, pos, aft, some (j, b)⟩) = some (.value v) := by exact qrx) :
    WO P n ops K (⟨some d, op, ty, pos, aft, some (j, b)⟩ :: rest) f w := WO_g hd ht hv (S_read h k)
theorem qrn (k : WO P n ops K rest (upd f d undef) w) (hd : Nat.blt d n = true := by exact rfl) (ht : (ops[j]?).bind (·.dst) = some t := by exact rfl) (hv : f t = .bool !b := by exact rfl) :
    WO P n ops K (⟨some d, op, ty, pos, aft, some (j, b)⟩ :: rest) f w := WO_gn hd ht hv k
theorem WO_gu (hd : Nat.blt d n = true) (ht : (ops[j]?).bind (·.dst) = some t) (hv : f t = undef) (h : WO P n ops K rest (upd f d undef) w) :
    WO P n ops K (⟨some d, op, ty, pos, aft, some (j, b)⟩ :: rest) f w := by
  unfold WO
  rw [if_neg (by simp [Region.wanted, yl, ht, hv, undef])]
  exact ⟨h, hd⟩
theorem qru (k : WO P n ops K rest (upd f d undef) w) (hd : Nat.blt d n = true := by exact rfl) (ht : (ops[j]?).bind (·.dst) = some t := by exact rfl) (hv : f t = undef := by exact rfl) :
    WO P n ops K (⟨some d, op, ty, pos, aft, some (j, b)⟩ :: rest) f w := WO_gu hd ht hv k
theorem qkT (k : W P n x Q f w) (h : ev f c = .bool true := by exact rfl) : W P n (.cond c x y) Q f w := W_true h k
theorem qkF (k : W P n y Q f w) (h : ev f c = .bool false := by exact rfl) : W P n (.cond c x y) Q f w := W_false h k
theorem qkU (k : W P n x Q f w) (h : ev f c = .bool true := by first | exact bt (by omega) | exact bte (by omega) | exact btn (by omega)) : W P n (.cond c x y) Q f w := W_true h k
theorem qkV (k : W P n y Q f w) (h : ev f c = .bool false := by first | exact bf (by omega) | exact bfe (by omega) | exact bfn (by omega)) : W P n (.cond c x y) Q f w := W_false h k
/-- a new box -/
structure MkB (P : Program) (o : Oper) (r : Operand → Value) (xs : List Value) (T : TypeId) : Prop where
  go : ∀ {w0 w : World} {S : List Nat} {A : List Atom} {D : List Dat} {K : Value → World → Prop}, Holds w0 S A D w → (∀ b w', Holds w0 S (box b xs T :: A) D w' → K (.pointer (some ⟨b, 0, none⟩)) w') → OS P o r w K
section
variable {dd : Option Tmp} {gg : Option (Nat × Bool)} {T : TypeId} {sz : Nat} {p q : Operand} {o : Nat} {xs vs : List Value} {b : Nat} {u : Value}
theorem mkB1 (hx : r p = v) (h1 : v.cells = #[v]) : MkB P ⟨dd, .box T p, ty, pos, aft, gg⟩ r [v] T := ⟨fun H k => S_box1 H p hx h1 k⟩
theorem mkBN (hx : r p = .agg xs.toArray) : MkB P ⟨dd, .box T p, ty, pos, aft, gg⟩ r xs T := ⟨fun H k => S_boxN H p hx k⟩
theorem mkA [TyF P T true sz (.agg xs.toArray)] : MkB P ⟨dd, .alloc T, ty, pos, aft, gg⟩ r xs T := ⟨fun H k => S_alloc H k⟩
theorem mkA1 [TyF P T false 1 u] (hz : u.cells = #[u]) : MkB P ⟨dd, .alloc T, ty, pos, aft, gg⟩ r [u] T := ⟨fun H k => S_alloc1 H hz k⟩
theorem qrb (H : Holds w0 S A D w) (k : ∀ b w', Holds w0 S (box b xs T :: A) D w' → WO P n ops K rest (upd f d (.pointer (some ⟨b, 0, none⟩))) w') (hd : Nat.blt d n = true := by exact rfl)
    (h : MkB P ⟨some d, op, ty, pos, aft, none⟩ (ev f) xs T := by first | exact mkBN (by exact rfl) | exact mkB1 (by exact rfl) (by exact rfl) | exact mkA | exact mkA1 (by exact rfl)) : WO P n ops K (⟨some d, op, ty, pos, aft, none⟩ :: rest) f w := WO_s hd (h.go H k)
/-- a store -/
structure MkS (P : Program) (A : List Atom) (o : Oper) (r : Operand → Value) (A' : List Atom) : Prop where
  go : ∀ {w0 w : World} {S : List Nat} {D : List Dat} {K : Value → World → Prop}, Holds w0 S A D w → (∀ w', Holds w0 S A' D w' → K undef w') → OS P o r w K
theorem mkSN (i : Nat) [TyF P t true sz u] (hi : A[i]? = some (box b xs T) := by exact rfl) (hx : r p = .pointer (some ⟨b, o, none⟩) := by exact rfl) (hy : r q = .agg vs.toArray := by exact rfl) (hl : vs.length = sz := by exact rfl) (h1 : vs.all Value.oneCell' = true := by exact rfl)
    (hle : Nat.ble (o + sz) xs.length = true := by exact rfl) : MkS P A ⟨dd, .store t p q, ty, pos, aft, gg⟩ r (A.set i (box b (putAt xs o vs) T)) := ⟨fun H k => S_storeN H i p q hi hx hy hl h1 hle k⟩
theorem mkS1 (i : Nat) [TyF P t false 1 u] (hi : A[i]? = some (box b xs T) := by exact rfl) (hx : r p = .pointer (some ⟨b, o, none⟩) := by exact rfl) (hy : r q = v := by exact rfl) (hv : v.cells = #[v] := by exact rfl) (h1 : v.oneCell' = true := by exact rfl)
    (hle : Nat.ble (o + 1) xs.length = true := by exact rfl) : MkS P A ⟨dd, .store t p q, ty, pos, aft, gg⟩ r (A.set i (box b (putAt xs o [v]) T)) := ⟨fun H k => S_store1 H i p q hi hx hy hv h1 hle k⟩
theorem qrs (H : Holds w0 S A D w) (k : ∀ w', Holds w0 S A' D w' → WO P n ops K rest f w')
    (h : MkS P A ⟨none, op, ty, pos, aft, none⟩ (ev f) A' := by (first | exact mkSN 0 | exact mkS1 0 | exact mkSN 1 | exact mkS1 1 | exact mkSN 2 | exact mkS1 2 | exact mkSN 3 | exact mkS1 3 | exact mkSN 4 | exact mkS1 4 | exact mkSN 5 | exact mkS1 5 | exact mkSN 6 | exact mkS1 6 | exact mkSN 7 | exact mkS1 7)) : WO P n ops K (⟨none, op, ty, pos, aft, none⟩ :: rest) f w := WO_n (h.go H k)
end
/-- the next step of the code, where only one fits -/
class Cs (X : Prop) (Y : outParam Prop) : Prop where
  imp : Y → X
theorem qcs {X Y : Prop} [h : Cs X Y] (k : Y) : X := h.imp k
section
variable {id i : Nat} {l : List Oper} {k : FF → World → Prop} {X : Prop} {ops : Array Oper}
instance (priority := 2000) : Cs (W P n (.seq (.region id l.toArray false) y) Q f w) (WO P n l.toArray (W P n y Q) l f w) := ⟨W_rs⟩
variable {z : Code}
instance : Cs (W P n (.seq (.seq x z) y) Q f w) (W P n (.seq x z) (sq (W P n y Q) Q) f w) := ⟨W_seq⟩
instance : Cs (W P n (.seq (.cond c x z) y) Q f w) (W P n (.cond c x z) (sq (W P n y Q) Q) f w) := ⟨W_seq⟩
instance : Cs (W P n (.seq (.block i x) y) Q f w) (W P n (.block i x) (sq (W P n y Q) Q) f w) := ⟨W_seq⟩
instance : Cs (W P n (.seq (.loop x) y) Q f w) (W P n (.loop x) (sq (W P n y Q) Q) f w) := ⟨W_seq⟩
instance : Cs (W P n (.seq .skip y) Q f w) (W P n .skip (sq (W P n y Q) Q) f w) := ⟨W_seq⟩
instance : Cs (W P n (.seq .ret y) Q f w) (W P n .ret (sq (W P n y Q) Q) f w) := ⟨W_seq⟩
instance : Cs (W P n (.seq (.exit i) y) Q f w) (W P n (.exit i) (sq (W P n y Q) Q) f w) := ⟨W_seq⟩
instance : Cs (W P n (.block i x) Q f w) (W P n x (bq i Q) f w) := ⟨W_block⟩
instance : Cs (W P n (.region id l.toArray false) Q f w) (WO P n l.toArray (fun f w => Q .normal f w) l f w) := ⟨W_region⟩
instance : Cs (W P n .skip Q f w) (Q .normal f w) := ⟨W_skip⟩
instance : Cs (W P n (.exit i) Q f w) (Q (.exit i) f w) := ⟨W_exit⟩
instance : Cs (W P n .ret Q f w) (Q .ret f w) := ⟨W_ret⟩
instance : Cs (WO P n ops K [] f w) (K f w) := ⟨WO_end⟩
instance : Cs (sq k Q .normal f w) (k f w) := ⟨nx⟩
instance : Cs (bq i Q .normal f w) (Q .normal f w) := ⟨nb⟩
instance : Cs (retQ k .ret f w) (k f w) := ⟨nr⟩
instance : Cs (retQ k .normal f w) (k f w) := ⟨nn⟩
instance : Cs (sq k Q .ret f w) (Q .ret f w) := ⟨nx_ret⟩
instance : Cs (sq k Q (.exit i) f w) (Q (.exit i) f w) := ⟨nx_exit⟩
instance : Cs (bq i Q .ret f w) (Q .ret f w) := ⟨nb_ret⟩
instance (priority := 2000) : Cs (bq i Q (.exit i) f w) (Q .normal f w) := ⟨nb_exit⟩
end
theorem qnbo {i j : Nat} (h : Q (.exit j) f w) (hn : Nat.beq j i = false := by exact rfl) : bq i Q (.exit j) f w := nb_out hn h
/-- a thing that no search finds -/
structure Hd (Y : Prop) : Prop where
  out : Y
/-- steps that leave memory and names as they are -/
theorem qq {X Y : Prop} (k : Y) (h : Hd Y → X := by intro k; (first | refine qcs ?_ | ((with_reducible refine qi0 ?_); refine qrd ?_) | ((with_reducible refine qi1 ?_); first | refine qrn ?_ | refine qrg ?_ | refine qru ?_) | ((with_reducible refine qi3 ?_); first | refine qkT ?_ | refine qkF ?_ | refine qkU ?_ | refine qkV ?_) | refine qnbo ?_); (repeat (first | refine qcs ?_ | ((with_reducible refine qi0 ?_); refine qrd ?_) | ((with_reducible refine qi1 ?_); first | refine qrn ?_ | refine qrg ?_ | refine qru ?_) | ((with_reducible refine qi3 ?_); first | refine qkT ?_ | refine qkF ?_ | refine qkU ?_ | refine qkV ?_) | refine qnbo ?_)); exact k.out) : X := h ⟨k⟩
theorem qds {id : Nat} {ops : Array Oper} (H : Holds w0 S A D w) (k : Holds w0 S A D w.drew → WD P n ops (W P n y Q) 0 f w.drew) (mx : P.follows .mixedOrders = true := by exact mixed) : W P n (.seq (.region id ops true) y) Q f w := W_ds mx (k H.drew)
theorem qdr {id : Nat} {ops : Array Oper} (H : Holds w0 S A D w) (k : Holds w0 S A D w.drew → WD P n ops (fun f w => Q .normal f w) 0 f w.drew) (mx : P.follows .mixedOrders = true := by exact mixed) : W P n (.region id ops true) Q f w := W_drawn mx (k H.drew)
end
section
variable {P : Program} {ops : Array Oper} {w : World} {loud : Nat → Option (Value → World → Prop)} {K : FF → World → Prop} {f : FF} {i : Nat} {rest : List Nat} {d : Nat} {op : Op} {ty : TypeId} {pos : String} {aft : Array Edge} {v : Value} {o : Oper} {p : Value → World → Prop} {j t : Nat} {b : Bool} {g : Option (Nat × Bool)} {dd : Option Nat}
theorem qwr (k : WR P ops loud K w rest (upd f d v)) (ho : ops[i]? = some ⟨some d, op, ty, pos, aft, none⟩ := by exact rfl) (hl : loud i = none := by exact rfl) (h : runC P w (execOp (ev f) ⟨some d, op, ty, pos, aft, none⟩) = some (.value v) := by exact qrp) : WR P ops loud K w (i :: rest) f := WR_rd ho hl h k
theorem qwl (k : ∀ v, p v w → WR P ops loud K w rest (upd f d v)) (ho : ops[i]? = some ⟨some d, op, ty, pos, aft, none⟩ := by exact rfl) (hl : loud i = some p := by exact rfl) : WR P ops loud K w (i :: rest) f := WR_ld ho hl k
theorem qwg (k : WR P ops loud K w rest (updo f dd v)) (ho : ops[i]? = some ⟨dd, op, ty, pos, aft, some (j, b)⟩ := by exact rfl) (ht : (ops[j]?).bind (·.dst) = some t := by exact rfl) (hv : f t = .bool b := by exact rfl) (hl : loud i = none := by exact rfl)
    (h : runC P w (execOp (ev f) ⟨dd, op, ty, pos, aft, some (j, b)⟩) = some (.value v) := by exact qrp) : WR P ops loud K w (i :: rest) f := WR_readG ho rfl ht hv hl h k
theorem qwlg (k : ∀ v, p v w → WR P ops loud K w rest (updo f dd v)) (ho : ops[i]? = some ⟨dd, op, ty, pos, aft, some (j, b)⟩ := by exact rfl) (ht : (ops[j]?).bind (·.dst) = some t := by exact rfl) (hv : f t = .bool b := by exact rfl) (hl : loud i = some p := by exact rfl) : WR P ops loud K w (i :: rest) f := WR_loudG ho rfl ht hv hl k
theorem qwn (k : WR P ops loud K w rest (updo f dd undef)) (ho : ops[i]? = some ⟨dd, op, ty, pos, aft, some (j, b)⟩ := by exact rfl) (ht : (ops[j]?).bind (·.dst) = some t := by exact rfl) (hv : f t = .bool !b := by exact rfl) : WR P ops loud K w (i :: rest) f := WR_not ho rfl ht hv k
theorem qoa (ho : ops[i]? = some ⟨dd, op, ty, pos, aft, g⟩ := by exact rfl) (hl : loud i = none := by exact rfl) (h : runC P w (execOp (ev f) ⟨dd, op, ty, pos, aft, g⟩) = some (.value v) := by exact qrp) : WR P ops loud (OwesAt P ops loud i) w [] f := OA_rd ho hl h
theorem qol (h : OS P ⟨dd, op, ty, pos, aft, g⟩ (ev f) w fun v w' => p v w' ∧ Mod [] w w') (ho : ops[i]? = some ⟨dd, op, ty, pos, aft, g⟩ := by exact rfl) (hl : loud i = some p := by exact rfl) : WR P ops loud (OwesAt P ops loud i) w [] f := OA_ld ho hl h
theorem qon (ho : ops[i]? = some ⟨dd, op, ty, pos, aft, some (j, b)⟩ := by exact rfl) (ht : (ops[j]?).bind (·.dst) = some t := by exact rfl) (hv : f t = .bool !b := by exact rfl) : WR P ops loud (OwesAt P ops loud i) w [] f := OA_not ho rfl ht hv
end
/-- what a read owes -/
theorem qob {X : Prop} (h : X := by intro w hm; have H := H.call hm; (repeat (first | refine qwr ?_ | refine qwn ?_ | refine qwg ?_ | (refine qwl ?_; first | rintro _ rfl | (rintro _ ⟨us, rfl, h⟩; first | (obtain ⟨a, c, rfl⟩ := rdT_four h) | skip) | intro v h))); first | exact qoa | exact qon) : X := h
/-! calls -/
section
variable {P : Program} {n : Nat} {ops : Array Oper} {K : FF → World → Prop} {rest : List Oper} {f : FF} {w : World} {d : Nat} {ty : TypeId} {pos : String} {aft : Array Edge} {p : Value → World → Prop} {g : FuncId} [FnF P g] {tys : Array TypeId} {c : Operand} {cap : Array Value} {x1 x2 x3 x4 x5 x6 : Operand} {v1 v2 v3 v4 v5 v6 : Value}
theorem qa0 (hd : Nat.blt d n = true := by exact rfl) (hx : ev f (.func g) = .func (.func g) #[] #[] := by exact rfl) (hc : Calls P g #[] w (Ret p)) (k : ∀ v w', p v w' → WO P n ops K rest (upd f d v) w') :
    WO P n ops K (⟨some d, .call { callee := .value (.func g), args := #[], argTypes := tys }, ty, pos, aft, none⟩ :: rest) f w := WO_s hd (S_call0 hx  hc k)
theorem qa1 (hd : Nat.blt d n = true := by exact rfl) (hx : ev f (.func g) = .func (.func g) #[] #[] := by exact rfl) (h1 : ev f x1 = v1 := by exact rfl) (hc : Calls P g #[v1] w (Ret p)) (k : ∀ v w', p v w' → WO P n ops K rest (upd f d v) w') :
    WO P n ops K (⟨some d, .call { callee := .value (.func g), args := #[x1], argTypes := tys }, ty, pos, aft, none⟩ :: rest) f w := WO_s hd (S_call1 _ hx h1 hc k)
theorem qa2 (hd : Nat.blt d n = true := by exact rfl) (hx : ev f (.func g) = .func (.func g) #[] #[] := by exact rfl) (h1 : ev f x1 = v1 := by exact rfl) (h2 : ev f x2 = v2 := by exact rfl) (hc : Calls P g #[v1, v2] w (Ret p)) (k : ∀ v w', p v w' → WO P n ops K rest (upd f d v) w') :
    WO P n ops K (⟨some d, .call { callee := .value (.func g), args := #[x1, x2], argTypes := tys }, ty, pos, aft, none⟩ :: rest) f w := WO_s hd (S_call2 _ _ hx h1 h2 hc k)
theorem qa3 (hd : Nat.blt d n = true := by exact rfl) (hx : ev f (.func g) = .func (.func g) #[] #[] := by exact rfl) (h1 : ev f x1 = v1 := by exact rfl) (h2 : ev f x2 = v2 := by exact rfl) (h3 : ev f x3 = v3 := by exact rfl) (hc : Calls P g #[v1, v2, v3] w (Ret p)) (k : ∀ v w', p v w' → WO P n ops K rest (upd f d v) w') :
    WO P n ops K (⟨some d, .call { callee := .value (.func g), args := #[x1, x2, x3], argTypes := tys }, ty, pos, aft, none⟩ :: rest) f w := WO_s hd (S_call3 _ _ _ hx h1 h2 h3 hc k)
theorem qa4 (hd : Nat.blt d n = true := by exact rfl) (hx : ev f (.func g) = .func (.func g) #[] #[] := by exact rfl) (h1 : ev f x1 = v1 := by exact rfl) (h2 : ev f x2 = v2 := by exact rfl) (h3 : ev f x3 = v3 := by exact rfl) (h4 : ev f x4 = v4 := by exact rfl) (hc : Calls P g #[v1, v2, v3, v4] w (Ret p)) (k : ∀ v w', p v w' → WO P n ops K rest (upd f d v) w') :
    WO P n ops K (⟨some d, .call { callee := .value (.func g), args := #[x1, x2, x3, x4], argTypes := tys }, ty, pos, aft, none⟩ :: rest) f w := WO_s hd (S_call4 _ _ _ _ hx h1 h2 h3 h4 hc k)
theorem qa5 (hd : Nat.blt d n = true := by exact rfl) (hx : ev f (.func g) = .func (.func g) #[] #[] := by exact rfl) (h1 : ev f x1 = v1 := by exact rfl) (h2 : ev f x2 = v2 := by exact rfl) (h3 : ev f x3 = v3 := by exact rfl) (h4 : ev f x4 = v4 := by exact rfl) (h5 : ev f x5 = v5 := by exact rfl) (hc : Calls P g #[v1, v2, v3, v4, v5] w (Ret p)) (k : ∀ v w', p v w' → WO P n ops K rest (upd f d v) w') :
    WO P n ops K (⟨some d, .call { callee := .value (.func g), args := #[x1, x2, x3, x4, x5], argTypes := tys }, ty, pos, aft, none⟩ :: rest) f w := WO_s hd (S_call5 _ _ _ _ _ hx h1 h2 h3 h4 h5 hc k)
theorem qa6 (hd : Nat.blt d n = true := by exact rfl) (hx : ev f (.func g) = .func (.func g) #[] #[] := by exact rfl) (h1 : ev f x1 = v1 := by exact rfl) (h2 : ev f x2 = v2 := by exact rfl) (h3 : ev f x3 = v3 := by exact rfl) (h4 : ev f x4 = v4 := by exact rfl) (h5 : ev f x5 = v5 := by exact rfl) (h6 : ev f x6 = v6 := by exact rfl) (hc : Calls P g #[v1, v2, v3, v4, v5, v6] w (Ret p)) (k : ∀ v w', p v w' → WO P n ops K rest (upd f d v) w') :
    WO P n ops K (⟨some d, .call { callee := .value (.func g), args := #[x1, x2, x3, x4, x5, x6], argTypes := tys }, ty, pos, aft, none⟩ :: rest) f w := WO_s hd (S_call6 _ _ _ _ _ _ hx h1 h2 h3 h4 h5 h6 hc k)
theorem ql0 (hd : Nat.blt d n = true := by exact rfl) (hx : ev f (c) = .func (.func g) #[] cap := by exact rfl) (hc : Calls P g (#[] ++ cap) w (Ret p)) (k : ∀ v w', p v w' → WO P n ops K rest (upd f d v) w') :
    WO P n ops K (⟨some d, .call { callee := .value (c), args := #[], argTypes := tys }, ty, pos, aft, none⟩ :: rest) f w := WO_s hd (S_clo0 hx  hc k)
theorem ql1 (hd : Nat.blt d n = true := by exact rfl) (hx : ev f (c) = .func (.func g) #[] cap := by exact rfl) (h1 : ev f x1 = v1 := by exact rfl) (hc : Calls P g (#[v1] ++ cap) w (Ret p)) (k : ∀ v w', p v w' → WO P n ops K rest (upd f d v) w') :
    WO P n ops K (⟨some d, .call { callee := .value (c), args := #[x1], argTypes := tys }, ty, pos, aft, none⟩ :: rest) f w := WO_s hd (S_clo1 _ hx h1 hc k)
theorem ql2 (hd : Nat.blt d n = true := by exact rfl) (hx : ev f (c) = .func (.func g) #[] cap := by exact rfl) (h1 : ev f x1 = v1 := by exact rfl) (h2 : ev f x2 = v2 := by exact rfl) (hc : Calls P g (#[v1, v2] ++ cap) w (Ret p)) (k : ∀ v w', p v w' → WO P n ops K rest (upd f d v) w') :
    WO P n ops K (⟨some d, .call { callee := .value (c), args := #[x1, x2], argTypes := tys }, ty, pos, aft, none⟩ :: rest) f w := WO_s hd (S_clo2 _ _ hx h1 h2 hc k)
theorem ql3 (hd : Nat.blt d n = true := by exact rfl) (hx : ev f (c) = .func (.func g) #[] cap := by exact rfl) (h1 : ev f x1 = v1 := by exact rfl) (h2 : ev f x2 = v2 := by exact rfl) (h3 : ev f x3 = v3 := by exact rfl) (hc : Calls P g (#[v1, v2, v3] ++ cap) w (Ret p)) (k : ∀ v w', p v w' → WO P n ops K rest (upd f d v) w') :
    WO P n ops K (⟨some d, .call { callee := .value (c), args := #[x1, x2, x3], argTypes := tys }, ty, pos, aft, none⟩ :: rest) f w := WO_s hd (S_clo3 _ _ _ hx h1 h2 h3 hc k)
end
end Go.Proofs.YtljpfnjpifhdlaaGreatDoor
namespace Go.Proofs.YtljpfnjpifhdlaaGreatDoor
open Go
instance : TyF Tryz.prog 3 false 1 (.int .i64 0) := ⟨fun _ => by kernel_rfl, fun _ => by kernel_rfl, fun _ => by kernel_rfl⟩
instance : TyF Tryz.prog 4 false 1 (.bool false) := ⟨fun _ => by kernel_rfl, fun _ => by kernel_rfl, fun _ => by kernel_rfl⟩
instance : TyF Tryz.prog 5 false 1 (.int .u8 0) := ⟨fun _ => by kernel_rfl, fun _ => by kernel_rfl, fun _ => by kernel_rfl⟩
instance : TyF Tryz.prog 9 false 1 (.string ⟨#[]⟩) := ⟨fun _ => by kernel_rfl, fun _ => by kernel_rfl, fun _ => by kernel_rfl⟩
instance : StF Tryz.prog 9 := ⟨Tryz.underlying9⟩
instance : TyF Tryz.prog 20 false 1 (.nilIface) := ⟨fun _ => by kernel_rfl, fun _ => by kernel_rfl, fun _ => by kernel_rfl⟩
instance : TyF Tryz.prog 22 false 1 (.slice none 0 0) := ⟨fun _ => by kernel_rfl, fun _ => by kernel_rfl, fun _ => by kernel_rfl⟩
instance : ByF Tryz.prog 5 1 := ⟨by kernel_rfl⟩
instance : SlF Tryz.prog 22 5 := ⟨Tryz.underlying22⟩
instance : TyF Tryz.prog 23 false 1 (.slice none 0 0) := ⟨fun _ => by kernel_rfl, fun _ => by kernel_rfl, fun _ => by kernel_rfl⟩
instance : ByF Tryz.prog 67 104 := ⟨by kernel_rfl⟩
instance : SlF Tryz.prog 23 67 := ⟨Tryz.underlying23⟩
instance : TyF Tryz.prog 25 true 1 (.agg #[.slice none 0 0]) := ⟨fun _ => by kernel_rfl, fun _ => by kernel_rfl, fun _ => by kernel_rfl⟩
instance : FldF Tryz.prog 25 0 0 := ⟨fun _ _ _ => by kernel_rfl⟩
instance : FieldsF Tryz.prog 25 [(0, 1)] := ⟨⟨_, Tryz.underlying25, fun _ => by kernel_rfl⟩⟩
instance : TyF Tryz.prog 30 false 1 (.slice none 0 0) := ⟨fun _ => by kernel_rfl, fun _ => by kernel_rfl, fun _ => by kernel_rfl⟩
instance : ByF Tryz.prog 32 56 := ⟨by kernel_rfl⟩
instance : SlF Tryz.prog 30 32 := ⟨Tryz.underlying30⟩
instance : TyF Tryz.prog 32 true 4 (.agg #[.int .i64 0, .int .i64 0, .string ⟨#[]⟩, .slice none 0 0]) := ⟨fun _ => by kernel_rfl, fun _ => by kernel_rfl, fun _ => by kernel_rfl⟩
instance : FldF Tryz.prog 32 0 0 := ⟨fun _ _ _ => by kernel_rfl⟩
instance : FldF Tryz.prog 32 1 1 := ⟨fun _ _ _ => by kernel_rfl⟩
instance : FldF Tryz.prog 32 2 2 := ⟨fun _ _ _ => by kernel_rfl⟩
instance : FldF Tryz.prog 32 3 3 := ⟨fun _ _ _ => by kernel_rfl⟩
instance : FieldsF Tryz.prog 32 [(0, 1), (1, 1), (2, 1), (3, 1)] := ⟨⟨_, Tryz.underlying32, fun _ => by kernel_rfl⟩⟩
instance : TyF Tryz.prog 34 false 1 (.nilFunc) := ⟨fun _ => by kernel_rfl, fun _ => by kernel_rfl, fun _ => by kernel_rfl⟩
instance : TyF Tryz.prog 35 false 1 (.slice none 0 0) := ⟨fun _ => by kernel_rfl, fun _ => by kernel_rfl, fun _ => by kernel_rfl⟩
instance : ByF Tryz.prog 37 72 := ⟨by kernel_rfl⟩
instance : SlF Tryz.prog 35 37 := ⟨Tryz.underlying35⟩
instance : TyF Tryz.prog 37 true 4 (.agg #[.int .i64 0, .string ⟨#[]⟩, .slice none 0 0, .slice none 0 0]) := ⟨fun _ => by kernel_rfl, fun _ => by kernel_rfl, fun _ => by kernel_rfl⟩
instance : FldF Tryz.prog 37 0 0 := ⟨fun _ _ _ => by kernel_rfl⟩
instance : FldF Tryz.prog 37 1 1 := ⟨fun _ _ _ => by kernel_rfl⟩
instance : FldF Tryz.prog 37 2 2 := ⟨fun _ _ _ => by kernel_rfl⟩
instance : FldF Tryz.prog 37 3 3 := ⟨fun _ _ _ => by kernel_rfl⟩
instance : FieldsF Tryz.prog 37 [(0, 1), (1, 1), (2, 1), (3, 1)] := ⟨⟨_, Tryz.underlying37, fun _ => by kernel_rfl⟩⟩
instance : TyF Tryz.prog 38 false 1 (.slice none 0 0) := ⟨fun _ => by kernel_rfl, fun _ => by kernel_rfl, fun _ => by kernel_rfl⟩
instance : ByF Tryz.prog 53 136 := ⟨by kernel_rfl⟩
instance : SlF Tryz.prog 38 53 := ⟨Tryz.underlying38⟩
instance : TyF Tryz.prog 43 false 1 (.slice none 0 0) := ⟨fun _ => by kernel_rfl, fun _ => by kernel_rfl, fun _ => by kernel_rfl⟩
instance : ByF Tryz.prog 119 64 := ⟨by kernel_rfl⟩
instance : SlF Tryz.prog 43 119 := ⟨Tryz.underlying43⟩
instance : TyF Tryz.prog 44 false 1 (.slice none 0 0) := ⟨fun _ => by kernel_rfl, fun _ => by kernel_rfl, fun _ => by kernel_rfl⟩
instance : ByF Tryz.prog 43 24 := ⟨by kernel_rfl⟩
instance : SlF Tryz.prog 44 43 := ⟨Tryz.underlying44⟩
instance : TyF Tryz.prog 45 false 1 (.slice none 0 0) := ⟨fun _ => by kernel_rfl, fun _ => by kernel_rfl, fun _ => by kernel_rfl⟩
instance : ByF Tryz.prog 170 16 := ⟨by kernel_rfl⟩
instance : SlF Tryz.prog 45 170 := ⟨Tryz.underlying45⟩
instance : TyF Tryz.prog 46 false 1 (.slice none 0 0) := ⟨fun _ => by kernel_rfl, fun _ => by kernel_rfl, fun _ => by kernel_rfl⟩
instance : ByF Tryz.prog 177 24 := ⟨by kernel_rfl⟩
instance : SlF Tryz.prog 46 177 := ⟨Tryz.underlying46⟩
instance : TyF Tryz.prog 48 true 5 (.agg #[.int .i64 0, .slice none 0 0, .slice none 0 0, .slice none 0 0, .slice none 0 0]) := ⟨fun _ => by kernel_rfl, fun _ => by kernel_rfl, fun _ => by kernel_rfl⟩
instance : FldF Tryz.prog 48 0 0 := ⟨fun _ _ _ => by kernel_rfl⟩
instance : FldF Tryz.prog 48 1 1 := ⟨fun _ _ _ => by kernel_rfl⟩
instance : FldF Tryz.prog 48 2 2 := ⟨fun _ _ _ => by kernel_rfl⟩
instance : FldF Tryz.prog 48 3 3 := ⟨fun _ _ _ => by kernel_rfl⟩
instance : FldF Tryz.prog 48 4 4 := ⟨fun _ _ _ => by kernel_rfl⟩
instance : FieldsF Tryz.prog 48 [(0, 1), (1, 1), (2, 1), (3, 1), (4, 1)] := ⟨⟨_, Tryz.underlying48, fun _ => by kernel_rfl⟩⟩
instance : TyF Tryz.prog 49 false 1 (.slice none 0 0) := ⟨fun _ => by kernel_rfl, fun _ => by kernel_rfl, fun _ => by kernel_rfl⟩
instance : ByF Tryz.prog 3 8 := ⟨by kernel_rfl⟩
instance : SlF Tryz.prog 49 3 := ⟨Tryz.underlying49⟩
instance : TyF Tryz.prog 51 true 6 (.agg #[.int .i64 0, .slice none 0 0, .slice none 0 0, .slice none 0 0, .slice none 0 0, .slice none 0 0]) := ⟨fun _ => by kernel_rfl, fun _ => by kernel_rfl, fun _ => by kernel_rfl⟩
instance : FldF Tryz.prog 51 0 0 := ⟨fun _ _ _ => by kernel_rfl⟩
instance : FldF Tryz.prog 51 1 5 := ⟨fun _ _ _ => by kernel_rfl⟩
instance : FieldsF Tryz.prog 51 [(0, 5), (5, 1)] := ⟨⟨_, Tryz.underlying51, fun _ => by kernel_rfl⟩⟩
instance : TyF Tryz.prog 53 true 7 (.agg #[.int .i64 0, .slice none 0 0, .slice none 0 0, .slice none 0 0, .slice none 0 0, .slice none 0 0, .int .i64 0]) := ⟨fun _ => by kernel_rfl, fun _ => by kernel_rfl, fun _ => by kernel_rfl⟩
instance : FldF Tryz.prog 53 0 0 := ⟨fun _ _ _ => by kernel_rfl⟩
instance : FldF Tryz.prog 53 1 6 := ⟨fun _ _ _ => by kernel_rfl⟩
instance : FieldsF Tryz.prog 53 [(0, 6), (6, 1)] := ⟨⟨_, Tryz.underlying53, fun _ => by kernel_rfl⟩⟩
instance : TyF Tryz.prog 57 false 1 (.slice none 0 0) := ⟨fun _ => by kernel_rfl, fun _ => by kernel_rfl, fun _ => by kernel_rfl⟩
instance : ByF Tryz.prog 30 24 := ⟨by kernel_rfl⟩
instance : SlF Tryz.prog 57 30 := ⟨Tryz.underlying57⟩
instance : TyF Tryz.prog 59 false 1 (.slice none 0 0) := ⟨fun _ => by kernel_rfl, fun _ => by kernel_rfl, fun _ => by kernel_rfl⟩
instance : ByF Tryz.prog 9 16 := ⟨by kernel_rfl⟩
instance : SlF Tryz.prog 59 9 := ⟨Tryz.underlying59⟩
instance : TyF Tryz.prog 62 false 1 (.pointer none) := ⟨fun _ => by kernel_rfl, fun _ => by kernel_rfl, fun _ => by kernel_rfl⟩
instance : TyF Tryz.prog 64 true 2 (.agg #[.slice none 0 0, .int .i64 0]) := ⟨fun _ => by kernel_rfl, fun _ => by kernel_rfl, fun _ => by kernel_rfl⟩
instance : FldF Tryz.prog 64 0 0 := ⟨fun _ _ _ => by kernel_rfl⟩
instance : FldF Tryz.prog 64 1 1 := ⟨fun _ _ _ => by kernel_rfl⟩
instance : FieldsF Tryz.prog 64 [(0, 1), (1, 1)] := ⟨⟨_, Tryz.underlying64, fun _ => by kernel_rfl⟩⟩
instance : TyF Tryz.prog 67 true 7 (.agg #[.string ⟨#[]⟩, .int .i64 0, .int .i64 0, .int .i64 0, .string ⟨#[]⟩, .slice none 0 0, .slice none 0 0]) := ⟨fun _ => by kernel_rfl, fun _ => by kernel_rfl, fun _ => by kernel_rfl⟩
instance : FldF Tryz.prog 67 0 0 := ⟨fun _ _ _ => by kernel_rfl⟩
instance : FldF Tryz.prog 67 1 1 := ⟨fun _ _ _ => by kernel_rfl⟩
instance : FldF Tryz.prog 67 2 2 := ⟨fun _ _ _ => by kernel_rfl⟩
instance : FldF Tryz.prog 67 3 3 := ⟨fun _ _ _ => by kernel_rfl⟩
instance : FieldsF Tryz.prog 67 [(0, 1), (1, 1), (2, 1), (3, 4)] := ⟨⟨_, Tryz.underlying67, fun _ => by kernel_rfl⟩⟩
instance : TyF Tryz.prog 71 false 1 (.pointer none) := ⟨fun _ => by kernel_rfl, fun _ => by kernel_rfl, fun _ => by kernel_rfl⟩
instance : TyF Tryz.prog 87 false 1 (.map none) := ⟨fun _ => by kernel_rfl, fun _ => by kernel_rfl, fun _ => by kernel_rfl⟩
instance : MapF Tryz.prog 87 9 3 := ⟨Tryz.underlying87⟩
instance : TyF Tryz.prog 91 false 1 (.nilFunc) := ⟨fun _ => by kernel_rfl, fun _ => by kernel_rfl, fun _ => by kernel_rfl⟩
instance : TyF Tryz.prog 100 true 3 (.agg #[.slice none 0 0, .int .i64 0, .int .i64 0]) := ⟨fun _ => by kernel_rfl, fun _ => by kernel_rfl, fun _ => by kernel_rfl⟩
instance : FldF Tryz.prog 100 0 0 := ⟨fun _ _ _ => by kernel_rfl⟩
instance : FldF Tryz.prog 100 1 1 := ⟨fun _ _ _ => by kernel_rfl⟩
instance : FldF Tryz.prog 100 2 2 := ⟨fun _ _ _ => by kernel_rfl⟩
instance : FieldsF Tryz.prog 100 [(0, 1), (1, 1), (2, 1)] := ⟨⟨_, Tryz.underlying100, fun _ => by kernel_rfl⟩⟩
instance : TyF Tryz.prog 106 true 5 (.agg #[.int .i64 0, .string ⟨#[]⟩, .slice none 0 0, .slice none 0 0, .int .i64 0]) := ⟨fun _ => by kernel_rfl, fun _ => by kernel_rfl, fun _ => by kernel_rfl⟩
instance : FldF Tryz.prog 106 0 0 := ⟨fun _ _ _ => by kernel_rfl⟩
instance : FldF Tryz.prog 106 1 4 := ⟨fun _ _ _ => by kernel_rfl⟩
instance : FieldsF Tryz.prog 106 [(0, 4), (4, 1)] := ⟨⟨_, Tryz.underlying106, fun _ => by kernel_rfl⟩⟩
instance : TyF Tryz.prog 107 false 1 (.slice none 0 0) := ⟨fun _ => by kernel_rfl, fun _ => by kernel_rfl, fun _ => by kernel_rfl⟩
instance : ByF Tryz.prog 106 80 := ⟨by kernel_rfl⟩
instance : SlF Tryz.prog 107 106 := ⟨Tryz.underlying107⟩
instance : TyF Tryz.prog 109 true 8 (.agg #[.int .i64 0, .slice none 0 0, .slice none 0 0, .slice none 0 0, .slice none 0 0, .slice none 0 0, .slice none 0 0, .int .i64 0]) := ⟨fun _ => by kernel_rfl, fun _ => by kernel_rfl, fun _ => by kernel_rfl⟩
instance : FldF Tryz.prog 109 0 0 := ⟨fun _ _ _ => by kernel_rfl⟩
instance : FldF Tryz.prog 109 1 6 := ⟨fun _ _ _ => by kernel_rfl⟩
instance : FldF Tryz.prog 109 2 7 := ⟨fun _ _ _ => by kernel_rfl⟩
instance : FieldsF Tryz.prog 109 [(0, 6), (6, 1), (7, 1)] := ⟨⟨_, Tryz.underlying109, fun _ => by kernel_rfl⟩⟩
instance : TyF Tryz.prog 110 false 1 (.slice none 0 0) := ⟨fun _ => by kernel_rfl, fun _ => by kernel_rfl, fun _ => by kernel_rfl⟩
instance : ByF Tryz.prog 109 160 := ⟨by kernel_rfl⟩
instance : SlF Tryz.prog 110 109 := ⟨Tryz.underlying110⟩
instance : TyF Tryz.prog 119 true 5 (.agg #[.int .i64 0, .int .i64 0, .int .i64 0, .string ⟨#[]⟩, .slice none 0 0]) := ⟨fun _ => by kernel_rfl, fun _ => by kernel_rfl, fun _ => by kernel_rfl⟩
instance : FldF Tryz.prog 119 0 0 := ⟨fun _ _ _ => by kernel_rfl⟩
instance : FldF Tryz.prog 119 1 1 := ⟨fun _ _ _ => by kernel_rfl⟩
instance : FieldsF Tryz.prog 119 [(0, 1), (1, 4)] := ⟨⟨_, Tryz.underlying119, fun _ => by kernel_rfl⟩⟩
instance : TyF Tryz.prog 122 false 1 (.nilFunc) := ⟨fun _ => by kernel_rfl, fun _ => by kernel_rfl, fun _ => by kernel_rfl⟩
instance : TyF Tryz.prog 125 false 1 (.map none) := ⟨fun _ => by kernel_rfl, fun _ => by kernel_rfl, fun _ => by kernel_rfl⟩
instance : MapF Tryz.prog 125 3 3 := ⟨Tryz.underlying125⟩
instance : TyF Tryz.prog 130 false 1 (.nilIface) := ⟨fun _ => by kernel_rfl, fun _ => by kernel_rfl, fun _ => by kernel_rfl⟩
instance : TyF Tryz.prog 135 false 1 (.nilFunc) := ⟨fun _ => by kernel_rfl, fun _ => by kernel_rfl, fun _ => by kernel_rfl⟩
instance : TyF Tryz.prog 137 false 1 (.nilFunc) := ⟨fun _ => by kernel_rfl, fun _ => by kernel_rfl, fun _ => by kernel_rfl⟩
instance : TyF Tryz.prog 153 false 1 (.nilFunc) := ⟨fun _ => by kernel_rfl, fun _ => by kernel_rfl, fun _ => by kernel_rfl⟩
instance : TyF Tryz.prog 154 false 1 (.map none) := ⟨fun _ => by kernel_rfl, fun _ => by kernel_rfl, fun _ => by kernel_rfl⟩
instance : MapF Tryz.prog 154 3 4 := ⟨Tryz.underlying154⟩
instance : TyF Tryz.prog 161 false 1 (.nilFunc) := ⟨fun _ => by kernel_rfl, fun _ => by kernel_rfl, fun _ => by kernel_rfl⟩
instance : TyF Tryz.prog 162 false 1 (.pointer none) := ⟨fun _ => by kernel_rfl, fun _ => by kernel_rfl, fun _ => by kernel_rfl⟩
instance : TyF Tryz.prog 170 true 2 (.agg #[.int .i64 0, .int .i64 0]) := ⟨fun _ => by kernel_rfl, fun _ => by kernel_rfl, fun _ => by kernel_rfl⟩
instance : FldF Tryz.prog 170 0 0 := ⟨fun _ _ _ => by kernel_rfl⟩
instance : FldF Tryz.prog 170 1 1 := ⟨fun _ _ _ => by kernel_rfl⟩
instance : FieldsF Tryz.prog 170 [(0, 1), (1, 1)] := ⟨⟨_, Tryz.underlying170, fun _ => by kernel_rfl⟩⟩
instance : TyF Tryz.prog 172 false 1 (.nilFunc) := ⟨fun _ => by kernel_rfl, fun _ => by kernel_rfl, fun _ => by kernel_rfl⟩
instance : TyF Tryz.prog 175 false 1 (.map none) := ⟨fun _ => by kernel_rfl, fun _ => by kernel_rfl, fun _ => by kernel_rfl⟩
instance : MapF Tryz.prog 175 177 4 := ⟨Tryz.underlying175⟩
instance : TyF Tryz.prog 177 true 2 (.agg #[.int .i64 0, .string ⟨#[]⟩]) := ⟨fun _ => by kernel_rfl, fun _ => by kernel_rfl, fun _ => by kernel_rfl⟩
instance : FldF Tryz.prog 177 0 0 := ⟨fun _ _ _ => by kernel_rfl⟩
instance : FldF Tryz.prog 177 1 1 := ⟨fun _ _ _ => by kernel_rfl⟩
instance : FieldsF Tryz.prog 177 [(0, 1), (1, 1)] := ⟨⟨_, Tryz.underlying177, fun _ => by kernel_rfl⟩⟩
instance : TyF Tryz.prog 192 false 1 (.map none) := ⟨fun _ => by kernel_rfl, fun _ => by kernel_rfl, fun _ => by kernel_rfl⟩
instance : MapF Tryz.prog 192 3 32 := ⟨Tryz.underlying192⟩
instance : TyF Tryz.prog 194 true 6 (.agg #[.map none, .map none, .map none, .map none, .map none, .map none]) := ⟨fun _ => by kernel_rfl, fun _ => by kernel_rfl, fun _ => by kernel_rfl⟩
instance : FldF Tryz.prog 194 0 0 := ⟨fun _ _ _ => by kernel_rfl⟩
instance : FldF Tryz.prog 194 1 1 := ⟨fun _ _ _ => by kernel_rfl⟩
instance : FldF Tryz.prog 194 2 2 := ⟨fun _ _ _ => by kernel_rfl⟩
instance : FldF Tryz.prog 194 3 3 := ⟨fun _ _ _ => by kernel_rfl⟩
instance : FldF Tryz.prog 194 4 4 := ⟨fun _ _ _ => by kernel_rfl⟩
instance : FldF Tryz.prog 194 5 5 := ⟨fun _ _ _ => by kernel_rfl⟩
instance : FieldsF Tryz.prog 194 [(0, 1), (1, 1), (2, 1), (3, 1), (4, 1), (5, 1)] := ⟨⟨_, Tryz.underlying194, fun _ => by kernel_rfl⟩⟩
instance : FnF Tryz.prog 3 := ⟨enters_of Tryz.func3 (by kernel_rfl) rfl⟩
instance : FnF Tryz.prog 4 := ⟨enters_of Tryz.func4 (by kernel_rfl) rfl⟩
instance : FnF Tryz.prog 5 := ⟨enters_of Tryz.func5 (by kernel_rfl) rfl⟩
instance : FnF Tryz.prog 6 := ⟨enters_of Tryz.func6 (by kernel_rfl) rfl⟩
instance : FnF Tryz.prog 7 := ⟨enters_of Tryz.func7 (by kernel_rfl) rfl⟩
instance : FnF Tryz.prog 8 := ⟨enters_of Tryz.func8 (by kernel_rfl) rfl⟩
instance : FnF Tryz.prog 9 := ⟨enters_of Tryz.func9 (by kernel_rfl) rfl⟩
instance : FnF Tryz.prog 10 := ⟨enters_of Tryz.func10 (by kernel_rfl) rfl⟩
instance : FnF Tryz.prog 11 := ⟨enters_of Tryz.func11 (by kernel_rfl) rfl⟩
instance : FnF Tryz.prog 12 := ⟨enters_of Tryz.func12 (by kernel_rfl) rfl⟩
instance : FnF Tryz.prog 13 := ⟨enters_of Tryz.func13 (by kernel_rfl) rfl⟩
instance : FnF Tryz.prog 14 := ⟨enters_of Tryz.func14 (by kernel_rfl) rfl⟩
instance : FnF Tryz.prog 15 := ⟨enters_of Tryz.func15 (by kernel_rfl) rfl⟩
instance : FnF Tryz.prog 16 := ⟨enters_of Tryz.func16 (by kernel_rfl) rfl⟩
instance : FnF Tryz.prog 17 := ⟨enters_of Tryz.func17 (by kernel_rfl) rfl⟩
instance : FnF Tryz.prog 18 := ⟨enters_of Tryz.func18 (by kernel_rfl) rfl⟩
instance : FnF Tryz.prog 19 := ⟨enters_of Tryz.func19 (by kernel_rfl) rfl⟩
instance : FnF Tryz.prog 20 := ⟨enters_of Tryz.func20 (by kernel_rfl) rfl⟩
instance : FnF Tryz.prog 21 := ⟨enters_of Tryz.func21 (by kernel_rfl) rfl⟩
instance : FnF Tryz.prog 22 := ⟨enters_of Tryz.func22 (by kernel_rfl) rfl⟩
instance : FnF Tryz.prog 23 := ⟨enters_of Tryz.func23 (by kernel_rfl) rfl⟩
instance : FnF Tryz.prog 24 := ⟨enters_of Tryz.func24 (by kernel_rfl) rfl⟩
instance : FnF Tryz.prog 25 := ⟨enters_of Tryz.func25 (by kernel_rfl) rfl⟩
instance : FnF Tryz.prog 26 := ⟨enters_of Tryz.func26 (by kernel_rfl) rfl⟩
instance : FnF Tryz.prog 27 := ⟨enters_of Tryz.func27 (by kernel_rfl) rfl⟩
instance : FnF Tryz.prog 28 := ⟨enters_of Tryz.func28 (by kernel_rfl) rfl⟩
instance : FnF Tryz.prog 29 := ⟨enters_of Tryz.func29 (by kernel_rfl) rfl⟩
instance : FnF Tryz.prog 30 := ⟨enters_of Tryz.func30 (by kernel_rfl) rfl⟩
instance : FnF Tryz.prog 31 := ⟨enters_of Tryz.func31 (by kernel_rfl) rfl⟩
instance : FnF Tryz.prog 32 := ⟨enters_of Tryz.func32 (by kernel_rfl) rfl⟩
instance : FnF Tryz.prog 33 := ⟨enters_of Tryz.func33 (by kernel_rfl) rfl⟩
instance : FnF Tryz.prog 34 := ⟨enters_of Tryz.func34 (by kernel_rfl) rfl⟩
instance : FnF Tryz.prog 35 := ⟨enters_of Tryz.func35 (by kernel_rfl) rfl⟩
instance : FnF Tryz.prog 36 := ⟨enters_of Tryz.func36 (by kernel_rfl) rfl⟩
instance : FnF Tryz.prog 37 := ⟨enters_of Tryz.func37 (by kernel_rfl) rfl⟩
instance : FnF Tryz.prog 38 := ⟨enters_of Tryz.func38 (by kernel_rfl) rfl⟩
instance : FnF Tryz.prog 39 := ⟨enters_of Tryz.func39 (by kernel_rfl) rfl⟩
instance : FnF Tryz.prog 40 := ⟨enters_of Tryz.func40 (by kernel_rfl) rfl⟩
instance : FnF Tryz.prog 41 := ⟨enters_of Tryz.func41 (by kernel_rfl) rfl⟩
instance : FnF Tryz.prog 42 := ⟨enters_of Tryz.func42 (by kernel_rfl) rfl⟩
instance : FnF Tryz.prog 43 := ⟨enters_of Tryz.func43 (by kernel_rfl) rfl⟩
instance : FnF Tryz.prog 44 := ⟨enters_of Tryz.func44 (by kernel_rfl) rfl⟩
instance : FnF Tryz.prog 45 := ⟨enters_of Tryz.func45 (by kernel_rfl) rfl⟩
instance : FnF Tryz.prog 46 := ⟨enters_of Tryz.func46 (by kernel_rfl) rfl⟩
instance : FnF Tryz.prog 47 := ⟨enters_of Tryz.func47 (by kernel_rfl) rfl⟩
instance : FnF Tryz.prog 48 := ⟨enters_of Tryz.func48 (by kernel_rfl) rfl⟩
instance : FnF Tryz.prog 49 := ⟨enters_of Tryz.func49 (by kernel_rfl) rfl⟩
instance : FnF Tryz.prog 50 := ⟨enters_of Tryz.func50 (by kernel_rfl) rfl⟩
instance : FnF Tryz.prog 51 := ⟨enters_of Tryz.func51 (by kernel_rfl) rfl⟩
instance : FnF Tryz.prog 52 := ⟨enters_of Tryz.func52 (by kernel_rfl) rfl⟩
instance : FnF Tryz.prog 53 := ⟨enters_of Tryz.func53 (by kernel_rfl) rfl⟩
instance : FnF Tryz.prog 54 := ⟨enters_of Tryz.func54 (by kernel_rfl) rfl⟩
instance : FnF Tryz.prog 55 := ⟨enters_of Tryz.func55 (by kernel_rfl) rfl⟩
instance : FnF Tryz.prog 56 := ⟨enters_of Tryz.func56 (by kernel_rfl) rfl⟩
instance : FnF Tryz.prog 57 := ⟨enters_of Tryz.func57 (by kernel_rfl) rfl⟩
instance : FnF Tryz.prog 58 := ⟨enters_of Tryz.func58 (by kernel_rfl) rfl⟩
instance : FnF Tryz.prog 59 := ⟨enters_of Tryz.func59 (by kernel_rfl) rfl⟩
instance : FnF Tryz.prog 60 := ⟨enters_of Tryz.func60 (by kernel_rfl) rfl⟩
instance : FnF Tryz.prog 61 := ⟨enters_of Tryz.func61 (by kernel_rfl) rfl⟩
instance : FnF Tryz.prog 62 := ⟨enters_of Tryz.func62 (by kernel_rfl) rfl⟩
instance : FnF Tryz.prog 63 := ⟨enters_of Tryz.func63 (by kernel_rfl) rfl⟩
instance : FnF Tryz.prog 64 := ⟨enters_of Tryz.func64 (by kernel_rfl) rfl⟩
instance : FnF Tryz.prog 65 := ⟨enters_of Tryz.func65 (by kernel_rfl) rfl⟩
instance : FnF Tryz.prog 66 := ⟨enters_of Tryz.func66 (by kernel_rfl) rfl⟩
instance : FnF Tryz.prog 67 := ⟨enters_of Tryz.func67 (by kernel_rfl) rfl⟩
instance : FnF Tryz.prog 68 := ⟨enters_of Tryz.func68 (by kernel_rfl) rfl⟩
instance : FnF Tryz.prog 69 := ⟨enters_of Tryz.func69 (by kernel_rfl) rfl⟩
instance : FnF Tryz.prog 70 := ⟨enters_of Tryz.func70 (by kernel_rfl) rfl⟩
instance : FnF Tryz.prog 71 := ⟨enters_of Tryz.func71 (by kernel_rfl) rfl⟩
instance : FnF Tryz.prog 72 := ⟨enters_of Tryz.func72 (by kernel_rfl) rfl⟩
instance : FnF Tryz.prog 73 := ⟨enters_of Tryz.func73 (by kernel_rfl) rfl⟩
instance : FnF Tryz.prog 74 := ⟨enters_of Tryz.func74 (by kernel_rfl) rfl⟩
instance : FnF Tryz.prog 75 := ⟨enters_of Tryz.func75 (by kernel_rfl) rfl⟩
instance : FnF Tryz.prog 76 := ⟨enters_of Tryz.func76 (by kernel_rfl) rfl⟩
instance : FnF Tryz.prog 77 := ⟨enters_of Tryz.func77 (by kernel_rfl) rfl⟩
instance : FnF Tryz.prog 78 := ⟨enters_of Tryz.func78 (by kernel_rfl) rfl⟩
instance : FnF Tryz.prog 79 := ⟨enters_of Tryz.func79 (by kernel_rfl) rfl⟩
instance : FnF Tryz.prog 80 := ⟨enters_of Tryz.func80 (by kernel_rfl) rfl⟩
instance : FnF Tryz.prog 81 := ⟨enters_of Tryz.func81 (by kernel_rfl) rfl⟩
instance : FnF Tryz.prog 82 := ⟨enters_of Tryz.func82 (by kernel_rfl) rfl⟩
instance : FnF Tryz.prog 83 := ⟨enters_of Tryz.func83 (by kernel_rfl) rfl⟩
instance : FnF Tryz.prog 84 := ⟨enters_of Tryz.func84 (by kernel_rfl) rfl⟩
instance : FnF Tryz.prog 85 := ⟨enters_of Tryz.func85 (by kernel_rfl) rfl⟩
instance : FnF Tryz.prog 86 := ⟨enters_of Tryz.func86 (by kernel_rfl) rfl⟩
instance : FnF Tryz.prog 87 := ⟨enters_of Tryz.func87 (by kernel_rfl) rfl⟩
instance : FnF Tryz.prog 88 := ⟨enters_of Tryz.func88 (by kernel_rfl) rfl⟩
instance : FnF Tryz.prog 89 := ⟨enters_of Tryz.func89 (by kernel_rfl) rfl⟩
instance : FnF Tryz.prog 90 := ⟨enters_of Tryz.func90 (by kernel_rfl) rfl⟩
instance : FnF Tryz.prog 91 := ⟨enters_of Tryz.func91 (by kernel_rfl) rfl⟩
instance : FnF Tryz.prog 92 := ⟨enters_of Tryz.func92 (by kernel_rfl) rfl⟩
instance : FnF Tryz.prog 93 := ⟨enters_of Tryz.func93 (by kernel_rfl) rfl⟩
instance : FnF Tryz.prog 94 := ⟨enters_of Tryz.func94 (by kernel_rfl) rfl⟩
instance : FnF Tryz.prog 95 := ⟨enters_of Tryz.func95 (by kernel_rfl) rfl⟩
instance : FnF Tryz.prog 96 := ⟨enters_of Tryz.func96 (by kernel_rfl) rfl⟩
instance : FnF Tryz.prog 97 := ⟨enters_of Tryz.func97 (by kernel_rfl) rfl⟩
instance : FnF Tryz.prog 98 := ⟨enters_of Tryz.func98 (by kernel_rfl) rfl⟩
instance : FnF Tryz.prog 99 := ⟨enters_of Tryz.func99 (by kernel_rfl) rfl⟩
instance : FnF Tryz.prog 100 := ⟨enters_of Tryz.func100 (by kernel_rfl) rfl⟩
instance : FnF Tryz.prog 101 := ⟨enters_of Tryz.func101 (by kernel_rfl) rfl⟩
instance : FnF Tryz.prog 102 := ⟨enters_of Tryz.func102 (by kernel_rfl) rfl⟩
instance : FnF Tryz.prog 103 := ⟨enters_of Tryz.func103 (by kernel_rfl) rfl⟩
instance : FnF Tryz.prog 104 := ⟨enters_of Tryz.func104 (by kernel_rfl) rfl⟩
instance : FnF Tryz.prog 105 := ⟨enters_of Tryz.func105 (by kernel_rfl) rfl⟩
instance : FnF Tryz.prog 106 := ⟨enters_of Tryz.func106 (by kernel_rfl) rfl⟩
instance : FnF Tryz.prog 107 := ⟨enters_of Tryz.func107 (by kernel_rfl) rfl⟩
instance : FnF Tryz.prog 108 := ⟨enters_of Tryz.func108 (by kernel_rfl) rfl⟩
instance : FnF Tryz.prog 109 := ⟨enters_of Tryz.func109 (by kernel_rfl) rfl⟩
instance : FnF Tryz.prog 110 := ⟨enters_of Tryz.func110 (by kernel_rfl) rfl⟩
instance : FnF Tryz.prog 111 := ⟨enters_of Tryz.func111 (by kernel_rfl) rfl⟩
instance : FnF Tryz.prog 112 := ⟨enters_of Tryz.func112 (by kernel_rfl) rfl⟩
instance : FnF Tryz.prog 113 := ⟨enters_of Tryz.func113 (by kernel_rfl) rfl⟩
instance : FnF Tryz.prog 114 := ⟨enters_of Tryz.func114 (by kernel_rfl) rfl⟩
instance : FnF Tryz.prog 115 := ⟨enters_of Tryz.func115 (by kernel_rfl) rfl⟩
instance : FnF Tryz.prog 116 := ⟨enters_of Tryz.func116 (by kernel_rfl) rfl⟩
instance : FnF Tryz.prog 117 := ⟨enters_of Tryz.func117 (by kernel_rfl) rfl⟩
instance : FnF Tryz.prog 118 := ⟨enters_of Tryz.func118 (by kernel_rfl) rfl⟩
instance : FnF Tryz.prog 119 := ⟨enters_of Tryz.func119 (by kernel_rfl) rfl⟩
instance : FnF Tryz.prog 120 := ⟨enters_of Tryz.func120 (by kernel_rfl) rfl⟩
instance : FnF Tryz.prog 121 := ⟨enters_of Tryz.func121 (by kernel_rfl) rfl⟩
instance : FnF Tryz.prog 122 := ⟨enters_of Tryz.func122 (by kernel_rfl) rfl⟩
instance : FnF Tryz.prog 123 := ⟨enters_of Tryz.func123 (by kernel_rfl) rfl⟩
instance : FnF Tryz.prog 124 := ⟨enters_of Tryz.func124 (by kernel_rfl) rfl⟩
instance : FnF Tryz.prog 125 := ⟨enters_of Tryz.func125 (by kernel_rfl) rfl⟩
instance : FnF Tryz.prog 126 := ⟨enters_of Tryz.func126 (by kernel_rfl) rfl⟩
instance : FnF Tryz.prog 127 := ⟨enters_of Tryz.func127 (by kernel_rfl) rfl⟩
instance : FnF Tryz.prog 128 := ⟨enters_of Tryz.func128 (by kernel_rfl) rfl⟩
instance : FnF Tryz.prog 129 := ⟨enters_of Tryz.func129 (by kernel_rfl) rfl⟩
instance : FnF Tryz.prog 130 := ⟨enters_of Tryz.func130 (by kernel_rfl) rfl⟩
instance : FnF Tryz.prog 131 := ⟨enters_of Tryz.func131 (by kernel_rfl) rfl⟩
instance : FnF Tryz.prog 132 := ⟨enters_of Tryz.func132 (by kernel_rfl) rfl⟩
instance : FnF Tryz.prog 133 := ⟨enters_of Tryz.func133 (by kernel_rfl) rfl⟩
instance : FnF Tryz.prog 134 := ⟨enters_of Tryz.func134 (by kernel_rfl) rfl⟩
instance : FnF Tryz.prog 135 := ⟨enters_of Tryz.func135 (by kernel_rfl) rfl⟩
instance : FnF Tryz.prog 136 := ⟨enters_of Tryz.func136 (by kernel_rfl) rfl⟩
instance : FnF Tryz.prog 137 := ⟨enters_of Tryz.func137 (by kernel_rfl) rfl⟩
instance : FnF Tryz.prog 138 := ⟨enters_of Tryz.func138 (by kernel_rfl) rfl⟩
instance : FnF Tryz.prog 142 := ⟨enters_of Tryz.func142 (by kernel_rfl) rfl⟩
instance : FnF Tryz.prog 143 := ⟨enters_of Tryz.func143 (by kernel_rfl) rfl⟩
instance : FnF Tryz.prog 144 := ⟨enters_of Tryz.func144 (by kernel_rfl) rfl⟩
instance : FnF Tryz.prog 145 := ⟨enters_of Tryz.func145 (by kernel_rfl) rfl⟩
instance : FnF Tryz.prog 146 := ⟨enters_of Tryz.func146 (by kernel_rfl) rfl⟩
instance : FnF Tryz.prog 147 := ⟨enters_of Tryz.func147 (by kernel_rfl) rfl⟩
instance : FnF Tryz.prog 148 := ⟨enters_of Tryz.func148 (by kernel_rfl) rfl⟩
instance : FnF Tryz.prog 149 := ⟨enters_of Tryz.func149 (by kernel_rfl) rfl⟩
instance : FnF Tryz.prog 150 := ⟨enters_of Tryz.func150 (by kernel_rfl) rfl⟩
instance : FnF Tryz.prog 151 := ⟨enters_of Tryz.func151 (by kernel_rfl) rfl⟩
instance : FnF Tryz.prog 152 := ⟨enters_of Tryz.func152 (by kernel_rfl) rfl⟩
instance : FnF Tryz.prog 153 := ⟨enters_of Tryz.func153 (by kernel_rfl) rfl⟩
instance : FnF Tryz.prog 154 := ⟨enters_of Tryz.func154 (by kernel_rfl) rfl⟩
instance : FnF Tryz.prog 155 := ⟨enters_of Tryz.func155 (by kernel_rfl) rfl⟩
instance : FnF Tryz.prog 156 := ⟨enters_of Tryz.func156 (by kernel_rfl) rfl⟩
instance : FnF Tryz.prog 157 := ⟨enters_of Tryz.func157 (by kernel_rfl) rfl⟩
instance : FnF Tryz.prog 158 := ⟨enters_of Tryz.func158 (by kernel_rfl) rfl⟩
instance : FnF Tryz.prog 159 := ⟨enters_of Tryz.func159 (by kernel_rfl) rfl⟩
instance : FnF Tryz.prog 160 := ⟨enters_of Tryz.func160 (by kernel_rfl) rfl⟩
instance : FnF Tryz.prog 161 := ⟨enters_of Tryz.func161 (by kernel_rfl) rfl⟩
instance : FnF Tryz.prog 171 := ⟨enters_of Tryz.func171 (by kernel_rfl) rfl⟩
instance : FnF Tryz.prog 172 := ⟨enters_of Tryz.func172 (by kernel_rfl) rfl⟩
instance : FnF Tryz.prog 173 := ⟨enters_of Tryz.func173 (by kernel_rfl) rfl⟩
instance : FnF Tryz.prog 174 := ⟨enters_of Tryz.func174 (by kernel_rfl) rfl⟩
instance : FnF Tryz.prog 175 := ⟨enters_of Tryz.func175 (by kernel_rfl) rfl⟩
instance : FnF Tryz.prog 176 := ⟨enters_of Tryz.func176 (by kernel_rfl) rfl⟩
instance : FnF Tryz.prog 177 := ⟨enters_of Tryz.func177 (by kernel_rfl) rfl⟩
instance : FnF Tryz.prog 178 := ⟨enters_of Tryz.func178 (by kernel_rfl) rfl⟩
instance : FnF Tryz.prog 179 := ⟨enters_of Tryz.func179 (by kernel_rfl) rfl⟩
instance : FnF Tryz.prog 180 := ⟨enters_of Tryz.func180 (by kernel_rfl) rfl⟩
instance : FnF Tryz.prog 181 := ⟨enters_of Tryz.func181 (by kernel_rfl) rfl⟩
instance : FnF Tryz.prog 182 := ⟨enters_of Tryz.func182 (by kernel_rfl) rfl⟩
instance : FnF Tryz.prog 183 := ⟨enters_of Tryz.func183 (by kernel_rfl) rfl⟩
instance : FnF Tryz.prog 184 := ⟨enters_of Tryz.func184 (by kernel_rfl) rfl⟩
instance : FnF Tryz.prog 185 := ⟨enters_of Tryz.func185 (by kernel_rfl) rfl⟩
instance : FnF Tryz.prog 186 := ⟨enters_of Tryz.func186 (by kernel_rfl) rfl⟩
instance : FnF Tryz.prog 187 := ⟨enters_of Tryz.func187 (by kernel_rfl) rfl⟩
instance : FnF Tryz.prog 188 := ⟨enters_of Tryz.func188 (by kernel_rfl) rfl⟩
instance : FnF Tryz.prog 189 := ⟨enters_of Tryz.func189 (by kernel_rfl) rfl⟩
instance : FnF Tryz.prog 190 := ⟨enters_of Tryz.func190 (by kernel_rfl) rfl⟩
instance : FnF Tryz.prog 191 := ⟨enters_of Tryz.func191 (by kernel_rfl) rfl⟩
instance : FnF Tryz.prog 192 := ⟨enters_of Tryz.func192 (by kernel_rfl) rfl⟩
instance : FnF Tryz.prog 193 := ⟨enters_of Tryz.func193 (by kernel_rfl) rfl⟩
instance : FnF Tryz.prog 194 := ⟨enters_of Tryz.func194 (by kernel_rfl) rfl⟩
instance : FnF Tryz.prog 195 := ⟨enters_of Tryz.func195 (by kernel_rfl) rfl⟩
instance : FnF Tryz.prog 196 := ⟨enters_of Tryz.func196 (by kernel_rfl) rfl⟩
instance : FnF Tryz.prog 197 := ⟨enters_of Tryz.func197 (by kernel_rfl) rfl⟩
instance : FnF Tryz.prog 198 := ⟨enters_of Tryz.func198 (by kernel_rfl) rfl⟩
instance : FnF Tryz.prog 199 := ⟨enters_of Tryz.func199 (by kernel_rfl) rfl⟩
instance : FnF Tryz.prog 200 := ⟨enters_of Tryz.func200 (by kernel_rfl) rfl⟩
instance : FnF Tryz.prog 201 := ⟨enters_of Tryz.func201 (by kernel_rfl) rfl⟩
instance : FnF Tryz.prog 202 := ⟨enters_of Tryz.func202 (by kernel_rfl) rfl⟩
instance : FnF Tryz.prog 203 := ⟨enters_of Tryz.func203 (by kernel_rfl) rfl⟩
instance : FnF Tryz.prog 204 := ⟨enters_of Tryz.func204 (by kernel_rfl) rfl⟩
instance : FnF Tryz.prog 205 := ⟨enters_of Tryz.func205 (by kernel_rfl) rfl⟩
instance : FnF Tryz.prog 206 := ⟨enters_of Tryz.func206 (by kernel_rfl) rfl⟩
instance : FnF Tryz.prog 207 := ⟨enters_of Tryz.func207 (by kernel_rfl) rfl⟩
instance : FnF Tryz.prog 208 := ⟨enters_of Tryz.func208 (by kernel_rfl) rfl⟩
instance : FnF Tryz.prog 209 := ⟨enters_of Tryz.func209 (by kernel_rfl) rfl⟩
instance : FnF Tryz.prog 210 := ⟨enters_of Tryz.func210 (by kernel_rfl) rfl⟩
instance : FnF Tryz.prog 211 := ⟨enters_of Tryz.func211 (by kernel_rfl) rfl⟩
instance : FnF Tryz.prog 212 := ⟨enters_of Tryz.func212 (by kernel_rfl) rfl⟩
instance : FnF Tryz.prog 213 := ⟨enters_of Tryz.func213 (by kernel_rfl) rfl⟩
instance : FnF Tryz.prog 214 := ⟨enters_of Tryz.func214 (by kernel_rfl) rfl⟩
instance : FnF Tryz.prog 215 := ⟨enters_of Tryz.func215 (by kernel_rfl) rfl⟩
instance : FnF Tryz.prog 216 := ⟨enters_of Tryz.func216 (by kernel_rfl) rfl⟩
instance : FnF Tryz.prog 246 := ⟨enters_of Tryz.func246 (by kernel_rfl) rfl⟩
theorem mixed : Tryz.prog.follows .mixedOrders = true := by kernel_rfl
end Go.Proofs.YtljpfnjpifhdlaaGreatDoor
