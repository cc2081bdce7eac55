/- Parts of the proof: YW. -/
import Derived.WalkKit
import Derived.Deep.LoopGhost
import Derived.Orders
import Derived.RegionTactic
namespace Go.Proofs.YtbabchapkhlenaaGreat
open Go
set_option linter.all false
set_option maxRecDepth 100000
set_option maxHeartbeats 4000000
abbrev FF := Nat → Value
def upd (f : FF) (d : Nat) (v : Value) : FF := fun i => cond (Nat.beq i d) v (f i)
def updo (f : FF) : Option Nat → Value → FF
 | some d, v => upd f d v
 | none, _ => f
def dlt : Option Nat → Nat → Bool
 | some d, n => Nat.blt d n
 | none, _ => true
theorem upd_same (f : FF) (d : Nat) (v : Value) : upd f d v d = v := by simp [upd]
theorem upd_ne {f : FF} {d i : Nat} {v : Value} (h : i ≠ d) : upd f d v i = f i := by
 have : Nat.beq i d = false := by cases hb : Nat.beq i d with | false => rfl | true => exact absurd (Nat.eq_of_beq_eq_true hb) h
 simp [upd, this]
structure Fr (n : Nat) (f : FF) (a : Act) : Prop where
 size : a.tmps.size = n
 get : ∀ i, a.tmps.getD i undef = f i
 defers : a.defers = []
def ev (f : FF) : Operand → Value
 | .tmp t => f t
 | .const v => v
 | .global g => .pointer (some ⟨g, 0, none⟩)
 | .func g => .func (.func g) #[] #[]
theorem Fr.eval {n : Nat} {f : FF} {a : Act} (h : Fr n f a) : a.eval = ev f := by
 funext x
 cases x with
 | tmp t => exact h.get t
 | const v => rfl
 | global g => rfl
 | func g => rfl
theorem Fr.put {n : Nat} {f : FF} {a : Act} (h : Fr n f a) {d : Option Nat} (hd : dlt d n = true) (v : Value) : Fr n (updo f d v) (a.put d v) := by
 cases d with
 | none => exact h
 | some d =>
  have hd' : d < a.tmps.size := by rw [h.size]; simpa [dlt] using hd
  refine ⟨by simp [Act.put, h.size], fun i => ?_, h.defers⟩
  simp only [Act.put, updo]
  by_cases hi : i = d
  ·subst hi
   rw [upd_same]
   simp [hd']
  ·rw [upd_ne hi, ← h.get i]
   simp [Array.getElem?_setIfInBounds_ne (Ne.symm hi)]
abbrev FPost := Exit → FF → World → Prop
def toQ (n : Nat) (Q : FPost) : Exit → Act → World → Prop := fun e a w => ∃ f, Fr n f a ∧ Q e f w
def W (P : Program) (n : Nat) (c : Code) (Q : FPost) (f : FF) (w : World) : Prop := ∀ a, Fr n f a → c.wp P (toQ n Q) a w
def sq (k : FF → World → Prop) (Q : FPost) : FPost
 | .normal, f, w => k f w
 | e, f, w => Q e f w
def bq (id : Nat) (Q : FPost) : FPost
 | .exit id', f, w => if id' = id then Q .normal f w else Q (.exit id') f w
 | e, f, w => Q e f w
section
variable {Q : FPost} {f : FF} {w : World} {k : FF → World → Prop}
theorem nx (h : k f w) : sq k Q .normal f w := h
end
section
variable {P : Program} {n : Nat} {Q : FPost} {f : FF} {w : World}
theorem W_mono {c : Code} {Q' : FPost} (h : W P n c Q f w) (hq : ∀ e f w, Q e f w → Q' e f w) : W P n c Q' f w :=
 fun a ha => wp_mono (h a ha) fun e _ w' ⟨f', hf, q⟩ => ⟨f', hf, hq e f' w' q⟩
theorem W_seq {x y : Code} (h : W P n x (sq (W P n y Q) Q) f w) : W P n (.seq x y) Q f w := by
 intro a ha
 refine wp_seq (wp_mono (h a ha) ?_)
 rintro e a' w' ⟨f', hf, hq⟩
 cases e with
 | normal => exact hq a' hf
 | exit id => exact ⟨f', hf, hq⟩
 | goto l => exact ⟨f', hf, hq⟩
 | ret => exact ⟨f', hf, hq⟩
 | panic ch => exact ⟨f', hf, hq⟩
 | outgrown => exact ⟨f', hf, hq⟩
theorem W_block {id : Nat} {c : Code} (h : W P n c (bq id Q) f w) : W P n (.block id c) Q f w := by
 intro a ha
 refine wp_block (wp_mono (h a ha) ?_)
 rintro e a' w' ⟨f', hf, hq⟩
 cases e with
 | exit id' =>
  by_cases hid : id' = id
  ·subst hid
   simp only [Exit.inBlock, if_true]
   simp only [bq, if_true] at hq
   exact ⟨f', hf, hq⟩
  ·simp only [Exit.inBlock, hid, if_false]
   simp only [bq, hid, if_false] at hq
   exact ⟨f', hf, hq⟩
 | normal => exact ⟨f', hf, hq⟩
 | goto l => exact ⟨f', hf, hq⟩
 | ret => exact ⟨f', hf, hq⟩
 | panic ch => exact ⟨f', hf, hq⟩
 | outgrown => exact ⟨f', hf, hq⟩
theorem W_skip (h : Q .normal f w) : W P n .skip Q f w := fun _ ha => wp_skip ⟨f, ha, h⟩
theorem W_exit {id : Nat} (h : Q (.exit id) f w) : W P n (.exit id) Q f w := fun _ ha => wp_exit ⟨f, ha, h⟩
theorem W_ret (h : Q .ret f w) : W P n .ret Q f w := fun _ ha => wp_ret ⟨f, ha, h⟩
theorem W_split {c : Operand} {x y : Code} (b : Bool) (hc : ev f c = .bool b) (ht : b = true → W P n x Q f w) (hf : b = false → W P n y Q f w) : W P n (.cond c x y) Q f w :=
 fun a ha => wp_cond_split (by rw [ha.eval]; exact hc) (fun h => ht h a ha) (fun h => hf h a ha)
theorem W_loop {c : Code} (I : Nat → FF → World → Prop) (m : Nat) (h0 : I m f w)
 (round : ∀ m f w, I m f w → W P n c (sq (fun f' w' => ∃ m', m' < m ∧ I m' f' w') Q) f w) : W P n (.loop c) Q f w := by
 intro a ha
 refine wp_loop_ghost (fun k a w => ∃ f, Fr n f a ∧ I k f w) m ⟨f, ha, h0⟩ ?_
 rintro k a w ⟨f, hf, hI⟩
 refine wp_mono (round k f w hI a hf) ?_
 rintro e a' w' ⟨f', hf', hq⟩
 cases e with
 | normal => obtain ⟨m', h1, h2⟩ := hq; exact ⟨m', h1, f', hf', h2⟩
 | exit id => exact ⟨f', hf', hq⟩
 | goto l => exact ⟨f', hf', hq⟩
 | ret => exact ⟨f', hf', hq⟩
 | panic ch => exact ⟨f', hf', hq⟩
 | outgrown => exact ⟨f', hf', hq⟩
def OS (P : Program) (o : Oper) (r : Operand → Value) (w : World) (K : Value → World → Prop) : Prop :=
 match (execOp r o).run P w with
 | .ok (.value v) w' => K v w'
 | .ok .skip w' => K undef w'
 | .ok (.enter g args) w' => Calls P g args w' fun e w'' => ∃ v, e = .returned v ∧ K v w''
 | _ => False
def OW (P : Program) (n : Nat) (o : Oper) (K : FF → World → Prop) (f : FF) (w : World) : Prop :=
 dlt o.dst n = true ∧ OS P o (ev f) w fun v w' => K (updo f o.dst v) w'
theorem OS.mono {o : Oper} {r : Operand → Value} {K K' : Value → World → Prop} (h : OS P o r w K) (hk : ∀ v w, K v w → K' v w) : OS P o r w K' := by
 unfold OS at *
 generalize (execOp r o).run P w = x at *
 cases x with
 | ok m w' =>
  cases m <;> simp only at h ⊢ <;> first | exact hk _ _ h | exact h | exact Calls.mono h (fun e w'' ⟨v, he, hv⟩ => ⟨v, he, hk _ _ hv⟩)
 | halt x w' => exact h
theorem OW.wp {o : Oper} {K : FF → World → Prop} (h : OW P n o K f w) (a : Act) (ha : Fr n f a) (Q : Exit → Act → World → Prop) : o.wp P a w (fun a' w' => ∃ f', Fr n f' a' ∧ K f' w') Q := by
 obtain ⟨hd, h⟩ := h
 unfold OS at h
 unfold Oper.wp
 rw [ha.eval]
 generalize (execOp (ev f) o).run P w = x at *
 cases x with
 | ok m w' =>
  cases m <;> simp only at h
  case value v => exact ⟨_, ha.put hd v, h⟩
  case skip => exact ⟨_, ha.put hd undef, h⟩
  case enter g args =>
   refine Calls.mono h fun e w'' he => ?_
   obtain ⟨v, rfl, hv⟩ := he
   exact ⟨_, ha.put hd v, hv⟩
 | halt x w' => exact h.elim
theorem S_run {o : Oper} {r : Operand → Value} {K : Value → World → Prop} {v : Value} {w' : World} (h : (execOp r o).run P w = .ok (.value v) w') (k : K v w') : OS P o r w K := by
 unfold OS; rw [h]; exact k
theorem S_skip {o : Oper} {r : Operand → Value} {K : Value → World → Prop} {w' : World} (h : (execOp r o).run P w = .ok .skip w') (k : K undef w') : OS P o r w K := by
 unfold OS; rw [h]; exact k
theorem OW.mono {o : Oper} {K K' : FF → World → Prop} (h : OW P n o K f w) (hk : ∀ f w, K f w → K' f w) : OW P n o K' f w := ⟨h.1, h.2.mono fun _ _ => hk _ _⟩
def yl (ops : Array Oper) (f : FF) (j : Nat) : Option Bool :=
 match (ops[j]?).bind (·.dst) with
 | some t => (match f t with | .bool b => some b | _ => none)
 | none => none
def WO (P : Program) (n : Nat) (ops : Array Oper) (K : FF → World → Prop) : List Oper → FF → World → Prop
 | [], f, w => K f w
 | o :: rest, f, w => if Region.wanted o (yl ops f) = true
  then OW P n o (WO P n ops K rest) f w else WO P n ops K rest (updo f o.dst undef) w ∧ dlt o.dst n = true
theorem Fr.under {a : Act} (ha : Fr n f a) {t : Nat} (ht : n ≤ t) : f t = undef := by
 rw [← ha.get t, Array.getD_eq_getD_getElem?, Array.getElem?_eq_none (by rw [ha.size]; exact ht)]; rfl
theorem Fr.yielded {ops : Array Oper} {a : Act} (ha : Fr n f a) : yielded ops a.tmps = yl ops f := by
 funext j
 unfold Go.yielded yl
 cases h : (ops[j]?).bind (·.dst) with
 | none => rfl
 | some t =>
  simp only [Option.bind_some]
  rw [← ha.get t]
  cases ht : a.tmps[t]? with
  | none => simp [ht, undef]
  | some v => cases v <;> simp [ht]
theorem wpList_of_WO {ops : Array Oper} {K : FF → World → Prop} (hK : ∀ f w, K f w → Q .normal f w) : ∀ (l : List Oper) (f : FF) (w : World) (a : Act), Fr n f a → WO P n ops K l f w → wpList P ops (toQ n Q) l a w
 | [], f, w, a, ha, h => ⟨f, ha, hK f w h⟩
 | o :: rest, f, w, a, ha, h => by
  unfold wpList
  rw [ha.yielded]
  unfold WO at h
  split
  ·rename_i hw
   rw [if_pos hw] at h
   refine .inl (Oper.wp_mono ?_ (h.wp a ha _))
   rintro a' w' ⟨f', hf', hr⟩
   exact wpList_of_WO hK rest f' w' a' hf' hr
  ·rename_i hw
   rw [if_neg hw] at h
   exact wpList_of_WO hK rest _ w _ (ha.put h.2 undef) h.1
theorem W_region {id : Nat} {l : List Oper} (h : WO P n l.toArray (fun f w => Q .normal f w) l f w) : W P n (.region id l.toArray false) Q f w :=
 fun a ha => wp_region_list (wpList_of_WO (fun _ _ h => h) _ f w a ha (by simpa using h))
theorem calls_W {g : FuncId} {fn : Func} {c : Code} {args : Array Value} {R : Ending → World → Prop} (hf : P.funcs[g]? = some fn) (hb : fn.body = some c) (hn : fn.ntmps = n) (ha : args.size ≤ n)
 (h : W P n c (fun e f' w' => match e with
   | .normal | .ret => ∀ tmps : Array Value, (∀ i, tmps.getD i undef = f' i) → ∃ v, (results fn tmps).run P w' = .ok v w' ∧ R (.returned v) w'
   | _ => False) (fun i => args.getD i undef) w) : Calls P g args w R := by
 refine calls_of_wp hf hb ?_
 refine wp_mono (h { tmps := args ++ Array.replicate (fn.ntmps - args.size) undef, defers := [] } ⟨by simp [hn]; omega, fun i => ?_, rfl⟩) ?_
 ·simp only [Array.getD_eq_getD_getElem?]
  by_cases hi : i < args.size
  ·rw [Array.getElem?_append_left hi]
  ·rw [Array.getElem?_append_right (by omega), Array.getElem?_eq_none (xs := args) (by omega)]
   simp only [Option.getD_none, Array.getElem?_replicate]
   split <;> rfl
 ·rintro e a' w' ⟨f', hf', hq⟩
  cases e with
  | normal => obtain ⟨v, h1, h2⟩ := hq a'.tmps hf'.get; exact ⟨hf'.defers, v, h1, h2⟩
  | ret => obtain ⟨v, h1, h2⟩ := hq a'.tmps hf'.get; exact ⟨hf'.defers, v, h1, h2⟩
  | exit id => exact hq.elim
  | goto l => exact hq.elim
  | panic ch => exact hq.elim
  | outgrown => exact hq.elim
end
end Go.Proofs.YtbabchapkhlenaaGreat
