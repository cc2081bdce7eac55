/- Contracts of markTermS and heldTermS: marking a term that is nobody else's, and finding the marks. -/
import Derived.Test.YtjkabbkaeioibaaEq
namespace Go.Proofs.Ytjkabbkaeioibaa
open Go.RowKit

mutual
def Tm.cnt : Tm → Nat | .mk _ _ _ xs => 1 + cntL xs
def cntL : List Tm → Nat | [] => 0 | t :: ts => t.cnt + cntL ts
end
mutual
def Tm.mark : Tm → Nat → Tm | .mk _ _ _ xs, k => .mk k ((k : Int) + 1) (markTx (k + 2)) (markL xs (k + 3))
def markL : List Tm → Nat → List Tm | [], _ => [] | t :: ts, k => t.mark k :: markL ts (k + 3 * t.cnt)
end
theorem cntL_append (xs ys : List Tm) : cntL (xs ++ ys) = cntL xs + cntL ys := by
  induction xs with
  | nil => simp [cntL]
  | cons x xs ih => simp only [List.cons_append, cntL, ih]; omega
theorem cntL_take_succ {ts : List Tm} {j : Nat} {t : Tm} (h : ts[j]? = some t) : cntL (ts.take (j + 1)) = cntL (ts.take j) + t.cnt := by
  obtain ⟨h1, h2⟩ := List.getElem?_eq_some_iff.1 h
  rw [List.take_succ_eq_append_getElem h1, h2, cntL_append]
  simp [cntL]
theorem cntL_take_le (ts : List Tm) (j : Nat) : cntL (ts.take j) ≤ cntL ts := by
  have h : cntL (ts.take j ++ ts.drop j) = _ := cntL_append _ _
  rw [List.take_append_drop] at h; omega
theorem cntL_ge (ts : List Tm) : ts.length ≤ cntL ts := by
  induction ts with
  | nil => simp
  | cons t ts ih => cases t; simp only [List.length_cons, cntL, Tm.cnt]; omega
theorem markL_length (ts : List Tm) (k : Nat) : (markL ts k).length = ts.length := by
  induction ts generalizing k with
  | nil => simp [markL]
  | cons t ts ih => simp [markL, ih]
theorem markL_get : ∀ (ts : List Tm) (k i : Nat) (x : Tm), (markL ts k)[i]? = some x → ∃ t, ts[i]? = some t ∧ x = t.mark (k + 3 * cntL (ts.take i)) := by
  intro ts
  induction ts with
  | nil => intro k i x h; simp [markL] at h
  | cons t ts ih =>
    intro k i x h
    cases i with
    | zero => simp [markL] at h; exact ⟨t, by simp, by simp [cntL, h]⟩
    | succ i =>
      rw [markL] at h
      obtain ⟨t', h1, h2⟩ := ih _ i x (by simpa using h)
      refine ⟨t', by simpa using h1, ?_⟩
      rw [h2, List.take_succ_cons, cntL]
      congr 1; omega

/-- the world w' is w but for the blocks F, which stay blocks of cells that may be written, and new blocks -/
structure Wrote (F : List Nat) (w w' : World) : Prop where
  os : w'.os = w.os
  tape : w'.tape = w.tape
  output : w'.output = w.output
  size : w.heap.size ≤ w'.heap.size
  block : ∀ x : Nat, x < w.heap.size → x ∉ F → w'.heap[x]? = w.heap[x]?
  free : ∀ x : Nat, (∃ (cs : Array Value) (T : Nat), w.heap[x]? = some (Obj.cells cs T (0, 0))) → ∃ (cs : Array Value) (T : Nat), w'.heap[x]? = some (Obj.cells cs T (0, 0))
theorem Wrote.refl (F : List Nat) (w : World) : Wrote F w w := ⟨rfl, rfl, rfl, Nat.le_refl _, fun _ _ _ => rfl, fun _ h => h⟩
theorem Wrote.trans {F : List Nat} {a b c : World} (h : Wrote F a b) (k : Wrote F b c) : Wrote F a c :=
  ⟨k.os.trans h.os, k.tape.trans h.tape, k.output.trans h.output, Nat.le_trans h.size k.size,
    fun x hx hF => (k.block x (Nat.lt_of_lt_of_le hx h.size) hF).trans (h.block x hx hF), fun x hx => k.free x (h.free x hx)⟩
theorem Wrote.mono {F G : List Nat} {w w' : World} (h : Wrote F w w') (hG : ∀ x ∈ F, x ∈ G) : Wrote G w w' :=
  ⟨h.os, h.tape, h.output, h.size, fun x hx hn => h.block x hx (fun hm => hn (hG x hm)), h.free⟩
theorem Wrote.of_below {F : List Nat} {w w' : World} (h : Below w.heap.size w w') : Wrote F w w' := by
  refine ⟨h.os, h.tape, h.output, h.size, fun x hx _ => h.block x hx, fun x hx => ?_⟩
  obtain ⟨cs, T, h1⟩ := hx
  have hlt : x < w.heap.size := by
    rcases Nat.lt_or_ge x w.heap.size with h' | h'
    · exact h'
    · simp [Array.getElem?_eq_none h'] at h1
  exact ⟨cs, T, by rw [h.block x hlt]; exact h1⟩
theorem Wrote.setCell {F : List Nat} (w : World) {b o : Nat} (v : Value) (hb : b ∈ F) : Wrote F w (w.setCell ⟨b, o, none⟩ v) := by
  refine ⟨rfl, rfl, rfl, by simp [World.setCell], fun x _ hF => heap_set_other v (fun h => hF (h ▸ hb)), fun x hx => ?_⟩
  obtain ⟨cs, T, h1⟩ := hx
  by_cases hxb : x = b
  · subst hxb; exact ⟨_, T, heap_set v h1⟩
  · exact ⟨cs, T, by rw [heap_set_other v hxb]; exact h1⟩
theorem Wrote.below {F : List Nat} {w w' : World} {B : Nat} (h : Wrote F w w') (hB : ∀ x ∈ F, B ≤ x) (hw : B ≤ w.heap.size) : Below B w w' :=
  ⟨h.os, h.tape, h.output, h.size, fun x hx => h.block x (by omega) (fun hm => by have := hB x hm; omega)⟩

/-- the reading of one term in a row hangs on its four cells and its own blocks -/
theorem Rd_cells {w w' : World} {t : Tm} {b o : Nat} {F : List Nat} (hc : ∀ m, m < 4 → w'.cell? ⟨b, o + m, none⟩ = w.cell? ⟨b, o + m, none⟩) (hF : ∀ x ∈ F, w'.heap[x]? = w.heap[x]?) (h : Rd w t b o F) : Rd w' t b o F := by
  cases t with
  | mk k n s xs =>
    rw [Rd_mk] at h ⊢
    obtain ⟨h1, h2, h3, a, l, c, h4, h5⟩ := h
    exact ⟨by have := hc 0 (by omega); rw [Nat.add_zero] at this; rw [this]; exact h1, by rw [hc 1 (by omega)]; exact h2, by rw [hc 2 (by omega)]; exact h3, a, l, c, by rw [hc 3 (by omega)]; exact h4, RdS_same hF h5⟩

def MarkS (ts : List Tm) : Prop := ∀ (a : Option Addr) (l c : Nat) (F : List Nat) (k : Nat) (w : World), RdS w ts a l c F → F.Nodup → Free w F → 0 < k → k + 3 * cntL ts ≤ 100000000000 →
  Calls Try.prog 52 #[.slice a l c, .int .i64 k] w fun e w' => e = .returned (.int .i64 ((k + 3 * cntL ts : Nat) : Int)) ∧ RdS w' (markL ts k) a l c F ∧ Wrote F w w'

theorem mem_getD_flatten {Fs : List (List Nat)} {j x : Nat} (h : x ∈ Fs.getD j []) : x ∈ Fs.flatten := by
  rcases Nat.lt_or_ge j Fs.length with hj | hj
  · simp [hj] at h
    exact List.mem_flatten.2 ⟨_, List.getElem_mem hj, h⟩
  · simp [List.getElem?_eq_none hj] at h
theorem getD_nodup : ∀ {Fs : List (List Nat)}, Fs.flatten.Nodup → ∀ j, (Fs.getD j []).Nodup
  | [], _, j => by simp
  | F :: Fs, h, j => by
    rw [List.flatten_cons] at h
    obtain ⟨h1, h2, _⟩ := List.nodup_append.1 h
    cases j with
    | zero => simpa using h1
    | succ j => simpa using getD_nodup h2 j
theorem getD_apart : ∀ {Fs : List (List Nat)}, Fs.flatten.Nodup → ∀ {i j x : Nat}, i ≠ j → x ∈ Fs.getD i [] → x ∉ Fs.getD j []
  | [], _, i, j, x, _, hi => by simp at hi
  | F :: Fs, h, i, j, x, hij, hi => by
    rw [List.flatten_cons] at h
    obtain ⟨h1, h2, h3⟩ := List.nodup_append.1 h
    intro hj
    cases i with
    | zero =>
      cases j with
      | zero => exact hij rfl
      | succ j => exact h3 x (by simpa using hi) x (mem_getD_flatten (by simpa using hj)) rfl
    | succ i =>
      cases j with
      | zero => exact h3 x (by simpa using hj) x (mem_getD_flatten (by simpa using hi)) rfl
      | succ j => exact getD_apart h2 (i := i) (j := j) (x := x) (by omega) (by simpa using hi) (by simpa using hj)

theorem RdS_nil' {w : World} {a : Option Addr} {c k : Nat} (_ : k = k) : RdS w (markL [] k) a 0 c [] := by rw [markL]; exact RdS_nil _ _ _
/-- the loop of markTermS: the elements before j are marked -/
def MarkRel (w : World) (ts : List Tm) (Fs : List (List Nat)) (b o k l : Nat) (kv i : Value) (wr : World) : Prop :=
  ∃ j : Nat, j ≤ l ∧ i = .int .i64 j ∧ kv = .int .i64 ((k + 3 * cntL (ts.take j) : Nat) : Int) ∧ Wrote (b :: Fs.flatten) w wr ∧
    ∀ i t, ts[i]? = some t → Rd wr (if i < j then t.mark (k + 3 * cntL (ts.take i)) else t) b (o + 4 * i) (Fs.getD i [])

theorem MarkRel_step {w wr w3 w4 : World} {ts : List Tm} {Fs : List (List Nat)} {b o k l j : Nat} (hjl : j < l) {xk xn : Int} {xs : ByteArray} {xas : List Tm} {xa : Option Addr} {xl xc : Nat}
    (hx : ts[j]? = some (.mk xk xn xs xas)) (hbF : b ∉ Fs.flatten) (hFn : Fs.flatten.Nodup) (hwr : Wrote (b :: Fs.flatten) w wr) (hblt : b < wr.heap.size)
    (hrd : ∀ i t, ts[i]? = some t → Rd wr (if i < j then t.mark (k + 3 * cntL (ts.take i)) else t) b (o + 4 * i) (Fs.getD i []))
    (hw3 : Wrote (b :: Fs.flatten) wr w3) (hothers : ∀ x, x < wr.heap.size → x ≠ b → w3.heap[x]? = wr.heap[x]?)
    (hcells : ∀ m, m ≠ o + 4 * j → m ≠ o + 4 * j + 1 → m ≠ o + 4 * j + 2 → w3.cell? ⟨b, m, none⟩ = wr.cell? ⟨b, m, none⟩)
    (z0 : w3.cell? ⟨b, o + 4 * j, none⟩ = some (.int .i64 ((k + 3 * cntL (ts.take j) : Nat) : Int))) (z1 : w3.cell? ⟨b, o + 4 * j + 1, none⟩ = some (.int .i64 (((k + 3 * cntL (ts.take j) : Nat) : Int) + 1)))
    (z2 : w3.cell? ⟨b, o + 4 * j + 2, none⟩ = some (.string (markTx (k + 3 * cntL (ts.take j) + 2)))) (z3 : w3.cell? ⟨b, o + 4 * j + 3, none⟩ = some (.slice xa xl xc))
    (hw4 : Wrote (Fs.getD j []) w3 w4) (hrs : RdS w4 (markL xas (k + 3 * cntL (ts.take j) + 3)) xa xl xc (Fs.getD j [])) :
    MarkRel w ts Fs b o k l (.int .i64 ((k + 3 * cntL (ts.take (j + 1)) : Nat) : Int)) (.int .i64 ((j + 1 : Nat) : Int)) w4 := by
  have hbj : b ∉ Fs.getD j [] := fun h => hbF (mem_getD_flatten h)
  have hb4 : w4.heap[b]? = w3.heap[b]? := hw4.block b (Nat.lt_of_lt_of_le hblt hw3.size) hbj
  have hc4 : ∀ m, w4.cell? ⟨b, m, none⟩ = w3.cell? ⟨b, m, none⟩ := fun m => World.cell?_of_block (w := w3) hb4
  refine ⟨j + 1, by omega, rfl, rfl, (hwr.trans hw3).trans (hw4.mono (fun x hx => List.mem_cons_of_mem _ (mem_getD_flatten hx))), fun i t hi => ?_⟩
  by_cases hij : i = j
  · subst hij
    rw [hx] at hi
    cases hi
    rw [if_pos (by omega), Tm.mark, Rd_mk]
    exact ⟨by rw [hc4]; exact z0, by rw [hc4]; exact z1, by rw [hc4]; exact z2, xa, xl, xc, by rw [hc4]; exact z3, hrs⟩
  · have h1 := hrd i t hi
    have e : (if i < j + 1 then t.mark (k + 3 * cntL (ts.take i)) else t) = if i < j then t.mark (k + 3 * cntL (ts.take i)) else t := by
      by_cases h2 : i < j
      · rw [if_pos h2, if_pos (by omega)]
      · rw [if_neg h2, if_neg (by omega)]
    rw [e]
    refine Rd_cells (fun m hm => ?_) (fun x hx => ?_) h1
    · rw [hc4, hcells _ (by omega) (by omega) (by omega)]
    · have hxb : x ≠ b := fun h => hbF (h ▸ mem_getD_flatten hx)
      have hxlt : x < wr.heap.size := Rd_lt _ _ _ _ h1 x (List.mem_cons_of_mem _ hx)
      rw [hw4.block x (Nat.lt_of_lt_of_le hxlt hw3.size) (getD_apart hFn hij hx), hothers x hxlt hxb]

set_option maxHeartbeats 1000000 in
set_option maxRecDepth 100000 in
theorem markS_of (ts : List Tm) (hall : ∀ t ∈ ts, MarkS t.args) : MarkS ts := by
  intro a l c F k w h hnd hfree hk0 hk
  by_cases hts : ts = []
  · subst hts
    have hF : F = [] := by obtain ⟨_, _, h3⟩ := h; rcases h3 with ⟨_, h4⟩ | ⟨h4, _⟩; exact h4; exact absurd rfl h4
    obtain ⟨hl, _, _⟩ := h
    simp at hl
    subst hl hF
    have hw : Hid (RdS w (markL [] k) a 0 c []) := RdS_nil' (by omega)
    clear hnd hfree hall
    go_enter Try.func52, Try.ntmps52
    go_wp2
    refine wp_loop_rounds 1 ?_
    rw [rounds_succ]
    go_wp2
    go_ret
    exact ⟨by simp [cntL], hw.out, Wrote.refl _ _⟩
  · obtain ⟨b, o, Fs, ha, hl, hFs, hel, hor⟩ := RdS_each h
    have hF : F = b :: Fs.flatten := by rcases hor with h' | h'; exact absurd h' hts; exact h'
    subst hF
    have hpos : 0 < l := by rw [hl]; exact List.length_pos_iff.2 hts
    obtain rfl := ha hpos
    have hcge := cntL_ge ts
    have hlm : l ≤ 100000000000 := by omega
    have hlc := h.2.1
    clear h
    have HL := Lib.hid hl; have HFs := Lib.hid hFs; have HEL := Lib.hid hel; have HALL := Lib.hid hall; have HND := Lib.hid hnd; have HFR := Lib.hid hfree
    clear hl hFs hel hall hnd hfree hor ha
    go_enter Try.func52, Try.ntmps52
    go_wp2
    go_loopw [1, 5] (fun kv i wr => MarkRel w ts Fs b o k l kv i wr) (fun _ i _ => l - (intOf i).toNat)
    case atStart => exact ⟨0, Nat.zero_le _, rfl, by simp [cntL], Wrote.refl _ _, fun i t hi => by simpa using HEL.out i t hi⟩
    case round =>
      obtain ⟨j, hj, rfl, rfl, hwr, hrd⟩ := hrel
      have HR := Lib.hid hrd; clear hrd
      by_cases hlt : j < l
      · obtain ⟨xk, xn, xs, xas, hx⟩ : ∃ xk xn xs xas, ts[j]? = some (.mk xk xn xs xas) := by
          have h1 : j < ts.length := by have := HL.out; omega
          cases hx : ts[j] with
          | mk xk xn xs xas => exact ⟨xk, xn, xs, xas, by simp [h1, hx]⟩
        have r1 := HR.out j _ hx
        rw [if_neg (by omega), Rd_mk] at r1
        obtain ⟨x0, x1, x2, xa, xl, xc, x3, hrx⟩ := r1
        rw [show o + 4 * j = o + j * 4 by omega] at x0 x1 x2 x3
        have hts1 := cntL_take_succ hx
        simp only [Tm.cnt] at hts1
        have hts2 := cntL_take_le ts (j + 1)
        have hbfree : ∃ (cs : Array Value) (T : Nat), wr.heap[b]? = some (Obj.cells cs T (0, 0)) := hwr.free b (HFR.out b (by simp))
        obtain ⟨bcs, bT, hbb⟩ := hbfree
        have hbf := frozen_of_block hbb
        have HBB := Lib.hid hbb; clear hbb
        have HX := Lib.hid hx; clear hx
        have HT1 := Lib.hid hts1
        generalize hkj : k + 3 * cntL (ts.take j) = kj at *
        have HKJ := Lib.hid hkj; clear hkj
        have hkj2 : kj + 3 + 3 * cntL xas ≤ 100000000000 := by have := HKJ.out; have := HT1.out; omega
        have hkj3 : 0 < kj := by have := HKJ.out; omega
        clear hts1 hts2
        have hnd := HND.out
        have hbF : b ∉ Fs.flatten := (List.nodup_cons.1 hnd).1
        have hFn : Fs.flatten.Nodup := (List.nodup_cons.1 hnd).2
        clear hnd
        have hblt := cell_lt x0
        go_wp2_with fail
        rw [show ((kj : Int) + 1 + 1) = ((kj + 2 : Nat) : Int) by omega]
        refine (markText_any (kj + 2) _ (by omega) (by omega)).mono ?_
        rintro e w2 ⟨rfl, hb2⟩
        generalize hW1 : ((wr.setCell ⟨b, o + j * 4, none⟩ (.int .i64 kj)).setCell ⟨b, o + j * 4 + 1, none⟩ (.int .i64 ((kj : Int) + 1))) = W1 at hb2
        have hsz1 : W1.heap.size = wr.heap.size := by rw [← hW1]; simp [World.setCell]
        have hb2b : w2.heap[b]? = W1.heap[b]? := hb2.block b (by omega)
        have hW1b : W1.heap[b]? = some (.cells ((bcs.setIfInBounds (o + j * 4) (.int .i64 kj)).setIfInBounds (o + j * 4 + 1) (.int .i64 ((kj : Int) + 1))) bT (0, 0)) := by
          rw [← hW1]; exact heap_set _ (heap_set _ HBB.out)
        have hw2b := hb2b.trans hW1b
        have c2 : ∀ m, w2.cell? ⟨b, m, none⟩ = ((bcs.setIfInBounds (o + j * 4) (.int .i64 kj)).setIfInBounds (o + j * 4 + 1) (.int .i64 ((kj : Int) + 1)))[m]? := cell_of_block hw2b
        have c1 : ∀ m, wr.cell? ⟨b, m, none⟩ = bcs[m]? := cell_of_block HBB.out
        have y2 : w2.cell? ⟨b, o + j * 4 + 2, none⟩ = some (.string xs) := by
          rw [c2, ← x2, c1, Array.getElem?_setIfInBounds_ne (by omega), Array.getElem?_setIfInBounds_ne (by omega)]
        have y3 : w2.cell? ⟨b, o + j * 4 + 3, none⟩ = some (.slice xa xl xc) := by
          rw [c2, ← x3, c1, Array.getElem?_setIfInBounds_ne (by omega), Array.getElem?_setIfInBounds_ne (by omega)]
        have yf := frozen_of_block hw2b
        have hrx2 : RdS w2 xas xa xl xc (Fs.getD j []) := by
          refine RdS_same (fun x hx => ?_) hrx
          have hxb : x ≠ b := fun h => hbF (h ▸ mem_getD_flatten hx)
          have hxlt := RdS_lt hrx x hx
          rw [hb2.block x (by omega), ← hW1, heap_set_other _ hxb, heap_set_other _ hxb]
        have hW2 : Wrote (b :: Fs.flatten) wr w2 := by
          refine Wrote.trans (b := W1) ?_ (Wrote.of_below hb2)
          rw [← hW1]
          exact (Wrote.setCell _ _ (by simp)).trans (Wrote.setCell _ _ (by simp))
        have hoth : ∀ x, x < wr.heap.size → x ≠ b → w2.heap[x]? = wr.heap[x]? := by
          intro x hx hxb
          rw [hb2.block x (by omega), ← hW1, heap_set_other _ hxb, heap_set_other _ hxb]
        have C2 := Lib.hid c2; have C1 := Lib.hid c1; have HRX := Lib.hid hrx2; have HW2 := Lib.hid hW2; have HO := Lib.hid hoth; have HW2B := Lib.hid hw2b
        have X0 := Lib.hid x0; have X1 := Lib.hid x1; have X2 := Lib.hid x2; have X3 := Lib.hid x3
        clear c2 c1 hrx2 hW2 hoth hw2b hW1 hW1b hb2b hb2 hsz1 x0 x1 x2 x3 hbf hrx W1
        go_wp2_with fail
        rw [show ((kj : Int) + 2 + 1) = ((kj + 3 : Nat) : Int) by omega]
        generalize hW3 : w2.setCell ⟨b, o + j * 4 + 2, none⟩ (.string (markTx (kj + 2))) = w3
        have hrx3 : RdS w3 xas xa xl xc (Fs.getD j []) := by
          refine RdS_same (fun x hx => ?_) HRX.out
          have hxb : x ≠ b := fun h => hbF (h ▸ mem_getD_flatten hx)
          rw [← hW3, heap_set_other _ hxb]
        have hW3' : Wrote (b :: Fs.flatten) wr w3 := HW2.out.trans (by rw [← hW3]; exact Wrote.setCell _ _ (by simp))
        have hfr3 : Free w3 (Fs.getD j []) := fun x hx => hW3'.free x (hwr.free x (HFR.out x (List.mem_cons_of_mem _ (mem_getD_flatten hx))))
        refine (HALL.out _ (List.mem_of_getElem? HX.out) xa xl xc _ (kj + 3) w3 hrx3 (getD_nodup hFn j) hfr3 (by omega) (by show kj + 3 + 3 * cntL xas ≤ _; omega)).mono ?_
        rintro e w4 ⟨rfl, hrs4, hw4⟩
        have c3 : ∀ m, w3.cell? ⟨b, m, none⟩ = (((bcs.setIfInBounds (o + j * 4) (.int .i64 kj)).setIfInBounds (o + j * 4 + 1) (.int .i64 ((kj : Int) + 1))).setIfInBounds (o + j * 4 + 2) (.string (markTx (kj + 2))))[m]? := by
          rw [← hW3]; exact cell_of_block (heap_set _ HW2B.out)
        have l0 : o + j * 4 + 3 < bcs.size := by
          have := X3.out
          rw [C1.out] at this
          exact (Array.getElem?_eq_some_iff.1 this).1
        have hstep : MarkRel w ts Fs b o k l (.int .i64 ((k + 3 * cntL (ts.take (j + 1)) : Nat) : Int)) (.int .i64 ((j + 1 : Nat) : Int)) w4 := by
          refine MarkRel_step (w3 := w3) hlt HX.out hbF hFn hwr hblt HR.out hW3' ?_ ?_ ?_ ?_ ?_ ?_ hw4 (by rw [HKJ.out]; exact hrs4)
          · intro x hx hxb; rw [← hW3, heap_set_other _ hxb]; exact HO.out x hx hxb
          · intro m h0 h1 h2
            rw [c3, C1.out, Array.getElem?_setIfInBounds_ne (by omega), Array.getElem?_setIfInBounds_ne (by omega), Array.getElem?_setIfInBounds_ne (by omega)]
          · rw [c3, HKJ.out, show o + 4 * j = o + j * 4 by omega, Array.getElem?_setIfInBounds_ne (by omega), Array.getElem?_setIfInBounds_ne (by omega), Array.getElem?_setIfInBounds_self_of_lt (by omega)]
          · rw [c3, HKJ.out, show o + 4 * j = o + j * 4 by omega, Array.getElem?_setIfInBounds_ne (by omega), Array.getElem?_setIfInBounds_self_of_lt (by simp; omega)]
          · rw [c3, HKJ.out, show o + 4 * j = o + j * 4 by omega, Array.getElem?_setIfInBounds_self_of_lt (by simp; omega)]
          · rw [c3, show o + 4 * j = o + j * 4 by omega, ← X3.out, C1.out, Array.getElem?_setIfInBounds_ne (by omega), Array.getElem?_setIfInBounds_ne (by omega), Array.getElem?_setIfInBounds_ne (by omega)]
        have hkn : ((kj + 3 + 3 * cntL xas : Nat) : Int) = ((k + 3 * cntL (ts.take (j + 1)) : Nat) : Int) := by
          have := HKJ.out; have := HT1.out; omega
        have HS := Lib.hid hstep
        show _
        simp only [Tm.args]
        rw [hkn]
        clear hkn c3 hstep hrx3 hfr3 hrs4 y2 y3 yf hW3
        go_wp2
        go_roundw
        case rel =>
          have := HS.out
          rw [show (((j + 1 : Nat) : Int)) = (j : Int) + 1 by omega] at this
          exact this
        case measure => simp [intOf]; omega
      · obtain rfl : j = l := by omega
        have hL := HL.out
        have e1 : ts.take j = ts := by rw [hL]; simp
        rw [e1]
        clear e1 hL
        go_wp2
        go_ret
        refine ⟨rfl, ⟨by rw [markL_length]; exact HL.out, hlc, .inr ⟨?_, b, o, Fs.flatten, rfl, rfl, ?_⟩⟩, hwr⟩
        · intro h
          have := markL_length ts k
          rw [h] at this
          exact hts (List.eq_nil_of_length_eq_zero this.symm)
        · refine RdL_iff.2 ⟨Fs, by rw [markL_length]; exact HFs.out, rfl, fun i x hx => ?_⟩
          obtain ⟨t, h1, rfl⟩ := markL_get ts k i x hx
          have := HR.out i t h1
          rw [if_pos (by have := HL.out; have := (List.getElem?_eq_some_iff.1 h1).1; omega)] at this
          exact this
end Go.Proofs.Ytjkabbkaeioibaa
