/- What a law on one term holds in hand: the reference's term and the program's, each in a box. -/
import Derived.Test.YtjkabbkaeioibaaHeld
namespace Go.Proofs.Ytjkabbkaeioibaa
open Go.RowKit

structure TwoT (w wc : World) (B3 B5 : Nat) (k m : Int) (s : ByteArray) (a : Option Addr) (l c : Nat) (xs : List Tm) (F0 : List Nat) (a2 : Option Addr) (l2 c2 : Nat) (ys : List Tm) (F : List Nat) : Prop where
  b3 : wc.heap[B3]? = some (.cells #[.int .i64 k, .int .i64 m, .string s, .slice a l c] 26 (0, 0))
  b5 : wc.heap[B5]? = some (.cells #[.int .i64 k, .int .i64 m, .string s, .slice a2 l2 c2] 26 (0, 0))
  r0 : RdS wc xs a l c F0
  r1 : RdS wc ys a2 l2 c2 F
  free : Free wc F
  nd : F.Nodup
  bel : Below w.heap.size w wc
  low : ∀ x ∈ F, w.heap.size ≤ x ∧ x ≠ B3 ∧ x ≠ B5 ∧ x ∉ F0

section
variable {w wc wc' : World} {B3 B5 : Nat} {k m : Int} {s : ByteArray} {a : Option Addr} {l c : Nat} {xs : List Tm} {F0 : List Nat} {a2 : Option Addr} {l2 c2 : Nat} {ys ys' : List Tm} {F : List Nat}
theorem heap_lt {o : Obj} {b : Nat} {w : World} (h : w.heap[b]? = some o) : b < w.heap.size := by
  rcases Nat.lt_or_ge b w.heap.size with h' | h'
  · exact h'
  · simp [Array.getElem?_eq_none h'] at h
theorem TwoT.below (h : TwoT w wc B3 B5 k m s a l c xs F0 a2 l2 c2 ys F) (hb : Below wc.heap.size wc wc') : TwoT w wc' B3 B5 k m s a l c xs F0 a2 l2 c2 ys F :=
  ⟨by rw [hb.block _ (heap_lt h.b3)]; exact h.b3, by rw [hb.block _ (heap_lt h.b5)]; exact h.b5, RdS_ext h.r0 hb, RdS_ext h.r1 hb, Free_below h.free hb (RdS_lt h.r1), h.nd, h.bel.trans (hb.mono h.bel.size), h.low⟩
theorem TwoT.wrote (h : TwoT w wc B3 B5 k m s a l c xs F0 a2 l2 c2 ys F) (hw : Wrote F wc wc') (hr : RdS wc' ys' a2 l2 c2 F) : TwoT w wc' B3 B5 k m s a l c xs F0 a2 l2 c2 ys' F :=
  ⟨by rw [hw.block _ (heap_lt h.b3) (fun hm => (h.low _ hm).2.1 rfl)]; exact h.b3, by rw [hw.block _ (heap_lt h.b5) (fun hm => (h.low _ hm).2.2.1 rfl)]; exact h.b5,
    RdS_same (fun x hx => hw.block x (RdS_lt h.r0 x hx) (fun hm => (h.low x hm).2.2.2 hx)) h.r0, hr, fun x hx => hw.free x (h.free x hx), h.nd,
    h.bel.trans (hw.below (fun x hx => (h.low x hx).1) h.bel.size), h.low⟩
theorem TwoT.cells (h : TwoT w wc B3 B5 k m s a l c xs F0 a2 l2 c2 ys F) :
    (wc.cell? ⟨B3, 0, none⟩ = some (.int .i64 k) ∧ wc.cell? ⟨B3, 1, none⟩ = some (.int .i64 m) ∧ wc.cell? ⟨B3, 2, none⟩ = some (.string s) ∧ wc.cell? ⟨B3, 3, none⟩ = some (.slice a l c)) ∧
    (wc.cell? ⟨B5, 0, none⟩ = some (.int .i64 k) ∧ wc.cell? ⟨B5, 1, none⟩ = some (.int .i64 m) ∧ wc.cell? ⟨B5, 2, none⟩ = some (.string s) ∧ wc.cell? ⟨B5, 3, none⟩ = some (.slice a2 l2 c2)) ∧
    B3 < wc.heap.size ∧ B5 < wc.heap.size := by
  obtain ⟨p0, p1, p2, p3, _⟩ := box4 h.b3
  obtain ⟨q0, q1, q2, q3, _⟩ := box4 h.b5
  exact ⟨⟨p0, p1, p2, p3⟩, ⟨q0, q1, q2, q3⟩, heap_lt h.b3, heap_lt h.b5⟩
end
end Go.Proofs.Ytjkabbkaeioibaa
