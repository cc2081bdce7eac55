/- A result of a call of the reference's evaluator, in a box of its own. -/
import Derived.Test.YtjkabbkaeioibaaSpB
import Derived.Deep.DeepCutAuto
namespace Go.Proofs.Ytjkabbkaeioibaa
open Go.RowKit

def SpRes (V : World) (B : Nat) (w : World) (F1 F2 : List Nat) (r : Res) (v : Value) (wx : World) : Prop :=
  ∃ Bv k n s xs a l c F, v = .pointer (some ⟨Bv, 0, none⟩) ∧ r.1 = .mk k n s xs ∧ Bx 26 wx Bv k n s a l c xs F ∧ Gd w F1 F2 F ∧ V.grownBy wx (some B) ∧ WalkAt wx B r.2.2 r.2.1 ∧ V.heap.size ≤ Bv
theorem SpRes_new {V w5 w : World} {B : Nat} {F1 F2 : List Nat} {r : Res} {k n : Int} {s : ByteArray} {xs : List Tm} {a : Option Addr} {l c : Nat} {F : List Nat} (hr : r.1 = .mk k n s xs) (hrd : RdS w5 xs a l c F) (hG : Gd w F1 F2 F) (hg : V.grownBy w5 (some B)) (hl : WalkAt w5 B r.2.2 r.2.1) :
    SpRes V B w F1 F2 r (.pointer (some ⟨w5.heap.size, 0, none⟩)) (w5.alloc (.cells #[.int .i64 k, .int .i64 n, .string s, .slice a l c] 26)) :=
  ⟨_, k, n, s, xs, a, l, c, F, rfl, hr, Bx.new _ hrd, hG, grown_trans hg (grown_below ((Below.refl _ _).alloc (Nat.le_refl _) _) _), (heap_old (heap_lt hl)).trans hl, hg.size⟩
theorem SpRes_set {V w5 w : World} {B Bv : Nat} {F1 F2 : List Nat} {r : Res} {k n : Int} {s : ByteArray} {xs : List Tm} {a : Option Addr} {l c : Nat} {F : List Nat} {y0 y1 y2 y3 : Value} (hr : r.1 = .mk k n s xs) (hrd : RdS w5 xs a l c F) (hG : Gd w F1 F2 F) (hg : V.grownBy w5 (some B)) (hl : WalkAt w5 B r.2.2 r.2.1)
    (hBv : V.heap.size ≤ Bv) (hz : w5.heap[Bv]? = some (.cells #[y0, y1, y2, y3] 26 (0, 0))) (hF : ∀ x ∈ F, x ≠ Bv) (hBB : B ≠ Bv) :
    SpRes V B w F1 F2 r (.pointer (some ⟨Bv, 0, none⟩)) ((((w5.setCell ⟨Bv, 0, none⟩ (.int .i64 k)).setCell ⟨Bv, 1, none⟩ (.int .i64 n)).setCell ⟨Bv, 2, none⟩ (.string s)).setCell ⟨Bv, 3, none⟩ (.slice a l c)) := by
  have hb : Below V.heap.size w5 ((((w5.setCell ⟨Bv, 0, none⟩ (.int .i64 k)).setCell ⟨Bv, 1, none⟩ (.int .i64 n)).setCell ⟨Bv, 2, none⟩ (.string s)).setCell ⟨Bv, 3, none⟩ (.slice a l c)) := below_set4 hBv
  exact ⟨Bv, k, n, s, xs, a, l, c, F, rfl, hr, ⟨heap_set4 hz, RdS_same (fun x hx => heap_set4_other (hF x hx)) hrd⟩, hG, ⟨hb.os.trans hg.os, hb.tape.trans hg.tape, hb.output.trans hg.output, Nat.le_trans hg.size hb.size, fun x hx hr => (hb.block x hx).trans (hg.block x hx hr)⟩, (heap_set4_other hBB).trans hl, hBv⟩
theorem walk_below {V X : World} {B left code : Nat} (hb : Below V.heap.size V X) (hB : B < V.heap.size) (h : WalkAt V B left code) : WalkAt X B left code := (hb.block _ hB).trans h
end Go.Proofs.Ytjkabbkaeioibaa
