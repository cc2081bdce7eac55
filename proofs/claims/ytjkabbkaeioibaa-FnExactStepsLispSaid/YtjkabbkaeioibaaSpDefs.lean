/- What the reference's evaluator holds in hand: definitions and steps without the walk; its call when a failure has been noted. -/
import Derived.Test.YtjkabbkaeioibaaVars
namespace Go.Proofs.Ytjkabbkaeioibaa
open Go.RowKit

def EvalS (fuel : Nat) : Prop := ∀ (left B : Nat) (k1 n1 : Int) (s1 : ByteArray) (xs1 : List Tm) (a1 : Option Addr) (l1 c1 : Nat) (F1 : List Nat) (k2 n2 : Int) (s2 : ByteArray) (xs2 : List Tm) (a2 : Option Addr) (l2 c2 : Nat) (F2 : List Nat) (w : World),
  left ≤ fuel → left ≤ 1000 → WalkAt w B left 0 → RdS w xs1 a1 l1 c1 F1 → RdS w xs2 a2 l2 c2 F2 → B ∉ F1 → B ∉ F2 → (Tm.mk k1 n1 s1 xs1).ok = true → (Tm.mk k2 n2 s2 xs2).ok = true →
  Calls Try.prog 89 #[.pointer (some ⟨B, 0, none⟩), .agg #[.int .i64 k1, .int .i64 n1, .string s1, .slice a1 l1 c1], .agg #[.int .i64 k2, .int .i64 n2, .string s2, .slice a2 l2 c2]] w
    (SpOut w B (F1 ++ F2) (ev fuel left (.mk k1 n1 s1 xs1) (.mk k2 n2 s2 xs2)))
/-- the frame: the boxes of the expression, of the environment and of the result, and the walk's numbers -/
structure Fs (w V : World) (B left code : Nat) (k1 n1 : Int) (s1 : ByteArray) (a1 : Option Addr) (l1 c1 : Nat) (k2 n2 : Int) (s2 : ByteArray) (a2 : Option Addr) (l2 c2 : Nat) : Prop where
  b4 : V.heap[w.heap.size]? = some (.cells #[.int .i64 k1, .int .i64 n1, .string s1, .slice a1 l1 c1] 26 (0, 0))
  b5 : V.heap[w.heap.size + 1]? = some (.cells #[.int .i64 k2, .int .i64 n2, .string s2, .slice a2 l2 c2] 26 (0, 0))
  b6 : V.heap[w.heap.size + 1 + 1]? = some (.cells #[.int .i64 0, .int .i64 0, .string ⟨#[]⟩, .slice none 0 0] 26 (0, 0))
  wk : WalkAt V B left code
  ext : w.grownBy V (some B)
  sz : w.heap.size + 3 ≤ V.heap.size
section
variable {w V V' : World} {B left code left' code' : Nat} {k1 n1 : Int} {s1 : ByteArray} {a1 : Option Addr} {l1 c1 : Nat} {k2 n2 : Int} {s2 : ByteArray} {a2 : Option Addr} {l2 c2 : Nat}
theorem Fs.grown (h : Fs w V B left code k1 n1 s1 a1 l1 c1 k2 n2 s2 a2 l2 c2) (hB : B < w.heap.size) (hg : V.grownBy V' (some B)) (hl : WalkAt V' B left' code') : Fs w V' B left' code' k1 n1 s1 a1 l1 c1 k2 n2 s2 a2 l2 c2 :=
  ⟨(hg.block _ (by have := h.sz; omega) (by simp; omega)).trans h.b4, (hg.block _ (by have := h.sz; omega) (by simp; omega)).trans h.b5, (hg.block _ (by have := h.sz; omega) (by simp; omega)).trans h.b6, hl, grown_trans h.ext hg, Nat.le_trans h.sz hg.size⟩
theorem Fs.below (h : Fs w V B left code k1 n1 s1 a1 l1 c1 k2 n2 s2 a2 l2 c2) (hB : B < w.heap.size) (hb : Below V.heap.size V V') : Fs w V' B left code k1 n1 s1 a1 l1 c1 k2 n2 s2 a2 l2 c2 :=
  h.grown hB (grown_below hb _) ((hb.block _ (by have := h.sz; omega)).trans h.wk)
theorem Fs.exp (h : Fs w V B left code k1 n1 s1 a1 l1 c1 k2 n2 s2 a2 l2 c2) : V.cell? ⟨w.heap.size, 0, none⟩ = some (.int .i64 k1) ∧ V.cell? ⟨w.heap.size, 1, none⟩ = some (.int .i64 n1) ∧ V.cell? ⟨w.heap.size, 2, none⟩ = some (.string s1) ∧ V.cell? ⟨w.heap.size, 3, none⟩ = some (.slice a1 l1 c1) ∧ w.heap.size < V.heap.size := by
  obtain ⟨p0, p1, p2, p3, _⟩ := box4 h.b4
  exact ⟨p0, p1, p2, p3, heap_lt h.b4⟩
theorem Fs.env (h : Fs w V B left code k1 n1 s1 a1 l1 c1 k2 n2 s2 a2 l2 c2) : V.cell? ⟨w.heap.size + 1, 0, none⟩ = some (.int .i64 k2) ∧ V.cell? ⟨w.heap.size + 1, 1, none⟩ = some (.int .i64 n2) ∧ V.cell? ⟨w.heap.size + 1, 2, none⟩ = some (.string s2) ∧ V.cell? ⟨w.heap.size + 1, 3, none⟩ = some (.slice a2 l2 c2) ∧ w.heap.size + 1 < V.heap.size := by
  obtain ⟨p0, p1, p2, p3, _⟩ := box4 h.b5
  exact ⟨p0, p1, p2, p3, heap_lt h.b5⟩
theorem Fs.res (h : Fs w V B left code k1 n1 s1 a1 l1 c1 k2 n2 s2 a2 l2 c2) : V.cell? ⟨w.heap.size + 1 + 1, 0, none⟩ = some (.int .i64 0) ∧ V.cell? ⟨w.heap.size + 1 + 1, 1, none⟩ = some (.int .i64 0) ∧ V.cell? ⟨w.heap.size + 1 + 1, 2, none⟩ = some (.string ⟨#[]⟩) ∧ V.cell? ⟨w.heap.size + 1 + 1, 3, none⟩ = some (.slice none 0 0) ∧
    (∀ o, V.frozen? ⟨w.heap.size + 1 + 1, o, none⟩ = false) ∧ w.heap.size + 1 + 1 < V.heap.size := by
  obtain ⟨p0, p1, p2, p3, pf⟩ := box4 h.b6
  exact ⟨p0, p1, p2, p3, pf, heap_lt h.b6⟩
theorem Fs.out {F1 F2 : List Nat} {r : Res} {k n : Int} {s : ByteArray} {xs : List Tm} {a : Option Addr} {l c : Nat} {F : List Nat} (h : Fs w V B left code k1 n1 s1 a1 l1 c1 k2 n2 s2 a2 l2 c2) (hB : B < w.heap.size) (h1 : ∀ x ∈ F1, x < w.heap.size) (h2 : ∀ x ∈ F2, x < w.heap.size)
    (hr : r.1 = .mk k n s xs) (hl : r.2.2 = left) (hc : r.2.1 = code) (hrd : RdS V xs a l c F) (hG : Gd w F1 F2 F) :
    SpOut w B (F1 ++ F2) r (.returned (.agg #[.int .i64 k, .int .i64 n, .string s, .slice a l c])) ((((V.setCell ⟨w.heap.size + 1 + 1, 0, none⟩ (.int .i64 k)).setCell ⟨w.heap.size + 1 + 1, 1, none⟩ (.int .i64 n)).setCell ⟨w.heap.size + 1 + 1, 2, none⟩ (.string s)).setCell ⟨w.heap.size + 1 + 1, 3, none⟩ (.slice a l c)) :=
  SpOut_set hr hl hc hrd (fun x hx => by
    rcases hG x hx with h' | h' | h'
    · exact .inl (List.mem_append.2 (.inl h'))
    · exact .inl (List.mem_append.2 (.inr h'))
    · exact .inr (by omega)) h.ext h.wk (by omega) (by omega) (hG.ne6 h1 h2)
end

set_option maxHeartbeats 2000000 in
set_option maxRecDepth 100000 in
/-- a failure has been noted: nothing is evaluated -/
theorem evalS_dead (left code B : Nat) (k1 n1 : Int) (s1 : ByteArray) (a1 : Option Addr) (l1 c1 : Nat) (F1 : List Nat) (k2 n2 : Int) (s2 : ByteArray) (a2 : Option Addr) (l2 c2 : Nat) (F2 : List Nat) (w : World)
    (hc : code ≠ 0) (hw : WalkAt w B left code) :
    Calls Try.prog 89 #[.pointer (some ⟨B, 0, none⟩), .agg #[.int .i64 k1, .int .i64 n1, .string s1, .slice a1 l1 c1], .agg #[.int .i64 k2, .int .i64 n2, .string s2, .slice a2 l2 c2]] w
      (SpOut w B (F1 ++ F2) (Tm.nil, code, left)) := by
  obtain ⟨m0, m1, mf, hBl⟩ := walk_cells hw
  have hd : ((code : Int) != 0) = true := by simp; omega
  have HW := Lib.hid hw
  clear hc hw
  generalize hci : (code : Int) = ci at *
  clear hci
  have hB1 : B < w.heap.size + 1 := by omega
  have hB2 : B < w.heap.size + 1 + 1 := by omega
  go_enter Try.func89, Try.ntmps89
  go_wp2
  have hb : ∀ o1 o2 o3, Below w.heap.size w (((w.alloc o1).alloc o2).alloc o3) := fun o1 o2 o3 => (((Below.refl _ _).alloc (Nat.le_refl _) _).alloc (by simp) _).alloc (by simp; omega) _
  exact bodyPost_ret (v := .agg #[.int .i64 0, .int .i64 0, .string ⟨#[]⟩, .slice none 0 0]) (results_term rfl _ _ (w.heap.size + 1 + 1) rfl (heap_new (by simp))) rfl ⟨0, 0, ByteArray.empty, [], none, 0, 0, [], rfl, rfl, RdS_nil _ _ _, by simp, grown_below (hb _ _ _) _, ((hb _ _ _).block _ hBl).trans HW.out⟩
end Go.Proofs.Ytjkabbkaeioibaa
