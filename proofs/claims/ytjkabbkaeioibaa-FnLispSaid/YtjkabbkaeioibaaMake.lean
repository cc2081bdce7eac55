/- Contracts of the functions that make terms: pair, number, symbol, list and the reference's l02Pair, l02Num, l02Sym, l02List. -/
import Derived.Test.YtjkabbkaeioibaaRows
import Derived.Test.YtjkabbkaeioibaaTerm
import Derived.Deep.RegionWith
namespace Go.Proofs.Ytjkabbkaeioibaa
open Go.RowKit

/-- a result that is a term in a box -/
theorem results_term {fn : Func} {t : Tmp} (h : fn.results = #[.cell t 26]) (tmps : Array Value) (w : World) (B : Nat) (hp : tmps.getD t undef = .pointer (some ⟨B, 0, none⟩)) {y0 y1 y2 y3 : Value} {T : Nat} {fz : Nat × Nat}
    (hb : w.heap[B]? = some (.cells #[y0, y1, y2, y3] T fz)) : (results fn tmps).run Try.prog w = .ok (.agg #[y0, y1, y2, y3]) w := by
  have q0 := cell_of_block hb 0
  have q1 := cell_of_block hb 1
  have q2 := cell_of_block hb 2
  have q3 := cell_of_block hb 3
  simp at q0 q1 q2 q3
  have hp' : tmps[t]?.getD undef = .pointer (some ⟨B, 0, none⟩) := by simpa using hp
  simp [results, h, hp', go_sem, q0, q1, q2, q3]

/-- two results: a term in a box, and a slot -/
theorem results_term2 {fn : Func} {t u : Tmp} (h : fn.results = #[.cell t 26, .tmp u]) (tmps : Array Value) (w : World) (B : Nat) (hp : tmps.getD t undef = .pointer (some ⟨B, 0, none⟩)) {y0 y1 y2 y3 r : Value} {T : Nat} {fz : Nat × Nat}
    (hu : tmps.getD u undef = r) (hb : w.heap[B]? = some (.cells #[y0, y1, y2, y3] T fz)) : (results fn tmps).run Try.prog w = .ok (.tuple #[.agg #[y0, y1, y2, y3], r]) w := by
  have q0 := cell_of_block hb 0
  have q1 := cell_of_block hb 1
  have q2 := cell_of_block hb 2
  have q3 := cell_of_block hb 3
  simp at q0 q1 q2 q3
  have hp' : tmps[t]?.getD undef = .pointer (some ⟨B, 0, none⟩) := by simpa using hp
  have hu' : tmps[u]?.getD undef = r := by simpa using hu
  simp [results, h, hp', hu', go_sem, q0, q1, q2, q3]

def PairPost (w : World) (k1 n1 : Int) (s1 : ByteArray) (a1 : Option Addr) (l1 c1 : Nat) (k2 n2 : Int) (s2 : ByteArray) (a2 : Option Addr) (l2 c2 : Nat) (e : Ending) (w' : World) : Prop :=
  ∃ b, e = .returned (.agg #[.int .i64 4, .int .i64 0, .string ByteArray.empty, .slice (some ⟨b, 0, none⟩) 2 2]) ∧ w.heap.size ≤ b ∧
    w'.heap[b]? = some (.cells #[.int .i64 k1, .int .i64 n1, .string s1, .slice a1 l1 c1, .int .i64 k2, .int .i64 n2, .string s2, .slice a2 l2 c2] 26 (0, 0)) ∧ Below w.heap.size w w'

set_option maxHeartbeats 400000 in
theorem pair_any (k1 n1 k2 n2 : Int) (s1 s2 : ByteArray) (a1 a2 : Option Addr) (l1 c1 l2 c2 : Nat) (w : World) :
    Calls Try.prog 90 #[.agg #[.int .i64 k1, .int .i64 n1, .string s1, .slice a1 l1 c1], .agg #[.int .i64 k2, .int .i64 n2, .string s2, .slice a2 l2 c2]] w (PairPost w k1 n1 s1 a1 l1 c1 k2 n2 s2 a2 l2 c2) := by
  go_enter Try.func90, Try.ntmps90
  go_wp2
  refine bodyPost_ret (v := .agg #[.int .i64 4, .int .i64 0, .string ByteArray.empty, .slice (some ⟨w.heap.size + 1 + 1 + 1, 0, none⟩) 2 2]) (by simp [results, Try.results90, go_sem]; rfl) rfl ⟨w.heap.size + 1 + 1 + 1, rfl, by omega, ?_, ?_⟩
  · exact heap_new (by simp)
  · exact (((((Below.refl _ _).alloc (Nat.le_refl _) _).alloc (by simp) _).alloc (by simp; omega) _).alloc (by simp; omega) _)

set_option maxHeartbeats 400000 in
theorem l02Pair_any (k1 n1 k2 n2 : Int) (s1 s2 : ByteArray) (a1 a2 : Option Addr) (l1 c1 l2 c2 : Nat) (w : World) :
    Calls Try.prog 72 #[.agg #[.int .i64 k1, .int .i64 n1, .string s1, .slice a1 l1 c1], .agg #[.int .i64 k2, .int .i64 n2, .string s2, .slice a2 l2 c2]] w (PairPost w k1 n1 s1 a1 l1 c1 k2 n2 s2 a2 l2 c2) := by
  go_enter Try.func72, Try.ntmps72
  go_wp2
  refine bodyPost_ret (v := .agg #[.int .i64 4, .int .i64 0, .string ByteArray.empty, .slice (some ⟨w.heap.size + 1 + 1 + 1, 0, none⟩) 2 2]) (by simp [results, Try.results72, go_sem]; rfl) rfl ⟨w.heap.size + 1 + 1 + 1, rfl, by omega, ?_, ?_⟩
  · exact heap_new (by simp)
  · exact (((((Below.refl _ _).alloc (Nat.le_refl _) _).alloc (by simp) _).alloc (by simp; omega) _).alloc (by simp; omega) _)

def AtomPost (w : World) (k n : Int) (s : ByteArray) (e : Ending) (w' : World) : Prop :=
  e = .returned (.agg #[.int .i64 k, .int .i64 n, .string s, .slice none 0 0]) ∧ Below w.heap.size w w'

set_option maxHeartbeats 400000 in
theorem number_any (n : Int) (w : World) : Calls Try.prog 73 #[.int .i64 n] w (AtomPost w 3 n ByteArray.empty) := by
  go_enter Try.func73, Try.ntmps73
  go_wp2
  exact bodyPost_ret (v := .agg #[.int .i64 3, .int .i64 n, .string ByteArray.empty, .slice none 0 0]) (by simp [results, Try.results73, go_sem]; rfl) rfl ⟨rfl, (Below.refl _ _).alloc (Nat.le_refl _) _⟩
set_option maxHeartbeats 400000 in
theorem l02Num_any (n : Int) (w : World) : Calls Try.prog 48 #[.int .i64 n] w (AtomPost w 3 n ByteArray.empty) := by
  go_enter Try.func48, Try.ntmps48
  go_wp2
  exact bodyPost_ret (v := .agg #[.int .i64 3, .int .i64 n, .string ByteArray.empty, .slice none 0 0]) (by simp [results, Try.results48, go_sem]; rfl) rfl ⟨rfl, (Below.refl _ _).alloc (Nat.le_refl _) _⟩
end Go.Proofs.Ytjkabbkaeioibaa
