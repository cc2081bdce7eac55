/- A term that came in as an argument: what its reading says of the memory. -/
import Derived.Test.YtjkabbkaeioibaaSz
import Derived.Test.YtjkabbkaeioibaaHeld
import Derived.Test.YtjkabbkaeioibaaRows
import Derived.Lib.SmallJoins
import Derived.ProofKit
namespace Go.Proofs.Ytjkabbkaeioibaa
open Go.RowKit Go.Joins Go.ChangeShapes Go.Deep

section
variable {H : Type} {enc : TypeId × Value → H} {P : Program} {w : World} {spare : Nat → Bool} {held : Bool}
theorem add_plain (b o j : Nat) : (⟨b, o, none⟩ : Addr).add j = ⟨b, o + j, none⟩ := by unfold Addr.add; split <;> simp_all
theorem open_rec {T : TypeId} {f0 f1 f2 f3 : Field} (hs : P.underlying T = some (.struct #[f0, f1, f2, f3])) (hone : oneCellFields P #[f0, f1, f2, f3] = true) (hC : P.cellsOf T = 4)
    (t0 : P.underlying f0.type = some (.int .i64)) (t1 : P.underlying f1.type = some (.int .i64)) (t2 : P.underlying f2.type = some .string) (t3 : P.underlying f3.type = some (.slice T)) :
    ∀ (fuel : Nat) (cs : List Value) (x : DataW H × List MemPlace), DataW.trod enc P w 0 spare held fuel T cs = some x →
      ∃ k n s xs a l c F, cs = [.int .i64 k, .int .i64 n, .string s, .slice a l c] ∧ RdS w xs a l c F ∧ (Tm.mk k n s xs).In := by
  intro fuel
  induction fuel using Nat.strongRecOn with
  | ind fuel ih =>
    intro cs x h
    obtain ⟨ys, n, hn, hx, hl, hlen, hf⟩ := DataW.trod_struct hs h
    obtain ⟨o0, k0⟩ := hone_of hone 0 f0 rfl
    obtain ⟨o1, k1⟩ := hone_of hone 1 f1 rfl
    obtain ⟨o2, k2⟩ := hone_of hone 2 f2 rfl
    obtain ⟨o3, k3⟩ := hone_of hone 3 f3 rfl
    rw [hC] at hl
    match cs, hl, ys, hlen with
    | [v0, v1, v2, v3], _, [y0, y1, y2, y3], _ =>
      have h0 : DataW.trod enc P w 0 spare held n f0.type [v0] = some y0 := by simpa [o0, k0] using hf 0 f0 rfl
      have h1 : DataW.trod enc P w 0 spare held n f1.type [v1] = some y1 := by simpa [o1, k1] using hf 1 f1 rfl
      have h2 : DataW.trod enc P w 0 spare held n f2.type [v2] = some y2 := by simpa [o2, k2] using hf 2 f2 rfl
      have h3 : DataW.trod enc P w 0 spare held n f3.type [v3] = some y3 := by simpa [o3, k3] using hf 3 f3 rfl
      obtain ⟨k, e0, _, _⟩ := DataW.trod_int t0 h0
      obtain ⟨m, e1, _, _⟩ := DataW.trod_int t1 h1
      obtain ⟨s, e2, _, hsz⟩ := DataW.trod_string t2 h2
      cases e0; cases e1; cases e2
      unfold maxLen at hsz
      rcases DataW.trod_slice t3 h3 with ⟨e3, _⟩ | ⟨a, len, cap, elems, rest, n', hn', e3, _, _, hle, hcap, hel, hget, _, _⟩
      · cases e3
        exact ⟨k, m, s, [], none, 0, 0, [], rfl, RdS_nil _ _ _, .mk _ _ _ _ hsz (by simp) (by simp)⟩
      · cases e3
        unfold maxLen at hcap
        have each : ∀ i, i < len → ∃ k n s xs a' l c F, (∀ j, j < 4 → w.cell? ((a.add (i * 4)).add j) = [Value.int .i64 k, .int .i64 n, .string s, .slice a' l c][j]?) ∧ RdS w xs a' l c F ∧ (Tm.mk k n s xs).In := by
          intro i hi
          have hg := hget i hi
          rw [hC, List.getElem?_eq_getElem (by omega)] at hg
          obtain ⟨cs', g1, g2⟩ := Option.bind_eq_some_iff.1 hg
          obtain ⟨k, n, s, xs, a', l, c, F, rfl, hr, hin⟩ := ih n' (by omega) cs' _ g2
          obtain ⟨_, _, g3⟩ := World.cells?_some g1
          exact ⟨k, n, s, xs, a', l, c, F, g3, hr, hin⟩
        by_cases hl0 : len = 0
        · subst hl0
          exact ⟨k, m, s, [], some a, 0, cap, [], rfl, RdS_nil _ _ _, .mk _ _ _ _ hsz (by simp) (by simp)⟩
        · obtain ⟨b, o, spot⟩ := a
          have hspot : spot = none := by
            obtain ⟨k, n, s, xs, a', l, c, F, hc, _⟩ := each 0 (by omega)
            have := hc 0 (by omega)
            simpa [Addr.add] using World.cell?_spot this
          subst hspot
          have all : ∀ N, N ≤ len → ∃ (ts : List Tm) (Fs : List (List Nat)), ts.length = N ∧ Fs.length = N ∧ (∀ t ∈ ts, t.In) ∧ ∀ i t, ts[i]? = some t → Rd w t b (o + 4 * i) (Fs.getD i []) := by
            intro N
            induction N with
            | zero => exact fun _ => ⟨[], [], rfl, rfl, by simp, by simp⟩
            | succ N ihN =>
              intro hN
              obtain ⟨ts, Fs, h1, h2, h3, h4⟩ := ihN (by omega)
              obtain ⟨k, n, s, xs, a', l, c, F, hc, hr, hin⟩ := each N (by omega)
              refine ⟨ts ++ [.mk k n s xs], Fs ++ [F], by simp [h1], by simp [h2], ?_, ?_⟩
              · intro t ht
                rcases List.mem_append.1 ht with ht | ht
                · exact h3 t ht
                · simp at ht; subst ht; exact hin
              · intro i t hi
                rcases Nat.lt_or_ge i N with hlt | hge
                · rw [List.getElem?_append_left (by omega)] at hi
                  have : (Fs ++ [F]).getD i [] = Fs.getD i [] := by simp [List.getD, List.getElem?_append_left (show i < Fs.length by omega)]
                  rw [this]; exact h4 i t hi
                · have hlt := (List.getElem?_eq_some_iff.1 hi).1
                  simp only [List.length_append, List.length_cons, List.length_nil] at hlt
                  obtain rfl : i = N := by omega
                  rw [List.getElem?_append_right (by omega), h1] at hi
                  simp at hi; subst hi
                  have : (Fs ++ [F]).getD i [] = F := by simp [List.getD, h2.symm]
                  rw [this, Rd_mk]
                  have c0 := hc 0 (by omega)
                  have c1 := hc 1 (by omega)
                  have c2 := hc 2 (by omega)
                  have c3 := hc 3 (by omega)
                  rw [add_plain, add_plain] at c0 c1 c2 c3
                  simp only [Nat.add_zero] at c0
                  rw [show o + 4 * i = o + i * 4 by omega]
                  exact ⟨by simpa using c0, by simpa using c1, by simpa using c2, a', l, c, by simpa using c3, hr⟩
          obtain ⟨ts, Fs, h1, h2, h3, h4⟩ := all len (Nat.le_refl _)
          refine ⟨k, m, s, ts, some ⟨b, o, none⟩, len, cap, b :: Fs.flatten, rfl, ⟨h1.symm, hle, .inr ⟨?_, b, o, _, rfl, rfl, RdL_iff.2 ⟨Fs, by omega, rfl, h4⟩⟩⟩, .mk _ _ _ _ hsz (by omega) h3⟩
          intro hh; subst hh; simp at h1; omega
end

/-- a term in a box of the type T -/
structure Bx (T : Nat) (w : World) (B : Nat) (k n : Int) (s : ByteArray) (a : Option Addr) (l c : Nat) (xs : List Tm) (F : List Nat) : Prop where
  box : w.heap[B]? = some (.cells #[.int .i64 k, .int .i64 n, .string s, .slice a l c] T (0, 0))
  rd : RdS w xs a l c F
section
variable {T : Nat} {w w' : World} {B : Nat} {k n : Int} {s : ByteArray} {a : Option Addr} {l c : Nat} {xs : List Tm} {F : List Nat}
theorem Bx.below (h : Bx T w B k n s a l c xs F) (hb : Below w.heap.size w w') : Bx T w' B k n s a l c xs F := ⟨by rw [hb.block _ (heap_lt h.box)]; exact h.box, RdS_ext h.rd hb⟩
theorem Bx.alloc (h : Bx T w B k n s a l c xs F) (o : Obj) : Bx T (w.alloc o) B k n s a l c xs F := h.below ((Below.refl _ _).alloc (Nat.le_refl _) _)
theorem Bx.drew (h : Bx T w B k n s a l c xs F) : Bx T w.drew B k n s a l c xs F := h.below (Below.refl _ _).drew
theorem Bx.cells (h : Bx T w B k n s a l c xs F) :
    w.cell? ⟨B, 0, none⟩ = some (.int .i64 k) ∧ w.cell? ⟨B, 1, none⟩ = some (.int .i64 n) ∧ w.cell? ⟨B, 2, none⟩ = some (.string s) ∧ w.cell? ⟨B, 3, none⟩ = some (.slice a l c) ∧ B < w.heap.size := by
  obtain ⟨p0, p1, p2, p3, _⟩ := box4 h.box
  exact ⟨p0, p1, p2, p3, heap_lt h.box⟩
theorem Bx.new (T : Nat) {k n : Int} {s : ByteArray} (h : RdS w xs a l c F) : Bx T (w.alloc (.cells #[.int .i64 k, .int .i64 n, .string s, .slice a l c] T)) w.heap.size k n s a l c xs F :=
  ⟨heap_new rfl, RdS_ext h ((Below.refl _ _).alloc (Nat.le_refl _) _)⟩
/-- nothing but the blocks of G is written, and none of them is the box or in the term -/
theorem Bx.wrote {G : List Nat} (h : Bx T w B k n s a l c xs F) (hw : Wrote G w w') (hB : B ∉ G) (hF : ∀ x ∈ F, x ∉ G) : Bx T w' B k n s a l c xs F :=
  ⟨by rw [hw.block _ (heap_lt h.box) hB]; exact h.box, RdS_same (fun x hx => hw.block x (RdS_lt h.rd x hx) (hF x hx)) h.rd⟩
end
/-- a term that has been handed back into a box -/
def ResAt (w2 : World) (t : Tm) (v : Value) (wx : World) : Prop :=
  ∃ B k n s xs a l c F, v = .pointer (some ⟨B, 0, none⟩) ∧ t = .mk k n s xs ∧ Bx 26 wx B k n s a l c xs F ∧ Below w2.heap.size w2 wx
def Zero4 : Array Value := #[.int .i64 0, .int .i64 0, .string ⟨#[]⟩, .slice none 0 0]
theorem ResAt_new {w2 w5 : World} {t : Tm} {k n : Int} {s : ByteArray} {xs : List Tm} {a : Option Addr} {l c : Nat} {F : List Nat} (ht : t = .mk k n s xs) (hrd : RdS w5 xs a l c F) (hb : Below w2.heap.size w2 w5) :
    ResAt w2 t (.pointer (some ⟨w5.heap.size, 0, none⟩)) (w5.alloc (.cells #[.int .i64 k, .int .i64 n, .string s, .slice a l c] 26)) :=
  ⟨_, k, n, s, xs, a, l, c, F, rfl, ht, Bx.new _ hrd, hb.alloc hb.size _⟩
theorem ResAt_set {w2 w5 : World} {B : Nat} {t : Tm} {k n : Int} {s : ByteArray} {xs : List Tm} {a : Option Addr} {l c : Nat} {F : List Nat} (ht : t = .mk k n s xs) (hrd : RdS w5 xs a l c F) (hb : Below w2.heap.size w2 w5)
    (hB : w2.heap.size ≤ B) (hz : w5.heap[B]? = some (.cells #[.int .i64 0, .int .i64 0, .string ⟨#[]⟩, .slice none 0 0] 26 (0, 0))) (hF : ∀ x ∈ F, x ≠ B) :
    ResAt w2 t (.pointer (some ⟨B, 0, none⟩)) ((((w5.setCell ⟨B, 0, none⟩ (.int .i64 k)).setCell ⟨B, 1, none⟩ (.int .i64 n)).setCell ⟨B, 2, none⟩ (.string s)).setCell ⟨B, 3, none⟩ (.slice a l c)) :=
  ⟨B, k, n, s, xs, a, l, c, F, rfl, ht, ⟨heap_set4 hz, RdS_same (fun x hx => heap_set4_other (hF x hx)) hrd⟩, hb.trans (below_set4 hB)⟩
theorem two_cells {T1 T2 : Nat} {w2 w' : World} {B1 B2 : Nat} {k1 n1 k2 n2 : Int} {s1 s2 : ByteArray} {a1 a2 : Option Addr} {l1 c1 l2 c2 : Nat} {xs1 xs2 : List Tm} {F1 F2 : List Nat} (h1 : Bx T1 w2 B1 k1 n1 s1 a1 l1 c1 xs1 F1) (h2 : Bx T2 w2 B2 k2 n2 s2 a2 l2 c2 xs2 F2) (hb : Below w2.heap.size w2 w') :
    w'.cell? ⟨B1, 0, none⟩ = some (.int .i64 k1) ∧ w'.cell? ⟨B1, 1, none⟩ = some (.int .i64 n1) ∧ w'.cell? ⟨B1, 2, none⟩ = some (.string s1) ∧ w'.cell? ⟨B1, 3, none⟩ = some (.slice a1 l1 c1) ∧ w'.cell? ⟨B2, 0, none⟩ = some (.int .i64 k2) ∧ w'.cell? ⟨B2, 1, none⟩ = some (.int .i64 n2) ∧ w'.cell? ⟨B2, 2, none⟩ = some (.string s2) ∧ w'.cell? ⟨B2, 3, none⟩ = some (.slice a2 l2 c2) := by
  obtain ⟨p0, p1, p2, p3, _⟩ := (h1.below hb).cells
  obtain ⟨q0, q1, q2, q3, _⟩ := (h2.below hb).cells
  exact ⟨p0, p1, p2, p3, q0, q1, q2, q3⟩
theorem cnt_sz (t : Tm) : t.cnt ≤ 1 + t.sz := by
  induction t using Tm.ind with
  | h k n s xs ih =>
    have : cntL xs ≤ xs.length + szL xs := by
      induction xs with
      | nil => simp [cntL]
      | cons x xs ihx =>
        have h1 := ih x (by simp)
        have h2 := ihx (fun a ha => ih a (by simp [ha]))
        simp only [cntL, szL, List.length_cons]; omega
    simp only [Tm.cnt, Tm.sz]; omega
theorem leftV_fit {z : Nat} {left : Int} (h : (z : Int) ≤ left) : leftV z left = left - z := by rw [leftV, if_pos h]
theorem leftV_not {z : Nat} {left : Int} (h : left < z) : leftV z left = -1 := by rw [leftV, if_neg (by omega)]

set_option maxRecDepth 100000 in
theorem open_term {H : Type} {enc : TypeId × Value → H} {w : World} {r : Reach} {b0 : Nat} {v : Value} {d : DataW H} {p : List MemPlace} (hv : Value.okWide Try.prog w r b0 43 v)
    (h : DataW.Trod enc Try.prog w 0 (fun _ => true) true 43 v d p) : ∃ k n s xs a l c F, v = .agg #[.int .i64 k, .int .i64 n, .string s, .slice a l c] ∧ RdS w xs a l c F ∧ (Tm.mk k n s xs).In := by
  obtain ⟨cs, rfl, hsz⟩ := Go.WideShapes.okWide_struct Try.underlying43 hv
  obtain ⟨fuel, hf⟩ := h
  obtain ⟨k, n, s, xs, a, l, c, F, hcs, h1, h2⟩ := open_rec Try.underlying43 (by kernel_rfl) (by kernel_rfl) Try.underlying3 Try.underlying3 Try.underlying9 Try.underlying41 fuel _ _ hf
  refine ⟨k, n, s, xs, a, l, c, F, ?_, h1, h2⟩
  have : cs.toList = [.int .i64 k, .int .i64 n, .string s, .slice a l c] := by simpa [Value.cells] using hcs
  cases cs
  simp_all
end Go.Proofs.Ytjkabbkaeioibaa
