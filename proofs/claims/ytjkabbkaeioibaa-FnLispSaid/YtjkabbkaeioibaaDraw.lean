/- Contracts of the draws of terms: l01Below, l01Str, l02Atom, l02Draw, and l02List over drawn terms: only the size of what they give is said. -/
import Derived.Test.YtjkabbkaeioibaaCur
import Derived.Test.YtjkabbkaeioibaaEvalDefs
import Derived.Test.YtjkabbkaeioibaaSpec1
import Derived.Deep.RegionHeld3
namespace Go.Proofs.Ytjkabbkaeioibaa
open Go.RowKit
set_option linter.unusedVariables false

/-- a term of at most N nodes whose blocks are not below base -/
def TmV (V : World) (base N : Nat) (k n : Int) (s : ByteArray) (a : Option Addr) (l c : Nat) : Prop :=
  ∃ xs F, RdS V xs a l c F ∧ (Tm.mk k n s xs).Lens ∧ (Tm.mk k n s xs).cnt ≤ N ∧ ∀ x ∈ F, base ≤ x
section
variable {V V' : World} {base base' N N' B : Nat} {k n : Int} {s : ByteArray} {a : Option Addr} {l c : Nat}
theorem TmV.grown (h : TmV V base N k n s a l c) (hg : V.grownBy V' (some B)) (hB : B < base) : TmV V' base N k n s a l c := by
  obtain ⟨xs, F, h1, h2, h3, h4⟩ := h
  exact ⟨xs, F, RdS_grown h1 hg (fun x hx hh => by have := h4 x hx; omega), h2, h3, h4⟩
theorem TmV.below (h : TmV V base N k n s a l c) (hb : Below V.heap.size V V') : TmV V' base N k n s a l c := by
  obtain ⟨xs, F, h1, h2, h3, h4⟩ := h
  exact ⟨xs, F, RdS_ext h1 hb, h2, h3, h4⟩
theorem TmV.mono (h : TmV V base N k n s a l c) (hb : base' ≤ base) (hN : N ≤ N') : TmV V base' N' k n s a l c := by
  obtain ⟨xs, F, h1, h2, h3, h4⟩ := h
  exact ⟨xs, F, h1, h2, by omega, fun x hx => by have := h4 x hx; omega⟩
theorem TmV_atom (V : World) (base N : Nat) (k n : Int) {s : ByteArray} (hs : s.size ≤ 1000) (hN : 1 ≤ N) : TmV V base N k n s none 0 0 :=
  ⟨[], [], RdS_nil _ _ _, .mk _ _ _ _ (by omega) (by simp) (by simp), by simp [Tm.cnt, cntL]; omega, by simp⟩
theorem TmV_pair {b : Nat} {k1 n1 k2 n2 : Int} {s1 s2 : ByteArray} {a1 a2 : Option Addr} {l1 c1 l2 c2 : Nat} {T : Nat} {fz : Nat × Nat} (h1 : TmV V base N k1 n1 s1 a1 l1 c1) (h2 : TmV V base N k2 n2 s2 a2 l2 c2) (hb : base ≤ b)
    (hrow : V.heap[b]? = some (.cells #[.int .i64 k1, .int .i64 n1, .string s1, .slice a1 l1 c1, .int .i64 k2, .int .i64 n2, .string s2, .slice a2 l2 c2] T fz)) : TmV V base (2 * N + 1) 4 0 ByteArray.empty (some ⟨b, 0, none⟩) 2 2 := by
  obtain ⟨x1, F1, r1, L1, m1, g1⟩ := h1
  obtain ⟨x2, F2, r2, L2, m2, g2⟩ := h2
  refine ⟨[.mk k1 n1 s1 x1, .mk k2 n2 s2 x2], b :: (F1 ++ F2), RdS_two hrow (Nat.le_refl 2) r1 r2, .mk _ _ _ _ (by simp) (by simp) (fun x hx => by simp at hx; rcases hx with rfl | rfl; exact L1; exact L2), by rw [cnt_pair]; omega, fun x hx => ?_⟩
  simp at hx
  rcases hx with rfl | hx | hx
  · exact hb
  · exact g1 x hx
  · exact g2 x hx
end
/-- the state of a drawing call -/
structure Dst (w0 w V : World) (B : Nat) (a : Option Addr) (l cap : Nat) : Prop where
  cur : CurAt w0 V B a l cap
  grown : w.grownBy V (some B)
section
variable {w0 w V V' : World} {B l cap : Nat} {a : Option Addr}
theorem CurAt.lt (h : CurAt w0 V B a l cap) : B < V.heap.size := by obtain ⟨_, _, _, hb, _⟩ := h; exact heap_lt hb
theorem CurAt.same (h : CurAt w0 V B a l cap) (hb : V'.heap[B]? = V.heap[B]?) (hbel : Below w0.heap.size w0 V') : CurAt w0 V' B a l cap := by
  obtain ⟨i, x, h1, h2, h3, h4, h5⟩ := h
  exact ⟨i, x, h1, hb.trans h2, h3, hbel, h5⟩
theorem CurAt.bel (h : CurAt w0 V B a l cap) : Below w0.heap.size w0 V := by obtain ⟨_, _, _, _, _, h4, _⟩ := h; exact h4
theorem CurAt.below (h : CurAt w0 V B a l cap) (hb : Below V.heap.size V V') : CurAt w0 V' B a l cap := h.same (hb.block _ h.lt) (h.bel.trans (hb.mono h.bel.size))
theorem Dst.start (h : CurAt w0 w B a l cap) : Dst w0 w w B a l cap := ⟨h, grown_refl _ _⟩
theorem Dst.below (h : Dst w0 w V B a l cap) (hb : Below V.heap.size V V') : Dst w0 w V' B a l cap := ⟨h.cur.below hb, grown_trans h.grown (grown_below hb _)⟩
theorem Dst.alloc (h : Dst w0 w V B a l cap) (o : Obj) : Dst w0 w (V.alloc o) B a l cap := h.below ((Below.refl _ _).alloc (Nat.le_refl _) _)
theorem Dst.drew (h : Dst w0 w V B a l cap) : Dst w0 w V.drew B a l cap := h.below (Below.refl _ _).drew
theorem Dst.go (h : Dst w0 w V B a l cap) (hc : CurAt w0 V' B a l cap) (hg : V.grownBy V' (some B)) : Dst w0 w V' B a l cap := ⟨hc, grown_trans h.grown hg⟩
end
theorem wrote_grown {w w' : World} {B : Nat} (h : Wrote [B] w w') : w.grownBy w' (some B) := ⟨h.os, h.tape, h.output, h.size, fun x hx hn => h.block x hx (by simpa using hn)⟩
def DrawP (w0 w : World) (B : Nat) (a : Option Addr) (l cap N : Nat) (e : Ending) (w' : World) : Prop :=
  ∃ k n s ad ln cp, e = .returned (.agg #[.int .i64 k, .int .i64 n, .string s, .slice ad ln cp]) ∧ TmV w' w.heap.size N k n s ad ln cp ∧ CurAt w0 w' B a l cap ∧ w.grownBy w' (some B)
theorem DrawP_set {w0 w V : World} {B R : Nat} {a : Option Addr} {l cap N base : Nat} {k n : Int} {s : ByteArray} {ad : Option Addr} {ln cp : Nat} (hd : Dst w0 w V B a l cap) (hR : w.heap.size ≤ R) (hRb : R < base) (hB : B < w.heap.size) (ht : TmV V base N k n s ad ln cp) :
    DrawP w0 w B a l cap N (.returned (.agg #[.int .i64 k, .int .i64 n, .string s, .slice ad ln cp])) ((((V.setCell ⟨R, 0, none⟩ (.int .i64 k)).setCell ⟨R, 1, none⟩ (.int .i64 n)).setCell ⟨R, 2, none⟩ (.string s)).setCell ⟨R, 3, none⟩ (.slice ad ln cp)) := by
  obtain ⟨xs, F, h1, h2, h3, h4⟩ := ht
  have hb : Below w.heap.size V ((((V.setCell ⟨R, 0, none⟩ (.int .i64 k)).setCell ⟨R, 1, none⟩ (.int .i64 n)).setCell ⟨R, 2, none⟩ (.string s)).setCell ⟨R, 3, none⟩ (.slice ad ln cp)) := below_set4 hR
  have hcb := hd.cur.bel
  have hw0 : w0.heap.size ≤ w.heap.size := by obtain ⟨_, _, _, _, h3, _⟩ := hd.cur; omega
  refine ⟨k, n, s, ad, ln, cp, rfl, ⟨xs, F, RdS_same (fun x hx => heap_set4_other (by have := h4 x hx; omega)) h1, h2, h3, fun x hx => by have := h4 x hx; omega⟩, hd.cur.same (heap_set4_other (by omega)) (hcb.trans (hb.mono hw0)), ⟨hb.os.trans hd.grown.os, hb.tape.trans hd.grown.tape, hb.output.trans hd.grown.output, Nat.le_trans hd.grown.size hb.size, fun x hx hn => (hb.block x hx).trans (hd.grown.block x hx hn)⟩⟩

def BelowP (w0 w : World) (B : Nat) (a : Option Addr) (l cap : Nat) (m : Int) (e : Ending) (w' : World) : Prop :=
  ∃ x : Int, 0 ≤ x ∧ x < m ∧ e = .returned (.int .i64 x) ∧ CurAt w0 w' B a l cap ∧ w.grownBy w' (some B)
set_option maxHeartbeats 1000000 in
theorem l01Below_any (w0 w : World) (B : Nat) (a : Option Addr) (l cap : Nat) (m : Int) (hc : CurAt w0 w B a l cap) (hl : l ≤ 1000000000) (hm : 1 ≤ m) (hm2 : m ≤ 256) :
    Calls Try.prog 81 #[.pointer (some ⟨B, 0, none⟩), .int .i64 m] w (BelowP w0 w B a l cap m) := by
  have hd : decide (m ≤ 0) = false := by simp; omega
  have hz : m ≠ 0 := by omega
  go_enter Try.func81, Try.ntmps81
  go_wp2_with fail
  refine (l01Byte_any w0 w B a l cap hc hl).mono ?_
  rintro e w1 ⟨x, hx0, hx1, rfl, hc1, hw1⟩
  go_wp2
  go_ret
  have h1 := Int.emod_nonneg x hz
  have h2 := Int.emod_lt_of_pos x (show 0 < m by omega)
  exact ⟨x % m, by omega, by omega, rfl, hc1, wrote_grown hw1⟩
def StrP (w0 w : World) (B : Nat) (a : Option Addr) (l cap : Nat) (e : Ending) (w' : World) : Prop :=
  ∃ s : ByteArray, s.size ≤ 1000 ∧ e = .returned (.string s) ∧ CurAt w0 w' B a l cap ∧ w.grownBy w' (some B)
set_option maxHeartbeats 1000000 in
theorem l01Str_any (w0 w : World) (B : Nat) (a : Option Addr) (l cap g n : Nat) (hc : CurAt w0 w B a l cap) (hl : l ≤ 1000000000) (hn : 1 ≤ n) (hn2 : n ≤ 100) (hgB : g ≠ B) (hrow : ∀ j, j < n → ∃ s : ByteArray, s.size ≤ 1000 ∧ w.cell? ⟨g, j, none⟩ = some (.string s)) :
    Calls Try.prog 83 #[.pointer (some ⟨B, 0, none⟩), .slice (some ⟨g, 0, none⟩) n n] w (StrP w0 w B a l cap) := by
  have HROW := Lib.hid hrow; clear hrow
  go_enter Try.func83, Try.ntmps83
  go_wp2_with fail
  refine (l01Below_any w0 w B a l cap n hc hl (by omega) (by omega)).mono ?_
  rintro e w1 ⟨x, hx0, hx1, rfl, hc1, hg1⟩
  obtain ⟨j, rfl⟩ := Int.eq_ofNat_of_zero_le hx0
  obtain ⟨s, hs, hcell⟩ := HROW.out j (by omega)
  have hlt := cell_lt hcell
  have hcell1 : w1.cell? ⟨g, j, none⟩ = some (.string s) := (World.cell?_of_block (hg1.block _ hlt (by simpa using hgB))).trans hcell
  have hj : j < n := by omega
  clear hcell hlt
  go_wp2
  go_ret
  exact ⟨s, hs, rfl, hc1, hg1⟩
theorem strs2 {w : World} {g T : Nat} {fz : Nat × Nat} {s1 s2 : ByteArray} (h : w.heap[g]? = some (.cells #[.string s1, .string s2] T fz)) (h1 : s1.size ≤ 1000) (h2 : s2.size ≤ 1000) : ∀ j, j < 2 → ∃ s : ByteArray, s.size ≤ 1000 ∧ w.cell? ⟨g, j, none⟩ = some (.string s) := by
  intro j hj
  rcases (show j = 0 ∨ j = 1 by omega) with rfl | rfl
  · exact ⟨s1, h1, by simpa using cell_of_block h 0⟩
  · exact ⟨s2, h2, by simpa using cell_of_block h 1⟩
theorem strs3 {w : World} {g T : Nat} {fz : Nat × Nat} {s1 s2 s3 : ByteArray} (h : w.heap[g]? = some (.cells #[.string s1, .string s2, .string s3] T fz)) (h1 : s1.size ≤ 1000) (h2 : s2.size ≤ 1000) (h3 : s3.size ≤ 1000) : ∀ j, j < 3 → ∃ s : ByteArray, s.size ≤ 1000 ∧ w.cell? ⟨g, j, none⟩ = some (.string s) := by
  intro j hj
  rcases (show j = 0 ∨ j = 1 ∨ j = 2 by omega) with rfl | rfl | rfl
  · exact ⟨s1, h1, by simpa using cell_of_block h 0⟩
  · exact ⟨s2, h2, by simpa using cell_of_block h 1⟩
  · exact ⟨s3, h3, by simpa using cell_of_block h 2⟩

set_option maxHeartbeats 2000000 in
set_option maxRecDepth 100000 in
theorem l02Atom_any (w0 w : World) (B : Nat) (a : Option Addr) (l cap : Nat) (hc : CurAt w0 w B a l cap) (hl : l ≤ 1000000000) :
    Calls Try.prog 95 #[.pointer (some ⟨B, 0, none⟩)] w (DrawP w0 w B a l cap 1) := by
  have hB := hc.lt
  have hD := (Dst.start hc).alloc (.cells #[.int .i64 0, .int .i64 0, .string ⟨#[]⟩, .slice none 0 0] 26)
  have hR : (w.alloc (.cells #[.int .i64 0, .int .i64 0, .string ⟨#[]⟩, .slice none 0 0] 26)).heap[w.heap.size]? = some (.cells #[.int .i64 0, .int .i64 0, .string ⟨#[]⟩, .slice none 0 0] 26 (0, 0)) := heap_new rfl
  have HR := Lib.hid hR; have HD := Lib.hid hD
  clear hD hR
  go_enter Try.func95, Try.ntmps95
  go_wp2_with fail
  refine (l01Below_any w0 _ B a l cap 7 HD.out.cur hl (by omega) (by omega)).mono ?_
  rintro e V ⟨x, hx0, hx1, rfl, hc1, hg1⟩
  have hD := HD.out.go hc1 hg1
  have hR := (hg1.block _ (by simp) (by simp; omega)).trans HR.out
  have HRV := Lib.hid hR
  obtain ⟨r0, r1, r2, r3, rf⟩ := box4 hR
  have hRl := heap_lt hR
  clear hR hc1 hg1
  have num (y : Int) (hy : y < 2) (hy0 : 0 ≤ y) : True := trivial
  rcases (show x = 0 ∨ x = 1 ∨ x = 2 ∨ x = 3 ∨ x = 4 ∨ x = 5 ∨ x = 6 by omega) with rfl | rfl | rfl | rfl | rfl | rfl | rfl
  iterate 2
    · go_wp2_with fail
      refine (l02Num_any _ V).mono ?_
      rintro e V2 ⟨rfl, hb⟩
      have hR2 := (hb.block _ hRl).trans HRV.out
      have HR2 := Lib.hid hR2
      clear r0 r1 r2 r3 rf
      obtain ⟨r0, r1, r2, r3, rf⟩ := box4 hR2
      have hRl2 := heap_lt hR2
      replace hD := hD.below hb
      clear hR2 hb
      go_wp2
      exact bodyPost_ret (results_term rfl _ _ w.heap.size rfl (heap_set4 HR2.out)) rfl (DrawP_set (base := w.heap.size + 1) hD (Nat.le_refl _) (by omega) hB (TmV_atom _ _ 1 _ _ (by decide) (by omega)))
  iterate 3
    · have hbA : ∀ o : Obj, Below V.heap.size V (V.alloc o) := fun o => (Below.refl _ _).alloc (Nat.le_refl _) _
      go_wp2_with fail
      refine (l02Sym_any _ _).mono ?_
      rintro e V2 ⟨rfl, hb⟩
      have hbb := (hbA (.cells #[.string ⟨#[97]⟩, .string ⟨#[98]⟩, .string ⟨#[99]⟩] 9)).trans (hb.mono (by simp))
      have hR2 := (hbb.block _ hRl).trans HRV.out
      have HR2 := Lib.hid hR2
      clear r0 r1 r2 r3 rf
      obtain ⟨r0, r1, r2, r3, rf⟩ := box4 hR2
      have hRl2 := heap_lt hR2
      replace hD := hD.below hbb
      clear hR2 hb hbb hbA
      go_wp2
      exact bodyPost_ret (results_term rfl _ _ w.heap.size rfl (heap_set4 HR2.out)) rfl (DrawP_set (base := w.heap.size + 1) hD (Nat.le_refl _) (by omega) hB (TmV_atom _ _ 1 _ _ (by decide) (by omega)))
  all_goals
    go_wp2
    exact bodyPost_ret (results_term rfl _ _ w.heap.size rfl (heap_set4 HRV.out)) rfl (DrawP_set (base := w.heap.size + 1) hD (Nat.le_refl _) (by omega) hB (TmV_atom _ _ 1 _ _ (by decide) (by omega)))

def DrawT (size : Int) (N : Nat) : Prop := ∀ (w0 w : World) (B : Nat) (a : Option Addr) (l cap : Nat), CurAt w0 w B a l cap → l ≤ 1000000000 →
  Calls Try.prog 84 #[.pointer (some ⟨B, 0, none⟩), .int .i64 size, .int .i64 0] w (DrawP w0 w B a l cap N)
set_option maxHeartbeats 2000000 in
set_option maxRecDepth 100000 in
theorem l02Draw_one : DrawT 1 1 := by
  intro w0 w B a l cap hc hl
  have hB := hc.lt
  have hD := (Dst.start hc).alloc (.cells #[.int .i64 0, .int .i64 0, .string ⟨#[]⟩, .slice none 0 0] 26)
  have hR : (w.alloc (.cells #[.int .i64 0, .int .i64 0, .string ⟨#[]⟩, .slice none 0 0] 26)).heap[w.heap.size]? = some (.cells #[.int .i64 0, .int .i64 0, .string ⟨#[]⟩, .slice none 0 0] 26 (0, 0)) := heap_new rfl
  have HR := Lib.hid hR; have HD := Lib.hid hD
  clear hD hR
  go_enter Try.func84, Try.ntmps84
  go_wp2_with fail
  refine (l01Below_any w0 _ B a l cap 8 HD.out.cur hl (by omega) (by omega)).mono ?_
  rintro e V ⟨x, hx0, hx1, rfl, hc1, hg1⟩
  have hD := HD.out.go hc1 hg1
  have hR := (hg1.block _ (by simp) (by simp; omega)).trans HR.out
  have hRl := heap_lt hR
  have HRV := Lib.hid hR
  clear hR hc1 hg1
  go_wp2_with fail
  refine (l02Atom_any w0 V B a l cap hD.cur hl).mono ?_
  rintro e V2 ⟨k, n, s, ad, ln, cp, rfl, ht, hc2, hg2⟩
  have hR2 := (hg2.block _ hRl (by simp; omega)).trans HRV.out
  have HR2 := Lib.hid hR2
  obtain ⟨r0, r1, r2, r3, rf⟩ := box4 hR2
  have hRl2 := heap_lt hR2
  replace hD := hD.go hc2 hg2
  clear hR2 hc2 hg2
  go_wp2
  exact bodyPost_ret (results_term rfl _ _ w.heap.size rfl (heap_set4 HR2.out)) rfl (DrawP_set (base := w.heap.size + 1) hD (Nat.le_refl _) (by omega) hB (ht.mono (by omega) (Nat.le_refl _)))
set_option maxHeartbeats 4000000 in
set_option maxRecDepth 100000 in
theorem l02Draw_three : DrawT 3 3 := by
  intro w0 w B a l cap hc hl
  have hB := hc.lt
  have hD := (Dst.start hc).alloc (.cells #[.int .i64 0, .int .i64 0, .string ⟨#[]⟩, .slice none 0 0] 26)
  have hR : (w.alloc (.cells #[.int .i64 0, .int .i64 0, .string ⟨#[]⟩, .slice none 0 0] 26)).heap[w.heap.size]? = some (.cells #[.int .i64 0, .int .i64 0, .string ⟨#[]⟩, .slice none 0 0] 26 (0, 0)) := heap_new rfl
  have HR := Lib.hid hR; have HD := Lib.hid hD
  clear hD hR
  go_enter Try.func84, Try.ntmps84
  go_wp2_with fail
  refine (l01Below_any w0 _ B a l cap 8 HD.out.cur hl (by omega) (by omega)).mono ?_
  rintro e V ⟨x, hx0, hx1, rfl, hc1, hg1⟩
  have hD := HD.out.go hc1 hg1
  have hR := (hg1.block _ (by simp) (by simp; omega)).trans HR.out
  have hRl := heap_lt hR
  have HRV := Lib.hid hR
  clear hR hc1 hg1
  by_cases h3 : 3 ≤ x
  case neg =>
    have d3 : decide (3 ≤ x) = false := by simpa using h3
    clear h3
    go_wp2_with fail
    refine (l02Atom_any w0 V B a l cap hD.cur hl).mono ?_
    rintro e V2 ⟨k, n, s, ad, ln, cp, rfl, ht, hc2, hg2⟩
    have hR2 := (hg2.block _ hRl (by simp; omega)).trans HRV.out
    have HR2 := Lib.hid hR2
    obtain ⟨r0, r1, r2, r3, rf⟩ := box4 hR2
    have hRl2 := heap_lt hR2
    replace hD := hD.go hc2 hg2
    clear hR2 hc2 hg2
    go_wp2
    exact bodyPost_ret (results_term rfl _ _ w.heap.size rfl (heap_set4 HR2.out)) rfl (DrawP_set (base := w.heap.size + 1) hD (Nat.le_refl _) (by omega) hB (ht.mono (by omega) (by omega)))
  have d3 : decide (3 ≤ x) = true := by simpa using h3
  clear h3
  go_wp2_with fail
  refine (l02Draw_one w0 V B a l cap hD.cur hl).mono ?_
  rintro e V2 ⟨k1, n1, s1, a1, l1, c1, rfl, ht1, hc2, hg2⟩
  have hR2 := (hg2.block _ hRl (by simp; omega)).trans HRV.out
  replace hD := hD.go hc2 hg2
  have hVR : w.heap.size < V2.heap.size := heap_lt hR2
  clear hc2 hg2
  replace ht1 := ht1.mono (show w.heap.size + 1 ≤ V.heap.size by omega) (Nat.le_refl 1)
  go_wp2_with fail
  have hbV : Below V2.heap.size V2 (V2.alloc (.cells #[.int .i64 k1, .int .i64 n1, .string s1, .slice a1 l1 c1] 26)) := (Below.refl _ _).alloc (Nat.le_refl _) _
  have hHb : (V2.alloc (.cells #[.int .i64 k1, .int .i64 n1, .string s1, .slice a1 l1 c1] 26)).heap[V2.heap.size]? = some (.cells #[.int .i64 k1, .int .i64 n1, .string s1, .slice a1 l1 c1] 26 (0, 0)) := heap_new rfl
  replace hD := hD.below hbV
  replace ht1 := ht1.below hbV
  have hR3 := (hbV.block _ (heap_lt hR2)).trans hR2
  generalize V2.alloc (.cells #[.int .i64 k1, .int .i64 n1, .string s1, .slice a1 l1 c1] 26) = V3 at *
  obtain ⟨p0, p1, p2, p3, _⟩ := box4 hHb
  have hHl := heap_lt hHb
  have hRl3 := heap_lt hR3
  have HR3 := Lib.hid hR3
  have HS : Hid (V3.cell? ⟨V2.heap.size, 0, none⟩ = some (.int .i64 k1) ∧ V3.cell? ⟨V2.heap.size, 1, none⟩ = some (.int .i64 n1) ∧ V3.cell? ⟨V2.heap.size, 2, none⟩ = some (.string s1) ∧ V3.cell? ⟨V2.heap.size, 3, none⟩ = some (.slice a1 l1 c1)) := ⟨p0, p1, p2, p3⟩
  have keep : Hid (∀ w' : World, w'.heap[V2.heap.size]? = V3.heap[V2.heap.size]? → w'.cell? ⟨V2.heap.size, 0, none⟩ = some (.int .i64 k1) ∧ w'.cell? ⟨V2.heap.size, 1, none⟩ = some (.int .i64 n1) ∧ w'.cell? ⟨V2.heap.size, 2, none⟩ = some (.string s1) ∧ w'.cell? ⟨V2.heap.size, 3, none⟩ = some (.slice a1 l1 c1)) := by
    intro w' h
    obtain ⟨y0, y1, y2, y3⟩ := HS.out
    exact ⟨(World.cell?_of_block h).trans y0, (World.cell?_of_block h).trans y1, (World.cell?_of_block h).trans y2, (World.cell?_of_block h).trans y3⟩
  have hbd : Below V3.heap.size V3 V3.drew := (Below.refl _ _).drew
  have hDd := hD.drew
  have nB : V2.heap.size ≠ B := by omega
  have nR : V2.heap.size ≠ w.heap.size := by omega
  have CE := Lib.hid (l02Draw_one w0 V3.drew B a l cap hDd.cur hl)
  have HD3 := Lib.hid hDd
  clear hR2 hR3 hHb hbV hDd
  go_region_held3 (fun w' => w'.cell? ⟨V2.heap.size, 0, none⟩ = some (.int .i64 k1) ∧ w'.cell? ⟨V2.heap.size, 1, none⟩ = some (.int .i64 n1) ∧ w'.cell? ⟨V2.heap.size, 2, none⟩ = some (.string s1) ∧ w'.cell? ⟨V2.heap.size, 3, none⟩ = some (.slice a1 l1 c1))
    (first | with_reducible exact keep.out _ (hbd.block _ hHl) | with_reducible exact keep.out _ (hg.block _ hHl (by simpa using nB)) | with_reducible exact keep.out _ ((heap_set4_other nR).trans (hg.block _ hHl (by simpa using nB))))
    (first | (go_at_call 84; (refine CE.out.mono ?_); rintro e w5 ⟨k2, n2, s2, a2, l2, c2, rfl, ht2, hc5, hg5⟩; have hg : V3.grownBy w5 (some B) := grown_trans (grown_below hbd _) hg5; have hD5 := HD3.out.go hc5 hg5) | (go_at_call 72; (with_reducible refine (l02Pair_any k1 n1 k2 n2 s1 s2 a1 a2 l1 c1 l2 c2 w5).mono ?_); rintro e w6 ⟨b6, rfl, hb6l, hrow6, hb6⟩; have ht1' := (ht1.grown hg (by omega)).below hb6; have ht2' := (ht2.mono (show w.heap.size + 1 ≤ V3.drew.heap.size by (show w.heap.size + 1 ≤ V3.heap.size; omega)) (Nat.le_refl 1)).below hb6; have hs5 := hg.size; have htp := TmV_pair ht1' ht2' (by omega) hrow6; replace hg : V3.grownBy w6 (some B) := grown_trans hg (grown_below hb6 _); have hD6 := hD5.below hb6; have HR6 := Lib.hid ((hg.block _ hRl3 (by simp; omega)).trans HR3.out); obtain ⟨r0, r1, r2, r3, rf⟩ := box4 HR6.out; have hRl6 := heap_lt HR6.out))
  go_wp2
  exact bodyPost_ret (results_term rfl _ _ w.heap.size rfl (heap_set4 HR6.out)) rfl (DrawP_set (base := w.heap.size + 1) hD6 (Nat.le_refl _) (by omega) hB htp)

/-- terms as they lie in a row -/
def TmVs (V : World) (base M : Nat) : List TV → Prop
  | [] => True
  | e :: es => TmV V base M e.k e.n e.s e.a e.l e.c ∧ TmVs V base M es
theorem TmVs_open {V : World} {base M : Nat} : ∀ {es : List TV}, TmVs V base M es → ∃ (ts : List Tm) (Fs : List (List Nat)), ts.length = es.length ∧ Fs.length = es.length ∧ RdVs V ts es Fs ∧ (∀ t ∈ ts, t.Lens) ∧ cntL ts ≤ es.length * M ∧ ∀ x ∈ Fs.flatten, base ≤ x := by
  intro es
  induction es with
  | nil => intro _; exact ⟨[], [], rfl, rfl, trivial, by simp, by simp [cntL], by simp⟩
  | cons e es ih =>
    intro h
    obtain ⟨⟨xs, F, h1, h2, h3, h4⟩, h5⟩ := h
    obtain ⟨ts, Fs, g1, g2, g3, g4, g5, g6⟩ := ih h5
    refine ⟨.mk e.k e.n e.s xs :: ts, F :: Fs, by simp [g1], by simp [g2], ⟨⟨xs, rfl, h1⟩, g3⟩, ?_, ?_, ?_⟩
    · intro t ht
      rcases List.mem_cons.1 ht with rfl | ht
      · exact h2
      · exact g4 t ht
    · rw [cntL, List.length_cons, Nat.add_mul]; omega
    · intro x hx
      rw [List.flatten_cons] at hx
      rcases List.mem_append.1 hx with hx | hx
      · exact h4 x hx
      · exact g6 x hx
theorem cnt_listL (l : List Tm) : (Tm.list l Tm.nil).cnt = cntL l + l.length + 1 := by
  induction l with
  | nil => rfl
  | cons x l ih =>
    have : Tm.list (x :: l) Tm.nil = Tm.mk 4 0 ByteArray.empty [x, Tm.list l Tm.nil] := rfl
    rw [this, cnt_pair, ih, cntL, List.length_cons]; omega
theorem lens_listL {l : List Tm} (h : ∀ t ∈ l, t.Lens) : (Tm.list l Tm.nil).Lens := by
  induction l with
  | nil => exact .mk _ _ _ _ (by simp) (by simp) (by simp)
  | cons x l ih =>
    exact .mk _ _ _ _ (by simp) (by simp) (fun t ht => by simp at ht; rcases ht with rfl | rfl; exact h _ (by simp); exact ih (fun t ht => h t (by simp [ht])))
def ListP (V : World) (base N : Nat) (e : Ending) (w' : World) : Prop :=
  ∃ k n s ad ln cp, e = .returned (.agg #[.int .i64 k, .int .i64 n, .string s, .slice ad ln cp]) ∧ TmV w' base N k n s ad ln cp ∧ Below V.heap.size V w'
theorem l02List_tm (es : List TV) (base M : Nat) (V : World) (n : Nat) (hn : n = es.length) (hn2 : n ≤ 100) (hb : base ≤ V.heap.size) (h : TmVs V base M es) :
    Calls Try.prog 49 #[.slice (some ⟨V.heap.size, 0, none⟩) n n, .agg #[.int .i64 0, .int .i64 0, .string ⟨#[]⟩, .slice none 0 0]] (V.alloc (.cells (es.flatMap TV.cells).toArray 26)) (ListP V base (n * (M + 1) + 1)) := by
  have hbA : Below V.heap.size V (V.alloc (.cells (es.flatMap TV.cells).toArray 26)) := (Below.refl _ _).alloc (Nat.le_refl _) _
  obtain ⟨ts, Fs, g1, g2, g3, g4, g5, g6⟩ := TmVs_open h
  have g3' : RdVs (V.alloc (.cells (es.flatMap TV.cells).toArray 26)) ts es Fs := RdVs_same g3 (fun x hx => hbA.block x (RdVs_lt g3 x hx))
  have hrow := Rd_of_cells (b := V.heap.size) 0 g3' (fun j u hj => by rw [cell_of_block (heap_new rfl)]; simpa using hj)
  refine (l02List_some ts (some ⟨V.heap.size, 0, none⟩) V.heap.size 0 n n Fs 0 0 ⟨#[]⟩ [] none 0 0 [] _ (RdS_nil _ _ _) (fun _ => rfl) (by omega) (by omega) (by omega) hrow).mono ?_
  rintro e w4 ⟨k, m, s, xs, a, l, c, F, ht, rfl, hrd, hgr, hb4⟩
  have hnil : Tm.list ts (.mk 0 0 ⟨#[]⟩ []) = Tm.list ts Tm.nil := rfl
  rw [hnil] at ht
  refine ⟨k, m, s, a, l, c, rfl, ⟨xs, F, hrd, by rw [← ht]; exact lens_listL g4, ?_, ?_⟩, hbA.trans (hb4.mono (by simp))⟩
  · rw [← ht, cnt_listL, Nat.mul_add, hn]; omega
  · intro x hx
    rcases hgr.mem x hx with h' | ⟨h', _⟩
    · exact g6 x (by simpa using h')
    · simp at h'; omega
theorem TmVs.below {V V' : World} {base M : Nat} (hb : Below V.heap.size V V') : ∀ {es : List TV}, TmVs V base M es → TmVs V' base M es
  | [], _ => trivial
  | _ :: _, h => ⟨h.1.below hb, TmVs.below hb h.2⟩
theorem l02List_at (es : List TV) (cs : Array Value) (base M : Nat) (X : World) (g n : Nat) (T : Nat) (fz : Nat × Nat) (hrow : X.heap[g]? = some (.cells cs T fz)) (hcs : (es.flatMap TV.cells).toArray = cs) (hn : n = es.length) (hn2 : n ≤ 100) (hb : base ≤ X.heap.size) (h : TmVs X base M es) :
    Calls Try.prog 49 #[.slice (some ⟨g, 0, none⟩) n n, .agg #[.int .i64 0, .int .i64 0, .string ⟨#[]⟩, .slice none 0 0]] X (ListP X base (n * (M + 1) + 1)) := by
  obtain ⟨ts, Fs, g1, g2, g3, g4, g5, g6⟩ := TmVs_open h
  have hrow := Rd_of_cells (b := g) 0 g3 (fun j u hj => by rw [cell_of_block hrow, ← hcs]; simpa using hj)
  refine (l02List_some ts (some ⟨g, 0, none⟩) g 0 n n Fs 0 0 ⟨#[]⟩ [] none 0 0 [] _ (RdS_nil _ _ _) (fun _ => rfl) (by omega) (by omega) (by omega) hrow).mono ?_
  rintro e w4 ⟨k, m, s, xs, a, l, c, F, ht, rfl, hrd, hgr, hb4⟩
  have hnil : Tm.list ts (.mk 0 0 ⟨#[]⟩ []) = Tm.list ts Tm.nil := rfl
  rw [hnil] at ht
  refine ⟨k, m, s, a, l, c, rfl, ⟨xs, F, hrd, by rw [← ht]; exact lens_listL g4, ?_, ?_⟩, hb4⟩
  · rw [← ht, cnt_listL, Nat.mul_add, hn]; omega
  · intro x hx
    rcases hgr.mem x hx with h' | ⟨h', _⟩
    · exact g6 x (by simpa using h')
    · omega
end Go.Proofs.Ytjkabbkaeioibaa
