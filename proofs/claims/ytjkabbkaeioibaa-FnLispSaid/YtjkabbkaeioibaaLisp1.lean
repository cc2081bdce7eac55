/- Contracts of the small functions of the program's evaluator: isSymbol, hasSymbol, symbol, small, items. -/
import Derived.Test.YtjkabbkaeioibaaEv
namespace Go.Proofs.Ytjkabbkaeioibaa
open Go.RowKit

theorem isSymbol_any (k n : Int) (s : ByteArray) (xs : List Tm) (a : Option Addr) (l c : Nat) (b : ByteArray) (w : World) :
    Calls Try.prog 98 #[.agg #[.int .i64 k, .int .i64 n, .string s, .slice a l c], .string b] w fun e w' => e = .returned (.bool (isSym (.mk k n s xs) b)) ∧ Below w.heap.size w w' := by
  by_cases hk : k = 2
  · subst hk
    have hv : Hid (isSym (.mk 2 n s xs) b = (s.toList == b.toList)) := by simp [Hid, isSym, Tm.kind, Tm.name]
    go_enter Try.func98, Try.ntmps98
    go_wp2
    go_ret
    exact ⟨by rw [hv.out]; rfl, (Below.refl _ _).alloc (Nat.le_refl _) _⟩
  · have hv : Hid (isSym (.mk k n s xs) b = false) := by simp [Hid, isSym, Tm.kind, hk]
    have hk' : (k == 2) = false := by simpa using hk
    clear hk
    go_enter Try.func98, Try.ntmps98
    go_wp2
    go_ret
    exact ⟨by rw [hv.out]; rfl, (Below.refl _ _).alloc (Nat.le_refl _) _⟩

set_option maxHeartbeats 400000 in
theorem symbol_any (s : ByteArray) (w : World) : Calls Try.prog 101 #[.string s] w (AtomPost w 2 0 s) := by
  go_enter Try.func101, Try.ntmps101
  go_wp2
  exact bodyPost_ret (v := .agg #[.int .i64 2, .int .i64 0, .string s, .slice none 0 0]) (by simp [results, Try.results101, go_sem]) rfl ⟨rfl, (Below.refl _ _).alloc (Nat.le_refl _) _⟩

def HasT (t : Tm) : Prop := ∀ (k n : Int) (s : ByteArray) (xs : List Tm) (a : Option Addr) (l c : Nat) (F : List Nat) (b : ByteArray) (w : World), t = .mk k n s xs → RdS w xs a l c F → t.wf = true →
  Calls Try.prog 99 #[.agg #[.int .i64 k, .int .i64 n, .string s, .slice a l c], .string b] w fun e w' => e = .returned (.bool (t.hasSym b)) ∧ Below w.heap.size w w'

set_option maxHeartbeats 2000000 in
set_option maxRecDepth 100000 in
theorem hasSymbol_all (t : Tm) : HasT t := by
  induction t using Tm.ind with
  | h k0 n0 s0 xs0 ih =>
    intro k n s xs a l c F bs w ht h hw
    cases ht
    rcases wf_split hw with ⟨hk, rfl⟩ | ⟨rfl, rfl, hs0, x1, y1, rfl, hx1, hy1⟩
    · have hk' : (k0 == 4) = false := by simpa using hk
      by_cases hk2 : k0 = 2
      · subst hk2
        have hv : Hid ((Tm.mk 2 n0 s0 []).hasSym bs = (s0.toList == bs.toList)) := by simp [Hid, Tm.hasSym, isSym, Tm.kind, Tm.name]
        clear ih hk hw h hk'
        go_enter Try.func99, Try.ntmps99
        go_wp2
        go_ret
        exact ⟨by rw [hv.out]; rfl, (Below.refl _ _).alloc (Nat.le_refl _) _⟩
      · have hv : Hid ((Tm.mk k0 n0 s0 []).hasSym bs = false) := by simp [Hid, Tm.hasSym, isSym, Tm.kind, hk2, hk]
        have hk2' : (k0 == 2) = false := by simpa using hk2
        clear ih hk hw h hk2
        go_enter Try.func99, Try.ntmps99
        go_wp2
        go_ret
        exact ⟨by rw [hv.out]; rfl, (Below.refl _ _).alloc (Nat.le_refl _) _⟩
    · obtain ⟨b, o, xk, xn, xs, xas, xa, xl, xc, G1, yk, yn, ys, yas, ya, yl, yc, G2, hxy, rfl, rfl, hblt, ⟨x0, x1', x2, x3⟩, ⟨y0, y1', y2, y3⟩, hrx, hry⟩ := RdS_pair h h.1
      obtain ⟨rfl, rfl⟩ : x1 = .mk xk xn xs xas ∧ y1 = .mk yk yn ys yas := by simpa using hxy
      have hl : l = 2 := h.1
      subst hl
      obtain rfl := ba_empty hs0
      have IX := Lib.hid (ih _ (by simp : Tm.mk xk xn xs xas ∈ _) xk xn xs xas xa xl xc G1 bs)
      have IY := Lib.hid (ih _ (by simp : Tm.mk yk yn ys yas ∈ _) yk yn ys yas ya yl yc G2 bs)
      have hv : Hid ((Tm.mk 4 0 ByteArray.empty [.mk xk xn xs xas, .mk yk yn ys yas]).hasSym bs = ((Tm.mk xk xn xs xas).hasSym bs || (Tm.mk yk yn ys yas).hasSym bs)) := by
        show _ = _
        rw [Tm.hasSym, if_pos rfl, hasSymL, hasSymL, hasSymL, Bool.or_false]
      have hbA : Below w.heap.size w (w.alloc (.cells #[.int .i64 4, .int .i64 0, .string ByteArray.empty, .slice (some ⟨b, o, none⟩) 2 c] 26)) := (Below.refl _ _).alloc (Nat.le_refl _) _
      have hB : (w.alloc (.cells #[.int .i64 4, .int .i64 0, .string ByteArray.empty, .slice (some ⟨b, o, none⟩) 2 c] 26)).heap[w.heap.size]? = some (.cells #[.int .i64 4, .int .i64 0, .string ByteArray.empty, .slice (some ⟨b, o, none⟩) 2 c] 26 (0, 0)) := heap_new rfl
      generalize (Tm.mk xk xn xs xas).hasSym bs = p at *
      generalize (Tm.mk yk yn ys yas).hasSym bs = q at *
      have HB := Lib.hid hB; have HBA := Lib.hid hbA
      clear ih hxy h hw hs0 hB
      go_enter Try.func99, Try.ntmps99
      go_wp2_with fail
      refine (IX.out _ (by trivial) (RdS_ext hrx HBA.out) hx1).mono ?_
      rintro e w2 ⟨rfl, hb2⟩
      have hbel := HBA.out.trans (hb2.mono (by simp))
      cases p with
      | true =>
        go_wp2
        go_ret
        exact ⟨by rw [hv.out]; rfl, hbel⟩
      | false =>
        obtain ⟨_, _, _, p3, _⟩ := box4 ((hb2.block _ (by simp)).trans HB.out)
        rw [← hbel.cell (p := ⟨b, _, none⟩) hblt] at y0 y1' y2 y3
        clear x0 x1' x2 x3
        go_wp2_with fail
        refine (IY.out _ (by trivial) (RdS_ext hry hbel) hy1).mono ?_
        rintro e w3 ⟨rfl, hb3⟩
        have hbel3 := hbel.trans (hb3.mono hbel.size)
        clear y0 y1' y2 y3 p3
        go_wp2
        go_ret
        exact ⟨by rw [hv.out]; cases q <;> rfl, hbel3⟩

/-- small: the value and 0, or nothing and 1 -/
def SmallP (w : World) (t : Tm) (F : List Nat) (e : Ending) (w' : World) : Prop :=
  ∃ k n s xs a l c F', (keepV t 0).1 = .mk k n s xs ∧ e = .returned (.tuple #[.agg #[.int .i64 k, .int .i64 n, .string s, .slice a l c], .int .i64 ((keepV t 0).2.1 : Nat)]) ∧ RdS w' xs a l c F' ∧ (∀ x ∈ F', x ∈ F) ∧ Below w.heap.size w w'
set_option maxHeartbeats 1000000 in
set_option maxRecDepth 100000 in
theorem small_any (k n : Int) (s : ByteArray) (xs : List Tm) (a : Option Addr) (l c : Nat) (F : List Nat) (w : World) (h : RdS w xs a l c F) (hL : (Tm.mk k n s xs).Lens) :
    Calls Try.prog 100 #[.agg #[.int .i64 k, .int .i64 n, .string s, .slice a l c]] w (SmallP w (.mk k n s xs) F) := by
  have O1 := Lib.hid (TermOk_impl k n s xs a l c F)
  have HST : Hid (∀ w', (Tm.mk k n s xs).ok = false → Below w.heap.size w w' → SmallP w (.mk k n s xs) F (.returned (.tuple #[.agg #[.int .i64 0, .int .i64 0, .string ByteArray.empty, .slice none 0 0], .int .i64 1])) w') := by
    intro w' hok hb
    have hk : keepV (.mk k n s xs) 0 = stuck 0 := by rw [keepV, if_neg (by simp [hok])]
    exact ⟨0, 0, ByteArray.empty, [], none, 0, 0, [], by rw [hk]; rfl, by rw [hk]; rfl, RdS_nil _ _ _, by simp, hb⟩
  have HOK : Hid (∀ w', (Tm.mk k n s xs).ok = true → Below w.heap.size w w' → RdS w' xs a l c F → SmallP w (.mk k n s xs) F (.returned (.tuple #[.agg #[.int .i64 k, .int .i64 n, .string s, .slice a l c], .int .i64 0])) w') := by
    intro w' hok hb hr
    have hk : keepV (.mk k n s xs) 0 = (.mk k n s xs, 0, 0) := by rw [keepV, if_pos hok]
    exact ⟨k, n, s, xs, a, l, c, F, by rw [hk], by rw [hk]; rfl, hr, fun x hx => hx, hb⟩
  generalize Tm.mk k n s xs = t at *
  have hbA : ∀ o1 o2, Below w.heap.size w ((w.alloc o1).alloc o2) := fun o1 o2 => ((Below.refl _ _).alloc (Nat.le_refl _) o1).alloc (by simp) o2
  have HBA := Lib.hid hbA; clear hbA
  go_enter Try.func100, Try.ntmps100
  go_wp2_with fail
  refine (O1.out _ (RdS_ext h (HBA.out _ _)) hL).mono ?_
  rintro e w1 ⟨rfl, hb1⟩
  have hbel := (HBA.out _ _).trans (hb1.mono (by simp; omega))
  have HB1 : Hid (w1.heap[w.heap.size]? = some (.cells #[.int .i64 k, .int .i64 n, .string s, .slice a l c] 26 (0, 0))) := by
    show _ = _
    rw [hb1.block _ (by simp; omega), heap_old (by simp)]; exact heap_new rfl
  have HBR : Hid (w1.heap[w.heap.size + 1]? = some (.cells #[.int .i64 0, .int .i64 0, .string ⟨#[]⟩, .slice none 0 0] 26 (0, 0))) := by
    show _ = _
    rw [hb1.block _ (by simp), heap_new (by simp)]
  have hs1 := heap_lt HBR.out
  obtain ⟨p0, p1, p2, p3, _⟩ := box4 HB1.out
  obtain ⟨r0, r1, r2, r3, rf⟩ := box4 HBR.out
  clear hb1
  cases hok : t.ok with
  | false =>
    have HF := Lib.hid (HST.out _ hok (hbel.trans (below_set4 (b := w.heap.size + 1) (y0 := .int .i64 0) (y1 := .int .i64 0) (y2 := .string ⟨#[]⟩) (y3 := .slice none 0 0) (by omega))))
    clear hok
    go_wp2
    exact bodyPost_ret (v := .tuple #[.agg #[.int .i64 0, .int .i64 0, .string ByteArray.empty, .slice none 0 0], .int .i64 1]) (results_term2 rfl _ _ (w.heap.size + 1) rfl rfl (heap_set4 HBR.out)) rfl HF.out
  | true =>
    have HF := Lib.hid (HOK.out _ hok (hbel.trans (below_set4 (b := w.heap.size + 1) (y0 := .int .i64 k) (y1 := .int .i64 n) (y2 := .string s) (y3 := .slice a l c) (by omega))) (RdS_same (fun x hx => heap_set4_other (by have := RdS_lt h x hx; omega)) (RdS_ext h hbel)))
    clear hok
    go_wp2
    exact bodyPost_ret (v := .tuple #[.agg #[.int .i64 k, .int .i64 n, .string s, .slice a l c], .int .i64 0]) (results_term2 rfl _ _ (w.heap.size + 1) rfl rfl (heap_set4 HBR.out)) rfl HF.out
end Go.Proofs.Ytjkabbkaeioibaa
