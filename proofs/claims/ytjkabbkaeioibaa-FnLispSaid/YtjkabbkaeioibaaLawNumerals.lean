/- FnNumerals: for every code the law returns true: numerals are the numbers that they are made from, and add as these. No condition. -/
import Derived.Test.YtjkabbkaeioibaaNumVal
import Derived.Test.YtjkabbkaeioibaaAdd
import Derived.Test.YtjkabbkaeioibaaCur
import Derived.Test.YtjkabbkaeioibaaPairsW
import Derived.Deep.RegionHeld3
import Derived.ProofKit
import Derived.OpenShut
import Derived.ShutString
import Derived.ChangeOld
import Derived.Below
namespace Go.Proofs.Ytjkabbkaeioibaa
open Go.RowKit
/-- a term in a box -/
structure Boxed (w : World) (B : Nat) (k n : Int) (s : ByteArray) (a : Option Addr) (l c : Nat) (xs : List Tm) (F : List Nat) : Prop where
  box : w.heap[B]? = some (.cells #[.int .i64 k, .int .i64 n, .string s, .slice a l c] 26 (0, 0))
  rd : RdS w xs a l c F
theorem Boxed.below {w w' : World} {B : Nat} {k n : Int} {s : ByteArray} {a : Option Addr} {l c : Nat} {xs : List Tm} {F : List Nat} (h : Boxed w B k n s a l c xs F) (hb : Below w.heap.size w w') : Boxed w' B k n s a l c xs F :=
  ⟨by rw [hb.block _ (heap_lt h.box)]; exact h.box, RdS_ext h.rd hb⟩
theorem Boxed.cells {w : World} {B : Nat} {k n : Int} {s : ByteArray} {a : Option Addr} {l c : Nat} {xs : List Tm} {F : List Nat} (h : Boxed w B k n s a l c xs F) :
    w.cell? ⟨B, 0, none⟩ = some (.int .i64 k) ∧ w.cell? ⟨B, 1, none⟩ = some (.int .i64 n) ∧ w.cell? ⟨B, 2, none⟩ = some (.string s) ∧ w.cell? ⟨B, 3, none⟩ = some (.slice a l c) ∧ B < w.heap.size := by
  obtain ⟨p0, p1, p2, p3, _⟩ := box4 h.box
  exact ⟨p0, p1, p2, p3, heap_lt h.box⟩
theorem Boxed.new {w : World} {k n : Int} {s : ByteArray} {a : Option Addr} {l c : Nat} {xs : List Tm} {F : List Nat} (h : RdS w xs a l c F) : Boxed (w.alloc (.cells #[.int .i64 k, .int .i64 n, .string s, .slice a l c] 26)) w.heap.size k n s a l c xs F :=
  ⟨heap_new rfl, RdS_ext h ((Below.refl _ _).alloc (Nat.le_refl _) _)⟩

namespace fnNumerals
set_option linter.unusedVariables false

set_option maxHeartbeats 4000000 in
set_option maxRecDepth 100000 in
theorem walk_small (a : Option Addr) (l cap : Nat) (w : World) (hby : Bytes w a l) (hl : l ≤ 1048576) :
    Calls Try.prog 7 #[.slice a l cap] w fun e w' => e = .returned (.bool true) ∧ Below w.heap.size w w' := by
  go_enter Try.func7, Try.ntmps7
  go_wp2_with fail
  refine (MakeNum_any w a l cap 0 hby (by omega) (by omega)).mono ?_
  rintro e w1 ⟨x1, hx0, hx1, rfl, hb1⟩
  go_wp2_with fail
  refine (MakeNum_any w1 a l cap 2 (Bytes_below hby hb1) (by omega) (by omega)).mono ?_
  rintro e w2 ⟨x2, hy0, hy1, rfl, hb2⟩
  have hb2' := hb1.trans (hb2.mono hb1.size)
  have hmul0 : 0 ≤ x1 * x2 := Int.mul_nonneg hx0 hy0
  have hmul1 : x1 * x2 ≤ 4294836225 := by
    have h1 : x1 * x2 ≤ 65535 * x2 := Int.mul_le_mul_of_nonneg_right hx1 hy0
    omega
  go_wp2_with fail
  refine (MakeNum_any w2 a l cap 4 (Bytes_below hby hb2') (by omega) (by omega)).mono ?_
  rintro e w3 ⟨x3, hz0, hz1, rfl, hb3⟩
  have hb3' := hb2'.trans (hb3.mono hb2'.size)
  clear hb1 hb2 hb3 hb2'
  go_wp2_with fail
  generalize hA : x1 * x2 % 1000000000 / 2 = A
  have hA0 : 0 ≤ A := by omega
  have hA1 : A < 500000000 := by omega
  clear hA hmul0 hmul1 hx0 hx1 hy0 hy1
  generalize hC : x3 * 7 = C
  have hC0 : 0 ≤ C := by omega
  have hC1 : C ≤ 458745 := by omega
  clear hC hz0 hz1
  have tA : numeralB A = true := by simp [numeralB]; omega
  have tC : numeralB C = true := by simp [numeralB]; omega
  have tS : numeralB (A + C) = true := by simp [numeralB]; omega
  have vA := numV_numeralR (n := A) (by omega) (by omega)
  have vC := numV_numeralR (n := C) (by omega) (by omega)
  have vS := numV_numeralR (n := A + C) (by omega) (by omega)
  have lA := numeralR_lens A
  have lC := numeralR_lens C
  have lS := numeralR_lens (A + C)
  have TA := Lib.hid tA; have TC := Lib.hid tC; have TS := Lib.hid tS; have VA := Lib.hid vA; have VC := Lib.hid vC; have VS := Lib.hid vS
  clear tA tC tS vA vC vS
  refine (NumeralOf_impl A _).mono ?_
  rintro e w4 ⟨k1, n1, s1, xs1, a1, l1, c1, F1, ht1, rfl, hrd1, _, hb4⟩
  have HT1 := Lib.hid ht1; clear ht1
  rw [TA.out]
  have hb4' := hb3'.trans (hb4.mono hb3'.size)
  go_wp2_with fail
  have hB1 := Boxed.new (k := k1) (n := n1) (s := s1) hrd1
  refine (NumeralOf_impl C _).mono ?_
  rintro e w5 ⟨k2, n2, s2, xs2, a2, l2, c2, F2, ht2, rfl, hrd2, _, hb5⟩
  have HT2 := Lib.hid ht2; clear ht2
  rw [TC.out]
  have hB1' := hB1.below hb5
  have hb5' := (hb4'.alloc hb4'.size (.cells #[.int .i64 k1, .int .i64 n1, .string s1, .slice a1 l1 c1] 26)).trans (hb5.mono (by have := hb4'.size; simp; omega))
  obtain ⟨p0, p1, p2, p3, pl⟩ := hB1'.cells
  clear hB1 hb4 hb5 hrd1 hb4' hb3'
  go_wp2_with fail
  have hB2 := Boxed.new (k := k2) (n := n2) (s := s2) hrd2
  have hB1 := hB1'.below ((Below.refl _ _).alloc (Nat.le_refl _) (.cells #[.int .i64 k2, .int .i64 n2, .string s2, .slice a2 l2 c2] 26))
  refine (AddNumerals_impl k1 n1 s1 xs1 a1 l1 c1 F1 k2 n2 s2 xs2 a2 l2 c2 F2 _ hB1.rd hB2.rd (by rw [← HT1.out]; exact lA) (by rw [← HT2.out]; exact lC)).mono ?_
  rw [← HT1.out, ← HT2.out, VA.out, VC.out]
  have eR : addR A C = numeralR (A + C) := by simp [addR, show ¬ (A < 0 ∨ C < 0) by omega]
  have eB : addB A C = true := by simp only [addB, show ¬ (A < 0 ∨ C < 0) by omega, if_false]; exact TS.out
  rw [eR, eB]
  rintro e w6 ⟨k3, n3, s3, xs3, a3, l3, c3, F3, ht3, rfl, hrd3, _, hb6⟩
  have HT3 := Lib.hid ht3
  have hB1' := hB1.below hb6
  have hB2' := hB2.below hb6
  have hb6' := (hb5'.alloc hb5'.size (.cells #[.int .i64 k2, .int .i64 n2, .string s2, .slice a2 l2 c2] 26)).trans (hb6.mono (by have := hb5'.size; simp; omega))
  clear ht3 eR eB hB1 hB2 hb6 hb5' hrd2 p0 p1 p2 p3 pl
  go_wp2_with fail
  have hB3 := Boxed.new (k := k3) (n := n3) (s := s3) hrd3
  have hbx : Below w6.heap.size w6 (w6.alloc (.cells #[.int .i64 k3, .int .i64 n3, .string s3, .slice a3 l3 c3] 26)) := (Below.refl _ _).alloc (Nat.le_refl _) _
  have hB1 := hB1'.below hbx
  refine (NumeralOf_impl (A + C) _).mono ?_
  rintro e w7 ⟨k4, n4, s4, xs4, a4, l4, c4, F4, ht4, rfl, hrd4, _, hb7⟩
  rw [HT3.out] at ht4
  cases ht4
  rw [TS.out]
  have hB1' := hB1.below hb7
  have hB3' := hB3.below hb7
  have hb7' := (hb6'.trans (hbx.mono hb6'.size)).trans (hb7.mono (Nat.le_trans hb6'.size hbx.size))
  clear hB1 hB3 hB2' hb7 hbx hb6' hrd3
  go_wp2_with fail
  have hB4 := Boxed.new (k := k3) (n := n3) (s := s3) hrd4
  have hbx : Below w7.heap.size w7 (w7.alloc (.cells #[.int .i64 k3, .int .i64 n3, .string s3, .slice a4 l4 c4] 26)) := (Below.refl _ _).alloc (Nat.le_refl _) _
  have hB1 := hB1'.below hbx
  have hB3 := hB3'.below hbx
  refine (NumeralPairs_impl (C % 20) _).mono ?_
  rintro e w8 ⟨aP, lP, cP, bP, Fs, rfl, hss, _, _, hb8⟩
  have hB1' := hB1.below hb8
  have hB3' := hB3.below hb8
  have hB4' := hB4.below hb8
  have hb8' := (hb7'.trans (hbx.mono hb7'.size)).trans (hb8.mono (Nat.le_trans hb7'.size hbx.size))
  clear hB1 hB3 hB4 hb8 hbx hb7' hrd4
  generalize hD : C % 20 = D at *
  have hD0 : 0 ≤ D := by omega
  have hD1 : D < 20 := by omega
  obtain ⟨N, rfl⟩ := Int.eq_ofNat_of_zero_le hD0
  have hpr : pairsR (N : Int) = pairsTo N (N + 1) := by simp [pairsR]; omega
  rw [hpr] at hss
  have hlP : lP = N + 1 := by have := hss.1; rw [pairsTo_len] at this; exact this
  subst hlP
  have HD := Lib.hid hD
  obtain ⟨p0, p1, p2, p3, pl⟩ := hB1'.cells
  obtain ⟨q0, q1, q2, q3, ql⟩ := hB3'.cells
  obtain ⟨r0, r1, r2, r3, rl⟩ := hB4'.cells
  clear hpr hD
  go_wp2_with fail
  have lS' := lS
  rw [HT3.out] at lS'
  refine (same_all lS' _ _ _ _ _ _ _ _ _ _ _ _ _ rfl hB3'.rd hB4'.rd).mono ?_
  rintro e w9 ⟨rfl, hb9⟩
  have hB1 := hB1'.below hb9
  have hB3 := hB3'.below hb9
  have hss9 := RdSS_ext hss hb9
  have hb9' := hb8'.trans (hb9.mono hb8'.size)
  clear p0 p1 p2 p3 pl q0 q1 q2 q3 ql r0 r1 r2 r3 rl hB1' hB3' hB4' hss hb9 hb8'
  obtain ⟨p0, p1, p2, p3, pl⟩ := hB1.cells
  obtain ⟨q0, q1, q2, q3, ql⟩ := hB3.cells
  go_wp2_with fail
  have hN1 := NumberOf_impl k1 n1 s1 xs1 a1 l1 c1 F1 _ hB1.rd (by rw [← HT1.out]; exact lA)
  rw [← HT1.out, VA.out] at hN1
  refine hN1.mono ?_
  rintro e w10 ⟨rfl, hb10⟩
  have hB3' := hB3.below hb10
  have hss10 := RdSS_ext hss9 hb10
  have hb10' := hb9'.trans (hb10.mono hb9'.size)
  clear p0 p1 p2 p3 pl q0 q1 q2 q3 ql hB1 hB3 hss9 hb10 hb9' hN1
  obtain ⟨q0, q1, q2, q3, ql⟩ := hB3'.cells
  go_wp2_with fail
  have hN3 := NumberOf_impl k3 n3 s3 xs3 a3 l3 c3 F3 _ hB3'.rd lS'
  rw [← HT3.out, VS.out] at hN3
  refine hN3.mono ?_
  rintro e w11 ⟨rfl, hb11⟩
  have hss11 := RdSS_ext hss10 hb11
  have hb11' := hb10'.trans (hb11.mono hb10'.size)
  clear q0 q1 q2 q3 ql hB3' hss10 hb11 hb10' hN3
  have hneq : (((N : Int) + 1) != C % 20 + 1) = false := by rw [HD.out]; simp
  go_wp2_with fail
  go_loopw [99] (fun iv wr => ∃ i : Nat, i ≤ N + 1 ∧ iv = .int .i64 i ∧ RdSS wr (pairsTo N (N + 1)) aP (N + 1) bP Fs ∧ Below w.heap.size w wr) (fun iv _ => N + 1 - (intOf iv).toNat)
  case atStart => exact ⟨0, by omega, rfl, hss11, hb11'⟩
  case round =>
    obtain ⟨i, hi, rfl, hssr, hbel⟩ := hrel
    by_cases hlt : i < N + 1
    · obtain ⟨rfl, _, hbP⟩ := hssr.2.2.1 (by omega)
      have hget : (pairsTo N (N + 1))[i]? = some [numeralT i, numeralT (N - i)] := by
        simp [pairsTo, hlt]
      obtain ⟨⟨ya, yl, yc⟩, z0, hr⟩ := hssr.2.2.2 i _ hget
      simp only [SV.cell] at z0
      have hyl : yl = 2 := hr.1
      obtain ⟨b, o, xk, xn, xs, xas, xa, xl, xc, G1, yk, yn, ys, yas, ya', yl', yc', G2, hxy, rfl, hF, hblt, ⟨x0, x1, x2, x3⟩, ⟨y0, y1, y2, y3⟩, hrx, hry⟩ := RdS_pair hr hyl
      subst hyl
      obtain ⟨hX, hY⟩ : numeralT i = .mk xk xn xs xas ∧ numeralT (N - i) = .mk yk yn ys yas := by simpa using hxy
      have hv1 : numV (.mk xk xn xs xas) = i := by rw [← hX]; exact numV_numeral (by omega)
      have hv2 : numV (.mk yk yn ys yas) = ((N - i : Nat) : Int) := by rw [← hY]; exact numV_numeral (by omega)
      have hL1 : (Tm.mk xk xn xs xas).Lens := by rw [← hX]; exact numeralT_lens _
      have hL2 : (Tm.mk yk yn ys yas).Lens := by rw [← hY]; exact numeralT_lens _
      have c1 := NumberOf_impl xk xn xs xas xa xl xc G1
      have c2 := NumberOf_impl yk yn ys yas ya' yl' yc' G2
      rw [hv1] at c1
      rw [hv2] at c2
      have C1 := Lib.hid c1; have C2 := Lib.hid c2
      have hne2 : (IntKind.i64.wrap ((i : Int) + ((N - i : Nat) : Int)) != C.tmod 20) = false := by
        rw [IntWalk.i64_in _ (by omega), Int.tmod_eq_emod_of_nonneg hC0, HD.out]; simp; omega
      have hnb0 : (0 : Int) ≤ ((N - i : Nat) : Int) := by omega
      have hnb1 : ((N - i : Nat) : Int) ≤ 40 := by omega
      generalize ((N - i : Nat) : Int) = m at *
      have hrxE := Lib.hid hrx; have hryE := Lib.hid hry
      clear hxy hX hY hv1 hv2 hget hF c1 c2 hr hneq
      have hdr : Below wr.heap.size wr wr.drew := (Below.refl _ _).drew
      have HDR := Lib.hid hdr; clear hdr
      go_wp2_with fail
      go_region_held3 (fun w' => w'.cell? ⟨b, o, none⟩ = some (.int .i64 xk) ∧ w'.cell? ⟨b, o + 1, none⟩ = some (.int .i64 xn) ∧ w'.cell? ⟨b, o + 2, none⟩ = some (.string xs) ∧ w'.cell? ⟨b, o + 3, none⟩ = some (.slice xa xl xc) ∧ w'.cell? ⟨b, o + 4, none⟩ = some (.int .i64 yk) ∧ w'.cell? ⟨b, o + 4 + 1, none⟩ = some (.int .i64 yn) ∧ w'.cell? ⟨b, o + 4 + 2, none⟩ = some (.string ys) ∧ w'.cell? ⟨b, o + 4 + 3, none⟩ = some (.slice ya' yl' yc'))
        (first | exact ⟨x0, x1, x2, x3, y0, y1, y2, y3⟩ | exact ⟨(hbW.cell (p := ⟨b, o, none⟩) hblt).trans x0, (hbW.cell (p := ⟨b, o + 1, none⟩) hblt).trans x1, (hbW.cell (p := ⟨b, o + 2, none⟩) hblt).trans x2, (hbW.cell (p := ⟨b, o + 3, none⟩) hblt).trans x3, (hbW.cell (p := ⟨b, o + 4, none⟩) hblt).trans y0, (hbW.cell (p := ⟨b, o + 4 + 1, none⟩) hblt).trans y1, (hbW.cell (p := ⟨b, o + 4 + 2, none⟩) hblt).trans y2, (hbW.cell (p := ⟨b, o + 4 + 3, none⟩) hblt).trans y3⟩ | exact ⟨(hbX.cell (p := ⟨b, o, none⟩) hblt).trans x0, (hbX.cell (p := ⟨b, o + 1, none⟩) hblt).trans x1, (hbX.cell (p := ⟨b, o + 2, none⟩) hblt).trans x2, (hbX.cell (p := ⟨b, o + 3, none⟩) hblt).trans x3, (hbX.cell (p := ⟨b, o + 4, none⟩) hblt).trans y0, (hbX.cell (p := ⟨b, o + 4 + 1, none⟩) hblt).trans y1, (hbX.cell (p := ⟨b, o + 4 + 2, none⟩) hblt).trans y2, (hbX.cell (p := ⟨b, o + 4 + 3, none⟩) hblt).trans y3⟩)
        (first | (go_at_call 31; (with_reducible refine (C1.out wr.drew (RdS_ext hrxE.out HDR.out) hL1).mono ?_); rintro e w2 ⟨rfl, hb2⟩; have hbW : Below wr.heap.size wr w2 := below_of_drew hb2) | (go_at_call 31; (with_reducible refine (C2.out w2 (RdS_ext hryE.out hbW) hL2).mono ?_); rintro e w3 ⟨rfl, hb3⟩; have hbX : Below wr.heap.size wr w3 := hbW.trans (hb3.mono hbW.size)))
      have hssX := RdSS_ext hssr hbX
      have hbelX := hbel.trans (hbX.mono hbel.size)
      clear x0 x1 x2 x3 y0 y1 y2 y3 z0 hb2 hbW hb3 hbX
      go_wp2
      go_roundw
      case rel => exact ⟨i + 1, by omega, by go_num, hssX, hbelX⟩
      case measure => simp [intOf]; omega
    · clear hneq
      go_wp2
      go_ret
      exact ⟨rfl, hbel⟩

set_option maxHeartbeats 400000 in
theorem walk (a : Option Addr) (l cap : Nat) (w : World) (hby : Bytes w a l) (hm : l ≤ 9223372036854775807) :
    Calls Try.prog 7 #[.slice a l cap] w fun e w' => e = .returned (.bool true) ∧ Below w.heap.size w w' := by
  by_cases hl : l ≤ 1048576
  · exact walk_small a l cap w hby hl
  · have hl' : 1048576 < (l : Int) := by omega
    clear hl hby
    go_enter Try.func7, Try.ntmps7
    go_wp2
    go_ret
    exact ⟨rfl, Below.refl _ _⟩

/-- a slice of bytes that came in -/
theorem bytes_of (w : World) (x : Addr) (len cap : Nat) (zs : List Int) (hl : len ≤ cap) (hz : zs.length = cap) (hcell : ∀ i, i < zs.length → w.cell? (x.add i) = some (.int .u8 (zs.getD i 0))) (hwz : ∀ n ∈ zs, (Lit.int .u8 n).wf = true) :
    Bytes w (some x) len := by
  obtain ⟨b, o, spot⟩ := x
  refine ⟨b, o, fun hp => ?_, fun j hj => ?_⟩
  · have hc := hcell 0 (by omega)
    have hspot : spot = none := by simpa [Addr.add] using World.cell?_spot hc
    subst hspot
    exact ⟨rfl, by simpa [Addr.add] using World.block_lt_of_cell? w _ hc⟩
  · have hc0 := hcell 0 (by omega)
    have hspot : spot = none := by simpa [Addr.add] using World.cell?_spot hc0
    subst hspot
    have hc := hcell j (by omega)
    have hadd : (⟨b, o, none⟩ : Addr).add j = ⟨b, o + j, none⟩ := by unfold Addr.add; split <;> simp_all
    rw [hadd] at hc
    have hm : zs.getD j 0 ∈ zs := by
      have : j < zs.length := by omega
      simp [List.getD, this]
    have hw := bounds_u8 (hwz _ hm)
    exact ⟨_, hw.1, hw.2, hc⟩

open Go.ChangeShapes Go.WideShapes Go.ChangeAt
theorem own : ownKnob Try.prog.godebug = none := by kernel_rfl
theorem laidOut : laidOutB Try.prog = true := by kernel_rfl

set_option maxRecDepth 100000 in
theorem lifted (os : Os) (started : os.Started) (H : Type) (enc : TypeId × Value → H) :
    ReturnsInHanded {} Try.checked os 7 .any (Rows.fnNumeralsSpec.pre6 enc Try.prog Try.f7 Rows.fnNumeralsRow.domain false) (Rows.fnNumeralsSpec.post enc Try.prog Try.f7 false true false false) := by
  refine returnsInHanded_of_change (C := Try.checked) own started (by kernel_rfl) Try.func7
    (ChangeSpec.witness6 (enc := enc) (C := Try.checked) false ⟨#[], #[.slice none 0 0], []⟩ 8 (by kernel_rfl) (by kernel_rfl) (by kernel_rfl) (by kernel_rfl)) ?_
  intro W base args ds gs before hval0 hW hcnd _
  have hval : ∀ (j : Nat) t v, Try.f7.params[j]? = some t → args[j]? = some v → Value.okWide Try.prog W .any base t v := hval0
  have hW' := hW
  obtain ⟨p, q, hA0, hV, rfl, hfz, hnd⟩ := hW
  have hA : DataW.TrodAll enc Try.prog W 0 (fun _ => true) true Try.f7.params.toList args.toList ds p := hA0
  rw [Try.params7] at hA hval
  obtain ⟨v0, vs0, d0, ds0, p0, q0, hargs, rfl, rfl, h0, r0⟩ := trodAll_cons hA
  obtain ⟨rfl, rfl, rfl⟩ := trodAll_nil r0
  obtain rfl : args = #[v0] := by cases args; simp_all
  obtain ⟨rfl, rfl⟩ := trodVars_none hV
  obtain ⟨a0, len0, cap0, rfl⟩ := okWide_slice Try.underlying36 (hval 0 36 v0 rfl rfl)
  have k0 := h0
  have lt0 : ∀ x ∈ p0, x.block < W.heap.size := by obtain ⟨m, hm⟩ := k0; exact DataW.trod_lt m _ _ _ hm
  obtain ⟨hby, hm0⟩ : Bytes W a0 len0 ∧ len0 ≤ 9223372036854775807 := by
    obtain ⟨fuel, hf⟩ := h0
    rcases open_ints Try.underlying36 Try.underlying5 (by kernel_rfl) hf with ⟨hcs, _⟩ | ⟨x, l, c, zs, hcs, _, hl, hm, hz, _, hcell, hwz⟩
    · simp [Value.cells] at hcs
      obtain ⟨rfl, rfl, rfl⟩ := hcs
      exact ⟨⟨0, 0, by simp, by simp⟩, by omega⟩
    · simp [Value.cells] at hcs
      obtain ⟨rfl, rfl, rfl⟩ := hcs
      exact ⟨bytes_of W x _ _ zs hl (by simpa using hz) hcell hwz, by unfold maxLen at hm; omega⟩
  clear hA0 hval0
  refine (walk a0 len0 cap0 W hby hm0).mono fun e W' ⟨he, bel⟩ => ?_
  subst he
  exact ⟨_, rfl, _, _, _, [], _, [], hW', trodAll_mk1 (shut_bool Try.underlying4 _), (trodAll_cons_mk (Below.trod laidOut (by kernel_rfl) (of_decide_eq_true (by kernel_rfl)) k0 bel lt0) trodAll_mk0), rfl, bel.frame _, fun h => by cases h⟩

theorem over : Rows.fnNumeralsRow.holds Try.pinned (OpenSpec.ofChange Rows.fnNumeralsSpec) :=
  OpenClaim.holds_of_wide 7 Try.f7 rfl rfl rfl rfl rfl rfl rfl ⟨rfl, rfl, rfl, rfl, rfl⟩ rfl rfl rfl rfl rfl (by kernel_rfl) Try.func7 (by kernel_rfl)
    (of_decide_eq_true (by kernel_rfl)) (by unfold Func.isWrapper; first | (rw [if_pos (by decide +kernel)]; kernel_rfl) | (rw [if_neg (by decide +kernel)]; exact ⟨rfl, rfl⟩))
    (fun os started H enc _ => lifted os started H enc)

theorem proved : Rows.FnNumeralsSaid := over
end fnNumerals
end Go.Proofs.Ytjkabbkaeioibaa
