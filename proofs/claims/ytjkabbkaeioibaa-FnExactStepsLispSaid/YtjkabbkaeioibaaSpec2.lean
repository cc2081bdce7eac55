/- Contracts of the reference's l40Keep and l40Form. -/
import Derived.Test.YtjkabbkaeioibaaSpec1
import Derived.Deep.QuietTactic
import Derived.BigQuiet
namespace Go.Proofs.Ytjkabbkaeioibaa
open Go.RowKit

def keepS (code : Nat) (t : Tm) (left : Nat) : Res := if code = 0 then keepV t left else (Tm.nil, code, left)
theorem SpOut_set {w V : World} {B Bz left code : Nat} {G : List Nat} {r : Res} {k n : Int} {s : ByteArray} {xs : List Tm} {a : Option Addr} {l c : Nat} {F : List Nat} (hr : r.1 = .mk k n s xs) (hl : r.2.2 = left) (hc : r.2.1 = code) (hrd : RdS V xs a l c F) (hG : ∀ x ∈ F, x ∈ G ∨ w.heap.size ≤ x) (hg : w.grownBy V (some B)) (hw : WalkAt V B left code)
    (hz : w.heap.size ≤ Bz) (hBz : B ≠ Bz) (hF : ∀ x ∈ F, x ≠ Bz) :
    SpOut w B G r (.returned (.agg #[.int .i64 k, .int .i64 n, .string s, .slice a l c])) ((((V.setCell ⟨Bz, 0, none⟩ (.int .i64 k)).setCell ⟨Bz, 1, none⟩ (.int .i64 n)).setCell ⟨Bz, 2, none⟩ (.string s)).setCell ⟨Bz, 3, none⟩ (.slice a l c)) := by
  have hb : Below w.heap.size V ((((V.setCell ⟨Bz, 0, none⟩ (.int .i64 k)).setCell ⟨Bz, 1, none⟩ (.int .i64 n)).setCell ⟨Bz, 2, none⟩ (.string s)).setCell ⟨Bz, 3, none⟩ (.slice a l c)) := below_set4 hz
  refine ⟨k, n, s, xs, a, l, c, F, hr, rfl, RdS_same (fun x hx => heap_set4_other (hF x hx)) hrd, hG, ⟨hb.os.trans hg.os, hb.tape.trans hg.tape, hb.output.trans hg.output, Nat.le_trans hg.size hb.size, fun x hx hr => (hb.block x hx).trans (hg.block x hx hr)⟩, ?_⟩
  rw [hl, hc]; exact (heap_set4_other hBz).trans hw

set_option maxHeartbeats 2000000 in
set_option maxRecDepth 100000 in
theorem l40Keep_any (B left code : Nat) (k n : Int) (s : ByteArray) (xs : List Tm) (a : Option Addr) (l c : Nat) (F : List Nat) (w : World) (hw : WalkAt w B left code) (h : RdS w xs a l c F) (hwf : (Tm.mk k n s xs).wf = true) (hcn : (Tm.mk k n s xs).cnt ≤ 10000000000) :
    Calls Try.prog 106 #[.pointer (some ⟨B, 0, none⟩), .agg #[.int .i64 k, .int .i64 n, .string s, .slice a l c]] w (SpOut w B F (keepS code (.mk k n s xs) left)) := by
  have FT := Lib.hid (l02Fits_any k n s xs a l c F)
  have HF := Lib.hid (RdS_lt h)
  have HT : Hid (∀ V : World, keepV (.mk k n s xs) left = ((Tm.mk k n s xs), 0, left) ∨ True) := fun _ => .inr trivial
  obtain ⟨t, ht⟩ : ∃ t : Tm, t = .mk k n s xs := ⟨_, rfl⟩
  rw [← ht] at FT hwf hcn ⊢
  obtain ⟨r, hr⟩ : ∃ r : Res, r = keepS code t left := ⟨_, rfl⟩
  rw [← hr]
  have HR := Lib.hid hr; have HTT := Lib.hid ht; have HWF := Lib.hid hwf; have HW := Lib.hid hw
  have hbN : Below w.heap.size w ((w.alloc (.cells #[.int .i64 k, .int .i64 n, .string s, .slice a l c] 26)).alloc (.cells #[.int .i64 0, .int .i64 0, .string ⟨#[]⟩, .slice none 0 0] 26)) := ((Below.refl _ _).alloc (Nat.le_refl _) _).alloc (by simp) _
  have hA1 : ((w.alloc (.cells #[.int .i64 k, .int .i64 n, .string s, .slice a l c] 26)).alloc (.cells #[.int .i64 0, .int .i64 0, .string ⟨#[]⟩, .slice none 0 0] 26)).heap[w.heap.size]? = some (.cells #[.int .i64 k, .int .i64 n, .string s, .slice a l c] 26 (0, 0)) := (heap_old (by simp)).trans (heap_new rfl)
  have hA2 : ((w.alloc (.cells #[.int .i64 k, .int .i64 n, .string s, .slice a l c] 26)).alloc (.cells #[.int .i64 0, .int .i64 0, .string ⟨#[]⟩, .slice none 0 0] 26)).heap[w.heap.size + 1]? = some (.cells #[.int .i64 0, .int .i64 0, .string ⟨#[]⟩, .slice none 0 0] 26 (0, 0)) := heap_new (by simp)
  have HBN := Lib.hid hbN; have HA1 := Lib.hid hA1; have HA2 := Lib.hid hA2
  obtain ⟨m0, m1, mf, hBl⟩ := walk_cells hw
  clear hr ht hwf hw hbN hA1 hA2 HT
  by_cases hc : code = 0
  · subst hc
    go_enter Try.func106, Try.ntmps106
    go_wp2_with fail
    refine (FT.out _ (RdS_ext h HBN.out) hcn).mono ?_
    rintro e V ⟨rfl, hb1⟩
    have hbel := HBN.out.trans (hb1.mono HBN.out.size)
    have HB1 := Lib.hid ((hb1.block _ (by simp; omega)).trans HA1.out)
    have HB2 := Lib.hid ((hb1.block _ (by simp)).trans HA2.out)
    have HWV : Hid (WalkAt V B left 0) := (hbel.block _ hBl).trans HW.out
    have hs2 := heap_lt HB2.out
    have hBV := heap_lt HWV.out
    clear m0 m1 mf hb1
    obtain ⟨p0, p1, p2, p3, _⟩ := box4 HB1.out
    obtain ⟨r0, r1, r2, r3, rf⟩ := box4 HB2.out
    by_cases hle : t.cnt ≤ 5000
    · have hd : decide (t.cnt ≤ 5000) = true := by simpa using hle
      rw [hd]
      have hfin : Hid (r = (t, 0, left)) := by
        show _ = _
        rw [HR.out, keepS, if_pos rfl, keepV, if_pos (by simp [Tm.ok, HWF.out, hle])]
      clear hle hd
      go_wp2
      refine bodyPost_ret (v := .agg #[.int .i64 k, .int .i64 n, .string s, .slice a l c]) (results_term rfl _ _ (w.heap.size + 1) rfl (heap_set4 HB2.out)) rfl ?_
      rw [hfin.out]
      exact SpOut_set (r := (t, 0, left)) HTT.out rfl rfl (RdS_ext h hbel) (fun x hx => .inl hx) (grown_below hbel _) HWV.out (by omega) (by omega) (fun x hx => by have := HF.out x hx; omega)
    · have hd : decide (t.cnt ≤ 5000) = false := by simpa using hle
      rw [hd]
      have hfin : Hid (r = (Tm.nil, 1, left)) := by
        show _ = _
        rw [HR.out, keepS, if_pos rfl, keepV, if_neg (by simp [Tm.ok, hle])]; rfl
      clear hle hd
      go_wp2_with fail
      refine (l40Stuck_any B left 0 V HWV.out).mono ?_
      rintro e V2 ⟨k9, n9, s9, xs9, a9, l9, c9, F9, hr9, rfl, hrd9, hF9, hg9, hw9⟩
      have hR2 := (hg9.block _ hs2 (by simp; omega)).trans HB2.out
      have HR2 := Lib.hid hR2
      clear p0 p1 p2 p3 r0 r1 r2 r3 rf
      obtain ⟨r0, r1, r2, r3, rf⟩ := box4 hR2
      have hr2l := heap_lt hR2
      have HR9 := Lib.hid hr9
      clear hR2 hr9
      go_wp2
      refine bodyPost_ret (v := .agg #[.int .i64 k9, .int .i64 n9, .string s9, .slice a9 l9 c9]) (results_term rfl _ _ (w.heap.size + 1) rfl (heap_set4 HR2.out)) rfl ?_
      rw [hfin.out]
      exact SpOut_set (r := (Tm.nil, 1, left)) HR9.out rfl rfl hrd9 (fun x hx => .inr (by rcases hF9 x hx with h' | h'; cases h'; have := hbel.size; omega)) (grown_trans (grown_below hbel _) hg9) hw9 (by omega) (by omega) (fun x hx => by rcases hF9 x hx with h' | h'; cases h'; omega)
  · have hd : ((code : Int) != 0) = true := by simp; omega
    have hfin : Hid (r = (Tm.nil, code, left)) := by show _ = _; rw [HR.out, keepS, if_neg hc]
    have hWN : Hid (WalkAt ((w.alloc (.cells #[.int .i64 k, .int .i64 n, .string s, .slice a l c] 26)).alloc (.cells #[.int .i64 0, .int .i64 0, .string ⟨#[]⟩, .slice none 0 0] 26)) B left code) := (HBN.out.block _ hBl).trans HW.out
    have HST := Lib.hid (l40Stuck_any B left code _ hWN.out)
    rw [if_neg hc] at HST
    clear hc
    generalize hci : (code : Int) = ci at *
    go_enter Try.func106, Try.ntmps106
    go_wp2_with fail
    refine HST.out.mono ?_
    rintro e V2 ⟨k9, n9, s9, xs9, a9, l9, c9, F9, hr9, rfl, hrd9, hF9, hg9, hw9⟩
    have hR2 := (hg9.block _ (by simp) (by simp; omega)).trans HA2.out
    have HR2 := Lib.hid hR2
    obtain ⟨r0, r1, r2, r3, rf⟩ := box4 hR2
    have hr2l := heap_lt hR2
    have HR9 := Lib.hid hr9
    clear hR2 hr9 m0 m1 mf
    go_wp2
    refine bodyPost_ret (v := .agg #[.int .i64 k9, .int .i64 n9, .string s9, .slice a9 l9 c9]) (results_term rfl _ _ (w.heap.size + 1) rfl (heap_set4 HR2.out)) rfl ?_
    rw [hfin.out]
    exact SpOut_set (r := (Tm.nil, code, left)) HR9.out rfl rfl hrd9 (fun x hx => .inr (by rcases hF9 x hx with h' | h'; cases h'; simp at h'; omega)) (grown_trans (grown_below HBN.out _) hg9) hw9 (by omega) (by omega) (fun x hx => by rcases hF9 x hx with h' | h'; cases h'; simp at h'; omega)
end Go.Proofs.Ytjkabbkaeioibaa
