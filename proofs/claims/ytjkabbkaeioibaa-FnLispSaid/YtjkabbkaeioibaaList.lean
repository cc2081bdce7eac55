/- Contracts of list and l02List. -/
import Derived.Test.YtjkabbkaeioibaaMake
import Derived.StillTailTactics
namespace Go.Proofs.Ytjkabbkaeioibaa
open Go.RowKit

/-- what a call that hands back one term leaves: the term lies in memory; its blocks are of G, or new -/
def OutT (w : World) (t : Tm) (G : List Nat) (e : Ending) (w' : World) : Prop :=
  ∃ k n s xs a l c F, t = .mk k n s xs ∧ e = .returned (.agg #[.int .i64 k, .int .i64 n, .string s, .slice a l c]) ∧ RdS w' xs a l c F ∧ Grows w w' G F ∧ Below w.heap.size w w'

theorem OutT_set {w w2 : World} {B : Nat} {t : Tm} {G : List Nat} {k n : Int} {s : ByteArray} {xs : List Tm} {a : Option Addr} {l c : Nat} {F : List Nat}
    (ht : t = .mk k n s xs) (hrd : RdS w2 xs a l c F) (hgr : Grows w w2 G F) (hbel : Below w.heap.size w w2) (hB : w.heap.size ≤ B) (hBF : ∀ x ∈ F, x ≠ B) :
    OutT w t G (.returned (.agg #[.int .i64 k, .int .i64 n, .string s, .slice a l c])) ((((w2.setCell ⟨B, 0, none⟩ (.int .i64 k)).setCell ⟨B, 1, none⟩ (.int .i64 n)).setCell ⟨B, 2, none⟩ (.string s)).setCell ⟨B, 3, none⟩ (.slice a l c)) :=
  ⟨k, n, s, xs, a, l, c, F, ht, rfl, RdS_same (fun x hx => heap_set4_other (hBF x hx)) hrd, hgr.set (fun x hx => heap_set4_other (hBF x hx)), hbel.trans (below_set4 hB)⟩
/-- a term and a bool -/
def OutTB (w : World) (t : Tm) (r : Bool) (G : List Nat) (e : Ending) (w' : World) : Prop :=
  ∃ k n s xs a l c F, t = .mk k n s xs ∧ e = .returned (.tuple #[.agg #[.int .i64 k, .int .i64 n, .string s, .slice a l c], .bool r]) ∧ RdS w' xs a l c F ∧ Grows w w' G F ∧ Below w.heap.size w w'
theorem OutTB_set {w w2 : World} {B : Nat} {t : Tm} {r : Bool} {G : List Nat} {k n : Int} {s : ByteArray} {xs : List Tm} {a : Option Addr} {l c : Nat} {F : List Nat}
    (ht : t = .mk k n s xs) (hrd : RdS w2 xs a l c F) (hgr : Grows w w2 G F) (hbel : Below w.heap.size w w2) (hB : w.heap.size ≤ B) (hBF : ∀ x ∈ F, x ≠ B) :
    OutTB w t r G (.returned (.tuple #[.agg #[.int .i64 k, .int .i64 n, .string s, .slice a l c], .bool r])) ((((w2.setCell ⟨B, 0, none⟩ (.int .i64 k)).setCell ⟨B, 1, none⟩ (.int .i64 n)).setCell ⟨B, 2, none⟩ (.string s)).setCell ⟨B, 3, none⟩ (.slice a l c)) :=
  ⟨k, n, s, xs, a, l, c, F, ht, rfl, RdS_same (fun x hx => heap_set4_other (hBF x hx)) hrd, hgr.set (fun x hx => heap_set4_other (hBF x hx)), hbel.trans (below_set4 hB)⟩

/-- the loop of 'list': the term that has been made of the elements from j on lies in the box B -/
def ListRel (w : World) (ts : List Tm) (tail : Tm) (Fs : List (List Nat)) (G : List Nat) (B l : Nat) (i : Value) (wr : World) : Prop :=
  ∃ j : Nat, j ≤ l ∧ i = .int .i64 ((j : Int) - 1) ∧ ∃ k n s xs a' l' c' F', Tm.list (ts.drop j) tail = .mk k n s xs ∧
    wr.heap[B]? = some (.cells #[.int .i64 k, .int .i64 n, .string s, .slice a' l' c'] 26 (0, 0)) ∧
    RdS wr xs a' l' c' F' ∧ Grows w wr ((Fs.drop j).flatten ++ G) F' ∧ Below w.heap.size w wr ∧ w.heap.size + 2 ≤ wr.heap.size ∧ ∀ x ∈ F', x < w.heap.size ∨ w.heap.size + 2 ≤ x

theorem ListRel_step {w wr w2 : World} {ts : List Tm} {tail : Tm} {Fs : List (List Nat)} {G : List Nat} {B l j : Nat} (hj : j < l) {k n tk tn : Int} {s ts' : ByteArray} {xs txs : List Tm} {a a' : Option Addr} {l1 c1 l' c' bn : Nat} {F' : List Nat}
    (hx : ts[j]? = some (.mk k n s xs)) (hFl : Fs.length = ts.length) (hrx : RdS w xs a l1 c1 (Fs.getD j []))
    (ht : Tm.list (ts.drop (j + 1)) tail = .mk tk tn ts' txs) (hrd : RdS wr txs a' l' c' F') (hgr : Grows w wr ((Fs.drop (j + 1)).flatten ++ G) F') (hbel : Below w.heap.size w wr)
    (hB0 : w.heap.size ≤ B) (hB1 : B < w.heap.size + 2) (hB : w.heap.size + 2 ≤ wr.heap.size) (hBF : ∀ x ∈ F', x < w.heap.size ∨ w.heap.size + 2 ≤ x) (hb2 : Below wr.heap.size wr w2) (hbn : wr.heap.size ≤ bn)
    (hbox : w2.heap[B]? = some (.cells #[.int .i64 tk, .int .i64 tn, .string ts', .slice a' l' c'] 26 (0, 0)))
    (hblk : w2.heap[bn]? = some (.cells #[.int .i64 k, .int .i64 n, .string s, .slice a l1 c1, .int .i64 tk, .int .i64 tn, .string ts', .slice a' l' c'] 26 (0, 0))) :
    ListRel w ts tail Fs G B l (.int .i64 ((j : Int) - 1)) ((((w2.setCell ⟨B, 0, none⟩ (.int .i64 4)).setCell ⟨B, 1, none⟩ (.int .i64 0)).setCell ⟨B, 2, none⟩ (.string ByteArray.empty)).setCell ⟨B, 3, none⟩ (.slice (some ⟨bn, 0, none⟩) 2 2)) := by
  have hdrop : ts.drop j = .mk k n s xs :: ts.drop (j + 1) := by
    obtain ⟨h1, h2⟩ := List.getElem?_eq_some_iff.1 hx
    rw [List.drop_eq_getElem_cons h1, h2]
  have hjF : j < Fs.length := by rw [hFl]; exact (List.getElem?_eq_some_iff.1 hx).1
  have hFd : Fs.drop j = Fs.getD j [] :: Fs.drop (j + 1) := by
    rw [List.drop_eq_getElem_cons hjF]; simp [hjF]
  refine ⟨j, by omega, rfl, 4, 0, ByteArray.empty, [.mk k n s xs, .mk tk tn ts' txs], some ⟨bn, 0, none⟩, 2, 2, bn :: (Fs.getD j [] ++ F'), ?_, heap_set4 hbox, ?_, ?_, ?_, ?_, ?_⟩
  · rw [hdrop]; simp only [Tm.list, List.foldr_cons] at ht ⊢; rw [ht]; rfl
  · have h1 : RdS w2 xs a l1 c1 (Fs.getD j []) := RdS_below (RdS_below hrx hbel (RdS_lt hrx)) hb2 (fun x hx => Nat.lt_of_lt_of_le (RdS_lt hrx x hx) hbel.size)
    have h2 : RdS w2 txs a' l' c' F' := RdS_ext hrd hb2
    refine RdS_same (fun x hx => heap_set4_other ?_) (RdS_two hblk (Nat.le_refl _) h1 h2)
    rcases List.mem_cons.1 hx with rfl | hx
    · omega
    · rcases List.mem_append.1 hx with hx | hx
      · have := RdS_lt hrx x hx; omega
      · have := hBF x hx; omega
  · rw [hFd, List.flatten_cons, List.append_assoc]
    have hlt1 : ∀ x ∈ Fs.getD j [], x < w.heap.size := RdS_lt hrx
    have hlt2 : ∀ x ∈ F', x < wr.heap.size := RdS_lt hrd
    have g1 : Grows w wr (Fs.getD j [] ++ ((Fs.drop (j + 1)).flatten ++ G)) (Fs.getD j [] ++ F') := Grows.front hgr hlt1
    have g2 := g1.cons (b := bn) (fun x hx => by rcases List.mem_append.1 hx with hx | hx; exact Nat.lt_of_lt_of_le (hlt1 x hx) hbel.size; exact hlt2 x hx) hb2 hbel.size hbn hblk
    exact g2.set (fun x hx => by
      rcases List.mem_cons.1 hx with rfl | hx
      · rw [heap_set4_other (by omega)]
      · rcases List.mem_append.1 hx with hx | hx
        · have := hlt1 x hx; rw [heap_set4_other (by omega)]
        · have hxB : x ≠ B := by have := hBF x hx; omega
          rw [heap_set4_other hxB])
  · exact (hbel.trans (hb2.mono hbel.size)).trans (below_set4 hB0)
  · have := hb2.size; simp [World.setCell]; omega
  · intro x hx
    rcases List.mem_cons.1 hx with rfl | hx
    · omega
    · rcases List.mem_append.1 hx with hx | hx
      · exact .inl (RdS_lt hrx x hx)
      · exact hBF x hx

set_option maxHeartbeats 400000 in
set_option maxRecDepth 100000 in
theorem list_some (ts : List Tm) (a : Option Addr) (b o l c : Nat) (Fs : List (List Nat)) (w : World) (ha : 0 < l → a = some ⟨b, o, none⟩) (hl : l = ts.length) (hmax : l ≤ 1000000000000) (hFs : Fs.length = ts.length)
    (hrd : ∀ i t, ts[i]? = some t → Rd w t b (o + 4 * i) (Fs.getD i [])) :
    Calls Try.prog 74 #[.slice a l c] w (OutT w (Tm.list ts Tm.nil) Fs.flatten) := by
  have HA := Lib.hid ha; clear ha
  have HL := Lib.hid hl; clear hl
  have HF := Lib.hid hFs; clear hFs
  have HR := Lib.hid hrd; clear hrd
  go_enter Try.func74, Try.ntmps74
  go_wp2
  go_loopw [4] (fun i wr => ListRel w ts Tm.nil Fs [] (w.heap.size + 1) l i wr ∧ wr.heap[w.heap.size]? = some (.cells #[.int .i64 0, .int .i64 0, .string ByteArray.empty, .slice none 0 0] 26 (0, 0))) (fun i _ => (intOf i + 1).toNat)
  case atStart =>
    refine ⟨⟨l, Nat.le_refl _, rfl, 0, 0, ByteArray.empty, [], none, 0, 0, [], ?_, heap_new (by simp), RdS_nil _ _ _, Grows.nil _ _ _, ((Below.refl _ _).alloc (Nat.le_refl _) _).alloc (by simp) _, by simp, by simp⟩, ?_⟩
    · rw [HL.out]; simp [Tm.list, Tm.nil]
    · rw [heap_old (by simp), heap_new rfl]; rfl
  case round =>
    obtain ⟨⟨j, hj, rfl, tk, tn, tname, txs, a', l', c', F', ht, hbox, hrd', hgr, hbel, hsz, hBF⟩, hres⟩ := hrel
    have HT := Lib.hid ht; clear ht
    have HB := Lib.hid hbox
    have HRS := Lib.hid hres; clear hres
    have q0 := cell_of_block hbox 0
    have q1 := cell_of_block hbox 1
    have q2 := cell_of_block hbox 2
    have q3 := cell_of_block hbox 3
    simp at q0 q1 q2 q3
    clear hbox
    cases j with
    | zero =>
      have hres := HRS.out
      have r0 := cell_of_block hres 0
      have r1 := cell_of_block hres 1
      have r2 := cell_of_block hres 2
      have r3 := cell_of_block hres 3
      have rf := frozen_of_block hres
      clear hres
      simp at r0 r1 r2 r3
      go_wp2
      refine bodyPost_ret (v := .agg #[.int .i64 tk, .int .i64 tn, .string tname, .slice a' l' c']) (results_term rfl _ _ w.heap.size rfl (heap_set4 HRS.out)) rfl ⟨tk, tn, tname, txs, a', l', c', F', by simpa using HT.out, rfl, ?_, ?_, hbel.trans (below_set4 (Nat.le_refl _))⟩
      · exact RdS_same (fun x hx => heap_set4_other (by have := hBF x hx; omega)) hrd'
      · exact Grows.set (by simpa using hgr) (fun x hx => heap_set4_other (by have := hBF x hx; omega))
    | succ j =>
      have hjl : j < l := by omega
      obtain rfl := HA.out (by omega)
      rw [show ((j + 1 : Nat) : Int) - 1 = (j : Int) by omega]
      obtain ⟨xk, xn, xs, xas, hx⟩ : ∃ xk xn xs xas, ts[j]? = some (.mk xk xn xs xas) := by
        have h1 : j < ts.length := by have := HL.out; omega
        cases hx : ts[j] with
        | mk xk xn xs xas => exact ⟨xk, xn, xs, xas, by simp [h1, hx]⟩
      have hr := HR.out j _ hx
      rw [Rd_mk] at hr
      obtain ⟨x0, x1, x2, xa, xl, xc, x3, hrx⟩ := hr
      have hlt := cell_lt x0
      rw [show o + 4 * j = o + j * 4 by omega] at x0 x1 x2 x3
      have HX := Lib.hid hx; clear hx
      rw [← hbel.cell (p := ⟨b, _, none⟩) hlt] at x0 x1 x2 x3
      go_wp2_with fail
      go_still_tail 5, (by kernel_rfl)
      go_wp2_with fail
      refine (pair_any _ _ _ _ _ _ _ _ _ _ _ _ _).mono ?_
      rintro e w2 ⟨bn, rfl, hbn, hblk, hb2⟩
      have hb2' : Below wr.heap.size wr w2 := below_of_drew hb2
      have hbn' : wr.heap.size ≤ bn := hbn
      have hbox2 : w2.heap[w.heap.size + 1]? = some (.cells #[.int .i64 tk, .int .i64 tn, .string tname, .slice a' l' c'] 26 (0, 0)) := by
        rw [hb2'.block _ (by omega)]; exact HB.out
      have HB2 := Lib.hid hbox2
      have HK := Lib.hid hblk
      have q0' := cell_of_block hbox2 0
      have q1' := cell_of_block hbox2 1
      have q2' := cell_of_block hbox2 2
      have q3' := cell_of_block hbox2 3
      have qf' := frozen_of_block hbox2
      clear hbox2 hblk q0 q1 q2 q3 x0 x1 x2 x3 hb2 hbn
      simp at q0' q1' q2' q3'
      go_wp2
      go_roundw
      case rel =>
        refine ⟨ListRel_step hjl HX.out HF.out hrx HT.out hrd' hgr hbel (by omega) (by omega) hsz hBF hb2' hbn' HB2.out HK.out, ?_⟩
        rw [heap_set4_other (by omega), hb2'.block _ (by omega)]; exact HRS.out
      case measure => simp [intOf]

set_option maxHeartbeats 400000 in
set_option maxRecDepth 100000 in
theorem l02List_some (ts : List Tm) (a : Option Addr) (b o l c : Nat) (Fs : List (List Nat)) (k0 n0 : Int) (s0 : ByteArray) (xs0 : List Tm) (a0 : Option Addr) (l0 c0 : Nat) (F0 : List Nat) (w : World) (ht0 : RdS w xs0 a0 l0 c0 F0) (ha : 0 < l → a = some ⟨b, o, none⟩) (hl : l = ts.length) (hmax : l ≤ 1000000000000) (hFs : Fs.length = ts.length)
    (hrd : ∀ i t, ts[i]? = some t → Rd w t b (o + 4 * i) (Fs.getD i [])) :
    Calls Try.prog 49 #[.slice a l c, .agg #[.int .i64 k0, .int .i64 n0, .string s0, .slice a0 l0 c0]] w (OutT w (Tm.list ts (.mk k0 n0 s0 xs0)) (Fs.flatten ++ F0)) := by
  have HA := Lib.hid ha; clear ha
  have HL := Lib.hid hl; clear hl
  have HF := Lib.hid hFs; clear hFs
  have HR := Lib.hid hrd; clear hrd
  go_enter Try.func49, Try.ntmps49
  go_wp2
  go_loopw [5] (fun i wr => ListRel w ts (.mk k0 n0 s0 xs0) Fs F0 w.heap.size l i wr ∧ wr.heap[w.heap.size + 1]? = some (.cells #[.int .i64 0, .int .i64 0, .string ByteArray.empty, .slice none 0 0] 26 (0, 0))) (fun i _ => (intOf i + 1).toNat)
  case atStart =>
    refine ⟨⟨l, Nat.le_refl _, rfl, k0, n0, s0, xs0, a0, l0, c0, F0, ?_, ?_, ?_, ?_, ((Below.refl _ _).alloc (Nat.le_refl _) _).alloc (by simp) _, by simp, ?_⟩, ?_⟩
    · rw [HL.out]; simp [Tm.list]
    · rw [heap_old (by simp), heap_new rfl]
    · exact RdS_below ht0 (((Below.refl _ _).alloc (Nat.le_refl _) _).alloc (by simp) _) (RdS_lt ht0)
    · have e1 : (List.drop l Fs).flatten = [] := by
        rw [List.drop_of_length_le (by rw [HF.out, HL.out]; exact Nat.le_refl _)]; rfl
      rw [e1]; exact Grows.refl _ _ _
    · intro x hx; exact .inl (RdS_lt ht0 x hx)
    · rw [heap_new (by simp)]; rfl
  case round =>
    obtain ⟨⟨j, hj, rfl, tk, tn, tname, txs, a', l', c', F', ht, hbox, hrd', hgr, hbel, hsz, hBF⟩, hres⟩ := hrel
    have HT := Lib.hid ht; clear ht
    have HB := Lib.hid hbox
    have HRS := Lib.hid hres; clear hres
    have q0 := cell_of_block hbox 0
    have q1 := cell_of_block hbox 1
    have q2 := cell_of_block hbox 2
    have q3 := cell_of_block hbox 3
    simp at q0 q1 q2 q3
    clear hbox
    cases j with
    | zero =>
      have hres := HRS.out
      have r0 := cell_of_block hres 0
      have r1 := cell_of_block hres 1
      have r2 := cell_of_block hres 2
      have r3 := cell_of_block hres 3
      have rf := frozen_of_block hres
      clear hres
      simp at r0 r1 r2 r3
      go_wp2
      refine bodyPost_ret (v := .agg #[.int .i64 tk, .int .i64 tn, .string tname, .slice a' l' c']) (results_term rfl _ _ (w.heap.size + 1) rfl (heap_set4 HRS.out)) rfl ⟨tk, tn, tname, txs, a', l', c', F', by simpa using HT.out, rfl, ?_, ?_, hbel.trans (below_set4 (by omega))⟩
      · exact RdS_same (fun x hx => heap_set4_other (by have := hBF x hx; omega)) hrd'
      · exact Grows.set (by simpa using hgr) (fun x hx => heap_set4_other (by have := hBF x hx; omega))
    | succ j =>
      have hjl : j < l := by omega
      obtain rfl := HA.out (by omega)
      rw [show ((j + 1 : Nat) : Int) - 1 = (j : Int) by omega]
      obtain ⟨xk, xn, xs, xas, hx⟩ : ∃ xk xn xs xas, ts[j]? = some (.mk xk xn xs xas) := by
        have h1 : j < ts.length := by have := HL.out; omega
        cases hx : ts[j] with
        | mk xk xn xs xas => exact ⟨xk, xn, xs, xas, by simp [h1, hx]⟩
      have hr := HR.out j _ hx
      rw [Rd_mk] at hr
      obtain ⟨x0, x1, x2, xa, xl, xc, x3, hrx⟩ := hr
      have hlt := cell_lt x0
      rw [show o + 4 * j = o + j * 4 by omega] at x0 x1 x2 x3
      have HX := Lib.hid hx; clear hx
      rw [← hbel.cell (p := ⟨b, _, none⟩) hlt] at x0 x1 x2 x3
      go_wp2_with fail
      go_still_tail 5, (by kernel_rfl)
      go_wp2_with fail
      refine (l02Pair_any _ _ _ _ _ _ _ _ _ _ _ _ _).mono ?_
      rintro e w2 ⟨bn, rfl, hbn, hblk, hb2⟩
      have hb2' : Below wr.heap.size wr w2 := below_of_drew hb2
      have hbn' : wr.heap.size ≤ bn := hbn
      have hbox2 : w2.heap[w.heap.size]? = some (.cells #[.int .i64 tk, .int .i64 tn, .string tname, .slice a' l' c'] 26 (0, 0)) := by
        rw [hb2'.block _ (by omega)]; exact HB.out
      have HB2 := Lib.hid hbox2
      have HK := Lib.hid hblk
      have q0' := cell_of_block hbox2 0
      have q1' := cell_of_block hbox2 1
      have q2' := cell_of_block hbox2 2
      have q3' := cell_of_block hbox2 3
      have qf' := frozen_of_block hbox2
      clear hbox2 hblk q0 q1 q2 q3 x0 x1 x2 x3 hb2 hbn
      simp at q0' q1' q2' q3'
      go_wp2
      go_roundw
      case rel =>
        refine ⟨ListRel_step hjl HX.out HF.out hrx HT.out hrd' hgr hbel (by omega) (by omega) hsz hBF hb2' hbn' HB2.out HK.out, ?_⟩
        rw [heap_set4_other (by omega), hb2'.block _ (by omega)]; exact HRS.out
      case measure => simp [intOf]

/-- the elements of a slice, each with its blocks -/
theorem RdS_each {w : World} {ts : List Tm} {a : Option Addr} {l c : Nat} {F : List Nat} (h : RdS w ts a l c F) :
    ∃ (b o : Nat) (Fs : List (List Nat)), (0 < l → a = some ⟨b, o, none⟩) ∧ l = ts.length ∧ Fs.length = ts.length ∧ (∀ i t, ts[i]? = some t → Rd w t b (o + 4 * i) (Fs.getD i [])) ∧ (ts = [] ∨ F = b :: Fs.flatten) := by
  obtain ⟨h1, h2, h3⟩ := h
  rcases h3 with ⟨rfl, rfl⟩ | ⟨hne, b, o, F', ha, rfl, h4⟩
  · exact ⟨0, 0, [], fun h => by simp at h1; omega, h1, rfl, by simp, .inl rfl⟩
  · obtain ⟨Fs, h5, rfl, h6⟩ := RdL_iff.1 h4
    exact ⟨b, o, Fs, fun _ => ha, h1, h5, h6, .inr rfl⟩
/-- the two elements of a slice of length 2 -/
theorem RdS_pair {w : World} {ts : List Tm} {a : Option Addr} {l c : Nat} {F : List Nat} (h : RdS w ts a l c F) (hl : l = 2) :
    ∃ b o xk xn xs xas xa xl xc F1 yk yn ys yas ya yl yc F2, ts = [.mk xk xn xs xas, .mk yk yn ys yas] ∧ a = some ⟨b, o, none⟩ ∧ F = b :: (F1 ++ F2) ∧ b < w.heap.size ∧
      (w.cell? ⟨b, o, none⟩ = some (.int .i64 xk) ∧ w.cell? ⟨b, o + 1, none⟩ = some (.int .i64 xn) ∧ w.cell? ⟨b, o + 2, none⟩ = some (.string xs) ∧ w.cell? ⟨b, o + 3, none⟩ = some (.slice xa xl xc)) ∧
      (w.cell? ⟨b, o + 4, none⟩ = some (.int .i64 yk) ∧ w.cell? ⟨b, o + 4 + 1, none⟩ = some (.int .i64 yn) ∧ w.cell? ⟨b, o + 4 + 2, none⟩ = some (.string ys) ∧ w.cell? ⟨b, o + 4 + 3, none⟩ = some (.slice ya yl yc)) ∧
      RdS w xas xa xl xc F1 ∧ RdS w yas ya yl yc F2 := by
  obtain ⟨h1, h2, h3⟩ := h
  match ts, h1 with
  | [], h1 => simp at h1; omega
  | [x], h1 => simp at h1; omega
  | [.mk xk xn xs xas, .mk yk yn ys yas], _ =>
    rcases h3 with ⟨h3, _⟩ | ⟨_, b, o, F', rfl, rfl, h4⟩
    · simp at h3
    · rw [RdL] at h4
      obtain ⟨F1, F2', rfl, h5, h6⟩ := h4
      rw [RdL] at h6
      obtain ⟨F2, F3, rfl, h7, h8⟩ := h6
      rw [RdL] at h8
      subst h8
      rw [Rd_mk] at h5 h7
      obtain ⟨x0, x1, x2, xa, xl, xc, x3, hrx⟩ := h5
      obtain ⟨y0, y1, y2, ya, yl, yc, y3, hry⟩ := h7
      exact ⟨b, o, xk, xn, xs, xas, xa, xl, xc, F1, yk, yn, ys, yas, ya, yl, yc, F2, rfl, rfl, by simp, cell_lt x0, ⟨x0, x1, x2, x3⟩, ⟨y0, y1, y2, y3⟩, hrx, hry⟩
  | x :: y :: z :: r, h1 => simp at h1; omega

theorem OwnTs_each {E : Nat} {w : World} {base : Nat} {v : Value} {ts : List Tm} {Fs : List (List Nat)} (h : OwnTs E w base v ts Fs) :
    ∃ a l c b, v = .slice a l c ∧ (0 < l → a = some ⟨b, 0, none⟩) ∧ l = ts.length ∧ Fs.length = ts.length ∧ (∀ i t, ts[i]? = some t → Rd w t b (0 + 4 * i) (Fs.getD i [])) ∧ RdS w ts a l c (if ts = [] then [] else b :: Fs.flatten) ∧ (0 < l → base ≤ b) := by
  obtain ⟨a, l, c, F, hv, hrd, hor, hl, _⟩ := OwnTs_rd h
  obtain ⟨es, h1, h2, _⟩ := h
  have hlen := RdVs_len h2
  rcases hor with rfl | ⟨g, cur, rfl, hg, rfl, hcur⟩
  · exact ⟨a, l, c, 0, hv, fun h => by simp at hl; omega, hl, hlen.2, by simp, by
      obtain ⟨_, h4, h5⟩ := hrd
      rcases h5 with ⟨_, rfl⟩ | ⟨hne, _⟩
      · simp only [if_true]; exact ⟨hl, h4, .inl ⟨rfl, rfl⟩⟩
      · exact absurd rfl hne, fun h => by simp at hl; omega⟩
  · refine ⟨_, l, c, g, hv, fun _ => rfl, hl, hlen.2, ?_, ?_, fun _ => hg⟩
    · obtain ⟨_, _, h5⟩ := hrd
      rcases h5 with ⟨rfl, _⟩ | ⟨hne, b', o', F', ha, hF, h6⟩
      · simp
      · obtain ⟨rfl, rfl⟩ : b' = g ∧ o' = 0 := by simp at ha; exact ⟨ha.1.symm, ha.2.symm⟩
        subst hv
        exact Rd_of_cells (b := b') 0 h2 (fun j u hj => by
          have := h1.cells (g := b') rfl j u hj
          have hadd : (⟨b', 0, none⟩ : Addr).add j = ⟨b', 0 + j, none⟩ := by unfold Addr.add; split <;> simp_all
          rw [hadd] at this; exact this)
    · by_cases hts : ts = []
      · subst hts
        obtain ⟨_, h4, h5⟩ := hrd
        rcases h5 with ⟨_, h6⟩ | ⟨hne, _⟩
        · simp at h6
        · exact absurd rfl hne
      · simp only [hts, if_false]; exact hrd
end Go.Proofs.Ytjkabbkaeioibaa
