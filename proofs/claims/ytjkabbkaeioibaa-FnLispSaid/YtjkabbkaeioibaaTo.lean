/- Contracts of toTerm: a term that came in, copied into the program's own type: new memory. -/
import Derived.Test.YtjkabbkaeioibaaFresh
import Derived.Test.YtjkabbkaeioibaaSz
import Derived.Test.YtjkabbkaeioibaaAppend
namespace Go.Proofs.Ytjkabbkaeioibaa
open Go.RowKit

def ToT (t : Tm) : Prop := ∀ (k n : Int) (s : ByteArray) (xs : List Tm) (a : Option Addr) (l c : Nat) (F : List Nat) (w : World), t = .mk k n s xs → RdS w xs a l c F →
  Calls Try.prog 34 #[.agg #[.int .i64 k, .int .i64 n, .string s, .slice a l c]] w (OutT w t [])

/-- a slice of terms handed back: new memory -/
def OutS (w : World) (ts : List Tm) (e : Ending) (w' : World) : Prop :=
  ∃ a l c F, e = .returned (.slice a l c) ∧ RdS w' ts a l c F ∧ Fresh w w' F ∧ Below w.heap.size w w'

theorem Rd_cells' {w w' : World} {t : Tm} {b o : Nat} {F : List Nat} (hc : ∀ m, m < 4 → w'.cell? ⟨b, o + m, none⟩ = w.cell? ⟨b, o + m, none⟩) (hF : ∀ x ∈ F, w'.heap[x]? = w.heap[x]?) (h : Rd w t b o F) : Rd w' t b o F := by
  cases t with
  | mk k n s xs =>
    rw [Rd_mk] at h ⊢
    obtain ⟨h1, h2, h3, a, l, c, h4, h5⟩ := h
    exact ⟨by have := hc 0 (by omega); rw [Nat.add_zero] at this; rw [this]; exact h1, by rw [hc 1 (by omega)]; exact h2, by rw [hc 2 (by omega)]; exact h3, a, l, c, by rw [hc 3 (by omega)]; exact h4, RdS_same hF h5⟩
theorem mem_getD_flatten' {Fs : List (List Nat)} {j x : Nat} (h : x ∈ Fs.getD j []) : x ∈ Fs.flatten := by
  rcases Nat.lt_or_ge j Fs.length with hj | hj
  · simp [hj] at h
    exact List.mem_flatten.2 ⟨_, List.getElem_mem hj, h⟩
  · simp [List.getElem?_eq_none hj] at h

def ToRel (w : World) (ts : List Tm) (l i : Nat) (wr : World) : Prop :=
  ∃ (cs : Array Value) (Fs : List (List Nat)), cs.size = l * 4 ∧ wr.heap[w.heap.size]? = some (.cells cs 26 (0, 0)) ∧ Fs.length = i ∧ (∀ j t, j < i → ts[j]? = some t → Rd wr t w.heap.size (4 * j) (Fs.getD j [])) ∧
    Fresh w wr Fs.flatten ∧ (∀ x ∈ Fs.flatten, w.heap.size < x) ∧ Below w.heap.size w wr

theorem ToRel_step {w wr w2 : World} {ts : List Tm} {l i : Nat} (hi : i < l) (h : ToRel w ts l i wr) {k n : Int} {s : ByteArray} {xs : List Tm} {a : Option Addr} {l1 c1 : Nat} {F : List Nat}
    (hx : ts[i]? = some (.mk k n s xs)) (hb : Below wr.heap.size wr w2) (hrd : RdS w2 xs a l1 c1 F) (hgr : Grows wr w2 [] F) :
    ToRel w ts l (i + 1) ((((w2.setCell ⟨w.heap.size, i * 4, none⟩ (.int .i64 k)).setCell ⟨w.heap.size, i * 4 + 1, none⟩ (.int .i64 n)).setCell ⟨w.heap.size, i * 4 + 2, none⟩ (.string s)).setCell ⟨w.heap.size, i * 4 + 3, none⟩ (.slice a l1 c1)) := by
  obtain ⟨cs, Fs, hcs, hg, hFs, hel, hfr, hlow, hbel⟩ := h
  have hg2 : w2.heap[w.heap.size]? = some (.cells cs 26 (0, 0)) := by rw [hb.block _ (heap_lt hg)]; exact hg
  obtain ⟨cs', h1, h2, c0, c1', c2, c3, hoth⟩ := set4_at (o := i * 4) (y0 := .int .i64 k) (y1 := .int .i64 n) (y2 := .string s) (y3 := .slice a l1 c1) hg2 (by omega)
  have hfrF := hgr.fresh
  have hlt : w.heap.size < wr.heap.size := heap_lt hg
  have hnew : ∀ x ∈ F, w.heap.size < x := fun x hx => by have := (hfrF.2 x hx).1; omega
  have hget : ∀ j, j < i → (Fs ++ [F]).getD j [] = Fs.getD j [] := by
    intro j hj
    simp [List.getD, List.getElem?_append_left (show j < Fs.length by omega)]
  have hgetI : (Fs ++ [F]).getD i [] = F := by
    simp [List.getD, hFs.symm]
  refine ⟨cs', Fs ++ [F], by omega, h1, by simp [hFs], fun j t hj ht => ?_, ?_, ?_, ?_⟩
  · by_cases hji : j = i
    · subst hji
      rw [hx] at ht
      cases ht
      rw [hgetI, Rd_mk]
      have hc := cell_of_block h1
      refine ⟨by rw [hc, show 4 * j = j * 4 by omega]; exact c0, by rw [hc, show 4 * j = j * 4 by omega]; exact c1', by rw [hc, show 4 * j = j * 4 by omega]; exact c2, a, l1, c1, by rw [hc, show 4 * j = j * 4 by omega]; exact c3, ?_⟩
      exact RdS_same (fun x hx => set4_other (by have := hnew x hx; omega)) hrd
    · have hj' : j < i := by omega
      have h3 := hel j t hj' ht
      rw [hget j hj']
      refine Rd_cells' (fun m hm => ?_) (fun x hx => ?_) h3
      · rw [cell_of_block h1, cell_of_block hg, hoth _ (by omega)]
      · have h4 := Rd_lt _ _ _ _ h3 x (List.mem_cons_of_mem _ hx)
        have h5 := hlow x (mem_getD_flatten' hx)
        rw [set4_other (by omega), hb.block x h4]
  · rw [List.flatten_append]
    simp only [List.flatten_cons, List.flatten_nil, List.append_nil]
    refine Fresh.add hfr (fun x hx => ?_) (fun x hx => ?_) hbel.size ?_
    · obtain ⟨cs0, T0, h4⟩ := (hfr.2 x hx).2
      have := hlow x hx
      rw [set4_other (by omega), hb.block x (heap_lt h4)]
    · obtain ⟨cs0, T0, h4⟩ := (hfr.2 x hx).2
      exact heap_lt h4
    · exact hfrF.later (fun x hx => set4_other (by have := hnew x hx; omega))
  · intro x hx
    rw [List.flatten_append] at hx
    simp only [List.flatten_cons, List.flatten_nil, List.append_nil, List.mem_append] at hx
    rcases hx with hx | hx
    · exact hlow x hx
    · exact hnew x hx
  · exact (hbel.trans (hb.mono hbel.size)).trans (set4_below (Nat.le_refl _))

set_option maxHeartbeats 1000000 in
set_option maxRecDepth 100000 in
theorem toTermS_of (ts : List Tm) (hall : ∀ t ∈ ts, ToT t) (a : Option Addr) (l c : Nat) (F : List Nat) (w : World) (h : RdS w ts a l c F) (hm : ts.length ≤ 1048576) :
    Calls Try.prog 60 #[.slice a l c] w (OutS w ts) := by
  obtain ⟨b, o, Fs0, ha, hl, _, hel, _⟩ := RdS_each h
  have hlm : l ≤ 1048576 := by omega
  obtain ⟨i0, hi, hz0, hz1, hz2⟩ := info_parts info_Term
  have hmk : ∀ W : World, (Instr.makeSlice 24 (.int .i64 (l : Int)) (.int .i64 (l : Int))).run Try.prog W = .ok (.slice (some ⟨W.heap.size, 0, none⟩) l l) (W.alloc (.cells (madeCells #[.int .i64 0, .int .i64 0, .string ⟨#[]⟩, .slice none 0 0] (l * 4)) 26)) := by
    intro W
    have := run_make (P := Try.prog) W 24 26 i0 _ Try.underlying24 hi hz0 .i64 .i64 (l : Int) (l : Int) (by omega) (by omega) (by rw [hz2]; omega) (by omega)
    rw [hz1] at this
    simpa [Value.cells] using this
  have hsz := size_madeCells #[.int .i64 0, .int .i64 0, .string ⟨#[]⟩, .slice none 0 0] (l * 4)
  generalize madeCells #[.int .i64 0, .int .i64 0, .string ⟨#[]⟩, .slice none 0 0] (l * 4) = M at *
  have HSZ := Lib.hid hsz
  have HL := Lib.hid hl; have HEL := Lib.hid hel; have HALL := Lib.hid hall; have HA := Lib.hid ha
  clear hl hel hall ha h hm hi hz0 hz1 hz2 i0 hsz
  go_enter Try.func60, Try.ntmps60
  go_wp2
  clear hmk
  go_loopw [4] (fun iv wr => ∃ i : Nat, i ≤ l ∧ iv = .int .i64 i ∧ ToRel w ts l i wr) (fun iv _ => l - (intOf iv).toNat)
  case atStart => exact ⟨0, Nat.zero_le _, rfl, M, [], HSZ.out, heap_new rfl, rfl, fun j t hj => by omega, ⟨by simp, by simp⟩, by simp, (Below.refl _ _).alloc (Nat.le_refl _) _⟩
  case round =>
    obtain ⟨i, hi, rfl, hrel⟩ := hrel
    have hbel : Below w.heap.size w wr := by obtain ⟨_, _, _, _, _, _, _, _, h⟩ := hrel; exact h
    by_cases hlt : i < l
    · obtain rfl := HA.out (by omega)
      obtain ⟨xk, xn, xs, xas, hx⟩ : ∃ xk xn xs xas, ts[i]? = some (.mk xk xn xs xas) := by
        have h1 : i < ts.length := by have := HL.out; omega
        cases hx : ts[i] with
        | mk xk xn xs xas => exact ⟨xk, xn, xs, xas, by simp [h1, hx]⟩
      have r1 := HEL.out i _ hx
      rw [Rd_mk] at r1
      obtain ⟨x0, x1, x2, xa, xl, xc, x3, hrx⟩ := r1
      have hlt1 := cell_lt x0
      rw [← hbel.cell (p := ⟨b, _, none⟩) hlt1, show o + 4 * i = o + i * 4 by omega] at x0 x1 x2 x3
      have HX := Lib.hid hx; clear hx
      have HREL := Lib.hid hrel
      obtain ⟨cs, Fs, hcs, hg, _⟩ := hrel
      have hgl := heap_lt hg
      have HG := Lib.hid hg; have HCS := Lib.hid hcs
      clear hg hcs
      go_wp2_with fail
      refine (HALL.out _ (List.mem_of_getElem? HX.out) xk xn xs xas xa xl xc _ _ rfl (RdS_ext hrx hbel)).mono ?_
      rintro e w2 ⟨k', n', s', xs', a', l', c', F', ht, rfl, hrd2, hgr2, hb2⟩
      cases ht
      have hg2 : w2.heap[w.heap.size]? = some (.cells cs 26 (0, 0)) := by rw [hb2.block _ hgl]; exact HG.out
      have hcl : i * 4 + 3 < cs.size := by have := HCS.out; omega
      have y0 : w2.cell? ⟨w.heap.size, i * 4, none⟩ = some (cs[i * 4]'(by omega)) := by rw [cell_of_block hg2, Array.getElem?_eq_getElem]
      have y1 : w2.cell? ⟨w.heap.size, i * 4 + 1, none⟩ = some (cs[i * 4 + 1]'(by omega)) := by rw [cell_of_block hg2, Array.getElem?_eq_getElem]
      have y2 : w2.cell? ⟨w.heap.size, i * 4 + 2, none⟩ = some (cs[i * 4 + 2]'(by omega)) := by rw [cell_of_block hg2, Array.getElem?_eq_getElem]
      have y3 : w2.cell? ⟨w.heap.size, i * 4 + 3, none⟩ = some (cs[i * 4 + 3]'(by omega)) := by rw [cell_of_block hg2, Array.getElem?_eq_getElem]
      have yf := frozen_of_block hg2
      generalize cs[i * 4]'(by omega) = z0 at y0
      generalize cs[i * 4 + 1]'(by omega) = z1 at y1
      generalize cs[i * 4 + 2]'(by omega) = z2 at y2
      generalize cs[i * 4 + 3]'(by omega) = z3 at y3
      have hst := ToRel_step hlt HREL.out HX.out hb2 hrd2 hgr2
      have HST := Lib.hid hst
      clear hg2 x0 x1 x2 x3 hst hcl
      go_wp2
      go_roundw
      case rel => exact ⟨i + 1, by omega, by go_num, HST.out⟩
      case measure => simp [intOf]; omega
    · obtain rfl : i = l := by omega
      go_wp2
      go_ret
      obtain ⟨cs, Fs, hcs, hg, hFs, hel, hfr, hlow, hbel⟩ := hrel
      have hL := HL.out
      by_cases hts : ts = []
      · subst hts
        simp at hL
        subst hL
        exact ⟨_, _, _, [], rfl, RdS_nil _ _ _, ⟨by simp, by simp⟩, hbel⟩
      · refine ⟨_, _, _, w.heap.size :: Fs.flatten, rfl, ⟨hL, Nat.le_refl _, .inr ⟨hts, w.heap.size, 0, _, rfl, rfl, RdL_iff.2 ⟨Fs, by omega, rfl, fun j t ht => ?_⟩⟩⟩, ⟨List.nodup_cons.2 ⟨fun hm => by have := hlow _ hm; omega, hfr.1⟩, fun x hx => ?_⟩, hbel⟩
        · have := hel j t (by have := (List.getElem?_eq_some_iff.1 ht).1; omega) ht
          rw [Nat.zero_add]; exact this
        · rcases List.mem_cons.1 hx with rfl | hx
          · exact ⟨Nat.le_refl _, _, _, hg⟩
          · exact hfr.2 x hx

set_option maxHeartbeats 1000000 in
set_option maxRecDepth 100000 in
theorem toTerm_of (k n : Int) (s : ByteArray) (xs : List Tm) (hall : ∀ t ∈ xs, ToT t) (hm : xs.length ≤ 1048576) : ToT (.mk k n s xs) := by
  intro k' n' s' xs' a l c F w ht h
  cases ht
  have HS := Lib.hid (toTermS_of xs hall)
  have hbA : ∀ o1 o2 o3, Below w.heap.size w (((w.alloc o1).alloc o2).alloc o3) := fun o1 o2 o3 => (((Below.refl _ _).alloc (Nat.le_refl _) _).alloc (by simp) _).alloc (by simp; omega) _
  have HBA := Lib.hid hbA; clear hbA hall
  go_enter Try.func34, Try.ntmps34
  go_wp2_with fail
  refine (HS.out a l c F _ (RdS_ext h (HBA.out _ _ _)) hm).mono ?_
  rintro e w2 ⟨a2, l2, c2, F2, rfl, hrd2, hfr2, hb2⟩
  have hb2' := (HBA.out _ _ _).trans (hb2.mono (by simp; omega))
  have hboxO : w2.heap[w.heap.size + 1 + 1]? = some (.cells #[.int .i64 k, .int .i64 n, .string s, .slice none 0 0] 26 (0, 0)) := by
    rw [hb2.block _ (by simp)]; exact heap_new (by simp)
  have hboxR : w2.heap[w.heap.size + 1]? = some (.cells #[.int .i64 0, .int .i64 0, .string ByteArray.empty, .slice none 0 0] 26 (0, 0)) := by
    rw [hb2.block _ (by simp), heap_old (by simp), heap_new (by simp)]; rfl
  obtain ⟨p0, p1, p2, p3, pf⟩ := box4 hboxO
  obtain ⟨q0, q1, q2, q3, qf⟩ := box4 hboxR
  have hsz := heap_lt hboxO
  have HO := Lib.hid hboxO; have HR := Lib.hid hboxR
  clear hboxO hboxR
  go_wp2
  have hnew : ∀ x ∈ F2, w.heap.size + 2 < x := fun x hx => by have := (hfr2.2 x hx).1; simp at this; omega
  have hrd3 : RdS (w2.setCell ⟨w.heap.size + 1 + 1, 3, none⟩ (.slice a2 l2 c2)) xs a2 l2 c2 F2 := RdS_same (fun x hx => heap_set_other _ (by have := hnew x hx; omega)) hrd2
  refine bodyPost_ret (v := .agg #[.int .i64 k, .int .i64 n, .string s, .slice a2 l2 c2]) (results_term rfl _ _ (w.heap.size + 1) rfl (heap_set4 ((heap_set_other _ (by omega)).trans HR.out))) rfl (OutT_set rfl hrd3 ?_ ?_ (by omega) (fun x hx => by have := hnew x hx; omega))
  · exact ⟨fun x hx => .inr ⟨by have := hnew x hx; omega, by obtain ⟨cs, T, h'⟩ := (hfr2.2 x hx).2; exact ⟨cs, T, (heap_set_other _ (by have := hnew x hx; omega)).trans h'⟩⟩, fun _ => hfr2.1⟩
  · exact hb2'.setCell (by show w.heap.size ≤ w.heap.size + 1 + 1; omega) _

theorem toT_all (t : Tm) : t.sz ≤ 1048576 → ToT t := by
  induction t using Tm.ind with
  | h k n s xs ih =>
    intro h
    simp only [Tm.sz] at h
    exact toTerm_of k n s xs (fun x hx => ih x hx (by have := szL_mem hx; omega)) (by omega)
end Go.Proofs.Ytjkabbkaeioibaa
