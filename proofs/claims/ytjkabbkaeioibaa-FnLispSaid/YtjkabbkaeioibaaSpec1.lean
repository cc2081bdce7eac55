/- Contracts of small functions of the reference's evaluator: ContainsSymbol, l02Fits, l40Stuck, l40Keep. -/
import Derived.Test.YtjkabbkaeioibaaGround
namespace Go.Proofs.Ytjkabbkaeioibaa
open Go.RowKit

theorem hasSym_false {t : Tm} {b : ByteArray} (h : t.kind ≠ 4) : t.hasSym b = isSym t b := by
  cases t with
  | mk k n s xs => simp only [Tm.kind] at h; rw [Tm.hasSym, if_neg h]
theorem hasSymL_mem {ts : List Tm} {t : Tm} {b : ByteArray} (h : t ∈ ts) (hh : t.hasSym b = true) : hasSymL ts b = true := by
  induction ts with
  | nil => simp at h
  | cons y ys ih =>
    simp only [hasSymL]
    rcases List.mem_cons.1 h with rfl | hm
    · simp [hh]
    · simp [ih hm]
theorem hasSymL_take {ts : List Tm} {j : Nat} {t : Tm} {b : ByteArray} (h : ts[j]? = some t) : hasSymL (ts.take (j + 1)) b = (hasSymL (ts.take j) b || t.hasSym b) := by
  induction ts generalizing j with
  | nil => simp at h
  | cons x ts ih =>
    cases j with
    | zero => simp at h; subst h; simp [hasSymL]
    | succ j =>
      simp only [List.take_succ_cons, hasSymL]
      rw [ih (by simpa using h), Bool.or_assoc]

def ConT (t : Tm) : Prop := ∀ (k n : Int) (s : ByteArray) (xs : List Tm) (a : Option Addr) (l c : Nat) (F : List Nat) (b : ByteArray) (w : World), t = .mk k n s xs → RdS w xs a l c F → t.wf = true →
  Calls Try.prog 112 #[.agg #[.int .i64 k, .int .i64 n, .string s, .slice a l c], .string b] w fun e w' => e = .returned (.bool (t.hasSym b)) ∧ Below w.heap.size w w'
set_option maxHeartbeats 2000000 in
set_option maxRecDepth 100000 in
theorem contains_all (t : Tm) : ConT t := by
  induction t using Tm.ind with
  | h k0 n0 s0 ts ih =>
    intro k n s xs a l c F bs w ht h hw
    cases ht
    obtain ⟨b, o, Fs, ha, hl, _, hel, _⟩ := RdS_each h
    have hlen : ts.length ≤ 2 ∧ (k0 ≠ 4 → ts = []) ∧ (∀ x ∈ ts, x.wf = true) := by
      rcases wf_split hw with ⟨hk, rfl⟩ | ⟨rfl, rfl, hs0, x1, y1, rfl, hx1, hy1⟩
      · simp
      · exact ⟨by simp, fun h => absurd rfl h, by intro x hx; simp at hx; rcases hx with rfl | rfl <;> assumption⟩
    have hl2 : l ≤ 2 := by omega
    have HL := Lib.hid hl; have HEL := Lib.hid hel; have HALL := Lib.hid ih; have HA := Lib.hid ha; have HW := Lib.hid hlen.2.2; have HK := Lib.hid hlen.2.1
    clear hl hel ih ha h hlen hw
    go_enter Try.func112, Try.ntmps112
    go_wp2
    go_loopw [10] (fun i wr => ∃ j : Nat, j ≤ l ∧ i = .int .i64 j ∧ hasSymL (ts.take j) bs = false ∧ Below w.heap.size w wr ∧ wr.heap[w.heap.size]? = some (.cells #[.int .i64 k0, .int .i64 n0, .string s0, .slice a l c] 26 (0, 0))) (fun i _ => l - (intOf i).toNat)
    case atStart => exact ⟨0, Nat.zero_le _, rfl, by simp [hasSymL], (Below.refl _ _).alloc (Nat.le_refl _) _, heap_new rfl⟩
    case round =>
      obtain ⟨j, hj, rfl, hno, hbel, hbox⟩ := hrel
      have HNO := Lib.hid hno; have HBOX := Lib.hid hbox
      have hsz := heap_lt hbox
      clear hno hbox
      by_cases hlt : j < l
      · obtain rfl := HA.out (by omega)
        obtain ⟨xk, xn, xs, xas, hx⟩ : ∃ xk xn xs xas, ts[j]? = some (.mk xk xn xs xas) := by
          have h1 : j < ts.length := by have := HL.out; omega
          cases hx : ts[j] with
          | mk xk xn xs xas => exact ⟨xk, xn, xs, xas, by simp [h1, hx]⟩
        have r1 := HEL.out j _ hx
        rw [Rd_mk] at r1
        obtain ⟨x0, x1, x2, xa, xl, xc, x3, hrx⟩ := r1
        have hlt1 := cell_lt x0
        rw [← hbel.cell (p := ⟨b, _, none⟩) hlt1, show o + 4 * j = o + j * 4 by omega] at x0 x1 x2 x3
        have hst : Hid (hasSymL (ts.take (j + 1)) bs = (hasSymL (ts.take j) bs || (Tm.mk xk xn xs xas).hasSym bs)) := hasSymL_take hx
        have hin : Hid ((Tm.mk xk xn xs xas).hasSym bs = true → (Tm.mk k0 n0 s0 ts).hasSym bs = true) := by
          intro hh
          have hk4 : k0 = 4 := by
            by_cases hk : k0 = 4
            · exact hk
            · rw [HK.out hk] at hx; simp at hx
          rw [Tm.hasSym, if_pos hk4]
          have hmem := List.mem_of_getElem? hx
          exact hasSymL_mem hmem hh
        have HM := Lib.hid (List.mem_of_getElem? hx)
        have hbA : Below wr.heap.size wr (wr.alloc (.cells #[.int .i64 xk, .int .i64 xn, .string xs, .slice xa xl xc] 26)) := (Below.refl _ _).alloc (Nat.le_refl _) _
        have HBA := Lib.hid hbA
        clear hx hbA
        go_wp2_with fail
        refine (HALL.out _ HM.out xk xn xs xas xa xl xc _ bs _ (by trivial) (RdS_ext (RdS_ext hrx hbel) HBA.out) (HW.out _ HM.out)).mono ?_
        rintro e w2 ⟨rfl, hb2⟩
        have hb2' := (hbel.trans (HBA.out.mono hbel.size)).trans (hb2.mono (Nat.le_trans hbel.size HBA.out.size))
        have hbox2 := Lib.hid ((hb2.block _ (by simp; omega)).trans ((heap_old hsz).trans HBOX.out))
        clear x0 x1 x2 x3 hb2
        cases hh : (Tm.mk xk xn xs xas).hasSym bs with
        | true =>
          have hfin : Hid ((Tm.mk k0 n0 s0 ts).hasSym bs = true) := hin.out hh
          clear hh
          go_wp2
          go_ret
          exact ⟨by rw [hfin.out]; rfl, hb2'⟩
        | false =>
          have hnew : Hid (hasSymL (ts.take (j + 1)) bs = false) := by show _ = _; rw [hst.out, HNO.out, hh]; rfl
          clear hh
          go_wp2
          go_roundw
          case rel => exact ⟨j + 1, by omega, by go_num, hnew.out, hb2', hbox2.out⟩
          case measure => simp [intOf]; omega
      · obtain rfl : j = l := by omega
        have hL := HL.out
        have e1 : ts.take j = ts := by rw [hL]; simp
        obtain ⟨p0, p1, p2, p3, _⟩ := box4 HBOX.out
        by_cases hk2 : k0 = 2
        · subst hk2
          have hfin : Hid ((Tm.mk 2 n0 s0 ts).hasSym bs = (s0.toList == bs.toList)) := by
            show _ = _
            rw [hasSym_false (by simp [Tm.kind])]; simp [isSym, Tm.kind, Tm.name]
          clear e1 hL
          go_wp2
          go_ret
          exact ⟨by rw [hfin.out]; rfl, hbel⟩
        · have hkd : (k0 == 2) = false := by simpa using hk2
          have hfin : Hid ((Tm.mk k0 n0 s0 ts).hasSym bs = false) := by
            show _ = _
            by_cases hk4 : k0 = 4
            · rw [Tm.hasSym, if_pos hk4]; have := HNO.out; rw [e1] at this; exact this
            · rw [hasSym_false (by simpa [Tm.kind] using hk4)]; simp [isSym, Tm.kind, hk2]
          clear e1 hL hk2
          go_wp2
          go_ret
          exact ⟨by rw [hfin.out]; rfl, hbel⟩

set_option maxHeartbeats 1000000 in
set_option maxRecDepth 100000 in
theorem ContainsSymbol_spec (k n : Int) (s : ByteArray) (xs : List Tm) (a : Option Addr) (l c : Nat) (F : List Nat) (b : ByteArray) (w : World) (h : RdS w xs a l c F) (hok : (Tm.mk k n s xs).ok = true) :
    Calls Try.prog 105 #[.agg #[.int .i64 k, .int .i64 n, .string s, .slice a l c], .string b] w fun e w' => e = .returned (.bool ((Tm.mk k n s xs).hasSym b)) ∧ Below w.heap.size w w' := by
  have O1 := Lib.hid (TermOk_spec k n s xs a l c F)
  have HC := Lib.hid (contains_all (.mk k n s xs) k n s xs a l c F b)
  have hL := wf_lens (ok_wf hok).1
  have hcn : (Tm.mk k n s xs).cnt ≤ 10000000000 := by have := (ok_wf hok).2; omega
  have HW := Lib.hid (ok_wf hok).1
  generalize Tm.mk k n s xs = t at *
  have hbA : ∀ o, Below w.heap.size w (w.alloc o) := fun o => (Below.refl _ _).alloc (Nat.le_refl _) o
  have HBA := Lib.hid hbA; clear hbA
  have HOK := Lib.hid hok; clear hok
  go_enter Try.func105, Try.ntmps105
  go_wp2_with fail
  refine (O1.out _ (RdS_ext h (HBA.out _)) hL hcn).mono ?_
  rintro e w1 ⟨rfl, hb1⟩
  have hbel := (HBA.out (.cells #[.int .i64 k, .int .i64 n, .string s, .slice a l c] 26)).trans (hb1.mono (by simp))
  have hB : w1.heap[w.heap.size]? = some (.cells #[.int .i64 k, .int .i64 n, .string s, .slice a l c] 26 (0, 0)) := (hb1.block _ (by simp)).trans (heap_new rfl)
  obtain ⟨p0, p1, p2, p3, _⟩ := box4 hB
  rw [HOK.out]
  clear hB hb1
  go_wp2_with fail
  refine (HC.out _ (by trivial) (RdS_ext h hbel) HW.out).mono ?_
  rintro e w2 ⟨rfl, hb2⟩
  have hbel2 := hbel.trans (hb2.mono hbel.size)
  clear p0 p1 p2 p3
  go_wp2
  go_ret
  exact ⟨rfl, hbel2⟩

theorem l02Sym_any (s : ByteArray) (w : World) : Calls Try.prog 82 #[.string s] w (AtomPost w 2 0 s) := by
  go_enter Try.func82, Try.ntmps82
  go_wp2
  exact bodyPost_ret (v := .agg #[.int .i64 2, .int .i64 0, .string s, .slice none 0 0]) (by simp [results, Try.results82, go_sem]) rfl ⟨rfl, (Below.refl _ _).alloc (Nat.le_refl _) _⟩

set_option maxHeartbeats 1000000 in
set_option maxRecDepth 100000 in
theorem l02Fits_any (k n : Int) (s : ByteArray) (xs : List Tm) (a : Option Addr) (l c : Nat) (F : List Nat) (w : World) (h : RdS w xs a l c F) (hcn : (Tm.mk k n s xs).cnt ≤ 10000000000) :
    Calls Try.prog 69 #[.agg #[.int .i64 k, .int .i64 n, .string s, .slice a l c]] w fun e w' => e = .returned (.bool (decide ((Tm.mk k n s xs).cnt ≤ 5000))) ∧ Below w.heap.size w w' := by
  have C1 := Lib.hid (countT_all _ hcn k n s xs)
  generalize hT : Tm.mk k n s xs = t at *
  clear hT
  have hbA : ∀ o, Below w.heap.size w (w.alloc o) := fun o => (Below.refl _ _).alloc (Nat.le_refl _) o
  have HBA := Lib.hid hbA; clear hbA
  obtain ⟨bb, hbb⟩ : ∃ b : Bool, b = decide (t.cnt ≤ 5000) := ⟨_, rfl⟩
  rw [← hbb]
  have HBB := Lib.hid hbb; clear hbb
  go_enter Try.func69, Try.ntmps69
  go_wp2_with fail
  refine (C1.out a l c F 5000 _ trivial (RdS_ext h (HBA.out _)) (by omega) (by omega)).mono ?_
  rintro e w2 ⟨v, rfl, hcr, hb2⟩
  have hb2' := (HBA.out (.cells #[.int .i64 k, .int .i64 n, .string s, .slice a l c] 26)).trans (hb2.mono (by simp))
  obtain ⟨g1, g2, g3, g4⟩ := hcr
  by_cases hle : t.cnt ≤ 5000
  · have d1 : decide (v ≤ 5000) = true := by simp; omega
    have hfin : Hid (bb = true) := by show _ = _; rw [HBB.out]; simpa using hle
    clear g1 g2 g3 g4 hle
    go_wp2
    go_ret
    exact ⟨by rw [hfin.out]; rfl, hb2'⟩
  · have d1 : decide (v ≤ 5000) = false := by have := g2 (by omega); simp; omega
    have hfin : Hid (bb = false) := by show _ = _; rw [HBB.out]; simpa using hle
    clear g1 g2 g3 g4 hle
    go_wp2
    go_ret
    exact ⟨by rw [hfin.out]; rfl, hb2'⟩

/-- the reference's two numbers: the steps left, the code -/
def WalkAt (w : World) (B left code : Nat) : Prop := w.heap[B]? = some (.cells #[.int .i64 (left : Int), .int .i64 (code : Int)] 95 (0, 0))
/-- a term handed back; the walk's block is the only old one that is written -/
def SpOut (w : World) (B : Nat) (G : List Nat) (r : Res) (e : Ending) (w' : World) : Prop :=
  ∃ k n s xs a l c F, r.1 = .mk k n s xs ∧ e = .returned (.agg #[.int .i64 k, .int .i64 n, .string s, .slice a l c]) ∧ RdS w' xs a l c F ∧ (∀ x ∈ F, x ∈ G ∨ w.heap.size ≤ x) ∧ w.grownBy w' (some B) ∧ WalkAt w' B r.2.2 r.2.1

theorem walk_cells {w : World} {B left code : Nat} (h : WalkAt w B left code) : w.cell? ⟨B, 0, none⟩ = some (.int .i64 (left : Int)) ∧ w.cell? ⟨B, 1, none⟩ = some (.int .i64 (code : Int)) ∧ (∀ o, w.frozen? ⟨B, o, none⟩ = false) ∧ B < w.heap.size :=
  ⟨by simpa using cell_of_block h 0, by simpa using cell_of_block h 1, frozen_of_block h, heap_lt h⟩
set_option maxHeartbeats 1000000 in
theorem l40Stuck_any (B left code : Nat) (w : World) (h : WalkAt w B left code) : Calls Try.prog 103 #[.pointer (some ⟨B, 0, none⟩)] w (SpOut w B [] (Tm.nil, (if code = 0 then 1 else code), left)) := by
  obtain ⟨m0, m1, mf, hl⟩ := walk_cells h
  have H := Lib.hid h
  by_cases hc : code = 0
  · subst hc
    have hne : B ≠ w.heap.size := by omega
    clear h
    go_enter Try.func103, Try.ntmps103
    go_wp2
    refine bodyPost_ret (v := .agg #[.int .i64 0, .int .i64 0, .string ⟨#[]⟩, .slice none 0 0]) (results_term rfl _ _ w.heap.size rfl (heap_new (by simp [World.setCell]))) rfl ⟨0, 0, ByteArray.empty, [], none, 0, 0, [], rfl, rfl, RdS_nil _ _ _, by simp, ?_, ?_⟩
    · exact ⟨rfl, rfl, rfl, by simp [World.setCell], fun x hx hr => (heap_old (by simp [World.setCell]; exact hx)).trans (heap_set_other _ (by simpa using hr))⟩
    · show _ = _
      rw [heap_old (by simp [World.setCell]; exact hl)]
      have := heap_set (o := 1) (.int .i64 1) H.out
      simpa using this
  · have hd : ((code : Int) == 0) = false := by simp; omega
    have hcc : Hid ((if code = 0 then 1 else code) = code) := if_neg hc
    clear h hc
    rw [hcc.out]
    generalize hci : (code : Int) = ci at *
    have HCI := Lib.hid hci; clear hci
    go_enter Try.func103, Try.ntmps103
    go_wp2
    exact bodyPost_ret (v := .agg #[.int .i64 0, .int .i64 0, .string ⟨#[]⟩, .slice none 0 0]) (results_term rfl _ _ w.heap.size rfl (heap_new rfl)) rfl ⟨0, 0, ByteArray.empty, [], none, 0, 0, [], rfl, rfl, RdS_nil _ _ _, by simp, grown_below ((Below.refl _ _).alloc (Nat.le_refl _) _) _, (heap_old hl).trans H.out⟩
end Go.Proofs.Ytjkabbkaeioibaa
