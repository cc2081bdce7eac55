/- Contracts of the reference's l02Count, l02Shape, TermOk. -/
import Derived.Test.YtjkabbkaeioibaaNodes
namespace Go.Proofs.Ytjkabbkaeioibaa
open Go.RowKit

def CountR (c : Nat) (most v : Int) : Prop := ((c : Int) ≤ most → v = c) ∧ (most < c → most < v) ∧ 1 ≤ v ∧ v ≤ c
def CountP (t : Tm) (most : Int) (w : World) (e : Ending) (w' : World) : Prop := ∃ v : Int, e = .returned (.int .i64 v) ∧ CountR t.cnt most v ∧ Below w.heap.size w w'
def CountT (t : Tm) : Prop := ∀ (k n : Int) (s : ByteArray) (xs : List Tm) (a : Option Addr) (l c : Nat) (F : List Nat) (most : Int) (w : World), t = .mk k n s xs → RdS w xs a l c F → most ≤ 1000000 → -100000000000 ≤ most →
  Calls Try.prog 77 #[.agg #[.int .i64 k, .int .i64 n, .string s, .slice a l c], .int .i64 most] w (CountP t most w)

set_option maxHeartbeats 1000000 in
set_option maxRecDepth 100000 in
theorem count_of (k n : Int) (s : ByteArray) (ts : List Tm) (hall : ∀ t ∈ ts, CountT t) (hcnt : (Tm.mk k n s ts).cnt ≤ 10000000000) : CountT (.mk k n s ts) := by
  intro k' n' s' xs' a l c F most w ht h hm1 hm0
  cases ht
  obtain ⟨b, o, Fs, ha, hl, _, hel, _⟩ := RdS_each h
  have hcge := cntL_ge ts
  have hct : (Tm.mk k n s ts).cnt = 1 + cntL ts := by simp only [Tm.cnt]
  have hlm : l ≤ 10000000000 := by omega
  have HL := Lib.hid hl; have HEL := Lib.hid hel; have HALL := Lib.hid hall; have HA := Lib.hid ha; have HCT := Lib.hid hct
  have hcL : cntL ts ≤ 10000000000 := by omega
  clear hl hel hall ha h hct hcnt hcge
  go_enter Try.func77, Try.ntmps77
  go_wp2
  go_loopw [5, 11] (fun nv i wr => ∃ (j : Nat) (v : Int), j ≤ l ∧ i = .int .i64 j ∧ nv = .int .i64 v ∧ CountR (1 + cntL (ts.take j)) most v ∧ Below w.heap.size w wr) (fun _ i _ => l - (intOf i).toNat)
  case atStart => exact ⟨0, 1, Nat.zero_le _, rfl, rfl, by simp [CountR, cntL], (Below.refl _ _).alloc (Nat.le_refl _) _⟩
  case round =>
    obtain ⟨j, v, hj, rfl, rfl, hcr, hbel⟩ := hrel
    have hts2 := cntL_take_le ts j
    by_cases hlt : j < l
    · obtain rfl := HA.out (by omega)
      obtain ⟨xk, xn, xs, xas, hx⟩ : ∃ xk xn xs xas, ts[j]? = some (.mk xk xn xs xas) := by
        have h1 : j < ts.length := by have := HL.out; omega
        cases hx : ts[j] with
        | mk xk xn xs xas => exact ⟨xk, xn, xs, xas, by simp [h1, hx]⟩
      have r1 := HEL.out j _ hx
      rw [Rd_mk] at r1
      obtain ⟨x0, x1, x2, xa, xl, xc, x3, hrx⟩ := r1
      have hlt1 := cell_lt x0
      rw [← hbel.cell (p := ⟨b, _, none⟩) hlt1, show o + 4 * j = o + j * 4 by omega] at x0 x1 x2 x3
      have hts1 := cntL_take_succ hx
      have hts3 := cntL_take_le ts (j + 1)
      have HX := Lib.hid hx; have HT1 := Lib.hid hts1; have HT3 := Lib.hid hts3; have HCR := Lib.hid hcr; have HT2 := Lib.hid hts2
      obtain ⟨_, _, hv1, hv2⟩ := hcr
      have hvb : v ≤ 100000000000 := by omega
      clear hx hts1 hts3 hts2 hv2
      by_cases hgt : most < v
      · have hfin : Hid (CountR (Tm.mk k n s ts).cnt most v) := by
          have h1 := HCR.out
          have h2 := HT2.out
          rw [HCT.out]
          exact ⟨fun hle => by have := h1.2.2.2; omega, fun _ => hgt, h1.2.2.1, by have := h1.2.2.2; omega⟩
        go_wp2
        go_ret
        exact ⟨v, rfl, hfin.out, hbel.alloc hbel.size _⟩
      · have hle : v ≤ most := by omega
        have hbA : ∀ o, Below wr.heap.size wr (wr.alloc o) := fun o => (Below.refl _ _).alloc (Nat.le_refl _) o
        have HBA := Lib.hid hbA; clear hbA
        go_wp2_with fail
        refine (HALL.out _ (List.mem_of_getElem? HX.out) xk xn xs xas xa xl xc _ (most - v) _ rfl (RdS_ext (RdS_ext hrx hbel) (HBA.out _)) (by omega) (by omega)).mono ?_
        rintro e w2 ⟨v2, rfl, hcr2, hb2⟩
        have hb2' := (hbel.alloc hbel.size (.cells #[.int .i64 xk, .int .i64 xn, .string xs, .slice xa xl xc] 26)).trans (hb2.mono (by have := hbel.size; simp; omega))
        have hnew : Hid (CountR (1 + cntL (ts.take (j + 1))) most (v + v2)) := by
          have h1 := HCR.out
          have h2 := HT1.out
          obtain ⟨g1, g2, g3, g4⟩ := h1
          obtain ⟨f1, f2, f3, f4⟩ := hcr2
          have hv : v = (1 + cntL (ts.take j) : Nat) := g1 (by omega)
          refine ⟨fun hh => ?_, fun hh => ?_, by omega, by omega⟩
          · have := f1 (by omega); omega
          · have := f2 (by omega); omega
        have h20 := hcr2.2.2.1
        have h21 := hcr2.2.2.2
        have h22 : ((Tm.mk xk xn xs xas).cnt : Int) ≤ 100000000000 := by have := HT1.out; have := HT3.out; omega
        have h23 : v2 ≤ 100000000000 := by omega
        clear hcr2 x0 x1 x2 x3 hb2 h21 h22
        go_wp2
        go_roundw
        case rel => exact ⟨j + 1, v + v2, by omega, by go_num, rfl, hnew.out, hb2'⟩
        case measure => simp [intOf]; omega
    · obtain rfl : j = l := by omega
      have hL := HL.out
      have e1 : ts.take j = ts := by rw [hL]; simp
      rw [e1] at hcr
      have hfin : Hid (CountR (Tm.mk k n s ts).cnt most v) := by rw [HCT.out]; exact hcr
      clear e1 hL hcr hts2
      go_wp2
      go_ret
      exact ⟨v, rfl, hfin.out, hbel⟩
theorem cnt_mem {t : Tm} {ts : List Tm} (h : t ∈ ts) : t.cnt ≤ cntL ts := by
  induction ts with
  | nil => simp at h
  | cons x ts ih =>
    simp only [cntL]
    rcases List.mem_cons.1 h with rfl | h
    · omega
    · have := ih h; omega
theorem countT_all (t : Tm) : t.cnt ≤ 10000000000 → CountT t := by
  induction t using Tm.ind with
  | h k n s xs ih =>
    intro h
    refine count_of k n s xs (fun x hx => ih x hx ?_) h
    have := cnt_mem hx
    simp only [Tm.cnt] at h; omega

theorem wf_args {k n : Int} {s : ByteArray} {xs : List Tm} (hk : k ≠ 4) (hx : xs ≠ []) : Hid ((Tm.mk k n s xs).wf = false) := by
  show _ = _
  match xs, hx with
  | [x], _ => rfl
  | [x, y], _ => simp [Tm.wf, hk]
  | _ :: _ :: _ :: _, _ => rfl
theorem wf_n {k n : Int} {s : ByteArray} {xs : List Tm} (h1 : k ≠ 1) (h3 : k ≠ 3) (hn : n ≠ 0) : Hid ((Tm.mk k n s xs).wf = false) := by
  show _ = _
  match xs with
  | [] => simp [Tm.wf, atomB, h1, h3, hn]
  | [x] => rfl
  | [x, y] => simp [Tm.wf, hn]
  | _ :: _ :: _ :: _ => rfl
theorem wf_s {k n : Int} {s : ByteArray} {xs : List Tm} (h2 : k ≠ 2) (hs : s.size ≠ 0) : Hid ((Tm.mk k n s xs).wf = false) := by
  show _ = _
  match xs with
  | [] => simp only [Tm.wf, atomB, h2, if_false]; simp [hs]
  | [x] => rfl
  | [x, y] => simp only [Tm.wf]; simp [hs]
  | _ :: _ :: _ :: _ => rfl

def ShapeP (t : Tm) (w : World) (e : Ending) (w' : World) : Prop := e = .returned (.bool t.wf) ∧ Below w.heap.size w w'

set_option maxHeartbeats 4000000 in
set_option maxRecDepth 100000 in
theorem shape_atom (k n : Int) (s : ByteArray) (xs : List Tm) (a : Option Addr) (l c : Nat) (w : World) (hk : k ≠ 4) (hL : l = xs.length) (hs : s.size ≤ 1000000000000) (hl : l ≤ 1000000000000) :
    Calls Try.prog 78 #[.agg #[.int .i64 k, .int .i64 n, .string s, .slice a l c]] w (ShapeP (.mk k n s xs) w) := by
  have hs' := size_or s
  by_cases hk0 : k = 0
  · subst hk0
    by_cases hn : n = 0
    · subst hn
      rcases hs' with hs' | hs'
      · obtain rfl := ba_empty hs'
        by_cases hx : xs = []
        · subst hx
          obtain rfl : l = 0 := hL
          have hat : Hid ((Tm.mk 0 0 ByteArray.empty []).wf = true) := by simp [Hid, Tm.wf, atomB]
          clear hs'
          go_enter Try.func78, Try.ntmps78
          go_wp2
          go_ret
          exact ⟨by rw [hat.out]; rfl, (Below.refl _ _).alloc (Nat.le_refl _) _⟩
        · have hat : Hid ((Tm.mk 0 0 ByteArray.empty xs).wf = false) := wf_args (by decide) hx
          have hl' : (0 : Int) < (l : Int) := by have : 0 < xs.length := List.length_pos_iff.2 hx; omega
          clear hs' hL hx
          go_enter Try.func78, Try.ntmps78
          go_wp2
          go_ret
          exact ⟨by rw [hat.out]; rfl, (Below.refl _ _).alloc (Nat.le_refl _) _⟩
      · have hat : Hid ((Tm.mk 0 0 s xs).wf = false) := wf_s (by decide) (ne_size hs')
        clear hL
        go_enter Try.func78, Try.ntmps78
        go_wp2
        go_ret
        exact ⟨by rw [hat.out]; rfl, (Below.refl _ _).alloc (Nat.le_refl _) _⟩
    · have hat : Hid ((Tm.mk 0 n s xs).wf = false) := wf_n (by decide) (by decide) hn
      have hn' : (n != 0) = true := by simpa using hn
      clear hn hs' hL
      go_enter Try.func78, Try.ntmps78
      go_wp2
      go_ret
      exact ⟨by rw [hat.out]; rfl, (Below.refl _ _).alloc (Nat.le_refl _) _⟩
  · skip
    by_cases hk1 : k = 1
    · subst hk1
      rcases hs' with hs' | hs'
      · obtain rfl := ba_empty hs'
        by_cases hx : xs = []
        · subst hx
          obtain rfl : l = 0 := hL
          by_cases hr : 0 ≤ n ∧ n ≤ 100000
          · have hat : Hid ((Tm.mk 1 n ByteArray.empty []).wf = true) := by simp [Hid, Tm.wf, atomB, hr]
            obtain ⟨hr1, hr2⟩ := hr
            clear hs'
            go_enter Try.func78, Try.ntmps78
            go_wp2_with (go_at_call 47; refine (l01In_true _ _ _ _ hr1 hr2).mono ?_; rintro e w' ⟨rfl, rfl⟩)
            go_ret
            exact ⟨by rw [hat.out]; rfl, (Below.refl _ _).alloc (Nat.le_refl _) _⟩
          · have hat : Hid ((Tm.mk 1 n ByteArray.empty []).wf = false) := by simp [Hid, Tm.wf, atomB]; omega
            have hor : n < 0 ∨ 100000 < n := by omega
            have HOR := Lib.hid hor
            clear hs' hr hor
            go_enter Try.func78, Try.ntmps78
            go_wp2_with (go_at_call 47; refine (l01In_false _ _ _ _ HOR.out).mono ?_; rintro e w' ⟨rfl, rfl⟩)
            go_ret
            exact ⟨by rw [hat.out]; rfl, (Below.refl _ _).alloc (Nat.le_refl _) _⟩
        · have hat : Hid ((Tm.mk 1 n ByteArray.empty xs).wf = false) := wf_args (by decide) hx
          have hl' : (0 : Int) < (l : Int) := by have : 0 < xs.length := List.length_pos_iff.2 hx; omega
          clear hs' hL hx
          go_enter Try.func78, Try.ntmps78
          go_wp2
          go_ret
          exact ⟨by rw [hat.out]; rfl, (Below.refl _ _).alloc (Nat.le_refl _) _⟩
      · have hat : Hid ((Tm.mk 1 n s xs).wf = false) := wf_s (by decide) (ne_size hs')
        clear hL
        go_enter Try.func78, Try.ntmps78
        go_wp2
        go_ret
        exact ⟨by rw [hat.out]; rfl, (Below.refl _ _).alloc (Nat.le_refl _) _⟩
    · skip
      by_cases hk2 : k = 2
      · subst hk2
        by_cases hn : n = 0
        · subst hn
          by_cases hx : xs = []
          · subst hx
            obtain rfl : l = 0 := hL
            have hat : Hid ((Tm.mk 2 0 s []).wf = nameB s) := by simp [Hid, Tm.wf, atomB]
            clear hs'
            go_enter Try.func78, Try.ntmps78
            go_wp2_with (go_at_call 91; refine (isName_spec _ _ hs).mono ?_; rintro e w' ⟨rfl, rfl⟩)
            go_ret
            exact ⟨by rw [hat.out]; rfl, (Below.refl _ _).alloc (Nat.le_refl _) _⟩
          · have hat : Hid ((Tm.mk 2 0 s xs).wf = false) := wf_args (by decide) hx
            have hl' : (0 : Int) < (l : Int) := by have : 0 < xs.length := List.length_pos_iff.2 hx; omega
            clear hs' hL hx
            go_enter Try.func78, Try.ntmps78
            go_wp2
            go_ret
            exact ⟨by rw [hat.out]; rfl, (Below.refl _ _).alloc (Nat.le_refl _) _⟩
        · have hat : Hid ((Tm.mk 2 n s xs).wf = false) := wf_n (by decide) (by decide) hn
          have hn' : (n != 0) = true := by simpa using hn
          clear hn hs' hL
          go_enter Try.func78, Try.ntmps78
          go_wp2
          go_ret
          exact ⟨by rw [hat.out]; rfl, (Below.refl _ _).alloc (Nat.le_refl _) _⟩
      · skip
        by_cases hk3 : k = 3
        · subst hk3
          rcases hs' with hs' | hs'
          · obtain rfl := ba_empty hs'
            by_cases hx : xs = []
            · subst hx
              obtain rfl : l = 0 := hL
              by_cases hr : -1000000000 ≤ n ∧ n ≤ 1000000000
              · have hat : Hid ((Tm.mk 3 n ByteArray.empty []).wf = true) := by simp [Hid, Tm.wf, atomB, hr]
                obtain ⟨hr1, hr2⟩ := hr
                clear hs'
                go_enter Try.func78, Try.ntmps78
                go_wp2_with (go_at_call 47; refine (l01In_true _ _ _ _ hr1 hr2).mono ?_; rintro e w' ⟨rfl, rfl⟩)
                go_ret
                exact ⟨by rw [hat.out]; rfl, (Below.refl _ _).alloc (Nat.le_refl _) _⟩
              · have hat : Hid ((Tm.mk 3 n ByteArray.empty []).wf = false) := by simp [Hid, Tm.wf, atomB]; omega
                have hor : n < -1000000000 ∨ 1000000000 < n := by omega
                have HOR := Lib.hid hor
                clear hs' hr hor
                go_enter Try.func78, Try.ntmps78
                go_wp2_with (go_at_call 47; refine (l01In_false _ _ _ _ HOR.out).mono ?_; rintro e w' ⟨rfl, rfl⟩)
                go_ret
                exact ⟨by rw [hat.out]; rfl, (Below.refl _ _).alloc (Nat.le_refl _) _⟩
            · have hat : Hid ((Tm.mk 3 n ByteArray.empty xs).wf = false) := wf_args (by decide) hx
              have hl' : (0 : Int) < (l : Int) := by have : 0 < xs.length := List.length_pos_iff.2 hx; omega
              clear hs' hL hx
              go_enter Try.func78, Try.ntmps78
              go_wp2
              go_ret
              exact ⟨by rw [hat.out]; rfl, (Below.refl _ _).alloc (Nat.le_refl _) _⟩
          · have hat : Hid ((Tm.mk 3 n s xs).wf = false) := wf_s (by decide) (ne_size hs')
            clear hL
            go_enter Try.func78, Try.ntmps78
            go_wp2
            go_ret
            exact ⟨by rw [hat.out]; rfl, (Below.refl _ _).alloc (Nat.le_refl _) _⟩
        · skip
          have e0 : (k == 0) = false := by simpa using hk0
          have e1 : (k == 1) = false := by simpa using hk1
          have e2 : (k == 2) = false := by simpa using hk2
          have e3 : (k == 3) = false := by simpa using hk3
          have e4 : (k == 4) = false := by simpa using hk
          have f1 : (k != 1) = true := by simpa using hk1
          have f2 : (k != 2) = true := by simpa using hk2
          have f3 : (k != 3) = true := by simpa using hk3
          have f4 : (k != 4) = true := by simpa using hk
          have hat : Hid ((Tm.mk k n s xs).wf = false) := by
            by_cases hx : xs = []
            · subst hx; simp [Hid, Tm.wf, atomB, hk0, hk1, hk2, hk3]
            · exact wf_args hk hx
          clear hk hk0 hk1 hk2 hk3
          by_cases hn : n = 0
          · subst hn
            rcases hs' with hs' | hs'
            · obtain rfl := ba_empty hs'
              by_cases hx : xs = []
              · subst hx
                obtain rfl : l = 0 := hL
                clear hs'
                go_enter Try.func78, Try.ntmps78
                go_wp2
                go_ret
                exact ⟨by rw [hat.out]; rfl, (Below.refl _ _).alloc (Nat.le_refl _) _⟩
              · have hl' : (0 : Int) < (l : Int) := by have : 0 < xs.length := List.length_pos_iff.2 hx; omega
                clear hs' hL hx
                go_enter Try.func78, Try.ntmps78
                go_wp2
                go_ret
                exact ⟨by rw [hat.out]; rfl, (Below.refl _ _).alloc (Nat.le_refl _) _⟩
            · clear hL
              go_enter Try.func78, Try.ntmps78
              go_wp2
              go_ret
              exact ⟨by rw [hat.out]; rfl, (Below.refl _ _).alloc (Nat.le_refl _) _⟩
          · have hn' : (n != 0) = true := by simpa using hn
            clear hn hs' hL
            go_enter Try.func78, Try.ntmps78
            go_wp2
            go_ret
            exact ⟨by rw [hat.out]; rfl, (Below.refl _ _).alloc (Nat.le_refl _) _⟩

def ShapeT (t : Tm) : Prop := ∀ (k n : Int) (s : ByteArray) (xs : List Tm) (a : Option Addr) (l c : Nat) (F : List Nat) (w : World), t = .mk k n s xs → RdS w xs a l c F →
  Calls Try.prog 78 #[.agg #[.int .i64 k, .int .i64 n, .string s, .slice a l c]] w (ShapeP t w)

set_option maxHeartbeats 2000000 in
set_option maxRecDepth 100000 in
theorem shape_pair (n : Int) (s : ByteArray) (xs : List Tm) (ih : ∀ x ∈ xs, ShapeT x) (a : Option Addr) (l c : Nat) (F : List Nat) (w : World) (h : RdS w xs a l c F) (hl : l ≤ 1000000000000) :
    Calls Try.prog 78 #[.agg #[.int .i64 4, .int .i64 n, .string s, .slice a l c]] w (ShapeP (.mk 4 n s xs) w) := by
  by_cases hn : n = 0
  · subst hn
    rcases size_or s with hs' | hs'
    · obtain rfl := ba_empty hs'
      by_cases hl2 : l = 2
      · obtain ⟨b, o, xk, xn, xs, xas, xa, xl, xc, F1, yk, yn, ys, yas, ya, yl, yc, F2, rfl, rfl, rfl, hblt, ⟨x0, x1, x2, x3⟩, ⟨y0, y1, y2, y3⟩, hrx, hry⟩ := RdS_pair h hl2
        have IH1 := Lib.hid (ih (.mk xk xn xs xas) (by simp) xk xn xs xas)
        have IH2 := Lib.hid (ih (.mk yk yn ys yas) (by simp) yk yn ys yas)
        subst hl2
        clear hs' ih h
        have hwf : (Tm.mk 4 0 ByteArray.empty [.mk xk xn xs xas, .mk yk yn ys yas]).wf = ((Tm.mk xk xn xs xas).wf && (Tm.mk yk yn ys yas).wf) := wf_pair rfl rfl rfl
        generalize hX : Tm.mk xk xn xs xas = x at *
        generalize hY : Tm.mk yk yn ys yas = y at *
        generalize hT : Tm.mk 4 0 ByteArray.empty [x, y] = t at *
        have HW := Lib.hid hwf
        clear hX hY hwf hT
        have hbA : ∀ o, Below w.heap.size w (w.alloc o) := fun o => (Below.refl _ _).alloc (Nat.le_refl _) o
        have HBA := Lib.hid hbA; clear hbA
        go_enter Try.func78, Try.ntmps78
        go_wp2_with fail
        refine (IH1.out xa xl xc _ _ trivial (RdS_ext hrx (HBA.out _))).mono ?_
        rintro e w2 ⟨rfl, hb2⟩
        have hb2' := (HBA.out (.cells #[.int .i64 4, .int .i64 0, .string ByteArray.empty, .slice (some ⟨b, o, none⟩) 2 c] 26)).trans (hb2.mono (by simp))
        have hbox : w2.heap[w.heap.size]? = some (.cells #[.int .i64 4, .int .i64 0, .string ByteArray.empty, .slice (some ⟨b, o, none⟩) 2 c] 26 (0, 0)) := by
          rw [hb2.block _ (by simp)]; exact heap_new rfl
        obtain ⟨q0, q1, q2, q3, _⟩ := box4 hbox
        rw [← hb2'.cell (p := ⟨b, _, none⟩) hblt] at y0 y1 y2 y3
        have hry2 := RdS_ext hry hb2'
        clear hbox x0 x1 x2 x3 hb2 hry hrx
        cases hxw : x.wf with
        | false =>
          have hat : Hid (t.wf = false) := by show _ = _; rw [HW.out, hxw]; rfl
          clear hxw
          go_wp2
          go_ret
          exact ⟨by rw [hat.out]; rfl, hb2'⟩
        | true =>
          have hat : Hid (t.wf = y.wf) := by show _ = _; rw [HW.out, hxw]; rfl
          clear hxw
          go_wp2_with fail
          refine (IH2.out ya yl yc _ _ trivial hry2).mono ?_
          rintro e w3 ⟨rfl, hb3⟩
          have hb3' := hb2'.trans (hb3.mono hb2'.size)
          clear q0 q1 q2 q3 y0 y1 y2 y3 hb3
          go_wp2
          go_ret
          exact ⟨by rw [hat.out]; rfl, hb3'⟩
      · have hat : Hid ((Tm.mk 4 0 ByteArray.empty xs).wf = false) := by
          show _ = _
          cases hw : (Tm.mk 4 0 ByteArray.empty xs).wf with
          | false => rfl
          | true => obtain ⟨_, _, x, y, rfl, _⟩ := wf_four hw; have := h.1; simp at this; omega
        have hl' : ((l : Int) == 2) = false := by simp; omega
        clear hs' hl2 ih h
        go_enter Try.func78, Try.ntmps78
        go_wp2
        go_ret
        exact ⟨by rw [hat.out]; rfl, (Below.refl _ _).alloc (Nat.le_refl _) _⟩
    · have hat : Hid ((Tm.mk 4 0 s xs).wf = false) := wf_s (by decide) (ne_size hs')
      clear ih h
      go_enter Try.func78, Try.ntmps78
      go_wp2
      go_ret
      exact ⟨by rw [hat.out]; rfl, (Below.refl _ _).alloc (Nat.le_refl _) _⟩
  · have hat : Hid ((Tm.mk 4 n s xs).wf = false) := wf_n (by decide) (by decide) hn
    have hn' : (n != 0) = true := by simpa using hn
    clear ih h hn
    go_enter Try.func78, Try.ntmps78
    go_wp2
    go_ret
    exact ⟨by rw [hat.out]; rfl, (Below.refl _ _).alloc (Nat.le_refl _) _⟩

theorem shape_all {t : Tm} (h : t.Lens) : ShapeT t := by
  induction h with
  | mk k n s xs hs hx _ ih =>
    intro k' n' s' xs' a l c F w ht hrd
    cases ht
    by_cases hk : k = 4
    · subst hk; exact shape_pair n s xs ih a l c F w hrd (by rw [hrd.1]; exact hx)
    · exact shape_atom k n s xs a l c w hk hrd.1 hs (by rw [hrd.1]; exact hx)

set_option maxHeartbeats 1000000 in
set_option maxRecDepth 100000 in
theorem TermOk_spec (k n : Int) (s : ByteArray) (xs : List Tm) (a : Option Addr) (l c : Nat) (F : List Nat) (w : World) (h : RdS w xs a l c F) (hL : (Tm.mk k n s xs).Lens) (hcn : (Tm.mk k n s xs).cnt ≤ 10000000000) :
    Calls Try.prog 59 #[.agg #[.int .i64 k, .int .i64 n, .string s, .slice a l c]] w fun e w' => e = .returned (.bool (Tm.mk k n s xs).ok) ∧ Below w.heap.size w w' := by
  have C1 := Lib.hid (countT_all _ hcn k n s xs)
  have S1 := Lib.hid (shape_all hL k n s xs)
  generalize hT : Tm.mk k n s xs = t at *
  clear hT
  have hbA : ∀ o, Below w.heap.size w (w.alloc o) := fun o => (Below.refl _ _).alloc (Nat.le_refl _) o
  have HBA := Lib.hid hbA; clear hbA
  go_enter Try.func59, Try.ntmps59
  go_wp2_with fail
  refine (C1.out a l c F 5000 _ trivial (RdS_ext h (HBA.out _)) (by omega) (by omega)).mono ?_
  rintro e w2 ⟨v, rfl, hcr, hb2⟩
  have hb2' := (HBA.out (.cells #[.int .i64 k, .int .i64 n, .string s, .slice a l c] 26)).trans (hb2.mono (by simp))
  have hbox : w2.heap[w.heap.size]? = some (.cells #[.int .i64 k, .int .i64 n, .string s, .slice a l c] 26 (0, 0)) := by
    rw [hb2.block _ (by simp)]; exact heap_new rfl
  obtain ⟨q0, q1, q2, q3, _⟩ := box4 hbox
  obtain ⟨g1, g2, g3, g4⟩ := hcr
  clear hbox hb2
  by_cases hle : t.cnt ≤ 5000
  · have hv : v ≤ 5000 := by omega
    have hat : Hid (t.ok = t.wf) := by simp [Hid, Tm.ok, hle]
    have d1 : decide (v ≤ 5000) = true := by simpa using hv
    clear g1 g2 g3 g4 hle
    go_wp2_with fail
    refine (S1.out a l c F _ trivial (RdS_ext h hb2')).mono ?_
    rintro e w3 ⟨rfl, hb3⟩
    have hb3' := hb2'.trans (hb3.mono hb2'.size)
    clear q0 q1 q2 q3 hb3
    go_wp2
    go_ret
    exact ⟨by rw [hat.out]; rfl, hb3'⟩
  · have hv : 5000 < v := g2 (by omega)
    have hat : Hid (t.ok = false) := by simp [Hid, Tm.ok, hle]
    have d1 : decide (v ≤ 5000) = false := by simpa using hv
    clear g1 g2 g3 g4 hle
    go_wp2
    go_ret
    exact ⟨by rw [hat.out]; rfl, hb2'⟩
end Go.Proofs.Ytjkabbkaeioibaa
