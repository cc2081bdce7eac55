/- Contracts of nodesOf and TermOk (the program's). -/
import Derived.Test.YtjkabbkaeioibaaEq
import Derived.Test.YtjkabbkaeioibaaName
import Derived.Test.YtjkabbkaeioibaaMark
namespace Go.Proofs.Ytjkabbkaeioibaa
open Go.RowKit

def atomB (k n : Int) (s : ByteArray) : Bool :=
  if k = 0 then n == 0 && s.size == 0
  else if k = 1 then decide (0 ≤ n) && decide (n ≤ 100000) && s.size == 0
  else if k = 2 then n == 0 && nameB s
  else if k = 3 then decide (-1000000000 ≤ n) && decide (n ≤ 1000000000) && s.size == 0
  else false
/-- a term of the right form -/
def Tm.wf : Tm → Bool
  | .mk k n s [] => atomB k n s
  | .mk k n s [x, y] => k == 4 && n == 0 && s.size == 0 && x.wf && y.wf
  | .mk _ _ _ _ => false
/-- what nodesOf answers -/
def nodesV (t : Tm) (room : Int) : Int := if t.wf = true ∧ (t.cnt : Int) ≤ room then (t.cnt : Int) else -1
theorem cnt_pos (t : Tm) : 1 ≤ t.cnt := by cases t; simp [Tm.cnt]
theorem ba_empty {s : ByteArray} (h : s.size = 0) : s = ByteArray.empty := by
  cases s with
  | mk d =>
    have : d = #[] := Array.eq_empty_of_size_eq_zero h
    subst this; rfl
theorem ne_size {s : ByteArray} (h : s.toList.isEmpty = false) : s.size ≠ 0 := by
  intro h0
  rw [ba_empty h0] at h
  simp at h
theorem size_or (s : ByteArray) : s.size = 0 ∨ s.toList.isEmpty = false := by
  by_cases h : s.size = 0
  · exact .inl h
  · right
    rw [List.isEmpty_eq_false_iff, ne_eq, toList_nil_iff_emptyBytes]
    intro h'; subst h'; exact h rfl
theorem atom_wf (k n : Int) (s : ByteArray) (room : Int) (h : 1 ≤ room) : nodesV (.mk k n s []) room = if atomB k n s = true then 1 else -1 := by
  simp only [nodesV, Tm.wf, Tm.cnt, cntL]
  by_cases ha : atomB k n s = true
  · simp [ha, h]
  · simp [ha]

def NodesPost (t : Tm) (room : Int) (w : World) (e : Ending) (w' : World) : Prop := e = .returned (.int .i64 (nodesV t room)) ∧ Below w.heap.size w w'

set_option maxHeartbeats 400000 in
set_option maxRecDepth 100000 in
theorem nodes_low (k n : Int) (s : ByteArray) (xs : List Tm) (a : Option Addr) (l c : Nat) (room : Int) (w : World) (hr : room < 1) :
    Calls Try.prog 67 #[.agg #[.int .i64 k, .int .i64 n, .string s, .slice a l c], .int .i64 room] w (NodesPost (.mk k n s xs) room w) := by
  have hv : Hid (nodesV (.mk k n s xs) room = -1) := by
    have := cnt_pos (.mk k n s xs)
    show nodesV _ _ = _
    rw [nodesV, if_neg (by omega)]
  go_enter Try.func67, Try.ntmps67
  go_wp2
  go_ret
  exact ⟨by rw [hv.out]; rfl, (Below.refl _ _).alloc (Nat.le_refl _) _⟩

set_option maxHeartbeats 1000000 in
set_option maxRecDepth 100000 in
theorem nodes_other (k n : Int) (s : ByteArray) (xs : List Tm) (a : Option Addr) (l c : Nat) (room : Int) (w : World) (hr : 1 ≤ room) (hk : k ≠ 4) (hl : l = xs.length) (hl0 : xs ≠ []) :
    Calls Try.prog 67 #[.agg #[.int .i64 k, .int .i64 n, .string s, .slice a l c], .int .i64 room] w (NodesPost (.mk k n s xs) room w) := by
  have hv : Hid (nodesV (.mk k n s xs) room = -1) := by
    show nodesV _ _ = _
    rw [nodesV, if_neg]
    rintro ⟨h1, _⟩
    match xs, hl0, h1 with
    | [x, y], _, h1 => simp [Tm.wf, hk] at h1
  have hk' : (k != 4) = true := by simpa using hk
  have hl' : ((l : Int) != 0) = true := by
    have : 0 < xs.length := List.length_pos_iff.2 hl0
    simp; omega
  clear hk hl hl0
  go_enter Try.func67, Try.ntmps67
  go_wp2
  go_ret
  exact ⟨by rw [hv.out]; rfl, (Below.refl _ _).alloc (Nat.le_refl _) _⟩

set_option maxHeartbeats 2000000 in
set_option maxRecDepth 100000 in
theorem nodes_atom (k n : Int) (s : ByteArray) (a : Option Addr) (c : Nat) (room : Int) (w : World) (hr : 1 ≤ room) (hk : k ≠ 4) (hs : s.size ≤ 1000000000000) :
    Calls Try.prog 67 #[.agg #[.int .i64 k, .int .i64 n, .string s, .slice a 0 c], .int .i64 room] w (NodesPost (.mk k n s []) room w) := by
  have hv : Hid (nodesV (.mk k n s []) room = if atomB k n s = true then 1 else -1) := atom_wf k n s room hr
  have hs' := size_or s
  by_cases hk0 : k = 0
  · subst hk0
    by_cases hn : n = 0
    · subst hn
      rcases hs' with hs' | hs'
      · obtain rfl := ba_empty hs'
        have hat : Hid (atomB 0 0 ByteArray.empty = true) := by simp [Hid, atomB]
        clear hs' hs hk
        go_enter Try.func67, Try.ntmps67
        go_wp2
        go_ret
        exact ⟨by rw [hv.out, hat.out]; rfl, (Below.refl _ _).alloc (Nat.le_refl _) _⟩
      · have hat : Hid (atomB 0 0 s = false) := by have := ne_size hs'; simp [Hid, atomB, this]
        clear hs hk
        go_enter Try.func67, Try.ntmps67
        go_wp2
        go_ret
        exact ⟨by rw [hv.out, hat.out]; rfl, (Below.refl _ _).alloc (Nat.le_refl _) _⟩
    · have hat : Hid (atomB 0 n s = false) := by simp [Hid, atomB, hn]
      have hn' : (n != 0) = true := by simpa using hn
      clear hs' hs hk hn
      go_enter Try.func67, Try.ntmps67
      go_wp2
      go_ret
      exact ⟨by rw [hv.out, hat.out]; rfl, (Below.refl _ _).alloc (Nat.le_refl _) _⟩
  · by_cases hk1 : k = 1
    · subst hk1
      by_cases h1 : n < 0
      · have hat : Hid (atomB 1 n s = false) := by simp [Hid, atomB]; omega
        clear hs' hs hk hk0
        go_enter Try.func67, Try.ntmps67
        go_wp2
        go_ret
        exact ⟨by rw [hv.out, hat.out]; rfl, (Below.refl _ _).alloc (Nat.le_refl _) _⟩
      · by_cases h2 : 100000 < n
        · have hat : Hid (atomB 1 n s = false) := by simp [Hid, atomB]; omega
          clear hs' hs hk hk0
          go_enter Try.func67, Try.ntmps67
          go_wp2
          go_ret
          exact ⟨by rw [hv.out, hat.out]; rfl, (Below.refl _ _).alloc (Nat.le_refl _) _⟩
        · rcases hs' with hs' | hs'
          · obtain rfl := ba_empty hs'
            have hat : Hid (atomB 1 n ByteArray.empty = true) := by simp [Hid, atomB]; omega
            have d1 : decide (n < 0) = false := by simp; omega
            have d2 : decide (100000 < n) = false := by simp; omega
            clear hs' hs hk hk0
            go_enter Try.func67, Try.ntmps67
            go_wp2
            go_ret
            exact ⟨by rw [hv.out, hat.out]; rfl, (Below.refl _ _).alloc (Nat.le_refl _) _⟩
          · have hat : Hid (atomB 1 n s = false) := by have := ne_size hs'; simp [Hid, atomB, this]
            have d1 : decide (n < 0) = false := by simp; omega
            have d2 : decide (100000 < n) = false := by simp; omega
            clear hs hk hk0
            go_enter Try.func67, Try.ntmps67
            go_wp2
            go_ret
            exact ⟨by rw [hv.out, hat.out]; rfl, (Below.refl _ _).alloc (Nat.le_refl _) _⟩
    · by_cases hk2 : k = 2
      · subst hk2
        by_cases hn : n = 0
        · subst hn
          cases hnm : nameB s with
          | true =>
            have hat : Hid (atomB 2 0 s = true) := by simp [Hid, atomB, hnm]
            have HNM := Lib.hid hnm
            clear hnm hs' hk hk0 hk1
            go_enter Try.func67, Try.ntmps67
            go_wp2_with (go_at_call 87; refine (isName_impl _ _ hs).mono ?_; rintro e w' ⟨rfl, rfl⟩; rw [HNM.out])
            go_ret
            exact ⟨by rw [hv.out, hat.out]; rfl, (Below.refl _ _).alloc (Nat.le_refl _) _⟩
          | false =>
            have hat : Hid (atomB 2 0 s = false) := by simp [Hid, atomB, hnm]
            have HNM := Lib.hid hnm
            clear hnm hs' hk hk0 hk1
            go_enter Try.func67, Try.ntmps67
            go_wp2_with (go_at_call 87; refine (isName_impl _ _ hs).mono ?_; rintro e w' ⟨rfl, rfl⟩; rw [HNM.out])
            go_ret
            exact ⟨by rw [hv.out, hat.out]; rfl, (Below.refl _ _).alloc (Nat.le_refl _) _⟩
        · have hat : Hid (atomB 2 n s = false) := by simp [Hid, atomB, hn]
          have hn' : (n != 0) = true := by simpa using hn
          clear hs' hs hk hn hk0 hk1
          go_enter Try.func67, Try.ntmps67
          go_wp2
          go_ret
          exact ⟨by rw [hv.out, hat.out]; rfl, (Below.refl _ _).alloc (Nat.le_refl _) _⟩
      · by_cases hk3 : k = 3
        · subst hk3
          by_cases h1 : n < -1000000000
          · have hat : Hid (atomB 3 n s = false) := by simp [Hid, atomB]; omega
            clear hs' hs hk hk0 hk1 hk2
            go_enter Try.func67, Try.ntmps67
            go_wp2
            go_ret
            exact ⟨by rw [hv.out, hat.out]; rfl, (Below.refl _ _).alloc (Nat.le_refl _) _⟩
          · by_cases h2 : 1000000000 < n
            · have hat : Hid (atomB 3 n s = false) := by simp [Hid, atomB]; omega
              clear hs' hs hk hk0 hk1 hk2
              go_enter Try.func67, Try.ntmps67
              go_wp2
              go_ret
              exact ⟨by rw [hv.out, hat.out]; rfl, (Below.refl _ _).alloc (Nat.le_refl _) _⟩
            · rcases hs' with hs' | hs'
              · obtain rfl := ba_empty hs'
                have hat : Hid (atomB 3 n ByteArray.empty = true) := by simp [Hid, atomB]; omega
                have d1 : decide (n < -1000000000) = false := by simp; omega
                have d2 : decide (1000000000 < n) = false := by simp; omega
                clear hs' hs hk hk0 hk1 hk2
                go_enter Try.func67, Try.ntmps67
                go_wp2
                go_ret
                exact ⟨by rw [hv.out, hat.out]; rfl, (Below.refl _ _).alloc (Nat.le_refl _) _⟩
              · have hat : Hid (atomB 3 n s = false) := by have := ne_size hs'; simp [Hid, atomB, this]
                have d1 : decide (n < -1000000000) = false := by simp; omega
                have d2 : decide (1000000000 < n) = false := by simp; omega
                clear hs hk hk0 hk1 hk2
                go_enter Try.func67, Try.ntmps67
                go_wp2
                go_ret
                exact ⟨by rw [hv.out, hat.out]; rfl, (Below.refl _ _).alloc (Nat.le_refl _) _⟩
        · have hat : Hid (atomB k n s = false) := by simp [Hid, atomB, hk0, hk1, hk2, hk3]
          have e0 : (k == 0) = false := by simpa using hk0
          have e1 : (k == 1) = false := by simpa using hk1
          have e2 : (k == 2) = false := by simpa using hk2
          have e3 : (k == 3) = false := by simpa using hk3
          have e4 : (k != 4) = true := by simpa using hk
          clear hs' hs hk hk0 hk1 hk2 hk3
          go_enter Try.func67, Try.ntmps67
          go_wp2
          go_ret
          exact ⟨by rw [hv.out, hat.out]; rfl, (Below.refl _ _).alloc (Nat.le_refl _) _⟩

def NodesP (t : Tm) : Prop := ∀ (k n : Int) (s : ByteArray) (xs : List Tm) (a : Option Addr) (l c : Nat) (F : List Nat) (room : Int) (w : World), t = .mk k n s xs → RdS w xs a l c F → room ≤ 5000 → -1000000 ≤ room →
  Calls Try.prog 67 #[.agg #[.int .i64 k, .int .i64 n, .string s, .slice a l c], .int .i64 room] w (NodesPost t room w)

theorem wf_pair {k n : Int} {s : ByteArray} {x y : Tm} (hk : k = 4) (hn : n = 0) (hs : s.size = 0) : (Tm.mk k n s [x, y]).wf = (x.wf && y.wf) := by
  simp [Tm.wf, hk, hn, hs]
theorem wf_four {n : Int} {s : ByteArray} {xs : List Tm} (h : (Tm.mk 4 n s xs).wf = true) : n = 0 ∧ s.size = 0 ∧ ∃ x y, xs = [x, y] ∧ x.wf = true ∧ y.wf = true := by
  match xs, h with
  | [], h => simp [Tm.wf, atomB] at h
  | [x, y], h => simp [Tm.wf] at h; exact ⟨h.1.1.1, by rw [h.1.1.2]; rfl, x, y, rfl, h.1.2, h.2⟩

set_option maxHeartbeats 2000000 in
set_option maxRecDepth 100000 in
theorem nodes_pair (n : Int) (s : ByteArray) (xs : List Tm) (ih : ∀ x ∈ xs, NodesP x) (a : Option Addr) (l c : Nat) (F : List Nat) (room : Int) (w : World) (h : RdS w xs a l c F) (hr : 1 ≤ room) (hr2 : room ≤ 5000) :
    Calls Try.prog 67 #[.agg #[.int .i64 4, .int .i64 n, .string s, .slice a l c], .int .i64 room] w (NodesPost (.mk 4 n s xs) room w) := by
  have hno : ((Tm.mk 4 n s xs).wf = true → False) → Hid (nodesV (.mk 4 n s xs) room = -1) := by
    intro hf
    show nodesV _ _ = _
    rw [nodesV, if_neg (fun hh => hf hh.1)]
  by_cases hn : n = 0
  · subst hn
    rcases size_or s with hs' | hs'
    · obtain rfl := ba_empty hs'
      by_cases hl2 : l = 2
      · obtain ⟨b, o, xk, xn, xs, xas, xa, xl, xc, F1, yk, yn, ys, yas, ya, yl, yc, F2, rfl, rfl, rfl, hblt, ⟨x0, x1, x2, x3⟩, ⟨y0, y1, y2, y3⟩, hrx, hry⟩ := RdS_pair h hl2
        have IH1 := Lib.hid (ih (.mk xk xn xs xas) (by simp) xk xn xs xas)
        have IH2 := Lib.hid (ih (.mk yk yn ys yas) (by simp) yk yn ys yas)
        subst hl2
        clear hno hs' ih h
        have hwf : (Tm.mk 4 0 ByteArray.empty [.mk xk xn xs xas, .mk yk yn ys yas]).wf = ((Tm.mk xk xn xs xas).wf && (Tm.mk yk yn ys yas).wf) := wf_pair rfl rfl rfl
        have hct : (Tm.mk 4 0 ByteArray.empty [.mk xk xn xs xas, .mk yk yn ys yas]).cnt = 1 + (Tm.mk xk xn xs xas).cnt + (Tm.mk yk yn ys yas).cnt := by simp only [Tm.cnt, cntL]; omega
        generalize hX : Tm.mk xk xn xs xas = x at *
        generalize hY : Tm.mk yk yn ys yas = y at *
        generalize hT : Tm.mk 4 0 ByteArray.empty [x, y] = t at *
        have HX := Lib.hid hX.symm; have HY := Lib.hid hY.symm
        have HW := Lib.hid hwf; have HC := Lib.hid hct
        clear hX hY hwf hct hT
        have cx := cnt_pos x
        have cy := cnt_pos y
        have hbA : ∀ o, Below w.heap.size w (w.alloc o) := fun o => (Below.refl _ _).alloc (Nat.le_refl _) o
        have HBA := Lib.hid hbA; clear hbA
        go_enter Try.func67, Try.ntmps67
        go_wp2_with fail
        refine (IH1.out xa xl xc _ (room - 1) _ trivial (RdS_ext hrx (HBA.out _)) (by omega) (by omega)).mono ?_
        rintro e w2 ⟨rfl, hb2⟩
        have hb2' := (HBA.out (.cells #[.int .i64 4, .int .i64 0, .string ByteArray.empty, .slice (some ⟨b, o, none⟩) 2 c] 26)).trans (hb2.mono (by simp))
        by_cases hx : x.wf = true ∧ (x.cnt : Int) ≤ room - 1
        · have hvx : nodesV x (room - 1) = (x.cnt : Int) := by rw [nodesV, if_pos hx]
          rw [hvx]
          have hbox : w2.heap[w.heap.size]? = some (.cells #[.int .i64 4, .int .i64 0, .string ByteArray.empty, .slice (some ⟨b, o, none⟩) 2 c] 26 (0, 0)) := by
            rw [hb2.block _ (by simp)]; exact heap_new rfl
          obtain ⟨q0, q1, q2, q3, _⟩ := box4 hbox
          rw [← hb2'.cell (p := ⟨b, _, none⟩) hblt] at y0 y1 y2 y3
          have hxr := hx.2
          have HXW := Lib.hid hx.1
          have hry2 := RdS_ext hry hb2'
          clear hvx hbox hx x0 x1 x2 x3 hb2 hry hrx
          go_wp2_with fail
          refine (IH2.out ya yl yc _ (room - 1 - x.cnt) _ trivial hry2 (by omega) (by omega)).mono ?_
          rintro e w3 ⟨rfl, hb3⟩
          have hb3' := hb2'.trans (hb3.mono hb2'.size)
          by_cases hy : y.wf = true ∧ (y.cnt : Int) ≤ room - 1 - x.cnt
          · have hvy : nodesV y (room - 1 - x.cnt) = (y.cnt : Int) := by rw [nodesV, if_pos hy]
            rw [hvy]
            have hfin : Hid (nodesV t room = 1 + (x.cnt : Int) + (y.cnt : Int)) := by
              show nodesV _ _ = _
              rw [nodesV, if_pos ⟨by rw [HW.out, HXW.out, hy.1]; rfl, by rw [HC.out]; omega⟩, HC.out]; omega
            have hyr := hy.2
            clear hvy hy q0 q1 q2 q3 y0 y1 y2 y3 hb3
            go_wp2
            go_ret
            exact ⟨by rw [hfin.out]; rfl, hb3'⟩
          · have hvy : nodesV y (room - 1 - x.cnt) = -1 := by rw [nodesV, if_neg hy]
            rw [hvy]
            have hfin : Hid (nodesV t room = -1) := by
              show nodesV _ _ = _
              rw [nodesV, if_neg]
              rintro ⟨h1, h2⟩
              rw [HW.out] at h1
              rw [HC.out] at h2
              simp at h1
              exact hy ⟨h1.2, by omega⟩
            clear hvy hy q0 q1 q2 q3 y0 y1 y2 y3 hb3
            go_wp2
            go_ret
            exact ⟨by rw [hfin.out]; rfl, hb3'⟩
        · have hvx : nodesV x (room - 1) = -1 := by rw [nodesV, if_neg hx]
          rw [hvx]
          have hfin : Hid (nodesV t room = -1) := by
            show nodesV _ _ = _
            rw [nodesV, if_neg]
            rintro ⟨h1, h2⟩
            rw [HW.out] at h1
            rw [HC.out] at h2
            simp at h1
            exact hx ⟨h1.1, by omega⟩
          clear hvx hx x0 x1 x2 x3 y0 y1 y2 y3 hb2
          go_wp2
          go_ret
          exact ⟨by rw [hfin.out]; rfl, hb2'⟩
      · have hv := hno (fun hw => by obtain ⟨_, _, x, y, rfl, _⟩ := wf_four hw; have := h.1; simp at this; omega)
        have hl' : ((l : Int) != 2) = true := by simp; omega
        clear hno hs' hl2 ih h
        go_enter Try.func67, Try.ntmps67
        go_wp2
        go_ret
        exact ⟨by rw [hv.out]; rfl, (Below.refl _ _).alloc (Nat.le_refl _) _⟩
    · have hv := hno (fun hw => ne_size hs' (wf_four hw).2.1)
      clear hno ih h
      go_enter Try.func67, Try.ntmps67
      go_wp2
      go_ret
      exact ⟨by rw [hv.out]; rfl, (Below.refl _ _).alloc (Nat.le_refl _) _⟩
  · have hv := hno (fun hw => hn (wf_four hw).1)
    have hn' : (n != 0) = true := by simpa using hn
    clear hno ih h hn
    go_enter Try.func67, Try.ntmps67
    go_wp2
    go_ret
    exact ⟨by rw [hv.out]; rfl, (Below.refl _ _).alloc (Nat.le_refl _) _⟩

theorem nodesOf_all {t : Tm} (h : t.Lens) : NodesP t := by
  induction h with
  | mk k n s xs hs _ _ ih =>
    intro k' n' s' xs' a l c F room w ht hrd hr2 hr0
    cases ht
    by_cases hr : room < 1
    · exact nodes_low _ _ _ _ _ _ _ _ _ hr
    · by_cases hk : k = 4
      · subst hk; exact nodes_pair n s xs ih a l c F room w hrd (by omega) hr2
      · by_cases hxs : xs = []
        · subst hxs
          have hl : l = 0 := hrd.1
          subst hl
          exact nodes_atom k n s a c room w (by omega) hk hs
        · exact nodes_other k n s xs a l c room w (by omega) hk hrd.1 hxs

/-- a term that the program takes -/
def Tm.ok (t : Tm) : Bool := t.wf && decide (t.cnt ≤ 5000)

set_option maxHeartbeats 400000 in
theorem TermOk_impl (k n : Int) (s : ByteArray) (xs : List Tm) (a : Option Addr) (l c : Nat) (F : List Nat) (w : World) (h : RdS w xs a l c F) (hL : (Tm.mk k n s xs).Lens) :
    Calls Try.prog 56 #[.agg #[.int .i64 k, .int .i64 n, .string s, .slice a l c]] w fun e w' => e = .returned (.bool (Tm.mk k n s xs).ok) ∧ Below w.heap.size w w' := by
  have hc := cnt_pos (.mk k n s xs)
  have hnd := nodesOf_all hL k n s xs
  have HND := Lib.hid hnd; clear hnd
  generalize hT : Tm.mk k n s xs = t at *
  have HT := Lib.hid hT.symm; clear hT
  have hbA : ∀ o, Below w.heap.size w (w.alloc o) := fun o => (Below.refl _ _).alloc (Nat.le_refl _) o
  have HBA := Lib.hid hbA; clear hbA
  go_enter Try.func56, Try.ntmps56
  go_wp2_with fail
  refine (HND.out a l c F 5000 _ trivial (RdS_ext h (HBA.out _)) (by omega) (by omega)).mono ?_
  rintro e w2 ⟨rfl, hb2⟩
  have hend := (HBA.out (.cells #[.int .i64 k, .int .i64 n, .string s, .slice a l c] 26)).trans (hb2.mono (by simp))
  by_cases hx : t.wf = true ∧ (t.cnt : Int) ≤ 5000
  · have hv : nodesV t 5000 = (t.cnt : Int) := by rw [nodesV, if_pos hx]
    rw [hv]
    have ho : Hid (t.ok = true) := by simp [Hid, Tm.ok, hx.1]; omega
    have hd : decide (0 < (t.cnt : Int)) = true := by simp; omega
    have hd2 : decide (0 < t.cnt) = true := by simp; omega
    clear hv hx hb2
    go_wp2
    go_ret
    exact ⟨by rw [ho.out]; rfl, hend⟩
  · have hv : nodesV t 5000 = -1 := by rw [nodesV, if_neg hx]
    rw [hv]
    have ho : Hid (t.ok = false) := by
      show t.ok = false
      cases hw : t.wf
      · simp [Tm.ok, hw]
      · simp [Tm.ok, hw]; simp [hw] at hx; omega
    clear hv hx hb2
    go_wp2
    go_ret
    exact ⟨by rw [ho.out]; rfl, hend⟩
end Go.Proofs.Ytjkabbkaeioibaa
