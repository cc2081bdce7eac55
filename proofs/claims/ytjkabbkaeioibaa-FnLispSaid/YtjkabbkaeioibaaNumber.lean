/- Contract of the program's NumberOf. -/
import Derived.Test.YtjkabbkaeioibaaNodes
namespace Go.Proofs.Ytjkabbkaeioibaa
open Go.RowKit

/-- the loop of NumberOf: the number so far, the next weight, the last digit -/
def numGo : Tm → Int → Int → Int → Int
  | .mk k _ _ [d, r], n, wt, last => if k = 4 then (if d.kind ≠ 3 ∨ d.num < 0 ∨ 1 < d.num ∨ 1000000000 < wt then -1 else numGo r (n + d.num * wt) (wt * 2) d.num) else (if k ≠ 0 ∨ last = 0 ∨ 1000000000 < n then -1 else n)
  | .mk k _ _ _, n, _, last => if k ≠ 0 ∨ last = 0 ∨ 1000000000 < n then -1 else n
def numV (t : Tm) : Int := if t.ok = true then numGo t 0 1 1 else -1

theorem numGo_end {k m : Int} {s : ByteArray} {xs : List Tm} {n wt last : Int} (hk : k ≠ 4) : numGo (.mk k m s xs) n wt last = if k ≠ 0 ∨ last = 0 ∨ 1000000000 < n then -1 else n := by
  match xs with
  | [] => rfl
  | [x] => rfl
  | [x, y] => simp only [numGo, if_neg hk]
  | _ :: _ :: _ :: _ => rfl
theorem numGo_pair {m : Int} {s : ByteArray} {d r : Tm} {n wt last : Int} : numGo (.mk 4 m s [d, r]) n wt last = if d.kind ≠ 3 ∨ d.num < 0 ∨ 1 < d.num ∨ 1000000000 < wt then -1 else numGo r (n + d.num * wt) (wt * 2) d.num := by
  simp only [numGo, if_true]

def NumRel (w : World) (T : Tm) (nv wv lv : Value) (wr : World) : Prop :=
  ∃ n wt last : Int, nv = .int .i64 n ∧ wv = .int .i64 wt ∧ lv = .int .i64 last ∧ 0 ≤ n ∧ n < wt ∧ wt ≤ 2000000000 ∧ 0 ≤ last ∧ last ≤ 1 ∧
    ∃ k m s xs a l c F, wr.heap[w.heap.size]? = some (.cells #[.int .i64 k, .int .i64 m, .string s, .slice a l c] 26 (0, 0)) ∧ RdS wr xs a l c F ∧ (∀ x ∈ F, x < w.heap.size) ∧ (Tm.mk k m s xs).wf = true ∧
      numGo T 0 1 1 = numGo (.mk k m s xs) n wt last ∧ Below w.heap.size w wr ∧ w.heap.size < wr.heap.size

set_option maxHeartbeats 2000000 in
set_option maxRecDepth 100000 in
theorem NumberOf_impl (k m : Int) (s : ByteArray) (xs : List Tm) (a : Option Addr) (l c : Nat) (F : List Nat) (w : World) (h : RdS w xs a l c F) (hL : (Tm.mk k m s xs).Lens) :
    Calls Try.prog 31 #[.agg #[.int .i64 k, .int .i64 m, .string s, .slice a l c]] w fun e w' => e = .returned (.int .i64 (numV (.mk k m s xs))) ∧ Below w.heap.size w w' := by
  have hbA : ∀ o, Below w.heap.size w (w.alloc o) := fun o => (Below.refl _ _).alloc (Nat.le_refl _) o
  have HBA := Lib.hid hbA; clear hbA
  go_enter Try.func31, Try.ntmps31
  go_wp2_with fail
  refine (TermOk_impl k m s xs a l c F _ (RdS_ext h (HBA.out _)) hL).mono ?_
  rintro e w1 ⟨rfl, hb1⟩
  have hb1' := (HBA.out (.cells #[.int .i64 k, .int .i64 m, .string s, .slice a l c] 26)).trans (hb1.mono (by simp))
  have hbox1 : w1.heap[w.heap.size]? = some (.cells #[.int .i64 k, .int .i64 m, .string s, .slice a l c] 26 (0, 0)) := by
    rw [hb1.block _ (by simp)]; exact heap_new rfl
  have hsz1 : w.heap.size < w1.heap.size := heap_lt hbox1
  cases hok : (Tm.mk k m s xs).ok with
  | false =>
    have hv : Hid (numV (.mk k m s xs) = -1) := by simp [Hid, numV, hok]
    clear hok hbox1 hb1
    go_wp2
    go_ret
    exact ⟨by rw [hv.out]; rfl, hb1'⟩
  | true =>
    have hv : Hid (numV (.mk k m s xs) = numGo (.mk k m s xs) 0 1 1) := by simp [Hid, numV, hok]
    have hwf : (Tm.mk k m s xs).wf = true := by simp [Tm.ok] at hok; exact hok.1
    have hrd1 := RdS_ext h hb1'
    have hFlt := RdS_lt h
    have START : Hid (NumRel w (.mk k m s xs) (.int .i64 0) (.int .i64 1) (.int .i64 1) w1) :=
      ⟨0, 1, 1, rfl, rfl, rfl, by omega, by omega, by omega, by omega, by omega, k, m, s, xs, a, l, c, F, hbox1, hrd1, hFlt, hwf, rfl, hb1', hsz1⟩
    clear hok hbox1 hb1 hwf hrd1 hFlt h
    generalize hT : Tm.mk k m s xs = T at *
    have HT := Lib.hid hT; clear hT
    go_wp2_with fail
    go_loopw [3, 4, 5] (fun nv wv lv wr => NumRel w T nv wv lv wr) (fun _ wv _ _ => (4000000000 - intOf wv).toNat)
    case atStart => exact START.out
    case round =>
      obtain ⟨n, wt, last, rfl, rfl, rfl, hn0, hnw, hwt, hl0, hl1, k, m, s, xs, a, l, c, F, hbox, hrd, hF, hwf, hgo, hbel, hsz⟩ := hrel
      have HGO := Lib.hid hgo; clear hgo
      have HBOX := Lib.hid hbox
      obtain ⟨q0, q1, q2, q3, qf⟩ := box4 hbox
      clear hbox START
      by_cases hk : k = 4
      · subst hk
        obtain ⟨rfl, hs0, x, y, rfl, hx, hy⟩ := wf_four hwf
        obtain rfl := ba_empty hs0
        obtain ⟨b, o, xk, xn, xs, xas, xa, xl, xc, F1, yk, yn, ys, yas, ya, yl, yc, F2, hxy, rfl, rfl, hblt, ⟨x0, x1, x2, x3⟩, ⟨y0, y1, y2, y3⟩, hrx, hry⟩ := RdS_pair hrd hrd.1
        obtain ⟨rfl, rfl⟩ : x = .mk xk xn xs xas ∧ y = .mk yk yn ys yas := by simpa using hxy
        have hl2 : l = 2 := hrd.1
        subst hl2
        have hbw : b < w.heap.size := hF b (by simp)
        have hF2 : ∀ x ∈ F2, x < w.heap.size := fun x hx => hF x (by simp [hx])
        have HG2 : Hid (numGo T 0 1 1 = if xk ≠ 3 ∨ xn < 0 ∨ 1 < xn ∨ 1000000000 < wt then -1 else numGo (.mk yk yn ys yas) (n + xn * wt) (wt * 2) xn) := by
          show _ = _
          rw [HGO.out, numGo_pair]; rfl
        have HY := Lib.hid hy
        clear hwf hs0 hx hy hxy hrd hF hrx
        by_cases hbad : xk ≠ 3 ∨ xn < 0 ∨ 1 < xn ∨ 1000000000 < wt
        · have hfin : Hid (numGo T 0 1 1 = -1) := by
            show _ = _
            rw [HG2.out, if_pos hbad]
          have hbD := (hbel.alloc hbel.size (.cells #[.int .i64 xk, .int .i64 xn, .string xs, .slice xa xl xc] 26))
          by_cases h3 : xk = 3
          · subst h3
            by_cases h4 : xn < 0
            · clear hbad
              go_wp2
              go_ret
              exact ⟨by rw [HT.out, hv.out, hfin.out]; rfl, hbD⟩
            · have d4 : decide (xn < 0) = false := by simpa using h4
              by_cases h5 : 1 < xn
              · clear hbad
                go_wp2
                go_ret
                exact ⟨by rw [HT.out, hv.out, hfin.out]; rfl, hbD⟩
              · have d5 : decide (1 < xn) = false := by simpa using h5
                have h6 : 1000000000 < wt := by omega
                clear hbad
                go_wp2
                go_ret
                exact ⟨by rw [HT.out, hv.out, hfin.out]; rfl, hbD⟩
          · have d3 : (xk != 3) = true := by simpa using h3
            clear hbad
            go_wp2
            go_ret
            exact ⟨by rw [HT.out, hv.out, hfin.out]; rfl, hbD⟩
        · have hgood : xk = 3 ∧ 0 ≤ xn ∧ xn ≤ 1 ∧ wt ≤ 1000000000 := by omega
          obtain ⟨rfl, hx0, hx1, hw9⟩ := hgood
          have HG3 : Hid (numGo T 0 1 1 = numGo (.mk yk yn ys yas) (n + xn * wt) (wt * 2) xn) := by
            show _ = _
            rw [HG2.out, if_neg hbad]
          have hmul0 : 0 ≤ xn * wt := Int.mul_nonneg hx0 (by omega)
          have hmul1 : xn * wt ≤ wt := by
            have : xn * wt ≤ 1 * wt := Int.mul_le_mul_of_nonneg_right hx1 (by omega)
            omega
          have d4 : decide (xn < 0) = false := by simp; omega
          have d5 : decide (1 < xn) = false := by simp; omega
          have d6 : decide (1000000000 < wt) = false := by simp; omega
          have hbl : b < wr.heap.size := hblt
          clear hbad HG2
          go_wp2
          go_roundw
          case rel =>
            have hb4 : ∀ v0 v1 v2 v3, Below w.heap.size w ((((wr.setCell ⟨w.heap.size, 0, none⟩ v0).setCell ⟨w.heap.size, 1, none⟩ v1).setCell ⟨w.heap.size, 2, none⟩ v2).setCell ⟨w.heap.size, 3, none⟩ v3) := fun _ _ _ _ => hbel.trans (below_set4 (Nat.le_refl _))
            have hs4 : ∀ v0 v1 v2 v3, ((((wr.setCell ⟨w.heap.size, 0, none⟩ v0).setCell ⟨w.heap.size, 1, none⟩ v1).setCell ⟨w.heap.size, 2, none⟩ v2).setCell ⟨w.heap.size, 3, none⟩ v3).heap.size = wr.heap.size := fun _ _ _ _ => by simp [World.setCell]
            refine ⟨n + xn * wt, wt * 2, xn, rfl, rfl, rfl, by omega, by omega, by omega, hx0, hx1, yk, yn, ys, yas, ya, yl, yc, F2, ?_, ?_, hF2, HY.out, HG3.out, ?_, ?_⟩
            · exact (heap_old (by rw [hs4]; exact hsz)).trans (heap_set4 HBOX.out)
            · refine RdS_same (fun x hx => ?_) hry
              have := hF2 x hx
              have := hbel.size
              rw [heap_old (by rw [hs4]; omega), heap_set4_other (by omega)]
            · exact (hb4 _ _ _ _).alloc (by rw [hs4]; omega) _
            · rw [World.size_alloc, hs4]; omega
          case measure => simp [intOf]; omega
      · have hke : (k == 4) = false := by simpa using hk
        have HE : Hid (numGo T 0 1 1 = if k ≠ 0 ∨ last = 0 ∨ 1000000000 < n then -1 else n) := by
          show _ = _
          rw [HGO.out, numGo_end hk]
        by_cases hk0 : k = 0
        · subst hk0
          by_cases hla : last = 0
          · subst hla
            have hfin : Hid (numGo T 0 1 1 = -1) := by show _ = _; rw [HE.out, if_pos (by simp)]
            clear hk hwf
            go_wp2
            go_ret
            exact ⟨by rw [HT.out, hv.out, hfin.out]; rfl, hbel⟩
          · have dl : (last == 0) = false := by simpa using hla
            by_cases hnn : 1000000000 < n
            · have hfin : Hid (numGo T 0 1 1 = -1) := by show _ = _; rw [HE.out, if_pos (by simp [hnn])]
              clear hk hwf hla
              go_wp2
              go_ret
              exact ⟨by rw [HT.out, hv.out, hfin.out]; rfl, hbel⟩
            · have hfin : Hid (numGo T 0 1 1 = n) := by show _ = _; rw [HE.out, if_neg (by simp; omega)]
              have dn : decide (1000000000 < n) = false := by simpa using hnn
              clear hk hwf hla
              go_wp2
              go_ret
              exact ⟨by rw [HT.out, hv.out, hfin.out]; rfl, hbel⟩
        · have dk : (k != 0) = true := by simpa using hk0
          have hfin : Hid (numGo T 0 1 1 = -1) := by show _ = _; rw [HE.out, if_pos (by simp [hk0])]
          clear hk hwf hk0
          go_wp2
          go_ret
          exact ⟨by rw [HT.out, hv.out, hfin.out]; rfl, hbel⟩
end Go.Proofs.Ytjkabbkaeioibaa
