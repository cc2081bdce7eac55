/- Contracts of the program's AddNumerals and of the laws' same. -/
import Derived.Test.YtjkabbkaeioibaaNumber
import Derived.Test.YtjkabbkaeioibaaNumFacts
namespace Go.Proofs.Ytjkabbkaeioibaa
open Go.RowKit

theorem numGo_range (t : Tm) : ∀ n wt last, 0 ≤ n → 0 ≤ wt → -1 ≤ numGo t n wt last ∧ numGo t n wt last ≤ 1000000000 := by
  induction t using Tm.ind with
  | h k m s xs ih =>
    intro n wt last hn hw
    by_cases hk : k = 4
    · match xs, ih with
      | [], _ => simp only [numGo]; split <;> omega
      | [x], _ => simp only [numGo]; split <;> omega
      | [d, r], ih =>
        subst hk
        rw [numGo_pair]
        split
        · omega
        · rename_i hb
          have h1 : 0 ≤ d.num := by omega
          exact ih r (by simp) _ _ _ (by have := Int.mul_nonneg h1 hw; omega) (by omega)
      | _ :: _ :: _ :: _, _ => simp only [numGo]; split <;> omega
    · rw [numGo_end hk]; split <;> omega
theorem numV_range (t : Tm) : -1 ≤ numV t ∧ numV t ≤ 1000000000 := by
  unfold numV; split
  · exact numGo_range t 0 1 1 (by omega) (by omega)
  · omega

theorem OutTB_later {w w' w'' : World} {t : Tm} {r : Bool} {G : List Nat} {e : Ending} (h : OutTB w t r G e w') (hb : Below w'.heap.size w' w'') : OutTB w t r G e w'' := by
  obtain ⟨k, n, s, xs, a, l, c, F, h1, h2, h3, h4, h5⟩ := h
  exact ⟨k, n, s, xs, a, l, c, F, h1, h2, RdS_ext h3 hb, h4.later hb, h5.trans (hb.mono h5.size)⟩
def addR (x y : Int) : Tm := if x < 0 ∨ y < 0 then Tm.nil else numeralR (x + y)
def addB (x y : Int) : Bool := if x < 0 ∨ y < 0 then false else numeralB (x + y)

set_option maxHeartbeats 1000000 in
set_option maxRecDepth 100000 in
theorem AddNumerals_impl (k1 n1 : Int) (s1 : ByteArray) (xs1 : List Tm) (a1 : Option Addr) (l1 c1 : Nat) (F1 : List Nat) (k2 n2 : Int) (s2 : ByteArray) (xs2 : List Tm) (a2 : Option Addr) (l2 c2 : Nat) (F2 : List Nat) (w : World)
    (h1 : RdS w xs1 a1 l1 c1 F1) (h2 : RdS w xs2 a2 l2 c2 F2) (hL1 : (Tm.mk k1 n1 s1 xs1).Lens) (hL2 : (Tm.mk k2 n2 s2 xs2).Lens) :
    Calls Try.prog 29 #[.agg #[.int .i64 k1, .int .i64 n1, .string s1, .slice a1 l1 c1], .agg #[.int .i64 k2, .int .i64 n2, .string s2, .slice a2 l2 c2]] w
      (OutTB w (addR (numV (.mk k1 n1 s1 xs1)) (numV (.mk k2 n2 s2 xs2))) (addB (numV (.mk k1 n1 s1 xs1)) (numV (.mk k2 n2 s2 xs2))) []) := by
  have hr1 := numV_range (.mk k1 n1 s1 xs1)
  have hr2 := numV_range (.mk k2 n2 s2 xs2)
  have N1 := Lib.hid (NumberOf_impl k1 n1 s1 xs1 a1 l1 c1 F1)
  have N2 := Lib.hid (NumberOf_impl k2 n2 s2 xs2 a2 l2 c2 F2)
  generalize hx : numV (.mk k1 n1 s1 xs1) = x at *
  generalize hy : numV (.mk k2 n2 s2 xs2) = y at *
  clear hx hy
  obtain ⟨hx0, hx1⟩ := hr1
  obtain ⟨hy0, hy1⟩ := hr2
  have hbA : ∀ o1 o2 o3, Below w.heap.size w (((w.alloc o1).alloc o2).alloc o3) := fun o1 o2 o3 => (((Below.refl _ _).alloc (Nat.le_refl _) _).alloc (by simp) _).alloc (by simp; omega) _
  have HBA := Lib.hid hbA; clear hbA
  go_enter Try.func29, Try.ntmps29
  go_wp2_with fail
  refine (N1.out _ (RdS_ext h1 (HBA.out _ _ _)) hL1).mono ?_
  rintro e w1 ⟨rfl, hb1⟩
  have hb1' := (HBA.out _ _ _).trans (hb1.mono (by simp; omega))
  have hbox2 : w1.heap[w.heap.size + 1]? = some (.cells #[.int .i64 k2, .int .i64 n2, .string s2, .slice a2 l2 c2] 26 (0, 0)) := by
    rw [hb1.block _ (by simp), heap_old (by simp), heap_new (by simp)]
  have hboxr : w1.heap[w.heap.size + 1 + 1]? = some (.cells #[.int .i64 0, .int .i64 0, .string ByteArray.empty, .slice none 0 0] 26 (0, 0)) := by
    rw [hb1.block _ (by simp), heap_new (by simp)]; rfl
  have hs1 := heap_lt hboxr
  obtain ⟨q0, q1, q2, q3, _⟩ := box4 hbox2
  have HBR := Lib.hid hboxr
  clear hbox2 hboxr hb1
  go_wp2_with fail
  refine (N2.out _ (RdS_ext h2 hb1') hL2).mono ?_
  rintro e w2 ⟨rfl, hb2⟩
  have hb2' := hb1'.trans (hb2.mono hb1'.size)
  have hboxr : w2.heap[w.heap.size + 1 + 1]? = some (.cells #[.int .i64 0, .int .i64 0, .string ByteArray.empty, .slice none 0 0] 26 (0, 0)) := by
    rw [hb2.block _ hs1]; exact HBR.out
  have HBR2 := Lib.hid hboxr
  have hs2 := heap_lt hboxr
  obtain ⟨r0, r1, r2, r3, rf⟩ := box4 hboxr
  clear hboxr hb2 q0 q1 q2 q3
  have fin : x < 0 ∨ y < 0 → ∀ w', Below w.heap.size w w' → OutTB w (addR x y) (addB x y) [] (.returned (.tuple #[.agg #[.int .i64 0, .int .i64 0, .string ByteArray.empty, .slice none 0 0], .bool false])) w' := by
    intro hor w' hb
    simp only [addR, addB, if_pos hor]
    exact ⟨0, 0, ByteArray.empty, [], none, 0, 0, [], rfl, rfl, RdS_nil _ _ _, Grows.nil _ _ _, hb⟩
  by_cases hxn : x < 0
  · have FIN := Lib.hid (fin (.inl hxn)); clear fin
    go_wp2
    exact bodyPost_ret (v := .tuple #[.agg #[.int .i64 0, .int .i64 0, .string ByteArray.empty, .slice none 0 0], .bool false]) (results_term2 rfl _ _ (w.heap.size + 1 + 1) rfl rfl (heap_set4 HBR2.out)) rfl (FIN.out _ (hb2'.trans (below_set4 (by omega))))
  · by_cases hyn : y < 0
    · have FIN := Lib.hid (fin (.inr hyn)); clear fin
      go_wp2
      exact bodyPost_ret (v := .tuple #[.agg #[.int .i64 0, .int .i64 0, .string ByteArray.empty, .slice none 0 0], .bool false]) (results_term2 rfl _ _ (w.heap.size + 1 + 1) rfl rfl (heap_set4 HBR2.out)) rfl (FIN.out _ (hb2'.trans (below_set4 (by omega))))
    · clear fin
      have d1 : decide (y < 0) = false := by simpa using hyn
      have eR : Hid (addR x y = numeralR (x + y)) := by simp [Hid, addR, show ¬ (x < 0 ∨ y < 0) by omega]
      have eB : Hid (addB x y = numeralB (x + y)) := by simp [Hid, addB, show ¬ (x < 0 ∨ y < 0) by omega]
      go_wp2_with fail
      refine (NumeralOf_impl (x + y) _).mono ?_
      rintro e w3 ⟨k, n, s, xs, a, l, c, F, ht, rfl, hrd, hgr, hb3⟩
      have HT := Lib.hid ht; clear ht
      have hb3' := hb2'.trans (hb3.mono hb2'.size)
      have hboxr : w3.heap[w.heap.size + 1 + 1]? = some (.cells #[.int .i64 0, .int .i64 0, .string ByteArray.empty, .slice none 0 0] 26 (0, 0)) := by
        rw [hb3.block _ hs2]; exact HBR2.out
      have HBR3 := Lib.hid hboxr
      have hs3 := heap_lt hboxr
      obtain ⟨t0, t1, t2, t3, tf⟩ := box4 hboxr
      clear hboxr r0 r1 r2 r3 rf
      generalize hrb : numeralB (x + y) = rb at *
      have HRB := Lib.hid hrb; clear hrb
      go_wp2
      have hF : ∀ x ∈ F, w2.heap.size ≤ x := by
        intro z hz
        rcases hgr.mem z hz with h' | ⟨h', _⟩
        · simp at h'
        · exact h'
      have hout : OutTB w (addR x y) (addB x y) [] (.returned (.tuple #[.agg #[.int .i64 k, .int .i64 n, .string s, .slice a l c], .bool rb])) ((((w3.setCell ⟨w.heap.size + 1 + 1, 0, none⟩ (.int .i64 k)).setCell ⟨w.heap.size + 1 + 1, 1, none⟩ (.int .i64 n)).setCell ⟨w.heap.size + 1 + 1, 2, none⟩ (.string s)).setCell ⟨w.heap.size + 1 + 1, 3, none⟩ (.slice a l c)) := by
        rw [eB.out]
        refine OutTB_set (by rw [eR.out]; exact HT.out) hrd ⟨fun z hz => .inr ⟨by have := hF z hz; omega, by rcases hgr.mem z hz with h' | ⟨_, h'⟩; simp at h'; exact h'⟩, fun _ => hgr.nodup (by simp)⟩ hb3' (by omega) (fun z hz => by have := hF z hz; omega)
      refine bodyPost_ret (v := .tuple #[.agg #[.int .i64 k, .int .i64 n, .string s, .slice a l c], .bool rb]) (results_term2 rfl _ _ (w.heap.size + 1 + 1) rfl rfl ((heap_old (by simp [World.setCell]; omega)).trans (heap_set4 HBR3.out))) rfl (OutTB_later hout ((Below.refl _ _).alloc (Nat.le_refl _) _))

def SameT (t : Tm) : Prop := ∀ (k n : Int) (s : ByteArray) (xs : List Tm) (a1 a2 : Option Addr) (l1 c1 l2 c2 : Nat) (F1 F2 : List Nat) (w : World), t = .mk k n s xs → RdS w xs a1 l1 c1 F1 → RdS w xs a2 l2 c2 F2 →
  Calls Try.prog 30 #[.agg #[.int .i64 k, .int .i64 n, .string s, .slice a1 l1 c1], .agg #[.int .i64 k, .int .i64 n, .string s, .slice a2 l2 c2]] w (TrueB w)

set_option maxHeartbeats 1000000 in
set_option maxRecDepth 100000 in
theorem same_of (k n : Int) (s : ByteArray) (ts : List Tm) (hall : ∀ t ∈ ts, SameT t) (hmax : ts.length ≤ 1000000000000) : SameT (.mk k n s ts) := by
  intro k' n' s' xs' a1 a2 l1 c1 l2 c2 F1 F2 w ht h1 h2
  cases ht
  obtain ⟨b1, o1, G1, ha1, hl1, hG1, he1, _⟩ := RdS_each h1
  obtain ⟨b2, o2, G2, ha2, hl2, hG2, he2, _⟩ := RdS_each h2
  obtain rfl : l1 = l2 := by omega
  have HA1 := Lib.hid ha1; have HA2 := Lib.hid ha2; have HL := Lib.hid hl1
  have HE1 := Lib.hid he1; have HE2 := Lib.hid he2; have HALL := Lib.hid hall
  have hlm : l1 ≤ 1000000000000 := by omega
  clear ha1 ha2 hl1 hl2 he1 he2 hG1 hG2 hall hmax h1 h2
  go_enter Try.func30, Try.ntmps30
  go_wp2
  go_loopw [38] (fun i wr => ∃ j : Nat, j ≤ l1 ∧ i = .int .i64 j ∧ Below w.heap.size w wr ∧ wr.heap[w.heap.size + 1]? = some (.cells #[.int .i64 k, .int .i64 n, .string s, .slice a2 l1 c2] 26 (0, 0))) (fun i _ => l1 - (intOf i).toNat)
  case atStart => exact ⟨0, Nat.zero_le _, rfl, ((Below.refl _ _).alloc (Nat.le_refl _) _).alloc (by simp) _, heap_new (by simp)⟩
  case round =>
    obtain ⟨j, hj, rfl, hbel, hbox⟩ := hrel
    by_cases hlt : j < l1
    · obtain rfl := HA1.out (by omega)
      obtain rfl := HA2.out (by omega)
      obtain ⟨xk, xn, xs, xas, hx⟩ : ∃ xk xn xs xas, ts[j]? = some (.mk xk xn xs xas) := by
        have h1 : j < ts.length := by have := HL.out; omega
        cases hx : ts[j] with
        | mk xk xn xs xas => exact ⟨xk, xn, xs, xas, by simp [h1, hx]⟩
      have r1 := HE1.out j _ hx
      have r2 := HE2.out j _ hx
      rw [Rd_mk] at r1 r2
      obtain ⟨x0, x1, x2, xa, xl, xc, x3, hrx⟩ := r1
      obtain ⟨y0, y1, y2, ya, yl, yc, y3, hry⟩ := r2
      have hlt1 := cell_lt x0
      have hlt2 := cell_lt y0
      rw [← hbel.cell (p := ⟨b1, _, none⟩) hlt1, show o1 + 4 * j = o1 + j * 4 by omega] at x0 x1 x2 x3
      rw [← hbel.cell (p := ⟨b2, _, none⟩) hlt2, show o2 + 4 * j = o2 + j * 4 by omega] at y0 y1 y2 y3
      have hsb := heap_lt hbox
      have hs := hbel.size
      obtain ⟨q0, q1, q2, q3, _⟩ := box4 hbox
      have HX := Lib.hid hx; have HBOX := Lib.hid hbox; clear hx hbox
      go_wp2_with fail
      generalize hW : wr.alloc (.cells #[.int .i64 xk, .int .i64 xn, .string xs, .slice xa xl xc] 26) = W
      have hbW : Below wr.heap.size wr W := by rw [← hW]; exact (Below.refl _ _).alloc (Nat.le_refl _) _
      have hbWx : W.heap[wr.heap.size]? = some (.cells #[.int .i64 xk, .int .i64 xn, .string xs, .slice xa xl xc] 26 (0, 0)) := by rw [← hW]; exact heap_new rfl
      obtain ⟨p0, p1, p2, p3, _⟩ := box4 hbWx
      have hl2 : b2 < wr.heap.size := by omega
      rw [← hbW.cell (p := ⟨b2, _, none⟩) hl2] at y0 y1 y2 y3
      rw [← hbW.cell (p := ⟨w.heap.size + 1, _, none⟩) hsb] at q3
      have hbelW := hbel.trans (hbW.mono hbel.size)
      have hsW := hbW.size
      have hsx := heap_lt hbWx
      clear hW hbWx x0 x1 x2 x3 q0 q1 q2
      go_still_tail 6, (by kernel_rfl)
      go_wp2_with fail
      refine (HALL.out _ (List.mem_of_getElem? HX.out) _ _ _ _ _ _ _ _ _ _ _ _ _ rfl (RdS_ext (w' := W.drew) hrx hbelW.drew) (RdS_ext (w' := W.drew) hry hbelW.drew)).mono ?_
      rintro e w2 ⟨rfl, hb2⟩
      have hb2' : Below W.heap.size W w2 := below_of_drew hb2
      have hb3 : Below wr.heap.size wr w2 := hbW.trans (hb2'.mono hbW.size)
      clear p0 p1 p2 p3 y0 y1 y2 y3 hb2 hb2' q3
      go_wp2
      go_roundw
      case rel => exact ⟨j + 1, by omega, by go_num, hbel.trans (hb3.mono hbel.size), by rw [hb3.block _ hsb]; exact HBOX.out⟩
      case measure => simp [intOf]; omega
    · go_wp2
      go_ret
      exact ⟨rfl, hbel⟩
theorem same_all {t : Tm} (h : t.Lens) : SameT t := by
  induction h with
  | mk k n s xs _ h _ ih => exact same_of k n s xs ih h
end Go.Proofs.Ytjkabbkaeioibaa
