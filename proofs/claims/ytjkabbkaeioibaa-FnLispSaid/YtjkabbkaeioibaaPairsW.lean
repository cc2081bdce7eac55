/- Contracts of NumeralPairs, the program's and the reference's. -/
import Derived.Test.YtjkabbkaeioibaaPairs
import Derived.Test.YtjkabbkaeioibaaFresh
namespace Go.Proofs.Ytjkabbkaeioibaa
open Go.RowKit

def pairsTo (N j : Nat) : List (List Tm) := (List.range j).map fun i => [numeralT i, numeralT (N - i)]
theorem pairsTo_succ (N j : Nat) : pairsTo N (j + 1) = pairsTo N j ++ [[numeralT j, numeralT (N - j)]] := by simp [pairsTo, List.range_succ]
theorem pairsTo_len (N j : Nat) : (pairsTo N j).length = j := by simp [pairsTo]
def pairsR (n : Int) : List (List Tm) := if 0 ≤ n ∧ n ≤ 40 then pairsTo n.toNat (n.toNat + 1) else []

def OutSS (w : World) (tss : List (List Tm)) (e : Ending) (w' : World) : Prop :=
  ∃ a l c b Fs, e = .returned (.slice a l c) ∧ RdSS w' tss a l b Fs ∧ Fresh w w' Fs.flatten ∧ (0 < l → w.heap.size ≤ b) ∧ Below w.heap.size w w'

def PairsRel (w : World) (N : Nat) (iv v : Value) (wr : World) : Prop :=
  ∃ j : Nat, j ≤ N + 1 ∧ iv = .int .i64 j ∧ ∃ Fs, OwnSs 24 wr w.heap.size v (pairsTo N j) Fs ∧ Fresh w wr Fs.flatten ∧ Below w.heap.size w wr

/-- what one round leaves: two numerals, their row, a row of one slice, the append -/
theorem PairsRel_step {w wr w2 w3 w5 : World} {N j : Nat} (hj : j ≤ N) {v v' : Value} {Fs : List (List Nat)} {k1 n1 k2 n2 : Int} {s1 s2 : ByteArray} {xs1 xs2 : List Tm} {a1 a2 : Option Addr} {l1 c1 l2 c2 : Nat} {F1 F2 : List Nat}
    (hown : OwnSs 24 wr w.heap.size v (pairsTo N j) Fs) (hfr : Fresh w wr Fs.flatten) (hbel : Below w.heap.size w wr)
    (hb2 : Below wr.heap.size wr w2) (hf1 : Fresh wr w2 F1) (hb3 : Below w2.heap.size w2 w3) (hf2 : Fresh w2 w3 F2) (hr1 : RdS w3 xs1 a1 l1 c1 F1) (hr2 : RdS w3 xs2 a2 l2 c2 F2)
    (hg : ((w3.alloc (.cells #[.int .i64 k1, .int .i64 n1, .string s1, .slice a1 l1 c1, .int .i64 k2, .int .i64 n2, .string s2, .slice a2 l2 c2] 26)).alloc (.cells #[.slice (some ⟨w3.heap.size, 0, none⟩) 2 2] 24)).grownBy w5 v.ownBlock)
    (hown5 : OwnSs 24 w5 w.heap.size v' (pairsTo N j ++ [[.mk k1 n1 s1 xs1, .mk k2 n2 s2 xs2]]) (Fs ++ [w3.heap.size :: (F1 ++ F2)]))
    (h1 : numeralT j = .mk k1 n1 s1 xs1) (h2 : numeralT (N - j) = .mk k2 n2 s2 xs2) :
    PairsRel w N (.int .i64 ((j + 1 : Nat) : Int)) v' w5 := by
  have hb23 : Below wr.heap.size wr w3 := hb2.trans (hb3.mono hb2.size)
  have hb4 : ∀ o1 o2, Below w3.heap.size w3 ((w3.alloc o1).alloc o2) := fun o1 o2 => ((Below.refl _ _).alloc (Nat.le_refl _) _).alloc (by simp) _
  obtain ⟨es, hrow, hvs, hne⟩ := hown
  obtain ⟨es5, hrow5, hvs5, hne5⟩ := hown5
  have hlt := RdVss_lt hvs
  have hv : ∀ k, v.ownBlock = some k → w.heap.size ≤ k ∧ k < wr.heap.size := hrow.lt
  have hs1 := hb2.size
  have hs2 := hb3.size
  have keep : ∀ x, x < w3.heap.size → v.ownBlock ≠ some x → w5.heap[x]? = w3.heap[x]? := by
    intro x hx hnx
    rw [hg.block x (by simp; omega) (fun hh => hnx hh.symm), (hb4 _ _).block x hx]
  have keepN : ∀ x, wr.heap.size ≤ x → x < w3.heap.size → w5.heap[x]? = w3.heap[x]? := fun x h h' => keep x h' (fun hh => by have := hv x hh; omega)
  refine ⟨j + 1, by omega, rfl, Fs ++ [w3.heap.size :: (F1 ++ F2)], ?_, ?_, ?_⟩
  · rw [pairsTo_succ, h1, h2]; exact ⟨es5, hrow5, hvs5, hne5⟩
  · rw [List.flatten_append]
    refine Fresh.add hfr (fun x hx => ?_) hlt hbel.size ?_
    · rw [keep x (Nat.lt_of_lt_of_le (hlt x hx) hb23.size) (hne x hx), hb23.block x (hlt x hx)]
    · simp only [List.flatten_cons, List.flatten_nil, List.append_nil]
      have hl1 := RdS_lt hr1
      have hl2 := RdS_lt hr2
      refine ⟨List.nodup_cons.2 ⟨fun hm => ?_, List.nodup_append.2 ⟨hf1.1, hf2.1, fun x hx y hy => ?_⟩⟩, fun x hx => ?_⟩
      · rcases List.mem_append.1 hm with hm | hm
        · have := hl1 _ hm; omega
        · have := hl2 _ hm; omega
      · have hx2 : x < w2.heap.size := by obtain ⟨cs, T, h⟩ := (hf1.2 x hx).2; exact heap_lt h
        have := (hf2.2 y hy).1
        omega
      · rcases List.mem_cons.1 hx with rfl | hx
        · have hnew : w5.heap[w3.heap.size]? = some (.cells #[.int .i64 k1, .int .i64 n1, .string s1, .slice a1 l1 c1, .int .i64 k2, .int .i64 n2, .string s2, .slice a2 l2 c2] 26 (0, 0)) := by
            rw [hg.block _ (by simp; omega) (fun hh => by have := hv _ hh.symm; omega), heap_old (by simp), heap_new rfl]
          exact ⟨by omega, _, _, hnew⟩
        · rcases List.mem_append.1 hx with hx | hx
          · have h3 := hf1.2 x hx
            obtain ⟨cs, T, h4⟩ := h3.2
            exact ⟨h3.1, cs, T, by rw [keepN x h3.1 (hl1 x hx), hb3.block x (heap_lt h4)]; exact h4⟩
          · have h3 := hf2.2 x hx
            obtain ⟨cs, T, h4⟩ := h3.2
            exact ⟨by omega, cs, T, by rw [keepN x (by omega) (hl2 x hx)]; exact h4⟩
  · refine (hbel.trans (hb23.mono hbel.size)).trans ⟨hg.os, hg.tape, hg.output, ?_, fun x hx => ?_⟩
    · have := hg.size; simp at this; omega
    · have := hbel.size
      exact keep x (by omega) (fun hh => by have := hv x hh; omega)

set_option maxHeartbeats 1000000 in
set_option maxRecDepth 100000 in
theorem NumeralPairs_impl (n : Int) (w : World) : Calls Try.prog 24 #[.int .i64 n] w (OutSS w (pairsR n)) := by
  by_cases h : 0 ≤ n ∧ n ≤ 40
  · have e1 : pairsR n = pairsTo n.toNat (n.toNat + 1) := by simp [pairsR, h]
    rw [e1]
    obtain ⟨h1, h2⟩ := h
    obtain ⟨N, rfl⟩ := Int.eq_ofNat_of_zero_le h1
    rw [Int.toNat_natCast]
    clear e1
    have hN : N ≤ 40 := by omega
    clear h1 h2
    go_enter Try.func24, Try.ntmps24
    go_wp2_with fail
    go_loopw [3, 4] (fun v iv wr => PairsRel w N iv v wr) (fun _ iv _ => N + 1 - (intOf iv).toNat)
    case atStart =>
      refine ⟨0, Nat.zero_le _, rfl, [], OwnSs_empty (g := w.heap.size) (Nat.le_refl _) (heap_new rfl), ⟨by simp, by simp⟩, (Below.refl _ _).alloc (Nat.le_refl _) _⟩
    case round =>
      obtain ⟨j, hj, rfl, Fs, hown, hfr, hbel⟩ := hrel
      by_cases hlt : j ≤ N
      · go_wp2_with fail
        refine (numeralOf_any j _ (by omega)).mono ?_
        rintro e w2 ⟨k1, n1, s1, xs1, a1, l1, c1, F1, ht1, rfl, hrd1, hgr1, hb2⟩
        have HT1 := Lib.hid ht1; clear ht1
        go_wp2_with fail
        rw [show ((N : Int) - (j : Int)) = ((N - j : Nat) : Int) by omega]
        refine (numeralOf_any (N - j) _ (by omega)).mono ?_
        rintro e w3 ⟨k2, n2, s2, xs2, a2, l2, c2, F2, ht2, rfl, hrd2, hgr2, hb3⟩
        have HT2 := Lib.hid ht2; clear ht2
        have hb23 : Below wr.heap.size wr w3 := hb2.trans (hb3.mono hb2.size)
        have hown3 := OwnSs_below hown hb23
        have hr1 := RdS_ext hrd1 hb3
        have hbx : ∀ o1 o2, Below w3.heap.size w3 ((w3.alloc o1).alloc o2) := fun o1 o2 => ((Below.refl _ _).alloc (Nat.le_refl _) _).alloc (by simp) _
        have HBX := Lib.hid hbx; clear hbx
        have hs1 := hbel.size
        have hs2 := hb23.size
        have hv : ∀ x ∈ w3.heap.size :: (F1 ++ F2), u3.ownBlock ≠ some x := by
          intro x hx hh
          obtain ⟨es, hrow, _⟩ := hown
          have h1 := (hrow.lt x hh).2
          rcases List.mem_cons.1 hx with rfl | hx
          · omega
          · rcases List.mem_append.1 hx with hx | hx
            · have := (hgr1.fresh.2 x hx).1; omega
            · have := (hgr2.fresh.2 x hx).1; have := hb2.size; omega
        have HV := Lib.hid hv; clear hv
        have hlen : (pairsTo N j).length ≤ 1000 := by rw [pairsTo_len]; omega
        go_wp2_with (at_builtin; refine append_terms rfl _ _ rfl w.heap.size _ (pairsTo N j) Fs rfl (OwnSs_below hown3 (HBX.out _ _)) (w3.heap.size + 1) rfl ⟨some ⟨w3.heap.size, 0, none⟩, 2, 2⟩ [.mk k1 n1 s1 xs1, .mk k2 n2 s2 xs2] (w3.heap.size :: (F1 ++ F2)) _ _ (heap_new (by simp)) (RdS_two ((heap_old (by simp)).trans (heap_new rfl)) (Nat.le_refl _) (RdS_ext hr1 (HBX.out _ _)) (RdS_ext hrd2 (HBX.out _ _))) HV.out (by omega) (by simp; omega) ?_; intro v' w5 hown5 hgrow5)
        go_roundw
        case rel =>
          have := PairsRel_step hlt hown hfr hbel hb2 hgr1.fresh hb3 hgr2.fresh hr1 hrd2 hgrow5 hown5 HT1.out HT2.out
          rw [show (((j + 1 : Nat) : Int)) = (j : Int) + 1 by omega] at this
          exact this
        case measure => simp [intOf]; omega
      · obtain rfl : j = N + 1 := by omega
        obtain ⟨a, l, c, b, rfl, hrd, hb⟩ := OwnSs_rd hown
        go_wp2
        go_ret
        exact ⟨a, l, c, b, Fs, rfl, hrd, hfr, hb, hbel⟩
  · have e1 : pairsR n = [] := by simp [pairsR, h]
    rw [e1]
    clear e1
    have fin : OutSS w [] (.returned (.slice none 0 0)) w := ⟨none, 0, 0, 0, [], rfl, ⟨rfl, rfl, by simp, by simp⟩, ⟨by simp, by simp⟩, by simp, Below.refl _ _⟩
    have FIN := Lib.hid fin; clear fin
    by_cases h1 : n < 0
    · clear h
      go_enter Try.func24, Try.ntmps24
      go_wp2
      go_ret
      exact FIN.out
    · have h2 : 40 < n := by omega
      clear h
      go_enter Try.func24, Try.ntmps24
      go_wp2
      go_ret
      exact FIN.out

theorem numeralR_nat {N : Nat} (h : N ≤ 1000000000) : numeralR (N : Int) = numeralT N := by
  simp [numeralR]; omega

set_option maxHeartbeats 1000000 in
set_option maxRecDepth 100000 in
theorem NumeralPairs_spec (n : Int) (w : World) : Calls Try.prog 23 #[.int .i64 n] w (OutSS w (pairsR n)) := by
  by_cases h : 0 ≤ n ∧ n ≤ 40
  · have e1 : pairsR n = pairsTo n.toNat (n.toNat + 1) := by simp [pairsR, h]
    rw [e1]
    obtain ⟨h1, h2⟩ := h
    obtain ⟨N, rfl⟩ := Int.eq_ofNat_of_zero_le h1
    rw [Int.toNat_natCast]
    clear e1
    have hN : N ≤ 40 := by omega
    clear h1 h2
    go_enter Try.func23, Try.ntmps23
    go_wp2_with fail
    refine (l01In_true _ _ _ _ (by omega) (by omega)).mono ?_
    rintro e w1 ⟨rfl, rfl⟩
    go_wp2_with fail
    go_loopw [3, 4] (fun v iv wr => PairsRel w N iv v wr) (fun _ iv _ => N + 1 - (intOf iv).toNat)
    case atStart =>
      refine ⟨0, Nat.zero_le _, rfl, [], OwnSs_empty (g := w.heap.size) (Nat.le_refl _) (heap_new rfl), ⟨by simp, by simp⟩, (Below.refl _ _).alloc (Nat.le_refl _) _⟩
    case round =>
      obtain ⟨j, hj, rfl, Fs, hown, hfr, hbel⟩ := hrel
      by_cases hlt : j ≤ N
      · go_wp2_with fail
        refine (NumeralOf_spec j _).mono ?_
        rintro e w2 ⟨k1, n1, s1, xs1, a1, l1, c1, F1, ht1, rfl, hrd1, hgr1, hb2⟩
        rw [numeralR_nat (by omega)] at ht1
        have HT1 := Lib.hid ht1; clear ht1
        go_wp2_with fail
        rw [show ((N : Int) - (j : Int)) = ((N - j : Nat) : Int) by omega]
        refine (NumeralOf_spec (N - j : Nat) _).mono ?_
        rintro e w3 ⟨k2, n2, s2, xs2, a2, l2, c2, F2, ht2, rfl, hrd2, hgr2, hb3⟩
        rw [numeralR_nat (by omega)] at ht2
        have HT2 := Lib.hid ht2; clear ht2
        have hbox : w3.heap[w2.heap.size]? = some (.cells #[.int .i64 k1, .int .i64 n1, .string s1, .slice a1 l1 c1] 26 (0, 0)) := by
          rw [hb3.block _ (by simp)]; exact heap_new rfl
        obtain ⟨p0, p1, p2, p3, _⟩ := box4 hbox
        have plt := heap_lt hbox
        clear hbox
        have hbA : Below w2.heap.size w2 (w2.alloc (.cells #[.int .i64 k1, .int .i64 n1, .string s1, .slice a1 l1 c1] 26)) := (Below.refl _ _).alloc (Nat.le_refl _) _
        have hbC : Below w3.heap.size w3 (w3.alloc (.cells #[.int .i64 k2, .int .i64 n2, .string s2, .slice a2 l2 c2] 26)) := (Below.refl _ _).alloc (Nat.le_refl _) _
        have hb2A := hb2.trans (hbA.mono hb2.size)
        have hb3C := hb3.trans (hbC.mono hb3.size)
        have hf1 := hgr1.fresh.below hbA
        have hf2 := hgr2.fresh.below hbC
        have hr1 := RdS_ext (RdS_ext hrd1 hbA) hb3C
        have hr2 := RdS_ext hrd2 hbC
        have hb23 := hb2A.trans (hb3C.mono hb2A.size)
        have hown3 := OwnSs_below hown hb23
        generalize hW2 : w2.alloc (.cells #[.int .i64 k1, .int .i64 n1, .string s1, .slice a1 l1 c1] 26) = W2 at *
        have HW2 := Lib.hid hW2; clear hW2
        have hs1 := hbel.size
        have hs2 := hb23.size
        have hs3 := hb2A.size
        have hbx : ∀ o1 o2 o3, Below w3.heap.size w3 (((w3.alloc o1).alloc o2).alloc o3) := fun o1 o2 o3 => (((Below.refl _ _).alloc (Nat.le_refl _) _).alloc (by simp) _).alloc (by simp; omega) _
        have hbx2 : ∀ o1 o2 o3, Below (w3.alloc o1).heap.size (w3.alloc o1) (((w3.alloc o1).alloc o2).alloc o3) := fun o1 o2 o3 => ((Below.refl _ _).alloc (Nat.le_refl _) _).alloc (by simp) _
        have HBX := Lib.hid hbx2; clear hbx2 hbx
        have hv : ∀ x ∈ (w3.heap.size + 1) :: (F1 ++ F2), u3.ownBlock ≠ some x := by
          intro x hx hh
          obtain ⟨es, hrow, _⟩ := hown
          have h1 := (hrow.lt x hh).2
          simp at hs2
          rcases List.mem_cons.1 hx with rfl | hx
          · omega
          · rcases List.mem_append.1 hx with hx | hx
            · have := (hf1.2 x hx).1; omega
            · have := (hf2.2 x hx).1; omega
        have HV := Lib.hid hv; clear hv
        have hlen : (pairsTo N j).length ≤ 1000 := by rw [pairsTo_len]; omega
        simp only [World.size_alloc] at hs2
        clear hbA hbC hb2 hb3 hgr1 hgr2 hrd1 hrd2
        go_wp2_with (at_builtin; refine append_terms rfl _ _ rfl w.heap.size _ (pairsTo N j) Fs rfl (OwnSs_below hown3 (HBX.out _ _ _)) (w3.heap.size + 1 + 1) rfl ⟨some ⟨w3.heap.size + 1, 0, none⟩, 2, 2⟩ [.mk k1 n1 s1 xs1, .mk k2 n2 s2 xs2] ((w3.heap.size + 1) :: (F1 ++ F2)) _ _ (heap_new (by simp)) (RdS_two ((heap_old (by simp)).trans (heap_new (by simp))) (Nat.le_refl _) (RdS_ext hr1 (HBX.out _ _ _)) (RdS_ext hr2 (HBX.out _ _ _))) HV.out (by omega) (by simp; omega) ?_; intro v' w5 hown5 hgrow5)
        go_roundw
        case rel =>
          have hsz : (w3.alloc (.cells #[.int .i64 k2, .int .i64 n2, .string s2, .slice a2 l2 c2] 26)).heap.size = w3.heap.size + 1 := by simp
          have := PairsRel_step hlt hown hfr hbel hb2A hf1 hb3C hf2 hr1 hr2 (by rw [hsz]; exact hgrow5) (by rw [hsz]; exact hown5) HT1.out HT2.out
          rw [show (((j + 1 : Nat) : Int)) = (j : Int) + 1 by omega] at this
          exact this
        case measure => simp [intOf]; omega
      · obtain rfl : j = N + 1 := by omega
        obtain ⟨a, l, c, b, rfl, hrd, hb⟩ := OwnSs_rd hown
        go_wp2
        go_ret
        exact ⟨a, l, c, b, Fs, rfl, hrd, hfr, hb, hbel⟩
  · have e1 : pairsR n = [] := by simp [pairsR, h]
    rw [e1]
    clear e1
    have fin : OutSS w [] (.returned (.slice none 0 0)) w := ⟨none, 0, 0, 0, [], rfl, ⟨rfl, rfl, by simp, by simp⟩, ⟨by simp, by simp⟩, by simp, Below.refl _ _⟩
    have FIN := Lib.hid fin; clear fin
    have hor : n < 0 ∨ 40 < n := by omega
    have HOR := Lib.hid hor; clear hor h
    go_enter Try.func23, Try.ntmps23
    go_wp2_with fail
    refine (l01In_false _ _ _ _ HOR.out).mono ?_
    rintro e w1 ⟨rfl, rfl⟩
    go_wp2
    go_ret
    exact FIN.out
end Go.Proofs.Ytjkabbkaeioibaa
