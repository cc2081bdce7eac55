/- Contracts of the reference's l02Insert, l02Vars and IsGround. -/
import Derived.Test.YtjkabbkaeioibaaSpec3
import Derived.Laws.AppendOwnNone
namespace Go.Proofs.Ytjkabbkaeioibaa
open Go.RowKit

/-- a slice of ints, nil or not -/
def IntL (w : World) (a : Option Addr) (l c : Nat) (zs : List Int) : Prop :=
  l = zs.length ∧ l ≤ c ∧ ((a = none ∧ l = 0 ∧ c = 0) ∨ ∃ b o, a = some ⟨b, o, none⟩ ∧ b < w.heap.size ∧ ∀ j z, zs[j]? = some z → w.cell? ⟨b, o + j, none⟩ = some (.int .i64 z))
theorem IntL.below {w w' : World} {a : Option Addr} {l c : Nat} {zs : List Int} (h : IntL w a l c zs) (hb : Below w.heap.size w w') : IntL w' a l c zs := by
  obtain ⟨h1, h2, h3⟩ := h
  refine ⟨h1, h2, ?_⟩
  rcases h3 with h3 | ⟨b, o, rfl, h4, h5⟩
  · exact .inl h3
  · exact .inr ⟨b, o, rfl, Nat.lt_of_lt_of_le h4 hb.size, fun j z hz => (hb.cell (p := ⟨b, o + j, none⟩) h4).trans (h5 j z hz)⟩
theorem IntL_own {w : World} {base n : Nat} {zs : List Int} {v : Value} (h : w.ownsRow base 3 1 v n (zs.map (Value.int .i64))) (hn : n = zs.length) : ∃ a l c, v = .slice a l c ∧ IntL w a l c zs := by
  rcases h.2 with ⟨rfl, h0⟩ | ⟨g, cap, cur, rfl, hb, hg, hcap, _, hcs, htk⟩
  · exact ⟨none, 0, 0, rfl, by omega, Nat.le_refl _, .inl ⟨rfl, rfl, rfl⟩⟩
  · refine ⟨_, _, _, rfl, hn, hcap, .inr ⟨g, 0, rfl, heap_lt hg, fun j z hz => ?_⟩⟩
    have := h.cells (g := g) rfl j (.int .i64 z) (by simp [hz])
    have hadd : (⟨g, 0, none⟩ : Addr).add j = ⟨g, 0 + j, none⟩ := by unfold Addr.add; split <;> simp_all
    rw [hadd] at this; exact this
def InsP (w : World) (l : Nat) (e : Ending) (w' : World) : Prop := ∃ a' l' c' zs', e = .returned (.slice a' l' c') ∧ IntL w' a' l' c' zs' ∧ 1 ≤ l' ∧ l' ≤ l + 1 ∧ Below w.heap.size w w'
theorem info_int : (Try.prog.info? 3).map (fun i => (i.zero, i.size, i.bytes)) = some (some (.int .i64 0), 1, 8) := by kernel_rfl

theorem news1 {w : World} {g T : Nat} {fz : Nat × Nat} {u : Value} (hg : w.heap[g]? = some (.cells #[u] T fz)) : ∀ j x, [u][j]? = some x → w.cell? ((⟨g, 0, none⟩ : Addr).add j) = some x := by
  intro j x hj
  have hadd : (⟨g, 0, none⟩ : Addr).add j = ⟨g, j, none⟩ := by unfold Addr.add; split <;> simp_all
  rw [hadd, cell_of_block hg]
  simpa using hj
set_option maxHeartbeats 4000000 in
set_option maxRecDepth 100000 in
theorem insert_nil (n : Int) (w : World) : Calls Try.prog 111 #[.slice none 0 0, .int .i64 n] w (InsP w 0) := by
  obtain ⟨i0, hi, hz0, hz1, hz2⟩ := info_parts info_int
  have h0 : (w.alloc (.cells #[] 3)).ownsRow w.heap.size 3 1 (.slice (some ⟨w.heap.size, 0, none⟩) 0 0) 0 [] := ⟨by simp, .inr ⟨w.heap.size, 0, #[], rfl, Nat.le_refl _, heap_new rfl, Nat.le_refl _, Nat.zero_le _, by simp, by simp⟩⟩
  have H0 := Lib.hid h0; clear h0
  go_enter Try.func111, Try.ntmps111
  go_wp2_with fail
  go_loop [5] (fun kv => kv = .int .i64 0) (fun _ => 0)
  case atStart => rfl
  case round =>
    subst hrel
    go_upto_region 7 with (at_builtin; refine wpList_append_own_none rfl _ _ 103 rfl w.heap.size 3 i0 1 Try.underlying103 hi _ 0 [] rfl H0.out rfl ?_)
    go_upto_region 8 with (at_builtin; refine wpList_append_own _ rfl _ _ 103 rfl w.heap.size 3 i0 _ 1 8 Try.underlying103 hi hz0 hz1 hz2 rfl (by decide) _ 0 [] rfl (H0.out.alloc _) ⟨w.heap.size + 1, 0, none⟩ 1 1 [.int .i64 n] rfl rfl (news1 (heap_new (by simp))) (by simp [Value.oneCell']) (by unfold maxLen; omega) (by omega) (by simp; omega) ?_; intro v' w1 hown' hgrow hnil)
    have HO := Lib.hid hown'
    have hb1 : Below w.heap.size w w1 := (((Below.refl _ _).alloc (Nat.le_refl _) _).alloc (by simp) _).trans ⟨hgrow.os, hgrow.tape, hgrow.output, hgrow.size, fun x hx => hgrow.block x (by simp; omega) (fun hh => by have h' : some x = some w.heap.size := hh; simp at h'; omega)⟩
    obtain ⟨va, vl, vc, rfl, hI⟩ := IntL_own (zs := [n]) hown' rfl
    have HVL := Lib.hid hI.1
    clear hown' hgrow hnil
    go_wp2_with (at_builtin; refine wpList_append_own_none rfl _ _ 103 rfl w.heap.size 3 i0 1 Try.underlying103 hi _ _ _ rfl HO.out rfl ?_)
    go_ret
    have hvl := HVL.out
    exact ⟨va, vl, vc, [n], rfl, hI, by simp at hvl; omega, by simp at hvl; omega, hb1⟩
set_option maxHeartbeats 8000000 in
set_option maxRecDepth 100000 in
theorem insert_some (b o l c : Nat) (zs : List Int) (n : Int) (w : World) (hL : l = zs.length) (hlc : l ≤ c) (hl5 : l ≤ 100000) (hbl : b < w.heap.size) (hc : ∀ j z, zs[j]? = some z → w.cell? ⟨b, o + j, none⟩ = some (.int .i64 z)) :
    Calls Try.prog 111 #[.slice (some ⟨b, o, none⟩) l c, .int .i64 n] w (InsP w l) := by
  obtain ⟨i0, hi, hz0, hz1, hz2⟩ := info_parts info_int
  have h0 : (w.alloc (.cells #[] 3)).ownsRow w.heap.size 3 1 (.slice (some ⟨w.heap.size, 0, none⟩) 0 0) 0 [] := ⟨by simp, .inr ⟨w.heap.size, 0, #[], rfl, Nat.le_refl _, heap_new rfl, Nat.le_refl _, Nat.zero_le _, by simp, by simp⟩⟩
  have H0 := Lib.hid h0; have HL := Lib.hid hL; have HC := Lib.hid hc
  clear h0 hL hc
  go_enter Try.func111, Try.ntmps111
  go_wp2_with fail
  go_loop [5] (fun kv => ∃ k : Nat, k ≤ l ∧ kv = .int .i64 k) (fun kv => (intOf kv).toNat)
  case atStart => exact ⟨l, Nat.le_refl _, rfl⟩
  case round =>
    obtain ⟨k, hk, rfl⟩ := hrel
    by_cases hk0 : k = 0
    case pos =>
      have d0 : decide ((0 : Int) < (k : Int)) = false := by simp; omega
      have d1 : decide (0 < k) = false := by simp; omega
      go_upto_region 4 with fail
      clear d0 d1 hk0
      by_cases hkl : k < l
      case neg =>
        obtain rfl : l = k := by omega
        have dkl : decide ((l : Int) < (l : Int)) = false := by simp
        have dkl2 : decide (l < l) = false := by simp
        clear hkl
        have HT1 : Hid (((zs.take l).map (Value.int .i64)).length = l * 1) := by show _ = _; have := HL.out; simp; omega
        have HT2 : Hid (∀ j u, ((zs.take l).map (Value.int .i64))[j]? = some u → (w.alloc (.cells #[] 3)).cell? ((⟨b, o, none⟩ : Addr).add j) = some u) := by
          intro j u hj
          rw [add_plain]
          have hb := ((Below.refl w.heap.size w).alloc (Nat.le_refl _) (.cells #[] 3)).cell (p := ⟨b, o + j, none⟩) hbl
          rw [hb]
          rw [List.getElem?_map, Option.map_eq_some_iff] at hj
          obtain ⟨z, hz, rfl⟩ := hj
          have hjk : j < l := by
            have := (List.getElem?_eq_some_iff.1 hz).1
            simp at this; omega
          rw [List.getElem?_take_of_lt hjk] at hz
          exact HC.out j z hz
        have HT3 : Hid (∀ u ∈ (zs.take l).map (Value.int .i64), u.oneCell' = true) := by intro u hu; obtain ⟨z, _, rfl⟩ := List.mem_map.1 hu; rfl
        have HT4 : Hid (((zs.drop l).map (Value.int .i64)).length = 0 * 1) := by show _ = _; have := HL.out; simp; omega
        have HT6 : Hid (∀ u ∈ (zs.drop l).map (Value.int .i64), u.oneCell' = true) := by intro u hu; obtain ⟨z, _, rfl⟩ := List.mem_map.1 hu; rfl
        by_cases hkc' : l = c
        · subst hkc'
          go_upto_region 7 with (at_builtin; refine wpList_append_own _ rfl _ _ 103 rfl w.heap.size 3 i0 _ 1 8 Try.underlying103 hi hz0 hz1 hz2 rfl (by decide) _ 0 [] rfl H0.out ⟨b, o, none⟩ l l ((zs.take l).map (Value.int .i64)) rfl HT1.out HT2.out HT3.out (by unfold maxLen; omega) (by omega) (by simp) ?_; intro v1 w1 hown1 hgrow1 hnil1)
          have HO1 := Lib.hid hown1
          have hb1 : Below w.heap.size w w1 := ((Below.refl _ _).alloc (Nat.le_refl _) _).trans ⟨hgrow1.os, hgrow1.tape, hgrow1.output, hgrow1.size, fun x hx => hgrow1.block x (by simp; omega) (fun hh => by have h' : some x = some w.heap.size := hh; simp at h'; omega)⟩
          have hw1 := hb1.size
          clear hown1 hgrow1 hnil1
          go_upto_region 8 with (at_builtin; refine wpList_append_own _ rfl _ _ 103 rfl w.heap.size 3 i0 _ 1 8 Try.underlying103 hi hz0 hz1 hz2 rfl (by decide) _ _ _ rfl (HO1.out.alloc _) ⟨w1.heap.size, 0, none⟩ 1 1 [.int .i64 n] rfl rfl (news1 (heap_new rfl)) (by simp [Value.oneCell']) (by unfold maxLen; omega) (by omega) (by simp; omega) ?_; intro v2 w2 hown2 hgrow2 hnil2)
          have HO2 := Lib.hid hown2
          have hb2 : Below w.heap.size w w2 := hb1.trans (((Below.refl _ _).alloc hw1 _).trans ⟨hgrow2.os, hgrow2.tape, hgrow2.output, hgrow2.size, fun x hx => hgrow2.block x (by simp; omega) (fun hh => by have h' := (HO1.out.lt x hh.symm).1; omega)⟩)
          have hw2 := hb2.size
          have HT5 : Hid (∀ j u, ((zs.drop l).map (Value.int .i64))[j]? = some u → w2.cell? ((⟨b, o, none⟩ : Addr).add j) = some u) := by
            intro j u hj
            rw [List.drop_eq_nil_of_le (by have := HL.out; omega)] at hj
            simp at hj
          clear hown2 hgrow2 hnil2
          go_wp2_with (at_builtin; refine wpList_append_own _ rfl _ _ 103 rfl w.heap.size 3 i0 _ 1 8 Try.underlying103 hi hz0 hz1 hz2 rfl (by decide) _ _ _ rfl HO2.out ⟨b, o, none⟩ 0 0 ((zs.drop l).map (Value.int .i64)) rfl HT4.out HT5.out HT6.out (by unfold maxLen; omega) (by omega) (by omega) ?_; intro v3 w3 hown3 hgrow3 hnil3)
          have hb3 : Below w.heap.size w w3 := hb2.trans ⟨hgrow3.os, hgrow3.tape, hgrow3.output, hgrow3.size, fun x hx => hgrow3.block x (by omega) (fun hh => by have h' := (HO2.out.lt x hh.symm).1; omega)⟩
          have hown4 : w3.ownsRow w.heap.size 3 1 v3 (0 + l + 1 + 0) ((zs.take l ++ [n] ++ zs.drop l).map (Value.int .i64)) := by simpa using hown3
          obtain ⟨va, vl, vc, rfl, hI⟩ := IntL_own (zs := zs.take l ++ [n] ++ zs.drop l) hown4 (by have := HL.out; simp; omega)
          have HVL := Lib.hid hI.1
          clear hown3 hgrow3 hnil3 hown4
          go_ret
          have hvl := HVL.out
          exact ⟨va, vl, vc, _, rfl, hI, by simp at hvl; omega, by have := HL.out; simp at hvl; omega, hb3⟩
        · have hkc2 : l < c := by omega
          clear hkc'
          go_upto_region 7 with (at_builtin; refine wpList_append_own _ rfl _ _ 103 rfl w.heap.size 3 i0 _ 1 8 Try.underlying103 hi hz0 hz1 hz2 rfl (by decide) _ 0 [] rfl H0.out ⟨b, o, none⟩ l c ((zs.take l).map (Value.int .i64)) rfl HT1.out HT2.out HT3.out (by unfold maxLen; omega) (by omega) (by simp) ?_; intro v1 w1 hown1 hgrow1 hnil1)
          have HO1 := Lib.hid hown1
          have hb1 : Below w.heap.size w w1 := ((Below.refl _ _).alloc (Nat.le_refl _) _).trans ⟨hgrow1.os, hgrow1.tape, hgrow1.output, hgrow1.size, fun x hx => hgrow1.block x (by simp; omega) (fun hh => by have h' : some x = some w.heap.size := hh; simp at h'; omega)⟩
          have hw1 := hb1.size
          clear hown1 hgrow1 hnil1
          go_upto_region 8 with (at_builtin; refine wpList_append_own _ rfl _ _ 103 rfl w.heap.size 3 i0 _ 1 8 Try.underlying103 hi hz0 hz1 hz2 rfl (by decide) _ _ _ rfl (HO1.out.alloc _) ⟨w1.heap.size, 0, none⟩ 1 1 [.int .i64 n] rfl rfl (news1 (heap_new rfl)) (by simp [Value.oneCell']) (by unfold maxLen; omega) (by omega) (by simp; omega) ?_; intro v2 w2 hown2 hgrow2 hnil2)
          have HO2 := Lib.hid hown2
          have hb2 : Below w.heap.size w w2 := hb1.trans (((Below.refl _ _).alloc hw1 _).trans ⟨hgrow2.os, hgrow2.tape, hgrow2.output, hgrow2.size, fun x hx => hgrow2.block x (by simp; omega) (fun hh => by have h' := (HO1.out.lt x hh.symm).1; omega)⟩)
          have hw2 := hb2.size
          have HT5 : Hid (∀ j u, ((zs.drop l).map (Value.int .i64))[j]? = some u → w2.cell? ((⟨b, o + l, none⟩ : Addr).add j) = some u) := by
            intro j u hj
            rw [List.getElem?_map, Option.map_eq_some_iff] at hj
            obtain ⟨z, hz, rfl⟩ := hj
            rw [List.getElem?_drop] at hz
            rw [add_plain, Nat.add_assoc]
            exact (hb2.cell (p := ⟨b, o + (l + j), none⟩) hbl).trans (HC.out (l + j) z hz)
          clear hown2 hgrow2 hnil2
          go_wp2_with (at_builtin; refine wpList_append_own _ rfl _ _ 103 rfl w.heap.size 3 i0 _ 1 8 Try.underlying103 hi hz0 hz1 hz2 rfl (by decide) _ _ _ rfl HO2.out ⟨b, o + l, none⟩ 0 (c - l) ((zs.drop l).map (Value.int .i64)) rfl HT4.out HT5.out HT6.out (by unfold maxLen; omega) (by omega) (by omega) ?_; intro v3 w3 hown3 hgrow3 hnil3)
          have hb3 : Below w.heap.size w w3 := hb2.trans ⟨hgrow3.os, hgrow3.tape, hgrow3.output, hgrow3.size, fun x hx => hgrow3.block x (by omega) (fun hh => by have h' := (HO2.out.lt x hh.symm).1; omega)⟩
          have hown4 : w3.ownsRow w.heap.size 3 1 v3 (0 + l + 1 + 0) ((zs.take l ++ [n] ++ zs.drop l).map (Value.int .i64)) := by simpa using hown3
          obtain ⟨va, vl, vc, rfl, hI⟩ := IntL_own (zs := zs.take l ++ [n] ++ zs.drop l) hown4 (by have := HL.out; simp; omega)
          have HVL := Lib.hid hI.1
          clear hown3 hgrow3 hnil3 hown4
          go_ret
          have hvl := HVL.out
          exact ⟨va, vl, vc, _, rfl, hI, by simp at hvl; omega, by have := HL.out; simp at hvl; omega, hb3⟩
      obtain ⟨z, hz⟩ : ∃ z, zs[k]? = some z := ⟨zs[k]'(by have := HL.out; omega), by simp⟩
      have hcz := HC.out k z hz
      clear hz
      by_cases heq : z = n
      case pos =>
        subst heq
        go_wp2
        go_ret
        exact ⟨_, l, c, zs, rfl, ⟨HL.out, hlc, .inr ⟨b, o, rfl, hbl, HC.out⟩⟩, by omega, by omega, Below.refl _ _⟩
      have deq : (z == n) = false := by simpa using heq
      clear heq
      have hkc2 : k < c := by omega
      have HT1 : Hid (((zs.take k).map (Value.int .i64)).length = k * 1) := by show _ = _; have := HL.out; simp; omega
      have HT2 : Hid (∀ j u, ((zs.take k).map (Value.int .i64))[j]? = some u → (w.alloc (.cells #[] 3)).cell? ((⟨b, o, none⟩ : Addr).add j) = some u) := by
        intro j u hj
        rw [add_plain]
        have hb := ((Below.refl w.heap.size w).alloc (Nat.le_refl _) (.cells #[] 3)).cell (p := ⟨b, o + j, none⟩) hbl
        rw [hb]
        rw [List.getElem?_map, Option.map_eq_some_iff] at hj
        obtain ⟨z, hz, rfl⟩ := hj
        have hjk : j < k := by
          have := (List.getElem?_eq_some_iff.1 hz).1
          simp at this; omega
        rw [List.getElem?_take_of_lt hjk] at hz
        exact HC.out j z hz
      have HT3 : Hid (∀ u ∈ (zs.take k).map (Value.int .i64), u.oneCell' = true) := by intro u hu; obtain ⟨z, _, rfl⟩ := List.mem_map.1 hu; rfl
      have HT4 : Hid (((zs.drop k).map (Value.int .i64)).length = (l - k) * 1) := by show _ = _; have := HL.out; simp; omega
      have HT6 : Hid (∀ u ∈ (zs.drop k).map (Value.int .i64), u.oneCell' = true) := by intro u hu; obtain ⟨z, _, rfl⟩ := List.mem_map.1 hu; rfl
      go_upto_region 7 with (at_builtin; refine wpList_append_own _ rfl _ _ 103 rfl w.heap.size 3 i0 _ 1 8 Try.underlying103 hi hz0 hz1 hz2 rfl (by decide) _ 0 [] rfl H0.out ⟨b, o, none⟩ k c ((zs.take k).map (Value.int .i64)) rfl HT1.out HT2.out HT3.out (by unfold maxLen; omega) (by omega) (by simp) ?_; intro v1 w1 hown1 hgrow1 hnil1)
      have HO1 := Lib.hid hown1
      have hb1 : Below w.heap.size w w1 := ((Below.refl _ _).alloc (Nat.le_refl _) _).trans ⟨hgrow1.os, hgrow1.tape, hgrow1.output, hgrow1.size, fun x hx => hgrow1.block x (by simp; omega) (fun hh => by have h' : some x = some w.heap.size := hh; simp at h'; omega)⟩
      have hw1 := hb1.size
      clear hown1 hgrow1 hnil1
      go_upto_region 8 with (at_builtin; refine wpList_append_own _ rfl _ _ 103 rfl w.heap.size 3 i0 _ 1 8 Try.underlying103 hi hz0 hz1 hz2 rfl (by decide) _ _ _ rfl (HO1.out.alloc _) ⟨w1.heap.size, 0, none⟩ 1 1 [.int .i64 n] rfl rfl (news1 (heap_new rfl)) (by simp [Value.oneCell']) (by unfold maxLen; omega) (by omega) (by simp; omega) ?_; intro v2 w2 hown2 hgrow2 hnil2)
      have HO2 := Lib.hid hown2
      have hb2 : Below w.heap.size w w2 := hb1.trans (((Below.refl _ _).alloc hw1 _).trans ⟨hgrow2.os, hgrow2.tape, hgrow2.output, hgrow2.size, fun x hx => hgrow2.block x (by simp; omega) (fun hh => by have h' := (HO1.out.lt x hh.symm).1; omega)⟩)
      have hw2 := hb2.size
      have HT5 : Hid (∀ j u, ((zs.drop k).map (Value.int .i64))[j]? = some u → w2.cell? ((⟨b, o + k, none⟩ : Addr).add j) = some u) := by
        intro j u hj
        rw [List.getElem?_map, Option.map_eq_some_iff] at hj
        obtain ⟨z, hz, rfl⟩ := hj
        rw [List.getElem?_drop] at hz
        rw [add_plain, Nat.add_assoc]
        exact (hb2.cell (p := ⟨b, o + (k + j), none⟩) hbl).trans (HC.out (k + j) z hz)
      clear hown2 hgrow2 hnil2
      go_wp2_with (at_builtin; refine wpList_append_own _ rfl _ _ 103 rfl w.heap.size 3 i0 _ 1 8 Try.underlying103 hi hz0 hz1 hz2 rfl (by decide) _ _ _ rfl HO2.out ⟨b, o + k, none⟩ (l - k) (c - k) ((zs.drop k).map (Value.int .i64)) rfl HT4.out HT5.out HT6.out (by unfold maxLen; omega) (by omega) (by omega) ?_; intro v3 w3 hown3 hgrow3 hnil3)
      have hb3 : Below w.heap.size w w3 := hb2.trans ⟨hgrow3.os, hgrow3.tape, hgrow3.output, hgrow3.size, fun x hx => hgrow3.block x (by omega) (fun hh => by have h' := (HO2.out.lt x hh.symm).1; omega)⟩
      have hown4 : w3.ownsRow w.heap.size 3 1 v3 (0 + k + 1 + (l - k)) ((zs.take k ++ [n] ++ zs.drop k).map (Value.int .i64)) := by simpa using hown3
      obtain ⟨va, vl, vc, rfl, hI⟩ := IntL_own (zs := zs.take k ++ [n] ++ zs.drop k) hown4 (by have := HL.out; simp; omega)
      have HVL := Lib.hid hI.1
      clear hown3 hgrow3 hnil3 hown4
      go_ret
      have hvl := HVL.out
      exact ⟨va, vl, vc, _, rfl, hI, by simp at hvl; omega, by have := HL.out; simp at hvl; omega, hb3⟩
    obtain ⟨i, rfl⟩ : ∃ i, k = i + 1 := ⟨k - 1, by omega⟩
    obtain ⟨y, hy⟩ : ∃ y, zs[i]? = some y := ⟨zs[i]'(by have := HL.out; omega), by simp⟩
    have hcy := HC.out i y hy
    have hsub : ((i + 1 : Nat) : Int) - 1 = (i : Int) := by omega
    clear hy hk0
    by_cases hge : n ≤ y
    case pos =>
      go_wp2
      go_round
      case rel => exact ⟨i, by omega, by go_num⟩
      case measure => simp [intOf]
    have hlt : y < n := by omega
    clear hge
    go_upto_region 4 with fail
    obtain ⟨k, hkk⟩ : ∃ k : Nat, k = i + 1 := ⟨_, rfl⟩
    have e1 : ((i : Int) + 1) = (k : Int) := by omega
    have e2 : ((i + 1 : Nat) : Int) = (k : Int) := by omega
    first | rw [e1] | rw [e2]
    have hk' : k ≤ l := by omega
    clear e1 e2 hsub hcy hlt hk hkk
    have hk := hk'
    clear hk'
    by_cases hkl : k < l
    case neg =>
      obtain rfl : l = k := by omega
      have dkl : decide ((l : Int) < (l : Int)) = false := by simp
      have dkl2 : decide (l < l) = false := by simp
      clear hkl
      have HT1 : Hid (((zs.take l).map (Value.int .i64)).length = l * 1) := by show _ = _; have := HL.out; simp; omega
      have HT2 : Hid (∀ j u, ((zs.take l).map (Value.int .i64))[j]? = some u → (w.alloc (.cells #[] 3)).cell? ((⟨b, o, none⟩ : Addr).add j) = some u) := by
        intro j u hj
        rw [add_plain]
        have hb := ((Below.refl w.heap.size w).alloc (Nat.le_refl _) (.cells #[] 3)).cell (p := ⟨b, o + j, none⟩) hbl
        rw [hb]
        rw [List.getElem?_map, Option.map_eq_some_iff] at hj
        obtain ⟨z, hz, rfl⟩ := hj
        have hjk : j < l := by
          have := (List.getElem?_eq_some_iff.1 hz).1
          simp at this; omega
        rw [List.getElem?_take_of_lt hjk] at hz
        exact HC.out j z hz
      have HT3 : Hid (∀ u ∈ (zs.take l).map (Value.int .i64), u.oneCell' = true) := by intro u hu; obtain ⟨z, _, rfl⟩ := List.mem_map.1 hu; rfl
      have HT4 : Hid (((zs.drop l).map (Value.int .i64)).length = 0 * 1) := by show _ = _; have := HL.out; simp; omega
      have HT6 : Hid (∀ u ∈ (zs.drop l).map (Value.int .i64), u.oneCell' = true) := by intro u hu; obtain ⟨z, _, rfl⟩ := List.mem_map.1 hu; rfl
      by_cases hkc' : l = c
      · subst hkc'
        go_upto_region 7 with (at_builtin; refine wpList_append_own _ rfl _ _ 103 rfl w.heap.size 3 i0 _ 1 8 Try.underlying103 hi hz0 hz1 hz2 rfl (by decide) _ 0 [] rfl H0.out ⟨b, o, none⟩ l l ((zs.take l).map (Value.int .i64)) rfl HT1.out HT2.out HT3.out (by unfold maxLen; omega) (by omega) (by simp) ?_; intro v1 w1 hown1 hgrow1 hnil1)
        have HO1 := Lib.hid hown1
        have hb1 : Below w.heap.size w w1 := ((Below.refl _ _).alloc (Nat.le_refl _) _).trans ⟨hgrow1.os, hgrow1.tape, hgrow1.output, hgrow1.size, fun x hx => hgrow1.block x (by simp; omega) (fun hh => by have h' : some x = some w.heap.size := hh; simp at h'; omega)⟩
        have hw1 := hb1.size
        clear hown1 hgrow1 hnil1
        go_upto_region 8 with (at_builtin; refine wpList_append_own _ rfl _ _ 103 rfl w.heap.size 3 i0 _ 1 8 Try.underlying103 hi hz0 hz1 hz2 rfl (by decide) _ _ _ rfl (HO1.out.alloc _) ⟨w1.heap.size, 0, none⟩ 1 1 [.int .i64 n] rfl rfl (news1 (heap_new rfl)) (by simp [Value.oneCell']) (by unfold maxLen; omega) (by omega) (by simp; omega) ?_; intro v2 w2 hown2 hgrow2 hnil2)
        have HO2 := Lib.hid hown2
        have hb2 : Below w.heap.size w w2 := hb1.trans (((Below.refl _ _).alloc hw1 _).trans ⟨hgrow2.os, hgrow2.tape, hgrow2.output, hgrow2.size, fun x hx => hgrow2.block x (by simp; omega) (fun hh => by have h' := (HO1.out.lt x hh.symm).1; omega)⟩)
        have hw2 := hb2.size
        have HT5 : Hid (∀ j u, ((zs.drop l).map (Value.int .i64))[j]? = some u → w2.cell? ((⟨b, o, none⟩ : Addr).add j) = some u) := by
          intro j u hj
          rw [List.drop_eq_nil_of_le (by have := HL.out; omega)] at hj
          simp at hj
        clear hown2 hgrow2 hnil2
        go_wp2_with (at_builtin; refine wpList_append_own _ rfl _ _ 103 rfl w.heap.size 3 i0 _ 1 8 Try.underlying103 hi hz0 hz1 hz2 rfl (by decide) _ _ _ rfl HO2.out ⟨b, o, none⟩ 0 0 ((zs.drop l).map (Value.int .i64)) rfl HT4.out HT5.out HT6.out (by unfold maxLen; omega) (by omega) (by omega) ?_; intro v3 w3 hown3 hgrow3 hnil3)
        have hb3 : Below w.heap.size w w3 := hb2.trans ⟨hgrow3.os, hgrow3.tape, hgrow3.output, hgrow3.size, fun x hx => hgrow3.block x (by omega) (fun hh => by have h' := (HO2.out.lt x hh.symm).1; omega)⟩
        have hown4 : w3.ownsRow w.heap.size 3 1 v3 (0 + l + 1 + 0) ((zs.take l ++ [n] ++ zs.drop l).map (Value.int .i64)) := by simpa using hown3
        obtain ⟨va, vl, vc, rfl, hI⟩ := IntL_own (zs := zs.take l ++ [n] ++ zs.drop l) hown4 (by have := HL.out; simp; omega)
        have HVL := Lib.hid hI.1
        clear hown3 hgrow3 hnil3 hown4
        go_ret
        have hvl := HVL.out
        exact ⟨va, vl, vc, _, rfl, hI, by simp at hvl; omega, by have := HL.out; simp at hvl; omega, hb3⟩
      · have hkc2 : l < c := by omega
        clear hkc'
        go_upto_region 7 with (at_builtin; refine wpList_append_own _ rfl _ _ 103 rfl w.heap.size 3 i0 _ 1 8 Try.underlying103 hi hz0 hz1 hz2 rfl (by decide) _ 0 [] rfl H0.out ⟨b, o, none⟩ l c ((zs.take l).map (Value.int .i64)) rfl HT1.out HT2.out HT3.out (by unfold maxLen; omega) (by omega) (by simp) ?_; intro v1 w1 hown1 hgrow1 hnil1)
        have HO1 := Lib.hid hown1
        have hb1 : Below w.heap.size w w1 := ((Below.refl _ _).alloc (Nat.le_refl _) _).trans ⟨hgrow1.os, hgrow1.tape, hgrow1.output, hgrow1.size, fun x hx => hgrow1.block x (by simp; omega) (fun hh => by have h' : some x = some w.heap.size := hh; simp at h'; omega)⟩
        have hw1 := hb1.size
        clear hown1 hgrow1 hnil1
        go_upto_region 8 with (at_builtin; refine wpList_append_own _ rfl _ _ 103 rfl w.heap.size 3 i0 _ 1 8 Try.underlying103 hi hz0 hz1 hz2 rfl (by decide) _ _ _ rfl (HO1.out.alloc _) ⟨w1.heap.size, 0, none⟩ 1 1 [.int .i64 n] rfl rfl (news1 (heap_new rfl)) (by simp [Value.oneCell']) (by unfold maxLen; omega) (by omega) (by simp; omega) ?_; intro v2 w2 hown2 hgrow2 hnil2)
        have HO2 := Lib.hid hown2
        have hb2 : Below w.heap.size w w2 := hb1.trans (((Below.refl _ _).alloc hw1 _).trans ⟨hgrow2.os, hgrow2.tape, hgrow2.output, hgrow2.size, fun x hx => hgrow2.block x (by simp; omega) (fun hh => by have h' := (HO1.out.lt x hh.symm).1; omega)⟩)
        have hw2 := hb2.size
        have HT5 : Hid (∀ j u, ((zs.drop l).map (Value.int .i64))[j]? = some u → w2.cell? ((⟨b, o + l, none⟩ : Addr).add j) = some u) := by
          intro j u hj
          rw [List.getElem?_map, Option.map_eq_some_iff] at hj
          obtain ⟨z, hz, rfl⟩ := hj
          rw [List.getElem?_drop] at hz
          rw [add_plain, Nat.add_assoc]
          exact (hb2.cell (p := ⟨b, o + (l + j), none⟩) hbl).trans (HC.out (l + j) z hz)
        clear hown2 hgrow2 hnil2
        go_wp2_with (at_builtin; refine wpList_append_own _ rfl _ _ 103 rfl w.heap.size 3 i0 _ 1 8 Try.underlying103 hi hz0 hz1 hz2 rfl (by decide) _ _ _ rfl HO2.out ⟨b, o + l, none⟩ 0 (c - l) ((zs.drop l).map (Value.int .i64)) rfl HT4.out HT5.out HT6.out (by unfold maxLen; omega) (by omega) (by omega) ?_; intro v3 w3 hown3 hgrow3 hnil3)
        have hb3 : Below w.heap.size w w3 := hb2.trans ⟨hgrow3.os, hgrow3.tape, hgrow3.output, hgrow3.size, fun x hx => hgrow3.block x (by omega) (fun hh => by have h' := (HO2.out.lt x hh.symm).1; omega)⟩
        have hown4 : w3.ownsRow w.heap.size 3 1 v3 (0 + l + 1 + 0) ((zs.take l ++ [n] ++ zs.drop l).map (Value.int .i64)) := by simpa using hown3
        obtain ⟨va, vl, vc, rfl, hI⟩ := IntL_own (zs := zs.take l ++ [n] ++ zs.drop l) hown4 (by have := HL.out; simp; omega)
        have HVL := Lib.hid hI.1
        clear hown3 hgrow3 hnil3 hown4
        go_ret
        have hvl := HVL.out
        exact ⟨va, vl, vc, _, rfl, hI, by simp at hvl; omega, by have := HL.out; simp at hvl; omega, hb3⟩
    obtain ⟨z, hz⟩ : ∃ z, zs[k]? = some z := ⟨zs[k]'(by have := HL.out; omega), by simp⟩
    have hcz := HC.out k z hz
    clear hz
    by_cases heq : z = n
    case pos =>
      subst heq
      go_wp2
      go_ret
      exact ⟨_, l, c, zs, rfl, ⟨HL.out, hlc, .inr ⟨b, o, rfl, hbl, HC.out⟩⟩, by omega, by omega, Below.refl _ _⟩
    have deq : (z == n) = false := by simpa using heq
    clear heq
    have hkc2 : k < c := by omega
    have HT1 : Hid (((zs.take k).map (Value.int .i64)).length = k * 1) := by show _ = _; have := HL.out; simp; omega
    have HT2 : Hid (∀ j u, ((zs.take k).map (Value.int .i64))[j]? = some u → (w.alloc (.cells #[] 3)).cell? ((⟨b, o, none⟩ : Addr).add j) = some u) := by
      intro j u hj
      rw [add_plain]
      have hb := ((Below.refl w.heap.size w).alloc (Nat.le_refl _) (.cells #[] 3)).cell (p := ⟨b, o + j, none⟩) hbl
      rw [hb]
      rw [List.getElem?_map, Option.map_eq_some_iff] at hj
      obtain ⟨z, hz, rfl⟩ := hj
      have hjk : j < k := by
        have := (List.getElem?_eq_some_iff.1 hz).1
        simp at this; omega
      rw [List.getElem?_take_of_lt hjk] at hz
      exact HC.out j z hz
    have HT3 : Hid (∀ u ∈ (zs.take k).map (Value.int .i64), u.oneCell' = true) := by intro u hu; obtain ⟨z, _, rfl⟩ := List.mem_map.1 hu; rfl
    have HT4 : Hid (((zs.drop k).map (Value.int .i64)).length = (l - k) * 1) := by show _ = _; have := HL.out; simp; omega
    have HT6 : Hid (∀ u ∈ (zs.drop k).map (Value.int .i64), u.oneCell' = true) := by intro u hu; obtain ⟨z, _, rfl⟩ := List.mem_map.1 hu; rfl
    go_upto_region 7 with (at_builtin; refine wpList_append_own _ rfl _ _ 103 rfl w.heap.size 3 i0 _ 1 8 Try.underlying103 hi hz0 hz1 hz2 rfl (by decide) _ 0 [] rfl H0.out ⟨b, o, none⟩ k c ((zs.take k).map (Value.int .i64)) rfl HT1.out HT2.out HT3.out (by unfold maxLen; omega) (by omega) (by simp) ?_; intro v1 w1 hown1 hgrow1 hnil1)
    have HO1 := Lib.hid hown1
    have hb1 : Below w.heap.size w w1 := ((Below.refl _ _).alloc (Nat.le_refl _) _).trans ⟨hgrow1.os, hgrow1.tape, hgrow1.output, hgrow1.size, fun x hx => hgrow1.block x (by simp; omega) (fun hh => by have h' : some x = some w.heap.size := hh; simp at h'; omega)⟩
    have hw1 := hb1.size
    clear hown1 hgrow1 hnil1
    go_upto_region 8 with (at_builtin; refine wpList_append_own _ rfl _ _ 103 rfl w.heap.size 3 i0 _ 1 8 Try.underlying103 hi hz0 hz1 hz2 rfl (by decide) _ _ _ rfl (HO1.out.alloc _) ⟨w1.heap.size, 0, none⟩ 1 1 [.int .i64 n] rfl rfl (news1 (heap_new rfl)) (by simp [Value.oneCell']) (by unfold maxLen; omega) (by omega) (by simp; omega) ?_; intro v2 w2 hown2 hgrow2 hnil2)
    have HO2 := Lib.hid hown2
    have hb2 : Below w.heap.size w w2 := hb1.trans (((Below.refl _ _).alloc hw1 _).trans ⟨hgrow2.os, hgrow2.tape, hgrow2.output, hgrow2.size, fun x hx => hgrow2.block x (by simp; omega) (fun hh => by have h' := (HO1.out.lt x hh.symm).1; omega)⟩)
    have hw2 := hb2.size
    have HT5 : Hid (∀ j u, ((zs.drop k).map (Value.int .i64))[j]? = some u → w2.cell? ((⟨b, o + k, none⟩ : Addr).add j) = some u) := by
      intro j u hj
      rw [List.getElem?_map, Option.map_eq_some_iff] at hj
      obtain ⟨z, hz, rfl⟩ := hj
      rw [List.getElem?_drop] at hz
      rw [add_plain, Nat.add_assoc]
      exact (hb2.cell (p := ⟨b, o + (k + j), none⟩) hbl).trans (HC.out (k + j) z hz)
    clear hown2 hgrow2 hnil2
    go_wp2_with (at_builtin; refine wpList_append_own _ rfl _ _ 103 rfl w.heap.size 3 i0 _ 1 8 Try.underlying103 hi hz0 hz1 hz2 rfl (by decide) _ _ _ rfl HO2.out ⟨b, o + k, none⟩ (l - k) (c - k) ((zs.drop k).map (Value.int .i64)) rfl HT4.out HT5.out HT6.out (by unfold maxLen; omega) (by omega) (by omega) ?_; intro v3 w3 hown3 hgrow3 hnil3)
    have hb3 : Below w.heap.size w w3 := hb2.trans ⟨hgrow3.os, hgrow3.tape, hgrow3.output, hgrow3.size, fun x hx => hgrow3.block x (by omega) (fun hh => by have h' := (HO2.out.lt x hh.symm).1; omega)⟩
    have hown4 : w3.ownsRow w.heap.size 3 1 v3 (0 + k + 1 + (l - k)) ((zs.take k ++ [n] ++ zs.drop k).map (Value.int .i64)) := by simpa using hown3
    obtain ⟨va, vl, vc, rfl, hI⟩ := IntL_own (zs := zs.take k ++ [n] ++ zs.drop k) hown4 (by have := HL.out; simp; omega)
    have HVL := Lib.hid hI.1
    clear hown3 hgrow3 hnil3 hown4
    go_ret
    have hvl := HVL.out
    exact ⟨va, vl, vc, _, rfl, hI, by simp at hvl; omega, by have := HL.out; simp at hvl; omega, hb3⟩
theorem insert_any (a : Option Addr) (l c : Nat) (zs : List Int) (n : Int) (w : World) (h : IntL w a l c zs) (hl : l ≤ 100000) : Calls Try.prog 111 #[.slice a l c, .int .i64 n] w (InsP w l) := by
  obtain ⟨h1, h2, h3⟩ := h
  rcases h3 with ⟨rfl, rfl, rfl⟩ | ⟨b, o, rfl, h4, h5⟩
  · exact insert_nil n w
  · exact insert_some b o l c zs n w h1 h2 hl h4 h5

def VarsP (w : World) (il : Nat) (t : Tm) (e : Ending) (w' : World) : Prop := ∃ a' l' c' zs', e = .returned (.slice a' l' c') ∧ IntL w' a' l' c' zs' ∧ l' ≤ il + t.cnt ∧ (l' = 0 ↔ il = 0 ∧ t.ground = true) ∧ Below w.heap.size w w'
def VarsT (t : Tm) : Prop := ∀ (k n : Int) (s : ByteArray) (xs : List Tm) (a : Option Addr) (l c : Nat) (F : List Nat) (ia : Option Addr) (il ic : Nat) (zs : List Int) (w : World), t = .mk k n s xs → RdS w xs a l c F → t.wf = true → IntL w ia il ic zs → il + t.cnt ≤ 100000 →
  Calls Try.prog 102 #[.agg #[.int .i64 k, .int .i64 n, .string s, .slice a l c], .slice ia il ic] w (VarsP w il t)
set_option maxHeartbeats 2000000 in
set_option maxRecDepth 100000 in
theorem vars_all (t : Tm) : VarsT t := by
  induction t using Tm.ind with
  | h k0 n0 s0 ts ih =>
    intro k n s xs a l c F ia il ic zs w ht h hw hI hb
    cases ht
    by_cases hk1 : k0 = 1
    · subst hk1
      have hts : ts = [] := by
        rcases wf_split hw with ⟨_, rfl⟩ | ⟨h', _⟩
        · rfl
        · cases h'
      subst hts
      have hng : Hid ((Tm.mk 1 n0 s0 []).ground = false) := by show _ = _; rw [ground_atom]; rfl
      have HI := Lib.hid hI
      have hcp := cnt_pos (.mk 1 n0 s0 [])
      clear ih hw h hI
      go_enter Try.func102, Try.ntmps102
      go_wp2_with fail
      refine (insert_any ia il ic zs n0 _ (HI.out.below ((Below.refl _ _).alloc (Nat.le_refl _) _)) (by omega)).mono ?_
      rintro e w1 ⟨a', l', c', zs', rfl, hI', h1', h2', hb1⟩
      go_wp2
      go_ret
      exact ⟨a', l', c', zs', rfl, hI', by omega, ⟨fun h => by omega, fun h => by rw [hng.out] at h; exact absurd h.2 (by simp)⟩, ((Below.refl _ _).alloc (Nat.le_refl _) _).trans (hb1.mono (by simp))⟩
    · have hk1' : (k0 == 1) = false := by simpa using hk1
      obtain ⟨b, o, Fs, ha, hl, _, hel, _⟩ := RdS_each h
      have hgr : Hid ((Tm.mk k0 n0 s0 ts).ground = ts.all Tm.ground) := by
        show _ = _
        rcases wf_split hw with ⟨hk, rfl⟩ | ⟨rfl, rfl, hs0, x1, y1, rfl, hx1, hy1⟩
        · rw [ground_atom]; simp [hk1]
        · rw [ground_pair]; simp
      have hwx : Hid (∀ x ∈ ts, x.wf = true) := by
        rcases wf_split hw with ⟨hk, rfl⟩ | ⟨rfl, rfl, hs0, x1, y1, rfl, hx1, hy1⟩
        · intro x hx; cases hx
        · intro x hx; simp at hx; rcases hx with rfl | rfl <;> assumption
      have hct : (Tm.mk k0 n0 s0 ts).cnt = 1 + cntL ts := by simp only [Tm.cnt]
      have hcge := cntL_ge ts
      have hlm : l ≤ 100000 := by omega
      have hcb : il + cntL ts ≤ 100000 := by omega
      have HL := Lib.hid hl; have HEL := Lib.hid hel; have HALL := Lib.hid ih; have HA := Lib.hid ha; have HCT := Lib.hid hct; have HI := Lib.hid hI
      clear hl hel ih ha h hw hct hcge hI hk1 hb
      go_enter Try.func102, Try.ntmps102
      go_wp2
      go_loopw [1, 17] (fun lv i wr => ∃ (j : Nat) (a' : Option Addr) (l' c' : Nat) (zs' : List Int), j ≤ l ∧ i = .int .i64 j ∧ lv = .slice a' l' c' ∧ IntL wr a' l' c' zs' ∧ l' ≤ il + cntL (ts.take j) ∧ (l' = 0 ↔ il = 0 ∧ (ts.take j).all Tm.ground = true) ∧ Below w.heap.size w wr) (fun _ i _ => l - (intOf i).toNat)
      case atStart => exact ⟨0, ia, il, ic, zs, Nat.zero_le _, rfl, rfl, HI.out.below ((Below.refl _ _).alloc (Nat.le_refl _) _), by simp [cntL], by simp, (Below.refl _ _).alloc (Nat.le_refl _) _⟩
      case round =>
        obtain ⟨j, a', l', c', zs', hj, rfl, rfl, hI', hle, hiff, hbel⟩ := hrel
        have hts2 := cntL_take_le ts j
        have HIFF := Lib.hid hiff
        clear hiff
        by_cases hlt : j < l
        · obtain rfl := HA.out (by omega)
          obtain ⟨xk, xn, xs, xas, hx⟩ : ∃ xk xn xs xas, ts[j]? = some (.mk xk xn xs xas) := by
            have h1 : j < ts.length := by have := HL.out; omega
            cases hx : ts[j] with
            | mk xk xn xs xas => exact ⟨xk, xn, xs, xas, by simp [h1, hx]⟩
          have r1 := HEL.out j _ hx
          rw [Rd_mk] at r1
          obtain ⟨x0, x1, x2, xa, xl, xc, x3, hrx⟩ := r1
          have hlt1 := cell_lt x0
          rw [← hbel.cell (p := ⟨b, _, none⟩) hlt1, show o + 4 * j = o + j * 4 by omega] at x0 x1 x2 x3
          have hts1 := cntL_take_succ hx
          have hts3 := cntL_take_le ts (j + 1)
          have htk : ts.take (j + 1) = ts.take j ++ [.mk xk xn xs xas] := by
            obtain ⟨h1, h2⟩ := List.getElem?_eq_some_iff.1 hx
            rw [List.take_succ_eq_append_getElem h1, h2]
          have HTK := Lib.hid htk; have HT1 := Lib.hid hts1
          have hbx : l' + (Tm.mk xk xn xs xas).cnt ≤ 100000 := by omega
          have HM := Lib.hid (List.mem_of_getElem? hx)
          have hbA : Below wr.heap.size wr (wr.alloc (.cells #[.int .i64 xk, .int .i64 xn, .string xs, .slice xa xl xc] 26)) := (Below.refl _ _).alloc (Nat.le_refl _) _
          have HBA := Lib.hid hbA; have HI2 := Lib.hid hI'
          clear hx hbA htk hts1 hts3 hI'
          go_wp2_with fail
          refine (HALL.out _ HM.out xk xn xs xas xa xl xc _ a' l' c' zs' _ (by trivial) (RdS_ext (RdS_ext hrx hbel) HBA.out) (hwx.out _ HM.out) (HI2.out.below HBA.out) hbx).mono ?_
          rintro e w2 ⟨a2, l2, c2, zs2, rfl, hI3, hle2, hiff2, hb2⟩
          have hb2' := (hbel.trans (HBA.out.mono hbel.size)).trans (hb2.mono (Nat.le_trans hbel.size HBA.out.size))
          have HIFF2 := Lib.hid hiff2; have HI3 := Lib.hid hI3
          clear x0 x1 x2 x3 hb2 hiff2 hI3 hbx
          go_wp2
          go_roundw
          case rel =>
            refine ⟨j + 1, a2, l2, c2, zs2, by omega, by go_num, rfl, HI3.out, by rw [HT1.out]; omega, ?_, hb2'⟩
            rw [HIFF2.out, HIFF.out, HTK.out]
            simp [and_assoc]
          case measure => simp [intOf]; omega
        · obtain rfl : j = l := by omega
          have hL := HL.out
          have e1 : ts.take j = ts := by rw [hL]; simp
          rw [e1] at hle hts2
          have HIFF3 : Hid (l' = 0 ↔ il = 0 ∧ ts.all Tm.ground = true) := by have := HIFF.out; rw [e1] at this; exact this
          have HI4 := Lib.hid hI'
          clear e1 hL hI' HIFF
          go_wp2
          go_ret
          exact ⟨a', l', c', zs', rfl, HI4.out, by rw [HCT.out]; omega, by rw [hgr.out]; exact HIFF3.out, hbel⟩

set_option maxHeartbeats 1000000 in
set_option maxRecDepth 100000 in
theorem IsGround_spec (k n : Int) (s : ByteArray) (xs : List Tm) (a : Option Addr) (l c : Nat) (F : List Nat) (w : World) (h : RdS w xs a l c F) (hL : (Tm.mk k n s xs).Lens) (hcn : (Tm.mk k n s xs).cnt ≤ 10000000000) :
    Calls Try.prog 88 #[.agg #[.int .i64 k, .int .i64 n, .string s, .slice a l c]] w fun e w' => e = .returned (.bool (Tm.mk k n s xs).gnd) ∧ Below w.heap.size w w' := by
  have O1 := Lib.hid (TermOk_spec k n s xs a l c F)
  have HV := Lib.hid (vars_all (.mk k n s xs) k n s xs a l c F none 0 0 [])
  generalize Tm.mk k n s xs = t at *
  have hbA : ∀ o, Below w.heap.size w (w.alloc o) := fun o => (Below.refl _ _).alloc (Nat.le_refl _) o
  have HBA := Lib.hid hbA; clear hbA
  go_enter Try.func88, Try.ntmps88
  go_wp2_with fail
  refine (O1.out _ (RdS_ext h (HBA.out _)) hL hcn).mono ?_
  rintro e w1 ⟨rfl, hb1⟩
  have hbel := (HBA.out (.cells #[.int .i64 k, .int .i64 n, .string s, .slice a l c] 26)).trans (hb1.mono (by simp))
  have hB : w1.heap[w.heap.size]? = some (.cells #[.int .i64 k, .int .i64 n, .string s, .slice a l c] 26 (0, 0)) := (hb1.block _ (by simp)).trans (heap_new rfl)
  obtain ⟨p0, p1, p2, p3, _⟩ := box4 hB
  clear hB hb1
  cases hok : t.ok with
  | false =>
    have hv : Hid (t.gnd = false) := by simp [Hid, Tm.gnd, hok]
    clear hok
    go_wp2
    go_ret
    exact ⟨by rw [hv.out]; rfl, hbel⟩
  | true =>
    have hv : Hid (t.gnd = t.ground) := by simp [Hid, Tm.gnd, hok]
    have hwf := ok_wf hok
    have HW := Lib.hid hwf
    clear hok hwf
    go_wp2_with fail
    refine (HV.out _ (by trivial) (RdS_ext h hbel) HW.out.1 ⟨rfl, Nat.le_refl _, .inl ⟨rfl, rfl, rfl⟩⟩ (by have := HW.out.2; omega)).mono ?_
    rintro e w2 ⟨a', l', c', zs', rfl, hI', hle, hiff, hb2⟩
    have hbel2 := hbel.trans (hb2.mono hbel.size)
    have hle2 : l' ≤ 5000 := by have := HW.out.2; omega
    clear p0 p1 p2 p3 hI' hle
    by_cases hl0 : l' = 0
    · have hg := (hiff.1 hl0).2
      have hfin : Hid (t.gnd = true) := by show _ = _; rw [hv.out, hg]
      subst hl0
      clear hiff hg
      go_wp2
      go_ret
      exact ⟨by rw [hfin.out]; rfl, hbel2⟩
    · have hfin : Hid (t.gnd = false) := by
        show _ = _
        rw [hv.out]
        cases hg : t.ground with
        | false => rfl
        | true => exact absurd (hiff.2 ⟨rfl, hg⟩) hl0
      have hd : ((l' : Int) == 0) = false := by simp; omega
      clear hiff hl0
      go_wp2
      go_ret
      exact ⟨by rw [hfin.out]; rfl, hbel2⟩
end Go.Proofs.Ytjkabbkaeioibaa
