/- Contracts of eqTermSS, markTermSS, heldTermSS on the ways that a true law takes. -/
import Derived.Test.YtjkabbkaeioibaaPairs
namespace Go.Proofs.Ytjkabbkaeioibaa
open Go.RowKit

set_option maxHeartbeats 400000 in
set_option maxRecDepth 100000 in
theorem eqTermSS_same (tss : List (List Tm)) (hall : ∀ ts ∈ tss, ts.length ≤ 1000000000000 ∧ ∀ t ∈ ts, t.Lens) (a1 a2 : Option Addr) (l1 c1 l2 c2 b1 b2 : Nat) (Fs1 Fs2 : List (List Nat)) (w : World) (h1 : RdSS w tss a1 l1 b1 Fs1) (h2 : RdSS w tss a2 l2 b2 Fs2) (hmax : tss.length ≤ 1000000000000) :
    Calls Try.prog 25 #[.slice a1 l1 c1, .slice a2 l2 c2] w (TrueB w) := by
  obtain ⟨hl1, _, ha1, he1⟩ := h1
  obtain ⟨hl2, _, ha2, he2⟩ := h2
  obtain rfl : l1 = l2 := by omega
  have HA1 := Lib.hid ha1; have HA2 := Lib.hid ha2; have HL := Lib.hid hl1
  have HE1 := Lib.hid he1; have HE2 := Lib.hid he2; have HALL := Lib.hid hall
  have hlm : l1 ≤ 1000000000000 := by omega
  clear ha1 ha2 hl1 hl2 he1 he2 hall hmax
  go_enter Try.func25, Try.ntmps25
  go_wp2
  go_loopw [5] (fun i wr => ∃ j : Nat, j ≤ l1 ∧ i = .int .i64 j ∧ Below w.heap.size w wr) (fun i _ => l1 - (intOf i).toNat)
  case atStart => exact ⟨0, Nat.zero_le _, rfl, Below.refl _ _⟩
  case round =>
    obtain ⟨j, hj, rfl, hbel⟩ := hrel
    by_cases hlt : j < l1
    · obtain rfl := (HA1.out (by omega)).1
      obtain rfl := (HA2.out (by omega)).1
      obtain ⟨ts, hx⟩ : ∃ ts, tss[j]? = some ts := ⟨_, List.getElem?_eq_getElem (by have := HL.out; omega)⟩
      obtain ⟨⟨xa, xl, xc⟩, x0, hrx⟩ := HE1.out j _ hx
      obtain ⟨⟨ya, yl, yc⟩, y0, hry⟩ := HE2.out j _ hx
      simp only [SV.cell] at x0 y0
      have hlt1 := cell_lt x0
      have hlt2 := cell_lt y0
      rw [← hbel.cell (p := ⟨b1, _, none⟩) hlt1] at x0
      rw [← hbel.cell (p := ⟨b2, _, none⟩) hlt2] at y0
      have HX := Lib.hid hx; clear hx
      go_wp2_with fail
      go_still_tail 8, (by kernel_rfl)
      go_wp2_with fail
      have hm := HALL.out _ (List.mem_of_getElem? HX.out)
      refine (eqTermS_of ts (fun t ht => eqT_all (hm.2 t ht)) _ _ _ _ _ _ _ _ _ (RdS_ext (w' := wr.drew) hrx hbel.drew) (RdS_ext (w' := wr.drew) hry hbel.drew) hm.1).mono ?_
      rintro e w2 ⟨rfl, hb2⟩
      have hb2' : Below wr.heap.size wr w2 := below_of_drew hb2
      clear x0 y0 hb2 hm
      go_wp2
      go_roundw
      case rel => exact ⟨j + 1, by omega, by go_num, hbel.trans (hb2'.mono hbel.size)⟩
      case measure => simp [intOf]; omega
    · go_wp2
      go_ret
      exact ⟨rfl, hbel⟩

def cntLL : List (List Tm) → Nat | [] => 0 | ts :: tss => cntL ts + cntLL tss
def markLL : List (List Tm) → Nat → List (List Tm) | [], _ => [] | ts :: tss, k => markL ts k :: markLL tss (k + 3 * cntL ts)
theorem cntLL_append (xs ys : List (List Tm)) : cntLL (xs ++ ys) = cntLL xs + cntLL ys := by
  induction xs with
  | nil => simp [cntLL]
  | cons x xs ih => simp only [List.cons_append, cntLL, ih]; omega
theorem cntLL_take_succ {ts : List (List Tm)} {j : Nat} {t : List Tm} (h : ts[j]? = some t) : cntLL (ts.take (j + 1)) = cntLL (ts.take j) + cntL t := by
  obtain ⟨h1, h2⟩ := List.getElem?_eq_some_iff.1 h
  rw [List.take_succ_eq_append_getElem h1, h2, cntLL_append]
  simp [cntLL]
theorem cntLL_take_le (ts : List (List Tm)) (j : Nat) : cntLL (ts.take j) ≤ cntLL ts := by
  have h : cntLL (ts.take j ++ ts.drop j) = _ := cntLL_append _ _
  rw [List.take_append_drop] at h; omega
theorem markLL_length (ts : List (List Tm)) (k : Nat) : (markLL ts k).length = ts.length := by
  induction ts generalizing k with
  | nil => simp [markLL]
  | cons t ts ih => simp [markLL, ih]
theorem markLL_get : ∀ (ts : List (List Tm)) (k i : Nat) (x : List Tm), (markLL ts k)[i]? = some x → ∃ t, ts[i]? = some t ∧ x = markL t (k + 3 * cntLL (ts.take i)) := by
  intro ts
  induction ts with
  | nil => intro k i x h; simp [markLL] at h
  | cons t ts ih =>
    intro k i x h
    cases i with
    | zero => simp [markLL] at h; exact ⟨t, by simp, by simp [cntLL, h]⟩
    | succ i =>
      rw [markLL] at h
      obtain ⟨t', h1, h2⟩ := ih _ i x (by simpa using h)
      refine ⟨t', by simpa using h1, ?_⟩
      rw [h2, List.take_succ_cons, cntLL]
      congr 1; omega
theorem markLL_at {ts : List (List Tm)} {k j : Nat} {t : List Tm} (h : ts[j]? = some t) : (markLL ts k)[j]? = some (markL t (k + 3 * cntLL (ts.take j))) := by
  have h1 : j < (markLL ts k).length := by rw [markLL_length]; exact (List.getElem?_eq_some_iff.1 h).1
  obtain ⟨t', h2, h3⟩ := markLL_get ts k j _ (List.getElem?_eq_getElem h1)
  rw [h] at h2
  cases h2
  rw [List.getElem?_eq_getElem h1, h3]

set_option maxHeartbeats 1000000 in
set_option maxRecDepth 100000 in
theorem markTermSS_any (tss : List (List Tm)) (a : Option Addr) (l c b : Nat) (Fs : List (List Nat)) (k : Nat) (w : World) (h : RdSS w tss a l b Fs) (hnd : Fs.flatten.Nodup) (hfree : Free w Fs.flatten) (hk0 : 0 < k) (hk : k + 3 * cntLL tss ≤ 100000000000) (hlm : tss.length ≤ 100000000000) :
    Calls Try.prog 26 #[.slice a l c, .int .i64 k] w fun e w' => e = .returned (.int .i64 ((k + 3 * cntLL tss : Nat) : Int)) ∧ RdSS w' (markLL tss k) a l b Fs ∧ Wrote Fs.flatten w w' := by
  obtain ⟨hl, hFs, ha, hel⟩ := h
  have hlm' : l ≤ 100000000000 := by omega
  have HL := Lib.hid hl; have HFs := Lib.hid hFs; have HEL := Lib.hid hel; have HND := Lib.hid hnd; have HFR := Lib.hid hfree; have HA := Lib.hid ha
  clear hl hFs hel hnd hfree ha hlm
  go_enter Try.func26, Try.ntmps26
  go_wp2
  go_loopw [1, 5] (fun kv i wr => ∃ j : Nat, j ≤ l ∧ i = .int .i64 j ∧ kv = .int .i64 ((k + 3 * cntLL (tss.take j) : Nat) : Int) ∧ Wrote Fs.flatten w wr ∧
      ∀ i ts, tss[i]? = some ts → ∃ e : SV, wr.cell? ⟨b, i, none⟩ = some e.cell ∧ RdS wr (if i < j then markL ts (k + 3 * cntLL (tss.take i)) else ts) e.a e.l e.c (Fs.getD i [])) (fun _ i _ => l - (intOf i).toNat)
  case atStart => exact ⟨0, Nat.zero_le _, rfl, by simp [cntLL], Wrote.refl _ _, fun i t hi => by simpa using HEL.out i t hi⟩
  case round =>
    obtain ⟨j, hj, rfl, rfl, hwr, hrd⟩ := hrel
    have HR := Lib.hid hrd; clear hrd
    by_cases hlt : j < l
    · obtain ⟨rfl, hbF, hblt⟩ := HA.out (by omega)
      obtain ⟨ts, hx⟩ : ∃ ts, tss[j]? = some ts := ⟨_, List.getElem?_eq_getElem (by have := HL.out; omega)⟩
      obtain ⟨⟨xa, xl, xc⟩, x0, hrx⟩ := HR.out j _ hx
      simp only [SV.cell] at x0
      rw [if_neg (by omega)] at hrx
      have hts1 := cntLL_take_succ hx
      have hts2 := cntLL_take_le tss (j + 1)
      have HX := Lib.hid hx; clear hx
      have HT1 := Lib.hid hts1
      generalize hkj : k + 3 * cntLL (tss.take j) = kj at *
      have HKJ := Lib.hid hkj; clear hkj
      have hkj2 : kj + 3 * cntL ts ≤ 100000000000 := by have := HKJ.out; have := HT1.out; omega
      have hkj3 : 0 < kj := by have := HKJ.out; omega
      have hbF' := Lib.hid hbF
      have hfr : Free wr (Fs.getD j []) := fun x hx => hwr.free x (HFR.out x (mem_getD_flatten hx))
      have HFJ := Lib.hid hfr
      clear hts1 hts2 hbF hfr
      go_wp2_with fail
      refine (markS_all ts xa xl xc _ kj _ hrx (getD_nodup HND.out j) HFJ.out hkj3 hkj2).mono ?_
      rintro e w4 ⟨rfl, hrs4, hw4⟩
      have hkn : kj + 3 * cntL ts = k + 3 * cntLL (tss.take (j + 1)) := by
        have := HKJ.out; have := HT1.out; omega
      rw [hkn]
      clear hkn
      generalize hkn2 : k + 3 * cntLL (tss.take (j + 1)) = kn
      have X0 := Lib.hid x0
      have HK2 := Lib.hid hkn2; clear hkn2 x0
      go_wp2
      go_roundw
      case rel =>
        refine ⟨j + 1, by omega, by go_num, by rw [HK2.out], hwr.trans (hw4.mono (fun x hx => mem_getD_flatten hx)), fun i ts' hi => ?_⟩
        have hb4 : w4.heap[b]? = wr.heap[b]? := hw4.block b (Nat.lt_of_lt_of_le hblt hwr.size) (fun hm => hbF'.out (mem_getD_flatten hm))
        by_cases hij : i = j
        · subst hij
          rw [HX.out] at hi
          cases hi
          rw [if_pos (by omega), HKJ.out]
          exact ⟨⟨xa, xl, xc⟩, (World.cell?_of_block (w := wr) (a := ⟨b, i, none⟩) hb4).trans X0.out, hrs4⟩
        · obtain ⟨e', y0, hry⟩ := HR.out i _ hi
          have e : (if i < j + 1 then markL ts' (k + 3 * cntLL (tss.take i)) else ts') = if i < j then markL ts' (k + 3 * cntLL (tss.take i)) else ts' := by
            by_cases h2 : i < j
            · rw [if_pos h2, if_pos (by omega)]
            · rw [if_neg h2, if_neg (by omega)]
          rw [e]
          exact ⟨e', (World.cell?_of_block (w := wr) (a := ⟨b, i, none⟩) hb4).trans y0, RdS_same (fun x hx => hw4.block x (RdS_lt hry x hx) (getD_apart HND.out hij hx)) hry⟩
      case measure => simp [intOf]; omega
    · obtain rfl : j = l := by omega
      have hL := HL.out
      have e1 : tss.take j = tss := by rw [hL]; simp
      rw [e1]
      clear e1 hL
      go_wp2
      go_ret
      refine ⟨rfl, ⟨by rw [markLL_length]; exact HL.out, by rw [markLL_length]; exact HFs.out, fun hp => ⟨(HA.out hp).1, (HA.out hp).2.1, Nat.lt_of_lt_of_le (HA.out hp).2.2 hwr.size⟩, fun i x hx => ?_⟩, hwr⟩
      obtain ⟨t, h1, rfl⟩ := markLL_get tss k i x hx
      obtain ⟨e, h2, h3⟩ := HR.out i t h1
      rw [if_pos (by have := HL.out; have := (List.getElem?_eq_some_iff.1 h1).1; omega)] at h3
      exact ⟨e, h2, h3⟩

set_option maxHeartbeats 1000000 in
set_option maxRecDepth 100000 in
theorem heldTermSS_any (tss : List (List Tm)) (a : Option Addr) (l c b : Nat) (Fs : List (List Nat)) (k : Nat) (w : World) (h : RdSS w (markLL tss k) a l b Fs) (hk0 : 0 < k) (hk : k + 3 * cntLL tss ≤ 100000000000) (hlm : tss.length ≤ 100000000000) :
    Calls Try.prog 27 #[.slice a l c, .int .i64 k] w fun e w' => e = .returned (.int .i64 ((k + 3 * cntLL tss : Nat) : Int)) ∧ Below w.heap.size w w' := by
  obtain ⟨hl, hFs, ha, hel⟩ := h
  rw [markLL_length] at hl
  have hlm' : l ≤ 100000000000 := by omega
  have HL := Lib.hid hl; have HEL := Lib.hid hel; have HA := Lib.hid ha
  clear hl hFs hel ha hlm
  go_enter Try.func27, Try.ntmps27
  go_wp2
  go_loopw [1, 5] (fun kv i wr => ∃ j : Nat, j ≤ l ∧ i = .int .i64 j ∧ kv = .int .i64 ((k + 3 * cntLL (tss.take j) : Nat) : Int) ∧ Below w.heap.size w wr) (fun _ i _ => l - (intOf i).toNat)
  case atStart => exact ⟨0, Nat.zero_le _, rfl, by simp [cntLL], Below.refl _ _⟩
  case round =>
    obtain ⟨j, hj, rfl, rfl, hbel⟩ := hrel
    by_cases hlt : j < l
    · obtain ⟨rfl, hbF, hblt⟩ := HA.out (by omega)
      obtain ⟨ts, hx⟩ : ∃ ts, tss[j]? = some ts := ⟨_, List.getElem?_eq_getElem (by have := HL.out; omega)⟩
      obtain ⟨⟨xa, xl, xc⟩, x0, hrx⟩ := HEL.out j _ (markLL_at hx)
      simp only [SV.cell] at x0
      rw [← hbel.cell (p := ⟨b, _, none⟩) hblt] at x0
      have hts1 := cntLL_take_succ hx
      have hts2 := cntLL_take_le tss (j + 1)
      have HX := Lib.hid hx; clear hx
      have HT1 := Lib.hid hts1
      generalize hkj : k + 3 * cntLL (tss.take j) = kj at *
      have HKJ := Lib.hid hkj; clear hkj
      have hkj2 : kj + 3 * cntL ts ≤ 100000000000 := by have := HKJ.out; have := HT1.out; omega
      have hkj3 : 0 < kj := by have := HKJ.out; omega
      clear hts1 hts2 hbF
      go_wp2_with fail
      refine (heldS_all ts xa xl xc _ kj _ (RdS_ext hrx hbel) hkj3 hkj2).mono ?_
      rintro e w4 ⟨rfl, hb4⟩
      have hkn : kj + 3 * cntL ts = k + 3 * cntLL (tss.take (j + 1)) := by
        have := HKJ.out; have := HT1.out; omega
      rw [hkn]
      clear hkn
      generalize hkn2 : k + 3 * cntLL (tss.take (j + 1)) = kn
      have HK2 := Lib.hid hkn2; clear hkn2 x0
      go_wp2
      go_roundw
      case rel => exact ⟨j + 1, by omega, by go_num, by rw [HK2.out], hbel.trans (hb4.mono hbel.size)⟩
      case measure => simp [intOf]; omega
    · obtain rfl : j = l := by omega
      have hL := HL.out
      have e1 : tss.take j = tss := by rw [hL]; simp
      rw [e1]
      clear e1 hL
      go_wp2
      go_ret
      exact ⟨rfl, hbel⟩
end Go.Proofs.Ytjkabbkaeioibaa
