/- Contract of the reference's NumberOf: it answers as the program's. -/
import Derived.Test.YtjkabbkaeioibaaItems
import Derived.Test.YtjkabbkaeioibaaAdd
namespace Go.Proofs.Ytjkabbkaeioibaa
open Go.RowKit

/-- the number of digits, the lowest first -/
def valS : List Tm → Option Int
  | [] => some 0
  | d :: r => match valS r with
    | none => none
    | some n => if d.kind ≠ 3 ∨ d.num < 0 ∨ 1 < d.num ∨ (n = 0 ∧ d.num = 0) then none else some (2 * n + d.num)
theorem valS_none {a r : List Tm} (h : valS r = none) : valS (a ++ r) = none := by
  induction a with
  | nil => exact h
  | cons x a ih => simp only [List.cons_append, valS, ih]
theorem valS_some {d : Tm} {r : List Tm} {n : Int} (h : valS r = some n) : valS (d :: r) = if d.kind ≠ 3 ∨ d.num < 0 ∨ 1 < d.num ∨ (n = 0 ∧ d.num = 0) then none else some (2 * n + d.num) := by
  simp only [valS, h]
theorem valS_bound : ∀ {l : List Tm} {v : Int}, valS l = some v → 0 ≤ v ∧ v < 2 ^ l.length ∧ (l ≠ [] → 1 ≤ v) := by
  intro l
  induction l with
  | nil => intro v h; simp [valS] at h; subst h; simp
  | cons d r ih =>
    intro v h
    cases hr : valS r with
    | none => simp [valS, hr] at h
    | some n =>
      rw [valS_some hr] at h
      split at h
      · cases h
      · rename_i hc
        cases h
        obtain ⟨h1, h2, _⟩ := ih hr
        have : (2 : Int) ^ (d :: r).length = 2 * 2 ^ r.length := by rw [List.length_cons, Int.pow_succ]; omega
        rw [this]
        refine ⟨by omega, by omega, fun _ => by omega⟩
theorem valS_le {l : List Tm} {v : Int} (h : valS l = some v) (hl : l.length ≤ 30) : 0 ≤ v ∧ v ≤ 1073741824 := by
  obtain ⟨h1, h2, _⟩ := valS_bound h
  have h3 : (2 : Int) ^ l.length ≤ 2 ^ 30 := by
    have := Nat.pow_le_pow_right (n := 2) (by omega) hl
    exact_mod_cast this
  have h4 : (2 : Int) ^ 30 = 1073741824 := by decide
  omega
def specNum (t : Tm) : Int := if t.ok = true ∧ t.tl.kind = 0 ∧ t.its.length ≤ 30 then (match valS t.its with | some n => if 1000000000 < n then -1 else n | none => -1) else -1

theorem pow_test : ∀ j, j < 31 → ((2 : Int) ^ j ≤ 1000000000 ↔ j ≤ 29) := by decide
theorem numGo_val (t : Tm) : t.wf = true → ∀ (j : Nat) (n last : Int), j ≤ 30 → 0 ≤ n →
    numGo t n (2 ^ j) last = if t.tl.kind ≠ 0 ∨ 30 < j + t.its.length then -1 else if t.its = [] then (if last = 0 ∨ 1000000000 < n then -1 else n) else
      match valS t.its with | some v => if 1000000000 < n + 2 ^ j * v then -1 else n + 2 ^ j * v | none => -1 := by
  induction t using Tm.ind with
  | h k m s xs ih =>
    intro hwf j n last hj hn
    by_cases hk : k = 4
    · subst hk
      obtain ⟨rfl, hs0, d, r, rfl, hd, hr⟩ := wf_four hwf
      rw [numGo_pair, its_pair.1, its_pair.2]
      simp only [List.length_cons, List.cons_ne_nil, if_false]
      by_cases hbad : d.kind ≠ 3 ∨ d.num < 0 ∨ 1 < d.num
      · rw [if_pos (by omega)]
        have hv : valS (d :: r.its) = none := by
          cases hv : valS r.its with
          | none => simp [valS, hv]
          | some v => rw [valS_some hv, if_pos (by omega)]
        rw [hv]
        simp
      · have hpt := pow_test j (by omega)
        by_cases hj9 : j ≤ 29
        · rw [if_neg (by omega)]
          have hpow : (2 : Int) ^ j * 2 = 2 ^ (j + 1) := by rw [Int.pow_succ]
          have hp0 : (0 : Int) < 2 ^ j := Int.pow_pos (by omega)
          rw [hpow, ih r (by simp) hr (j + 1) (n + d.num * 2 ^ j) d.num (by omega) (by have := Int.mul_nonneg (show 0 ≤ d.num by omega) (Int.le_of_lt hp0); omega)]
          by_cases hc : r.tl.kind ≠ 0 ∨ 30 < j + (r.its.length + 1)
          · rw [if_pos (by omega), if_pos hc]
          · rw [if_neg (by omega), if_neg hc]
            by_cases he : r.its = []
            · rw [if_pos he, he]
              have hv0 : valS ([] : List Tm) = some 0 := rfl
              rw [valS_some hv0]
              by_cases hz : d.num = 0
              · rw [if_pos (.inl hz), if_pos (by omega)]
              · have h1 : d.num = 1 := by omega
                rw [if_neg (by omega : ¬ (d.kind ≠ 3 ∨ d.num < 0 ∨ 1 < d.num ∨ ((0 : Int) = 0 ∧ d.num = 0))), h1]
                simp
            · rw [if_neg he]
              cases hv : valS r.its with
              | none => simp [valS, hv]
              | some v =>
                have hv1 := (valS_bound hv).2.2 he
                rw [valS_some hv, if_neg (by omega : ¬ (d.kind ≠ 3 ∨ d.num < 0 ∨ 1 < d.num ∨ (v = 0 ∧ d.num = 0)))]
                have e : n + d.num * 2 ^ j + 2 ^ (j + 1) * v = n + 2 ^ j * (2 * v + d.num) := by
                  rw [← hpow, Int.mul_add, Int.mul_comm d.num, Int.mul_assoc]; omega
                simp only [e]
        · rw [if_pos (by omega), if_pos (by omega)]
    · rw [numGo_end hk, (its_end hk).1, (its_end hk).2]
      simp only [List.length_nil, if_true, Tm.kind]
      by_cases hk0 : k = 0
      · subst hk0
        rw [if_neg (by omega : ¬ ((0 : Int) ≠ 0 ∨ 30 < j + 0))]
        by_cases h1 : last = 0 ∨ 1000000000 < n
        · rw [if_pos h1, if_pos (.inr h1)]
        · rw [if_neg h1, if_neg (by simp; omega)]
      · rw [if_pos (.inl hk0), if_pos (.inl hk0)]
theorem specNum_eq (t : Tm) : specNum t = numV t := by
  unfold specNum numV
  by_cases hok : t.ok = true
  · rw [if_pos hok]
    have hwf : t.wf = true := by simp [Tm.ok] at hok; exact hok.1
    have h := numGo_val t hwf 0 0 1 (by omega) (by omega)
    rw [Int.pow_zero] at h
    rw [h]
    by_cases hc : t.tl.kind ≠ 0 ∨ 30 < 0 + t.its.length
    · rw [if_pos hc, if_neg (by omega)]
    · rw [if_neg hc, if_pos ⟨hok, by omega, by omega⟩]
      by_cases he : t.its = []
      · rw [if_pos he, he]; simp [valS]
      · rw [if_neg he]
        cases valS t.its with
        | none => rfl
        | some v => simp
  · rw [if_neg hok, if_neg (fun h => hok h.1)]

theorem drop_at {ts : List Tm} {i : Nat} {t : Tm} (h : ts[i]? = some t) : ts.drop i = t :: ts.drop (i + 1) := by
  obtain ⟨h1, h2⟩ := List.getElem?_eq_some_iff.1 h
  rw [List.drop_eq_getElem_cons h1, h2]

set_option maxHeartbeats 2000000 in
set_option maxRecDepth 100000 in
theorem NumberOf_spec (k m : Int) (s : ByteArray) (xs : List Tm) (a : Option Addr) (l c : Nat) (F : List Nat) (w : World) (h : RdS w xs a l c F) (hL : (Tm.mk k m s xs).Lens) (hcn : (Tm.mk k m s xs).cnt ≤ 10000000000) :
    Calls Try.prog 33 #[.agg #[.int .i64 k, .int .i64 m, .string s, .slice a l c]] w fun e w' => e = .returned (.int .i64 (numV (.mk k m s xs))) ∧ Below w.heap.size w w' := by
  rw [← specNum_eq]
  have hbA : ∀ o1, Below w.heap.size w (w.alloc o1) := fun o1 => ((Below.refl _ _).alloc (Nat.le_refl _) o1)
  have HBA := Lib.hid hbA; clear hbA
  have HIT := Lib.hid (ItemsOf_spec k m s xs a l c F)
  have HTO := Lib.hid (TermOk_spec k m s xs a l c F)
  generalize hTT : Tm.mk k m s xs = T at *
  clear hTT
  go_enter Try.func33, Try.ntmps33
  go_wp2_with fail
  refine (HIT.out _ (RdS_ext h (HBA.out _)) hL hcn).mono ?_
  rintro e w1 ⟨ia, il, ic, iF, tk, tn, tn', txs, ta, tl, tc, tF, htl, rfl, hird, htrd, _, hb1⟩
  have hb1' := (HBA.out (.cells #[.int .i64 k, .int .i64 m, .string s, .slice a l c] 26)).trans (hb1.mono (by simp))
  have hbox1 : w1.heap[w.heap.size]? = some (.cells #[.int .i64 k, .int .i64 m, .string s, .slice a l c] 26 (0, 0)) := by
    rw [hb1.block _ (by simp)]; exact heap_new rfl
  obtain ⟨q0, q1, q2, q3, qf⟩ := box4 hbox1
  have hsz1 := heap_lt hbox1
  have HTL := Lib.hid htl
  clear htl hbox1 hb1 HIT
  go_wp2_with fail
  have hbB : ∀ o1, Below w1.heap.size w1 (w1.alloc o1) := fun o1 => ((Below.refl _ _).alloc (Nat.le_refl _) o1)
  have hbN := hbB (.cells #[.int .i64 tk, .int .i64 tn, .string tn', .slice ta tl tc] 26)
  have hT : (w1.alloc (.cells #[.int .i64 tk, .int .i64 tn, .string tn', .slice ta tl tc] 26)).heap[w1.heap.size]? = some (.cells #[.int .i64 tk, .int .i64 tn, .string tn', .slice ta tl tc] 26 (0, 0)) := heap_new rfl
  have hird2 := RdS_ext hird hbN
  have hbN' := hb1'.trans (hbN.mono hb1'.size)
  refine (HTO.out _ (RdS_ext h hbN') hL hcn).mono ?_
  rintro e w2 ⟨rfl, hb2⟩
  have hT2 := (hb2.block _ (heap_lt hT)).trans hT
  have hird3 := RdS_ext hird2 hb2
  have hb2' := hbN'.trans (hb2.mono hbN'.size)
  obtain ⟨r0, r1, r2, r3, rf⟩ := box4 hT2
  have hszT := heap_lt hT2
  clear hT hT2 hird hird2 hbN hbN' hb2 HTO htrd q0 q1 q2 q3 qf hbB hb1' hsz1 HBA
  clear hL hcn h
  cases hok : T.ok with
  | false =>
    have hv : Hid (specNum T = -1) := by simp [Hid, specNum, hok]
    clear hok
    go_wp2
    go_ret
    exact ⟨by rw [hv.out]; rfl, hb2'⟩
  | true =>
    have hv1 : T.itsR = T.its := by simp [Tm.itsR, hok]
    have hv2 : T.tlR = T.tl := by simp [Tm.tlR, hok]
    rw [hv1] at hird3
    have htk : Hid (T.tl.kind = tk) := by show _ = _; rw [← hv2, HTL.out]; rfl
    have HOK := Lib.hid hok
    clear hv1 hv2 HTL hok
    generalize hts : T.its = ts at *
    have HTS := Lib.hid hts; clear hts
    by_cases hk : tk = 0
    · subst hk
      obtain ⟨b, o, Fs, ha, hl, hlF, hel, hlast⟩ := RdS_each hird3
      have HL := Lib.hid hl; have HA := Lib.hid ha; have HEL := Lib.hid hel
      clear ha hl hlF hel hlast
      by_cases hil : 30 < il
      · have hv : Hid (specNum T = -1) := by
          show _ = _
          rw [specNum, if_neg]; rintro ⟨_, _, h3⟩; rw [HTS.out] at h3; have := HL.out; omega
        have d1 : decide (30 < (il : Int)) = true := by simp; omega
        go_wp2
        go_ret
        exact ⟨by rw [hv.out]; rfl, hb2'⟩
      · have hil' : il ≤ 30 := by omega
        have hv : Hid (specNum T = match valS ts with | some n => if 1000000000 < n then -1 else n | none => -1) := by
          show _ = _
          rw [specNum, if_pos ⟨HOK.out, htk.out, by rw [HTS.out]; have := HL.out; omega⟩, HTS.out]
        have d1 : decide (30 < (il : Int)) = false := by simp; omega
        clear hil hird3
        go_wp2_with fail
        clear d1
        go_loop [5, 6] (fun nv iv => ∃ (j : Nat) (v : Int), j ≤ il ∧ iv = .int .i64 ((j : Int) - 1) ∧ nv = .int .i64 v ∧ valS (ts.drop j) = some v) (fun _ iv => (intOf iv + 1).toNat)
        case atStart => exact ⟨il, 0, Nat.le_refl _, rfl, rfl, by rw [List.drop_eq_nil_of_le (by have := HL.out; omega)]; rfl⟩
        case round =>
          obtain ⟨j, v, hj, rfl, rfl, hval⟩ := hrel
          obtain ⟨hv0, hv1⟩ := valS_le hval (by simp; have := HL.out; omega)
          have HV := Lib.hid hval; clear hval
          by_cases hj0 : j = 0
          · subst hj0
            have hvf : Hid (specNum T = if 1000000000 < v then -1 else v) := by
              show _ = _
              have := HV.out
              rw [List.drop_zero] at this
              rw [hv.out, this]
            rw [show (((0 : Nat) : Int) - 1) = -1 from rfl]
            by_cases hbig : 1000000000 < v
            · go_wp2
              go_ret
              exact ⟨by rw [hvf.out, if_pos hbig]; rfl, hb2'⟩
            · have hle : v ≤ 1000000000 := by omega
              clear hbig
              go_wp2
              go_ret
              exact ⟨by rw [hvf.out, if_neg (by omega)]; rfl, hb2'⟩
          · obtain ⟨i, rfl⟩ : ∃ i, j = i + 1 := ⟨j - 1, by omega⟩
            rw [show (((i + 1 : Nat) : Int) - 1) = (i : Int) by omega]
            obtain rfl := HA.out (by omega)
            obtain ⟨xk, xn, xs, xas, hx⟩ : ∃ xk xn xs xas, ts[i]? = some (.mk xk xn xs xas) := by
              have h1 : i < ts.length := by have := HL.out; omega
              cases hx : ts[i] with
              | mk xk xn xs xas => exact ⟨xk, xn, xs, xas, by simp [h1, hx]⟩
            have r1 := HEL.out i _ hx
            rw [Rd_mk] at r1
            obtain ⟨x0, x1, x2, xa, xl, xc, x3, hrx⟩ := r1
            rw [show o + 4 * i = o + i * 4 by omega] at x0 x1
            have hst : Hid (valS (ts.drop i) = if xk ≠ 3 ∨ xn < 0 ∨ 1 < xn ∨ (v = 0 ∧ xn = 0) then none else some (2 * v + xn)) := by
              show _ = _
              rw [drop_at hx, valS_some HV.out]; rfl
            have hbd : ∀ W : Prop, (valS (ts.drop i) = none) → Hid (specNum T = -1) := by
              intro _ hn
              show _ = _
              rw [hv.out]
              have := valS_none (a := ts.take i) hn
              rw [List.take_append_drop] at this
              rw [this]
            have HBD := Lib.hid hbd
            clear hx hrx x2 x3 hj0 hbd
            by_cases h3 : xk = 3
            · subst h3
              by_cases hx01 : xn < 0 ∨ 1 < xn
              · have hfin := HBD.out True (by rw [hst.out, if_pos (by omega)])
                have HX := Lib.hid hx01; clear hx01
                go_wp2_with fail
                refine (l01In_false _ _ _ _ HX.out).mono ?_
                rintro e w3 ⟨rfl, rfl⟩
                go_wp2
                go_ret
                exact ⟨by rw [hfin.out]; rfl, hb2'⟩
              · have hx0 : 0 ≤ xn := by omega
                have hx1 : xn ≤ 1 := by omega
                clear hx01
                go_wp2_with fail
                refine (l01In_true _ _ _ _ hx0 hx1).mono ?_
                rintro e w3 ⟨rfl, rfl⟩
                by_cases hz : v = 0 ∧ xn = 0
                · obtain ⟨rfl, rfl⟩ := hz
                  have hfin := HBD.out True (by rw [hst.out, if_pos (by omega)])
                  go_wp2
                  go_ret
                  exact ⟨by rw [hfin.out]; rfl, hb2'⟩
                · have hnew : Hid (valS (ts.drop i) = some (2 * v + xn)) := by show _ = _; rw [hst.out, if_neg (by omega)]
                  have hor : v = 0 ∧ (xn == 0) = false ∨ (v == 0) = false := by
                    by_cases h0 : v = 0
                    · left; exact ⟨h0, by simp; omega⟩
                    · right; simpa using h0
                  clear hz
                  rcases hor with ⟨rfl, d2⟩ | d2
                  all_goals
                    go_wp2
                    go_round
                    case rel => exact ⟨i, _, by omega, rfl, rfl, by first | exact hnew.out | (rw [hnew.out]; congr 1; omega)⟩
                    case measure => simp [intOf]
            · have d3 : (xk != 3) = true := by simpa using h3
              have hfin := HBD.out True (by rw [hst.out, if_pos (by omega)])
              clear h3
              go_wp2
              go_ret
              exact ⟨by rw [hfin.out]; rfl, hb2'⟩
    · have dk : (tk != 0) = true := by simpa using hk
      have hv : Hid (specNum T = -1) := by
        show _ = _
        rw [specNum, if_neg]; rintro ⟨_, h2, _⟩; rw [htk.out] at h2; exact hk h2
      clear hk
      go_wp2
      go_ret
      exact ⟨by rw [hv.out]; rfl, hb2'⟩
end Go.Proofs.Ytjkabbkaeioibaa
