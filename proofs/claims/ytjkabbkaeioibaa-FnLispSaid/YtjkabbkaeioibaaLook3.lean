/- Contracts of LookupLisp: the program's and the reference's. -/
import Derived.Test.YtjkabbkaeioibaaLook2
import Derived.Test.YtjkabbkaeioibaaNumberS
namespace Go.Proofs.Ytjkabbkaeioibaa
open Go.RowKit

theorem its_wf {t : Tm} : t.wf = true → (∀ x ∈ t.its, x.wf = true) ∧ t.tl.wf = true := by
  induction t using Tm.ind with
  | h k n s xs ih =>
    intro h
    rcases wf_split h with ⟨hk, rfl⟩ | ⟨rfl, rfl, hs0, x, y, rfl, hx, hy⟩
    · rw [(its_end hk).1, (its_end hk).2]; exact ⟨by simp, h⟩
    · rw [its_pair.1, its_pair.2]
      have := ih y (by simp) hy
      exact ⟨fun z hz => by
        rcases List.mem_cons.1 hz with rfl | hz
        · exact hx
        · exact this.1 z hz, this.2⟩
theorem lookL_wf {x : Tm} : ∀ {l : List Tm} {b : Tm}, (∀ y ∈ l, y.wf = true) → lookL x l = some b → b.wf = true := by
  intro l
  induction l with
  | nil => intro b _ h; simp [lookL] at h
  | cons p r ih =>
    intro b hl h
    obtain ⟨k, n, s, xs⟩ := p
    have hp := hl _ (by simp : Tm.mk k n s xs ∈ _)
    rcases wf_split hp with ⟨hk, rfl⟩ | ⟨rfl, rfl, hs0, u, v, rfl, hu, hv⟩
    · rw [lookL_end hk] at h; cases h
    · rw [lookL_pair] at h
      split at h
      · cases h; exact hv
      · exact ih (fun y hy => hl y (by simp [hy])) h
theorem lookL_cnt {x : Tm} : ∀ {l : List Tm} {b : Tm}, lookL x l = some b → b.cnt < cntL l := by
  intro l
  induction l with
  | nil => intro b h; simp [lookL] at h
  | cons p r ih =>
    intro b h
    obtain ⟨k, n, s, xs⟩ := p
    match xs, h with
    | [], h => simp [lookL] at h
    | [_], h => simp [lookL] at h
    | [u, v], h =>
      by_cases hk : k = 4
      · subst hk
        rw [lookL_pair] at h
        simp only [cntL, cnt_pair]
        split at h
        · cases h; omega
        · have := ih h; omega
      · rw [lookL_end hk] at h; cases h
    | _ :: _ :: _ :: _, h => simp [lookL] at h
theorem its_cnt (t : Tm) : cntL t.its < t.cnt := by
  induction t using Tm.ind with
  | h k n s xs ih =>
    by_cases hk : k = 4
    · subst hk
      match xs, ih with
      | [], _ => simp [Tm.its, cntL, Tm.cnt]
      | [x], _ => simp [Tm.its, cntL, Tm.cnt]; omega
      | [x, y], ih =>
        rw [its_pair.1, cnt_pair]
        have := ih y (by simp)
        simp only [cntL]; omega
      | _ :: _ :: _ :: _, _ => simp [Tm.its, cntL, Tm.cnt]; omega
    · rw [(its_end hk).1]; simp [cntL, Tm.cnt]; omega
noncomputable def lookV (x e : Tm) : Option Tm := if x.ok = true ∧ e.ok = true then lookL x e.its else none
theorem ok_wf {t : Tm} (h : t.ok = true) : t.wf = true ∧ t.cnt ≤ 5000 := by simpa [Tm.ok] using h

theorem lookV_ok (x e : Tm) : (lookR (lookV x e)).wf = true ∧ (lookR (lookV x e)).cnt ≤ 5000 := by
  have hnil : (lookR none).wf = true ∧ (lookR none).cnt ≤ 5000 := by simp [lookR, Tm.nil, Tm.wf, atomB, Tm.cnt, cntL]
  rw [lookV]
  split
  · rename_i h
    have hw := ok_wf h.2
    cases hl : lookL x e.its with
    | none => exact hnil
    | some b =>
      have h1 := lookL_cnt hl; have h2 := its_cnt e
      exact ⟨lookL_wf (its_wf hw.1).1 hl, by show b.cnt ≤ 5000; omega⟩
  · exact hnil
theorem results_zero {fn : Func} {t u : Tmp} (h : fn.results = #[.cell t 26, .tmp u]) (tmps : Array Value) (w : World) (B : Nat) (hp : tmps.getD t undef = .pointer (some ⟨B, 0, none⟩)) {r : Value} {T : Nat} {fz : Nat × Nat} (hu : tmps.getD u undef = r) (hb : w.heap[B]? = some (.cells #[.int .i64 0, .int .i64 0, .string ⟨#[]⟩, .slice none 0 0] T fz)) :
    (results fn tmps).run Try.prog w = .ok (.tuple #[.agg #[.int .i64 0, .int .i64 0, .string ByteArray.empty, .slice none 0 0], r]) w := results_term2 h tmps w B hp hu hb

theorem OutTB_none {w w' : World} (hb : Below w.heap.size w w') : OutTB w (lookR none) (none : Option Tm).isSome [] (.returned (.tuple #[.agg #[.int .i64 0, .int .i64 0, .string ByteArray.empty, .slice none 0 0], .bool false])) w' :=
  ⟨0, 0, ByteArray.empty, [], none, 0, 0, [], rfl, rfl, RdS_nil _ _ _, Grows.nil _ _ _, hb⟩
theorem OutM_none {w w' : World} (hb : Below w.heap.size w w') : OutM w (lookR none) (.bool (none : Option Tm).isSome) [] (.returned (.tuple #[.agg #[.int .i64 0, .int .i64 0, .string ByteArray.empty, .slice none 0 0], .bool false])) w' :=
  ⟨0, 0, ByteArray.empty, [], none, 0, 0, [], rfl, rfl, RdS_nil _ _ _, by simp, hb⟩

theorem low_of {F : List Nat} {W : World} (h : ∀ x ∈ F, x ∈ ([] : List Nat) ∨ W.heap.size ≤ x) : ∀ x ∈ F, W.heap.size ≤ x := fun x hx => by
  rcases h x hx with h' | h'
  · cases h'
  · exact h'
set_option maxHeartbeats 4000000 in
set_option maxRecDepth 100000 in
theorem LookupLisp_impl (k1 n1 : Int) (s1 : ByteArray) (xs1 : List Tm) (a1 : Option Addr) (l1 c1 : Nat) (F1 : List Nat) (k2 n2 : Int) (s2 : ByteArray) (xs2 : List Tm) (a2 : Option Addr) (l2 c2 : Nat) (F2 : List Nat) (w : World)
    (h1 : RdS w xs1 a1 l1 c1 F1) (h2 : RdS w xs2 a2 l2 c2 F2) (hL1 : (Tm.mk k1 n1 s1 xs1).Lens) (hL2 : (Tm.mk k2 n2 s2 xs2).Lens) :
    Calls Try.prog 37 #[.agg #[.int .i64 k1, .int .i64 n1, .string s1, .slice a1 l1 c1], .agg #[.int .i64 k2, .int .i64 n2, .string s2, .slice a2 l2 c2]] w
      (OutTB w (lookR (lookV (.mk k1 n1 s1 xs1) (.mk k2 n2 s2 xs2))) (lookV (.mk k1 n1 s1 xs1) (.mk k2 n2 s2 xs2)).isSome []) := by
  have O1 := Lib.hid (TermOk_impl k1 n1 s1 xs1 a1 l1 c1 F1)
  have O2 := Lib.hid (TermOk_impl k2 n2 s2 xs2 a2 l2 c2 F2)
  have LK := Lib.hid (lookup_impl k1 n1 s1 xs1 a1 l1 c1 F1 k2 n2 s2 xs2 a2 l2 c2 F2)
  generalize Tm.mk k1 n1 s1 xs1 = X at *
  generalize Tm.mk k2 n2 s2 xs2 = E at *
  obtain ⟨res, hres⟩ : ∃ r, r = lookV X E := ⟨_, rfl⟩
  rw [← hres]
  have HR := Lib.hid hres
  clear hres
  have hbA : ∀ o1 o2 o3, Below w.heap.size w (((w.alloc o1).alloc o2).alloc o3) := fun o1 o2 o3 => (((Below.refl _ _).alloc (Nat.le_refl _) _).alloc (by simp) _).alloc (by simp; omega) _
  have HBA := Lib.hid hbA; clear hbA
  go_enter Try.func37, Try.ntmps37
  go_wp2_with fail
  refine (O1.out _ (RdS_ext h1 (HBA.out _ _ _)) hL1).mono ?_
  rintro e w1 ⟨rfl, hb1⟩
  have hbel := (HBA.out _ _ _).trans (hb1.mono (by simp; omega))
  have hbox1 : w1.heap[w.heap.size]? = some (.cells #[.int .i64 k1, .int .i64 n1, .string s1, .slice a1 l1 c1] 26 (0, 0)) := by
    rw [hb1.block _ (by simp; omega), heap_old (by simp; omega), heap_old (by simp)]; exact heap_new rfl
  have hbox2 : w1.heap[w.heap.size + 1]? = some (.cells #[.int .i64 k2, .int .i64 n2, .string s2, .slice a2 l2 c2] 26 (0, 0)) := by
    rw [hb1.block _ (by simp), heap_old (by simp), heap_new (by simp)]
  have hboxr : w1.heap[w.heap.size + 1 + 1]? = some (.cells #[.int .i64 0, .int .i64 0, .string ⟨#[]⟩, .slice none 0 0] 26 (0, 0)) := by
    rw [hb1.block _ (by simp), heap_new (by simp)]
  have hs1 := heap_lt hboxr
  obtain ⟨q0, q1, q2, q3, _⟩ := box4 hbox2
  obtain ⟨r0, r1, r2, r3, rf⟩ := box4 hboxr
  have HB1 := Lib.hid hbox1; have HB2 := Lib.hid hbox2; have HBR := Lib.hid hboxr
  clear hbox1 hbox2 hboxr hb1
  cases hok1 : X.ok with
  | false =>
    have hfin : Hid (res = none) := by show _ = _; rw [HR.out, lookV, if_neg (by simp [hok1])]
    clear hok1
    go_wp2
    refine bodyPost_ret (v := .tuple #[.agg #[.int .i64 0, .int .i64 0, .string ByteArray.empty, .slice none 0 0], .bool false]) (results_term2 rfl _ _ (w.heap.size + 1 + 1) rfl rfl (heap_set4 HBR.out)) rfl ?_
    rw [hfin.out]
    exact OutTB_none (hbel.trans (below_set4 (by omega)))
  | true =>
    have HO1 := Lib.hid hok1; clear hok1
    go_wp2_with fail
    refine (O2.out _ (RdS_ext h2 hbel) hL2).mono ?_
    rintro e w2 ⟨rfl, hb2⟩
    have HB1' := Lib.hid ((hb2.block _ (by omega)).trans HB1.out)
    have HB2' := Lib.hid ((hb2.block _ (by omega)).trans HB2.out)
    have HBR' := Lib.hid ((hb2.block _ (by omega)).trans HBR.out)
    have hs2 := heap_lt HBR'.out
    replace hbel := hbel.trans (hb2.mono hbel.size)
    clear q0 q1 q2 q3 r0 r1 r2 r3 rf hb2
    obtain ⟨p0, p1, p2, p3, _⟩ := box4 HB1'.out
    obtain ⟨q0, q1, q2, q3, _⟩ := box4 HB2'.out
    obtain ⟨r0, r1, r2, r3, rf⟩ := box4 HBR'.out
    cases hok2 : E.ok with
    | false =>
      have hfin : Hid (res = none) := by show _ = _; rw [HR.out, lookV, if_neg (by simp [hok2])]
      clear hok2
      go_wp2
      refine bodyPost_ret (v := .tuple #[.agg #[.int .i64 0, .int .i64 0, .string ByteArray.empty, .slice none 0 0], .bool false]) (results_term2 rfl _ _ (w.heap.size + 1 + 1) rfl rfl (heap_set4 HBR'.out)) rfl ?_
      rw [hfin.out]
      exact OutTB_none (hbel.trans (below_set4 (by omega)))
    | true =>
      have hv : Hid (lookL X E.its = res) := by show _ = _; rw [HR.out, lookV, if_pos ⟨HO1.out, hok2⟩]
      have hvw : Hid (∀ b, res = some b → b.wf = true) := by
        intro b hb
        rw [← hv.out] at hb
        exact lookL_wf (its_wf (ok_wf hok2).1).1 hb
      have HO2 := Lib.hid hok2; clear hok2
      go_wp2_with fail
      refine (LK.out _ (RdS_ext h1 hbel) (RdS_ext h2 hbel) (ok_wf HO1.out).1 (ok_wf HO2.out).1).mono ?_
      rw [hv.out]
      rintro e w3 ⟨k, n, s, xs, a, l, c, F, ht, rfl, hrd, hF, hb3⟩
      have HT := Lib.hid ht; clear ht
      have HBR3 := Lib.hid ((hb3.block _ (by omega)).trans HBR'.out)
      have hs3 := heap_lt HBR3.out
      have hbel3 := hbel.trans (hb3.mono hbel.size)
      clear p0 p1 p2 p3 q0 q1 q2 q3 r0 r1 r2 r3 rf
      obtain ⟨r0, r1, r2, r3, rf⟩ := box4 HBR3.out
      cases res with
      | none =>
        go_wp2
        refine bodyPost_ret (v := .tuple #[.agg #[.int .i64 0, .int .i64 0, .string ByteArray.empty, .slice none 0 0], .bool false]) (results_term2 rfl _ _ (w.heap.size + 1 + 1) rfl rfl ((heap_old (by rw [size_set4]; omega)).trans (heap_set4 HBR3.out))) rfl ?_
        exact OutTB_none ((hbel3.trans (below_set4 (by omega))).alloc (by rw [size_set4]; have := hbel3.size; omega) _)
      | some v =>
        have hwv := hvw.out v rfl
        obtain rfl : v = .mk k n s xs := HT.out
        go_wp2_with fail
        have hrd4 := RdS_ext hrd ((Below.refl w3.heap.size w3).alloc (Nat.le_refl _) (.cells #[.int .i64 k, .int .i64 n, .string s, .slice a l c] 26))
        refine (copyI_all _ k n s xs a l c F _ rfl hrd4 hwv).mono ?_
        rintro e w4 ⟨k', n', s', xs', a', l', c', F', ht', rfl, hrd5, hgr5, hb4⟩
        cases ht'
        have hbel4 := (hbel3.alloc hbel3.size (.cells #[.int .i64 k, .int .i64 n, .string s, .slice a l c] 26)).trans (hb4.mono (by have := hbel3.size; simp; omega))
        have HBR4 := Lib.hid ((hb4.block _ (by simp; omega)).trans ((heap_old (by omega)).trans HBR3.out))
        have hs4 := heap_lt HBR4.out
        clear r0 r1 r2 r3 rf
        obtain ⟨r0, r1, r2, r3, rf⟩ := box4 HBR4.out
        have hlo : ∀ x ∈ F', w3.heap.size < x := fun x hx => by have := (hgr5.fresh.2 x hx).1; simp at this; omega
        have hgr6 : Grows w w4 [] F' := (hgr5.fresh.base (by have := hbel3.size; simp; omega)).grows
        go_wp2
        exact bodyPost_ret (v := .tuple #[.agg #[.int .i64 k, .int .i64 n, .string s, .slice a' l' c'], .bool true]) (results_term2 rfl _ _ (w.heap.size + 1 + 1) rfl rfl (heap_set4 HBR4.out)) rfl (OutTB_set rfl hrd5 hgr6 hbel4 (by omega) (fun x hx => by have := hlo x hx; omega))

set_option maxHeartbeats 4000000 in
set_option maxRecDepth 100000 in
theorem LookupLisp_spec (k1 n1 : Int) (s1 : ByteArray) (xs1 : List Tm) (a1 : Option Addr) (l1 c1 : Nat) (F1 : List Nat) (k2 n2 : Int) (s2 : ByteArray) (xs2 : List Tm) (a2 : Option Addr) (l2 c2 : Nat) (F2 : List Nat) (w : World)
    (h1 : RdS w xs1 a1 l1 c1 F1) (h2 : RdS w xs2 a2 l2 c2 F2) (hL1 : (Tm.mk k1 n1 s1 xs1).Lens) (hL2 : (Tm.mk k2 n2 s2 xs2).Lens) (hc1 : (Tm.mk k1 n1 s1 xs1).cnt ≤ 10000000000) (hc2 : (Tm.mk k2 n2 s2 xs2).cnt ≤ 10000000000) :
    Calls Try.prog 36 #[.agg #[.int .i64 k1, .int .i64 n1, .string s1, .slice a1 l1 c1], .agg #[.int .i64 k2, .int .i64 n2, .string s2, .slice a2 l2 c2]] w
      (OutM w (lookR (lookV (.mk k1 n1 s1 xs1) (.mk k2 n2 s2 xs2))) (.bool (lookV (.mk k1 n1 s1 xs1) (.mk k2 n2 s2 xs2)).isSome) []) := by
  have O1 := Lib.hid (TermOk_spec k1 n1 s1 xs1 a1 l1 c1 F1)
  have IT := Lib.hid (ItemsOf_spec k2 n2 s2 xs2 a2 l2 c2 F2)
  have EQ := Lib.hid (fun ak an az aas aa al ac AF W => same_spec ak an az aas aa al ac AF k1 n1 s1 xs1 a1 l1 c1 F1 W)
  generalize Tm.mk k1 n1 s1 xs1 = X at *
  generalize Tm.mk k2 n2 s2 xs2 = E at *
  obtain ⟨res, hres⟩ : ∃ r, r = lookV X E := ⟨_, rfl⟩
  rw [← hres]
  have HR := Lib.hid hres
  clear hres
  have hbA : ∀ o1 o2 o3, Below w.heap.size w (((w.alloc o1).alloc o2).alloc o3) := fun o1 o2 o3 => (((Below.refl _ _).alloc (Nat.le_refl _) _).alloc (by simp) _).alloc (by simp; omega) _
  have HBA := Lib.hid hbA; clear hbA
  go_enter Try.func36, Try.ntmps36
  go_wp2_with fail
  refine (IT.out _ (RdS_ext h2 (HBA.out _ _ _)) hL2 hc2).mono ?_
  rintro e w1 ⟨ia, il, ic, iF, tk, tn, tz, txs, ta, tl, tc, tF, htl, rfl, hird, htrd, hnew, hb1⟩
  have hbel := (HBA.out _ _ _).trans (hb1.mono (by simp; omega))
  have hbox1 : w1.heap[w.heap.size]? = some (.cells #[.int .i64 k1, .int .i64 n1, .string s1, .slice a1 l1 c1] 26 (0, 0)) := by
    rw [hb1.block _ (by simp; omega), heap_old (by simp; omega), heap_old (by simp)]; exact heap_new rfl
  have hboxr : w1.heap[w.heap.size + 1 + 1]? = some (.cells #[.int .i64 0, .int .i64 0, .string ⟨#[]⟩, .slice none 0 0] 26 (0, 0)) := by
    rw [hb1.block _ (by simp), heap_new (by simp)]
  have hs1 := heap_lt hboxr
  have hs0 : w.heap.size < w1.heap.size := by omega
  have HNEW : Hid (∀ x ∈ iF, w.heap.size + 3 ≤ x) := fun x hx => by have := hnew x (List.mem_append.2 (.inl hx)); simp at this; omega
  obtain ⟨p0, p1, p2, p3, _⟩ := box4 hbox1
  have HB1 := Lib.hid hbox1; have HBR := Lib.hid hboxr
  clear hbox1 hboxr hb1 htl htrd hnew IT
  go_wp2_with fail
  have hbT : Below w1.heap.size w1 (w1.alloc (.cells #[.int .i64 tk, .int .i64 tn, .string tz, .slice ta tl tc] 26)) := (Below.refl _ _).alloc (Nat.le_refl _) _
  have hbelT := hbel.trans (hbT.mono hbel.size)
  refine (O1.out _ (RdS_ext h1 hbelT) hL1 hc1).mono ?_
  rintro e w2 ⟨rfl, hb2⟩
  have hbW := hbT.trans (hb2.mono hbT.size)
  replace hbel := hbel.trans (hbW.mono hbel.size)
  have HB1' := Lib.hid ((hbW.block _ (by omega)).trans HB1.out)
  have HBR' := Lib.hid ((hbW.block _ (by omega)).trans HBR.out)
  have hird2 := RdS_ext hird hbW
  have hs2 := heap_lt HBR'.out
  clear p0 p1 p2 p3 hb2 hbT hbelT hbW hird HB1 HBR
  obtain ⟨r0, r1, r2, r3, rf⟩ := box4 HBR'.out
  cases hok1 : X.ok with
  | false =>
    have hfin : Hid (res = none) := by show _ = _; rw [HR.out, lookV, if_neg (by simp [hok1])]
    clear hok1
    go_wp2
    refine bodyPost_ret (v := .tuple #[.agg #[.int .i64 0, .int .i64 0, .string ByteArray.empty, .slice none 0 0], .bool false]) (results_term2 rfl _ _ (w.heap.size + 1 + 1) rfl rfl (heap_set4 HBR'.out)) rfl ?_
    rw [hfin.out]
    exact OutM_none (hbel.trans (below_set4 (by omega)))
  | true =>
    have hv : Hid (res = lookL X E.itsR) := by
      show _ = _
      rw [HR.out, lookV, Tm.itsR]
      cases hok2 : E.ok with
      | true => simp [hok1]
      | false => simp [lookL]
    have hwI : Hid (∀ x ∈ E.itsR, x.wf = true) := by
      intro x hx
      rw [Tm.itsR] at hx
      split at hx
      · rename_i h; exact (its_wf (ok_wf h).1).1 x hx
      · simp at hx
    have hwX := (ok_wf hok1).1
    have HWX := Lib.hid hwX
    have hlenI : E.itsR.length ≤ 5000 := by
      rw [Tm.itsR]
      split
      · rename_i h
        have h1 := its_cnt E; have h2 := cntL_ge E.its; have h3 := (ok_wf h).2; omega
      · simp
    generalize E.itsR = ts at *
    obtain ⟨b, o, Fs, ha, hl, hlF, hel, hlast⟩ := RdS_each hird2
    have hbb : Hid (0 < il → w.heap.size + 3 ≤ b ∧ ∀ i, ∀ x ∈ Fs.getD i [], w.heap.size + 3 ≤ x) := by
      intro hp
      rcases hlast with h' | h'
      · subst h'; simp at hl; omega
      · subst h'
        exact ⟨HNEW.out b (by simp), fun i x hx => HNEW.out x (List.mem_cons_of_mem _ (mem_getD_flatten hx))⟩
    have HA := Lib.hid ha; have HL := Lib.hid hl; have HEL := Lib.hid hel
    have hil : il ≤ 5000 := by omega
    clear hok1 hwX ha hl hlF hel hlast hlenI HR r0 r1 r2 r3 rf
    go_wp2_with fail
    go_loopw [21] (fun iv wr => ∃ j : Nat, j ≤ il ∧ iv = .int .i64 j ∧ res = lookL X (ts.drop j) ∧ Below w2.heap.size w2 wr) (fun iv _ => il - (intOf iv).toNat)
    case atStart => exact ⟨0, Nat.zero_le _, rfl, hv.out, Below.refl _ _⟩
    case round =>
      obtain ⟨j, hj, rfl, hlk, hbr⟩ := hrel
      have HLK := Lib.hid hlk; clear hlk
      have hbelr := hbel.trans (hbr.mono hbel.size)
      have HBRr := Lib.hid ((hbr.block _ hs2).trans HBR'.out)
      have HB1r := Lib.hid ((hbr.block _ (by omega)).trans HB1'.out)
      have hsr := heap_lt HBRr.out
      by_cases hlt : j < il
      · obtain rfl := HA.out (by omega)
        obtain ⟨xk, xn, xs, xas, hx⟩ : ∃ xk xn xs xas, ts[j]? = some (.mk xk xn xs xas) := by
          have h1 : j < ts.length := by have := HL.out; omega
          cases hx : ts[j] with
          | mk xk xn xs xas => exact ⟨xk, xn, xs, xas, by simp [h1, hx]⟩
        have r1 := HEL.out j _ hx
        rw [Rd_mk] at r1
        obtain ⟨x0, x1, x2, xa, xl, xc, x3, hrx⟩ := r1
        have hbl := cell_lt x0
        rw [← hbr.cell (p := ⟨b, _, none⟩) hbl, show o + 4 * j = o + j * 4 by omega] at x0 x1 x2 x3
        have hlook : Hid (res = lookL X (.mk xk xn xs xas :: ts.drop (j + 1))) := by show _ = _; rw [HLK.out, drop_at hx]
        have HWP := Lib.hid (hwI.out _ (List.mem_of_getElem? hx))
        have HNB := Lib.hid ((hbb.out (by omega)).2 j)
        clear hx
        by_cases hxk : xk = 4
        · subst hxk
          obtain ⟨rfl, hs0, pa, pb, rfl, hpa, hpb⟩ := wf_four HWP.out
          obtain rfl := ba_empty hs0
          obtain ⟨b', o', uk, un, us, uas, ua, ul, uc, G3, vk, vn, vs, vas, va, vl, vc, G4, huv, rfl, hG, hblt', ⟨u0, u1, u2, u3⟩, ⟨v0, v1, v2, v3⟩, hru, hrv⟩ := RdS_pair hrx hrx.1
          obtain ⟨rfl, rfl⟩ : pa = .mk uk un us uas ∧ pb = .mk vk vn vs vas := by simpa using huv
          have hl2 : xl = 2 := hrx.1
          subst hl2
          have HPA := Lib.hid hpa
          have hG4 : Hid (∀ x ∈ G4, w.heap.size + 3 ≤ x) := fun x hx => HNB.out x (by rw [hG]; simp [hx])
          have hlook2 : Hid (res = if tmEq (.mk uk un us uas) X = true then some (.mk vk vn vs vas) else lookL X (ts.drop (j + 1))) := by show _ = _; rw [hlook.out, lookL_pair]
          clear hs0 hpa hpb huv hrx hlook HWP HNB hG
          go_wp2_with fail
          have hbA : Below wr.heap.size wr (wr.alloc (.cells #[.int .i64 4, .int .i64 0, .string ByteArray.empty, .slice (some ⟨b', o', none⟩) 2 xc] 26)) := (Below.refl _ _).alloc (Nat.le_refl _) _
          have hP : (wr.alloc (.cells #[.int .i64 4, .int .i64 0, .string ByteArray.empty, .slice (some ⟨b', o', none⟩) 2 xc] 26)).heap[wr.heap.size]? = some (.cells #[.int .i64 4, .int .i64 0, .string ByteArray.empty, .slice (some ⟨b', o', none⟩) 2 xc] 26 (0, 0)) := heap_new rfl
          generalize wr.alloc (.cells #[.int .i64 4, .int .i64 0, .string ByteArray.empty, .slice (some ⟨b', o', none⟩) 2 xc] 26) = V at *
          have hVX := (hbA.block _ (by omega)).trans HB1r.out
          have HVR := Lib.hid ((hbA.block _ (by omega)).trans HBRr.out)
          obtain ⟨_, _, _, g3, _⟩ := box4 hP
          obtain ⟨e0, e1, e2, e3, _⟩ := box4 hVX
          have hsP := heap_lt hP
          have HP := Lib.hid hP
          have hb2V := hbr.trans (hbA.mono hbr.size)
          rw [← hb2V.cell (p := ⟨b', _, none⟩) hblt'] at u0 u1 u2 u3 v0 v1 v2 v3
          have hb'V : b' < V.heap.size := Nat.lt_of_lt_of_le hblt' hb2V.size
          have hbelV := hbelr.trans (hbA.mono hbelr.size)
          have hruV := RdS_ext (w' := V.drew) hru hb2V.drew
          have hrvV := RdS_ext hrv hb2V
          have HC := Lib.hid (EQ.out uk un us uas ua ul uc G3 V.drew hruV (RdS_ext h1 hbelV.drew) HPA.out HWX.out)
          have hszV := hbA.size
          clear hP hVX x0 x1 x2 x3 hruV
          go_still_tail 5, (by kernel_rfl)
          go_wp2_with fail
          refine HC.out.mono ?_
          rintro e w4 ⟨rfl, hb4⟩
          have hbW : Below V.heap.size V w4 := below_of_drew hb4
          have hbW2 := hbelV.trans (hbW.mono hbelV.size)
          have hb24 := hb2V.trans (hbW.mono hb2V.size)
          have hs4 := hbW.size
          obtain ⟨_, _, _, g3', _⟩ := box4 ((hbW.block _ hsP).trans HP.out)
          have HR2 := Lib.hid ((hbW.block _ (by omega)).trans HVR.out)
          obtain ⟨z0, z1, z2, z3, zf⟩ := box4 HR2.out
          rw [← hbW.cell (p := ⟨b', _, none⟩) hb'V] at v0 v1 v2 v3
          have hrv2 := RdS_ext hrvV hbW
          clear g3 e0 e1 e2 e3 u0 u1 u2 u3 hb4 HC
          cases hteq : tmEq (.mk uk un us uas) X with
          | true =>
            have hfin : Hid (res = some (.mk vk vn vs vas)) := by show _ = _; rw [hlook2.out, hteq]; rfl
            clear hteq hlook2
            go_wp2
            refine bodyPost_ret (v := .tuple #[.agg #[.int .i64 vk, .int .i64 vn, .string vs, .slice va vl vc], .bool true]) (results_term2 rfl _ _ (w.heap.size + 1 + 1) rfl rfl (heap_set4 HR2.out)) rfl ?_
            rw [hfin.out]
            exact OutM_set rfl hrv2 (fun z hz => .inr (by have := hG4.out z hz; omega)) hbW2 (by omega) (fun z hz => by have := hG4.out z hz; omega)
          | false =>
            have hl3 : Hid (res = lookL X (ts.drop (j + 1))) := by show _ = _; rw [hlook2.out, hteq]; rfl
            clear hteq hlook2
            go_wp2
            go_roundw
            case rel => exact ⟨j + 1, by omega, by go_num, hl3.out, hb24⟩
            case measure => simp [intOf]; omega
        · have hxk' : (xk != 4) = true := by simpa using hxk
          have hfin : Hid (res = none) := by show _ = _; rw [hlook.out, lookL_end hxk]
          obtain ⟨r0, r1, r2, r3, rf⟩ := box4 HBRr.out
          clear hxk
          go_wp2
          refine bodyPost_ret (v := .tuple #[.agg #[.int .i64 0, .int .i64 0, .string ByteArray.empty, .slice none 0 0], .bool false]) (results_term2 rfl _ _ (w.heap.size + 1 + 1) rfl rfl ((heap_old (by rw [size_set4]; omega)).trans (heap_set4 HBRr.out))) rfl ?_
          rw [hfin.out]
          exact OutM_none ((hbelr.trans (below_set4 (by omega))).alloc (by rw [size_set4]; exact hbelr.size) _)
      · obtain rfl : j = il := by omega
        have hfin : Hid (res = none) := by
          show _ = _
          rw [HLK.out, List.drop_eq_nil_of_le (by have := HL.out; omega)]; rfl
        obtain ⟨r0, r1, r2, r3, rf⟩ := box4 HBRr.out
        go_wp2
        refine bodyPost_ret (v := .tuple #[.agg #[.int .i64 0, .int .i64 0, .string ByteArray.empty, .slice none 0 0], .bool false]) (results_term2 rfl _ _ (w.heap.size + 1 + 1) rfl rfl (heap_set4 HBRr.out)) rfl ?_
        rw [hfin.out]
        exact OutM_none (hbelr.trans (below_set4 (by omega)))
end Go.Proofs.Ytjkabbkaeioibaa
