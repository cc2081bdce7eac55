/- Contracts of the program's evalLisp, EvalLisp and StepsLisp, out of the evaluator's. -/
import Derived.Test.YtjkabbkaeioibaaGround
import Derived.Deep.RegionHeld3
namespace Go.Proofs.Ytjkabbkaeioibaa
open Go.RowKit

/-- the value, the steps taken, the code -/
noncomputable def runL (e env : Tm) (st : Int) : Tm × Nat × Nat :=
  if e.gnd = true ∧ env.gnd = true then
    (if 1 ≤ st ∧ st ≤ 1000 then
      (if (ev st.toNat st.toNat e env).2.1 = 0 then ((ev st.toNat st.toNat e env).1, st.toNat - (ev st.toNat st.toNat e env).2.2, 0) else (Tm.nil, 0, (ev st.toNat st.toNat e env).2.1))
      else (Tm.nil, 0, 2))
  else (Tm.nil, 0, 1)
def OutTV (w : World) (t : Tm) (r : Value) (G : List Nat) (e : Ending) (w' : World) : Prop :=
  ∃ k n s xs a l c F, t = .mk k n s xs ∧ e = .returned (.tuple #[.agg #[.int .i64 k, .int .i64 n, .string s, .slice a l c], r]) ∧ RdS w' xs a l c F ∧ Grows w w' G F ∧ Below w.heap.size w w'
def Out3 (w : World) (r : Tm × Nat × Nat) (e : Ending) (w' : World) : Prop :=
  ∃ k n s xs a l c F, r.1 = .mk k n s xs ∧ e = .returned (.tuple #[.agg #[.int .i64 k, .int .i64 n, .string s, .slice a l c], .int .i64 (r.2.1 : Int), .int .i64 (r.2.2 : Int)]) ∧ RdS w' xs a l c F ∧ Fresh w w' F ∧ Below w.heap.size w w'
theorem results_term3 {fn : Func} {t u v : Tmp} (h : fn.results = #[.cell t 26, .tmp u, .tmp v]) (tmps : Array Value) (w : World) (B : Nat) (hp : tmps.getD t undef = .pointer (some ⟨B, 0, none⟩)) {y0 y1 y2 y3 r r' : Value} {T : Nat} {fz : Nat × Nat}
    (hu : tmps.getD u undef = r) (hv : tmps.getD v undef = r') (hb : w.heap[B]? = some (.cells #[y0, y1, y2, y3] T fz)) : (results fn tmps).run Try.prog w = .ok (.tuple #[.agg #[y0, y1, y2, y3], r, r']) w := by
  have q0 := cell_of_block hb 0
  have q1 := cell_of_block hb 1
  have q2 := cell_of_block hb 2
  have q3 := cell_of_block hb 3
  simp at q0 q1 q2 q3
  have hp' : tmps[t]?.getD undef = .pointer (some ⟨B, 0, none⟩) := by simpa using hp
  have hu' : tmps[u]?.getD undef = r := by simpa using hu
  have hv' : tmps[v]?.getD undef = r' := by simpa using hv
  simp [results, h, hp', hu', hv', go_sem, q0, q1, q2, q3]
theorem Out3_nil {w w' : World} {a b : Nat} {x y : Int} (hb : Below w.heap.size w w') (hx : x = a) (hy : y = b) : Out3 w (Tm.nil, a, b) (.returned (.tuple #[.agg #[.int .i64 0, .int .i64 0, .string ⟨#[]⟩, .slice none 0 0], .int .i64 x, .int .i64 y])) w' :=
  ⟨0, 0, ByteArray.empty, [], none, 0, 0, [], rfl, by rw [hx, hy]; rfl, RdS_nil _ _ _, ⟨by simp, by simp⟩, hb⟩
theorem gnd_ok {t : Tm} (h : t.gnd = true) : t.ok = true := by simp [Tm.gnd] at h; exact h.1

set_option maxHeartbeats 4000000 in
set_option maxRecDepth 100000 in
theorem evalLisp_impl (EV : ∀ fuel, EvalT fuel) (k1 n1 : Int) (s1 : ByteArray) (xs1 : List Tm) (a1 : Option Addr) (l1 c1 : Nat) (F1 : List Nat) (k2 n2 : Int) (s2 : ByteArray) (xs2 : List Tm) (a2 : Option Addr) (l2 c2 : Nat) (F2 : List Nat) (st : Int) (w : World)
    (h1 : RdS w xs1 a1 l1 c1 F1) (h2 : RdS w xs2 a2 l2 c2 F2) (hL1 : (Tm.mk k1 n1 s1 xs1).Lens) (hL2 : (Tm.mk k2 n2 s2 xs2).Lens) :
    Calls Try.prog 66 #[.agg #[.int .i64 k1, .int .i64 n1, .string s1, .slice a1 l1 c1], .agg #[.int .i64 k2, .int .i64 n2, .string s2, .slice a2 l2 c2], .int .i64 st] w
      (Out3 w (runL (.mk k1 n1 s1 xs1) (.mk k2 n2 s2 xs2) st)) := by
  have G1 := Lib.hid (IsGround_impl k1 n1 s1 xs1 a1 l1 c1 F1)
  have G2 := Lib.hid (IsGround_impl k2 n2 s2 xs2 a2 l2 c2 F2)
  have HEV := Lib.hid (fun N => EV N N)
  have HF1 := Lib.hid (RdS_lt h1); have HF2 := Lib.hid (RdS_lt h2)
  have HH1 := Lib.hid h1; have HH2 := Lib.hid h2
  obtain ⟨X, hX⟩ : ∃ X : Tm, X = .mk k1 n1 s1 xs1 := ⟨_, rfl⟩
  obtain ⟨E, hE⟩ : ∃ E : Tm, E = .mk k2 n2 s2 xs2 := ⟨_, rfl⟩
  rw [← hX] at G1 hL1 ⊢
  rw [← hE] at G2 hL2 ⊢
  obtain ⟨rr, hrr⟩ : ∃ r, r = runL X E st := ⟨_, rfl⟩
  rw [← hrr]
  have HRR := Lib.hid hrr; have HX := Lib.hid hX; have HE := Lib.hid hE
  clear hrr hX hE EV h1 h2
  have hbA : ∀ o1 o2 o3, Below w.heap.size w (((w.alloc o1).alloc o2).alloc o3) := fun o1 o2 o3 => (((Below.refl _ _).alloc (Nat.le_refl _) _).alloc (by simp) _).alloc (by simp; omega) _
  have HBA := Lib.hid hbA; clear hbA
  go_enter Try.func66, Try.ntmps66
  go_wp2_with fail
  refine (G1.out _ (RdS_ext HH1.out (HBA.out _ _ _)) hL1).mono ?_
  rintro e w1 ⟨rfl, hb1⟩
  have hbel := (HBA.out _ _ _).trans (hb1.mono (by simp; omega))
  have HB1 : Hid (w1.heap[w.heap.size]? = some (.cells #[.int .i64 k1, .int .i64 n1, .string s1, .slice a1 l1 c1] 26 (0, 0))) := by
    show _ = _
    rw [hb1.block _ (by simp; omega), heap_old (by simp; omega), heap_old (by simp)]; exact heap_new rfl
  have HB2 : Hid (w1.heap[w.heap.size + 1]? = some (.cells #[.int .i64 k2, .int .i64 n2, .string s2, .slice a2 l2 c2] 26 (0, 0))) := by
    show _ = _
    rw [hb1.block _ (by simp), heap_old (by simp), heap_new (by simp)]
  have HBR : Hid (w1.heap[w.heap.size + 1 + 1]? = some (.cells #[.int .i64 0, .int .i64 0, .string ⟨#[]⟩, .slice none 0 0] 26 (0, 0))) := by
    show _ = _
    rw [hb1.block _ (by simp), heap_new (by simp)]
  have hs1 := heap_lt HBR.out
  clear hb1
  obtain ⟨q0, q1, q2, q3, _⟩ := box4 HB2.out
  obtain ⟨r0, r1, r2, r3, rf⟩ := box4 HBR.out
  cases hg1 : X.gnd with
  | false =>
    have hfin : Hid (rr = (Tm.nil, 0, 1)) := by show _ = _; rw [HRR.out, runL, if_neg (by simp [hg1])]
    clear hg1
    go_wp2
    rw [hfin.out]
    exact bodyPost_ret (v := .tuple #[.agg #[.int .i64 0, .int .i64 0, .string ⟨#[]⟩, .slice none 0 0], .int .i64 0, .int .i64 1]) (results_term3 rfl _ _ (w.heap.size + 1 + 1) rfl rfl rfl (heap_set4 HBR.out)) rfl (Out3_nil (hbel.trans (below_set4 (by omega))) rfl rfl)
  | true =>
    have HG1 := Lib.hid hg1; clear hg1
    go_wp2_with fail
    refine (G2.out _ (RdS_ext HH2.out hbel) hL2).mono ?_
    rintro e w2 ⟨rfl, hb2⟩
    have HB1' := Lib.hid ((hb2.block _ (by omega)).trans HB1.out)
    have HB2' := Lib.hid ((hb2.block _ (by omega)).trans HB2.out)
    have HBR' := Lib.hid ((hb2.block _ (by omega)).trans HBR.out)
    have hs2 := heap_lt HBR'.out
    replace hbel := hbel.trans (hb2.mono hbel.size)
    clear q0 q1 q2 q3 r0 r1 r2 r3 rf hb2
    obtain ⟨r0, r1, r2, r3, rf⟩ := box4 HBR'.out
    cases hg2 : E.gnd with
    | false =>
      have hfin : Hid (rr = (Tm.nil, 0, 1)) := by show _ = _; rw [HRR.out, runL, if_neg (by simp [hg2])]
      clear hg2
      go_wp2
      rw [hfin.out]
      exact bodyPost_ret (v := .tuple #[.agg #[.int .i64 0, .int .i64 0, .string ⟨#[]⟩, .slice none 0 0], .int .i64 0, .int .i64 1]) (results_term3 rfl _ _ (w.heap.size + 1 + 1) rfl rfl rfl (heap_set4 HBR'.out)) rfl (Out3_nil (hbel.trans (below_set4 (by omega))) rfl rfl)
    | true =>
      have HG2 := Lib.hid hg2; clear hg2
      by_cases hst : 1 ≤ st ∧ st ≤ 1000
      case neg =>
        have hfin : Hid (rr = (Tm.nil, 0, 2)) := by show _ = _; rw [HRR.out, runL, if_pos ⟨HG1.out, HG2.out⟩, if_neg hst]
        have hor : st < 1 ∨ (decide (st < 1) = false ∧ 1000 < st) := by
          by_cases h : st < 1
          · exact .inl h
          · exact .inr ⟨by simpa using h, by omega⟩
        clear hst
        rcases hor with h' | ⟨h', h''⟩
        all_goals
          go_wp2
          rw [hfin.out]
          exact bodyPost_ret (v := .tuple #[.agg #[.int .i64 0, .int .i64 0, .string ⟨#[]⟩, .slice none 0 0], .int .i64 0, .int .i64 2]) (results_term3 rfl _ _ (w.heap.size + 1 + 1) rfl rfl rfl (heap_set4 HBR'.out)) rfl (Out3_nil (hbel.trans (below_set4 (by omega))) rfl rfl)
      obtain ⟨hst1, hst2⟩ := hst
      obtain ⟨N, rfl⟩ := Int.eq_ofNat_of_zero_le (show 0 ≤ st by omega)
      obtain ⟨r, hr⟩ : ∃ r : Res, r = ev N N X E := ⟨_, rfl⟩
      have hrun : Hid (rr = if r.2.1 = 0 then (r.1, N - r.2.2, 0) else (Tm.nil, 0, r.2.1)) := by
        show _ = _
        rw [HRR.out, runL, if_pos ⟨HG1.out, HG2.out⟩, if_pos ⟨hst1, hst2⟩, Int.toNat_natCast, hr]
      have hgood : GoodR r N := by rw [hr]; exact ev_good N N X E (gnd_ok HG1.out) (gnd_ok HG2.out)
      have HR := Lib.hid hr; have HGOOD := Lib.hid hgood
      have hrl := hgood.left
      have hrc := hgood.code
      have hd1 : decide ((N : Int) < 1) = false := by simp; omega
      have hd2 : decide (1000 < (N : Int)) = false := by simp; omega
      clear hr hgood
      obtain ⟨p0, p1, p2, p3, _⟩ := box4 HB1'.out
      obtain ⟨q0, q1, q2, q3, _⟩ := box4 HB2'.out
      have hl0 : w.heap.size < w2.heap.size := by omega
      have hl1 : w.heap.size + 1 < w2.heap.size := by omega
      go_wp2_with fail
      have hbN : Below w2.heap.size w2 (w2.alloc (.cells #[.int .i64 (N : Int), .int .i64 0] 91)) := (Below.refl _ _).alloc (Nat.le_refl _) _
      have hLA : LispAt (w2.alloc (.cells #[.int .i64 (N : Int), .int .i64 0] 91)) w2.heap.size N N := by
        show _ = _
        rw [heap_new rfl, Int.sub_self]
      have hbelN := hbel.trans (hbN.mono hbel.size)
      have CE := HEV.out N N w2.heap.size k1 n1 s1 xs1 a1 l1 c1 F1 k2 n2 s2 xs2 a2 l2 c2 F2 _ (Nat.le_refl _) (Nat.le_refl _) (by omega) hLA (RdS_ext HH1.out hbelN) (RdS_ext HH2.out hbelN) (fun hm => by have := HF1.out _ hm; have := hbel.size; omega) (fun hm => by have := HF2.out _ hm; have := hbel.size; omega) (by rw [← HX.out]; exact gnd_ok HG1.out) (by rw [← HE.out]; exact gnd_ok HG2.out)
      rw [← HX.out, ← HE.out, ← HR.out] at CE
      refine CE.mono ?_
      rintro e w3 ⟨k, n, s, xs, a, l, c, F, hr1, rfl, hrd, hF, hg3, hl3⟩
      have hbel3 : Below w.heap.size w w3 := ⟨hg3.os.trans hbelN.os, hg3.tape.trans hbelN.tape, hg3.output.trans hbelN.output, Nat.le_trans hbelN.size hg3.size, fun x hx => (hg3.block x (by have := hbel.size; simp; omega) (by simp; have := hbel.size; omega)).trans (hbelN.block x hx)⟩
      have HBR3 := Lib.hid ((hg3.block _ (by simp; omega) (by simp; omega)).trans ((heap_old hs2).trans HBR'.out))
      have hs3 := heap_lt HBR3.out
      have hlB := heap_lt hl3
      have HR1 := Lib.hid hr1
      have HL3 := Lib.hid hl3
      clear CE p0 p1 p2 p3 q0 q1 q2 q3 r0 r1 r2 r3 rf hr1 hLA hbN hl3
      obtain ⟨r0, r1, r2, r3, rf⟩ := box4 HBR3.out
      by_cases hc0 : r.2.1 = 0
      case neg =>
        have hd : ((r.2.1 : Int) != 0) = true := by simp; omega
        have hfin : Hid (rr = (Tm.nil, 0, r.2.1)) := by show _ = _; rw [hrun.out, if_neg hc0]
        clear hc0 hrc
        generalize hcd : (r.2.1 : Int) = cd at *
        have HCD := Lib.hid hcd; clear hcd
        go_wp2
        rw [hfin.out]
        exact bodyPost_ret (v := .tuple #[.agg #[.int .i64 0, .int .i64 0, .string ⟨#[]⟩, .slice none 0 0], .int .i64 0, .int .i64 cd]) (results_term3 rfl _ _ (w.heap.size + 1 + 1) rfl rfl rfl ((heap_old (by rw [size_set4]; exact hs3)).trans (heap_set4 HBR3.out))) rfl (Out3_nil ((hbel3.trans (below_set4 (by omega))).alloc (by rw [size_set4]; exact hbel3.size) _) rfl HCD.out.symm)
      have hd : ((r.2.1 : Int) != 0) = false := by simp [hc0]
      have hfin : Hid (rr = (r.1, N - r.2.2, 0)) := by show _ = _; rw [hrun.out, if_pos hc0]
      have hwf : (Tm.mk k n s xs).wf = true := by rw [← HR1.out]; exact (ok_wf HGOOD.out.ok).1
      clear hc0 hrc
      generalize (r.2.1 : Int) = cd at *
      go_wp2_with fail
      have hbV : Below w3.heap.size w3 (w3.alloc (.cells #[.int .i64 k, .int .i64 n, .string s, .slice a l c] 26)) := (Below.refl _ _).alloc (Nat.le_refl _) _
      have hVb : (w3.alloc (.cells #[.int .i64 k, .int .i64 n, .string s, .slice a l c] 26)).heap[w3.heap.size]? = some (.cells #[.int .i64 k, .int .i64 n, .string s, .slice a l c] 26 (0, 0)) := heap_new rfl
      generalize w3.alloc (.cells #[.int .i64 k, .int .i64 n, .string s, .slice a l c] 26) = V at *
      have hbelV := hbel3.trans (hbV.mono hbel3.size)
      have HBRV := Lib.hid ((hbV.block _ hs3).trans HBR3.out)
      have hLV := (hbV.block _ hlB).trans HL3.out
      have m1 : V.cell? ⟨w2.heap.size, 1, none⟩ = some (.int .i64 ((N : Int) - (r.2.2 : Int))) := by simpa using cell_of_block hLV 1
      obtain ⟨g0, g1, g2, g3, _⟩ := box4 hVb
      have hlB' := heap_lt hLV; have hlV := heap_lt hVb; have hsV := heap_lt HBRV.out
      have hrdV := RdS_ext hrd hbV
      have HS : Hid (V.cell? ⟨w3.heap.size, 0, none⟩ = some (.int .i64 k) ∧ V.cell? ⟨w3.heap.size, 1, none⟩ = some (.int .i64 n) ∧ V.cell? ⟨w3.heap.size, 2, none⟩ = some (.string s) ∧ V.cell? ⟨w3.heap.size, 3, none⟩ = some (.slice a l c) ∧ V.cell? ⟨w2.heap.size, 1, none⟩ = some (.int .i64 ((N : Int) - (r.2.2 : Int)))) := ⟨g0, g1, g2, g3, m1⟩
      have keep : Hid (∀ w' : World, w'.heap[w3.heap.size]? = V.heap[w3.heap.size]? → w'.heap[w2.heap.size]? = V.heap[w2.heap.size]? → w'.cell? ⟨w3.heap.size, 0, none⟩ = some (.int .i64 k) ∧ w'.cell? ⟨w3.heap.size, 1, none⟩ = some (.int .i64 n) ∧ w'.cell? ⟨w3.heap.size, 2, none⟩ = some (.string s) ∧ w'.cell? ⟨w3.heap.size, 3, none⟩ = some (.slice a l c) ∧ w'.cell? ⟨w2.heap.size, 1, none⟩ = some (.int .i64 ((N : Int) - (r.2.2 : Int)))) := by
        intro w' ha hb
        obtain ⟨y0, y1, y2, y3, y4⟩ := HS.out
        have cc (m : Nat) : w'.cell? ⟨w3.heap.size, m, none⟩ = V.cell? ⟨w3.heap.size, m, none⟩ := World.cell?_of_block ha
        have dd (m : Nat) : w'.cell? ⟨w2.heap.size, m, none⟩ = V.cell? ⟨w2.heap.size, m, none⟩ := World.cell?_of_block hb
        exact ⟨(cc _).trans y0, (cc _).trans y1, (cc _).trans y2, (cc _).trans y3, (dd _).trans y4⟩
      have hbW : Below V.heap.size V V.drew := (Below.refl _ _).drew
      have n1 : w3.heap.size ≠ w.heap.size + 1 + 1 := by omega
      have n2 : w2.heap.size ≠ w.heap.size + 1 + 1 := by omega
      have CC := Lib.hid (copyI_all (.mk k n s xs) k n s xs a l c F V.drew rfl (RdS_ext hrdV hbW) hwf)
      clear hVb hLV
      go_region_held3 (fun w' => w'.cell? ⟨w3.heap.size, 0, none⟩ = some (.int .i64 k) ∧ w'.cell? ⟨w3.heap.size, 1, none⟩ = some (.int .i64 n) ∧ w'.cell? ⟨w3.heap.size, 2, none⟩ = some (.string s) ∧ w'.cell? ⟨w3.heap.size, 3, none⟩ = some (.slice a l c) ∧ w'.cell? ⟨w2.heap.size, 1, none⟩ = some (.int .i64 ((N : Int) - (r.2.2 : Int))))
        (first | with_reducible exact keep.out _ (hbW.block _ hlV) (hbW.block _ hlB') | with_reducible exact keep.out _ ((heap_set4_other n1).trans (hbW.block _ hlV)) ((heap_set4_other n2).trans (hbW.block _ hlB')))
        (first | (go_at_call 63; (with_reducible refine CC.out.mono ?_); rintro e w5 ⟨k', n', s', xs', a', l', c', F', ht', rfl, hrd5, hgr5, hb5⟩; cases ht'; replace hbW : Below V.heap.size V w5 := below_of_drew hb5; have HBR5 := Lib.hid ((hbW.block _ hsV).trans HBRV.out); obtain ⟨t0, t1, t2, t3, tf⟩ := box4 HBR5.out; have htl := heap_lt HBR5.out))
      have hfr5 : Fresh w w5 F' := hgr5.fresh.base (by have := hbelV.size; show _ ≤ V.heap.size; exact this)
      have hlo5 : ∀ x ∈ F', x ≠ w.heap.size + 1 + 1 := fun x hx => by have := (hgr5.fresh.2 x hx).1; have h4 : V.drew.heap.size = V.heap.size := rfl; omega
      have hbel5 := hbelV.trans (hbW.mono hbelV.size)
      clear g0 g1 g2 g3 m1 r0 r1 r2 r3 rf
      generalize hcx : (N : Int) - (r.2.2 : Int) = cx at *
      have HCX := Lib.hid hcx; clear hcx
      go_wp2
      rw [hfin.out]
      refine bodyPost_ret (v := .tuple #[.agg #[.int .i64 k, .int .i64 n, .string s, .slice a' l' c'], .int .i64 cx, .int .i64 0]) (results_term3 rfl _ _ (w.heap.size + 1 + 1) rfl rfl rfl (heap_set4 HBR5.out)) rfl ⟨k, n, s, xs, a', l', c', F', HR1.out, ?_, RdS_same (fun x hx => heap_set4_other (hlo5 x hx)) hrd5, hfr5.later (fun x hx => heap_set4_other (hlo5 x hx)), hbel5.trans (below_set4 (by omega))⟩
      have : cx = ((N - r.2.2 : Nat) : Int) := by rw [← HCX.out]; omega
      rw [this]; rfl

set_option maxHeartbeats 2000000 in
set_option maxRecDepth 100000 in
theorem EvalLisp_run (EV : ∀ fuel, EvalT fuel) (k1 n1 : Int) (s1 : ByteArray) (xs1 : List Tm) (a1 : Option Addr) (l1 c1 : Nat) (F1 : List Nat) (k2 n2 : Int) (s2 : ByteArray) (xs2 : List Tm) (a2 : Option Addr) (l2 c2 : Nat) (F2 : List Nat) (st : Int) (w : World)
    (h1 : RdS w xs1 a1 l1 c1 F1) (h2 : RdS w xs2 a2 l2 c2 F2) (hL1 : (Tm.mk k1 n1 s1 xs1).Lens) (hL2 : (Tm.mk k2 n2 s2 xs2).Lens) :
    Calls Try.prog 39 #[.agg #[.int .i64 k1, .int .i64 n1, .string s1, .slice a1 l1 c1], .agg #[.int .i64 k2, .int .i64 n2, .string s2, .slice a2 l2 c2], .int .i64 st] w
      (OutTV w (runL (.mk k1 n1 s1 xs1) (.mk k2 n2 s2 xs2) st).1 (.int .i64 ((runL (.mk k1 n1 s1 xs1) (.mk k2 n2 s2 xs2) st).2.2 : Int)) []) := by
  have RN := Lib.hid (evalLisp_impl EV k1 n1 s1 xs1 a1 l1 c1 F1 k2 n2 s2 xs2 a2 l2 c2 F2 st)
  generalize runL (.mk k1 n1 s1 xs1) (.mk k2 n2 s2 xs2) st = rr at *
  have hbA : ∀ o1 o2 o3, Below w.heap.size w (((w.alloc o1).alloc o2).alloc o3) := fun o1 o2 o3 => (((Below.refl _ _).alloc (Nat.le_refl _) _).alloc (by simp) _).alloc (by simp; omega) _
  have HBA := Lib.hid hbA; clear hbA
  go_enter Try.func39, Try.ntmps39
  go_wp2_with fail
  refine (RN.out _ (RdS_ext h1 (HBA.out _ _ _)) (RdS_ext h2 (HBA.out _ _ _)) hL1 hL2).mono ?_
  rintro e w1 ⟨k, n, s, xs, a, l, c, F, hr1, rfl, hrd, hfr, hb1⟩
  have hbel := (HBA.out _ _ _).trans (hb1.mono (by simp; omega))
  have HBR : Hid (w1.heap[w.heap.size + 1 + 1]? = some (.cells #[.int .i64 0, .int .i64 0, .string ⟨#[]⟩, .slice none 0 0] 26 (0, 0))) := by
    show _ = _
    rw [hb1.block _ (by simp), heap_new (by simp)]
  have hs1 := heap_lt HBR.out
  obtain ⟨r0, r1, r2, r3, rf⟩ := box4 HBR.out
  have hlo : ∀ x ∈ F, w.heap.size + 3 ≤ x := fun x hx => by have := (hfr.2 x hx).1; simp at this; omega
  have HLO := Lib.hid hlo
  have hgr : Grows w w1 [] F := ⟨fun x hx => .inr ⟨by have := hlo x hx; omega, (hfr.2 x hx).2⟩, fun _ => hfr.1⟩
  have HR1 := Lib.hid hr1
  clear hb1 hr1 hlo
  generalize (rr.2.1 : Int) = cx at *
  generalize (rr.2.2 : Int) = cd at *
  go_wp2
  have hout : OutTV w rr.1 (.int .i64 cd) [] (.returned (.tuple #[.agg #[.int .i64 k, .int .i64 n, .string s, .slice a l c], .int .i64 cd])) ((((w1.setCell ⟨w.heap.size + 1 + 1, 0, none⟩ (.int .i64 k)).setCell ⟨w.heap.size + 1 + 1, 1, none⟩ (.int .i64 n)).setCell ⟨w.heap.size + 1 + 1, 2, none⟩ (.string s)).setCell ⟨w.heap.size + 1 + 1, 3, none⟩ (.slice a l c)) :=
    ⟨k, n, s, xs, a, l, c, F, HR1.out, rfl, RdS_same (fun x hx => heap_set4_other (by have := HLO.out x hx; omega)) hrd, hgr.set (fun x hx => heap_set4_other (by have := HLO.out x hx; omega)), hbel.trans (below_set4 (by omega))⟩
  refine bodyPost_ret (v := .tuple #[.agg #[.int .i64 k, .int .i64 n, .string s, .slice a l c], .int .i64 cd]) (results_term2 rfl _ _ (w.heap.size + 1 + 1) rfl rfl ((heap_old (by rw [size_set4]; exact hs1)).trans (heap_set4 HBR.out))) rfl ?_
  obtain ⟨k', n', s', xs', a', l', c', F', g1, g2, g3, g4, g5⟩ := hout
  exact ⟨k', n', s', xs', a', l', c', F', g1, g2, RdS_ext g3 ((Below.refl _ _).alloc (Nat.le_refl _) _), g4.later ((Below.refl _ _).alloc (Nat.le_refl _) _), g5.alloc g5.size _⟩

set_option maxHeartbeats 2000000 in
set_option maxRecDepth 100000 in
theorem StepsLisp_run (EV : ∀ fuel, EvalT fuel) (k1 n1 : Int) (s1 : ByteArray) (xs1 : List Tm) (a1 : Option Addr) (l1 c1 : Nat) (F1 : List Nat) (k2 n2 : Int) (s2 : ByteArray) (xs2 : List Tm) (a2 : Option Addr) (l2 c2 : Nat) (F2 : List Nat) (st : Int) (w : World)
    (h1 : RdS w xs1 a1 l1 c1 F1) (h2 : RdS w xs2 a2 l2 c2 F2) (hL1 : (Tm.mk k1 n1 s1 xs1).Lens) (hL2 : (Tm.mk k2 n2 s2 xs2).Lens) :
    Calls Try.prog 40 #[.agg #[.int .i64 k1, .int .i64 n1, .string s1, .slice a1 l1 c1], .agg #[.int .i64 k2, .int .i64 n2, .string s2, .slice a2 l2 c2], .int .i64 st] w
      fun e w' => e = .returned (.int .i64 (if (runL (.mk k1 n1 s1 xs1) (.mk k2 n2 s2 xs2) st).2.2 = 0 then ((runL (.mk k1 n1 s1 xs1) (.mk k2 n2 s2 xs2) st).2.1 : Int) else -1)) ∧ Below w.heap.size w w' := by
  have RN := Lib.hid (evalLisp_impl EV k1 n1 s1 xs1 a1 l1 c1 F1 k2 n2 s2 xs2 a2 l2 c2 F2 st)
  generalize runL (.mk k1 n1 s1 xs1) (.mk k2 n2 s2 xs2) st = rr at *
  obtain ⟨v, hv⟩ : ∃ v : Int, v = if rr.2.2 = 0 then (rr.2.1 : Int) else -1 := ⟨_, rfl⟩
  rw [← hv]
  have HV := Lib.hid hv; clear hv
  have hbA : ∀ o1 o2, Below w.heap.size w ((w.alloc o1).alloc o2) := fun o1 o2 => ((Below.refl _ _).alloc (Nat.le_refl _) o1).alloc (by simp) o2
  have HBA := Lib.hid hbA; clear hbA
  go_enter Try.func40, Try.ntmps40
  go_wp2_with fail
  refine (RN.out _ (RdS_ext h1 (HBA.out _ _)) (RdS_ext h2 (HBA.out _ _)) hL1 hL2).mono ?_
  rintro e w1 ⟨k, n, s, xs, a, l, c, F, hr1, rfl, hrd, hfr, hb1⟩
  have hbel := (HBA.out _ _).trans (hb1.mono (by simp; omega))
  clear hr1 hb1
  by_cases hc : rr.2.2 = 0
  · have hd : ((rr.2.2 : Int) != 0) = false := by simp [hc]
    have hfin : Hid (v = (rr.2.1 : Int)) := by show _ = _; rw [HV.out, if_pos hc]
    clear hc
    generalize (rr.2.2 : Int) = cd at *
    generalize (rr.2.1 : Int) = cx at *
    go_wp2
    go_ret
    exact ⟨by rw [hfin.out]; rfl, hbel.alloc hbel.size _⟩
  · have hd : ((rr.2.2 : Int) != 0) = true := by simp; omega
    have hfin : Hid (v = -1) := by show _ = _; rw [HV.out, if_neg hc]
    clear hc
    generalize (rr.2.2 : Int) = cd at *
    generalize (rr.2.1 : Int) = cx at *
    go_wp2
    go_ret
    exact ⟨by rw [hfin.out]; rfl, hbel.alloc hbel.size _⟩
end Go.Proofs.Ytjkabbkaeioibaa
