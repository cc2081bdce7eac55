/- Contract of the program's lookup. -/
import Derived.Test.YtjkabbkaeioibaaLook
namespace Go.Proofs.Ytjkabbkaeioibaa
open Go.RowKit

set_option maxHeartbeats 4000000 in
set_option maxRecDepth 100000 in
theorem lookup_impl (k1 n1 : Int) (s1 : ByteArray) (xs1 : List Tm) (a1 : Option Addr) (l1 c1 : Nat) (F1 : List Nat) (k2 n2 : Int) (s2 : ByteArray) (xs2 : List Tm) (a2 : Option Addr) (l2 c2 : Nat) (F2 : List Nat) (w : World)
    (h1 : RdS w xs1 a1 l1 c1 F1) (h2 : RdS w xs2 a2 l2 c2 F2) (hw1 : (Tm.mk k1 n1 s1 xs1).wf = true) (hw2 : (Tm.mk k2 n2 s2 xs2).wf = true) :
    Calls Try.prog 62 #[.agg #[.int .i64 k1, .int .i64 n1, .string s1, .slice a1 l1 c1], .agg #[.int .i64 k2, .int .i64 n2, .string s2, .slice a2 l2 c2]] w
      (OutM w (lookR (lookL (.mk k1 n1 s1 xs1) (Tm.mk k2 n2 s2 xs2).its)) (.bool (lookL (.mk k1 n1 s1 xs1) (Tm.mk k2 n2 s2 xs2).its).isSome) F2) := by
  have EQ := Lib.hid (fun ak an az aas aa al ac AF W => equal_any ak an az aas aa al ac AF k1 n1 s1 xs1 a1 l1 c1 F1 W)
  obtain ⟨X, hX⟩ : ∃ X : Tm, X = .mk k1 n1 s1 xs1 := ⟨_, rfl⟩
  obtain ⟨E, hE⟩ : ∃ E : Tm, E = .mk k2 n2 s2 xs2 := ⟨_, rfl⟩
  have HST : Hid (∀ W : World, W.heap.size = w.heap.size + 3 → Below w.heap.size w W → W.heap[w.heap.size + 1]? = some (.cells #[.int .i64 k2, .int .i64 n2, .string s2, .slice a2 l2 c2] 26 (0, 0)) → LookRel w W X E F2 E.cnt W) := by
    intro W hs hb hbox
    refine ⟨k2, n2, s2, xs2, a2, l2, c2, F2, hbox, RdS_ext h2 hb, fun y hy => ⟨hy, RdS_lt h2 y hy⟩, hw2, by rw [hE], by rw [hE], fun y _ _ => rfl, hb, Nat.le_refl _⟩
  rw [← hX] at EQ hw1 ⊢
  rw [← hE] at hw2 ⊢
  obtain ⟨res, hres⟩ : ∃ r, r = lookL X E.its := ⟨_, rfl⟩
  rw [← hres]
  have HR := Lib.hid hres
  have HW1 := Lib.hid hw1
  have HH1 := Lib.hid h1
  clear hX hE hres hw1 hw2 h2
  go_enter Try.func62, Try.ntmps62
  go_wp2_with fail
  have hbN : Below w.heap.size w (((w.alloc (.cells #[.int .i64 k1, .int .i64 n1, .string s1, .slice a1 l1 c1] 26)).alloc (.cells #[.int .i64 k2, .int .i64 n2, .string s2, .slice a2 l2 c2] 26)).alloc (.cells #[.int .i64 0, .int .i64 0, .string ⟨#[]⟩, .slice none 0 0] 26)) := (((Below.refl _ _).alloc (Nat.le_refl _) _).alloc (by simp) _).alloc (by simp; omega) _
  have hszN : (((w.alloc (.cells #[.int .i64 k1, .int .i64 n1, .string s1, .slice a1 l1 c1] 26)).alloc (.cells #[.int .i64 k2, .int .i64 n2, .string s2, .slice a2 l2 c2] 26)).alloc (.cells #[.int .i64 0, .int .i64 0, .string ⟨#[]⟩, .slice none 0 0] 26)).heap.size = w.heap.size + 3 := by simp
  have hA1 : (((w.alloc (.cells #[.int .i64 k1, .int .i64 n1, .string s1, .slice a1 l1 c1] 26)).alloc (.cells #[.int .i64 k2, .int .i64 n2, .string s2, .slice a2 l2 c2] 26)).alloc (.cells #[.int .i64 0, .int .i64 0, .string ⟨#[]⟩, .slice none 0 0] 26)).heap[w.heap.size]? = some (.cells #[.int .i64 k1, .int .i64 n1, .string s1, .slice a1 l1 c1] 26 (0, 0)) := by
    rw [heap_old (by simp; omega), heap_old (by simp)]; exact heap_new rfl
  have hA2 : (((w.alloc (.cells #[.int .i64 k1, .int .i64 n1, .string s1, .slice a1 l1 c1] 26)).alloc (.cells #[.int .i64 k2, .int .i64 n2, .string s2, .slice a2 l2 c2] 26)).alloc (.cells #[.int .i64 0, .int .i64 0, .string ⟨#[]⟩, .slice none 0 0] 26)).heap[w.heap.size + 1]? = some (.cells #[.int .i64 k2, .int .i64 n2, .string s2, .slice a2 l2 c2] 26 (0, 0)) := by
    rw [heap_old (by simp)]; exact heap_new (by simp)
  have hA3 : (((w.alloc (.cells #[.int .i64 k1, .int .i64 n1, .string s1, .slice a1 l1 c1] 26)).alloc (.cells #[.int .i64 k2, .int .i64 n2, .string s2, .slice a2 l2 c2] 26)).alloc (.cells #[.int .i64 0, .int .i64 0, .string ⟨#[]⟩, .slice none 0 0] 26)).heap[w.heap.size + 1 + 1]? = some (.cells #[.int .i64 0, .int .i64 0, .string ⟨#[]⟩, .slice none 0 0] 26 (0, 0)) := heap_new (by simp)
  generalize ((w.alloc (.cells #[.int .i64 k1, .int .i64 n1, .string s1, .slice a1 l1 c1] 26)).alloc (.cells #[.int .i64 k2, .int .i64 n2, .string s2, .slice a2 l2 c2] 26)).alloc (.cells #[.int .i64 0, .int .i64 0, .string ⟨#[]⟩, .slice none 0 0] 26) = W at *
  have START := Lib.hid (HST.out W hszN hbN hA2)
  have HA1 := Lib.hid hA1; have HA3 := Lib.hid hA3; have HSZ := Lib.hid hszN
  have hsz1 : w.heap.size + 2 < W.heap.size := by omega
  clear hA1 hA2 hA3 HST hszN h1
  go_loopg [] E.cnt (fun gk wr => LookRel w W X E F2 gk wr)
  case atStart => exact START.out
  case round =>
    obtain ⟨k, n, s, xs, a, l, c, F, hbox, hrd, hF, hwf, hcnt, hlk, hmid, hbel, hszr⟩ := hrel
    have HB := Lib.hid hbox; have HF := Lib.hid hF; have HLK := Lib.hid hlk; have HMID := Lib.hid hmid; have HCN := Lib.hid hcnt
    obtain ⟨q0, q1, q2, q3, qf⟩ := box4 hbox
    have hQ3 := (HMID.out (w.heap.size + 1 + 1) (by omega) (by omega)).trans HA3.out
    have hQ1 := (HMID.out w.heap.size (by omega) (by omega)).trans HA1.out
    have HQ3 := Lib.hid hQ3
    obtain ⟨z0, z1, z2, z3, zf⟩ := box4 hQ3
    obtain ⟨p0, p1, p2, p3, _⟩ := box4 hQ1
    have hsr : w.heap.size + 2 < wr.heap.size := by omega
    have hsr2 := hbel.size
    clear hbox hF hlk hmid hcnt hQ3 START
    have HQ1 := Lib.hid hQ1
    clear hQ1
    by_cases hk : k = 4
    · subst hk
      obtain ⟨rfl, hs0, x, y, rfl, hx, hy⟩ := wf_four hwf
      obtain rfl := ba_empty hs0
      obtain ⟨b, o, xk, xn, xs, xas, xa, xl, xc, G1, yk, yn, ys, yas, ya, yl, yc, G2, hxy, rfl, rfl, hblt, ⟨x0, x1, x2, x3⟩, ⟨y0, y1, y2, y3⟩, hrx, hry⟩ := RdS_pair hrd hrd.1
      obtain ⟨rfl, rfl⟩ : x = .mk xk xn xs xas ∧ y = .mk yk yn ys yas := by simpa using hxy
      have hl2 : l = 2 := hrd.1
      subst hl2
      have hbw : b < w.heap.size := (HF.out b (by simp)).2
      have hlook : Hid (res = lookL X (.mk xk xn xs xas :: (Tm.mk yk yn ys yas).its)) := by show _ = _; rw [HR.out, HLK.out, its_pair.1]
      have HWX := Lib.hid hx; have HWY := Lib.hid hy
      have hcn2 : Hid ((Tm.mk yk yn ys yas).cnt < gk) := by
        show _ < _
        rw [← HCN.out, cnt_pair]; omega
      have HRR := Lib.hid HR.out
      clear hwf hs0 hx hy hxy hrd HLK HCN HR
      by_cases hxk : xk = 4
      · subst hxk
        obtain ⟨rfl, hs0, pa, pb, rfl, hpa, hpb⟩ := wf_four HWX.out
        obtain rfl := ba_empty hs0
        obtain ⟨b', o', uk, un, us, uas, ua, ul, uc, G3, vk, vn, vs, vas, va, vl, vc, G4, huv, rfl, rfl, hblt', ⟨u0, u1, u2, u3⟩, ⟨v0, v1, v2, v3⟩, hru, hrv⟩ := RdS_pair hrx hrx.1
        obtain ⟨rfl, rfl⟩ : pa = .mk uk un us uas ∧ pb = .mk vk vn vs vas := by simpa using huv
        have hl2 : xl = 2 := hrx.1
        subst hl2
        have hbw' : b' < w.heap.size := (HF.out b' (by simp)).2
        have HPA := Lib.hid hpa
        have hlook2 : Hid (res = if tmEq (.mk uk un us uas) X = true then some (.mk vk vn vs vas) else lookL X (Tm.mk yk yn ys yas).its) := by show _ = _; rw [hlook.out, lookL_pair]
        clear hs0 hpa hpb huv hrx hlook HWX
        go_wp2_with fail
        have hbA : Below wr.heap.size wr (wr.alloc (.cells #[.int .i64 4, .int .i64 0, .string ByteArray.empty, .slice (some ⟨b', o', none⟩) 2 xc] 26)) := (Below.refl _ _).alloc (Nat.le_refl _) _
        have hP : (wr.alloc (.cells #[.int .i64 4, .int .i64 0, .string ByteArray.empty, .slice (some ⟨b', o', none⟩) 2 xc] 26)).heap[wr.heap.size]? = some (.cells #[.int .i64 4, .int .i64 0, .string ByteArray.empty, .slice (some ⟨b', o', none⟩) 2 xc] 26 (0, 0)) := heap_new rfl
        generalize wr.alloc (.cells #[.int .i64 4, .int .i64 0, .string ByteArray.empty, .slice (some ⟨b', o', none⟩) 2 xc] 26) = V at *
        have hVX := (hbA.block _ (by omega)).trans HQ1.out
        have hVR := (hbA.block _ (by omega)).trans HQ3.out
        have hVE := (hbA.block _ (by omega)).trans HB.out
        obtain ⟨_, _, _, g3, _⟩ := box4 hP
        obtain ⟨e0, e1, e2, e3, _⟩ := box4 hVX
        have hsP := heap_lt hP
        have HP := Lib.hid hP; have HVR := Lib.hid hVR; have HVE := Lib.hid hVE
        rw [← hbA.cell (p := ⟨b', _, none⟩) hblt'] at u0 u1 u2 u3 v0 v1 v2 v3
        rw [← hbA.cell (p := ⟨b, _, none⟩) hblt] at y0 y1 y2 y3
        have hb'V : b' < V.heap.size := Nat.lt_of_lt_of_le hblt' hbA.size
        have hbV : b < V.heap.size := Nat.lt_of_lt_of_le hblt hbA.size
        have hbelV := hbel.trans (hbA.mono hbel.size)
        have hruV := RdS_ext (w' := V.drew) hru hbA.drew
        have hrvV := RdS_ext hrv hbA
        have hryV := RdS_ext hry hbA
        have HC := Lib.hid (EQ.out uk un us uas ua ul uc G3 V.drew hruV (RdS_ext HH1.out hbelV.drew) HPA.out HW1.out)
        have hszV := hbA.size
        clear hP hVX hVR hVE q0 q1 q2 q3 z0 z1 z2 z3 p0 p1 p2 p3 x0 x1 x2 x3 hruV
        go_still_tail 5, (by kernel_rfl)
        go_wp2_with fail
        refine HC.out.mono ?_
        rintro e w2 ⟨rfl, hb2⟩
        have hbW : Below V.heap.size V w2 := below_of_drew hb2
        have hbW2 := hbelV.trans (hbW.mono hbelV.size)
        have hs2 := hbW.size
        obtain ⟨_, _, _, g3', _⟩ := box4 ((hbW.block _ hsP).trans HP.out)
        have hR2 := (hbW.block _ (by omega)).trans HVR.out
        have hE2 := (hbW.block _ (by omega)).trans HVE.out
        have HR2 := Lib.hid hR2; have HE2 := Lib.hid hE2
        obtain ⟨z0, z1, z2, z3, zf⟩ := box4 hR2
        obtain ⟨q0, q1, q2, q3, qf'⟩ := box4 hE2
        rw [← hbW.cell (p := ⟨b', _, none⟩) hb'V] at v0 v1 v2 v3
        rw [← hbW.cell (p := ⟨b, _, none⟩) hbV] at y0 y1 y2 y3
        have hrv2 := RdS_ext hrvV hbW
        have hry2 := RdS_ext hryV hbW
        clear hR2 hE2 g3 e0 e1 e2 e3 u0 u1 u2 u3 hb2 HC
        cases hteq : tmEq (.mk uk un us uas) X with
        | true =>
          have hfin : Hid (res = some (.mk vk vn vs vas)) := by show _ = _; rw [hlook2.out, hteq]; rfl
          clear hteq hlook2
          go_wp2
          refine bodyPost_ret (v := .tuple #[.agg #[.int .i64 vk, .int .i64 vn, .string vs, .slice va vl vc], .bool true]) (results_term2 rfl _ _ (w.heap.size + 1 + 1) rfl rfl (heap_set4 HR2.out)) rfl ?_
          rw [hfin.out]
          exact OutM_set rfl hrv2 (fun z hz => .inl (HF.out z (by simp [hz])).1) hbW2 (by omega) (fun z hz => by have := (HF.out z (by simp [hz])).2; omega)
        | false =>
          have hl3 : Hid (res = lookL X (Tm.mk yk yn ys yas).its) := by show _ = _; rw [hlook2.out, hteq]; rfl
          clear hteq hlook2
          go_wp2
          go_roundg (Tm.mk yk yn ys yas).cnt
          case measure => exact hcn2.out
          case rel =>
            refine ⟨yk, yn, ys, yas, ya, yl, yc, G2, heap_set4 HE2.out, RdS_same (fun z hz => heap_set4_other (by have := (HF.out z (by simp [hz])).2; omega)) hry2, fun z hz => HF.out z (by simp [hz]), HWY.out, rfl, ?_, ?_, ?_, ?_⟩
            · rw [← hl3.out]; exact HRR.out.symm
            · intro z hz1 hz2
              rw [heap_set4_other hz2, hbW.block _ (by omega), hbA.block _ (by omega)]
              exact HMID.out z hz1 hz2
            · exact hbW2.trans (below_set4 (by omega))
            · rw [size_set4]; omega
      · have hxk' : (xk != 4) = true := by simpa using hxk
        have hfin : Hid (res = none) := by show _ = _; rw [hlook.out, lookL_end hxk]
        clear hxk
        go_wp2
        refine bodyPost_ret (v := .tuple #[.agg #[.int .i64 0, .int .i64 0, .string ByteArray.empty, .slice none 0 0], .bool false]) (results_term2 rfl _ _ (w.heap.size + 1 + 1) rfl rfl ((heap_old (by rw [size_set4]; omega)).trans (heap_set4 HQ3.out))) rfl ?_
        rw [hfin.out]
        exact ⟨0, 0, ByteArray.empty, [], none, 0, 0, [], rfl, rfl, RdS_nil _ _ _, by simp, (hbel.trans (below_set4 (by omega))).alloc (by rw [size_set4]; omega) _⟩
    · have hke : (k == 4) = false := by simpa using hk
      have hfin : Hid (res = none) := by show _ = _; rw [HR.out, HLK.out, (its_end hk).1]; rfl
      clear hk hwf
      go_wp2
      refine bodyPost_ret (v := .tuple #[.agg #[.int .i64 0, .int .i64 0, .string ByteArray.empty, .slice none 0 0], .bool false]) (results_term2 rfl _ _ (w.heap.size + 1 + 1) rfl rfl (heap_set4 HQ3.out)) rfl ?_
      rw [hfin.out]
      exact ⟨0, 0, ByteArray.empty, [], none, 0, 0, [], rfl, rfl, RdS_nil _ _ _, by simp, hbel.trans (below_set4 (by omega))⟩
end Go.Proofs.Ytjkabbkaeioibaa
