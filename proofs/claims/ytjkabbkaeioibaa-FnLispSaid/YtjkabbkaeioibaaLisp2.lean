/- Contract of the program's items. -/
import Derived.Test.YtjkabbkaeioibaaLisp1
namespace Go.Proofs.Ytjkabbkaeioibaa
open Go.RowKit

def ItemsI (w : World) (t : Tm) (F1 : List Nat) (e : Ending) (w' : World) : Prop :=
  ∃ a l c F, e = .returned (.tuple #[.slice a l c, .bool (t.tl.kind == 0)]) ∧ RdS w' t.its a l c F ∧ (∀ x ∈ F, x ∈ F1 ∨ w.heap.size ≤ x) ∧ Below w.heap.size w w'

set_option maxHeartbeats 2000000 in
set_option maxRecDepth 100000 in
theorem items_impl (k m : Int) (s : ByteArray) (xs : List Tm) (a : Option Addr) (l c : Nat) (F : List Nat) (w : World) (h : RdS w xs a l c F) (hok : (Tm.mk k m s xs).ok = true) :
    Calls Try.prog 97 #[.agg #[.int .i64 k, .int .i64 m, .string s, .slice a l c]] w (ItemsI w (.mk k m s xs) F) := by
  have hwf := (ok_wf hok).1
  have hc5 := (ok_wf hok).2
  have hFlt := RdS_lt h
  obtain ⟨T, hT⟩ : ∃ T : Tm, T = .mk k m s xs := ⟨_, rfl⟩
  have HST : Hid (∀ w1 : World, w1.heap.size = w.heap.size + 2 → Below w.heap.size w w1 → w1.heap[w.heap.size]? = some (.cells #[.int .i64 k, .int .i64 m, .string s, .slice a l c] 26 (0, 0)) → w1.heap[w.heap.size + 1]? = some (.cells #[] 26 (0, 0)) →
      ItRel (fun x => x ∈ F) (fun x => x ∈ F) w w1 w.heap.size (w.heap.size + 1) T (.slice (some ⟨w.heap.size + 1, 0, none⟩) 0 0) w1) := by
    intro w1 hs hb hbox hg
    exact ⟨k, m, s, xs, a, l, c, F, [], [], hbox, RdS_ext h hb, fun x hx => ⟨hx, hFlt x hx⟩, hwf, by rw [hT]; rfl, by rw [hT], OwnTs_empty (Nat.le_refl _) hg, by simpa using hc5, by simp, fun x _ _ => rfl, hb, by omega⟩
  rw [← hT]
  clear hok hwf hc5 hFlt h hT
  go_enter Try.func97, Try.ntmps97
  go_wp2_with fail
  have hbA : Below w.heap.size w ((w.alloc (.cells #[.int .i64 k, .int .i64 m, .string s, .slice a l c] 26)).alloc (.cells #[] 26)) := ((Below.refl _ _).alloc (Nat.le_refl _) _).alloc (by simp) _
  have START := Lib.hid (HST.out _ (by simp) hbA (by rw [heap_old (by simp)]; exact heap_new rfl) (heap_new (by simp)))
  generalize (w.alloc (.cells #[.int .i64 k, .int .i64 m, .string s, .slice a l c] 26)).alloc (.cells #[] 26) = w1 at *
  clear HST hbA
  go_loopw [4] (fun v wr => ItRel (fun x => x ∈ F) (fun x => x ∈ F) w w1 w.heap.size (w.heap.size + 1) T v wr) (fun v _ => 5000 - lenOf v)
  case atStart => exact START.out
  case round =>
    obtain ⟨k, m, s, xs, a, l, c, G, ts, Fs, hbox, hrd, hF, hwf, hits, htl, hown, hcnt, hFs, hmid, hbel, hbase⟩ := hrel
    have HI := Lib.hid hits; have HTL := Lib.hid htl; have HF := Lib.hid hF; have HFS := Lib.hid hFs; have HMID := Lib.hid hmid
    have HBOX := Lib.hid hbox
    obtain ⟨q0, q1, q2, q3, qf⟩ := box4 hbox
    clear hbox START hits htl hF hFs hmid
    obtain ⟨va, vl, vc, hv, hvl⟩ := OwnTs_len hown
    have HVL := Lib.hid hvl
    subst hv
    clear hvl
    by_cases hk : k = 4
    · subst hk
      obtain ⟨rfl, hs0, x, y, rfl, hx, hy⟩ := wf_four hwf
      obtain rfl := ba_empty hs0
      obtain ⟨b, o, xk, xn, xs, xas, xa, xl, xc, F1, yk, yn, ys, yas, ya, yl, yc, F2, hxy, rfl, rfl, hblt, ⟨x0, x1, x2, x3⟩, ⟨y0, y1, y2, y3⟩, hrx, hry⟩ := RdS_pair hrd hrd.1
      obtain ⟨rfl, rfl⟩ : x = .mk xk xn xs xas ∧ y = .mk yk yn ys yas := by simpa using hxy
      have hl2 : l = 2 := hrd.1
      subst hl2
      have hbw : b < w.heap.size := (HF.out b (by simp)).2
      have hF1 : Hid (∀ x ∈ F1, x ∈ F ∧ x < w.heap.size) := fun x hx => HF.out x (by simp [hx])
      have hF2 : Hid (∀ x ∈ F2, x ∈ F ∧ x < w.heap.size) := fun x hx => HF.out x (by simp [hx])
      have hIts : Hid (T.its = ts ++ (Tm.mk xk xn xs xas) :: (Tm.mk yk yn ys yas).its) := by show _ = _; rw [HI.out, its_pair.1]
      have hTl : Hid (T.tl = (Tm.mk yk yn ys yas).tl) := by show _ = _; rw [HTL.out, its_pair.2]
      have hcn2 : ts.length + 1 + (Tm.mk yk yn ys yas).cnt ≤ 5000 := by rw [cnt_pair] at hcnt; omega
      have HY := Lib.hid hy
      have hlen : ts.length ≤ 1000000000000 := by omega
      have HNO : Hid (∀ x ∈ F1, (Value.slice va vl vc).ownBlock ≠ some x) := by
        intro x hx hh
        obtain ⟨es, h2, _⟩ := hown
        have := (h2.lt x hh).1; have := (hF1.out x hx).2; omega
      have hb2 : Below wr.heap.size wr wr := Below.refl _ _
      clear hwf hs0 hx hy hxy hrd
      go_wp2_with (at_builtin; refine append_term rfl _ _ rfl (w.heap.size + 1) _ ts _ rfl (OwnTs_alloc hown _) _ rfl _ _ _ _ _ _ xas F1 _ _ (heap_new rfl) (RdS_ext hrx ((Below.refl _ _).alloc (Nat.le_refl _) _)) HNO.out hlen (by simp; omega) ?_; intro v' w3 hown3 hgrow3; have hb3 := it_below hown hbase hb2 hgrow3; have HB3 := Lib.hid (heap_lt ((hb3.block _ (by omega)).trans HBOX.out)); obtain ⟨r0, r1, r2, r3, rf⟩ := box4 ((hb3.block _ (by omega)).trans HBOX.out); have z0 := (hb3.cell (p := ⟨b, o + 4, none⟩) (show b < w.heap.size + 1 by omega)).trans y0; have z1 := (hb3.cell (p := ⟨b, o + 4 + 1, none⟩) (show b < w.heap.size + 1 by omega)).trans y1; have z2 := (hb3.cell (p := ⟨b, o + 4 + 2, none⟩) (show b < w.heap.size + 1 by omega)).trans y2; have z3 := (hb3.cell (p := ⟨b, o + 4 + 3, none⟩) (show b < w.heap.size + 1 by omega)).trans y3)
      obtain ⟨a3, l3, c3, rfl, hl3⟩ := OwnTs_len hown3
      refine ⟨ItRel_step (Nat.le_refl _) (by omega) HBOX.out hry hF2.out HY.out hIts.out hTl.out hcn2 hown HFS.out HMID.out hbel hbase hb2 hgrow3 hown3 (fun x hx => .inl (hF1.out x hx)), ?_⟩
      have := HVL.out
      simp only [lenOf]; simp at hl3; omega
    · have hke : (k == 4) = false := by simpa using hk
      have hv3 : Hid (T.its = ts) := by show _ = _; rw [HI.out, (its_end hk).1]; simp
      have hv4 : Hid (T.tl.kind = k) := by show _ = _; rw [HTL.out, (its_end hk).2]; rfl
      obtain ⟨a4, l4, c4, F4, hv4', hrd4, hx4, hx5, hF4⟩ := OwnTs_rd hown
      clear hx4 hx5 hk hwf
      cases hv4'
      go_wp2_with fail
      go_region_held3 (fun w' => w'.cell? ⟨w.heap.size, 0, none⟩ = some (.int .i64 k)) (first | exact q0) (fail)
      go_wp2
      go_ret2
      refine ⟨va, vl, vc, F4, by rw [hv4.out]; rfl, by rw [hv3.out]; exact RdS_ext hrd4 (Below.refl _ _).drew, fun x hx => ?_, hbel.drew⟩
      rcases hF4 x hx with h' | h'
      · rcases HFS.out x h' with ⟨h1, _⟩ | h1
        · exact .inl h1
        · right; omega
      · right; omega
end Go.Proofs.Ytjkabbkaeioibaa
