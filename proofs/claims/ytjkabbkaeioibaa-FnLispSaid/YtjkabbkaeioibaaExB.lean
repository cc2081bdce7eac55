/- The draw of an environment, and MakeLisp: l40Env, MakeLisp. -/
import Derived.Test.YtjkabbkaeioibaaExA
namespace Go.Proofs.Ytjkabbkaeioibaa
open Go.RowKit
set_option linter.unusedVariables false

set_option maxHeartbeats 4000000 in
set_option maxRecDepth 100000 in
theorem l40Env_any (w0 w : World) (B : Nat) (a : Option Addr) (l cap : Nat) (hc : CurAt w0 w B a l cap) (hl : l ≤ 1000000000) :
    Calls Try.prog 65 #[.pointer (some ⟨B, 0, none⟩)] w (DrawP w0 w B a l cap 17) := by
  have hB := hc.lt
  have hD := (Dst.start hc).alloc (.cells #[.int .i64 0, .int .i64 0, .string ⟨#[]⟩, .slice none 0 0] 26)
  have hR : (w.alloc (.cells #[.int .i64 0, .int .i64 0, .string ⟨#[]⟩, .slice none 0 0] 26)).heap[w.heap.size]? = some (.cells #[.int .i64 0, .int .i64 0, .string ⟨#[]⟩, .slice none 0 0] 26 (0, 0)) := heap_new rfl
  have HR := Lib.hid hR; have HD := Lib.hid hD
  clear hD hR
  go_enter Try.func65, Try.ntmps65
  go_wp2_with fail
  refine (l02Sym_any ⟨#[120]⟩ _).mono ?_
  rintro e V1 ⟨rfl, hb1⟩
  have hD1 := HD.out.below hb1
  have HRV1 := Lib.hid ((hb1.block _ (by simp)).trans HR.out)
  have hRl1 := heap_lt HRV1.out
  clear hb1
  go_wp2_with fail
  refine (l02Draw_three w0 V1 B a l cap hD1.cur hl).mono ?_
  rintro e V2 ⟨kd, nd, sd, ad, ld, cd, rfl, td, hc2, hg2⟩
  have hD2 := hD1.go hc2 hg2
  have HRV2 := Lib.hid ((hg2.block _ hRl1 (by simp; omega)).trans HRV1.out)
  have hRl2 := heap_lt HRV2.out
  replace td := td.mono (show w.heap.size + 1 ≤ V1.heap.size by omega) (Nat.le_refl _)
  clear hc2 hg2
  go_wp2_with fail
  refine (l02Pair_any 2 0 kd nd ⟨#[120]⟩ sd none ad 0 0 ld cd V2).mono ?_
  rintro e V3 ⟨bp, rfl, hbl, hrow, hb3⟩
  have tp := TmV_pair (TmV_atom V3 (w.heap.size + 1) 3 2 0 (s := ⟨#[120]⟩) (by decide) (by omega)) (td.below hb3) (by omega) hrow
  have hD3 := hD2.below hb3
  have HRV3 := Lib.hid ((hb3.block _ hRl2).trans HRV2.out)
  have hRl3 := heap_lt HRV3.out
  clear hb3 hrow td hbl
  go_upto_region 2 with fail
  have hbV : Below V3.heap.size V3 (V3.alloc (.cells #[.int .i64 4, .int .i64 0, .string ByteArray.empty, .slice (some ⟨bp, 0, none⟩) 2 2] 26)) := (Below.refl _ _).alloc (Nat.le_refl _) _
  have hHb : (V3.alloc (.cells #[.int .i64 4, .int .i64 0, .string ByteArray.empty, .slice (some ⟨bp, 0, none⟩) 2 2] 26)).heap[V3.heap.size]? = some (.cells #[.int .i64 4, .int .i64 0, .string ByteArray.empty, .slice (some ⟨bp, 0, none⟩) 2 2] 26 (0, 0)) := heap_new rfl
  have hD := hD3.below hbV
  replace tp := tp.below hbV
  have HRV4 := Lib.hid ((hbV.block _ hRl3).trans HRV3.out)
  generalize V3.alloc (.cells #[.int .i64 4, .int .i64 0, .string ByteArray.empty, .slice (some ⟨bp, 0, none⟩) 2 2] 26) = V4 at *
  obtain ⟨xp0, xp1, xp2, xp3, _⟩ := box4 hHb
  have hlp := heap_lt hHb
  have hnp : V3.heap.size ≠ B := by omega
  have nRp : V3.heap.size ≠ w.heap.size := by omega
  have hRl4 := heap_lt HRV4.out
  clear hHb hbV hRl1 hRl2 hD1 hD2 hD3
  have HSk : Hid (V4.cell? ⟨V3.heap.size, 0, none⟩ = some (.int .i64 4) ∧ V4.cell? ⟨V3.heap.size, 1, none⟩ = some (.int .i64 0) ∧ V4.cell? ⟨V3.heap.size, 2, none⟩ = some (.string ByteArray.empty) ∧ V4.cell? ⟨V3.heap.size, 3, none⟩ = some (.slice (some ⟨bp, 0, none⟩) 2 2)) := ⟨xp0, xp1, xp2, xp3⟩
  have keep : Hid (∀ w' : World, w'.heap[V3.heap.size]? = V4.heap[V3.heap.size]? → w'.cell? ⟨V3.heap.size, 0, none⟩ = some (.int .i64 4) ∧ w'.cell? ⟨V3.heap.size, 1, none⟩ = some (.int .i64 0) ∧ w'.cell? ⟨V3.heap.size, 2, none⟩ = some (.string ByteArray.empty) ∧ w'.cell? ⟨V3.heap.size, 3, none⟩ = some (.slice (some ⟨bp, 0, none⟩) 2 2)) := by
    intro w' ep
    obtain ⟨yp0, yp1, yp2, yp3⟩ := HSk.out
    exact ⟨(World.cell?_of_block ep).trans yp0, (World.cell?_of_block ep).trans yp1, (World.cell?_of_block ep).trans yp2, (World.cell?_of_block ep).trans yp3⟩
  have hg0 : V4.grownBy V4.drew (some B) := grown_below (Below.refl _ _).drew _
  have hD0 := hD.drew
  have hwV : w.heap.size + 1 ≤ V4.heap.size := by have := heap_lt HRV4.out; omega
  go_region_held3 (fun w' => w'.cell? ⟨V3.heap.size, 0, none⟩ = some (.int .i64 4) ∧ w'.cell? ⟨V3.heap.size, 1, none⟩ = some (.int .i64 0) ∧ w'.cell? ⟨V3.heap.size, 2, none⟩ = some (.string ByteArray.empty) ∧ w'.cell? ⟨V3.heap.size, 3, none⟩ = some (.slice (some ⟨bp, 0, none⟩) 2 2))
    (first | with_reducible exact keep.out _ (hg0.block _ hlp (by simpa using hnp)) | with_reducible exact keep.out _ ((heap_old (Nat.lt_of_lt_of_le hlp hg0.size)).trans (hg0.block _ hlp (by simpa using hnp))) | with_reducible exact keep.out _ (hG1.block _ hlp (by simpa using hnp)) | with_reducible exact keep.out _ ((heap_old (Nat.lt_of_lt_of_le hlp hG1.size)).trans (hG1.block _ hlp (by simpa using hnp))) | with_reducible exact keep.out _ (hG2.block _ hlp (by simpa using hnp)) | with_reducible exact keep.out _ ((heap_old (Nat.lt_of_lt_of_le hlp hG2.size)).trans (hG2.block _ hlp (by simpa using hnp))) | with_reducible exact keep.out _ (hG3.block _ hlp (by simpa using hnp)) | with_reducible exact keep.out _ ((heap_old (Nat.lt_of_lt_of_le hlp hG3.size)).trans (hG3.block _ hlp (by simpa using hnp))) | with_reducible exact keep.out _ (hG4.block _ hlp (by simpa using hnp)) | with_reducible exact keep.out _ ((heap_old (Nat.lt_of_lt_of_le hlp hG4.size)).trans (hG4.block _ hlp (by simpa using hnp))) | with_reducible exact keep.out _ ((heap_set4_other nRp).trans (hG4.block _ hlp (by simpa using hnp))))
    (first | (go_at_call 82; (with_reducible refine (l02Sym_any ⟨#[121]⟩ _).mono ?_); rintro e V4x1 ⟨rfl, hb1⟩; have hD1 : Dst w0 w V4x1 B a l cap := (by first | exact (hD0).below hb1); have hG1 : V4.grownBy V4x1 (some B) := (by first | exact grown_trans (hg0) (grown_below hb1 _))) | (go_at_call 84; (refine (l02Draw_three w0 _ B a l cap ?_ hl).mono ?_); (first | exact (hD1).cur); rintro e V4x2 ⟨kd2, nd2, sd2, ad2, ld2, cd2, rfl, td2, hc2, hg2⟩; have hD2 : Dst w0 w V4x2 B a l cap := (by first | exact (hD1).go hc2 hg2); have hG2 : V4.grownBy V4x2 (some B) := (by first | exact grown_trans (hG1) hg2); replace td2 : TmV V4x2 (w.heap.size + 1) 3 kd2 nd2 sd2 ad2 ld2 cd2 := td2.mono (by have := hG1.size; first | omega | (simp; omega)) (Nat.le_refl _); have hstep2 : V4x1.grownBy V4x2 (some B) := (by first | exact hg2 | exact grown_trans (grown_below ((Below.refl _ _).alloc (Nat.le_refl _) _) _) hg2)) | (go_at_call 72; (with_reducible refine (l02Pair_any 2 0 kd2 nd2 ⟨#[121]⟩ sd2 none ad2 0 0 ld2 cd2 _).mono ?_); rintro e V4x3 ⟨bq, rfl, hbl3, hrow3, hb3⟩; have hD3 : Dst w0 w V4x3 B a l cap := (by first | exact (hD2).below hb3); have hG3 : V4.grownBy V4x3 (some B) := (by first | exact grown_trans (hG2) (grown_below hb3 _)); have tq := TmV_pair (TmV_atom _ (w.heap.size + 1) 3 2 0 (s := ⟨#[121]⟩) (by decide) (by omega)) (td2.below hb3) (by have := hG2.size; omega) hrow3; have hstep3 : V4x2.grownBy V4x3 (some B) := (by first | exact grown_below hb3 _ | exact grown_trans (grown_below ((Below.refl _ _).alloc (Nat.le_refl _) _) _) (grown_below hb3 _))) | (go_at_call 49; (with_reducible refine (l02List_at [⟨4, 0, ByteArray.empty, some ⟨bp, 0, none⟩, 2, 2⟩, ⟨4, 0, ByteArray.empty, some ⟨bq, 0, none⟩, 2, 2⟩] _ (w.heap.size + 1) 7 _ _ 2 26 (0, 0) ?_ rfl rfl (by omega) ?_ ?_).mono ?_); (first | exact heap_new rfl | exact (heap_old (by simp)).trans (heap_new rfl)); (have := hG3.size; simp; omega); (first | exact TmVs.below ((Below.refl _ _).alloc (Nat.le_refl _) _) ⟨(((tp.grown hG3 (by omega))).mono (Nat.le_refl _) (by omega)), ((tq).mono (Nat.le_refl _) (by omega)), trivial⟩ | exact TmVs.below (((Below.refl _ _).alloc (Nat.le_refl _) _).trans (((Below.refl _ _).alloc (by simp) _))) ⟨(((tp.grown hG3 (by omega))).mono (Nat.le_refl _) (by omega)), ((tq).mono (Nat.le_refl _) (by omega)), trivial⟩ | exact TmVs.below ((Below.refl _ _).alloc (Nat.le_refl _) _) (TmVs.below ((Below.refl _ _).alloc (Nat.le_refl _) _) ⟨(((tp.grown hG3 (by omega))).mono (Nat.le_refl _) (by omega)), ((tq).mono (Nat.le_refl _) (by omega)), trivial⟩)); rintro e V4x4 ⟨kf, nf, sf, af, lf, cf, rfl, tf, hb4⟩; have hD4 : Dst w0 w V4x4 B a l cap := (by first | exact (hD3.alloc _).below hb4 | exact ((hD3.alloc _).alloc _).below hb4); have hG4 : V4.grownBy V4x4 (some B) := (by first | exact grown_trans (grown_trans hG3 (grown_below ((Below.refl _ _).alloc (Nat.le_refl _) _) _)) (grown_below hb4 _) | exact grown_trans (grown_trans (grown_trans hG3 (grown_below ((Below.refl _ _).alloc (Nat.le_refl _) _) _)) (grown_below ((Below.refl _ _).alloc (Nat.le_refl _) _) _)) (grown_below hb4 _)); have hstep4 : V4x3.grownBy V4x4 (some B) := (by first | exact grown_trans (grown_below ((Below.refl _ _).alloc (Nat.le_refl _) _) _) (grown_below hb4 _) | exact grown_trans (grown_trans (grown_below ((Below.refl _ _).alloc (Nat.le_refl _) _) _) (grown_below ((Below.refl _ _).alloc (Nat.le_refl _) _) _)) (grown_below hb4 _)); have HRL := Lib.hid ((hG4.block _ (heap_lt HRV4.out) (by simp; omega)).trans HRV4.out); obtain ⟨r0, r1, r2, r3, rf⟩ := box4 HRL.out; have hRlL := heap_lt HRL.out) | fail)
  all_goals
    go_wp2
    exact bodyPost_ret (results_term rfl _ _ w.heap.size rfl (heap_set4 HRL.out)) rfl (DrawP_set (base := w.heap.size + 1) hD4 (Nat.le_refl _) (by omega) hB (tf.mono (Nat.le_refl _) (by omega)))
end Go.Proofs.Ytjkabbkaeioibaa
