/- Contract of the reference's l02Copy: a term copied, new memory. -/
import Derived.Test.YtjkabbkaeioibaaTo
import Derived.Test.YtjkabbkaeioibaaCount
import Derived.Deep.RegionHeld3
import Derived.Deep.RegionLaw
namespace Go.Proofs.Ytjkabbkaeioibaa
open Go.RowKit

def CopyT (t : Tm) : Prop := ∀ (k n : Int) (s : ByteArray) (xs : List Tm) (a : Option Addr) (l c : Nat) (F : List Nat) (w : World), t = .mk k n s xs → RdS w xs a l c F →
  Calls Try.prog 70 #[.agg #[.int .i64 k, .int .i64 n, .string s, .slice a l c]] w (OutT w t [])

theorem new_notown {E : Nat} {w w2 : World} {base : Nat} {v : Value} {ts : List Tm} {Fs : List (List Nat)} {F : List Nat} (hown : OwnTs E w base v ts Fs) (hgr : Grows w.drew w2 [] F) : ∀ x ∈ F, v.ownBlock ≠ some x := by
  intro x hx hh
  have h1 := (hgr.fresh.2 x hx).1
  obtain ⟨es, h2, _⟩ := hown
  have h3 := (h2.lt x hh).2
  have h4 : w.drew.heap.size = w.heap.size := rfl
  omega

theorem step_append_term {w : World} {ops : Array Oper} {o : Oper} {a : Act} {K : Act → World → Prop} {Q : Exit → Act → World → Prop} {E : Prop} (hgd : o.guard = none) (s x : Operand)
    (ho : o.op = .call { callee := .builtin .append, args := #[s, x], argTypes := #[24, 24] })
    (base : Nat) (v : Value) (ts : List Tm) (Fs : List (List Nat)) (hs : a.eval s = v) (hown : OwnTs 26 w base v ts Fs)
    (g : Nat) (hx : a.eval x = .slice (some ⟨g, 0, none⟩) 1 1) (k n : Int) (nm : ByteArray) (ad : Option Addr) (l c : Nat) (xs : List Tm) (F : List Nat) (T : Nat) (fz : Nat × Nat)
    (hg : w.heap[g]? = some (.cells #[.int .i64 k, .int .i64 n, .string nm, .slice ad l c] T fz)) (hrd : RdS w xs ad l c F) (hF : ∀ x ∈ F, v.ownBlock ≠ some x)
    (hlen : ts.length ≤ 1000000000000) (hbase : base ≤ w.heap.size)
    (h : ∀ v' w', OwnTs 26 w' base v' (ts ++ [.mk k n nm xs]) (Fs ++ [F]) → w.grownBy w' v.ownBlock → K (a.put o.dst v') w') :
    if Region.wanted o (yielded ops a.tmps) = true then Oper.wp Try.prog o a w K Q else E := by
  have hw : Region.wanted o (yielded ops a.tmps) = true := by simp [Region.wanted, hgd]
  rw [if_pos hw]
  obtain ⟨es, hrow, hvs, hne⟩ := hown
  obtain ⟨i0, hi, hz0, hz1, hz2⟩ := info_parts info_Term
  obtain ⟨v', w', hr, h2, h3, h4⟩ := run_append_own2 (P := Try.prog) w base 24 o.type 26 i0 _ 4 56 Try.underlying24 hi hz0 hz1 hz2 rfl (by decide) v ts.length _ hrow ⟨g, 0, none⟩ 1 1 [.int .i64 k, .int .i64 n, .string nm, .slice ad l c] rfl (by
    intro j u hj
    have hadd : (⟨g, 0, none⟩ : Addr).add j = ⟨g, j, none⟩ := by unfold Addr.add; split <;> simp_all
    rw [hadd, cell_of_block hg]
    simpa using hj) (by simp [Value.oneCell']) (by decide) (by unfold maxLen; omega) (by omega) hbase
  unfold Oper.wp execOp
  simp only [ho, resolve, invoke, builtin, Sem.run_bind, Sem.run_pure, Result.andThen_ok, List.map_toArray, List.map_cons, List.map_nil, hs, hx, hr]
  refine h v' w' ⟨es ++ [⟨k, n, nm, ad, l, c⟩], ?_, ?_, ?_⟩ h3
  · simpa [TV.cells] using h2
  · refine RdVs_snoc (RdVs_same hvs fun x hx => h3.block x (RdVs_lt hvs x hx) (fun hh => hne x hx hh.symm)) ⟨xs, rfl, RdS_same (fun x hx => h3.block x (RdS_lt hrd x hx) (fun hh => hF x hx hh.symm)) hrd⟩
  · intro x hx
    have hlt : x < w.heap.size ∧ v.ownBlock ≠ some x := by
      simp only [List.flatten_append, List.mem_append, List.flatten_cons, List.flatten_nil, List.append_nil] at hx
      rcases hx with hx | hx
      · exact ⟨RdVs_lt hvs x hx, hne x hx⟩
      · exact ⟨RdS_lt hrd x hx, hF x hx⟩
    rcases h4 with ⟨h4, _⟩ | ⟨h4, _⟩
    · rw [h4]; exact hlt.2
    · rw [h4]; intro hh; simp at hh; omega

def CopyRel (w : World) (k n : Int) (s : ByteArray) (ts : List Tm) (i : Nat) (wr : World) : Prop :=
  ∃ (v : Value) (Fs : List (List Nat)), OwnTs 26 wr (w.heap.size + 3) v (ts.take i) Fs ∧
    wr.heap[w.heap.size + 1 + 1]? = some (.cells #[.int .i64 k, .int .i64 n, .string s, v] 26 (0, 0)) ∧
    wr.heap[w.heap.size + 1]? = some (.cells #[.int .i64 0, .int .i64 0, .string ByteArray.empty, .slice none 0 0] 26 (0, 0)) ∧
    Fresh w wr Fs.flatten ∧ (∀ x ∈ Fs.flatten, w.heap.size + 3 ≤ x) ∧ Below w.heap.size w wr ∧ w.heap.size + 3 ≤ wr.heap.size

theorem OwnTs_val {E : Nat} {w : World} {base : Nat} {v : Value} {ts : List Tm} {Fs : List (List Nat)} (h : OwnTs E w base v ts Fs) : ∃ a l c, v = .slice a l c := by
  obtain ⟨a, l, c, _, h1, _⟩ := OwnTs_rd h
  exact ⟨a, l, c, h1⟩
theorem OwnTs_set {E : Nat} {w : World} {base b o : Nat} {v u : Value} {ts : List Tm} {Fs : List (List Nat)} (h : OwnTs E w base v ts Fs) (hb : b < base) (hF : ∀ x ∈ Fs.flatten, x ≠ b) : OwnTs E (w.setCell ⟨b, o, none⟩ u) base v ts Fs := by
  obtain ⟨es, h1, h2, h3⟩ := h
  have hg : w.grownBy (w.setCell ⟨b, o, none⟩ u) (some b) := ⟨rfl, rfl, rfl, by simp [World.setCell], fun k _ hk => heap_set_other _ (fun h => hk (by rw [h]))⟩
  refine ⟨es, h1.kept hg ?_, RdVs_same h2 (fun x hx => heap_set_other _ (hF x hx)), h3⟩
  cases hv : v.ownBlock with
  | none => exact .inl rfl
  | some g => right; intro hh; have := (h1.lt g hv).1; simp at hh; omega
/-- one more part copied -/
theorem CopyRel_step {w wr W w2 w3 : World} {k n : Int} {s : ByteArray} {ts : List Tm} {i : Nat} {t : Tm} {v v' : Value} {Fs : List (List Nat)} {F2 : List Nat} {o : Obj} (ht : ts[i]? = some t)
    (hown : OwnTs 26 wr (w.heap.size + 3) v (ts.take i) Fs)
    (hO : wr.heap[w.heap.size + 1 + 1]? = some (.cells #[.int .i64 k, .int .i64 n, .string s, v] 26 (0, 0)))
    (hR : wr.heap[w.heap.size + 1]? = some (.cells #[.int .i64 0, .int .i64 0, .string ByteArray.empty, .slice none 0 0] 26 (0, 0)))
    (hfr : Fresh w wr Fs.flatten) (hlow : ∀ x ∈ Fs.flatten, w.heap.size + 3 ≤ x) (hbel : Below w.heap.size w wr) (hsz : w.heap.size + 3 ≤ wr.heap.size)
    (hbA : Below wr.heap.size wr W) (hbW : Below W.heap.size W w2) (hgr2 : Grows W.drew w2 [] F2) (hgrow : (w2.alloc o).grownBy w3 v.ownBlock)
    (hown3 : OwnTs 26 w3 (w.heap.size + 3) v' (ts.take i ++ [t]) (Fs ++ [F2])) :
    CopyRel w k n s ts (i + 1) (w3.setCell ⟨w.heap.size + 1 + 1, 3, none⟩ v') := by
  have hb2 : Below wr.heap.size wr w2 := hbA.trans (hbW.mono hbA.size)
  have hown2 := OwnTs_alloc (OwnTs_below hown hb2) o
  have hb3 : Below (w.heap.size + 3) wr w3 := (hb2.mono hsz).trans (((Below.refl _ _).alloc (by have := hb2.size; omega) _).trans (below_append hgrow hown2 (Nat.le_refl _) (by have := hb2.size; simp; omega)))
  have hfr2 : Fresh wr w2 F2 := by
    have h := hgr2.fresh
    exact ⟨h.1, fun x hx => ⟨by have := (h.2 x hx).1; have h4 : W.drew.heap.size = W.heap.size := rfl; have := hbA.size; omega, (h.2 x hx).2⟩⟩
  have hlt2 : ∀ x ∈ F2, x < w2.heap.size := fun x hx => by obtain ⟨cs, T, h1⟩ := (hfr2.2 x hx).2; exact heap_lt h1
  have hltF : ∀ x ∈ Fs.flatten, x < wr.heap.size := fun x hx => by obtain ⟨cs, T, h1⟩ := (hfr.2 x hx).2; exact heap_lt h1
  have hlow' : ∀ x ∈ (Fs ++ [F2]).flatten, w.heap.size + 3 ≤ x := by
    intro x hx
    simp only [List.flatten_append, List.flatten_cons, List.flatten_nil, List.append_nil, List.mem_append] at hx
    rcases hx with hx | hx
    · exact hlow x hx
    · have := (hfr2.2 x hx).1; omega
  have hF2n : ∀ x ∈ F2, some x ≠ v.ownBlock := by
    intro x hx hh
    obtain ⟨es, h1, _⟩ := hown
    have := (h1.lt x hh.symm).2; have := (hfr2.2 x hx).1; omega
  have hFsn : ∀ x ∈ Fs.flatten, some x ≠ v.ownBlock := by
    intro x hx hh
    obtain ⟨es, _, _, h3⟩ := hown
    exact h3 x hx hh.symm
  have keepF : ∀ x ∈ Fs.flatten, (w3.setCell ⟨w.heap.size + 1 + 1, 3, none⟩ v').heap[x]? = wr.heap[x]? := by
    intro x hx
    have := hltF x hx; have := hlow x hx; have := hb2.size
    rw [heap_set_other _ (by omega), hgrow.block x (by simp; omega) (hFsn x hx), heap_old (by omega), hb2.block x (by omega)]
  have keep2 : ∀ x ∈ F2, (w3.setCell ⟨w.heap.size + 1 + 1, 3, none⟩ v').heap[x]? = w2.heap[x]? := by
    intro x hx
    have := hlt2 x hx; have := (hfr2.2 x hx).1
    rw [heap_set_other _ (by omega), hgrow.block x (by simp; omega) (hF2n x hx), heap_old (by omega)]
  have htk : ts.take (i + 1) = ts.take i ++ [t] := by
    obtain ⟨h1, h2⟩ := List.getElem?_eq_some_iff.1 ht
    rw [List.take_succ_eq_append_getElem h1, h2]
  refine ⟨v', Fs ++ [F2], ?_, ?_, ?_, ?_, hlow', ?_, ?_⟩
  · rw [htk]; exact OwnTs_set hown3 (by omega) (fun x hx => by have := hlow' x hx; omega)
  · have h1 : w3.heap[w.heap.size + 1 + 1]? = _ := (hb3.block _ (by omega)).trans hO
    have := heap_set (o := 3) v' h1
    simpa using this
  · rw [heap_set_other _ (by omega), hb3.block _ (by omega)]; exact hR
  · rw [List.flatten_append]
    simp only [List.flatten_cons, List.flatten_nil, List.append_nil]
    exact Fresh.add hfr keepF hltF hbel.size (hfr2.later keep2)
  · exact (hbel.trans (hb3.mono (by omega))).setCell (by show w.heap.size ≤ w.heap.size + 1 + 1; omega) _
  · have := hb3.size; simp [World.setCell]; omega

set_option maxHeartbeats 1000000 in
set_option maxRecDepth 100000 in
theorem copy_of (k n : Int) (s : ByteArray) (ts : List Tm) (hall : ∀ t ∈ ts, CopyT t) (hm : ts.length ≤ 1000000000000) : CopyT (.mk k n s ts) := by
  intro k' n' s' xs' a l c F w ht h
  cases ht
  obtain ⟨b, o, Fs0, ha, hl, _, hel, _⟩ := RdS_each h
  have hlm : l ≤ 1000000000000 := by omega
  have HL := Lib.hid hl; have HEL := Lib.hid hel; have HALL := Lib.hid hall; have HA := Lib.hid ha
  clear hl hel hall ha h hm
  go_enter Try.func70, Try.ntmps70
  go_wp2
  go_loopw [16] (fun iv wr => ∃ i : Nat, i ≤ l ∧ iv = .int .i64 i ∧ CopyRel w k n s ts i wr) (fun iv _ => l - (intOf iv).toNat)
  case atStart =>
    refine ⟨0, Nat.zero_le _, rfl, _, [], OwnTs_nil _ _ _, heap_new (by simp), ?_, ⟨by simp, by simp⟩, by simp, (((Below.refl _ _).alloc (Nat.le_refl _) _).alloc (by simp) _).alloc (by simp; omega) _, by simp⟩
    rw [heap_old (by simp), heap_new (by simp)]; rfl
  case round =>
    obtain ⟨i, hi, rfl, v, Fs, hown, hO, hR, hfr, hlow, hbel, hsz⟩ := hrel
    by_cases hlt : i < l
    · obtain rfl := HA.out (by omega)
      obtain ⟨xk, xn, xs, xas, hx⟩ : ∃ xk xn xs xas, ts[i]? = some (.mk xk xn xs xas) := by
        have h1 : i < ts.length := by have := HL.out; omega
        cases hx : ts[i] with
        | mk xk xn xs xas => exact ⟨xk, xn, xs, xas, by simp [h1, hx]⟩
      have r1 := HEL.out i _ hx
      rw [Rd_mk] at r1
      obtain ⟨x0, x1, x2, xa, xl, xc, x3, hrx⟩ := r1
      have hlt1 := cell_lt x0
      rw [← hbel.cell (p := ⟨b, _, none⟩) hlt1, show o + 4 * i = o + i * 4 by omega] at x0 x1 x2 x3
      have HX := Lib.hid hx; clear hx
      have HO := Lib.hid hO; have HR := Lib.hid hR
      clear hO hR
      go_wp2_with fail
      have hbA : Below wr.heap.size wr (wr.alloc (.cells #[.int .i64 xk, .int .i64 xn, .string xs, .slice xa xl xc] 26)) := (Below.refl _ _).alloc (Nat.le_refl _) _
      have hX : (wr.alloc (.cells #[.int .i64 xk, .int .i64 xn, .string xs, .slice xa xl xc] 26)).heap[wr.heap.size]? = some (.cells #[.int .i64 xk, .int .i64 xn, .string xs, .slice xa xl xc] 26 (0, 0)) := heap_new rfl
      generalize wr.alloc (.cells #[.int .i64 xk, .int .i64 xn, .string xs, .slice xa xl xc] 26) = W at *
      have hO := (hbA.block _ (by omega)).trans HO.out
      obtain ⟨xs0, xs1, xs2, xs3, _⟩ := box4 hX
      obtain ⟨_, _, _, p3, pf⟩ := box4 hO
      have hblt := heap_lt hO; have hxlt := heap_lt hX
      have HOW := Lib.hid hO
      have hownW := OwnTs_below hown hbA
      have hlen : (ts.take i).length ≤ 1000000000000 := by simp; omega
      have hsW := hbA.size
      have hrxW : RdS W.drew xas xa xl xc (Fs0.getD i []) := RdS_ext (RdS_ext hrx hbel) hbA.drew
      have HRX := Lib.hid hrxW
      have HC := Lib.hid (HALL.out _ (List.mem_of_getElem? HX.out) xk xn xs xas xa xl xc _ W.drew rfl hrxW)
      clear hO hX x0 x1 x2 x3 hrxW
      go_region_law (first | (go_simp; (with_reducible refine HC.out.mono ?_); rintro e w2 ⟨k2, n2, s2, xs2', a2, l2, c2, F2, ht2, rfl, hrd2, hgr2, hb2⟩; cases ht2; have hbW : Below W.heap.size W w2 := below_of_drew hb2; have hown2 := OwnTs_below hownW hbW; have hs2 := hbW.size; have HF2 := Lib.hid (new_notown hownW hgr2); have y3 := (hbW.cell (p := ⟨w.heap.size + 1 + 1, 3, none⟩) hblt).trans p3; have hb2lt : w.heap.size + 1 + 1 < w2.heap.size := Nat.lt_of_lt_of_le hblt hs2) | (refine step_append_term rfl _ _ rfl (w.heap.size + 3) _ (ts.take i) _ rfl (OwnTs_alloc hown2 _) _ rfl _ _ _ _ _ _ xas F2 _ _ (heap_new rfl) (RdS_ext hrd2 ((Below.refl _ _).alloc (Nat.le_refl _) _)) HF2.out hlen (by simp; omega) ?_; intro v' w3 hown3 hgrow3; have hb3 : Below (w.heap.size + 3) w2 w3 := ((Below.refl _ _).alloc (by omega) _).trans (below_append hgrow3 (OwnTs_alloc hown2 _) (Nat.le_refl _) (by simp; omega)); have z3 := (hb3.cell (p := ⟨w.heap.size + 1 + 1, 3, none⟩) (show w.heap.size + 1 + 1 < w.heap.size + 3 by omega)).trans y3; have zf := (hb3.frozen (p := ⟨w.heap.size + 1 + 1, 3, none⟩) (show w.heap.size + 1 + 1 < w.heap.size + 3 by omega)).trans ((hbW.frozen (p := ⟨w.heap.size + 1 + 1, 3, none⟩) hblt).trans (pf 3)); obtain ⟨a3, l3, c3, rfl⟩ := OwnTs_val hown3))
      all_goals (go_wp2)
      all_goals (refine ⟨⟨i + 1, by omega, by go_num, ?_⟩, by simp [intOf]; omega⟩)
      all_goals exact CopyRel_step HX.out hown HO.out HR.out hfr hlow hbel hsz hbA hbW hgr2 hgrow3 hown3
    · obtain rfl : i = l := by omega
      have HO := Lib.hid hO; have HR := Lib.hid hR
      obtain ⟨p0, p1, p2, p3, pf⟩ := box4 hO
      obtain ⟨q0, q1, q2, q3, qf⟩ := box4 hR
      have htk : ts.take i = ts := List.take_of_length_le (by have := HL.out; omega)
      rw [htk] at hown
      clear hO hR
      obtain ⟨a2, l2, c2, F2, rfl, hrd2, hor, hl2, _⟩ := OwnTs_rd hown
      obtain ⟨_, _, _, hne⟩ := hown
      clear hl2
      have HRD := Lib.hid hrd2; clear hrd2
      go_wp2
      have hrd2 := HRD.out
      have hF2 : Fresh w wr F2 ∧ ∀ x ∈ F2, w.heap.size + 3 ≤ x := by
        rcases hor with rfl | ⟨g, cur, rfl, hg, rfl, hcur⟩
        · obtain ⟨_, _, h5⟩ := hrd2
          rcases h5 with ⟨_, rfl⟩ | ⟨h6, _⟩
          · exact ⟨⟨by simp, by simp⟩, by simp⟩
          · exact absurd rfl h6
        · refine ⟨⟨List.nodup_cons.2 ⟨fun hm => hne g hm rfl, hfr.1⟩, fun x hx => ?_⟩, fun x hx => ?_⟩
          · rcases List.mem_cons.1 hx with rfl | hx
            · exact ⟨by omega, _, _, hcur⟩
            · exact hfr.2 x hx
          · rcases List.mem_cons.1 hx with rfl | hx
            · exact hg
            · exact hlow x hx
      exact bodyPost_ret (v := .agg #[.int .i64 k, .int .i64 n, .string s, .slice a2 l2 c2]) (results_term rfl _ _ (w.heap.size + 1) rfl (heap_set4 HR.out)) rfl (OutT_set rfl hrd2 hF2.1.grows hbel (by omega) (fun x hx => by have := hF2.2 x hx; omega))

theorem copyT_all (t : Tm) : t.Lens → CopyT t := by
  induction t using Tm.ind with
  | h k n s xs ih =>
    intro h
    cases h with
    | mk _ _ _ _ h1 h2 h3 => exact copy_of k n s xs (fun x hx => ih x hx (h3 x hx)) h2
end Go.Proofs.Ytjkabbkaeioibaa
