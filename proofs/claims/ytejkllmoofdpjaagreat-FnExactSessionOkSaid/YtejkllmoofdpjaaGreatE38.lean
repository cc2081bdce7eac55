/- Parts of the proof: VW5. -/
import Derived.Test.YtejkllmoofdpjaaGreatE32
import Derived.Lib.SmallJoins
import Derived.ProofKit
namespace Go.Proofs.YtejkllmoofdpjaaGreat
open Go
set_option linter.all false
set_option maxRecDepth 100000
set_option maxHeartbeats 4000000
section
open Go Go.RowKit Go.Joins Go.ChangeShapes Go.Deep
noncomputable section
section
variable {H : Type} {enc : TypeId × Value → H} {P : Program} {w : World} {spare : Nat → Bool} {held : Bool}
theorem add_plain' (b o j : Nat) : (⟨b, o, none⟩ : Addr).add j = ⟨b, o + j, none⟩ := by unfold Addr.add; split <;> simp_all
abbrev NoM : Nat → Prop := fun _ => False
theorem open_slice {t e : TypeId} {α : Type} (ec : α → List D) (ok : α → Prop) {sz : Nat} (hsz : 0 < sz) (ht : P.underlying t = some (.slice e)) (hC : P.cellsOf e = sz) {fuel : Nat} {cs : List Value} {x : DataW H × List MemPlace}
 (each : ∀ n, n < fuel → ∀ cs x, DataW.trod enc P w 0 spare held n e cs = some x → ∃ a, rdC NoM w (ec a) cs ∧ ok a)
 (h : DataW.trod enc P w 0 spare held fuel t cs = some x) : ∃ (l : List α) (v : Value), cs = [v] ∧ (D.s sz (l.map ec)).rd NoM w v ∧ Len l.length ∧ ∀ a ∈ l, ok a := by
 rcases DataW.trod_slice ht h with ⟨e3, _⟩ | ⟨a, len, cap, elems, rest, n', hn', e3, _, _, hle, hcap, hel, hget, _, _⟩
 ·exact ⟨[], _, e3, ⟨none, 0, rfl, Nat.le_refl _, .inl rfl⟩, by simp, by simp⟩
 unfold maxLen at hcap
 have hone : ∀ i, i < len → ∃ y vs, vs.length = sz ∧ rdC NoM w (ec y) vs ∧ (∀ j, j < sz → w.cell? ((a.add (i * sz)).add j) = vs[j]?) ∧ ok y := by
  intro i hi
  have hg := hget i hi
  rw [hC, List.getElem?_eq_getElem (by omega)] at hg
  obtain ⟨cs', g1, g2⟩ := Option.bind_eq_some_iff.1 hg
  obtain ⟨y, h1, h2⟩ := each n' (by omega) cs' _ g2
  obtain ⟨_, g4, g3⟩ := World.cells?_some g1
  exact ⟨y, cs', g4, h1, g3, h2⟩
 by_cases hl0 : len = 0
 ·subst hl0
  exact ⟨[], _, e3, ⟨some a, cap, rfl, Nat.zero_le _, .inl rfl⟩, by simp, by simp⟩
 obtain ⟨b, o, spot⟩ := a
 obtain ⟨y0, vs0, q1, q2, q3, q4⟩ := hone 0 (by omega)
 have q5 := q3 0 hsz
 rw [List.getElem?_eq_getElem (by omega)] at q5
 have hspot : spot = none := by simpa [Addr.add] using World.cell?_spot q5
 subst hspot
 rw [add_plain', add_plain'] at q5
 have hb : b < w.heap.size := World.block_lt_of_cell? w _ q5
 have all : ∀ N, N ≤ len → ∃ l : List α, l.length = N ∧ rdR NoM w sz b (o + (len - N) * sz) (l.map ec) ∧ ∀ a ∈ l, ok a := by
  intro N
  induction N with
  | zero => exact fun _ => ⟨[], rfl, trivial, by simp⟩
  | succ N ih =>
   intro hN
   obtain ⟨l, h1, h2, h3⟩ := ih (by omega)
   obtain ⟨y, vs, r1, r2, r3, r4⟩ := hone (len - (N + 1)) (by omega)
   refine ⟨y :: l, by simp [h1], ⟨⟨vs, r1, r2, ?_⟩, ?_⟩, ?_⟩
   ·intro j u hj
    have hjl := (List.getElem?_eq_some_iff.1 hj).1
    have := r3 j (by omega)
    rw [add_plain', add_plain', hj] at this
    exact this
   ·have e4 : o + (len - (N + 1)) * sz + sz = o + (len - N) * sz := by
     rw [show len - N = (len - (N + 1)) + 1 by omega, Nat.add_mul]; omega
    rw [e4]
    exact h2
   ·intro z hz
    rcases List.mem_cons.1 hz with rfl | hz
    ·exact r4
    ·exact h3 z hz
 obtain ⟨l, h1, h2, h3⟩ := all len (Nat.le_refl _)
 rw [Nat.sub_self, Nat.zero_mul, Nat.add_zero] at h2
 exact ⟨l, _, e3, ⟨some ⟨b, o, none⟩, cap, by rw [List.length_map, h1], by rw [List.length_map, h1]; exact hle, .inr ⟨b, o, rfl, id, hb, h2⟩⟩, by omega, h3⟩
theorem i64_wf {k : Int} (h : (Lit.int .i64 k).wf = true) : I64 k := by
 have h2 : IntKind.i64.min ≤ k ∧ k ≤ IntKind.i64.max := by simpa [Lit.wf] using h
 have e1 : IntKind.i64.min = -9223372036854775808 := by decide
 have e2 : IntKind.i64.max = 9223372036854775807 := by decide
 rw [e1, e2] at h2
 exact h2
theorem open_tm {T : TypeId} {f0 f1 f2 f3 : Field} (hs : P.underlying T = some (.struct #[f0, f1, f2, f3])) (hone : oneCellFields P #[f0, f1, f2, f3] = true) (hC : P.cellsOf T = 4)
 (t0 : P.underlying f0.type = some (.int .i64)) (t1 : P.underlying f1.type = some (.int .i64)) (t2 : P.underlying f2.type = some .string) (t3 : P.underlying f3.type = some (.slice T)) :
 ∀ (fuel : Nat) (cs : List Value) (x : DataW H × List MemPlace), DataW.trod enc P w 0 spare held fuel T cs = some x → ∃ t : Tm, rdC NoM w (encT t) cs ∧ t.In0 := by
 intro fuel
 induction fuel using Nat.strongRecOn with
 | ind fuel ih =>
  intro cs x h
  obtain ⟨ys, n, hn, hx, hl, hlen, hf⟩ := DataW.trod_struct hs h
  obtain ⟨o0, k0⟩ := hone_of hone 0 f0 rfl
  obtain ⟨o1, k1⟩ := hone_of hone 1 f1 rfl
  obtain ⟨o2, k2⟩ := hone_of hone 2 f2 rfl
  obtain ⟨o3, k3⟩ := hone_of hone 3 f3 rfl
  rw [hC] at hl
  match cs, hl, ys, hlen with
  | [v0, v1, v2, v3], _, [y0, y1, y2, y3], _ =>
   have h0 : DataW.trod enc P w 0 spare held n f0.type [v0] = some y0 := by simpa [o0, k0] using hf 0 f0 rfl
   have h1 : DataW.trod enc P w 0 spare held n f1.type [v1] = some y1 := by simpa [o1, k1] using hf 1 f1 rfl
   have h2 : DataW.trod enc P w 0 spare held n f2.type [v2] = some y2 := by simpa [o2, k2] using hf 2 f2 rfl
   have h3 : DataW.trod enc P w 0 spare held n f3.type [v3] = some y3 := by simpa [o3, k3] using hf 3 f3 rfl
   obtain ⟨k, e0, _, w0⟩ := DataW.trod_int t0 h0
   obtain ⟨m, e1, _, w1⟩ := DataW.trod_int t1 h1
   obtain ⟨s, e2, _, hsz⟩ := DataW.trod_string t2 h2
   cases e0; cases e1; cases e2
   unfold maxLen at hsz
   obtain ⟨l, v, e3, hr, hll, hok⟩ := open_slice encT Tm.In0 (by omega) t3 hC (fun n' hn' cs x h => ih n' (by omega) cs x h) h3
   cases e3
   refine ⟨.mk k m s l, ⟨_, _, rfl, ⟨rfl, rfl⟩, _, _, rfl, ⟨rfl, rfl⟩, _, _, rfl, ⟨rfl, rfl⟩, _, _, rfl, ?_, rfl⟩, ⟨i64_wf w0, i64_wf w1, hsz, hll, InL0.all.2 hok⟩⟩
   rw [argE_eq, rowsT_eq]
   exact hr
theorem open_gl {T TT : TypeId} {f0 f1 f2 f3 : Field} (hs : P.underlying T = some (.struct #[f0, f1, f2, f3])) (hone : oneCellFields P #[f0, f1, f2, f3] = true) (hC : P.cellsOf T = 4) (hCT : P.cellsOf TT = 4)
 (t0 : P.underlying f0.type = some (.int .i64)) (t1 : P.underlying f1.type = some .string) (t2 : P.underlying f2.type = some (.slice TT)) (t3 : P.underlying f3.type = some (.slice T))
 (htm : ∀ n cs x, DataW.trod enc P w 0 spare held n TT cs = some x → ∃ t : Tm, rdC NoM w (encT t) cs ∧ t.In0) :
 ∀ (fuel : Nat) (cs : List Value) (x : DataW H × List MemPlace), DataW.trod enc P w 0 spare held fuel T cs = some x → ∃ t : Gl, rdC NoM w (encG t) cs ∧ t.In0 := by
 intro fuel
 induction fuel using Nat.strongRecOn with
 | ind fuel ih =>
  intro cs x h
  obtain ⟨ys, n, hn, hx, hl, hlen, hf⟩ := DataW.trod_struct hs h
  obtain ⟨o0, k0⟩ := hone_of hone 0 f0 rfl
  obtain ⟨o1, k1⟩ := hone_of hone 1 f1 rfl
  obtain ⟨o2, k2⟩ := hone_of hone 2 f2 rfl
  obtain ⟨o3, k3⟩ := hone_of hone 3 f3 rfl
  rw [hC] at hl
  match cs, hl, ys, hlen with
  | [v0, v1, v2, v3], _, [y0, y1, y2, y3], _ =>
   have h0 : DataW.trod enc P w 0 spare held n f0.type [v0] = some y0 := by simpa [o0, k0] using hf 0 f0 rfl
   have h1 : DataW.trod enc P w 0 spare held n f1.type [v1] = some y1 := by simpa [o1, k1] using hf 1 f1 rfl
   have h2 : DataW.trod enc P w 0 spare held n f2.type [v2] = some y2 := by simpa [o2, k2] using hf 2 f2 rfl
   have h3 : DataW.trod enc P w 0 spare held n f3.type [v3] = some y3 := by simpa [o3, k3] using hf 3 f3 rfl
   obtain ⟨k, e0, _, w0⟩ := DataW.trod_int t0 h0
   obtain ⟨s, e1, _, hsz⟩ := DataW.trod_string t1 h1
   cases e0; cases e1
   unfold maxLen at hsz
   obtain ⟨ts, u, e2, hr2, hl2, hok2⟩ := open_slice encT Tm.In0 (by omega) t2 hCT (fun n' _ cs x h => htm n' cs x h) h2
   obtain ⟨l, v, e3, hr, hll, hok⟩ := open_slice encG Gl.In0 (by omega) t3 hC (fun n' hn' cs x h => ih n' (by omega) cs x h) h3
   cases e2; cases e3
   refine ⟨.mk k s ts l, ⟨_, _, rfl, ⟨rfl, rfl⟩, _, _, rfl, ⟨rfl, rfl⟩, _, _, rfl, ?_, _, _, rfl, ?_, rfl⟩, ⟨i64_wf w0, hsz, hl2, InL0.all.2 hok2, hll, InG0.all.2 hok⟩⟩
   ·show (D.s 4 (rowsT ts)).rd NoM w _
    rw [rowsT_eq]; exact hr2
   ·rw [subE_eq, rowsG_eq]
    exact hr
theorem open_rl {T TG : TypeId} {f0 f1 f2 f3 : Field} (hs : P.underlying T = some (.struct #[f0, f1, f2, f3])) (hC : P.cellsOf T = 7)
 (o0 : f0.offset = 0 ∧ P.cellsOf f0.type = 1) (o1 : f1.offset = 1 ∧ P.cellsOf f1.type = 1) (o2 : f2.offset = 2 ∧ P.cellsOf f2.type = 1) (o3 : f3.offset = 3 ∧ P.cellsOf f3.type = 4)
 (t0 : P.underlying f0.type = some .string) (t1 : P.underlying f1.type = some (.int .i64)) (t2 : P.underlying f2.type = some (.int .i64)) (t3 : f3.type = TG)
 (hgl : ∀ n cs x, DataW.trod enc P w 0 spare held n TG cs = some x → ∃ t : Gl, rdC NoM w (encG t) cs ∧ t.In0)
 {fuel : Nat} {cs : List Value} {x : DataW H × List MemPlace} (h : DataW.trod enc P w 0 spare held fuel T cs = some x) : ∃ t : RlR, rdC NoM w (encR t) cs ∧ t.In0 := by
 obtain ⟨ys, n, hn, hx, hl, hlen, hf⟩ := DataW.trod_struct hs h
 obtain ⟨o0, k0⟩ := o0
 obtain ⟨o1, k1⟩ := o1
 obtain ⟨o2, k2⟩ := o2
 obtain ⟨o3, k3⟩ := o3
 rw [hC] at hl
 match cs, hl, ys, hlen with
 | [v0, v1, v2, v3, v4, v5, v6], _, [y0, y1, y2, y3], _ =>
  have h0 : DataW.trod enc P w 0 spare held n f0.type [v0] = some y0 := by simpa [o0, k0] using hf 0 f0 rfl
  have h1 : DataW.trod enc P w 0 spare held n f1.type [v1] = some y1 := by simpa [o1, k1] using hf 1 f1 rfl
  have h2 : DataW.trod enc P w 0 spare held n f2.type [v2] = some y2 := by simpa [o2, k2] using hf 2 f2 rfl
  have h3 : DataW.trod enc P w 0 spare held n f3.type [v3, v4, v5, v6] = some y3 := by simpa [o3, k3] using hf 3 f3 rfl
  obtain ⟨s, e0, _, hsz⟩ := DataW.trod_string t0 h0
  obtain ⟨k, e1, _, w1⟩ := DataW.trod_int t1 h1
  obtain ⟨m, e2, _, w2⟩ := DataW.trod_int t2 h2
  cases e0; cases e1; cases e2
  unfold maxLen at hsz
  rw [t3] at h3
  obtain ⟨g, hr, hg⟩ := hgl n _ _ h3
  exact ⟨⟨s, k, m, g⟩, ⟨_, _, rfl, ⟨rfl, rfl⟩, _, _, rfl, ⟨rfl, rfl⟩, _, _, rfl, ⟨rfl, rfl⟩, hr⟩, ⟨hsz, i64_wf w1, i64_wf w2, hg⟩⟩
theorem open_pr {T TR : TypeId} {f0 : Field} (hs : P.underlying T = some (.struct #[f0])) (hone : oneCellFields P #[f0] = true) (hC : P.cellsOf T = 1) (hCR : P.cellsOf TR = 7) (t0 : P.underlying f0.type = some (.slice TR))
 (hrl : ∀ n cs x, DataW.trod enc P w 0 spare held n TR cs = some x → ∃ t : RlR, rdC NoM w (encR t) cs ∧ t.In0)
 {fuel : Nat} {cs : List Value} {x : DataW H × List MemPlace} (h : DataW.trod enc P w 0 spare held fuel T cs = some x) : ∃ p : List RlR, rdC NoM w (encP p) cs ∧ InP0 p := by
 obtain ⟨ys, n, hn, hx, hl, hlen, hf⟩ := DataW.trod_struct hs h
 obtain ⟨o0, k0⟩ := hone_of hone 0 f0 rfl
 rw [hC] at hl
 match cs, hl, ys, hlen with
 | [v0], _, [y0], _ =>
  have h0 : DataW.trod enc P w 0 spare held n f0.type [v0] = some y0 := by simpa [o0, k0] using hf 0 f0 rfl
  obtain ⟨l, v, e3, hr, hll, hok⟩ := open_slice encR RlR.In0 (by omega) t0 hCR (fun n' _ cs x h => hrl n' cs x h) h0
  cases e3
  exact ⟨l, ⟨_, _, rfl, hr, rfl⟩, hll, hok⟩
end
end
end
end Go.Proofs.YtejkllmoofdpjaaGreat
