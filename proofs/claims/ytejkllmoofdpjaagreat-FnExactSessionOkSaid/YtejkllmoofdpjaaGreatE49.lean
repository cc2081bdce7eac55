/- Parts of the proof: VT5. -/
import Derived.Test.YtejkllmoofdpjaaGreatE38
import Derived.Test.YtejkllmoofdpjaaGreatE40
namespace Go.Proofs.YtejkllmoofdpjaaGreat
open Go
set_option linter.all false
set_option maxRecDepth 100000
set_option maxHeartbeats 4000000
section
open Go Go.RowKit Go.Joins Go.ChangeShapes Go.Deep
noncomputable section
section
variable {H : Type} {enc : TypeId × Value → H} {P : Program} {w : World} {spare : Nat → Bool} {held : Bool}
def Rdg (enc : TypeId × Value → H) (P : Program) (w : World) (spare : Nat → Bool) (held : Bool) (T : TypeId) {α : Type} (e : α → List D) (ok : α → Prop) : Prop :=
 ∀ n cs x, DataW.trod enc P w 0 spare held n T cs = some x → ∃ a, rdC NoM w (e a) cs ∧ ok a
theorem opn_int {T : TypeId} (h : P.underlying T = some (.int .i64)) (h1 : P.cellsOf T = 1) : Rdg enc P w spare held T encI I64 := fun n cs x hx => by
 obtain ⟨k, e0, _, w0⟩ := DataW.trod_int h hx
 cases e0
 exact ⟨k, ⟨_, _, rfl, ⟨rfl, rfl⟩, rfl⟩, i64_wf w0⟩
theorem opn_str {T : TypeId} (h : P.underlying T = some .string) : Rdg enc P w spare held T (fun s => [.v (.string s)]) (fun s => Len s.size) := fun n cs x hx => by
 obtain ⟨s, e1, _, hsz⟩ := DataW.trod_string h hx
 cases e1
 exact ⟨s, ⟨_, _, rfl, ⟨rfl, rfl⟩, rfl⟩, hsz⟩
theorem opn_sl {T e : TypeId} {α : Type} {ec : α → List D} {ok : α → Prop} (sz : Nat) (hsz : 0 < sz) (ht : P.underlying T = some (.slice e)) (hC : P.cellsOf e = sz) (h : Rdg enc P w spare held e ec ok) : Rdg enc P w spare held T (encL sz ec) (fun l => Len l.length ∧ ∀ a ∈ l, ok a) := fun n cs x hx => by
 obtain ⟨l, v, e3, hr, hll, hok⟩ := open_slice ec ok hsz ht hC (fun n' _ cs x hx => h n' cs x hx) hx
 cases e3
 exact ⟨l, ⟨_, _, rfl, hr, rfl⟩, hll, hok⟩
theorem opn_2 {T : TypeId} {f0 f1 : Field} {α β : Type} {e0 : α → List D} {e1 : β → List D} {k0 : α → Prop} {k1 : β → Prop} (z0 z1 : Nat) (hs : P.underlying T = some (.struct #[f0, f1])) (hC : P.cellsOf T = z0 + z1) (o0 : f0.offset = 0 ∧ P.cellsOf f0.type = z0) (o1 : f1.offset = z0 ∧ P.cellsOf f1.type = z1)
 (h0 : Rdg enc P w spare held f0.type e0 k0) (h1 : Rdg enc P w spare held f1.type e1 k1) : Rdg enc P w spare held T (fun p : α × β => e0 p.1 ++ e1 p.2) (fun p => k0 p.1 ∧ k1 p.2) := fun n cs x hx => by
 obtain ⟨ys, n, hn, hx, hl, hlen, hf⟩ := DataW.trod_struct hs hx
 obtain ⟨q0, r0⟩ := o0
 obtain ⟨q1, r1⟩ := o1
 rw [hC] at hl
 match ys, hlen with
 | [y0, y1], _ =>
  have g0 := hf 0 f0 rfl
  have g1 := hf 1 f1 rfl
  rw [q0, r0] at g0
  rw [q1, r1] at g1
  obtain ⟨a, a1, a2⟩ := h0 _ _ _ g0
  obtain ⟨b, b1, b2⟩ := h1 _ _ _ g1
  refine ⟨(a, b), ?_, a2, b2⟩
  have := rdC_append a1 b1
  rwa [List.drop_zero, List.take_of_length_le (l := cs.drop z0) (by simp; omega), List.take_append_drop] at this
theorem Rdg.mono {T : TypeId} {α β : Type} {e : α → List D} {e' : β → List D} {k : α → Prop} {k' : β → Prop} (h : Rdg enc P w spare held T e k) (f : α → β) (he : ∀ a, e a = e' (f a)) (hk : ∀ a, k a → k' (f a)) : Rdg enc P w spare held T e' k' := fun n cs x hx => by
 obtain ⟨a, h1, h2⟩ := h n cs x hx
 exact ⟨f a, he a ▸ h1, hk a h2⟩
theorem opn_st {T : TypeId} {f0 f1 f2 f3 f4 : Field} (hs : P.underlying T = some (.struct #[f0, f1, f2, f3, f4])) (hone : oneCellFields P #[f0, f1, f2, f3, f4] = true) (hC : P.cellsOf T = 5)
 (h0 : Rdg enc P w spare held f0.type encI I64) (h1 : Rdg enc P w spare held f1.type (encL 5 encB) bdsIn0) (h2 : Rdg enc P w spare held f2.type (encL 1 (encL 5 encB)) bdssIn0) (h3 : Rdg enc P w spare held f3.type (encL 2 encK) vksIn0) (h4 : Rdg enc P w spare held f4.type (encL 2 encM) mksIn0) :
 Rdg enc P w spare held T encSt StR.In0 := fun n cs x hx => by
 obtain ⟨ys, n, hn, hx, hl, hlen, hf⟩ := DataW.trod_struct hs hx
 obtain ⟨o0, k0⟩ := hone_of hone 0 f0 rfl
 obtain ⟨o1, k1⟩ := hone_of hone 1 f1 rfl
 obtain ⟨o2, k2⟩ := hone_of hone 2 f2 rfl
 obtain ⟨o3, k3⟩ := hone_of hone 3 f3 rfl
 obtain ⟨o4, k4⟩ := hone_of hone 4 f4 rfl
 rw [hC] at hl
 match cs, hl, ys, hlen with
 | [v0, v1, v2, v3, v4], _, [y0, y1, y2, y3, y4], _ =>
  obtain ⟨a, ⟨_, _, a1, a2, a3⟩, a4⟩ := h0 _ _ _ (show DataW.trod enc P w 0 spare held n f0.type [v0] = some y0 by simpa [o0, k0] using hf 0 f0 rfl)
  obtain ⟨b, ⟨_, _, b1, b2, b3⟩, b4⟩ := h1 _ _ _ (show DataW.trod enc P w 0 spare held n f1.type [v1] = some y1 by simpa [o1, k1] using hf 1 f1 rfl)
  obtain ⟨c, ⟨_, _, c1, c2, c3⟩, c4⟩ := h2 _ _ _ (show DataW.trod enc P w 0 spare held n f2.type [v2] = some y2 by simpa [o2, k2] using hf 2 f2 rfl)
  obtain ⟨d, ⟨_, _, d1, d2, d3⟩, d4⟩ := h3 _ _ _ (show DataW.trod enc P w 0 spare held n f3.type [v3] = some y3 by simpa [o3, k3] using hf 3 f3 rfl)
  obtain ⟨e, ⟨_, _, e1, e2, e3⟩, e4⟩ := h4 _ _ _ (show DataW.trod enc P w 0 spare held n f4.type [v4] = some y4 by simpa [o4, k4] using hf 4 f4 rfl)
  cases a1; cases b1; cases c1; cases d1; cases e1
  exact ⟨⟨a, b, c, d, e⟩, ⟨_, _, rfl, a2, _, _, rfl, b2, _, _, rfl, c2, _, _, rfl, d2, _, _, rfl, e2, rfl⟩, ⟨a4, b4, c4, d4, e4⟩⟩
theorem opn_sm {T TB TG : TypeId} {f0 f1 f2 f3 : Field} (hs : P.underlying T = some (.struct #[f0, f1, f2, f3])) (hC : P.cellsOf T = 12)
 (o0 : f0.offset = 0 ∧ P.cellsOf f0.type = 1) (o1 : f1.offset = 1 ∧ P.cellsOf f1.type = 6) (o2 : f2.offset = 7 ∧ P.cellsOf f2.type = 4) (o3 : f3.offset = 11 ∧ P.cellsOf f3.type = 1)
 (t0 : P.underlying f0.type = some (.int .i64)) (t1 : f1.type = TB) (t2 : f2.type = TG) (t3 : P.underlying f3.type = some (.slice T))
 (h1 : Rdg enc P w spare held TB encBr BrR.In0) (h2 : Rdg enc P w spare held TG encG Gl.In0) : Rdg enc P w spare held T encS Sm.In0 := by
 intro fuel
 induction fuel using Nat.strongRecOn with
 | ind fuel ih =>
  intro cs x h
  obtain ⟨ys, n, hn, hx, hl, hlen, hf⟩ := DataW.trod_struct hs h
  obtain ⟨o0, k0⟩ := o0
  obtain ⟨o1, k1⟩ := o1
  obtain ⟨o2, k2⟩ := o2
  obtain ⟨o3, k3⟩ := o3
  rw [hC] at hl
  match cs, hl, ys, hlen with
  | [v0, b0, b1, b2, b3, b4, b5, g0, g1, g2, g3, v3], _, [y0, y1, y2, y3], _ =>
   have e0 : DataW.trod enc P w 0 spare held n f0.type [v0] = some y0 := by simpa [o0, k0] using hf 0 f0 rfl
   have e1 : DataW.trod enc P w 0 spare held n f1.type [b0, b1, b2, b3, b4, b5] = some y1 := by simpa [o1, k1] using hf 1 f1 rfl
   have e2 : DataW.trod enc P w 0 spare held n f2.type [g0, g1, g2, g3] = some y2 := by simpa [o2, k2] using hf 2 f2 rfl
   have e3 : DataW.trod enc P w 0 spare held n f3.type [v3] = some y3 := by simpa [o3, k3] using hf 3 f3 rfl
   obtain ⟨k, c0, _, w0⟩ := DataW.trod_int t0 e0
   cases c0
   rw [t1] at e1
   rw [t2] at e2
   obtain ⟨b, hb1, hb2⟩ := h1 _ _ _ e1
   obtain ⟨g, hg1, hg2⟩ := h2 _ _ _ e2
   obtain ⟨l, v, c3, hr, hll, hok⟩ := open_slice encS Sm.In0 (by omega) t3 hC (fun n' hn' cs x h => ih n' (by omega) cs x h) e3
   cases c3
   refine ⟨.mk k b g l, ⟨_, _, rfl, ⟨rfl, rfl⟩, rdC_append (vs := [b0, b1, b2, b3, b4, b5]) hb1 (rdC_append (vs := [g0, g1, g2, g3]) hg1 ⟨_, _, rfl, ?_, rfl⟩)⟩, Sm.in0_iff.2 ⟨i64_wf w0, hb2, hg2, hll, hok⟩⟩
   rw [kidE_eq, rowsS_eq]
   exact hr
end
section
variable {H : Type} {enc : TypeId × Value → H} {w : World}
abbrev OpA (enc : TypeId × Value → H) (w : World) (T : TypeId) {α : Type} (e : α → List D) (ok : α → Prop) : Prop := Rdg enc Tryz.prog w (fun _ => true) true T e ok
theorem opn_term : OpA enc w 168 encT Tm.In0 := fun n cs x h => open_tm Tryz.underlying168 (by kernel_rfl) (by kernel_rfl) Tryz.underlying3 Tryz.underlying3 Tryz.underlying9 Tryz.underlying34 n cs x h
theorem opn_goal : OpA enc w 37 encG Gl.In0 := fun n cs x h => open_gl Tryz.underlying37 (by kernel_rfl) (by kernel_rfl) (by kernel_rfl) Tryz.underlying3 Tryz.underlying9 Tryz.underlying34 Tryz.underlying35 (fun n cs x h => opn_term n cs x h) n cs x h
theorem opn_int' : OpA enc w 3 encI I64 := opn_int Tryz.underlying3 (by kernel_rfl)
theorem opn_bd : OpA enc w 252 encB bdIn0 := (opn_2 1 4 Tryz.underlying252 (by kernel_rfl) ⟨rfl, by kernel_rfl⟩ ⟨rfl, by kernel_rfl⟩ opn_int' opn_term).mono id (fun _ => rfl) fun _ h => h
theorem opn_bds : OpA enc w 25 (encL 5 encB) bdsIn0 := opn_sl 5 (by omega) Tryz.underlying25 (by kernel_rfl) opn_bd
theorem opn_state : OpA enc w 30 encSt StR.In0 := opn_st Tryz.underlying30 (by kernel_rfl) (by kernel_rfl) opn_int' opn_bds
 (opn_sl 1 (by omega) Tryz.underlying26 (by kernel_rfl) opn_bds)
 (opn_sl 2 (by omega) Tryz.underlying27 (by kernel_rfl) ((opn_2 1 1 Tryz.underlying262 (by kernel_rfl) ⟨rfl, by kernel_rfl⟩ ⟨rfl, by kernel_rfl⟩ opn_int' opn_int').mono (fun p => (p : VkR)) (fun _ => rfl) fun _ h => h))
 (opn_sl 2 (by omega) Tryz.underlying28 (by kernel_rfl) ((opn_2 1 1 Tryz.underlying254 (by kernel_rfl) ⟨rfl, by kernel_rfl⟩ ⟨rfl, by kernel_rfl⟩ opn_int' (opn_str Tryz.underlying9)).mono (fun p => (p : MkR)) (fun _ => rfl) fun _ h => h))
theorem opn_branch : OpA enc w 33 encBr BrR.In0 := (opn_2 5 1 Tryz.underlying33 (by kernel_rfl) ⟨rfl, by kernel_rfl⟩ ⟨rfl, by kernel_rfl⟩ opn_state (opn_sl 1 (by omega) Tryz.underlying31 (by kernel_rfl) opn_int')).mono (fun p => ⟨p.1, p.2⟩) (fun _ => rfl) fun _ h => ⟨h.1, h.2⟩
theorem opn_stream : OpA enc w 40 encS Sm.In0 := opn_sm Tryz.underlying40 (by kernel_rfl) ⟨rfl, by kernel_rfl⟩ ⟨rfl, by kernel_rfl⟩ ⟨rfl, by kernel_rfl⟩ ⟨rfl, by kernel_rfl⟩ Tryz.underlying3 rfl rfl Tryz.underlying38 opn_branch opn_goal
theorem opn_agg {T : TypeId} {fs : Array Field} {α : Type} {e : α → List D} {ok : α → Prop} (hs : Tryz.prog.underlying T = some (.struct fs)) (h : OpA enc w T e ok) {r : Reach} {b0 : Nat} {v : Value} {d : DataW H} {p : List MemPlace} (hv : Value.okWide Tryz.prog w r b0 T v)
 (ht : DataW.Trod enc Tryz.prog w 0 (fun _ => true) true T v d p) : ∃ a, (AV.agg (e a)).rd NoM w v ∧ ok a := by
 obtain ⟨cs, rfl, hsz⟩ := Go.WideShapes.okWide_struct hs hv
 obtain ⟨fuel, hf⟩ := ht
 obtain ⟨q, hq, hin⟩ := h _ _ _ hf
 exact ⟨q, ⟨cs.toList, by simp, by simpa [Value.cells] using hq⟩, hin⟩
end
end
end
end Go.Proofs.YtejkllmoofdpjaaGreat
