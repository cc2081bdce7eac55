/- What the program's evaluator holds in hand: definitions and steps without the walk. -/
import Derived.Test.YtjkabbkaeioibaaLisp2
import Derived.Test.YtjkabbkaeioibaaOpen
import Derived.Deep.DeepCutAuto
namespace Go.Proofs.Ytjkabbkaeioibaa
open Go.RowKit

/-- the evaluator's two numbers -/
def LispAt (w : World) (B steps left : Nat) : Prop := w.heap[B]? = some (.cells #[.int .i64 (steps : Int), .int .i64 ((steps : Int) - (left : Int))] 91 (0, 0))
/-- a value and a code handed back; the evaluator's block is the only old one that is written -/
def EvOut (w : World) (B steps : Nat) (F1 F2 : List Nat) (r : Res) (e : Ending) (w' : World) : Prop :=
  ∃ k n s xs a l c F, r.1 = .mk k n s xs ∧ e = .returned (.tuple #[.agg #[.int .i64 k, .int .i64 n, .string s, .slice a l c], .int .i64 (r.2.1 : Int)]) ∧ RdS w' xs a l c F ∧ (∀ x ∈ F, x ∈ F1 ∨ x ∈ F2 ∨ w.heap.size ≤ x) ∧
    w.grownBy w' (some B) ∧ LispAt w' B steps r.2.2
def EvalT (fuel : Nat) : Prop := ∀ (left steps B : Nat) (k1 n1 : Int) (s1 : ByteArray) (xs1 : List Tm) (a1 : Option Addr) (l1 c1 : Nat) (F1 : List Nat) (k2 n2 : Int) (s2 : ByteArray) (xs2 : List Tm) (a2 : Option Addr) (l2 c2 : Nat) (F2 : List Nat) (w : World),
  left ≤ fuel → left ≤ steps → steps ≤ 1000 → LispAt w B steps left → RdS w xs1 a1 l1 c1 F1 → RdS w xs2 a2 l2 c2 F2 → B ∉ F1 → B ∉ F2 → (Tm.mk k1 n1 s1 xs1).ok = true → (Tm.mk k2 n2 s2 xs2).ok = true →
  Calls Try.prog 86 #[.pointer (some ⟨B, 0, none⟩), .agg #[.int .i64 k1, .int .i64 n1, .string s1, .slice a1 l1 c1], .agg #[.int .i64 k2, .int .i64 n2, .string s2, .slice a2 l2 c2]] w
    (EvOut w B steps F1 F2 (ev fuel left (.mk k1 n1 s1 xs1) (.mk k2 n2 s2 xs2)))

theorem grown_refl (w : World) (r : Option Nat) : w.grownBy w r := ⟨rfl, rfl, rfl, Nat.le_refl _, fun _ _ _ => rfl⟩
theorem grown_trans {a b c : World} {r : Option Nat} (h : a.grownBy b r) (k : b.grownBy c r) : a.grownBy c r :=
  ⟨k.os.trans h.os, k.tape.trans h.tape, k.output.trans h.output, Nat.le_trans h.size k.size, fun x hx hr => (k.block x (Nat.lt_of_lt_of_le hx h.size) hr).trans (h.block x hx hr)⟩
theorem grown_below {w w' : World} (h : Below w.heap.size w w') (r : Option Nat) : w.grownBy w' r := ⟨h.os, h.tape, h.output, h.size, fun x hx _ => h.block x hx⟩
theorem RdS_grown {w w' : World} {B : Nat} {ts : List Tm} {a : Option Addr} {l c : Nat} {F : List Nat} (h : RdS w ts a l c F) (hg : w.grownBy w' (some B)) (hF : ∀ x ∈ F, x ≠ B) : RdS w' ts a l c F :=
  RdS_same (fun x hx => hg.block x (RdS_lt h x hx) (by have := hF x hx; simp; exact this)) h

/-- the frame: the environment's box, the result's box, the evaluator's numbers -/
structure Fr (w V : World) (B steps left : Nat) (k2 n2 : Int) (s2 : ByteArray) (a2 : Option Addr) (l2 c2 : Nat) : Prop where
  b5 : V.heap[w.heap.size + 1]? = some (.cells #[.int .i64 k2, .int .i64 n2, .string s2, .slice a2 l2 c2] 26 (0, 0))
  b6 : V.heap[w.heap.size + 1 + 1]? = some (.cells #[.int .i64 0, .int .i64 0, .string ⟨#[]⟩, .slice none 0 0] 26 (0, 0))
  lsp : LispAt V B steps left
  ext : w.grownBy V (some B)
  sz : w.heap.size + 3 ≤ V.heap.size
section
variable {w V V' : World} {B steps left left' : Nat} {k2 n2 : Int} {s2 : ByteArray} {a2 : Option Addr} {l2 c2 : Nat}
theorem Fr.grown (h : Fr w V B steps left k2 n2 s2 a2 l2 c2) (hB : B < w.heap.size) (hg : V.grownBy V' (some B)) (hl : LispAt V' B steps left') : Fr w V' B steps left' k2 n2 s2 a2 l2 c2 :=
  ⟨(hg.block _ (by have := h.sz; omega) (by simp; omega)).trans h.b5, (hg.block _ (by have := h.sz; omega) (by simp; omega)).trans h.b6, hl, grown_trans h.ext hg, Nat.le_trans h.sz hg.size⟩
theorem Fr.below (h : Fr w V B steps left k2 n2 s2 a2 l2 c2) (hB : B < w.heap.size) (hb : Below V.heap.size V V') : Fr w V' B steps left k2 n2 s2 a2 l2 c2 :=
  h.grown hB (grown_below hb _) ((hb.block _ (by have := h.sz; omega)).trans h.lsp)
theorem Fr.env (h : Fr w V B steps left k2 n2 s2 a2 l2 c2) : V.cell? ⟨w.heap.size + 1, 0, none⟩ = some (.int .i64 k2) ∧ V.cell? ⟨w.heap.size + 1, 1, none⟩ = some (.int .i64 n2) ∧ V.cell? ⟨w.heap.size + 1, 2, none⟩ = some (.string s2) ∧ V.cell? ⟨w.heap.size + 1, 3, none⟩ = some (.slice a2 l2 c2) ∧ w.heap.size + 1 < V.heap.size := by
  obtain ⟨p0, p1, p2, p3, _⟩ := box4 h.b5
  exact ⟨p0, p1, p2, p3, heap_lt h.b5⟩
theorem Fr.res (h : Fr w V B steps left k2 n2 s2 a2 l2 c2) : V.cell? ⟨w.heap.size + 1 + 1, 0, none⟩ = some (.int .i64 0) ∧ V.cell? ⟨w.heap.size + 1 + 1, 1, none⟩ = some (.int .i64 0) ∧ V.cell? ⟨w.heap.size + 1 + 1, 2, none⟩ = some (.string ⟨#[]⟩) ∧ V.cell? ⟨w.heap.size + 1 + 1, 3, none⟩ = some (.slice none 0 0) ∧
    (∀ o, V.frozen? ⟨w.heap.size + 1 + 1, o, none⟩ = false) ∧ w.heap.size + 1 + 1 < V.heap.size := by
  obtain ⟨p0, p1, p2, p3, pf⟩ := box4 h.b6
  exact ⟨p0, p1, p2, p3, pf, heap_lt h.b6⟩
end
/-- the blocks that a value of this call may lie in -/
def Gd (w : World) (F1 F2 F : List Nat) : Prop := ∀ x ∈ F, x ∈ F1 ∨ x ∈ F2 ∨ w.heap.size + 3 ≤ x
theorem Gd.ne {w : World} {B : Nat} {F1 F2 F : List Nat} (h : Gd w F1 F2 F) (h1 : B ∉ F1) (h2 : B ∉ F2) (hB : B < w.heap.size) : B ∉ F := by
  intro hm
  rcases h B hm with h' | h' | h'
  · exact h1 h'
  · exact h2 h'
  · omega
theorem Gd.ne6 {w : World} {F1 F2 F : List Nat} (h : Gd w F1 F2 F) (h1 : ∀ x ∈ F1, x < w.heap.size) (h2 : ∀ x ∈ F2, x < w.heap.size) : ∀ x ∈ F, x ≠ w.heap.size + 1 + 1 := by
  intro x hx hh
  rcases h x hx with h' | h' | h'
  · have := h1 x h'; omega
  · have := h2 x h'; omega
  · omega
theorem Gd.sub {w : World} {F1 F2 F F' : List Nat} (h : Gd w F1 F2 F) (hs : ∀ x ∈ F', x ∈ F) : Gd w F1 F2 F' := fun x hx => h x (hs x hx)
theorem Gd.new {w V : World} {F1 F2 F G : List Nat} (h : Gd w F1 F2 G) (hV : w.heap.size + 3 ≤ V.heap.size) (hs : ∀ x ∈ F, x ∈ G ∨ V.heap.size ≤ x) : Gd w F1 F2 F := fun x hx => by
  rcases hs x hx with h' | h'
  · exact h x h'
  · exact .inr (.inr (by omega))

/-- the value stored into the result's box -/
theorem EvOut_set {w V : World} {B steps left : Nat} {k2 n2 : Int} {s2 : ByteArray} {a2 : Option Addr} {l2 c2 : Nat} {F1 F2 : List Nat} {r : Res} {k n : Int} {s : ByteArray} {xs : List Tm} {a : Option Addr} {l c : Nat} {F : List Nat} {cd : Int}
    (hf : Fr w V B steps left k2 n2 s2 a2 l2 c2) (hB : B < w.heap.size) (h1 : ∀ x ∈ F1, x < w.heap.size) (h2 : ∀ x ∈ F2, x < w.heap.size) (hr1 : r.1 = .mk k n s xs) (hr2 : cd = (r.2.1 : Int)) (hr3 : r.2.2 = left) (hrd : RdS V xs a l c F) (hG : Gd w F1 F2 F) :
    EvOut w B steps F1 F2 r (.returned (.tuple #[.agg #[.int .i64 k, .int .i64 n, .string s, .slice a l c], .int .i64 cd])) ((((V.setCell ⟨w.heap.size + 1 + 1, 0, none⟩ (.int .i64 k)).setCell ⟨w.heap.size + 1 + 1, 1, none⟩ (.int .i64 n)).setCell ⟨w.heap.size + 1 + 1, 2, none⟩ (.string s)).setCell ⟨w.heap.size + 1 + 1, 3, none⟩ (.slice a l c)) := by
  have h6 := hG.ne6 h1 h2
  have hsz := hf.sz
  refine ⟨k, n, s, xs, a, l, c, F, hr1, by rw [hr2], RdS_same (fun x hx => heap_set4_other (h6 x hx)) hrd, fun x hx => ?_, ?_, ?_⟩
  · rcases hG x hx with h' | h' | h'
    · exact .inl h'
    · exact .inr (.inl h')
    · exact .inr (.inr (by omega))
  · have hb : Below w.heap.size V ((((V.setCell ⟨w.heap.size + 1 + 1, 0, none⟩ (.int .i64 k)).setCell ⟨w.heap.size + 1 + 1, 1, none⟩ (.int .i64 n)).setCell ⟨w.heap.size + 1 + 1, 2, none⟩ (.string s)).setCell ⟨w.heap.size + 1 + 1, 3, none⟩ (.slice a l c)) := below_set4 (by omega)
    exact ⟨hb.os.trans hf.ext.os, hb.tape.trans hf.ext.tape, hb.output.trans hf.ext.output, Nat.le_trans hf.ext.size hb.size, fun x hx hr => (hb.block x hx).trans (hf.ext.block x hx hr)⟩
  · rw [hr3]
    exact (heap_set4_other (by omega)).trans hf.lsp
theorem EvOut_later {w V V' : World} {B steps : Nat} {F1 F2 : List Nat} {r : Res} {e : Ending} (h : EvOut w B steps F1 F2 r e V) (hb : Below V.heap.size V V') (hB : B < V.heap.size) : EvOut w B steps F1 F2 r e V' := by
  obtain ⟨k, n, s, xs, a, l, c, F, h1, h2, h3, h4, h5, h6⟩ := h
  exact ⟨k, n, s, xs, a, l, c, F, h1, h2, RdS_ext h3 hb, h4, grown_trans h5 (grown_below hb _), (hb.block _ hB).trans h6⟩
/-- nothing, and a code -/
theorem EvOut_nil {w V : World} {B steps left : Nat} {k2 n2 : Int} {s2 : ByteArray} {a2 : Option Addr} {l2 c2 : Nat} {F1 F2 : List Nat} {r : Res} {cd : Int}
    (hf : Fr w V B steps left k2 n2 s2 a2 l2 c2) (hB : B < w.heap.size) (h1 : ∀ x ∈ F1, x < w.heap.size) (h2 : ∀ x ∈ F2, x < w.heap.size) (hr1 : r.1 = Tm.nil) (hr2 : cd = (r.2.1 : Int)) (hr3 : r.2.2 = left) :
    EvOut w B steps F1 F2 r (.returned (.tuple #[.agg #[.int .i64 0, .int .i64 0, .string ⟨#[]⟩, .slice none 0 0], .int .i64 cd])) ((((V.setCell ⟨w.heap.size + 1 + 1, 0, none⟩ (.int .i64 0)).setCell ⟨w.heap.size + 1 + 1, 1, none⟩ (.int .i64 0)).setCell ⟨w.heap.size + 1 + 1, 2, none⟩ (.string ⟨#[]⟩)).setCell ⟨w.heap.size + 1 + 1, 3, none⟩ (.slice none 0 0)) :=
  EvOut_set hf hB h1 h2 hr1 hr2 hr3 (RdS_nil _ _ _) (by intro x hx; cases hx)

/-- one element of a slice whose address is known -/
theorem RdS_el {w : World} {ts : List Tm} {b o l c : Nat} {F : List Nat} (h : RdS w ts (some ⟨b, o, none⟩) l c F) {i : Nat} {k n : Int} {s : ByteArray} {xs : List Tm} (hi : ts[i]? = some (.mk k n s xs)) :
    ∃ a' l' c' F', (w.cell? ⟨b, o + 4 * i, none⟩ = some (.int .i64 k) ∧ w.cell? ⟨b, o + 4 * i + 1, none⟩ = some (.int .i64 n) ∧ w.cell? ⟨b, o + 4 * i + 2, none⟩ = some (.string s) ∧ w.cell? ⟨b, o + 4 * i + 3, none⟩ = some (.slice a' l' c')) ∧ RdS w xs a' l' c' F' ∧ (∀ x ∈ F', x ∈ F) ∧ b < w.heap.size := by
  obtain ⟨b', o', Fs, ha, hl, hlF, hel, hlast⟩ := RdS_each h
  have hilt := (List.getElem?_eq_some_iff.1 hi).1
  have := ha (by omega)
  obtain ⟨rfl, rfl⟩ : b = b' ∧ o = o' := by simpa using this
  have hr := hel i _ hi
  rw [Rd_mk] at hr
  obtain ⟨h0, h1, h2, a', l', c', h3, h4⟩ := hr
  refine ⟨a', l', c', _, ⟨h0, h1, h2, h3⟩, h4, fun x hx => ?_, cell_lt h0⟩
  rcases hlast with h' | h'
  · subst h'; simp at hi
  · rw [h']; exact List.mem_cons_of_mem _ (mem_getD_flatten hx)
theorem RdS_addr {w : World} {ts : List Tm} {a : Option Addr} {l c : Nat} {F : List Nat} (h : RdS w ts a l c F) (hne : ts ≠ []) : ∃ b o, a = some ⟨b, o, none⟩ := by
  obtain ⟨b, o, _, ha, hl, _⟩ := RdS_each h
  exact ⟨b, o, ha (by have := List.length_pos_iff.2 hne; omega)⟩

section
variable {w : World} {ts : List Tm} {b o l c : Nat} {F : List Nat} {k n : Int} {s : ByteArray} {xs : List Tm}
theorem RdS_el0 (h : RdS w ts (some ⟨b, o, none⟩) l c F) (hi : ts[0]? = some (.mk k n s xs)) : ∃ a' l' c' F', (w.cell? ⟨b, o, none⟩ = some (.int .i64 k) ∧ w.cell? ⟨b, o + 1, none⟩ = some (.int .i64 n) ∧ w.cell? ⟨b, o + 2, none⟩ = some (.string s) ∧ w.cell? ⟨b, o + 3, none⟩ = some (.slice a' l' c')) ∧ RdS w xs a' l' c' F' ∧ (∀ x ∈ F', x ∈ F) ∧ b < w.heap.size := RdS_el h hi
theorem RdS_el1 (h : RdS w ts (some ⟨b, o, none⟩) l c F) (hi : ts[1]? = some (.mk k n s xs)) : ∃ a' l' c' F', (w.cell? ⟨b, o + 4, none⟩ = some (.int .i64 k) ∧ w.cell? ⟨b, o + 4 + 1, none⟩ = some (.int .i64 n) ∧ w.cell? ⟨b, o + 4 + 2, none⟩ = some (.string s) ∧ w.cell? ⟨b, o + 4 + 3, none⟩ = some (.slice a' l' c')) ∧ RdS w xs a' l' c' F' ∧ (∀ x ∈ F', x ∈ F) ∧ b < w.heap.size := RdS_el h hi
theorem RdS_el2 (h : RdS w ts (some ⟨b, o, none⟩) l c F) (hi : ts[2]? = some (.mk k n s xs)) : ∃ a' l' c' F', (w.cell? ⟨b, o + 8, none⟩ = some (.int .i64 k) ∧ w.cell? ⟨b, o + 8 + 1, none⟩ = some (.int .i64 n) ∧ w.cell? ⟨b, o + 8 + 2, none⟩ = some (.string s) ∧ w.cell? ⟨b, o + 8 + 3, none⟩ = some (.slice a' l' c')) ∧ RdS w xs a' l' c' F' ∧ (∀ x ∈ F', x ∈ F) ∧ b < w.heap.size := RdS_el h hi
theorem RdS_el3 (h : RdS w ts (some ⟨b, o, none⟩) l c F) (hi : ts[3]? = some (.mk k n s xs)) : ∃ a' l' c' F', (w.cell? ⟨b, o + 12, none⟩ = some (.int .i64 k) ∧ w.cell? ⟨b, o + 12 + 1, none⟩ = some (.int .i64 n) ∧ w.cell? ⟨b, o + 12 + 2, none⟩ = some (.string s) ∧ w.cell? ⟨b, o + 12 + 3, none⟩ = some (.slice a' l' c')) ∧ RdS w xs a' l' c' F' ∧ (∀ x ∈ F', x ∈ F) ∧ b < w.heap.size := RdS_el h hi
end
/-- eight cells: an element of a row and a box -/
abbrev El8 (b o B5 : Nat) (x0 x1 x2 x3 y0 y1 y2 y3 : Value) (w : World) : Prop := w.cell? ⟨b, o, none⟩ = some x0 ∧ w.cell? ⟨b, o + 1, none⟩ = some x1 ∧ w.cell? ⟨b, o + 2, none⟩ = some x2 ∧ w.cell? ⟨b, o + 3, none⟩ = some x3 ∧
  w.cell? ⟨B5, 0, none⟩ = some y0 ∧ w.cell? ⟨B5, 1, none⟩ = some y1 ∧ w.cell? ⟨B5, 2, none⟩ = some y2 ∧ w.cell? ⟨B5, 3, none⟩ = some y3
theorem El8.same {W w' : World} {b o B5 : Nat} {x0 x1 x2 x3 y0 y1 y2 y3 : Value} (hb : w'.heap[b]? = W.heap[b]?) (h5 : w'.heap[B5]? = W.heap[B5]?) (h : El8 b o B5 x0 x1 x2 x3 y0 y1 y2 y3 W) : El8 b o B5 x0 x1 x2 x3 y0 y1 y2 y3 w' := by
  obtain ⟨h0, h1, h2, h3, h4, h5', h6, h7⟩ := h
  have c (m : Nat) : w'.cell? ⟨b, m, none⟩ = W.cell? ⟨b, m, none⟩ := World.cell?_of_block hb
  have d (m : Nat) : w'.cell? ⟨B5, m, none⟩ = W.cell? ⟨B5, m, none⟩ := World.cell?_of_block h5
  exact ⟨(c _).trans h0, (c _).trans h1, (c _).trans h2, (c _).trans h3, (d _).trans h4, (d _).trans h5', (d _).trans h6, (d _).trans h7⟩

/-- a result of a call of the evaluator, in a box of its own -/
def EvRes (V : World) (B steps : Nat) (w : World) (F1 F2 : List Nat) (r : Res) (v : Value) (wx : World) : Prop :=
  ∃ Bv k n s xs a l c F, v = .pointer (some ⟨Bv, 0, none⟩) ∧ r.1 = .mk k n s xs ∧ Bx 26 wx Bv k n s a l c xs F ∧ Gd w F1 F2 F ∧ V.grownBy wx (some B) ∧ LispAt wx B steps r.2.2 ∧ V.heap.size ≤ Bv
theorem EvRes_new {V w5 w : World} {B steps : Nat} {F1 F2 : List Nat} {r : Res} {k n : Int} {s : ByteArray} {xs : List Tm} {a : Option Addr} {l c : Nat} {F : List Nat} (hr : r.1 = .mk k n s xs) (hrd : RdS w5 xs a l c F) (hG : Gd w F1 F2 F) (hg : V.grownBy w5 (some B)) (hl : LispAt w5 B steps r.2.2) :
    EvRes V B steps w F1 F2 r (.pointer (some ⟨w5.heap.size, 0, none⟩)) (w5.alloc (.cells #[.int .i64 k, .int .i64 n, .string s, .slice a l c] 26)) :=
  ⟨_, k, n, s, xs, a, l, c, F, rfl, hr, Bx.new _ hrd, hG, grown_trans hg (grown_below ((Below.refl _ _).alloc (Nat.le_refl _) _) _), (heap_old (heap_lt hl)).trans hl, hg.size⟩
theorem EvRes_set {V w5 w : World} {B Bv steps : Nat} {F1 F2 : List Nat} {r : Res} {k n : Int} {s : ByteArray} {xs : List Tm} {a : Option Addr} {l c : Nat} {F : List Nat} {y0 y1 y2 y3 : Value} (hr : r.1 = .mk k n s xs) (hrd : RdS w5 xs a l c F) (hG : Gd w F1 F2 F) (hg : V.grownBy w5 (some B)) (hl : LispAt w5 B steps r.2.2)
    (hBv : V.heap.size ≤ Bv) (hz : w5.heap[Bv]? = some (.cells #[y0, y1, y2, y3] 26 (0, 0))) (hF : ∀ x ∈ F, x ≠ Bv) (hBB : B ≠ Bv) :
    EvRes V B steps w F1 F2 r (.pointer (some ⟨Bv, 0, none⟩)) ((((w5.setCell ⟨Bv, 0, none⟩ (.int .i64 k)).setCell ⟨Bv, 1, none⟩ (.int .i64 n)).setCell ⟨Bv, 2, none⟩ (.string s)).setCell ⟨Bv, 3, none⟩ (.slice a l c)) := by
  have hb : Below V.heap.size w5 ((((w5.setCell ⟨Bv, 0, none⟩ (.int .i64 k)).setCell ⟨Bv, 1, none⟩ (.int .i64 n)).setCell ⟨Bv, 2, none⟩ (.string s)).setCell ⟨Bv, 3, none⟩ (.slice a l c)) := below_set4 hBv
  exact ⟨Bv, k, n, s, xs, a, l, c, F, rfl, hr, ⟨heap_set4 hz, RdS_same (fun x hx => heap_set4_other (hF x hx)) hrd⟩, hG, ⟨hb.os.trans hg.os, hb.tape.trans hg.tape, hb.output.trans hg.output, Nat.le_trans hg.size hb.size, fun x hx hr => (hb.block x hx).trans (hg.block x hx hr)⟩, (heap_set4_other hBB).trans hl, hBv⟩
theorem lisp_below {V X : World} {B steps left : Nat} (hb : Below V.heap.size V X) (hB : B < V.heap.size) (h : LispAt V B steps left) : LispAt X B steps left := (hb.block _ hB).trans h
theorem Bx.grown {T : Nat} {w w' : World} {Bb B : Nat} {k n : Int} {s : ByteArray} {a : Option Addr} {l c : Nat} {xs : List Tm} {F : List Nat} (h : Bx T w Bb k n s a l c xs F) (hg : w.grownBy w' (some B)) (hB : Bb ≠ B) (hF : B ∉ F) : Bx T w' Bb k n s a l c xs F :=
  ⟨(hg.block _ (heap_lt h.box) (by simpa using hB)).trans h.box, RdS_grown h.rd hg (fun _ hx hh => hF (hh ▸ hx))⟩
theorem keepV_left (t : Tm) (left : Nat) : keepV t left = ((keepV t 0).1, (keepV t 0).2.1, left) := by
  unfold keepV; split <;> rfl
theorem keepV_code (t : Tm) : (keepV t 0).2.1 = 0 ∧ t.ok = true ∧ (keepV t 0).1 = t ∨ (keepV t 0).2.1 = 1 ∧ t.ok = false ∧ (keepV t 0).1 = Tm.nil := by
  unfold keepV; split
  · rename_i h; exact .inl ⟨rfl, h, rfl⟩
  · rename_i h; exact .inr ⟨rfl, by simpa using h, rfl⟩
theorem lens_pairOk {a b : Tm} (ha : a.ok = true) (hb : b.ok = true) : (Tm.pair a b).Lens := .mk _ _ _ _ (by simp) (by simp) (fun x hx => by
  simp at hx
  rcases hx with rfl | rfl
  · exact wf_lens (ok_wf ha).1
  · exact wf_lens (ok_wf hb).1)
/-- four terms in a new row -/
theorem row4_rd {w : World} {g T : Nat} {fz : Nat × Nat} {e0 e1 e2 e3 : TV} {x0 x1 x2 x3 : List Tm} {F0 F1 F2 F3 : List Nat} (hg : w.heap[g]? = some (.cells ((TV.cells e0 ++ TV.cells e1 ++ TV.cells e2 ++ TV.cells e3).toArray) T fz))
    (h0 : RdS w x0 e0.a e0.l e0.c F0) (h1 : RdS w x1 e1.a e1.l e1.c F1) (h2 : RdS w x2 e2.a e2.l e2.c F2) (h3 : RdS w x3 e3.a e3.l e3.c F3) :
    ∀ i t, [Tm.mk e0.k e0.n e0.s x0, .mk e1.k e1.n e1.s x1, .mk e2.k e2.n e2.s x2, .mk e3.k e3.n e3.s x3][i]? = some t → Rd w t g (0 + 4 * i) ([F0, F1, F2, F3].getD i []) := by
  refine Rd_of_cells (es := [e0, e1, e2, e3]) 0 ⟨⟨x0, rfl, h0⟩, ⟨x1, rfl, h1⟩, ⟨x2, rfl, h2⟩, ⟨x3, rfl, h3⟩, trivial⟩ (fun j u hj => ?_)
  rw [cell_of_block hg]
  simpa [List.append_assoc] using hj
abbrev El12 (b o b' o' B5 : Nat) (x0 x1 x2 x3 z0 z1 z2 z3 y0 y1 y2 y3 : Value) (w : World) : Prop := w.cell? ⟨b, o, none⟩ = some x0 ∧ w.cell? ⟨b, o + 1, none⟩ = some x1 ∧ w.cell? ⟨b, o + 2, none⟩ = some x2 ∧ w.cell? ⟨b, o + 3, none⟩ = some x3 ∧
  w.cell? ⟨b', o', none⟩ = some z0 ∧ w.cell? ⟨b', o' + 1, none⟩ = some z1 ∧ w.cell? ⟨b', o' + 2, none⟩ = some z2 ∧ w.cell? ⟨b', o' + 3, none⟩ = some z3 ∧
  w.cell? ⟨B5, 0, none⟩ = some y0 ∧ w.cell? ⟨B5, 1, none⟩ = some y1 ∧ w.cell? ⟨B5, 2, none⟩ = some y2 ∧ w.cell? ⟨B5, 3, none⟩ = some y3
theorem El12.same {W w' : World} {b o b' o' B5 : Nat} {x0 x1 x2 x3 z0 z1 z2 z3 y0 y1 y2 y3 : Value} (hb : w'.heap[b]? = W.heap[b]?) (hb' : w'.heap[b']? = W.heap[b']?) (h5 : w'.heap[B5]? = W.heap[B5]?) (h : El12 b o b' o' B5 x0 x1 x2 x3 z0 z1 z2 z3 y0 y1 y2 y3 W) : El12 b o b' o' B5 x0 x1 x2 x3 z0 z1 z2 z3 y0 y1 y2 y3 w' := by
  obtain ⟨h0, h1, h2, h3, k0, k1, k2, k3, h4, h5', h6, h7⟩ := h
  have c (m : Nat) : w'.cell? ⟨b, m, none⟩ = W.cell? ⟨b, m, none⟩ := World.cell?_of_block hb
  have c' (m : Nat) : w'.cell? ⟨b', m, none⟩ = W.cell? ⟨b', m, none⟩ := World.cell?_of_block hb'
  have d (m : Nat) : w'.cell? ⟨B5, m, none⟩ = W.cell? ⟨B5, m, none⟩ := World.cell?_of_block h5
  exact ⟨(c _).trans h0, (c _).trans h1, (c _).trans h2, (c _).trans h3, (c' _).trans k0, (c' _).trans k1, (c' _).trans k2, (c' _).trans k3, (d _).trans h4, (d _).trans h5', (d _).trans h6, (d _).trans h7⟩
theorem clo_wf {x body env : Tm} (hx : x.wf = true) (hb : body.wf = true) (he : env.wf = true) : (cloT x body env).wf = true := by
  refine wf_list ?_ (by simp [Tm.nil, Tm.wf, atomB])
  intro y hy
  simp at hy
  rcases hy with rfl | rfl | rfl | rfl
  · decide +kernel
  · exact hx
  · exact hb
  · exact he
theorem evLam_bad {left : Nat} {b c env : Tm} (h : b.tl.kind ≠ 0 ∨ b.its.length ≠ 1 ∨ ∃ z, b.its = [z] ∧ z.kind ≠ 2) : evLam left b c env = stuck left := by
  unfold evLam
  split
  · rename_i x hx
    rw [if_neg]
    rintro ⟨h1, h2⟩
    rcases h with h | h | ⟨z, hz, hk⟩
    · exact h h1
    · rw [hx] at h; simp at h
    · rw [hx] at hz; simp at hz; subst hz; exact hk h2
  · rfl
theorem evApp_bad {rec : Nat → Tm → Tm → Res} {r : Res} {b env : Tm} (h : r.1.tl.kind ≠ 0 ∨ r.1.its.length ≠ 4 ∨ ∃ p rest, r.1.its = p :: rest ∧ isSym p ⟨#[99, 108, 111, 115, 117, 114, 101]⟩ = false) : evApp rec r b env = if r.2.1 ≠ 0 then failV r else stuck r.2.2 := by
  unfold evApp
  split
  · rfl
  · split
    · rename_i p x body cenv hx
      rw [if_neg]
      rintro ⟨h1, h2⟩
      rcases h with h | h | ⟨z, rest, hz, hk⟩
      · exact h h1
      · rw [hx] at h; simp at h
      · rw [hx] at hz; simp at hz; rw [← hz.1] at hk; simp [hk] at h2
    · rfl
/-- a term in a box of its own, made without the evaluator -/
def ResG (V w : World) (F1 F2 : List Nat) (t : Tm) (v : Value) (wx : World) : Prop :=
  ∃ Bv k n s xs a l c F, v = .pointer (some ⟨Bv, 0, none⟩) ∧ t = .mk k n s xs ∧ Bx 26 wx Bv k n s a l c xs F ∧ Gd w F1 F2 F ∧ Below V.heap.size V wx ∧ V.heap.size ≤ Bv
theorem ResG_new {V w5 w : World} {F1 F2 : List Nat} {t : Tm} {k n : Int} {s : ByteArray} {xs : List Tm} {a : Option Addr} {l c : Nat} {F : List Nat} (hr : t = .mk k n s xs) (hrd : RdS w5 xs a l c F) (hG : Gd w F1 F2 F) (hb : Below V.heap.size V w5) :
    ResG V w F1 F2 t (.pointer (some ⟨w5.heap.size, 0, none⟩)) (w5.alloc (.cells #[.int .i64 k, .int .i64 n, .string s, .slice a l c] 26)) :=
  ⟨_, k, n, s, xs, a, l, c, F, rfl, hr, Bx.new _ hrd, hG, hb.alloc hb.size _, hb.size⟩
theorem ResG_set {V w5 w : World} {Bv : Nat} {F1 F2 : List Nat} {t : Tm} {k n : Int} {s : ByteArray} {xs : List Tm} {a : Option Addr} {l c : Nat} {F : List Nat} {y0 y1 y2 y3 : Value} (hr : t = .mk k n s xs) (hrd : RdS w5 xs a l c F) (hG : Gd w F1 F2 F) (hb : Below V.heap.size V w5)
    (hBv : V.heap.size ≤ Bv) (hz : w5.heap[Bv]? = some (.cells #[y0, y1, y2, y3] 26 (0, 0))) (hF : ∀ x ∈ F, x ≠ Bv) :
    ResG V w F1 F2 t (.pointer (some ⟨Bv, 0, none⟩)) ((((w5.setCell ⟨Bv, 0, none⟩ (.int .i64 k)).setCell ⟨Bv, 1, none⟩ (.int .i64 n)).setCell ⟨Bv, 2, none⟩ (.string s)).setCell ⟨Bv, 3, none⟩ (.slice a l c)) :=
  ⟨Bv, k, n, s, xs, a, l, c, F, rfl, hr, ⟨heap_set4 hz, RdS_same (fun x hx => heap_set4_other (hF x hx)) hrd⟩, hG, hb.trans (below_set4 hBv), hBv⟩
theorem evForm_other {rec : Nat → Tm → Tm → Res} {left : Nat} {l : List Tm} {env : Tm} (h2 : l.length ≠ 2) (h3 : l.length ≠ 3) (h4 : l.length ≠ 4) : evForm rec left l env = stuck left := by
  unfold evForm
  split
  · simp at h2
  · simp at h3
  · simp at h4
  · rfl
theorem evStep_list {rec : Nat → Tm → Tm → Res} {left : Nat} {e env : Tm} (hk : e.kind ≠ 2) (ht : e.tl.kind = 0) : evStep rec left e env = evForm rec left e.its env := by
  rw [evStep, if_neg hk, if_neg (by simp [ht])]
theorem isSym_name {k n : Int} {s b : ByteArray} {xs : List Tm} (h : isSym (.mk k n s xs) b = true) : k = 2 ∧ (s.toList == b.toList) = true := by
  simpa [isSym, Tm.kind, Tm.name] using h
theorem isSym_other {k n : Int} {s b b' : ByteArray} {xs : List Tm} (h : isSym (.mk k n s xs) b = true) (hne : (b.toList == b'.toList) = false) : isSym (.mk k n s xs) b' = false ∧ (s.toList == b'.toList) = false := by
  have h1 := (isSym_name h).2
  rw [beq_iff_eq] at h1
  have h2 : (s.toList == b'.toList) = false := by rw [h1]; exact hne
  exact ⟨by simp [isSym, Tm.name, h2], h2⟩
end Go.Proofs.Ytjkabbkaeioibaa
