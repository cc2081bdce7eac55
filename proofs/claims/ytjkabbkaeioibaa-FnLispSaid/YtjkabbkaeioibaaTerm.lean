/- Terms as plain data, and what it means that a term lies in memory. -/
import Derived.WalkKit
import Derived.WalkSpells
import Derived.WalkLawsBesides
import Derived.Lib.Hide
namespace Go.Proofs.Ytjkabbkaeioibaa
open Go.RowKit

/-- a term as plain data -/
inductive Tm where
  | mk (k n : Int) (s : ByteArray) (as : List Tm)

def Tm.kind : Tm → Int | .mk k _ _ _ => k
def Tm.num : Tm → Int | .mk _ n _ _ => n
def Tm.name : Tm → ByteArray | .mk _ _ s _ => s
def Tm.args : Tm → List Tm | .mk _ _ _ as => as

theorem Tm.ind {p : Tm → Prop} (h : ∀ k n s as, (∀ a ∈ as, p a) → p (.mk k n s as)) (t : Tm) : p t := by
  refine Tm.rec (motive_1 := p) (motive_2 := fun l => ∀ a ∈ l, p a) (fun k n s as ih => h k n s as ih) (by simp) ?_ t
  intro a l ha hl x hx
  cases hx with
  | head => exact ha
  | tail _ hx => exact hl x hx

mutual
/-- the term lies in the four cells of block b from o on; F: the blocks of its parts -/
def Rd (w : World) : Tm → Nat → Nat → List Nat → Prop
  | .mk k n s as, b, o, F => w.cell? ⟨b, o, none⟩ = some (.int .i64 k) ∧ w.cell? ⟨b, o + 1, none⟩ = some (.int .i64 n) ∧ w.cell? ⟨b, o + 2, none⟩ = some (.string s) ∧
      ∃ a l c, w.cell? ⟨b, o + 3, none⟩ = some (.slice a l c) ∧ l = as.length ∧ l ≤ c ∧
        ((as = [] ∧ F = []) ∨ (as ≠ [] ∧ ∃ b' o' F', a = some ⟨b', o', none⟩ ∧ F = b' :: F' ∧ RdL w as b' o' F'))
/-- the terms lie one behind the other in block b from o on -/
def RdL (w : World) : List Tm → Nat → Nat → List Nat → Prop
  | [], _, _, F => F = []
  | t :: ts, b, o, F => ∃ F1 F2, F = F1 ++ F2 ∧ Rd w t b o F1 ∧ RdL w ts b (o + 4) F2
end

/-- a slice of terms -/
def RdS (w : World) (as : List Tm) (a : Option Addr) (l c : Nat) (F : List Nat) : Prop :=
  l = as.length ∧ l ≤ c ∧ ((as = [] ∧ F = []) ∨ (as ≠ [] ∧ ∃ b' o' F', a = some ⟨b', o', none⟩ ∧ F = b' :: F' ∧ RdL w as b' o' F'))

theorem Rd_mk {w : World} {k n : Int} {s : ByteArray} {as : List Tm} {b o : Nat} {F : List Nat} :
    Rd w (.mk k n s as) b o F ↔ w.cell? ⟨b, o, none⟩ = some (.int .i64 k) ∧ w.cell? ⟨b, o + 1, none⟩ = some (.int .i64 n) ∧ w.cell? ⟨b, o + 2, none⟩ = some (.string s) ∧
      ∃ a l c, w.cell? ⟨b, o + 3, none⟩ = some (.slice a l c) ∧ RdS w as a l c F := by
  rw [Rd]; rfl

/-- worlds that agree on the blocks agree on the reading -/
theorem Rd_same {w w' : World} : ∀ (t : Tm) (b o : Nat) (F : List Nat), (∀ x ∈ b :: F, w'.heap[x]? = w.heap[x]?) → Rd w t b o F → Rd w' t b o F := by
  have cell {b : Nat} {a : Nat} (h : w'.heap[b]? = w.heap[b]?) : w'.cell? ⟨b, a, none⟩ = w.cell? ⟨b, a, none⟩ := World.cell?_of_block (w := w) h
  have lists : ∀ (as : List Tm), (∀ a ∈ as, ∀ (b o : Nat) (F : List Nat), (∀ x ∈ b :: F, w'.heap[x]? = w.heap[x]?) → Rd w a b o F → Rd w' a b o F) →
      ∀ (b o : Nat) (F : List Nat), (∀ x ∈ b :: F, w'.heap[x]? = w.heap[x]?) → RdL w as b o F → RdL w' as b o F := by
    intro as
    induction as with
    | nil => intro _ b o F _ h; simpa [RdL] using h
    | cons t ts ih =>
      intro hall b o F hF h
      rw [RdL] at h ⊢
      obtain ⟨F1, F2, rfl, h1, h2⟩ := h
      refine ⟨F1, F2, rfl, hall t (by simp) b o F1 (fun x hx => hF x ?_) h1, ih (fun a ha => hall a (by simp [ha])) b (o + 4) F2 (fun x hx => hF x ?_) h2⟩
      · simp only [List.mem_cons, List.mem_append] at hx ⊢
        rcases hx with h | h <;> simp [h]
      · simp only [List.mem_cons, List.mem_append] at hx ⊢
        rcases hx with h | h <;> simp [h]
  intro t
  induction t using Tm.ind with
  | h k n s as ih =>
    intro b o F hF h
    rw [Rd_mk] at h ⊢
    obtain ⟨h1, h2, h3, a, l, c, h4, h5, h6, h7⟩ := h
    have hb := hF b (by simp)
    refine ⟨by rw [cell hb]; exact h1, by rw [cell hb]; exact h2, by rw [cell hb]; exact h3, a, l, c, by rw [cell hb]; exact h4, h5, h6, ?_⟩
    rcases h7 with h7 | ⟨hne, b', o', F', ha, rfl, h8⟩
    · exact .inl h7
    · exact .inr ⟨hne, b', o', F', ha, rfl, lists as ih b' o' F' (fun x hx => hF x (List.mem_cons_of_mem _ hx)) h8⟩

theorem RdL_same {w w' : World} : ∀ (as : List Tm) (b o : Nat) (F : List Nat), (∀ x ∈ b :: F, w'.heap[x]? = w.heap[x]?) → RdL w as b o F → RdL w' as b o F := by
  intro as
  induction as with
  | nil => intro b o F _ h; simpa [RdL] using h
  | cons t ts ih =>
    intro b o F hF h
    rw [RdL] at h ⊢
    obtain ⟨F1, F2, rfl, h1, h2⟩ := h
    refine ⟨F1, F2, rfl, Rd_same t b o F1 (fun x hx => hF x ?_) h1, ih b (o + 4) F2 (fun x hx => hF x ?_) h2⟩
    · simp only [List.mem_cons, List.mem_append] at hx ⊢
      rcases hx with h | h <;> simp [h]
    · simp only [List.mem_cons, List.mem_append] at hx ⊢
      rcases hx with h | h <;> simp [h]

theorem RdS_same {w w' : World} {as : List Tm} {a : Option Addr} {l c : Nat} {F : List Nat} (hF : ∀ x ∈ F, w'.heap[x]? = w.heap[x]?) (h : RdS w as a l c F) : RdS w' as a l c F := by
  obtain ⟨h1, h2, h3⟩ := h
  refine ⟨h1, h2, ?_⟩
  rcases h3 with h3 | ⟨hne, b', o', F', ha, rfl, h4⟩
  · exact .inl h3
  · exact .inr ⟨hne, b', o', F', ha, rfl, RdL_same as b' o' F' hF h4⟩

theorem cell_lt {w : World} {b o : Nat} {v : Value} (h : w.cell? ⟨b, o, none⟩ = some v) : b < w.heap.size := by
  unfold World.cell? at h
  rcases Nat.lt_or_ge b w.heap.size with h' | h'
  · exact h'
  · simp [Array.getElem?_eq_none h'] at h

theorem heap_lt {o : Obj} {b : Nat} {w : World} (h : w.heap[b]? = some o) : b < w.heap.size := by
  rcases Nat.lt_or_ge b w.heap.size with h' | h'
  · exact h'
  · simp [Array.getElem?_eq_none h'] at h

/-- the blocks of a reading are there -/
theorem Rd_lt {w : World} : ∀ (t : Tm) (b o : Nat) (F : List Nat), Rd w t b o F → ∀ x ∈ b :: F, x < w.heap.size := by
  have lists : ∀ (as : List Tm), (∀ a ∈ as, ∀ (b o : Nat) (F : List Nat), Rd w a b o F → ∀ x ∈ b :: F, x < w.heap.size) →
      ∀ (b o : Nat) (F : List Nat), RdL w as b o F → ∀ x ∈ F, x < w.heap.size := by
    intro as
    induction as with
    | nil => intro _ b o F h x hx; rw [RdL] at h; subst h; simp at hx
    | cons t ts ih =>
      intro hall b o F h x hx
      rw [RdL] at h
      obtain ⟨F1, F2, rfl, h1, h2⟩ := h
      rcases List.mem_append.1 hx with hx | hx
      · exact hall t (by simp) b o F1 h1 x (by simp [hx])
      · exact ih (fun a ha => hall a (by simp [ha])) b (o + 4) F2 h2 x hx
  intro t
  induction t using Tm.ind with
  | h k n s as ih =>
    intro b o F h x hx
    rw [Rd_mk] at h
    obtain ⟨h1, _, _, a, l, c, _, _, _, h7⟩ := h
    rcases List.mem_cons.1 hx with rfl | hx
    · exact cell_lt h1
    · rcases h7 with ⟨_, rfl⟩ | ⟨hne, b', o', F', ha, rfl, h8⟩
      · simp at hx
      · rcases List.mem_cons.1 hx with rfl | hx
        · cases as with
          | nil => exact absurd rfl hne
          | cons t ts =>
            rw [RdL] at h8
            obtain ⟨F1, F2, rfl, h1, h2⟩ := h8
            exact ih t (by simp) _ _ _ h1 x (by simp)
        · exact lists as ih b' o' F' h8 x hx

theorem RdL_lt {w : World} : ∀ (as : List Tm) (b o : Nat) (F : List Nat), RdL w as b o F → ∀ x ∈ F, x < w.heap.size := by
  intro as
  induction as with
  | nil => intro b o F h x hx; rw [RdL] at h; subst h; simp at hx
  | cons t ts ih =>
    intro b o F h x hx
    rw [RdL] at h
    obtain ⟨F1, F2, rfl, h1, h2⟩ := h
    rcases List.mem_append.1 hx with hx | hx
    · exact Rd_lt t b o F1 h1 x (by simp [hx])
    · exact ih b (o + 4) F2 h2 x hx

theorem RdS_lt {w : World} {as : List Tm} {a : Option Addr} {l c : Nat} {F : List Nat} (h : RdS w as a l c F) : ∀ x ∈ F, x < w.heap.size := by
  obtain ⟨_, _, h3⟩ := h
  intro x hx
  rcases h3 with ⟨_, rfl⟩ | ⟨hne, b', o', F', ha, rfl, h4⟩
  · simp at hx
  · rcases List.mem_cons.1 hx with rfl | hx
    · cases as with
      | nil => exact absurd rfl hne
      | cons t ts =>
        rw [RdL] at h4
        obtain ⟨F1, F2, rfl, h1, h2⟩ := h4
        exact Rd_lt t _ _ _ h1 x (by simp)
    · exact RdL_lt as b' o' F' h4 x hx

theorem RdS_below {w w' : World} {B : Nat} {as : List Tm} {a : Option Addr} {l c : Nat} {F : List Nat} (h : RdS w as a l c F) (hb : Below B w w') (hF : ∀ x ∈ F, x < B) : RdS w' as a l c F :=
  RdS_same (fun x hx => hb.block x (hF x hx)) h
theorem RdS_ext {w w' : World} {as : List Tm} {a : Option Addr} {l c : Nat} {F : List Nat} (h : RdS w as a l c F) (hb : Below w.heap.size w w') : RdS w' as a l c F :=
  RdS_below h hb (RdS_lt h)

theorem RdS_nil (w : World) (a : Option Addr) (c : Nat) : RdS w [] a 0 c [] := ⟨rfl, Nat.zero_le _, .inl ⟨rfl, rfl⟩⟩

/-- the blocks may be written -/
def Free (w : World) (F : List Nat) : Prop := ∀ b ∈ F, ∃ cs T, w.heap[b]? = some (.cells cs T (0, 0))
theorem Free_below {w w' : World} {B : Nat} {F : List Nat} (h : Free w F) (hb : Below B w w') (hF : ∀ x ∈ F, x < B) : Free w' F := by
  intro b hbF
  obtain ⟨cs, T, h1⟩ := h b hbF
  exact ⟨cs, T, by rw [hb.block b (hF b hbF)]; exact h1⟩

theorem cell_of_block {w : World} {b T : Nat} {cs : Array Value} {fz : Nat × Nat} (h : w.heap[b]? = some (.cells cs T fz)) (o : Nat) : w.cell? ⟨b, o, none⟩ = cs[o]? := by
  simp [World.cell?, h]

theorem heap_new {w : World} {o : Obj} {b : Nat} (h : b = w.heap.size) : (w.alloc o).heap[b]? = some o := by
  subst h
  show (w.heap.push o)[w.heap.size]? = _
  simp
theorem heap_old {w : World} {o : Obj} {b : Nat} (h : b < w.heap.size) : (w.alloc o).heap[b]? = w.heap[b]? := Below.heap_alloc _ _ _ h
theorem bcell {W w1 : World} (hb : Below W.heap.size W w1) : (∀ b o, b < W.heap.size → w1.cell? ⟨b, o, none⟩ = W.cell? ⟨b, o, none⟩) ∧ (∀ b o, b < W.heap.size → w1.frozen? ⟨b, o, none⟩ = W.frozen? ⟨b, o, none⟩) :=
  ⟨fun b o h => hb.cell (p := ⟨b, o, none⟩) h, fun b o h => hb.frozen (p := ⟨b, o, none⟩) h⟩

theorem heap_set {w : World} {b T o : Nat} {cs : Array Value} {fz : Nat × Nat} (v : Value) (h : w.heap[b]? = some (.cells cs T fz)) : (w.setCell ⟨b, o, none⟩ v).heap[b]? = some (.cells (cs.setIfInBounds o v) T fz) := by
  simp [World.setCell, Array.getElem?_modify, h]
theorem heap_set_other {w : World} {b b' o : Nat} (v : Value) (h : b' ≠ b) : (w.setCell ⟨b, o, none⟩ v).heap[b']? = w.heap[b']? := Below.heap_setCell _ _ _ _ h
theorem heap_set4 {w : World} {b T : Nat} {x0 x1 x2 x3 y0 y1 y2 y3 : Value} {fz : Nat × Nat} (h : w.heap[b]? = some (.cells #[x0, x1, x2, x3] T fz)) :
    ((((w.setCell ⟨b, 0, none⟩ y0).setCell ⟨b, 1, none⟩ y1).setCell ⟨b, 2, none⟩ y2).setCell ⟨b, 3, none⟩ y3).heap[b]? = some (.cells #[y0, y1, y2, y3] T fz) := by
  have h1 := heap_set (o := 3) y3 (heap_set (o := 2) y2 (heap_set (o := 1) y1 (heap_set (o := 0) y0 h)))
  simpa using h1
theorem heap_set4_other {w : World} {b b' : Nat} {y0 y1 y2 y3 : Value} (h : b' ≠ b) :
    ((((w.setCell ⟨b, 0, none⟩ y0).setCell ⟨b, 1, none⟩ y1).setCell ⟨b, 2, none⟩ y2).setCell ⟨b, 3, none⟩ y3).heap[b']? = w.heap[b']? := by
  rw [heap_set_other _ h, heap_set_other _ h, heap_set_other _ h, heap_set_other _ h]
theorem below_set4 {w : World} {b B : Nat} {y0 y1 y2 y3 : Value} (h : B ≤ b) :
    Below B w ((((w.setCell ⟨b, 0, none⟩ y0).setCell ⟨b, 1, none⟩ y1).setCell ⟨b, 2, none⟩ y2).setCell ⟨b, 3, none⟩ y3) :=
  ((((Below.refl _ _).setCell h _).setCell h _).setCell h _).setCell h _
theorem frozen_of_block {w : World} {b T : Nat} {cs : Array Value} (h : w.heap[b]? = some (.cells cs T (0, 0))) (o : Nat) : w.frozen? ⟨b, o, none⟩ = false := by
  simp [World.frozen?, h]

theorem below_of_drew {B : Nat} {w w' : World} (h : Below B w.drew w') : Below B w w' := ⟨h.os, h.tape, h.output, h.size, h.block⟩

/-- the four cells of a box that may be written -/
theorem box4 {w : World} {b T : Nat} {x0 x1 x2 x3 : Value} (h : w.heap[b]? = some (.cells #[x0, x1, x2, x3] T (0, 0))) :
    w.cell? ⟨b, 0, none⟩ = some x0 ∧ w.cell? ⟨b, 1, none⟩ = some x1 ∧ w.cell? ⟨b, 2, none⟩ = some x2 ∧ w.cell? ⟨b, 3, none⟩ = some x3 ∧ ∀ o, w.frozen? ⟨b, o, none⟩ = false :=
  ⟨by simpa using cell_of_block h 0, by simpa using cell_of_block h 1, by simpa using cell_of_block h 2, by simpa using cell_of_block h 3, frozen_of_block h⟩

/-- two terms in a new row -/
theorem RdS_two {w : World} {b T : Nat} {k1 n1 k2 n2 : Int} {s1 s2 : ByteArray} {as1 as2 : List Tm} {a1 a2 : Option Addr} {l1 c1 l2 c2 c : Nat} {F1 F2 : List Nat} {fz : Nat × Nat}
    (h : w.heap[b]? = some (.cells #[.int .i64 k1, .int .i64 n1, .string s1, .slice a1 l1 c1, .int .i64 k2, .int .i64 n2, .string s2, .slice a2 l2 c2] T fz))
    (hc : 2 ≤ c) (h1 : RdS w as1 a1 l1 c1 F1) (h2 : RdS w as2 a2 l2 c2 F2) :
    RdS w [.mk k1 n1 s1 as1, .mk k2 n2 s2 as2] (some ⟨b, 0, none⟩) 2 c (b :: (F1 ++ F2)) := by
  refine ⟨rfl, hc, .inr ⟨by simp, b, 0, _, rfl, rfl, ?_⟩⟩
  rw [RdL]
  refine ⟨F1, F2, rfl, ?_, ?_⟩
  · rw [Rd_mk]
    refine ⟨by rw [cell_of_block h]; rfl, by rw [cell_of_block h]; rfl, by rw [cell_of_block h]; rfl, a1, l1, c1, by rw [cell_of_block h]; rfl, h1⟩
  · rw [RdL]
    refine ⟨F2, [], by simp, ?_, by simp [RdL]⟩
    rw [Rd_mk]
    refine ⟨by rw [cell_of_block h]; rfl, by rw [cell_of_block h]; rfl, by rw [cell_of_block h]; rfl, a2, l2, c2, by rw [cell_of_block h]; rfl, h2⟩

/-- the element's own blocks, one list for each element -/
theorem RdL_iff {w : World} : ∀ {as : List Tm} {b o : Nat} {F : List Nat}, RdL w as b o F ↔
    ∃ Fs : List (List Nat), Fs.length = as.length ∧ F = Fs.flatten ∧ ∀ i t, as[i]? = some t → Rd w t b (o + 4 * i) (Fs.getD i []) := by
  intro as
  induction as with
  | nil =>
    intro b o F
    constructor
    · intro h; rw [RdL] at h; exact ⟨[], rfl, by simp [h], by simp⟩
    · rintro ⟨Fs, h1, rfl, _⟩; rw [RdL]; cases Fs <;> simp_all
  | cons t ts ih =>
    intro b o F
    constructor
    · intro h
      rw [RdL] at h
      obtain ⟨F1, F2, rfl, h1, h2⟩ := h
      obtain ⟨Fs, h3, rfl, h4⟩ := ih.1 h2
      refine ⟨F1 :: Fs, by simp [h3], by simp, ?_⟩
      intro i x hx
      cases i with
      | zero => simp at hx; subst hx; simpa using h1
      | succ i =>
        have := h4 i x (by simpa using hx)
        rw [show o + 4 * (i + 1) = o + 4 + 4 * i by omega]
        simpa using this
    · rintro ⟨Fs, h1, rfl, h2⟩
      cases Fs with
      | nil => simp at h1
      | cons F1 Fs =>
        rw [RdL]
        refine ⟨F1, Fs.flatten, by simp, by simpa using h2 0 t (by simp), ih.2 ⟨Fs, by simpa using h1, rfl, ?_⟩⟩
        intro i x hx
        have := h2 (i + 1) x (by simpa using hx)
        rw [show o + 4 * (i + 1) = o + 4 + 4 * i by omega] at this
        simpa using this

/-- what a call that makes a term leaves of the blocks: each is one of G, or new and free; none stands twice if none of G does -/
structure Grows (w w' : World) (G F : List Nat) : Prop where
  mem : ∀ x ∈ F, x ∈ G ∨ (w.heap.size ≤ x ∧ ∃ cs T, w'.heap[x]? = some (.cells cs T (0, 0)))
  nodup : G.Nodup → F.Nodup
theorem Grows.refl (w w' : World) (G : List Nat) : Grows w w' G G := ⟨fun _ hx => .inl hx, fun h => h⟩
theorem Grows.nil (w w' : World) (G : List Nat) : Grows w w' G [] := ⟨by simp, by simp⟩
theorem Grows.later {w w1 w2 : World} {G F : List Nat} (h : Grows w w1 G F) (hb : Below w1.heap.size w1 w2) : Grows w w2 G F := by
  refine ⟨fun x hx => ?_, h.nodup⟩
  rcases h.mem x hx with h' | ⟨h1, cs, T, h2⟩
  · exact .inl h'
  · have hlt : x < w1.heap.size := by
      rcases Nat.lt_or_ge x w1.heap.size with h' | h'
      · exact h'
      · simp [Array.getElem?_eq_none h'] at h2
    exact .inr ⟨h1, cs, T, by rw [hb.block x hlt]; exact h2⟩
theorem Grows.front {w w1 : World} {G F E : List Nat} (h : Grows w w1 G F) (hE : ∀ x ∈ E, x < w.heap.size) : Grows w w1 (E ++ G) (E ++ F) := by
  refine ⟨fun x hx => ?_, fun hG => ?_⟩
  · rcases List.mem_append.1 hx with hx | hx
    · exact .inl (List.mem_append.2 (.inl hx))
    · rcases h.mem x hx with h' | h'
      · exact .inl (List.mem_append.2 (.inr h'))
      · exact .inr h'
  · obtain ⟨h1, h2, h3⟩ := List.nodup_append.1 hG
    refine List.nodup_append.2 ⟨h1, h.nodup h2, fun x hx y hy => ?_⟩
    rcases h.mem y hy with h' | ⟨h', _⟩
    · exact h3 x hx y h'
    · have := hE x hx; omega
theorem Grows.set {w w1 w2 : World} {G F : List Nat} (h : Grows w w1 G F) (hs : ∀ x ∈ F, w2.heap[x]? = w1.heap[x]?) : Grows w w2 G F := by
  refine ⟨fun x hx => ?_, h.nodup⟩
  rcases h.mem x hx with h' | ⟨h1, cs, T, h2⟩
  · exact .inl h'
  · exact .inr ⟨h1, cs, T, by rw [hs x hx]; exact h2⟩
/-- a new row over parts -/
theorem Grows.cons {w w1 w2 : World} {G F : List Nat} {b T : Nat} {cs : Array Value} (h : Grows w w1 G F) (hlt : ∀ x ∈ F, x < w1.heap.size) (hb : Below w1.heap.size w1 w2) (hw : w.heap.size ≤ w1.heap.size)
    (h1 : w1.heap.size ≤ b) (h2 : w2.heap[b]? = some (.cells cs T (0, 0))) : Grows w w2 G (b :: F) := by
  have h' := h.later hb
  refine ⟨fun x hx => ?_, fun hG => ?_⟩
  · rcases List.mem_cons.1 hx with rfl | hx
    · exact .inr ⟨by omega, cs, T, h2⟩
    · exact h'.mem x hx
  · refine List.nodup_cons.2 ⟨fun hm => ?_, h.nodup hG⟩
    have := hlt b hm
    omega

/-- a term as it lies in a row: four values -/
structure TV where
  k : Int
  n : Int
  s : ByteArray
  a : Option Addr
  l : Nat
  c : Nat
def TV.cells (e : TV) : List Value := [.int .i64 e.k, .int .i64 e.n, .string e.s, .slice e.a e.l e.c]
def TV.rd (w : World) (e : TV) (t : Tm) (F : List Nat) : Prop := ∃ xs, t = .mk e.k e.n e.s xs ∧ RdS w xs e.a e.l e.c F
def RdVs (w : World) : List Tm → List TV → List (List Nat) → Prop
  | [], [], [] => True
  | t :: ts, e :: es, F :: Fs => e.rd w t F ∧ RdVs w ts es Fs
  | _, _, _ => False
theorem TV.rd_same {w w' : World} {e : TV} {t : Tm} {F : List Nat} (h : e.rd w t F) (hF : ∀ x ∈ F, w'.heap[x]? = w.heap[x]?) : e.rd w' t F := by
  obtain ⟨xs, h1, h2⟩ := h
  exact ⟨xs, h1, RdS_same hF h2⟩
theorem RdVs_same {w w' : World} : ∀ {ts : List Tm} {es : List TV} {Fs : List (List Nat)}, RdVs w ts es Fs → (∀ x ∈ Fs.flatten, w'.heap[x]? = w.heap[x]?) → RdVs w' ts es Fs
  | [], [], [], _, _ => trivial
  | t :: ts, e :: es, F :: Fs, h, hF => ⟨TV.rd_same h.1 (fun x hx => hF x (by simp [hx])), RdVs_same h.2 (fun x hx => hF x (by simp only [List.flatten_cons, List.mem_append]; exact .inr hx))⟩
  | [], _ :: _, _, h, _ => by cases h
  | [], [], _ :: _, h, _ => by cases h
  | _ :: _, [], _, h, _ => by cases h
  | _ :: _, _ :: _, [], h, _ => by cases h
theorem RdVs_lt {w : World} : ∀ {ts : List Tm} {es : List TV} {Fs : List (List Nat)}, RdVs w ts es Fs → ∀ x ∈ Fs.flatten, x < w.heap.size
  | [], [], [], _, x, hx => by simp at hx
  | t :: ts, e :: es, F :: Fs, h, x, hx => by
    simp only [List.flatten_cons, List.mem_append] at hx
    rcases hx with hx | hx
    · obtain ⟨xs, _, h2⟩ := h.1; exact RdS_lt h2 x hx
    · exact RdVs_lt h.2 x hx
  | [], _ :: _, _, h, _, _ => by cases h
  | [], [], _ :: _, h, _, _ => by cases h
  | _ :: _, [], _, h, _, _ => by cases h
  | _ :: _, _ :: _, [], h, _, _ => by cases h
theorem RdVs_snoc {w : World} : ∀ {ts : List Tm} {es : List TV} {Fs : List (List Nat)} {t : Tm} {e : TV} {F : List Nat}, RdVs w ts es Fs → e.rd w t F → RdVs w (ts ++ [t]) (es ++ [e]) (Fs ++ [F])
  | [], [], [], _, _, _, _, h => ⟨h, trivial⟩
  | t :: ts, e :: es, F :: Fs, _, _, _, h, h' => ⟨h.1, RdVs_snoc h.2 h'⟩
  | [], _ :: _, _, _, _, _, h, _ => by cases h
  | [], [], _ :: _, _, _, _, h, _ => by cases h
  | _ :: _, [], _, _, _, _, h, _ => by cases h
  | _ :: _, _ :: _, [], _, _, _, h, _ => by cases h
theorem RdVs_len {w : World} : ∀ {ts : List Tm} {es : List TV} {Fs : List (List Nat)}, RdVs w ts es Fs → es.length = ts.length ∧ Fs.length = ts.length
  | [], [], [], _ => ⟨rfl, rfl⟩
  | t :: ts, e :: es, F :: Fs, h => by have := RdVs_len h.2; simp [this.1, this.2]
  | [], _ :: _, _, h => by cases h
  | [], [], _ :: _, h => by cases h
  | _ :: _, [], _, h => by cases h
  | _ :: _, _ :: _, [], h => by cases h
theorem RdL_of_cells {w : World} {b : Nat} : ∀ {ts : List Tm} {es : List TV} {Fs : List (List Nat)} (o : Nat), RdVs w ts es Fs →
    (∀ j u, (es.flatMap TV.cells)[j]? = some u → w.cell? ⟨b, o + j, none⟩ = some u) → RdL w ts b o Fs.flatten
  | [], [], [], o, _, _ => by simp [RdL]
  | t :: ts, e :: es, F :: Fs, o, h, hc => by
    rw [RdL, List.flatten_cons]
    refine ⟨F, Fs.flatten, rfl, ?_, RdL_of_cells (o + 4) h.2 (fun j u hj => ?_)⟩
    · obtain ⟨xs, rfl, h2⟩ := h.1
      rw [Rd_mk]
      exact ⟨hc 0 _ (by simp [TV.cells]), hc 1 _ (by simp [TV.cells]), hc 2 _ (by simp [TV.cells]), e.a, e.l, e.c, hc 3 _ (by simp [TV.cells]), h2⟩
    · have := hc (4 + j) u (by
        rw [List.flatMap_cons, List.getElem?_append_right (by simp [TV.cells])]
        simpa [TV.cells] using hj)
      rw [show o + 4 + j = o + (4 + j) by omega]; exact this
  | [], _ :: _, _, _, h, _ => by cases h
  | [], [], _ :: _, _, h, _ => by cases h
  | _ :: _, [], _, _, h, _ => by cases h
  | _ :: _, _ :: _, [], _, h, _ => by cases h

theorem Rd_of_cells {w : World} {b : Nat} : ∀ {ts : List Tm} {es : List TV} {Fs : List (List Nat)} (o : Nat), RdVs w ts es Fs →
    (∀ j u, (es.flatMap TV.cells)[j]? = some u → w.cell? ⟨b, o + j, none⟩ = some u) → ∀ i t, ts[i]? = some t → Rd w t b (o + 4 * i) (Fs.getD i [])
  | [], [], [], o, _, _, i, t, h => by simp at h
  | t :: ts, e :: es, F :: Fs, o, h, hc, i, x, hx => by
    cases i with
    | zero =>
      obtain ⟨xs, rfl, h2⟩ := h.1
      simp at hx; subst hx
      simp only [Nat.mul_zero, Nat.add_zero, List.getD_cons_zero]
      rw [Rd_mk]
      exact ⟨hc 0 _ (by simp [TV.cells]), hc 1 _ (by simp [TV.cells]), hc 2 _ (by simp [TV.cells]), e.a, e.l, e.c, hc 3 _ (by simp [TV.cells]), h2⟩
    | succ i =>
      have := Rd_of_cells (o + 4) h.2 (fun j u hj => by
        have := hc (4 + j) u (by
          rw [List.flatMap_cons, List.getElem?_append_right (by simp [TV.cells])]
          simpa [TV.cells] using hj)
        rw [show o + 4 + j = o + (4 + j) by omega]; exact this) i x (by simpa using hx)
      rw [show o + 4 * (i + 1) = o + 4 + 4 * i by omega]
      simpa using this
  | [], _ :: _, _, _, h, _, _, _, _ => by cases h
  | [], [], _ :: _, _, h, _, _, _, _ => by cases h
  | _ :: _, [], _, _, h, _, _, _, _ => by cases h
  | _ :: _, _ :: _, [], _, h, _, _, _, _ => by cases h

/-- a slice of terms that the call itself has made, element by element (E: the type's number) -/
def OwnTs (E : Nat) (w : World) (base : Nat) (v : Value) (ts : List Tm) (Fs : List (List Nat)) : Prop :=
  ∃ es, w.ownsRow base E 4 v ts.length (es.flatMap TV.cells) ∧ RdVs w ts es Fs ∧ ∀ x ∈ Fs.flatten, v.ownBlock ≠ some x
theorem OwnTs_rd {E : Nat} {w : World} {base : Nat} {v : Value} {ts : List Tm} {Fs : List (List Nat)} (h : OwnTs E w base v ts Fs) :
    ∃ a l c F, v = .slice a l c ∧ RdS w ts a l c F ∧ (ts = [] ∨ ∃ g cur, a = some ⟨g, 0, none⟩ ∧ base ≤ g ∧ F = g :: Fs.flatten ∧ w.heap[g]? = some (.cells cur E (0, 0))) ∧ l = ts.length ∧
      (∀ x ∈ F, x ∈ Fs.flatten ∨ base ≤ x) := by
  obtain ⟨es, h1, h2, _⟩ := h
  rcases h1.2 with ⟨rfl, hn⟩ | ⟨g, cap, cur, rfl, hb, hg, hcap, _, _, _⟩
  · have : ts = [] := List.eq_nil_of_length_eq_zero hn
    subst this
    exact ⟨none, 0, 0, [], rfl, RdS_nil _ _ _, .inl rfl, rfl, by simp⟩
  · by_cases hts : ts = []
    · subst hts
      exact ⟨some ⟨g, 0, none⟩, 0, cap, [], rfl, RdS_nil _ _ _, .inl rfl, rfl, by simp⟩
    · refine ⟨some ⟨g, 0, none⟩, ts.length, cap, g :: Fs.flatten, rfl, ⟨rfl, hcap, .inr ⟨hts, g, 0, _, rfl, rfl, RdL_of_cells 0 h2 (fun j u hj => ?_)⟩⟩, .inr ⟨g, cur, rfl, hb, rfl, hg⟩, rfl, ?_⟩
      · have := h1.cells (g := g) rfl j u hj
        have hadd : (⟨g, 0, none⟩ : Addr).add j = ⟨g, 0 + j, none⟩ := by unfold Addr.add; split <;> simp_all
        rw [hadd] at this; exact this
      · intro x hx
        rcases List.mem_cons.1 hx with rfl | hx
        · exact .inr hb
        · exact .inl hx
/-- nothing that is written elsewhere touches the slice -/
theorem OwnTs_below {E : Nat} {w w' : World} {base : Nat} {v : Value} {ts : List Tm} {Fs : List (List Nat)} (h : OwnTs E w base v ts Fs) (hb : Below w.heap.size w w') : OwnTs E w' base v ts Fs := by
  obtain ⟨es, h1, h2, h3⟩ := h
  refine ⟨es, h1.kept (row := none) ⟨hb.os, hb.tape, hb.output, hb.size, fun k hk _ => hb.block k hk⟩ ?_, RdVs_same h2 (fun x hx => hb.block x (RdVs_lt h2 x hx)), h3⟩
  cases v.ownBlock <;> simp

theorem OwnTs_alloc {E : Nat} {w : World} {base : Nat} {v : Value} {ts : List Tm} {Fs : List (List Nat)} (h : OwnTs E w base v ts Fs) (o : Obj) : OwnTs E (w.alloc o) base v ts Fs :=
  OwnTs_below h ((Below.refl _ _).alloc (Nat.le_refl _) o)
/-- behind an append: the world below the row's base is as it was -/
theorem below_append {w w' : World} {E base B : Nat} {v : Value} {ts : List Tm} {Fs : List (List Nat)} (hg : w.grownBy w' v.ownBlock) (h : OwnTs E w base v ts Fs) (hB : B ≤ base) (hw : B ≤ w.heap.size) : Below B w w' := by
  obtain ⟨es, h1, _⟩ := h
  exact ⟨hg.os, hg.tape, hg.output, hg.size, fun k hk => hg.block k (by omega) (fun hh => by have := (h1.lt k hh.symm).1; omega)⟩
theorem OwnTs_nil (E : Nat) (w : World) (base : Nat) : OwnTs E w base (.slice none 0 0) [] [] := ⟨[], World.ownsRow_nil w base E 4, trivial, by simp⟩
theorem OwnTs_empty {E : Nat} {w : World} {base g : Nat} (hb : base ≤ g) (hg : w.heap[g]? = some (.cells #[] E (0, 0))) : OwnTs E w base (.slice (some ⟨g, 0, none⟩) 0 0) [] [] :=
  ⟨[], ⟨by simp, .inr ⟨g, 0, #[], rfl, hb, hg, Nat.le_refl _, Nat.zero_le _, by simp, by simp⟩⟩, trivial, by simp⟩

def Tm.nil : Tm := .mk 0 0 ByteArray.empty []
def Tm.int (n : Int) : Tm := .mk 3 n ByteArray.empty []
def Tm.sym (s : ByteArray) : Tm := .mk 2 0 s []
def Tm.pair (a b : Tm) : Tm := .mk 4 0 ByteArray.empty [a, b]
def Tm.list (l : List Tm) (tail : Tm) : Tm := l.foldr Tm.pair tail
end Go.Proofs.Ytjkabbkaeioibaa
