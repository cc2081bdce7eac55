/- Blocks that a call has made: new, each once, free to be written; four cells stored at once. -/
import Derived.Test.YtjkabbkaeioibaaList
namespace Go.Proofs.Ytjkabbkaeioibaa
open Go.RowKit

/-- blocks that are new since w, each once, and free -/
def Fresh (w wr : World) (F : List Nat) : Prop := F.Nodup ∧ ∀ x ∈ F, w.heap.size ≤ x ∧ ∃ (cs : Array Value) (T : Nat), wr.heap[x]? = some (Obj.cells cs T (0, 0))
theorem Fresh.later {w wr w' : World} {F : List Nat} (h : Fresh w wr F) (hs : ∀ x ∈ F, w'.heap[x]? = wr.heap[x]?) : Fresh w w' F :=
  ⟨h.1, fun x hx => ⟨(h.2 x hx).1, by obtain ⟨cs, T, h1⟩ := (h.2 x hx).2; exact ⟨cs, T, by rw [hs x hx]; exact h1⟩⟩⟩
theorem Fresh.add {w wr w' : World} {F E : List Nat} (h : Fresh w wr F) (hs : ∀ x ∈ F, w'.heap[x]? = wr.heap[x]?) (hlt : ∀ x ∈ F, x < wr.heap.size) (hw : w.heap.size ≤ wr.heap.size) (hE : Fresh wr w' E) : Fresh w w' (F ++ E) := by
  refine ⟨List.nodup_append.2 ⟨h.1, hE.1, fun x hx y hy => by have := hlt x hx; have := (hE.2 y hy).1; omega⟩, fun x hx => ?_⟩
  rcases List.mem_append.1 hx with hx | hx
  · exact (h.later hs).2 x hx
  · exact ⟨Nat.le_trans hw (hE.2 x hx).1, (hE.2 x hx).2⟩
theorem Grows.fresh {w w' : World} {F : List Nat} (h : Grows w w' [] F) : Fresh w w' F :=
  ⟨h.nodup (by simp), fun x hx => by rcases h.mem x hx with h' | h'; simp at h'; exact h'⟩

theorem Fresh.below {w wr w' : World} {F : List Nat} (h : Fresh w wr F) (hb : Below wr.heap.size wr w') : Fresh w w' F :=
  h.later (fun x hx => by obtain ⟨cs, T, h1⟩ := (h.2 x hx).2; exact hb.block x (heap_lt h1))

theorem Fresh.grows {w w' : World} {F : List Nat} (h : Fresh w w' F) : Grows w w' [] F := ⟨fun x hx => .inr (h.2 x hx), fun _ => h.1⟩

/-- four cells of a row, stored one behind the other -/
theorem set4_at {w : World} {b o T : Nat} {cs : Array Value} {fz : Nat × Nat} {y0 y1 y2 y3 : Value} (h : w.heap[b]? = some (.cells cs T fz)) (ho : o + 4 ≤ cs.size) :
    ∃ cs', ((((w.setCell ⟨b, o, none⟩ y0).setCell ⟨b, o + 1, none⟩ y1).setCell ⟨b, o + 2, none⟩ y2).setCell ⟨b, o + 3, none⟩ y3).heap[b]? = some (.cells cs' T fz) ∧ cs'.size = cs.size ∧
      cs'[o]? = some y0 ∧ cs'[o + 1]? = some y1 ∧ cs'[o + 2]? = some y2 ∧ cs'[o + 3]? = some y3 ∧ ∀ m, m < o ∨ o + 4 ≤ m → cs'[m]? = cs[m]? := by
  refine ⟨_, heap_set _ (heap_set _ (heap_set _ (heap_set _ h))), by simp, ?_, ?_, ?_, ?_, fun m hm => ?_⟩
  · rw [Array.getElem?_setIfInBounds_ne (by omega), Array.getElem?_setIfInBounds_ne (by omega), Array.getElem?_setIfInBounds_ne (by omega), Array.getElem?_setIfInBounds_self_of_lt (by omega)]
  · rw [Array.getElem?_setIfInBounds_ne (by omega), Array.getElem?_setIfInBounds_ne (by omega), Array.getElem?_setIfInBounds_self_of_lt (by simp; omega)]
  · rw [Array.getElem?_setIfInBounds_ne (by omega), Array.getElem?_setIfInBounds_self_of_lt (by simp; omega)]
  · rw [Array.getElem?_setIfInBounds_self_of_lt (by simp; omega)]
  · rw [Array.getElem?_setIfInBounds_ne (by omega), Array.getElem?_setIfInBounds_ne (by omega), Array.getElem?_setIfInBounds_ne (by omega), Array.getElem?_setIfInBounds_ne (by omega)]
theorem set4_other {w : World} {b b' o : Nat} {y0 y1 y2 y3 : Value} (h : b' ≠ b) :
    ((((w.setCell ⟨b, o, none⟩ y0).setCell ⟨b, o + 1, none⟩ y1).setCell ⟨b, o + 2, none⟩ y2).setCell ⟨b, o + 3, none⟩ y3).heap[b']? = w.heap[b']? := by
  rw [heap_set_other _ h, heap_set_other _ h, heap_set_other _ h, heap_set_other _ h]
theorem set4_size {w : World} {b o : Nat} {y0 y1 y2 y3 : Value} :
    ((((w.setCell ⟨b, o, none⟩ y0).setCell ⟨b, o + 1, none⟩ y1).setCell ⟨b, o + 2, none⟩ y2).setCell ⟨b, o + 3, none⟩ y3).heap.size = w.heap.size := by simp [World.setCell]
theorem set4_below {w : World} {b o B : Nat} {y0 y1 y2 y3 : Value} (h : B ≤ b) :
    Below B w ((((w.setCell ⟨b, o, none⟩ y0).setCell ⟨b, o + 1, none⟩ y1).setCell ⟨b, o + 2, none⟩ y2).setCell ⟨b, o + 3, none⟩ y3) :=
  ((((Below.refl _ _).setCell h _).setCell h _).setCell h _).setCell h _
end Go.Proofs.Ytjkabbkaeioibaa
