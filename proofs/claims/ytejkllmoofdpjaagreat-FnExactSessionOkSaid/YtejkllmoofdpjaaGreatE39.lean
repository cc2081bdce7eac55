/- Parts of the proof: VR1 VR2 VR3. -/
import Derived.Test.YtejkllmoofdpjaaGreatE15
namespace Go.Proofs.YtejkllmoofdpjaaGreat
open Go
set_option linter.all false
set_option maxRecDepth 100000
set_option maxHeartbeats 4000000
noncomputable section
open Classical
abbrev vKr (l : List VkR) : AV := .one (.s 2 (l.map encK))
abbrev vMr (l : List MkR) : AV := .one (.s 2 (l.map encM))
def CK (l : List VkR) (j : Nat) : Prop := ∀ x, l[j]? = some x → (0 ≤ x.1 ∧ x.1 ≤ 100000) ∧ (x.2 = 2 ∨ x.2 = 3) ∧ ∀ y, 0 < j → l[j - 1]? = some y → y.1 < x.1
def KOkR (l : List VkR) : Prop := ∀ j, j < l.length → CK l j
theorem all_lt_succ {p : Nat → Prop} {j : Nat} (h : ∀ i, i < j → p i) (hj : p j) : ∀ i, i < j + 1 → p i := fun i hi => by
 by_cases e : i = j
 ·exact e ▸ hj
 ·exact h i (by omega)
instance kindsOkR_i : Con1 Tryz.prog 198 (List VkR) vKr (fun l => bp (KOkR l)) (fun l => Lng l.length) := ⟨fun l hl => by
 have hlen : (l.map encK).length = l.length := by simp
 refine pu Tryz.func198 rfl Tryz.ntmps198 rfl rfl fun C => ?_
 (repeat' first | (refine kk ?_; intros) | refine kfk ?_ ?_ <;> intro hb | fail)
 refine kfor (ι := Unit) l (fun j _ => [(0, vKr l), (5, vKr l)]) (fun _ _ => []) (fun j _ => ∀ i, i < j → CK l i) () (fun _ h => absurd h (Nat.not_lt_zero _)) ?_ ?_
 ·rintro j ⟨v, k⟩ _ hj hd hjl hp
  have hrow : (l.map encK)[j]? = some [.v (.int .i64 v), .v (.int .i64 k)] := by simp [hj, encK]
  have hno : ¬ CK l j → ¬ KOkR l := fun h hk => h (hk j hjl)
  by_cases h0 : 0 < j
  ·obtain ⟨⟨v', k'⟩, hc⟩ : ∃ c, l[j - 1]? = some c := ⟨l[j - 1], List.getElem?_eq_getElem (by omega)⟩
   have hrow2 : (l.map encK)[j - 1]? = some [.v (.int .i64 v'), .v (.int .i64 k')] := by simp [hc, encK]
   have hck : CK l j ↔ (0 ≤ v ∧ v ≤ 100000) ∧ (k = 2 ∨ k = 3) ∧ v' < v := ⟨fun h => by
    have h1 := h _ hj
    exact ⟨h1.1, h1.2.1, h1.2.2 _ h0 hc⟩, fun h x hx => by
    rw [hj] at hx; cases hx
    exact ⟨h.1, h.2.1, fun y _ hy => by rw [hc] at hy; cases hy; exact h.2.2⟩⟩
   (repeat' first | (refine kk ?_; intros) | refine kfk ?_ ?_ <;> intro hb | fail)
   all_goals first
    | exact ⟨(), all_lt_succ hp (hck.2 (by omega)), kwk⟩
    | exact kret (bpF (hno fun h => by have := hck.1 h; omega))
  ·have hck : CK l j ↔ (0 ≤ v ∧ v ≤ 100000) ∧ (k = 2 ∨ k = 3) := ⟨fun h => by
    have h1 := h _ hj
    exact ⟨h1.1, h1.2.1⟩, fun h x hx => by
    rw [hj] at hx; cases hx
    exact ⟨h.1, h.2, fun y h => absurd h h0⟩⟩
   (repeat' first | (refine kk ?_; intros) | refine kfk ?_ ?_ <;> intro hb | fail)
   all_goals first
    | exact ⟨(), all_lt_succ hp (hck.2 (by omega)), kwk⟩
    | exact kret (bpF (hno fun h => by have := hck.1 h; omega))
 ·intro _ hp
  (repeat' first | (refine kk ?_; intros) | refine kfk ?_ ?_ <;> intro hb | fail)
  exact kret (bpT hp)⟩
end
noncomputable section
open Classical
def lessR (a b : MkR) : Prop := a.1 < b.1 ∨ a.1 = b.1 ∧ Op.bytesLess a.2.toList b.2.toList = true
instance lessR_i : Con2 Tryz.prog 231 MkR MkR (fun m => .agg (encM m)) (fun m => .agg (encM m)) (fun a b => bp (lessR a b)) (fun _ _ => True) := ⟨fun a b _ => by
 refine pu Tryz.func231 rfl Tryz.ntmps231 rfl rfl fun C => ?_
 (repeat' first | (refine kk ?_; intros) | refine kfk ?_ ?_ <;> intro hb | fail)
 ·exact kret (bpT (.inl hb))
 ·exact kret (bpI ⟨fun h => .inr ⟨hb, h⟩, fun h => (h.resolve_left (by omega)).2⟩)
 ·exact kret (bpF fun h => h.elim (by assumption) fun h => hb h.1)⟩
def CM (l : List MkR) (j : Nat) : Prop := ∀ x, l[j]? = some x → (0 ≤ x.1 ∧ x.1 ≤ 100000) ∧ NameP x.2 ∧ ∀ y, 0 < j → l[j - 1]? = some y → lessR y x
def MOkR (l : List MkR) : Prop := ∀ j, j < l.length → CM l j
instance marksOkR_i : Con1 Tryz.prog 199 (List MkR) vMr (fun l => bp (MOkR l)) (fun l => Lng l.length ∧ ∀ m ∈ l, Lng m.2.size) := ⟨fun l ⟨hl, hls⟩ => by
 haveI := lessR_i
 have hlen : (l.map encM).length = l.length := by simp
 refine pu Tryz.func199 rfl Tryz.ntmps199 rfl rfl fun C => ?_
 (repeat' first | (refine kk ?_; intros) | refine kfk ?_ ?_ <;> intro hb | fail)
 refine kfor (ι := Unit) l (fun j _ => [(0, vMr l), (5, vMr l)]) (fun _ _ => []) (fun j _ => ∀ i, i < j → CM l i) () (fun _ h => absurd h (Nat.not_lt_zero _)) ?_ ?_
 ·rintro j x _ hj hd hjl hp
  have hrow : (l.map encM)[j]? = some (encM x) := by simp [hj]
  have hno : ¬ CM l j → ¬ MOkR l := fun h hk => h (hk j hjl)
  have hxs := hls x (List.mem_of_getElem? hj)
  have p0 : True := trivial
  by_cases h0 : 0 < j
  ·obtain ⟨y, hc⟩ : ∃ c, l[j - 1]? = some c := ⟨l[j - 1], List.getElem?_eq_getElem (by omega)⟩
   have hrow2 : (l.map encM)[j - 1]? = some (encM y) := by simp [hc]
   have hck : CM l j ↔ (0 ≤ x.1 ∧ x.1 ≤ 100000) ∧ NameP x.2 ∧ lessR y x := ⟨fun h => by
    have h1 := h _ hj
    exact ⟨h1.1, h1.2.1, h1.2.2 _ h0 hc⟩, fun h z hz => by
    rw [hj] at hz; cases hz
    exact ⟨h.1, h.2.1, fun y' _ hy => by rw [hc] at hy; cases hy; exact h.2.2⟩⟩
   (repeat' first | (refine kk ?_; intros) | refine kfk ?_ ?_ <;> intro hb | fail)
   all_goals first
    | exact ⟨(), all_lt_succ hp (hck.2 ⟨by omega, by assumption, by assumption⟩), kwk⟩
    | exact kret (bpF (hno fun h => by have := (hck.1 h).1; omega))
    | exact kret (bpF (hno fun h => absurd (hck.1 h).2.1 (by assumption)))
    | exact kret (bpF (hno fun h => absurd (hck.1 h).2.2 (by assumption)))
  ·have hck : CM l j ↔ (0 ≤ x.1 ∧ x.1 ≤ 100000) ∧ NameP x.2 := ⟨fun h => by
    have h1 := h _ hj
    exact ⟨h1.1, h1.2.1⟩, fun h z hz => by
    rw [hj] at hz; cases hz
    exact ⟨h.1, h.2, fun y h => absurd h h0⟩⟩
   (repeat' first | (refine kk ?_; intros) | refine kfk ?_ ?_ <;> intro hb | fail)
   all_goals first
    | exact ⟨(), all_lt_succ hp (hck.2 ⟨by omega, by assumption⟩), kwk⟩
    | exact kret (bpF (hno fun h => by have := (hck.1 h).1; omega))
    | exact kret (bpF (hno fun h => absurd (hck.1 h).2 (by assumption)))
 ·intro _ hp
  (repeat' first | (refine kk ?_; intros) | refine kfk ?_ ?_ <;> intro hb | fail)
  exact kret (bpT hp)⟩
end
noncomputable section
open Classical
theorem pw_of_adj {α : Type} {r : α → α → Prop} (ht : ∀ a b c, r a b → r b c → r a c) : ∀ {l : List α}, (∀ j x y, l[j + 1]? = some x → l[j]? = some y → r y x) → l.Pairwise r
 | [], _ => .nil
 | [a], _ => by simp
 | a :: b :: l, h => by
  have ih := pw_of_adj ht (l := b :: l) fun j x y hx hy => h (j + 1) x y hx hy
  refine List.pairwise_cons.2 ⟨fun c hc => ?_, ih⟩
  rcases List.mem_cons.1 hc with rfl | hc
  ·exact h 0 _ _ rfl rfl
  ·exact ht _ _ _ (h 0 b a rfl rfl) ((List.pairwise_cons.1 ih).1 c hc)
theorem kOkR_iff {l : List VkR} : KOkR l ↔ ∃ k : Ks, l = k.map toK ∧ KOk k := by
 constructor
 ·intro h
  have hm : ∀ x ∈ l, (0 ≤ x.1 ∧ x.1 ≤ 100000) ∧ (x.2 = 2 ∨ x.2 = 3) := fun x hx => by
   obtain ⟨j, hj⟩ := List.getElem?_of_mem hx
   have := h j (List.getElem?_eq_some_iff.1 hj).1 x hj
   exact ⟨this.1, this.2.1⟩
  have e : l = (l.map fun x => (x.1.toNat, x.2)).map toK := by
   rw [List.map_map]
   conv => lhs; rw [← List.map_id l]
   refine List.map_congr_left fun x hx => ?_
   have := (hm x hx).1.1
   obtain ⟨v, k⟩ := x
   show (v, k) = ((v.toNat : Int), k)
   rw [Int.toNat_of_nonneg this]
  refine ⟨_, e, ?_, fun b hb => ?_⟩
  ·rw [List.pairwise_map]
   have hp : l.Pairwise fun a b => a.1 < b.1 := pw_of_adj (r := fun a b : VkR => a.1 < b.1) (fun a b c h1 h2 => Int.lt_trans h1 h2) fun j x y hx hy => (h (j + 1) (List.getElem?_eq_some_iff.1 hx).1 x hx).2.2 y (Nat.succ_pos _) hy
   refine hp.imp_of_mem fun {a b} ha hb hab => ?_
   have h1 := (hm a ha).1.1
   have h2 := (hm b hb).1.1
   simp only
   omega
  ·obtain ⟨x, hx, rfl⟩ := List.mem_map.1 hb
   have := hm x hx
   exact ⟨by simp only; omega, this.2⟩
 ·rintro ⟨k, rfl, hk⟩ j hj x hx
  rw [List.getElem?_map] at hx
  obtain ⟨y, hy, rfl⟩ := Option.map_eq_some_iff.1 hx
  have h1 := hk.ok y (List.mem_of_getElem? hy)
  refine ⟨⟨by simp only [toK]; omega, by simp only [toK]; omega⟩, h1.2, fun z h0 hz => ?_⟩
  rw [List.getElem?_map] at hz
  obtain ⟨w, hw, rfl⟩ := Option.map_eq_some_iff.1 hz
  have := asc_get hk.asc hw hy (by omega)
  simp only [toK]
  omega
theorem lessR_toM {a b : Nat × ByteArray} : lessR (toM a) (toM b) ↔ cMk a b = -1 := by
 rw [cMk_less]
 have e : ∀ x y : Nat, ((x : Int) < y ↔ x < y) ∧ ((x : Int) = y ↔ x = y) := fun x y => ⟨by omega, by omega⟩
 show ((a.1 : Int) < b.1 ∨ (a.1 : Int) = b.1 ∧ _) ↔ _
 rw [(e a.1 b.1).1, (e a.1 b.1).2]
theorem mOkR_iff {l : List MkR} : MOkR l ↔ ∃ k : Ms, l = k.map toM ∧ MOk k := by
 constructor
 ·intro h
  have hm : ∀ x ∈ l, (0 ≤ x.1 ∧ x.1 ≤ 100000) ∧ NameP x.2 := fun x hx => by
   obtain ⟨j, hj⟩ := List.getElem?_of_mem hx
   have := h j (List.getElem?_eq_some_iff.1 hj).1 x hj
   exact ⟨this.1, this.2.1⟩
  have e : l = (l.map fun x => (x.1.toNat, x.2)).map toM := by
   rw [List.map_map]
   conv => lhs; rw [← List.map_id l]
   refine List.map_congr_left fun x hx => ?_
   have := (hm x hx).1.1
   obtain ⟨v, k⟩ := x
   show (v, k) = ((v.toNat : Int), k)
   rw [Int.toNat_of_nonneg this]
  generalize (l.map fun x => (x.1.toNat, x.2)) = k at e
  subst e
  refine ⟨k, rfl, ?_, fun b hb => ?_⟩
  ·refine pw_of_adj (r := fun a b => cMk a b = -1) (fun a b c h1 h2 => cMk_tot.trans _ _ _ h1 h2) fun j x y hx hy => (lessR_toM (a := y) (b := x)).1 ((h (j + 1) (by have := (List.getElem?_eq_some_iff.1 hx).1; simpa using this) (toM x) (by rw [List.getElem?_map, hx]; rfl)).2.2 (toM y) (Nat.succ_pos _) (by simp [hy]))
  ·have := hm (toM b) (List.mem_map_of_mem hb)
   exact ⟨by have := this.1.2; simp only [toM] at this; omega, this.2⟩
 ·rintro ⟨k, rfl, hk⟩ j hj x hx
  rw [List.getElem?_map] at hx
  obtain ⟨y, hy, rfl⟩ := Option.map_eq_some_iff.1 hx
  have h1 := hk.ok y (List.mem_of_getElem? hy)
  refine ⟨⟨by simp only [toM]; omega, by simp only [toM]; omega⟩, h1.2, fun z h0 hz => ?_⟩
  rw [List.getElem?_map] at hz
  obtain ⟨w, hw, rfl⟩ := Option.map_eq_some_iff.1 hz
  exact lessR_toM.2 (asc_get hk.asc hw hy (by omega))
end
end Go.Proofs.YtejkllmoofdpjaaGreat
