/- Parts of the proof: V93. -/
import Derived.Test.YtejkllmoofdpjaaGreatE44
namespace Go.Proofs.YtejkllmoofdpjaaGreat
open Go
set_option linter.all false
set_option maxRecDepth 100000
set_option maxHeartbeats 4000000
noncomputable section
open Classical
def T.sub2 : T → List T
 | .pair a b => [a, b]
 | _ => []
theorem sub2_args (t : T) : t.tm.args = t.sub2.map T.tm := by cases t <;> rfl
theorem sub2_lt {t x : T} (h : x ∈ t.sub2) : x.nodes < t.nodes := by
 cases t <;> simp [T.sub2] at h
 rename_i a b
 have := nodes_pos a
 have := nodes_pos b
 rcases h with rfl | rfl <;> simp only [T.nodes] <;> omega
theorem belT_iff {t : T} {n : Nat} : BelT t n ↔ (∀ x ∈ t.sub2, BelT x n) ∧ (t.tm.kind = 1 → t.tm.int < n) := by
 cases t with
 | pair a b =>
  simp only [T.sub2, List.forall_mem_cons, List.not_mem_nil, false_imp_iff, implies_true, and_true]
  exact ⟨fun h => ⟨⟨fun v hv => h v (.inl hv), fun v hv => h v (.inr hv)⟩, fun h => by simp [T.tm] at h⟩, fun h v hv => hv.elim (h.1.1 v) (h.1.2 v)⟩
 | var w => exact ⟨fun h => ⟨by simp [T.sub2], fun _ => h w rfl⟩, fun h v hv => by have hv : w = v := hv; subst hv; exact h.2 rfl⟩
 | _ => exact ⟨fun _ => ⟨by simp [T.sub2], fun h => by simp [T.tm] at h⟩, fun _ v hv => hv.elim⟩
instance below_s : Con2 Tryz.prog 239 T Nat vT nv (fun t n => bp (BelT t n)) (fun _ _ => True) := .ind (fun t _ => t.nodes) fun N ih t n hN _ => by
 have e1 : t.tm.argE = (t.sub2.map T.tm).map encT := by rw [argE_eq, rowsT_eq, sub2_args]
 have e2 : t.tm.args.length = t.sub2.length := by rw [sub2_args, List.length_map]
 have hl : t.sub2.length ≤ 2 := by cases t <;> simp [T.sub2]
 have hlen : ((t.sub2.map T.tm).map encT).length = t.sub2.length := by simp
 have hbt := belT_iff (t := t) (n := n)
 refine pu Tryz.func239 rfl Tryz.ntmps239 rfl rfl fun C => ?_
 (repeat' first | (refine kk ?_; intros) | refine kfk ?_ ?_ <;> intro hb | fail)
 rw [e1, e2]
 rename_i b1
 refine kfor (ι := Unit) t.sub2 (fun j _ => [(1, nv n), (2, .one (.v (.pointer (some ⟨b1, 0, none⟩)))), (8, .one (.s 4 ((t.sub2.map T.tm).map encT)))]) (fun j _ => [abox b1 (encT t.tm) 174]) (fun j _ => ∀ x ∈ t.sub2.take j, BelT x n) () (by simp) ?_ ?_
 ·rintro j x _ hj hdd hjl hp
  have hrow : ((t.sub2.map T.tm).map encT)[j]? = some (encT x.tm) := by simp [hj]
  have hm := List.mem_of_getElem? hj
  have p1 : x.nodes < N ∧ True := ⟨by have := sub2_lt hm; omega, trivial⟩
  (repeat' first | (refine kk ?_; intros) | refine kfk ?_ ?_ <;> intro hb | fail)
  all_goals first
   | exact ⟨(), take_succ_all hj hp (by assumption), kwk⟩
   | exact kret (bpF fun h => absurd ((hbt.1 h).1 x hm) (by assumption))
 ·rintro _ hp
  rw [List.take_length] at hp
  rw [bpC (hbt.trans ⟨fun h => h.2, fun h => ⟨hp, h⟩⟩)]
  (repeat' first | (refine kk ?_; intros) | refine kfk ?_ ?_ <;> intro hb | fail)
  all_goals first
   | exact kret (bpT fun h => absurd h (by assumption))
   | exact kret (bpI (b := decide (t.tm.int < (n : Int))) ⟨fun h _ => of_decide_eq_true h, fun h => decide_eq_true (h (by assumption))⟩)
instance within_s : Con2 Tryz.prog 192 Sb Nat vS nv (fun s n => bp (BelS s n)) (fun s _ => Sub s) := ⟨fun s n hs => by
 have hlen : ((s.map toB).map encB).length = s.length := by simp
 have hl1 := hs.vok.len
 have hl2 : Lng s.length := by unfold Lng; omega
 have p0 : True := trivial
 refine pu Tryz.func192 rfl Tryz.ntmps192 rfl rfl fun C => ?_
 (repeat' first | (refine kk ?_; intros) | refine kfk ?_ ?_ <;> intro hb | fail)
 refine kfor (ι := Unit) s (fun j _ => [(1, nv n), (7, vS s)]) (fun j _ => []) (fun j _ => ∀ b ∈ s.take j, (b.1 : Int) < n ∧ BelT b.2 n) () (by simp) ?_ ?_
 ·rintro j ⟨v, t⟩ _ hj hdd hjl hp
  have hrow : ((s.map toB).map encB)[j]? = some (.v (.int .i64 (v : Int)) :: encT t.tm) := by simp [hj, encB]
  have hm := List.mem_of_getElem? hj
  (repeat' first | (refine kk ?_; intros) | refine kfk ?_ ?_ <;> intro hb | fail)
  all_goals first
   | exact kret (bpF fun h => by have := (h _ hm).1; simp only at this; omega)
   | exact kret (bpF fun h => absurd (h _ hm).2 (by assumption))
   | exact ⟨(), take_succ_all hj hp ⟨by omega, by assumption⟩, kwk⟩
 ·rintro _ hp
  rw [List.take_length] at hp
  (repeat' first | (refine kk ?_; intros) | refine kfk ?_ ?_ <;> intro hb | fail)
  exact kret (bpT hp)⟩
instance alld_s : Con1 Tryz.prog 189 (List (List BdR)) vBss (fun l => bp (∀ d ∈ l, SubR d)) bdssIn := ⟨fun l ⟨hl, hin⟩ => by
 have hlen : (l.map (encL 5 encB)).length = l.length := List.length_map _
 haveI := substOk_s
 refine pu Tryz.func189 rfl Tryz.ntmps189 rfl rfl fun C => ?_
 (repeat' first | (refine kk ?_; intros) | refine kfk ?_ ?_ <;> intro hb | fail)
 refine kfor (ι := Unit) l (fun j _ => [(5, vBss l)]) (fun j _ => []) (fun j _ => ∀ d ∈ l.take j, SubR d) () (by simp) ?_ ?_
 ·rintro j d _ hj hdd hjl hp
  have hrow : (l.map (encL 5 encB))[j]? = some (encL 5 encB d) := by simp [hj]
  have hm := List.mem_of_getElem? hj
  have q1 : Lng d.length ∧ InB d := ⟨by have := (hin d hm).1; unfold Lng; omega, (hin d hm).2⟩
  (repeat' first | (refine kk ?_; intros) | refine kfk ?_ ?_ <;> intro hb | fail)
  all_goals first
   | exact kret (bpF fun h => absurd (h d hm) (by assumption))
   | exact ⟨(), take_succ_all hj hp (by assumption), kwk⟩
 ·rintro _ hp
  rw [List.take_length] at hp
  (repeat' first | (refine kk ?_; intros) | refine kfk ?_ ?_ <;> intro hb | fail)
  exact kret (bpT hp)⟩
theorem kindsOkR_s : Con1 Tryz.prog 190 (List VkR) vKr (fun l => bp (KOkR l)) (fun l => Lng l.length) := ⟨fun l hl => by
 have hlen : (l.map encK).length = l.length := by simp
 have p0 : True := trivial
 refine pu Tryz.func190 rfl Tryz.ntmps190 rfl rfl fun C => ?_
 (repeat' first | (refine kk ?_; intros) | refine kfk ?_ ?_ <;> intro hb | fail)
 refine kfor (ι := Unit) l (fun j _ => [(0, vKr l), (5, vKr l)]) (fun _ _ => []) (fun j _ => ∀ i, i < j → CK l i) () (fun _ h => absurd h (Nat.not_lt_zero _)) ?_ ?_
 ·rintro j ⟨v, k⟩ _ hj hd hjl hp
  have hrow : (l.map encK)[j]? = some [.v (.int .i64 v), .v (.int .i64 k)] := by simp [hj, encK]
  have hno : ¬ CK l j → ¬ KOkR l := fun h hk => h (hk j hjl)
  by_cases h0 : 0 < j
  ·obtain ⟨⟨v', k'⟩, hc⟩ : ∃ c, l[j - 1]? = some c := ⟨l[j - 1], List.getElem?_eq_getElem (by omega)⟩
   have hrow2 : (l.map encK)[j - 1]? = some [.v (.int .i64 v'), .v (.int .i64 k')] := by simp [hc, encK]
   have hck : CK l j ↔ (0 ≤ v ∧ v ≤ 100000) ∧ (k = 2 ∨ k = 3) ∧ v' < v := ⟨fun h => by
    have h1 := h _ hj
    exact ⟨h1.1, h1.2.1, h1.2.2 _ h0 hc⟩, fun h x hx => by
    rw [hj] at hx; cases hx
    exact ⟨h.1, h.2.1, fun y _ hy => by rw [hc] at hy; cases hy; exact h.2.2⟩⟩
   (repeat' first | (refine kk ?_; intros) | refine kfk ?_ ?_ <;> intro hb | fail)
   all_goals first
    | exact ⟨(), all_lt_succ hp (hck.2 (by omega)), kwk⟩
    | exact kret (bpF (hno fun h => by have := hck.1 h; omega))
  ·have hck : CK l j ↔ (0 ≤ v ∧ v ≤ 100000) ∧ (k = 2 ∨ k = 3) := ⟨fun h => by
    have h1 := h _ hj
    exact ⟨h1.1, h1.2.1⟩, fun h x hx => by
    rw [hj] at hx; cases hx
    exact ⟨h.1, h.2, fun y h => absurd h h0⟩⟩
   (repeat' first | (refine kk ?_; intros) | refine kfk ?_ ?_ <;> intro hb | fail)
   all_goals first
    | exact ⟨(), all_lt_succ hp (hck.2 (by omega)), kwk⟩
    | exact kret (bpF (hno fun h => by have := hck.1 h; omega))
 ·intro _ hp
  (repeat' first | (refine kk ?_; intros) | refine kfk ?_ ?_ <;> intro hb | fail)
  exact kret (bpT hp)⟩
theorem lessR_s : Con2 Tryz.prog 238 MkR MkR (fun m => .agg (encM m)) (fun m => .agg (encM m)) (fun a b => bp (lessR a b)) (fun _ _ => True) := ⟨fun a b _ => by
 refine pu Tryz.func238 rfl Tryz.ntmps238 rfl rfl fun C => ?_
 (repeat' first | (refine kk ?_; intros) | refine kfk ?_ ?_ <;> intro hb | fail)
 ·exact kret (bpT (.inl hb))
 ·exact kret (bpI ⟨fun h => .inr ⟨hb, h⟩, fun h => (h.resolve_left (by omega)).2⟩)
 ·exact kret (bpF fun h => h.elim (by assumption) fun h => hb h.1)⟩
theorem marksOkR_s : Con1 Tryz.prog 191 (List MkR) vMr (fun l => bp (MOkR l)) (fun l => Lng l.length ∧ ∀ m ∈ l, Lng m.2.size) := ⟨fun l ⟨hl, hls⟩ => by
 haveI := lessR_s
 have hlen : (l.map encM).length = l.length := by simp
 refine pu Tryz.func191 rfl Tryz.ntmps191 rfl rfl fun C => ?_
 (repeat' first | (refine kk ?_; intros) | refine kfk ?_ ?_ <;> intro hb | fail)
 refine kfor (ι := Unit) l (fun j _ => [(0, vMr l), (5, vMr l)]) (fun _ _ => []) (fun j _ => ∀ i, i < j → CM l i) () (fun _ h => absurd h (Nat.not_lt_zero _)) ?_ ?_
 ·rintro j x _ hj hd hjl hp
  have hrow : (l.map encM)[j]? = some (encM x) := by simp [hj]
  have hno : ¬ CM l j → ¬ MOkR l := fun h hk => h (hk j hjl)
  have hxs := hls x (List.mem_of_getElem? hj)
  have p0 : True := trivial
  by_cases h0 : 0 < j
  ·obtain ⟨y, hc⟩ : ∃ c, l[j - 1]? = some c := ⟨l[j - 1], List.getElem?_eq_getElem (by omega)⟩
   have hrow2 : (l.map encM)[j - 1]? = some (encM y) := by simp [hc]
   have hck : CM l j ↔ (0 ≤ x.1 ∧ x.1 ≤ 100000) ∧ NameP x.2 ∧ lessR y x := ⟨fun h => by
    have h1 := h _ hj
    exact ⟨h1.1, h1.2.1, h1.2.2 _ h0 hc⟩, fun h z hz => by
    rw [hj] at hz; cases hz
    exact ⟨h.1, h.2.1, fun y' _ hy => by rw [hc] at hy; cases hy; exact h.2.2⟩⟩
   (repeat' first | (refine kk ?_; intros) | refine kfk ?_ ?_ <;> intro hb | fail)
   all_goals first
    | exact ⟨(), all_lt_succ hp (hck.2 ⟨by omega, by assumption, by assumption⟩), kwk⟩
    | exact kret (bpF (hno fun h => by have := (hck.1 h).1; omega))
    | exact kret (bpF (hno fun h => absurd (hck.1 h).2.1 (by assumption)))
    | exact kret (bpF (hno fun h => absurd (hck.1 h).2.2 (by assumption)))
  ·have hck : CM l j ↔ (0 ≤ x.1 ∧ x.1 ≤ 100000) ∧ NameP x.2 := ⟨fun h => by
    have h1 := h _ hj
    exact ⟨h1.1, h1.2.1⟩, fun h z hz => by
    rw [hj] at hz; cases hz
    exact ⟨h.1, h.2, fun y h => absurd h h0⟩⟩
   (repeat' first | (refine kk ?_; intros) | refine kfk ?_ ?_ <;> intro hb | fail)
   all_goals first
    | exact ⟨(), all_lt_succ hp (hck.2 ⟨by omega, by assumption⟩), kwk⟩
    | exact kret (bpF (hno fun h => by have := (hck.1 h).1; omega))
    | exact kret (bpF (hno fun h => absurd (hck.1 h).2 (by assumption)))
 ·intro _ hp
  (repeat' first | (refine kk ?_; intros) | refine kfk ?_ ?_ <;> intro hb | fail)
  exact kret (bpT hp)⟩
end
end Go.Proofs.YtejkllmoofdpjaaGreat
