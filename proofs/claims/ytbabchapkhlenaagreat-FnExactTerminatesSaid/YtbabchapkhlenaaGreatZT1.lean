/- Parts of the proof: VP5 VP6 V60 V82 V83. -/
import Derived.Test.YtbabchapkhlenaaGreatZ48
namespace Go.Proofs.YtbabchapkhlenaaGreat
open Go
set_option linter.all false
set_option maxRecDepth 100000
set_option maxHeartbeats 4000000
noncomputable section
open Classical
structure Comp {G : Type} (okg : G → Prop) (meets : G → G → Prop) (comp : G → G → G) : Prop where
 okc : ∀ a b, okg a → okg b → meets a b → okg (comp a b)
 left : ∀ a b d, meets a (comp b d) ↔ meets a b
 right : ∀ a b d, meets (comp a b) d ↔ meets b d
 assoc : ∀ a b d, okg a → okg b → okg d → comp (comp a b) d = comp a (comp b d)
section
variable {G : Type} {okg : G → Prop} {meets : G → G → Prop} {comp : G → G → G} {c : G → G → Int}
inductive Clo (meets : G → G → Prop) (comp : G → G → G) (first : List G) : G → Prop
 | base {g : G} : g ∈ first → Clo meets comp first g
 | step {a b : G} : Clo meets comp first a → Clo meets comp first b → meets a b → Clo meets comp first (comp a b)
inductive RClo (meets : G → G → Prop) (comp : G → G → G) (first : List G) : G → Prop
 | base {g : G} : g ∈ first → RClo meets comp first g
 | step {a b : G} : RClo meets comp first a → b ∈ first → meets a b → RClo meets comp first (comp a b)
theorem RClo.fine (H : Comp okg meets comp) {first : List G} (hf : ∀ g ∈ first, okg g) {g : G} (h : RClo meets comp first g) : okg g := by
 induction h with
 | base h => exact hf _ h
 | step _ hb hm ih => exact H.okc _ _ ih (hf _ hb) hm
theorem RClo.mul (H : Comp okg meets comp) {first : List G} (hf : ∀ g ∈ first, okg g) {a b : G} (ha : RClo meets comp first a) (hb : RClo meets comp first b) : meets a b → RClo meets comp first (comp a b) := by
 induction hb with
 | base h => exact fun hm => .step ha h hm
 | step hb' hd hm' ih =>
  intro hm
  have h1 := ih ((H.left _ _ _).1 hm)
  have := RClo.step h1 hd ((H.right _ _ _).2 hm')
  rwa [H.assoc _ _ _ (ha.fine H hf) (hb'.fine H hf) (hf _ hd)] at this
theorem clo_iff (H : Comp okg meets comp) {first : List G} (hf : ∀ g ∈ first, okg g) {g : G} : Clo meets comp first g ↔ RClo meets comp first g := by
 constructor
 ·intro h
  induction h with
  | base h => exact .base h
  | step _ _ hm h1 h2 => exact h1.mul H hf h2 hm
 ·intro h
  induction h with
  | base h => exact .base h
  | step _ hb hm ih => exact .step ih (.base hb) hm
def closeF (c : G → G → Int) (meets : G → G → Prop) (comp : G → G → G) (N : Nat) (first : List G) : Option (List G) :=
 if h : ∃ l : List G, Strict c l ∧ l.length ≤ N ∧ ∀ g, g ∈ l ↔ Clo meets comp first g then some h.choose else none
theorem closeF_some (hc : TotC c) {N : Nat} {first l : List G} (hs : Strict c l) (hl : l.length ≤ N) (h : ∀ g, g ∈ l ↔ Clo meets comp first g) : closeF c meets comp N first = some l := by
 have hx : ∃ l : List G, Strict c l ∧ l.length ≤ N ∧ ∀ g, g ∈ l ↔ Clo meets comp first g := ⟨l, hs, hl, h⟩
 unfold closeF
 rw [dif_pos hx]
 congr 1
 exact strict_ext hc hx.choose_spec.1 hs fun g => (hx.choose_spec.2.2 g).trans (h g).symm
theorem closeF_none {N : Nat} {first l : List G} (hn : l.Nodup) (hl : N < l.length) (h : ∀ g ∈ l, Clo meets comp first g) : closeF c meets comp N first = none := by
 unfold closeF
 rw [dif_neg]
 rintro ⟨m, _, h2, h3⟩
 have := nodup_len hn fun g hg => (h3 g).2 (h g hg)
 omega
theorem strict_nodup (hc : TotC c) {l : List G} (h : Strict c l) : l.Nodup := h.imp fun {a b} h e => by rw [e, hc.self] at h; cases h
theorem closed_right (H : Comp okg meets comp) {first all : List G} (hf : ∀ g ∈ first, okg g) (h1 : ∀ g ∈ first, g ∈ all) (h2 : ∀ g ∈ all, RClo meets comp first g) (h3 : ∀ a ∈ all, ∀ b ∈ first, meets a b → comp a b ∈ all) (g : G) : g ∈ all ↔ Clo meets comp first g := by
 rw [clo_iff H hf]
 refine ⟨h2 g, fun h => ?_⟩
 induction h with
 | base h => exact h1 _ h
 | step _ hb hm ih => exact h3 _ ih _ hb hm
theorem closed_all {first all : List G} (h1 : ∀ g ∈ first, g ∈ all) (h2 : ∀ g ∈ all, Clo meets comp first g) (h3 : ∀ a ∈ all, ∀ b ∈ all, meets a b → comp a b ∈ all) (g : G) : g ∈ all ↔ Clo meets comp first g := by
 refine ⟨h2 g, fun h => ?_⟩
 induction h with
 | base h => exact h1 _ h
 | step _ _ hm ih1 ih2 => exact h3 _ ih1 _ ih2 hm
end
end
noncomputable section
open Classical
def cBo (a b : Bool) : Int := if a = b then 0 else if b = true then -1 else 1
theorem cBo_tot : TotC cBo := ⟨by decide, by decide, by decide, by decide⟩
abbrev cArc : ArcP → ArcP → Int := prodC cNat (prodC cNat cBo)
theorem cArc_tot : TotC cArc := cNat_tot.prod (cNat_tot.prod cBo_tot)
def cG (a b : Gr) : Int := prodC cB (prodC cB (lexC cArc)) (a.caller, a.callee, a.arcs) (b.caller, b.callee, b.arcs)
theorem cG_tot : TotC cG := (cB_tot.prod (cB_tot.prod cArc_tot.lex)).by (f := fun g : Gr => (g.caller, g.callee, g.arcs)) fun a b h => by
 cases a; cases b; simp only [Prod.mk.injEq] at h; obtain ⟨rfl, rfl, rfl⟩ := h; rfl
def fnd (a b : List ArcP) (i k : Nat) : Prop := ∃ x ∈ a, ∃ y ∈ b, x.1 = i ∧ x.2.1 = y.1 ∧ y.2.1 = k
def strt (a b : List ArcP) (i k : Nat) : Prop := ∃ x ∈ a, ∃ y ∈ b, x.1 = i ∧ x.2.1 = y.1 ∧ y.2.1 = k ∧ (x.2.2 = true ∨ y.2.2 = true)
def rowA (a b : List ArcP) (i k : Nat) : List ArcP := if fnd a b i k then [(i, k, decide (strt a b i k))] else []
def colsA (a b : List ArcP) (i : Nat) : Nat → List ArcP
 | 0 => []
 | k + 1 => colsA a b i k ++ rowA a b i k
def rowsA (a b : List ArcP) : Nat → List ArcP
 | 0 => []
 | i + 1 => rowsA a b i ++ colsA a b i 4
def compA (a b : List ArcP) : List ArcP := rowsA a b 4
def meetsG (a b : Gr) : Prop := a.callee = b.caller
def compG (a b : Gr) : Gr := ⟨a.caller, b.callee, compA a.arcs b.arcs⟩
theorem mem_colsA {a b : List ArcP} {i : Nat} {x : ArcP} : ∀ {n : Nat}, x ∈ colsA a b i n ↔ x.1 = i ∧ x.2.1 < n ∧ fnd a b i x.2.1 ∧ x.2.2 = decide (strt a b i x.2.1)
 | 0 => by simp [colsA]
 | n + 1 => by
  unfold colsA
  rw [List.mem_append, mem_colsA, rowA]
  obtain ⟨u, v, s⟩ := x
  simp only
  constructor
  ·rintro (⟨h1, h2, h3, h4⟩ | h)
   ·exact ⟨h1, by omega, h3, h4⟩
   ·split at h
    ·rename_i hf
     obtain ⟨rfl, rfl, rfl⟩ : u = i ∧ v = n ∧ s = _ := by simpa using h
     exact ⟨rfl, by omega, hf, rfl⟩
    ·cases h
  ·rintro ⟨h1, h2, h3, h4⟩
   by_cases hv : v = n
   ·subst hv; right; rw [if_pos h3, h1, h4]; simp
   ·exact .inl ⟨h1, by omega, h3, h4⟩
theorem mem_rowsA {a b : List ArcP} {x : ArcP} : ∀ {n : Nat}, x ∈ rowsA a b n ↔ x.1 < n ∧ x.2.1 < 4 ∧ fnd a b x.1 x.2.1 ∧ x.2.2 = decide (strt a b x.1 x.2.1)
 | 0 => by simp [rowsA]
 | n + 1 => by
  unfold rowsA
  rw [List.mem_append, mem_rowsA, mem_colsA]
  constructor
  ·rintro (⟨h1, h2, h3, h4⟩ | ⟨h1, h2, h3, h4⟩)
   ·exact ⟨by omega, h2, h3, h4⟩
   ·subst h1; exact ⟨by omega, h2, h3, h4⟩
  ·rintro ⟨h1, h2, h3, h4⟩
   by_cases hv : x.1 = n
   ·subst hv; exact .inr ⟨rfl, h2, h3, h4⟩
   ·exact .inl ⟨by omega, h2, h3, h4⟩
theorem colsA_asc {a b : List ArcP} {i : Nat} : ∀ n : Nat, (colsA a b i n).Pairwise fun a b => a.1 < b.1 ∨ a.1 = b.1 ∧ a.2.1 < b.2.1
 | 0 => .nil
 | n + 1 => by
  unfold colsA
  refine List.pairwise_append.2 ⟨colsA_asc n, by unfold rowA; split <;> simp, fun x hx y hy => ?_⟩
  have hx := mem_colsA.1 hx
  unfold rowA at hy
  split at hy
  ·obtain rfl := List.mem_singleton.1 hy
   exact .inr ⟨hx.1, hx.2.1⟩
  ·cases hy
theorem rowsA_asc {a b : List ArcP} : ∀ n : Nat, (rowsA a b n).Pairwise fun a b => a.1 < b.1 ∨ a.1 = b.1 ∧ a.2.1 < b.2.1
 | 0 => .nil
 | n + 1 => by
  unfold rowsA
  refine List.pairwise_append.2 ⟨rowsA_asc n, colsA_asc 4, fun x hx y hy => ?_⟩
  have hx := mem_rowsA.1 hx
  have hy := mem_colsA.1 hy
  exact .inl (by omega)
theorem compA_ok (a b : List ArcP) : ArcsOk (compA a b) := ⟨rowsA_asc 4, fun x hx => ⟨(mem_rowsA.1 hx).1, (mem_rowsA.1 hx).2.1⟩⟩
theorem arcs_ext {l m : List ArcP} (hl : ArcsOk l) (hm : ArcsOk m) (h : ∀ x, x ∈ l ↔ x ∈ m) : l = m :=
 sorted_ext (r := fun a b : ArcP => a.1 < b.1 ∨ a.1 = b.1 ∧ a.2.1 < b.2.1) (fun a h => by omega) (fun _ _ _ h1 h2 => by omega) hl.asc hm.asc h
theorem mem_compA {a b : List ArcP} (ha : ArcsOk a) (hb : ArcsOk b) {i k : Nat} {s : Bool} : (i, k, s) ∈ compA a b ↔ fnd a b i k ∧ s = decide (strt a b i k) := by
 unfold compA
 rw [mem_rowsA]
 simp only
 constructor
 ·rintro ⟨_, _, h⟩; exact h
 ·rintro ⟨⟨x, hx, y, hy, h1, h2, h3⟩, h⟩
  exact ⟨by have := (ha.lt x hx).1; omega, by have := (hb.lt y hy).2; omega, ⟨x, hx, y, hy, h1, h2, h3⟩, h⟩
theorem fnd_left {a b c : List ArcP} (ha : ArcsOk a) (hb : ArcsOk b) {i k : Nat} : fnd (compA a b) c i k ↔ ∃ x ∈ a, ∃ y ∈ b, ∃ z ∈ c, x.1 = i ∧ x.2.1 = y.1 ∧ y.2.1 = z.1 ∧ z.2.1 = k := by
 constructor
 ·rintro ⟨⟨u, v, s⟩, hx, z, hz, h1, h2, h3⟩
  obtain ⟨⟨x, hx, y, hy, e1, e2, e3⟩, _⟩ := (mem_compA ha hb).1 hx
  simp only at h1 h2
  exact ⟨x, hx, y, hy, z, hz, by omega, e2, by omega, h3⟩
 ·rintro ⟨x, hx, y, hy, z, hz, e1, e2, e3, e4⟩
  exact ⟨(i, y.2.1, _), (mem_compA ha hb).2 ⟨⟨x, hx, y, hy, e1, e2, rfl⟩, rfl⟩, z, hz, rfl, e3, e4⟩
theorem fnd_right {a b c : List ArcP} (hb : ArcsOk b) (hc : ArcsOk c) {i k : Nat} : fnd a (compA b c) i k ↔ ∃ x ∈ a, ∃ y ∈ b, ∃ z ∈ c, x.1 = i ∧ x.2.1 = y.1 ∧ y.2.1 = z.1 ∧ z.2.1 = k := by
 constructor
 ·rintro ⟨x, hx, ⟨u, v, s⟩, hz, h1, h2, h3⟩
  obtain ⟨⟨y, hy, z, hz, e1, e2, e3⟩, _⟩ := (mem_compA hb hc).1 hz
  simp only at h2 h3
  exact ⟨x, hx, y, hy, z, hz, h1, by omega, e2, by omega⟩
 ·rintro ⟨x, hx, y, hy, z, hz, e1, e2, e3, e4⟩
  exact ⟨x, hx, (y.1, k, _), (mem_compA hb hc).2 ⟨⟨y, hy, z, hz, rfl, e3, e4⟩, rfl⟩, e1, e2, rfl⟩
theorem strt_left {a b c : List ArcP} (ha : ArcsOk a) (hb : ArcsOk b) {i k : Nat} : strt (compA a b) c i k ↔ ∃ x ∈ a, ∃ y ∈ b, ∃ z ∈ c, x.1 = i ∧ x.2.1 = y.1 ∧ y.2.1 = z.1 ∧ z.2.1 = k ∧ (x.2.2 = true ∨ y.2.2 = true ∨ z.2.2 = true) := by
 constructor
 ·rintro ⟨⟨u, v, s⟩, hx, z, hz, h1, h2, h3, h4⟩
  obtain ⟨⟨x, hx, y, hy, e1, e2, e3⟩, hs⟩ := (mem_compA ha hb).1 hx
  simp only at h1 h2 h4
  rcases h4 with h4 | h4
  ·rw [h4] at hs
   obtain ⟨x, hx, y, hy, e1, e2, e3, e4⟩ := of_decide_eq_true hs.symm
   exact ⟨x, hx, y, hy, z, hz, by omega, e2, by omega, h3, by rcases e4 with e | e <;> simp [e]⟩
  ·exact ⟨x, hx, y, hy, z, hz, by omega, e2, by omega, h3, by simp [h4]⟩
 ·rintro ⟨x, hx, y, hy, z, hz, e1, e2, e3, e4, e5⟩
  refine ⟨(i, y.2.1, _), (mem_compA ha hb).2 ⟨⟨x, hx, y, hy, e1, e2, rfl⟩, rfl⟩, z, hz, rfl, e3, e4, ?_⟩
  rcases e5 with e | e | e
  ·exact .inl (decide_eq_true ⟨x, hx, y, hy, e1, e2, rfl, .inl e⟩)
  ·exact .inl (decide_eq_true ⟨x, hx, y, hy, e1, e2, rfl, .inr e⟩)
  ·exact .inr e
theorem strt_right {a b c : List ArcP} (hb : ArcsOk b) (hc : ArcsOk c) {i k : Nat} : strt a (compA b c) i k ↔ ∃ x ∈ a, ∃ y ∈ b, ∃ z ∈ c, x.1 = i ∧ x.2.1 = y.1 ∧ y.2.1 = z.1 ∧ z.2.1 = k ∧ (x.2.2 = true ∨ y.2.2 = true ∨ z.2.2 = true) := by
 constructor
 ·rintro ⟨x, hx, ⟨u, v, s⟩, hz, h1, h2, h3, h4⟩
  obtain ⟨⟨y, hy, z, hz, e1, e2, e3⟩, hs⟩ := (mem_compA hb hc).1 hz
  simp only at h2 h3 h4
  rcases h4 with h4 | h4
  ·exact ⟨x, hx, y, hy, z, hz, h1, by omega, e2, by omega, by simp [h4]⟩
  ·rw [h4] at hs
   obtain ⟨y, hy, z, hz, e1, e2, e3, e4⟩ := of_decide_eq_true hs.symm
   exact ⟨x, hx, y, hy, z, hz, h1, by omega, e2, by omega, by rcases e4 with e | e <;> simp [e]⟩
 ·rintro ⟨x, hx, y, hy, z, hz, e1, e2, e3, e4, e5⟩
  refine ⟨x, hx, (y.1, k, _), (mem_compA hb hc).2 ⟨⟨y, hy, z, hz, rfl, e3, e4⟩, rfl⟩, e1, e2, rfl, ?_⟩
  rcases e5 with e | e | e
  ·exact .inl e
  ·exact .inr (decide_eq_true ⟨y, hy, z, hz, rfl, e3, e4, .inl e⟩)
  ·exact .inr (decide_eq_true ⟨y, hy, z, hz, rfl, e3, e4, .inr e⟩)
theorem compA_assoc {a b c : List ArcP} (ha : ArcsOk a) (hb : ArcsOk b) (hc : ArcsOk c) : compA (compA a b) c = compA a (compA b c) :=
 arcs_ext (compA_ok _ _) (compA_ok _ _) fun ⟨i, k, s⟩ => by
  rw [mem_compA (compA_ok _ _) hc, mem_compA ha (compA_ok _ _)]
  have h1 : fnd (compA a b) c i k ↔ fnd a (compA b c) i k := (fnd_left ha hb).trans (fnd_right hb hc).symm
  have h2 : strt (compA a b) c i k ↔ strt a (compA b c) i k := (strt_left ha hb).trans (strt_right hb hc).symm
  simp only [h1, h2]
theorem compG_law : Comp (fun g : Gr => ArcsOk g.arcs) meetsG compG := ⟨fun _ _ _ _ _ => compA_ok _ _, fun _ _ _ => .rfl, fun _ _ _ => .rfl, fun a b d ha hb hd => by
 unfold compG; simp only; rw [compA_assoc ha hb hd]⟩
end
noncomputable section
theorem relYes_i : Con1 Tryz.prog 101 ByteArray sv (fun _ => bv true) RelP := ⟨fun s hs => by
 have h := relName_i.h s (relP_lng hs)
 rwa [show bp (RelP s) = bv true from (bpT hs).symm] at h⟩
theorem graphYes_i : Con1 Tryz.prog 82 Gr vGr (fun _ => bv true) GrOk := ⟨fun g hg => by
 haveI := relYes_i
 obtain ⟨c1, c2, l⟩ := g
 obtain ⟨ha, hr1, hr2⟩ := hg
 simp only at ha hr1 hr2
 have hlen : (l.map encA).length = l.length := by simp
 have hll := ha.len
 have hl1 : Lng l.length := by unfold Lng; omega
 refine pu Tryz.func82 rfl Tryz.ntmps82 rfl rfl fun C => ?_
 (repeat' first | (refine kk ?_; intros) | refine kfk ?_ ?_ <;> intro hb | fail)
 rename_i b1
 refine kfor (ι := Unit) l (fun j _ => [(1, .one (.v (.pointer (some ⟨b1, 0, none⟩)))), (7, .one (.s 3 (l.map encA)))]) (fun j _ => [abox b1 [.v (.string c1), .v (.string c2), .s 3 (l.map encA)] 59]) (fun j _ => True) () trivial ?_ ?_
 ·rintro j ⟨f, t, s⟩ _ hj hd hjl _
  have hrow : (l.map encA)[j]? = some [.v (.int .i64 (f : Int)), .v (.int .i64 (t : Int)), .v (.bool s)] := by simp [hj, encA]
  have hm := ha.lt _ (List.mem_of_getElem? hj)
  simp only at hm
  have hm1 : ¬ (f : Int) < 0 := by omega
  have hm2 : (f : Int) < 4 := by omega
  have hm3 : (t : Int) < 4 := by omega
  by_cases h0 : 0 < j
  ·obtain ⟨⟨f', t', s'⟩, hc⟩ : ∃ c, l[j - 1]? = some c := ⟨l[j - 1], List.getElem?_eq_getElem (by omega)⟩
   have hrow2 : (l.map encA)[j - 1]? = some [.v (.int .i64 (f' : Int)), .v (.int .i64 (t' : Int)), .v (.bool s')] := by simp [hc, encA]
   have hlt := asc_get ha.asc hc hj (by omega)
   simp only at hlt
   (repeat' first | (refine kk ?_; intros) | refine kfk ?_ ?_ <;> intro hb | fail)
   all_goals first
    | exact ⟨(), trivial, kwk⟩
    | (exfalso; omega)
  ·(repeat' first | (refine kk ?_; intros) | refine kfk ?_ ?_ <;> intro hb | fail)
   all_goals first
    | exact ⟨(), trivial, kwk⟩
    | (exfalso; omega)
 ·intro _ _
  (repeat' first | (refine kk ?_; intros) | refine kfk ?_ ?_ <;> intro hb | fail)
  exact kret rfl⟩
theorem cB_ne {a b : ByteArray} (h : a ≠ b) : cB a b = if Op.bytesLess a.toList b.toList = true then -1 else 1 := by unfold cB; rw [if_neg h]
theorem cG_caller {a b : Gr} (h : a.caller ≠ b.caller) : cG a b = if Op.bytesLess a.caller.toList b.caller.toList = true then -1 else 1 := by
 have h1 : cB a.caller b.caller ≠ 0 := fun e => h ((cB_tot.eq _ _).1 e)
 show (if cB a.caller b.caller ≠ 0 then cB a.caller b.caller else _) = _
 rw [if_pos h1, cB_ne h]
theorem cG_callee {a b : Gr} (h0 : a.caller = b.caller) (h : a.callee ≠ b.callee) : cG a b = if Op.bytesLess a.callee.toList b.callee.toList = true then -1 else 1 := by
 have h1 : cB a.callee b.callee ≠ 0 := fun e => h ((cB_tot.eq _ _).1 e)
 show (if cB a.caller b.caller ≠ 0 then cB a.caller b.caller else if cB a.callee b.callee ≠ 0 then cB a.callee b.callee else _) = _
 rw [if_neg (by rw [h0, cB_tot.self]; simp), if_pos h1, cB_ne h]
theorem cG_arcs {a b : Gr} (h0 : a.caller = b.caller) (h : a.callee = b.callee) : cG a b = lexC cArc a.arcs b.arcs := by
 show (if cB a.caller b.caller ≠ 0 then cB a.caller b.caller else if cB a.callee b.callee ≠ 0 then cB a.callee b.callee else _) = _
 rw [if_neg (by rw [h0, cB_tot.self]; simp), if_neg (by rw [h, cB_tot.self]; simp)]
theorem cArc_0 {f f' t t' : Nat} {s s' : Bool} {z : Int} (h : ¬ cI (f : Int) f' = 0) : (if cArc (f, t, s) (f', t', s') ≠ 0 then cArc (f, t, s) (f', t', s') else z) = cI (f : Int) f' := by
 have e : cArc (f, t, s) (f', t', s') = cI (f : Int) f' := by
  show (if cI (f : Int) f' ≠ 0 then cI (f : Int) f' else _) = _
  rw [if_pos h]
 rw [e, if_pos h]
theorem cArc_1 {f t t' : Nat} {s s' : Bool} {z : Int} (h : ¬ cI (t : Int) t' = 0) : (if cArc (f, t, s) (f, t', s') ≠ 0 then cArc (f, t, s) (f, t', s') else z) = cI (t : Int) t' := by
 have e : cArc (f, t, s) (f, t', s') = cI (t : Int) t' := by
  show (if cI (f : Int) f ≠ 0 then cI (f : Int) f else if cI (t : Int) t' ≠ 0 then cI (t : Int) t' else _) = _
  rw [if_neg (by rw [cI_tot.self]; simp), if_pos h]
 rw [e, if_pos h]
theorem cArc_2 {f t : Nat} {s s' : Bool} {z : Int} : (if cArc (f, t, s) (f, t, s') ≠ 0 then cArc (f, t, s) (f, t, s') else z) = if cBo s s' ≠ 0 then cBo s s' else z := by
 have e : cArc (f, t, s) (f, t, s') = cBo s s' := by
  show (if cI (f : Int) f ≠ 0 then cI (f : Int) f else if cI (t : Int) t ≠ 0 then cI (t : Int) t else _) = _
  rw [if_neg (by rw [cI_tot.self]; simp), if_neg (by rw [cI_tot.self]; simp)]
 rw [e]
instance orderGraphs_c : Con2 Tryz.prog 45 Gr Gr vGr vGr (fun a b => iv (cG a b)) (fun a b => a.arcs.length ≤ 16 ∧ b.arcs.length ≤ 16) := ⟨fun a b ⟨hla, hlb⟩ => by
 obtain ⟨a1, a2, l⟩ := a
 obtain ⟨b1, b2, m⟩ := b
 simp only at hla hlb
 have hlen1 : (l.map encA).length = l.length := by simp
 have hlen2 : (m.map encA).length = m.length := by simp
 refine pu Tryz.func45 rfl Tryz.ntmps45 rfl rfl fun C => ?_
 (repeat' first | (refine kk ?_; intros) | refine kfk ?_ ?_ <;> intro hb | fail)
 ·rename_i g1
  rw [cG_caller (by exact g1), if_pos hb]
  exact kret rfl
 ·rename_i g1
  rw [cG_caller (by exact g1), if_neg (by simp only [hb]; simp)]
  exact kret rfl
 ·rename_i g0 g1
  rw [cG_callee (by exact g0) (by exact g1), if_pos hb]
  exact kret rfl
 ·rename_i g0 g1
  rw [cG_callee (by exact g0) (by exact g1), if_neg (by simp only [hb]; simp)]
  exact kret rfl
 ·rename_i p q g0
  rw [show cG ⟨a1, a2, l⟩ ⟨b1, b2, m⟩ = lexC cArc l m from cG_arcs (by exact g0) (by exact hb)]
  refine kloop (ι := Nat) (fun i => l.length - i) (fun i => [(2, .one (.v (.pointer (some ⟨p, 0, none⟩)))), (3, .one (.v (.pointer (some ⟨q, 0, none⟩)))), (5, nv i)]) (fun _ => [abox q [.v (.string b1), .v (.string b2), .s 3 (m.map encA)] 59, abox p [.v (.string a1), .v (.string a2), .s 3 (l.map encA)] 59]) (fun i => (i ≤ l.length ∧ i ≤ m.length) ∧ lexC cArc l m = lexC cArc (l.drop i) (m.drop i)) 0 ⟨⟨Nat.zero_le _, Nat.zero_le _⟩, rfl⟩ ?_
  rintro i ⟨⟨h1, h2⟩, h3⟩
  by_cases hi : i < l.length
  ·by_cases hj : i < m.length
   ·obtain ⟨⟨f, t, s⟩, hx⟩ : ∃ y, l[i]? = some y := ⟨l[i], List.getElem?_eq_getElem hi⟩
    obtain ⟨⟨f', t', s'⟩, hy⟩ : ∃ y, m[i]? = some y := ⟨m[i], List.getElem?_eq_getElem hj⟩
    have hr1 : (l.map encA)[i]? = some [.v (.int .i64 (f : Int)), .v (.int .i64 (t : Int)), .v (.bool s)] := by simp [hx, encA]
    have hr2 : (m.map encA)[i]? = some [.v (.int .i64 (f' : Int)), .v (.int .i64 (t' : Int)), .v (.bool s')] := by simp [hy, encA]
    have hs := lexC_drop (c := cArc) hx hy
    rw [← h3] at hs
    by_cases e1 : f = f'
    ·subst e1
     have z1 : cI (f : Int) f = 0 := cI_tot.self _
     by_cases e2 : t = t'
     ·subst e2
      have z2 : cI (t : Int) t = 0 := cI_tot.self _
      rw [cArc_2] at hs
      cases s <;> cases s'
      ·(repeat' first | (refine kk ?_; intros) | refine kfk ?_ ?_ <;> intro hb | fail)
       refine kr ?_ (h := P_neB (a := false) (b := false) _ _ rfl rfl)
       (repeat' first | (refine kk ?_; intros) | refine kfk ?_ ?_ <;> intro hb | fail)
       exact ⟨i + 1, by omega, ⟨⟨by omega, by omega⟩, hs⟩, kwk⟩
      ·(repeat' first | (refine kk ?_; intros) | refine kfk ?_ ?_ <;> intro hb | fail)
       refine kr ?_ (h := P_neB (a := false) (b := true) _ _ rfl rfl)
       (repeat' first | (refine kk ?_; intros) | refine kfk ?_ ?_ <;> intro hb | fail)
       rw [hs]; exact kret rfl
      ·(repeat' first | (refine kk ?_; intros) | refine kfk ?_ ?_ <;> intro hb | fail)
       refine kr ?_ (h := P_neB (a := true) (b := false) _ _ rfl rfl)
       (repeat' first | (refine kk ?_; intros) | refine kfk ?_ ?_ <;> intro hb | fail)
       rw [hs]; exact kret rfl
      ·(repeat' first | (refine kk ?_; intros) | refine kfk ?_ ?_ <;> intro hb | fail)
       refine kr ?_ (h := P_neB (a := true) (b := true) _ _ rfl rfl)
       (repeat' first | (refine kk ?_; intros) | refine kfk ?_ ?_ <;> intro hb | fail)
       exact ⟨i + 1, by omega, ⟨⟨by omega, by omega⟩, hs⟩, kwk⟩
     ·have n2 : ¬ cI (t : Int) t' = 0 := fun e => e2 (by have := (cI_tot.eq _ _).1 e; omega)
      have n2' : ¬ (t : Int) = t' := by omega
      rw [cArc_1 n2] at hs
      (repeat' first | (refine kk ?_; intros) | refine kfk ?_ ?_ <;> intro hb | fail)
      rw [hs]; exact kret rfl
    ·have n1 : ¬ cI (f : Int) f' = 0 := fun e => e1 (by have := (cI_tot.eq _ _).1 e; omega)
     have n1' : ¬ (f : Int) = f' := by omega
     rw [cArc_0 n1] at hs
     (repeat' first | (refine kk ?_; intros) | refine kfk ?_ ?_ <;> intro hb | fail)
     rw [hs]; exact kret rfl
   ·have hz := lexC_end (c := cArc) h1 h2 (.inr (by omega))
    rw [← h3] at hz
    have hjm : i = m.length := by omega
    (repeat' first | (refine kk ?_; intros) | refine kfk ?_ ?_ <;> intro hb | fail)
    rw [hz]; exact kret rfl
  ·have hz := lexC_end (c := cArc) h1 h2 (.inl (by omega))
   rw [← h3] at hz
   have hjl : i = l.length := by omega
   (repeat' first | (refine kk ?_; intros) | refine kfk ?_ ?_ <;> intro hb | fail)
   rw [hz]; exact kret rfl⟩
end
noncomputable section
open Classical
abbrev zGr : List D := [.v (.string noS), .v (.string noS), .v (.slice none 0 0)]
theorem colsA_len {a b : List ArcP} {i : Nat} : ∀ n : Nat, (colsA a b i n).length ≤ n
 | 0 => by simp [colsA]
 | n + 1 => by
  unfold colsA
  have := colsA_len (a := a) (b := b) (i := i) n
  rw [List.length_append]
  unfold rowA
  split <;> simp <;> omega
theorem rowsA_len {a b : List ArcP} : ∀ n : Nat, (rowsA a b n).length ≤ 4 * n
 | 0 => by simp [rowsA]
 | n + 1 => by
  unfold rowsA
  have := rowsA_len (a := a) (b := b) n
  have := colsA_len (a := a) (b := b) (i := n) 4
  rw [List.length_append]
  omega
theorem composeN_c (a b : Gr) (ha : GrOk a) (hb : GrOk b) (hm : ¬ a.callee = b.caller) : Spec Tryz.prog 44 [vGr a, vGr b] [] fun v A' => v = .tup [.agg zGr, bv false] ∧ A' = [] := by
 have hla := ha.arcs.len
 have hlb := hb.arcs.len
 have hl1 : (a.arcs.map encA).length = a.arcs.length := by simp
 have hl2 : (b.arcs.map encA).length = b.arcs.length := by simp
 haveI := graphYes_i
 refine sp Tryz.func44 rfl Tryz.ntmps44 rfl rfl fun C => ?_
 (repeat' first | (refine kk ?_; intros) | refine kfk ?_ ?_ <;> intro hb | fail)
 all_goals first
  | exact kerC2 ⟨rfl, rfl⟩ (.refl _) (.refl _)
  | exact absurd (by assumption) hm
theorem composeY_c (a b : Gr) (ha : GrOk a) (hb : GrOk b) (hm : a.callee = b.caller) : Spec Tryz.prog 44 [vGr a, vGr b] [] fun v A' => ∃ u, v = .tup [.agg (rowO (u, compG a b)), bv true] ∧ A' = [atmO (u, compG a b)] := by
 have hla := ha.arcs.len
 have hlb := hb.arcs.len
 have hl1 : (a.arcs.map encA).length = a.arcs.length := by simp
 have hl2 : (b.arcs.map encA).length = b.arcs.length := by simp
 haveI := graphYes_i
 refine sp Tryz.func44 rfl Tryz.ntmps44 rfl rfl fun C => ?_
 (repeat' first | (refine kkS [] [31] ?_; intros) | refine kfS [] [31] ?_ ?_ <;> intro hb | fail)
 all_goals try exact absurd hm (by assumption)
 (repeat' first | (refine kk ?_; intros) | refine kfk ?_ ?_ <;> intro hb | fail)
 rename_i b2 b3 b4 bg
 refine knA 66 3 ?_
 refine kloop (ι := Nat × Value) (fun v => 4 - v.1) (fun v => [(2, .one (.v (.pointer (some ⟨b2, 0, none⟩)))), (3, .one (.v (.pointer (some ⟨b3, 0, none⟩)))), (4, .one (.v (.pointer (some ⟨b4, 0, none⟩)))), (6, .one (.v (.pointer (some ⟨bg, 0, none⟩)))), (7, nv v.1)]) (fun v => [arow 66 3 v.2 ((rowsA a.arcs b.arcs v.1).map encA), abox bg [.v (.string a.caller), .v (.string b.callee), .v v.2] 59, abox b4 zGr 59, abox b3 (encGr b) 59, abox b2 (encGr a) 59]) (fun v => v.1 ≤ 4) (0, .slice none 0 0) (Nat.zero_le _) ?_
 rintro ⟨i, u⟩ hi
 simp only at hi
 dsimp only
 by_cases hi4 : i < 4
 ·have hrl := rowsA_len (a := a.arcs) (b := b.arcs) i
  (repeat' first | (refine kk ?_; intros) | refine kfk ?_ ?_ <;> intro hb | fail)
  refine kloop (ι := Nat × Value) (fun v => 4 - v.1) (fun v => [(2, .one (.v (.pointer (some ⟨b2, 0, none⟩)))), (3, .one (.v (.pointer (some ⟨b3, 0, none⟩)))), (4, .one (.v (.pointer (some ⟨b4, 0, none⟩)))), (6, .one (.v (.pointer (some ⟨bg, 0, none⟩)))), (7, nv i), (8, nv v.1)]) (fun v => [arow 66 3 v.2 ((rowsA a.arcs b.arcs i ++ colsA a.arcs b.arcs i v.1).map encA), abox bg [.v (.string a.caller), .v (.string b.callee), .v v.2] 59, abox b4 zGr 59, abox b3 (encGr b) 59, abox b2 (encGr a) 59]) (fun v => v.1 ≤ 4) (0, u) (Nat.zero_le _) ?_ (kwk (hs := by simp only [colsA, List.append_nil]; (exact wS)))
  rintro ⟨k, u⟩ hk
  simp only at hk
  dsimp only
  by_cases hk4 : k < 4
  ·have hcl := colsA_len (a := a.arcs) (b := b.arcs) (i := i) k
   (repeat' first | (refine kk ?_; intros) | refine kfk ?_ ?_ <;> intro hb | fail)
   refine kfor (ι := Bool × Bool) a.arcs (fun p z => [(2, .one (.v (.pointer (some ⟨b2, 0, none⟩)))), (3, .one (.v (.pointer (some ⟨b3, 0, none⟩)))), (4, .one (.v (.pointer (some ⟨b4, 0, none⟩)))), (6, .one (.v (.pointer (some ⟨bg, 0, none⟩)))), (7, nv i), (8, nv k), (9, bv z.1), (10, bv z.2), (45, .one (.s 3 (a.arcs.map encA)))]) (fun p z => [arow 66 3 u ((rowsA a.arcs b.arcs i ++ colsA a.arcs b.arcs i k).map encA), abox bg [.v (.string a.caller), .v (.string b.callee), .v u] 59, abox b4 zGr 59, abox b3 (encGr b) 59, abox b2 (encGr a) 59]) (fun p z => (z.1 = true ↔ fnd (a.arcs.take p) b.arcs i k) ∧ (z.2 = true ↔ strt (a.arcs.take p) b.arcs i k)) (false, false) ⟨by simp [fnd], by simp [strt]⟩ ?_ ?_
   ·rintro p x ⟨f1, s1⟩ hp hpd hpl ⟨q1, q2⟩
    have hrow : (a.arcs.map encA)[p]? = some (encA x) := by simp [hp]
    have hpt : a.arcs.take (p + 1) = a.arcs.take p ++ [x] := by rw [List.take_add_one, hp]; rfl
    (repeat' first | (refine kk ?_; intros) | refine kfk ?_ ?_ <;> intro hb | fail)
    rename_i bx
    refine kfor (ι := Bool × Bool) b.arcs (fun n z => [(2, .one (.v (.pointer (some ⟨b2, 0, none⟩)))), (3, .one (.v (.pointer (some ⟨b3, 0, none⟩)))), (4, .one (.v (.pointer (some ⟨b4, 0, none⟩)))), (6, .one (.v (.pointer (some ⟨bg, 0, none⟩)))), (7, nv i), (8, nv k), (9, bv z.1), (10, bv z.2), (45, .one (.s 3 (a.arcs.map encA))), (47, iv p), (46, iv a.arcs.length), (12, .one (.v (.pointer (some ⟨bx, 0, none⟩)))), (52, .one (.s 3 (b.arcs.map encA)))]) (fun n z => [abox bx (encA x) 66, arow 66 3 u ((rowsA a.arcs b.arcs i ++ colsA a.arcs b.arcs i k).map encA), abox bg [.v (.string a.caller), .v (.string b.callee), .v u] 59, abox b4 zGr 59, abox b3 (encGr b) 59, abox b2 (encGr a) 59]) (fun n z => (z.1 = true ↔ fnd (a.arcs.take p) b.arcs i k ∨ ∃ y ∈ b.arcs.take n, x.1 = i ∧ x.2.1 = y.1 ∧ y.2.1 = k) ∧ (z.2 = true ↔ strt (a.arcs.take p) b.arcs i k ∨ ∃ y ∈ b.arcs.take n, x.1 = i ∧ x.2.1 = y.1 ∧ y.2.1 = k ∧ (x.2.2 = true ∨ y.2.2 = true))) (f1, s1) ⟨by simpa using q1, by simpa using q2⟩ ?_ ?_
    ·rintro n y ⟨f2, s2⟩ hn hnd hnl ⟨q3, q4⟩
     have hrow2 : (b.arcs.map encA)[n]? = some (encA y) := by simp [hn]
     have hnt : b.arcs.take (n + 1) = b.arcs.take n ++ [y] := by rw [List.take_add_one, hn]; rfl
     by_cases hC : x.1 = i ∧ x.2.1 = y.1 ∧ y.2.1 = k
     ·obtain ⟨c1, c2, c3⟩ := hC
      have r3 : (true = true ↔ fnd (a.arcs.take p) b.arcs i k ∨ ∃ y ∈ b.arcs.take (n + 1), x.1 = i ∧ x.2.1 = y.1 ∧ y.2.1 = k) := ⟨fun _ => .inr ⟨y, by rw [hnt]; simp, c1, c2, c3⟩, fun _ => rfl⟩
      have r4 : (s2 || x.2.2 || y.2.2) = true ↔ strt (a.arcs.take p) b.arcs i k ∨ ∃ y ∈ b.arcs.take (n + 1), x.1 = i ∧ x.2.1 = y.1 ∧ y.2.1 = k ∧ (x.2.2 = true ∨ y.2.2 = true) := by
       rw [hnt]
       simp only [Bool.or_eq_true]
       constructor
       ·rintro ((h | h) | h)
        ·rcases q4.1 h with h | ⟨z, hz, h⟩
         ·exact .inl h
         ·exact .inr ⟨z, by simp [hz], h⟩
        ·exact .inr ⟨y, by simp, c1, c2, c3, .inl h⟩
        ·exact .inr ⟨y, by simp, c1, c2, c3, .inr h⟩
       ·rintro (h | ⟨z, hz, h⟩)
        ·exact .inl (.inl (q4.2 (.inl h)))
        ·rcases List.mem_append.1 hz with hz | hz
         ·exact .inl (.inl (q4.2 (.inr ⟨z, hz, h⟩)))
         ·obtain rfl := List.mem_singleton.1 hz
          rcases h.2.2.2 with h | h
          ·exact .inl (.inr h)
          ·exact .inr h
      clear q3 q4 q1 q2
      obtain ⟨xf, xt, xs⟩ := x
      obtain ⟨yf, yt, ys⟩ := y
      simp only at c1 c2 c3 r4
      subst c1 c2 c3
      cases s2 <;> cases xs <;> cases ys <;> (
       (repeat' first | (refine kk ?_; intros) | refine kfk ?_ ?_ <;> intro hb | fail)
       all_goals first
        | exact absurd rfl hb
        | exact ⟨(true, _), ⟨r3, r4⟩, kwk⟩)
     ·have r3 : f2 = true ↔ fnd (a.arcs.take p) b.arcs i k ∨ ∃ y ∈ b.arcs.take (n + 1), x.1 = i ∧ x.2.1 = y.1 ∧ y.2.1 = k := by
       rw [q3, hnt]
       refine or_congr Iff.rfl ⟨fun ⟨z, hz, h⟩ => ⟨z, by simp [hz], h⟩, fun ⟨z, hz, h⟩ => ?_⟩
       rcases List.mem_append.1 hz with hz | hz
       ·exact ⟨z, hz, h⟩
       ·obtain rfl := List.mem_singleton.1 hz; exact absurd h hC
      have r4 : s2 = true ↔ strt (a.arcs.take p) b.arcs i k ∨ ∃ y ∈ b.arcs.take (n + 1), x.1 = i ∧ x.2.1 = y.1 ∧ y.2.1 = k ∧ (x.2.2 = true ∨ y.2.2 = true) := by
       rw [q4, hnt]
       refine or_congr Iff.rfl ⟨fun ⟨z, hz, h⟩ => ⟨z, by simp [hz], h⟩, fun ⟨z, hz, h⟩ => ?_⟩
       rcases List.mem_append.1 hz with hz | hz
       ·exact ⟨z, hz, h⟩
       ·obtain rfl := List.mem_singleton.1 hz; exact absurd ⟨h.1, h.2.1, h.2.2.1⟩ hC
      (repeat' first | (refine kk ?_; intros) | refine kfk ?_ ?_ <;> intro hb | fail)
      all_goals first
       | exact ⟨(f2, s2), ⟨r3, r4⟩, kwk⟩
       | (exfalso; omega)
    ·rintro ⟨f2, s2⟩ ⟨q3, q4⟩
     rw [List.take_length] at q3 q4
     (repeat' first | (refine kk ?_; intros) | refine kfk ?_ ?_ <;> intro hb | fail)
     refine ⟨(f2, s2), ⟨q3.trans ?_, q4.trans ?_⟩, kwk⟩
     ·rw [hpt]
      unfold fnd
      constructor
      ·rintro (⟨z, hz, h⟩ | h)
       ·exact ⟨z, by simp [hz], h⟩
       ·exact ⟨x, by simp, h⟩
      ·rintro ⟨z, hz, h⟩
       rcases List.mem_append.1 hz with hz | hz
       ·exact .inl ⟨z, hz, h⟩
       ·obtain rfl := List.mem_singleton.1 hz; exact .inr h
     ·rw [hpt]
      unfold strt
      constructor
      ·rintro (⟨z, hz, h⟩ | h)
       ·exact ⟨z, by simp [hz], h⟩
       ·exact ⟨x, by simp, h⟩
      ·rintro ⟨z, hz, h⟩
       rcases List.mem_append.1 hz with hz | hz
       ·exact .inl ⟨z, hz, h⟩
       ·obtain rfl := List.mem_singleton.1 hz; exact .inr h
   ·rintro ⟨f1, s1⟩ ⟨q1, q2⟩
    rw [List.take_length] at q1 q2
    simp only at q1 q2
    have hs1 : s1 = decide (strt a.arcs b.arcs i k) := by rw [Bool.eq_iff_iff]; simpa using q2
    cases f1 with
    | true =>
     have hra : rowA a.arcs b.arcs i k = [(i, k, s1)] := by unfold rowA; rw [if_pos (q1.1 rfl), hs1]
     (repeat' first | (refine kk ?_; intros) | refine kfk ?_ ?_ <;> intro hb | fail)
     rename_i u2
     refine ⟨(k + 1, u2), by simp only; omega, by simp only; omega, ?_⟩
     exact kwk (hs := by
      simp only [colsA, hra, ← List.append_assoc]
      simp only [List.map_append, List.map_cons, List.map_nil]
      (exact wS))
    | false =>
     have hra : rowA a.arcs b.arcs i k = [] := by unfold rowA; rw [if_neg fun h => by have := q1.2 h; cases this]
     (repeat' first | (refine kk ?_; intros) | refine kfk ?_ ?_ <;> intro hb | fail)
     refine ⟨(k + 1, u), by simp only; omega, by simp only; omega, ?_⟩
     exact kwk (hs := by
      simp only [colsA, hra, List.append_nil]
      (exact wS))
  ·obtain rfl : k = 4 := by omega
   (repeat' first | (refine kk ?_; intros) | refine kfk ?_ ?_ <;> intro hb | fail)
   exact ⟨(i + 1, u), by simp only; omega, by simp only; omega, kwk⟩
 ·obtain rfl : i = 4 := by omega
  (repeat' first | (refine kk ?_; intros) | refine kfk ?_ ?_ <;> intro hb | fail)
  exact kerC2 (A'' := [atmO (u, compG a b)]) (v1 := .agg (rowO (u, compG a b))) (v2 := bv true) ⟨u, rfl, rfl⟩ (.refl _) (.refl _)
instance compose_s : Con2 Tryz.prog 43 Gr Gr vGr vGr (fun a b => vGr (compG a b)) (fun a b => a.arcs.length ≤ 16 ∧ b.arcs.length ≤ 16) := ⟨fun a b ⟨hla, hlb⟩ => by
 have hl1 : (a.arcs.map encA).length = a.arcs.length := by simp
 have hl2 : (b.arcs.map encA).length = b.arcs.length := by simp
 refine pu Tryz.func43 rfl Tryz.ntmps43 rfl rfl fun C => ?_
 (repeat' first | (refine kk ?_; intros) | refine kfk ?_ ?_ <;> intro hb | fail)
 rename_i b2 b3 b4 bg
 refine knA 66 3 ?_
 refine kloop (ι := Nat × Value) (fun v => 4 - v.1) (fun v => [(2, .one (.v (.pointer (some ⟨b2, 0, none⟩)))), (3, .one (.v (.pointer (some ⟨b3, 0, none⟩)))), (4, .one (.v (.pointer (some ⟨b4, 0, none⟩)))), (5, .one (.v (.pointer (some ⟨bg, 0, none⟩)))), (6, nv v.1)]) (fun v => [arow 66 3 v.2 ((rowsA a.arcs b.arcs v.1).map encA), abox bg [.v (.string a.caller), .v (.string b.callee), .v v.2] 59, abox b4 zGr 59, abox b3 (encGr b) 59, abox b2 (encGr a) 59]) (fun v => v.1 ≤ 4) (0, .slice none 0 0) (Nat.zero_le _) ?_
 rintro ⟨i, u⟩ hi
 simp only at hi
 dsimp only
 by_cases hi4 : i < 4
 ·have hrl := rowsA_len (a := a.arcs) (b := b.arcs) i
  (repeat' first | (refine kk ?_; intros) | refine kfk ?_ ?_ <;> intro hb | fail)
  refine kloop (ι := Nat × Value) (fun v => 4 - v.1) (fun v => [(2, .one (.v (.pointer (some ⟨b2, 0, none⟩)))), (3, .one (.v (.pointer (some ⟨b3, 0, none⟩)))), (4, .one (.v (.pointer (some ⟨b4, 0, none⟩)))), (5, .one (.v (.pointer (some ⟨bg, 0, none⟩)))), (6, nv i), (7, nv v.1)]) (fun v => [arow 66 3 v.2 ((rowsA a.arcs b.arcs i ++ colsA a.arcs b.arcs i v.1).map encA), abox bg [.v (.string a.caller), .v (.string b.callee), .v v.2] 59, abox b4 zGr 59, abox b3 (encGr b) 59, abox b2 (encGr a) 59]) (fun v => v.1 ≤ 4) (0, u) (Nat.zero_le _) ?_ (kwk (hs := by simp only [colsA, List.append_nil]; (exact wS)))
  rintro ⟨k, u⟩ hk
  simp only at hk
  dsimp only
  by_cases hk4 : k < 4
  ·have hcl := colsA_len (a := a.arcs) (b := b.arcs) (i := i) k
   (repeat' first | (refine kk ?_; intros) | refine kfk ?_ ?_ <;> intro hb | fail)
   refine kfor (ι := Bool × Bool) a.arcs (fun p z => [(2, .one (.v (.pointer (some ⟨b2, 0, none⟩)))), (3, .one (.v (.pointer (some ⟨b3, 0, none⟩)))), (4, .one (.v (.pointer (some ⟨b4, 0, none⟩)))), (5, .one (.v (.pointer (some ⟨bg, 0, none⟩)))), (6, nv i), (7, nv k), (8, bv z.1), (9, bv z.2), (28, .one (.s 3 (a.arcs.map encA)))]) (fun p z => [arow 66 3 u ((rowsA a.arcs b.arcs i ++ colsA a.arcs b.arcs i k).map encA), abox bg [.v (.string a.caller), .v (.string b.callee), .v u] 59, abox b4 zGr 59, abox b3 (encGr b) 59, abox b2 (encGr a) 59]) (fun p z => (z.1 = true ↔ fnd (a.arcs.take p) b.arcs i k) ∧ (z.2 = true ↔ strt (a.arcs.take p) b.arcs i k)) (false, false) ⟨by simp [fnd], by simp [strt]⟩ ?_ ?_
   ·rintro p x ⟨f1, s1⟩ hp hpd hpl ⟨q1, q2⟩
    have hrow : (a.arcs.map encA)[p]? = some (encA x) := by simp [hp]
    have hpt : a.arcs.take (p + 1) = a.arcs.take p ++ [x] := by rw [List.take_add_one, hp]; rfl
    (repeat' first | (refine kk ?_; intros) | refine kfk ?_ ?_ <;> intro hb | fail)
    rename_i bx
    refine kfor (ι := Bool × Bool) b.arcs (fun n z => [(2, .one (.v (.pointer (some ⟨b2, 0, none⟩)))), (3, .one (.v (.pointer (some ⟨b3, 0, none⟩)))), (4, .one (.v (.pointer (some ⟨b4, 0, none⟩)))), (5, .one (.v (.pointer (some ⟨bg, 0, none⟩)))), (6, nv i), (7, nv k), (8, bv z.1), (9, bv z.2), (28, .one (.s 3 (a.arcs.map encA))), (30, iv p), (29, iv a.arcs.length), (11, .one (.v (.pointer (some ⟨bx, 0, none⟩)))), (35, .one (.s 3 (b.arcs.map encA)))]) (fun n z => [abox bx (encA x) 66, arow 66 3 u ((rowsA a.arcs b.arcs i ++ colsA a.arcs b.arcs i k).map encA), abox bg [.v (.string a.caller), .v (.string b.callee), .v u] 59, abox b4 zGr 59, abox b3 (encGr b) 59, abox b2 (encGr a) 59]) (fun n z => (z.1 = true ↔ fnd (a.arcs.take p) b.arcs i k ∨ ∃ y ∈ b.arcs.take n, x.1 = i ∧ x.2.1 = y.1 ∧ y.2.1 = k) ∧ (z.2 = true ↔ strt (a.arcs.take p) b.arcs i k ∨ ∃ y ∈ b.arcs.take n, x.1 = i ∧ x.2.1 = y.1 ∧ y.2.1 = k ∧ (x.2.2 = true ∨ y.2.2 = true))) (f1, s1) ⟨by simpa using q1, by simpa using q2⟩ ?_ ?_
    ·rintro n y ⟨f2, s2⟩ hn hnd hnl ⟨q3, q4⟩
     have hrow2 : (b.arcs.map encA)[n]? = some (encA y) := by simp [hn]
     have hnt : b.arcs.take (n + 1) = b.arcs.take n ++ [y] := by rw [List.take_add_one, hn]; rfl
     by_cases hC : x.1 = i ∧ x.2.1 = y.1 ∧ y.2.1 = k
     ·obtain ⟨c1, c2, c3⟩ := hC
      have r3 : (true = true ↔ fnd (a.arcs.take p) b.arcs i k ∨ ∃ y ∈ b.arcs.take (n + 1), x.1 = i ∧ x.2.1 = y.1 ∧ y.2.1 = k) := ⟨fun _ => .inr ⟨y, by rw [hnt]; simp, c1, c2, c3⟩, fun _ => rfl⟩
      have r4 : (s2 || x.2.2 || y.2.2) = true ↔ strt (a.arcs.take p) b.arcs i k ∨ ∃ y ∈ b.arcs.take (n + 1), x.1 = i ∧ x.2.1 = y.1 ∧ y.2.1 = k ∧ (x.2.2 = true ∨ y.2.2 = true) := by
       rw [hnt]
       simp only [Bool.or_eq_true]
       constructor
       ·rintro ((h | h) | h)
        ·rcases q4.1 h with h | ⟨z, hz, h⟩
         ·exact .inl h
         ·exact .inr ⟨z, by simp [hz], h⟩
        ·exact .inr ⟨y, by simp, c1, c2, c3, .inl h⟩
        ·exact .inr ⟨y, by simp, c1, c2, c3, .inr h⟩
       ·rintro (h | ⟨z, hz, h⟩)
        ·exact .inl (.inl (q4.2 (.inl h)))
        ·rcases List.mem_append.1 hz with hz | hz
         ·exact .inl (.inl (q4.2 (.inr ⟨z, hz, h⟩)))
         ·obtain rfl := List.mem_singleton.1 hz
          rcases h.2.2.2 with h | h
          ·exact .inl (.inr h)
          ·exact .inr h
      clear q3 q4 q1 q2
      obtain ⟨xf, xt, xs⟩ := x
      obtain ⟨yf, yt, ys⟩ := y
      simp only at c1 c2 c3 r4
      subst c1 c2 c3
      cases s2 <;> cases xs <;> cases ys <;> (
       (repeat' first | (refine kk ?_; intros) | refine kfk ?_ ?_ <;> intro hb | fail)
       all_goals first
        | exact absurd rfl hb
        | exact ⟨(true, _), ⟨r3, r4⟩, kwk⟩)
     ·have r3 : f2 = true ↔ fnd (a.arcs.take p) b.arcs i k ∨ ∃ y ∈ b.arcs.take (n + 1), x.1 = i ∧ x.2.1 = y.1 ∧ y.2.1 = k := by
       rw [q3, hnt]
       refine or_congr Iff.rfl ⟨fun ⟨z, hz, h⟩ => ⟨z, by simp [hz], h⟩, fun ⟨z, hz, h⟩ => ?_⟩
       rcases List.mem_append.1 hz with hz | hz
       ·exact ⟨z, hz, h⟩
       ·obtain rfl := List.mem_singleton.1 hz; exact absurd h hC
      have r4 : s2 = true ↔ strt (a.arcs.take p) b.arcs i k ∨ ∃ y ∈ b.arcs.take (n + 1), x.1 = i ∧ x.2.1 = y.1 ∧ y.2.1 = k ∧ (x.2.2 = true ∨ y.2.2 = true) := by
       rw [q4, hnt]
       refine or_congr Iff.rfl ⟨fun ⟨z, hz, h⟩ => ⟨z, by simp [hz], h⟩, fun ⟨z, hz, h⟩ => ?_⟩
       rcases List.mem_append.1 hz with hz | hz
       ·exact ⟨z, hz, h⟩
       ·obtain rfl := List.mem_singleton.1 hz; exact absurd ⟨h.1, h.2.1, h.2.2.1⟩ hC
      (repeat' first | (refine kk ?_; intros) | refine kfk ?_ ?_ <;> intro hb | fail)
      all_goals first
       | exact ⟨(f2, s2), ⟨r3, r4⟩, kwk⟩
       | (exfalso; omega)
    ·rintro ⟨f2, s2⟩ ⟨q3, q4⟩
     rw [List.take_length] at q3 q4
     (repeat' first | (refine kk ?_; intros) | refine kfk ?_ ?_ <;> intro hb | fail)
     refine ⟨(f2, s2), ⟨q3.trans ?_, q4.trans ?_⟩, kwk⟩
     ·rw [hpt]
      unfold fnd
      constructor
      ·rintro (⟨z, hz, h⟩ | h)
       ·exact ⟨z, by simp [hz], h⟩
       ·exact ⟨x, by simp, h⟩
      ·rintro ⟨z, hz, h⟩
       rcases List.mem_append.1 hz with hz | hz
       ·exact .inl ⟨z, hz, h⟩
       ·obtain rfl := List.mem_singleton.1 hz; exact .inr h
     ·rw [hpt]
      unfold strt
      constructor
      ·rintro (⟨z, hz, h⟩ | h)
       ·exact ⟨z, by simp [hz], h⟩
       ·exact ⟨x, by simp, h⟩
      ·rintro ⟨z, hz, h⟩
       rcases List.mem_append.1 hz with hz | hz
       ·exact .inl ⟨z, hz, h⟩
       ·obtain rfl := List.mem_singleton.1 hz; exact .inr h
   ·rintro ⟨f1, s1⟩ ⟨q1, q2⟩
    rw [List.take_length] at q1 q2
    simp only at q1 q2
    have hs1 : s1 = decide (strt a.arcs b.arcs i k) := by rw [Bool.eq_iff_iff]; simpa using q2
    cases f1 with
    | true =>
     have hra : rowA a.arcs b.arcs i k = [(i, k, s1)] := by unfold rowA; rw [if_pos (q1.1 rfl), hs1]
     (repeat' first | (refine kk ?_; intros) | refine kfk ?_ ?_ <;> intro hb | fail)
     rename_i u2
     refine ⟨(k + 1, u2), by simp only; omega, by simp only; omega, ?_⟩
     exact kwk (hs := by
      simp only [colsA, hra, ← List.append_assoc]
      simp only [List.map_append, List.map_cons, List.map_nil]
      (exact wS))
    | false =>
     have hra : rowA a.arcs b.arcs i k = [] := by unfold rowA; rw [if_neg fun h => by have := q1.2 h; cases this]
     (repeat' first | (refine kk ?_; intros) | refine kfk ?_ ?_ <;> intro hb | fail)
     refine ⟨(k + 1, u), by simp only; omega, by simp only; omega, ?_⟩
     exact kwk (hs := by
      simp only [colsA, hra, List.append_nil]
      (exact wS))
  ·obtain rfl : k = 4 := by omega
   (repeat' first | (refine kk ?_; intros) | refine kfk ?_ ?_ <;> intro hb | fail)
   exact ⟨(i + 1, u), by simp only; omega, by simp only; omega, kwk⟩
 ·obtain rfl : i = 4 := by omega
  (repeat' first | (refine kk ?_; intros) | refine kfk ?_ ?_ <;> intro hb | fail)
  refine kr1 (rvw ?_)
  exact VwC.cons (VwD.refl _) (VwC.cons (VwD.refl _) (VwC.cons (VwD.row (List.Mem.head _) rfl) VwC.nil))⟩
end
noncomputable section
open Classical
abbrev obx (b : Nat) (u : Value) : Atm := abox b [.v u] 26
end
end Go.Proofs.YtbabchapkhlenaaGreat
