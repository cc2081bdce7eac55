/- Parts of the proof: VT0 VT1. -/
import Derived.Test.YtejkllmoofdpjaaGreatE32
import Derived.Test.YtejkllmoofdpjaaGreatE39
namespace Go.Proofs.YtejkllmoofdpjaaGreat
open Go
set_option linter.all false
set_option maxRecDepth 100000
set_option maxHeartbeats 4000000
noncomputable section
open Classical
abbrev vB (b : BdR) : AV := .agg (encB b)
abbrev vBs (l : List BdR) : AV := .one (.s 5 (l.map encB))
abbrev vBss (l : List (List BdR)) : AV := .one (.s 1 (l.map (encL 5 encB)))
abbrev vKkr (k : VkR) : AV := .agg (encK k)
abbrev vMkr (k : MkR) : AV := .agg (encM k)
abbrev vIs (l : List Int) : AV := .one (.s 1 (l.map encI))
abbrev vStr (s : StR) : AV := .agg (encSt s)
abbrev vBr (s : BrR) : AV := .agg (encBr s)
abbrev vS1 (s : Sm) : AV := .agg (encS s)
abbrev vSl (l : List Sm) : AV := .one (.s 12 (rowsS l))
def szOf {α : Type} (f : α → Nat) : List α → Nat
 | [] => 0
 | a :: l => f a + szOf f l
theorem szOf_drop {α : Type} (f : α → Nat) {l : List α} {j : Nat} {x : α} (h : l[j]? = some x) : szOf f (l.drop j) = f x + szOf f (l.drop (j + 1)) := by
 obtain ⟨hj, rfl⟩ := List.getElem?_eq_some_iff.1 h
 rw [List.drop_eq_getElem_cons hj]; rfl
theorem szOf_mem {α : Type} (f : α → Nat) {a : α} : ∀ {l : List α}, a ∈ l → f a ≤ szOf f l
 | x :: l, h => by
  rcases List.mem_cons.1 h with rfl | h
  ·simp [szOf]
  ·have := szOf_mem f h; simp [szOf]; omega
theorem leftV_in {n z : Nat} {left : Int} (h : (n : Int) ≤ left) : leftV (n + z) left = leftV z (left - n) := by
 unfold leftV
 split <;> split <;> omega
theorem leftV_step {z x y : Nat} {lf : Int} (h : z = x + y) (hf : (x : Int) ≤ lf) : leftV z lf = leftV y (leftV x lf) := by
 rw [leftV_fit hf]
 unfold leftV
 split <;> split <;> omega
theorem leftV_zero {lf : Int} (h : 0 ≤ lf) : leftV 0 lf = lf := by rw [leftV_fit (by omega)]; omega
def szB (b : BdR) : Nat := b.2.sz
def szM (b : MkR) : Nat := b.2.size
def bdsz (l : List BdR) : Nat := l.length + szOf szB l
def bdssz (l : List (List BdR)) : Nat := l.length + szOf bdsz l
def mksz (l : List MkR) : Nat := l.length + szOf szM l
def bdIn0 (b : BdR) : Prop := I64 b.1 ∧ b.2.In0
def bdsIn0 (l : List BdR) : Prop := Len l.length ∧ ∀ b ∈ l, bdIn0 b
def bdssIn0 (l : List (List BdR)) : Prop := Len l.length ∧ ∀ b ∈ l, bdsIn0 b
def vksIn0 (l : List VkR) : Prop := Len l.length ∧ ∀ b ∈ l, I64 b.1 ∧ I64 b.2
def mkIn0 (b : MkR) : Prop := I64 b.1 ∧ Len b.2.size
def mksIn0 (l : List MkR) : Prop := Len l.length ∧ ∀ b ∈ l, mkIn0 b
def isIn0 (l : List Int) : Prop := Len l.length ∧ ∀ b ∈ l, I64 b
structure StR.In0 (s : StR) : Prop where
 nx : I64 s.next
 bind : bdsIn0 s.bind
 dis : bdssIn0 s.dis
 kinds : vksIn0 s.kinds
 marks : mksIn0 s.marks
structure BrR.In0 (s : BrR) : Prop where
 st : s.st.In0
 ch : isIn0 s.ch
def StR.sz (s : StR) : Nat := bdsz s.bind + bdssz s.dis + s.kinds.length + mksz s.marks
def BrR.sz (s : BrR) : Nat := s.st.sz + s.ch.length
mutual
def Sm.In0 : Sm → Prop
 | .mk k b g l => I64 k ∧ b.In0 ∧ g.In0 ∧ Len l.length ∧ InS0 l
def InS0 : List Sm → Prop
 | [] => True
 | t :: l => t.In0 ∧ InS0 l
end
mutual
def Sm.sz : Sm → Nat
 | .mk _ b g l => b.sz + g.sz + (l.length + szS l)
def szS : List Sm → Nat
 | [] => 0
 | t :: l => t.sz + szS l
end
def bdIn (b : BdR) : Prop := I64 b.1 ∧ b.2.In
def bdsIn (l : List BdR) : Prop := l.length ≤ 1048576 ∧ ∀ b ∈ l, bdIn b
def bdssIn (l : List (List BdR)) : Prop := l.length ≤ 1048576 ∧ ∀ b ∈ l, bdsIn b
def vkIn (b : VkR) : Prop := I64 b.1 ∧ I64 b.2
def vksIn (l : List VkR) : Prop := l.length ≤ 1048576 ∧ ∀ b ∈ l, vkIn b
def mkIn (b : MkR) : Prop := I64 b.1 ∧ Lng b.2.size
def mksIn (l : List MkR) : Prop := l.length ≤ 1048576 ∧ ∀ b ∈ l, mkIn b
def isIn (l : List Int) : Prop := l.length ≤ 1048576 ∧ ∀ b ∈ l, I64 b
structure StR.In (s : StR) : Prop where
 nx : I64 s.next
 bind : bdsIn s.bind
 dis : bdssIn s.dis
 kinds : vksIn s.kinds
 marks : mksIn s.marks
structure BrR.In (s : BrR) : Prop where
 st : s.st.In
 ch : isIn s.ch
mutual
def Sm.In : Sm → Prop
 | .mk k b g l => I64 k ∧ b.In ∧ g.In ∧ l.length ≤ 1048576 ∧ InS l
def InS : List Sm → Prop
 | [] => True
 | t :: l => t.In ∧ InS l
end
theorem InS0.all {l : List Sm} : InS0 l ↔ ∀ t ∈ l, t.In0 := by
 induction l with
 | nil => simp [InS0]
 | cons t l ih => simp [InS0, ih]
theorem InS.all {l : List Sm} : InS l ↔ ∀ t ∈ l, t.In := by
 induction l with
 | nil => simp [InS]
 | cons t l ih => simp [InS, ih]
theorem szS_eq : ∀ {l : List Sm}, szS l = szOf Sm.sz l
 | [] => rfl
 | t :: l => by rw [szS, szOf, szS_eq]
theorem Sm.in0_iff {t : Sm} : t.In0 ↔ I64 t.kind ∧ t.br.In0 ∧ t.goal.In0 ∧ Len t.kids.length ∧ ∀ x ∈ t.kids, x.In0 := by cases t; rw [Sm.In0, InS0.all]; exact Iff.rfl
theorem Sm.in_iff {t : Sm} : t.In ↔ I64 t.kind ∧ t.br.In ∧ t.goal.In ∧ t.kids.length ≤ 1048576 ∧ ∀ x ∈ t.kids, x.In := by cases t; rw [Sm.In, InS.all]; exact Iff.rfl
theorem Sm.sz_eq (t : Sm) : t.sz = t.br.sz + t.goal.sz + (t.kids.length + szOf Sm.sz t.kids) := by cases t; rw [Sm.sz, szS_eq]; rfl
theorem Sm.kid_lt {t x : Sm} (h : x ∈ t.kids) : SizeOf.sizeOf x < SizeOf.sizeOf t := by
 cases t
 have := List.sizeOf_lt_of_mem h
 simp at *; omega
theorem bds_in {l : List BdR} (h : bdsIn0 l) (hs : bdsz l ≤ 1048576) : bdsIn l := by
 unfold bdsz at hs
 refine ⟨by omega, fun b hb => ⟨(h.2 b hb).1, tm_in_of _ _ (Nat.le_refl _) (h.2 b hb).2 ?_⟩⟩
 have : b.2.sz ≤ szOf szB l := szOf_mem szB hb
 omega
theorem st_in {s : StR} (h : s.In0) (hs : s.sz ≤ 1048576) : s.In := by
 unfold StR.sz bdssz mksz at hs
 refine ⟨h.nx, bds_in h.bind (by omega), ⟨by omega, fun d hd => bds_in (h.dis.2 d hd) ?_⟩, ⟨by omega, h.kinds.2⟩, ⟨by omega, fun m hm => ⟨(h.marks.2 m hm).1, ?_⟩⟩⟩
 ·have := szOf_mem bdsz hd; omega
 ·have : m.2.size ≤ szOf szM s.marks := szOf_mem szM hm
  unfold Lng; omega
theorem br_in {s : BrR} (h : s.In0) (hs : s.sz ≤ 1048576) : s.In := by
 unfold BrR.sz at hs
 exact ⟨st_in h.st (by omega), by omega, h.ch.2⟩
theorem sm_in : ∀ (N : Nat) {t : Sm}, SizeOf.sizeOf t ≤ N → t.In0 → t.sz ≤ 1048576 → t.In
 | N, t, hN, h, hs => by
  obtain ⟨i1, i2, i3, i4, i5⟩ := Sm.in0_iff.1 h
  rw [Sm.sz_eq] at hs
  refine Sm.in_iff.2 ⟨i1, br_in i2 (by omega), gl_in_of _ _ (Nat.le_refl _) i3 (by omega), by omega, fun x hx => ?_⟩
  have h1 := Sm.kid_lt hx
  have h2 := szOf_mem Sm.sz hx
  cases N with
  | zero => omega
  | succ N => exact sm_in N (by omega) (i5 x hx) (by omega)
end
noncomputable section
open Classical
instance szBinding_c : Con2 Tryz.prog 186 BdR Int vB iv (fun x left => iv (leftV (szB x) left)) (fun x left => bdIn0 x ∧ 0 ≤ left ∧ left ≤ 1048576) := ⟨fun x left ⟨hin, h0, h1⟩ => by
 rw [show szB x = x.2.sz from rfl]
 refine pu Tryz.func186 rfl Tryz.ntmps186 rfl rfl fun C => ?_
 have p0 : x.2.In0 ∧ 0 ≤ left ∧ left ≤ 1048576 := ⟨hin.2, by omega, by omega⟩
 have hb0 := leftV_le (z := x.2.sz) (left := left) (b := 1048576) (by omega) (by omega)
 by_cases hf0 : ((x.2.sz : Nat) : Int) ≤ left
 case neg =>
  have hl0 := leftV_not hf0
  (repeat' first | (refine kk ?_; intros) | refine kfk ?_ ?_ <;> intro hb | fail)
  all_goals first
   | (exfalso; omega)
   | exact kret (congrArg iv (leftV_not (by omega)).symm)
 have hl0 := leftV_fit hf0
 (repeat' first | (refine kk ?_; intros) | refine kfk ?_ ?_ <;> intro hb | fail)
 all_goals first
  | (exfalso; omega)
  | exact kret (congrArg iv (show leftV (x.2.sz) left = leftV (x.2.sz) left by first | rfl | (rw [hl0, leftV_fit (by omega)]; omega)))⟩
instance szBindingS_c : Con2 Tryz.prog 147 (List BdR) Int vBs iv (fun l left => iv (leftV (bdsz l) left)) (fun l left => bdsIn0 l ∧ 0 ≤ left ∧ left ≤ 1048576) := ⟨fun l left ⟨hin, h0, h1⟩ => by
 rw [show bdsz l = l.length + szOf szB l from rfl]
 have hlen0 : Len l.length := hin.1
 refine pu Tryz.func147 rfl Tryz.ntmps147 rfl rfl fun C => ?_
 by_cases h0 : (l.length : Int) ≤ left
 case neg =>
  (repeat' first | (refine kk ?_; intros) | refine kfk ?_ ?_ <;> intro hb | fail)
  all_goals first
   | exact kret (congrArg iv (leftV_not (by omega)).symm)
   | (exfalso; omega)
 have hlt : (l.map encB).length = l.length := List.length_map _
 (repeat' first | (refine kk ?_; intros) | refine kfk ?_ ?_ <;> intro hb | fail)
 refine kloop (ι := Nat × Int) (fun q => l.length - q.1) (fun q => [(0, .one (.s 5 (l.map encB))), (1, iv q.2), (5, nv q.1)]) (fun _ => []) (fun q => (q.1 ≤ l.length ∧ 0 ≤ q.2 ∧ q.2 ≤ 1048576) ∧ leftV (l.length + szOf szB l) left = leftV (szOf szB (l.drop q.1)) q.2) (0, left - l.length) ⟨⟨Nat.zero_le _, by simp only; omega, by simp only; omega⟩, leftV_in h0⟩ ?_
 rintro ⟨j, lf⟩ ⟨⟨q1, q2, q3⟩, q4⟩
 simp only at q1 q2 q3 q4
 dsimp only
 by_cases hj : j < l.length
 ·obtain ⟨x, hx⟩ : ∃ y, l[j]? = some y := ⟨l[j], List.getElem?_eq_getElem hj⟩
  have hmem := List.mem_of_getElem? hx
  have hdz := szOf_drop szB hx
  have hrow : (l.map encB)[j]? = some (encB x) := by simp [hx]
  have hb1 := leftV_le (z := szB x) (left := lf) (b := 1048576) (by omega) q3
  have p1 : bdIn0 x ∧ 0 ≤ lf ∧ lf ≤ 1048576 := ⟨hin.2 x hmem, q2, q3⟩
  by_cases hfit : ((szB x : Nat) : Int) ≤ lf
  ·have hl1 := leftV_fit hfit
   (repeat' first | (refine kk ?_; intros) | refine kfk ?_ ?_ <;> intro hb | fail)
   all_goals first
    | (exfalso; omega)
    | exact ⟨(j + 1, leftV (szB x) lf), by simp only; omega, ⟨⟨by simp only; omega, by simp only; omega, by simp only; omega⟩, q4.trans (leftV_step hdz hfit)⟩, kwk⟩
  ·have hl1 := leftV_not hfit
   (repeat' first | (refine kk ?_; intros) | refine kfk ?_ ?_ <;> intro hb | fail)
   all_goals first
    | (exfalso; omega)
    | skip
   rw [q4, leftV_not (show ¬ ((szOf szB (l.drop j) : Nat) : Int) ≤ lf by omega)]
   exact kret rfl
 ·obtain rfl : j = l.length := by omega
  rw [List.drop_length] at q4
  (repeat' first | (refine kk ?_; intros) | refine kfk ?_ ?_ <;> intro hb | fail)
  rw [q4]
  exact kret (congrArg iv (leftV_zero q2).symm)⟩
instance szBindingSS_c : Con2 Tryz.prog 148 (List (List BdR)) Int vBss iv (fun l left => iv (leftV (bdssz l) left)) (fun l left => bdssIn0 l ∧ 0 ≤ left ∧ left ≤ 1048576) := ⟨fun l left ⟨hin, h0, h1⟩ => by
 rw [show bdssz l = l.length + szOf bdsz l from rfl]
 have hlen0 : Len l.length := hin.1
 refine pu Tryz.func148 rfl Tryz.ntmps148 rfl rfl fun C => ?_
 by_cases h0 : (l.length : Int) ≤ left
 case neg =>
  (repeat' first | (refine kk ?_; intros) | refine kfk ?_ ?_ <;> intro hb | fail)
  all_goals first
   | exact kret (congrArg iv (leftV_not (by omega)).symm)
   | (exfalso; omega)
 have hlt : (l.map (encL 5 encB)).length = l.length := List.length_map _
 (repeat' first | (refine kk ?_; intros) | refine kfk ?_ ?_ <;> intro hb | fail)
 refine kloop (ι := Nat × Int) (fun q => l.length - q.1) (fun q => [(0, .one (.s 1 (l.map (encL 5 encB)))), (1, iv q.2), (5, nv q.1)]) (fun _ => []) (fun q => (q.1 ≤ l.length ∧ 0 ≤ q.2 ∧ q.2 ≤ 1048576) ∧ leftV (l.length + szOf bdsz l) left = leftV (szOf bdsz (l.drop q.1)) q.2) (0, left - l.length) ⟨⟨Nat.zero_le _, by simp only; omega, by simp only; omega⟩, leftV_in h0⟩ ?_
 rintro ⟨j, lf⟩ ⟨⟨q1, q2, q3⟩, q4⟩
 simp only at q1 q2 q3 q4
 dsimp only
 by_cases hj : j < l.length
 ·obtain ⟨x, hx⟩ : ∃ y, l[j]? = some y := ⟨l[j], List.getElem?_eq_getElem hj⟩
  have hmem := List.mem_of_getElem? hx
  have hdz := szOf_drop bdsz hx
  have hrow : (l.map (encL 5 encB))[j]? = some ((encL 5 encB) x) := by simp [hx]
  have hb1 := leftV_le (z := bdsz x) (left := lf) (b := 1048576) (by omega) q3
  have p1 : bdsIn0 x ∧ 0 ≤ lf ∧ lf ≤ 1048576 := ⟨hin.2 x hmem, q2, q3⟩
  by_cases hfit : ((bdsz x : Nat) : Int) ≤ lf
  ·have hl1 := leftV_fit hfit
   (repeat' first | (refine kk ?_; intros) | refine kfk ?_ ?_ <;> intro hb | fail)
   all_goals first
    | (exfalso; omega)
    | exact ⟨(j + 1, leftV (bdsz x) lf), by simp only; omega, ⟨⟨by simp only; omega, by simp only; omega, by simp only; omega⟩, q4.trans (leftV_step hdz hfit)⟩, kwk⟩
  ·have hl1 := leftV_not hfit
   (repeat' first | (refine kk ?_; intros) | refine kfk ?_ ?_ <;> intro hb | fail)
   all_goals first
    | (exfalso; omega)
    | skip
   rw [q4, leftV_not (show ¬ ((szOf bdsz (l.drop j) : Nat) : Int) ≤ lf by omega)]
   exact kret rfl
 ·obtain rfl : j = l.length := by omega
  rw [List.drop_length] at q4
  (repeat' first | (refine kk ?_; intros) | refine kfk ?_ ?_ <;> intro hb | fail)
  rw [q4]
  exact kret (congrArg iv (leftV_zero q2).symm)⟩
instance szVarKindS_c : Con2 Tryz.prog 149 (List VkR) Int vKr iv (fun l left => iv (leftV (l.length) left)) (fun l left => vksIn0 l ∧ 0 ≤ left ∧ left ≤ 1048576) := ⟨fun l left ⟨hin, h0, h1⟩ => by
 refine pu Tryz.func149 rfl Tryz.ntmps149 rfl rfl fun C => ?_
 have hlt : (l.map encK).length = l.length := List.length_map _
 have hlen := hin.1
 by_cases h0 : (l.length : Int) ≤ left
 ·(repeat' first | (refine kk ?_; intros) | refine kfk ?_ ?_ <;> intro hb | fail)
  all_goals first
   | (exfalso; omega)
   | exact kret (congrArg iv (leftV_fit h0).symm)
 ·(repeat' first | (refine kk ?_; intros) | refine kfk ?_ ?_ <;> intro hb | fail)
  all_goals first
   | (exfalso; omega)
   | exact kret (congrArg iv (leftV_not h0).symm)⟩
instance szMark_c : Con2 Tryz.prog 187 MkR Int vMkr iv (fun x left => iv (leftV (szM x) left)) (fun x left => mkIn0 x ∧ 0 ≤ left ∧ left ≤ 1048576) := ⟨fun x left ⟨hin, h0, h1⟩ => by
 have hs := hin.2
 refine pu Tryz.func187 rfl Tryz.ntmps187 rfl rfl fun C => ?_
 by_cases h0 : (x.2.size : Int) ≤ left
 ·(repeat' first | (refine kk ?_; intros) | refine kfk ?_ ?_ <;> intro hb | fail)
  all_goals first
   | (exfalso; omega)
   | exact kret (congrArg iv (leftV_fit (z := szM x) h0).symm)
 ·(repeat' first | (refine kk ?_; intros) | refine kfk ?_ ?_ <;> intro hb | fail)
  all_goals first
   | (exfalso; omega)
   | exact kret (congrArg iv (leftV_not (z := szM x) h0).symm)⟩
instance szMarkS_c : Con2 Tryz.prog 150 (List MkR) Int vMr iv (fun l left => iv (leftV (mksz l) left)) (fun l left => mksIn0 l ∧ 0 ≤ left ∧ left ≤ 1048576) := ⟨fun l left ⟨hin, h0, h1⟩ => by
 rw [show mksz l = l.length + szOf szM l from rfl]
 have hlen0 : Len l.length := hin.1
 refine pu Tryz.func150 rfl Tryz.ntmps150 rfl rfl fun C => ?_
 by_cases h0 : (l.length : Int) ≤ left
 case neg =>
  (repeat' first | (refine kk ?_; intros) | refine kfk ?_ ?_ <;> intro hb | fail)
  all_goals first
   | exact kret (congrArg iv (leftV_not (by omega)).symm)
   | (exfalso; omega)
 have hlt : (l.map encM).length = l.length := List.length_map _
 (repeat' first | (refine kk ?_; intros) | refine kfk ?_ ?_ <;> intro hb | fail)
 refine kloop (ι := Nat × Int) (fun q => l.length - q.1) (fun q => [(0, .one (.s 2 (l.map encM))), (1, iv q.2), (5, nv q.1)]) (fun _ => []) (fun q => (q.1 ≤ l.length ∧ 0 ≤ q.2 ∧ q.2 ≤ 1048576) ∧ leftV (l.length + szOf szM l) left = leftV (szOf szM (l.drop q.1)) q.2) (0, left - l.length) ⟨⟨Nat.zero_le _, by simp only; omega, by simp only; omega⟩, leftV_in h0⟩ ?_
 rintro ⟨j, lf⟩ ⟨⟨q1, q2, q3⟩, q4⟩
 simp only at q1 q2 q3 q4
 dsimp only
 by_cases hj : j < l.length
 ·obtain ⟨x, hx⟩ : ∃ y, l[j]? = some y := ⟨l[j], List.getElem?_eq_getElem hj⟩
  have hmem := List.mem_of_getElem? hx
  have hdz := szOf_drop szM hx
  have hrow : (l.map encM)[j]? = some (encM x) := by simp [hx]
  have hb1 := leftV_le (z := szM x) (left := lf) (b := 1048576) (by omega) q3
  have p1 : mkIn0 x ∧ 0 ≤ lf ∧ lf ≤ 1048576 := ⟨hin.2 x hmem, q2, q3⟩
  by_cases hfit : ((szM x : Nat) : Int) ≤ lf
  ·have hl1 := leftV_fit hfit
   (repeat' first | (refine kk ?_; intros) | refine kfk ?_ ?_ <;> intro hb | fail)
   all_goals first
    | (exfalso; omega)
    | exact ⟨(j + 1, leftV (szM x) lf), by simp only; omega, ⟨⟨by simp only; omega, by simp only; omega, by simp only; omega⟩, q4.trans (leftV_step hdz hfit)⟩, kwk⟩
  ·have hl1 := leftV_not hfit
   (repeat' first | (refine kk ?_; intros) | refine kfk ?_ ?_ <;> intro hb | fail)
   all_goals first
    | (exfalso; omega)
    | skip
   rw [q4, leftV_not (show ¬ ((szOf szM (l.drop j) : Nat) : Int) ≤ lf by omega)]
   exact kret rfl
 ·obtain rfl : j = l.length := by omega
  rw [List.drop_length] at q4
  (repeat' first | (refine kk ?_; intros) | refine kfk ?_ ?_ <;> intro hb | fail)
  rw [q4]
  exact kret (congrArg iv (leftV_zero q2).symm)⟩
instance szIntS_c : Con2 Tryz.prog 100 (List Int) Int vIs iv (fun l left => iv (leftV (l.length) left)) (fun l left => isIn0 l ∧ 0 ≤ left ∧ left ≤ 1048576) := ⟨fun l left ⟨hin, h0, h1⟩ => by
 refine pu Tryz.func100 rfl Tryz.ntmps100 rfl rfl fun C => ?_
 have hlt : (l.map encI).length = l.length := List.length_map _
 have hlen := hin.1
 by_cases h0 : (l.length : Int) ≤ left
 ·(repeat' first | (refine kk ?_; intros) | refine kfk ?_ ?_ <;> intro hb | fail)
  all_goals first
   | (exfalso; omega)
   | exact kret (congrArg iv (leftV_fit h0).symm)
 ·(repeat' first | (refine kk ?_; intros) | refine kfk ?_ ?_ <;> intro hb | fail)
  all_goals first
   | (exfalso; omega)
   | exact kret (congrArg iv (leftV_not h0).symm)⟩
instance szState_c : Con2 Tryz.prog 99 StR Int vStr iv (fun x left => iv (leftV (x.sz) left)) (fun x left => x.In0 ∧ 0 ≤ left ∧ left ≤ 1048576) := ⟨fun x left ⟨hin, h0, h1⟩ => by
 have hsz : x.sz = bdsz x.bind + bdssz x.dis + x.kinds.length + mksz x.marks := rfl
 rw [hsz]
 refine pu Tryz.func99 rfl Tryz.ntmps99 rfl rfl fun C => ?_
 have p0 : bdsIn0 x.bind ∧ 0 ≤ left ∧ left ≤ 1048576 := ⟨hin.bind, by omega, by omega⟩
 have hb0 := leftV_le (z := bdsz x.bind) (left := left) (b := 1048576) (by omega) (by omega)
 by_cases hf0 : ((bdsz x.bind : Nat) : Int) ≤ left
 case neg =>
  have hl0 := leftV_not hf0
  (repeat' first | (refine kkS [148, 149, 150] [] ?_; intros) | refine kfS [148, 149, 150] [] ?_ ?_ <;> intro hb | fail)
  all_goals first
   | (exfalso; omega)
   | exact kret (congrArg iv (leftV_not (by omega)).symm)
 have hl0 := leftV_fit hf0
 have p1 : bdssIn0 x.dis ∧ 0 ≤ (leftV (bdsz x.bind) left) ∧ (leftV (bdsz x.bind) left) ≤ 1048576 := ⟨hin.dis, by omega, by omega⟩
 have hb1 := leftV_le (z := bdssz x.dis) (left := (leftV (bdsz x.bind) left)) (b := 1048576) (by omega) (by omega)
 by_cases hf1 : ((bdssz x.dis : Nat) : Int) ≤ (leftV (bdsz x.bind) left)
 case neg =>
  have hl1 := leftV_not hf1
  (repeat' first | (refine kkS [149, 150] [] ?_; intros) | refine kfS [149, 150] [] ?_ ?_ <;> intro hb | fail)
  all_goals first
   | (exfalso; omega)
   | exact kret (congrArg iv (leftV_not (by omega)).symm)
 have hl1 := leftV_fit hf1
 have p2 : vksIn0 x.kinds ∧ 0 ≤ (leftV (bdssz x.dis) (leftV (bdsz x.bind) left)) ∧ (leftV (bdssz x.dis) (leftV (bdsz x.bind) left)) ≤ 1048576 := ⟨hin.kinds, by omega, by omega⟩
 have hb2 := leftV_le (z := x.kinds.length) (left := (leftV (bdssz x.dis) (leftV (bdsz x.bind) left))) (b := 1048576) (by omega) (by omega)
 by_cases hf2 : ((x.kinds.length : Nat) : Int) ≤ (leftV (bdssz x.dis) (leftV (bdsz x.bind) left))
 case neg =>
  have hl2 := leftV_not hf2
  (repeat' first | (refine kkS [150] [] ?_; intros) | refine kfS [150] [] ?_ ?_ <;> intro hb | fail)
  all_goals first
   | (exfalso; omega)
   | exact kret (congrArg iv (leftV_not (by omega)).symm)
 have hl2 := leftV_fit hf2
 have p3 : mksIn0 x.marks ∧ 0 ≤ (leftV (x.kinds.length) (leftV (bdssz x.dis) (leftV (bdsz x.bind) left))) ∧ (leftV (x.kinds.length) (leftV (bdssz x.dis) (leftV (bdsz x.bind) left))) ≤ 1048576 := ⟨hin.marks, by omega, by omega⟩
 have hb3 := leftV_le (z := mksz x.marks) (left := (leftV (x.kinds.length) (leftV (bdssz x.dis) (leftV (bdsz x.bind) left)))) (b := 1048576) (by omega) (by omega)
 by_cases hf3 : ((mksz x.marks : Nat) : Int) ≤ (leftV (x.kinds.length) (leftV (bdssz x.dis) (leftV (bdsz x.bind) left)))
 case neg =>
  have hl3 := leftV_not hf3
  (repeat' first | (refine kk ?_; intros) | refine kfk ?_ ?_ <;> intro hb | fail)
  all_goals first
   | (exfalso; omega)
   | exact kret (congrArg iv (leftV_not (by omega)).symm)
 have hl3 := leftV_fit hf3
 (repeat' first | (refine kk ?_; intros) | refine kfk ?_ ?_ <;> intro hb | fail)
 all_goals first
  | (exfalso; omega)
  | exact kret (congrArg iv (show leftV (mksz x.marks) (leftV (x.kinds.length) (leftV (bdssz x.dis) (leftV (bdsz x.bind) left))) = leftV (bdsz x.bind + bdssz x.dis + x.kinds.length + mksz x.marks) left by first | rfl | (rw [hl3, hl2, hl1, hl0, leftV_fit (by omega)]; omega)))⟩
instance szBranch_c : Con2 Tryz.prog 45 BrR Int vBr iv (fun x left => iv (leftV (x.sz) left)) (fun x left => x.In0 ∧ 0 ≤ left ∧ left ≤ 1048576) := ⟨fun x left ⟨hin, h0, h1⟩ => by
 have hsz : x.sz = x.st.sz + x.ch.length := rfl
 rw [hsz]
 refine pu Tryz.func45 rfl Tryz.ntmps45 rfl rfl fun C => ?_
 have p0 : x.st.In0 ∧ 0 ≤ left ∧ left ≤ 1048576 := ⟨hin.st, by omega, by omega⟩
 have hb0 := leftV_le (z := x.st.sz) (left := left) (b := 1048576) (by omega) (by omega)
 by_cases hf0 : ((x.st.sz : Nat) : Int) ≤ left
 case neg =>
  have hl0 := leftV_not hf0
  (repeat' first | (refine kkS [100] [] ?_; intros) | refine kfS [100] [] ?_ ?_ <;> intro hb | fail)
  all_goals first
   | (exfalso; omega)
   | exact kret (congrArg iv (leftV_not (by omega)).symm)
 have hl0 := leftV_fit hf0
 have p1 : isIn0 x.ch ∧ 0 ≤ (leftV (x.st.sz) left) ∧ (leftV (x.st.sz) left) ≤ 1048576 := ⟨hin.ch, by omega, by omega⟩
 have hb1 := leftV_le (z := x.ch.length) (left := (leftV (x.st.sz) left)) (b := 1048576) (by omega) (by omega)
 by_cases hf1 : ((x.ch.length : Nat) : Int) ≤ (leftV (x.st.sz) left)
 case neg =>
  have hl1 := leftV_not hf1
  (repeat' first | (refine kk ?_; intros) | refine kfk ?_ ?_ <;> intro hb | fail)
  all_goals first
   | (exfalso; omega)
   | exact kret (congrArg iv (leftV_not (by omega)).symm)
 have hl1 := leftV_fit hf1
 (repeat' first | (refine kk ?_; intros) | refine kfk ?_ ?_ <;> intro hb | fail)
 all_goals first
  | (exfalso; omega)
  | exact kret (congrArg iv (show leftV (x.ch.length) (leftV (x.st.sz) left) = leftV (x.st.sz + x.ch.length) left by first | rfl | (rw [hl1, hl0, leftV_fit (by omega)]; omega)))⟩
theorem szSs_c (N : Nat) (ih : Con2 Tryz.prog 10 Sm Int vS1 iv (fun t left => iv (leftV t.sz left)) (fun t left => SizeOf.sizeOf t < N ∧ t.In0 ∧ 0 ≤ left ∧ left ≤ 1048576)) (l : List Sm) (left : Int) (hN : ∀ t ∈ l, SizeOf.sizeOf t < N) (hin : Len l.length ∧ ∀ t ∈ l, t.In0) (h0' : 0 ≤ left) (h1 : left ≤ 1048576) : Pu Tryz.prog 46 [vSl l, iv left] (iv (leftV (l.length + szOf Sm.sz l) left)) := by
 have hlen0 : Len l.length := hin.1
 refine pu Tryz.func46 rfl Tryz.ntmps46 rfl rfl fun C => ?_
 by_cases h0 : (l.length : Int) ≤ left
 case neg =>
  (repeat' first | (refine kk ?_; intros) | refine kfk ?_ ?_ <;> intro hb | fail)
  all_goals first
   | exact kret (congrArg iv (leftV_not (by omega)).symm)
   | (exfalso; omega)
 have hlt : (rowsS l).length = l.length := rowsS_len l
 (repeat' first | (refine kk ?_; intros) | refine kfk ?_ ?_ <;> intro hb | fail)
 refine kloop (ι := Nat × Int) (fun q => l.length - q.1) (fun q => [(0, .one (.s 12 (rowsS l))), (1, iv q.2), (5, nv q.1)]) (fun _ => []) (fun q => (q.1 ≤ l.length ∧ 0 ≤ q.2 ∧ q.2 ≤ 1048576) ∧ leftV (l.length + szOf Sm.sz l) left = leftV (szOf Sm.sz (l.drop q.1)) q.2) (0, left - l.length) ⟨⟨Nat.zero_le _, by simp only; omega, by simp only; omega⟩, leftV_in h0⟩ ?_
 rintro ⟨j, lf⟩ ⟨⟨q1, q2, q3⟩, q4⟩
 simp only at q1 q2 q3 q4
 dsimp only
 by_cases hj : j < l.length
 ·obtain ⟨x, hx⟩ : ∃ y, l[j]? = some y := ⟨l[j], List.getElem?_eq_getElem hj⟩
  have hmem := List.mem_of_getElem? hx
  have hdz := szOf_drop Sm.sz hx
  have hrow : (rowsS l)[j]? = some (encS x) := rowsS_get hx
  have hb1 := leftV_le (z := Sm.sz x) (left := lf) (b := 1048576) (by omega) q3
  have p1 : SizeOf.sizeOf x < N ∧ x.In0 ∧ 0 ≤ lf ∧ lf ≤ 1048576 := ⟨hN x hmem, hin.2 x hmem, q2, q3⟩
  by_cases hfit : ((Sm.sz x : Nat) : Int) ≤ lf
  ·have hl1 := leftV_fit hfit
   (repeat' first | (refine kk ?_; intros) | refine kfk ?_ ?_ <;> intro hb | fail)
   all_goals first
    | (exfalso; omega)
    | exact ⟨(j + 1, leftV (Sm.sz x) lf), by simp only; omega, ⟨⟨by simp only; omega, by simp only; omega, by simp only; omega⟩, q4.trans (leftV_step hdz hfit)⟩, kwk⟩
  ·have hl1 := leftV_not hfit
   (repeat' first | (refine kk ?_; intros) | refine kfk ?_ ?_ <;> intro hb | fail)
   all_goals first
    | (exfalso; omega)
    | skip
   rw [q4, leftV_not (show ¬ ((szOf Sm.sz (l.drop j) : Nat) : Int) ≤ lf by omega)]
   exact kret rfl
 ·obtain rfl : j = l.length := by omega
  rw [List.drop_length] at q4
  (repeat' first | (refine kk ?_; intros) | refine kfk ?_ ?_ <;> intro hb | fail)
  rw [q4]
  exact kret (congrArg iv (leftV_zero q2).symm)
instance szStream_c : Con2 Tryz.prog 10 Sm Int vS1 iv (fun t left => iv (leftV t.sz left)) (fun t left => t.In0 ∧ 0 ≤ left ∧ left ≤ 1048576) := .ind (fun t _ => SizeOf.sizeOf t) fun N ih t left hN ⟨hin, h0, h1⟩ => by
 obtain ⟨i1, i2, i3, i4, i5⟩ := Sm.in0_iff.1 hin
 have hN2 : ∀ x ∈ t.kids, SizeOf.sizeOf x < N := fun x hx => by
  have := Sm.kid_lt hx; omega
 rw [Sm.sz_eq]
 haveI : Con2 Tryz.prog 46 (List (List D)) Int (fun r => .one (.s 12 r)) iv (fun _ left => iv (leftV (t.kids.length + szOf Sm.sz t.kids) left)) (fun r left => r = t.kidE ∧ 0 ≤ left ∧ left ≤ 1048576) := ⟨fun r left ⟨e, h0, h1⟩ => by subst e; rw [kidE_eq]; exact szSs_c N ih t.kids left hN2 ⟨i4, i5⟩ h0 h1⟩
 refine pu Tryz.func10 rfl Tryz.ntmps10 rfl rfl fun C => ?_
 have p0 : t.br.In0 ∧ 0 ≤ left ∧ left ≤ 1048576 := ⟨i2, by omega, by omega⟩
 have hb0 := leftV_le (z := t.br.sz) (left := left) (b := 1048576) (by omega) (by omega)
 by_cases hf0 : ((t.br.sz : Nat) : Int) ≤ left
 case neg =>
  have hl0 := leftV_not hf0
  (repeat' first | (refine kkS [22, 46] [] ?_; intros) | refine kfS [22, 46] [] ?_ ?_ <;> intro hb | fail)
  all_goals first
   | (exfalso; omega)
   | exact kret (congrArg iv (leftV_not (by omega)).symm)
 have hl0 := leftV_fit hf0
 have p1 : t.goal.In0 ∧ 0 ≤ (leftV (t.br.sz) left) ∧ (leftV (t.br.sz) left) ≤ 1048576 := ⟨i3, by omega, by omega⟩
 have hb1 := leftV_le (z := t.goal.sz) (left := (leftV (t.br.sz) left)) (b := 1048576) (by omega) (by omega)
 by_cases hf1 : ((t.goal.sz : Nat) : Int) ≤ (leftV (t.br.sz) left)
 case neg =>
  have hl1 := leftV_not hf1
  (repeat' first | (refine kkS [46] [] ?_; intros) | refine kfS [46] [] ?_ ?_ <;> intro hb | fail)
  all_goals first
   | (exfalso; omega)
   | exact kret (congrArg iv (leftV_not (by omega)).symm)
 have hl1 := leftV_fit hf1
 have p2 : t.kidE = t.kidE ∧ 0 ≤ (leftV (t.goal.sz) (leftV (t.br.sz) left)) ∧ (leftV (t.goal.sz) (leftV (t.br.sz) left)) ≤ 1048576 := ⟨rfl, by omega, by omega⟩
 have hb2 := leftV_le (z := t.kids.length + szOf Sm.sz t.kids) (left := (leftV (t.goal.sz) (leftV (t.br.sz) left))) (b := 1048576) (by omega) (by omega)
 by_cases hf2 : ((t.kids.length + szOf Sm.sz t.kids : Nat) : Int) ≤ (leftV (t.goal.sz) (leftV (t.br.sz) left))
 case neg =>
  have hl2 := leftV_not hf2
  (repeat' first | (refine kk ?_; intros) | refine kfk ?_ ?_ <;> intro hb | fail)
  all_goals first
   | (exfalso; omega)
   | exact kret (congrArg iv (leftV_not (by omega)).symm)
 have hl2 := leftV_fit hf2
 (repeat' first | (refine kk ?_; intros) | refine kfk ?_ ?_ <;> intro hb | fail)
 all_goals first
  | (exfalso; omega)
  | exact kret (congrArg iv (show leftV (t.kids.length + szOf Sm.sz t.kids) (leftV (t.goal.sz) (leftV (t.br.sz) left)) = leftV (t.br.sz + t.goal.sz + (t.kids.length + szOf Sm.sz t.kids)) left by first | rfl | (rw [hl2, hl1, hl0, leftV_fit (by omega)]; omega)))
end
end Go.Proofs.YtejkllmoofdpjaaGreat
