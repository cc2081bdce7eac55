/- Parts of the proof: VT3. -/
import Derived.Test.YtejkllmoofdpjaaGreatE41
namespace Go.Proofs.YtejkllmoofdpjaaGreat
open Go
set_option linter.all false
set_option maxRecDepth 100000
set_option maxHeartbeats 4000000
noncomputable section
open Classical
instance eqBinding_c : Con2 Tryz.prog 134 BdR BdR vB vB (fun a b => bp (a = b)) (fun a b => bdIn a ∧ bdIn b) := ⟨fun a b ⟨ha, hb⟩ => by
 have i1 := ha.1
 have j1 := hb.1
 have p1 : a.2.In ∧ b.2.In := ⟨ha.2, hb.2⟩
 rw [show (a = b) = (a.1 = b.1 ∧ a.2 = b.2) from propext (by cases a; cases b; simp only [Prod.mk.injEq])]
 refine pu Tryz.func134 rfl Tryz.ntmps134 rfl rfl fun C => ?_
 (repeat' first | (refine kk ?_; intros) | refine kfk ?_ ?_ <;> intro hb | fail)
 all_goals first
  | (refine kret (bpF ?_); rintro ⟨q0, q1⟩; first | exact hb q0 | exact hb q1)
  | (refine kret (bpT ?_); refine ⟨?_, ?_⟩ <;> assumption)⟩
instance eqBindingS_c : Con2 Tryz.prog 74 (List BdR) (List BdR) vBs vBs (fun a b => bp (a = b)) (fun a b => bdsIn a ∧ bdsIn b) := ⟨fun a b ⟨ha, hb⟩ => by
 have l1 := ha.1
 have l2 := hb.1
 have h1 : (a.map encB).length = a.length := List.length_map _
 have h2 : (b.map encB).length = b.length := List.length_map _
 refine pu Tryz.func74 rfl Tryz.ntmps74 rfl rfl fun C => ?_
 by_cases hlen : a.length = b.length
 case neg =>
  (repeat' first | (refine kk ?_; intros) | refine kfk ?_ ?_ <;> intro hb | fail)
  exact kret (bpF fun h => hlen (congrArg List.length h))
 (repeat' first | (refine kk ?_; intros) | refine kfk ?_ ?_ <;> intro hb | fail)
 refine kloop (ι := Nat) (fun q => a.length - q) (fun q => [(0, .one (.s 5 (a.map encB))), (1, .one (.s 5 (b.map encB))), (5, nv q)]) (fun _ => []) (fun q => q ≤ a.length ∧ a.take q = b.take q) 0 ⟨Nat.zero_le _, by simp⟩ ?_
 rintro j ⟨hj0, he⟩
 by_cases hj : j < a.length
 ·obtain ⟨x, hx⟩ : ∃ y, a[j]? = some y := ⟨a[j], List.getElem?_eq_getElem hj⟩
  obtain ⟨y, hy⟩ : ∃ y, b[j]? = some y := ⟨b[j]'(by omega), List.getElem?_eq_getElem (by omega)⟩
  have hmx := List.mem_of_getElem? hx
  have hmy := List.mem_of_getElem? hy
  have hra : (a.map encB)[j]? = some (encB x) := by simp [hx]
  have hrb : (b.map encB)[j]? = some (encB y) := by simp [hy]
  have p1 : bdIn x ∧ bdIn y := ⟨ha.2 x hmx, hb.2 y hmy⟩
  by_cases hxy : x = y
  ·(repeat' first | (refine kk ?_; intros) | refine kfk ?_ ?_ <;> intro hb | fail)
   all_goals first
    | exact (by assumption : ¬ (x = y)).elim hxy
    | exact ⟨j + 1, by omega, ⟨by omega, by rw [List.take_add_one, List.take_add_one, hx, hy, he, hxy]⟩, kwk⟩
  ·(repeat' first | (refine kk ?_; intros) | refine kfk ?_ ?_ <;> intro hb | fail)
   all_goals first
    | exact (hxy (by assumption)).elim
    | exact kret (bpF fun h => hxy (by subst h; rw [hx] at hy; exact Option.some.inj hy))
 ·obtain rfl : j = a.length := by omega
  rw [List.take_length, hlen, List.take_length] at he
  (repeat' first | (refine kk ?_; intros) | refine kfk ?_ ?_ <;> intro hb | fail)
  exact kret (bpT he)⟩
instance eqBindingSS_c : Con2 Tryz.prog 75 (List (List BdR)) (List (List BdR)) vBss vBss (fun a b => bp (a = b)) (fun a b => bdssIn a ∧ bdssIn b) := ⟨fun a b ⟨ha, hb⟩ => by
 have l1 := ha.1
 have l2 := hb.1
 have h1 : (a.map (encL 5 encB)).length = a.length := List.length_map _
 have h2 : (b.map (encL 5 encB)).length = b.length := List.length_map _
 refine pu Tryz.func75 rfl Tryz.ntmps75 rfl rfl fun C => ?_
 by_cases hlen : a.length = b.length
 case neg =>
  (repeat' first | (refine kk ?_; intros) | refine kfk ?_ ?_ <;> intro hb | fail)
  exact kret (bpF fun h => hlen (congrArg List.length h))
 (repeat' first | (refine kk ?_; intros) | refine kfk ?_ ?_ <;> intro hb | fail)
 refine kloop (ι := Nat) (fun q => a.length - q) (fun q => [(0, .one (.s 1 (a.map (encL 5 encB)))), (1, .one (.s 1 (b.map (encL 5 encB)))), (5, nv q)]) (fun _ => []) (fun q => q ≤ a.length ∧ a.take q = b.take q) 0 ⟨Nat.zero_le _, by simp⟩ ?_
 rintro j ⟨hj0, he⟩
 by_cases hj : j < a.length
 ·obtain ⟨x, hx⟩ : ∃ y, a[j]? = some y := ⟨a[j], List.getElem?_eq_getElem hj⟩
  obtain ⟨y, hy⟩ : ∃ y, b[j]? = some y := ⟨b[j]'(by omega), List.getElem?_eq_getElem (by omega)⟩
  have hmx := List.mem_of_getElem? hx
  have hmy := List.mem_of_getElem? hy
  have hra : (a.map (encL 5 encB))[j]? = some ((encL 5 encB) x) := by simp [hx]
  have hrb : (b.map (encL 5 encB))[j]? = some ((encL 5 encB) y) := by simp [hy]
  have p1 : bdsIn x ∧ bdsIn y := ⟨ha.2 x hmx, hb.2 y hmy⟩
  by_cases hxy : x = y
  ·(repeat' first | (refine kk ?_; intros) | refine kfk ?_ ?_ <;> intro hb | fail)
   all_goals first
    | exact (by assumption : ¬ (x = y)).elim hxy
    | exact ⟨j + 1, by omega, ⟨by omega, by rw [List.take_add_one, List.take_add_one, hx, hy, he, hxy]⟩, kwk⟩
  ·(repeat' first | (refine kk ?_; intros) | refine kfk ?_ ?_ <;> intro hb | fail)
   all_goals first
    | exact (hxy (by assumption)).elim
    | exact kret (bpF fun h => hxy (by subst h; rw [hx] at hy; exact Option.some.inj hy))
 ·obtain rfl : j = a.length := by omega
  rw [List.take_length, hlen, List.take_length] at he
  (repeat' first | (refine kk ?_; intros) | refine kfk ?_ ?_ <;> intro hb | fail)
  exact kret (bpT he)⟩
instance eqVarKind_c : Con2 Tryz.prog 135 VkR VkR vKkr vKkr (fun a b => bp (a = b)) (fun a b => vkIn a ∧ vkIn b) := ⟨fun a b ⟨ha, hb⟩ => by
 have i1 := ha.1
 have i2 := ha.2
 have j1 := hb.1
 have j2 := hb.2
 rw [show (a = b) = (a.1 = b.1 ∧ a.2 = b.2) from propext (by cases a; cases b; simp only [Prod.mk.injEq])]
 refine pu Tryz.func135 rfl Tryz.ntmps135 rfl rfl fun C => ?_
 (repeat' first | (refine kk ?_; intros) | refine kfk ?_ ?_ <;> intro hb | fail)
 all_goals first
  | (refine kret (bpF ?_); rintro ⟨q0, q1⟩; first | exact hb q0 | exact hb q1)
  | (refine kret (bpT ?_); refine ⟨?_, ?_⟩ <;> assumption)⟩
instance eqVarKindS_c : Con2 Tryz.prog 76 (List VkR) (List VkR) vKr vKr (fun a b => bp (a = b)) (fun a b => vksIn a ∧ vksIn b) := ⟨fun a b ⟨ha, hb⟩ => by
 have l1 := ha.1
 have l2 := hb.1
 have h1 : (a.map encK).length = a.length := List.length_map _
 have h2 : (b.map encK).length = b.length := List.length_map _
 refine pu Tryz.func76 rfl Tryz.ntmps76 rfl rfl fun C => ?_
 by_cases hlen : a.length = b.length
 case neg =>
  (repeat' first | (refine kk ?_; intros) | refine kfk ?_ ?_ <;> intro hb | fail)
  exact kret (bpF fun h => hlen (congrArg List.length h))
 (repeat' first | (refine kk ?_; intros) | refine kfk ?_ ?_ <;> intro hb | fail)
 refine kloop (ι := Nat) (fun q => a.length - q) (fun q => [(0, .one (.s 2 (a.map encK))), (1, .one (.s 2 (b.map encK))), (5, nv q)]) (fun _ => []) (fun q => q ≤ a.length ∧ a.take q = b.take q) 0 ⟨Nat.zero_le _, by simp⟩ ?_
 rintro j ⟨hj0, he⟩
 by_cases hj : j < a.length
 ·obtain ⟨x, hx⟩ : ∃ y, a[j]? = some y := ⟨a[j], List.getElem?_eq_getElem hj⟩
  obtain ⟨y, hy⟩ : ∃ y, b[j]? = some y := ⟨b[j]'(by omega), List.getElem?_eq_getElem (by omega)⟩
  have hmx := List.mem_of_getElem? hx
  have hmy := List.mem_of_getElem? hy
  have hra : (a.map encK)[j]? = some (encK x) := by simp [hx]
  have hrb : (b.map encK)[j]? = some (encK y) := by simp [hy]
  have p1 : vkIn x ∧ vkIn y := ⟨ha.2 x hmx, hb.2 y hmy⟩
  by_cases hxy : x = y
  ·(repeat' first | (refine kk ?_; intros) | refine kfk ?_ ?_ <;> intro hb | fail)
   all_goals first
    | exact (by assumption : ¬ (x = y)).elim hxy
    | exact ⟨j + 1, by omega, ⟨by omega, by rw [List.take_add_one, List.take_add_one, hx, hy, he, hxy]⟩, kwk⟩
  ·(repeat' first | (refine kk ?_; intros) | refine kfk ?_ ?_ <;> intro hb | fail)
   all_goals first
    | exact (hxy (by assumption)).elim
    | exact kret (bpF fun h => hxy (by subst h; rw [hx] at hy; exact Option.some.inj hy))
 ·obtain rfl : j = a.length := by omega
  rw [List.take_length, hlen, List.take_length] at he
  (repeat' first | (refine kk ?_; intros) | refine kfk ?_ ?_ <;> intro hb | fail)
  exact kret (bpT he)⟩
instance eqMark_c : Con2 Tryz.prog 136 MkR MkR vMkr vMkr (fun a b => bp (a = b)) (fun a b => mkIn a ∧ mkIn b) := ⟨fun a b ⟨ha, hb⟩ => by
 have i1 := ha.1
 have i2 := ha.2
 have j1 := hb.1
 have j2 := hb.2
 rw [show (a = b) = (a.1 = b.1 ∧ a.2 = b.2) from propext (by cases a; cases b; simp only [Prod.mk.injEq])]
 refine pu Tryz.func136 rfl Tryz.ntmps136 rfl rfl fun C => ?_
 (repeat' first | (refine kk ?_; intros) | refine kfk ?_ ?_ <;> intro hb | fail)
 all_goals first
  | (refine kret (bpF ?_); rintro ⟨q0, q1⟩; first | exact hb q0 | exact hb q1)
  | (refine kret (bpT ?_); refine ⟨?_, ?_⟩ <;> assumption)⟩
instance eqMarkS_c : Con2 Tryz.prog 77 (List MkR) (List MkR) vMr vMr (fun a b => bp (a = b)) (fun a b => mksIn a ∧ mksIn b) := ⟨fun a b ⟨ha, hb⟩ => by
 have l1 := ha.1
 have l2 := hb.1
 have h1 : (a.map encM).length = a.length := List.length_map _
 have h2 : (b.map encM).length = b.length := List.length_map _
 refine pu Tryz.func77 rfl Tryz.ntmps77 rfl rfl fun C => ?_
 by_cases hlen : a.length = b.length
 case neg =>
  (repeat' first | (refine kk ?_; intros) | refine kfk ?_ ?_ <;> intro hb | fail)
  exact kret (bpF fun h => hlen (congrArg List.length h))
 (repeat' first | (refine kk ?_; intros) | refine kfk ?_ ?_ <;> intro hb | fail)
 refine kloop (ι := Nat) (fun q => a.length - q) (fun q => [(0, .one (.s 2 (a.map encM))), (1, .one (.s 2 (b.map encM))), (5, nv q)]) (fun _ => []) (fun q => q ≤ a.length ∧ a.take q = b.take q) 0 ⟨Nat.zero_le _, by simp⟩ ?_
 rintro j ⟨hj0, he⟩
 by_cases hj : j < a.length
 ·obtain ⟨x, hx⟩ : ∃ y, a[j]? = some y := ⟨a[j], List.getElem?_eq_getElem hj⟩
  obtain ⟨y, hy⟩ : ∃ y, b[j]? = some y := ⟨b[j]'(by omega), List.getElem?_eq_getElem (by omega)⟩
  have hmx := List.mem_of_getElem? hx
  have hmy := List.mem_of_getElem? hy
  have hra : (a.map encM)[j]? = some (encM x) := by simp [hx]
  have hrb : (b.map encM)[j]? = some (encM y) := by simp [hy]
  have p1 : mkIn x ∧ mkIn y := ⟨ha.2 x hmx, hb.2 y hmy⟩
  by_cases hxy : x = y
  ·(repeat' first | (refine kk ?_; intros) | refine kfk ?_ ?_ <;> intro hb | fail)
   all_goals first
    | exact (by assumption : ¬ (x = y)).elim hxy
    | exact ⟨j + 1, by omega, ⟨by omega, by rw [List.take_add_one, List.take_add_one, hx, hy, he, hxy]⟩, kwk⟩
  ·(repeat' first | (refine kk ?_; intros) | refine kfk ?_ ?_ <;> intro hb | fail)
   all_goals first
    | exact (hxy (by assumption)).elim
    | exact kret (bpF fun h => hxy (by subst h; rw [hx] at hy; exact Option.some.inj hy))
 ·obtain rfl : j = a.length := by omega
  rw [List.take_length, hlen, List.take_length] at he
  (repeat' first | (refine kk ?_; intros) | refine kfk ?_ ?_ <;> intro hb | fail)
  exact kret (bpT he)⟩
instance eqIntS_c : Con2 Tryz.prog 29 (List Int) (List Int) vIs vIs (fun a b => bp (a = b)) (fun a b => isIn a ∧ isIn b) := ⟨fun a b ⟨ha, hb⟩ => by
 have l1 := ha.1
 have l2 := hb.1
 have h1 : (a.map encI).length = a.length := List.length_map _
 have h2 : (b.map encI).length = b.length := List.length_map _
 refine pu Tryz.func29 rfl Tryz.ntmps29 rfl rfl fun C => ?_
 by_cases hlen : a.length = b.length
 case neg =>
  (repeat' first | (refine kk ?_; intros) | refine kfk ?_ ?_ <;> intro hb | fail)
  exact kret (bpF fun h => hlen (congrArg List.length h))
 (repeat' first | (refine kk ?_; intros) | refine kfk ?_ ?_ <;> intro hb | fail)
 refine kloop (ι := Nat) (fun q => a.length - q) (fun q => [(0, .one (.s 1 (a.map encI))), (1, .one (.s 1 (b.map encI))), (5, nv q)]) (fun _ => []) (fun q => q ≤ a.length ∧ a.take q = b.take q) 0 ⟨Nat.zero_le _, by simp⟩ ?_
 rintro j ⟨hj0, he⟩
 by_cases hj : j < a.length
 ·obtain ⟨x, hx⟩ : ∃ y, a[j]? = some y := ⟨a[j], List.getElem?_eq_getElem hj⟩
  obtain ⟨y, hy⟩ : ∃ y, b[j]? = some y := ⟨b[j]'(by omega), List.getElem?_eq_getElem (by omega)⟩
  have hmx := List.mem_of_getElem? hx
  have hmy := List.mem_of_getElem? hy
  have hra : (a.map encI)[j]? = some (encI x) := by simp [hx]
  have hrb : (b.map encI)[j]? = some (encI y) := by simp [hy]
  have p1 := ha.2 x hmx
  have p2 := hb.2 y hmy
  by_cases hxy : x = y
  ·(repeat' first | (refine kk ?_; intros) | refine kfk ?_ ?_ <;> intro hb | fail)
   all_goals first
    | exact (by assumption : ¬ (x = y)).elim hxy
    | exact ⟨j + 1, by omega, ⟨by omega, by rw [List.take_add_one, List.take_add_one, hx, hy, he, hxy]⟩, kwk⟩
  ·(repeat' first | (refine kk ?_; intros) | refine kfk ?_ ?_ <;> intro hb | fail)
   all_goals first
    | exact (hxy (by assumption)).elim
    | exact kret (bpF fun h => hxy (by subst h; rw [hx] at hy; exact Option.some.inj hy))
 ·obtain rfl : j = a.length := by omega
  rw [List.take_length, hlen, List.take_length] at he
  (repeat' first | (refine kk ?_; intros) | refine kfk ?_ ?_ <;> intro hb | fail)
  exact kret (bpT he)⟩
instance eqState_c : Con2 Tryz.prog 27 StR StR vStr vStr (fun a b => bp (a = b)) (fun a b => StR.In a ∧ StR.In b) := ⟨fun a b ⟨ha, hb⟩ => by
 have i1 := ha.nx
 have j1 := hb.nx
 have p1 : bdsIn a.bind ∧ bdsIn b.bind := ⟨ha.bind, hb.bind⟩
 have p2 : bdssIn a.dis ∧ bdssIn b.dis := ⟨ha.dis, hb.dis⟩
 have p3 : vksIn a.kinds ∧ vksIn b.kinds := ⟨ha.kinds, hb.kinds⟩
 have p4 : mksIn a.marks ∧ mksIn b.marks := ⟨ha.marks, hb.marks⟩
 rw [show (a = b) = (a.next = b.next ∧ a.bind = b.bind ∧ a.dis = b.dis ∧ a.kinds = b.kinds ∧ a.marks = b.marks) from propext (by cases a; cases b; simp only [StR.mk.injEq])]
 refine pu Tryz.func27 rfl Tryz.ntmps27 rfl rfl fun C => ?_
 (repeat' first | (refine kk ?_; intros) | refine kfk ?_ ?_ <;> intro hb | fail)
 all_goals first
  | (refine kret (bpF ?_); rintro ⟨q0, q1, q2, q3, q4⟩; first | exact hb q0 | exact hb q1 | exact hb q2 | exact hb q3 | exact hb q4)
  | (refine kret (bpT ?_); refine ⟨?_, ?_, ?_, ?_, ?_⟩ <;> assumption)⟩
instance eqBranch_c : Con2 Tryz.prog 55 BrR BrR vBr vBr (fun a b => bp (a = b)) (fun a b => BrR.In a ∧ BrR.In b) := ⟨fun a b ⟨ha, hb⟩ => by
 have p1 : a.st.In ∧ b.st.In := ⟨ha.st, hb.st⟩
 have p2 : isIn a.ch ∧ isIn b.ch := ⟨ha.ch, hb.ch⟩
 rw [show (a = b) = (a.st = b.st ∧ a.ch = b.ch) from propext (by cases a; cases b; simp only [BrR.mk.injEq])]
 refine pu Tryz.func55 rfl Tryz.ntmps55 rfl rfl fun C => ?_
 (repeat' first | (refine kk ?_; intros) | refine kfk ?_ ?_ <;> intro hb | fail)
 all_goals first
  | (refine kret (bpF ?_); rintro ⟨q0, q1⟩; first | exact hb q0 | exact hb q1)
  | (refine kret (bpT ?_); refine ⟨?_, ?_⟩ <;> assumption)⟩
theorem eqSs_c (N : Nat) (ih : Con2 Tryz.prog 16 Sm Sm vS1 vS1 (fun a b => bp (a = b)) (fun a b => SizeOf.sizeOf a < N ∧ a.In ∧ b.In)) (a b : List Sm) (hN : ∀ t ∈ a, SizeOf.sizeOf t < N) (hla : Lng a.length) (hlb : Lng b.length) (hia : ∀ t ∈ a, t.In) (hib : ∀ t ∈ b, t.In) : Pu Tryz.prog 56 [vSl a, vSl b] (bp (a = b)) := by
 have h1 : (rowsS a).length = a.length := rowsS_len a
 have h2 : (rowsS b).length = b.length := rowsS_len b
 refine pu Tryz.func56 rfl Tryz.ntmps56 rfl rfl fun C => ?_
 by_cases hlen : a.length = b.length
 case neg =>
  (repeat' first | (refine kk ?_; intros) | refine kfk ?_ ?_ <;> intro hb | fail)
  exact kret (bpF fun h => hlen (congrArg List.length h))
 (repeat' first | (refine kk ?_; intros) | refine kfk ?_ ?_ <;> intro hb | fail)
 refine kloop (ι := Nat) (fun q => a.length - q) (fun q => [(0, .one (.s 12 (rowsS a))), (1, .one (.s 12 (rowsS b))), (5, nv q)]) (fun _ => []) (fun q => q ≤ a.length ∧ a.take q = b.take q) 0 ⟨Nat.zero_le _, by simp⟩ ?_
 rintro j ⟨hj0, he⟩
 by_cases hj : j < a.length
 ·obtain ⟨x, hx⟩ : ∃ y, a[j]? = some y := ⟨a[j], List.getElem?_eq_getElem hj⟩
  obtain ⟨y, hy⟩ : ∃ y, b[j]? = some y := ⟨b[j]'(by omega), List.getElem?_eq_getElem (by omega)⟩
  have hmx := List.mem_of_getElem? hx
  have hmy := List.mem_of_getElem? hy
  have hra : (rowsS a)[j]? = some (encS x) := rowsS_get hx
  have hrb : (rowsS b)[j]? = some (encS y) := rowsS_get hy
  have p1 : SizeOf.sizeOf x < N ∧ x.In ∧ y.In := ⟨hN x hmx, hia x hmx, hib y hmy⟩
  by_cases hxy : x = y
  ·(repeat' first | (refine kk ?_; intros) | refine kfk ?_ ?_ <;> intro hb | fail)
   all_goals first
    | exact (by assumption : ¬ (x = y)).elim hxy
    | exact ⟨j + 1, by omega, ⟨by omega, by rw [List.take_add_one, List.take_add_one, hx, hy, he, hxy]⟩, kwk⟩
  ·(repeat' first | (refine kk ?_; intros) | refine kfk ?_ ?_ <;> intro hb | fail)
   all_goals first
    | exact (hxy (by assumption)).elim
    | exact kret (bpF fun h => hxy (by subst h; rw [hx] at hy; exact Option.some.inj hy))
 ·obtain rfl : j = a.length := by omega
  rw [List.take_length, hlen, List.take_length] at he
  (repeat' first | (refine kk ?_; intros) | refine kfk ?_ ?_ <;> intro hb | fail)
  exact kret (bpT he)
instance eqStream_c : Con2 Tryz.prog 16 Sm Sm vS1 vS1 (fun a b => bp (a = b)) (fun a b => a.In ∧ b.In) := .ind (fun t _ => SizeOf.sizeOf t) fun N ih a b hN ⟨ha, hb⟩ => by
 obtain ⟨i1, i2, i3, i4, i5⟩ := Sm.in_iff.1 ha
 obtain ⟨j1, j2, j3, j4, j5⟩ := Sm.in_iff.1 hb
 have hN2 : ∀ x ∈ a.kids, SizeOf.sizeOf x < N := fun x hx => by
  have := Sm.kid_lt hx; omega
 haveI : Con2 Tryz.prog 56 (List (List D)) (List (List D)) (fun r => .one (.s 12 r)) (fun r => .one (.s 12 r)) (fun _ _ => bp (a.kids = b.kids)) (fun r s => r = a.kidE ∧ s = b.kidE) := ⟨fun r s ⟨e1, e2⟩ => by subst e1; subst e2; rw [kidE_eq, kidE_eq]; exact eqSs_c N ih a.kids b.kids hN2 (by unfold Lng; omega) (by unfold Lng; omega) i5 j5⟩
 have p1 : a.br.In ∧ b.br.In := ⟨i2, j2⟩
 have p2 : a.goal.In ∧ b.goal.In := ⟨i3, j3⟩
 have p3 : a.kidE = a.kidE ∧ b.kidE = b.kidE := ⟨rfl, rfl⟩
 rw [show (a = b) = (a.kind = b.kind ∧ a.br = b.br ∧ a.goal = b.goal ∧ a.kids = b.kids) from propext (by cases a; cases b; simp only [Sm.mk.injEq, Sm.kind_mk, Sm.br_mk, Sm.goal_mk, Sm.kids_mk])]
 refine pu Tryz.func16 rfl Tryz.ntmps16 rfl rfl fun C => ?_
 (repeat' first | (refine kk ?_; intros) | refine kfk ?_ ?_ <;> intro hb | fail)
 all_goals first
  | (refine kret (bpF ?_); rintro ⟨q0, q1, q2, q3⟩; first | exact hb q0 | exact hb q1 | exact hb q2 | exact hb q3)
  | (refine kret (bpT ?_); refine ⟨?_, ?_, ?_, ?_⟩ <;> assumption)
end
end Go.Proofs.YtejkllmoofdpjaaGreat
