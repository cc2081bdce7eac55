/- Parts of the proof: VT2. -/
import Derived.Test.YtejkllmoofdpjaaGreatE40
namespace Go.Proofs.YtejkllmoofdpjaaGreat
open Go
set_option linter.all false
set_option maxRecDepth 100000
set_option maxHeartbeats 4000000
noncomputable section
open Classical
abbrev zBd : List D := .v (.int .i64 0) :: zTm
instance toBinding_c : Con1 Tryz.prog 194 BdR vB vB (fun x => bdIn0 x ∧ x.2.sz ≤ 1048576) := ⟨fun x hin => by
 have p1 : x.2.In0 ∧ x.2.sz ≤ 1048576 := ⟨hin.1.2, hin.2⟩
 refine pu Tryz.func194 rfl Tryz.ntmps194 rfl rfl fun C => ?_
 (repeat' first | (refine kk ?_; intros) | refine kfk ?_ ?_ <;> intro hb | fail)
 refine kr1 (rvw ?_)
 (exact wV)⟩
instance toBindingS_c : Con1 Tryz.prog 153 (List BdR) vBs vBs (fun l => bdsIn0 l ∧ bdsz l ≤ 1048576) := ⟨fun l hin => by
 have hsz : bdsz l = l.length + szOf szB l := rfl
 have hin2 := hin.2
 refine pu Tryz.func153 rfl Tryz.ntmps153 rfl rfl fun C => ?_
 have hlt : (l.map encB).length = l.length := List.length_map _
 have hle : (l.map encB).length ≤ 1048576 := by omega
 have hL : Lng (l.map encB).length := by unfold Lng; omega
 (repeat' first | (refine kk ?_; intros) | refine kfk ?_ ?_ <;> intro hb | fail)
 rename_i b
 refine kloop (ι := Nat) (fun q => l.length - q) (fun q => [(0, .one (.s 5 (l.map encB))), (3, .one (.v (.slice (some ⟨b, 0, none⟩) l.length l.length))), (4, nv q)]) (fun q => [arow 183 5 (.slice (some ⟨b, 0, none⟩) l.length l.length) (fillR (l.map encB) zBd q)]) (fun q => q ≤ l.length) 0 (Nat.zero_le _) ?_ (by rw [fillR_zero, hlt]; exact kwk)
 intro j hj0
 by_cases hj : j < l.length
 ·obtain ⟨x, hx⟩ : ∃ y, l[j]? = some y := ⟨l[j], List.getElem?_eq_getElem hj⟩
  have hmem := List.mem_of_getElem? hx
  have hrow : (l.map encB)[j]? = some (encB x) := by simp [hx]
  have hset : (fillR (l.map encB) zBd j).set j (encB x) = fillR (l.map encB) zBd (j + 1) := fillR_set (z := zBd) hrow
  have hfl := fillR_len (l.map encB) zBd j (by omega)
  have hfj : j < (fillR (l.map encB) zBd j).length := by omega
  have p1 : bdIn0 x ∧ x.2.sz ≤ 1048576 := ⟨hin.1.2 x hmem, by have : szB x ≤ szOf szB l := szOf_mem szB hmem; have e : szB x = x.2.sz := rfl; omega⟩
  (repeat' first | (refine kk ?_; intros) | refine kfk ?_ ?_ <;> intro hb | fail)
  refine kstR 0 j ?_
  rw [hset]
  (repeat' first | (refine kk ?_; intros) | refine kfk ?_ ?_ <;> intro hb | fail)
  refine ⟨j + 1, by omega, by omega, ?_⟩
  exact kwk
 ·obtain rfl : j = l.length := by omega
  rw [← hlt, fillR_full]
  (repeat' first | (refine kk ?_; intros) | refine kfk ?_ ?_ <;> intro hb | fail)
  exact kr1 (rvR rfl)⟩
instance toBindingSS_c : Con1 Tryz.prog 154 (List (List BdR)) vBss vBss (fun l => bdssIn0 l ∧ bdssz l ≤ 1048576) := ⟨fun l hin => by
 have hsz : bdssz l = l.length + szOf bdsz l := rfl
 have hin2 := hin.2
 refine pu Tryz.func154 rfl Tryz.ntmps154 rfl rfl fun C => ?_
 have hlt : (l.map (encL 5 encB)).length = l.length := List.length_map _
 have hle : (l.map (encL 5 encB)).length ≤ 1048576 := by omega
 have hL : Lng (l.map (encL 5 encB)).length := by unfold Lng; omega
 (repeat' first | (refine kk ?_; intros) | refine kfk ?_ ?_ <;> intro hb | fail)
 rename_i b
 refine kloop (ι := Nat) (fun q => l.length - q) (fun q => [(0, .one (.s 1 (l.map (encL 5 encB)))), (3, .one (.v (.slice (some ⟨b, 0, none⟩) l.length l.length))), (4, nv q)]) (fun q => [arow 48 1 (.slice (some ⟨b, 0, none⟩) l.length l.length) (fillR (l.map (encL 5 encB)) [.v (.slice none 0 0)] q)]) (fun q => q ≤ l.length) 0 (Nat.zero_le _) ?_ (by rw [fillR_zero, hlt]; exact kwk)
 intro j hj0
 by_cases hj : j < l.length
 ·obtain ⟨x, hx⟩ : ∃ y, l[j]? = some y := ⟨l[j], List.getElem?_eq_getElem hj⟩
  have hmem := List.mem_of_getElem? hx
  have hrow : (l.map (encL 5 encB))[j]? = some ((encL 5 encB) x) := by simp [hx]
  have hset : (fillR (l.map (encL 5 encB)) [.v (.slice none 0 0)] j).set j [.s 5 (x.map encB)] = fillR (l.map (encL 5 encB)) [.v (.slice none 0 0)] (j + 1) := fillR_set (z := [.v (.slice none 0 0)]) hrow
  have hfl := fillR_len (l.map (encL 5 encB)) [.v (.slice none 0 0)] j (by omega)
  have hfj : j < (fillR (l.map (encL 5 encB)) [.v (.slice none 0 0)] j).length := by omega
  have p1 : bdsIn0 x ∧ bdsz x ≤ 1048576 := ⟨hin.1.2 x hmem, by have := szOf_mem bdsz hmem; omega⟩
  (repeat' first | (refine kk ?_; intros) | refine kfk ?_ ?_ <;> intro hb | fail)
  refine kstR 0 j ?_
  rw [hset]
  (repeat' first | (refine kk ?_; intros) | refine kfk ?_ ?_ <;> intro hb | fail)
  refine ⟨j + 1, by omega, by omega, ?_⟩
  exact kwk
 ·obtain rfl : j = l.length := by omega
  rw [← hlt, fillR_full]
  (repeat' first | (refine kk ?_; intros) | refine kfk ?_ ?_ <;> intro hb | fail)
  exact kr1 (rvR rfl)⟩
instance toVarKind_c : Con1 Tryz.prog 195 VkR vKkr vKkr (fun x => True) := ⟨fun x hin => by
 refine pu Tryz.func195 rfl Tryz.ntmps195 rfl rfl fun C => ?_
 (repeat' first | (refine kk ?_; intros) | refine kfk ?_ ?_ <;> intro hb | fail)
 refine kr1 (rvw ?_)
 (exact wV)⟩
instance toVarKindS_c : Con1 Tryz.prog 155 (List VkR) vKr vKr (fun l => l.length ≤ 1048576) := ⟨fun l hin => by
 refine pu Tryz.func155 rfl Tryz.ntmps155 rfl rfl fun C => ?_
 have hlt : (l.map encK).length = l.length := List.length_map _
 have hle : (l.map encK).length ≤ 1048576 := by omega
 have hL : Lng (l.map encK).length := by unfold Lng; omega
 (repeat' first | (refine kk ?_; intros) | refine kfk ?_ ?_ <;> intro hb | fail)
 rename_i b
 refine kloop (ι := Nat) (fun q => l.length - q) (fun q => [(0, .one (.s 2 (l.map encK))), (3, .one (.v (.slice (some ⟨b, 0, none⟩) l.length l.length))), (4, nv q)]) (fun q => [arow 186 2 (.slice (some ⟨b, 0, none⟩) l.length l.length) (fillR (l.map encK) [.v (.int .i64 0), .v (.int .i64 0)] q)]) (fun q => q ≤ l.length) 0 (Nat.zero_le _) ?_ (by rw [fillR_zero, hlt]; exact kwk)
 intro j hj0
 by_cases hj : j < l.length
 ·obtain ⟨x, hx⟩ : ∃ y, l[j]? = some y := ⟨l[j], List.getElem?_eq_getElem hj⟩
  have hmem := List.mem_of_getElem? hx
  have hrow : (l.map encK)[j]? = some (encK x) := by simp [hx]
  have hset : (fillR (l.map encK) [.v (.int .i64 0), .v (.int .i64 0)] j).set j (encK x) = fillR (l.map encK) [.v (.int .i64 0), .v (.int .i64 0)] (j + 1) := fillR_set (z := [.v (.int .i64 0), .v (.int .i64 0)]) hrow
  have hfl := fillR_len (l.map encK) [.v (.int .i64 0), .v (.int .i64 0)] j (by omega)
  have hfj : j < (fillR (l.map encK) [.v (.int .i64 0), .v (.int .i64 0)] j).length := by omega
  (repeat' first | (refine kk ?_; intros) | refine kfk ?_ ?_ <;> intro hb | fail)
  refine kstR 0 j ?_
  rw [hset]
  (repeat' first | (refine kk ?_; intros) | refine kfk ?_ ?_ <;> intro hb | fail)
  refine ⟨j + 1, by omega, by omega, ?_⟩
  exact kwk
 ·obtain rfl : j = l.length := by omega
  rw [← hlt, fillR_full]
  (repeat' first | (refine kk ?_; intros) | refine kfk ?_ ?_ <;> intro hb | fail)
  exact kr1 (rvR rfl)⟩
instance toMark_c : Con1 Tryz.prog 196 MkR vMkr vMkr (fun x => True) := ⟨fun x hin => by
 refine pu Tryz.func196 rfl Tryz.ntmps196 rfl rfl fun C => ?_
 (repeat' first | (refine kk ?_; intros) | refine kfk ?_ ?_ <;> intro hb | fail)
 refine kr1 (rvw ?_)
 (exact wV)⟩
instance toMarkS_c : Con1 Tryz.prog 156 (List MkR) vMr vMr (fun l => l.length ≤ 1048576) := ⟨fun l hin => by
 refine pu Tryz.func156 rfl Tryz.ntmps156 rfl rfl fun C => ?_
 have hlt : (l.map encM).length = l.length := List.length_map _
 have hle : (l.map encM).length ≤ 1048576 := by omega
 have hL : Lng (l.map encM).length := by unfold Lng; omega
 (repeat' first | (refine kk ?_; intros) | refine kfk ?_ ?_ <;> intro hb | fail)
 rename_i b
 refine kloop (ι := Nat) (fun q => l.length - q) (fun q => [(0, .one (.s 2 (l.map encM))), (3, .one (.v (.slice (some ⟨b, 0, none⟩) l.length l.length))), (4, nv q)]) (fun q => [arow 189 2 (.slice (some ⟨b, 0, none⟩) l.length l.length) (fillR (l.map encM) [.v (.int .i64 0), .v (.string noS)] q)]) (fun q => q ≤ l.length) 0 (Nat.zero_le _) ?_ (by rw [fillR_zero, hlt]; exact kwk)
 intro j hj0
 by_cases hj : j < l.length
 ·obtain ⟨x, hx⟩ : ∃ y, l[j]? = some y := ⟨l[j], List.getElem?_eq_getElem hj⟩
  have hmem := List.mem_of_getElem? hx
  have hrow : (l.map encM)[j]? = some (encM x) := by simp [hx]
  have hset : (fillR (l.map encM) [.v (.int .i64 0), .v (.string noS)] j).set j (encM x) = fillR (l.map encM) [.v (.int .i64 0), .v (.string noS)] (j + 1) := fillR_set (z := [.v (.int .i64 0), .v (.string noS)]) hrow
  have hfl := fillR_len (l.map encM) [.v (.int .i64 0), .v (.string noS)] j (by omega)
  have hfj : j < (fillR (l.map encM) [.v (.int .i64 0), .v (.string noS)] j).length := by omega
  (repeat' first | (refine kk ?_; intros) | refine kfk ?_ ?_ <;> intro hb | fail)
  refine kstR 0 j ?_
  rw [hset]
  (repeat' first | (refine kk ?_; intros) | refine kfk ?_ ?_ <;> intro hb | fail)
  refine ⟨j + 1, by omega, by omega, ?_⟩
  exact kwk
 ·obtain rfl : j = l.length := by omega
  rw [← hlt, fillR_full]
  (repeat' first | (refine kk ?_; intros) | refine kfk ?_ ?_ <;> intro hb | fail)
  exact kr1 (rvR rfl)⟩
instance toIntS_c : Con1 Tryz.prog 25 (List Int) vIs vIs (fun l => l.length ≤ 1048576) := ⟨fun l hin => by
 refine pu Tryz.func25 rfl Tryz.ntmps25 rfl rfl fun C => ?_
 have hlt : (l.map encI).length = l.length := List.length_map _
 have hle : (l.map encI).length ≤ 1048576 := by omega
 have hL : Lng (l.map encI).length := by unfold Lng; omega
 (repeat' first | (refine kk ?_; intros) | refine kfk ?_ ?_ <;> intro hb | fail)
 rename_i b
 refine kloop (ι := Nat) (fun q => l.length - q) (fun q => [(0, .one (.s 1 (l.map encI))), (3, .one (.v (.slice (some ⟨b, 0, none⟩) l.length l.length))), (4, nv q)]) (fun q => [arow 3 1 (.slice (some ⟨b, 0, none⟩) l.length l.length) (fillR (l.map encI) [.v (.int .i64 0)] q)]) (fun q => q ≤ l.length) 0 (Nat.zero_le _) ?_ (by rw [fillR_zero, hlt]; exact kwk)
 intro j hj0
 by_cases hj : j < l.length
 ·obtain ⟨x, hx⟩ : ∃ y, l[j]? = some y := ⟨l[j], List.getElem?_eq_getElem hj⟩
  have hmem := List.mem_of_getElem? hx
  have hrow : (l.map encI)[j]? = some (encI x) := by simp [hx]
  have hset : (fillR (l.map encI) [.v (.int .i64 0)] j).set j [.v (.int .i64 x)] = fillR (l.map encI) [.v (.int .i64 0)] (j + 1) := fillR_set (z := [.v (.int .i64 0)]) hrow
  have hfl := fillR_len (l.map encI) [.v (.int .i64 0)] j (by omega)
  have hfj : j < (fillR (l.map encI) [.v (.int .i64 0)] j).length := by omega
  (repeat' first | (refine kk ?_; intros) | refine kfk ?_ ?_ <;> intro hb | fail)
  refine kstR 0 j ?_
  rw [hset]
  (repeat' first | (refine kk ?_; intros) | refine kfk ?_ ?_ <;> intro hb | fail)
  refine ⟨j + 1, by omega, by omega, ?_⟩
  exact kwk
 ·obtain rfl : j = l.length := by omega
  rw [← hlt, fillR_full]
  (repeat' first | (refine kk ?_; intros) | refine kfk ?_ ?_ <;> intro hb | fail)
  exact kr1 (rvR rfl)⟩
instance toState_c : Con1 Tryz.prog 105 StR vStr vStr (fun x => x.In0 ∧ x.sz ≤ 1048576) := ⟨fun x hin => by
 obtain ⟨h1, h2⟩ := hin
 have hsz : x.sz = bdsz x.bind + bdssz x.dis + x.kinds.length + mksz x.marks := rfl
 have hmz : mksz x.marks = x.marks.length + szOf szM x.marks := rfl
 have p1 : bdsIn0 x.bind ∧ bdsz x.bind ≤ 1048576 := ⟨h1.bind, by omega⟩
 have p2 : bdssIn0 x.dis ∧ bdssz x.dis ≤ 1048576 := ⟨h1.dis, by omega⟩
 have p3 : x.kinds.length ≤ 1048576 := by omega
 have p4 : x.marks.length ≤ 1048576 := by omega
 refine pu Tryz.func105 rfl Tryz.ntmps105 rfl rfl fun C => ?_
 (repeat' first | (refine kk ?_; intros) | refine kfk ?_ ?_ <;> intro hb | fail)
 refine kr1 (rvw ?_)
 (exact wV)⟩
instance toBranch_c : Con1 Tryz.prog 50 BrR vBr vBr (fun x => x.In0 ∧ x.sz ≤ 1048576) := ⟨fun x hin => by
 obtain ⟨h1, h2⟩ := hin
 have hsz : x.sz = x.st.sz + x.ch.length := rfl
 have p1 : x.st.In0 ∧ x.st.sz ≤ 1048576 := ⟨h1.st, by omega⟩
 have p2 : x.ch.length ≤ 1048576 := by omega
 refine pu Tryz.func50 rfl Tryz.ntmps50 rfl rfl fun C => ?_
 (repeat' first | (refine kk ?_; intros) | refine kfk ?_ ?_ <;> intro hb | fail)
 refine kr1 (rvw ?_)
 (exact wV)⟩
abbrev zStD : List D := [.v (.int .i64 0), .v (.slice none 0 0), .v (.slice none 0 0), .v (.slice none 0 0), .v (.slice none 0 0)]
abbrev zSmD : List D := .v (.int .i64 0) :: (zStD ++ (.v (.slice none 0 0) :: (zGl ++ [.v (.slice none 0 0)])))
theorem toSs_c (N : Nat) (ih : Con1 Tryz.prog 13 Sm vS1 vS1 (fun t => SizeOf.sizeOf t < N ∧ t.In0 ∧ t.sz ≤ 1048576)) (l : List Sm) (hN : ∀ t ∈ l, SizeOf.sizeOf t < N) (hlen : l.length + szOf Sm.sz l ≤ 1048576) (hin : ∀ t ∈ l, t.In0) : Pu Tryz.prog 51 [vSl l] (vSl l) := by
 refine pu Tryz.func51 rfl Tryz.ntmps51 rfl rfl fun C => ?_
 have hlt : (rowsS l).length = l.length := rowsS_len l
 have hle : (rowsS l).length ≤ 1048576 := by omega
 have hL : Lng (rowsS l).length := by unfold Lng; omega
 (repeat' first | (refine kk ?_; intros) | refine kfk ?_ ?_ <;> intro hb | fail)
 rename_i b
 refine kloop (ι := Nat) (fun q => l.length - q) (fun q => [(0, .one (.s 12 (rowsS l))), (3, .one (.v (.slice (some ⟨b, 0, none⟩) l.length l.length))), (4, nv q)]) (fun q => [arow 62 12 (.slice (some ⟨b, 0, none⟩) l.length l.length) (fillR (rowsS l) zSmD q)]) (fun q => q ≤ l.length) 0 (Nat.zero_le _) ?_ (by rw [fillR_zero, hlt]; exact kwk)
 intro j hj0
 by_cases hj : j < l.length
 ·obtain ⟨x, hx⟩ : ∃ y, l[j]? = some y := ⟨l[j], List.getElem?_eq_getElem hj⟩
  have hmem := List.mem_of_getElem? hx
  have hrow : (rowsS l)[j]? = some (encS x) := rowsS_get hx
  have hset : (fillR (rowsS l) zSmD j).set j (encS x) = fillR (rowsS l) zSmD (j + 1) := fillR_set (z := zSmD) hrow
  have hfl := fillR_len (rowsS l) zSmD j (by omega)
  have hfj : j < (fillR (rowsS l) zSmD j).length := by omega
  have p1 : SizeOf.sizeOf x < N ∧ x.In0 ∧ x.sz ≤ 1048576 := ⟨hN x hmem, hin x hmem, by have := szOf_mem Sm.sz hmem; omega⟩
  (repeat' first | (refine kk ?_; intros) | refine kfk ?_ ?_ <;> intro hb | fail)
  refine kstR 0 j ?_
  rw [hset]
  (repeat' first | (refine kk ?_; intros) | refine kfk ?_ ?_ <;> intro hb | fail)
  refine ⟨j + 1, by omega, by omega, ?_⟩
  exact kwk
 ·obtain rfl : j = l.length := by omega
  rw [← hlt, fillR_full]
  (repeat' first | (refine kk ?_; intros) | refine kfk ?_ ?_ <;> intro hb | fail)
  exact kr1 (rvR rfl)
instance toStream_c : Con1 Tryz.prog 13 Sm vS1 vS1 (fun t => t.In0 ∧ t.sz ≤ 1048576) := .ind (fun t => SizeOf.sizeOf t) fun N ih t hN ⟨hin, h0⟩ => by
 obtain ⟨i1, i2, i3, i4, i5⟩ := Sm.in0_iff.1 hin
 have hN2 : ∀ x ∈ t.kids, SizeOf.sizeOf x < N := fun x hx => by
  have := Sm.kid_lt hx; omega
 have hsz := Sm.sz_eq t
 haveI : Con1 Tryz.prog 51 (List (List D)) (fun r => .one (.s 12 r)) (fun r => .one (.s 12 r)) (fun r => r = t.kidE) := ⟨fun r e => by subst e; rw [kidE_eq]; exact toSs_c N ih t.kids hN2 (by omega) i5⟩
 have p1 : t.br.In0 ∧ t.br.sz ≤ 1048576 := ⟨i2, by omega⟩
 have p2 : t.goal.In0 ∧ t.goal.sz ≤ 1048576 := ⟨i3, by omega⟩
 have p3 : t.kidE = t.kidE := rfl
 refine pu Tryz.func13 rfl Tryz.ntmps13 rfl rfl fun C => ?_
 (repeat' first | (refine kk ?_; intros) | refine kfk ?_ ?_ <;> intro hb | fail)
 refine kr1 (rvw ?_)
 (exact wV)
end
end Go.Proofs.YtejkllmoofdpjaaGreat
