/- Parts of the proof: V85 V86 V68 V84 V87. -/
import Derived.Test.YtbabchapkhlenaaGreatZT1
namespace Go.Proofs.YtbabchapkhlenaaGreat
open Go
set_option linter.all false
set_option maxRecDepth 100000
set_option maxHeartbeats 4000000
noncomputable section
open Classical
def closeP (p : List RlR) : Option (List Gr) := (sizeF p).bind (closeF cG meetsG compG 200)
theorem clo_ok {first : List Gr} (hf : ∀ g ∈ first, GrOk g) {g : Gr} (h : Clo meetsG compG first g) : GrOk g := by
 induction h with
 | base h => exact hf _ h
 | step _ _ _ h1 h2 => exact ⟨compA_ok _ _, h1.r1, h2.r2⟩
structure ClI (first : List Gr) (l : List Gr) : Prop where
 nd : l.Nodup
 clo : ∀ g ∈ l, Clo meetsG compG first g
theorem ClI.ok {first l : List Gr} (h : ClI first l) (hf : ∀ g ∈ first, GrOk g) : ∀ x ∈ l, GrOk x := fun x hx => clo_ok hf (h.clo x hx)
def addG (l : List Gr) (x : Gr) : List Gr := if x ∈ l then l else l ++ [x]
theorem mem_addG {l : List Gr} {x z : Gr} : z ∈ addG l x ↔ z = x ∨ z ∈ l := by
 unfold addG
 split
 ·rename_i h
  exact ⟨.inr, fun e => e.elim (fun e => e ▸ h) id⟩
 ·simp [or_comm]
theorem addG_len {l : List Gr} {x : Gr} : l.length ≤ (addG l x).length ∧ (addG l x).length ≤ l.length + 1 := by
 unfold addG
 split <;> simp
theorem addG_get {l : List Gr} {x y : Gr} {i : Nat} (h : l[i]? = some y) : (addG l x)[i]? = some y := by
 unfold addG
 split
 ·exact h
 ·rw [List.getElem?_append_left (List.getElem?_eq_some_iff.1 h).1]; exact h
theorem ClI.add {first l : List Gr} {x : Gr} (h : ClI first l) (hx : Clo meetsG compG first x) : ClI first (addG l x) := by
 refine ⟨?_, fun g hg => (mem_addG.1 hg).elim (fun e => e ▸ hx) (h.clo g)⟩
 unfold addG
 split
 ·exact h.nd
 ·rename_i hn
  exact List.nodup_append.2 ⟨h.nd, by simp, fun a ha b hb e => by
   obtain rfl := List.mem_singleton.1 hb
   exact hn (e ▸ ha)⟩
def Dn (l : List Gr) (i k : Nat) : Prop := ∀ x y, l[i]? = some x → l[k]? = some y → (meetsG x y → compG x y ∈ l) ∧ (meetsG y x → compG y x ∈ l)
theorem Dn.add {l : List Gr} {z : Gr} {i k : Nat} (h : Dn l i k) (hi : i < l.length) (hk : k < l.length) : Dn (addG l z) i k := fun x y hx hy => by
 have e1 : (addG l z)[i]? = l[i]? := by rw [List.getElem?_eq_getElem hi, addG_get (List.getElem?_eq_getElem hi)]
 have e2 : (addG l z)[k]? = l[k]? := by rw [List.getElem?_eq_getElem hk, addG_get (List.getElem?_eq_getElem hk)]
 rw [e1] at hx
 rw [e2] at hy
 have := h x y hx hy
 exact ⟨fun hm => mem_addG.2 (.inr (this.1 hm)), fun hm => mem_addG.2 (.inr (this.2 hm))⟩
theorem all_done {first l : List Gr} (h0 : ∀ g ∈ first, g ∈ l) (h : ClI first l) (hd : ∀ i k, i < l.length → k ≤ i → Dn l i k) (g : Gr) : g ∈ l ↔ Clo meetsG compG first g := by
 refine closed_all h0 h.clo (fun x ha y hb hm => ?_) g
 obtain ⟨i, hx⟩ := List.getElem?_of_mem ha
 obtain ⟨k, hy⟩ := List.getElem?_of_mem hb
 have hil := (List.getElem?_eq_some_iff.1 hx).1
 have hkl := (List.getElem?_eq_some_iff.1 hy).1
 rcases Nat.le_total k i with h1 | h1
 ·exact (hd i k hil h1 x y hx hy).1 hm
 ·exact (hd k i hkl h1 y x hy hx).2 hm
abbrev zeroG : Gr := ⟨noS, noS, []⟩
def cmpV (a b : Gr) : Gr := if meetsG a b then compG a b else zeroG
theorem cmpV_yes {a b : Gr} (h : meetsG a b) : cmpV a b = compG a b := if_pos h
instance composeD_i : Con2 Tryz.prog 44 Gr Gr vGr vGr (fun a b => .tup [vGr (cmpV a b), bp (meetsG a b)]) (fun a b => GrOk a ∧ GrOk b) := ⟨fun a b ⟨ha, hb⟩ => by
 by_cases hm : meetsG a b
 ·rw [cmpV_yes hm, ← bpT hm]
  refine Spec.puV (composeY_c a b ha hb hm) ?_
  rintro _ _ ⟨u, rfl, rfl⟩
  exact .tup (.cons (.agg (.cons (.refl _) (.cons (.refl _) (.cons (VwD.row (List.Mem.head _) rfl) .nil)))) (.cons (.refl _) .nil))
 ·rw [show cmpV a b = zeroG from if_neg hm, ← bpF hm]
  refine Spec.puV (composeN_c a b ha hb hm) ?_
  rintro _ _ ⟨rfl, rfl⟩
  exact .tup (.cons (.agg (.cons (.refl _) (.cons (.refl _) (.cons VwD.nil .nil)))) (.cons (.refl _) .nil))⟩
theorem addD_c (b : Nat) (u : Value) (l : List Gr) (x : Gr) (hl : l.length ≤ 1000000) (h16 : ∀ y ∈ l, y.arcs.length ≤ 16) (hx16 : x.arcs.length ≤ 16) : Spec Tryz.prog 47 (vGr x :: capA [.pointer (some ⟨b, 0, none⟩)]) [obx b u, arow 59 3 u (l.map encGr)] fun _ A' =>
 ∃ u', A' = [obx b u', arow 59 3 u' ((addG l x).map encGr)] := by
 have hlen : (l.map encGr).length = l.length := by simp
 show Spec _ _ [vGr x, .one (.v (.pointer (some ⟨b, 0, none⟩)))] _ _
 refine sp Tryz.func47 rfl Tryz.ntmps47 rfl rfl fun C => ?_
 refine AW_rowU (e := 59) (sz := 3) (u := u) (rows := l.map encGr) (by repeat (first | exact List.Mem.head _ | apply List.Mem.tail)) fun hu => ?_
 rw [hlen] at hu
 rcases hu with ⟨hu, h0⟩ | ⟨bb, c, hu⟩
 ·obtain rfl : l = [] := List.length_eq_zero_iff.1 h0
  (repeat' first | (refine kk ?_; intros) | refine kfk ?_ ?_ <;> intro hb | fail)
  refine kun3 ?_
  (repeat' first | (refine kk ?_; intros) | refine kfk ?_ ?_ <;> intro hb | fail)
  rename_i u2
  exact ker0 ⟨u2, rfl⟩
 ·(repeat' first | (refine kk ?_; intros) | refine kfk ?_ ?_ <;> intro hb | fail)
  rename_i b2
  refine kfor (ι := Unit) l (fun j _ => [(1, .one (.v (.pointer (some ⟨b, 0, none⟩)))), (2, .one (.v (.pointer (some ⟨b2, 0, none⟩)))), (5, .one (.v u))]) (fun j _ => [abox b2 (encGr x) 59, obx b u, arow 59 3 u (l.map encGr)]) (fun j _ => ∀ y ∈ l.take j, y ≠ x) () (by simp) ?_ ?_
  ·rintro j y _ hj hdd hjl hp
   have hrow : (l.map encGr)[j]? = some (encGr y) := by simp [hj]
   have hy := List.mem_of_getElem? hj
   have h1 : y.arcs.length ≤ 16 ∧ x.arcs.length ≤ 16 := ⟨h16 y hy, hx16⟩
   subst hu
   (repeat' first | (refine kkS [] [10] ?_; intros) | fail)
   refine kr ?_ (h := P_loadNR (j := j) (o := 0) (sz := 3) _ rfl (by repeat (first | exact List.Mem.head _ | apply List.Mem.tail)) hrow rfl rfl)
   (repeat' first | (refine kk ?_; intros) | refine kfk ?_ ?_ <;> intro hb | fail)
   ·have e : y = x := (cG_tot.eq _ _).1 hb
    have ha : addG l x = l := if_pos (e ▸ hy)
    exact ker0 ⟨_, by rw [ha]⟩
   ·exact ⟨(), take_succ_allP hj hp fun e => hb ((cG_tot.eq _ _).2 e), kwk⟩
  ·rintro _ hp
   rw [List.take_length] at hp
   have ha : addG l x = l ++ [x] := if_neg fun h => hp x h rfl
   subst hu
   (repeat' first | (refine kk ?_; intros) | refine kfk ?_ ?_ <;> intro hb | fail)
   rename_i u2
   refine ker0 ⟨u2, rfl⟩ (hs := ?_)
   rw [ha]
   simp only [List.map_append]
   (exact wS)
end
noncomputable section
open Classical
def addM (l : List Gr) (x y : Gr) : List Gr := if meetsG x y then addG l (compG x y) else l
theorem addM_sub {l : List Gr} {x y : Gr} : ∀ z ∈ l, z ∈ addM l x y := fun z hz => by
 unfold addM
 split
 ·exact mem_addG.2 (.inr hz)
 ·exact hz
theorem addM_len {l : List Gr} {x y : Gr} : l.length ≤ (addM l x y).length ∧ (addM l x y).length ≤ l.length + 1 := by
 unfold addM
 split
 ·exact addG_len
 ·omega
theorem addM_get {l : List Gr} {x y z : Gr} {i : Nat} (h : l[i]? = some z) : (addM l x y)[i]? = some z := by
 unfold addM
 split
 ·exact addG_get h
 ·exact h
theorem addM_mem {l : List Gr} {x y : Gr} (h : meetsG x y) : compG x y ∈ addM l x y := by
 unfold addM
 rw [if_pos h]
 exact mem_addG.2 (.inl rfl)
theorem Dn.more {l l' : List Gr} {i k : Nat} (h : Dn l i k) (hi : i < l.length) (hk : k < l.length) (hg : ∀ {z : Gr} {p : Nat}, l[p]? = some z → l'[p]? = some z) (hs : ∀ z ∈ l, z ∈ l') : Dn l' i k := fun x y hx hy => by
 rw [hg (List.getElem?_eq_getElem hi)] at hx
 rw [hg (List.getElem?_eq_getElem hk)] at hy
 have := h x y (by rw [← hx]; exact List.getElem?_eq_getElem hi) (by rw [← hy]; exact List.getElem?_eq_getElem hk)
 exact ⟨fun hm => hs _ (this.1 hm), fun hm => hs _ (this.2 hm)⟩
abbrev GL := {g : Gr // g.arcs.length ≤ 16}
instance : Inhabited GL := ⟨⟨zeroG, by simp⟩⟩
abbrev eGL (g : GL) : List D := encGr g.1
theorem cGL_tot : TotC fun a b : GL => cG a.1 b.1 := cG_tot.by (f := Subtype.val) fun _ _ h => Subtype.ext h
theorem lessG_c (p : Nat) {u : Value} {b n c : Nat} (hu : u = .slice (some ⟨b, 0, none⟩) n c) (d : Array GL) (hd : d.size = n) (hn : n ≤ 1152921504606846976) (i j : Nat) (hi : i < n) (hj : j < n) :
 Spec Tryz.prog 49 [nv i, nv j, .one (.v (.pointer (some ⟨p, 0, none⟩)))] [obx p u, arow 59 3 u (d.toList.map eGL)] fun v A' => v = bv (ltC (fun a b : GL => cG a.1 b.1) d[i]! d[j]!) ∧ A' = [obx p u, arow 59 3 u (d.toList.map eGL)] := by
 subst hu
 subst hd
 have hlen : (d.toList.map eGL).length = d.size := by simp
 have r1 : (d.toList.map eGL)[i]? = some (encGr d[i]!.1) := by simp [hi]
 have r2 : (d.toList.map eGL)[j]? = some (encGr d[j]!.1) := by simp [hj]
 have l1 : d[i]!.1.arcs.length ≤ 16 ∧ d[j]!.1.arcs.length ≤ 16 := ⟨d[i]!.2, d[j]!.2⟩
 generalize d[i]! = x at r1 l1 ⊢
 generalize d[j]! = y at r2 l1 ⊢
 have hval := cG_tot.val x.1 y.1
 refine sp Tryz.func49 rfl Tryz.ntmps49 rfl rfl fun C => ?_
 (repeat' first | (refine kk ?_; intros) | refine kfk ?_ ?_ <;> intro hb | fail)
 refine kar ?_ (h := P_loadNR (j := i) (o := 0) (sz := 3) _ rfl (by repeat (first | exact List.Mem.head _ | apply List.Mem.tail)) r1 rfl rfl)
 (repeat' first | (refine kk ?_; intros) | refine kfk ?_ ?_ <;> intro hb | fail)
 refine kar ?_ (h := P_loadNR (j := j) (o := 0) (sz := 3) _ rfl (by repeat (first | exact List.Mem.head _ | apply List.Mem.tail)) r2 rfl rfl)
 (repeat' first | (refine kk ?_; intros) | refine kfk ?_ ?_ <;> intro hb | fail)
 exact ker1 _ ⟨rfl, rfl⟩ (hle := le_eq (congrArg bv (decide_eq_decide.2 (show cG x.1 y.1 < 0 ↔ cG x.1 y.1 = -1 by omega))))
theorem strict_of_sorted {l : List Gr} (hn : l.Nodup) (h : l.Pairwise fun a b => cG b a ≠ -1) : Strict cG l := (hn.and h).imp fun {a b} ⟨h1, h2⟩ => by
 have := cG_tot.val a b
 rcases this with h | h | h
 ·exact h
 ·exact absurd ((cG_tot.eq _ _).1 h) h1
 ·exact absurd (by rw [cG_tot.anti, h]) h2
instance sizeClosureD_i : Con1 Tryz.prog 18 (List RlR) vP (fun p => optGs (closeP p)) InP := ⟨fun p hin => by
 refine pu Tryz.func18 rfl Tryz.ntmps18 rfl rfl fun C => ?_
 (repeat' first | (refine kk ?_; intros) | refine kfk ?_ ?_ <;> intro hb | fail)
 cases hs : sizeF p with
 | none =>
  rw [show closeP p = none by unfold closeP; rw [hs]; rfl]
  (repeat' first | (refine kk ?_; intros) | refine kfk ?_ ?_ <;> intro hb | fail)
  exact kr2 rvN (rvT rfl)
 | some first =>
  have hv : closeP p = closeF cG meetsG compG 200 first := by unfold closeP; rw [hs]; rfl
  rw [hv]
  obtain ⟨hf, hfl⟩ := sizeF_ok hs
  have hlen : (first.map encGr).length = first.length := by simp
  (repeat' first | (refine kkz ?_; intros) | refine kfk ?_ ?_ <;> intro hb | fail)
  rename_i b1 u0 b6
  refine kfor (ι := Value × List Gr) first (fun j q => [(6, .one (.v (.pointer (some ⟨b6, 0, none⟩)))), (7, fv 47 [.pointer (some ⟨b6, 0, none⟩)]), (25, .one (.s 3 (first.map encGr)))]) (fun j q => [obx b6 q.1, arow 59 3 q.1 (q.2.map encGr)]) (fun j q => ClI first q.2 ∧ (∀ g ∈ first.take j, g ∈ q.2) ∧ q.2.length ≤ j) (u0, []) ⟨⟨.nil, by simp⟩, by simp, by simp⟩ ?_ ?_
  ·rintro j x ⟨u, l⟩ hj hdd hjl ⟨q1, q2, q3⟩
   simp only at q1 q2 q3
   have hrow : (first.map encGr)[j]? = some (encGr x) := by simp [hj]
   have hx := List.mem_of_getElem? hj
   have hal := addG_len (l := l) (x := x)
   dsimp only
   (repeat' first | (refine kk ?_; intros) | refine kfk ?_ ?_ <;> intro hb | fail)
   refine kcl (A1 := [_]) (h := addD_c b6 u l x (by omega) (fun z hz => (q1.ok hf z hz).arcs.len) (hf x hx).arcs.len) ?_ (h1 := rfl)
   rintro _ _ ⟨u9, rfl⟩
   (repeat' first | (refine kk ?_; intros) | refine kfk ?_ ?_ <;> intro hb | fail)
   exact ⟨(u9, addG l x), ⟨q1.add (.base hx), take_succ_allP hj (fun y hy => mem_addG.2 (.inr (q2 y hy))) (mem_addG.2 (.inl rfl)), by simp only; omega⟩, kwk⟩
  rintro ⟨u, l⟩ ⟨q1, q2, q3⟩
  rw [List.take_length] at q2
  simp only at q1 q2 q3
  (repeat' first | (refine kk ?_; intros) | refine kfk ?_ ?_ <;> intro hb | fail)
  refine kloop (ι := Nat × Value × List Gr) (fun q => 1000000 - q.1) (fun q => [(6, .one (.v (.pointer (some ⟨b6, 0, none⟩)))), (7, fv 47 [.pointer (some ⟨b6, 0, none⟩)]), (10, nv q.1)]) (fun q => [obx b6 q.2.1, arow 59 3 q.2.1 (q.2.2.map encGr)]) (fun q => ClI first q.2.2 ∧ (∀ g ∈ first, g ∈ q.2.2) ∧ q.1 ≤ q.2.2.length ∧ (∀ i' k', i' < q.1 → k' ≤ i' → Dn q.2.2 i' k') ∧ (q.2.2.length ≤ 200 ∨ (q.1 = 0 ∧ q.2.2.length ≤ 600000))) (0, u, l) ⟨q1, q2, Nat.zero_le _, fun i' k' h => by omega, .inr ⟨rfl, by simp only; omega⟩⟩ ?_
  clear q1 q2 q3 u l
  rintro ⟨i, u, l⟩ ⟨q1, q2, q3, q4, q5⟩
  simp only at q1 q2 q3 q4 q5
  dsimp only
  by_cases hi : i < l.length
  ·(repeat' first | (refine kk ?_; intros) | refine kfk ?_ ?_ <;> intro hb | fail)
   refine kloop (ι := Nat × Value × List Gr) (fun q => i + 1 - q.1) (fun q => [(6, .one (.v (.pointer (some ⟨b6, 0, none⟩)))), (7, fv 47 [.pointer (some ⟨b6, 0, none⟩)]), (10, nv i), (11, nv q.1)]) (fun q => [obx b6 q.2.1, arow 59 3 q.2.1 (q.2.2.map encGr)]) (fun q => ClI first q.2.2 ∧ (∀ g ∈ first, g ∈ q.2.2) ∧ (i < q.2.2.length ∧ q.1 ≤ i + 1) ∧ (∀ i' k', (i' < i ∧ k' ≤ i' ∨ i' = i ∧ k' < q.1) → Dn q.2.2 i' k') ∧ (q.2.2.length ≤ 200 ∨ (i = 0 ∧ q.1 = 0 ∧ q.2.2.length ≤ 600000))) (0, u, l) ⟨q1, q2, ⟨hi, Nat.zero_le _⟩, fun i' k' h => q4 i' k' (by omega) (by omega), q5.imp id fun h => ⟨h.1, rfl, h.2⟩⟩ ?_
   clear q1 q2 q3 q4 q5 hi u l
   rintro ⟨k, u, l⟩ ⟨cl_l, q2, ⟨hi, hk1⟩, q4, q5⟩
   simp only at cl_l q2 hi hk1 q4 q5
   dsimp only
   by_cases hk : k ≤ i
   case neg =>
    obtain rfl : k = i + 1 := by omega
    (repeat' first | (refine kk ?_; intros) | refine kfk ?_ ?_ <;> intro hb | fail)
    exact ⟨(i + 1, u, l), by simp only; omega, ⟨cl_l, q2, hi, fun i' k' h1 h2 => q4 i' k' (by omega), by simp only; omega⟩, kwk⟩
   have ok_l := cl_l.ok hf
   obtain ⟨x, hx_l⟩ : ∃ y, l[i]? = some y := ⟨l[i], List.getElem?_eq_getElem hi⟩
   obtain ⟨y, hy_l⟩ : ∃ y, l[k]? = some y := ⟨l[k], List.getElem?_eq_getElem (by omega)⟩
   have okx := ok_l x (List.mem_of_getElem? hx_l)
   have oky := ok_l y (List.mem_of_getElem? hy_l)
   have hll : (l.map encGr).length = l.length := by simp
   (repeat' first | (refine kk ?_; intros) | refine kfk ?_ ?_ <;> intro hb | fail)
   refine AD_rowU (e := 59) (sz := 3) (u := u) (rows := l.map encGr) (by repeat (first | exact List.Mem.head _ | apply List.Mem.tail)) fun hu => ?_
   rw [List.length_map] at hu
   obtain ⟨bb_l, cc_l, hu_l⟩ := hu.resolve_left (fun h => by have := h.2; omega)
   subst hu_l
   have rx_l : (l.map encGr)[i]? = some (encGr x) := by simp [hx_l]
   have ry_l : (l.map encGr)[k]? = some (encGr y) := by simp [hy_l]
   have pc_l : GrOk x ∧ GrOk y := ⟨okx, oky⟩
   refine kmix 14 [0, 1, 2, 3, 4, 5, 6, 7, 8, 9, 10, 11] [12, 13] [obx b6 (.slice (some ⟨bb_l, 0, none⟩) l.length cc_l), arow 59 3 (.slice (some ⟨bb_l, 0, none⟩) l.length cc_l) (l.map encGr)] ?_ (hB := Has.refl _)
   iterate 3 refine kal1 ?_
   refine kal1 ?_ (h := P_loadNR (j := i) (o := 0) (sz := 3) _ rfl (by repeat (first | exact List.Mem.head _ | apply List.Mem.tail)) rx_l rfl rfl)
   iterate 3 refine kal1 ?_
   refine kal1 ?_ (h := P_loadNR (j := k) (o := 0) (sz := 3) _ rfl (by repeat (first | exact List.Mem.head _ | apply List.Mem.tail)) ry_l rfl rfl)
   (repeat (refine kkc ?_))
   refine kacO rfl rfl (O_alloc rfl) ?_
   rintro v A' ⟨b12, rfl, rfl⟩
   refine ⟨⟨[_], .refl _⟩, ?_⟩
   refine kacW 0 (hb := ⟨[_], .refl _⟩) ?_
   (repeat (refine kkc ?_))
   (repeat' first | (refine kk ?_; intros) | fail)
   refine kcut (ι := Value) (fun u9 => [(6, .one (.v (.pointer (some ⟨b6, 0, none⟩)))), (7, fv 47 [.pointer (some ⟨b6, 0, none⟩)]), (10, nv i), (11, nv k)]) (fun u9 => [obx b6 u9, arow 59 3 u9 ((addM l x y).map encGr)]) (fun _ => True) ?_ ?_
   ·(repeat' first | (refine kk ?_; intros) | refine kfk ?_ ?_ <;> intro hb | fail)
    ·have hcm := cmpV_yes hb
     rw [hcm]
     refine kcl (A1 := [_]) (h := addD_c b6 _ l (compG x y) (by omega) (fun z hz => (ok_l z hz).arcs.len) (compA_ok _ _).len) ?_ (h1 := rfl)
     rintro _ _ ⟨u9, rfl⟩
     (repeat' first | (refine kk ?_; intros) | refine kfk ?_ ?_ <;> intro hb | fail)
     refine ⟨u9, trivial, ?_⟩
     rw [show addM l x y = addG l (compG x y) from if_pos hb]
     exact kwk
    ·refine ⟨.slice (some ⟨bb_l, 0, none⟩) l.length cc_l, trivial, ?_⟩
     rw [show addM l x y = l from if_neg hb]
     exact kwk
   rintro u1 _
   have hc_l : ClI first (addM l x y) := by
    unfold addM
    split
    ·rename_i hm
     exact cl_l.add (.step (cl_l.clo _ (List.mem_of_getElem? hx_l)) (cl_l.clo _ (List.mem_of_getElem? hy_l)) hm)
    ·exact cl_l
   have hs_l := addM_sub (l := l) (x := x) (y := y)
   have hn_l := addM_len (l := l) (x := x) (y := y)
   have hg_l := fun {z : Gr} {p : Nat} => addM_get (l := l) (x := x) (y := y) (i := p) (z := z)
   have hm_l := addM_mem (l := l) (x := x) (y := y)
   generalize addM l x y = l1 at hc_l hs_l hn_l hg_l hm_l ⊢
   have cl_l1 := hc_l
   have ok_l1 := cl_l1.ok hf
   have hy_l1 := hg_l hx_l
   have hx_l1 := hg_l hy_l
   have hll1 : (l1.map encGr).length = l1.length := by simp
   (repeat' first | (refine kk ?_; intros) | refine kfk ?_ ?_ <;> intro hb | fail)
   refine AD_rowU (e := 59) (sz := 3) (u := u1) (rows := l1.map encGr) (by repeat (first | exact List.Mem.head _ | apply List.Mem.tail)) fun hu => ?_
   rw [List.length_map] at hu
   obtain ⟨bb_l1, cc_l1, hu_l1⟩ := hu.resolve_left (fun h => by have := h.2; omega)
   subst hu_l1
   have rx_l1 : (l1.map encGr)[k]? = some (encGr y) := by simp [hx_l1]
   have ry_l1 : (l1.map encGr)[i]? = some (encGr x) := by simp [hy_l1]
   have pc_l1 : GrOk y ∧ GrOk x := ⟨oky, okx⟩
   refine kmix 14 [0, 1, 2, 3, 4, 5, 6, 7, 8, 9, 10, 11] [12, 13] [obx b6 (.slice (some ⟨bb_l1, 0, none⟩) l1.length cc_l1), arow 59 3 (.slice (some ⟨bb_l1, 0, none⟩) l1.length cc_l1) (l1.map encGr)] ?_ (hB := Has.refl _)
   iterate 3 refine kal1 ?_
   refine kal1 ?_ (h := P_loadNR (j := k) (o := 0) (sz := 3) _ rfl (by repeat (first | exact List.Mem.head _ | apply List.Mem.tail)) rx_l1 rfl rfl)
   iterate 3 refine kal1 ?_
   refine kal1 ?_ (h := P_loadNR (j := i) (o := 0) (sz := 3) _ rfl (by repeat (first | exact List.Mem.head _ | apply List.Mem.tail)) ry_l1 rfl rfl)
   (repeat (refine kkc ?_))
   refine kacO rfl rfl (O_alloc rfl) ?_
   rintro v A' ⟨b14, rfl, rfl⟩
   refine ⟨⟨[_], .refl _⟩, ?_⟩
   refine kacW 0 (hb := ⟨[_], .refl _⟩) ?_
   (repeat (refine kkc ?_))
   (repeat' first | (refine kk ?_; intros) | fail)
   refine kcut (ι := Value) (fun u9 => [(6, .one (.v (.pointer (some ⟨b6, 0, none⟩)))), (7, fv 47 [.pointer (some ⟨b6, 0, none⟩)]), (10, nv i), (11, nv k)]) (fun u9 => [obx b6 u9, arow 59 3 u9 ((addM l1 y x).map encGr)]) (fun _ => True) ?_ ?_
   ·(repeat' first | (refine kk ?_; intros) | refine kfk ?_ ?_ <;> intro hb | fail)
    ·have hcm := cmpV_yes hb
     rw [hcm]
     refine kcl (A1 := [_]) (h := addD_c b6 _ l1 (compG y x) (by omega) (fun z hz => (ok_l1 z hz).arcs.len) (compA_ok _ _).len) ?_ (h1 := rfl)
     rintro _ _ ⟨u9, rfl⟩
     (repeat' first | (refine kk ?_; intros) | refine kfk ?_ ?_ <;> intro hb | fail)
     refine ⟨u9, trivial, ?_⟩
     rw [show addM l1 y x = addG l1 (compG y x) from if_pos hb]
     exact kwk
    ·refine ⟨.slice (some ⟨bb_l1, 0, none⟩) l1.length cc_l1, trivial, ?_⟩
     rw [show addM l1 y x = l1 from if_neg hb]
     exact kwk
   rintro u2 _
   have hc_l1 : ClI first (addM l1 y x) := by
    unfold addM
    split
    ·rename_i hm
     exact cl_l1.add (.step (cl_l1.clo _ (List.mem_of_getElem? hx_l1)) (cl_l1.clo _ (List.mem_of_getElem? hy_l1)) hm)
    ·exact cl_l1
   have hs_l1 := addM_sub (l := l1) (x := y) (y := x)
   have hn_l1 := addM_len (l := l1) (x := y) (y := x)
   have hg_l1 := fun {z : Gr} {p : Nat} => addM_get (l := l1) (x := y) (y := x) (i := p) (z := z)
   have hm_l1 := addM_mem (l := l1) (x := y) (y := x)
   generalize addM l1 y x = l2 at hc_l1 hs_l1 hn_l1 hg_l1 hm_l1 ⊢
   have cl_l2 := hc_l1
   have ok_l2 := cl_l2.ok hf
   have hll2 : (l2.map encGr).length = l2.length := by simp
   by_cases h200 : 200 < l2.length
   ·rw [closeF_none cl_l2.nd h200 cl_l2.clo]
    (repeat' first | (refine kk ?_; intros) | refine kfk ?_ ?_ <;> intro hb | fail)
    all_goals first
     | exact kr2 rvN (rvT rfl)
     | (exfalso; omega)
   ·(repeat' first | (refine kk ?_; intros) | refine kfk ?_ ?_ <;> intro hb | fail)
    all_goals first
     | (exfalso; omega)
     | skip
    refine ⟨(k + 1, u2, l2), by simp only; omega, ⟨cl_l2, fun g hg => hs_l1 g (hs_l g (q2 g hg)), ⟨by simp only; omega, by simp only; omega⟩, fun i' k' h => ?_, .inl (by simp only; omega)⟩, kwk⟩
    simp only at h
    by_cases hnew : i' = i ∧ k' = k
    ·obtain ⟨rfl, rfl⟩ := hnew
     intro x' y' hx' hy'
     rw [hg_l1 (hg_l hx_l)] at hx'
     rw [hg_l1 (hg_l hy_l)] at hy'
     cases hx'; cases hy'
     exact ⟨fun hm => hs_l1 _ (hm_l hm), fun hm => hm_l1 hm⟩
    ·exact (q4 i' k' (by omega)).more (by omega) (by omega) (fun h => hg_l1 (hg_l h)) fun z hz => hs_l1 z (hs_l z hz)
  ·obtain rfl : i = l.length := by omega
   have hl200 : l.length ≤ 200 := by omega
   have hok := q1.ok hf
   have hmem := all_done q2 q1 q4
   have hll : (l.map encGr).length = l.length := by simp
   (repeat' first | (refine kk ?_; intros) | refine kfk ?_ ?_ <;> intro hb | fail)
   refine kr ?_ (h := P_iface _ rfl)
   (repeat' first | (refine kkS [48] [] ?_; intros) | refine kfS [48] [] ?_ ?_ <;> intro hb | fail)
   have hle : ∀ g ∈ l, g.arcs.length ≤ 16 := fun g hg => (hok g hg).arcs.len
   have hpm : (l.pmap Subtype.mk hle).map Subtype.val = l := by rw [List.map_pmap]; simp
   refine kcs (A1 := []) (h := sortS_c (t := 26) (e := 59) cGL_tot.swo (fun h => by cases h) eGL [obx b6 u] (g := 49) (capL := [.pointer (some ⟨b6, 0, none⟩)]) u (l.pmap Subtype.mk hle).toArray (by simp; omega) ?_) ?_ (hA := perm_row2 (X := l.map encGr) (Y := (l.pmap Subtype.mk hle).toArray.toList.map eGL) (by (conv => lhs; rw [← hpm]); rw [List.map_map]; rfl))
   ·intro bb c hu d' i j h1 h2 h3
    exact CallV.of_spec (by rfl) (lessG_c b6 hu d' h1 (by simp; omega) i j h2 h3)
   ·rintro _ _ ⟨d', rfl, h1, h2⟩
    have pm : (d'.toList.map Subtype.val).Perm l := by
     have := (permIn_list h1).map Subtype.val
     rwa [show (l.pmap Subtype.mk hle).toArray.toList = l.pmap Subtype.mk hle from rfl, hpm] at this
    have pw : (d'.toList.map Subtype.val).Pairwise fun a b => cG b a ≠ -1 := by
     rw [List.pairwise_map]
     refine (sorted_pw (d := d') (by rw [h1.1]; exact h2)).imp fun {a b} h => by simpa [ltC] using h
    have hst : Strict cG (d'.toList.map Subtype.val) := strict_of_sorted (pm.nodup_iff.2 q1.nd) pw
    rw [closeF_some cG_tot hst (by rw [pm.length_eq]; exact hl200) fun g => (pm.mem_iff).trans (hmem g)]
    (repeat' first | (refine kk ?_; intros) | refine kfk ?_ ?_ <;> intro hb | fail)
    refine kr2 (rvR ?_) (rvT rfl)
    rw [List.map_map]; rfl⟩
end
noncomputable section
instance cmpG_s : Con2 Tryz.prog 42 Gr Gr vGr vGr (fun a b => iv (cG a b)) (fun a b => a.arcs.length ≤ 16 ∧ b.arcs.length ≤ 16) := ⟨fun a b ⟨hla, hlb⟩ => by
 obtain ⟨a1, a2, l⟩ := a
 obtain ⟨b1, b2, m⟩ := b
 simp only at hla hlb
 have hlen1 : (l.map encA).length = l.length := by simp
 have hlen2 : (m.map encA).length = m.length := by simp
 refine pu Tryz.func42 rfl Tryz.ntmps42 rfl rfl fun C => ?_
 (repeat' first | (refine kk ?_; intros) | refine kfk ?_ ?_ <;> intro hb | fail)
 ·rw [cG_caller (by exact hb)]
  exact kret rfl
 ·rename_i g0
  rw [cG_callee (by exact g0) (by exact hb)]
  exact kret rfl
 ·rename_i p q g0
  rw [show cG ⟨a1, a2, l⟩ ⟨b1, b2, m⟩ = lexC cArc l m from cG_arcs (by exact g0) (by exact hb)]
  refine kloop (ι := Nat) (fun i => l.length - i) (fun i => [(2, .one (.v (.pointer (some ⟨p, 0, none⟩)))), (3, .one (.v (.pointer (some ⟨q, 0, none⟩)))), (5, nv i)]) (fun _ => [abox q [.v (.string b1), .v (.string b2), .s 3 (m.map encA)] 59, abox p [.v (.string a1), .v (.string a2), .s 3 (l.map encA)] 59]) (fun i => (i ≤ l.length ∧ i ≤ m.length) ∧ lexC cArc l m = lexC cArc (l.drop i) (m.drop i)) 0 ⟨⟨Nat.zero_le _, Nat.zero_le _⟩, rfl⟩ ?_
  rintro i ⟨⟨h1, h2⟩, h3⟩
  by_cases hi : i < l.length
  ·by_cases hj : i < m.length
   ·obtain ⟨⟨f, t, s⟩, hx⟩ : ∃ y, l[i]? = some y := ⟨l[i], List.getElem?_eq_getElem hi⟩
    obtain ⟨⟨f', t', s'⟩, hy⟩ : ∃ y, m[i]? = some y := ⟨m[i], List.getElem?_eq_getElem hj⟩
    have hr1 : (l.map encA)[i]? = some [.v (.int .i64 (f : Int)), .v (.int .i64 (t : Int)), .v (.bool s)] := by simp [hx, encA]
    have hr2 : (m.map encA)[i]? = some [.v (.int .i64 (f' : Int)), .v (.int .i64 (t' : Int)), .v (.bool s')] := by simp [hy, encA]
    have hs := lexC_drop (c := cArc) hx hy
    rw [← h3] at hs
    by_cases e1 : f = f'
    ·subst e1
     have z1 : cI (f : Int) f = 0 := cI_tot.self _
     by_cases e2 : t = t'
     ·subst e2
      rw [cArc_2] at hs
      cases s <;> cases s'
      ·(repeat' first | (refine kk ?_; intros) | refine kfk ?_ ?_ <;> intro hb | fail)
       refine kr ?_ (h := P_neB (a := false) (b := false) _ _ rfl rfl)
       (repeat' first | (refine kk ?_; intros) | refine kfk ?_ ?_ <;> intro hb | fail)
       exact ⟨i + 1, by omega, ⟨⟨by omega, by omega⟩, hs⟩, kwk⟩
      ·(repeat' first | (refine kk ?_; intros) | refine kfk ?_ ?_ <;> intro hb | fail)
       refine kr ?_ (h := P_neB (a := false) (b := true) _ _ rfl rfl)
       (repeat' first | (refine kk ?_; intros) | refine kfk ?_ ?_ <;> intro hb | fail)
       rw [hs]; exact kret rfl
      ·(repeat' first | (refine kk ?_; intros) | refine kfk ?_ ?_ <;> intro hb | fail)
       refine kr ?_ (h := P_neB (a := true) (b := false) _ _ rfl rfl)
       (repeat' first | (refine kk ?_; intros) | refine kfk ?_ ?_ <;> intro hb | fail)
       rw [hs]; exact kret rfl
      ·(repeat' first | (refine kk ?_; intros) | refine kfk ?_ ?_ <;> intro hb | fail)
       refine kr ?_ (h := P_neB (a := true) (b := true) _ _ rfl rfl)
       (repeat' first | (refine kk ?_; intros) | refine kfk ?_ ?_ <;> intro hb | fail)
       exact ⟨i + 1, by omega, ⟨⟨by omega, by omega⟩, hs⟩, kwk⟩
     ·have n2 : ¬ cI (t : Int) t' = 0 := fun e => e2 (by have := (cI_tot.eq _ _).1 e; omega)
      have n2' : ¬ (t : Int) = t' := by omega
      rw [cArc_1 n2] at hs
      (repeat' first | (refine kk ?_; intros) | refine kfk ?_ ?_ <;> intro hb | fail)
      rw [hs]; exact kret (congrArg iv (sign_cI n2'))
    ·have n1 : ¬ cI (f : Int) f' = 0 := fun e => e1 (by have := (cI_tot.eq _ _).1 e; omega)
     have n1' : ¬ (f : Int) = f' := by omega
     rw [cArc_0 n1] at hs
     (repeat' first | (refine kk ?_; intros) | refine kfk ?_ ?_ <;> intro hb | fail)
     rw [hs]; exact kret (congrArg iv (sign_cI n1'))
   ·have hz := lexC_end (c := cArc) h1 h2 (.inr (by omega))
    rw [← h3] at hz
    have hjm : i = m.length := by omega
    have hne : ¬ (l.length : Int) = m.length := by omega
    rw [show lexC cArc l m = 1 from hz.trans (by unfold cI; rw [if_neg (by omega), if_pos (by omega)])]
    (repeat' first | (refine kk ?_; intros) | refine kfk ?_ ?_ <;> intro hb | fail)
    exact kret rfl
  ·have hz := lexC_end (c := cArc) h1 h2 (.inl (by omega))
   rw [← h3] at hz
   have hjl : i = l.length := by omega
   by_cases hne : l.length = m.length
   ·have hne' : (l.length : Int) = m.length := by omega
    rw [show lexC cArc l m = 0 from hz.trans ((cI_tot.eq _ _).2 hne')]
    (repeat' first | (refine kk ?_; intros) | refine kfk ?_ ?_ <;> intro hb | fail)
    exact kret rfl
   ·have hne' : ¬ (l.length : Int) = m.length := by omega
    have hlt : (l.length : Int) < m.length := by omega
    rw [show lexC cArc l m = -1 from hz.trans (by unfold cI; rw [if_pos hlt])]
    (repeat' first | (refine kk ?_; intros) | refine kfk ?_ ?_ <;> intro hb | fail)
    exact kret rfl⟩
end
noncomputable section
open Classical
theorem ltG_of_strict {l : List Gr} (hs : Strict cG l) {k : Nat} {b x : Gr} (hk : l[k]? = some b) (hb : cG b x = -1) : ∀ c ∈ l.take (k + 1), cG c x = -1 := fun c hc => by
 obtain ⟨i, hi⟩ := List.getElem?_of_mem hc
 rw [List.getElem?_take] at hi
 split at hi
 ·rcases Nat.lt_or_ge i k with h | h
  ·exact cG_tot.trans _ _ _ (asc_get hs hi hk h) hb
  ·obtain rfl : i = k := by omega
   rw [hk] at hi; cases hi; exact hb
 ·cases hi
instance insert31_s : Con2 Tryz.prog 46 (List Gr) Gr vGrs vGr (fun l g => vGrs (insU cG g l)) (fun l g => Strict cG l ∧ l.length ≤ 1000000 ∧ (∀ y ∈ l, y.arcs.length ≤ 16) ∧ g.arcs.length ≤ 16) := ⟨fun l g ⟨hs, hl, h16, hg16⟩ => by
 have hlen : (l.map encGr).length = l.length := by simp
 refine pu Tryz.func46 rfl Tryz.ntmps46 rfl rfl fun C => ?_
 (repeat' first | (refine kk ?_; intros) | refine kfk ?_ ?_ <;> intro hb | fail)
 rename_i b3
 refine kloopE (ι := Nat) 0 (fun k => k) (fun k => [(0, vGrs l), (3, .one (.v (.pointer (some ⟨b3, 0, none⟩)))), (5, nv k)]) (fun _ => [abox b3 (encGr g) 59]) (fun k => k ≤ l.length ∧ ∀ i y, k ≤ i → l[i]? = some y → ¬ cG y g = -1) (fun k => k ≤ l.length ∧ (∀ i y, k ≤ i → l[i]? = some y → ¬ cG y g = -1) ∧ ∀ y ∈ l.take k, cG y g = -1) l.length ⟨Nat.le_refl _, fun i y hi hy => by have := (List.getElem?_eq_some_iff.1 hy).1; omega⟩ ?_ ?_
 ·rintro k ⟨h1, h2⟩
  by_cases hk : 0 < k
  ·obtain ⟨y, hy⟩ : ∃ y, l[k - 1]? = some y := ⟨l[k - 1], List.getElem?_eq_getElem (by omega)⟩
   have hrow : (l.map encGr)[k - 1]? = some (encGr y) := by simp [hy]
   have p1 : y.arcs.length ≤ 16 ∧ g.arcs.length ≤ 16 := ⟨h16 y (List.mem_of_getElem? hy), hg16⟩
   have hval := cG_tot.val y g
   by_cases hc : cG y g = -1
   ·(repeat' first | (refine kk ?_; intros) | refine kfk ?_ ?_ <;> intro hb | fail)
    all_goals first
     | (refine ⟨k, ⟨h1, h2, ?_⟩, kwk⟩
        have := ltG_of_strict hs hy hc
        rwa [show k - 1 + 1 = k by omega] at this)
     | (exfalso; omega)
   ·(repeat' first | (refine kk ?_; intros) | refine kfk ?_ ?_ <;> intro hb | fail)
    all_goals first
     | (refine ⟨k - 1, by omega, ⟨by omega, fun i z hi hz => ?_⟩, kwk⟩
        rcases Nat.lt_or_ge i k with h | h
        ·obtain rfl : i = k - 1 := by omega
         rw [hy] at hz; cases hz; exact hc
        ·exact h2 i z h hz)
     | (exfalso; omega)
  ·obtain rfl : k = 0 := by omega
   (repeat' first | (refine kk ?_; intros) | refine kfk ?_ ?_ <;> intro hb | fail)
   exact ⟨0, ⟨h1, h2, by simp⟩, kwk⟩
 ·rintro k ⟨h1, h2, h3⟩
  have g0 : ∀ y ∈ l.take k, cG g y = 1 := fun y hy => by rw [cG_tot.anti, h3 y hy]; rfl
  have hput : (∀ y, l[k]? = some y → ¬ cG y g = 0) → insU cG g l = l.take k ++ g :: l.drop k := fun h0 => insU_put h1 g0 fun y hy => by
   have := cG_tot.val y g
   have h4 := h2 k y (Nat.le_refl _) hy
   have h5 := h0 y hy
   rw [cG_tot.anti]
   have : cG y g = 1 := by omega
   rw [this]
  by_cases hk : k < l.length
  ·obtain ⟨y, hy⟩ : ∃ y, l[k]? = some y := ⟨l[k], List.getElem?_eq_getElem hk⟩
   have hrow : (l.map encGr)[k]? = some (encGr y) := by simp [hy]
   have p1 : y.arcs.length ≤ 16 ∧ g.arcs.length ≤ 16 := ⟨h16 y (List.mem_of_getElem? hy), hg16⟩
   by_cases hc : cG y g = 0
   ·have : insU cG g l = l := insU_same g0 hy (by rw [cG_tot.anti, hc]; rfl)
    rw [this]
    (repeat' first | (refine kk ?_; intros) | refine kfk ?_ ?_ <;> intro hb | fail)
    all_goals first
     | exact kr1 (rvT rfl)
     | (exfalso; omega)
   ·rw [hput fun z hz => by rw [hy] at hz; cases hz; exact hc]
    (repeat' first | (refine kkz ?_; intros) | refine kfk ?_ ?_ <;> intro hb | fail)
    all_goals first
     | (refine kr1 (rvR ?_); simp)
     | (exfalso; omega)
     | trace_state
  ·rw [hput fun z hz => by have := (List.getElem?_eq_some_iff.1 hz).1; omega]
   (repeat' first | (refine kkz ?_; intros) | refine kfk ?_ ?_ <;> intro hb | fail)
   all_goals first
    | (refine kr1 (rvR ?_); simp)
    | (exfalso; omega)
    | trace_state⟩
end
noncomputable section
open Classical
theorem grOk_law : Comp (fun g : Gr => GrOk g) meetsG compG := ⟨fun a b ha hb _ => ⟨compA_ok _ _, ha.r1, hb.r2⟩, fun _ _ _ => .rfl, fun _ _ _ => .rfl, fun a b d ha hb hd => compG_law.assoc a b d ha.arcs hb.arcs hd.arcs⟩
structure RnI (first all next : List Gr) : Prop where
 st : Strict cG next
 sub : ∀ g ∈ all, g ∈ next
 cl : ∀ g ∈ next, RClo meetsG compG first g
 len : next.length ≤ 201 ∨ next.length ≤ all.length
theorem RnI.ins {first all next : List Gr} {a b : Gr} (h : RnI first all next) (ha : a ∈ all) (hb : b ∈ first) (hm : meetsG a b) (hl : next.length ≤ 200) : RnI first all (insU cG (compG a b) next) :=
 ⟨strict_insU cG_tot h.st, fun g hg => (mem_insU cG_tot).2 (.inr (h.sub g hg)), fun g hg => ((mem_insU cG_tot).1 hg).elim (fun e => e ▸ .step (h.cl a (h.sub a ha)) hb hm) (h.cl g), .inl (by have := len_insU (c := cG) (x := compG a b) (l := next); omega)⟩
theorem RClo.okG {first : List Gr} (hf : ∀ g ∈ first, GrOk g) {g : Gr} (h : RClo meetsG compG first g) : GrOk g := h.fine grOk_law hf
instance sizeClosure_s : Con1 Tryz.prog 17 (List RlR) vP (fun p => optGs (closeP p)) InP := ⟨fun p hin => by
 refine pu Tryz.func17 rfl Tryz.ntmps17 rfl rfl fun C => ?_
 (repeat' first | (refine kk ?_; intros) | refine kfk ?_ ?_ <;> intro hb | fail)
 cases hs : sizeF p with
 | none =>
  rw [show closeP p = none by unfold closeP; rw [hs]; rfl]
  (repeat' first | (refine kk ?_; intros) | refine kfk ?_ ?_ <;> intro hb | fail)
  exact kr2 rvN (rvT rfl)
 | some first =>
  have hv : closeP p = closeF cG meetsG compG 200 first := by unfold closeP; rw [hs]; rfl
  rw [hv]
  obtain ⟨hf, hfl⟩ := sizeF_ok hs
  have hlen : (first.map encGr).length = first.length := by simp
  (repeat' first | (refine kk ?_; intros) | refine kfk ?_ ?_ <;> intro hb | fail)
  refine kfor (ι := List Gr) first (fun j all => [(4, vGrs first), (6, vGrs all), (25, vGrs first)]) (fun j all => []) (fun j all => Strict cG all ∧ (∀ g, g ∈ all ↔ g ∈ first.take j) ∧ all.length ≤ j) [] ⟨.nil, by simp, by simp⟩ ?_ ?_
  ·rintro j x all hj hdd hjl ⟨q1, q2, q3⟩
   have hrow : (first.map encGr)[j]? = some (encGr x) := by simp [hj]
   have hx := List.mem_of_getElem? hj
   have p1 : Strict cG all ∧ all.length ≤ 1000000 ∧ (∀ y ∈ all, y.arcs.length ≤ 16) ∧ x.arcs.length ≤ 16 := ⟨q1, by omega, fun y hy => (hf y (List.mem_of_mem_take ((q2 y).1 hy))).arcs.len, (hf x hx).arcs.len⟩
   have ht1 : first.take (j + 1) = first.take j ++ [x] := by rw [List.take_add_one, hj]; rfl
   (repeat' first | (refine kk ?_; intros) | refine kfk ?_ ?_ <;> intro hb | fail)
   refine ⟨insU cG x all, ⟨strict_insU cG_tot q1, fun g => ?_, by have := len_insU (c := cG) (x := x) (l := all); omega⟩, kwk⟩
   rw [mem_insU cG_tot, q2, ht1]
   simp [or_comm]
  rintro all ⟨q1, q2, q3⟩
  rw [List.take_length] at q2
  (repeat' first | (refine kk ?_; intros) | refine kfk ?_ ?_ <;> intro hb | fail)
  refine kloopE (ι := List Gr) 2 (fun all => 201 - all.length) (fun all => [(4, vGrs first), (6, vGrs all)]) (fun _ => []) (fun all => Strict cG all ∧ (∀ g ∈ first, g ∈ all) ∧ (∀ g ∈ all, RClo meetsG compG first g) ∧ all.length ≤ 600000) (fun all => Strict cG all ∧ (∀ g, g ∈ all ↔ Clo meetsG compG first g) ∧ all.length ≤ 200) all ⟨q1, fun g hg => (q2 g).2 hg, fun g hg => .base ((q2 g).1 hg), by omega⟩ ?_ ?_
  ·clear q1 q2 q3 all
   rintro all ⟨q1, q2, q3, q4⟩
   have hla : (all.map encGr).length = all.length := by simp
   (repeat' first | (refine kk ?_; intros) | refine kfk ?_ ?_ <;> intro hb | fail)
   refine kfor (ι := List Gr) all (fun j next => [(4, vGrs first), (6, vGrs all), (9, vGrs next), (36, vGrs all)]) (fun _ _ => []) (fun j next => RnI first all next ∧ (next.length ≤ 200 → ∀ a ∈ all.take j, ∀ b ∈ first, meetsG a b → compG a b ∈ next)) all ⟨⟨q1, fun _ h => h, q3, .inr (Nat.le_refl _)⟩, by simp⟩ ?_ ?_
   ·rintro j a next hj hdd hjl ⟨q5, q6⟩
    have hrow : (all.map encGr)[j]? = some (encGr a) := by simp [hj]
    have ha := List.mem_of_getElem? hj
    have hta : all.take (j + 1) = all.take j ++ [a] := by rw [List.take_add_one, hj]; rfl
    (repeat' first | (refine kk ?_; intros) | refine kfk ?_ ?_ <;> intro hb | fail)
    rename_i b11
    refine kfor (ι := List Gr) first (fun m next => [(4, vGrs first), (6, vGrs all), (9, vGrs next), (36, vGrs all), (38, iv j), (37, iv all.length), (11, .one (.v (.pointer (some ⟨b11, 0, none⟩)))), (42, vGrs first)]) (fun _ _ => [abox b11 (encGr a) 59]) (fun m next => RnI first all next ∧ (next.length ≤ 200 → (∀ a' ∈ all.take j, ∀ b ∈ first, meetsG a' b → compG a' b ∈ next) ∧ ∀ b ∈ first.take m, meetsG a b → compG a b ∈ next)) next ⟨q5, fun h => ⟨q6 h, by simp⟩⟩ ?_ ?_
    ·rintro m b nx hm hmd hml ⟨q7, q8⟩
     have hrow2 : (first.map encGr)[m]? = some (encGr b) := by simp [hm]
     have hb0 := List.mem_of_getElem? hm
     have htb : first.take (m + 1) = first.take m ++ [b] := by rw [List.take_add_one, hm]; rfl
     have hln : (nx.map encGr).length = nx.length := by simp
     have hla2 := q7.len
     by_cases hmt : a.callee = b.caller
     ·by_cases hnl : nx.length ≤ 200
      ·have p2 : a.arcs.length ≤ 16 ∧ b.arcs.length ≤ 16 := ⟨((q3 a ha).okG hf).arcs.len, (hf b hb0).arcs.len⟩
       have p3 : Strict cG nx ∧ nx.length ≤ 1000000 ∧ (∀ y ∈ nx, y.arcs.length ≤ 16) ∧ (compG a b).arcs.length ≤ 16 := ⟨q7.st, by omega, fun y hy => ((q7.cl y hy).okG hf).arcs.len, (compA_ok _ _).len⟩
       obtain ⟨q9, q10⟩ := q8 hnl
       (repeat' first | (refine kk ?_; intros) | refine kfk ?_ ?_ <;> intro hb | fail)
       all_goals first
        | (exfalso; omega)
        | exact absurd hmt (by assumption)
        | (refine ⟨insU cG (compG a b) nx, ⟨q7.ins ha hb0 hmt hnl, fun _ => ⟨fun a' h1 b' h2 h3 => (mem_insU cG_tot).2 (.inr (q9 a' h1 b' h2 h3)), fun b' h1 h3 => ?_⟩⟩, kwk⟩
           rw [htb] at h1
           rcases List.mem_append.1 h1 with h1 | h1
           ·exact (mem_insU cG_tot).2 (.inr (q10 b' h1 h3))
           ·obtain rfl := List.mem_singleton.1 h1; exact (mem_insU cG_tot).2 (.inl rfl))
      ·(repeat' first | (refine kk ?_; intros) | refine kfk ?_ ?_ <;> intro hb | fail)
       all_goals first
        | (exfalso; omega)
        | exact absurd hmt (by assumption)
        | exact ⟨nx, ⟨q7, fun h => absurd h hnl⟩, kwk⟩
     ·(repeat' first | (refine kk ?_; intros) | refine kfk ?_ ?_ <;> intro hb | fail)
      all_goals first
       | exact absurd (by assumption) hmt
       | (refine ⟨nx, ⟨q7, fun h => ⟨(q8 h).1, fun b' h1 h3 => ?_⟩⟩, kwk⟩
          rw [htb] at h1
          rcases List.mem_append.1 h1 with h1 | h1
          ·exact (q8 h).2 b' h1 h3
          ·obtain rfl := List.mem_singleton.1 h1; exact absurd h3 hmt)
    ·rintro nx ⟨q7, q8⟩
     rw [List.take_length] at q8
     (repeat' first | (refine kk ?_; intros) | refine kfk ?_ ?_ <;> intro hb | fail)
     refine ⟨nx, ⟨q7, fun h a' h1 b' h2 h3 => ?_⟩, kwk⟩
     rw [hta] at h1
     rcases List.mem_append.1 h1 with h1 | h1
     ·exact (q8 h).1 a' h1 b' h2 h3
     ·obtain rfl := List.mem_singleton.1 h1; exact (q8 h).2 b' h2 h3
   ·rintro nx ⟨q5, q6⟩
    rw [List.take_length] at q6
    have hln : (nx.map encGr).length = nx.length := by simp
    have hnd := strict_nodup cG_tot q5.st
    have hclo : ∀ g ∈ nx, Clo meetsG compG first g := fun g hg => (clo_iff grOk_law hf).2 (q5.cl g hg)
    have hle : all.length ≤ nx.length := nodup_len (strict_nodup cG_tot q1) q5.sub
    by_cases h200 : 200 < nx.length
    ·rw [closeF_none hnd h200 hclo]
     (repeat' first | (refine kk ?_; intros) | refine kfk ?_ ?_ <;> intro hb | fail)
     all_goals first
      | exact kr2 rvN (rvT rfl)
      | (exfalso; omega)
    ·by_cases heq : nx.length = all.length
     ·have hback : ∀ g ∈ nx, g ∈ all := fun g hg => Classical.byContradiction fun hn => by
       have := nodup_len (l := g :: all) (m := nx) (List.nodup_cons.2 ⟨hn, strict_nodup cG_tot q1⟩) fun z hz => by
        rcases List.mem_cons.1 hz with rfl | hz
        ·exact hg
        ·exact q5.sub z hz
       simp at this; omega
      (repeat' first | (refine kk ?_; intros) | refine kfk ?_ ?_ <;> intro hb | fail)
      all_goals first
       | (exfalso; omega)
       | exact ⟨all, ⟨q1, closed_right grOk_law hf q2 q3 fun a ha b hb hm => hback _ (q6 (by omega) a ha b hb hm), by omega⟩, kwk⟩
     ·(repeat' first | (refine kk ?_; intros) | refine kfk ?_ ?_ <;> intro hb | fail)
      all_goals first
       | (exfalso; omega)
       | exact ⟨nx, by omega, ⟨q5.st, fun g hg => q5.sub g (q2 g hg), q5.cl, by omega⟩, kwk⟩
  clear q1 q2 q3 all
  rintro all ⟨q1, q2, q3⟩
  have hla : (all.map encGr).length = all.length := by simp
  have hok : ∀ g ∈ all, GrOk g := fun g hg => clo_ok hf ((q2 g).1 hg)
  rw [closeF_some cG_tot q1 q3 q2]
  (repeat' first | (refine kkz ?_; intros) | refine kfk ?_ ?_ <;> intro hb | fail)
  rename_i u0
  refine kfor (ι := Value × List OG) all (fun j q => [(14, .one (.v q.1)), (75, vGrs all)]) (fun j q => AG q.1 q.2) (fun j q => q.2.map (·.2) = all.take j) (u0, []) rfl ?_ ?_
  ·rintro j x ⟨u, os⟩ hj hdd hjl q4
   simp only at q4
   dsimp only
   have hrow : (all.map encGr)[j]? = some (encGr x) := by simp [hj]
   have hx16 := (hok x (List.mem_of_getElem? hj)).arcs.len
   have hol : os.length ≤ j := by have := congrArg List.length q4; simp at this; omega
   (repeat' first | (refine kk ?_; intros) | refine kfk ?_ ?_ <;> intro hb | fail)
   rename_i b16
   refine kmix 12 [0, 1, 2, 3, 4, 6, 7] [5, 8, 9, 10, 11] [abox b16 (encGr x) 59] ?_ (hB := Has.mem (by repeat (first | exact List.Mem.head _ | apply List.Mem.tail)))
   iterate 7 refine kal1 ?_
   refine kal0 ?_
   refine kacO rfl rfl O_bs0 ?_
   rintro _ _ ⟨ua, rfl, rfl⟩
   refine ⟨Has.mem (by repeat (first | exact List.Mem.head _ | apply List.Mem.tail)), ?_⟩
   refine kacO rfl rfl (O_app (e := 66) (sz := 3) 0 _ _ rfl rfl rfl rfl rfl (by simp only [List.length_map, List.length_nil]; omega)) ?_
   rintro _ _ ⟨ub, rfl, rfl⟩
   refine ⟨Has.mem (by repeat (first | exact List.Mem.head _ | apply List.Mem.tail)), ?_⟩
   refine kacP (hb := Has.mem (by repeat (first | exact List.Mem.head _ | apply List.Mem.tail))) ?_
   refine kacP (hb := Has.mem (by repeat (first | exact List.Mem.head _ | apply List.Mem.tail))) ?_
   refine kacO rfl rfl (O_app (e := 59) (sz := 3) 2 _ _ rfl rfl rfl rfl rfl (by simp only [List.length_map, List.length_cons, List.length_nil]; omega)) ?_
   rintro _ _ ⟨uc, rfl, rfl⟩
   refine ⟨Has.mem (by repeat (first | exact List.Mem.head _ | apply List.Mem.tail)), ?_⟩
   (repeat (refine kkc ?_))
   (repeat' first | (refine kk ?_; intros) | refine kfk ?_ ?_ <;> intro hb | fail)
   refine ⟨(uc, os ++ [(ub, x)]), ?_, ⟨leF_fl wL, ?_⟩⟩
   ·rw [List.take_add_one, hj, List.map_append, q4]; rfl
   ·show ∃ B, List.Perm B _ ∧ (arow 59 3 uc ((os ++ [(ub, x)]).map rowO) :: (os ++ [(ub, x)]).map atmO).Sublist B
    simp only [List.map_append, List.map_cons, List.map_nil]
    exact ats_last (L := arow 59 3 uc (os.map rowO ++ [rowO (ub, x)]) :: os.map atmO) (y := atmO (ub, x)) 0 rfl (by (exact wS))
  ·rintro ⟨u, os⟩ q4
   rw [List.take_length] at q4
   simp only at q4
   dsimp only
   (repeat' first | (refine kkS [] [94] ?_; intros) | fail)
   refine AO_freezeV (A1 := []) (B := AG u os) (t := 14) (.refl _) rfl vwAG' ?_
   rw [q4]
   (repeat' first | (refine kk ?_; intros) | refine kfk ?_ ?_ <;> intro hb | fail)
   exact kr2 (rvT rfl) (rvT rfl)⟩
end
end Go.Proofs.YtbabchapkhlenaaGreat
