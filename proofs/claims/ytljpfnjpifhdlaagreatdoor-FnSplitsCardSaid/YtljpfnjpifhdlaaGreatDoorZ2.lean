/- Terms made: variable, number, pair, copyTerm. Terms: their size and whether they are valid; the order of terms. Maps from integers: what a map's block holds, what reads and stores do. Regions in any order with one call that writes; all else only reads, and reads the same before and behind it. What goes through a term with a closure: eachVar, mapVars, sizeWith. The classes of variables: what they hold, and the root of a variable. The classes: meet and reaches. The classes: reaches. The classes: know. The classes: equal. The order of terms. The classes: equal at two variables. The classes: weigh. The classes: value. Rows of a call's own: elements read and stored, the last one taken off, several or none appended. A loop through a map from integers: what the iterator holds. -/
import Derived.Test.YtljpfnjpifhdlaaGreatDoorZ1
import Derived.Maps.RangeRun
namespace Go.Proofs.YtljpfnjpifhdlaaGreatDoor
open Go

/-- a term handed back -/
def OutT' (w : World) (M : Nat → Prop) (t : T) (v : Value) (w' : World) : Prop := ∃ vs, v = .agg vs.toArray ∧ rdT M w' t vs ∧ Mod [] w w'

set_option maxRecDepth 100000 in
theorem pair_c {x y : T} {us ts : List Value} {M : Nat → Prop} {w : World} (hM : ∀ b, M b → b < w.heap.size) (hx : rdT M w x us) (hy : rdT M w y ts) :
    Calls Tryz.prog 93 #[.agg us.toArray, .agg ts.toArray] w (Ret (OutT' w M (.pair x y))) := by
  obtain ⟨a1, n1, c1, rfl, hs1⟩ := rdT_args hx
  obtain ⟨a2, n2, c2, rfl, hs2⟩ := rdT_args hy
  refine enterC Tryz.func93 rfl Tryz.ntmps93 rfl (by simp) ?_
  have H := ((Holds.start w []).arg (L := LT) hx).arg (L := LT) hy
  refine W_rs ?_
  refine qrb H ?_; intro b1 w H
  refine qrb H ?_; intro b2 w H
  refine qrb H ?_; intro b3 w H
  refine WO_end (W_rs ?_)
  (repeat (first | ((with_reducible refine qi0 ?_); refine qrd ?_) | ((with_reducible refine qi1 ?_); first | refine qrn ?_ | refine qrg ?_ | refine qru ?_)))
  refine WO_s rfl (S_bslice2N H _ _ (by exact rfl) (by exact rfl) (by exact rfl) (by exact rfl) (by exact rfl) (by exact rfl) (by exact rfl) ?_); intro b4 w H
  refine WO_rd rfl (X_build (by exact rfl) [(0, [.int .i64 4]), (3, [.slice (some ⟨b4, 0, none⟩) 2 2])] (by exact rfl) (xs := [.int .i64 4, .int .i64 0, .string ⟨#[]⟩, .slice (some ⟨b4, 0, none⟩) 2 2]) (by exact rfl)) ?_
  refine qrs H ?_; intro w H
  refine WO_end (W_ret ?_)
  obtain ⟨h1, h2⟩ := H.own hM 0 rfl
  exact ⟨_, _, _, rfl, H.bcells 1 4 rfl rfl, rfl, _, rfl, rdT_mk (Nat.le_refl _) h1 h2 (H.out 1 rfl) (H.out 0 rfl) (H.bcells 0 8 rfl rfl), H.mod⟩

theorem T.cases4 {p : T → Prop} (t : T) (h1 : t.kind ≠ 4 → t.args = [] → p t) (h2 : ∀ x y, t = .pair x y → p t) : p t := by
  cases t with
  | pair x y => exact h2 x y rfl
  | nil => exact h1 (by decide) rfl
  | var n => exact h1 (by simp [T.kind]) rfl
  | sym s => exact h1 (by simp [T.kind]) rfl
  | num n => exact h1 (by simp [T.kind]) rfl
theorem rdT_leaf {M : Nat → Prop} {w : World} {t : T} (h : t.kind ≠ 4) (a : Option Addr) (c : Nat) : rdT M w t [.int .i64 t.kind, .int .i64 t.int, .string t.name, .slice a 0 c] := by
  cases t with
  | pair x y => exact absurd rfl h
  | nil => exact ⟨a, c, rfl⟩
  | var n => exact ⟨a, c, rfl⟩
  | sym s => exact ⟨a, c, rfl⟩
  | num n => exact ⟨a, c, rfl⟩

set_option maxRecDepth 100000 in
theorem copyTerm_c (t : T) : ∀ {vs : List Value} {M0 M : Nat → Prop} {w : World}, (∀ b, M b → b < w.heap.size) → rdT M0 w t vs → Calls Tryz.prog 92 #[.agg vs.toArray] w (Ret (OutT' w M t)) := by
  induction t with
  | pair x y ihx ihy =>
    intro vs M0 M w hM h
    obtain ⟨b, o, c, rfl, hc, hMb, hb, ⟨us, hus, cu⟩, ts, hts, ct⟩ := rdT_pair h
    obtain ⟨a1, c1, rfl⟩ := rdT_four hus
    obtain ⟨a2, c2, rfl⟩ := rdT_four hts
    refine enterC Tryz.func92 rfl Tryz.ntmps92 rfl (by simp) ?_
    have H := (((((Holds.start w []).arg (L := LT) hus).arg (L := LT) hts).add (d := dcells b o _) ⟨by simp [owns], hb, cu⟩)).add (d := dcells b (o + 4) _) ⟨by simp [owns], hb, ct⟩
    (repeat (first | refine qq ?_ | (refine qds H ?_; intro H) | (refine qrb H ?_; intro _ w H) | (refine qrs H ?_; intro w H) | (refine qdr H ?_; intro H)))
    obtain ⟨M', hM', _, hof⟩ := H.off hM
    refine WD_any 11 [[], [0], [0, 1], [0, 1, 2], [0, 1, 2, 3], [], [5], [5, 6], [5, 6, 7], [0, 1, 2, 3, 4, 5, 6, 7, 8], [0, 1, 2, 3, 4, 5, 6, 7, 8, 9]] [(4, PN LT M' (x)), (9, PN LT M' (y)), (10, P1 (LSl LT) M' ([x, y]))] (by kernel_rfl) ?_ ?_ _ (by exact rfl) ?_
    · exact ⟨PN_stab, PN_stab, P1_stab, trivial⟩
    · refine ⟨?_, ?_, ?_, ?_, ?_, ?_, ?_, ?_, ?_, ?_, ?_, trivial⟩
      iterate 4 (· exact qob)
      · intro w hm
        have H := H.call hm
        iterate 4 refine qwr ?_
        refine qol ?_
        exact S_call1 _ (by exact rfl) (by exact rfl) (ihx (hM' _ hm.size) (H.out 3 rfl)) fun v w' ⟨vs, h1, h2, h3⟩ => ⟨⟨vs, h1, h2⟩, h3⟩
      iterate 4 (· exact qob)
      · intro w hm
        have H := H.call hm
        iterate 4 refine qwr ?_
        refine qwl ?_; rintro _ ⟨us4, rfl, h4⟩; obtain ⟨a4, c4, rfl⟩ := rdT_four h4
        iterate 4 refine qwr ?_
        refine qol ?_
        exact S_call1 _ (by exact rfl) (by exact rfl) (ihy (hM' _ hm.size) (H.out 2 rfl)) fun v w' ⟨vs, h1, h2, h3⟩ => ⟨⟨vs, h1, h2⟩, h3⟩
      · intro w hm
        have H := H.call hm
        iterate 4 refine qwr ?_
        refine qwl ?_; rintro _ ⟨us4, rfl, h4⟩; obtain ⟨a4, c4, rfl⟩ := rdT_four h4
        iterate 4 refine qwr ?_
        refine qwl ?_; rintro _ ⟨us9, rfl, h9⟩; obtain ⟨a9, c9, rfl⟩ := rdT_four h9
        refine qol ?_
        have H' := ((Holds.start w []).arg (L := LT) h4).arg (L := LT) h9
        refine S_bslice2N H' _ _ (by exact rfl) (by exact rfl) (by exact rfl) (by exact rfl) (by exact rfl) (by exact rfl) (by exact rfl) ?_
        intro b3 w' H'
        exact ⟨rdSl_two (Nat.le_refl _) (H'.own (hM' _ hm.size) 0 rfl) (H'.out 1 rfl) (H'.out 0 rfl) (H'.bcells 0 8 rfl rfl), H'.mod⟩
    intro w hm
    have H := H.call hm
    iterate 4 refine qwr ?_
    refine qwl ?_; rintro _ ⟨us4, rfl, h4⟩; obtain ⟨a4, c4, rfl⟩ := rdT_four h4
    iterate 4 refine qwr ?_
    refine qwl ?_; rintro _ ⟨us9, rfl, h9⟩; obtain ⟨a9, c9, rfl⟩ := rdT_four h9
    refine qwl ?_; intro v10 h10
    refine WR_nil ?_
    have H := H.add (hof h10)
    obtain ⟨a10, n10, c10, h10', _⟩ := h10
    cases h10'
    refine WD_rd (by kernel_rfl) rfl rfl (X_build (by exact rfl) [(0, [.int .i64 4]), (3, [.slice a10 n10 c10])] (by exact rfl) (by exact rfl)) ?_
    refine WD_n (by kernel_rfl) (by exact rfl) (S_storeN H 0 _ _ (by exact rfl) (by exact rfl) (by exact rfl) (by exact rfl) (by exact rfl) (by exact rfl) ?_); intro w H
    refine WD_end (by decide) ?_
    (repeat (first | refine qq ?_ | (refine qds H ?_; intro H) | (refine qrb H ?_; intro _ w H) | (refine qrs H ?_; intro w H) | (refine qdr H ?_; intro H)))
    exact ⟨_, _, _, rfl, H.bcells 0 4 rfl rfl, rfl, _, rfl, rdT_of_slice (H.out 0 rfl), H.mod⟩
  | _ =>
    intro vs M0 M w hM h
    obtain ⟨a, n, c, rfl, _⟩ := rdT_args h
    refine enterC Tryz.func92 rfl Tryz.ntmps92 rfl (by simp) ?_
    have H := Holds.start w []
    (repeat (first | refine qq ?_ | (refine qds H ?_; intro H) | (refine qrb H ?_; intro _ w H) | (refine qrs H ?_; intro w H) | (refine qdr H ?_; intro H)))
    refine WO_rd rfl (X_build (by exact rfl) [(0, [.int .i64 _]), (1, [.int .i64 _]), (2, [.string _])] (by exact rfl) (by exact rfl)) ?_
    (repeat (first | refine qq ?_ | (refine qds H ?_; intro H) | (refine qrb H ?_; intro _ w H) | (refine qrs H ?_; intro w H) | (refine qdr H ?_; intro H)))
    exact ⟨_, _, _, rfl, H.bcells 0 4 rfl rfl, rfl, _, rfl, ⟨none, 0, rfl⟩, H.mod⟩
end Go.Proofs.YtljpfnjpifhdlaaGreatDoor
namespace Go.Proofs.YtljpfnjpifhdlaaGreatDoor
open Go

def T.size : T → Nat
  | .pair a b => 1 + a.size + b.size
  | _ => 1
/-- in range, and no symbol -/
def T.fit : T → Bool
  | .nil => true
  | .var n => Nat.ble n 100000
  | .sym _ => false
  | .num n => decide (-1000000000 ≤ n) && decide (n ≤ 1000000000)
  | .pair a b => a.fit && b.fit
def T.ok (t : T) : Bool := t.fit && Nat.ble t.size 5000
theorem T.size_pos (t : T) : 0 < t.size := by cases t <;> simp [T.size]; omega

theorem rdT_nil {M : Nat → Prop} {w : World} {vs : List Value} (h : rdT M w .nil vs) : ∃ a c, vs = [.int .i64 0, .int .i64 0, .string ⟨#[]⟩, .slice a 0 c] := h
theorem rdT_var {M : Nat → Prop} {w : World} {n : Nat} {vs : List Value} (h : rdT M w (.var n) vs) : ∃ a c, vs = [.int .i64 1, .int .i64 n, .string ⟨#[]⟩, .slice a 0 c] := h
theorem rdT_num {M : Nat → Prop} {w : World} {n : Int} {vs : List Value} (h : rdT M w (.num n) vs) : ∃ a c, vs = [.int .i64 3, .int .i64 n, .string ⟨#[]⟩, .slice a 0 c] := h

set_option maxRecDepth 100000 in
theorem variable_c (n : Nat) (M : Nat → Prop) (w : World) : Calls Tryz.prog 67 #[.int .i64 n] w (Ret (OutT' w M (.var n))) := by
  refine enterC Tryz.func67 rfl Tryz.ntmps67 rfl (by simp) ?_
  have H := Holds.start w []
  (repeat (first | refine qq ?_ | (refine qds H ?_; intro H) | (refine qrb H ?_; intro _ w H) | (refine qrs H ?_; intro w H) | (refine qdr H ?_; intro H)))
  refine WO_rd rfl (X_build (by exact rfl) [(0, [.int .i64 1]), (1, [.int .i64 n])] (by exact rfl) (by exact rfl)) ?_
  (repeat (first | refine qq ?_ | (refine qds H ?_; intro H) | (refine qrb H ?_; intro _ w H) | (refine qrs H ?_; intro w H) | (refine qdr H ?_; intro H)))
  exact ⟨_, _, _, rfl, H.bcells 0 4 rfl rfl, rfl, _, rfl, ⟨none, 0, rfl⟩, H.mod⟩
set_option maxRecDepth 100000 in
theorem number_c (n : Int) (M : Nat → Prop) (w : World) : Calls Tryz.prog 68 #[.int .i64 n] w (Ret (OutT' w M (.num n))) := by
  refine enterC Tryz.func68 rfl Tryz.ntmps68 rfl (by simp) ?_
  have H := Holds.start w []
  (repeat (first | refine qq ?_ | (refine qds H ?_; intro H) | (refine qrb H ?_; intro _ w H) | (refine qrs H ?_; intro w H) | (refine qdr H ?_; intro H)))
  refine WO_rd rfl (X_build (by exact rfl) [(0, [.int .i64 3]), (1, [.int .i64 n])] (by exact rfl) (by exact rfl)) ?_
  (repeat (first | refine qq ?_ | (refine qds H ?_; intro H) | (refine qrb H ?_; intro _ w H) | (refine qrs H ?_; intro w H) | (refine qdr H ?_; intro H)))
  exact ⟨_, _, _, rfl, H.bcells 0 4 rfl rfl, rfl, _, rfl, ⟨none, 0, rfl⟩, H.mod⟩

set_option maxRecDepth 100000 in
theorem nodesOf_c (t : T) : ∀ {vs : List Value} {M : Nat → Prop} {w : World} {room : Int}, rdT M w t vs → t.fit = true → (t.size : Int) ≤ room → room ≤ 5000 →
    Calls Tryz.prog 88 #[.agg vs.toArray, .int .i64 room] w (Ret fun v w' => v = .int .i64 t.size ∧ Mod [] w w') := by
  induction t with
  | pair x y ihx ihy =>
    intro vs M w room h hf hs hr
    obtain ⟨b, o, c, rfl, hc, hMb, hb, ⟨us, hus, cu⟩, ts, hts, ct⟩ := rdT_pair h
    obtain ⟨a1, c1, rfl⟩ := rdT_four hus
    obtain ⟨a2, c2, rfl⟩ := rdT_four hts
    simp only [T.fit, Bool.and_eq_true] at hf
    simp only [T.size] at hs ⊢
    have px := x.size_pos
    have py := y.size_pos
    refine enter1 Tryz.func88 rfl Tryz.ntmps88 rfl (by simp) ?_
    have H := ((((Holds.start w []).arg (L := LT) hus).arg (L := LT) hts).add (d := dcells b o _) ⟨by simp [owns], hb, cu⟩).add (d := dcells b (o + 4) _) ⟨by simp [owns], hb, ct⟩
    (repeat (first | refine qq ?_ | (refine qds H ?_; intro H) | (refine qrb H ?_; intro _ w H) | (refine qrs H ?_; intro w H) | (refine qdr H ?_; intro H)))
    refine WO_s rfl (S_call2 _ _ (by exact rfl) (by exact rfl) (by exact rfl) (ihx (room := room - 1) (H.out 3 rfl) hf.1 (by omega) (by omega)) ?_)
    rintro _ w ⟨rfl, hm⟩
    have H := H.call hm
    (repeat (first | refine qq ?_ | (refine qds H ?_; intro H) | (refine qrb H ?_; intro _ w H) | (refine qrs H ?_; intro w H) | (refine qdr H ?_; intro H)))
    refine WO_s rfl (S_call2 _ _ (by exact rfl) (by exact rfl) (by exact rfl) (ihy (room := room - 1 - x.size) (H.out 2 rfl) hf.2 (by omega) (by omega)) ?_)
    rintro _ w ⟨rfl, hm⟩
    have H := H.call hm
    (repeat (first | refine qq ?_ | (refine qds H ?_; intro H) | (refine qrb H ?_; intro _ w H) | (refine qrs H ?_; intro w H) | (refine qdr H ?_; intro H)))
    exact ⟨rfl, H.mod⟩
  | sym s => intro vs M w room h hf; cases hf
  | nil =>
    intro vs M w room h hf hs hr
    obtain ⟨a, c, rfl⟩ := rdT_nil h
    simp only [T.size] at hs ⊢
    refine enter1 Tryz.func88 rfl Tryz.ntmps88 rfl (by simp) ?_
    have H := Holds.start w []
    (repeat (first | refine qq ?_ | (refine qds H ?_; intro H) | (refine qrb H ?_; intro _ w H) | (refine qrs H ?_; intro w H) | (refine qdr H ?_; intro H)))
    exact ⟨rfl, H.mod⟩
  | var n =>
    intro vs M w room h hf hs hr
    obtain ⟨a, c, rfl⟩ := rdT_var h
    have hf := Nat.le_of_ble_eq_true hf
    simp only [T.size] at hs ⊢
    refine enter1 Tryz.func88 rfl Tryz.ntmps88 rfl (by simp) ?_
    have H := Holds.start w []
    (repeat (first | refine qq ?_ | (refine qds H ?_; intro H) | (refine qrb H ?_; intro _ w H) | (refine qrs H ?_; intro w H) | (refine qdr H ?_; intro H)))
    exact ⟨rfl, H.mod⟩
  | num n =>
    intro vs M w room h hf hs hr
    obtain ⟨a, c, rfl⟩ := rdT_num h
    simp only [T.fit, Bool.and_eq_true, decide_eq_true_eq] at hf
    simp only [T.size] at hs ⊢
    refine enter1 Tryz.func88 rfl Tryz.ntmps88 rfl (by simp) ?_
    have H := Holds.start w []
    (repeat (first | refine qq ?_ | (refine qds H ?_; intro H) | (refine qrb H ?_; intro _ w H) | (refine qrs H ?_; intro w H) | (refine qdr H ?_; intro H)))
    exact ⟨rfl, H.mod⟩

set_option maxRecDepth 100000 in
theorem TermOk_c {t : T} {vs : List Value} {M : Nat → Prop} {w : World} (h : rdT M w t vs) (hk : t.ok = true) : Calls Tryz.prog 61 #[.agg vs.toArray] w (Ret fun v w' => v = .bool true ∧ Mod [] w w') := by
  simp only [T.ok, Bool.and_eq_true] at hk
  have hs := Nat.le_of_ble_eq_true hk.2
  have hp := t.size_pos
  obtain ⟨a, c, rfl⟩ := rdT_four h
  refine enter1 Tryz.func61 rfl Tryz.ntmps61 rfl (by simp) ?_
  have H := (Holds.start w []).arg (L := LT) h
  (repeat (first | refine qq ?_ | (refine qds H ?_; intro H) | (refine qrb H ?_; intro _ w H) | (refine qrs H ?_; intro w H) | (refine qdr H ?_; intro H)))
  refine WO_s rfl (S_call2 _ _ (by exact rfl) (by exact rfl) (by exact rfl) (nodesOf_c t (H.out 0 rfl) hk.1 (room := 5000) (by omega) (by omega)) ?_)
  rintro _ w ⟨rfl, hm⟩
  have H := H.call hm
  (repeat (first | refine qq ?_ | (refine qds H ?_; intro H) | (refine qrb H ?_; intro _ w H) | (refine qrs H ?_; intro w H) | (refine qdr H ?_; intro H)))
  exact ⟨rfl, H.mod⟩

set_option maxRecDepth 100000 in
theorem termsOk_c {l : List T} {v : Value} {M : Nat → Prop} {w : World} (h : (LSl LT).rd M w l [v]) (hk : l.all T.ok = true) (hl : l.length ≤ 100000) : Calls Tryz.prog 27 #[v] w (Ret fun v w' => v = .bool true ∧ Mod [] w w') := by
  obtain ⟨a, c, rfl⟩ := rdSl_val h
  refine enter1 Tryz.func27 rfl Tryz.ntmps27 rfl (by simp) ?_
  have H := (Holds.start w []).arg (L := LSl LT) h
  (repeat (first | refine qq ?_ | (refine qds H ?_; intro H) | (refine qrb H ?_; intro _ w H) | (refine qrs H ?_; intro w H) | (refine qdr H ?_; intro H)))
  refine W_loop (fun m f w' => ∃ k g, m = l.length - k ∧ k ≤ l.length ∧ f = sl g [(5, .slice a l.length c), (6, .int .i64 l.length), (7, .int .i64 k)] ∧ Holds _ [] [] [(LSl LT).dat M l [.slice a l.length c]] w') l.length
    ⟨0, _, rfl, Nat.zero_le _, sl_back ⟨rfl, rfl, rfl, trivial⟩, H⟩ ?_
  clear H
  rintro m f w ⟨k, g, rfl, hk', rfl, H⟩
  by_cases hlt : k < l.length
  · obtain ⟨x, hx⟩ : ∃ x, l[k]? = some x := ⟨_, List.getElem?_eq_getElem hlt⟩
    have hxk : x.ok = true := List.all_eq_true.1 hk x (List.mem_of_getElem? hx)
    obtain ⟨b, o, vs, rfl, _, _, hr, H⟩ := H.elem (List.Mem.head _) k hx
    obtain ⟨a1, c1, rfl⟩ := rdT_four hr
    (repeat (first | refine qq ?_ | (refine qds H ?_; intro H) | (refine qrb H ?_; intro _ w H) | (refine qrs H ?_; intro w H) | (refine qdr H ?_; intro H)))
    refine WO_s rfl (S_call1 _ (by exact rfl) (by exact rfl) (TermOk_c (H.get 1 rfl) hxk) ?_)
    rintro _ w ⟨rfl, hm⟩
    have H := H.call hm
    (repeat (first | refine qq ?_ | (refine qds H ?_; intro H) | (refine qrb H ?_; intro _ w H) | (refine qrs H ?_; intro w H) | (refine qdr H ?_; intro H)))
    exact ⟨l.length - (k + 1), by omega, k + 1, _, rfl, by omega, sl_back ⟨rfl, rfl, rfl, trivial⟩, H.sub (List.nil_sublist _) (sub1 (by repeat (first | exact List.Mem.head _ | apply List.Mem.tail)))⟩
  · (repeat (first | refine qq ?_ | (refine qds H ?_; intro H) | (refine qrb H ?_; intro _ w H) | (refine qrs H ?_; intro w H) | (refine qdr H ?_; intro H)))
    exact ⟨rfl, H.mod⟩
end Go.Proofs.YtljpfnjpifhdlaaGreatDoor
namespace Go.Proofs.YtljpfnjpifhdlaaGreatDoor
open Go

class IntF (P : Program) (t : TypeId) : Prop where
  und : P.underlying t = some (.int .i64)
instance : IntF Tryz.prog 3 := ⟨Tryz.underlying3⟩

abbrev Ent := Nat × Value × Nat
def ent (x : Ent) : MapEntry := ⟨.int .i64 x.1, x.2.1, x.2.2⟩
def look : List Ent → Nat → Option Value
  | [], _ => none
  | x :: l, n => if x.1 = n then some x.2.1 else look l n
def lookIx : List Ent → Nat → Nat → Option (Nat × Value)
  | [], _, _ => none
  | x :: l, n, i => if x.1 = n then some (i, x.2.1) else lookIx l n (i + 1)

theorem findNow_look (n : Nat) : ∀ (l : List Ent) (i : Nat), Instr.findNow (.int .i64) (.int .i64 n) (l.map ent) i = some (lookIx l n i)
  | [], _ => rfl
  | x :: l, i => by
    simp only [List.map_cons, Instr.findNow, lookIx, ent, Instr.sameNow, if_true]
    by_cases h : x.1 = n
    · subst h; simp
    · have h1 : ((n : Int) == (x.1 : Int)) = false := by simp; omega
      rw [h1, if_neg h]
      exact findNow_look n l (i + 1)
theorem lookIx_look (n : Nat) : ∀ (l : List Ent) (i : Nat), (lookIx l n i).map (·.2) = look l n
  | [], _ => rfl
  | x :: l, i => by
    unfold lookIx look
    split
    · rfl
    · exact lookIx_look n l (i + 1)
theorem lookIx_at (n : Nat) : ∀ (l : List Ent) (i : Nat) (j : Nat) (v : Value), lookIx l n i = some (j, v) → ∃ k x, j = i + k ∧ l[k]? = some x ∧ x.1 = n ∧ x.2.1 = v
  | [], _, _, _, h => by cases h
  | x :: l, i, j, v, h => by
    unfold lookIx at h
    split at h
    · rename_i hx
      cases h
      exact ⟨0, x, rfl, rfl, hx, rfl⟩
    · obtain ⟨k, y, h1, h2, h3⟩ := lookIx_at n l (i + 1) j v h
      exact ⟨k + 1, y, by omega, by simpa using h2, h3⟩
theorem look_none {n : Nat} : ∀ {l : List Ent}, look l n = none → ∀ x ∈ l, x.1 ≠ n
  | [], _, _, h => by cases h
  | y :: l, hl, x, h => by
    unfold look at hl
    split at hl
    · cases hl
    · rename_i hy
      rcases List.mem_cons.1 h with rfl | h
      · exact hy
      · exact look_none hl x h
theorem look_mem {n : Nat} {v : Value} : ∀ {l : List Ent}, look l n = some v → ∃ x ∈ l, x.1 = n ∧ x.2.1 = v
  | [], h => by cases h
  | y :: l, h => by
    unfold look at h
    split at h
    · rename_i hy; cases h; exact ⟨y, by simp, hy, rfl⟩
    · obtain ⟨x, hx, h⟩ := look_mem h; exact ⟨x, by simp [hx], h⟩
theorem look_of_mem {x : Ent} : ∀ {l : List Ent}, (l.map (·.1)).Nodup → x ∈ l → look l x.1 = some x.2.1
  | y :: l, hn, h => by
    unfold look
    simp only [List.map_cons, List.nodup_cons] at hn
    rcases List.mem_cons.1 h with rfl | h
    · simp
    · have hne : y.1 ≠ x.1 := fun e => hn.1 (e ▸ List.mem_map_of_mem h)
      rw [if_neg hne]
      exact look_of_mem hn.2 h
theorem look_snoc (n k b : Nat) (v : Value) : ∀ {l : List Ent}, look l k = none → look (l ++ [(k, v, b)]) n = if n = k then some v else look l n
  | [], _ => by simp [look, eq_comm]
  | x :: l, h => by
    unfold look at h
    split at h
    · cases h
    · rename_i hx
      simp only [List.cons_append, look]
      by_cases h1 : x.1 = n
      · have hnk : n ≠ k := fun e => hx (h1.trans e)
        simp [h1, hnk]
      · rw [if_neg h1, if_neg h1]; exact look_snoc n k b v h
theorem look_modify (n : Nat) (v : Value) : ∀ {l : List Ent} {k : Nat} {x : Ent}, (l.map (·.1)).Nodup → l[k]? = some x → look (l.modify k fun y => (y.1, v, y.2.2)) n = if n = x.1 then some v else look l n
  | [], k, x, _, h => by simp at h
  | y :: l, 0, x, hn, h => by
    simp at h; subst h
    simp only [List.modify_zero_cons, look]
    by_cases h1 : n = y.1
    · simp [h1]
    · simp [h1, Ne.symm h1]
  | y :: l, k + 1, x, hn, h => by
    simp only [List.map_cons, List.nodup_cons] at hn
    simp at h
    simp only [List.modify_succ_cons, look]
    have hx : x ∈ l := List.mem_of_getElem? h
    by_cases h1 : y.1 = n
    · have hne : n ≠ x.1 := fun e => hn.1 (h1 ▸ e ▸ List.mem_map_of_mem hx)
      simp [h1, hne]
    · rw [if_neg h1, if_neg h1]; exact look_modify n v hn.2 h

/-- block b is a map that reads as g -/
def MapAt (b : Nat) (g : Nat → Option Value) (w : World) : Prop := ∃ (l : List Ent) (clock : Nat), w.heap[b]? = some (.map (l.map ent).toArray clock) ∧ (l.map (·.1)).Nodup ∧ (l.map (·.2.2)).Nodup ∧ (∀ x ∈ l, x.2.2 < clock) ∧ ∀ n, look l n = g n
def mp (b : Nat) (g : Nat → Option Value) : Atom := ⟨[b], MapAt b g, fun _ _ h ⟨l, c, h1, h2⟩ => ⟨l, c, by rw [h b (by simp)]; exact h1, h2⟩⟩
def put (g : Nat → Option Value) (k : Nat) (v : Value) : Nat → Option Value := fun n => if n = k then some v else g n

section
variable {P : Program} {w0 w : World} {S : List Nat} {A : List Atom} {D : List Dat} {r : Operand → Value} {d : Option Tmp} {ty : TypeId} {pos : String} {aft : Array Edge} {g : Option (Nat × Bool)} {K : Value → World → Prop}

/-- a new map -/
theorem S_makeMap (H : Holds w0 S A D w) {t : TypeId} (k : ∀ b w', Holds w0 S (mp b (fun _ => none) :: A) D w' → K (.map (some b)) w') : OS P ⟨d, .makeMap t none, ty, pos, aft, g⟩ r w K := by
  refine S_run (v := .map (some w.heap.size)) (w' := w.alloc (.map #[] 0)) rfl (k _ _ ?_)
  exact H.new (a := mp w.heap.size (fun _ => none)) ((Mod.refl _ _).alloc _) ⟨[], 0, by show (w.heap.push _)[w.heap.size]? = _; simp, by simp, by simp, by simp, fun _ => rfl⟩ (by simp [mp]) (by simp [mp])

theorem runC_checkKey {k : TypeId} [I : IntF P k] (e : Bool) (n : Int) : runC P w (Instr.checkKey e 10000 k (.int .i64 n)) = some () := by
  unfold Instr.checkKey
  rw [runC_bind, runC_underlying I.und]
  rfl
theorem runC_findKey {k : TypeId} [I : IntF P k] (n : Nat) (l : List Ent) : runC P w (Instr.findKey k (.int .i64 n) (l.map ent)) = some (lookIx l n 0) := by
  unfold Instr.findKey
  rw [runC_bind, runC_underlying I.und]
  simp only [Option.bind_some, findNow_look]
  rfl
theorem runC_getMap {b : Nat} {es : Array MapEntry} {c : Nat} (h : w.heap[b]? = some (.map es c)) : runC P w (getObj b) = some (.map es c) := by
  simp [getObj, runC, h]

theorem runC_lookup {t k e : TypeId} {agg : Bool} {sz : Nat} {z : Value} [G : MapF P t k e] [I : IntF P k] [F : TyF P e agg sz z] {b : Nat} {gm : Nat → Option Value} (hb : (mp b gm).ok w) (n : Nat) (c : Bool) :
    runC P w (Instr.lookup t (.map (some b)) (.int .i64 n) c) = some (if c then .tuple #[(gm n).getD z, .bool (gm n).isSome] else (gm n).getD z) := by
  obtain ⟨l, cl, h1, h2, h3, h4, h5⟩ := hb
  unfold Instr.lookup
  rw [runC_bind, runC_underlying G.und]
  simp only [Option.bind_some]
  rw [runC_bind, runC_getMap h1]
  simp only [Option.bind_some]
  show runC P w (Instr.checkKey _ 10000 k (.int .i64 n) >>= _) = _
  rw [runC_bind, runC_checkKey]
  simp only [Option.bind_some]
  rw [runC_bind, runC_findKey]
  simp only [Option.bind_some]
  have hl := lookIx_look n l 0
  rw [h5] at hl
  cases hx : lookIx l n 0 with
  | none =>
    rw [hx] at hl
    simp only [Option.map_none] at hl
    rw [← hl]
    simp only [runC_bind, F.zero, Option.bind_some, runC_pure]
    cases c <;> rfl
  | some p =>
    rw [hx] at hl
    simp only [Option.map_some] at hl
    rw [← hl]
    cases c <;> rfl

/-- reading a map -/
theorem X_look {t k e : TypeId} {agg : Bool} {sz : Nat} {z : Value} [G : MapF P t k e] [I : IntF P k] [F : TyF P e agg sz z] (H : Holds w0 S A D w) (x y : Operand) {b n : Nat} {gm : Nat → Option Value} (hx : r x = .map (some b)) (hy : r y = .int .i64 n) (hm : mp b gm ∈ A) :
    runC P w (execOp r ⟨d, .lookup t x y false, ty, pos, aft, g⟩) = some (.value ((gm n).getD z)) := by
  show runC P w (Instr.lookup t (r x) (r y) false >>= fun v => pure (Next.value v)) = _
  rw [runC_bind, hx, hy, runC_lookup (H.atom hm)]; rfl
theorem X_lookOk {t k e : TypeId} {agg : Bool} {sz : Nat} {z : Value} [G : MapF P t k e] [I : IntF P k] [F : TyF P e agg sz z] (H : Holds w0 S A D w) (x y : Operand) {b n : Nat} {gm : Nat → Option Value} (hx : r x = .map (some b)) (hy : r y = .int .i64 n) (hm : mp b gm ∈ A) :
    runC P w (execOp r ⟨d, .lookup t x y true, ty, pos, aft, g⟩) = some (.value (.tuple #[(gm n).getD z, .bool (gm n).isSome])) := by
  show runC P w (Instr.lookup t (r x) (r y) true >>= fun v => pure (Next.value v)) = _
  rw [runC_bind, hx, hy, runC_lookup (H.atom hm)]; rfl
theorem X_lookV {t k e : TypeId} {agg : Bool} {sz : Nat} {z : Value} [G : MapF P t k e] [I : IntF P k] [F : TyF P e agg sz z] (H : Holds w0 S A D w) (x y : Operand) {b n : Nat} {gm : Nat → Option Value} {v : Value} (hx : r x = .map (some b)) (hy : r y = .int .i64 n) (hm : mp b gm ∈ A) (hv : gm n = some v) :
    runC P w (execOp r ⟨d, .lookup t x y false, ty, pos, aft, g⟩) = some (.value v) := by
  rw [X_look H x y hx hy hm, hv]; rfl
theorem X_lookN {t k e : TypeId} {agg : Bool} {sz : Nat} {z : Value} [G : MapF P t k e] [I : IntF P k] [F : TyF P e agg sz z] (H : Holds w0 S A D w) (x y : Operand) {b n : Nat} {gm : Nat → Option Value} (hx : r x = .map (some b)) (hy : r y = .int .i64 n) (hm : mp b gm ∈ A) (hv : gm n = none) :
    runC P w (execOp r ⟨d, .lookup t x y false, ty, pos, aft, g⟩) = some (.value z) := by
  rw [X_look H x y hx hy hm, hv]; rfl

theorem X_lookOkV {t k e : TypeId} {agg : Bool} {sz : Nat} {z : Value} [G : MapF P t k e] [I : IntF P k] [F : TyF P e agg sz z] (H : Holds w0 S A D w) (x y : Operand) {b n : Nat} {gm : Nat → Option Value} {v : Value} (hx : r x = .map (some b)) (hy : r y = .int .i64 n) (hm : mp b gm ∈ A) (hv : gm n = some v) :
    runC P w (execOp r ⟨d, .lookup t x y true, ty, pos, aft, g⟩) = some (.value (.tuple #[v, .bool true])) := by
  rw [X_lookOk H x y hx hy hm, hv]; rfl
theorem X_lookOkN {t k e : TypeId} {agg : Bool} {sz : Nat} {z : Value} [G : MapF P t k e] [I : IntF P k] [F : TyF P e agg sz z] (H : Holds w0 S A D w) (x y : Operand) {b n : Nat} {gm : Nat → Option Value} (hx : r x = .map (some b)) (hy : r y = .int .i64 n) (hm : mp b gm ∈ A) (hv : gm n = none) :
    runC P w (execOp r ⟨d, .lookup t x y true, ty, pos, aft, g⟩) = some (.value (.tuple #[z, .bool false])) := by
  rw [X_lookOk H x y hx hy hm, hv]; rfl

theorem sameBits_int (k : IntKind) (a : Int) : Instr.sameBits 10000 (.int k a) (.int k a) = true := by simp [Instr.sameBits]

theorem run_update {t k e : TypeId} [G : MapF P t k e] [I : IntF P k] {b : Nat} {gm : Nat → Option Value} (hb : (mp b gm).ok w) (n : Nat) (v : Value) :
    ∃ w', (Instr.mapUpdate t (.map (some b)) (.int .i64 n) v).run P w = .ok () w' ∧ Mod [b] w w' ∧ w'.heap.size = w.heap.size ∧ (mp b (put gm n v)).ok w' := by
  obtain ⟨l, cl, h1, h2, h3, h4, h5⟩ := hb
  have hblt : b < w.heap.size := (Array.getElem?_eq_some_iff.1 h1).1
  have mod : ∀ o, Mod [b] w (ChangeMaps.setBlock w b o) := fun o => ⟨rfl, rfl, rfl, by simp [ChangeMaps.setBlock], fun i _ hi => by
    have hi' : b ≠ i := fun e => hi (by simp [e])
    simp [ChangeMaps.setBlock, Array.getElem?_setIfInBounds_ne hi']⟩
  have at' : ∀ o, (ChangeMaps.setBlock w b o).heap[b]? = some o := fun o => by simp [ChangeMaps.setBlock, hblt]
  have run_set : ∀ o, (setObj b o).run P w = .ok () (ChangeMaps.setBlock w b o) := fun o => by simp [setObj, Sem.run, h1, ChangeMaps.setBlock]
  unfold Instr.mapUpdate
  simp only [Sem.run_bind, runC_run _ _ (runC_underlying G.und), Result.andThen_ok, runC_run _ _ (runC_getMap h1), runC_run _ _ (runC_checkKey (P := P) (w := w) (k := k) false (n : Int)), runC_run _ _ (runC_findKey (P := P) (w := w) (k := k) n l)]
  have hl := lookIx_look n l 0
  rw [h5] at hl
  cases hx : lookIx l n 0 with
  | none =>
    rw [hx] at hl
    simp only [Option.map_none] at hl
    have hno : look l n = none := by rw [h5, ← hl]
    simp only []
    rw [run_set]
    refine ⟨_, rfl, mod _, by simp [ChangeMaps.setBlock], l ++ [(n, v, cl)], cl + 1, ?_, ?_, ?_, ?_, ?_⟩
    · rw [at']; simp [ent]
    · rw [List.map_append, List.nodup_append]
      refine ⟨h2, by simp, fun a ha c hc => ?_⟩
      obtain ⟨x, hxl, rfl⟩ := List.mem_map.1 ha
      simp at hc; subst hc
      exact look_none hno x hxl
    · rw [List.map_append, List.nodup_append]
      refine ⟨h3, by simp, fun a ha c hc => ?_⟩
      obtain ⟨x, hxl, rfl⟩ := List.mem_map.1 ha
      simp at hc; subst hc
      have := h4 x hxl; omega
    · intro x hxl
      rcases List.mem_append.1 hxl with hxl | hxl
      · have := h4 x hxl; omega
      · simp at hxl; subst hxl; simp
    · intro m
      rw [look_snoc m n cl v hno, h5]; rfl
  | some p =>
    obtain ⟨j, u⟩ := p
    obtain ⟨k', x, hj, hk, hx1, hx2⟩ := lookIx_at n l 0 j u hx
    have hjk : j = k' := by omega
    subst hjk
    have hes : (l.map ent).toArray[j]? = some (ent x) := by simp [hk]
    simp only [hes, Option.map_some, Option.getD_some, ent, hx1, Instr.keyThatStays, sameBits_int, if_true, Sem.run_bind, Sem.run_pure, Result.andThen_ok]
    rw [run_set]
    refine ⟨_, rfl, mod _, by simp [ChangeMaps.setBlock], l.modify j (fun y => (y.1, v, y.2.2)), cl, ?_, ?_, ?_, ?_, ?_⟩
    · rw [at']
      congr 2
      apply Array.ext'
      simp only [Array.toList_modify]
      apply List.ext_getElem?
      intro i
      simp only [List.getElem?_modify, List.getElem?_map]
      by_cases hij : j = i
      · subst hij; simp [hk, ent, hx1]
      · simp [hij]
    · have : (l.modify j fun y => (y.1, v, y.2.2)).map (·.1) = l.map (·.1) := by
        apply List.ext_getElem?
        intro i
        simp only [List.getElem?_modify, List.getElem?_map]
        by_cases hij : j = i
        · subst hij; simp [hk]
        · simp [hij]
      rw [this]; exact h2
    · have : (l.modify j fun y => (y.1, v, y.2.2)).map (·.2.2) = l.map (·.2.2) := by
        apply List.ext_getElem?
        intro i
        simp only [List.getElem?_modify, List.getElem?_map]
        by_cases hij : j = i
        · subst hij; simp [hk]
        · simp [hij]
      rw [this]; exact h3
    · intro y hy
      obtain ⟨i, hi⟩ := List.getElem?_of_mem hy
      rw [List.getElem?_modify] at hi
      by_cases hij : j = i
      · subst hij
        simp only [hk, if_true] at hi
        cases hi
        exact h4 x (List.mem_of_getElem? hk)
      · simp only [hij, if_false, Option.map_eq_map, Option.map_id_fun', id_eq] at hi
        exact h4 y (List.mem_of_getElem? hi)
    · intro m
      rw [look_modify m v h2 hk, h5, hx1]; rfl

/-- a store in a map -/
theorem S_mapSet (H : Holds w0 S A D w) (i : Nat) {t k e : TypeId} [G : MapF P t k e] [I : IntF P k] (x y z : Operand) {b n : Nat} {gm : Nat → Option Value} {v : Value} (hi : A[i]? = some (mp b gm)) (hx : r x = .map (some b)) (hy : r y = .int .i64 n) (hz : r z = v)
    (kk : ∀ w', Holds w0 S (A.set i (mp b (put gm n v))) D w' → K undef w') : OS P ⟨d, .mapUpdate t x y z, ty, pos, aft, g⟩ r w K := by
  obtain ⟨w', h1, h2, h3, h4⟩ := run_update (P := P) (t := t) (H.atom (List.mem_of_getElem? hi)) n v
  have hblt : b < w.heap.size := H.lt b (mem_owns.2 ⟨_, List.mem_of_getElem? hi, by simp [mp]⟩)
  refine S_skip (w' := w') ?_ (kk w' (H.turnAt i hi h2 h4 (by simp [mp]) fun c hc => ?_))
  · show (Instr.mapUpdate t (r x) (r y) (r z) >>= fun _ => pure Next.skip).run P w = _
    rw [hx, hy, hz, Sem.run_bind, h1]; rfl
  · simp only [mp, List.mem_singleton] at hc
    subst hc
    exact ⟨by omega, .inl (by simp [mp])⟩
end
end Go.Proofs.YtljpfnjpifhdlaaGreatDoor
namespace Go.Proofs.YtljpfnjpifhdlaaGreatDoor
open Go
section
variable {P : Program} {ops : Array Oper} {x : Nat} {p : Value → World → Prop}

/-- what number i has left in its slot; x: the one that writes -/
def okm (P : Program) (ops : Array Oper) (x : Nat) (p : Value → World → Prop) (w1 : World) (i : Nat) (o : Oper) (f : FF) (v : Value) (w : World) : Prop :=
  if Region.wanted o (yl ops f) = true then (if i = x then p v w else runC P w1 (execOp (ev f) o) = some (.value v)) else v = undef
/-- behind the operations l, whatever they have left -/
def WM (P : Program) (ops : Array Oper) (x : Nat) (p : Value → World → Prop) (w1 : World) (K : FF → World → Prop) (w : World) : List Nat → FF → Prop
  | [], f => K f w
  | i :: rest, f => ∀ o v, ops[i]? = some o → okm P ops x p w1 i o f v w → WM P ops x p w1 K w rest (updo f o.dst v)
/-- what number i owes -/
def OwesM (P : Program) (ops : Array Oper) (x : Nat) (p : Value → World → Prop) (w1 : World) (i : Nat) (f : FF) (_ : World) : Prop :=
  ∀ o, ops[i]? = some o → Region.wanted o (yl ops f) = true → if i = x then OS P o (ev f) w1 p
    else ∃ v, ∀ w', (w' = w1 ∨ ∃ u, p u w') → runC P w' (execOp (ev f) o) = some (.value v)
theorem okm_congr {w1 : World} {i : Nat} {o : Oper} {f g : FF} {v : Value} {w : World} (hs : notSelect o = true) (h : ∀ t ∈ o.looksAt ops, f t = g t) (hk : okm P ops x p w1 i o f v w) : okm P ops x p w1 i o g v w := by
  unfold okm at *
  rw [← looks_want h, ← looks_exec hs h]
  exact hk
theorem WM_append {w1 : World} {K : FF → World → Prop} {w : World} : ∀ (l1 l2 : List Nat) (f : FF), WM P ops x p w1 K w (l1 ++ l2) f → WM P ops x p w1 (fun f w => WM P ops x p w1 K w l2 f) w l1 f
  | [], _, _, h => h
  | _ :: r, l2, _, h => fun o v ho hv => WM_append r l2 _ (h o v ho hv)

structure StM (P : Program) (ops : Array Oper) (x : Nat) (p : Value → World → Prop) (k m : Nat) (f0 : FF) (w1 : World) (listed : Array Bool) (f : FF) (w : World) : Prop where
  mod : w = w1 ∨ ∃ u, p u w
  first : listed.getD x false = false → w = w1
  base : ∀ i, i < k → listed.getD i false = true
  low : ∀ i, listed.getD i false = true → i < m
  down : ∀ i, listed.getD i false = true → k ≤ i → ∀ j ∈ dirs ops i, listed.getD j false = true
  ok : ∀ i o d, k ≤ i → listed.getD i false = true → ops[i]? = some o → o.dst = some d → okm P ops x p w1 i o f (f d) w
  old : ∀ t, (∀ i, k ≤ i → listed.getD i false = true → dsts ops i ≠ some t) → f t = f0 t
  size : listed.size = ops.size

theorem StM.inst {n k m : Nat} {f0 : FF} {w1 : World} {listed : Array Bool} {f : FF} {w : World} (F : Facts ops n k m) (s : StM P ops x p k m f0 w1 listed f w) (q : Nat → Bool)
    (hpk : ∀ j, q j = true → k ≤ j) (hp : ∀ j, q j = true → ∀ x ∈ dirs ops j, x < k ∨ q x = true) : ∀ (y : Nat) (K : FF → World → Prop), (∀ j, j < y → q j = true → listed.getD j false = true) →
      WM P ops x p w1 K w ((List.range y).filter q) f0 → K (chain ops f ((List.range y).filter q) f0) w := by
  intro y
  induction y with
  | zero => intro K _ h; exact h
  | succ y ih =>
    intro K hl h
    rw [List.range_succ, List.filter_append] at h ⊢
    have h1 := ih _ (fun j hj => hl j (by omega)) (WM_append _ _ _ h)
    cases hpx : q y with
    | false => simp only [List.filter_cons, hpx, List.filter_nil, List.append_nil, Bool.false_eq_true, if_false] at h1 ⊢; exact h1
    | true =>
      simp only [List.filter_cons, hpx, List.filter_nil, if_true] at h1 ⊢
      rw [chain_append]
      have hlx := hl y (by omega) hpx
      have hxk := hpk y hpx
      have hxm := s.low y hlx
      have hxs : y < ops.size := Nat.lt_of_lt_of_le hxm F.le
      have ho : ops[y]? = some ops[y] := Array.getElem?_eq_getElem hxs
      obtain ⟨⟨d, hd⟩, _, hns⟩ := F.dst y _ hxk hxm ho
      have h2 := h1 ops[y] (f d) ho (okm_congr (f := f) hns (fun t ht => ?_) (s.ok y _ d hxk hlx ho hd))
      · simp only [chain, dsts, ho, Option.bind_some, hd] at h2 ⊢
        exact h2
      · by_cases hex : ∃ z ∈ (List.range y).filter q, dsts ops z = some t
        · exact (chain_new t _ _ hex).symm
        · have hno : ∀ z ∈ (List.range y).filter q, dsts ops z ≠ some t := fun z hz he => hex ⟨z, hz, he⟩
          rw [chain_old t _ _ hno]
          refine s.old t fun i hik hi he => ?_
          have hdir := F.dir y i t hxk hxm hik (s.low i hi) (by simpa [looks, ho] using ht) he
          exact hno i (List.mem_filter.2 ⟨List.mem_range.2 (F.back y i hxs hdir), (hp y hpx i hdir).resolve_left (by omega)⟩) he

/-- a state goes on by one operation -/
theorem StM.next {n k m : Nat} {f0 : FF} {w1 : World} {listed : Array Bool} {f : FF} {w w' : World} {i d : Nat} {o : Oper} {v : Value} (F : Facts ops n k m)
    (s : StM P ops x p k m f0 w1 listed f w) (hki : k ≤ i) (him : i < m) (ho : ops[i]? = some o) (hd : o.dst = some d) (hun : listed.getD i false = false) (hpre : ∀ j ∈ dirs ops i, listed.getD j false = true)
    (hwx : i ≠ x → w' = w) (hwp : w' = w1 ∨ ∃ u, p u w') (hv : okm P ops x p w1 i o f v w') : StM P ops x p k m f0 w1 (listed.setIfInBounds i true) (upd f d v) w' := by
  have hil : i < listed.size := by rw [s.size]; exact Nat.lt_of_lt_of_le him F.le
  have hdi : dsts ops i = some d := by simp [dsts, ho, hd]
  have keep : ∀ j oj, k ≤ j → j < m → (j = i ∨ listed.getD j false = true) → ops[j]? = some oj → ∀ t ∈ oj.looksAt ops, f t = upd f d v t := by
    intro j oj hkj hj hji hoj t ht
    refine (upd_ne fun e => ?_).symm
    subst e
    have hdir := F.dir j i t hkj hj hki him (by simpa [looks, hoj] using ht) hdi
    rcases hji with rfl | hji
    · exact absurd (F.back j j (Nat.lt_of_lt_of_le hj F.le) hdir) (by omega)
    · rw [s.down j hji hkj i hdir] at hun; cases hun
  refine ⟨hwp, fun hf => ?_, fun j hj => (listed_set hil).2 (.inr (s.base j hj)), fun j hj => ?_, fun j hj hkj x hx => ?_, fun j oj dj hkj hj hoj hdj => ?_, fun t ht => ?_, by simp [s.size]⟩
  · have hx : ¬ listed.getD x false = true := fun h => by rw [(listed_set hil).2 (.inr h)] at hf; cases hf
    have hix : i ≠ x := fun e => by rw [(listed_set hil).2 (.inl e.symm)] at hf; cases hf
    rw [hwx hix]; exact s.first (by simpa using hx)
  · rcases (listed_set hil).1 hj with rfl | hj
    · exact him
    · exact s.low j hj
  · refine (listed_set hil).2 (.inr ?_)
    rcases (listed_set hil).1 hj with rfl | hj
    · exact hpre x hx
    · exact s.down j hj hkj x hx
  · have hjj := (listed_set hil).1 hj
    have hjm : j < m := by rcases hjj with rfl | h; exact him; exact s.low j h
    have hns := (F.dst j oj hkj hjm hoj).2.2
    rcases hjj with rfl | hjl
    · rw [ho] at hoj; cases hoj
      rw [hd] at hdj; cases hdj
      rw [upd_same]
      exact okm_congr hns (keep j o hki him (.inl rfl) ho) hv
    · by_cases hji : j = i
      · subst hji; rw [hjl] at hun; cases hun
      · have hne : dj ≠ d := fun e => F.one j i hkj hjm hki him hji (by rw [hdi]; simp [dsts, hoj, hdj, e])
        rw [upd_ne hne]
        have h1 := s.ok j oj dj hkj hjl hoj hdj
        refine okm_congr hns (keep j oj hkj hjm (.inr hjl) hoj) ?_
        unfold okm at h1 ⊢
        split
        · rename_i hw
          rw [if_pos hw] at h1
          split
          · rename_i hjx
            rw [if_pos hjx] at h1
            rw [hwx fun e => hji (hjx.trans e.symm)]; exact h1
          · rename_i hjx
            rw [if_neg hjx] at h1
            exact h1
        · rename_i hw
          rw [if_neg hw] at h1
          exact h1
  · have hne : t ≠ d := fun e => ht i hki ((listed_set hil).2 (.inl rfl)) (by rw [hdi, e])
    rw [upd_ne hne]
    exact s.old t fun j hkj hj => ht j hkj ((listed_set hil).2 (.inr hj))

theorem phase_mut {n k m : Nat} {f0 : FF} {w1 : World} {Q : FPost} {K : FF → World → Prop} (F : Facts ops n k m) (hK : ∀ f w, K f w → Q .normal f w)
    (obl : ∀ i, k ≤ i → i < m → ∀ w, (w = w1 ∨ ∃ u, p u w) → WM P ops x p w1 (OwesM P ops x p w1 i) w (preL ops k m i) f0)
    (fin : ∀ w, (w = w1 ∨ ∃ u, p u w) → WM P ops x p w1 (WD P n ops K m) w (span k m) f0) :
    ∀ (r : Nat) (listed : Array Bool) (f : FF) (a : Act) (w : World) (c : Nat), c + r = ops.size → ((List.range m).filter fun i => listed.getD i false).length = c → StM P ops x p k m f0 w1 listed f w → Fr n f a →
      wpAny P .any ops (toQ n Q) r listed a w := by
  intro r
  have last : ∀ (r : Nat) (listed : Array Bool) (f : FF) (a : Act) (w : World), m + r = ops.size → StM P ops x p k m f0 w1 listed f w → Fr n f a → (∀ i, i < m → listed.getD i false = true) →
      wpAny P .any ops (toQ n Q) r listed a w := by
    intro r listed f a w hr s ha hall
    have h := s.inst F (fun j => decide (k ≤ j)) (fun j hj => of_decide_eq_true hj) (fun _ _ x _ => by rcases Nat.lt_or_ge x k with h | h; exact .inl h; exact .inr (decide_eq_true h)) m _ (fun j hj _ => hall j hj) (fin w s.mod)
    have hch : chain ops f ((List.range m).filter fun j => decide (k ≤ j)) f0 = f := by
      funext t
      by_cases hex : ∃ x ∈ (List.range m).filter (fun j => decide (k ≤ j)), dsts ops x = some t
      · exact chain_new t _ _ hex
      · have hno : ∀ x ∈ (List.range m).filter (fun j => decide (k ≤ j)), dsts ops x ≠ some t := fun x hx he => hex ⟨x, hx, he⟩
        rw [chain_old t _ _ hno]
        exact (s.old t fun i hki hi => hno i (by simpa using ⟨s.low i hi, hki⟩)).symm
    rw [hch] at h
    exact h Q hK r listed a hr s.size (fun i => ⟨s.low i, hall i⟩) ha
  induction r with
  | zero =>
    intro listed f a w c hc hcnt s ha
    have hlen : ((List.range m).filter fun i => listed.getD i false).length = (List.range m).length := by
      have := List.length_filter_le (fun i => listed.getD i false) (List.range m)
      have := F.le
      simp only [List.length_range] at *; omega
    have hall : ∀ i, i < m → listed.getD i false = true := fun i hi => List.length_filter_eq_length_iff.1 hlen i (List.mem_range.2 hi)
    exact last 0 listed f a w (by simp only [List.length_range] at hlen; omega) s ha hall
  | succ r ih =>
    intro listed f a w c hc hcnt s ha
    by_cases hall : ∀ i, i < m → listed.getD i false = true
    · have hcm : c = m := by
        rw [← hcnt, List.filter_eq_self.2 (fun i hi => hall i (List.mem_range.1 hi)), List.length_range]
      exact last (r + 1) listed f a w (by omega) s ha hall
    · obtain ⟨i0, hi0m, hi0⟩ : ∃ i, i < m ∧ ¬ listed.getD i false = true := by
        refine Classical.byContradiction fun hn => hall fun i hi => Classical.byContradiction fun h => hn ⟨i, hi, h⟩
      obtain ⟨i1, ⟨hi1m, hi1⟩, hmin⟩ := exists_least (p := fun i => i < m ∧ ¬ listed.getD i false = true) ⟨i0, hi0m, hi0⟩
      have hin : i1 ∈ Region.ready .any ops listed := by
        have hs1 : i1 < ops.size := Nat.lt_of_lt_of_le hi1m F.le
        refine mem_ready.2 ⟨(not_listed (by rw [s.size]; exact hs1)).2 hi1, ops[i1], Array.getElem?_eq_getElem hs1, fun e he hb => ?_⟩
        have hlt := F.back i1 e.on hs1 (by
          simp only [dirs, Array.getElem?_eq_getElem hs1, List.mem_map, List.mem_filter]
          exact ⟨e, ⟨Array.mem_toList_iff.2 he, hb⟩, rfl⟩)
        exact Classical.byContradiction fun hn => by have := hmin e.on ⟨by omega, hn⟩; omega
      refine ⟨fun h0 => (by rw [h0] at hin; cases hin), fun i hi => ?_⟩
      obtain ⟨h0, o, ho, hpre⟩ := mem_ready.1 hi
      have his : i < ops.size := (Array.getElem?_eq_some_iff.1 ho).1
      have hun' := (not_listed (by rw [s.size]; exact his)).1 h0
      have hun : listed.getD i false = false := by simpa using hun'
      have hki : k ≤ i := Classical.byContradiction fun hn => hun' (s.base i (by omega))
      have hdirs : ∀ x ∈ dirs ops i, listed.getD x false = true := fun x hx => by
        simp only [dirs, ho, List.mem_map, List.mem_filter] at hx
        obtain ⟨e, ⟨he, hb⟩, rfl⟩ := hx
        exact hpre e (Array.mem_toList_iff.1 he) hb
      have hclo : ∀ x ∈ clo ops i, listed.getD x false = true := bfs_all (p := fun x => listed.getD x false = true) (fun j hj x hx => by
        rcases Nat.lt_or_ge j k with hjk | hjk
        · exact s.base x (by
            have := F.back j x (by have := F.le; have := F.km; omega) hx
            omega)
        · exact s.down j hj hjk x hx) _ _ hdirs
      have him : i < m := by
        rcases Nat.lt_or_ge i m with h | h
        · exact h
        · have hk1 : k ≤ i1 := Classical.byContradiction fun hn => hi1 (s.base i1 (by omega))
          exact absurd (hclo i1 (F.tail i1 i his h hk1 hi1m)) hi1
      obtain ⟨⟨d, hd⟩, hdl, hns⟩ := F.dst i o hki him ho
      have hpl : preL ops k m i = (List.range i).filter fun j => decide (k ≤ j) && decide (j < m) && (clo ops i).contains j := rfl
      have h1 := s.inst F (fun j => decide (j < i) && (decide (k ≤ j) && decide (j < m) && (clo ops i).contains j)) (fun j hj => by
          simp only [Bool.and_eq_true, decide_eq_true_eq] at hj; exact hj.2.1.1) (fun j hj x hx => by
          simp only [Bool.and_eq_true, decide_eq_true_eq, List.contains_iff_mem] at hj ⊢
          refine (F.clos i j x hki him (by rw [hpl]; exact List.mem_filter.2 ⟨List.mem_range.2 hj.1, by simpa using hj.2⟩) hx).imp id fun h => ?_
          rw [hpl] at h
          have := List.mem_filter.1 h
          simpa using this) i _ (fun j _ hj => hclo j (by simp only [Bool.and_eq_true, List.contains_iff_mem] at hj; exact hj.2.2))
        (by
          have := obl i hki him w s.mod
          rw [hpl] at this
          rwa [show ((List.range i).filter fun j => decide (j < i) && (decide (k ≤ j) && decide (j < m) && (clo ops i).contains j)) = (List.range i).filter fun j => decide (k ≤ j) && decide (j < m) && (clo ops i).contains j from List.filter_congr fun j hj => by
            simp [List.mem_range.1 hj]])
      have agree : ∀ t ∈ o.looksAt ops, chain ops f ((List.range i).filter fun j => decide (j < i) && (decide (k ≤ j) && decide (j < m) && (clo ops i).contains j)) f0 t = f t := by
        intro t ht
        by_cases hex : ∃ x ∈ (List.range i).filter (fun j => decide (j < i) && (decide (k ≤ j) && decide (j < m) && (clo ops i).contains j)), dsts ops x = some t
        · exact chain_new t _ _ hex
        · have hno : ∀ x ∈ (List.range i).filter (fun j => decide (j < i) && (decide (k ≤ j) && decide (j < m) && (clo ops i).contains j)), dsts ops x ≠ some t := fun x hx he => hex ⟨x, hx, he⟩
          rw [chain_old t _ _ hno]
          refine (s.old t fun x hkx hx he => ?_).symm
          have hdir := F.dir i x t hki him hkx (s.low x hx) (by simpa [looks, ho] using ht) he
          have hxi := F.back i x his hdir
          have hxc : x ∈ clo ops i := by
            have sub : ∀ (y : Nat) (l : List Nat), x ∈ l → x ∈ bfs ops y l := by
              intro y
              induction y with
              | zero => exact fun l h => h
              | succ y ih => exact fun l h => ih _ (List.mem_eraseDups.2 (List.mem_append.2 (.inl h)))
            exact sub _ _ hdir
          exact hno x (List.mem_filter.2 ⟨List.mem_range.2 hxi, by simp [hxi, hkx, s.low x hx, hxc]⟩) he
      have cnt' : ((List.range m).filter fun j => (listed.setIfInBounds i true).getD j false).length = c + 1 := by
        have hil : i < listed.size := by rw [s.size]; exact his
        rw [← hcnt, ← List.countP_eq_length_filter, ← List.countP_eq_length_filter]
        have key : ∀ x, i < x → (List.range x).countP (fun j => (listed.setIfInBounds i true).getD j false) = (List.range x).countP (fun j => listed.getD j false) + 1 := by
          intro x
          induction x with
          | zero => omega
          | succ x ihx =>
            intro hix
            rw [List.range_succ, List.countP_append, List.countP_append, List.countP_singleton, List.countP_singleton]
            by_cases hxi : x = i
            · subst hxi
              have e1 : (listed.setIfInBounds x true).getD x false = true := (listed_set hil).2 (.inl rfl)
              rw [e1, hun]
              have e2 : (List.range x).countP (fun j => (listed.setIfInBounds x true).getD j false) = (List.range x).countP (fun j => listed.getD j false) :=
                List.countP_congr fun j hj => by
                  have : j ≠ x := by have := List.mem_range.1 hj; omega
                  rw [getD_set_ne false (Ne.symm this)]
              rw [e2]; simp
            · rw [ihx (by omega), getD_set_ne false (Ne.symm hxi)]; omega
        exact key m him
      unfold wpOp
      simp only [ho]
      rw [ha.yielded]
      have hwant : Region.wanted o (yl ops (chain ops f ((List.range i).filter fun j => decide (j < i) && (decide (k ≤ j) && decide (j < m) && (clo ops i).contains j)) f0)) = Region.wanted o (yl ops f) := looks_want agree
      split
      · rename_i hw
        have h2 := h1 o ho (hwant.trans hw)
        have hOS : OS P o (ev f) w fun v w' => okm P ops x p w1 i o f v w' ∧ (i ≠ x → w' = w) ∧ (w' = w1 ∨ ∃ u, p u w') := by
          by_cases hix : i = x
          · rw [if_pos hix] at h2
            have hw1 : w = w1 := s.first (by rw [← hix]; exact hun)
            subst hw1
            refine (OS_congr hns agree h2).mono fun v w' hp => ⟨by unfold okm; rw [if_pos hw, if_pos hix]; exact hp, fun h => absurd hix h, .inr ⟨v, hp⟩⟩
          · rw [if_neg hix] at h2
            obtain ⟨v, hv⟩ := h2
            simp only [looks_exec hns agree] at hv
            exact S_read (hv w s.mod) ⟨by unfold okm; rw [if_pos hw, if_neg hix]; exact hv w1 (.inl rfl), fun _ => rfl, s.mod⟩
        have hOW : OW P n o (fun f' w' => ∃ v, f' = upd f d v ∧ okm P ops x p w1 i o f v w' ∧ (i ≠ x → w' = w) ∧ (w' = w1 ∨ ∃ u, p u w')) f w := by
          refine ⟨hdl, hOS.mono fun v w' h => ⟨v, by simp only [hd, updo], h⟩⟩
        refine .inl (Oper.wp_mono ?_ (hOW.wp a ha _))
        rintro a' w' ⟨f', hf', v, rfl, hv, hwx, hwp⟩
        exact ih _ _ a' w' (c + 1) (by omega) cnt' (s.next F hki him ho hd hun hdirs hwx hwp hv) hf'
      · rename_i hw
        refine ih _ (upd f d undef) _ w (c + 1) (by omega) cnt' (s.next F hki him ho hd hun hdirs (fun _ => rfl) s.mod ?_) ?_
        · unfold okm; rw [if_neg hw]
        · have := ha.put hdl undef
          rwa [hd] at this ⊢

/-- OPERATIONS IN WHATEVER ORDER. pre: for each of the operations k .. m-1 those of them that come before it; loud: what a call (or a new block) leaves, said so that later calls and new blocks do not turn it. -/
theorem WD_mut {n : Nat} {K : FF → World → Prop} {f0 : FF} {w1 : World} (k m : Nat) (pre : List (List Nat)) (chk : parChk ops n k m pre = true)
    (obl : ∀ i l, pre[i]? = some l → ∀ w, (w = w1 ∨ ∃ u, p u w) → WM P ops x p w1 (OwesM P ops x p w1 (k + i)) w l f0)
    (fin : ∀ w, (w = w1 ∨ ∃ u, p u w) → WM P ops x p w1 (WD P n ops K m) w (span k m) f0) : WD P n ops K k f0 w1 := by
  obtain ⟨F, hpre⟩ := facts_of chk
  intro Q hK r listed a hr hs hl ha
  have hspan : span k m = (List.range (m - k)).map (k + ·) := by
    have h1 : span k m = List.range' k (m - k) := by
      have e : m = k + (m - k) := by have := F.km; omega
      rw [span, e, List.range_eq_range', ← List.range'_append_1, List.filter_append, List.filter_eq_nil_iff.2 (fun x hx => by
        have := List.mem_range'_1.1 hx; simp; omega), List.filter_eq_self.2 (fun x hx => by have := List.mem_range'_1.1 hx; simp; omega)]
      simp
    rw [h1, List.range'_eq_map_range]
  refine phase_mut F hK (fun i hki hi w hw => ?_) fin r listed f0 a w1 k hr ?_ ⟨.inl rfl, fun _ => rfl, fun i hi => (hl i).2 hi, fun i hi => ?_, fun i hi hk => ?_, fun i o d hk hi => ?_, fun _ _ => rfl, hs⟩ ha
  · have h := obl (i - k) (preL ops k m i) (by
      rw [← hpre, hspan, List.map_map, List.getElem?_map, List.getElem?_range (by omega)]
      simp [show k + (i - k) = i by omega]) w hw
    rwa [show k + (i - k) = i by omega] at h
  · have : (List.range m).filter (fun i => listed.getD i false) = List.range k := by
      have e : m = k + (m - k) := by have := F.km; omega
      rw [e, List.range_eq_range', ← List.range'_append_1, List.filter_append, List.filter_eq_self.2 (fun x hx => (hl x).2 (by have := List.mem_range'_1.1 hx; omega)), List.filter_eq_nil_iff.2 (fun x hx => by
        have := List.mem_range'_1.1 hx
        intro hh
        have := (hl x).1 hh
        omega), List.append_nil, List.range_eq_range']
    rw [this, List.length_range]
  · have := (hl i).1 hi
    have := F.km
    omega
  · have := (hl i).1 hi; omega
  · have := (hl i).1 hi; omega

def OblM (P : Program) (ops : Array Oper) (x : Nat) (p : Value → World → Prop) (w1 : World) (f0 : FF) : Nat → List (List Nat) → Prop
  | _, [] => True
  | k, l :: pre => (∀ w, (w = w1 ∨ ∃ u, p u w) → WM P ops x p w1 (OwesM P ops x p w1 k) w l f0) ∧ OblM P ops x p w1 f0 (k + 1) pre
theorem oblM_of {w1 : World} {f0 : FF} : ∀ {pre : List (List Nat)} {k : Nat}, OblM P ops x p w1 f0 k pre → ∀ i l, pre[i]? = some l → ∀ w, (w = w1 ∨ ∃ u, p u w) → WM P ops x p w1 (OwesM P ops x p w1 (k + i)) w l f0
  | [], _, _, i, l, h => by simp at h
  | _ :: _, _, ⟨h1, _⟩, 0, l, h => by simp at h; subst h; simpa using h1
  | _ :: pre, k, ⟨_, h2⟩, i + 1, l, h => by
    have := oblM_of h2 i l (by simpa using h)
    rwa [show k + 1 + i = k + (i + 1) by omega] at this
theorem WD_one_mut {n k : Nat} {K : FF → World → Prop} {f : FF} {w : World} (m x : Nat) (pre : List (List Nat)) (p : Value → World → Prop) (chk : parChk ops n k m pre = true) (obl : OblM P ops x p w f k pre) (sp : List Nat) (hsp : span k m = sp)
    (fin : ∀ w', (w' = w ∨ ∃ u, p u w') → WM P ops x p w (WD P n ops K m) w' sp f) : WD P n ops K k f w := WD_mut k m pre chk (oblM_of obl) (by rw [hsp]; exact fin)

section
variable {K : FF → World → Prop} {f : FF} {w1 w : World} {i : Nat} {rest : List Nat} {d : Nat} {op : Op} {ty : TypeId} {pos : String} {aft : Array Edge} {v : Value}
theorem WM_nil (h : K f w) : WM P ops x p w1 K w [] f := h
theorem WM_rd (ho : ops[i]? = some ⟨some d, op, ty, pos, aft, none⟩) (hx : Nat.beq i x = false) (h : runC P w1 (execOp (ev f) ⟨some d, op, ty, pos, aft, none⟩) = some (.value v)) (k : WM P ops x p w1 K w rest (upd f d v)) : WM P ops x p w1 K w (i :: rest) f := by
  intro o' v' ho' hv'
  rw [ho] at ho'
  cases ho'
  unfold okm at hv'
  have hx' : i ≠ x := fun e => by subst e; simp at hx
  rw [if_pos (by simp [Region.wanted]), if_neg hx', h] at hv'
  cases hv'
  exact k
theorem WM_rdG {j t : Nat} {b : Bool} (ho : ops[i]? = some ⟨some d, op, ty, pos, aft, some (j, b)⟩) (hx : Nat.beq i x = false) (ht : (ops[j]?).bind (·.dst) = some t) (hb : f t = .bool b) (h : runC P w1 (execOp (ev f) ⟨some d, op, ty, pos, aft, some (j, b)⟩) = some (.value v))
    (k : WM P ops x p w1 K w rest (upd f d v)) : WM P ops x p w1 K w (i :: rest) f := by
  intro o' v' ho' hv'
  rw [ho] at ho'
  cases ho'
  unfold okm at hv'
  have hx' : i ≠ x := fun e => by subst e; simp at hx
  rw [if_pos (by simp [Region.wanted, yl, ht, hb]), if_neg hx', h] at hv'
  cases hv'
  exact k
theorem WM_x (ho : ops[x]? = some ⟨some d, op, ty, pos, aft, none⟩) (k : ∀ v, p v w → WM P ops x p w1 K w rest (upd f d v)) : WM P ops x p w1 K w (x :: rest) f := by
  intro o' v' ho' hv'
  rw [ho] at ho'
  cases ho'
  unfold okm at hv'
  rw [if_pos (by simp [Region.wanted]), if_pos rfl] at hv'
  exact k v' hv'
theorem WM_xG {j t : Nat} {b : Bool} (ho : ops[x]? = some ⟨some d, op, ty, pos, aft, some (j, b)⟩) (ht : (ops[j]?).bind (·.dst) = some t) (hb : f t = .bool b) (k : ∀ v, p v w → WM P ops x p w1 K w rest (upd f d v)) : WM P ops x p w1 K w (x :: rest) f := by
  intro o' v' ho' hv'
  rw [ho] at ho'
  cases ho'
  unfold okm at hv'
  rw [if_pos (by simp [Region.wanted, yl, ht, hb]), if_pos rfl] at hv'
  exact k v' hv'
theorem OM_rd {g : Option (Nat × Bool)} (ho : ops[i]? = some ⟨some d, op, ty, pos, aft, g⟩) (hx : Nat.beq i x = false) (h : ∀ w', (w' = w1 ∨ ∃ u, p u w') → runC P w' (execOp (ev f) ⟨some d, op, ty, pos, aft, g⟩) = some (.value v)) : OwesM P ops x p w1 i f w := by
  intro o' ho' _
  rw [ho] at ho'
  cases ho'
  have hx' : i ≠ x := fun e => by subst e; simp at hx
  rw [if_neg hx']
  exact ⟨v, h⟩
theorem OM_x {g : Option (Nat × Bool)} (ho : ops[x]? = some ⟨some d, op, ty, pos, aft, g⟩) (h : OS P ⟨some d, op, ty, pos, aft, g⟩ (ev f) w1 p) : OwesM P ops x p w1 x f w := by
  intro o' ho' _
  rw [ho] at ho'
  cases ho'
  rw [if_pos rfl]
  exact h
theorem qwm (k : WM P ops x p w1 K w rest (upd f d v)) (ho : ops[i]? = some ⟨some d, op, ty, pos, aft, none⟩ := by exact rfl) (hx : Nat.beq i x = false := by exact rfl) (h : runC P w1 (execOp (ev f) ⟨some d, op, ty, pos, aft, none⟩) = some (.value v) := by exact qrp) : WM P ops x p w1 K w (i :: rest) f := WM_rd ho hx h k
theorem qwmg {j t : Nat} {b : Bool} (k : WM P ops x p w1 K w rest (upd f d v)) (ho : ops[i]? = some ⟨some d, op, ty, pos, aft, some (j, b)⟩ := by exact rfl) (hx : Nat.beq i x = false := by exact rfl) (ht : (ops[j]?).bind (·.dst) = some t := by exact rfl) (hb : f t = .bool b := by exact rfl)
    (h : runC P w1 (execOp (ev f) ⟨some d, op, ty, pos, aft, some (j, b)⟩) = some (.value v) := by exact qrp) : WM P ops x p w1 K w (i :: rest) f := WM_rdG ho hx ht hb h k
theorem qwx (k : ∀ v, p v w → WM P ops x p w1 K w rest (upd f d v)) (ho : ops[x]? = some ⟨some d, op, ty, pos, aft, none⟩ := by exact rfl) : WM P ops x p w1 K w (x :: rest) f := WM_x ho k
theorem qwxg {j t : Nat} {b : Bool} (k : ∀ v, p v w → WM P ops x p w1 K w rest (upd f d v)) (ho : ops[x]? = some ⟨some d, op, ty, pos, aft, some (j, b)⟩ := by exact rfl) (ht : (ops[j]?).bind (·.dst) = some t := by exact rfl) (hb : f t = .bool b := by exact rfl) : WM P ops x p w1 K w (x :: rest) f := WM_xG ho ht hb k
theorem qow {g : Option (Nat × Bool)} (ho : ops[i]? = some ⟨some d, op, ty, pos, aft, g⟩ := by exact rfl) (hx : Nat.beq i x = false := by exact rfl)
    (h : ∀ w', (w' = w1 ∨ ∃ u, p u w') → runC P w' (execOp (ev f) ⟨some d, op, ty, pos, aft, g⟩) = some (.value v) := by intro w' hw'; have H := Hp w' hw'; exact qrp) : OwesM P ops x p w1 i f w := OM_rd ho hx h
theorem qom {X : Prop} (h : X := by intro _ _; (repeat (first | refine qwm ?_ | refine qwmg ?_)); exact qow) : X := h
end
end
end Go.Proofs.YtljpfnjpifhdlaaGreatDoor
namespace Go.Proofs.YtljpfnjpifhdlaaGreatDoor
open Go

/-- atoms that stand, each for itself -/
def Has (As : List Atom) (w : World) : Prop := (owns As).Nodup ∧ (∀ b ∈ owns As, b < w.heap.size) ∧ ∀ a ∈ As, a.ok w
/-- data that has nothing of M -/
def Dat.wide (M : Nat → Prop) (d : Dat) : Dat := ⟨fun X w => d.ok (fun b => M b ∨ X b) w,
  fun _ w w' h => d.keep _ w w' fun b hb hn => h b hb fun hx => hn (.inr hx), fun _ _ w h => d.grow _ _ w fun b hb hx => hx.imp id (h b hb)⟩

section
variable {w0 w w' : World} {S : List Nat} {A A1 A2 As As' : List Atom} {D : List Dat}
theorem owns_append {A B : List Atom} : owns (A ++ B) = owns A ++ owns B := by simp [owns]
theorem Holds.begin (h : Has As w) : Holds w (owns As) As [] w := ⟨Mod.refl _ _, h.1, h.2.1, fun _ hb => .inr hb, h.2.2, by simp⟩
theorem Holds.hasMid (H : Holds w0 S A D w) (hA : A = A1 ++ (As ++ A2)) : Has As w := by
  subst hA
  have h1 := H.nd
  rw [owns_append, owns_append] at h1
  exact ⟨(List.nodup_append.1 (List.nodup_append.1 h1).2.1).1, fun b hb => H.lt b (by rw [owns_append, owns_append]; simp [hb]), fun a ha => H.at' a (by simp [ha])⟩
theorem Holds.hasEnd (H : Holds w0 S A D w) (hA : A = A1 ++ As) : Has As w := H.hasMid (A2 := []) (by simpa using hA)
theorem Holds.turns (H : Holds w0 S A D w) (hA : A = A1 ++ (As ++ A2)) (hm : Mod (owns As) w w') (h : Has As' w') (ho : owns As' = owns As) : Holds w0 S (A1 ++ (As' ++ A2)) D w' := by
  subst hA
  have e : owns (A1 ++ (As' ++ A2)) = owns (A1 ++ (As ++ A2)) := by simp [owns_append, ho]
  have sub : ∀ b ∈ owns As, b ∈ owns (A1 ++ (As ++ A2)) := fun b hb => by simp [owns_append, hb]
  have nd := H.nd
  rw [owns_append, owns_append, List.nodup_append, List.nodup_append] at nd
  obtain ⟨n1, ⟨n2, n3, n4⟩, n5⟩ := nd
  have other : ∀ b, b ∈ owns A1 ∨ b ∈ owns A2 → w'.heap[b]? = w.heap[b]? := by
    intro b hb
    refine hm.block b (H.lt b (by rcases hb with h | h <;> simp [owns_append, h])) fun ha => ?_
    rcases hb with h | h
    · exact n5 b h b (List.mem_append.2 (.inl ha)) rfl
    · exact n4 b ha b h rfl
  refine ⟨H.mod.fresh hm (fun x hx => ?_), by rw [e]; exact H.nd, fun b hb => ?_, fun b hb => H.low b (by rwa [e] at hb), fun x hx => ?_, fun d hd => ?_⟩
  · rcases H.low x (sub x hx) with h | h
    · exact .inr h
    · exact .inl h
  · rw [e] at hb; exact Nat.lt_of_lt_of_le (H.lt b hb) hm.size
  · rcases List.mem_append.1 hx with hx | hx
    · exact x.loc w w' (fun b hb => other b (.inl (mem_owns.2 ⟨x, hx, hb⟩))) (H.at' x (by simp [hx]))
    · rcases List.mem_append.1 hx with hx | hx
      · exact h.2.2 x hx
      · exact x.loc w w' (fun b hb => other b (.inr (mem_owns.2 ⟨x, hx, hb⟩))) (H.at' x (by simp [hx]))
  · rw [e]
    exact d.keep _ w w' (fun b hb hn => hm.block b hb fun hx => hn (sub b hx)) (H.dt d hd)
/-- what is held beside As, behind a call that writes As, and before it -/
theorem Holds.past (H : Holds w0 S A D w) (hA : A = A1 ++ As) {p : Value → World → Prop} (hp : ∀ u w', p u w' → Mod (owns As) w w') (h : w' = w ∨ ∃ u, p u w') : Holds w0 S A1 D w' := by
  subst hA
  have H1 : Holds w0 S A1 D w := H.sub (List.sublist_append_left _ _) (fun _ h => h)
  rcases h with rfl | ⟨u, hu⟩
  · exact H1
  · have hm := hp u w' hu
    have nd := H.nd
    rw [owns_append, List.nodup_append] at nd
    refine ⟨H.mod.fresh hm (fun x hx => ?_), H1.nd, fun b hb => Nat.lt_of_lt_of_le (H1.lt b hb) hm.size, H1.low, fun a ha => a.loc w w' (fun b hb => ?_) (H1.at' a ha), fun d hd => ?_⟩
    · rcases H.low x (by rw [owns_append]; simp [hx]) with h | h
      · exact .inr h
      · exact .inl h
    · have hbo : b ∈ owns A1 := mem_owns.2 ⟨a, ha, hb⟩
      exact hm.block b (H1.lt b hbo) fun hx => nd.2.2 b hbo b hx rfl
    · refine d.grow (· ∈ owns (A1 ++ As)) _ w' (fun b _ hb => by rw [owns_append]; simp [hb]) ?_
      exact d.keep _ w w' (fun b hb hn => hm.block b hb fun hx => hn (by rw [owns_append]; simp [hx])) (H.dt d hd)
/-- what new data must keep off -/
abbrev Holds.wr (_ : Holds w0 S A D w) (M : Nat → Prop) : Nat → Prop := fun b => M b ∨ b ∈ owns A
theorem Holds.wr_lt (H : Holds w0 S A D w) {M : Nat → Prop} (hM : ∀ b, M b → b < w0.heap.size) : ∀ b, H.wr M b → b < w.heap.size := fun b hb => hb.elim (fun h => Nat.lt_of_lt_of_le (hM b h) H.mod.size) (H.lt b)
theorem Holds.adds (H : Holds w0 S A D w) {l : List Dat} (h : ∀ x ∈ l, x.ok (· ∈ owns A) w) : Holds w0 S A (D ++ l) w :=
  ⟨H.mod, H.nd, H.lt, H.low, H.at', fun x hx => (List.mem_append.1 hx).elim (H.dt x) (h x)⟩
end

/-- what a call leaves that works on the state s -/
def Out {σ : Type} (As : σ → List Atom) (ds : σ → List Dat) (M : Nat → Prop) (s s' : σ) (w w' : World) : Prop :=
  Mod (owns (As s)) w w' ∧ Has (As s') w' ∧ owns (As s') = owns (As s) ∧ ∀ x ∈ ds s', x.ok M w'
/-- what a call needs that works on the state s -/
def In {σ : Type} (As : σ → List Atom) (ds : σ → List Dat) (M : Nat → Prop) (s : σ) (w : World) : Prop :=
  (∀ b, M b → b < w.heap.size) ∧ (∀ b ∈ owns (As s), M b) ∧ Has (As s) w ∧ ∀ x ∈ ds s, x.ok M w

section
variable {σ : Type} {As : σ → List Atom} {ds : σ → List Dat} {M : Nat → Prop} {s s1 s' : σ} {w0 w w1 : World} {S : List Nat} {A A1 : List Atom} {D : List Dat}
theorem In.begin (h : In As ds M s w) : Holds w (owns (As s)) (As s) ([] ++ (ds s).map (Dat.wide M)) w := by
  refine (Holds.begin h.2.2.1).adds fun x hx => ?_
  obtain ⟨d, hd, rfl⟩ := List.mem_map.1 hx
  exact d.grow _ _ w (fun b _ hb => hb.elim id (h.2.1 b)) (h.2.2.2 d hd)
theorem Holds.into (H : Holds w0 S A D w) (hA : A = A1 ++ As s) (hM : ∀ b, M b → b < w0.heap.size) (hd : ∀ x ∈ ds s, Dat.wide M x ∈ D) : In As ds (fun b => M b ∨ b ∈ owns A) s w :=
  ⟨fun _ hb => hb.elim (fun h => Nat.lt_of_lt_of_le (hM _ h) H.mod.size) (H.lt _), fun b hb => .inr (by rw [hA, owns_append]; simp [hb]), H.hasEnd hA, fun x hx => H.dat (hd x hx)⟩
theorem Holds.step (H : Holds w0 S A D w) (hA : A = A1 ++ As s) (h : Out As ds (fun b => M b ∨ b ∈ owns A) s s1 w w1) : Holds w0 S (A1 ++ As s1) (D ++ (ds s1).map (Dat.wide M)) w1 := by
  obtain ⟨h1, h2, h3, h4⟩ := h
  have H' := H.turns (A2 := []) (by simpa using hA) h1 h2 h3
  simp only [List.append_nil] at H'
  refine H'.adds fun x hx => ?_
  obtain ⟨d, hd, rfl⟩ := List.mem_map.1 hx
  refine d.grow _ _ w1 (fun b _ hb => hb.imp id fun hb => ?_) (h4 d hd)
  rw [hA, owns_append, ← h3, ← owns_append]; exact hb
theorem Holds.outOf (H : Holds w (owns (As s)) A D w1) (hA : A = A1 ++ As s') (ho : owns (As s') = owns (As s)) (hd : ∀ x ∈ ds s', Dat.wide M x ∈ D) : Out As ds M s s' w w1 :=
  ⟨H.mod, H.hasEnd hA, ho, fun x hx => x.grow (fun b => M b ∨ b ∈ owns A) M w1 (fun _ _ hb => .inl hb) (H.dat (d := Dat.wide M x) (hd x hx))⟩
theorem wides_end {ds : σ → List Dat} {s : σ} {D : List Dat} : ∀ x ∈ ds s, Dat.wide M x ∈ D ++ (ds s).map (Dat.wide M) := fun _ hx => List.mem_append.2 (.inr (List.mem_map_of_mem hx))
theorem wides_left {ds : σ → List Dat} {s : σ} {D l : List Dat} (h : ∀ x ∈ ds s, Dat.wide M x ∈ D) : ∀ x ∈ ds s, Dat.wide M x ∈ D ++ l := fun x hx => List.mem_append.2 (.inl (h x hx))
theorem wides_cons {ds : σ → List Dat} {s : σ} {D : List Dat} {d : Dat} (h : ∀ x ∈ ds s, Dat.wide M x ∈ D) : ∀ x ∈ ds s, Dat.wide M x ∈ d :: D := fun x hx => List.mem_cons.2 (.inr (h x hx))
theorem Holds.addO (H : Holds w0 S (A1 ++ As s1) D w) (ho : owns (As s1) = owns (As s)) {α : Type} {L : Lay α} {x : α} {vs : List Value} (h : L.rd (fun b => M b ∨ b ∈ owns (A1 ++ As s)) w x vs) : Holds w0 S (A1 ++ As s1) (L.dat M x vs :: D) w :=
  H.add (d := L.dat M x vs) (L.grow _ _ w x vs (fun b _ hb => hb.imp id fun hb => by rw [owns_append, ← ho, ← owns_append]; exact hb) h)
theorem In.term (h : In As ds M s w) {t : T} {us : List Value} (ht : rdT M w t us) : (LT.dat M t us).ok (· ∈ owns (As s)) w := rdT_grow (fun b _ hb => hb.elim id (h.2.1 b)) t us ht
theorem In.cells (h : In As ds M s w) {b o : Nat} {vs : List Value} (hM : ¬ M b) (hb : b < w.heap.size) (hc : Cells w b o vs) : (dcells b o vs).ok (· ∈ owns (As s)) w := ⟨fun hh => hM (h.2.1 b hh), hb, hc⟩
end

/-- a closure that does what step says -/
def StepC {σ : Type} (g : FuncId) (cap : Array Value) (As : σ → List Atom) (ds : σ → List Dat) (step : Nat → σ → Option σ) : Prop :=
  ∀ {n : Nat} {s s' : σ} {w : World} {M : Nat → Prop}, step n s = some s' → In As ds M s w → Calls Tryz.prog g (#[.int .i64 n] ++ cap) w (Ret fun _ w' => Out As ds M s s' w w')

def eachV {σ : Type} (f : Nat → σ → Option σ) : T → σ → Option σ
  | .var n, s => f n s
  | .pair a b, s => match eachV f a s with | none => none | some s => eachV f b s
  | _, s => some s

set_option maxRecDepth 100000 in
theorem eachVar_c {σ : Type} {g : FuncId} [FnF Tryz.prog g] {cap : Array Value} {As : σ → List Atom} {ds : σ → List Dat} {step : Nat → σ → Option σ} (C : StepC g cap As ds step) (t : T) :
    ∀ {s s' : σ} {us : List Value} {M : Nat → Prop} {w : World}, eachV step t s = some s' → In As ds M s w → rdT M w t us →
      Calls Tryz.prog 58 #[.agg us.toArray, .func (.func g) #[] cap] w (Ret fun _ w' => Out As ds M s s' w w') := by
  have flat : ∀ {t : T} {s : σ} {us : List Value} {M : Nat → Prop} {w : World}, t.kind ≠ 1 → t.kind ≠ 4 → In As ds M s w → rdT M w t us →
      Calls Tryz.prog 58 #[.agg us.toArray, .func (.func g) #[] cap] w (Ret fun _ w' => Out As ds M s s w w') := by
    intro t s us M w h1 h4 hin h
    obtain ⟨a, c, rfl⟩ := rdT_four h
    refine enter0 Tryz.func58 rfl Tryz.ntmps58 rfl (by simp) ?_
    have H := hin.begin
    (repeat (first | refine qq ?_ | (refine qds H ?_; intro H) | (refine qrb H ?_; intro _ w H) | (refine qrs H ?_; intro w H) | (refine qdr H ?_; intro H)))
    exact H.outOf (A1 := [_]) rfl rfl (by repeat (first | exact wides_end | refine wides_cons ?_ | refine wides_left ?_))
  induction t with
  | nil => intro s s' us M w hs hin h; cases hs; exact flat (by decide) (by decide) hin h
  | sym _ => intro s s' us M w hs hin h; cases hs; exact flat (by simp [T.kind]) (by simp [T.kind]) hin h
  | num _ => intro s s' us M w hs hin h; cases hs; exact flat (by simp [T.kind]) (by simp [T.kind]) hin h
  | var n =>
    intro s s' us M w hs hin h
    obtain ⟨a, c, rfl⟩ := rdT_var h
    refine enter0 Tryz.func58 rfl Tryz.ntmps58 rfl (by simp) ?_
    have H := hin.begin
    (repeat (first | refine qq ?_ | (refine qds H ?_; intro H) | (refine qrb H ?_; intro _ w H) | (refine qrs H ?_; intro w H) | (refine qdr H ?_; intro H)))
    refine ql1 (hc := C hs (H.into (A1 := [_]) rfl hin.1 (by repeat (first | exact wides_end | refine wides_cons ?_ | refine wides_left ?_)))) (k := ?_)
    intro _ w hout
    have ho := hout.2.2.1
    have H := H.step (A1 := [_]) rfl hout
    (repeat (first | refine qq ?_ | (refine qds H ?_; intro H) | (refine qrb H ?_; intro _ w H) | (refine qrs H ?_; intro w H) | (refine qdr H ?_; intro H)))
    exact H.outOf (A1 := [_]) rfl ho (by repeat (first | exact wides_end | refine wides_cons ?_ | refine wides_left ?_))
  | pair x y ihx ihy =>
    intro s s' us M w hs hin h
    obtain ⟨b, o, c, rfl, hc, hMb, hb, ⟨us, hus, cu⟩, ts, hts, ct⟩ := rdT_pair h
    obtain ⟨a1, c1, rfl⟩ := rdT_four hus
    obtain ⟨a2, c2, rfl⟩ := rdT_four hts
    simp only [eachV] at hs
    cases hs1 : eachV step x s with
    | none => rw [hs1] at hs; cases hs
    | some s1 =>
      rw [hs1] at hs
      refine enter0 Tryz.func58 rfl Tryz.ntmps58 rfl (by simp) ?_
      have H := (((hin.begin.add (hin.term hus)).add (hin.term hts)).add (hin.cells hMb hb cu)).add (hin.cells hMb hb ct)
      (repeat (first | refine qq ?_ | (refine qds H ?_; intro H) | (refine qrb H ?_; intro _ w H) | (refine qrs H ?_; intro w H) | (refine qdr H ?_; intro H)))
      refine qa2 (hc := ihx hs1 (H.into (A1 := [_]) rfl hin.1 (by repeat (first | exact wides_end | refine wides_cons ?_ | refine wides_left ?_))) (H.dat (d := LT.dat M x _) (by repeat (first | exact List.Mem.head _ | apply List.Mem.tail)))) (k := ?_)
      intro _ w hout
      have ho1 := hout.2.2.1
      have H := H.step (A1 := [_]) rfl hout
      (repeat (first | refine qq ?_ | (refine qds H ?_; intro H) | (refine qrb H ?_; intro _ w H) | (refine qrs H ?_; intro w H) | (refine qdr H ?_; intro H)))
      refine qa2 (hc := ihy hs (H.into (A1 := [_]) rfl hin.1 (by repeat (first | exact wides_end | refine wides_cons ?_ | refine wides_left ?_))) (H.dat (d := LT.dat M y _) (by repeat (first | exact List.Mem.head _ | apply List.Mem.tail)))) (k := ?_)
      intro _ w hout
      have ho2 := hout.2.2.1
      have H := H.step (A1 := [_]) rfl hout
      (repeat (first | refine qq ?_ | (refine qds H ?_; intro H) | (refine qrb H ?_; intro _ w H) | (refine qrs H ?_; intro w H) | (refine qdr H ?_; intro H)))
      exact H.outOf (A1 := [_]) rfl (ho2.trans ho1) (by repeat (first | exact wides_end | refine wides_cons ?_ | refine wides_left ?_))

/-- a closure that hands back a number -/
def StepN {σ : Type} (g : FuncId) (cap : Array Value) (As : σ → List Atom) (ds : σ → List Dat) (step : Nat → σ → Option (Nat × σ)) : Prop :=
  ∀ {n k : Nat} {s s' : σ} {w : World} {M : Nat → Prop}, step n s = some (k, s') → In As ds M s w → Calls Tryz.prog g (#[.int .i64 n] ++ cap) w (Ret fun v w' => v = .int .i64 k ∧ Out As ds M s s' w w')
def sizeV {σ : Type} (f : Nat → σ → Option (Nat × σ)) : T → σ → Option (Nat × σ)
  | .var n, s => match f n s with | none => none | some (k, s) => some (bif Nat.ble k 5001 then k else 5001, s)
  | .pair a b, s => match sizeV f a s with
    | none => none
    | some (x, s) => bif Nat.ble x 5000 then (match sizeV f b s with
      | none => none
      | some (y, s) => some (bif Nat.ble (1 + x + y) 5001 then 1 + x + y else 5001, s)) else some (x, s)
  | _, s => some (1, s)
theorem cut_le (k : Nat) : (bif Nat.ble k 5001 then k else 5001) ≤ 5001 ∧ (bif Nat.ble k 5001 then k else 5001) = min k 5001 := by
  cases h : Nat.ble k 5001 with
  | true => have := Nat.le_of_ble_eq_true h; simp; omega
  | false =>
    have : ¬ k ≤ 5001 := fun h' => by rw [Nat.ble_eq_true_of_le h'] at h; cases h
    simp; omega
theorem sizeV_le {σ : Type} {f : Nat → σ → Option (Nat × σ)} : ∀ {t : T} {s s' : σ} {k : Nat}, sizeV f t s = some (k, s') → k ≤ 5001
  | .var n, s, s', k, h => by
    simp only [sizeV] at h
    cases hf : f n s with
    | none => rw [hf] at h; cases h
    | some p => rw [hf] at h; simp only [Option.some.injEq, Prod.mk.injEq] at h; rw [← h.1]; exact (cut_le _).1
  | .pair a b, s, s', k, h => by
    simp only [sizeV] at h
    cases ha : sizeV f a s with
    | none => rw [ha] at h; cases h
    | some p =>
      rw [ha] at h
      simp only [] at h
      cases hb : Nat.ble p.1 5000 with
      | false => rw [hb] at h; cases h; exact sizeV_le ha
      | true =>
        rw [hb] at h
        simp only [cond_true] at h
        cases hy : sizeV f b p.2 with
        | none => rw [hy] at h; cases h
        | some q => rw [hy] at h; simp only [Option.some.injEq, Prod.mk.injEq] at h; rw [← h.1]; exact (cut_le _).1
  | .nil, s, s', k, h => by cases h; decide
  | .sym _, s, s', k, h => by cases h; decide
  | .num _, s, s', k, h => by cases h; decide

theorem X_min {P : Program} {w : World} {r : Operand → Value} {d : Option Tmp} {ty : TypeId} {pos : String} {aft : Array Edge} {g : Option (Nat × Bool)} {tys : Array TypeId} (x y : Operand) {a b : Nat} (hx : r x = .int .i64 a) (hy : r y = .int .i64 b) :
    runC P w (execOp r ⟨d, .call { callee := .builtin .min, args := #[x, y], argTypes := tys }, ty, pos, aft, g⟩) = some (.value (.int .i64 (min a b : Nat))) := by
  simp only [execOp, resolve, pure_bind, invoke, builtin, List.map_toArray, List.map_cons, List.map_nil, hx, hy, Builtin.min_, List.foldlM, Builtin.min2]
  by_cases h : (b : Int) < a
  · have : min a b = b := by omega
    simp [runC_pure, h, this]
  · have : min a b = a := by omega
    simp [runC_pure, h, this]

set_option maxRecDepth 100000 in
theorem sizeWith_c {σ : Type} {g : FuncId} [FnF Tryz.prog g] {cap : Array Value} {As : σ → List Atom} {ds : σ → List Dat} {step : Nat → σ → Option (Nat × σ)} (C : StepN g cap As ds step) (t : T) :
    ∀ {s s' : σ} {k : Nat} {us : List Value} {M : Nat → Prop} {w : World}, sizeV step t s = some (k, s') → In As ds M s w → rdT M w t us →
      Calls Tryz.prog 89 #[.agg us.toArray, .func (.func g) #[] cap] w (Ret fun v w' => v = .int .i64 k ∧ Out As ds M s s' w w') := by
  have flat : ∀ {t : T} {s : σ} {us : List Value} {M : Nat → Prop} {w : World}, t.kind ≠ 1 → t.kind ≠ 4 → In As ds M s w → rdT M w t us →
      Calls Tryz.prog 89 #[.agg us.toArray, .func (.func g) #[] cap] w (Ret fun v w' => v = .int .i64 (1 : Nat) ∧ Out As ds M s s w w') := by
    intro t s us M w h1 h4 hin h
    obtain ⟨a, c, rfl⟩ := rdT_four h
    refine enter1 Tryz.func89 rfl Tryz.ntmps89 rfl (by simp) ?_
    have H := hin.begin
    (repeat (first | refine qq ?_ | (refine qds H ?_; intro H) | (refine qrb H ?_; intro _ w H) | (refine qrs H ?_; intro w H) | (refine qdr H ?_; intro H)))
    exact ⟨rfl, H.outOf (A1 := [_]) rfl rfl (by repeat (first | exact wides_end | refine wides_cons ?_ | refine wides_left ?_))⟩
  induction t with
  | nil => intro s s' k us M w hs hin h; cases hs; exact flat (by decide) (by decide) hin h
  | sym _ => intro s s' k us M w hs hin h; cases hs; exact flat (by simp [T.kind]) (by simp [T.kind]) hin h
  | num _ => intro s s' k us M w hs hin h; cases hs; exact flat (by simp [T.kind]) (by simp [T.kind]) hin h
  | var n =>
    intro s s' k us M w hs hin h
    obtain ⟨a, c, rfl⟩ := rdT_var h
    simp only [sizeV] at hs
    cases hf : step n s with
    | none => rw [hf] at hs; cases hs
    | some p =>
      obtain ⟨k0, s0⟩ := p
      rw [hf] at hs
      simp only [Option.some.injEq, Prod.mk.injEq] at hs
      obtain ⟨rfl, rfl⟩ := hs
      rw [(cut_le k0).2]
      refine enter1 Tryz.func89 rfl Tryz.ntmps89 rfl (by simp) ?_
      have H := hin.begin
      (repeat (first | refine qq ?_ | (refine qds H ?_; intro H) | (refine qrb H ?_; intro _ w H) | (refine qrs H ?_; intro w H) | (refine qdr H ?_; intro H)))
      refine ql1 (hc := C hf (H.into (A1 := [_]) rfl hin.1 (by repeat (first | exact wides_end | refine wides_cons ?_ | refine wides_left ?_)))) (k := ?_)
      rintro _ w ⟨rfl, hout⟩
      have ho := hout.2.2.1
      have H := H.step (A1 := [_]) rfl hout
      refine WO_rd rfl (X_min (b := 5001) _ _ (by exact rfl) (by exact rfl)) ?_
      (repeat (first | refine qq ?_ | (refine qds H ?_; intro H) | (refine qrb H ?_; intro _ w H) | (refine qrs H ?_; intro w H) | (refine qdr H ?_; intro H)))
      exact ⟨rfl, H.outOf (A1 := [_]) rfl ho (by repeat (first | exact wides_end | refine wides_cons ?_ | refine wides_left ?_))⟩
  | pair x y ihx ihy =>
    intro s s' k us M w hs hin h
    obtain ⟨b, o, c, rfl, hc, hMb, hb, ⟨us, hus, cu⟩, ts, hts, ct⟩ := rdT_pair h
    obtain ⟨a1, c1, rfl⟩ := rdT_four hus
    obtain ⟨a2, c2, rfl⟩ := rdT_four hts
    simp only [sizeV] at hs
    cases hs1 : sizeV step x s with
    | none => rw [hs1] at hs; cases hs
    | some p =>
      obtain ⟨k1, s1⟩ := p
      rw [hs1] at hs
      have hk1 := sizeV_le hs1
      simp only [] at hs
      refine enter1 Tryz.func89 rfl Tryz.ntmps89 rfl (by simp) ?_
      have H := (((hin.begin.add (hin.term hus)).add (hin.term hts)).add (hin.cells hMb hb cu)).add (hin.cells hMb hb ct)
      (repeat (first | refine qq ?_ | (refine qds H ?_; intro H) | (refine qrb H ?_; intro _ w H) | (refine qrs H ?_; intro w H) | (refine qdr H ?_; intro H)))
      refine qa2 (hc := ihx hs1 (H.into (A1 := [_]) rfl hin.1 (by repeat (first | exact wides_end | refine wides_cons ?_ | refine wides_left ?_))) (H.dat (d := LT.dat M x _) (by repeat (first | exact List.Mem.head _ | apply List.Mem.tail)))) (k := ?_)
      rintro _ w ⟨rfl, hout⟩
      have ho1 := hout.2.2.1
      have H := H.step (A1 := [_]) rfl hout
      cases hb1 : Nat.ble k1 5000 with
      | false =>
        have hk : ¬ k1 ≤ 5000 := fun h' => by rw [Nat.ble_eq_true_of_le h'] at hb1; cases hb1
        rw [hb1] at hs
        cases hs
        (repeat (first | refine qq ?_ | (refine qds H ?_; intro H) | (refine qrb H ?_; intro _ w H) | (refine qrs H ?_; intro w H) | (refine qdr H ?_; intro H)))
        exact ⟨rfl, H.outOf (A1 := [_]) rfl ho1 (by repeat (first | exact wides_end | refine wides_cons ?_ | refine wides_left ?_))⟩
      | true =>
        have hk := Nat.le_of_ble_eq_true hb1
        rw [hb1] at hs
        simp only [cond_true] at hs
        cases hs2 : sizeV step y s1 with
        | none => rw [hs2] at hs; cases hs
        | some q =>
          obtain ⟨k2, s2⟩ := q
          rw [hs2] at hs
          have hk2 := sizeV_le hs2
          simp only [Option.some.injEq, Prod.mk.injEq] at hs
          obtain ⟨rfl, rfl⟩ := hs
          rw [(cut_le _).2]
          (repeat (first | refine qq ?_ | (refine qds H ?_; intro H) | (refine qrb H ?_; intro _ w H) | (refine qrs H ?_; intro w H) | (refine qdr H ?_; intro H)))
          refine qa2 (hc := ihy hs2 (H.into (A1 := [_]) rfl hin.1 (by repeat (first | exact wides_end | refine wides_cons ?_ | refine wides_left ?_))) (H.dat (d := LT.dat M y _) (by repeat (first | exact List.Mem.head _ | apply List.Mem.tail)))) (k := ?_)
          rintro _ w ⟨rfl, hout⟩
          have ho2 := hout.2.2.1
          have H := H.step (A1 := [_]) rfl hout
          (repeat (first | ((with_reducible refine qi0 ?_); refine qrd ?_) | ((with_reducible refine qi1 ?_); first | refine qrn ?_ | refine qrg ?_ | refine qru ?_)))
          refine WO_rd rfl (X_min (a := 1 + k1 + k2) (b := 5001) _ _ (by exact congrArg (Value.int .i64) (by omega)) (by exact rfl)) ?_
          (repeat (first | refine qq ?_ | (refine qds H ?_; intro H) | (refine qrb H ?_; intro _ w H) | (refine qrs H ?_; intro w H) | (refine qdr H ?_; intro H)))
          exact ⟨rfl, H.outOf (A1 := [_]) rfl (ho2.trans ho1) (by repeat (first | exact wides_end | refine wides_cons ?_ | refine wides_left ?_))⟩

/-- a closure that hands back a term and whether it is meant -/
def StepT {σ ρ : Type} (g : FuncId) (cap : Array Value) (As : σ × ρ → List Atom) (ds : σ × ρ → List Dat) (step : Nat → σ → Option ((T × Bool) × σ)) : Prop :=
  ∀ {n : Nat} {x : T} {b : Bool} {s s' : σ} {r : ρ} {w : World} {M : Nat → Prop}, step n s = some ((x, b), s') → In As ds M (s, r) w →
    Calls Tryz.prog g (#[.int .i64 n] ++ cap) w (Ret fun v w' => (∃ vs, v = .tuple #[.agg vs.toArray, .bool b] ∧ rdT M w' x vs) ∧ ∃ r', Out As ds M (s, r) (s', r') w w')
def mapV {σ : Type} (f : Nat → σ → Option ((T × Bool) × σ)) : T → σ → Option (T × σ)
  | .var n, s => match f n s with | none => none | some ((x, b), s) => some (bif b then x else .var n, s)
  | .pair a b, s => match mapV f a s with
    | none => none
    | some (a, s) => match mapV f b s with
      | none => none
      | some (b, s) => some (.pair a b, s)
  | t, s => some (t, s)

/-- what mapVars does at t -/
abbrev MapC {σ ρ : Type} (g : FuncId) (cap : Array Value) (As : σ × ρ → List Atom) (ds : σ × ρ → List Dat) (step : Nat → σ → Option ((T × Bool) × σ)) (t : T) : Prop :=
  ∀ {s s' : σ} {r : ρ} {t' : T} {us : List Value} {M : Nat → Prop} {w : World}, mapV step t s = some (t', s') → In As ds M (s, r) w → rdT M w t us →
    Calls Tryz.prog 65 #[.agg us.toArray, .func (.func g) #[] cap] w (Ret fun v w' => (∃ vs, v = .agg vs.toArray ∧ rdT M w' t' vs) ∧ ∃ r', Out As ds M (s, r) (s', r') w w')
section
variable {σ ρ : Type} {g : FuncId} [FnF Tryz.prog g] {cap : Array Value} {As : σ × ρ → List Atom} {ds : σ × ρ → List Dat} {step : Nat → σ → Option ((T × Bool) × σ)}
set_option maxRecDepth 100000 in
omit [FnF Tryz.prog g] in
theorem mapVars_flat {t : T} {s : σ} {r : ρ} {us : List Value} {M : Nat → Prop} {w : World} (h1 : t.kind ≠ 1) (h4 : t.kind ≠ 4) (hin : In As ds M (s, r) w) (h : rdT M w t us) :
    Calls Tryz.prog 65 #[.agg us.toArray, .func (.func g) #[] cap] w (Ret fun v w' => (∃ vs, v = .agg vs.toArray ∧ rdT M w' t vs) ∧ ∃ r', Out As ds M (s, r) (s, r') w w') := by
  obtain ⟨a, c, rfl⟩ := rdT_four h
  refine enterC Tryz.func65 rfl Tryz.ntmps65 rfl (by simp) ?_
  have H := hin.begin.add (hin.term h)
  (repeat (first | refine qq ?_ | (refine qds H ?_; intro H) | (refine qrb H ?_; intro _ w H) | (refine qrs H ?_; intro w H) | (refine qdr H ?_; intro H)))
  exact ⟨_, _, _, rfl, H.bcells 0 4 rfl rfl, rfl, ⟨_, rfl, H.out 0 rfl⟩, _, H.outOf (A1 := [_, _]) rfl rfl (by repeat (first | exact wides_end | refine wides_cons ?_ | refine wides_left ?_))⟩
set_option maxRecDepth 100000 in
theorem mapVars_var (C : StepT g cap As ds step) (n : Nat) : MapC g cap As ds step (.var n) := by
  intro s s' r t' us M w hs hin h
  obtain ⟨a, c, rfl⟩ := rdT_var h
  simp only [mapV] at hs
  cases hf : step n s with
  | none => rw [hf] at hs; cases hs
  | some p =>
    obtain ⟨⟨x, b⟩, s0⟩ := p
    rw [hf] at hs
    simp only [Option.some.injEq, Prod.mk.injEq] at hs
    obtain ⟨rfl, rfl⟩ := hs
    refine enterC Tryz.func65 rfl Tryz.ntmps65 rfl (by simp) ?_
    have H := hin.begin.add (hin.term h)
    (repeat (first | refine qq ?_ | (refine qds H ?_; intro H) | (refine qrb H ?_; intro _ w H) | (refine qrs H ?_; intro w H) | (refine qdr H ?_; intro H)))
    refine ql1 (hc := C hf (H.into (A1 := [_, _]) rfl hin.1 (by repeat (first | exact wides_end | refine wides_cons ?_ | refine wides_left ?_)))) (k := ?_)
    rintro _ w ⟨⟨vs, rfl, hx⟩, r0, hout⟩
    obtain ⟨a1, c1, rfl⟩ := rdT_four hx
    have ho := hout.2.2.1
    have H := (H.step (A1 := [_, _]) rfl hout).addO (A1 := [_, _]) ho (L := LT) hx
    (repeat (first | refine qq ?_ | (refine qds H ?_; intro H) | (refine qrb H ?_; intro _ w H) | (refine qrs H ?_; intro w H) | (refine qdr H ?_; intro H)))
    cases b with
    | true =>
      (repeat (first | refine qq ?_ | (refine qds H ?_; intro H) | (refine qrb H ?_; intro _ w H) | (refine qrs H ?_; intro w H) | (refine qdr H ?_; intro H)))
      refine qa1 (hc := copyTerm_c x (M := H.wr M) (H.wr_lt hin.1) (H.dat (d := LT.dat M x _) (by repeat (first | exact List.Mem.head _ | apply List.Mem.tail)))) (k := ?_)
      rintro _ w ⟨vs, rfl, hx, hm⟩
      obtain ⟨a2, c2, rfl⟩ := rdT_four hx
      have H := (H.call hm).add (d := LT.dat M x _) hx
      (repeat (first | refine qq ?_ | (refine qds H ?_; intro H) | (refine qrb H ?_; intro _ w H) | (refine qrs H ?_; intro w H) | (refine qdr H ?_; intro H)))
      exact ⟨_, _, _, rfl, H.bcells 1 4 rfl rfl, rfl, ⟨_, rfl, H.out 0 rfl⟩, _, H.outOf (A1 := [_, _, _]) rfl ho (by repeat (first | exact wides_end | refine wides_cons ?_ | refine wides_left ?_))⟩
    | false =>
      (repeat (first | refine qq ?_ | (refine qds H ?_; intro H) | (refine qrb H ?_; intro _ w H) | (refine qrs H ?_; intro w H) | (refine qdr H ?_; intro H)))
      exact ⟨_, _, _, rfl, H.bcells 1 4 rfl rfl, rfl, ⟨_, rfl, H.out 1 rfl⟩, _, H.outOf (A1 := [_, _, _]) rfl ho (by repeat (first | exact wides_end | refine wides_cons ?_ | refine wides_left ?_))⟩
set_option maxRecDepth 100000 in
omit [FnF Tryz.prog g] in
theorem mapVars_pair {x y : T} (ihx : MapC g cap As ds step x) (ihy : MapC g cap As ds step y) : MapC g cap As ds step (.pair x y) := by
  intro s s' r t' us M w hs hin h
  obtain ⟨b, o, c, rfl, hc, hMb, hb, ⟨us, hus, cu⟩, ts, hts, ct⟩ := rdT_pair h
  obtain ⟨a1, c1, rfl⟩ := rdT_four hus
  obtain ⟨a2, c2, rfl⟩ := rdT_four hts
  simp only [mapV] at hs
  cases hs1 : mapV step x s with
  | none => rw [hs1] at hs; cases hs
  | some p =>
    obtain ⟨x', s1⟩ := p
    rw [hs1] at hs
    simp only [] at hs
    cases hs2 : mapV step y s1 with
    | none => rw [hs2] at hs; cases hs
    | some q =>
      obtain ⟨y', s2⟩ := q
      rw [hs2] at hs
      simp only [Option.some.injEq, Prod.mk.injEq] at hs
      obtain ⟨rfl, rfl⟩ := hs
      refine enterC Tryz.func65 rfl Tryz.ntmps65 rfl (by simp) ?_
      have H := (((hin.begin.add (hin.term hus)).add (hin.term hts)).add (hin.cells hMb hb cu)).add (hin.cells hMb hb ct)
      (repeat (first | refine qq ?_ | (refine qds H ?_; intro H) | (refine qrb H ?_; intro _ w H) | (refine qrs H ?_; intro w H) | (refine qdr H ?_; intro H)))
      have Hp : ∀ w', (w' = _ ∨ ∃ u, (fun v w' => (∃ vs, v = .agg vs.toArray ∧ rdT (H.wr M) w' x' vs) ∧ ∃ r', Out As ds (H.wr M) (s, r) (s1, r') w.drew w' : Value → World → Prop) u w') → _ := fun w' h => H.past (p := (fun v w' => (∃ vs, v = .agg vs.toArray ∧ rdT (H.wr M) w' x' vs) ∧ ∃ r', Out As ds (H.wr M) (s, r) (s1, r') w.drew w')) (A1 := [_, _]) rfl (fun _ _ ⟨_, _, h⟩ => h.1) h
      refine WD_one_mut 11 5 [[], [0], [0, 1], [0, 1, 2], [], [0, 1, 2, 3, 4], [], [6], [6, 7], [6, 7, 8], []] (fun v w' => (∃ vs, v = .agg vs.toArray ∧ rdT (H.wr M) w' x' vs) ∧ ∃ r', Out As ds (H.wr M) (s, r) (s1, r') w.drew w') (by kernel_rfl) ?_ _ (by exact rfl) ?_
      · refine ⟨?_, ?_, ?_, ?_, ?_, ?_, ?_, ?_, ?_, ?_, ?_, trivial⟩
        iterate 5 (· exact qom)
        · intro _ _
          iterate 5 refine qwm ?_
          refine OM_x rfl ?_
          exact S_call2 _ _ (by exact rfl) (by exact rfl) (by exact rfl) (ihx hs1 (H.into (A1 := [_, _]) rfl hin.1 (by repeat (first | exact wides_end | refine wides_cons ?_ | refine wides_left ?_))) (H.dat (d := LT.dat M x _) (by repeat (first | exact List.Mem.head _ | apply List.Mem.tail)))) fun v w' h => h
        iterate 5 (· exact qom)
      intro w' _
      iterate 5 refine qwm ?_
      refine qwx ?_; intro v5 h5
      iterate 5 refine qwm ?_
      refine WM_nil ?_
      obtain ⟨⟨vs1, rfl, hx1⟩, r1, hout⟩ := h5
      obtain ⟨a5, c5, rfl⟩ := rdT_four hx1
      have ho1 := hout.2.2.1
      have H := (H.step (A1 := [_, _]) rfl hout).addO (A1 := [_, _]) ho1 (L := LT) hx1
      refine WD_s (by kernel_rfl) rfl rfl (S_call2 _ _ (by exact rfl) (by exact rfl) (by exact rfl) (ihy hs2 (H.into (A1 := [_, _]) rfl hin.1 (by repeat (first | exact wides_end | refine wides_cons ?_ | refine wides_left ?_))) (H.dat (d := LT.dat M y _) (by repeat (first | exact List.Mem.head _ | apply List.Mem.tail)))) ?_)
      rintro _ w ⟨⟨vs2, rfl, hx2⟩, r2, hout⟩
      obtain ⟨a6, c6, rfl⟩ := rdT_four hx2
      have ho2 := hout.2.2.1
      have H := (H.step (A1 := [_, _]) rfl hout).addO (A1 := [_, _]) ho2 (L := LT) hx2
      refine WD_s (by kernel_rfl) rfl rfl (S_call2 _ _ (by exact rfl) (by exact rfl) (by exact rfl) (pair_c (M := H.wr M) (H.wr_lt hin.1) (H.dat (d := LT.dat M x' _) (by repeat (first | exact List.Mem.head _ | apply List.Mem.tail))) (H.dat (d := LT.dat M y' _) (by repeat (first | exact List.Mem.head _ | apply List.Mem.tail)))) ?_)
      rintro _ w ⟨vs, rfl, hx, hm⟩
      obtain ⟨a7, c7, rfl⟩ := rdT_four hx
      have H := (H.call hm).add (d := LT.dat M (.pair x' y') _) hx
      refine WD_n (by kernel_rfl) (by exact rfl) (S_storeN H 0 _ _ (by exact rfl) (by exact rfl) (by exact rfl) (by exact rfl) (by exact rfl) (by exact rfl) ?_); intro w H
      refine WD_end (by decide) ?_
      (repeat (first | refine qq ?_ | (refine qds H ?_; intro H) | (refine qrb H ?_; intro _ w H) | (refine qrs H ?_; intro w H) | (refine qdr H ?_; intro H)))
      exact ⟨_, _, _, rfl, H.bcells 0 4 rfl rfl, rfl, ⟨_, rfl, H.out 0 rfl⟩, _, H.outOf (A1 := [_, _]) rfl (ho2.trans ho1) (by repeat (first | exact wides_end | refine wides_cons ?_ | refine wides_left ?_))⟩
theorem mapVars_c (C : StepT g cap As ds step) (t : T) : MapC g cap As ds step t := by
  induction t with
  | nil => intro s s' r t' us M w hs hin h; cases hs; exact mapVars_flat (by decide) (by decide) hin h
  | sym _ => intro s s' r t' us M w hs hin h; cases hs; exact mapVars_flat (by simp [T.kind]) (by simp [T.kind]) hin h
  | num _ => intro s s' r t' us M w hs hin h; cases hs; exact mapVars_flat (by simp [T.kind]) (by simp [T.kind]) hin h
  | var n => exact mapVars_var C n
  | pair x y ihx ihy => exact mapVars_pair ihx ihy
end
end Go.Proofs.YtljpfnjpifhdlaaGreatDoor
namespace Go.Proofs.YtljpfnjpifhdlaaGreatDoor
open Go

inductive Tr (α : Type) where
  | leaf
  | node (l : Tr α) (v : Option α) (r : Tr α)
def Tr.get {α : Type} : Tr α → Nat → Option α
  | .leaf, _ => none
  | .node l v r, k => bif Nat.beq k 0 then v else bif Nat.beq (k % 2) 1 then l.get (k / 2) else r.get (k / 2 - 1)
def Tr.set {α : Type} : Nat → Tr α → Nat → α → Tr α
  | 0, t, _, _ => t
  | f + 1, .leaf, k, x => bif Nat.beq k 0 then .node .leaf (some x) .leaf else bif Nat.beq (k % 2) 1 then .node (Tr.set f .leaf (k / 2) x) none .leaf else .node .leaf none (Tr.set f .leaf (k / 2 - 1) x)
  | f + 1, .node l v r, k, x => bif Nat.beq k 0 then .node l (some x) r else bif Nat.beq (k % 2) 1 then .node (Tr.set f l (k / 2) x) v r else .node l v (Tr.set f r (k / 2 - 1) x)
theorem beq_if {α : Type} (a b : Nat) (x y : α) : (bif Nat.beq a b then x else y) = if a = b then x else y := by
  by_cases h : a = b
  · subst h; simp
  · have : Nat.beq a b = false := by cases hb : Nat.beq a b with | false => rfl | true => exact absurd (Nat.eq_of_beq_eq_true hb) h
    simp [this, h]
def Tr.L {α : Type} : Tr α → Tr α | .leaf => .leaf | .node l _ _ => l
def Tr.V {α : Type} : Tr α → Option α | .leaf => none | .node _ v _ => v
def Tr.R {α : Type} : Tr α → Tr α | .leaf => .leaf | .node _ _ r => r
theorem Tr.get_eq {α : Type} (t : Tr α) (k : Nat) : t.get k = if k = 0 then t.V else if k % 2 = 1 then t.L.get (k / 2) else t.R.get (k / 2 - 1) := by
  cases t with
  | leaf => simp [Tr.get, Tr.L, Tr.V, Tr.R]
  | node l v r => simp only [Tr.get, beq_if, Tr.L, Tr.V, Tr.R]
theorem Tr.set_eq {α : Type} (f : Nat) (t : Tr α) (k : Nat) (x : α) : Tr.set (f + 1) t k x = if k = 0 then .node t.L (some x) t.R else if k % 2 = 1 then .node (Tr.set f t.L (k / 2) x) t.V t.R else .node t.L t.V (Tr.set f t.R (k / 2 - 1) x) := by
  cases t <;> simp only [Tr.set, beq_if, Tr.L, Tr.V, Tr.R]
theorem Tr.get_node {α : Type} (l : Tr α) (v : Option α) (r : Tr α) (k : Nat) : (Tr.node l v r).get k = if k = 0 then v else if k % 2 = 1 then l.get (k / 2) else r.get (k / 2 - 1) := Tr.get_eq _ _
theorem Tr.get_set {α : Type} (x : α) : ∀ (f : Nat) (t : Tr α) (k j : Nat), k + 1 < 2 ^ f → (Tr.set f t k x).get j = if j = k then some x else t.get j
  | 0, t, k, j, h => by simp at h
  | f + 1, t, k, j, h => by
    rw [Nat.pow_succ] at h
    rw [Tr.set_eq, Tr.get_eq t j]
    by_cases hk : k = 0
    · subst hk
      rw [if_pos rfl, Tr.get_node]
      by_cases hj : j = 0 <;> simp [hj]
    · rw [if_neg hk]
      by_cases hk2 : k % 2 = 1
      · rw [if_pos hk2, Tr.get_node]
        by_cases hj : j = 0
        · rw [if_pos hj, if_pos hj, if_neg (by omega)]
        · rw [if_neg hj, if_neg hj]
          by_cases hj2 : j % 2 = 1
          · rw [if_pos hj2, if_pos hj2, Tr.get_set x f _ _ _ (by omega)]
            by_cases hjk : j = k
            · rw [if_pos (by omega), if_pos hjk]
            · rw [if_neg (by omega), if_neg hjk]
          · rw [if_neg hj2, if_neg hj2, if_neg (by omega)]
      · rw [if_neg hk2, Tr.get_node]
        by_cases hj : j = 0
        · rw [if_pos hj, if_pos hj, if_neg (by omega)]
        · rw [if_neg hj, if_neg hj]
          by_cases hj2 : j % 2 = 1
          · rw [if_pos hj2, if_pos hj2, if_neg (by omega)]
          · rw [if_neg hj2, if_neg hj2, Tr.get_set x f _ _ _ (by omega)]
            by_cases hjk : j = k
            · rw [if_pos (by omega), if_pos hjk]
            · rw [if_neg (by omega), if_neg hjk]
abbrev fu : Nat := 20

def numG (t : Tr Nat) : Nat → Option Value := fun n => (t.get n).map fun u => .int .i64 (u : Nat)
def truG (g : Nat → Option Value) : Nat → Option Value := fun n => (g n).map fun _ => .bool true
theorem put_num {t : Tr Nat} {k u : Nat} (hk : k ≤ 100000) : put (numG t) k (.int .i64 u) = numG (t.set fu k u) := by
  funext n
  simp only [put, numG, Tr.get_set u fu t k n (by show k + 1 < 1048576; omega)]
  by_cases h : n = k <;> simp [h]
theorem put_tru {g : Nat → Option Value} {k : Nat} (v : Value) : put (truG g) k (.bool true) = truG (put g k v) := by
  funext n
  simp only [put, truG]
  by_cases h : n = k <;> simp [h]
theorem num_some {t : Tr Nat} {k u : Nat} (h : t.get k = some u) : numG t k = some (.int .i64 u) := by simp [numG, h]
theorem num_none {t : Tr Nat} {k : Nat} (h : t.get k = none) : numG t k = none := by simp [numG, h]

/-- terms in a map -/
def DT (g : Nat → Option T) (sv : Nat → Option Value) : Dat := ⟨fun X w => ∀ n, match g n, sv n with
    | none, none => True
    | some t, some v => ∃ vs, v = .agg vs.toArray ∧ rdT X w t vs
    | _, _ => False,
  fun M w w' h hh n => by
    have := hh n
    revert this
    cases g n <;> cases sv n <;> simp only [imp_self]
    rintro ⟨vs, rfl, hr⟩; exact ⟨vs, rfl, rdT_keep h _ _ hr⟩,
  fun M M' w h hh n => by
    have := hh n
    revert this
    cases g n <;> cases sv n <;> simp only [imp_self]
    rintro ⟨vs, rfl, hr⟩; exact ⟨vs, rfl, rdT_grow h _ _ hr⟩⟩

structure CB where
  b : Nat
  m0 : Nat
  m1 : Nat
  m2 : Nat
  m3 : Nat
  m4 : Nat
  m5 : Nat
structure CS where
  up : Tr Nat
  shape : Tr T
  color : Tr Nat
  size : Tr Nat
  full : Tr T
structure CR where
  sv : Nat → Option Value
  fv : Nat → Option Value
abbrev clA (K : CB) (s : CS × CR) : List Atom := [mp K.m0 (numG s.1.up), mp K.m1 s.2.sv, mp K.m2 (truG s.2.sv), mp K.m3 (numG s.1.color), mp K.m4 (numG s.1.size), mp K.m5 s.2.fv]
abbrev clC (K : CB) : List Value := [.map (some K.m0), .map (some K.m1), .map (some K.m2), .map (some K.m3), .map (some K.m4), .map (some K.m5)]
abbrev clD (K : CB) (s : CS × CR) : List Dat := [dcells K.b 0 (clC K), DT s.1.shape.get s.2.sv, DT s.1.full.get s.2.fv]
abbrev clP (K : CB) : Value := .pointer (some ⟨K.b, 0, none⟩)

def rootG : Nat → Tr Nat → Nat → Option (Nat × Tr Nat)
  | 0, _, _ => none
  | f + 1, up, v => bif Nat.ble v 100000 then (match up.get v with
    | none => none
    | some u => bif Nat.beq u v then some (v, up) else (match up.get u with
      | none => none
      | some u' => rootG f (up.set fu v u') u')) else none
def root (up : Tr Nat) (v : Nat) : Option (Nat × Tr Nat) :=
  bif Nat.ble v 100000 then (match up.get v with
    | none => some (v, up.set fu v v)
    | some _ => rootG 100 up v) else none

/-- what holds in between, whichever way was taken -/
theorem W_mid {P : Program} {n : Nat} {c y : Code} {Q : FPost} {f : FF} {w : World} (I : FF → World → Prop) (h : W P n c (sq I Q) f w) (k : ∀ f w, I f w → W P n y Q f w) : W P n c (sq (W P n y Q) Q) f w :=
  W_mono h fun e f w hq => by cases e <;> first | exact k f w hq | exact hq

section
variable {w0 w : World} {S : List Nat} {A A' : List Atom} {D : List Dat}
theorem Holds.re (H : Holds w0 S A D w) (h : A = A') : Holds w0 S A' D w := h ▸ H
theorem In.cls {K : CB} {s : CS × CR} {M : Nat → Prop} (h : In (clA K) (clD K) M s w) : (dcells K.b 0 (clC K)).ok (· ∈ owns (clA K s)) w := by
  obtain ⟨h1, h2, h3⟩ := h.2.2.2 (dcells K.b 0 (clC K)) (by simp)
  exact h.cells h1 h2 h3
end

theorem rootG_le {x : Nat} {up' : Tr Nat} : ∀ {f : Nat} {up : Tr Nat} {v : Nat}, rootG f up v = some (x, up') → x ≤ 100000
  | 0, _, _, h => by cases h
  | f + 1, up, v, h => by
    unfold rootG at h
    cases hv : Nat.ble v 100000 with
    | false => rw [hv] at h; cases h
    | true =>
      rw [hv] at h
      simp only [cond_true] at h
      cases hg : up.get v with
      | none => rw [hg] at h; cases h
      | some u =>
        rw [hg] at h
        simp only [beq_if] at h
        split at h
        · cases h; exact Nat.le_of_ble_eq_true hv
        · cases hg' : up.get u with
          | none => rw [hg'] at h; cases h
          | some u' => rw [hg'] at h; exact rootG_le h

set_option maxRecDepth 100000 in
theorem root_c {K : CB} {s : CS} {r : CR} {v x : Nat} {up' : Tr Nat} {M : Nat → Prop} {w0 : World} (hr : root s.up v = some (x, up')) (hin : In (clA K) (clD K) M (s, r) w0) :
    Calls Tryz.prog 106 #[clP K, .int .i64 v] w0 (Ret fun u w' => u = .int .i64 x ∧ Out (clA K) (clD K) M (s, r) ({ s with up := up' }, r) w0 w') := by
  refine enter1 Tryz.func106 rfl Tryz.ntmps106 rfl (by simp) ?_
  have H := hin.begin.add hin.cls
  unfold root at hr
  cases hv : Nat.ble v 100000 with
  | false => rw [hv] at hr; cases hr
  | true =>
    have hv' := Nat.le_of_ble_eq_true hv
    rw [hv] at hr
    simp only [cond_true] at hr
    (repeat (first | refine qq ?_ | (refine qds H ?_; intro H) | (refine qrb H ?_; intro _ w H) | (refine qrs H ?_; intro w H) | (refine qdr H ?_; intro H)))
    refine WO_rd rfl (X_lookOk H _ _ (by exact rfl) (by exact rfl) (by repeat (first | exact List.Mem.head _ | apply List.Mem.tail))) ?_
    (repeat (first | refine qq ?_ | (refine qds H ?_; intro H) | (refine qrb H ?_; intro _ w H) | (refine qrs H ?_; intro w H) | (refine qdr H ?_; intro H)))
    refine W_mid (fun f w' => ∃ g m up1, f = sl g [(0, clP K), (1, .int .i64 v)] ∧ rootG m up1 v = some (x, up') ∧ Holds w0 (owns (clA K (s, r))) (clA K ({ s with up := up1 }, r)) (dcells K.b 0 (clC K) :: ([] ++ (clD K (s, r)).map (Dat.wide M))) w') ?_ ?_
    · cases hg : s.up.get v with
      | none =>
        rw [hg] at hr
        cases hr
        refine W_true (by show Value.bool (!(numG s.up v).isSome) = _; rw [num_none hg]; rfl) ?_
        (repeat (first | refine qq ?_ | (refine qds H ?_; intro H) | (refine qrb H ?_; intro _ w H) | (refine qrs H ?_; intro w H) | (refine qdr H ?_; intro H)))
        refine WO_n (S_mapSet H 0 _ _ _ (v := .int .i64 v) (by exact rfl) (by exact rfl) (by exact rfl) (by exact rfl) ?_); intro w H
        have H := H.re (A' := clA K ({ s with up := s.up.set fu v v }, r)) (by rw [put_num hv']; rfl)
        (repeat (first | refine qq ?_ | (refine qds H ?_; intro H) | (refine qrb H ?_; intro _ w H) | (refine qrs H ?_; intro w H) | (refine qdr H ?_; intro H)))
        refine ⟨_, 1, _, sl_back ⟨rfl, rfl, trivial⟩, ?_, H⟩
        simp [rootG, hv, Tr.get_set v fu s.up v v (show v + 1 < 1048576 by omega)]
      | some u =>
        rw [hg] at hr
        refine W_false (by show Value.bool (!(numG s.up v).isSome) = _; rw [num_some hg]; rfl) ?_
        (repeat (first | refine qq ?_ | (refine qds H ?_; intro H) | (refine qrb H ?_; intro _ w H) | (refine qrs H ?_; intro w H) | (refine qdr H ?_; intro H)))
        exact ⟨_, 100, s.up, sl_back ⟨rfl, rfl, trivial⟩, hr, H⟩
    · clear hr hv hv' H
      rintro f w ⟨g, m, up1, rfl, hr, H⟩
      (repeat (first | refine qq ?_ | (refine qds H ?_; intro H) | (refine qrb H ?_; intro _ w H) | (refine qrs H ?_; intro w H) | (refine qdr H ?_; intro H)))
      refine W_loop (fun m f w' => ∃ (g : FF) (v : Nat) (up1 : Tr Nat), f = sl g [(0, clP K), (1, .int .i64 v)] ∧ rootG m up1 v = some (x, up') ∧ Holds w0 (owns (clA K (s, r))) (clA K ({ s with up := up1 }, r)) (dcells K.b 0 (clC K) :: ([] ++ (clD K (s, r)).map (Dat.wide M))) w') m ⟨_, v, up1, sl_back ⟨rfl, rfl, trivial⟩, hr, H⟩ ?_
      clear hr H
      rintro m f w ⟨g, v, up1, rfl, hr, H⟩
      cases m with
      | zero => cases hr
      | succ m =>
        unfold rootG at hr
        cases hv : Nat.ble v 100000 with
        | false => rw [hv] at hr; cases hr
        | true =>
          have hv' := Nat.le_of_ble_eq_true hv
          rw [hv] at hr
          simp only [cond_true] at hr
          cases hg : up1.get v with
          | none => rw [hg] at hr; cases hr
          | some u =>
            rw [hg] at hr
            have hn := num_some hg
            simp only [beq_if] at hr
            by_cases huv : u = v
            · rw [if_pos huv] at hr
              subst huv
              cases hr
              (repeat (first | refine qq ?_ | (refine qds H ?_; intro H) | (refine qrb H ?_; intro _ w H) | (refine qrs H ?_; intro w H) | (refine qdr H ?_; intro H)))
              exact ⟨rfl, H.outOf (A1 := []) rfl rfl (by repeat (first | exact wides_end | refine wides_cons ?_ | refine wides_left ?_))⟩
            · rw [if_neg huv] at hr
              cases hg2 : up1.get u with
              | none => rw [hg2] at hr; cases hr
              | some u2 =>
                rw [hg2] at hr
                simp only [] at hr
                have hn2 := num_some hg2
                (repeat (first | refine qq ?_ | (refine qds H ?_; intro H) | (refine qrb H ?_; intro _ w H) | (refine qrs H ?_; intro w H) | (refine qdr H ?_; intro H)))
                refine WD_any 16 [[], [0], [0, 1], [0, 1, 2], [], [], [5], [5, 6], [5, 6, 7], [], [9], [9, 10], [9, 10, 11], [], [9, 10, 11, 12, 13], [5, 6, 7, 8, 9, 10, 11, 12, 13, 14]] [] (by kernel_rfl) ?_ ?_ _ (by exact rfl) ?_
                · exact trivial
                · refine ⟨?_, ?_, ?_, ?_, ?_, ?_, ?_, ?_, ?_, ?_, ?_, ?_, ?_, ?_, ?_, ?_, trivial⟩
                  iterate 16 (· exact qob)
                intro w hm
                have H := H.call hm
                iterate 16 refine qwr ?_
                refine WR_nil ?_
                refine WD_n (by kernel_rfl) (by exact rfl) (S_mapSet H 0 _ _ _ (v := .int .i64 u2) (by exact rfl) (by exact rfl) (by exact rfl) (by exact rfl) ?_); intro w H
                have H := H.re (A' := clA K ({ s with up := up1.set fu v u2 }, r)) (by rw [put_num hv']; rfl)
                refine WD_end (by decide) ?_
                have hn3 : numG (up1.set fu v u2) v = some (.int .i64 u2) := num_some (by rw [Tr.get_set _ _ _ _ _ (show v + 1 < 1048576 by omega), if_pos rfl])
                (repeat (first | refine qq ?_ | (refine qds H ?_; intro H) | (refine qrb H ?_; intro _ w H) | (refine qrs H ?_; intro w H) | (refine qdr H ?_; intro H)))
                exact ⟨m, Nat.lt_succ_self _, _, u2, _, sl_back ⟨rfl, rfl, trivial⟩, hr, H⟩
end Go.Proofs.YtljpfnjpifhdlaaGreatDoor
namespace Go.Proofs.YtljpfnjpifhdlaaGreatDoor
open Go
section
variable {w0 w : World} {S : List Nat} {A A' : List Atom} {D : List Dat} {M : Nat → Prop}
theorem eraseIdx_sub {α : Type} : ∀ (l : List α) (i : Nat), (l.eraseIdx i).Sublist l := fun l i => List.eraseIdx_sublist l i
/-- a box that nobody writes any more -/
theorem Holds.frz (H : Holds w0 S A D w) (hM : ∀ b, M b → b < w0.heap.size) (i : Nat) {b : Nat} {xs : List Value} {T : TypeId} (hi : A[i]? = some (box b xs T)) (hS : ∀ b ∈ S, b ∈ owns (A.eraseIdx i)) :
    Holds w0 S (A.eraseIdx i) (dcells b 0 xs :: Dat.wide M (dcells b 0 xs) :: D) w := by
  have hb : b ∈ owns A := mem_owns.2 ⟨_, List.mem_of_getElem? hi, by simp [box]⟩
  have hblt := H.lt b hb
  have hcell : Cells w b 0 xs := block_cells (H.atom (List.mem_of_getElem? hi)) (n := xs.length) (by simp)
  have hnin : b ∉ owns (A.eraseIdx i) := by
    obtain ⟨A1, A2, rfl, rfl⟩ : ∃ A1 A2, A = A1 ++ box b xs T :: A2 ∧ i = A1.length := by
      obtain ⟨hlt, he⟩ := List.getElem?_eq_some_iff.1 hi
      exact ⟨A.take i, A.drop (i + 1), by rw [← he]; simp, by simp; omega⟩
    have nd := H.nd
    rw [List.eraseIdx_append_of_length_le (Nat.le_refl _)]
    simp only [Nat.sub_self, List.eraseIdx_cons_zero]
    have e1 : owns (A1 ++ box b xs T :: A2) = owns A1 ++ (b :: owns A2) := by simp [owns, box]
    rw [e1, List.nodup_append] at nd
    rw [owns_append]
    intro h
    rcases List.mem_append.1 h with h | h
    · exact nd.2.2 b h b (by simp) rfl
    · exact (List.nodup_cons.1 nd.2.1).1 h
  have hnM : ¬ M b := fun h => by
    rcases H.low b hb with h' | h'
    · have := hM b h; omega
    · exact hnin (hS b h')
  have H' := H.sub (A' := A.eraseIdx i) (D' := D) (List.eraseIdx_sublist A i) (fun _ h => h)
  exact (H'.add (d := Dat.wide M (dcells b 0 xs)) ⟨fun h => h.elim hnM hnin, hblt, hcell⟩).add (d := dcells b 0 xs) ⟨hnin, hblt, hcell⟩
end

def meetV (t : T) (up : Tr Nat) : Option (Tr Nat) := eachV (fun v up => (root up v).map (·.2)) t up

section
variable {K : CB} {s : CS} {r : CR}
abbrev upA (K : CB) (s : CS) (r : CR) (up : Tr Nat) : List Atom := clA K ({ s with up := up }, r)
abbrev upD (K : CB) (s : CS) (r : CR) (b : Nat) (up : Tr Nat) : List Dat := dcells b 0 [clP K] :: clD K ({ s with up := up }, r)

set_option maxRecDepth 100000 in
theorem meet1_c (b : Nat) : StepC 133 #[.pointer (some ⟨b, 0, none⟩)] (upA K s r) (upD K s r b) (fun v up => (root up v).map (·.2)) := by
  intro n up up' w M hs hin
  obtain ⟨⟨x, u⟩, hr, rfl⟩ := Option.map_eq_some_iff.1 hs
  show Calls _ _ #[.int .i64 n, .pointer (some ⟨b, 0, none⟩)] _ _
  refine enter0 Tryz.func133 rfl Tryz.ntmps133 rfl (by simp) ?_
  obtain ⟨h1, h2, h3⟩ := hin.2.2.2 (dcells b 0 [clP K]) (by simp)
  have H := hin.begin.add (hin.cells h1 h2 h3)
  (repeat (first | refine qq ?_ | (refine qds H ?_; intro H) | (refine qrb H ?_; intro _ w H) | (refine qrs H ?_; intro w H) | (refine qdr H ?_; intro H)))
  refine qa2 (hc := root_c (s := { s with up := up }) (r := r) hr (H.into (As := clA K) (ds := clD K) (A1 := []) rfl hin.1 (by simp))) (k := ?_)
  rintro _ w ⟨rfl, hout⟩
  have ho := hout.2.2.1
  have H := H.step (As := clA K) (A1 := []) rfl hout
  (repeat (first | refine qq ?_ | (refine qds H ?_; intro H) | (refine qrb H ?_; intro _ w H) | (refine qrs H ?_; intro w H) | (refine qdr H ?_; intro H)))
  exact H.outOf (A1 := []) (As := upA K s r) (ds := upD K s r b) rfl ho (by simp)

set_option maxRecDepth 100000 in
theorem meet_c {t : T} {up' : Tr Nat} {us : List Value} {M : Nat → Prop} {w : World} (hs : meetV t s.up = some up') (hin : In (clA K) (clD K) M (s, r) w) (h : rdT M w t us) :
    Calls Tryz.prog 107 #[clP K, .agg us.toArray] w (Ret fun _ w' => Out (clA K) (clD K) M (s, r) ({ s with up := up' }, r) w w') := by
  obtain ⟨a, c, rfl⟩ := rdT_four h
  refine enter0 Tryz.func107 rfl Tryz.ntmps107 rfl (by simp) ?_
  have H := hin.begin.add (hin.term h)
  (repeat (first | refine qq ?_ | (refine qds H ?_; intro H) | (refine qrb H ?_; intro _ w H) | (refine qrs H ?_; intro w H) | (refine qdr H ?_; intro H)))
  have H := H.frz (xs := [clP K]) hin.1 1 rfl (fun b h => List.mem_append.2 (.inr h))
  refine qa2 (hc := eachVar_c (meet1_c (s := s) (r := r) _) t hs (H.into (As := upA K s r) (ds := upD K s r _) (A1 := [_]) rfl hin.1 (by simp)) (H.dat (d := LT.dat M t _) (by repeat (first | exact List.Mem.head _ | apply List.Mem.tail)))) (k := ?_)
  rintro _ w hout
  have ho := hout.2.2.1
  have H := H.step (As := upA K s r) (A1 := [_]) rfl hout
  (repeat (first | refine qq ?_ | (refine qds H ?_; intro H) | (refine qrb H ?_; intro _ w H) | (refine qrs H ?_; intro w H) | (refine qdr H ?_; intro H)))
  exact H.outOf (A1 := [_]) (As := clA K) (ds := clD K) rfl ho (by simp)
end
end Go.Proofs.YtljpfnjpifhdlaaGreatDoor
namespace Go.Proofs.YtljpfnjpifhdlaaGreatDoor
open Go
section
variable {w0 w : World} {S : List Nat} {A A' : List Atom} {D : List Dat} {M X : Nat → Prop}
theorem own_c {a : Atom} {b : Nat} (h : b ∈ owns A) : b ∈ owns (a :: A) := List.mem_append.2 (.inr h)
theorem DT_some {g : Nat → Option T} {sv : Nat → Option Value} {n : Nat} {t : T} (h : (DT g sv).ok X w) (hg : g n = some t) : ∃ vs, sv n = some (.agg vs.toArray) ∧ rdT X w t vs := by
  have := h n
  rw [hg] at this
  cases hs : sv n with
  | none => rw [hs] at this; exact this.elim
  | some v => rw [hs] at this; obtain ⟨vs, rfl, hr⟩ := this; exact ⟨vs, rfl, hr⟩
theorem DT_none {g : Nat → Option T} {sv : Nat → Option Value} {n : Nat} (h : (DT g sv).ok X w) (hg : g n = none) : sv n = none := by
  have := h n
  rw [hg] at this
  cases hs : sv n with
  | none => rfl
  | some v => rw [hs] at this; exact this.elim
end
def seenG (t : Tr Unit) : Nat → Option Value := fun n => (t.get n).map fun _ => .bool true
theorem put_seen {t : Tr Unit} {k : Nat} (hk : k ≤ 100000) : put (seenG t) k (.bool true) = seenG (t.set fu k ()) := by
  funext n
  simp only [put, seenG, Tr.get_set () fu t k n (by show k + 1 < 1048576; omega)]
  by_cases h : n = k <;> simp [h]
theorem root_le {up up' : Tr Nat} {v x : Nat} (h : root up v = some (x, up')) : x ≤ 100000 := by
  unfold root at h
  cases hv : Nat.ble v 100000 with
  | false => rw [hv] at h; cases h
  | true =>
    rw [hv] at h
    simp only [cond_true] at h
    cases hg : up.get v with
    | none => rw [hg] at h; cases h; exact Nat.le_of_ble_eq_true hv
    | some u => rw [hg] at h; exact rootG_le h

def reaches : Nat → Tr T → T → Nat → Tr Nat × Tr Unit → Option (Bool × Tr Nat × Tr Unit)
  | 0, _, _, _, _ => none
  | f + 1, sh, t, x, (up, seen) => eachV (fun v (found, up, seen) => match root up v with
      | none => none
      | some (r, up) => bif found || Nat.beq r x then some (true, up, seen) else (match seen.get r, sh.get r with
        | none, some t' => reaches f sh t' x (up, seen.set fu r ())
        | _, _ => some (false, up, seen))) t (false, up, seen)
def reachS (f : Nat) (sh : Tr T) (x : Nat) : Nat → Bool × Tr Nat × Tr Unit → Option (Bool × Tr Nat × Tr Unit) := fun v (found, up, seen) => match root up v with
      | none => none
      | some (r, up) => bif found || Nat.beq r x then some (true, up, seen) else (match seen.get r, sh.get r with
        | none, some t' => reaches f sh t' x (up, seen.set fu r ())
        | _, _ => some (false, up, seen))
theorem reaches_succ (f : Nat) (sh : Tr T) (t : T) (x : Nat) (up : Tr Nat) (seen : Tr Unit) : reaches (f + 1) sh t x (up, seen) = eachV (reachS f sh x) t (false, up, seen) := rfl

section
variable {K : CB} {s : CS} {r : CR}
abbrev rA (K : CB) (s : CS) (r : CR) (bs : Nat) (p : Tr Nat × Tr Unit) : List Atom := mp bs (seenG p.2) :: clA K ({ s with up := p.1 }, r)
abbrev rD (K : CB) (s : CS) (r : CR) (p : Tr Nat × Tr Unit) : List Dat := clD K ({ s with up := p.1 }, r)
abbrev r1A (K : CB) (s : CS) (r : CR) (bs bf : Nat) (p : Bool × Tr Nat × Tr Unit) : List Atom := box bf [.bool p.1] 4 :: rA K s r bs p.2
abbrev r1D (K : CB) (s : CS) (r : CR) (bs b4 b6 b7 x : Nat) (p : Bool × Tr Nat × Tr Unit) : List Dat := dcells b4 0 [clP K] :: dcells b6 0 [.int .i64 x] :: dcells b7 0 [.map (some bs)] :: rD K s r p.2
/-- what reaches does with the fuel f -/
abbrev ReachC (K : CB) (s : CS) (r : CR) (f : Nat) : Prop := ∀ {t : T} {x bs : Nat} {up up' : Tr Nat} {seen seen' : Tr Unit} {b : Bool} {us : List Value} {M : Nat → Prop} {w : World}, reaches f s.shape t x (up, seen) = some (b, up', seen') →
  In (rA K s r bs) (rD K s r) M (up, seen) w → rdT M w t us →
    Calls Tryz.prog 134 #[clP K, .agg us.toArray, .int .i64 x, .map (some bs)] w (Ret fun v w' => v = .bool b ∧ Out (rA K s r bs) (rD K s r) M (up, seen) (up', seen') w w')

set_option maxRecDepth 100000 in
theorem reach1_c {f : Nat} (ih : ReachC K s r f) (bs bf b4 b6 b7 x : Nat) : StepC 157 #[.pointer (some ⟨b4, 0, none⟩), .pointer (some ⟨bf, 0, none⟩), .pointer (some ⟨b6, 0, none⟩), .pointer (some ⟨b7, 0, none⟩)]
    (r1A K s r bs bf) (r1D K s r bs b4 b6 b7 x) (reachS f s.shape x) := by
  rintro n ⟨found, up, seen⟩ p' w M hs hin
  unfold reachS at hs
  simp only [] at hs
  cases hr : root up n with
  | none => rw [hr] at hs; cases hs
  | some q =>
    obtain ⟨y, up1⟩ := q
    rw [hr] at hs
    simp only [] at hs
    have hy := root_le hr
    show Calls _ _ #[.int .i64 n, .pointer (some ⟨b4, 0, none⟩), .pointer (some ⟨bf, 0, none⟩), .pointer (some ⟨b6, 0, none⟩), .pointer (some ⟨b7, 0, none⟩)] _ _
    refine enter0 Tryz.func157 rfl Tryz.ntmps157 rfl (by simp) ?_
    obtain ⟨h1, h2, h3⟩ := hin.2.2.2 (dcells b4 0 [clP K]) (by simp)
    obtain ⟨h4, h5, h6⟩ := hin.2.2.2 (dcells b6 0 [.int .i64 x]) (by simp)
    obtain ⟨h7, h8, h9⟩ := hin.2.2.2 (dcells b7 0 [.map (some bs)]) (by simp)
    obtain ⟨h10, h11, h12⟩ := hin.2.2.2 (dcells K.b 0 (clC K)) (by simp)
    have H := (((hin.begin.add (hin.cells h1 h2 h3)).add (hin.cells h4 h5 h6)).add (hin.cells h7 h8 h9)).add (hin.cells h10 h11 h12)
    (repeat (first | refine qq ?_ | (refine qds H ?_; intro H) | (refine qrb H ?_; intro _ w H) | (refine qrs H ?_; intro w H) | (refine qdr H ?_; intro H)))
    refine qa2 (hc := root_c (s := { s with up := up }) (r := r) hr (H.into (As := clA K) (ds := clD K) (A1 := [_, _]) rfl hin.1 (by simp))) (k := ?_)
    rintro _ w ⟨rfl, hout⟩
    have ho := hout.2.2.1
    have H := H.step (As := clA K) (A1 := [_, _]) rfl hout
    cases found with
    | true =>
      cases hs
      (repeat (first | refine qq ?_ | (refine qds H ?_; intro H) | (refine qrb H ?_; intro _ w H) | (refine qrs H ?_; intro w H) | (refine qdr H ?_; intro H)))
      exact H.outOf (A1 := []) (As := r1A K s r bs bf) (ds := r1D K s r bs b4 b6 b7 x) rfl rfl (by simp)
    | false =>
      simp only [Bool.false_or, beq_if] at hs
      by_cases hyx : y = x
      · rw [if_pos hyx] at hs
        cases hs
        (repeat (first | refine qq ?_ | (refine qds H ?_; intro H) | (refine qrb H ?_; intro _ w H) | (refine qrs H ?_; intro w H) | (refine qdr H ?_; intro H)))
        exact H.outOf (A1 := []) (As := r1A K s r bs bf) (ds := r1D K s r bs b4 b6 b7 x) rfl rfl (by simp)
      · rw [if_neg hyx] at hs
        cases hse : seen.get y with
        | some u =>
          rw [hse] at hs
          cases hs
          have hn : seenG seen y = some (.bool true) := by simp [seenG, hse]
          (repeat (first | refine qq ?_ | (refine qds H ?_; intro H) | (refine qrb H ?_; intro _ w H) | (refine qrs H ?_; intro w H) | (refine qdr H ?_; intro H)))
          exact H.outOf (A1 := []) (As := r1A K s r bs bf) (ds := r1D K s r bs b4 b6 b7 x) rfl rfl (by simp)
        | none =>
          rw [hse] at hs
          have hn : seenG seen y = none := by simp [seenG, hse]
          cases hsh : s.shape.get y with
          | none =>
            rw [hsh] at hs
            cases hs
            have hn2 : truG r.sv y = none := by simp [truG, DT_none (H.dat (d := Dat.wide M (DT s.shape.get r.sv)) (by simp)) hsh]
            (repeat (first | refine qq ?_ | (refine qds H ?_; intro H) | (refine qrb H ?_; intro _ w H) | (refine qrs H ?_; intro w H) | (refine qdr H ?_; intro H)))
            exact H.outOf (A1 := []) (As := r1A K s r bs bf) (ds := r1D K s r bs b4 b6 b7 x) rfl rfl (by simp)
          | some t' =>
            rw [hsh] at hs
            simp only [] at hs
            obtain ⟨vs, hv, hrd⟩ := DT_some (H.dat (d := Dat.wide M (DT s.shape.get r.sv)) (by simp)) hsh
            have hn2 : truG r.sv y = some (.bool true) := by simp [truG, hv]
            have H := H.add (d := LT.dat M t' vs) hrd
            (repeat (first | refine qq ?_ | (refine qds H ?_; intro H) | (refine qrb H ?_; intro _ w H) | (refine qrs H ?_; intro w H) | (refine qdr H ?_; intro H)))
            refine WO_n (S_mapSet H 1 _ _ _ (v := .bool true) (by exact rfl) (by exact rfl) (by exact rfl) (by exact rfl) ?_); intro w H
            have H := H.re (A' := r1A K s r bs bf (false, up1, seen.set fu y ())) (by rw [put_seen hy]; rfl)
            (repeat (first | refine qq ?_ | (refine qds H ?_; intro H) | (refine qrb H ?_; intro _ w H) | (refine qrs H ?_; intro w H) | (refine qdr H ?_; intro H)))
            obtain ⟨⟨b', up2, seen2⟩, rfl⟩ : ∃ q, p' = q := ⟨_, rfl⟩
            refine WD_any 9 [[], [], [1], [1, 2], [1, 2, 3], [], [1, 2, 3, 4, 5], [], []] [] (by kernel_rfl) ?_ ?_ _ (by exact rfl) ?_
            · exact trivial
            · refine ⟨?_, ?_, ?_, ?_, ?_, ?_, ?_, ?_, ?_, trivial⟩
              iterate 9 (· exact qob)
            intro w hm
            have H := H.call hm
            iterate 9 refine qwr ?_
            refine WR_nil ?_
            refine WD_s (by kernel_rfl) rfl rfl (S_call4 _ _ _ _ (by exact rfl) (by exact rfl) (by exact rfl) (by exact rfl) (by exact rfl) (ih hs (H.into (As := rA K s r bs) (ds := rD K s r) (A1 := [_]) rfl hin.1 (by simp)) (H.dat (d := LT.dat M t' _) (by simp))) ?_)
            rintro _ w ⟨rfl, hout⟩
            have ho := hout.2.2.1
            have H := H.step (As := rA K s r bs) (A1 := [_]) rfl hout
            refine WD_n (by kernel_rfl) (by exact rfl) (S_store1 H 0 _ _ (v := .bool b') (by exact rfl) (by exact rfl) (by exact rfl) (by exact rfl) (by exact rfl) (by exact rfl) ?_); intro w H
            refine WD_end (by decide) ?_
            (repeat (first | refine qq ?_ | (refine qds H ?_; intro H) | (refine qrb H ?_; intro _ w H) | (refine qrs H ?_; intro w H) | (refine qdr H ?_; intro H)))
            exact H.outOf (A1 := []) (As := r1A K s r bs bf) (ds := r1D K s r bs b4 b6 b7 x) rfl rfl (by simp)

set_option maxRecDepth 100000 in
theorem reaches_c (f : Nat) : ReachC K s r f := by
  induction f with
  | zero => intro t x bs up up' seen seen' b us M w hs; cases hs
  | succ f ih =>
    intro t x bs up up' seen seen' b us M w hs hin h
    rw [reaches_succ] at hs
    obtain ⟨a, c, rfl⟩ := rdT_four h
    refine enter1 Tryz.func134 rfl Tryz.ntmps134 rfl (by simp) ?_
    have H := hin.begin.add (hin.term h)
    (repeat (first | refine qq ?_ | (refine qds H ?_; intro H) | (refine qrb H ?_; intro _ w H) | (refine qrs H ?_; intro w H) | (refine qdr H ?_; intro H)))
    have H := H.frz (xs := [.map (some bs)]) hin.1 1 rfl (fun b h => own_c (own_c (own_c (own_c h))))
    have H := H.frz (xs := [.int .i64 x]) hin.1 1 rfl (fun b h => own_c (own_c (own_c h)))
    have H := H.frz (xs := [clP K]) hin.1 2 rfl (fun b h => own_c (own_c h))
    have H := H.sub (A' := _ :: rA K s r bs (up, seen)) (.cons_cons _ (.cons _ (.refl _))) (fun _ h => h)
    refine qa2 (hc := eachVar_c (reach1_c ih bs _ _ _ _ x) t hs (H.into (As := r1A K s r bs _) (ds := r1D K s r bs _ _ _ x) (A1 := []) rfl hin.1 (by simp)) (H.dat (d := LT.dat M t _) (by simp))) (k := ?_)
    rintro _ w hout
    have H := H.step (As := r1A K s r bs _) (A1 := []) rfl hout
    (repeat (first | refine qq ?_ | (refine qds H ?_; intro H) | (refine qrb H ?_; intro _ w H) | (refine qrs H ?_; intro w H) | (refine qdr H ?_; intro H)))
    exact ⟨rfl, H.outOf (A1 := [_]) (As := rA K s r bs) (ds := rD K s r) rfl rfl (by simp)⟩
end
end Go.Proofs.YtljpfnjpifhdlaaGreatDoor
namespace Go.Proofs.YtljpfnjpifhdlaaGreatDoor
open Go
section
variable {w0 w : World} {S : List Nat} {A A' : List Atom} {D : List Dat} {M X : Nat → Prop}
theorem DT_put {g : Tr T} {sv : Nat → Option Value} {x : Nat} {t : T} {vs : List Value} (hx : x ≤ 100000) (h : (DT g.get sv).ok X w) (ht : rdT X w t vs) : (DT (g.set fu x t).get (put sv x (.agg vs.toArray))).ok X w := by
  intro n
  have := h n
  simp only [put, Tr.get_set t fu g x n (by show x + 1 < 1048576; omega)]
  by_cases hn : n = x
  · simp only [hn, if_true]; exact ⟨vs, rfl, ht⟩
  · simp only [hn, if_false]; exact this
end
def knowV (up : Tr Nat) (sh : Tr T) (x : Nat) (t : T) : Option (Bool × Tr Nat × Tr T) :=
  match reaches 100 (sh.set fu x t) t x (up, .leaf) with
  | none => none
  | some (b, up, _) => some (!b, up, sh.set fu x t)
section
variable {K : CB} {s : CS} {r : CR}
set_option maxRecDepth 100000 in
theorem know_c {x : Nat} {t : T} {b : Bool} {up' : Tr Nat} {sh' : Tr T} {us : List Value} {M : Nat → Prop} {w : World} (hs : knowV s.up s.shape x t = some (b, up', sh')) (hx : x ≤ 100000) (hin : In (clA K) (clD K) M (s, r) w) (h : rdT M w t us) :
    Calls Tryz.prog 135 #[clP K, .int .i64 x, .agg us.toArray] w (Ret fun v w' => v = .bool b ∧ ∃ r', Out (clA K) (clD K) M (s, r) ({ s with up := up', shape := sh' }, r') w w') := by
  unfold knowV at hs
  cases hr : reaches 100 (s.shape.set fu x t) t x (s.up, .leaf) with
  | none => rw [hr] at hs; cases hs
  | some q =>
    obtain ⟨b', up1, seen1⟩ := q
    rw [hr] at hs
    simp only [Option.some.injEq, Prod.mk.injEq] at hs
    obtain ⟨rfl, rfl, rfl⟩ := hs
    obtain ⟨a, c, rfl⟩ := rdT_four h
    refine enter1 Tryz.func135 rfl Tryz.ntmps135 rfl (by simp) ?_
    have H := (hin.begin.add (hin.term h)).add hin.cls
    (repeat (first | refine qq ?_ | (refine qds H ?_; intro H) | (refine qrb H ?_; intro _ w H) | (refine qrs H ?_; intro w H) | (refine qdr H ?_; intro H)))
    refine WD_any 6 [[], [0], [0, 1], [0, 1, 2], [], []] [] (by kernel_rfl) ?_ ?_ _ (by exact rfl) ?_
    · exact trivial
    · refine ⟨?_, ?_, ?_, ?_, ?_, ?_, trivial⟩
      iterate 6 (· exact qob)
    intro w hm
    have H := H.call hm
    iterate 6 refine qwr ?_
    refine WR_nil ?_
    refine WD_n (by kernel_rfl) (by exact rfl) (S_mapSet H 2 _ _ _ (v := .agg #[.int .i64 t.kind, .int .i64 t.int, .string t.name, .slice a t.args.length c]) (by exact rfl) (by exact rfl) (by exact rfl) (by exact rfl) ?_); intro w H
    refine WD_end (by decide) ?_
    (repeat (first | refine qq ?_ | (refine qds H ?_; intro H) | (refine qrb H ?_; intro _ w H) | (refine qrs H ?_; intro w H) | (refine qdr H ?_; intro H)))
    refine WO_n (S_mapSet H 3 _ _ _ (v := .bool true) (by exact rfl) (by exact rfl) (by exact rfl) (by exact rfl) ?_); intro w H
    have H := H.re (A' := _ :: clA K ({ s with shape := s.shape.set fu x t }, { r with sv := put r.sv x (.agg #[.int .i64 t.kind, .int .i64 t.int, .string t.name, .slice a t.args.length c]) })) (by rw [put_tru (.agg #[.int .i64 t.kind, .int .i64 t.int, .string t.name, .slice a t.args.length c])]; rfl)
    have H := H.add (d := Dat.wide M (DT (s.shape.set fu x t).get (put r.sv x (.agg #[.int .i64 t.kind, .int .i64 t.int, .string t.name, .slice a t.args.length c])))) (DT_put hx (H.dat (d := Dat.wide M (DT s.shape.get r.sv)) (by simp)) (H.dat (d := LT.dat M t _) (by simp)))
    (repeat (first | refine qq ?_ | (refine qds H ?_; intro H) | (refine qrb H ?_; intro _ w H) | (refine qrs H ?_; intro w H) | (refine qdr H ?_; intro H)))
    refine WO_s rfl (S_makeMap H ?_); intro bs w H
    (repeat (first | refine qq ?_ | (refine qds H ?_; intro H) | (refine qrb H ?_; intro _ w H) | (refine qrs H ?_; intro w H) | (refine qdr H ?_; intro H)))
    have H := H.sub (A' := rA K { s with shape := s.shape.set fu x t } { r with sv := put r.sv x (.agg #[.int .i64 t.kind, .int .i64 t.int, .string t.name, .slice a t.args.length c]) } bs (s.up, .leaf)) (.cons_cons _ (.cons _ (.refl _))) (fun _ h => h)
    refine qa4 (hc := reaches_c 100 hr (H.into (As := rA K { s with shape := s.shape.set fu x t } _ bs) (ds := rD K { s with shape := s.shape.set fu x t } _) (A1 := []) rfl hin.1 (by simp)) (H.dat (d := LT.dat M t _) (by simp))) (k := ?_)
    rintro _ w ⟨rfl, hout⟩
    have H := H.step (As := rA K _ _ bs) (A1 := []) rfl hout
    (repeat (first | refine qq ?_ | (refine qds H ?_; intro H) | (refine qrb H ?_; intro _ w H) | (refine qrs H ?_; intro w H) | (refine qdr H ?_; intro H)))
    exact ⟨rfl, _, H.outOf (A1 := [_]) (As := clA K) (ds := clD K) rfl rfl (by simp)⟩
end
end Go.Proofs.YtljpfnjpifhdlaaGreatDoor
namespace Go.Proofs.YtljpfnjpifhdlaaGreatDoor
open Go
def reachV (up : Tr Nat) (sh : Tr T) (t : T) (x : Nat) : Option (Bool × Tr Nat) := match reaches 100 sh t x (up, .leaf) with
  | none => none
  | some (b, up, _) => some (b, up)
def joinV (eq : Tr Nat → Tr T → T → T → Option (Bool × Tr Nat × Tr T)) (up : Tr Nat) (sh : Tr T) (x y : Nat) : Option (Bool × Tr Nat × Tr T) :=
  match sh.get y with
  | none => (match sh.get x with
    | none => some (true, up, sh)
    | some sx => match reachV up sh sx x with
      | none => none
      | some (b, up) => some (!b, up, sh))
  | some t => match sh.get x with
    | none => knowV up sh x t
    | some sx => match reachV up sh t x with
      | none => none
      | some (true, up) => some (false, up, sh)
      | some (false, up) => match reachV up sh sx x with
        | none => none
        | some (true, up) => some (false, up, sh)
        | some (false, up) => eq up sh sx t
def flatEq : T → T → Option Bool
  | .nil, .nil => some true
  | .num a, .num b => some (decide (a = b))
  | .sym _, _ => none
  | _, .sym _ => none
  | _, _ => some false
def equalV : Nat → Tr Nat → Tr T → T → T → Option (Bool × Tr Nat × Tr T)
  | 0, _, _, _, _ => none
  | f + 1, up, sh, t, t' => match t with
    | .var a => (match t' with
      | .var b => (match root up a with
        | none => none
        | some (x, up) => match root up b with
          | none => none
          | some (y, up) => bif Nat.beq x y then some (true, up, sh) else bif Nat.blt y x then joinV (equalV f) (up.set fu x y) sh y x else joinV (equalV f) (up.set fu y x) sh x y)
      | t' => match root up a with
        | none => none
        | some (x, up) => match sh.get x with
          | none => knowV up sh x t'
          | some sx => equalV f up sh sx t')
    | t => match t' with
      | .var b => equalV f up sh (.var b) t
      | t' => match t, t' with
        | .pair a b, .pair c d => (match equalV f up sh a c with
          | none => none
          | some (false, up, sh) => some (false, up, sh)
          | some (true, up, sh) => equalV f up sh b d)
        | t, t' => match flatEq t t' with
          | none => none
          | some b => some (b, up, sh)
theorem equalV_vt (f : Nat) (up : Tr Nat) (sh : Tr T) (a : Nat) {t' : T} (h : t'.kind ≠ 1) : equalV (f + 1) up sh (.var a) t' = match root up a with
        | none => none
        | some (x, up) => match sh.get x with
          | none => knowV up sh x t'
          | some sx => equalV f up sh sx t' := by cases t' <;> first | rfl | exact absurd rfl h
theorem equalV_tv (f : Nat) (up : Tr Nat) (sh : Tr T) (b : Nat) {t : T} (h : t.kind ≠ 1) : equalV (f + 1) up sh t (.var b) = equalV f up sh (.var b) t := by cases t <;> first | rfl | exact absurd rfl h
theorem equalV_ff (f : Nat) (up : Tr Nat) (sh : Tr T) {t t' : T} (h : t.kind ≠ 1) (h' : t'.kind ≠ 1) (h4 : t.kind ≠ 4 ∨ t'.kind ≠ 4) : equalV (f + 1) up sh t t' = match flatEq t t' with
          | none => none
          | some b => some (b, up, sh) := by cases t <;> cases t' <;> first | rfl | exact absurd rfl h | exact absurd rfl h' | (simp [T.kind] at h4)
theorem flatEq_of {t t' : T} {b : Bool} (h : flatEq t t' = some b) (hk : t.kind ≠ 1) (hk' : t'.kind ≠ 1) (h4 : t.kind ≠ 4 ∨ t'.kind ≠ 4) : t.name = t'.name ∧ b = decide (t.kind = t'.kind ∧ t.int = t'.int) := by
  cases t <;> cases t' <;> simp [flatEq] at h <;> subst h <;> simp [T.name, T.kind, T.int] at hk hk' h4 ⊢

/-- what equal does with the fuel f -/
abbrev EqC (K : CB) (f : Nat) : Prop := ∀ {s : CS} {r : CR} {t t' : T} {b : Bool} {up' : Tr Nat} {sh' : Tr T} {us vs : List Value} {M : Nat → Prop} {w : World}, equalV f s.up s.shape t t' = some (b, up', sh') →
  In (clA K) (clD K) M (s, r) w → rdT M w t us → rdT M w t' vs →
    Calls Tryz.prog 108 #[clP K, .agg us.toArray, .agg vs.toArray] w (Ret fun v w' => v = .bool b ∧ ∃ r', Out (clA K) (clD K) M (s, r) ({ s with up := up', shape := sh' }, r') w w')
abbrev EqCt (K : CB) (f : Nat) (t t' : T) : Prop := ∀ {s : CS} {r : CR} {b : Bool} {up' : Tr Nat} {sh' : Tr T} {us vs : List Value} {M : Nat → Prop} {w : World}, equalV f s.up s.shape t t' = some (b, up', sh') →
  In (clA K) (clD K) M (s, r) w → rdT M w t us → rdT M w t' vs →
    Calls Tryz.prog 108 #[clP K, .agg us.toArray, .agg vs.toArray] w (Ret fun v w' => v = .bool b ∧ ∃ r', Out (clA K) (clD K) M (s, r) ({ s with up := up', shape := sh' }, r') w w')
section
variable {K : CB} {f : Nat}
set_option maxRecDepth 100000 in
theorem equal_ff {t t' : T} (hk : t.kind ≠ 1) (hk' : t'.kind ≠ 1) (h4 : t.kind ≠ 4 ∨ t'.kind ≠ 4) : EqCt K (f + 1) t t' := by
  intro s r b up' sh' us vs M w hs hin h h'
  rw [equalV_ff f _ _ hk hk' h4] at hs
  cases hf : flatEq t t' with
  | none => rw [hf] at hs; cases hs
  | some b0 =>
    rw [hf] at hs
    cases hs
    obtain ⟨hn, rfl⟩ := flatEq_of hf hk hk' h4
    obtain ⟨a1, c1, rfl⟩ := rdT_four h
    obtain ⟨a2, c2, rfl⟩ := rdT_four h'
    refine enter1 Tryz.func108 rfl Tryz.ntmps108 rfl (by simp) ?_
    have H := (hin.begin.add (hin.term h)).add (hin.term h')
    by_cases h1 : t.kind = t'.kind
    · have hk4 : t.kind ≠ 4 := by omega
      by_cases h2 : t.int = t'.int
      · rw [decide_eq_true ⟨h1, h2⟩]
        (repeat (first | refine qq ?_ | (refine qds H ?_; intro H) | (refine qrb H ?_; intro _ w H) | (refine qrs H ?_; intro w H) | (refine qdr H ?_; intro H)))
        exact ⟨rfl, _, H.outOf (A1 := [_, _]) (As := clA K) (ds := clD K) rfl rfl (by simp)⟩
      · rw [decide_eq_false (fun h => h2 h.2)]
        (repeat (first | refine qq ?_ | (refine qds H ?_; intro H) | (refine qrb H ?_; intro _ w H) | (refine qrs H ?_; intro w H) | (refine qdr H ?_; intro H)))
        exact ⟨rfl, _, H.outOf (A1 := [_, _]) (As := clA K) (ds := clD K) rfl rfl (by simp)⟩
    · rw [decide_eq_false (fun h => h1 h.1)]
      (repeat (first | refine qq ?_ | (refine qds H ?_; intro H) | (refine qrb H ?_; intro _ w H) | (refine qrs H ?_; intro w H) | (refine qdr H ?_; intro H)))
      exact ⟨rfl, _, H.outOf (A1 := [_, _]) (As := clA K) (ds := clD K) rfl rfl (by simp)⟩
set_option maxRecDepth 100000 in
theorem equal_tv (ih : EqC K f) {t : T} {n : Nat} (hk : t.kind ≠ 1) : EqCt K (f + 1) t (.var n) := by
  intro s r b up' sh' us vs M w hs hin h h'
  rw [equalV_tv f _ _ _ hk] at hs
  obtain ⟨a1, c1, rfl⟩ := rdT_four h
  obtain ⟨a2, c2, rfl⟩ := rdT_var h'
  refine enter1 Tryz.func108 rfl Tryz.ntmps108 rfl (by simp) ?_
  have H := (hin.begin.add (hin.term h)).add (hin.term h')
  (repeat (first | refine qq ?_ | (refine qds H ?_; intro H) | (refine qrb H ?_; intro _ w H) | (refine qrs H ?_; intro w H) | (refine qdr H ?_; intro H)))
  refine qa3 (hc := ih hs (H.into (As := clA K) (ds := clD K) (A1 := [_, _]) rfl hin.1 (by simp)) (H.dat (d := LT.dat M (.var n) _) (by simp)) (H.dat (d := LT.dat M t _) (by simp))) (k := ?_)
  rintro _ w ⟨rfl, r1, hout⟩
  have ho := hout.2.2.1
  have H := H.step (As := clA K) (A1 := [_, _]) rfl hout
  (repeat (first | refine qq ?_ | (refine qds H ?_; intro H) | (refine qrb H ?_; intro _ w H) | (refine qrs H ?_; intro w H) | (refine qdr H ?_; intro H)))
  exact ⟨rfl, _, H.outOf (A1 := [_, _]) (As := clA K) (ds := clD K) rfl ho (by simp)⟩
set_option maxRecDepth 100000 in
theorem equal_vt (ih : EqC K f) {t : T} {n : Nat} (hk : t.kind ≠ 1) : EqCt K (f + 1) (.var n) t := by
  intro s r b up' sh' us vs M w hs hin h h'
  rw [equalV_vt f _ _ _ hk] at hs
  cases hr : root s.up n with
  | none => rw [hr] at hs; cases hs
  | some q =>
    obtain ⟨x, up1⟩ := q
    rw [hr] at hs
    simp only [] at hs
    obtain ⟨a1, c1, rfl⟩ := rdT_var h
    obtain ⟨a2, c2, rfl⟩ := rdT_four h'
    refine enter1 Tryz.func108 rfl Tryz.ntmps108 rfl (by simp) ?_
    have H := ((hin.begin.add (hin.term h)).add (hin.term h')).add hin.cls
    (repeat (first | refine qq ?_ | (refine qds H ?_; intro H) | (refine qrb H ?_; intro _ w H) | (refine qrs H ?_; intro w H) | (refine qdr H ?_; intro H)))
    refine qa2 (hc := root_c hr (H.into (As := clA K) (ds := clD K) (A1 := [_, _]) rfl hin.1 (by simp))) (k := ?_)
    rintro _ w ⟨rfl, hout⟩
    have ho := hout.2.2.1
    have H := H.step (As := clA K) (A1 := [_, _]) rfl hout
    cases hsh : s.shape.get x with
    | none =>
      rw [hsh] at hs
      have hn : truG r.sv x = none := by simp [truG, DT_none (H.dat (d := Dat.wide M (DT s.shape.get r.sv)) (by simp)) hsh]
      (repeat (first | refine qq ?_ | (refine qds H ?_; intro H) | (refine qrb H ?_; intro _ w H) | (refine qrs H ?_; intro w H) | (refine qdr H ?_; intro H)))
      refine qa3 (hc := know_c (s := { s with up := up1 }) hs (root_le hr) (H.into (As := clA K) (ds := clD K) (A1 := [_, _]) rfl hin.1 (by simp)) (H.dat (d := LT.dat M t _) (by simp))) (k := ?_)
      rintro _ w ⟨rfl, r1, hout⟩
      have H := H.step (As := clA K) (A1 := [_, _]) rfl hout
      (repeat (first | refine qq ?_ | (refine qds H ?_; intro H) | (refine qrb H ?_; intro _ w H) | (refine qrs H ?_; intro w H) | (refine qdr H ?_; intro H)))
      exact ⟨rfl, _, H.outOf (A1 := [_, _]) (As := clA K) (ds := clD K) rfl rfl (by simp)⟩
    | some sx =>
      rw [hsh] at hs
      obtain ⟨ws, hv, hrd⟩ := DT_some (H.dat (d := Dat.wide M (DT s.shape.get r.sv)) (by simp)) hsh
      have hn : truG r.sv x = some (.bool true) := by simp [truG, hv]
      have H := H.add (d := LT.dat M sx ws) hrd
      (repeat (first | refine qq ?_ | (refine qds H ?_; intro H) | (refine qrb H ?_; intro _ w H) | (refine qrs H ?_; intro w H) | (refine qdr H ?_; intro H)))
      refine WD_any 8 [[], [], [1], [1, 2], [1, 2, 3], [], [1, 2, 3, 4, 5], []] [] (by kernel_rfl) ?_ ?_ _ (by exact rfl) ?_
      · exact trivial
      · refine ⟨?_, ?_, ?_, ?_, ?_, ?_, ?_, ?_, trivial⟩
        iterate 8 (· exact qob)
      intro w hm
      have H := H.call hm
      iterate 8 refine qwr ?_
      refine WR_nil ?_
      refine WD_s (by kernel_rfl) rfl rfl (S_call3 _ _ _ (by exact rfl) (by exact rfl) (by exact rfl) (by exact rfl) (ih (s := { s with up := up1 }) hs (H.into (As := clA K) (ds := clD K) (A1 := [_, _]) rfl hin.1 (by simp)) (H.dat (d := LT.dat M sx _) (by simp)) (H.dat (d := LT.dat M t _) (by simp))) ?_)
      rintro _ w ⟨rfl, r1, hout⟩
      have H := H.step (As := clA K) (A1 := [_, _]) rfl hout
      refine WD_rd (by kernel_rfl) rfl rfl (X_assign _) (WD_end (by decide) ?_)
      (repeat (first | refine qq ?_ | (refine qds H ?_; intro H) | (refine qrb H ?_; intro _ w H) | (refine qrs H ?_; intro w H) | (refine qdr H ?_; intro H)))
      exact ⟨rfl, _, H.outOf (A1 := [_, _]) (As := clA K) (ds := clD K) rfl rfl (by simp)⟩
set_option maxRecDepth 100000 in
theorem equal_pp (ih : EqC K f) {x y x' y' : T} : EqCt K (f + 1) (.pair x y) (.pair x' y') := by
  intro s r b up' sh' us vs M w hs hin h h'
  change (match equalV f s.up s.shape x x' with
          | none => none
          | some (false, up, sh) => some (false, up, sh)
          | some (true, up, sh) => equalV f up sh y y') = _ at hs
  cases he : equalV f s.up s.shape x x' with
  | none => rw [he] at hs; cases hs
  | some q =>
    obtain ⟨b1, up1, sh1⟩ := q
    rw [he] at hs
    obtain ⟨p, o, c, rfl, hc, hMb, hb, ⟨us, hus, cu⟩, ts, hts, ct⟩ := rdT_pair h
    obtain ⟨a1, c1, rfl⟩ := rdT_four hus
    obtain ⟨a2, c2, rfl⟩ := rdT_four hts
    obtain ⟨p', o', c', rfl, hc', hMb', hb', ⟨us', hus', cu'⟩, ts', hts', ct'⟩ := rdT_pair h'
    obtain ⟨a3, c3, rfl⟩ := rdT_four hus'
    obtain ⟨a4, c4, rfl⟩ := rdT_four hts'
    refine enter1 Tryz.func108 rfl Tryz.ntmps108 rfl (by simp) ?_
    have H := (((((((hin.begin.add (hin.term hus)).add (hin.term hts)).add (hin.cells hMb hb cu)).add (hin.cells hMb hb ct)).add (hin.term hus')).add (hin.term hts')).add (hin.cells hMb' hb' cu')).add (hin.cells hMb' hb' ct')
    (repeat (first | refine qq ?_ | (refine qds H ?_; intro H) | (refine qrb H ?_; intro _ w H) | (refine qrs H ?_; intro w H) | (refine qdr H ?_; intro H)))
    refine WD_any 9 [[], [], [1], [1, 2], [1, 2, 3], [], [5], [5, 6], [5, 6, 7]] [] (by kernel_rfl) ?_ ?_ _ (by exact rfl) ?_
    · exact trivial
    · refine ⟨?_, ?_, ?_, ?_, ?_, ?_, ?_, ?_, ?_, trivial⟩
      iterate 9 (· exact qob)
    intro w hm
    have H := H.call hm
    iterate 9 refine qwr ?_
    refine WR_nil ?_
    refine WD_s (by kernel_rfl) rfl rfl (S_call3 _ _ _ (by exact rfl) (by exact rfl) (by exact rfl) (by exact rfl) (ih he (H.into (As := clA K) (ds := clD K) (A1 := [_, _]) rfl hin.1 (by simp)) (H.dat (d := LT.dat M x _) (by repeat (first | exact List.Mem.head _ | apply List.Mem.tail))) (H.dat (d := LT.dat M x' _) (by repeat (first | exact List.Mem.head _ | apply List.Mem.tail)))) ?_)
    rintro _ w ⟨rfl, r1, hout⟩
    have ho := hout.2.2.1
    have H := H.step (As := clA K) (A1 := [_, _]) rfl hout
    refine WD_rd (by kernel_rfl) rfl rfl (X_move _) ?_
    cases b1 with
    | false =>
      cases hs
      refine WD_any 20 [[], [], [12], [12, 13], [12, 13, 14], [], [16], [16, 17], [16, 17, 18]] [] (by kernel_rfl) ?_ ?_ _ (by exact rfl) ?_
      · exact trivial
      · refine ⟨?_, ?_, ?_, ?_, ?_, ?_, ?_, ?_, ?_, trivial⟩
        iterate 9 (· exact qob)
      intro w hm
      have H := H.call hm
      iterate 9 (first | refine qwn ?_ | refine qwg ?_)
      refine WR_nil ?_
      refine WD_not (by kernel_rfl) rfl rfl rfl rfl (by exact rfl) ?_
      refine WD_rd (by kernel_rfl) rfl rfl (X_pickF _ _ _ (by exact rfl)) ?_
      refine WD_rd (by kernel_rfl) rfl rfl (X_assign _) (WD_end (by decide) ?_)
      (repeat (first | refine qq ?_ | (refine qds H ?_; intro H) | (refine qrb H ?_; intro _ w H) | (refine qrs H ?_; intro w H) | (refine qdr H ?_; intro H)))
      exact ⟨rfl, _, H.outOf (A1 := [_, _]) (As := clA K) (ds := clD K) rfl ho (by simp)⟩
    | true =>
      change equalV f up1 sh1 y y' = _ at hs
      refine WD_any 20 [[], [], [12], [12, 13], [12, 13, 14], [], [16], [16, 17], [16, 17, 18]] [] (by kernel_rfl) ?_ ?_ _ (by exact rfl) ?_
      · exact trivial
      · refine ⟨?_, ?_, ?_, ?_, ?_, ?_, ?_, ?_, ?_, trivial⟩
        iterate 9 (· exact qob)
      intro w hm
      have H := H.call hm
      iterate 9 (first | refine qwn ?_ | refine qwg ?_)
      refine WR_nil ?_
      refine WD_want (by kernel_rfl) rfl rfl rfl rfl (by exact rfl) (S_call3 _ _ _ (by exact rfl) (by exact rfl) (by exact rfl) (by exact rfl) (ih (s := { s with up := up1, shape := sh1 }) hs (H.into (As := clA K) (ds := clD K) (A1 := [_, _]) rfl hin.1 (by simp)) (H.dat (d := LT.dat M y _) (by simp)) (H.dat (d := LT.dat M y' _) (by simp))) ?_)
      rintro _ w ⟨rfl, r2, hout⟩
      have ho2 := hout.2.2.1
      have H := H.step (As := clA K) (A1 := [_, _]) rfl hout
      refine WD_rd (by kernel_rfl) rfl rfl (X_pickT _ _ _ (by exact rfl)) ?_
      refine WD_rd (by kernel_rfl) rfl rfl (X_assign _) (WD_end (by decide) ?_)
      (repeat (first | refine qq ?_ | (refine qds H ?_; intro H) | (refine qrb H ?_; intro _ w H) | (refine qrs H ?_; intro w H) | (refine qdr H ?_; intro H)))
      exact ⟨rfl, _, H.outOf (A1 := [_, _]) (As := clA K) (ds := clD K) rfl (ho2.trans ho) (by simp)⟩
end
end Go.Proofs.YtljpfnjpifhdlaaGreatDoor
namespace Go.Proofs.YtljpfnjpifhdlaaGreatDoor
open Go

def ordI (a b : Int) : Int := if a < b then -1 else if b < a then 1 else 0
def T.cmp : T → T → Int
  | .pair a b, .pair c d => if a.cmp c = 0 then b.cmp d else a.cmp c
  | a, b => if a.kind = b.kind then ordI a.int b.int else ordI a.kind b.kind

set_option maxRecDepth 100000 in
theorem orderInts_c (a b : Int) (w : World) : Calls Tryz.prog 182 #[.int .i64 a, .int .i64 b] w (Ret fun v w' => v = .int .i64 (ordI a b) ∧ Mod [] w w') := by
  refine enter1 Tryz.func182 rfl Tryz.ntmps182 rfl (by simp) ?_
  have H := Holds.start w []
  unfold ordI
  by_cases h1 : a < b
  · rw [if_pos h1]
    (repeat (first | refine qq ?_ | (refine qds H ?_; intro H) | (refine qrb H ?_; intro _ w H) | (refine qrs H ?_; intro w H) | (refine qdr H ?_; intro H)))
    exact ⟨rfl, H.mod⟩
  · rw [if_neg h1]
    by_cases h2 : b < a
    · rw [if_pos h2]
      (repeat (first | refine qq ?_ | (refine qds H ?_; intro H) | (refine qrb H ?_; intro _ w H) | (refine qrs H ?_; intro w H) | (refine qdr H ?_; intro H)))
      exact ⟨rfl, H.mod⟩
    · rw [if_neg h2]
      (repeat (first | refine qq ?_ | (refine qds H ?_; intro H) | (refine qrb H ?_; intro _ w H) | (refine qrs H ?_; intro w H) | (refine qdr H ?_; intro H)))
      exact ⟨rfl, H.mod⟩

theorem T.name_fit {t : T} (h : t.fit = true) : t.name = ⟨#[]⟩ := by cases t <;> first | rfl | cases h

theorem T.cmp_flat {t t' : T} (h : t.kind ≠ 4 ∨ t'.kind ≠ 4) : t.cmp t' = if t.kind = t'.kind then ordI t.int t'.int else ordI t.kind t'.kind := by
  cases t <;> cases t' <;> first | rfl | (simp [T.kind] at h)
theorem T.pair_of {t : T} (h : t.kind = 4) : ∃ x y, t = .pair x y := by cases t <;> first | exact ⟨_, _, rfl⟩ | cases h
theorem ordI_self (a : Int) : ordI a a = 0 := by simp [ordI]

abbrev OrderC (t t' : T) : Prop := ∀ {us vs : List Value} {M M' : Nat → Prop} {w : World}, rdT M w t us → rdT M' w t' vs → t.fit = true → t'.fit = true →
    Calls Tryz.prog 161 #[.agg us.toArray, .agg vs.toArray] w (Ret fun v w' => v = .int .i64 (t.cmp t') ∧ Mod [] w w')

set_option maxRecDepth 100000 in
theorem order_kinds {t t' : T} (hk : t.kind ≠ t'.kind) : OrderC t t' := by
  intro us vs M M' w h h' hf hf'
  rw [T.cmp_flat (by omega), if_neg hk]
  obtain ⟨a1, c1, rfl⟩ := rdT_four h
  obtain ⟨a2, c2, rfl⟩ := rdT_four h'
  refine enter1 Tryz.func161 rfl Tryz.ntmps161 rfl (by simp) ?_
  have H := ((Holds.start w []).arg (L := LT) h).arg (L := LT) h'
  (repeat (first | refine qq ?_ | (refine qds H ?_; intro H) | (refine qrb H ?_; intro _ w H) | (refine qrs H ?_; intro w H) | (refine qdr H ?_; intro H)))
  refine qa2 (hc := orderInts_c _ _ w) (k := ?_)
  rintro _ w ⟨rfl, hm⟩
  have H := H.call hm
  (repeat (first | refine qq ?_ | (refine qds H ?_; intro H) | (refine qrb H ?_; intro _ w H) | (refine qrs H ?_; intro w H) | (refine qdr H ?_; intro H)))
  exact ⟨rfl, H.mod⟩
set_option maxRecDepth 100000 in
theorem order_ints {t t' : T} (hk : t.kind = t'.kind) (h4 : t.kind ≠ 4) (hi : t.int ≠ t'.int) : OrderC t t' := by
  intro us vs M M' w h h' hf hf'
  rw [T.cmp_flat (by omega), if_pos hk]
  obtain ⟨a1, c1, rfl⟩ := rdT_four h
  obtain ⟨a2, c2, rfl⟩ := rdT_four h'
  refine enter1 Tryz.func161 rfl Tryz.ntmps161 rfl (by simp) ?_
  have H := ((Holds.start w []).arg (L := LT) h).arg (L := LT) h'
  (repeat (first | refine qq ?_ | (refine qds H ?_; intro H) | (refine qrb H ?_; intro _ w H) | (refine qrs H ?_; intro w H) | (refine qdr H ?_; intro H)))
  refine qa2 (hc := orderInts_c _ _ w) (k := ?_)
  rintro _ w ⟨rfl, hm⟩
  have H := H.call hm
  (repeat (first | refine qq ?_ | (refine qds H ?_; intro H) | (refine qrb H ?_; intro _ w H) | (refine qrs H ?_; intro w H) | (refine qdr H ?_; intro H)))
  exact ⟨rfl, H.mod⟩
set_option maxRecDepth 100000 in
theorem order_same {t t' : T} (hk : t.kind = t'.kind) (h4 : t.kind ≠ 4) (hi : t.int = t'.int) : OrderC t t' := by
  intro us vs M M' w h h' hf hf'
  rw [T.cmp_flat (by omega), if_pos hk, hi, ordI_self]
  obtain ⟨a1, c1, rfl⟩ := rdT_four h
  obtain ⟨a2, c2, rfl⟩ := rdT_four h'
  have hn : t.name = t'.name := by rw [T.name_fit hf, T.name_fit hf']
  refine enter1 Tryz.func161 rfl Tryz.ntmps161 rfl (by simp) ?_
  have H := ((Holds.start w []).arg (L := LT) h).arg (L := LT) h'
  (repeat (first | refine qq ?_ | (refine qds H ?_; intro H) | (refine qrb H ?_; intro _ w H) | (refine qrs H ?_; intro w H) | (refine qdr H ?_; intro H)))
  exact ⟨rfl, H.mod⟩
theorem order_flat {t t' : T} (h : t.kind ≠ 4 ∨ t'.kind ≠ 4) : OrderC t t' := by
  by_cases hk : t.kind = t'.kind
  · by_cases hi : t.int = t'.int
    · exact order_same hk (by omega) hi
    · exact order_ints hk (by omega) hi
  · exact order_kinds hk

set_option maxRecDepth 100000 in
theorem order_pair {x y x' y' : T} (ihx : OrderC x x') (ihy : OrderC y y') : OrderC (.pair x y) (.pair x' y') := by
  intro us vs M M' w h h' hf hf'
  obtain ⟨b, o, c, rfl, hc, hMb, hb, ⟨us, hus, cu⟩, ts, hts, ct⟩ := rdT_pair h
  obtain ⟨a1, c1, rfl⟩ := rdT_four hus
  obtain ⟨a2, c2, rfl⟩ := rdT_four hts
  obtain ⟨b', o', c', rfl, hc', hMb', hb', ⟨us', hus', cu'⟩, ts', hts', ct'⟩ := rdT_pair h'
  obtain ⟨a3, c3, rfl⟩ := rdT_four hus'
  obtain ⟨a4, c4, rfl⟩ := rdT_four hts'
  simp only [T.fit, Bool.and_eq_true] at hf hf'
  simp only [T.cmp]
  refine enter1 Tryz.func161 rfl Tryz.ntmps161 rfl (by simp) ?_
  have H := ((((((((Holds.start w []).arg (L := LT) hus).arg (L := LT) hts).add (d := dcells b o _) ⟨by simp [owns], hb, cu⟩).add (d := dcells b (o + 4) _) ⟨by simp [owns], hb, ct⟩).arg (L := LT) hus').arg (L := LT) hts').add (d := dcells b' o' _) ⟨by simp [owns], hb', cu'⟩).add (d := dcells b' (o' + 4) _) ⟨by simp [owns], hb', ct'⟩
  (repeat (first | refine qq ?_ | (refine qds H ?_; intro H) | (refine qrb H ?_; intro _ w H) | (refine qrs H ?_; intro w H) | (refine qdr H ?_; intro H)))
  refine WD_any 9 [[], [0], [0, 1], [0, 1, 2], [], [4], [4, 5], [4, 5, 6], [0, 1, 2, 3, 4, 5, 6, 7]] [(8, PV (.int .i64 (x.cmp x')))] (by kernel_rfl) ?_ ?_ _ (by exact rfl) ?_
  · exact ⟨PV_stab, trivial⟩
  · refine ⟨?_, ?_, ?_, ?_, ?_, ?_, ?_, ?_, ?_, trivial⟩
    iterate 8 (· exact qob)
    · intro w hm
      have H := H.call hm
      iterate 8 refine qwr ?_
      refine qol ?_
      exact S_call2 _ _ (by exact rfl) (by exact rfl) (by exact rfl) (ihx (H.out 7 rfl) (H.out 3 rfl) hf.1 hf'.1) fun v w' h => h
  intro w hm
  have H := H.call hm
  iterate 8 refine qwr ?_
  refine qwl ?_; rintro _ rfl
  refine WR_nil ?_
  refine WD_rd (by kernel_rfl) rfl rfl (X_assign _) (WD_end (by decide) ?_)
  by_cases h0 : x.cmp x' = 0
  · rw [if_pos h0]
    (repeat (first | refine qq ?_ | (refine qds H ?_; intro H) | (refine qrb H ?_; intro _ w H) | (refine qrs H ?_; intro w H) | (refine qdr H ?_; intro H)))
    refine WD_any 9 [[], [0], [0, 1], [0, 1, 2], [], [4], [4, 5], [4, 5, 6], [0, 1, 2, 3, 4, 5, 6, 7]] [(8, PV (.int .i64 (y.cmp y')))] (by kernel_rfl) ?_ ?_ _ (by exact rfl) ?_
    · exact ⟨PV_stab, trivial⟩
    · refine ⟨?_, ?_, ?_, ?_, ?_, ?_, ?_, ?_, ?_, trivial⟩
      iterate 8 (· exact qob)
      · intro w hm
        have H := H.call hm
        iterate 8 refine qwr ?_
        refine qol ?_
        exact S_call2 _ _ (by exact rfl) (by exact rfl) (by exact rfl) (ihy (H.out 6 rfl) (H.out 2 rfl) hf.2 hf'.2) fun v w' h => h
    intro w hm
    have H := H.call hm
    iterate 8 refine qwr ?_
    refine qwl ?_; rintro _ rfl
    refine WR_nil ?_
    refine WD_rd (by kernel_rfl) rfl rfl (X_assign _) (WD_end (by decide) ?_)
    (repeat (first | refine qq ?_ | (refine qds H ?_; intro H) | (refine qrb H ?_; intro _ w H) | (refine qrs H ?_; intro w H) | (refine qdr H ?_; intro H)))
    exact ⟨rfl, H.mod⟩
  · rw [if_neg h0]
    (repeat (first | refine qq ?_ | (refine qds H ?_; intro H) | (refine qrb H ?_; intro _ w H) | (refine qrs H ?_; intro w H) | (refine qdr H ?_; intro H)))
    exact ⟨rfl, H.mod⟩

theorem orderTerms_c (t : T) : ∀ t' : T, OrderC t t' := by
  induction t with
  | pair x y ihx ihy =>
    intro t'
    by_cases hk : t'.kind = 4
    · obtain ⟨x', y', rfl⟩ := T.pair_of hk
      exact order_pair (ihx x') (ihy y')
    · exact order_flat (.inr hk)
  | _ => intro t'; exact order_flat (.inl (by simp [T.kind]))
set_option maxRecDepth 100000 in
theorem equalTerms_c {t t' : T} {us vs : List Value} {M M' : Nat → Prop} {w : World} (h : rdT M w t us) (h' : rdT M' w t' vs) (hf : t.fit = true) (hf' : t'.fit = true) :
    Calls Tryz.prog 138 #[.agg us.toArray, .agg vs.toArray] w (Ret fun v w' => v = .bool (t.cmp t' == 0) ∧ Mod [] w w') := by
  obtain ⟨a1, c1, rfl⟩ := rdT_four h
  obtain ⟨a2, c2, rfl⟩ := rdT_four h'
  refine enter1 Tryz.func138 rfl Tryz.ntmps138 rfl (by simp) ?_
  have H := ((Holds.start w []).arg (L := LT) h).arg (L := LT) h'
  (repeat (first | refine qq ?_ | (refine qds H ?_; intro H) | (refine qrb H ?_; intro _ w H) | (refine qrs H ?_; intro w H) | (refine qdr H ?_; intro H)))
  refine qa2 (hc := orderTerms_c t t' (H.out 1 rfl) (H.out 0 rfl) hf hf') (k := ?_)
  rintro _ w ⟨rfl, hm⟩
  have H := H.call hm
  refine WO_rd rfl (X_cmp_eql _ _ (by exact rfl) (by exact rfl)) ?_
  (repeat (first | refine qq ?_ | (refine qds H ?_; intro H) | (refine qrb H ?_; intro _ w H) | (refine qrs H ?_; intro w H) | (refine qdr H ?_; intro H)))
  exact ⟨rfl, H.mod⟩
end Go.Proofs.YtljpfnjpifhdlaaGreatDoor
namespace Go.Proofs.YtljpfnjpifhdlaaGreatDoor
open Go
/-- a new map since w1 -/
def PM (w1 : World) : Value → World → Prop := fun v w => ∃ b, v = .map (some b) ∧ MapAt b (fun _ => none) w ∧ w1.heap.size ≤ b ∧ b < w.heap.size
theorem PM_stab {w1 : World} : ∀ v w w', PM w1 v w → Mod [] w w' → PM w1 v w' := fun _ w w' ⟨b, h1, h2, h3, h4⟩ hm =>
  ⟨b, h1, (mp b fun _ => none).loc w w' (fun c hc => by simp only [mp, List.mem_singleton] at hc; subst hc; exact hm.block c h4 (by simp)) h2, h3, Nat.lt_of_lt_of_le h4 hm.size⟩
theorem S_makeMapP {P : Program} {w1 w : World} {r : Operand → Value} {d : Option Tmp} {ty : TypeId} {pos : String} {aft : Array Edge} {g : Option (Nat × Bool)} {t : TypeId} (h : w1.heap.size ≤ w.heap.size) :
    OS P ⟨d, .makeMap t none, ty, pos, aft, g⟩ r w fun v w' => PM w1 v w' ∧ Mod [] w w' :=
  S_makeMap (Holds.start w []) fun b w' H => ⟨⟨b, rfl, H.atom (a := mp b fun _ => none) (by simp), by
    rcases H.low b (by simp [owns, mp]) with h' | h'
    · exact Nat.le_trans h h'
    · simp at h', H.lt b (by simp [owns, mp])⟩, H.mod⟩
theorem Holds.got {w0 w1 w : World} {S : List Nat} {A : List Atom} {D : List Dat} {v : Value} (H : Holds w0 S A D w1) (hm : Mod [] w1 w) (h : PM w1 v w) : ∃ b, v = .map (some b) ∧ Holds w0 S (mp b (fun _ => none) :: A) D w := by
  obtain ⟨b, rfl, h2, h3, h4⟩ := h
  exact ⟨b, rfl, H.new (a := mp b fun _ => none) hm h2 (by simp [mp]) (by simpa [mp] using ⟨h4, h3⟩)⟩

section
variable {K : CB} {f : Nat}
set_option maxRecDepth 100000 in
theorem equal_vv (ih : EqC K f) {n m : Nat} : EqCt K (f + 1) (.var n) (.var m) := by
  intro s r b up' sh' us vs M w0 hs hin h h'
  change (match root s.up n with
        | none => none
        | some (x, up) => match root up m with
          | none => none
          | some (y, up) => bif Nat.beq x y then some (true, up, s.shape) else bif Nat.blt y x then joinV (equalV f) (up.set fu x y) s.shape y x else joinV (equalV f) (up.set fu y x) s.shape x y) = _ at hs
  cases hr : root s.up n with
  | none => rw [hr] at hs; cases hs
  | some q =>
    obtain ⟨x, up1⟩ := q
    rw [hr] at hs
    simp only [] at hs
    cases hr2 : root up1 m with
    | none => rw [hr2] at hs; cases hs
    | some q =>
      obtain ⟨y, up2⟩ := q
      rw [hr2] at hs
      simp only [] at hs
      have hx := root_le hr
      have hy := root_le hr2
      obtain ⟨a1, c1, rfl⟩ := rdT_var h
      obtain ⟨a2, c2, rfl⟩ := rdT_var h'
      refine enter1 Tryz.func108 rfl Tryz.ntmps108 rfl (by simp) ?_
      have H := hin.begin.add hin.cls
      (repeat (first | refine qq ?_ | (refine qds H ?_; intro H) | (refine qrb H ?_; intro _ w H) | (refine qrs H ?_; intro w H) | (refine qdr H ?_; intro H)))
      refine qa2 (hc := root_c hr (H.into (As := clA K) (ds := clD K) (A1 := [_, _]) rfl hin.1 (by simp))) (k := ?_)
      rintro _ w ⟨rfl, hout⟩
      have H := H.step (As := clA K) (A1 := [_, _]) rfl hout
      (repeat (first | refine qq ?_ | (refine qds H ?_; intro H) | (refine qrb H ?_; intro _ w H) | (refine qrs H ?_; intro w H) | (refine qdr H ?_; intro H)))
      refine qa2 (hc := root_c (s := { s with up := up1 }) hr2 (H.into (As := clA K) (ds := clD K) (A1 := [_, _]) rfl hin.1 (by simp))) (k := ?_)
      rintro _ w ⟨rfl, hout⟩
      have H := H.step (As := clA K) (A1 := [_, _]) rfl hout
      have H := H.sub (A' := clA K ({ s with up := up2 }, r)) (D' := dcells K.b 0 (clC K) :: ([] ++ (clD K (s, r)).map (Dat.wide M))) (.cons _ (.cons _ (.refl _))) (by simp)
      rw [beq_if] at hs
      by_cases hxy : x = y
      · rw [if_pos hxy] at hs
        subst hxy
        cases hs
        (repeat (first | refine qq ?_ | (refine qds H ?_; intro H) | (refine qrb H ?_; intro _ w H) | (refine qrs H ?_; intro w H) | (refine qdr H ?_; intro H)))
        exact ⟨rfl, _, H.outOf (A1 := []) (As := clA K) (ds := clD K) rfl rfl (by simp)⟩
      · rw [if_neg hxy] at hs
        (repeat (first | refine qq ?_ | (refine qds H ?_; intro H) | (refine qrb H ?_; intro _ w H) | (refine qrs H ?_; intro w H) | (refine qdr H ?_; intro H)))
        refine W_mid (fun f' w' => ∃ (g : FF) (x y : Nat), f' = sl g [(0, clP K), (7, .int .i64 x), (8, .int .i64 y)] ∧ x ≤ 100000 ∧ y ≤ 100000 ∧ joinV (equalV f) (up2.set fu y x) s.shape x y = some (b, up', sh') ∧
          Holds w0 (owns (clA K (s, r))) (clA K ({ s with up := up2 }, r)) (dcells K.b 0 (clC K) :: ([] ++ (clD K (s, r)).map (Dat.wide M))) w') ?_ ?_
        · cases hlt : Nat.blt y x with
          | true =>
            have hlt' : y < x := Nat.le_of_ble_eq_true hlt
            rw [hlt] at hs
            (repeat (first | refine qq ?_ | (refine qds H ?_; intro H) | (refine qrb H ?_; intro _ w H) | (refine qrs H ?_; intro w H) | (refine qdr H ?_; intro H)))
            exact ⟨_, y, x, sl_back ⟨rfl, rfl, rfl, trivial⟩, hy, hx, hs, H⟩
          | false =>
            have hlt' : ¬ y < x := fun h => by rw [show Nat.blt y x = true from Nat.ble_eq_true_of_le h] at hlt; cases hlt
            rw [hlt] at hs
            (repeat (first | refine qq ?_ | (refine qds H ?_; intro H) | (refine qrb H ?_; intro _ w H) | (refine qrs H ?_; intro w H) | (refine qdr H ?_; intro H)))
            exact ⟨_, x, y, sl_back ⟨rfl, rfl, rfl, trivial⟩, hx, hy, hs, H⟩
        · clear H hs hxy hx hy hr2 hr
          rintro f' w ⟨g, x, y, rfl, hx, hy, hs, H⟩
          (repeat (first | refine qq ?_ | (refine qds H ?_; intro H) | (refine qrb H ?_; intro _ w H) | (refine qrs H ?_; intro w H) | (refine qdr H ?_; intro H)))
          refine WO_n (S_mapSet H 0 _ _ _ (v := .int .i64 x) (by exact rfl) (by exact rfl) (by exact rfl) (by exact rfl) ?_); intro w H
          have H := H.re (A' := clA K ({ s with up := up2.set fu y x }, r)) (by rw [put_num hy]; rfl)
          have hdt := H.dat (d := Dat.wide M (DT s.shape.get r.sv)) (by simp)
          unfold joinV at hs
          cases hsy : s.shape.get y with
          | none =>
            rw [hsy] at hs
            have hny : truG r.sv y = none := by simp [truG, DT_none hdt hsy]
            cases hsx : s.shape.get x with
            | none =>
              rw [hsx] at hs
              cases hs
              have hnx : truG r.sv x = none := by simp [truG, DT_none hdt hsx]
              (repeat (first | refine qq ?_ | (refine qds H ?_; intro H) | (refine qrb H ?_; intro _ w H) | (refine qrs H ?_; intro w H) | (refine qdr H ?_; intro H)))
              exact ⟨rfl, _, H.outOf (A1 := []) (As := clA K) (ds := clD K) rfl rfl (by simp)⟩
            | some sx =>
              rw [hsx] at hs
              simp only [reachV] at hs
              cases hre : reaches 100 s.shape sx x (up2.set fu y x, .leaf) with
              | none => rw [hre] at hs; cases hs
              | some q =>
                obtain ⟨b1, up3, seen3⟩ := q
                rw [hre] at hs
                simp only [Option.some.injEq, Prod.mk.injEq] at hs
                obtain ⟨rfl, rfl, rfl⟩ := hs
                obtain ⟨ws, hv, hrd⟩ := DT_some hdt hsx
                have hnx : truG r.sv x = some (.bool true) := by simp [truG, hv]
                have H := H.add (d := LT.dat M sx ws) hrd
                (repeat (first | refine qq ?_ | (refine qds H ?_; intro H) | (refine qrb H ?_; intro _ w H) | (refine qrs H ?_; intro w H) | (refine qdr H ?_; intro H)))
                refine WO_g rfl rfl (by exact rfl) (S_makeMap H ?_); intro bs w H
                have H := H.re (A' := rA K s r bs (up2.set fu y x, .leaf)) rfl
                refine WO_g rfl rfl (by exact rfl) (S_call4 _ _ _ _ (by exact rfl) (by exact rfl) (by exact rfl) (by exact rfl) (by exact rfl) (reaches_c (s := s) (r := r) 100 hre (H.into (As := rA K s r bs) (ds := rD K s r) (A1 := []) rfl hin.1 (by simp)) (H.dat (d := LT.dat M sx _) (by simp))) ?_)
                rintro _ w ⟨rfl, hout⟩
                have H := H.step (As := rA K s r bs) (A1 := []) rfl hout
                (repeat (first | refine qq ?_ | (refine qds H ?_; intro H) | (refine qrb H ?_; intro _ w H) | (refine qrs H ?_; intro w H) | (refine qdr H ?_; intro H)))
                exact ⟨rfl, r, H.outOf (A1 := [_]) (As := clA K) (ds := clD K) rfl rfl (by simp)⟩
          | some t =>
            rw [hsy] at hs
            obtain ⟨ts, hvt, hrt⟩ := DT_some hdt hsy
            obtain ⟨a3, c3, rfl⟩ := rdT_four hrt
            have hny : truG r.sv y = some (.bool true) := by simp [truG, hvt]
            have H := H.add (d := LT.dat M t _) hrt
            cases hsx : s.shape.get x with
            | none =>
              rw [hsx] at hs
              have hnx : truG r.sv x = none := by simp [truG, DT_none hdt hsx]
              (repeat (first | refine qq ?_ | (refine qds H ?_; intro H) | (refine qrb H ?_; intro _ w H) | (refine qrs H ?_; intro w H) | (refine qdr H ?_; intro H)))
              refine qa3 (hc := know_c (s := { s with up := up2.set fu y x }) hs hx (H.into (As := clA K) (ds := clD K) (A1 := [_]) rfl hin.1 (by simp)) (H.dat (d := LT.dat M t [.int .i64 t.kind, .int .i64 t.int, .string t.name, .slice a3 t.args.length c3]) (by simp))) (k := ?_)
              rintro _ w ⟨rfl, r1, hout⟩
              have H := H.step (As := clA K) (A1 := [_]) rfl hout
              (repeat (first | refine qq ?_ | (refine qds H ?_; intro H) | (refine qrb H ?_; intro _ w H) | (refine qrs H ?_; intro w H) | (refine qdr H ?_; intro H)))
              exact ⟨rfl, _, H.outOf (A1 := [_]) (As := clA K) (ds := clD K) rfl rfl (by simp)⟩
            | some sx =>
              rw [hsx] at hs
              obtain ⟨ws, hv, hrd⟩ := DT_some hdt hsx
              have hnx : truG r.sv x = some (.bool true) := by simp [truG, hv]
              have H := H.add (d := LT.dat M sx ws) hrd
              (repeat (first | refine qq ?_ | (refine qds H ?_; intro H) | (refine qrb H ?_; intro _ w H) | (refine qrs H ?_; intro w H) | (refine qdr H ?_; intro H)))
              have H := H.frz (xs := [.int .i64 t.kind, .int .i64 t.int, .string t.name, .slice a3 t.args.length c3]) hin.1 0 rfl (fun b h => h)
              have H1 := H
              have stab3 := PM_stab (w1 := w.drew)
              refine WD_any 4 [[], [], [], []] [(3, PM w.drew)] (by kernel_rfl) ?_ ?_ _ (by exact rfl) ?_
              · exact ⟨stab3, trivial⟩
              · refine ⟨?_, ?_, ?_, ?_, trivial⟩
                iterate 3 (· exact qob)
                · intro w hm
                  have H := H.call hm
                  refine qol ?_
                  exact S_makeMapP hm.size
              intro w hm
              have H := H.call hm
              iterate 3 refine qwr ?_
              refine qwl ?_; intro v3 h3
              refine WR_nil ?_
              obtain ⟨bs, rfl, H⟩ := H1.got hm h3
              have H := H.re (A' := rA K s r bs (up2.set fu y x, .leaf)) rfl
              simp only [reachV] at hs
              cases hre : reaches 100 s.shape t x (up2.set fu y x, .leaf) with
              | none => rw [hre] at hs; cases hs
              | some q =>
                obtain ⟨b1, up3, seen3⟩ := q
                rw [hre] at hs
                simp only [] at hs
                refine WD_s (by kernel_rfl) rfl rfl (S_call4 _ _ _ _ (by exact rfl) (by exact rfl) (by exact rfl) (by exact rfl) (by exact rfl) (reaches_c (s := s) (r := r) 100 hre (H.into (As := rA K s r bs) (ds := rD K s r) (A1 := []) rfl hin.1 (by simp)) (H.dat (d := LT.dat M t [.int .i64 t.kind, .int .i64 t.int, .string t.name, .slice a3 t.args.length c3]) (by simp))) ?_)
                rintro _ w ⟨rfl, hout⟩
                have H := H.step (As := rA K s r bs) (A1 := []) rfl hout
                have H := H.sub (A' := clA K ({ s with up := up3 }, r)) (.cons _ (.refl _)) (fun _ h => h)
                refine WD_rd (by kernel_rfl) rfl rfl (X_not _ (by exact rfl)) ?_
                refine WD_rd (by kernel_rfl) rfl rfl (X_move _) ?_
                cases b1 with
                | true =>
                  cases hs
                  have stab15 := PM_stab (w1 := w)
                  refine WD_any 16 [[], [], [8], [8, 9], [8, 9, 10], [], [8, 9, 10, 11, 12], [], []] [(15, PM w)] (by kernel_rfl) ?_ ?_ _ (by exact rfl) ?_
                  · exact ⟨stab15, trivial⟩
                  · refine ⟨?_, ?_, ?_, ?_, ?_, ?_, ?_, ?_, ?_, trivial⟩
                    iterate 8 (· exact qob)
                    · intro w hm
                      have H := H.call hm
                      first | exact qon | skip
                      all_goals
                        refine qol ?_
                        exact S_makeMapP hm.size
                  intro w hm
                  have H := H.call hm
                  iterate 8 (first | refine qwn ?_ | refine qwg ?_)
                  (first | refine qwn ?_ | (refine qwlg ?_; intro v15 h15))
                  refine WR_nil ?_
                  refine WD_not (by kernel_rfl) rfl rfl rfl rfl (by exact rfl) ?_
                  refine WD_not (by kernel_rfl) rfl rfl rfl rfl (by exact rfl) ?_
                  refine WD_rd (by kernel_rfl) rfl rfl (X_pickF _ _ _ (by exact rfl)) ?_
                  refine WD_rd (by kernel_rfl) rfl rfl (X_move _) ?_
                  refine WD_any 28 [[], [], [21], [21, 22], [21, 22, 23], [], [21, 22, 23, 24, 25], []] [] (by kernel_rfl) ?_ ?_ _ (by exact rfl) ?_
                  · exact trivial
                  · refine ⟨?_, ?_, ?_, ?_, ?_, ?_, ?_, ?_, trivial⟩
                    iterate 8 (· exact qob)
                  intro w hm
                  have H := H.call hm
                  iterate 8 (first | refine qwn ?_ | refine qwg ?_)
                  refine WR_nil ?_
                  refine WD_not (by kernel_rfl) rfl rfl rfl rfl (by exact rfl) ?_
                  refine WD_rd (by kernel_rfl) rfl rfl (X_pickF _ _ _ (by exact rfl)) ?_
                  refine WD_rd (by kernel_rfl) rfl rfl (X_assign _) (WD_end (by decide) ?_)
                  (repeat (first | refine qq ?_ | (refine qds H ?_; intro H) | (refine qrb H ?_; intro _ w H) | (refine qrs H ?_; intro w H) | (refine qdr H ?_; intro H)))
                  exact ⟨rfl, _, H.outOf (A1 := []) (As := clA K) (ds := clD K) rfl rfl (by simp)⟩
                | false =>
                  change (match (match reaches 100 s.shape sx x (up3, .leaf) with
                    | none => none
                    | some (b, up, _) => some (b, up)) with
                    | none => none
                    | some (true, up) => some (false, up, s.shape)
                    | some (false, up) => equalV f up s.shape sx t) = _ at hs
                  have H1 := H
                  have stab15 := PM_stab (w1 := w)
                  refine WD_any 16 [[], [], [8], [8, 9], [8, 9, 10], [], [8, 9, 10, 11, 12], [], []] [(15, PM w)] (by kernel_rfl) ?_ ?_ _ (by exact rfl) ?_
                  · exact ⟨stab15, trivial⟩
                  · refine ⟨?_, ?_, ?_, ?_, ?_, ?_, ?_, ?_, ?_, trivial⟩
                    iterate 8 (· exact qob)
                    · intro w hm
                      have H := H.call hm
                      first | exact qon | skip
                      all_goals
                        refine qol ?_
                        exact S_makeMapP hm.size
                  intro w hm
                  have H := H.call hm
                  iterate 8 (first | refine qwn ?_ | refine qwg ?_)
                  (first | refine qwn ?_ | (refine qwlg ?_; intro v15 h15))
                  refine WR_nil ?_
                  obtain ⟨bs2, rfl, H⟩ := H1.got hm h15
                  have H := H.re (A' := rA K s r bs2 (up3, .leaf)) rfl
                  cases hre2 : reaches 100 s.shape sx x (up3, .leaf) with
                  | none => rw [hre2] at hs; cases hs
                  | some q =>
                    obtain ⟨b2, up4, seen4⟩ := q
                    rw [hre2] at hs
                    refine WD_want (by kernel_rfl) rfl rfl rfl rfl (by exact rfl) (S_call4 _ _ _ _ (by exact rfl) (by exact rfl) (by exact rfl) (by exact rfl) (by exact rfl) (reaches_c (s := s) (r := r) 100 hre2 (H.into (As := rA K s r bs2) (ds := rD K s r) (A1 := []) rfl hin.1 (by simp)) (H.dat (d := LT.dat M sx ws) (by simp))) ?_)
                    rintro _ w ⟨rfl, hout⟩
                    have H := H.step (As := rA K s r bs2) (A1 := []) rfl hout
                    have H := H.sub (A' := clA K ({ s with up := up4 }, r)) (.cons _ (.refl _)) (fun _ h => h)
                    cases b2 with
                    | true =>
                      cases hs
                      refine WD_want (by kernel_rfl) rfl rfl rfl rfl (by exact rfl) (S_read (X_not _ (by exact rfl)) ?_)
                      refine WD_rd (by kernel_rfl) rfl rfl (X_pickT _ _ _ (by exact rfl)) ?_
                      refine WD_rd (by kernel_rfl) rfl rfl (X_move _) ?_
                      refine WD_any 28 [[], [], [21], [21, 22], [21, 22, 23], [], [21, 22, 23, 24, 25], []] [] (by kernel_rfl) ?_ ?_ _ (by exact rfl) ?_
                      · exact trivial
                      · refine ⟨?_, ?_, ?_, ?_, ?_, ?_, ?_, ?_, trivial⟩
                        iterate 8 (· exact qob)
                      intro w hm
                      have H := H.call hm
                      iterate 8 (first | refine qwn ?_ | refine qwg ?_)
                      refine WR_nil ?_
                      refine WD_not (by kernel_rfl) rfl rfl rfl rfl (by exact rfl) ?_
                      refine WD_rd (by kernel_rfl) rfl rfl (X_pickF _ _ _ (by exact rfl)) ?_
                      refine WD_rd (by kernel_rfl) rfl rfl (X_assign _) (WD_end (by decide) ?_)
                      (repeat (first | refine qq ?_ | (refine qds H ?_; intro H) | (refine qrb H ?_; intro _ w H) | (refine qrs H ?_; intro w H) | (refine qdr H ?_; intro H)))
                      exact ⟨rfl, _, H.outOf (A1 := []) (As := clA K) (ds := clD K) rfl rfl (by simp)⟩
                    | false =>
                      change equalV f up4 s.shape sx t = _ at hs
                      refine WD_want (by kernel_rfl) rfl rfl rfl rfl (by exact rfl) (S_read (X_not _ (by exact rfl)) ?_)
                      refine WD_rd (by kernel_rfl) rfl rfl (X_pickT _ _ _ (by exact rfl)) ?_
                      refine WD_rd (by kernel_rfl) rfl rfl (X_move _) ?_
                      refine WD_any 28 [[], [], [21], [21, 22], [21, 22, 23], [], [21, 22, 23, 24, 25], []] [] (by kernel_rfl) ?_ ?_ _ (by exact rfl) ?_
                      · exact trivial
                      · refine ⟨?_, ?_, ?_, ?_, ?_, ?_, ?_, ?_, trivial⟩
                        iterate 8 (· exact qob)
                      intro w hm
                      have H := H.call hm
                      iterate 8 (first | refine qwn ?_ | refine qwg ?_)
                      refine WR_nil ?_
                      refine WD_want (by kernel_rfl) rfl rfl rfl rfl (by exact rfl) (S_call3 _ _ _ (by exact rfl) (by exact rfl) (by exact rfl) (by exact rfl) (ih (s := { s with up := up4 }) (r := r) hs (H.into (As := clA K) (ds := clD K) (A1 := []) rfl hin.1 (by simp)) (H.dat (d := LT.dat M sx ws) (by simp)) (H.dat (d := LT.dat M t [.int .i64 t.kind, .int .i64 t.int, .string t.name, .slice a3 t.args.length c3]) (by simp))) ?_)
                      rintro _ w ⟨rfl, r1, hout⟩
                      have H := H.step (As := clA K) (A1 := []) rfl hout
                      refine WD_rd (by kernel_rfl) rfl rfl (X_pickT _ _ _ (by exact rfl)) ?_
                      refine WD_rd (by kernel_rfl) rfl rfl (X_assign _) (WD_end (by decide) ?_)
                      (repeat (first | refine qq ?_ | (refine qds H ?_; intro H) | (refine qrb H ?_; intro _ w H) | (refine qrs H ?_; intro w H) | (refine qdr H ?_; intro H)))
                      exact ⟨rfl, _, H.outOf (A1 := []) (As := clA K) (ds := clD K) rfl rfl (by simp)⟩
theorem equal_at (ih : EqC K f) (t t' : T) : EqCt K (f + 1) t t' := by
  by_cases h1 : t.kind = 1
  · obtain ⟨n, rfl⟩ : ∃ n, t = .var n := by cases t <;> first | exact ⟨_, rfl⟩ | cases h1
    by_cases h2 : t'.kind = 1
    · obtain ⟨m, rfl⟩ : ∃ n, t' = .var n := by cases t' <;> first | exact ⟨_, rfl⟩ | cases h2
      exact equal_vv ih
    · exact equal_vt ih h2
  · by_cases h2 : t'.kind = 1
    · obtain ⟨m, rfl⟩ : ∃ n, t' = .var n := by cases t' <;> first | exact ⟨_, rfl⟩ | cases h2
      exact equal_tv ih h1
    · by_cases h4 : t.kind = 4 ∧ t'.kind = 4
      · obtain ⟨x, y, rfl⟩ := T.pair_of h4.1
        obtain ⟨x', y', rfl⟩ := T.pair_of h4.2
        exact equal_pp ih
      · exact equal_ff h1 h2 (by omega)
theorem equal_c (f : Nat) : EqC K f := by
  induction f with
  | zero => intro s r t t' b up' sh' us vs M w hs; cases hs
  | succ f ih => intro s r t t' b up' sh' us vs M w hs hin h h'; exact equal_at ih t t' hs hin h h'
end
end Go.Proofs.YtljpfnjpifhdlaaGreatDoor
namespace Go.Proofs.YtljpfnjpifhdlaaGreatDoor
open Go
abbrev WS := Tr Nat × Tr Nat × Tr Nat
def weighV : Nat → Tr T → Nat → WS → Option (Bool × WS)
  | 0, _, _, _ => none
  | f + 1, sh, x, (up, color, size) => match color.get x with
    | some c => bif Nat.beq c 2 then some (true, up, color, size) else bif Nat.beq c 1 then some (false, up, color, size) else none
    | none => match sh.get x with
      | none => some (true, up, (color.set fu x 1).set fu x 2, size.set fu x 1)
      | some t => match eachV (fun v (fine, up, color, size) => bif fine then (match root up v with
            | none => none
            | some (r, up) => weighV f sh r (up, color, size)) else some (false, up, color, size)) t (true, up, color.set fu x 1, size.set fu x 1) with
        | none => none
        | some (false, q) => some (false, q)
        | some (true, up, color, size) => match sizeV (fun v up => match root up v with
              | none => none
              | some (r, up) => some ((size.get r).getD 0, up)) t up with
          | none => none
          | some (k, up) => some (true, up, color.set fu x 2, size.set fu x k)
def weighS (f : Nat) (sh : Tr T) : Nat → Bool × WS → Option (Bool × WS) := fun v (fine, up, color, size) => bif fine then (match root up v with
            | none => none
            | some (r, up) => weighV f sh r (up, color, size)) else some (false, up, color, size)
def weighN (size : Tr Nat) : Nat → Tr Nat → Option (Nat × Tr Nat) := fun v up => match root up v with
              | none => none
              | some (r, up) => some ((size.get r).getD 0, up)
/-- behind a call that works on a state, and before it: what of the state's atoms does not turn -/
theorem Holds.pastB {σ : Type} {As : σ → List Atom} {ds : σ → List Dat} {M : Nat → Prop} {s : σ} {w0 w w' : World} {S : List Nat} {A A1 B : List Atom} {D : List Dat} (H : Holds w0 S A D w) (hA : A = A1 ++ As s) (hB : ∀ s, B.Sublist (As s)) {p : Value → World → Prop}
    (hp : ∀ u w', p u w' → ∃ s1, Out As ds (fun b => M b ∨ b ∈ owns A) s s1 w w') (h : w' = w ∨ ∃ u, p u w') : Holds w0 S (A1 ++ B) D w' := by
  rcases h with rfl | ⟨u, hu⟩
  · exact H.sub (by rw [hA]; exact (List.Sublist.refl A1).append (hB s)) (fun _ h => h)
  · obtain ⟨s1, hout⟩ := hp u w' hu
    exact (H.step hA hout).sub ((List.Sublist.refl A1).append (hB s1)) (fun _ h => List.mem_append.2 (.inl h))
section
variable {K : CB} {s : CS} {r : CR}
abbrev wA (K : CB) (s : CS) (r : CR) (p : WS) : List Atom := clA K ({ s with up := p.1, color := p.2.1, size := p.2.2 }, r)
abbrev wD (K : CB) (s : CS) (r : CR) (p : WS) : List Dat := clD K ({ s with up := p.1, color := p.2.1, size := p.2.2 }, r)
abbrev w1A (K : CB) (s : CS) (r : CR) (b5 : Nat) (p : Bool × WS) : List Atom := box b5 [.bool p.1] 4 :: wA K s r p.2
abbrev w1D (K : CB) (s : CS) (r : CR) (b2 : Nat) (p : Bool × WS) : List Dat := dcells b2 0 [clP K] :: wD K s r p.2
/-- what weigh does with the fuel f -/
abbrev WeighC (K : CB) (s : CS) (r : CR) (f : Nat) : Prop := ∀ {x : Nat} {p p' : WS} {b : Bool} {M : Nat → Prop} {w : World}, weighV f s.shape x p = some (b, p') → x ≤ 100000 →
  In (wA K s r) (wD K s r) M p w → Calls Tryz.prog 136 #[clP K, .int .i64 x] w (Ret fun v w' => v = .bool b ∧ Out (wA K s r) (wD K s r) M p p' w w')

set_option maxRecDepth 100000 in
theorem weigh2_c (color size : Tr Nat) (b2 : Nat) : StepN 159 #[.pointer (some ⟨b2, 0, none⟩)] (fun up => wA K s r (up, color, size)) (fun up => dcells b2 0 [clP K] :: wD K s r (up, color, size)) (weighN size) := by
  intro n k up up' w M hs hin
  unfold weighN at hs
  cases hr : root up n with
  | none => rw [hr] at hs; cases hs
  | some q =>
    obtain ⟨y, up1⟩ := q
    rw [hr] at hs
    simp only [Option.some.injEq, Prod.mk.injEq] at hs
    obtain ⟨rfl, rfl⟩ := hs
    show Calls _ _ #[.int .i64 n, .pointer (some ⟨b2, 0, none⟩)] _ _
    refine enter1 Tryz.func159 rfl Tryz.ntmps159 rfl (by simp) ?_
    obtain ⟨h1, h2, h3⟩ := hin.2.2.2 (dcells b2 0 [clP K]) (by simp)
    obtain ⟨h10, h11, h12⟩ := hin.2.2.2 (dcells K.b 0 (clC K)) (by simp)
    have H := (hin.begin.add (hin.cells h1 h2 h3)).add (hin.cells h10 h11 h12)
    (repeat (first | refine qq ?_ | (refine qds H ?_; intro H) | (refine qrb H ?_; intro _ w H) | (refine qrs H ?_; intro w H) | (refine qdr H ?_; intro H)))
    have Hp : ∀ w', (w' = _ ∨ ∃ u, (fun v w' => v = .int .i64 y ∧ Out (clA K) (clD K) (H.wr M) ({ s with up := up, color := color, size := size }, r) ({ s with up := up1, color := color, size := size }, r) w.drew w' : Value → World → Prop) u w') → _ := fun w' h => H.past (p := (fun v w' => v = .int .i64 y ∧ Out (clA K) (clD K) (H.wr M) ({ s with up := up, color := color, size := size }, r) ({ s with up := up1, color := color, size := size }, r) w.drew w')) (A1 := []) rfl (fun _ _ h => h.2.1) h
    refine WD_one_mut 7 6 [[], [0], [0, 1], [0, 1, 2], [], [], [4, 5]] (fun v w' => v = .int .i64 y ∧ Out (clA K) (clD K) (H.wr M) ({ s with up := up, color := color, size := size }, r) ({ s with up := up1, color := color, size := size }, r) w.drew w') (by kernel_rfl) ?_ _ (by exact rfl) ?_
    · refine ⟨?_, ?_, ?_, ?_, ?_, ?_, ?_, trivial⟩
      iterate 6 (· exact qom)
      · intro _ _
        refine qwm ?_
        refine qwm ?_
        refine OM_x rfl ?_
        exact S_call2 _ _ (by exact rfl) (by exact rfl) (by exact rfl) (root_c (s := { s with up := up, color := color, size := size }) (r := r) hr (H.into (As := clA K) (ds := clD K) (A1 := []) rfl hin.1 (by simp))) fun v w' h => h
    intro w' _
    iterate 6 refine qwm ?_
    refine qwx ?_; intro v6 h6
    refine WM_nil ?_
    obtain ⟨rfl, hout⟩ := h6
    have ho := hout.2.2.1
    have H := H.step (As := clA K) (A1 := []) rfl hout
    have hz : (numG size y).getD (.int .i64 0) = .int .i64 ((size.get y).getD 0 : Nat) := by unfold numG; cases size.get y <;> rfl
    refine WD_rd (by kernel_rfl) rfl rfl (X_look H _ _ (by exact rfl) (by exact rfl) (n := y) (gm := numG size) (by repeat (first | exact List.Mem.head _ | apply List.Mem.tail))) ?_
    refine WD_rd (by kernel_rfl) rfl rfl (X_assign _) (WD_end (by decide) ?_)
    (repeat (first | refine qq ?_ | (refine qds H ?_; intro H) | (refine qrb H ?_; intro _ w H) | (refine qrs H ?_; intro w H) | (refine qdr H ?_; intro H)))
    exact ⟨hz, H.outOf (A1 := []) (As := fun up => wA K s r (up, color, size)) (ds := fun up => dcells b2 0 [clP K] :: wD K s r (up, color, size)) rfl ho (by simp)⟩
set_option maxRecDepth 100000 in
theorem weigh1_c {f : Nat} (ih : WeighC K s r f) (b5 b2 : Nat) : StepC 158 #[.pointer (some ⟨b5, 0, none⟩), .pointer (some ⟨b2, 0, none⟩)] (w1A K s r b5) (w1D K s r b2) (weighS f s.shape) := by
  rintro n ⟨fine, up, color, size⟩ p' w M hs hin
  show Calls _ _ #[.int .i64 n, .pointer (some ⟨b5, 0, none⟩), .pointer (some ⟨b2, 0, none⟩)] _ _
  refine enter0 Tryz.func158 rfl Tryz.ntmps158 rfl (by simp) ?_
  obtain ⟨h1, h2, h3⟩ := hin.2.2.2 (dcells b2 0 [clP K]) (by simp)
  have H := hin.begin.add (hin.cells h1 h2 h3)
  unfold weighS at hs
  simp only [] at hs
  (repeat (first | refine qq ?_ | (refine qds H ?_; intro H) | (refine qrb H ?_; intro _ w H) | (refine qrs H ?_; intro w H) | (refine qdr H ?_; intro H)))
  refine WD_rd (by kernel_rfl) rfl rfl (X_loadB H _ (by exact rfl) (by repeat (first | exact List.Mem.head _ | apply List.Mem.tail)) (by exact rfl)) ?_
  refine WD_rd (by kernel_rfl) rfl rfl (X_move _) ?_
  cases fine with
  | false =>
    cases hs
    refine WD_any 6 [[], [], [], [3, 4]] [(5, PV (.int .i64 0))] (by kernel_rfl) ?_ ?_ _ (by exact rfl) ?_
    · exact ⟨PV_stab, trivial⟩
    · refine ⟨?_, ?_, ?_, ?_, trivial⟩
      iterate 3 (· exact qob)
      · intro w hm
        have H := H.call hm
        (first | refine qwn ?_ | refine qwg ?_)
        (first | refine qwn ?_ | refine qwg ?_)
        first | exact qon | skip
        all_goals
          refine qol ?_
          skip
    intro w hm
    have H := H.call hm
    iterate 3 (first | refine qwn ?_ | refine qwg ?_)
    (first | refine qwn ?_ | (refine qwlg ?_; rintro _ rfl))
    refine WR_nil ?_
    refine WD_not (by kernel_rfl) rfl rfl rfl rfl (by exact rfl) ?_
    refine WD_not (by kernel_rfl) rfl rfl rfl rfl (by exact rfl) ?_
    refine WD_rd (by kernel_rfl) rfl rfl (X_pickF _ _ _ (by exact rfl)) (WD_end (by decide) ?_)
    (repeat (first | refine qq ?_ | (refine qds H ?_; intro H) | (refine qrb H ?_; intro _ w H) | (refine qrs H ?_; intro w H) | (refine qdr H ?_; intro H)))
    exact H.outOf (A1 := []) (As := w1A K s r b5) (ds := w1D K s r b2) rfl rfl (by simp)
  | true =>
    simp only [cond_true] at hs
    cases hr : root up n with
    | none => rw [hr] at hs; cases hs
    | some q =>
      obtain ⟨y, up1⟩ := q
      rw [hr] at hs
      simp only [] at hs
      have Hp : ∀ w', (w' = _ ∨ ∃ u, (fun v w' => v = .int .i64 y ∧ Out (clA K) (clD K) (H.wr M) ({ s with up := up, color := color, size := size }, r) ({ s with up := up1, color := color, size := size }, r) w.drew w' : Value → World → Prop) u w') → _ := fun w' h => H.past (p := (fun v w' => v = .int .i64 y ∧ Out (clA K) (clD K) (H.wr M) ({ s with up := up, color := color, size := size }, r) ({ s with up := up1, color := color, size := size }, r) w.drew w')) (A1 := [_]) rfl (fun _ _ h => h.2.1) h
      refine WD_one_mut 6 5 [[], [], [], [3, 4]] (fun v w' => v = .int .i64 y ∧ Out (clA K) (clD K) (H.wr M) ({ s with up := up, color := color, size := size }, r) ({ s with up := up1, color := color, size := size }, r) w.drew w') (by kernel_rfl) ?_ _ (by exact rfl) ?_
      · refine ⟨?_, ?_, ?_, ?_, trivial⟩
        iterate 3 (· exact qom)
        · intro _ _
          refine qwmg ?_
          refine qwmg ?_
          refine OM_x rfl ?_
          exact S_call2 _ _ (by exact rfl) (by exact rfl) (by exact rfl) (root_c (s := { s with up := up, color := color, size := size }) (r := r) hr (H.into (As := clA K) (ds := clD K) (A1 := [_]) rfl hin.1 (by simp))) fun v w' h => h
      intro w' _
      iterate 3 refine qwmg ?_
      refine qwxg ?_; intro v5 h5
      refine WM_nil ?_
      obtain ⟨rfl, hout⟩ := h5
      have H := H.step (As := clA K) (A1 := [_]) rfl hout
      obtain ⟨⟨b', q⟩, rfl⟩ : ∃ q, p' = q := ⟨_, rfl⟩
      refine WD_want (by kernel_rfl) rfl rfl rfl rfl (by exact rfl) (S_call2 _ _ (by exact rfl) (by exact rfl) (by exact rfl) (ih hs (root_le hr) (H.into (As := wA K s r) (ds := wD K s r) (A1 := [_]) rfl hin.1 (by simp))) ?_)
      rintro _ w ⟨rfl, hout⟩
      have H := H.step (As := wA K s r) (A1 := [_]) rfl hout
      refine WD_want (by kernel_rfl) rfl rfl rfl rfl (by exact rfl) (S_read (X_not _ (by exact rfl)) ?_)
      refine WD_rd (by kernel_rfl) rfl rfl (X_pickT _ _ _ (by exact rfl)) (WD_end (by decide) ?_)
      cases b' with
      | true =>
        (repeat (first | refine qq ?_ | (refine qds H ?_; intro H) | (refine qrb H ?_; intro _ w H) | (refine qrs H ?_; intro w H) | (refine qdr H ?_; intro H)))
        exact H.outOf (A1 := []) (As := w1A K s r b5) (ds := w1D K s r b2) rfl rfl (by simp)
      | false =>
        (repeat (first | refine qq ?_ | (refine qds H ?_; intro H) | (refine qrb H ?_; intro _ w H) | (refine qrs H ?_; intro w H) | (refine qdr H ?_; intro H)))
        exact H.outOf (A1 := []) (As := w1A K s r b5) (ds := w1D K s r b2) rfl rfl (by simp)

theorem weighV_some {f : Nat} {sh : Tr T} {x : Nat} {up color size : Tr Nat} {t : T} (hc : color.get x = none) (hsh : sh.get x = some t) : weighV (f + 1) sh x (up, color, size) =
    match eachV (weighS f sh) t (true, up, color.set fu x 1, size.set fu x 1) with
        | none => none
        | some (false, q) => some (false, q)
        | some (true, up, color, size) => match sizeV (weighN size) t up with
          | none => none
          | some (k, up) => some (true, up, color.set fu x 2, size.set fu x k) := by
  unfold weighV
  simp only [hc, hsh]
  rfl
theorem weighV_flat {f : Nat} {sh : Tr T} {x : Nat} {up color size : Tr Nat} (hc : color.get x = none) (hsh : sh.get x = none) : weighV (f + 1) sh x (up, color, size) = some (true, up, (color.set fu x 1).set fu x 2, size.set fu x 1) := by
  unfold weighV
  simp only [hc, hsh]
theorem weighV_seen {f c : Nat} {sh : Tr T} {x : Nat} {up color size : Tr Nat} (hc : color.get x = some c) : weighV (f + 1) sh x (up, color, size) = if c = 2 then some (true, up, color, size) else if c = 1 then some (false, up, color, size) else none := by
  unfold weighV
  simp only [hc, beq_if]

set_option maxRecDepth 100000 in
theorem weigh_c (f : Nat) : WeighC K s r f := by
  induction f with
  | zero => intro x p p' b M w hs; cases hs
  | succ f ih =>
    rintro x ⟨up, color, size⟩ p' b M w hs hx hin
    refine enter1 Tryz.func136 rfl Tryz.ntmps136 rfl (by simp) ?_
    obtain ⟨h10, h11, h12⟩ := hin.2.2.2 (dcells K.b 0 (clC K)) (by simp)
    have H := hin.begin.add (hin.cells h10 h11 h12)
    refine W_rs ?_
    refine qrb H ?_; intro b2 w H
    cases hc : color.get x with
    | some c =>
      have hn := num_some hc
      rw [weighV_seen hc] at hs
      by_cases h2 : c = 2
      · rw [if_pos h2] at hs; cases hs; subst h2
        (repeat (first | refine qq ?_ | (refine qds H ?_; intro H) | (refine qrb H ?_; intro _ w H) | (refine qrs H ?_; intro w H) | (refine qdr H ?_; intro H)))
        exact ⟨rfl, H.outOf (A1 := [_]) (As := wA K s r) (ds := wD K s r) rfl rfl (by simp)⟩
      · rw [if_neg h2] at hs
        by_cases h1 : c = 1
        · rw [if_pos h1] at hs; cases hs; subst h1
          (repeat (first | refine qq ?_ | (refine qds H ?_; intro H) | (refine qrb H ?_; intro _ w H) | (refine qrs H ?_; intro w H) | (refine qdr H ?_; intro H)))
          exact ⟨rfl, H.outOf (A1 := [_]) (As := wA K s r) (ds := wD K s r) rfl rfl (by simp)⟩
        · rw [if_neg h1] at hs; cases hs
    | none =>
      have hn := num_none hc
      (repeat (first | refine qq ?_ | (refine qds H ?_; intro H) | (refine qrb H ?_; intro _ w H) | (refine qrs H ?_; intro w H) | (refine qdr H ?_; intro H)))
      refine WO_n (S_mapSet H 4 _ _ _ (v := .int .i64 ((1 : Nat) : Int)) (by exact rfl) (by exact rfl) (by exact rfl) (by exact rfl) ?_); intro w H
      have H := H.re (A' := _ :: wA K s r (up, color.set fu x 1, size)) (by rw [put_num hx]; rfl)
      (repeat (first | refine qq ?_ | (refine qds H ?_; intro H) | (refine qrb H ?_; intro _ w H) | (refine qrs H ?_; intro w H) | (refine qdr H ?_; intro H)))
      refine WO_n (S_mapSet H 5 _ _ _ (v := .int .i64 ((1 : Nat) : Int)) (by exact rfl) (by exact rfl) (by exact rfl) (by exact rfl) ?_); intro w H
      have H := H.re (A' := _ :: wA K s r (up, color.set fu x 1, size.set fu x 1)) (by rw [put_num hx]; rfl)
      cases hsh : s.shape.get x with
      | none =>
        rw [weighV_flat hc hsh] at hs
        cases hs
        have hn2 : truG r.sv x = none := by simp [truG, DT_none (H.dat (d := Dat.wide M (DT s.shape.get r.sv)) (by simp)) hsh]
        (repeat (first | refine qq ?_ | (refine qds H ?_; intro H) | (refine qrb H ?_; intro _ w H) | (refine qrs H ?_; intro w H) | (refine qdr H ?_; intro H)))
        refine WO_n (S_mapSet H 4 _ _ _ (v := .int .i64 ((2 : Nat) : Int)) (by exact rfl) (by exact rfl) (by exact rfl) (by exact rfl) ?_); intro w H
        have H := H.re (A' := _ :: wA K s r (up, (color.set fu x 1).set fu x 2, size.set fu x 1)) (by rw [put_num hx]; rfl)
        (repeat (first | refine qq ?_ | (refine qds H ?_; intro H) | (refine qrb H ?_; intro _ w H) | (refine qrs H ?_; intro w H) | (refine qdr H ?_; intro H)))
        exact ⟨rfl, H.outOf (A1 := [_]) (As := wA K s r) (ds := wD K s r) rfl rfl (by simp)⟩
      | some t =>
        obtain ⟨vs, hv, hrd⟩ := DT_some (H.dat (d := Dat.wide M (DT s.shape.get r.sv)) (by simp)) hsh
        have hn2 : truG r.sv x = some (.bool true) := by simp [truG, hv]
        have H := H.add (d := LT.dat M t vs) hrd
        rw [weighV_some hc hsh] at hs
        cases he : eachV (weighS f s.shape) t (true, up, color.set fu x 1, size.set fu x 1) with
        | none => rw [he] at hs; cases hs
        | some q =>
          obtain ⟨fine, up1, color1, size1⟩ := q
          rw [he] at hs
          (repeat (first | refine qq ?_ | (refine qds H ?_; intro H) | (refine qrb H ?_; intro _ w H) | (refine qrs H ?_; intro w H) | (refine qdr H ?_; intro H)))
          have H := H.frz (xs := [clP K]) hin.1 1 rfl (fun b h => own_c h)
          refine qa2 (hc := eachVar_c (weigh1_c ih _ _) t he (H.into (As := w1A K s r _) (ds := w1D K s r _) (A1 := []) rfl hin.1 (by simp)) (H.dat (d := LT.dat M t _) (by simp))) (k := ?_)
          rintro _ w hout
          have H := H.step (As := w1A K s r _) (A1 := []) rfl hout
          cases fine with
          | false =>
            cases hs
            (repeat (first | refine qq ?_ | (refine qds H ?_; intro H) | (refine qrb H ?_; intro _ w H) | (refine qrs H ?_; intro w H) | (refine qdr H ?_; intro H)))
            exact ⟨rfl, H.outOf (A1 := [_]) (As := wA K s r) (ds := wD K s r) rfl rfl (by simp)⟩
          | true =>
            simp only [] at hs
            cases hz : sizeV (weighN size1) t up1 with
            | none => rw [hz] at hs; cases hs
            | some q2 =>
              obtain ⟨k, up2⟩ := q2
              rw [hz] at hs
              cases hs
              (repeat (first | refine qq ?_ | (refine qds H ?_; intro H) | (refine qrb H ?_; intro _ w H) | (refine qrs H ?_; intro w H) | (refine qdr H ?_; intro H)))
              have Hp : ∀ w', (w' = _ ∨ ∃ u, (fun v w' => v = .int .i64 k ∧ Out (fun up => wA K s r (up, color1, size1)) (fun up => dcells b2 0 [clP K] :: wD K s r (up, color1, size1)) (H.wr M) up1 up2 w.drew w' : Value → World → Prop) u w') → _ := fun w' h => H.pastB (p := (fun v w' => v = .int .i64 k ∧ Out (fun up => wA K s r (up, color1, size1)) (fun up => dcells b2 0 [clP K] :: wD K s r (up, color1, size1)) (H.wr M) up1 up2 w.drew w')) (A1 := [_]) (As := fun up => wA K s r (up, color1, size1)) (ds := fun up => dcells b2 0 [clP K] :: wD K s r (up, color1, size1)) (B := (wA K s r (up1, color1, size1)).tail) rfl (fun _ => .cons _ (.refl _)) (fun _ _ h => ⟨_, h.2⟩) h
              refine WD_one_mut 13 12 [[], [0], [0, 1], [0, 1, 2], [], [], [5], [5, 6], [5, 6, 7], [], [5, 6, 7, 8, 9], [], [5, 6, 7, 8, 9, 10, 11]] (fun v w' => v = .int .i64 k ∧ Out (fun up => wA K s r (up, color1, size1)) (fun up => dcells b2 0 [clP K] :: wD K s r (up, color1, size1)) (H.wr M) up1 up2 w.drew w') (by kernel_rfl) ?_ _ (by exact rfl) ?_
              · refine ⟨?_, ?_, ?_, ?_, ?_, ?_, ?_, ?_, ?_, ?_, ?_, ?_, ?_, trivial⟩
                iterate 12 (· exact qom)
                · intro _ _
                  iterate 7 refine qwm ?_
                  refine OM_x rfl ?_
                  exact S_call2 _ _ (by exact rfl) (by exact rfl) (by exact rfl) (sizeWith_c (weigh2_c color1 size1 _) t hz (H.into (As := fun up => wA K s r (up, color1, size1)) (ds := fun up => dcells b2 0 [clP K] :: wD K s r (up, color1, size1)) (A1 := [_]) rfl hin.1 (by simp)) (H.dat (d := LT.dat M t _) (by simp))) fun v w' h => h
              intro w' _
              iterate 12 refine qwm ?_
              refine qwx ?_; intro v12 h12
              refine WM_nil ?_
              obtain ⟨rfl, hout⟩ := h12
              have ho := hout.2.2.1
              have H := H.step (As := fun up => wA K s r (up, color1, size1)) (A1 := [_]) rfl hout
              refine WD_n (by kernel_rfl) (by exact rfl) (S_mapSet H 5 _ _ _ (v := .int .i64 (k : Nat)) (by exact rfl) (by exact rfl) (by exact rfl) (by exact rfl) ?_); intro w H
              have H := H.re (A' := _ :: wA K s r (up2, color1, size1.set fu x k)) (by rw [put_num hx]; rfl)
              refine WD_end (by decide) ?_
              (repeat (first | refine qq ?_ | (refine qds H ?_; intro H) | (refine qrb H ?_; intro _ w H) | (refine qrs H ?_; intro w H) | (refine qdr H ?_; intro H)))
              refine WO_n (S_mapSet H 4 _ _ _ (v := .int .i64 ((2 : Nat) : Int)) (by exact rfl) (by exact rfl) (by exact rfl) (by exact rfl) ?_); intro w H
              have H := H.re (A' := _ :: wA K s r (up2, color1.set fu x 2, size1.set fu x k)) (by rw [put_num hx]; rfl)
              (repeat (first | refine qq ?_ | (refine qds H ?_; intro H) | (refine qrb H ?_; intro _ w H) | (refine qrs H ?_; intro w H) | (refine qdr H ?_; intro H)))
              exact ⟨rfl, H.outOf (A1 := [_]) (As := wA K s r) (ds := wD K s r) rfl rfl (by simp)⟩
end
end Go.Proofs.YtljpfnjpifhdlaaGreatDoor
namespace Go.Proofs.YtljpfnjpifhdlaaGreatDoor
open Go
abbrev VS := Tr Nat × Tr T
def valueV : Nat → Tr T → Nat → VS → Option (T × VS)
  | 0, _, _, _ => none
  | f + 1, sh, x, (up, full) => match full.get x with
    | some t => some (t, up, full)
    | none => match sh.get x with
      | none => some (.var x, up, full.set fu x (.var x))
      | some t => match mapV (fun v (up, full) => match root up v with
          | none => none
          | some (r, up) => match valueV f sh r (up, full) with
            | none => none
            | some (t, q) => some ((t, true), q)) t (up, full) with
        | none => none
        | some (t, up, full) => some (t, up, full.set fu x t)
def valueS (f : Nat) (sh : Tr T) : Nat → VS → Option ((T × Bool) × VS) := fun v (up, full) => match root up v with
          | none => none
          | some (r, up) => match valueV f sh r (up, full) with
            | none => none
            | some (t, q) => some ((t, true), q)
section
variable {f : Nat} {sh : Tr T} {x : Nat} {up : Tr Nat} {full : Tr T} {t : T}
theorem valueV_seen (hc : full.get x = some t) : valueV (f + 1) sh x (up, full) = some (t, up, full) := by unfold valueV; simp only [hc]
theorem valueV_flat (hc : full.get x = none) (hs : sh.get x = none) : valueV (f + 1) sh x (up, full) = some (.var x, up, full.set fu x (.var x)) := by unfold valueV; simp only [hc, hs]
theorem valueV_some (hc : full.get x = none) (hs : sh.get x = some t) : valueV (f + 1) sh x (up, full) = match mapV (valueS f sh) t (up, full) with
        | none => none
        | some (t, up, full) => some (t, up, full.set fu x t) := by unfold valueV; simp only [hc, hs]; rfl
end
section
variable {K : CB} {s : CS} {r : CR}
abbrev vA (K : CB) (s : CS) (r : CR) (p : VS × (Nat → Option Value)) : List Atom := clA K ({ s with up := p.1.1, full := p.1.2 }, { r with fv := p.2 })
abbrev vD (K : CB) (s : CS) (r : CR) (p : VS × (Nat → Option Value)) : List Dat := clD K ({ s with up := p.1.1, full := p.1.2 }, { r with fv := p.2 })
abbrev v1D (K : CB) (s : CS) (r : CR) (b2 : Nat) (p : VS × (Nat → Option Value)) : List Dat := dcells b2 0 [clP K] :: vD K s r p
/-- what value does with the fuel f -/
abbrev ValueC (K : CB) (s : CS) (r : CR) (f : Nat) : Prop := ∀ {x : Nat} {p p' : VS} {fv : Nat → Option Value} {t : T} {M : Nat → Prop} {w : World}, valueV f s.shape x p = some (t, p') → x ≤ 100000 →
  In (vA K s r) (vD K s r) M (p, fv) w → Calls Tryz.prog 137 #[clP K, .int .i64 x] w (Ret fun v w' => (∃ vs, v = .agg vs.toArray ∧ rdT M w' t vs) ∧ ∃ fv', Out (vA K s r) (vD K s r) M (p, fv) (p', fv') w w')

set_option maxRecDepth 100000 in
theorem value1_c {f : Nat} (ih : ValueC K s r f) (b2 : Nat) : StepT 160 #[.pointer (some ⟨b2, 0, none⟩)] (vA K s r) (v1D K s r b2) (valueS f s.shape) := by
  rintro n t b ⟨up, full⟩ p' fv w M hs hin
  unfold valueS at hs
  simp only [] at hs
  cases hr : root up n with
  | none => rw [hr] at hs; cases hs
  | some q =>
    obtain ⟨y, up1⟩ := q
    rw [hr] at hs
    simp only [] at hs
    cases hv : valueV f s.shape y (up1, full) with
    | none => rw [hv] at hs; cases hs
    | some q =>
      obtain ⟨t1, q1⟩ := q
      rw [hv] at hs
      cases hs
      show Calls _ _ #[.int .i64 n, .pointer (some ⟨b2, 0, none⟩)] _ _
      refine enterCT Tryz.func160 rfl Tryz.ntmps160 rfl (by simp) ?_
      obtain ⟨h1, h2, h3⟩ := hin.2.2.2 (dcells b2 0 [clP K]) (by simp)
      have H := hin.begin.add (hin.cells h1 h2 h3)
      (repeat (first | refine qq ?_ | (refine qds H ?_; intro H) | (refine qrb H ?_; intro _ w H) | (refine qrs H ?_; intro w H) | (refine qdr H ?_; intro H)))
      have Hp : ∀ w', (w' = _ ∨ ∃ u, (fun v w' => v = .int .i64 y ∧ Out (clA K) (clD K) (H.wr M) ({ s with up := up, full := full }, { r with fv := fv }) ({ s with up := up1, full := full }, { r with fv := fv }) w.drew w' : Value → World → Prop) u w') → _ := fun w' h => H.past (p := (fun v w' => v = .int .i64 y ∧ Out (clA K) (clD K) (H.wr M) ({ s with up := up, full := full }, { r with fv := fv }) ({ s with up := up1, full := full }, { r with fv := fv }) w.drew w')) (A1 := [_]) rfl (fun _ _ h => h.2.1) h
      refine WD_one_mut 4 3 [[], [], [], [1, 2]] (fun v w' => v = .int .i64 y ∧ Out (clA K) (clD K) (H.wr M) ({ s with up := up, full := full }, { r with fv := fv }) ({ s with up := up1, full := full }, { r with fv := fv }) w.drew w') (by kernel_rfl) ?_ _ (by exact rfl) ?_
      · refine ⟨?_, ?_, ?_, ?_, trivial⟩
        iterate 3 (· exact qom)
        · intro _ _
          refine qwm ?_
          refine qwm ?_
          refine OM_x rfl ?_
          exact S_call2 _ _ (by exact rfl) (by exact rfl) (by exact rfl) (root_c (s := { s with up := up, full := full }) (r := { r with fv := fv }) hr (H.into (As := clA K) (ds := clD K) (A1 := [_]) rfl hin.1 (by simp))) fun v w' h => h
      intro w' _
      iterate 3 refine qwm ?_
      refine qwx ?_; intro v3 h3
      refine WM_nil ?_
      obtain ⟨rfl, hout⟩ := h3
      have ho := hout.2.2.1
      have H := H.step (As := clA K) (A1 := [_]) rfl hout
      refine WD_s (by kernel_rfl) rfl rfl (S_call2 _ _ (by exact rfl) (by exact rfl) (by exact rfl) (ih hv (root_le hr) (H.into (As := vA K s r) (ds := vD K s r) (s := ((up1, full), fv)) (A1 := [_]) rfl hin.1 (by simp))) ?_)
      rintro _ w ⟨⟨vs, rfl, hx⟩, fv', hout⟩
      obtain ⟨a1, c1, rfl⟩ := rdT_four hx
      have ho2 := hout.2.2.1
      have H := (H.step (As := vA K s r) (A1 := [_]) rfl hout).addO (A1 := [_]) ho2 (L := LT) hx
      refine WD_n (by kernel_rfl) (by exact rfl) (S_storeN H 0 _ _ (by exact rfl) (by exact rfl) (by exact rfl) (by exact rfl) (by exact rfl) (by exact rfl) ?_); intro w H
      refine WD_rd (by kernel_rfl) rfl rfl (X_assign _) (WD_end (by decide) ?_)
      (repeat (first | refine qq ?_ | (refine qds H ?_; intro H) | (refine qrb H ?_; intro _ w H) | (refine qrs H ?_; intro w H) | (refine qdr H ?_; intro H)))
      exact ⟨_, _, _, rfl, H.bcells 0 4 rfl rfl, rfl, ⟨_, rfl, H.out 0 rfl⟩, _, H.outOf (A1 := [_]) (As := vA K s r) (ds := v1D K s r b2) rfl ho2 (by simp)⟩

set_option maxRecDepth 100000 in
theorem value_c (f : Nat) : ValueC K s r f := by
  induction f with
  | zero => intro x p p' fv t M w hs; cases hs
  | succ f ih =>
    rintro x ⟨up, full⟩ p' fv t M w hs hx hin
    refine enterC Tryz.func137 rfl Tryz.ntmps137 rfl (by simp) ?_
    obtain ⟨h10, h11, h12⟩ := hin.2.2.2 (dcells K.b 0 (clC K)) (by simp)
    have H := hin.begin.add (hin.cells h10 h11 h12)
    cases hc : full.get x with
    | some t0 =>
      rw [valueV_seen hc] at hs
      cases hs
      obtain ⟨vs, hv, hrd⟩ := DT_some (H.dat (d := Dat.wide M (DT full.get fv)) (by simp)) hc
      have H := H.add (d := LT.dat M t vs) hrd
      obtain ⟨a1, c1, rfl⟩ := rdT_four hrd
      (repeat (first | refine qq ?_ | (refine qds H ?_; intro H) | (refine qrb H ?_; intro _ w H) | (refine qrs H ?_; intro w H) | (refine qdr H ?_; intro H)))
      exact ⟨_, _, _, rfl, H.bcells 1 4 rfl rfl, rfl, ⟨_, rfl, H.out 0 rfl⟩, _, H.outOf (A1 := [_, _, _]) (As := vA K s r) (ds := vD K s r) rfl rfl (by simp)⟩
    | none =>
      have hn : fv x = none := DT_none (H.dat (d := Dat.wide M (DT full.get fv)) (by simp)) hc
      (repeat (first | refine qq ?_ | (refine qds H ?_; intro H) | (refine qrb H ?_; intro _ w H) | (refine qrs H ?_; intro w H) | (refine qdr H ?_; intro H)))
      refine qa1 (hc := variable_c x (H.wr M) _) (k := ?_)
      rintro _ w ⟨vs, rfl, hx1, hm⟩
      obtain ⟨a1, c1, rfl⟩ := rdT_four hx1
      have H := (H.call hm).add (d := LT.dat M (.var x) _) hx1
      (repeat (first | refine qq ?_ | (refine qds H ?_; intro H) | (refine qrb H ?_; intro _ w H) | (refine qrs H ?_; intro w H) | (refine qdr H ?_; intro H)))
      cases hsh : s.shape.get x with
      | none =>
        rw [valueV_flat hc hsh] at hs
        cases hs
        have hn2 : truG r.sv x = none := by simp [truG, DT_none (H.dat (d := Dat.wide M (DT s.shape.get r.sv)) (by simp)) hsh]
        (repeat (first | refine qq ?_ | (refine qds H ?_; intro H) | (refine qrb H ?_; intro _ w H) | (refine qrs H ?_; intro w H) | (refine qdr H ?_; intro H)))
        refine WD_any 6 [[], [0], [0, 1], [0, 1, 2], [], []] [] (by kernel_rfl) ?_ ?_ _ (by exact rfl) ?_
        · exact trivial
        · refine ⟨?_, ?_, ?_, ?_, ?_, ?_, trivial⟩
          iterate 6 (· exact qob)
        intro w hm
        have H := H.call hm
        iterate 6 refine qwr ?_
        refine WR_nil ?_
        refine WD_n (by kernel_rfl) (by exact rfl) (S_mapSet H 9 _ _ _ (v := .agg #[.int .i64 (T.var x).kind, .int .i64 (T.var x).int, .string (T.var x).name, .slice a1 (T.var x).args.length c1]) (by exact rfl) (by exact rfl) (by exact rfl) (by exact rfl) ?_); intro w H
        refine WD_end (by decide) ?_
        have H := H.re (A' := _ :: _ :: _ :: _ :: vA K s r ((up, full.set fu x (.var x)), put fv x (.agg #[.int .i64 (T.var x).kind, .int .i64 (T.var x).int, .string (T.var x).name, .slice a1 (T.var x).args.length c1]))) rfl
        have H := H.add (d := Dat.wide M (DT (full.set fu x (.var x)).get (put fv x (.agg #[.int .i64 (T.var x).kind, .int .i64 (T.var x).int, .string (T.var x).name, .slice a1 (T.var x).args.length c1])))) (DT_put hx (H.dat (d := Dat.wide M (DT full.get fv)) (by simp)) (H.dat (d := LT.dat M (.var x) _) (by simp)))
        (repeat (first | refine qq ?_ | (refine qds H ?_; intro H) | (refine qrb H ?_; intro _ w H) | (refine qrs H ?_; intro w H) | (refine qdr H ?_; intro H)))
        exact ⟨_, _, _, rfl, H.bcells 2 4 rfl rfl, rfl, ⟨_, rfl, H.out 1 rfl⟩, _, H.outOf (A1 := [_, _, _, _]) (As := vA K s r) (ds := vD K s r) rfl rfl (by simp)⟩
      | some t1 =>
        rw [valueV_some hc hsh] at hs
        cases hmv : mapV (valueS f s.shape) t1 (up, full) with
        | none => rw [hmv] at hs; cases hs
        | some q =>
          obtain ⟨t2, up2, full2⟩ := q
          rw [hmv] at hs
          simp only [Option.some.injEq, Prod.mk.injEq] at hs
          obtain ⟨rfl, rfl⟩ := hs
          obtain ⟨ws, hv, hrd⟩ := DT_some (H.dat (d := Dat.wide M (DT s.shape.get r.sv)) (by simp)) hsh
          have hn2 : truG r.sv x = some (.bool true) := by simp [truG, hv]
          have H := H.add (d := LT.dat M t1 ws) hrd
          (repeat (first | refine qq ?_ | (refine qds H ?_; intro H) | (refine qrb H ?_; intro _ w H) | (refine qrs H ?_; intro w H) | (refine qdr H ?_; intro H)))
          have H := H.frz (xs := [clP K]) hin.1 3 rfl (fun b h => own_c (own_c (own_c h)))
          refine qa2 (hc := mapVars_c (value1_c ih _) t1 hmv (H.into (As := vA K s r) (ds := v1D K s r _) (s := ((up, full), fv)) (A1 := [_, _, _]) rfl hin.1 (by simp)) (H.dat (d := LT.dat M t1 _) (by simp))) (k := ?_)
          rintro _ w ⟨⟨vs2, rfl, hx2⟩, fv2, hout⟩
          obtain ⟨a2, c2, rfl⟩ := rdT_four hx2
          have ho2 := hout.2.2.1
          have H := (H.step (As := vA K s r) (A1 := [_, _, _]) rfl hout).addO (A1 := [_, _, _]) ho2 (L := LT) hx2
          (repeat (first | refine qq ?_ | (refine qds H ?_; intro H) | (refine qrb H ?_; intro _ w H) | (refine qrs H ?_; intro w H) | (refine qdr H ?_; intro H)))
          refine WD_any 6 [[], [0], [0, 1], [0, 1, 2], [], []] [] (by kernel_rfl) ?_ ?_ _ (by exact rfl) ?_
          · exact trivial
          · refine ⟨?_, ?_, ?_, ?_, ?_, ?_, trivial⟩
            iterate 6 (· exact qob)
          intro w hm
          have H := H.call hm
          iterate 6 refine qwr ?_
          refine WR_nil ?_
          refine WD_n (by kernel_rfl) (by exact rfl) (S_mapSet H 8 _ _ _ (v := .agg #[.int .i64 t2.kind, .int .i64 t2.int, .string t2.name, .slice a2 t2.args.length c2]) (by exact rfl) (by exact rfl) (by exact rfl) (by exact rfl) ?_); intro w H
          refine WD_end (by decide) ?_
          have H := H.re (A' := _ :: _ :: _ :: vA K s r ((up2, full2.set fu x t2), put fv2 x (.agg #[.int .i64 t2.kind, .int .i64 t2.int, .string t2.name, .slice a2 t2.args.length c2]))) rfl
          have H := H.add (d := Dat.wide M (DT (full2.set fu x t2).get (put fv2 x (.agg #[.int .i64 t2.kind, .int .i64 t2.int, .string t2.name, .slice a2 t2.args.length c2])))) (DT_put hx (H.dat (d := Dat.wide M (DT full2.get fv2)) (by simp)) (H.dat (d := LT.dat M t2 _) (by simp)))
          (repeat (first | refine qq ?_ | (refine qds H ?_; intro H) | (refine qrb H ?_; intro _ w H) | (refine qrs H ?_; intro w H) | (refine qdr H ?_; intro H)))
          exact ⟨_, _, _, rfl, H.bcells 2 4 rfl rfl, rfl, ⟨_, rfl, H.out 1 rfl⟩, _, H.outOf (A1 := [_, _, _]) (As := vA K s r) (ds := vD K s r) rfl ho2 (by simp)⟩
end
end Go.Proofs.YtljpfnjpifhdlaaGreatDoor
namespace Go.Proofs.YtljpfnjpifhdlaaGreatDoor
open Go

theorem putAt_app (A xs us : List Value) (o : Nat) : putAt (A ++ xs) (A.length + o) us = A ++ putAt xs o us := by
  unfold putAt
  rw [List.take_append, List.drop_append]
  simp only [List.append_assoc]
  rw [List.take_of_length_le (by omega), List.drop_eq_nil_of_le (by omega)]
  simp only [List.nil_append, List.append_cancel_left_eq]
  congr 1
  · congr 1; omega
  · congr 2; omega
theorem putAt_front {vs r us : List Value} {o : Nat} (h : o + us.length ≤ vs.length) : putAt (vs ++ r) o us = putAt vs o us ++ r := by
  unfold putAt
  rw [List.take_append_of_le_length (by omega), List.drop_append_of_le_length h]
  simp
theorem flat_len {sz : Nat} : ∀ {vss : List (List Value)}, (∀ vs ∈ vss, vs.length = sz) → vss.flatten.length = vss.length * sz
  | [], _ => by simp
  | v :: vss, h => by
    rw [List.flatten_cons, List.length_append, h v (by simp), flat_len (fun x hx => h x (by simp [hx])), List.length_cons, Nat.add_mul]; omega
theorem putAt_flat {sz k off : Nat} {vss : List (List Value)} {vs us cs : List Value} (hall : ∀ vs ∈ vss, vs.length = sz) (hk : vss[k]? = some vs) (hle : off + us.length ≤ sz) (ht : cs.take (vss.length * sz) = vss.flatten) :
    (putAt cs (k * sz + off) us).take (vss.length * sz) = (vss.set k (putAt vs off us)).flatten := by
  obtain ⟨hk1, hk2⟩ := set_split (y := putAt vs off us) hk
  have hkl := (List.getElem?_eq_some_iff.1 hk).1
  have hvs : vs.length = sz := hall vs (List.mem_of_getElem? hk)
  have hA : (vss.take k).flatten.length = k * sz := by
    rw [flat_len (sz := sz) (fun x hx => hall x (List.mem_of_mem_take hx)), List.length_take, Nat.min_eq_left (by omega)]
  have hf : vss.flatten = (vss.take k).flatten ++ (vs ++ (vss.drop (k + 1)).flatten) := by
    conv => lhs; rw [hk1]
    simp
  have hcs : cs = (vss.take k).flatten ++ (vs ++ ((vss.drop (k + 1)).flatten ++ cs.drop (vss.length * sz))) := by
    conv => lhs; rw [← List.take_append_drop (vss.length * sz) cs, ht, hf]
    simp
  have hfl := flat_len (sz := sz) hall
  rw [hk2, hcs, ← hA, putAt_app, putAt_front (by omega)]
  rw [List.flatten_append, List.flatten_cons]
  have e : (vss.take k).flatten ++ (putAt vs off us ++ ((vss.drop (k + 1)).flatten ++ cs.drop (vss.length * sz))) = ((vss.take k).flatten ++ (putAt vs off us ++ (vss.drop (k + 1)).flatten)) ++ cs.drop (vss.length * sz) := by simp
  rw [e, List.take_left']
  rw [hf] at hfl
  simp only [List.length_append] at hfl ⊢
  rw [putAt_len (by omega)]
  exact hfl

section
variable {P : Program} {w0 w : World} {S : List Nat} {A : List Atom} {D : List Dat} {r : Operand → Value} {d : Option Tmp} {ty : TypeId} {pos : String} {aft : Array Edge} {g : Option (Nat × Bool)} {K : Value → World → Prop}

/-- an element of a row -/
theorem Holds.row (H : Holds w0 S A D w) (i : Nat) {e : TypeId} {sz : Nat} {v : Value} {vss : List (List Value)} (hi : A[i]? = some (orow e sz v vss)) {k : Nat} {vs : List Value} (hk : vss[k]? = some vs) :
    ∃ b cap, v = .slice (some ⟨b, 0, none⟩) vss.length cap ∧ Cells w b (k * sz) vs ∧ vs.length = sz := by
  obtain ⟨hall, hlen, hrow⟩ := H.atom (List.mem_of_getElem? hi)
  rcases hrow with ⟨rfl, h0⟩ | ⟨b, cap, cur, rfl, _, hg, hnc, _, hcs, htake⟩
  · have := (List.getElem?_eq_some_iff.1 hk).1; omega
  · refine ⟨b, cap, rfl, fun j u hj => ?_, hall vs (List.mem_of_getElem? hk)⟩
    have h2 : vss.flatten[k * sz + j]? = some u := flat_get hall hk hj
    rw [← htake, List.getElem?_take] at h2
    split at h2
    · simp only [World.cell?, hg]; simpa using h2
    · cases h2
theorem Holds.rowVal (H : Holds w0 S A D w) (i : Nat) {e : TypeId} {sz : Nat} {v : Value} {vss : List (List Value)} (hi : A[i]? = some (orow e sz v vss)) : ∃ a cap, v = .slice a vss.length cap := by
  obtain ⟨hall, hlen, hrow⟩ := H.atom (List.mem_of_getElem? hi)
  rcases hrow with ⟨rfl, h0⟩ | ⟨b, cap, cur, rfl, _⟩
  · exact ⟨none, 0, by rw [h0]⟩
  · exact ⟨_, cap, rfl⟩

/-- a store into an element of a row -/
theorem S_rowStore (H : Holds w0 S A D w) (i : Nat) {t : TypeId} {agg : Bool} {st : Nat} {z : Value} [F : TyF P t agg st z] (x y : Operand) {b o cap : Nat} {e : TypeId} {sz : Nat} {vss : List (List Value)} {us : List Value} {n : Nat} (k off : Nat) {vs : List Value}
    (hi : A[i]? = some (orow e sz (.slice (some ⟨b, 0, none⟩) n cap) vss)) (hk : vss[k]? = some vs) (hx : r x = .pointer (some ⟨b, o, none⟩)) (ho : o = k * sz + off) (hy : (r y).cells = us.toArray) (hl : us.length = st) (h1 : us.all Value.oneCell' = true) (hle : off + st ≤ sz)
    (kk : ∀ w', Holds w0 S (A.set i (orow e sz (.slice (some ⟨b, 0, none⟩) n cap) (vss.set k (putAt vs off us)))) D w' → K undef w') : OS P ⟨d, .store t x y, ty, pos, aft, g⟩ r w K := by
  obtain ⟨hall, hlen, hrow⟩ := H.atom (List.mem_of_getElem? hi)
  have hkl := (List.getElem?_eq_some_iff.1 hk).1
  have hvs : vs.length = sz := hall vs (List.mem_of_getElem? hk)
  rcases hrow with ⟨h0, _⟩ | ⟨b', cap', cur, h0, _, hg, hnc, hcm, hcs, htake⟩
  · cases h0
  · simp only [Value.slice.injEq, Option.some.injEq, Addr.mk.injEq, and_true] at h0
    obtain ⟨rfl, rfl, rfl⟩ := h0
    have hn1 : (k + 1) * sz ≤ vss.length * sz := Nat.mul_le_mul_right _ (by omega)
    have hn2 : vss.length * sz ≤ cap * sz := Nat.mul_le_mul_right _ hnc
    rw [Nat.add_mul] at hn1
    have hb : w.heap[b]? = some (.cells cur.toList.toArray e (0, 0)) := by simpa using hg
    obtain ⟨w', h2, h3, h4, h5⟩ := storeVar_at (P := P) (t := t) hy hl (List.all_eq_true.1 h1) hb (o := o) (by simp only [Array.length_toList]; omega)
    refine S_skip (w' := w') ?_ (kk w' (H.turnAt i hi (h3.mono (by simp [orow, Value.ownBlock])) ⟨?_, ?_⟩ (by simp [orow, Value.ownBlock]) (fun c hc => ?_)))
    · show (Instr.storeAt t (r x) (r y) >>= fun _ => pure Next.skip).run P w = _
      rw [Sem.run_bind, hx]
      show Result.andThen ((Sem.bind (Sem.pure _) fun a => storeVar t a (r y)).run P w) _ = _
      show Result.andThen ((storeVar t ⟨b, o, none⟩ (r y)).run P w) _ = _
      rw [h2]; rfl
    · intro us' hus
      rcases List.mem_or_eq_of_mem_set hus with h | h
      · exact hall us' h
      · rw [h, putAt_len (by omega)]; exact hvs
    · subst ho
      have hpl : (putAt cur.toList (k * sz + off) us).length = cur.size := by rw [putAt_len (by simp only [Array.length_toList]; omega)]; simp
      refine ⟨?_, .inr ⟨b, cap, _, by simp, Nat.zero_le _, h5, by simpa using hnc, hcm, by simpa [hpl] using hcs, ?_⟩⟩
      · rw [← putAt_flat hall hk (by omega) htake, List.length_take, hpl, List.length_set]
        omega
      · rw [List.length_set]
        exact putAt_flat hall hk (by omega) htake
    · simp only [orow, Value.ownBlock, Option.toList_some, List.mem_singleton] at hc
      subst hc
      refine ⟨?_, .inl (by simp [orow, Value.ownBlock])⟩
      rw [h4]; exact (Array.getElem?_eq_some_iff.1 hg).1

/-- the last element of a row taken off -/
theorem Holds.pop (H : Holds w0 S A D w) (i : Nat) {e : TypeId} {sz cap b : Nat} {vss : List (List Value)} {vs : List Value} (hi : A[i]? = some (orow e sz (.slice (some ⟨b, 0, none⟩) (vss.length + 1) cap) (vss ++ [vs]))) :
    Holds w0 S (A.set i (orow e sz (.slice (some ⟨b, 0, none⟩) vss.length cap) vss)) D w := by
  obtain ⟨hall, hlen, hrow⟩ := H.atom (List.mem_of_getElem? hi)
  rcases hrow with ⟨h0, _⟩ | ⟨b', cap', cur, h0, _, hg, hnc, hcm, hcs, htake⟩
  · cases h0
  · simp only [Value.slice.injEq, Option.some.injEq, Addr.mk.injEq, and_true] at h0
    obtain ⟨rfl, _, rfl⟩ := h0
    have hall' : ∀ vs ∈ vss, vs.length = sz := fun x hx => hall x (by simp [hx])
    simp only [List.length_append, List.length_singleton] at hnc htake
    refine H.turnAt i hi (Mod.refl _ _) ⟨hall', flat_len hall', .inr ⟨b, cap, cur, rfl, Nat.zero_le _, hg, by omega, hcm, hcs, ?_⟩⟩ (by simp [orow, Value.ownBlock]) (fun c hc => ?_)
    · have := congrArg (List.take (vss.length * sz)) htake
      rw [List.take_take, Nat.add_mul, Nat.min_eq_left (by omega), List.flatten_append] at this
      rw [this, ← flat_len hall', List.take_left']
      rfl
    · simp only [orow, Value.ownBlock, Option.toList_some, List.mem_singleton] at hc
      subst hc
      exact ⟨H.lt _ (mem_owns.2 ⟨_, List.mem_of_getElem? hi, by simp [orow, Value.ownBlock]⟩), .inl (by simp [orow, Value.ownBlock])⟩

/-- several elements more -/
theorem S_appendN (H : Holds w0 S A D w) (i : Nat) {t e : TypeId} {agg : Bool} {sz bytes : Nat} {z : Value} [G : SlF P t e] [F : TyF P e agg sz z] [B : ByF P e bytes] (s x : Operand) {v : Value} {vss uss : List (List Value)} {b o c : Nat}
    (hi : A[i]? = some (orow e sz v vss)) (hs : r s = v) (hx : r x = .slice (some ⟨b, o, none⟩) uss.length c) (hc : Cells w b o uss.flatten) (hl : ∀ us ∈ uss, us.length = sz) (h1 : ∀ us ∈ uss, ∀ u ∈ us, u.oneCell' = true) (hsz : 0 < sz) (hzs : z.cells.size = sz) (h0 : uss ≠ [])
    (hlen : (vss.length + uss.length) * (bytes + 1) ≤ 140737488355328) (k : ∀ v' w', Holds w0 S (A.set i (orow e sz v' (vss ++ uss))) D w' → K v' w') :
    OS P ⟨d, .call { callee := .builtin .append, args := #[s, x], argTypes := #[t, t] }, ty, pos, aft, g⟩ r w K := by
  obtain ⟨inf, hinf, hby⟩ := Option.map_eq_some_iff.1 B.run
  obtain ⟨hz, hsize⟩ := TyF.info (P := P) w hinf
  obtain ⟨hall, hown⟩ := H.atom (List.mem_of_getElem? hi)
  have hadd : ∀ m, (⟨b, o, none⟩ : Addr).add m = ⟨b, o + m, none⟩ := fun m => by unfold Addr.add; split <;> simp_all
  have hlen' : vss.length + uss.length ≤ 140737488355328 := Nat.le_trans (Nat.le_mul_of_pos_right _ (by omega)) hlen
  have hpos : 0 < uss.length := List.length_pos_iff.2 h0
  obtain ⟨v', w', hr, h2, h3, h4⟩ := run_append_own2' (P := P) w 0 t ty e inf z sz bytes G.und hinf hz hsize hby hzs hsz v vss.length vss.flatten hown ⟨b, o, none⟩ uss.length c uss.flatten (flat_len hl) (fun j u hj => by rw [hadd]; exact hc j u hj)
    (fun u hu => by obtain ⟨us, hus, hu⟩ := List.mem_flatten.1 hu; exact h1 us hus u hu) hpos (by unfold maxLen; omega) (Nat.le_trans (Nat.mul_le_mul_left _ (by omega)) hlen) (Nat.zero_le _)
  refine S_run (v := v') (w' := w') ?_ (k v' w' (H.turnAt i hi ⟨h3.os, h3.tape, h3.output, h3.size, fun k hk hn => h3.block k hk (fun e => hn ?_)⟩ ⟨?_, ?_⟩ ?_ ?_))
  · simp only [execOp, resolve, pure_bind, invoke, builtin, List.map_toArray, List.map_cons, List.map_nil, hs, hx, Sem.run_bind, hr, Result.andThen_ok]; rfl
  · simp [orow, ← e]
  · intro us hus
    rcases List.mem_append.1 hus with h | h
    · exact hall us h
    · exact hl us h
  · simpa using h2
  · simp only [orow]; cases v'.ownBlock <;> simp
  · intro c hc
    simp only [orow, Option.mem_toList] at hc
    have hlt := h2.lt c hc
    refine ⟨hlt.2, ?_⟩
    rcases h4 with ⟨h4, _⟩ | ⟨h4, _⟩
    · exact .inl (by simp only [orow, Option.mem_toList]; rw [← h4]; exact hc)
    · rw [h4] at hc
      cases hc
      exact .inr (Nat.le_refl _)

/-- nothing more -/
theorem X_append0 {t e : TypeId} {bytes : Nat} [G : SlF P t e] [B : ByF P e bytes] (s x : Operand) {a a' : Option Addr} {n c c' : Nat} (hs : r s = .slice a n c) (hn : n ≤ c) (hx : r x = .slice a' 0 c')
    (k : K (.slice a n c) w) : OS P ⟨d, .call { callee := .builtin .append, args := #[s, x], argTypes := #[t, t] }, ty, pos, aft, g⟩ r w K := by
  obtain ⟨inf, hinf, _⟩ := Option.map_eq_some_iff.1 B.run
  refine S_run (v := .slice a n c) (w' := w) ?_ k
  have hr : (Builtin.append_ #[t, t] ty #[.slice a n c, .slice a' 0 c']).run P w = .ok (.slice a n c) w := by
    have hld : ∀ a : Addr, (loadCells a 0).run P w = .ok #[] w := fun a => rfl
    cases a <;> cases a' <;> simp [Builtin.append_, hld, run_underlying G.und, sizeOf, typeInfo, hinf, storeCells, hn, Builtin.lenOf, Builtin.firstCells]
  simp only [execOp, resolve, pure_bind, invoke, builtin, List.map_toArray, List.map_cons, List.map_nil, hs, hx, Sem.run_bind, hr, Result.andThen_ok]; rfl
/-- nothing more, to a row of the call's own -/
theorem S_append0 (H : Holds w0 S A D w) (i : Nat) {t e : TypeId} {sz bytes : Nat} [SlF P t e] [ByF P e bytes] (s x : Operand) {v : Value} {vss : List (List Value)} {a' : Option Addr} {c' : Nat}
    (hi : A[i]? = some (orow e sz v vss)) (hs : r s = v) (hx : r x = .slice a' 0 c') (k : K v w) :
    OS P ⟨d, .call { callee := .builtin .append, args := #[s, x], argTypes := #[t, t] }, ty, pos, aft, g⟩ r w K := by
  obtain ⟨_, _, hrow⟩ := H.atom (List.mem_of_getElem? hi)
  rcases hrow with ⟨rfl, h0⟩ | ⟨b, cap, cur, rfl, _, hg, hnc, _⟩
  · exact X_append0 s x hs (Nat.le_refl _) hx k
  · exact X_append0 s x hs hnc hx k
end
end Go.Proofs.YtljpfnjpifhdlaaGreatDoor
namespace Go.Proofs.YtljpfnjpifhdlaaGreatDoor
open Go
open Go.ChangeMaps (setBlock)

/-- block b a map that reads as g, block q its iterator: ks, the keys that have come, of T keys -/
def IterAt (b q : Nat) (g : Nat → Option Value) (T : Nat) (ks : List Nat) (w : World) : Prop := b ≠ q ∧ ∃ (l : List Ent) (clock : Nat) (seen : Array Nat), w.heap[b]? = some (.map (l.map ent).toArray clock) ∧ (l.map (·.1)).Nodup ∧ (l.map (·.2.2)).Nodup ∧ (∀ x ∈ l, x.2.2 < clock) ∧
  (∀ n, look l n = g n) ∧ w.heap[q]? = some (.mapIter (some b) clock seen clock) ∧ (∀ x ∈ l, x.2.2 ∈ seen ↔ x.1 ∈ ks) ∧ ks.Nodup ∧ (∀ k ∈ ks, k ∈ l.map (·.1)) ∧ l.length = T ∧ (∀ n, ks.getLast? = some n → ∃ x ∈ l, x.1 = n ∧ ∃ s0 : Array Nat, seen = s0.push x.2.2)
/-- a map that a loop goes through -/
def mpi (b q : Nat) (g : Nat → Option Value) (T : Nat) (ks : List Nat) : Atom :=
  ⟨[b, q], IterAt b q g T ks, fun w w' h hw => by
    obtain ⟨h0, l, c, s, h1, h2, h3, h4, h5, h6, h7⟩ := hw
    exact ⟨h0, l, c, s, by rw [h b (by simp)]; exact h1, h2, h3, h4, h5, by rw [h q (by simp)]; exact h6, h7⟩⟩
theorem nodup_key {f : Ent → Nat} {z y : Ent} : ∀ {l : List Ent}, (l.map f).Nodup → z ∈ l → y ∈ l → f z = f y → z = y
  | x :: l, h, hz, hy, e => by
    simp only [List.map_cons, List.nodup_cons] at h
    rcases List.mem_cons.1 hz with hz1 | hz1 <;> rcases List.mem_cons.1 hy with hy1 | hy1
    · rw [hz1, hy1]
    · exact absurd (by rw [← hz1, e]; exact List.mem_map_of_mem hy1) h.1
    · exact absurd (by rw [← hy1, ← e]; exact List.mem_map_of_mem hz1) h.1
    · exact nodup_key h.2 hz1 hy1 e

theorem setBlock_mod {w : World} {b : Nat} {S : List Nat} (hb : b ∈ S) (o : Obj) : Mod S w (setBlock w b o) :=
  ⟨rfl, rfl, rfl, by simp [setBlock], fun i _ hi => by
    have hi' : b ≠ i := fun e => hi (e ▸ hb)
    simp [setBlock, Array.getElem?_setIfInBounds_ne hi']⟩
theorem sub_length {α : Type} [DecidableEq α] : ∀ {l m : List α}, l.Nodup → (∀ x ∈ l, x ∈ m) → l.length ≤ m.length
  | [], _, _, _ => Nat.zero_le _
  | x :: l, m, hn, h => by
    obtain ⟨h1, h2⟩ := List.nodup_cons.1 hn
    have := sub_length (m := m.erase x) h2 (fun y hy => (List.mem_erase_of_ne (fun e => h1 (by rw [← e]; exact hy))).2 (h y (by simp [hy])))
    have hx : x ∈ m := h x (by simp)
    rw [List.length_erase_of_mem hx] at this
    have : 0 < m.length := List.length_pos_of_mem hx
    simp only [List.length_cons]; omega

section
variable {P : Program} {w0 w : World} {S : List Nat} {A : List Atom} {D : List Dat} {r : Operand → Value} {d : Option Tmp} {ty : TypeId} {pos : String} {aft : Array Edge} {g : Option (Nat × Bool)} {K : Value → World → Prop}

theorem S_range (H : Holds w0 S A D w) (i : Nat) {t k e : TypeId} [G : MapF P t k e] (x : Operand) {b : Nat} {gm : Nat → Option Value} (hi : A[i]? = some (mp b gm)) (hx : r x = .map (some b))
    (kk : ∀ q T w', Holds w0 S (A.set i (mpi b q gm T [])) D w' → K (.pointer (some ⟨q, 0, none⟩)) w') : OS P ⟨d, .range t x, ty, pos, aft, g⟩ r w K := by
  obtain ⟨l, c, h1, h2, h3, h4, h5⟩ := H.atom (List.mem_of_getElem? hi)
  have hblt : b < w.heap.size := H.lt b (mem_owns.2 ⟨_, List.mem_of_getElem? hi, by simp [mp]⟩)
  refine S_run (v := .pointer (some ⟨w.heap.size, 0, none⟩)) (w' := w.alloc (.mapIter (some b) c #[] c)) ?_ (kk w.heap.size l.length _ (H.turnAt i hi ((Mod.refl _ _).alloc _) ?_ ?_ ?_))
  · show (Instr.range t (r x) >>= fun v => pure (Next.value v)).run P w = _
    rw [hx]
    unfold Instr.range
    simp only [bind_assoc, Sem.run_bind, runC_run _ _ (runC_underlying G.und), Result.andThen_ok, runC_run _ _ (runC_getMap h1), Sem.run_pure]
    rfl
  · refine ⟨by omega, l, c, #[], ?_, h2, h3, h4, h5, ?_, by simp, by simp, by simp, rfl, by simp⟩
    · show (w.heap.push _)[b]? = _
      rw [Array.getElem?_push_lt hblt, ← Array.getElem?_eq_getElem]; exact h1
    · show (w.heap.push _)[w.heap.size]? = _; simp
  · simp [mpi]; omega
  · intro c' hc
    simp only [mpi, List.mem_cons, List.not_mem_nil, or_false] at hc
    rcases hc with rfl | rfl
    · exact ⟨by simp; omega, .inl (by simp [mp])⟩
    · exact ⟨by simp, .inr (Nat.le_refl _)⟩

theorem S_next (H : Holds w0 S A D w) (i : Nat) (x : Operand) {b q T : Nat} {gm : Nat → Option Value} {ks : List Nat} (hi : A[i]? = some (mpi b q gm T ks)) (hx : r x = .pointer (some ⟨q, 0, none⟩))
    (kend : (∀ n, (gm n).isSome → n ∈ ks) → ks.Nodup → (∀ n ∈ ks, (gm n).isSome) → K (.tuple #[.bool false]) w)
    (kmore : ∀ n v w', n ∉ ks → gm n = some v → ks.length < T → Holds w0 S (A.set i (mpi b q gm T (ks ++ [n]))) D w' → K (.tuple #[.bool true, .int .i64 n, v]) w') :
    OS P ⟨d, .next x false, ty, pos, aft, g⟩ r w K := by
  obtain ⟨h0, l, c, seen, h1, h2, h3, h4, h5, h6, h7, h8, h9, h10, _⟩ := H.atom (List.mem_of_getElem? hi)
  have hblt : b < w.heap.size := H.lt b (mem_owns.2 ⟨_, List.mem_of_getElem? hi, by simp [mpi]⟩)
  have hqlt : q < w.heap.size := H.lt q (mem_owns.2 ⟨_, List.mem_of_getElem? hi, by simp [mpi]⟩)
  have hold : ∀ x ∈ (l.map ent).toArray.toList, x.born < c := by
    intro x hx
    simp only [List.mem_map] at hx
    obtain ⟨y, hy, rfl⟩ := hx
    exact h4 y hy
  rcases run_next_at (P := P) w ty q b c c seen (l.map ent).toArray c h6 h1 hold (Nat.le_refl _) with ⟨hz, hr⟩ | ⟨e, he, w1, hw1, hr⟩
  · refine S_run (v := .tuple #[.bool false]) (w' := w) ?_ (kend ?_ h8 ?_)
    · show (Instr.next (r x) false ty >>= fun v => pure (Next.value v)).run P w = _
      rw [hx, Sem.run_bind, hr]; rfl
    · intro n hn
      rw [← h5] at hn
      cases hl : look l n with
      | none => rw [hl] at hn; cases hn
      | some v =>
        obtain ⟨y, hy, rfl, _⟩ := look_mem hl
        refine (h7 y hy).1 ?_
        by_cases hs : y.2.2 ∈ seen
        · exact hs
        · have hm : ent y ∈ (leftOf (l.map ent).toArray seen).toList := by
            simp only [leftOf, Array.toList_filter, List.mem_filter]
            exact ⟨List.mem_map_of_mem hy, by simp [ent, hs]⟩
          have : 0 < (leftOf (l.map ent).toArray seen).toList.length := List.length_pos_of_mem hm
          simp only [Array.length_toList] at this
          omega
    · intro n hn
      obtain ⟨y, hy, rfl⟩ := List.mem_map.1 (h9 n hn)
      rw [← h5, look_of_mem h2 hy]; rfl
  · simp only [leftOf, Array.toList_filter, List.mem_filter] at he
    obtain ⟨he1, he2⟩ := he
    obtain ⟨y, hy, rfl⟩ := List.mem_map.1 he1
    have hns : y.2.2 ∉ seen := by simpa [ent] using he2
    have hnk : y.1 ∉ ks := fun h => hns ((h7 y hy).2 h)
    have H1 : Holds w0 S A D w1 := by rcases hw1 with rfl | rfl; exact H; exact H.drew
    have e1 : w1.heap = w.heap := by rcases hw1 with rfl | rfl <;> rfl
    have hlt : ks.length < T := by
      have := sub_length (l := y.1 :: ks) (m := l.map (·.1)) (List.nodup_cons.2 ⟨hnk, h8⟩) (fun z hz => by
        rcases List.mem_cons.1 hz with rfl | hz
        · exact List.mem_map_of_mem hy
        · exact h9 z hz)
      simp only [List.length_cons, List.length_map] at this; omega
    refine S_run (v := .tuple #[.bool true, .int .i64 y.1, y.2.1]) (w' := setBlock w1 q (.mapIter (some b) c (seen.push y.2.2) c)) ?_ (kmore y.1 y.2.1 _ hnk (by rw [← h5]; exact look_of_mem h2 hy) hlt (H1.turnAt i hi (setBlock_mod (by simp [mpi]) _) ?_ ?_ ?_))
    · show (Instr.next (r x) false ty >>= fun v => pure (Next.value v)).run P w = _
      rw [hx, Sem.run_bind, hr]; rfl
    · refine ⟨h0, l, c, seen.push y.2.2, ?_, h2, h3, h4, h5, ?_, ?_, ?_, ?_, h10, fun n hn => ⟨y, hy, by simpa using hn, seen, rfl⟩⟩
      · simp only [setBlock, e1]; rw [Array.getElem?_setIfInBounds_ne (Ne.symm h0)]; exact h1
      · simp [setBlock, e1, hqlt]
      · intro z hz
        rw [Array.mem_push, List.mem_append, h7 z hz]
        refine or_congr Iff.rfl ?_
        simp only [List.mem_singleton]
        constructor
        · intro hzy; rw [nodup_key h3 hz hy hzy]
        · intro hzy; rw [nodup_key h2 hz hy hzy]
      · rw [List.nodup_append]
        refine ⟨h8, by simp, fun a ha b' hb' => ?_⟩
        simp at hb'; subst hb'
        exact fun e => hnk (e ▸ ha)
      · intro k hk
        rcases List.mem_append.1 hk with hk | hk
        · exact h9 k hk
        · simp at hk; subst hk; exact List.mem_map_of_mem hy
    · have := (H.nd); simp [mpi, h0]
    · intro c' hc
      simp only [mpi, List.mem_cons, List.not_mem_nil, or_false] at hc
      rcases hc with rfl | rfl
      · exact ⟨by simp [setBlock, e1]; omega, .inl (by simp [mpi])⟩
      · exact ⟨by simp [setBlock, e1]; omega, .inl (by simp [mpi])⟩

/-- the key and the value of a round -/
theorem X_entry (H : Holds w0 S A D w) (x : Operand) {b q T : Nat} {gm : Nat → Option Value} {ks : List Nat} {n : Nat} {v : Value} (hx : r x = .pointer (some ⟨q, 0, none⟩)) (hm : mpi b q gm T (ks ++ [n]) ∈ A) (hv : gm n = some v) :
    runC P w (execOp r ⟨d, .entry x, ty, pos, aft, g⟩) = some (.value (.tuple #[.int .i64 n, v])) := by
  obtain ⟨h0, l, c, seen, h1, h2, h3, h4, h5, h6, h7, h8, h9, h10, h11⟩ := H.atom hm
  obtain ⟨y, hy, rfl, s0, rfl⟩ := h11 n (by simp)
  have hyv : y.2.1 = v := by
    have := look_of_mem h2 hy
    rw [h5, hv] at this
    exact (Option.some.inj this).symm
  show runC P w (Instr.entry (r x) >>= fun v => pure (Next.value v)) = _
  rw [hx]
  have hf : (l.map ent).toArray.find? (·.born == y.2.2) = some (ent y) := by
    rw [← Array.find?_toList]
    exact find_born (ent y) _ (by simpa [Function.comp_def, ent] using h3) (List.mem_map_of_mem hy)
  have hg1 : runC P w (getObj q) = some (.mapIter (some b) c (s0.push y.2.2) c) := by simp [getObj, runC, h6]
  have hg2 := runC_getMap (P := P) h1
  unfold Instr.entry
  simp only [bind_assoc]
  rw [runC_bind, hg1]
  simp only [Option.bind_some, Array.back?_push, bind_assoc]
  rw [runC_bind, hg2]
  simp only [Option.bind_some, bne_self_eq_false, Bool.false_eq_true, if_false]
  have hf' : Array.find? (fun x => x.born == y.2.2) (l.map ent).toArray = some (ent y) := hf
  rw [hf']
  simp [ent, hyv, runC_pure]

/-- behind the loop the map stands as before -/
theorem Holds.unIter (H : Holds w0 S A D w) (i : Nat) {b q T : Nat} {gm : Nat → Option Value} {ks : List Nat} (hi : A[i]? = some (mpi b q gm T ks)) : Holds w0 S (A.set i (mp b gm)) D w := by
  obtain ⟨h0, l, c, seen, h1, h2, h3, h4, h5, _⟩ := H.atom (List.mem_of_getElem? hi)
  refine H.turnAt i hi (Mod.refl _ _) ⟨l, c, h1, h2, h3, h4, h5⟩ (by simp [mp]) fun c' hc => ?_
  simp only [mp, List.mem_singleton] at hc
  subst hc
  exact ⟨H.lt _ (mem_owns.2 ⟨_, List.mem_of_getElem? hi, by simp [mpi]⟩), .inl (by simp [mpi])⟩
end
end Go.Proofs.YtljpfnjpifhdlaaGreatDoor
