/- The reader's goals. The reader's definitions. The reader's definitions: the walk. The program's text is parsed. The arithmetic program: its text, what it parses to, and what its searches find. FnPlus: the walk. -/
import Derived.Test.YtljpfnjpifhdlaaGreatDoorZ6
namespace Go.Proofs.YtljpfnjpifhdlaaGreatDoor
open Go
abbrev eqB : ByteArray := ⟨#[61]⟩
abbrev neB : ByteArray := ⟨#[47, 61]⟩
abbrev andB : ByteArray := ⟨#[97, 110, 100]⟩
abbrev orB : ByteArray := ⟨#[111, 114]⟩
abbrev trueB : ByteArray := ⟨#[116, 114, 117, 101]⟩
abbrev failB : ByteArray := ⟨#[102, 97, 105, 108]⟩
abbrev kindsL : KV := [(eqB, .int .i64 2), (neB, .int .i64 3), (⟨#[115, 121, 109, 98, 111, 108]⟩, .int .i64 4), (⟨#[110, 117, 109, 98, 101, 114]⟩, .int .i64 5), (⟨#[97, 98, 115, 101, 110, 116]⟩, .int .i64 6), (andB, .int .i64 7), (orB, .int .i64 8), (⟨#[110, 111, 116]⟩, .int .i64 10)]
def headV (s : ByteArray) : Option (Nat × ByteArray) := bif decide (s = eqB) then some (2, ⟨#[]⟩) else bif decide (s = neB) then some (3, ⟨#[]⟩) else bif decide (s = andB) then some (7, ⟨#[]⟩) else bif decide (s = orB) then some (8, ⟨#[]⟩)
  else bif relB s then some (9, s) else none
theorem kinds_rel {s : ByteArray} (h : relB s = true) : lookS kindsL s = none := by
  have ne : ∀ x : ByteArray, relB x = false → x ≠ s := fun x hx e => by rw [e, h] at hx; cases hx
  simp only [lookS]
  rw [if_neg (ne _ (by decide)), if_neg (ne _ (by decide)), if_neg (ne _ (by decide)), if_neg (ne _ (by decide)), if_neg (ne _ (by decide)), if_neg (ne _ (by decide)), if_neg (ne _ (by decide)), if_neg (ne _ (by decide))]
theorem head_cases {s : ByteArray} {k : Nat} {n : ByteArray} (h : headV s = some (k, n)) : (lookS kindsL s = some (.int .i64 (k : Nat)) ∧ n = ⟨#[]⟩ ∧ (k = 2 ∨ k = 3 ∨ k = 7 ∨ k = 8)) ∨ (relB s = true ∧ k = 9 ∧ n = s) := by
  unfold headV at h
  cases h1 : decide (s = eqB) with
  | true => rw [h1] at h; cases h; have e : s = eqB := (by simpa using h1); subst e; exact .inl ⟨rfl, rfl, .inl rfl⟩
  | false =>
    rw [h1] at h
    simp only [cond_false] at h
    cases h2 : decide (s = neB) with
    | true => rw [h2] at h; cases h; have e : s = neB := (by simpa using h2); subst e; exact .inl ⟨rfl, rfl, .inr (.inl rfl)⟩
    | false =>
      rw [h2] at h
      simp only [cond_false] at h
      cases h3 : decide (s = andB) with
      | true => rw [h3] at h; cases h; have e : s = andB := (by simpa using h3); subst e; exact .inl ⟨rfl, rfl, .inr (.inr (.inl rfl))⟩
      | false =>
        rw [h3] at h
        simp only [cond_false] at h
        cases h4 : decide (s = orB) with
        | true => rw [h4] at h; cases h; have e : s = orB := (by simpa using h4); subst e; exact .inl ⟨rfl, rfl, .inr (.inr (.inr rfl))⟩
        | false =>
          rw [h4] at h
          simp only [cond_false] at h
          cases h5 : relB s with
          | false => rw [h5] at h; cases h
          | true => rw [h5] at h; cases h; exact .inr ⟨rfl, rfl, rfl⟩
def kidsV (rec : Nat → Option (G × Nat)) (l : List ByteArray) : Nat → Nat → List G → Option (List G × Nat)
  | 0, _, _ => none
  | f + 1, i, gs => bif takeV l i parR then some (gs, i + 1) else match rec i with
    | none => none
    | some (g, j) => kidsV rec l f j (gs ++ [g])
def termsV (l : List ByteArray) : Nat → Nat → List T → Option (List T × Nat)
  | 0, _, _ => none
  | f + 1, i, ts => bif takeV l i parR then some (ts, i + 1) else match okV l i with
    | none => none
    | some (t, j) => termsV l f j (ts ++ [t])
def goalV : Nat → List ByteArray → Nat → Option (G × Nat)
  | 0, _, _ => none
  | f + 1, l, i => bif takeV l i trueB || takeV l i failB || !takeV l i parL || Nat.beq (i + 1) l.length then none else match headV (peekV l (i + 1)) with
    | none => none
    | some (k, n) => bif Nat.beq k 7 || Nat.beq k 8 then (match kidsV (goalV f l) l 60 (i + 2) [] with
      | none => none
      | some (gs, j) => some (.mk k n [] gs, j)) else (match termsV l 60 (i + 2) [] with
      | none => none
      | some (ts, j) => some (.mk k n ts [], j))
abbrev okF (r : Nat) : Value := .func (.func 38) #[.pointer (some ⟨r, 0, none⟩)] #[]
abbrev GoalRC (l : List ByteArray) (r c : Nat) (a : Option Addr) (rec : Nat → Option (G × Nat)) : Prop := ∀ {i j : Nat} {g : G} {M : Nat → Prop} {w : World}, rec i = some (g, j) → In (tkA r a l c) (tkD l a c) M i w →
  Calls Tryz.prog 39 #[.pointer (some ⟨r, 0, none⟩), okF r] w (Ret fun v w' => (∃ vs, v = .tuple #[.agg vs.toArray, .bool true] ∧ rdG M w' g vs) ∧ Out (tkA r a l c) (tkD l a c) M i j w w')
set_option maxHeartbeats 4000000 in
set_option maxRecDepth 100000 in
theorem goal_at {l : List ByteArray} {r c : Nat} {a : Option Addr} (hl : l.length ≤ 100000) {f : Nat} (ih : GoalRC l r c a (goalV f l)) : GoalRC l r c a (goalV (f + 1) l) := by
  intro i j g M wA hg hin
  have hM := hin.1
  simp only [goalV] at hg
  cases hb : takeV l i trueB || takeV l i failB || !takeV l i parL || Nat.beq (i + 1) l.length with
  | true => rw [hb] at hg; cases hg
  | false =>
  rw [hb] at hg
  simp only [cond_false] at hg
  simp only [Bool.or_eq_false_iff, Bool.not_eq_false'] at hb
  obtain ⟨⟨⟨hb1, hb2⟩, hb3⟩, hb4⟩ := hb
  obtain ⟨_, hil⟩ := takeV_true hb3
  have hi1 : i + 1 < l.length := by have := beq_ne hb4; omega
  refine enterCT Tryz.func39 rfl Tryz.ntmps39 rfl (by simp) ?_
  have H := hin.begin
  have H := H.add (d := (LSl LStr).dat M l [.slice a l.length c]) ((LSl LStr).grow _ _ _ _ _ (fun b _ hb => hb.elim id (hin.2.1 b)) hin.toks)
  refine W_rs ?_
  refine qrb H ?_; intro b4 w H
  (repeat (first | refine qq ?_ | (refine qds H ?_; intro H) | (refine qdr H ?_; intro H)))
  refine qa2 (hc := take_c (s := trueB) hl (H.into (A1 := [_]) (As := tkA r a l c) (ds := tkD l a c) (s := i) rfl hM (by simp))) (k := ?_)
  rintro _ w ⟨rfl, hout⟩
  have H := H.step (A1 := [_]) (As := tkA r a l c) rfl hout
  rw [hb1] at H ⊢
  simp only [cond_false] at H
  (repeat (first | refine qq ?_ | (refine qds H ?_; intro H) | (refine qrb H ?_; intro _ w H) | (refine qrs H ?_; intro w H) | (refine qdr H ?_; intro H)))
  refine qa2 (hc := take_c (s := failB) hl (H.into (A1 := [_]) (As := tkA r a l c) (ds := tkD l a c) (s := i) rfl hM (by simp))) (k := ?_)
  rintro _ w ⟨rfl, hout⟩
  have H := H.step (A1 := [_]) (As := tkA r a l c) rfl hout
  rw [hb2] at H ⊢
  simp only [cond_false] at H
  (repeat (first | refine qq ?_ | (refine qds H ?_; intro H) | (refine qrb H ?_; intro _ w H) | (refine qrs H ?_; intro w H) | (refine qdr H ?_; intro H)))
  refine qa2 (hc := take_c (s := parL) hl (H.into (A1 := [_]) (As := tkA r a l c) (ds := tkD l a c) (s := i) rfl hM (by simp))) (k := ?_)
  rintro _ w ⟨rfl, hout⟩
  have H := H.step (A1 := [_]) (As := tkA r a l c) rfl hout
  rw [hb3] at H ⊢
  simp only [cond_true] at H
  (repeat (first | refine qq ?_ | (refine qds H ?_; intro H) | (refine qrb H ?_; intro _ w H) | (refine qrs H ?_; intro w H) | (refine qdr H ?_; intro H)))
  refine WO_g rfl rfl (by exact rfl) (S_call1 _ (by exact rfl) (by exact rfl) (done_c (l := l) (i := i + 1) (c := c) (a := a) (H.bcells 1 2 rfl rfl)) ?_)
  rintro _ w ⟨rfl, hm⟩
  have H := H.call hm
  rw [hb4]
  (repeat (first | refine qq ?_ | (refine qds H ?_; intro H) | (refine qrb H ?_; intro _ w H) | (refine qrs H ?_; intro w H) | (refine qdr H ?_; intro H)))
  refine qa1 (hc := peek_c (H.bcells 1 2 rfl rfl) (H.dat (d := (LSl LStr).dat M l [.slice a l.length c]) (by simp))) (k := ?_)
  rintro _ w ⟨rfl, hm⟩
  have H := H.call hm
  (repeat (first | refine qq ?_ | (refine qds H ?_; intro H) | (refine qrb H ?_; intro _ w H) | (refine qrs H ?_; intro w H) | (refine qdr H ?_; intro H)))
  refine WO_s rfl (S_makeMapS H ?_); intro bm w H
  refine WO_n (S_insS H 0 _ _ _ (n := eqB) (v := .int .i64 2) (by exact rfl) (by exact rfl) (by exact rfl) (by exact rfl) rfl ?_); intro w H
  refine WO_n (S_insS H 0 _ _ _ (n := neB) (v := .int .i64 3) (by exact rfl) (by exact rfl) (by exact rfl) (by exact rfl) rfl ?_); intro w H
  refine WO_n (S_insS H 0 _ _ _ (n := ⟨#[115, 121, 109, 98, 111, 108]⟩) (v := .int .i64 4) (by exact rfl) (by exact rfl) (by exact rfl) (by exact rfl) rfl ?_); intro w H
  refine WO_n (S_insS H 0 _ _ _ (n := ⟨#[110, 117, 109, 98, 101, 114]⟩) (v := .int .i64 5) (by exact rfl) (by exact rfl) (by exact rfl) (by exact rfl) rfl ?_); intro w H
  refine WO_n (S_insS H 0 _ _ _ (n := ⟨#[97, 98, 115, 101, 110, 116]⟩) (v := .int .i64 6) (by exact rfl) (by exact rfl) (by exact rfl) (by exact rfl) rfl ?_); intro w H
  refine WO_n (S_insS H 0 _ _ _ (n := andB) (v := .int .i64 7) (by exact rfl) (by exact rfl) (by exact rfl) (by exact rfl) rfl ?_); intro w H
  refine WO_n (S_insS H 0 _ _ _ (n := orB) (v := .int .i64 8) (by exact rfl) (by exact rfl) (by exact rfl) (by exact rfl) rfl ?_); intro w H
  refine WO_n (S_insS H 0 _ _ _ (n := ⟨#[110, 111, 116]⟩) (v := .int .i64 10) (by exact rfl) (by exact rfl) (by exact rfl) (by exact rfl) rfl ?_); intro w H
  (repeat (first | refine qq ?_ | (refine qds H ?_; intro H) | (refine qrb H ?_; intro _ w H) | (refine qrs H ?_; intro w H) | (refine qdr H ?_; intro H)))
  --BODY
  cases hh : headV (peekV l (i + 1)) with
  | none => rw [hh] at hg; cases hg
  | some kn =>
  obtain ⟨k, n⟩ := kn
  rw [hh] at hg
  simp only [] at hg
  have hd : (lookS kindsL (peekV l (i + 1)) = some (.int .i64 (k : Nat)) ∧ n = ⟨#[]⟩ ∧ (k = 2 ∨ k = 3 ∨ k = 7 ∨ k = 8)) ∨ (relB (peekV l (i + 1)) = true ∧ k = 9 ∧ n = peekV l (i + 1)) := head_cases hh
  rcases hd with ⟨hlk, rfl, hk⟩ | ⟨hrel, rfl, rfl⟩
  · refine WO_rd rfl (X_lookSV H _ _ (by exact rfl) (by exact rfl) (List.Mem.head _) hlk) ?_
    (repeat (first | refine qq ?_ | (refine qds H ?_; intro H) | (refine qrb H ?_; intro _ w H) | (refine qrs H ?_; intro w H) | (refine qdr H ?_; intro H)))
    refine WO_rd rfl (X_build (by exact rfl) [(0, [.int .i64 (k : Nat)])] (by exact rfl) (xs := [.int .i64 (k : Nat), .string ⟨#[]⟩, .slice none 0 0, .slice none 0 0]) (by exact rfl)) ?_
    refine qrb H ?_; intro b10 w H
    refine qrs H ?_; intro w H
    (repeat (first | refine qq ?_ | (refine qds H ?_; intro H) | (refine qrb H ?_; intro _ w H) | (refine qrs H ?_; intro w H) | (refine qdr H ?_; intro H)))
    cases h78 : Nat.beq k 7 || Nat.beq k 8 with
    | true =>
      rw [h78] at hg
      simp only [cond_true] at hg
      have hk : k = 7 ∨ k = 8 := by simp only [Bool.or_eq_true] at h78; exact h78.imp beq_of beq_of
      rcases hk with rfl | rfl
      · -- and
        cases hts : kidsV (goalV f l) l 60 (i + 2) [] with
        | none => rw [hts] at hg; cases hg
        | some tj =>
        obtain ⟨gs, j'⟩ := tj
        rw [hts] at hg
        cases hg
        have H := (H.nilRow 37 4).dnil (L := LG) (M := M)
        refine W_loop (fun m f' w' => ∃ gg i' its a7 c7 vss, f' = sl gg [(0, .pointer (some ⟨r, 0, none⟩)), (1, okF r), (4, .pointer (some ⟨b4, 0, none⟩)), (10, .pointer (some ⟨b10, 0, none⟩))] ∧ kidsV (goalV f l) l m i' its = some (gs, j) ∧ its.length + m ≤ 60 ∧
          Holds wA (owns (tkA r a l c i)) [orow 37 4 (.slice a7 vss.length c7) vss, box b10 [.int .i64 (7 : Nat), .string ⟨#[]⟩, .slice none 0 0, .slice a7 vss.length c7] 37, box b4 goZ 37, box r (rcells a l c i') 64] [dall LG M its vss, (LSl LStr).dat M l [.slice a l.length c], Dat.wide M ((LSl LStr).dat (fun _ => False) l [.slice a l.length c])] w') 60
          ⟨_, i + 2, [], none, 0, [], sl_back ⟨rfl, rfl, rfl, rfl, trivial⟩, hts, Nat.le_refl _, H.sub (.cons_cons _ (.cons_cons _ (.cons _ (.cons_cons _ (.cons_cons _ (.refl _)))))) (by simp)⟩ ?_
        clear H hts
        rintro fu fr w ⟨gg, i', its, a7, c7, vss, rfl, ht, hits, H⟩
        have hvl := (Alls.get (H.dat (d := dall LG M its vss) (by simp))).1
        cases fu with
        | zero => cases ht
        | succ fu =>
        simp only [kidsV] at ht
        (repeat (first | refine qq ?_ | (refine qds H ?_; intro H) | (refine qrb H ?_; intro _ w H) | (refine qrs H ?_; intro w H) | (refine qdr H ?_; intro H)))
        refine qa2 (hc := take_c (s := parR) hl (H.into (A1 := [_, _, _]) (As := tkA r a l c) (ds := tkD l a c) (s := i') rfl hM (by simp))) (k := ?_)
        rintro _ w ⟨rfl, hout⟩
        have H := H.step (A1 := [_, _, _]) (As := tkA r a l c) rfl hout
        cases hr : takeV l i' parR with
        | true =>
          rw [hr] at ht H
          simp only [cond_true, Option.some.injEq, Prod.mk.injEq] at ht H
          obtain ⟨rfl, rfl⟩ := ht
          have H := Holds.freeze (A1 := []) (A2 := [_, _, _]) (M := M) (L := LG) (l := its) H hM (H.dat (by repeat (first | exact List.Mem.head _ | apply List.Mem.tail))) (by simp [owns, box])
          (repeat (first | refine qq ?_ | (refine qds H ?_; intro H) | (refine qrb H ?_; intro _ w H) | (refine qrs H ?_; intro w H) | (refine qdr H ?_; intro H)))
          exact ⟨_, _, _, rfl, H.bcells 1 4 rfl rfl, rfl, ⟨_, rfl, rdG_mk ⟨none, 0, 0, rfl, rfl, Nat.le_refl _, .inl rfl⟩ (H.out (L := LSl LG) (x := its) 0 rfl)⟩, H.outOf (M := M) (s' := i' + 1) (A1 := [_, _]) (As := tkA r a l c) (ds := tkD l a c) rfl rfl (by simp)⟩
        | false =>
        rw [hr] at ht H
        simp only [cond_false] at ht H
        cases ho : goalV f l i' with
        | none => rw [ho] at ht; cases ht
        | some tj =>
        obtain ⟨t, j'⟩ := tj
        rw [ho] at ht
        simp only [] at ht
        (repeat (first | refine qq ?_ | (refine qds H ?_; intro H) | (refine qrb H ?_; intro _ w H) | (refine qrs H ?_; intro w H) | (refine qdr H ?_; intro H)))
        refine qa2 (hc := ih ho (H.into (A1 := [_, _, _]) (As := tkA r a l c) (ds := tkD l a c) (s := i') rfl hM (by simp))) (k := ?_)
        rintro _ w ⟨⟨vs, rfl, hx⟩, hout⟩
        have hoo := hout.2.2.1
        obtain ⟨a1, c1, a2, c2, rfl, _⟩ := rdG_form hx
        have H := (H.step (A1 := [_, _, _]) (As := tkA r a l c) rfl hout).addO (A1 := [_, _, _]) (As := tkA r a l c) hoo (L := LG) hx
        (repeat (first | refine qq ?_ | (refine qds H ?_; intro H) | (refine qrb H ?_; intro _ w H) | (refine qrs H ?_; intro w H) | (refine qdr H ?_; intro H)))
        (first | refine WO_s rfl (S_bslice1N H _ (by exact rfl) (by exact rfl) (by exact rfl) (by exact rfl) (by exact rfl) ?_) | refine WO_s rfl (S_bslice1s H _ (by exact rfl) (by exact rfl) (by exact rfl) ?_)); intro b98 w H
        refine WO_s rfl (S_append H 2 _ _ (vs := [.int .i64 (t.kind : Nat), .string t.name, .slice a1 t.terms.length c1, .slice a2 t.kids.length c2]) (by exact rfl) (by exact rfl) (by exact rfl) (H.bcells 0 4 rfl rfl) rfl (by simp [Value.oneCell']) (by simp) (by exact rfl) (by omega) ?_)
        intro v'' w H
        obtain ⟨a11, c11, rfl⟩ := H.rowVal 2 rfl
        have H := H.snoc (L := LG) (M := M) (l := its) (vss := vss) (x := t) (by simp) (H.dat (d := LG.dat M t [.int .i64 (t.kind : Nat), .string t.name, .slice a1 t.terms.length c1, .slice a2 t.kids.length c2]) (by simp))
        (repeat (first | refine qq ?_ | (refine qds H ?_; intro H) | (refine qrb H ?_; intro _ w H) | (refine qrs H ?_; intro w H) | (refine qdr H ?_; intro H)))
        exact ⟨fu, by omega, _, j', its ++ [t], a11, c11, vss ++ [[.int .i64 (t.kind : Nat), .string t.name, .slice a1 t.terms.length c1, .slice a2 t.kids.length c2]], sl_back ⟨rfl, rfl, rfl, rfl, trivial⟩, ht, by simp; omega, H.sub (.cons _ (.cons _ (.refl _))) (by simp)⟩
      · -- or
        cases hts : kidsV (goalV f l) l 60 (i + 2) [] with
        | none => rw [hts] at hg; cases hg
        | some tj =>
        obtain ⟨gs, j'⟩ := tj
        rw [hts] at hg
        cases hg
        have H := (H.nilRow 37 4).dnil (L := LG) (M := M)
        refine W_loop (fun m f' w' => ∃ gg i' its a7 c7 vss, f' = sl gg [(0, .pointer (some ⟨r, 0, none⟩)), (1, okF r), (4, .pointer (some ⟨b4, 0, none⟩)), (10, .pointer (some ⟨b10, 0, none⟩))] ∧ kidsV (goalV f l) l m i' its = some (gs, j) ∧ its.length + m ≤ 60 ∧
          Holds wA (owns (tkA r a l c i)) [orow 37 4 (.slice a7 vss.length c7) vss, box b10 [.int .i64 (8 : Nat), .string ⟨#[]⟩, .slice none 0 0, .slice a7 vss.length c7] 37, box b4 goZ 37, box r (rcells a l c i') 64] [dall LG M its vss, (LSl LStr).dat M l [.slice a l.length c], Dat.wide M ((LSl LStr).dat (fun _ => False) l [.slice a l.length c])] w') 60
          ⟨_, i + 2, [], none, 0, [], sl_back ⟨rfl, rfl, rfl, rfl, trivial⟩, hts, Nat.le_refl _, H.sub (.cons_cons _ (.cons_cons _ (.cons _ (.cons_cons _ (.cons_cons _ (.refl _)))))) (by simp)⟩ ?_
        clear H hts
        rintro fu fr w ⟨gg, i', its, a7, c7, vss, rfl, ht, hits, H⟩
        have hvl := (Alls.get (H.dat (d := dall LG M its vss) (by simp))).1
        cases fu with
        | zero => cases ht
        | succ fu =>
        simp only [kidsV] at ht
        (repeat (first | refine qq ?_ | (refine qds H ?_; intro H) | (refine qrb H ?_; intro _ w H) | (refine qrs H ?_; intro w H) | (refine qdr H ?_; intro H)))
        refine qa2 (hc := take_c (s := parR) hl (H.into (A1 := [_, _, _]) (As := tkA r a l c) (ds := tkD l a c) (s := i') rfl hM (by simp))) (k := ?_)
        rintro _ w ⟨rfl, hout⟩
        have H := H.step (A1 := [_, _, _]) (As := tkA r a l c) rfl hout
        cases hr : takeV l i' parR with
        | true =>
          rw [hr] at ht H
          simp only [cond_true, Option.some.injEq, Prod.mk.injEq] at ht H
          obtain ⟨rfl, rfl⟩ := ht
          have H := Holds.freeze (A1 := []) (A2 := [_, _, _]) (M := M) (L := LG) (l := its) H hM (H.dat (by repeat (first | exact List.Mem.head _ | apply List.Mem.tail))) (by simp [owns, box])
          (repeat (first | refine qq ?_ | (refine qds H ?_; intro H) | (refine qrb H ?_; intro _ w H) | (refine qrs H ?_; intro w H) | (refine qdr H ?_; intro H)))
          exact ⟨_, _, _, rfl, H.bcells 1 4 rfl rfl, rfl, ⟨_, rfl, rdG_mk ⟨none, 0, 0, rfl, rfl, Nat.le_refl _, .inl rfl⟩ (H.out (L := LSl LG) (x := its) 0 rfl)⟩, H.outOf (M := M) (s' := i' + 1) (A1 := [_, _]) (As := tkA r a l c) (ds := tkD l a c) rfl rfl (by simp)⟩
        | false =>
        rw [hr] at ht H
        simp only [cond_false] at ht H
        cases ho : goalV f l i' with
        | none => rw [ho] at ht; cases ht
        | some tj =>
        obtain ⟨t, j'⟩ := tj
        rw [ho] at ht
        simp only [] at ht
        (repeat (first | refine qq ?_ | (refine qds H ?_; intro H) | (refine qrb H ?_; intro _ w H) | (refine qrs H ?_; intro w H) | (refine qdr H ?_; intro H)))
        refine qa2 (hc := ih ho (H.into (A1 := [_, _, _]) (As := tkA r a l c) (ds := tkD l a c) (s := i') rfl hM (by simp))) (k := ?_)
        rintro _ w ⟨⟨vs, rfl, hx⟩, hout⟩
        have hoo := hout.2.2.1
        obtain ⟨a1, c1, a2, c2, rfl, _⟩ := rdG_form hx
        have H := (H.step (A1 := [_, _, _]) (As := tkA r a l c) rfl hout).addO (A1 := [_, _, _]) (As := tkA r a l c) hoo (L := LG) hx
        (repeat (first | refine qq ?_ | (refine qds H ?_; intro H) | (refine qrb H ?_; intro _ w H) | (refine qrs H ?_; intro w H) | (refine qdr H ?_; intro H)))
        (first | refine WO_s rfl (S_bslice1N H _ (by exact rfl) (by exact rfl) (by exact rfl) (by exact rfl) (by exact rfl) ?_) | refine WO_s rfl (S_bslice1s H _ (by exact rfl) (by exact rfl) (by exact rfl) ?_)); intro b98 w H
        refine WO_s rfl (S_append H 2 _ _ (vs := [.int .i64 (t.kind : Nat), .string t.name, .slice a1 t.terms.length c1, .slice a2 t.kids.length c2]) (by exact rfl) (by exact rfl) (by exact rfl) (H.bcells 0 4 rfl rfl) rfl (by simp [Value.oneCell']) (by simp) (by exact rfl) (by omega) ?_)
        intro v'' w H
        obtain ⟨a11, c11, rfl⟩ := H.rowVal 2 rfl
        have H := H.snoc (L := LG) (M := M) (l := its) (vss := vss) (x := t) (by simp) (H.dat (d := LG.dat M t [.int .i64 (t.kind : Nat), .string t.name, .slice a1 t.terms.length c1, .slice a2 t.kids.length c2]) (by simp))
        (repeat (first | refine qq ?_ | (refine qds H ?_; intro H) | (refine qrb H ?_; intro _ w H) | (refine qrs H ?_; intro w H) | (refine qdr H ?_; intro H)))
        exact ⟨fu, by omega, _, j', its ++ [t], a11, c11, vss ++ [[.int .i64 (t.kind : Nat), .string t.name, .slice a1 t.terms.length c1, .slice a2 t.kids.length c2]], sl_back ⟨rfl, rfl, rfl, rfl, trivial⟩, ht, by simp; omega, H.sub (.cons _ (.cons _ (.refl _))) (by simp)⟩
    | false =>
      rw [h78] at hg
      simp only [cond_false] at hg
      have hk : k = 2 ∨ k = 3 := by
        simp only [Bool.or_eq_false_iff] at h78
        have := beq_ne h78.1
        have := beq_ne h78.2
        omega
      rcases hk with rfl | rfl
      · skip
        cases hts : termsV l 60 (i + 2) [] with
        | none => rw [hts] at hg; cases hg
        | some tj =>
        obtain ⟨ts, j'⟩ := tj
        rw [hts] at hg
        cases hg
        have H := (H.nilRow 32 4).dnil (L := LT) (M := M)
        refine W_loop (fun m f w' => ∃ gg i' its a7 c7 vss, f = sl gg [(0, .pointer (some ⟨r, 0, none⟩)), (1, okF r), (4, .pointer (some ⟨b4, 0, none⟩)), (10, .pointer (some ⟨b10, 0, none⟩))] ∧ termsV l m i' its = some (ts, j) ∧ its.length + m ≤ 60 ∧
          Holds wA (owns (tkA r a l c i)) [orow 32 4 (.slice a7 vss.length c7) vss, box b10 [.int .i64 (2 : Nat), .string ⟨#[]⟩, .slice a7 vss.length c7, .slice none 0 0] 37, box b4 goZ 37, box r (rcells a l c i') 64] [dall LT M its vss, (LSl LStr).dat M l [.slice a l.length c], Dat.wide M ((LSl LStr).dat (fun _ => False) l [.slice a l.length c])] w') 60
          ⟨_, i + 2, [], none, 0, [], sl_back ⟨rfl, rfl, rfl, rfl, trivial⟩, hts, Nat.le_refl _, H.sub (.cons_cons _ (.cons_cons _ (.cons _ (.cons_cons _ (.cons_cons _ (.refl _)))))) (by simp)⟩ ?_
        clear H hts
        rintro fu f w ⟨gg, i', its, a7, c7, vss, rfl, ht, hits, H⟩
        have hvl := (Alls.get (H.dat (d := dall LT M its vss) (by simp))).1
        cases fu with
        | zero => cases ht
        | succ fu =>
        simp only [termsV] at ht
        (repeat (first | refine qq ?_ | (refine qds H ?_; intro H) | (refine qrb H ?_; intro _ w H) | (refine qrs H ?_; intro w H) | (refine qdr H ?_; intro H)))
        refine qa2 (hc := take_c (s := parR) hl (H.into (A1 := [_, _, _]) (As := tkA r a l c) (ds := tkD l a c) (s := i') rfl hM (by simp))) (k := ?_)
        rintro _ w ⟨rfl, hout⟩
        have H := H.step (A1 := [_, _, _]) (As := tkA r a l c) rfl hout
        cases hr : takeV l i' parR with
        | true =>
          rw [hr] at ht H
          simp only [cond_true, Option.some.injEq, Prod.mk.injEq] at ht H
          obtain ⟨rfl, rfl⟩ := ht
          have H := Holds.freeze (A1 := []) (A2 := [_, _, _]) (M := M) (L := LT) (l := its) H hM (H.dat (by repeat (first | exact List.Mem.head _ | apply List.Mem.tail))) (by simp [owns, box])
          (repeat (first | refine qq ?_ | (refine qds H ?_; intro H) | (refine qrb H ?_; intro _ w H) | (refine qrs H ?_; intro w H) | (refine qdr H ?_; intro H)))
          exact ⟨_, _, _, rfl, H.bcells 1 4 rfl rfl, rfl, ⟨_, rfl, rdG_mk (H.out (L := LSl LT) (x := its) 0 rfl) ⟨none, 0, 0, rfl, rfl, Nat.le_refl _, .inl rfl⟩⟩, H.outOf (M := M) (s' := i' + 1) (A1 := [_, _]) (As := tkA r a l c) (ds := tkD l a c) rfl rfl (by simp)⟩
        | false =>
        rw [hr] at ht H
        simp only [cond_false] at ht H
        cases ho : okV l i' with
        | none => rw [ho] at ht; cases ht
        | some tj =>
        obtain ⟨t, j'⟩ := tj
        rw [ho] at ht
        simp only [] at ht
        (repeat (first | refine qq ?_ | (refine qds H ?_; intro H) | (refine qrb H ?_; intro _ w H) | (refine qrs H ?_; intro w H) | (refine qdr H ?_; intro H)))
        refine WO_s rfl (S_cloB (f := 38) (by exact rfl) (okTerm_c hl ho (H.into (A1 := [_, _, _]) (As := tkA r a l c) (ds := tkD l a c) (s := i') rfl hM (by simp))) ?_)
        rintro _ w ⟨⟨vs, rfl, hx⟩, hout⟩
        have hoo := hout.2.2.1
        obtain ⟨a1, c1, rfl⟩ := rdT_four hx
        have H := (H.step (A1 := [_, _, _]) (As := tkA r a l c) rfl hout).addO (A1 := [_, _, _]) (As := tkA r a l c) hoo (L := LT) hx
        (repeat (first | refine qq ?_ | (refine qds H ?_; intro H) | (refine qrb H ?_; intro _ w H) | (refine qrs H ?_; intro w H) | (refine qdr H ?_; intro H)))
        (first | refine WO_s rfl (S_bslice1N H _ (by exact rfl) (by exact rfl) (by exact rfl) (by exact rfl) (by exact rfl) ?_) | refine WO_s rfl (S_bslice1s H _ (by exact rfl) (by exact rfl) (by exact rfl) ?_)); intro b98 w H
        refine WO_s rfl (S_append H 2 _ _ (vs := [.int .i64 t.kind, .int .i64 t.int, .string t.name, .slice a1 t.args.length c1]) (by exact rfl) (by exact rfl) (by exact rfl) (H.bcells 0 4 rfl rfl) rfl (by simp [Value.oneCell']) (by simp) (by exact rfl) (by omega) ?_)
        intro v'' w H
        obtain ⟨a11, c11, rfl⟩ := H.rowVal 2 rfl
        have H := H.snoc (L := LT) (M := M) (l := its) (vss := vss) (x := t) (by simp) (H.dat (d := LT.dat M t [.int .i64 t.kind, .int .i64 t.int, .string t.name, .slice a1 t.args.length c1]) (by simp))
        (repeat (first | refine qq ?_ | (refine qds H ?_; intro H) | (refine qrb H ?_; intro _ w H) | (refine qrs H ?_; intro w H) | (refine qdr H ?_; intro H)))
        exact ⟨fu, by omega, _, j', its ++ [t], a11, c11, vss ++ [[.int .i64 t.kind, .int .i64 t.int, .string t.name, .slice a1 t.args.length c1]], sl_back ⟨rfl, rfl, rfl, rfl, trivial⟩, ht, by simp; omega, H.sub (.cons _ (.cons _ (.refl _))) (by simp)⟩
      · skip
        cases hts : termsV l 60 (i + 2) [] with
        | none => rw [hts] at hg; cases hg
        | some tj =>
        obtain ⟨ts, j'⟩ := tj
        rw [hts] at hg
        cases hg
        have H := (H.nilRow 32 4).dnil (L := LT) (M := M)
        refine W_loop (fun m f w' => ∃ gg i' its a7 c7 vss, f = sl gg [(0, .pointer (some ⟨r, 0, none⟩)), (1, okF r), (4, .pointer (some ⟨b4, 0, none⟩)), (10, .pointer (some ⟨b10, 0, none⟩))] ∧ termsV l m i' its = some (ts, j) ∧ its.length + m ≤ 60 ∧
          Holds wA (owns (tkA r a l c i)) [orow 32 4 (.slice a7 vss.length c7) vss, box b10 [.int .i64 (3 : Nat), .string ⟨#[]⟩, .slice a7 vss.length c7, .slice none 0 0] 37, box b4 goZ 37, box r (rcells a l c i') 64] [dall LT M its vss, (LSl LStr).dat M l [.slice a l.length c], Dat.wide M ((LSl LStr).dat (fun _ => False) l [.slice a l.length c])] w') 60
          ⟨_, i + 2, [], none, 0, [], sl_back ⟨rfl, rfl, rfl, rfl, trivial⟩, hts, Nat.le_refl _, H.sub (.cons_cons _ (.cons_cons _ (.cons _ (.cons_cons _ (.cons_cons _ (.refl _)))))) (by simp)⟩ ?_
        clear H hts
        rintro fu f w ⟨gg, i', its, a7, c7, vss, rfl, ht, hits, H⟩
        have hvl := (Alls.get (H.dat (d := dall LT M its vss) (by simp))).1
        cases fu with
        | zero => cases ht
        | succ fu =>
        simp only [termsV] at ht
        (repeat (first | refine qq ?_ | (refine qds H ?_; intro H) | (refine qrb H ?_; intro _ w H) | (refine qrs H ?_; intro w H) | (refine qdr H ?_; intro H)))
        refine qa2 (hc := take_c (s := parR) hl (H.into (A1 := [_, _, _]) (As := tkA r a l c) (ds := tkD l a c) (s := i') rfl hM (by simp))) (k := ?_)
        rintro _ w ⟨rfl, hout⟩
        have H := H.step (A1 := [_, _, _]) (As := tkA r a l c) rfl hout
        cases hr : takeV l i' parR with
        | true =>
          rw [hr] at ht H
          simp only [cond_true, Option.some.injEq, Prod.mk.injEq] at ht H
          obtain ⟨rfl, rfl⟩ := ht
          have H := Holds.freeze (A1 := []) (A2 := [_, _, _]) (M := M) (L := LT) (l := its) H hM (H.dat (by repeat (first | exact List.Mem.head _ | apply List.Mem.tail))) (by simp [owns, box])
          (repeat (first | refine qq ?_ | (refine qds H ?_; intro H) | (refine qrb H ?_; intro _ w H) | (refine qrs H ?_; intro w H) | (refine qdr H ?_; intro H)))
          exact ⟨_, _, _, rfl, H.bcells 1 4 rfl rfl, rfl, ⟨_, rfl, rdG_mk (H.out (L := LSl LT) (x := its) 0 rfl) ⟨none, 0, 0, rfl, rfl, Nat.le_refl _, .inl rfl⟩⟩, H.outOf (M := M) (s' := i' + 1) (A1 := [_, _]) (As := tkA r a l c) (ds := tkD l a c) rfl rfl (by simp)⟩
        | false =>
        rw [hr] at ht H
        simp only [cond_false] at ht H
        cases ho : okV l i' with
        | none => rw [ho] at ht; cases ht
        | some tj =>
        obtain ⟨t, j'⟩ := tj
        rw [ho] at ht
        simp only [] at ht
        (repeat (first | refine qq ?_ | (refine qds H ?_; intro H) | (refine qrb H ?_; intro _ w H) | (refine qrs H ?_; intro w H) | (refine qdr H ?_; intro H)))
        refine WO_s rfl (S_cloB (f := 38) (by exact rfl) (okTerm_c hl ho (H.into (A1 := [_, _, _]) (As := tkA r a l c) (ds := tkD l a c) (s := i') rfl hM (by simp))) ?_)
        rintro _ w ⟨⟨vs, rfl, hx⟩, hout⟩
        have hoo := hout.2.2.1
        obtain ⟨a1, c1, rfl⟩ := rdT_four hx
        have H := (H.step (A1 := [_, _, _]) (As := tkA r a l c) rfl hout).addO (A1 := [_, _, _]) (As := tkA r a l c) hoo (L := LT) hx
        (repeat (first | refine qq ?_ | (refine qds H ?_; intro H) | (refine qrb H ?_; intro _ w H) | (refine qrs H ?_; intro w H) | (refine qdr H ?_; intro H)))
        (first | refine WO_s rfl (S_bslice1N H _ (by exact rfl) (by exact rfl) (by exact rfl) (by exact rfl) (by exact rfl) ?_) | refine WO_s rfl (S_bslice1s H _ (by exact rfl) (by exact rfl) (by exact rfl) ?_)); intro b98 w H
        refine WO_s rfl (S_append H 2 _ _ (vs := [.int .i64 t.kind, .int .i64 t.int, .string t.name, .slice a1 t.args.length c1]) (by exact rfl) (by exact rfl) (by exact rfl) (H.bcells 0 4 rfl rfl) rfl (by simp [Value.oneCell']) (by simp) (by exact rfl) (by omega) ?_)
        intro v'' w H
        obtain ⟨a11, c11, rfl⟩ := H.rowVal 2 rfl
        have H := H.snoc (L := LT) (M := M) (l := its) (vss := vss) (x := t) (by simp) (H.dat (d := LT.dat M t [.int .i64 t.kind, .int .i64 t.int, .string t.name, .slice a1 t.args.length c1]) (by simp))
        (repeat (first | refine qq ?_ | (refine qds H ?_; intro H) | (refine qrb H ?_; intro _ w H) | (refine qrs H ?_; intro w H) | (refine qdr H ?_; intro H)))
        exact ⟨fu, by omega, _, j', its ++ [t], a11, c11, vss ++ [[.int .i64 t.kind, .int .i64 t.int, .string t.name, .slice a1 t.args.length c1]], sl_back ⟨rfl, rfl, rfl, rfl, trivial⟩, ht, by simp; omega, H.sub (.cons _ (.cons _ (.refl _))) (by simp)⟩
  · refine WO_rd rfl (X_lookSN H _ _ (by exact rfl) (by exact rfl) (List.Mem.head _) (kinds_rel hrel)) ?_
    (repeat (first | refine qq ?_ | (refine qds H ?_; intro H) | (refine qrb H ?_; intro _ w H) | (refine qrs H ?_; intro w H) | (refine qdr H ?_; intro H)))
    refine WO_rd rfl (X_build (by exact rfl) [(0, [.int .i64 0])] (by exact rfl) (xs := [.int .i64 0, .string ⟨#[]⟩, .slice none 0 0, .slice none 0 0]) (by exact rfl)) ?_
    refine qrb H ?_; intro b10 w H
    refine qrs H ?_; intro w H
    (repeat (first | refine qq ?_ | (refine qds H ?_; intro H) | (refine qrb H ?_; intro _ w H) | (refine qrs H ?_; intro w H) | (refine qdr H ?_; intro H)))
    refine qa1 (hc := IsRelName_c (peekV l (i + 1)) w hrel) (k := ?_)
    rintro _ w ⟨rfl, hm⟩
    have H := H.call hm
    (repeat (first | refine qq ?_ | (refine qds H ?_; intro H) | (refine qrb H ?_; intro _ w H) | (refine qrs H ?_; intro w H) | (refine qdr H ?_; intro H)))
    refine WO_rd rfl (X_build (by exact rfl) [(0, [.int .i64 9]), (1, [.string (peekV l (i + 1))])] (by exact rfl) (xs := [.int .i64 9, .string (peekV l (i + 1)), .slice none 0 0, .slice none 0 0]) (by exact rfl)) ?_
    (repeat (first | refine qq ?_ | (refine qds H ?_; intro H) | (refine qrb H ?_; intro _ w H) | (refine qrs H ?_; intro w H) | (refine qdr H ?_; intro H)))
    have h78 : (Nat.beq 9 7 || Nat.beq 9 8) = false := rfl
    rw [h78] at hg
    simp only [cond_false] at hg
    cases hts : termsV l 60 (i + 2) [] with
    | none => rw [hts] at hg; cases hg
    | some tj =>
    obtain ⟨ts, j'⟩ := tj
    rw [hts] at hg
    cases hg
    have H := (H.nilRow 32 4).dnil (L := LT) (M := M)
    refine W_loop (fun m f w' => ∃ gg i' its a7 c7 vss, f = sl gg [(0, .pointer (some ⟨r, 0, none⟩)), (1, okF r), (4, .pointer (some ⟨b4, 0, none⟩)), (10, .pointer (some ⟨b10, 0, none⟩))] ∧ termsV l m i' its = some (ts, j) ∧ its.length + m ≤ 60 ∧
      Holds wA (owns (tkA r a l c i)) [orow 32 4 (.slice a7 vss.length c7) vss, box b10 [.int .i64 (9 : Nat), .string (peekV l (i + 1)), .slice a7 vss.length c7, .slice none 0 0] 37, box b4 goZ 37, box r (rcells a l c i') 64] [dall LT M its vss, (LSl LStr).dat M l [.slice a l.length c], Dat.wide M ((LSl LStr).dat (fun _ => False) l [.slice a l.length c])] w') 60
      ⟨_, i + 2, [], none, 0, [], sl_back ⟨rfl, rfl, rfl, rfl, trivial⟩, hts, Nat.le_refl _, H.sub (.cons_cons _ (.cons_cons _ (.cons _ (.cons_cons _ (.cons_cons _ (.refl _)))))) (by simp)⟩ ?_
    clear H hts
    rintro fu f w ⟨gg, i', its, a7, c7, vss, rfl, ht, hits, H⟩
    have hvl := (Alls.get (H.dat (d := dall LT M its vss) (by simp))).1
    cases fu with
    | zero => cases ht
    | succ fu =>
    simp only [termsV] at ht
    (repeat (first | refine qq ?_ | (refine qds H ?_; intro H) | (refine qrb H ?_; intro _ w H) | (refine qrs H ?_; intro w H) | (refine qdr H ?_; intro H)))
    refine qa2 (hc := take_c (s := parR) hl (H.into (A1 := [_, _, _]) (As := tkA r a l c) (ds := tkD l a c) (s := i') rfl hM (by simp))) (k := ?_)
    rintro _ w ⟨rfl, hout⟩
    have H := H.step (A1 := [_, _, _]) (As := tkA r a l c) rfl hout
    cases hr : takeV l i' parR with
    | true =>
      rw [hr] at ht H
      simp only [cond_true, Option.some.injEq, Prod.mk.injEq] at ht H
      obtain ⟨rfl, rfl⟩ := ht
      have H := Holds.freeze (A1 := []) (A2 := [_, _, _]) (M := M) (L := LT) (l := its) H hM (H.dat (by repeat (first | exact List.Mem.head _ | apply List.Mem.tail))) (by simp [owns, box])
      (repeat (first | refine qq ?_ | (refine qds H ?_; intro H) | (refine qrb H ?_; intro _ w H) | (refine qrs H ?_; intro w H) | (refine qdr H ?_; intro H)))
      exact ⟨_, _, _, rfl, H.bcells 1 4 rfl rfl, rfl, ⟨_, rfl, rdG_mk (H.out (L := LSl LT) (x := its) 0 rfl) ⟨none, 0, 0, rfl, rfl, Nat.le_refl _, .inl rfl⟩⟩, H.outOf (M := M) (s' := i' + 1) (A1 := [_, _]) (As := tkA r a l c) (ds := tkD l a c) rfl rfl (by simp)⟩
    | false =>
    rw [hr] at ht H
    simp only [cond_false] at ht H
    cases ho : okV l i' with
    | none => rw [ho] at ht; cases ht
    | some tj =>
    obtain ⟨t, j'⟩ := tj
    rw [ho] at ht
    simp only [] at ht
    (repeat (first | refine qq ?_ | (refine qds H ?_; intro H) | (refine qrb H ?_; intro _ w H) | (refine qrs H ?_; intro w H) | (refine qdr H ?_; intro H)))
    refine WO_s rfl (S_cloB (f := 38) (by exact rfl) (okTerm_c hl ho (H.into (A1 := [_, _, _]) (As := tkA r a l c) (ds := tkD l a c) (s := i') rfl hM (by simp))) ?_)
    rintro _ w ⟨⟨vs, rfl, hx⟩, hout⟩
    have hoo := hout.2.2.1
    obtain ⟨a1, c1, rfl⟩ := rdT_four hx
    have H := (H.step (A1 := [_, _, _]) (As := tkA r a l c) rfl hout).addO (A1 := [_, _, _]) (As := tkA r a l c) hoo (L := LT) hx
    (repeat (first | refine qq ?_ | (refine qds H ?_; intro H) | (refine qrb H ?_; intro _ w H) | (refine qrs H ?_; intro w H) | (refine qdr H ?_; intro H)))
    (first | refine WO_s rfl (S_bslice1N H _ (by exact rfl) (by exact rfl) (by exact rfl) (by exact rfl) (by exact rfl) ?_) | refine WO_s rfl (S_bslice1s H _ (by exact rfl) (by exact rfl) (by exact rfl) ?_)); intro b98 w H
    refine WO_s rfl (S_append H 2 _ _ (vs := [.int .i64 t.kind, .int .i64 t.int, .string t.name, .slice a1 t.args.length c1]) (by exact rfl) (by exact rfl) (by exact rfl) (H.bcells 0 4 rfl rfl) rfl (by simp [Value.oneCell']) (by simp) (by exact rfl) (by omega) ?_)
    intro v'' w H
    obtain ⟨a11, c11, rfl⟩ := H.rowVal 2 rfl
    have H := H.snoc (L := LT) (M := M) (l := its) (vss := vss) (x := t) (by simp) (H.dat (d := LT.dat M t [.int .i64 t.kind, .int .i64 t.int, .string t.name, .slice a1 t.args.length c1]) (by simp))
    (repeat (first | refine qq ?_ | (refine qds H ?_; intro H) | (refine qrb H ?_; intro _ w H) | (refine qrs H ?_; intro w H) | (refine qdr H ?_; intro H)))
    exact ⟨fu, by omega, _, j', its ++ [t], a11, c11, vss ++ [[.int .i64 t.kind, .int .i64 t.int, .string t.name, .slice a1 t.args.length c1]], sl_back ⟨rfl, rfl, rfl, rfl, trivial⟩, ht, by simp; omega, H.sub (.cons _ (.cons _ (.refl _))) (by simp)⟩
theorem goal_c {l : List ByteArray} {r c : Nat} {a : Option Addr} (hl : l.length ≤ 100000) : ∀ f, GoalRC l r c a (goalV f l)
  | 0 => by intro h; cases h
  | f + 1 => goal_at hl (goal_c hl f)
end Go.Proofs.YtljpfnjpifhdlaaGreatDoor
namespace Go.Proofs.YtljpfnjpifhdlaaGreatDoor
open Go
abbrev defineB : ByteArray := ⟨#[100, 101, 102, 105, 110, 101]⟩
def scanV (l : List ByteArray) : Nat → Nat → Nat → Option Nat
  | 0, _, _ => none
  | f + 1, i, d => match l[i]? with
    | none => none
    | some s => bif decide (s = parL) then scanV l f (i + 1) (d + 1) else bif decide (s = parR) then (match d with
      | 0 => some (i + 1)
      | d + 1 => scanV l f (i + 1) d) else scanV l f (i + 1) d
def idxV : List ByteArray → ByteArray → Nat → Option Nat
  | [], _, _ => none
  | x :: l, s, k => if x = s then some k else idxV l s (k + 1)
def kvOf : List ByteArray → Nat → KV
  | [], _ => []
  | x :: l, k => (x, .int .i64 (k : Nat)) :: kvOf l (k + 1)
theorem look_kv {s : ByteArray} : ∀ {l : List ByteArray} {k : Nat}, lookS (kvOf l k) s = (idxV l s k).map fun j => .int .i64 (j : Nat)
  | [], _ => rfl
  | x :: l, k => by
    simp only [kvOf, lookS, idxV]
    split
    · rfl
    · exact look_kv
theorem kv_snoc {s : ByteArray} : ∀ {l : List ByteArray} {k : Nat}, kvOf (l ++ [s]) k = kvOf l k ++ [(s, .int .i64 ((k + l.length : Nat) : Int))]
  | [], k => rfl
  | x :: l, k => by
    simp only [List.cons_append, kvOf, kv_snoc (l := l) (k := k + 1), List.length_cons]
    rw [show k + 1 + l.length = k + (l.length + 1) by omega]
theorem kv_len : ∀ {l : List ByteArray} {k : Nat}, (kvOf l k).length = l.length
  | [], _ => rfl
  | x :: l, k => by simp [kvOf, kv_len (l := l)]
def firstB (s : ByteArray) : Nat := (s.data.toList.getD 0 0).toNat
/-- a variable's token renamed: its number, the names behind it -/
def renOne (s : ByteArray) (ns : List ByteArray) : Option (Nat × List ByteArray) :=
  bif nameB (s.extract 1 s.size) then (match idxV ns s 0 with
    | some k => bif Nat.blt k 10 then some (k, ns) else none
    | none => bif Nat.blt ns.length 10 then some (ns.length, ns ++ [s]) else none) else none
def renV : List ByteArray → List ByteArray → Option (List ByteArray × List ByteArray)
  | [], ns => some ([], ns)
  | s :: rest, ns => bif Nat.blt 0 s.size then (bif Nat.beq (firstB s) 63 then (match renOne s ns with
    | none => none
    | some (k, ns') => match renV rest ns' with
      | none => none
      | some (l, ns'') => some (qd k :: l, ns'')) else match renV rest ns with
    | none => none
    | some (l, ns'') => some (s :: l, ns'')) else none
def argsV (l : List ByteArray) : Nat → Nat → Nat → Option (Nat × Nat)
  | 0, _, _ => none
  | f + 1, i, n => bif takeV l i parR then some (n, i + 1) else match okV l i with
    | some (.var k, j) => bif Nat.beq k n then argsV l f j (n + 1) else none
    | _ => none
def defV (l : List ByteArray) (i : Nat) : Option (Rl × Nat) :=
  bif takeV l i parL && takeV l (i + 1) defineB && takeV l (i + 2) parL && Nat.blt (i + 3) l.length then (match scanV l 1000 (i + 4) 0 with
    | none => none
    | some to => match scanV l 1000 to 0 with
      | none => none
      | some en => match renV ((l.take en).drop (i + 4)) [] with
        | none => none
        | some (toks, ns) => match argsV (l.take (i + 4) ++ toks) 20 (i + 4) 0 with
          | none => none
          | some (ar, j) => match goalV 20 (l.take (i + 4) ++ toks) j with
            | none => none
            | some (g, j2) => bif takeV (l.take (i + 4) ++ toks) j2 parR && Nat.ble ar ns.length then some (⟨peekV l (i + 3), ar, ns.length - ar, g⟩, j2 + 1) else none) else none
theorem scanV_lt {l : List ByteArray} : ∀ {f i d e : Nat}, scanV l f i d = some e → i < e ∧ e ≤ l.length
  | 0, _, _, _, h => by cases h
  | f + 1, i, d, e, h => by
    unfold scanV at h
    cases hs : l[i]? with
    | none => rw [hs] at h; cases h
    | some s =>
      rw [hs] at h
      have hi := (List.getElem?_eq_some_iff.1 hs).1
      simp only [] at h
      cases h1 : decide (s = parL) with
      | true => rw [h1] at h; have := scanV_lt h; omega
      | false =>
        rw [h1] at h
        simp only [cond_false] at h
        cases h2 : decide (s = parR) with
        | true =>
          rw [h2] at h
          simp only [cond_true] at h
          cases d with
          | zero => cases h; omega
          | succ d => have := scanV_lt h; omega
        | false => rw [h2] at h; have := scanV_lt h; omega
theorem renV_len : ∀ {l ns m ns' : List ByteArray}, renV l ns = some (m, ns') → m.length = l.length
  | [], _, _, _, h => by cases h; rfl
  | s :: rest, ns, m, ns', h => by
    unfold renV at h
    cases h0 : Nat.blt 0 s.size with
    | false => rw [h0] at h; cases h
    | true =>
      rw [h0] at h
      simp only [cond_true] at h
      cases h1 : Nat.beq (firstB s) 63 with
      | true =>
        rw [h1] at h
        simp only [cond_true] at h
        cases h2 : renOne s ns with
        | none => rw [h2] at h; cases h
        | some q =>
          obtain ⟨k, ns1⟩ := q
          rw [h2] at h
          simp only [] at h
          cases h3 : renV rest ns1 with
          | none => rw [h3] at h; cases h
          | some q => rw [h3] at h; cases h; simp [renV_len h3]
      | false =>
        rw [h1] at h
        simp only [cond_false] at h
        cases h3 : renV rest ns with
        | none => rw [h3] at h; cases h
        | some q => rw [h3] at h; cases h; simp [renV_len h3]
def strV (s : ByteArray) : List Value := [.string s]
theorem str_vss {M : Nat → Prop} {w : World} : ∀ {l : List ByteArray} {vss : List (List Value)}, Alls (LStr.rd M w) l vss → vss = l.map strV
  | [], [], _ => rfl
  | s :: l, vs :: vss, ⟨h, t⟩ => by
    have h : vs = [.string s] := h
    rw [List.map_cons, ← str_vss t, h]; rfl
  | [], _ :: _, h => h.elim
  | _ :: _, [], h => h.elim
theorem str_alls {M : Nat → Prop} {w : World} : ∀ {l : List ByteArray}, Alls (LStr.rd M w) l (l.map strV)
  | [] => trivial
  | _ :: _ => ⟨rfl, str_alls⟩
theorem first_at {s : ByteArray} {c : UInt8} (h : s[0]? = some c) : firstB s = c.toNat := by
  obtain ⟨d⟩ := s
  have h : d[0]? = some c := h
  unfold firstB
  rw [List.getD_eq_getElem?_getD]
  simp [h]
theorem nameB_first {s : ByteArray} (h : nameB s = true) : s.size ≤ 12 ∧ lowB (s.data.toList.getD 0 0).toNat = true := by
  simp only [nameB, Bool.and_eq_true, decide_eq_true_eq] at h
  exact ⟨h.1.1.2, h.1.2⟩
theorem qd_add {k : Nat} (h : k < 10) : (⟨#[63]⟩ : ByteArray) ++ dig k = qd k := by
  have : k = 0 ∨ k = 1 ∨ k = 2 ∨ k = 3 ∨ k = 4 ∨ k = 5 ∨ k = 6 ∨ k = 7 ∨ k = 8 ∨ k = 9 := by omega
  rcases this with rfl | rfl | rfl | rfl | rfl | rfl | rfl | rfl | rfl | rfl <;> rfl
theorem map_set_str {pre rem : List ByteArray} {s x : ByteArray} : ((pre ++ s :: rem).map strV).set pre.length (putAt (strV s) 0 [.string x]) = (pre ++ [x] ++ rem).map strV := by
  have e : putAt (strV s) 0 [.string x] = strV x := rfl
  rw [e]
  simp [strV]
theorem Holds.rowCell {w0 w : World} {S : List Nat} {A : List Atom} {D : List Dat} (H : Holds w0 S A D w) (i : Nat) {e : TypeId} {b n cap k : Nat} {vss : List (List Value)} {s : ByteArray} (hi : A[i]? = some (orow e 1 (.slice (some ⟨b, 0, none⟩) n cap) vss)) (hk : vss[k]? = some (strV s)) : w.cell? ⟨b, 0 + k * 1, none⟩ = some (.string s) := by
  obtain ⟨b', cap', hv, hc, _⟩ := H.row i hi hk
  simp only [Value.slice.injEq, Option.some.injEq, Addr.mk.injEq, and_true] at hv
  obtain ⟨rfl, _, _⟩ := hv
  have := hc 0 _ rfl
  rwa [Nat.zero_add]
end Go.Proofs.YtljpfnjpifhdlaaGreatDoor
namespace Go.Proofs.YtljpfnjpifhdlaaGreatDoor
open Go
section
variable {P : Program} {w : World} {r : Operand → Value} {d : Option Tmp} {ty : TypeId} {pos : String} {aft : Array Edge} {g : Option (Nat × Bool)}
theorem X_fnB {fn : Fn} (x : Operand) : runC P w (execOp r ⟨d, .makeFunc fn #[x] #[], ty, pos, aft, g⟩) = some (.value (.func fn #[r x] #[])) := by simp [execOp, Instr.makeFunc, runC_pure]
end
theorem renV_ns : ∀ {l ns m ns' : List ByteArray}, renV l ns = some (m, ns') → ns.length ≤ 10 → ns'.length ≤ 10
  | [], _, _, _, h, hn => by cases h; exact hn
  | s :: rest, ns, m, ns', h, hn => by
    unfold renV at h
    cases h0 : Nat.blt 0 s.size with
    | false => rw [h0] at h; cases h
    | true =>
      rw [h0] at h
      simp only [cond_true] at h
      cases h1 : Nat.beq (firstB s) 63 with
      | true =>
        rw [h1] at h
        simp only [cond_true] at h
        cases h2 : renOne s ns with
        | none => rw [h2] at h; cases h
        | some q =>
          obtain ⟨k, ns1⟩ := q
          rw [h2] at h
          simp only [] at h
          have hn1 : ns1.length ≤ 10 := by
            unfold renOne at h2
            cases h4 : nameB (s.extract 1 s.size) with
            | false => rw [h4] at h2; cases h2
            | true =>
              rw [h4] at h2
              simp only [cond_true] at h2
              cases h5 : idxV ns s 0 with
              | some kk =>
                rw [h5] at h2
                simp only [] at h2
                cases h6 : Nat.blt kk 10 with
                | false => rw [h6] at h2; cases h2
                | true => rw [h6] at h2; cases h2; exact hn
              | none =>
                rw [h5] at h2
                simp only [] at h2
                cases h6 : Nat.blt ns.length 10 with
                | false => rw [h6] at h2; cases h2
                | true =>
                  rw [h6] at h2; cases h2
                  have h6 : ns.length < 10 := Nat.le_of_ble_eq_true h6
                  rw [List.length_append, List.length_singleton]; omega
          cases h3 : renV rest ns1 with
          | none => rw [h3] at h; cases h
          | some q => rw [h3] at h; cases h; exact renV_ns h3 hn1
      | false =>
        rw [h1] at h
        simp only [cond_false] at h
        cases h3 : renV rest ns with
        | none => rw [h3] at h; cases h
        | some q => rw [h3] at h; cases h; exact renV_ns h3 hn
set_option maxHeartbeats 40000000 in
set_option maxRecDepth 100000 in
theorem definition_c {l : List ByteArray} {r c i j : Nat} {a : Option Addr} {rl : Rl} {M : Nat → Prop} {wA : World} (hl : l.length ≤ 10000) (hdef : defV l i = some (rl, j)) (hev : eVar.ok M wA) (hin : In (tkA r a l c) (tkD l a c) M i wA) :
    Calls Tryz.prog 16 #[.pointer (some ⟨r, 0, none⟩)] wA (Ret fun v w' => (∃ vs, v = .tuple #[.agg vs.toArray, .bool true] ∧ LR.rd M w' rl vs) ∧ Out (tkA r a l c) (tkD l a c) M i j wA w') := by
  have hM := hin.1
  unfold defV at hdef
  cases hb : takeV l i parL && takeV l (i + 1) defineB && takeV l (i + 2) parL && Nat.blt (i + 3) l.length with
  | false => rw [hb] at hdef; cases hdef
  | true =>
  rw [hb] at hdef
  simp only [cond_true] at hdef
  simp only [Bool.and_eq_true] at hb
  obtain ⟨⟨⟨hb1, hb2⟩, hb3⟩, hb4⟩ := hb
  have hb4 : i + 3 < l.length := Nat.le_of_ble_eq_true hb4
  have hb5 := beq_lt hb4
  cases hto : scanV l 1000 (i + 4) 0 with
  | none => rw [hto] at hdef; cases hdef
  | some to =>
  rw [hto] at hdef
  simp only [] at hdef
  cases hen : scanV l 1000 to 0 with
  | none => rw [hen] at hdef; cases hdef
  | some en =>
  rw [hen] at hdef
  simp only [] at hdef
  cases hren : renV ((l.take en).drop (i + 4)) [] with
  | none => rw [hren] at hdef; cases hdef
  | some tn =>
  obtain ⟨toks, ns⟩ := tn
  rw [hren] at hdef
  simp only [] at hdef
  obtain ⟨l2, hl2⟩ : ∃ l2, l2 = l.take (i + 4) ++ toks := ⟨_, rfl⟩
  rw [← hl2] at hdef
  cases har : argsV l2 20 (i + 4) 0 with
  | none => rw [har] at hdef; cases hdef
  | some aj =>
  obtain ⟨ar, j1⟩ := aj
  rw [har] at hdef
  simp only [] at hdef
  cases hgo : goalV 20 l2 j1 with
  | none => rw [hgo] at hdef; cases hdef
  | some gj =>
  obtain ⟨g, j2⟩ := gj
  rw [hgo] at hdef
  simp only [] at hdef
  cases hend : takeV l2 j2 parR && Nat.ble ar ns.length with
  | false => rw [hend] at hdef; cases hdef
  | true =>
  rw [hend] at hdef
  simp only [cond_true, Option.some.injEq, Prod.mk.injEq] at hdef
  obtain ⟨rfl, rfl⟩ := hdef
  simp only [Bool.and_eq_true] at hend
  obtain ⟨hend1, hend2⟩ := hend
  have hend2 := Nat.le_of_ble_eq_true hend2
  have hsc1 := scanV_lt hto
  have hsc2 := scanV_lt hen
  have hrl := renV_len hren
  have hns := renV_ns hren (Nat.zero_le _)
  simp only [List.length_drop, List.length_take] at hrl
  have hl2l : l2.length = en := by rw [hl2, List.length_append, List.length_take]; omega
  refine enterCT Tryz.func16 rfl Tryz.ntmps16 rfl (by simp) ?_
  have H := hin.begin
  have H := H.add (d := (LSl LStr).dat M l [.slice a l.length c]) ((LSl LStr).grow _ _ _ _ _ (fun b _ hb => hb.elim id (hin.2.1 b)) hin.toks)
  have H := H.add (d := eVar) (eVar.grow _ _ _ (fun b _ hb => hin.2.1 b hb) hev)
  refine W_rs ?_
  refine qrb H ?_; intro b2 w H
  (repeat (first | refine qq ?_ | (refine qds H ?_; intro H) | (refine qdr H ?_; intro H)))
  refine qa2 (hc := take_c (s := parL) (by omega) (H.into (A1 := [_]) (As := tkA r a l c) (ds := tkD l a c) (s := i) rfl hM (by simp))) (k := ?_)
  rintro _ w ⟨rfl, hout⟩
  have H := H.step (A1 := [_]) (As := tkA r a l c) rfl hout
  rw [hb1] at H ⊢
  simp only [cond_true] at H
  (repeat (first | refine qq ?_ | (refine qds H ?_; intro H) | (refine qrb H ?_; intro _ w H) | (refine qrs H ?_; intro w H) | (refine qdr H ?_; intro H)))
  refine WO_g rfl rfl (by exact rfl) (S_call2 _ _ (by exact rfl) (by exact rfl) (by exact rfl) (take_c (s := defineB) (by omega) (H.into (A1 := [_]) (As := tkA r a l c) (ds := tkD l a c) (s := i + 1) rfl hM (by simp))) ?_)
  rintro _ w ⟨rfl, hout⟩
  have H := H.step (A1 := [_]) (As := tkA r a l c) rfl hout
  rw [hb2] at H ⊢
  simp only [cond_true] at H
  (repeat (first | refine qq ?_ | (refine qds H ?_; intro H) | (refine qrb H ?_; intro _ w H) | (refine qrs H ?_; intro w H) | (refine qdr H ?_; intro H)))
  refine WO_g rfl rfl (by exact rfl) (S_call2 _ _ (by exact rfl) (by exact rfl) (by exact rfl) (take_c (s := parL) (by omega) (H.into (A1 := [_]) (As := tkA r a l c) (ds := tkD l a c) (s := i + 2) rfl hM (by simp))) ?_)
  rintro _ w ⟨rfl, hout⟩
  have H := H.step (A1 := [_]) (As := tkA r a l c) rfl hout
  rw [hb3] at H ⊢
  simp only [cond_true] at H
  (repeat (first | refine qq ?_ | (refine qds H ?_; intro H) | (refine qrb H ?_; intro _ w H) | (refine qrs H ?_; intro w H) | (refine qdr H ?_; intro H)))
  refine WO_g rfl rfl (by exact rfl) (S_call1 _ (by exact rfl) (by exact rfl) (done_c (l := l) (i := i + 3) (c := c) (a := a) (H.bcells 1 2 rfl rfl)) ?_)
  rintro _ w ⟨rfl, hm⟩
  have H := H.call hm
  rw [hb5]
  (repeat (first | refine qq ?_ | (refine qds H ?_; intro H) | (refine qrb H ?_; intro _ w H) | (refine qrs H ?_; intro w H) | (refine qdr H ?_; intro H)))
  refine qa1 (hc := peek_c (H.bcells 1 2 rfl rfl) (H.dat (d := (LSl LStr).dat M l [.slice a l.length c]) (by simp))) (k := ?_)
  rintro _ w ⟨rfl, hm⟩
  have H := H.call hm
  refine WO_rd rfl (X_build (by exact rfl) [(0, [.string (peekV l (i + 3))])] (by exact rfl) (xs := [.string (peekV l (i + 3)), .int .i64 0, .int .i64 0, .int .i64 0, .string ⟨#[]⟩, .slice none 0 0, .slice none 0 0]) (by exact rfl)) ?_
  refine qrb H ?_; intro b4 w H
  refine qrs H ?_; intro w H
  (repeat (first | refine qq ?_ | (refine qds H ?_; intro H) | (refine qrb H ?_; intro _ w H) | (refine qrs H ?_; intro w H) | (refine qdr H ?_; intro H)))
  --BODY
  refine W_loop (fun m f w' => ∃ gg k dz, f = sl gg [(0, .pointer (some ⟨r, 0, none⟩)), (2, .pointer (some ⟨b2, 0, none⟩)), (4, .pointer (some ⟨b4, 0, none⟩)), (5, .int .i64 ((i + 4 : Nat) : Int)), (6, .int .i64 dz), (7, .int .i64 (k : Nat))] ∧ ((dz = -1 ∧ k = to ∧ m = 0) ∨ ∃ d : Nat, dz = d ∧ scanV l m k d = some to ∧ d + m ≤ 1000) ∧
    Holds wA (owns (tkA r a l c i)) [box b4 [.string (peekV l (i + 3)), .int .i64 0, .int .i64 0, .int .i64 0, .string ⟨#[]⟩, .slice none 0 0, .slice none 0 0] 67, box b2 [.string ⟨#[]⟩, .int .i64 0, .int .i64 0, .int .i64 0, .string ⟨#[]⟩, .slice none 0 0, .slice none 0 0] 67, box r (rcells a l c (i + 4)) 64] [(LSl LStr).dat M l [.slice a l.length c], eVar, Dat.wide M ((LSl LStr).dat (fun _ => False) l [.slice a l.length c])] w') 1000
    ⟨_, (i + 4), 0, sl_back ⟨rfl, rfl, rfl, rfl, rfl, rfl, trivial⟩, .inr ⟨0, rfl, hto, by omega⟩, H.sub (.refl _) (by simp)⟩ ?_
  clear H
  rintro m f w ⟨gg, k, dz, rfl, hst, H⟩
  rcases hst with ⟨rfl, hke, rfl⟩ | ⟨d, rfl, hsc, hdm⟩
  case inr =>
    cases m with
    | zero => cases hsc
    | succ m =>
    unfold scanV at hsc
    cases hs : l[k]? with
    | none => rw [hs] at hsc; cases hsc
    | some s =>
    have hk := (List.getElem?_eq_some_iff.1 hs).1
    rw [hs] at hsc
    simp only [] at hsc
    obtain ⟨ba, oa, vs, rfl, _, _, hr, H⟩ := H.elem (L := LStr) (M := M) (l := l) (a := a) (n := l.length) (c := c) (by simp) k hs
    have hr : vs = [.string s] := hr
    subst hr
    have hLR : parL ≠ parR := by decide
    have hRL : parR ≠ parL := by decide
    by_cases h1 : s = parL
    · subst h1
      rw [show decide (parL = parL) = true by simp] at hsc
      simp only [cond_true] at hsc
      (repeat (first | refine qq ?_ | (refine qds H ?_; intro H) | (refine qrb H ?_; intro _ w H) | (refine qrs H ?_; intro w H) | (refine qdr H ?_; intro H)))
      exact ⟨m, by omega, _, k + 1, _, sl_back ⟨rfl, rfl, rfl, rfl, rfl, rfl, trivial⟩, .inr ⟨d + 1, by omega, hsc, by omega⟩, H.sub (.refl _) (by simp)⟩
    · rw [show decide (s = parL) = false by simp [h1]] at hsc
      simp only [cond_false] at hsc
      by_cases h2 : s = parR
      · subst h2
        rw [show decide (parR = parR) = true by simp] at hsc
        simp only [cond_true] at hsc
        cases d with
        | zero =>
          cases hsc
          (repeat (first | refine qq ?_ | (refine qds H ?_; intro H) | (refine qrb H ?_; intro _ w H) | (refine qrs H ?_; intro w H) | (refine qdr H ?_; intro H)))
          exact ⟨0, by omega, _, k + 1, _, sl_back ⟨rfl, rfl, rfl, rfl, rfl, rfl, trivial⟩, .inl ⟨rfl, rfl, rfl⟩, H.sub (.refl _) (by simp)⟩
        | succ d =>
          simp only [] at hsc
          (repeat (first | refine qq ?_ | (refine qds H ?_; intro H) | (refine qrb H ?_; intro _ w H) | (refine qrs H ?_; intro w H) | (refine qdr H ?_; intro H)))
          exact ⟨m, by omega, _, k + 1, _, sl_back ⟨rfl, rfl, rfl, rfl, rfl, rfl, trivial⟩, .inr ⟨d, by omega, hsc, by omega⟩, H.sub (.refl _) (by simp)⟩
      · rw [show decide (s = parR) = false by simp [h2]] at hsc
        simp only [cond_false] at hsc
        (repeat (first | refine qq ?_ | (refine qds H ?_; intro H) | (refine qrb H ?_; intro _ w H) | (refine qrs H ?_; intro w H) | (refine qdr H ?_; intro H)))
        exact ⟨m, by omega, _, k + 1, _, sl_back ⟨rfl, rfl, rfl, rfl, rfl, rfl, trivial⟩, .inr ⟨d, rfl, hsc, by omega⟩, H.sub (.refl _) (by simp)⟩
  case inl =>
    have hkl : k < l.length := by omega
    (repeat (first | refine qq ?_ | (refine qds H ?_; intro H) | (refine qrb H ?_; intro _ w H) | (refine qrs H ?_; intro w H) | (refine qdr H ?_; intro H)))
    refine W_loop (fun m f w' => ∃ gg k dz, f = sl gg [(0, .pointer (some ⟨r, 0, none⟩)), (2, .pointer (some ⟨b2, 0, none⟩)), (4, .pointer (some ⟨b4, 0, none⟩)), (5, .int .i64 ((i + 4 : Nat) : Int)), (6, .int .i64 dz), (8, .int .i64 (k : Nat))] ∧ ((dz = -1 ∧ k = en ∧ m = 0) ∨ ∃ d : Nat, dz = d ∧ scanV l m k d = some en ∧ d + m ≤ 1000) ∧
      Holds wA (owns (tkA r a l c i)) [box b4 [.string (peekV l (i + 3)), .int .i64 0, .int .i64 0, .int .i64 0, .string ⟨#[]⟩, .slice none 0 0, .slice none 0 0] 67, box b2 [.string ⟨#[]⟩, .int .i64 0, .int .i64 0, .int .i64 0, .string ⟨#[]⟩, .slice none 0 0, .slice none 0 0] 67, box r (rcells a l c (i + 4)) 64] [(LSl LStr).dat M l [.slice a l.length c], eVar, Dat.wide M ((LSl LStr).dat (fun _ => False) l [.slice a l.length c])] w') 1000
      ⟨_, k, 0, sl_back ⟨rfl, rfl, rfl, rfl, rfl, rfl, trivial⟩, .inr ⟨0, rfl, (by rw [hke]; exact hen), by omega⟩, H.sub (.refl _) (by simp)⟩ ?_
    clear H
    rintro m f w ⟨gg, k, dz, rfl, hst, H⟩
    rcases hst with ⟨rfl, hke, rfl⟩ | ⟨d, rfl, hsc, hdm⟩
    case inr =>
      cases m with
      | zero => cases hsc
      | succ m =>
      unfold scanV at hsc
      cases hs : l[k]? with
      | none => rw [hs] at hsc; cases hsc
      | some s =>
      have hk := (List.getElem?_eq_some_iff.1 hs).1
      rw [hs] at hsc
      simp only [] at hsc
      obtain ⟨ba, oa, vs, rfl, _, _, hr, H⟩ := H.elem (L := LStr) (M := M) (l := l) (a := a) (n := l.length) (c := c) (by simp) k hs
      have hr : vs = [.string s] := hr
      subst hr
      have hLR : parL ≠ parR := by decide
      have hRL : parR ≠ parL := by decide
      by_cases h1 : s = parL
      · subst h1
        rw [show decide (parL = parL) = true by simp] at hsc
        simp only [cond_true] at hsc
        (repeat (first | refine qq ?_ | (refine qds H ?_; intro H) | (refine qrb H ?_; intro _ w H) | (refine qrs H ?_; intro w H) | (refine qdr H ?_; intro H)))
        exact ⟨m, by omega, _, k + 1, _, sl_back ⟨rfl, rfl, rfl, rfl, rfl, rfl, trivial⟩, .inr ⟨d + 1, by omega, hsc, by omega⟩, H.sub (.refl _) (by simp)⟩
      · rw [show decide (s = parL) = false by simp [h1]] at hsc
        simp only [cond_false] at hsc
        by_cases h2 : s = parR
        · subst h2
          rw [show decide (parR = parR) = true by simp] at hsc
          simp only [cond_true] at hsc
          cases d with
          | zero =>
            cases hsc
            (repeat (first | refine qq ?_ | (refine qds H ?_; intro H) | (refine qrb H ?_; intro _ w H) | (refine qrs H ?_; intro w H) | (refine qdr H ?_; intro H)))
            exact ⟨0, by omega, _, k + 1, _, sl_back ⟨rfl, rfl, rfl, rfl, rfl, rfl, trivial⟩, .inl ⟨rfl, rfl, rfl⟩, H.sub (.refl _) (by simp)⟩
          | succ d =>
            simp only [] at hsc
            (repeat (first | refine qq ?_ | (refine qds H ?_; intro H) | (refine qrb H ?_; intro _ w H) | (refine qrs H ?_; intro w H) | (refine qdr H ?_; intro H)))
            exact ⟨m, by omega, _, k + 1, _, sl_back ⟨rfl, rfl, rfl, rfl, rfl, rfl, trivial⟩, .inr ⟨d, by omega, hsc, by omega⟩, H.sub (.refl _) (by simp)⟩
        · rw [show decide (s = parR) = false by simp [h2]] at hsc
          simp only [cond_false] at hsc
          (repeat (first | refine qq ?_ | (refine qds H ?_; intro H) | (refine qrb H ?_; intro _ w H) | (refine qrs H ?_; intro w H) | (refine qdr H ?_; intro H)))
          exact ⟨m, by omega, _, k + 1, _, sl_back ⟨rfl, rfl, rfl, rfl, rfl, rfl, trivial⟩, .inr ⟨d, rfl, hsc, by omega⟩, H.sub (.refl _) (by simp)⟩
    case inl =>
      have hcl : l.length ≤ c := by
        obtain ⟨_, _, _, he, h6, h7, _⟩ := H.dat (d := (LSl LStr).dat M l [.slice a l.length c]) (by simp)
        simp only [List.cons.injEq, Value.slice.injEq, and_true] at he
        obtain ⟨_, rfl, rfl⟩ := he
        exact h7
      by_cases hkl : k < l.length
      all_goals
        (repeat (first | refine qq ?_ | (refine qds H ?_; intro H) | (refine qrb H ?_; intro _ w H) | (refine qrs H ?_; intro w H) | (refine qdr H ?_; intro H)))
        refine WO_s rfl (S_makeMapS H ?_); intro bm w H
        (repeat (first | refine qq ?_ | (refine qds H ?_; intro H) | (refine qrb H ?_; intro _ w H) | (refine qrs H ?_; intro w H) | (refine qdr H ?_; intro H)))
        refine WO_s rfl (S_bslice0 H ?_); intro b10 w H
        have H := (H.toRow 0 1 rfl).dnil (L := LStr) (M := M)
        (repeat (first | refine qq ?_ | (refine qds H ?_; intro H) | (refine qrb H ?_; intro _ w H) | (refine qrs H ?_; intro w H) | (refine qdr H ?_; intro H)))
        have hpart := rdSl_part (L := LStr) (l := 0) (m := k) (H.dat (d := (LSl LStr).dat M l [.slice a l.length c]) (by simp)) (by omega) (by omega)
        rw [List.drop_zero] at hpart
        have H := H.add (d := (LSl LStr).dat M (l.take k) [.slice (slA a 0 c LStr.sz) (k - 0) (c - 0)]) hpart
        clear hpart
        refine WO_rd rfl (X_slice _ none (some _) 0 k (by exact rfl) rfl ⟨.i64, (by exact rfl)⟩ (by omega) (by omega) hcl) ?_
        refine WO_s rfl (S_appendD (L := LStr) (M := M) (l := []) (l' := l.take k) (vss := []) (a := slA a 0 c LStr.sz) (n := k - 0) (c := c - 0) H 0 _ _ rfl (by simp) (by simp) (by exact rfl) (by exact rfl) rfl Nat.one_pos rfl (by simp only [List.length_nil, List.length_take]; omega) ?_)
        intro v10 vss0 w H
        rw [List.nil_append] at H
        obtain rfl : vss0 = (l.take k).map strV := str_vss (H.dat (d := dall LStr M (l.take k) vss0) (by simp))
        (repeat (first | refine qq ?_ | (refine qds H ?_; intro H) | (refine qrb H ?_; intro _ w H) | (refine qrs H ?_; intro w H) | (refine qdr H ?_; intro H)))
        refine W_loop (fun m f w' => ∃ gg q pre rem nsq tq v10, m = rem.length ∧ q = pre.length ∧ pre.length + rem.length = k ∧ f = sl gg [(0, .pointer (some ⟨r, 0, none⟩)), (2, .pointer (some ⟨b2, 0, none⟩)), (4, .pointer (some ⟨b4, 0, none⟩)), (5, .int .i64 ((i + 4 : Nat) : Int)), (8, .int .i64 (k : Nat)), (9, .map (some bm)), (10, v10), (11, .int .i64 (q : Nat))] ∧
          renV rem nsq = some (tq, ns) ∧ pre ++ tq = l2 ∧
          Holds wA (owns (tkA r a l c i)) [orow 9 1 v10 ((pre ++ rem).map strV), mps bm (kvOf nsq 0), box b4 [.string (peekV l (i + 3)), .int .i64 0, .int .i64 0, .int .i64 0, .string ⟨#[]⟩, .slice none 0 0, .slice none 0 0] 67, box b2 [.string ⟨#[]⟩, .int .i64 0, .int .i64 0, .int .i64 0, .string ⟨#[]⟩, .slice none 0 0, .slice none 0 0] 67, box r (rcells a l c (i + 4)) 64] [eVar, Dat.wide M ((LSl LStr).dat (fun _ => False) l [.slice a l.length c])] w') (k - (i + 4))
          ⟨_, i + 4, l.take (i + 4), (l.take k).drop (i + 4), [], toks, v10, by rw [List.length_drop, List.length_take]; omega, by rw [List.length_take]; omega, by rw [List.length_drop, List.length_take, List.length_take]; omega, sl_back ⟨rfl, rfl, rfl, rfl, rfl, rfl, rfl, rfl, trivial⟩, by rw [hke]; exact hren, hl2.symm, ?_⟩ ?_
        · rw [show l.take (i + 4) ++ (l.take k).drop (i + 4) = l.take k by
            rw [show l.take (i + 4) = (l.take k).take (i + 4) by rw [List.take_take, Nat.min_eq_left (by omega)]]; exact List.take_append_drop _ _]
          exact H.sub (.cons_cons _ (.cons_cons _ (.refl _))) (by simp)
        clear H
        rintro m f w ⟨gg, q, pre, rem, nsq, tq, v10, rfl, rfl, hpr, rfl, hrn, hpq, H⟩
        cases rem with
        | nil =>
          cases hrn
          rw [List.append_nil] at hpq H
          simp only [List.length_nil, Nat.add_zero] at hpr
          rw [hpq] at H hpr ⊢
          clear hpq
          obtain ⟨a10, c10, rfl⟩ := H.rowVal 0 rfl
          have H := H.add (d := dall LStr M l2 (l2.map strV)) str_alls
          rw [List.length_map] at H ⊢
          have H := Holds.freeze (A1 := []) (A2 := [mps bm (kvOf ns 0), box b4 [.string (peekV l (i + 3)), .int .i64 0, .int .i64 0, .int .i64 0, .string ⟨#[]⟩, .slice none 0 0, .slice none 0 0] 67, box b2 [.string ⟨#[]⟩, .int .i64 0, .int .i64 0, .int .i64 0, .string ⟨#[]⟩, .slice none 0 0, .slice none 0 0] 67, box r (rcells a l c (i + 4)) 64]) (M := M) (L := LStr) (l := l2) H hM (H.dat (by simp)) (by simp [owns, box, mps])
          (repeat (first | refine qq ?_ | (refine qds H ?_; intro H) | (refine qrb H ?_; intro _ w H) | (refine qrs H ?_; intro w H) | (refine qdr H ?_; intro H)))
          refine WO_rd rfl (X_build (by exact rfl) [(0, [.slice a10 l2.length c10]), (1, [.int .i64 ((i + 4 : Nat) : Int)])] (by exact rfl) (xs := [.slice a10 l2.length c10, .int .i64 ((i + 4 : Nat) : Int)]) (by exact rfl)) ?_
          refine qrb H ?_; intro r2 w H
          (repeat (first | refine qq ?_ | (refine qds H ?_; intro H) | (refine qrb H ?_; intro _ w H) | (refine qrs H ?_; intro w H) | (refine qdr H ?_; intro H)))
          have H := H.add (d := Dat.wide M ((LSl LStr).dat (fun _ => False) l2 [.slice a10 l2.length c10])) ((LSl LStr).grow _ _ _ _ _ (fun b _ hb => by
            rcases hb with hb | hb | hb
            · exact hb.elim
            · exact .inl hb
            · exact .inr hb) (H.dat (d := (LSl LStr).dat M l2 [.slice a10 l2.length c10]) (by simp)))
          have H := H.perm (A' := [mps bm (kvOf ns 0), box b4 [.string (peekV l (i + 3)), .int .i64 0, .int .i64 0, .int .i64 0, .string ⟨#[]⟩, .slice none 0 0, .slice none 0 0] 67, box b2 [.string ⟨#[]⟩, .int .i64 0, .int .i64 0, .int .i64 0, .string ⟨#[]⟩, .slice none 0 0, .slice none 0 0] 67, box r (rcells a l c (i + 4)) 64, box r2 (rcells a10 l2 c10 (i + 4)) 64]) (List.perm_append_singleton _ [mps bm (kvOf ns 0), box b4 [.string (peekV l (i + 3)), .int .i64 0, .int .i64 0, .int .i64 0, .string ⟨#[]⟩, .slice none 0 0, .slice none 0 0] 67, box b2 [.string ⟨#[]⟩, .int .i64 0, .int .i64 0, .int .i64 0, .string ⟨#[]⟩, .slice none 0 0, .slice none 0 0] 67, box r (rcells a l c (i + 4)) 64])
          refine W_loop (fun m f w' => ∃ gg q n, f = sl gg [(0, .pointer (some ⟨r, 0, none⟩)), (2, .pointer (some ⟨b2, 0, none⟩)), (4, .pointer (some ⟨b4, 0, none⟩)), (9, .map (some bm)), (16, .pointer (some ⟨r2, 0, none⟩))] ∧ argsV l2 m q n = some (ar, j1) ∧ n + m ≤ 20 ∧
            Holds wA (owns (tkA r a l c i)) [mps bm (kvOf ns 0), box b4 [.string (peekV l (i + 3)), .int .i64 (n : Nat), .int .i64 0, .int .i64 0, .string ⟨#[]⟩, .slice none 0 0, .slice none 0 0] 67, box b2 [.string ⟨#[]⟩, .int .i64 0, .int .i64 0, .int .i64 0, .string ⟨#[]⟩, .slice none 0 0, .slice none 0 0] 67, box r (rcells a l c (i + 4)) 64, box r2 (rcells a10 l2 c10 q) 64] [Dat.wide M ((LSl LStr).dat (fun _ => False) l [.slice a l.length c]), Dat.wide M ((LSl LStr).dat (fun _ => False) l2 [.slice a10 l2.length c10])] w') 20
            ⟨_, i + 4, 0, sl_back ⟨rfl, rfl, rfl, rfl, rfl, trivial⟩, har, Nat.le_refl _, H.sub (.refl _) (by simp)⟩ ?_
          clear H har
          rintro m f w ⟨gg, q, n, rfl, hag, hnm, H⟩
          cases m with
          | zero => cases hag
          | succ m =>
          unfold argsV at hag
          (repeat (first | refine qq ?_ | (refine qds H ?_; intro H) | (refine qrb H ?_; intro _ w H) | (refine qrs H ?_; intro w H) | (refine qdr H ?_; intro H)))
          refine qa2 (hc := take_c (s := parR) (by omega) (H.into (A1 := [_, _, _, _]) (As := tkA r2 a10 l2 c10) (ds := tkD l2 a10 c10) (s := q) rfl hM (by simp))) (k := ?_)
          rintro _ w ⟨rfl, hout⟩
          have H := H.step (A1 := [_, _, _, _]) (As := tkA r2 a10 l2 c10) rfl hout
          cases htk : takeV l2 q parR with
          | false =>
            rw [htk] at hag H
            simp only [cond_false] at hag H
            cases ho : okV l2 q with
            | none => rw [ho] at hag; cases hag
            | some tj =>
            obtain ⟨t, j'⟩ := tj
            rw [ho] at hag
            cases t with
            | var kk =>
              simp only [] at hag
              cases hkn : Nat.beq kk n with
              | false => rw [hkn] at hag; cases hag
              | true =>
              rw [hkn] at hag
              simp only [cond_true] at hag
              have hkn := beq_of hkn
              subst hkn
              (repeat (first | refine qq ?_ | (refine qds H ?_; intro H) | (refine qrb H ?_; intro _ w H) | (refine qrs H ?_; intro w H) | (refine qdr H ?_; intro H)))
              refine qa1 (hc := okTerm_c (by omega) ho (H.into (A1 := [_, _, _, _]) (As := tkA r2 a10 l2 c10) (ds := tkD l2 a10 c10) (s := q) rfl hM (by simp))) (k := ?_)
              rintro _ w ⟨⟨vs, rfl, hx⟩, hout⟩
              have hoo := hout.2.2.1
              obtain ⟨a1, c1, rfl⟩ : ∃ a1 c1, vs = [.int .i64 1, .int .i64 ((kk : Nat) : Int), .string (T.var kk).name, .slice a1 (T.var kk).args.length c1] := rdT_four hx
              have H := (H.step (A1 := [_, _, _, _]) (As := tkA r2 a10 l2 c10) rfl hout).addO (A1 := [_, _, _, _]) (As := tkA r2 a10 l2 c10) (s := q) (s1 := j') (M := M) hoo (L := LT) (x := T.var kk) hx
              (repeat (first | refine qq ?_ | (refine qds H ?_; intro H) | (refine qdr H ?_; intro H)))
              refine qrb H ?_; intro b17 w H
              refine qrs H ?_; intro w H
              (repeat (first | refine qq ?_ | (refine qds H ?_; intro H) | (refine qrb H ?_; intro _ w H) | (refine qrs H ?_; intro w H) | (refine qdr H ?_; intro H)))
              exact ⟨m, by omega, _, j', kk + 1, sl_back ⟨rfl, rfl, rfl, rfl, rfl, trivial⟩, hag, by omega, H.sub (.cons _ (.refl _)) (by simp)⟩
            | nil => cases hag
            | sym _ => cases hag
            | num _ => cases hag
            | pair _ _ => cases hag
          | true =>
          rw [htk] at hag H
          simp only [cond_true, Option.some.injEq, Prod.mk.injEq] at hag H
          obtain ⟨rfl, rfl⟩ := hag
          (repeat (first | refine qq ?_ | (refine qds H ?_; intro H) | (refine qrb H ?_; intro _ w H) | (refine qrs H ?_; intro w H) | (refine qdr H ?_; intro H)))
          refine WO_rd rfl (X_fnB _) ?_
          (repeat (first | refine qq ?_ | (refine qds H ?_; intro H) | (refine qrb H ?_; intro _ w H) | (refine qrs H ?_; intro w H) | (refine qdr H ?_; intro H)))
          refine qa2 (hc := goal_c (r := r2) (c := c10) (a := a10) (by omega) 20 hgo (H.into (A1 := [_, _, _, _]) (As := tkA r2 a10 l2 c10) (ds := tkD l2 a10 c10) (s := q + 1) rfl hM (by simp))) (k := ?_)
          rintro _ w ⟨⟨vs, rfl, hx⟩, hout⟩
          have hoo := hout.2.2.1
          obtain ⟨a3, c3, a4, c4, rfl, _⟩ := rdG_form hx
          have H := (H.step (A1 := [_, _, _, _]) (As := tkA r2 a10 l2 c10) rfl hout).addO (A1 := [_, _, _, _]) (As := tkA r2 a10 l2 c10) hoo (L := LG) hx
          (repeat (first | refine qq ?_ | (refine qds H ?_; intro H) | (refine qdr H ?_; intro H)))
          refine qrb H ?_; intro b19 w H
          refine qrs H ?_; intro w H
          (repeat (first | refine qq ?_ | (refine qds H ?_; intro H) | (refine qrb H ?_; intro _ w H) | (refine qrs H ?_; intro w H) | (refine qdr H ?_; intro H)))
          refine WO_g rfl rfl (by exact rfl) (S_call2 _ _ (by exact rfl) (by exact rfl) (by exact rfl) (take_c (s := parR) (by omega) (H.into (A1 := [_, _, _, _, _]) (As := tkA r2 a10 l2 c10) (ds := tkD l2 a10 c10) (s := j2) rfl hM (by simp))) ?_)
          rintro _ w ⟨rfl, hout⟩
          have H := H.step (A1 := [_, _, _, _, _]) (As := tkA r2 a10 l2 c10) rfl hout
          rw [hend1] at H ⊢
          simp only [cond_true] at H
          (repeat (first | refine qq ?_ | (refine qds H ?_; intro H) | (refine qrb H ?_; intro _ w H) | (refine qrs H ?_; intro w H) | (refine qdr H ?_; intro H)))
          refine WO_rd rfl (X_lenM H _ (by exact rfl) (List.Mem.tail _ (List.Mem.head _))) ?_
          rw [kv_len]
          (repeat (first | refine qq ?_ | (refine qds H ?_; intro H) | (refine qrb H ?_; intro _ w H) | (refine qrs H ?_; intro w H) | (refine qdr H ?_; intro H)))
          have H := H.sub (A' := [_, _, _, _, _]) (.cons_cons _ (.cons_cons _ (.cons_cons _ (.cons_cons _ (.cons_cons _ (.cons _ .slnil)))))) (fun _ h => h)
          exact ⟨_, _, _, rfl, H.bcells 3 7 rfl rfl, rfl, ⟨_, rfl, ⟨_, by rw [Int.ofNat_sub hend2]; rfl, H.out (L := LG) (x := g) 0 rfl⟩⟩, H.outOf (M := M) (s' := j2 + 1) (A1 := [_, _, _, _]) (As := tkA r a l c) (ds := tkD l a c) rfl rfl (by simp)⟩
        | cons s rem =>
          unfold renV at hrn
          cases h0 : Nat.blt 0 s.size with
          | false => rw [h0] at hrn; cases hrn
          | true =>
          rw [h0] at hrn
          simp only [cond_true] at hrn
          have hs0 : 0 < s.size := Nat.le_of_ble_eq_true h0
          obtain ⟨c0, hc0⟩ : ∃ c, s[0]? = some c := ⟨_, getElem?_pos s 0 hs0⟩
          have hfb := first_at hc0
          have hN : ((pre ++ s :: rem).map strV).length = k := by rw [List.length_map, List.length_append]; exact hpr
          have hat : ((pre ++ s :: rem).map strV)[pre.length]? = some (strV s) := by simp
          obtain ⟨bs, cap, rfl, _, _⟩ := H.row 0 rfl hat
          rw [hN] at H ⊢
          have hplt : pre.length < k := by simp only [List.length_cons] at hpr; omega
          simp only [List.length_cons] at hpr
          (repeat (first | refine qq ?_ | (refine qds H ?_; intro H) | (refine qrb H ?_; intro _ w H) | (refine qrs H ?_; intro w H) | (refine qdr H ?_; intro H)))
          refine WO_rd rfl (X_load1 _ (by exact rfl) (H.rowCell 0 rfl hat)) ?_
          cases h1 : Nat.beq (firstB s) 63 with
          | false =>
            rw [h1] at hrn
            simp only [cond_false] at hrn
            have h1 := beq_ne h1
            rw [hfb] at h1
            cases h2 : renV rem nsq with
            | none => rw [h2] at hrn; cases hrn
            | some q2 =>
            obtain ⟨l3, ns3⟩ := q2
            rw [h2] at hrn
            simp only [Option.some.injEq, Prod.mk.injEq] at hrn
            obtain ⟨rfl, rfl⟩ := hrn
            (repeat (first | refine qq ?_ | (refine qds H ?_; intro H) | (refine qrb H ?_; intro _ w H) | (refine qrs H ?_; intro w H) | (refine qdr H ?_; intro H)))
            refine ⟨rem.length, by simp, _, pre.length + 1, pre ++ [s], rem, nsq, l3, .slice (some ⟨bs, 0, none⟩) k cap, rfl, by simp, by simp; omega, sl_back ⟨rfl, rfl, rfl, rfl, rfl, rfl, rfl, rfl, trivial⟩, h2, by rw [← hpq]; simp, ?_⟩
            rw [show (pre ++ [s]) ++ rem = pre ++ s :: rem by simp]
            exact H
          | true =>
            rw [h1] at hrn
            simp only [cond_true] at hrn
            have h1 := beq_of h1
            rw [hfb] at h1
            cases h2 : renOne s nsq with
            | none => rw [h2] at hrn; cases hrn
            | some q2 =>
            obtain ⟨kv, ns1⟩ := q2
            rw [h2] at hrn
            simp only [] at hrn
            cases h3 : renV rem ns1 with
            | none => rw [h3] at hrn; cases hrn
            | some q3 =>
            obtain ⟨l3, ns3⟩ := q3
            rw [h3] at hrn
            simp only [Option.some.injEq, Prod.mk.injEq] at hrn
            obtain ⟨rfl, rfl⟩ := hrn
            unfold renOne at h2
            cases hnm : nameB (s.extract 1 s.size) with
            | false => rw [hnm] at h2; cases h2
            | true =>
            rw [hnm] at h2
            simp only [cond_true] at h2
            obtain ⟨hn12, hnl⟩ := nameB_first hnm
            (repeat (first | refine qq ?_ | (refine qds H ?_; intro H) | (refine qrb H ?_; intro _ w H) | (refine qrs H ?_; intro w H) | (refine qdr H ?_; intro H)))
            refine WO_rd rfl (X_load1 _ (by exact rfl) (H.rowCell 0 rfl hat)) ?_
            refine WO_rd rfl (X_sliceS _ (some _) none 1 s.size (by exact rfl) ⟨.i64, (by exact rfl)⟩ rfl (by omega) (Nat.le_refl _)) ?_
            refine qa1 (hc := ParseInt_no hn12 hnl (H.dat (d := eVar) (by simp))) (k := ?_)
            rintro _ w ⟨rfl, hm⟩
            have H := H.call hm
            (repeat (first | refine qq ?_ | (refine qds H ?_; intro H) | (refine qrb H ?_; intro _ w H) | (refine qrs H ?_; intro w H) | (refine qdr H ?_; intro H)))
            refine WO_rd rfl (X_load1 _ (by exact rfl) (H.rowCell 0 rfl hat)) ?_
            refine WO_rd rfl (X_sliceS _ (some _) none 1 s.size (by exact rfl) ⟨.i64, (by exact rfl)⟩ rfl (by omega) (Nat.le_refl _)) ?_
            refine qa1 (hc := IsName_c (s.extract 1 s.size) w (by omega)) (k := ?_)
            rintro _ w ⟨rfl, hm⟩
            have H := H.call hm
            rw [hnm]
            (repeat (first | refine qq ?_ | (refine qds H ?_; intro H) | (refine qrb H ?_; intro _ w H) | (refine qrs H ?_; intro w H) | (refine qdr H ?_; intro H)))
            refine WO_rd rfl (X_load1 _ (by exact rfl) (H.rowCell 0 rfl hat)) ?_
            cases hix : idxV nsq s 0 with
            | some kk =>
              rw [hix] at h2
              simp only [] at h2
              cases hk10 : Nat.blt kk 10 with
              | false => rw [hk10] at h2; cases h2
              | true =>
              rw [hk10] at h2
              simp only [cond_true, Option.some.injEq, Prod.mk.injEq] at h2
              obtain ⟨rfl, rfl⟩ := h2
              have hk10 : kk < 10 := Nat.le_of_ble_eq_true hk10
              refine WO_rd rfl (X_lookSV H _ _ (by exact rfl) (by exact rfl) (List.Mem.tail _ (List.Mem.head _)) (by rw [look_kv, hix]; rfl)) ?_
              (repeat (first | refine qq ?_ | (refine qds H ?_; intro H) | (refine qrb H ?_; intro _ w H) | (refine qrs H ?_; intro w H) | (refine qdr H ?_; intro H)))
              refine qa1 (hc := FormatInt_c hk10 w) (k := ?_)
              rintro _ w ⟨rfl, hm⟩
              have H := H.call hm
              refine WO_rd rfl (X_str_add _ _ (by exact rfl) (by exact rfl) (by simp [dig, ByteArray.size])) ?_
              rw [qd_add hk10]
              (repeat (first | refine qq ?_ | (refine qds H ?_; intro H) | (refine qrb H ?_; intro _ w H) | (refine qrs H ?_; intro w H) | (refine qdr H ?_; intro H)))
              refine WO_n (S_rowStore (sz := 1) H 0 _ _ (us := [.string (qd kk)]) pre.length 0 (by exact rfl) hat (by exact rfl) (by omega) (by exact rfl) rfl (by simp [Value.oneCell']) (Nat.le_refl _) ?_); intro w H
              rw [map_set_str] at H
              (repeat (first | refine qq ?_ | (refine qds H ?_; intro H) | (refine qrb H ?_; intro _ w H) | (refine qrs H ?_; intro w H) | (refine qdr H ?_; intro H)))
              refine ⟨rem.length, by simp, _, pre.length + 1, pre ++ [qd kk], rem, nsq, l3, .slice (some ⟨bs, 0, none⟩) k cap, rfl, by simp, by simp; omega, sl_back ⟨rfl, rfl, rfl, rfl, rfl, rfl, rfl, rfl, trivial⟩, h3, by rw [← hpq]; simp, ?_⟩
              exact H
            | none =>
              rw [hix] at h2
              simp only [] at h2
              cases hk10 : Nat.blt nsq.length 10 with
              | false => rw [hk10] at h2; cases h2
              | true =>
              rw [hk10] at h2
              simp only [cond_true, Option.some.injEq, Prod.mk.injEq] at h2
              obtain ⟨rfl, rfl⟩ := h2
              have hk10 : nsq.length < 10 := Nat.le_of_ble_eq_true hk10
              have hlk : lookS (kvOf nsq 0) s = none := by rw [look_kv, hix]; rfl
              refine WO_rd rfl (X_lookSN H _ _ (by exact rfl) (by exact rfl) (List.Mem.tail _ (List.Mem.head _)) hlk) ?_
              (repeat (first | refine qq ?_ | (refine qds H ?_; intro H) | (refine qrb H ?_; intro _ w H) | (refine qrs H ?_; intro w H) | (refine qdr H ?_; intro H)))
              refine WO_rd rfl (X_lenM H _ (by exact rfl) (List.Mem.tail _ (List.Mem.head _))) ?_
              rw [kv_len]
              (repeat (first | refine qq ?_ | (refine qds H ?_; intro H) | (refine qrb H ?_; intro _ w H) | (refine qrs H ?_; intro w H) | (refine qdr H ?_; intro H)))
              refine WO_rd rfl (X_load1 _ (by exact rfl) (H.rowCell 0 rfl hat)) ?_
              (repeat (first | refine qq ?_ | (refine qds H ?_; intro H) | (refine qrb H ?_; intro _ w H) | (refine qrs H ?_; intro w H) | (refine qdr H ?_; intro H)))
              refine WO_n (S_setS H 1 _ _ _ (n := s) (v := .int .i64 (nsq.length : Nat)) (by exact rfl) (by exact rfl) (by exact rfl) (by exact rfl) hlk ?_); intro w H
              (repeat (first | refine qq ?_ | (refine qds H ?_; intro H) | (refine qrb H ?_; intro _ w H) | (refine qrs H ?_; intro w H) | (refine qdr H ?_; intro H)))
              refine qa1 (hc := FormatInt_c hk10 w) (k := ?_)
              rintro _ w ⟨rfl, hm⟩
              have H := H.call hm
              refine WO_rd rfl (X_str_add _ _ (by exact rfl) (by exact rfl) (by simp [dig, ByteArray.size])) ?_
              rw [qd_add hk10]
              (repeat (first | refine qq ?_ | (refine qds H ?_; intro H) | (refine qrb H ?_; intro _ w H) | (refine qrs H ?_; intro w H) | (refine qdr H ?_; intro H)))
              refine WO_n (S_rowStore (sz := 1) H 0 _ _ (us := [.string (qd nsq.length)]) pre.length 0 (by exact rfl) hat (by exact rfl) (by omega) (by exact rfl) rfl (by simp [Value.oneCell']) (Nat.le_refl _) ?_); intro w H
              rw [map_set_str] at H
              (repeat (first | refine qq ?_ | (refine qds H ?_; intro H) | (refine qrb H ?_; intro _ w H) | (refine qrs H ?_; intro w H) | (refine qdr H ?_; intro H)))
              refine ⟨rem.length, by simp, _, pre.length + 1, pre ++ [qd nsq.length], rem, nsq ++ [s], l3, .slice (some ⟨bs, 0, none⟩) k cap, rfl, by simp, by simp; omega, sl_back ⟨rfl, rfl, rfl, rfl, rfl, rfl, rfl, rfl, trivial⟩, h3, by rw [← hpq]; simp, ?_⟩
              rw [kv_snoc, Nat.zero_add]
              exact H
end Go.Proofs.YtljpfnjpifhdlaaGreatDoor
namespace Go.Proofs.YtljpfnjpifhdlaaGreatDoor
open Go
def relsV (l : List ByteArray) : Nat → Nat → List Rl → Option (List Rl)
  | 0, _, _ => none
  | f + 1, i, acc => bif Nat.beq i l.length then some acc else match defV l i with
    | none => none
    | some (x, j) => relsV l f j (acc ++ [x])
def progOfV (s : ByteArray) : Option (List Rl) := match tokV s (s.size + 1) 0 with
  | none => none
  | some l => bif Nat.ble l.length 10000 then (match relsV l 100 0 [] with
    | none => none
    | some P => bif progOkV P then some P else none) else none
set_option maxHeartbeats 4000000 in
set_option maxRecDepth 100000 in
theorem ParseProgram_c {s : ByteArray} {P : List Rl} {M : Nat → Prop} {wA : World} (hM : ∀ b, M b → b < wA.heap.size) (hs : s.size ≤ 100000) (hok : ∀ (i : Nat) (c : UInt8), s[i]? = some c → charOk c = true) (hp : progOfV s = some P) (hev : eVar.ok M wA) :
    Calls Tryz.prog 5 #[.string s] wA (Ret fun v w' => (∃ a c, v = .tuple #[.agg #[.slice a P.length c], .bool true] ∧ (LSl LR).rd M w' P [.slice a P.length c]) ∧ Mod [] wA w') := by
  unfold progOfV at hp
  cases ht : tokV s (s.size + 1) 0 with
  | none => rw [ht] at hp; cases hp
  | some l =>
  rw [ht] at hp
  simp only [] at hp
  cases hl : Nat.ble l.length 10000 with
  | false => rw [hl] at hp; cases hp
  | true =>
  rw [hl] at hp
  simp only [cond_true] at hp
  have hl := Nat.le_of_ble_eq_true hl
  cases hr : relsV l 100 0 [] with
  | none => rw [hr] at hp; cases hp
  | some P' =>
  rw [hr] at hp
  simp only [] at hp
  cases ho : progOkV P' with
  | false => rw [ho] at hp; cases hp
  | true =>
  rw [ho] at hp
  cases hp
  refine enterCT Tryz.func5 rfl Tryz.ntmps5 rfl (by simp) ?_
  have H := (Holds.start wA []).add (d := Dat.wide M eVar) (eVar.grow _ _ _ (fun b _ hb => hb.elim id (fun h => by simp [owns] at h)) hev)
  refine W_rs ?_
  refine qrb H ?_; intro b2 w H
  (repeat (first | refine qq ?_ | (refine qds H ?_; intro H) | (refine qdr H ?_; intro H)))
  refine qa1 (hc := Tokens_c (M := fun b => M b ∨ b ∈ owns [box b2 [.slice none 0 0] 25]) (fun b hb => hb.elim (fun h => Nat.lt_of_lt_of_le (hM b h) H.mod.size) (H.lt b)) hs hok ht (by omega)) (k := ?_)
  rintro _ w ⟨⟨u, rfl, hx⟩, hm⟩
  obtain ⟨a, c, rfl⟩ : ∃ a c, u = .slice a l.length c := by
    obtain ⟨a, n, c, he, h6, _⟩ := hx
    cases he
    exact ⟨a, c, by rw [h6]⟩
  have H := (H.call hm).add (d := (LSl LStr).dat M l [.slice a l.length c]) hx
  (repeat (first | refine qq ?_ | (refine qds H ?_; intro H) | (refine qrb H ?_; intro _ w H) | (refine qrs H ?_; intro w H) | (refine qdr H ?_; intro H)))
  refine WO_rd rfl (X_build (by exact rfl) [(0, [.slice a l.length c])] (by exact rfl) (xs := [.slice a l.length c, .int .i64 0]) (by exact rfl)) ?_
  refine qrb H ?_; intro r w H
  (repeat (first | refine qq ?_ | (refine qds H ?_; intro H) | (refine qdr H ?_; intro H)))
  refine WO_rd rfl (X_build (by exact rfl) [] (by exact rfl) (xs := [.slice none 0 0]) (by exact rfl)) ?_
  refine qrb H ?_; intro b7 w H
  refine qrs H ?_; intro w H
  (repeat (first | refine qq ?_ | (refine qds H ?_; intro H) | (refine qrb H ?_; intro _ w H) | (refine qrs H ?_; intro w H) | (refine qdr H ?_; intro H)))
  have H := H.add (d := Dat.wide M ((LSl LStr).dat (fun _ => False) l [.slice a l.length c])) ((LSl LStr).grow _ _ _ _ _ (fun b _ hb => by
    rcases hb with hb | hb | hb
    · exact hb.elim
    · exact .inl hb
    · exact .inr hb) (H.dat (d := (LSl LStr).dat M l [.slice a l.length c]) (by simp)))
  have H := H.perm (A' := [box b7 [.slice none 0 0] 25, box b2 [.slice none 0 0] 25, box r (rcells a l c 0) 64]) (.cons _ (.swap _ _ _))
  have H := (H.nilRow 67 7).dnil (L := LR) (M := M)
  refine W_loop (fun m f w' => ∃ gg q acc a7 c7 vss, f = sl gg [(2, .pointer (some ⟨b2, 0, none⟩)), (6, .pointer (some ⟨r, 0, none⟩)), (7, .pointer (some ⟨b7, 0, none⟩))] ∧ relsV l m q acc = some P ∧ acc.length + m ≤ 100 ∧
    Holds wA [] [orow 67 7 (.slice a7 vss.length c7) vss, box b7 [.slice a7 vss.length c7] 25, box b2 [.slice none 0 0] 25, box r (rcells a l c q) 64] [dall LR M acc vss, Dat.wide M ((LSl LStr).dat (fun _ => False) l [.slice a l.length c]), Dat.wide M eVar] w') 100
    ⟨_, 0, [], none, 0, [], sl_back ⟨rfl, rfl, rfl, trivial⟩, hr, Nat.le_refl _, H.sub (.refl _) (by simp)⟩ ?_
  clear H hr
  rintro m f w ⟨gg, q, acc, a7, c7, vss, rfl, hrs, hal, H⟩
  cases m with
  | zero => cases hrs
  | succ m =>
  unfold relsV at hrs
  (repeat (first | refine qq ?_ | (refine qds H ?_; intro H) | (refine qrb H ?_; intro _ w H) | (refine qrs H ?_; intro w H) | (refine qdr H ?_; intro H)))
  refine qa1 (hc := done_c (l := l) (i := q) (c := c) (a := a) (H.bcells 3 2 rfl rfl)) (k := ?_)
  rintro _ w ⟨rfl, hm⟩
  have H := H.call hm
  cases hd : Nat.beq q l.length with
  | true =>
    rw [hd] at hrs
    cases hrs
    have hvl := (Alls.get (H.dat (d := dall LR M P vss) (by simp))).1
    have H := Holds.freeze (A1 := []) (A2 := [box b7 [.slice a7 vss.length c7] 25, box b2 [.slice none 0 0] 25, box r (rcells a l c q) 64]) (M := M) (L := LR) (l := P) H hM (H.dat (by simp)) (by simp)
    rw [← hvl] at H
    (repeat (first | refine qq ?_ | (refine qds H ?_; intro H) | (refine qrb H ?_; intro _ w H) | (refine qrs H ?_; intro w H) | (refine qdr H ?_; intro H)))
    refine qa1 (hc := ProgramOk_c (M := fun b => M b ∨ b ∈ owns [box b7 [.slice a7 P.length c7] 25, box b2 [.slice none 0 0] 25, box r (rcells a l c q) 64]) ho (fun b hb => hb.elim (fun h => Nat.lt_of_lt_of_le (hM b h) H.mod.size) (H.lt b)) (H.dat (d := (LSl LR).dat M P [.slice a7 P.length c7]) (by simp))) (k := ?_)
    rintro _ w ⟨rfl, hm⟩
    have H := H.call hm
    (repeat (first | refine qq ?_ | (refine qds H ?_; intro H) | (refine qrb H ?_; intro _ w H) | (refine qrs H ?_; intro w H) | (refine qdr H ?_; intro H)))
    exact ⟨_, _, _, rfl, H.bcells 1 1 rfl rfl, rfl, ⟨a7, c7, rfl, H.out (L := LSl LR) (x := P) 0 rfl⟩, H.mod⟩
  | false =>
    rw [hd] at hrs
    simp only [cond_false] at hrs
    cases hdf : defV l q with
    | none => rw [hdf] at hrs; cases hrs
    | some xj =>
    obtain ⟨x, j⟩ := xj
    rw [hdf] at hrs
    simp only [] at hrs
    (repeat (first | refine qq ?_ | (refine qds H ?_; intro H) | (refine qrb H ?_; intro _ w H) | (refine qrs H ?_; intro w H) | (refine qdr H ?_; intro H)))
    refine qa1 (hc := definition_c hl hdf (H.dat (d := Dat.wide M eVar) (by simp)) (H.into (A1 := [_, _, _]) (As := tkA r a l c) (ds := tkD l a c) (s := q) rfl hM (by simp))) (k := ?_)
    rintro _ w ⟨⟨vs, rfl, hx⟩, hout⟩
    have hoo := hout.2.2.1
    obtain ⟨a1, c1, a2, c2, rfl, _⟩ := rdR_form hx
    have H := (H.step (A1 := [_, _, _]) (As := tkA r a l c) rfl hout).addO (A1 := [_, _, _]) (As := tkA r a l c) (s := q) (s1 := j) (M := M) hoo (L := LR) (x := x) hx
    (repeat (first | refine qq ?_ | (refine qds H ?_; intro H) | (refine qdr H ?_; intro H)))
    refine qrb H ?_; intro b8 w H
    refine qrs H ?_; intro w H
    (repeat (first | refine qq ?_ | (refine qds H ?_; intro H) | (refine qrb H ?_; intro _ w H) | (refine qrs H ?_; intro w H) | (refine qdr H ?_; intro H)))
    (first | refine WO_s rfl (S_bslice1N H _ (by exact rfl) (by exact rfl) (by exact rfl) (by exact rfl) (by exact rfl) ?_) | refine WO_s rfl (S_bslice1s H _ (by exact rfl) (by exact rfl) (by exact rfl) ?_)); intro b98 w H
    refine WO_s rfl (S_append H 2 _ _ (vs := [.string x.name, .int .i64 (x.arity : Nat), .int .i64 (x.locs : Nat), .int .i64 (x.body.kind : Nat), .string x.body.name, .slice a1 x.body.terms.length c1, .slice a2 x.body.kids.length c2]) (by exact rfl) (by exact rfl) (by exact rfl) (H.bcells 0 7 rfl rfl) rfl (LR.one _ _ _ _ hx) (by simp) (by exact rfl) ?_ ?_)
    · have := (Alls.get (H.dat (d := dall LR M acc vss) (by simp))).1
      omega
    intro v' w H
    obtain ⟨a13, c13, rfl⟩ := H.rowVal 2 rfl
    have H := H.snoc (L := LR) (M := M) (l := acc) (vss := vss) (x := x) (by simp) (H.dat (d := LR.dat M x [.string x.name, .int .i64 (x.arity : Nat), .int .i64 (x.locs : Nat), .int .i64 (x.body.kind : Nat), .string x.body.name, .slice a1 x.body.terms.length c1, .slice a2 x.body.kids.length c2]) (by simp))
    (repeat (first | refine qq ?_ | (refine qds H ?_; intro H) | (refine qrb H ?_; intro _ w H) | (refine qrs H ?_; intro w H) | (refine qdr H ?_; intro H)))
    exact ⟨m, by omega, _, j, acc ++ [x], a13, c13, vss ++ [[.string x.name, .int .i64 (x.arity : Nat), .int .i64 (x.locs : Nat), .int .i64 (x.body.kind : Nat), .string x.body.name, .slice a1 x.body.terms.length c1, .slice a2 x.body.kids.length c2]], sl_back ⟨rfl, rfl, rfl, trivial⟩, hrs, by simp; omega, H.sub (.cons _ (.cons _ (.refl _))) (by simp)⟩
end Go.Proofs.YtljpfnjpifhdlaaGreatDoor
namespace Go.Proofs.YtljpfnjpifhdlaaGreatDoor
open Go
/-- the program's text -/
def arithS : ByteArray := ⟨#[40, 100, 101, 102, 105, 110, 101, 32, 40, 110, 101, 120, 116, 32, 63, 97, 32, 63, 98, 41, 32, 40, 111, 114, 32, 40, 97, 110, 100, 32, 40, 61, 32, 63, 97, 32, 40, 41, 41, 32, 40, 61, 32, 63, 98, 32, 40, 49, 41, 41, 41, 32, 40, 97, 110, 100, 32, 40, 61, 32, 63, 97, 32, 40, 48, 32, 46, 32, 63, 120, 41, 41, 32, 40, 47, 61, 32, 63, 120, 32, 40, 41, 41, 32, 40, 61, 32, 63, 98, 32, 40, 49, 32, 46, 32, 63, 120, 41, 41, 41, 32, 40, 97, 110, 100, 32, 40, 61, 32, 63, 97, 32, 40, 49, 32, 46, 32, 63, 120, 41, 41, 32, 40, 61, 32, 63, 98, 32, 40, 48, 32, 46, 32, 63, 121, 41, 41, 32, 40, 110, 101, 120, 116, 32, 63, 120, 32, 63, 121, 41, 41, 41, 41, 10, 40, 100, 101, 102, 105, 110, 101, 32, 40, 112, 108, 117, 115, 32, 63, 97, 32, 63, 98, 32, 63, 99, 41, 32, 40, 111, 114, 32, 40, 97, 110, 100, 32, 40, 61, 32, 63, 97, 32, 40, 41, 41, 32, 40, 61, 32, 63, 99, 32, 63, 98, 41, 41, 32, 40, 97, 110, 100, 32, 40, 61, 32, 63, 98, 32, 40, 41, 41, 32, 40, 61, 32, 63, 97, 32, 40, 63, 100, 32, 46, 32, 63, 120, 41, 41, 32, 40, 61, 32, 63, 99, 32, 63, 97, 41, 41, 32, 40, 97, 110, 100, 32, 40, 61, 32, 63, 97, 32, 40, 48, 32, 46, 32, 63, 120, 41, 41, 32, 40, 61, 32, 63, 98, 32, 40, 48, 32, 46, 32, 63, 121, 41, 41, 32, 40, 61, 32, 63, 99, 32, 40, 48, 32, 46, 32, 63, 122, 41, 41, 32, 40, 47, 61, 32, 63, 120, 32, 40, 41, 41, 32, 40, 47, 61, 32, 63, 121, 32, 40, 41, 41, 32, 40, 112, 108, 117, 115, 32, 63, 120, 32, 63, 121, 32, 63, 122, 41, 41, 32, 40, 97, 110, 100, 32, 40, 61, 32, 63, 97, 32, 40, 49, 32, 46, 32, 63, 120, 41, 41, 32, 40, 61, 32, 63, 98, 32, 40, 48, 32, 46, 32, 63, 121, 41, 41, 32, 40, 61, 32, 63, 99, 32, 40, 49, 32, 46, 32, 63, 122, 41, 41, 32, 40, 47, 61, 32, 63, 121, 32, 40, 41, 41, 32, 40, 112, 108, 117, 115, 32, 63, 120, 32, 63, 121, 32, 63, 122, 41, 41, 32, 40, 97, 110, 100, 32, 40, 61, 32, 63, 97, 32, 40, 48, 32, 46, 32, 63, 120, 41, 41, 32, 40, 61, 32, 63, 98, 32, 40, 49, 32, 46, 32, 63, 121, 41, 41, 32, 40, 61, 32, 63, 99, 32, 40, 49, 32, 46, 32, 63, 122, 41, 41, 32, 40, 47, 61, 32, 63, 120, 32, 40, 41, 41, 32, 40, 112, 108, 117, 115, 32, 63, 120, 32, 63, 121, 32, 63, 122, 41, 41, 32, 40, 97, 110, 100, 32, 40, 61, 32, 63, 97, 32, 40, 49, 32, 46, 32, 63, 120, 41, 41, 32, 40, 61, 32, 63, 98, 32, 40, 49, 32, 46, 32, 63, 121, 41, 41, 32, 40, 61, 32, 63, 99, 32, 40, 48, 32, 46, 32, 63, 122, 41, 41, 32, 40, 99, 97, 114, 114, 121, 32, 63, 120, 32, 63, 121, 32, 63, 122, 41, 41, 41, 41, 10, 40, 100, 101, 102, 105, 110, 101, 32, 40, 99, 97, 114, 114, 121, 32, 63, 97, 32, 63, 98, 32, 63, 99, 41, 32, 40, 111, 114, 32, 40, 97, 110, 100, 32, 40, 61, 32, 63, 97, 32, 40, 41, 41, 32, 40, 110, 101, 120, 116, 32, 63, 98, 32, 63, 99, 41, 41, 32, 40, 97, 110, 100, 32, 40, 61, 32, 63, 98, 32, 40, 41, 41, 32, 40, 61, 32, 63, 97, 32, 40, 63, 100, 32, 46, 32, 63, 120, 41, 41, 32, 40, 110, 101, 120, 116, 32, 63, 97, 32, 63, 99, 41, 41, 32, 40, 97, 110, 100, 32, 40, 61, 32, 63, 97, 32, 40, 48, 32, 46, 32, 63, 120, 41, 41, 32, 40, 61, 32, 63, 98, 32, 40, 48, 32, 46, 32, 63, 121, 41, 41, 32, 40, 61, 32, 63, 99, 32, 40, 49, 32, 46, 32, 63, 122, 41, 41, 32, 40, 47, 61, 32, 63, 120, 32, 40, 41, 41, 32, 40, 47, 61, 32, 63, 121, 32, 40, 41, 41, 32, 40, 112, 108, 117, 115, 32, 63, 120, 32, 63, 121, 32, 63, 122, 41, 41, 32, 40, 97, 110, 100, 32, 40, 61, 32, 63, 97, 32, 40, 49, 32, 46, 32, 63, 120, 41, 41, 32, 40, 61, 32, 63, 98, 32, 40, 48, 32, 46, 32, 63, 121, 41, 41, 32, 40, 61, 32, 63, 99, 32, 40, 48, 32, 46, 32, 63, 122, 41, 41, 32, 40, 47, 61, 32, 63, 121, 32, 40, 41, 41, 32, 40, 99, 97, 114, 114, 121, 32, 63, 120, 32, 63, 121, 32, 63, 122, 41, 41, 32, 40, 97, 110, 100, 32, 40, 61, 32, 63, 97, 32, 40, 48, 32, 46, 32, 63, 120, 41, 41, 32, 40, 61, 32, 63, 98, 32, 40, 49, 32, 46, 32, 63, 121, 41, 41, 32, 40, 61, 32, 63, 99, 32, 40, 48, 32, 46, 32, 63, 122, 41, 41, 32, 40, 47, 61, 32, 63, 120, 32, 40, 41, 41, 32, 40, 99, 97, 114, 114, 121, 32, 63, 120, 32, 63, 121, 32, 63, 122, 41, 41, 32, 40, 97, 110, 100, 32, 40, 61, 32, 63, 97, 32, 40, 49, 32, 46, 32, 63, 120, 41, 41, 32, 40, 61, 32, 63, 98, 32, 40, 49, 32, 46, 32, 63, 121, 41, 41, 32, 40, 61, 32, 63, 99, 32, 40, 49, 32, 46, 32, 63, 122, 41, 41, 32, 40, 99, 97, 114, 114, 121, 32, 63, 120, 32, 63, 121, 32, 63, 122, 41, 41, 41, 41, 10, 40, 100, 101, 102, 105, 110, 101, 32, 40, 108, 101, 115, 115, 32, 63, 97, 32, 63, 98, 41, 32, 40, 112, 108, 117, 115, 32, 63, 97, 32, 40, 63, 100, 32, 46, 32, 63, 120, 41, 32, 63, 98, 41, 41, 10]⟩
set_option maxRecDepth 100000 in
theorem ArithmeticText_c (w : World) : Calls Tryz.prog 6 #[] w (Ret fun v w' => v = .string arithS ∧ Mod [] w w') := by
  refine enter1 Tryz.func6 rfl Tryz.ntmps6 rfl (by simp) ?_
  have H := Holds.start w []
  (repeat (first | refine qq ?_ | (refine qds H ?_; intro H) | (refine qrb H ?_; intro _ w H) | (refine qrs H ?_; intro w H) | (refine qdr H ?_; intro H)))
  exact ⟨congrArg (fun l : List UInt8 => Value.string ⟨l.toArray⟩) (by decide +kernel), H.mod⟩
open T
def eqq (a b : T) : G := .mk 2 ⟨#[]⟩ [a, b] []
def dff (a b : T) : G := .mk 3 ⟨#[]⟩ [a, b] []
def andd (l : List G) : G := .mk 7 ⟨#[]⟩ [] l
def orr (l : List G) : G := .mk 8 ⟨#[]⟩ [] l
def nmNext : ByteArray := ⟨#[110, 101, 120, 116]⟩
def nmPlus : ByteArray := ⟨#[112, 108, 117, 115]⟩
def nmCarry : ByteArray := ⟨#[99, 97, 114, 114, 121]⟩
def nmLess : ByteArray := ⟨#[108, 101, 115, 115]⟩
def gcall (n : ByteArray) (l : List T) : G := .mk 9 n l []
def b0 (t : T) : T := pair (num 0) t
def b1 (t : T) : T := pair (num 1) t
def rNext : Rl := ⟨nmNext, 2, 2, orr [andd [eqq (var 0) nil, eqq (var 1) (b1 nil)], andd [eqq (var 0) (b0 (var 2)), dff (var 2) nil, eqq (var 1) (b1 (var 2))], andd [eqq (var 0) (b1 (var 2)), eqq (var 1) (b0 (var 3)), gcall nmNext [var 2, var 3]]]⟩
def rPlus : Rl := ⟨nmPlus, 3, 4, orr [andd [eqq (var 0) nil, eqq (var 2) (var 1)],
  andd [eqq (var 1) nil, eqq (var 0) (pair (var 3) (var 4)), eqq (var 2) (var 0)],
  andd [eqq (var 0) (b0 (var 4)), eqq (var 1) (b0 (var 5)), eqq (var 2) (b0 (var 6)), dff (var 4) nil, dff (var 5) nil, gcall nmPlus [var 4, var 5, var 6]],
  andd [eqq (var 0) (b1 (var 4)), eqq (var 1) (b0 (var 5)), eqq (var 2) (b1 (var 6)), dff (var 5) nil, gcall nmPlus [var 4, var 5, var 6]],
  andd [eqq (var 0) (b0 (var 4)), eqq (var 1) (b1 (var 5)), eqq (var 2) (b1 (var 6)), dff (var 4) nil, gcall nmPlus [var 4, var 5, var 6]],
  andd [eqq (var 0) (b1 (var 4)), eqq (var 1) (b1 (var 5)), eqq (var 2) (b0 (var 6)), gcall nmCarry [var 4, var 5, var 6]]]⟩
def rCarry : Rl := ⟨nmCarry, 3, 4, orr [andd [eqq (var 0) nil, gcall nmNext [var 1, var 2]],
  andd [eqq (var 1) nil, eqq (var 0) (pair (var 3) (var 4)), gcall nmNext [var 0, var 2]],
  andd [eqq (var 0) (b0 (var 4)), eqq (var 1) (b0 (var 5)), eqq (var 2) (b1 (var 6)), dff (var 4) nil, dff (var 5) nil, gcall nmPlus [var 4, var 5, var 6]],
  andd [eqq (var 0) (b1 (var 4)), eqq (var 1) (b0 (var 5)), eqq (var 2) (b0 (var 6)), dff (var 5) nil, gcall nmCarry [var 4, var 5, var 6]],
  andd [eqq (var 0) (b0 (var 4)), eqq (var 1) (b1 (var 5)), eqq (var 2) (b0 (var 6)), dff (var 4) nil, gcall nmCarry [var 4, var 5, var 6]],
  andd [eqq (var 0) (b1 (var 4)), eqq (var 1) (b1 (var 5)), eqq (var 2) (b1 (var 6)), gcall nmCarry [var 4, var 5, var 6]]]⟩
def rLess : Rl := ⟨nmLess, 2, 2, gcall nmPlus [var 0, pair (var 2) (var 3), var 1]⟩
def progP : List Rl := [rNext, rPlus, rCarry, rLess]

theorem ba_get (s : ByteArray) (i : Nat) : s[i]? = s.data.toList[i]? := by
  by_cases h : i < s.size
  · rw [getElem?_pos s i h, List.getElem?_eq_getElem (by simpa using h)]; rfl
  · rw [getElem?_neg s i h, List.getElem?_eq_none (by simpa using h)]
theorem ba_ext (s : ByteArray) (i j : Nat) : s.extract i j = ⟨((s.data.toList.drop i).take (j - i)).toArray⟩ := by
  have h : (s.extract i j).data.toList = (s.data.toList.drop i).take (j - i) := by
    rw [ByteArray.data_extract, Array.toList_extract, List.extract_eq_take_drop]
  cases he : s.extract i j with
  | mk d => rw [he] at h; simp only at h; rw [← h]
def wordL : List UInt8 → Nat
  | [] => 0
  | c :: r => bif stopB c.toNat then 0 else wordL r + 1
theorem drop_of {s : ByteArray} {i : Nat} : (s[i]? = none ∧ s.data.toList.drop i = []) ∨ ∃ c, s[i]? = some c ∧ s.data.toList.drop i = c :: s.data.toList.drop (i + 1) := by
  rw [ba_get]
  by_cases h : i < s.data.toList.length
  · exact .inr ⟨_, List.getElem?_eq_getElem h, List.drop_eq_getElem_cons h⟩
  · exact .inl ⟨List.getElem?_eq_none (by omega), List.drop_eq_nil_of_le (by omega)⟩
theorem wordEnd_eq {s : ByteArray} : ∀ (f k : Nat), (s.data.toList.drop k).length ≤ f → wordEnd s f k = k + wordL (s.data.toList.drop k)
  | 0, k, h => by
    have : s.data.toList.drop k = [] := List.eq_nil_of_length_eq_zero (by omega)
    rw [this]; rfl
  | f + 1, k, h => by
    unfold wordEnd
    rcases drop_of (s := s) (i := k) with ⟨h1, h2⟩ | ⟨c, h1, h2⟩
    · rw [h1, h2]; rfl
    · rw [h1, h2]
      simp only [wordL]
      cases hc : stopB c.toNat with
      | true => rfl
      | false =>
        simp only [cond_false]
        rw [wordEnd_eq f (k + 1) (by rw [h2] at h; simpa using h)]
        omega
def tokL : Nat → List UInt8 → Option (List (List UInt8))
  | _, [] => some []
  | 0, _ :: _ => none
  | f + 1, c :: r => bif Nat.beq c.toNat 32 || Nat.beq c.toNat 10 then tokL f r
    else bif Nat.beq c.toNat 59 then none
    else bif Nat.beq c.toNat 40 || Nat.beq c.toNat 41 then (match tokL f r with | none => none | some l => some ([c] :: l))
    else (match tokL f ((c :: r).drop (wordL (c :: r))) with | none => none | some l => some ((c :: r).take (wordL (c :: r)) :: l))
def toB (l : List (List UInt8)) : List ByteArray := l.map fun x => ⟨x.toArray⟩
theorem tokV_eq {s : ByteArray} : ∀ (f i : Nat), tokV s f i = (tokL f (s.data.toList.drop i)).map toB := by
  intro f
  induction f with
  | zero =>
    intro i
    unfold tokV
    rcases drop_of (s := s) (i := i) with ⟨h1, h2⟩ | ⟨c, h1, h2⟩
    · rw [h1, h2]; rfl
    · rw [h1, h2]; rfl
  | succ f ih =>
    intro i
    unfold tokV
    rcases drop_of (s := s) (i := i) with ⟨h1, h2⟩ | ⟨c, h1, h2⟩
    · rw [h1, h2]; rfl
    · rw [h1, h2]
      simp only [tokL]
      cases Nat.beq c.toNat 32 || Nat.beq c.toNat 10 with
      | true => exact ih (i + 1)
      | false =>
      cases Nat.beq c.toNat 59 with
      | true => rfl
      | false =>
      cases Nat.beq c.toNat 40 || Nat.beq c.toNat 41 with
      | true =>
        simp only [cond_true, cond_false]
        rw [ih (i + 1), ba_ext, h2, show i + 1 - i = 1 by omega]
        cases tokL f (s.data.toList.drop (i + 1)) <;> rfl
      | false =>
        simp only [cond_false]
        have hw := wordEnd_eq (s := s) s.size i (by rw [List.length_drop]; show s.data.size - i ≤ s.data.size; omega)
        rw [h2] at hw
        rw [hw, ih, ba_ext, h2, ← h2, List.drop_drop, show i + wordL (s.data.toList.drop i) - i = wordL (s.data.toList.drop i) by omega]
        cases tokL f (s.data.toList.drop (i + wordL (s.data.toList.drop i))) <;> rfl
/-- the text's words -/
def toks : List ByteArray := [⟨#[40]⟩, ⟨#[100, 101, 102, 105, 110, 101]⟩, ⟨#[40]⟩, ⟨#[110, 101, 120, 116]⟩, ⟨#[63, 97]⟩, ⟨#[63, 98]⟩, ⟨#[41]⟩, ⟨#[40]⟩, ⟨#[111, 114]⟩, ⟨#[40]⟩, ⟨#[97, 110, 100]⟩, ⟨#[40]⟩, ⟨#[61]⟩, ⟨#[63, 97]⟩, ⟨#[40]⟩, ⟨#[41]⟩, ⟨#[41]⟩, ⟨#[40]⟩, ⟨#[61]⟩, ⟨#[63, 98]⟩, ⟨#[40]⟩, ⟨#[49]⟩, ⟨#[41]⟩, ⟨#[41]⟩, ⟨#[41]⟩, ⟨#[40]⟩, ⟨#[97, 110, 100]⟩, ⟨#[40]⟩, ⟨#[61]⟩, ⟨#[63, 97]⟩, ⟨#[40]⟩, ⟨#[48]⟩, ⟨#[46]⟩, ⟨#[63, 120]⟩, ⟨#[41]⟩, ⟨#[41]⟩, ⟨#[40]⟩, ⟨#[47, 61]⟩, ⟨#[63, 120]⟩, ⟨#[40]⟩, ⟨#[41]⟩, ⟨#[41]⟩, ⟨#[40]⟩, ⟨#[61]⟩, ⟨#[63, 98]⟩, ⟨#[40]⟩, ⟨#[49]⟩, ⟨#[46]⟩, ⟨#[63, 120]⟩, ⟨#[41]⟩, ⟨#[41]⟩, ⟨#[41]⟩, ⟨#[40]⟩, ⟨#[97, 110, 100]⟩, ⟨#[40]⟩, ⟨#[61]⟩, ⟨#[63, 97]⟩, ⟨#[40]⟩, ⟨#[49]⟩, ⟨#[46]⟩, ⟨#[63, 120]⟩, ⟨#[41]⟩, ⟨#[41]⟩, ⟨#[40]⟩, ⟨#[61]⟩, ⟨#[63, 98]⟩, ⟨#[40]⟩, ⟨#[48]⟩, ⟨#[46]⟩, ⟨#[63, 121]⟩, ⟨#[41]⟩, ⟨#[41]⟩, ⟨#[40]⟩, ⟨#[110, 101, 120, 116]⟩, ⟨#[63, 120]⟩, ⟨#[63, 121]⟩, ⟨#[41]⟩, ⟨#[41]⟩, ⟨#[41]⟩, ⟨#[41]⟩, ⟨#[40]⟩, ⟨#[100, 101, 102, 105, 110, 101]⟩, ⟨#[40]⟩, ⟨#[112, 108, 117, 115]⟩, ⟨#[63, 97]⟩, ⟨#[63, 98]⟩, ⟨#[63, 99]⟩, ⟨#[41]⟩, ⟨#[40]⟩, ⟨#[111, 114]⟩, ⟨#[40]⟩, ⟨#[97, 110, 100]⟩, ⟨#[40]⟩, ⟨#[61]⟩, ⟨#[63, 97]⟩, ⟨#[40]⟩, ⟨#[41]⟩, ⟨#[41]⟩, ⟨#[40]⟩, ⟨#[61]⟩, ⟨#[63, 99]⟩, ⟨#[63, 98]⟩, ⟨#[41]⟩, ⟨#[41]⟩, ⟨#[40]⟩, ⟨#[97, 110, 100]⟩, ⟨#[40]⟩, ⟨#[61]⟩, ⟨#[63, 98]⟩, ⟨#[40]⟩, ⟨#[41]⟩, ⟨#[41]⟩, ⟨#[40]⟩, ⟨#[61]⟩, ⟨#[63, 97]⟩, ⟨#[40]⟩, ⟨#[63, 100]⟩, ⟨#[46]⟩, ⟨#[63, 120]⟩, ⟨#[41]⟩, ⟨#[41]⟩, ⟨#[40]⟩, ⟨#[61]⟩, ⟨#[63, 99]⟩, ⟨#[63, 97]⟩, ⟨#[41]⟩, ⟨#[41]⟩, ⟨#[40]⟩, ⟨#[97, 110, 100]⟩, ⟨#[40]⟩, ⟨#[61]⟩, ⟨#[63, 97]⟩, ⟨#[40]⟩, ⟨#[48]⟩, ⟨#[46]⟩, ⟨#[63, 120]⟩, ⟨#[41]⟩, ⟨#[41]⟩, ⟨#[40]⟩, ⟨#[61]⟩, ⟨#[63, 98]⟩, ⟨#[40]⟩, ⟨#[48]⟩, ⟨#[46]⟩, ⟨#[63, 121]⟩, ⟨#[41]⟩, ⟨#[41]⟩, ⟨#[40]⟩, ⟨#[61]⟩, ⟨#[63, 99]⟩, ⟨#[40]⟩, ⟨#[48]⟩, ⟨#[46]⟩, ⟨#[63, 122]⟩, ⟨#[41]⟩, ⟨#[41]⟩, ⟨#[40]⟩, ⟨#[47, 61]⟩, ⟨#[63, 120]⟩, ⟨#[40]⟩, ⟨#[41]⟩, ⟨#[41]⟩, ⟨#[40]⟩, ⟨#[47, 61]⟩, ⟨#[63, 121]⟩, ⟨#[40]⟩, ⟨#[41]⟩, ⟨#[41]⟩, ⟨#[40]⟩, ⟨#[112, 108, 117, 115]⟩, ⟨#[63, 120]⟩, ⟨#[63, 121]⟩, ⟨#[63, 122]⟩, ⟨#[41]⟩, ⟨#[41]⟩, ⟨#[40]⟩, ⟨#[97, 110, 100]⟩, ⟨#[40]⟩, ⟨#[61]⟩, ⟨#[63, 97]⟩, ⟨#[40]⟩, ⟨#[49]⟩, ⟨#[46]⟩, ⟨#[63, 120]⟩, ⟨#[41]⟩, ⟨#[41]⟩, ⟨#[40]⟩, ⟨#[61]⟩, ⟨#[63, 98]⟩, ⟨#[40]⟩, ⟨#[48]⟩, ⟨#[46]⟩, ⟨#[63, 121]⟩, ⟨#[41]⟩, ⟨#[41]⟩, ⟨#[40]⟩, ⟨#[61]⟩, ⟨#[63, 99]⟩, ⟨#[40]⟩, ⟨#[49]⟩, ⟨#[46]⟩, ⟨#[63, 122]⟩, ⟨#[41]⟩, ⟨#[41]⟩, ⟨#[40]⟩, ⟨#[47, 61]⟩, ⟨#[63, 121]⟩, ⟨#[40]⟩, ⟨#[41]⟩, ⟨#[41]⟩, ⟨#[40]⟩, ⟨#[112, 108, 117, 115]⟩, ⟨#[63, 120]⟩, ⟨#[63, 121]⟩, ⟨#[63, 122]⟩, ⟨#[41]⟩, ⟨#[41]⟩, ⟨#[40]⟩, ⟨#[97, 110, 100]⟩, ⟨#[40]⟩, ⟨#[61]⟩, ⟨#[63, 97]⟩, ⟨#[40]⟩, ⟨#[48]⟩, ⟨#[46]⟩, ⟨#[63, 120]⟩, ⟨#[41]⟩, ⟨#[41]⟩, ⟨#[40]⟩, ⟨#[61]⟩, ⟨#[63, 98]⟩, ⟨#[40]⟩, ⟨#[49]⟩, ⟨#[46]⟩, ⟨#[63, 121]⟩, ⟨#[41]⟩, ⟨#[41]⟩, ⟨#[40]⟩, ⟨#[61]⟩, ⟨#[63, 99]⟩, ⟨#[40]⟩, ⟨#[49]⟩, ⟨#[46]⟩, ⟨#[63, 122]⟩, ⟨#[41]⟩, ⟨#[41]⟩, ⟨#[40]⟩, ⟨#[47, 61]⟩, ⟨#[63, 120]⟩, ⟨#[40]⟩, ⟨#[41]⟩, ⟨#[41]⟩, ⟨#[40]⟩, ⟨#[112, 108, 117, 115]⟩, ⟨#[63, 120]⟩, ⟨#[63, 121]⟩, ⟨#[63, 122]⟩, ⟨#[41]⟩, ⟨#[41]⟩, ⟨#[40]⟩, ⟨#[97, 110, 100]⟩, ⟨#[40]⟩, ⟨#[61]⟩, ⟨#[63, 97]⟩, ⟨#[40]⟩, ⟨#[49]⟩, ⟨#[46]⟩, ⟨#[63, 120]⟩, ⟨#[41]⟩, ⟨#[41]⟩, ⟨#[40]⟩, ⟨#[61]⟩, ⟨#[63, 98]⟩, ⟨#[40]⟩, ⟨#[49]⟩, ⟨#[46]⟩, ⟨#[63, 121]⟩, ⟨#[41]⟩, ⟨#[41]⟩, ⟨#[40]⟩, ⟨#[61]⟩, ⟨#[63, 99]⟩, ⟨#[40]⟩, ⟨#[48]⟩, ⟨#[46]⟩, ⟨#[63, 122]⟩, ⟨#[41]⟩, ⟨#[41]⟩, ⟨#[40]⟩, ⟨#[99, 97, 114, 114, 121]⟩, ⟨#[63, 120]⟩, ⟨#[63, 121]⟩, ⟨#[63, 122]⟩, ⟨#[41]⟩, ⟨#[41]⟩, ⟨#[41]⟩, ⟨#[41]⟩, ⟨#[40]⟩, ⟨#[100, 101, 102, 105, 110, 101]⟩, ⟨#[40]⟩, ⟨#[99, 97, 114, 114, 121]⟩, ⟨#[63, 97]⟩, ⟨#[63, 98]⟩, ⟨#[63, 99]⟩, ⟨#[41]⟩, ⟨#[40]⟩, ⟨#[111, 114]⟩, ⟨#[40]⟩, ⟨#[97, 110, 100]⟩, ⟨#[40]⟩, ⟨#[61]⟩, ⟨#[63, 97]⟩, ⟨#[40]⟩, ⟨#[41]⟩, ⟨#[41]⟩, ⟨#[40]⟩, ⟨#[110, 101, 120, 116]⟩, ⟨#[63, 98]⟩, ⟨#[63, 99]⟩, ⟨#[41]⟩, ⟨#[41]⟩, ⟨#[40]⟩, ⟨#[97, 110, 100]⟩, ⟨#[40]⟩, ⟨#[61]⟩, ⟨#[63, 98]⟩, ⟨#[40]⟩, ⟨#[41]⟩, ⟨#[41]⟩, ⟨#[40]⟩, ⟨#[61]⟩, ⟨#[63, 97]⟩, ⟨#[40]⟩, ⟨#[63, 100]⟩, ⟨#[46]⟩, ⟨#[63, 120]⟩, ⟨#[41]⟩, ⟨#[41]⟩, ⟨#[40]⟩, ⟨#[110, 101, 120, 116]⟩, ⟨#[63, 97]⟩, ⟨#[63, 99]⟩, ⟨#[41]⟩, ⟨#[41]⟩, ⟨#[40]⟩, ⟨#[97, 110, 100]⟩, ⟨#[40]⟩, ⟨#[61]⟩, ⟨#[63, 97]⟩, ⟨#[40]⟩, ⟨#[48]⟩, ⟨#[46]⟩, ⟨#[63, 120]⟩, ⟨#[41]⟩, ⟨#[41]⟩, ⟨#[40]⟩, ⟨#[61]⟩, ⟨#[63, 98]⟩, ⟨#[40]⟩, ⟨#[48]⟩, ⟨#[46]⟩, ⟨#[63, 121]⟩, ⟨#[41]⟩, ⟨#[41]⟩, ⟨#[40]⟩, ⟨#[61]⟩, ⟨#[63, 99]⟩, ⟨#[40]⟩, ⟨#[49]⟩, ⟨#[46]⟩, ⟨#[63, 122]⟩, ⟨#[41]⟩, ⟨#[41]⟩, ⟨#[40]⟩, ⟨#[47, 61]⟩, ⟨#[63, 120]⟩, ⟨#[40]⟩, ⟨#[41]⟩, ⟨#[41]⟩, ⟨#[40]⟩, ⟨#[47, 61]⟩, ⟨#[63, 121]⟩, ⟨#[40]⟩, ⟨#[41]⟩, ⟨#[41]⟩, ⟨#[40]⟩, ⟨#[112, 108, 117, 115]⟩, ⟨#[63, 120]⟩, ⟨#[63, 121]⟩, ⟨#[63, 122]⟩, ⟨#[41]⟩, ⟨#[41]⟩, ⟨#[40]⟩, ⟨#[97, 110, 100]⟩, ⟨#[40]⟩, ⟨#[61]⟩, ⟨#[63, 97]⟩, ⟨#[40]⟩, ⟨#[49]⟩, ⟨#[46]⟩, ⟨#[63, 120]⟩, ⟨#[41]⟩, ⟨#[41]⟩, ⟨#[40]⟩, ⟨#[61]⟩, ⟨#[63, 98]⟩, ⟨#[40]⟩, ⟨#[48]⟩, ⟨#[46]⟩, ⟨#[63, 121]⟩, ⟨#[41]⟩, ⟨#[41]⟩, ⟨#[40]⟩, ⟨#[61]⟩, ⟨#[63, 99]⟩, ⟨#[40]⟩, ⟨#[48]⟩, ⟨#[46]⟩, ⟨#[63, 122]⟩, ⟨#[41]⟩, ⟨#[41]⟩, ⟨#[40]⟩, ⟨#[47, 61]⟩, ⟨#[63, 121]⟩, ⟨#[40]⟩, ⟨#[41]⟩, ⟨#[41]⟩, ⟨#[40]⟩, ⟨#[99, 97, 114, 114, 121]⟩, ⟨#[63, 120]⟩, ⟨#[63, 121]⟩, ⟨#[63, 122]⟩, ⟨#[41]⟩, ⟨#[41]⟩, ⟨#[40]⟩, ⟨#[97, 110, 100]⟩, ⟨#[40]⟩, ⟨#[61]⟩, ⟨#[63, 97]⟩, ⟨#[40]⟩, ⟨#[48]⟩, ⟨#[46]⟩, ⟨#[63, 120]⟩, ⟨#[41]⟩, ⟨#[41]⟩, ⟨#[40]⟩, ⟨#[61]⟩, ⟨#[63, 98]⟩, ⟨#[40]⟩, ⟨#[49]⟩, ⟨#[46]⟩, ⟨#[63, 121]⟩, ⟨#[41]⟩, ⟨#[41]⟩, ⟨#[40]⟩, ⟨#[61]⟩, ⟨#[63, 99]⟩, ⟨#[40]⟩, ⟨#[48]⟩, ⟨#[46]⟩, ⟨#[63, 122]⟩, ⟨#[41]⟩, ⟨#[41]⟩, ⟨#[40]⟩, ⟨#[47, 61]⟩, ⟨#[63, 120]⟩, ⟨#[40]⟩, ⟨#[41]⟩, ⟨#[41]⟩, ⟨#[40]⟩, ⟨#[99, 97, 114, 114, 121]⟩, ⟨#[63, 120]⟩, ⟨#[63, 121]⟩, ⟨#[63, 122]⟩, ⟨#[41]⟩, ⟨#[41]⟩, ⟨#[40]⟩, ⟨#[97, 110, 100]⟩, ⟨#[40]⟩, ⟨#[61]⟩, ⟨#[63, 97]⟩, ⟨#[40]⟩, ⟨#[49]⟩, ⟨#[46]⟩, ⟨#[63, 120]⟩, ⟨#[41]⟩, ⟨#[41]⟩, ⟨#[40]⟩, ⟨#[61]⟩, ⟨#[63, 98]⟩, ⟨#[40]⟩, ⟨#[49]⟩, ⟨#[46]⟩, ⟨#[63, 121]⟩, ⟨#[41]⟩, ⟨#[41]⟩, ⟨#[40]⟩, ⟨#[61]⟩, ⟨#[63, 99]⟩, ⟨#[40]⟩, ⟨#[49]⟩, ⟨#[46]⟩, ⟨#[63, 122]⟩, ⟨#[41]⟩, ⟨#[41]⟩, ⟨#[40]⟩, ⟨#[99, 97, 114, 114, 121]⟩, ⟨#[63, 120]⟩, ⟨#[63, 121]⟩, ⟨#[63, 122]⟩, ⟨#[41]⟩, ⟨#[41]⟩, ⟨#[41]⟩, ⟨#[41]⟩, ⟨#[40]⟩, ⟨#[100, 101, 102, 105, 110, 101]⟩, ⟨#[40]⟩, ⟨#[108, 101, 115, 115]⟩, ⟨#[63, 97]⟩, ⟨#[63, 98]⟩, ⟨#[41]⟩, ⟨#[40]⟩, ⟨#[112, 108, 117, 115]⟩, ⟨#[63, 97]⟩, ⟨#[40]⟩, ⟨#[63, 100]⟩, ⟨#[46]⟩, ⟨#[63, 120]⟩, ⟨#[41]⟩, ⟨#[63, 98]⟩, ⟨#[41]⟩, ⟨#[41]⟩]
set_option maxRecDepth 100000
theorem tokens_eq : (tokL (arithS.size + 1) (arithS.data.toList.drop 0)).map toB = some toks := by kernel_rfl
theorem rels_eq : relsV toks 100 0 [] = some progP := by kernel_rfl
theorem progOf_of {s : ByteArray} {l : List ByteArray} {P : List Rl} (h1 : (tokL (s.size + 1) (s.data.toList.drop 0)).map toB = some l) (h2 : Nat.ble l.length 10000 = true) (h3 : relsV l 100 0 [] = some P) (h4 : progOkV P = true) : progOfV s = some P := by
  rw [← tokV_eq] at h1
  unfold progOfV
  rw [h1]
  simp only [h2, cond_true, h3, h4]
theorem parsed : progOfV arithS = some progP := progOf_of tokens_eq (by decide +kernel) rels_eq (by decide +kernel)
theorem arith_chars : ∀ (i : Nat) (c : UInt8), arithS[i]? = some c → charOk c = true := by
  have h : arithS.data.toList.all charOk = true := by decide +kernel
  intro i c hc
  rw [ba_get] at hc
  exact List.all_eq_true.1 h c (List.mem_of_getElem? hc)
/-- the two searches of plus and less, and what they must find -/
def gPlus (x y z : T) : G := gcall nmPlus [x, y, z]
def gLess (x y : T) : G := gcall nmLess [x, y]
def goodV (s : Sb) (l : List T) (want : List T) : Bool := match putsV s l with
  | some l' => l'.all T.ground && l'.all T.ok && allSame l' want
  | none => false
def plusOk (a b : Nat) : Bool := match depthV progP (gPlus (numT a) (numT b) (.var 0)) 1 30 3000 with
  | some ([x], true) => canStartV progP (gPlus (numT a) (numT b) (.var 0)) 1 && goodV x.1.1.bind [.var 0] [numT (a + b)]
  | _ => false
def lessOk (a b : Nat) : Bool := match depthV progP (gLess (numT a) (numT b)) 0 30 3000 with
  | some (m, true) => canStartV progP (gLess (numT a) (numT b)) 0 && (Nat.blt 0 m.length == Nat.blt a b)
  | _ => false
theorem searchV_st {P : List Rl} {depth : Nat} : ∀ {f : Nat} {stack : List Dp} {l : List Fo} {d : Bool}, searchV P depth f stack = some (l, d) → (∀ x ∈ stack, StaOk x.br.1) → ∀ x ∈ l, StaOk x.1.1
  | 0, [], _, _, h, _ => by cases h; simp
  | f + 1, [], _, _, h, _ => by cases h; simp
  | 0, _ :: _, _, _, h, _ => by cases h; simp
  | f + 1, b :: rest, l, d, h, hst => by
    simp only [searchV] at h
    cases hok : dpOk b && Nat.ble rest.length 10000 with
    | false => rw [hok] at h; cases h
    | true =>
      rw [hok] at h
      simp only [cond_true] at h
      cases hs : stepV P depth b rest with
      | none => rw [hs] at h; cases h
      | some lo =>
        obtain ⟨l1, o⟩ := lo
        rw [hs] at h
        simp only [] at h
        have hb := hst b (by simp)
        obtain ⟨k1, k2, k3⟩ := stepV_ok hs hb fun x hx => hst x (by simp [hx])
        cases hr : searchV P depth f l1 with
        | none => rw [hr] at h; cases h
        | some rd =>
          obtain ⟨r, d'⟩ := rd
          rw [hr] at h
          cases h
          intro x hx
          rcases List.mem_append.1 hx with hx | hx
          · rw [k2 x hx]; exact hb
          · exact searchV_st hr k1 x hx
theorem depthV_st {P : List Rl} {g : G} {n depth steps : Nat} {l : List Fo} {d : Bool} (h : depthV P g n depth steps = some (l, d)) : ∀ x ∈ l, StaOk x.1.1 :=
  searchV_st h (by
    intro x hx
    rw [List.mem_singleton.1 hx]
    exact ⟨⟨by simp, .nil, by simp, by simp⟩, by simp, by simp⟩)
theorem good_of {s : Sb} {l want : List T} (h : goodV s l want = true) : ∃ l', putsV s l = some l' ∧ l'.all T.ground = true ∧ l'.all T.ok = true ∧ allSame l' want = true := by
  unfold goodV at h
  split at h
  · rename_i l' hl
    simp only [Bool.and_eq_true] at h
    exact ⟨l', hl, h.1.1, h.1.2, h.2⟩
  · cases h
theorem plus_of {a b : Nat} (h : plusOk a b = true) : ∃ x l', depthV progP (gPlus (numT a) (numT b) (.var 0)) 1 30 3000 = some ([x], true) ∧ canStartV progP (gPlus (numT a) (numT b) (.var 0)) 1 = true ∧ SubOk x.1.1.bind ∧
    putsV x.1.1.bind [.var 0] = some l' ∧ l'.all T.ground = true ∧ l'.all T.ok = true ∧ allSame l' [numT (a + b)] = true := by
  unfold plusOk at h
  split at h
  · rename_i x hd
    simp only [Bool.and_eq_true] at h
    obtain ⟨l', h1, h2, h3, h4⟩ := good_of h.2
    exact ⟨x, l', hd, h.1, (depthV_st hd x (by simp)).bind, h1, h2, h3, h4⟩
  · cases h
theorem less_of {a b : Nat} (h : lessOk a b = true) : ∃ m, depthV progP (gLess (numT a) (numT b)) 0 30 3000 = some (m, true) ∧ canStartV progP (gLess (numT a) (numT b)) 0 = true ∧ (0 < m.length ↔ a < b) := by
  unfold lessOk at h
  split at h
  · rename_i m hd
    simp only [Bool.and_eq_true, beq_iff_eq] at h
    refine ⟨m, hd, h.1, ?_⟩
    have h2 := h.2
    constructor
    · intro hm
      have : Nat.blt 0 m.length = true := Nat.ble_eq_true_of_le hm
      rw [this] at h2
      exact Nat.le_of_ble_eq_true h2.symm
    · intro hm
      have : Nat.blt a b = true := Nat.ble_eq_true_of_le hm
      rw [this] at h2
      exact Nat.le_of_ble_eq_true h2
  · cases h
/-! the second law -/
def countV (l : List Fo) (p : List T) : Nat := l.countP fun x => goodV x.1.1.bind [.var 0, .var 1] p
def splOk (n : Nat) : Bool := match depthV progP (gPlus (.var 0) (.var 1) (numT n)) 2 30 4000 with
  | some (l, true) => canStartV progP (gPlus (.var 0) (.var 1) (numT n)) 2 && Nat.beq l.length (n + 1) && (l.all fun x => match putsV x.1.1.bind [.var 0, .var 1] with | some l' => l'.all T.ground && l'.all T.ok | none => false) && ((pairsV n (n + 1)).all fun p => Nat.beq (countV l p) 1)
  | _ => false
end Go.Proofs.YtljpfnjpifhdlaaGreatDoor
namespace Go.Proofs.YtljpfnjpifhdlaaGreatDoor
open Go
theorem rdSl_three {α : Type} {L : Lay α} {M : Nat → Prop} {w : World} {x y z : α} {us ts vs : List Value} {b c : Nat} (hc : 3 ≤ c) (hM : ¬ M b ∧ b < w.heap.size) (hx : L.rd M w x us) (hy : L.rd M w y ts) (hz : L.rd M w z vs) (h : Cells w b 0 (us ++ (ts ++ vs))) :
    (LSl L).rd M w [x, y, z] [.slice (some ⟨b, 0, none⟩) 3 c] := by
  obtain ⟨h1, h2⟩ := Cells.append.1 h
  obtain ⟨h2, h3⟩ := Cells.append.1 h2
  refine ⟨_, _, _, rfl, rfl, hc, .inr ⟨b, 0, rfl, hM.1, hM.2, ?_⟩⟩
  have e1 := L.len _ _ _ _ hx
  have e2 := L.len _ _ _ _ hy
  refine ⟨⟨us, hx, h1⟩, ⟨ts, hy, ?_⟩, ⟨vs, hz, ?_⟩, trivial⟩
  · rw [e1] at h2; exact h2
  · rw [e1, e2] at h3; exact h3
theorem X_beq {w : World} {r : Operand → Value} {d : Option Tmp} {ty yt : TypeId} {pos : String} {aft : Array Edge} {g : Option (Nat × Bool)} (x y : Operand) {a b : Bool} (hx : r x = .bool a) (hy : r y = .bool b) :
    runC Tryz.prog w (execOp r ⟨d, .binOp .eql 4 x y yt, ty, pos, aft, g⟩) = some (.value (.bool (a == b))) := by
  simp only [execOp, hx, hy]
  cases a <;> cases b <;> kernel_rfl
theorem pEnd (x1 x2 : Nat) (m : Nat) (h : 0 < m ↔ x1 < x2) : (decide ((0 : Int) < (m : Nat)) == decide ((x1 : Int) < (x2 : Nat))) = true := by
  by_cases h2 : x1 < x2
  · rw [decide_eq_true (by omega), decide_eq_true (by omega)]; rfl
  · rw [decide_eq_false (by omega), decide_eq_false (by omega)]; rfl
theorem Holds.off2 {w0 w : World} {S : List Nat} {A : List Atom} {D : List Dat} {M : Nat → Prop} (H : Holds w0 S A D w) (hM : ∀ b, M b → b < w0.heap.size) : ∃ M' : Nat → Prop, (∀ w' : World, w.heap.size ≤ w'.heap.size → ∀ b, M' b → b < w'.heap.size) ∧
    ∀ {α : Type} {L : Lay α} {x : α} {vs : List Value} {w' : World}, L.rd M' w' x vs ↔ (L.dat M x vs).ok (· ∈ owns A) w' :=
  ⟨fun b => M b ∨ b ∈ owns A, fun _ h b hb => Nat.lt_of_lt_of_le (H.hM hM b hb) h, Iff.rfl⟩
theorem noG {M : Nat → Prop} {w : World} : (LSl LG).rd M w [] [.slice none 0 0] := ⟨none, 0, 0, rfl, RdSl.nil _ _⟩
def M0 : Nat → Prop := fun _ => False
theorem M0_lt {w : World} : ∀ b, M0 b → b < w.heap.size := fun _ h => h.elim
set_option maxHeartbeats 4000000 in
set_option maxRecDepth 100000 in
theorem plus_c {a : Option Addr} {l cap : Nat} {wA : World} (hby : Cu.Bytes wA a l) (hl0 : l ≤ 9223372036854775807) (hev : eVar.ok M0 wA) (hp : ∀ x y, x < 16 → y < 16 → plusOk x y = true ∧ lessOk x y = true) :
    Calls Tryz.prog 3 #[.slice a l cap] wA (Ret fun v w' => v = .bool true ∧ Mod [] wA w') := by
  have hM : ∀ b, M0 b → b < wA.heap.size := M0_lt
  refine enter1 Tryz.func3 rfl Tryz.ntmps3 rfl (by simp) ?_
  have H := (Holds.start wA []).add (d := Dat.wide M0 eVar) (eVar.grow _ _ _ (fun b _ hb => hb.elim id (fun h => by simp [owns] at h)) hev)
  by_cases hl : l ≤ 1048576
  rotate_left
  · have hl' : 1048576 < (l : Int) := by omega
    (repeat (first | refine qq ?_ | (refine qds H ?_; intro H) | (refine qrb H ?_; intro _ w H) | (refine qrs H ?_; intro w H) | (refine qdr H ?_; intro H)))
    exact ⟨rfl, H.mod⟩
  (repeat (first | refine qq ?_ | (refine qds H ?_; intro H) | (refine qrb H ?_; intro _ w H) | (refine qrs H ?_; intro w H) | (refine qdr H ?_; intro H)))
  refine qa0 (hc := ArithmeticText_c _) (k := ?_)
  rintro _ w ⟨rfl, hm⟩
  have H := H.call hm
  (repeat (first | refine qq ?_ | (refine qds H ?_; intro H) | (refine qrb H ?_; intro _ w H) | (refine qrs H ?_; intro w H) | (refine qdr H ?_; intro H)))
  refine qa1 (hc := ParseProgram_c (M := H.wr M0) (H.wr_lt hM) (by decide +kernel) arith_chars parsed (H.dat (d := Dat.wide M0 eVar) (by simp))) (k := ?_)
  rintro _ w ⟨⟨a3, c3, rfl, hP⟩, hm⟩
  have H := (H.call hm).add (d := (LSl LR).dat M0 progP [.slice a3 progP.length c3]) hP
  (repeat (first | refine qq ?_ | (refine qds H ?_; intro H) | (refine qrb H ?_; intro _ w H) | (refine qrs H ?_; intro w H) | (refine qdr H ?_; intro H)))
  refine qa2 (hc := MakeNum_c (Cu.Bytes_below hby H.mod.below) (by omega) (n := 0) (by omega)) (k := ?_)
  rintro _ w ⟨⟨n1, _, rfl⟩, hm⟩
  have H := H.call hm
  refine WO_rd rfl (X_rem (a := n1) (b := 16) _ _ (by exact rfl) (by exact rfl) (by omega)) ?_
  obtain ⟨x1, h1, e1⟩ : ∃ x, x < 16 ∧ x = n1 % 16 := ⟨_, Nat.mod_lt _ (by omega), rfl⟩
  rw [← e1]
  clear e1
  (repeat (first | refine qq ?_ | (refine qds H ?_; intro H) | (refine qrb H ?_; intro _ w H) | (refine qrs H ?_; intro w H) | (refine qdr H ?_; intro H)))
  refine qa2 (hc := MakeNum_c (Cu.Bytes_below hby H.mod.below) (by omega) (n := 2) (by omega)) (k := ?_)
  rintro _ w ⟨⟨n2, _, rfl⟩, hm⟩
  have H := H.call hm
  refine WO_rd rfl (X_rem (a := n2) (b := 16) _ _ (by exact rfl) (by exact rfl) (by omega)) ?_
  obtain ⟨x2, h2, e2⟩ : ∃ x, x < 16 ∧ x = n2 % 16 := ⟨_, Nat.mod_lt _ (by omega), rfl⟩
  rw [← e2]
  clear e2
  (repeat (first | refine qq ?_ | (refine qds H ?_; intro H) | (refine qrb H ?_; intro _ w H) | (refine qrs H ?_; intro w H) | (refine qdr H ?_; intro H)))
  obtain ⟨hpl, hle⟩ := hp x1 x2 h1 h2
  obtain ⟨f1, l1, hd1, hc1, hs1, hv1, hg1, hk1, hw1⟩ := plus_of hpl
  obtain ⟨m1, hd2, hc2, hlt⟩ := less_of hle
  refine qa1 (hc := specNumeralOf_c (n := x1) (by omega) (M := H.wr M0) (H.wr_lt hM)) (k := ?_)
  rintro _ w ⟨⟨us1, rfl, hx⟩, hm⟩
  obtain ⟨a4, c4, rfl⟩ := rdT_four hx
  have H := (H.call hm).add (d := LT.dat M0 (numT x1) [.int .i64 (numT x1).kind, .int .i64 (numT x1).int, .string (numT x1).name, .slice a4 (numT x1).args.length c4]) hx
  (repeat (first | refine qq ?_ | (refine qds H ?_; intro H) | (refine qrb H ?_; intro _ w H) | (refine qrs H ?_; intro w H) | (refine qdr H ?_; intro H)))
  refine qa1 (hc := specNumeralOf_c (n := x2) (by omega) (M := H.wr M0) (H.wr_lt hM)) (k := ?_)
  rintro _ w ⟨⟨us2, rfl, hy⟩, hm⟩
  obtain ⟨a5, c5, rfl⟩ := rdT_four hy
  have H := (H.call hm).add (d := LT.dat M0 (numT x2) [.int .i64 (numT x2).kind, .int .i64 (numT x2).int, .string (numT x2).name, .slice a5 (numT x2).args.length c5]) hy
  (repeat (first | refine qq ?_ | (refine qds H ?_; intro H) | (refine qrb H ?_; intro _ w H) | (refine qrs H ?_; intro w H) | (refine qdr H ?_; intro H)))
  refine qa1 (hc := specNumeralOf_c (n := x1 + x2) (by omega) (M := H.wr M0) (H.wr_lt hM)) (k := ?_)
  rintro _ w ⟨⟨us3, rfl, hz⟩, hm⟩
  obtain ⟨a6, c6, rfl⟩ := rdT_four hz
  have H := (H.call hm).add (d := LT.dat M0 (numT (x1 + x2)) [.int .i64 (numT (x1 + x2)).kind, .int .i64 (numT (x1 + x2)).int, .string (numT (x1 + x2)).name, .slice a6 (numT (x1 + x2)).args.length c6]) hz
  (repeat (first | refine qq ?_ | (refine qds H ?_; intro H) | (refine qrb H ?_; intro _ w H) | (refine qrs H ?_; intro w H) | (refine qdr H ?_; intro H)))
  refine WO_rd rfl (X_build (by exact rfl) [(0, [.int .i64 1])] (by exact rfl) (xs := [.int .i64 1, .int .i64 0, .string ⟨#[]⟩, .slice none 0 0]) (by exact rfl)) ?_
  refine WO_s rfl (S_bslice H (zs := [.int .i64 0, .int .i64 0, .string ⟨#[]⟩, .slice none 0 0]) (by exact rfl) (by exact rfl) (by decide) (by decide) [(0, [.int .i64 (numT x1).kind, .int .i64 (numT x1).int, .string (numT x1).name, .slice a4 (numT x1).args.length c4]), (1, [.int .i64 (numT x2).kind, .int .i64 (numT x2).int, .string (numT x2).name, .slice a5 (numT x2).args.length c5]), (2, [.int .i64 1, .int .i64 0, .string ⟨#[]⟩, .slice none 0 0])] (by exact rfl) (xs := [.int .i64 (numT x1).kind, .int .i64 (numT x1).int, .string (numT x1).name, .slice a4 (numT x1).args.length c4, .int .i64 (numT x2).kind, .int .i64 (numT x2).int, .string (numT x2).name, .slice a5 (numT x2).args.length c5, .int .i64 1, .int .i64 0, .string ⟨#[]⟩, .slice none 0 0]) (by exact rfl) ?_); intro b57 w H
  have H := H.frz hM 0 rfl (by simp)
  have hd := H.get 1 rfl
  have hh : (LSl LT).rd (H.wr M0) w [numT x1, numT x2, .var 0] [.slice (some ⟨b57, 0, none⟩) 3 3] := (rdSl_three (Nat.le_refl _) ⟨hd.1, hd.2.1⟩ (H.dat (d := LT.dat M0 (numT x1) [.int .i64 (numT x1).kind, .int .i64 (numT x1).int, .string (numT x1).name, .slice a4 (numT x1).args.length c4]) (by simp)) (H.dat (d := LT.dat M0 (numT x2) [.int .i64 (numT x2).kind, .int .i64 (numT x2).int, .string (numT x2).name, .slice a5 (numT x2).args.length c5]) (by simp)) (rdT_leaf (M := H.wr M0) (w := w) (t := .var 0) (by decide) none 0) hd.2.2)
  have H := H.add (d := (LSl LT).dat M0 [numT x1, numT x2, .var 0] [.slice (some ⟨b57, 0, none⟩) 3 3]) hh
  clear hd hh
  refine WO_rd rfl (X_build (by exact rfl) [(0, [.int .i64 9]), (1, [.string nmPlus]), (2, [.slice (some ⟨b57, 0, none⟩) 3 3])] (by exact rfl) (xs := [.int .i64 9, .string nmPlus, .slice (some ⟨b57, 0, none⟩) 3 3, .slice none 0 0]) (by exact rfl)) ?_
  (repeat (first | refine qq ?_ | (refine qds H ?_; intro H) | (refine qrb H ?_; intro _ w H) | (refine qrs H ?_; intro w H) | (refine qdr H ?_; intro H)))
  refine qa5 (hc := DepthSearch_c (P := progP) (g := gPlus (numT x1) (numT x2) (.var 0)) (n := 1) (depth := 30) (steps := 3000) (M := H.wr M0) hd1 hc1 (by omega) (by omega) (H.wr_lt hM) (H.dat (d := (LSl LR).dat M0 progP [.slice a3 progP.length c3]) (by simp)) (rdG_mk (H.dat (d := (LSl LT).dat M0 [numT x1, numT x2, .var 0] [.slice (some ⟨b57, 0, none⟩) 3 3]) (by simp)) noG)) (k := ?_)
  rintro _ w ⟨⟨u, rfl, hu⟩, hm⟩
  obtain ⟨a8, c8, rfl⟩ := rdSl_val hu
  have H := (H.call hm).add (d := (LSl LF).dat M0 [f1] [.slice a8 [f1].length c8]) hu
  (repeat (first | refine qq ?_ | (refine qds H ?_; intro H) | (refine qrb H ?_; intro _ w H) | (refine qrs H ?_; intro w H) | (refine qdr H ?_; intro H)))
  obtain ⟨b0, o0, vs0, rfl, _, _, hr, H⟩ := H.elem (L := LF) (M := M0) (l := [f1]) (a := a8) (n := [f1].length) (c := c8) (by simp) 0 rfl
  obtain ⟨e1, g1, e2, g2, e3, g3, e4, g4, e5, g5, rfl, hbr⟩ := LF_form hr
  obtain ⟨_, _, _, _, _, _, _, _, _, _, he, hst, _⟩ := LBr_form hbr
  cases he
  obtain ⟨_, _, _, _, _, _, _, _, he, hsb, _⟩ := LSt_five hst
  cases he
  have H := H.add (d := LSb.dat M0 f1.1.1.bind [.slice e1 f1.1.1.bind.length g1]) hsb
  clear hst hsb hbr hr
  (repeat (first | refine qq ?_ | (refine qds H ?_; intro H) | (refine qrb H ?_; intro _ w H) | (refine qrs H ?_; intro w H) | (refine qdr H ?_; intro H)))
  obtain ⟨M', hM', hof⟩ := H.off2 hM
  have stab7 : ∀ (v : Value) (w1 w' : World), (∃ u, v = Value.tuple #[u, .bool true] ∧ (LSl LT).rd M' w1 l1 [u]) → Mod [] w1 w' → ∃ u, v = Value.tuple #[u, .bool true] ∧ (LSl LT).rd M' w' l1 [u] :=
    fun _ _ _ ⟨u, h1, h2⟩ hm => ⟨u, h1, (LSl LT).keep _ _ _ _ _ (fun b hb _ => hm.block b hb (by simp)) h2⟩
  refine WD_any 9 [[], [0], [0, 1], [0, 1, 2], [0, 1, 2, 3], [0, 1, 2, 3, 4], [], [0, 1, 2, 3, 4, 5, 6], [0, 1, 2, 3, 4, 5, 6, 7]] [(6, P1 (LSl LT) M' (([.var 0]))), (7, (fun v w' => ∃ u, v = Value.tuple #[u, .bool true] ∧ (LSl LT).rd M' w' l1 [u]))] (by kernel_rfl) ?_ ?_ _ (by exact rfl) ?_
  · exact ⟨P1_stab, stab7, trivial⟩
  · refine ⟨?_, ?_, ?_, ?_, ?_, ?_, ?_, ?_, ?_, trivial⟩
    iterate 6 (· exact qob)
    · intro w hm
      have H := H.call hm
      refine qol ?_
      exact S_call1 _ (by exact rfl) (by exact rfl) (MakeVars_c (n := 1) (by omega) (hM' _ hm.size)) fun v w' h => h
    · intro w hm
      have H := H.call hm
      iterate 6 refine qwr ?_
      refine qwl ?_; intro v6 h6
      refine qol ?_
      exact S_call2 _ _ (by exact rfl) (by exact rfl) (by exact rfl) (Reify_c (hM' _ hm.size) hs1 (hof.2 (H.dat (d := LSb.dat M0 f1.1.1.bind [.slice e1 f1.1.1.bind.length g1]) (by simp))) h6 (by decide) (by simp) hv1 hg1 hk1) fun v w' h => h
    · intro w hm
      have H := H.call hm
      iterate 6 refine qwr ?_
      refine qwl ?_; intro v6 h6
      refine qwl ?_; intro v7 h7
      exact qoa
  intro w hm
  have H := H.call hm
  iterate 6 refine qwr ?_
  refine qwl ?_; intro v6 h6
  refine qwl ?_; intro v7 h7
  refine qwr ?_
  refine WR_nil ?_
  obtain ⟨u, rfl, hu2⟩ := h7
  obtain ⟨a9, c9, rfl⟩ := rdSl_val hu2
  have H := H.add (d := (LSl LT).dat M0 l1 [.slice a9 l1.length c9]) (hof.1 hu2)
  refine WD_any 13 [[], [], [9], [9, 10, 11]] [] (by kernel_rfl) ?_ ?_ _ (by exact rfl) ?_
  · exact trivial
  · refine ⟨?_, ?_, ?_, ?_, trivial⟩
    iterate 4 (· exact qob)
  intro w hm
  have H := H.call hm
  iterate 4 refine qwr ?_
  refine WR_nil ?_
  refine WD_end (by decide) ?_
  (repeat (first | refine qq ?_ | (refine qds H ?_; intro H) | (refine qrb H ?_; intro _ w H) | (refine qrs H ?_; intro w H) | (refine qdr H ?_; intro H)))
  refine WO_s rfl (S_bslice2N H _ _ (by exact rfl) (by exact rfl) (by exact rfl) (by exact rfl) (by exact rfl) (by exact rfl) (by exact rfl) ?_); intro b94 w H
  have H := H.frz hM 0 rfl (by simp)
  have hd := H.get 1 rfl
  have hh : (LSl LT).rd (H.wr M0) w [numT x1, numT x2] [.slice (some ⟨b94, 0, none⟩) 2 2] := rdSl_two (Nat.le_refl _) ⟨hd.1, hd.2.1⟩ (H.dat (d := LT.dat M0 (numT x1) [.int .i64 (numT x1).kind, .int .i64 (numT x1).int, .string (numT x1).name, .slice a4 (numT x1).args.length c4]) (by simp)) (H.dat (d := LT.dat M0 (numT x2) [.int .i64 (numT x2).kind, .int .i64 (numT x2).int, .string (numT x2).name, .slice a5 (numT x2).args.length c5]) (by simp)) hd.2.2
  have H := H.add (d := (LSl LT).dat M0 [numT x1, numT x2] [.slice (some ⟨b94, 0, none⟩) 2 2]) hh
  clear hd hh
  refine WO_rd rfl (X_build (by exact rfl) [(0, [.int .i64 9]), (1, [.string nmLess]), (2, [.slice (some ⟨b94, 0, none⟩) 2 2])] (by exact rfl) (xs := [.int .i64 9, .string nmLess, .slice (some ⟨b94, 0, none⟩) 2 2, .slice none 0 0]) (by exact rfl)) ?_
  (repeat (first | refine qq ?_ | (refine qds H ?_; intro H) | (refine qrb H ?_; intro _ w H) | (refine qrs H ?_; intro w H) | (refine qdr H ?_; intro H)))
  refine qa5 (hc := DepthSearch_c (P := progP) (g := gLess (numT x1) (numT x2)) (n := 0) (depth := 30) (steps := 3000) (M := H.wr M0) hd2 hc2 (by omega) (by omega) (H.wr_lt hM) (H.dat (d := (LSl LR).dat M0 progP [.slice a3 progP.length c3]) (by simp)) (rdG_mk (H.dat (d := (LSl LT).dat M0 [numT x1, numT x2] [.slice (some ⟨b94, 0, none⟩) 2 2]) (by simp)) noG)) (k := ?_)
  rintro _ w ⟨⟨u, rfl, hu⟩, hm⟩
  obtain ⟨a7, c7, rfl⟩ := rdSl_val hu
  have H := H.call hm
  clear hu
  (repeat (first | refine qq ?_ | (refine qds H ?_; intro H) | (refine qrb H ?_; intro _ w H) | (refine qrs H ?_; intro w H) | (refine qdr H ?_; intro H)))
  refine WO_g rfl rfl (by exact rfl) (S_bslice1N H _ (by exact rfl) (by exact rfl) (by exact rfl) (by exact rfl) (by exact rfl) ?_); intro b7 w H
  have H := H.frz hM 0 rfl (by simp)
  have hd := H.get 1 rfl
  have hh : (LSl LT).rd (H.wr M0) w [numT (x1 + x2)] [.slice (some ⟨b7, 0, none⟩) 1 1] := rdSl_one (Nat.le_refl _) ⟨hd.1, hd.2.1⟩ (H.dat (d := LT.dat M0 (numT (x1 + x2)) [.int .i64 (numT (x1 + x2)).kind, .int .i64 (numT (x1 + x2)).int, .string (numT (x1 + x2)).name, .slice a6 (numT (x1 + x2)).args.length c6]) (by simp)) hd.2.2
  have H := H.add (d := (LSl LT).dat M0 [numT (x1 + x2)] [.slice (some ⟨b7, 0, none⟩) 1 1]) hh
  clear hd hh
  have hl1 : l1.length ≤ 100000 := by rw [(putsV_at hv1).1]; simp
  refine WO_g rfl rfl (by exact rfl) (S_call2 _ _ (by exact rfl) (by exact rfl) (by exact rfl) (list_c (H.dat (d := (LSl LT).dat M0 l1 [.slice a9 l1.length c9]) (by simp)) (H.dat (d := (LSl LT).dat M0 [numT (x1 + x2)] [.slice (some ⟨b7, 0, none⟩) 1 1]) (by simp)) hl1) ?_)
  rintro _ w ⟨rfl, hm⟩
  have H := H.call hm
  rw [hw1]
  (repeat (first | refine qq ?_ | (refine qds H ?_; intro H) | (refine qrb H ?_; intro _ w H) | (refine qrs H ?_; intro w H) | (refine qdr H ?_; intro H)))
  refine WO_g rfl rfl (by exact rfl) (S_read (X_beq _ _ (by exact rfl) (by exact rfl)) ?_)
  (repeat (first | refine qq ?_ | (refine qds H ?_; intro H) | (refine qrb H ?_; intro _ w H) | (refine qrs H ?_; intro w H) | (refine qdr H ?_; intro H)))
  exact ⟨congrArg Value.bool (pEnd x1 x2 m1.length hlt), H.mod⟩
end Go.Proofs.YtljpfnjpifhdlaaGreatDoor
