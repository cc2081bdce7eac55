/- FnSplits: the goal with a row of terms that an append may make in place. FnSplits: the walk. -/
import Derived.Test.YtljpfnjpifhdlaaGreatDoorZ7
namespace Go.Proofs.YtljpfnjpifhdlaaGreatDoor
open Go
section
variable {w0 w w' : World} {S : List Nat} {A : List Atom} {D : List Dat}
/-- what stands since w stands since w0 -/
theorem Holds.back (H : Holds w [] A D w') (hm : Mod [] w0 w) : Holds w0 [] A D w' :=
  ⟨hm.trans H.mod, H.nd, H.lt, fun b hb => .inl (by rcases H.low b hb with h | h; exact Nat.le_trans hm.size h; cases h), H.at', H.dt⟩
/-- begun anew: what is owned may be written -/
theorem Holds.anew (H : Holds w0 [] A D w) : Holds w (owns A) A D w := ⟨Mod.refl _ _, H.nd, H.lt, fun _ hb => .inr hb, H.at', H.dt⟩
theorem Holds.back2 {A' : List Atom} {D' : List Dat} (H0 : Holds w0 [] A D w) (H : Holds w (owns A) A' D' w') : Holds w0 [] A' D' w' :=
  ⟨H0.mod.fresh H.mod (fun x hx => by rcases H0.low x hx with h | h; exact .inr h; cases h), H.nd, H.lt, fun b hb => .inl (by
    rcases H.low b hb with h | h
    · exact Nat.le_trans H0.mod.size h
    · rcases H0.low b h with h | h; exact h; cases h), H.at', H.dt⟩
end
/-- a row of terms, made since w0 -/
def TRow (w0 : World) (M : Nat → Prop) (l : List T) (v : Value) (w : World) : Prop := ∃ a c vss, v = .slice a vss.length c ∧ Holds w0 [] [orow 32 4 (.slice a vss.length c) vss] [dall LT M l vss] w
theorem TRow.keep {w0 w w' : World} {M : Nat → Prop} {l : List T} {v : Value} (h : TRow w0 M l v w) (hm : Mod [] w w') : TRow w0 M l v w' := by
  obtain ⟨a, c, vss, h1, H⟩ := h
  exact ⟨a, c, vss, h1, H.call hm⟩
theorem TRow.rd {w0 w : World} {M : Nat → Prop} {l : List T} {v : Value} (h : TRow w0 M l v w) (hM : ∀ b, M b → b < w0.heap.size) : (LSl LT).rd M w l [v] := by
  obtain ⟨a, c, vss, rfl, H⟩ := h
  have H := Holds.freeze (A1 := []) (A2 := []) (M := M) (L := LT) (l := l) H hM (H.dat (List.Mem.head _)) (by simp)
  exact LSl LT |>.grow _ _ _ _ _ (fun b _ hb => .inl hb) (H.get 0 rfl)
/-- what a block of another kind is: it is not the row's -/
def OtherKept (w w' : World) : Prop := ∀ (b : Nat) (cs : Array Value) (fz : Nat × Nat), w.heap[b]? = some (Obj.cells cs 37 fz) → w'.heap[b]? = w.heap[b]?
theorem orow_kind {w : World} {v : Value} {vss : List (List Value)} {b : Nat} {cs : Array Value} {fz : Nat × Nat} (h : (orow 32 4 v vss).ok w) (hb : b ∈ owns [orow 32 4 v vss]) (hc : w.heap[b]? = some (.cells cs 37 fz)) : False := by
  have hb : b ∈ v.ownBlock.toList := by simpa [owns, orow] using hb
  obtain ⟨_, _, h2⟩ := h
  rcases h2 with ⟨rfl, _⟩ | ⟨g, cap, cur, rfl, _, h4, _⟩
  · simp [Value.ownBlock] at hb
  · have : b = g := by simpa [Value.ownBlock] using hb
    subst this
    rw [h4] at hc
    simp at hc
/-- one term more -/
theorem TRow.more {w0 w : World} {M : Nat → Prop} {l : List T} {t : T} {zs : List Value} {v : Value} {r : Operand → Value} {s x : Operand} {b c : Nat} {d : Option Tmp} {ty : TypeId} {pos : String} {aft : Array Edge} {g : Option (Nat × Bool)}
    (h : TRow w0 M l v w) (hl : l.length ≤ 1000) (ht : LT.rd M w0 t zs) (hs : r s = v) (hx : r x = .slice (some ⟨b, 0, none⟩) 1 c) (hc : Cells w b 0 zs) :
    OS Tryz.prog ⟨d, .call { callee := .builtin .append, args := #[s, x], argTypes := #[30, 30] }, ty, pos, aft, g⟩ r w fun v w' => TRow w0 M (l ++ [t]) v w' ∧ OtherKept w w' ∧ Mod [] w0 w' := by
  obtain ⟨a, c, vss, rfl, H⟩ := h
  have hvl := (Alls.get (H.dat (d := dall LT M l vss) (List.Mem.head _))).1
  have ht' : LT.rd (fun b => M b ∨ b ∈ owns [orow 32 4 (.slice a vss.length c) vss]) w t zs := LT.keep _ _ _ _ _ (fun b hb _ => H.mod.block b hb (by simp)) (LT.grow _ _ _ _ _ (fun b hb hx => hx.elim id fun hx => by
    rcases H.low b hx with h | h
    · omega
    · cases h) ht)
  obtain ⟨a1, c1, rfl⟩ := rdT_four ht'
  have H1 := H.anew.add (d := LT.dat M t _) ht'
  refine S_append H1 0 _ _ (vs := [.int .i64 t.kind, .int .i64 t.int, .string t.name, .slice a1 t.args.length c1]) (by exact rfl) hs hx hc rfl (by simp [Value.oneCell']) (by simp) (by exact rfl) (by omega) ?_
  intro v' w' H2
  obtain ⟨a2, c2, rfl⟩ := H2.rowVal 0 rfl
  have H3 := H2.snoc (L := LT) (M := M) (l := l) (vss := vss) (x := t) (by simp) (H2.dat (d := LT.dat M t [.int .i64 t.kind, .int .i64 t.int, .string t.name, .slice a1 t.args.length c1]) (by simp))
  refine ⟨⟨a2, c2, _, by simp, (H.back2 (H3.sub (.refl _) (D' := [dall LT M (l ++ [t]) (vss ++ [[.int .i64 t.kind, .int .i64 t.int, .string t.name, .slice a1 t.args.length c1]])]) (by simp)))⟩, fun b cs fz hb => ?_, (H.back2 H2).mod⟩
  exact H2.mod.block b (Array.getElem?_eq_some_iff.1 hb).1 fun hm => orow_kind (H.atom (List.Mem.head _)) hm hb
theorem spl_of {n : Nat} (h : splOk n = true) : ∃ l, depthV progP (gPlus (.var 0) (.var 1) (numT n)) 2 30 4000 = some (l, true) ∧ canStartV progP (gPlus (.var 0) (.var 1) (numT n)) 2 = true ∧ l.length = n + 1 ∧
    (∀ x ∈ l, SubOk x.1.1.bind ∧ ∃ l', putsV x.1.1.bind [.var 0, .var 1] = some l' ∧ l'.all T.ground = true ∧ l'.all T.ok = true) ∧ ∀ p ∈ pairsV n (n + 1), countV l p = 1 := by
  unfold splOk at h
  split at h
  · rename_i l hd
    simp only [Bool.and_eq_true] at h
    obtain ⟨⟨⟨h1, h2⟩, h3⟩, h4⟩ := h
    refine ⟨l, hd, h1, Nat.eq_of_beq_eq_true h2, fun x hx => ⟨(depthV_st hd x hx).bind, ?_⟩, fun p hp => Nat.eq_of_beq_eq_true (List.all_eq_true.1 h4 p hp)⟩
    have := List.all_eq_true.1 h3 x hx
    split at this
    · rename_i l' hl'
      simp only [Bool.and_eq_true] at this
      exact ⟨l', hl', this.1, this.2⟩
    · cases this
  · cases h
end Go.Proofs.YtljpfnjpifhdlaaGreatDoor
namespace Go.Proofs.YtljpfnjpifhdlaaGreatDoor
open Go
/-- a row of one term -/
def Sp2 (zs : List Value) (v : Value) (a : World) : Prop := ∃ b, v = .slice (some ⟨b, 0, none⟩) 1 1 ∧ Cells a b 0 zs
/-- the goal over a row of terms -/
def Sp4 (wS : World) (M : Nat → Prop) (l : List T) (v : Value) (a : World) : Prop := ∃ u, v = .agg #[.int .i64 9, .string nmPlus, u, .slice none 0 0] ∧ TRow wS M l u a
set_option maxHeartbeats 4000000 in
set_option maxRecDepth 100000 in
theorem spl_c {a : Option Addr} {l cap : Nat} {wA : World} (hby : Cu.Bytes wA a l) (hl0 : l ≤ 9223372036854775807) (hev : eVar.ok M0 wA) (hp : ∀ n, n < 6 → splOk n = true) :
    Calls Tryz.prog 4 #[.slice a l cap] wA (Ret fun v w' => v = .bool true ∧ Mod [] wA w') := by
  have hM : ∀ b, M0 b → b < wA.heap.size := M0_lt
  refine enter1 Tryz.func4 rfl Tryz.ntmps4 rfl (by simp) ?_
  have H := (Holds.start wA []).add (d := Dat.wide M0 eVar) (eVar.grow _ _ _ (fun b _ hb => hb.elim id (fun h => by simp [owns] at h)) hev)
  by_cases hl : l ≤ 1048576
  rotate_left
  · have hl' : 1048576 < (l : Int) := by omega
    (repeat (first | refine qq ?_ | (refine qds H ?_; intro H) | (refine qrb H ?_; intro _ w H) | (refine qrs H ?_; intro w H) | (refine qdr H ?_; intro H)))
    exact ⟨rfl, H.mod⟩
  (repeat (first | refine qq ?_ | (refine qds H ?_; intro H) | (refine qrb H ?_; intro _ w H) | (refine qrs H ?_; intro w H) | (refine qdr H ?_; intro H)))
  refine qa0 (hc := ArithmeticText_c _) (k := ?_)
  rintro _ w ⟨rfl, hm⟩
  have H := H.call hm
  (repeat (first | refine qq ?_ | (refine qds H ?_; intro H) | (refine qrb H ?_; intro _ w H) | (refine qrs H ?_; intro w H) | (refine qdr H ?_; intro H)))
  refine qa1 (hc := ParseProgram_c (M := H.wr M0) (H.wr_lt hM) (by decide +kernel) arith_chars parsed (H.dat (d := Dat.wide M0 eVar) (by simp))) (k := ?_)
  rintro _ w ⟨⟨a3, c3, rfl, hP⟩, hm⟩
  have H := (H.call hm).add (d := (LSl LR).dat M0 progP [.slice a3 progP.length c3]) hP
  (repeat (first | refine qq ?_ | (refine qds H ?_; intro H) | (refine qrb H ?_; intro _ w H) | (refine qrs H ?_; intro w H) | (refine qdr H ?_; intro H)))
  refine qa2 (hc := MakeNum_c (Cu.Bytes_below hby H.mod.below) (by omega) (n := 0) (by omega)) (k := ?_)
  rintro _ w ⟨⟨n1, _, rfl⟩, hm⟩
  have H := H.call hm
  refine WO_rd rfl (X_rem (a := n1) (b := 6) _ _ (by exact rfl) (by exact rfl) (by omega)) ?_
  obtain ⟨n, hn, e1⟩ : ∃ x, x < 6 ∧ x = n1 % 6 := ⟨_, Nat.mod_lt _ (by omega), rfl⟩
  rw [← e1]
  clear e1
  (repeat (first | refine qq ?_ | (refine qds H ?_; intro H) | (refine qrb H ?_; intro _ w H) | (refine qrs H ?_; intro w H) | (refine qdr H ?_; intro H)))
  obtain ⟨ls, hd1, hc1, hll, hok, hcnt⟩ := spl_of (hp n hn)
  refine qa1 (hc := specNumeralOf_c (n := n) (by omega) (M := H.wr M0) (H.wr_lt hM)) (k := ?_)
  rintro _ w ⟨⟨us1, rfl, hx⟩, hm⟩
  obtain ⟨a4, c4, rfl⟩ := rdT_four hx
  have H := (H.call hm).add (d := LT.dat M0 (numT n) [.int .i64 (numT n).kind, .int .i64 (numT n).int, .string (numT n).name, .slice a4 (numT n).args.length c4]) hx
  (repeat (first | refine qq ?_ | (refine qds H ?_; intro H) | (refine qrb H ?_; intro _ w H) | (refine qrs H ?_; intro w H) | (refine qdr H ?_; intro H)))
  generalize w.drew = wS at H ⊢
  obtain ⟨M, hMd⟩ : ∃ M, M = H.wr M0 := ⟨_, rfl⟩
  have hMl : ∀ b, M b → b < wS.heap.size := by rw [hMd]; exact H.wr_lt hM
  have hz : LT.rd M wS (numT n) [.int .i64 (numT n).kind, .int .i64 (numT n).int, .string (numT n).name, .slice a4 (numT n).args.length c4] := by rw [hMd]; exact H.dat (d := LT.dat M0 (numT n) [.int .i64 (numT n).kind, .int .i64 (numT n).int, .string (numT n).name, .slice a4 (numT n).args.length c4]) (by simp)
  have stab0 : ∀ (_ : List Value) (v : Value) (a b : World), TRow wS M [.var 0, .var 1] v a → Mod [] a b → TRow wS M [.var 0, .var 1] v b := fun _ _ _ _ h k => h.keep k
  have stab2 : ∀ (_ : List Value) (v : Value) (a b : World), Sp2 [.int .i64 (numT n).kind, .int .i64 (numT n).int, .string (numT n).name, .slice a4 (numT n).args.length c4] v a → Mod [] a b → Sp2 [.int .i64 (numT n).kind, .int .i64 (numT n).int, .string (numT n).name, .slice a4 (numT n).args.length c4] v b := fun _ _ _ _ ⟨b, h1, h2⟩ hm => ⟨b, h1, fun j u hj => hm.cell (h2 j u hj)⟩
  have stab3 : ∀ (_ : List Value) (v : Value) (a b : World), TRow wS M [.var 0, .var 1, numT n] v a → Mod [] a b → TRow wS M [.var 0, .var 1, numT n] v b := fun _ _ _ _ h k => h.keep k
  have stab4 : ∀ (_ : List Value) (v : Value) (a b : World), Sp4 wS M [.var 0, .var 1, numT n] v a → Mod [] a b → Sp4 wS M [.var 0, .var 1, numT n] v b := fun _ _ _ _ ⟨u, h1, h2⟩ k => ⟨u, h1, h2.keep k⟩
  have stab5 : ∀ (_ : List Value) (v : Value) (a b : World), Ex18 wS v a → Mod [] a b → Ex18 wS v b := fun _ _ _ _ ⟨b, h1, h2, h3, h4⟩ hm => ⟨b, h1, h2, Nat.lt_of_lt_of_le h3 hm.size, by rw [hm.block b h3 (by simp)]; exact h4⟩
  have oth5 : ∀ (_ : List Value) (v : Value) (a b : World), Ex18 wS v a → OtherKept a b → Ex18 wS v b := fun _ _ _ _ ⟨b, h1, h2, h3, h4⟩ hm => by
    have e := hm b _ _ h4
    rw [h4] at e
    exact ⟨b, h1, h2, (Array.getElem?_eq_some_iff.1 e).1, e⟩
  have turn5 : ∀ {p : Prop}, (∀ (_ : List Value) (v : Value) (a b : World), Ex18 wS v a → Mod [] a b → Ex18 wS v b) ∧ (∀ (_ : List Value) (v : Value) (a b : World), Ex18 wS v a → Mod [] a b → Ex18 wS v b) ∧ (∀ (_ : List Value) (v : Value) (a : World), Ex18 wS v a → Ex18 wS v a) ∧
      (p ∨ ∀ (_ : List Value) (v : Value) (a b : World), Ex18 wS v a → OtherKept a b → Ex18 wS v b) := ⟨stab5, stab5, fun _ _ _ h => h, .inr oth5⟩
  have H1 := H
  refine WD_whole [] 3 OtherKept 6 [[], [], [1], [0, 1, 2], [0, 1, 2, 3], []] [(0, (fun _ v a => TRow wS M [.var 0, .var 1] v a), (fun _ _ _ => True)), (2, (fun _ v a => Sp2 [.int .i64 (numT n).kind, .int .i64 (numT n).int, .string (numT n).name, .slice a4 (numT n).args.length c4] v a), (fun _ _ _ => True)), (3, (fun _ v a => TRow wS M [.var 0, .var 1, numT n] v a), (fun _ v a => TRow wS M [.var 0, .var 1, numT n] v a)), (4, (fun _ v a => Sp4 wS M [.var 0, .var 1, numT n] v a), (fun _ v a => Sp4 wS M [.var 0, .var 1, numT n] v a)), (5, (fun _ v a => Ex18 wS v a), (fun _ v a => Ex18 wS v a))] (by kernel_rfl) (by exact rfl) (by intro w; first | exact trivial | exact fun _ _ _ _ => rfl) ?_ ?_ _ (by exact rfl) ?_
  · exact ⟨⟨stab0, fun _ _ _ _ _ _ => trivial, fun _ _ _ _ => trivial, .inr fun _ _ _ _ _ _ => trivial⟩, ⟨stab2, fun _ _ _ _ _ _ => trivial, fun _ _ _ _ => trivial, .inr fun _ _ _ _ _ _ => trivial⟩, ⟨stab3, stab3, fun _ _ _ h => h, .inl (by kernel_rfl)⟩, ⟨stab4, stab4, fun _ _ _ h => h, .inl (by kernel_rfl)⟩, turn5, trivial⟩
  · refine ⟨?_, ?_, ?_, ?_, ?_, ?_, trivial⟩
    · intro w (hm : Mod [] _ w)
      refine bifF rfl ?_
      have H := H1.call hm
      refine OG_ld rfl rfl ?_
      exact S_call1 _ (by exact rfl) (by exact rfl) (MakeVars_own (n := 2) (M := M) (by omega)) fun v w' ⟨a, c, vss, h1, H'⟩ => ⟨⟨a, c, vss, h1, H'.back hm⟩, H'.mod⟩
    · intro w (hm : Mod [] _ w)
      refine bifF rfl ?_
      have H := H1.call hm
      exact OG_rd rfl rfl fun w hm => have H := H1.call hm; qrp
    · intro w (hm : Mod [] _ w)
      refine bifF rfl ?_
      have H := H1.call hm
      refine qwgr hm ?_
      refine OG_ld rfl rfl ?_
      refine S_bslice1N (Holds.start w []) _ (by exact rfl) (by exact rfl) (by exact rfl) (by exact rfl) (by exact rfl) ?_
      intro b3 w' H'
      exact ⟨⟨b3, rfl, H'.bcells 0 4 rfl rfl⟩, H'.mod⟩
    · intro w (hm : Mod [] _ w)
      refine bifT rfl ?_
      have H := H1.call hm
      refine WG_ld rfl rfl ?_; intro v0 h0
      refine qwgr (hm.mono (by simp)) ?_
      refine WG_ld rfl rfl ?_; intro v2 h2
      refine OG_ld rfl rfl ?_
      obtain ⟨b3, rfl, hb3⟩ := h2
      exact (TRow.more h0 (by simp) hz (by exact rfl) (by exact rfl) hb3).mono fun v w h => h
    · intro w (hm : Mod [] _ w)
      refine bifF rfl ?_
      have H := H1.call hm
      refine WG_ld rfl rfl ?_; intro v0 h0
      refine qwgr hm ?_
      refine WG_ld rfl rfl ?_; intro v2 h2
      refine WG_ld rfl rfl ?_; intro v3 h3
      refine OG_ld rfl rfl ?_
      obtain ⟨a, c, vss, rfl, h3'⟩ := id h3
      refine S_read (X_build (by exact rfl) [(0, [.int .i64 9]), (1, [.string nmPlus]), (2, [.slice a vss.length c])] (by exact rfl) (by exact rfl)) ?_
      exact ⟨⟨_, rfl, h3⟩, Mod.refl _ _⟩
    · intro w (hm : Mod [] _ w)
      refine bifF rfl ?_
      have H := H1.call hm
      refine OG_ld rfl rfl ?_
      refine S_alloc (xs := goZ) (Holds.start _ []) fun b w' H' => ?_
      have ho := H'.own (M := fun c => c < _) (fun _ h => h) 0 rfl
      exact ⟨⟨b, rfl, Nat.le_trans hm.size (Nat.not_lt.1 ho.1), ho.2, H'.atom (List.Mem.head _)⟩, H'.mod⟩
  intro w hm
  have H := H1.call hm
  refine WG_ld rfl rfl ?_; intro v0 h0
  refine qwgr hm ?_
  refine WG_ld rfl rfl ?_; intro v2 h2
  refine WG_ld rfl rfl ?_; intro v3 h3
  refine WG_ld rfl rfl ?_; intro v4 h4
  refine WG_ld rfl rfl ?_; intro v5 h5
  refine WG_nil ?_
  clear h0 h2 h3
  obtain ⟨b5, rfl, hb5a, hb5b, hb5⟩ := h5
  obtain ⟨u4, rfl, h4⟩ := h4
  have hrd := away_Ts (noII_goZ hb5) (h4.rd hMl)
  obtain ⟨a9, c9, rfl⟩ := rdSl_val hrd
  have H := H1.new (a := box b5 goZ 37) hm hb5 (by simp [box]) (fun b hb => by
    have hb : b = b5 := by simpa [box] using hb
    subst hb
    exact ⟨hb5b, hb5a⟩)
  have H := H.add (d := (LSl LT).dat M0 [.var 0, .var 1, numT n] [.slice a9 3 c9]) ((LSl LT).grow _ _ _ _ _ (fun c _ hc => by
    rw [hMd]
    rcases hc with hc | hc
    · exact .inl (.inl hc)
    · simp only [owns, List.flatMap_cons, List.mem_append] at hc
      rcases hc with hc | hc
      · exact .inr (by simpa [box] using hc)
      · exact .inl (.inr hc)) hrd)
  refine WD_n (by kernel_rfl) (by exact rfl) (S_storeN H 0 _ _ (by exact rfl) (by exact rfl) (by exact rfl) (by exact rfl) (by exact rfl) (by exact rfl) ?_); intro w H
  refine WD_end (by decide) ?_
  (repeat (first | refine qq ?_ | (refine qds H ?_; intro H) | (refine qrb H ?_; intro _ w H) | (refine qrs H ?_; intro w H) | (refine qdr H ?_; intro H)))
  refine qa5 (hc := DepthSearch_c (P := progP) (g := gPlus (.var 0) (.var 1) (numT n)) (n := 2) (depth := 30) (steps := 4000) (M := H.wr M0) hd1 hc1 (by omega) (by omega) (H.wr_lt hM) (H.dat (d := (LSl LR).dat M0 progP [.slice a3 progP.length c3]) (by simp)) (rdG_mk (H.dat (d := (LSl LT).dat M0 [.var 0, .var 1, numT n] [.slice a9 3 c9]) (by simp)) noG)) (k := ?_)
  rintro _ w ⟨⟨u, rfl, hu⟩, hm⟩
  obtain ⟨a8, c8, rfl⟩ := rdSl_val hu
  have H := (H.call hm).add (d := (LSl LF).dat M0 ls [.slice a8 ls.length c8]) hu
  (repeat (first | refine qq ?_ | (refine qds H ?_; intro H) | (refine qrb H ?_; intro _ w H) | (refine qrs H ?_; intro w H) | (refine qdr H ?_; intro H)))
  refine qa1 (hc := NumeralPairs_c (n := n) (by omega) (M := H.wr M0) (H.wr_lt hM)) (k := ?_)
  rintro u w ⟨hu2, hm⟩
  obtain ⟨ps, hps⟩ : ∃ ps, ps = pairsV n (n + 1) := ⟨_, rfl⟩
  have hpl : ps.length = n + 1 := by rw [hps]; simp [pairsV]
  rw [← hps] at hu2 hcnt
  obtain ⟨a10, c10, rfl⟩ := rdSl_val hu2
  have H := (H.call hm).add (d := (LSl (LSl LT)).dat M0 ps [.slice a10 ps.length c10]) hu2
  (repeat (first | refine qq ?_ | (refine qds H ?_; intro H) | (refine qrb H ?_; intro _ w H) | (refine qrs H ?_; intro w H) | (refine qdr H ?_; intro H)))
  refine W_loop (fun m f w' => ∃ gg k, m = n + 1 - k ∧ k ≤ n + 1 ∧ f = sl gg [(9, .slice a8 ls.length c8), (74, .slice a10 ps.length c10), (75, .int .i64 (ps.length : Nat)), (76, .int .i64 (k : Nat))] ∧ Holds wA [] [] [(LSl (LSl LT)).dat M0 ps [.slice a10 ps.length c10], (LSl LF).dat M0 ls [.slice a8 ls.length c8]] w') (n + 1)
    ⟨_, 0, rfl, Nat.zero_le _, sl_back ⟨rfl, rfl, rfl, rfl, trivial⟩, H.sub (List.nil_sublist _) (by simp)⟩ ?_
  clear H
  rintro m f w ⟨gg, k, rfl, hk, rfl, H⟩
  by_cases hlt : k < n + 1
  · obtain ⟨p, hx⟩ : ∃ p, ps[k]? = some p := ⟨_, List.getElem?_eq_getElem (by omega)⟩
    have hcp := hcnt p (List.mem_of_getElem? hx)
    obtain ⟨b, o, vs, rfl, _, _, hr, H⟩ := H.elem (L := LSl LT) (M := M0) (l := ps) (a := a10) (n := ps.length) (c := c10) (by simp) k hx
    obtain ⟨a11, c11, rfl⟩ := LSl_one hr
    (repeat (first | refine qq ?_ | (refine qds H ?_; intro H) | (refine qrb H ?_; intro _ w H) | (refine qrs H ?_; intro w H) | (refine qdr H ?_; intro H)))
    refine W_loop (fun m f w' => ∃ gg j cn, m = ls.length - j ∧ j ≤ ls.length ∧ cn = countV (ls.take j) p ∧ f = sl gg [(9, .slice a8 ls.length c8), (74, .slice (some ⟨b, o, none⟩) ps.length c10), (75, .int .i64 (ps.length : Nat)), (76, .int .i64 (k : Nat)), (14, .slice a11 p.length c11), (15, .int .i64 (cn : Nat)), (80, .slice a8 ls.length c8), (81, .int .i64 (ls.length : Nat)), (82, .int .i64 (j : Nat))] ∧
      Holds wA [] [] [(LSl LT).dat M0 p [.slice a11 p.length c11], (LSl (LSl LT)).dat M0 ps [.slice (some ⟨b, o, none⟩) ps.length c10], (LSl LF).dat M0 ls [.slice a8 ls.length c8]] w') ls.length
      ⟨_, 0, 0, rfl, Nat.zero_le _, rfl, sl_back ⟨rfl, rfl, rfl, rfl, rfl, rfl, rfl, rfl, rfl, trivial⟩, H.sub (List.nil_sublist _) (by simp)⟩ ?_
    clear H
    rintro m f w ⟨gg, j, cn, rfl, hj, hcn, rfl, H⟩
    by_cases hjl : j < ls.length
    · obtain ⟨x, hxl⟩ : ∃ x, ls[j]? = some x := ⟨_, List.getElem?_eq_getElem hjl⟩
      obtain ⟨hsub, l1, hv1, hg1, hk1⟩ := hok x (List.mem_of_getElem? hxl)
      have htake : countV (ls.take (j + 1)) p = countV (ls.take j) p + (if goodV x.1.1.bind [.var 0, .var 1] p = true then 1 else 0) := by
        unfold countV
        rw [take_snoc hxl, List.countP_append, List.countP_singleton]
      have hcl : cn ≤ j := by rw [hcn]; exact Nat.le_trans List.countP_le_length (by rw [List.length_take]; omega)
      have hgood : goodV x.1.1.bind [.var 0, .var 1] p = allSame l1 p := by
        unfold goodV
        rw [hv1]
        simp only [hg1, hk1, Bool.true_and]
      rw [hgood] at htake
      obtain ⟨b2, o2, vs2, rfl, _, _, hr2, H⟩ := H.elem (L := LF) (M := M0) (l := ls) (a := a8) (n := ls.length) (c := c8) (by simp) j hxl
      obtain ⟨e1, g1, e2, g2, e3, g3, e4, g4, e5, g5, rfl, hbr⟩ := LF_form hr2
      obtain ⟨_, _, _, _, _, _, _, _, _, _, he, hst, _⟩ := LBr_form hbr
      cases he
      obtain ⟨_, _, _, _, _, _, _, _, he, hsb, _⟩ := LSt_five hst
      cases he
      have H := H.add (d := LSb.dat M0 x.1.1.bind [.slice e1 x.1.1.bind.length g1]) hsb
      clear hst hsb hbr hr2
      (repeat (first | refine qq ?_ | (refine qds H ?_; intro H) | (refine qrb H ?_; intro _ w H) | (refine qrs H ?_; intro w H) | (refine qdr H ?_; intro H)))
      obtain ⟨M', hM', hof⟩ := H.off2 hM
      have stab5 : ∀ (v : Value) (w1 w' : World), (∃ u, v = Value.tuple #[u, .bool true] ∧ (LSl LT).rd M' w1 l1 [u]) → Mod [] w1 w' → ∃ u, v = Value.tuple #[u, .bool true] ∧ (LSl LT).rd M' w' l1 [u] :=
        fun _ _ _ ⟨u, h1, h2⟩ hm => ⟨u, h1, (LSl LT).keep _ _ _ _ _ (fun b hb _ => hm.block b hb (by simp)) h2⟩
      refine WD_any 7 [[], [0], [0, 1], [0, 1, 2], [], [0, 1, 2, 3, 4], [0, 1, 2, 3, 4, 5]] [(4, P1 (LSl LT) M' (([.var 0, .var 1]))), (5, (fun v w' => ∃ u, v = Value.tuple #[u, .bool true] ∧ (LSl LT).rd M' w' l1 [u]))] (by kernel_rfl) ?_ ?_ _ (by exact rfl) ?_
      · exact ⟨P1_stab, stab5, trivial⟩
      · refine ⟨?_, ?_, ?_, ?_, ?_, ?_, ?_, trivial⟩
        iterate 4 (· exact qob)
        · intro w hm
          have H := H.call hm
          refine qol ?_
          exact S_call1 _ (by exact rfl) (by exact rfl) (MakeVars_c (n := 2) (by omega) (hM' _ hm.size)) fun v w' h => h
        · intro w hm
          have H := H.call hm
          iterate 4 refine qwr ?_
          refine qwl ?_; intro v4 h4
          refine qol ?_
          exact S_call2 _ _ (by exact rfl) (by exact rfl) (by exact rfl) (Reify_c (hM' _ hm.size) hsub (hof.2 (H.dat (d := LSb.dat M0 x.1.1.bind [.slice e1 x.1.1.bind.length g1]) (by simp))) h4 (by decide) (by simp) hv1 hg1 hk1) fun v w' h => h
        · intro w hm
          have H := H.call hm
          iterate 4 refine qwr ?_
          refine qwl ?_; intro v4 h4
          refine qwl ?_; intro v5 h5
          exact qoa
      intro w hm
      have H := H.call hm
      iterate 4 refine qwr ?_
      refine qwl ?_; intro v4 h4
      refine qwl ?_; intro v5 h5
      refine qwr ?_
      refine WR_nil ?_
      obtain ⟨u, rfl, hu2⟩ := h5
      obtain ⟨a12, c12, rfl⟩ := rdSl_val hu2
      have H := H.add (d := (LSl LT).dat M0 l1 [.slice a12 l1.length c12]) (hof.1 hu2)
      refine WD_any 11 [[], [], [7], [7, 8, 9]] [] (by kernel_rfl) ?_ ?_ _ (by exact rfl) ?_
      · exact trivial
      · refine ⟨?_, ?_, ?_, ?_, trivial⟩
        iterate 4 (· exact qob)
      intro w hm
      have H := H.call hm
      iterate 4 refine qwr ?_
      refine WR_nil ?_
      refine WD_end (by decide) ?_
      (repeat (first | refine qq ?_ | (refine qds H ?_; intro H) | (refine qrb H ?_; intro _ w H) | (refine qrs H ?_; intro w H) | (refine qdr H ?_; intro H)))
      have hl1 : l1.length ≤ 100000 := by rw [(putsV_at hv1).1]; simp
      refine WO_g rfl rfl (by exact rfl) (S_call2 _ _ (by exact rfl) (by exact rfl) (by exact rfl) (list_c (H.dat (d := (LSl LT).dat M0 l1 [.slice a12 l1.length c12]) (by simp)) (H.dat (d := (LSl LT).dat M0 p [.slice a11 p.length c11]) (by simp)) hl1) ?_)
      rintro _ w ⟨rfl, hm⟩
      have H := H.call hm
      cases hsame : allSame l1 p with
      | true =>
        rw [hsame, if_pos rfl, ← hcn] at htake
        (repeat (first | refine qq ?_ | (refine qds H ?_; intro H) | (refine qrb H ?_; intro _ w H) | (refine qrs H ?_; intro w H) | (refine qdr H ?_; intro H)))
        exact ⟨ls.length - (j + 1), by omega, _, j + 1, cn + 1, rfl, by omega, htake.symm, sl_back ⟨rfl, rfl, rfl, rfl, rfl, rfl, rfl, rfl, rfl, trivial⟩, H.sub (List.nil_sublist _) (by simp)⟩
      | false =>
        rw [hsame, if_neg (by simp), ← hcn] at htake
        (repeat (first | refine qq ?_ | (refine qds H ?_; intro H) | (refine qrb H ?_; intro _ w H) | (refine qrs H ?_; intro w H) | (refine qdr H ?_; intro H)))
        exact ⟨ls.length - (j + 1), by omega, _, j + 1, cn, rfl, by omega, htake.symm, sl_back ⟨rfl, rfl, rfl, rfl, rfl, rfl, rfl, rfl, rfl, trivial⟩, H.sub (List.nil_sublist _) (by simp)⟩
    · obtain rfl : j = ls.length := by omega
      rw [List.take_length, hcp] at hcn
      subst hcn
      (repeat (first | refine qq ?_ | (refine qds H ?_; intro H) | (refine qrb H ?_; intro _ w H) | (refine qrs H ?_; intro w H) | (refine qdr H ?_; intro H)))
      exact ⟨n + 1 - (k + 1), by omega, _, k + 1, rfl, by omega, sl_back ⟨rfl, rfl, rfl, rfl, trivial⟩, H.sub (List.nil_sublist _) (by simp)⟩
  · obtain rfl : k = n + 1 := by omega
    (repeat (first | refine qq ?_ | (refine qds H ?_; intro H) | (refine qrb H ?_; intro _ w H) | (refine qrs H ?_; intro w H) | (refine qdr H ?_; intro H)))
    exact ⟨rfl, H.mod⟩
end Go.Proofs.YtljpfnjpifhdlaaGreatDoor
