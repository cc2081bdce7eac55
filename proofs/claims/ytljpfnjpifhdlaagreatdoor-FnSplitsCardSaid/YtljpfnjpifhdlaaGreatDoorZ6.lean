/- depthSearch. DepthSearch. orderedVars, Canonical, Reify at terms without variables. Numerals: NumeralOf, numeralOf, NumeralPairs; MakeVars, list, same. NumeralPairs; same, list of the laws. The draws' number: MakeNum (by the kit's walk): only its range is said. ParseInt, FormatInt: single digits, and names. The reader of tokens: peek, take, done. Tokens. The reader's terms: term, okTerm. Maps from strings, in the order of their entries. -/
import Derived.Test.YtljpfnjpifhdlaaGreatDoorZ5
import Derived.Deep.QuietTactic
import Derived.BigQuiet
import Derived.IntWalk
import Derived.Lib.Hide
import Derived.WideLaws
namespace Go.Proofs.YtljpfnjpifhdlaaGreatDoor
open Go
theorem X_max {P : Program} {w : World} {r : Operand → Value} {d : Option Tmp} {ty : TypeId} {pos : String} {aft : Array Edge} {g : Option (Nat × Bool)} {t t' : TypeId} (x y : Operand) {k : IntKind} {a b : Nat} (hx : r x = .int k (a : Nat)) (hy : r y = .int k (b : Nat)) :
    runC P w (execOp r ⟨d, .call { callee := .builtin .max, args := #[x, y], argTypes := #[t, t'] }, ty, pos, aft, g⟩) = some (.value (.int k ((max a b : Nat) : Int))) := by
  have e : (if (b : Int) > (a : Int) then (b : Int) else (a : Int)) = ((max a b : Nat) : Int) := by split <;> omega
  simp only [execOp, resolve, pure_bind, invoke, builtin, List.map_toArray, List.map_cons, List.map_nil, hx, hy, Builtin.max_, List.foldlM_cons, List.foldlM_nil, Builtin.max2, e]
  rfl
def LDp : Lay Dp := (LBr.and ((LSl LD).and LNat)).via fun b => (b.br, b.goals, b.height)
theorem LDp_form {M : Nat → Prop} {w : World} {x : Dp} {vs : List Value} (h : LDp.rd M w x vs) : ∃ a1 c1 a2 c2 a3 c3 a4 c4 a5 c5 a6 c6, vs = [.int .i64 (x.br.1.next : Nat), .slice a1 x.br.1.bind.length c1, .slice a2 x.br.1.dis.length c2, .slice a3 0 c3, .slice a4 0 c4, .slice a5 x.br.2.length c5, .slice a6 x.goals.length c6, .int .i64 (x.height : Nat)] ∧
    LBr.rd M w x.br [.int .i64 (x.br.1.next : Nat), .slice a1 x.br.1.bind.length c1, .slice a2 x.br.1.dis.length c2, .slice a3 0 c3, .slice a4 0 c4, .slice a5 x.br.2.length c5] ∧ (LSl LD).rd M w x.goals [.slice a6 x.goals.length c6] := by
  obtain ⟨us, ts, rfl, h1, us', ts', rfl, h2, h3⟩ := h
  have h3 : ts' = [.int .i64 (x.height : Nat)] := h3
  subst h3
  obtain ⟨a1, c1, a2, c2, a3, c3, a4, c4, a5, c5, rfl, _⟩ := LBr_form h1
  obtain ⟨a6, c6, rfl⟩ := LSl_one h2
  exact ⟨a1, c1, a2, c2, a3, c3, a4, c4, a5, c5, a6, c6, rfl, h1, h2⟩
theorem LDp_mk {M : Nat → Prop} {w : World} {x : Dp} {z v1 v2 v3 v4 v5 v6 : Value} (h1 : LBr.rd M w x.br [z, v1, v2, v3, v4, v5]) (h2 : (LSl LD).rd M w x.goals [v6]) : LDp.rd M w x [z, v1, v2, v3, v4, v5, v6, .int .i64 (x.height : Nat)] :=
  ⟨_, _, rfl, h1, _, _, rfl, h2, rfl⟩
def Ds7 (M : Nat → Prop) (wS : World) (x : Dp) (v : Value) (a : World) : Prop := ∃ b vs, v = .slice (some ⟨b, 0, none⟩) 1 1 ∧ wS.heap.size ≤ b ∧ b < a.heap.size ∧ a.heap[b]? = some (.cells vs.toArray 109 (0, 0)) ∧ LDp.rd (fun c => M c ∨ c = b) a x vs
theorem Alls.unsnoc {α β : Type} {R : α → β → Prop} {x : α} {y : β} : ∀ {l : List α} {m : List β}, Alls R (l ++ [x]) (m ++ [y]) → l.length = m.length → Alls R l m ∧ R x y
  | [], [], ⟨h, _⟩, _ => ⟨trivial, h⟩
  | _ :: _, _ :: _, ⟨h, t⟩, e => by
    obtain ⟨h1, h2⟩ := Alls.unsnoc t (by simpa using e)
    exact ⟨⟨h, h1⟩, h2⟩
  | [], _ :: _, _, e => by simp at e
  | _ :: _, [], _, e => by simp at e
theorem searchV_nil {P : List Rl} {depth f : Nat} : searchV P depth f [] = some ([], true) := by cases f <;> rfl
theorem Holds.rowCap {w0 w : World} {S : List Nat} {A : List Atom} {D : List Dat} (H : Holds w0 S A D w) (i : Nat) {e : TypeId} {sz n c : Nat} {a : Option Addr} {vss : List (List Value)} (hi : A[i]? = some (orow e sz (.slice a n c) vss)) : n ≤ c := by
  obtain ⟨_, _, hrow⟩ := H.atom (List.mem_of_getElem? hi)
  rcases hrow with ⟨h0, _⟩ | ⟨b, cap, cur, h0, _, _, hnc, _⟩
  · cases h0; exact Nat.le_refl _
  · simp only [Value.slice.injEq] at h0
    obtain ⟨_, rfl, rfl⟩ := h0
    exact hnc
theorem rdG_kids {M : Nat → Prop} {w : World} {g : G} {z z' v1 v2 : Value} (h : rdG M w g [z, z', v1, v2]) : (LSl LG).rd M w g.kids [v2] := by
  obtain ⟨b1, b2, b3, b4, e, h1, h2⟩ := rdG_parts h
  simp only [List.cons.injEq, and_true] at e
  obtain ⟨_, _, _, rfl⟩ := e
  exact h2
theorem LD_form2 {M : Nat → Prop} {w : World} {g : G} {d : Nat} {vs : List Value} (h : LD.rd M w (g, d) vs) : ∃ a1 c1 a c, vs = [.int .i64 (g.kind : Nat), .string g.name, .slice a1 g.terms.length c1, .slice a g.kids.length c, .int .i64 (d : Nat)] ∧
    rdG M w g [.int .i64 (g.kind : Nat), .string g.name, .slice a1 g.terms.length c1, .slice a g.kids.length c] := LD_form h
theorem LBr_parts {M : Nat → Prop} {w : World} {x : Br} {z v1 v2 v3 v4 v5 : Value} (h : LBr.rd M w x [z, v1, v2, v3, v4, v5]) : LSt.rd M w x.1 [z, v1, v2, v3, v4] ∧ (LSl LNat).rd M w x.2 [v5] := by
  obtain ⟨a1, c1, a2, c2, a3, c3, a4, c4, a5, c5, e, h1, h2⟩ := LBr_form h
  simp only [List.cons.injEq, and_true] at e
  obtain ⟨rfl, rfl, rfl, rfl, rfl, rfl⟩ := e
  exact ⟨h1, h2⟩
theorem LBr_mk {M : Nat → Prop} {w : World} {x : Br} {z v1 v2 v3 v4 v5 : Value} (h1 : LSt.rd M w x.1 [z, v1, v2, v3, v4]) (h2 : (LSl LNat).rd M w x.2 [v5]) : LBr.rd M w x [z, v1, v2, v3, v4, v5] := ⟨_, _, rfl, h1, h2⟩
theorem orsV_len {b : Dp} {d : Nat} {others : List (G × Nat)} : ∀ {gs : List G} {k : Nat}, (orsV b d others k gs).length = gs.length
  | [], _ => rfl
  | _ :: gs, k => by simp [orsV, orsV_len (gs := gs)]
theorem take_drop_one {α : Type} {l : List α} {j : Nat} {x : α} (h : l[j]? = some x) : (l.take (j + 1)).drop j = [x] := by
  have := (List.getElem?_eq_some_iff.1 h).1
  rw [take_snoc h]
  exact List.drop_left' (by simp; omega)
theorem slA_0 {b c sz : Nat} : slA (some ⟨b, 0, none⟩) 0 c sz = some ⟨b, 0, none⟩ := by
  unfold slA
  split
  · rfl
  · simp [Addr.add]
set_option maxHeartbeats 1000000 in
set_option maxRecDepth 100000 in
theorem depthSearch_c {P : List Rl} {g : G} {n depth steps : Nat} {l : List Fo} {dn : Bool} {a : Option Addr} {c : Nat} {us : List Value} {M : Nat → Prop} {wA : World} (hs : depthV P g n depth steps = some (l, dn)) (hn : n ≤ 100000) (hdep : depth ≤ 1000) (hsteps : steps ≤ 10000) (hP : P.length ≤ 8) (hM : ∀ b, M b → b < wA.heap.size)
    (hp : (LSl LR).rd M wA P [.slice a P.length c]) (hg : rdG M wA g us) :
    Calls Tryz.prog 24 #[.agg #[.slice a P.length c], .agg us.toArray, .int .i64 (n : Nat), .int .i64 (depth : Nat), .int .i64 (steps : Nat)] wA (Ret fun v w' => (∃ u, v = .tuple #[u, .bool dn] ∧ (LSl LF).rd M w' l [u]) ∧ Mod [] wA w') := by
  obtain ⟨a6, c6, a7, c7, rfl, _⟩ := rdG_form hg
  refine enter2 Tryz.func24 rfl Tryz.ntmps24 rfl (by simp) ?_
  have H := ((Holds.start wA []).arg (L := LG) hg).arg (L := LSl LR) hp
  refine W_rs ?_
  refine qrb H ?_; intro b5 w H
  refine qrb H ?_; intro b6 w H
  (repeat (first | refine qq ?_ | (refine qds H ?_; intro H) | (refine qrb H ?_; intro _ w H) | (refine qrs H ?_; intro w H) | (refine qdr H ?_; intro H)))
  generalize w.drew = wS at H ⊢
  have stab7 : ∀ (v : Value) (a b : World), Ds7 (H.wr M) wS ⟨(⟨n, [], []⟩, []), [(g, 0)], 0⟩ v a → Mod [] a b → Ds7 (H.wr M) wS ⟨(⟨n, [], []⟩, []), [(g, 0)], 0⟩ v b := fun _ _ _ ⟨b, vs, h1, h2, h3, h4, h5⟩ hm => ⟨b, vs, h1, h2, Nat.lt_of_lt_of_le h3 hm.size, by rw [hm.block b h3 (by simp)]; exact h4, LDp.keep _ _ _ _ _ (fun b hb _ => hm.block b hb (by simp)) h5⟩
  have H1 := H
  refine WD_any 8 [[], [0], [0, 1], [], [3], [3, 4], [0, 1, 2, 3, 4, 5], [0, 1, 2, 3, 4, 5, 6]] [(1, PN LSt (H1.wr M) (⟨n, [], []⟩)), (2, PN LBr (H1.wr M) ((⟨n, [], []⟩, []))), (4, PN LD (H1.wr M) ((g, 0))), (5, P1 (LSl LD) (H1.wr M) ([(g, 0)])), (6, PN LDp (H1.wr M) (⟨(⟨n, [], []⟩, []), [(g, 0)], 0⟩)), (7, Ds7 (H1.wr M) wS ⟨(⟨n, [], []⟩, []), [(g, 0)], 0⟩)] (by kernel_rfl) ?_ ?_ _ (by exact rfl) ?_
  · exact ⟨PN_stab, PN_stab, PN_stab, P1_stab, PN_stab, stab7, trivial⟩
  · refine ⟨?_, ?_, ?_, ?_, ?_, ?_, ?_, ?_, trivial⟩
    · exact qob
    · intro w hm
      have H := H.call hm
      refine qwr ?_
      refine qol ?_
      exact S_call1 _ (by exact rfl) (by exact rfl) (NewState_c n hn (H1.wr M) _) fun v w' h => h
    · intro w hm
      have H := H.call hm
      refine qwr ?_
      refine qwl ?_; rintro _ ⟨us1, rfl, h1⟩
      refine qol ?_
      obtain ⟨a1, c1, a2, c2, a3, c3, a4, c4, rfl, _⟩ := LSt_five h1
      refine S_read (X_build (by exact rfl) [(0, [.int .i64 (n : Nat), .slice a1 0 c1, .slice a2 0 c2, .slice a3 0 c3, .slice a4 0 c4])] (by exact rfl) (by exact rfl)) ?_
      exact ⟨⟨_, rfl, ⟨_, [.slice none 0 0], rfl, h1, ⟨_, _, _, rfl, RdSl.nil _ _⟩⟩⟩, Mod.refl _ _⟩
    · exact qob
    · intro w hm
      have H := H.call hm
      refine qwr ?_
      refine qol ?_
      refine S_read (X_build (by exact rfl) [(0, [.int .i64 (g.kind : Nat), .string g.name, .slice a6 g.terms.length c6, .slice a7 g.kids.length c7])] (by exact rfl) (by exact rfl)) ?_
      exact ⟨⟨_, rfl, LD_mk (d := 0) (H.dat (d := LG.dat M g [.int .i64 (g.kind : Nat), .string g.name, .slice a6 g.terms.length c6, .slice a7 g.kids.length c7]) (by simp))⟩, Mod.refl _ _⟩
    · intro w hm
      have H := H.call hm
      refine qwr ?_
      refine qwl ?_; rintro _ ⟨us4, rfl, h4⟩
      refine qol ?_
      obtain ⟨a11, c11, a12, c12, rfl, _⟩ := LD_form h4
      have H' := (Holds.start w []).arg (L := LD) h4
      refine S_bslice1N H' _ (by exact rfl) (by exact rfl) (by exact rfl) (by exact rfl) (by exact rfl) ?_
      intro b3 w' H'
      exact ⟨rdSl_one (Nat.le_refl _) (H'.own (fun b hb => Nat.lt_of_lt_of_le (H1.wr_lt hM b hb) hm.size) 0 rfl) (H'.out 0 rfl) (H'.bcells 0 5 rfl rfl), H'.mod⟩
    · intro w hm
      have H := H.call hm
      refine qwr ?_
      refine qwl ?_; rintro _ ⟨us1, rfl, h1⟩
      refine qwl ?_; rintro _ ⟨us2, rfl, h2⟩
      refine qwr ?_
      refine qwl ?_; rintro _ ⟨us4, rfl, h4⟩
      refine qwl ?_; intro v5 h5
      refine qol ?_
      obtain ⟨a1, c1, a2, c2, a3, c3, a4, c4, a5, c5, rfl, _⟩ := LBr_form h2
      obtain ⟨a13, c13, rfl⟩ := rdSl_val h5
      refine S_read (X_build (by exact rfl) [(0, [.int .i64 (n : Nat), .slice a1 0 c1, .slice a2 0 c2, .slice a3 0 c3, .slice a4 0 c4, .slice a5 0 c5]), (1, [.slice a13 1 c13])] (by exact rfl) (by exact rfl)) ?_
      exact ⟨⟨_, rfl, LDp_mk (x := ⟨(⟨n, [], []⟩, []), [(g, 0)], 0⟩) h2 h5⟩, Mod.refl _ _⟩
    · intro w hm
      have H := H.call hm
      refine qwr ?_
      refine qwl ?_; rintro _ ⟨us1, rfl, h1⟩
      refine qwl ?_; rintro _ ⟨us2, rfl, h2⟩
      refine qwr ?_
      refine qwl ?_; rintro _ ⟨us4, rfl, h4⟩
      refine qwl ?_; intro v5 h5
      refine qwl ?_; rintro _ ⟨us6, rfl, h6⟩
      refine qol ?_
      obtain ⟨a1, c1, a2, c2, a3, c3, a4, c4, a5, c5, a13, c13, rfl, _⟩ := LDp_form h6
      have H' := (Holds.start w []).arg (L := LDp) h6
      refine S_bslice1N H' _ (by exact rfl) (by exact rfl) (by exact rfl) (by exact rfl) (by exact rfl) ?_
      intro b3 w' H'
      have ho := H'.own (M := fun c => c < _) (fun _ h => h) 0 rfl
      exact ⟨⟨b3, _, rfl, Nat.le_trans hm.size (Nat.not_lt.1 ho.1), ho.2, H'.boxAt 0 rfl, LDp.grow _ _ _ _ _ (fun c _ hc => hc.imp id fun hc => by subst hc; simp [owns, box]) (H'.get 0 rfl)⟩, H'.mod⟩
  intro w hm
  have H := H.call hm
  refine qwr ?_
  refine qwl ?_; rintro _ ⟨us1, rfl, h1⟩
  refine qwl ?_; rintro _ ⟨us2, rfl, h2⟩
  refine qwr ?_
  refine qwl ?_; rintro _ ⟨us4, rfl, h4⟩
  refine qwl ?_; intro v5 h5
  refine qwl ?_; rintro _ ⟨us6, rfl, h6⟩
  refine qwl ?_; intro v7 h7
  refine WR_nil ?_
  obtain ⟨b8, vs8, rfl, h8a, h8b, h8c, h8d⟩ := h7
  have hl8 : vs8.length = 8 := LDp.len _ _ _ _ h8d
  have H := H1.new (a := orow 109 8 (.slice (some ⟨b8, 0, none⟩) 1 1) [vs8]) hm ⟨by simp [hl8], by simp [hl8], .inr ⟨b8, 1, vs8.toArray, rfl, Nat.zero_le _, h8c, Nat.le_refl _, by decide, by simp [hl8], by simp; exact List.take_of_length_le (by omega)⟩⟩ (by simp [orow, Value.ownBlock]) (fun b hb => by
    have hb : b = b8 := by simpa [orow, Value.ownBlock] using hb
    subst hb
    exact ⟨h8b, h8a⟩)
  have H := H.add (d := dall LDp M [⟨(⟨n, [], []⟩, []), [(g, 0)], 0⟩] [vs8]) ⟨LDp.grow _ _ _ _ _ (fun c _ hc => by
    rcases hc with hc | hc
    · exact .inl (.inl hc)
    · rw [owns, List.flatMap_cons, List.mem_append] at hc
      rcases hc with hc | hc
      · exact .inr (by simpa [orow, Value.ownBlock] using hc)
      · exact .inl (.inr hc)) h8d, trivial⟩
  refine WD_rd (by kernel_rfl) rfl rfl (X_assign _) (WD_end (by decide) ?_)
  (repeat (first | refine qq ?_ | (refine qds H ?_; intro H) | (refine qrb H ?_; intro _ w H) | (refine qrs H ?_; intro w H) | (refine qdr H ?_; intro H)))
  refine WO_s rfl (S_bslice0 H ?_); intro b0 w H
  have H := (H.toRow 0 7 rfl).dnil (L := LF) (M := M)
  (repeat (first | refine qq ?_ | (refine qds H ?_; intro H) | (refine qrb H ?_; intro _ w H) | (refine qrs H ?_; intro w H) | (refine qdr H ?_; intro H)))
  refine W_loop (fun m f w' => ∃ i gg stack out v12 v13 vss uss r, m = steps - i ∧ i ≤ steps ∧ f = sl gg [(3, .int .i64 (depth : Nat)), (4, .int .i64 (steps : Nat)), (5, .pointer (some ⟨b5, 0, none⟩)), (12, v12), (13, v13), (14, .int .i64 (i : Nat))] ∧
    searchV P depth (steps - i) stack = some (r, dn) ∧ out ++ r = l ∧ out.length ≤ i ∧ (∀ x ∈ stack, StaOk x.br.1) ∧
    Holds _ [] [orow 53 7 v13 uss, orow 109 8 v12 vss, box b5 [.slice a P.length c] 25] [dall LF M out uss, dall LDp M stack.reverse vss, (LSl LR).dat M P [.slice a P.length c]] w') steps
    ⟨0, _, [⟨(⟨n, [], []⟩, []), [(g, 0)], 0⟩], [], _, _, _, _, l, rfl, Nat.zero_le _, sl_back ⟨rfl, rfl, rfl, rfl, rfl, rfl, trivial⟩, hs, rfl, Nat.le_refl _, ?_, H.sub (.cons_cons _ (.cons_cons _ (.cons _ (.refl _)))) (by simp)⟩ ?_
  · intro x hx
    rw [List.mem_singleton.1 hx]
    exact ⟨⟨by simp, .nil, by simp, by simp⟩, by simp, by simp⟩
  clear H hs
  rintro m f w ⟨i, gg, stack, out, v12, v13, vss, uss, r, rfl, hi, rfl, hs, hout, hol, hst, H⟩
  obtain ⟨a13, c13, rfl⟩ := H.rowVal 0 rfl
  obtain ⟨a12, c12, rfl⟩ := H.rowVal 1 rfl
  have hvl := (Alls.get (H.dat (d := dall LDp M stack.reverse vss) (by simp))).1
  have hul := (Alls.get (H.dat (d := dall LF M out uss) (by simp))).1
  by_cases hlt : i < steps
  · cases stack with
    | nil =>
      simp only [List.reverse_nil, List.length_nil] at hvl
      rw [← hvl]
      (repeat (first | refine qq ?_ | (refine qds H ?_; intro H) | (refine qrb H ?_; intro _ w H) | (refine qrs H ?_; intro w H) | (refine qdr H ?_; intro H)))
      rw [searchV_nil] at hs
      cases hs
      rw [List.append_nil] at hout
      subst hout
      have H := Holds.freeze (A1 := []) (A2 := [_, _]) (M := M) (L := LF) (l := out) H hM (H.dat (by simp)) (by simp)
      exact ⟨⟨_, rfl, H.out 0 rfl⟩, H.mod⟩
    | cons b rest =>
      obtain ⟨k, hk⟩ : ∃ k, steps - i = k + 1 := ⟨steps - i - 1, by omega⟩
      rw [hk] at hs
      simp only [searchV] at hs
      cases hok : dpOk b && Nat.ble rest.length 10000 with
      | false => rw [hok] at hs; cases hs
      | true =>
      rw [hok] at hs
      simp only [cond_true] at hs
      simp only [Bool.and_eq_true, dpOk] at hok
      obtain ⟨⟨⟨⟨hok1, hok2⟩, hok3⟩, hok4⟩, hok5⟩ := hok
      have hok1 := Nat.le_of_ble_eq_true hok1
      have hok2 := Nat.le_of_ble_eq_true hok2
      have hok3 := Nat.le_of_ble_eq_true hok3
      have hok4 := Nat.le_of_ble_eq_true hok4
      have hok5 := Nat.le_of_ble_eq_true hok5
      have hbst := hst b (by simp)
      have hrst : ∀ x ∈ rest, StaOk x.br.1 := fun x hx => hst x (by simp [hx])
      cases hsv : stepV P depth b rest with
      | none => rw [hsv] at hs; cases hs
      | some lo =>
      obtain ⟨l1, o1⟩ := lo
      rw [hsv] at hs
      simp only [] at hs
      cases hsr : searchV P depth k l1 with
      | none => rw [hsr] at hs; cases hs
      | some rd =>
      obtain ⟨r1, d1⟩ := rd
      rw [hsr] at hs
      simp only [Option.some.injEq, Prod.mk.injEq] at hs
      obtain ⟨rfl, rfl⟩ := hs
      obtain ⟨hl1, _, _⟩ := stepV_ok hsv hbst hrst
      rw [List.reverse_cons] at H
      simp only [List.reverse_cons, List.length_append, List.length_reverse, List.length_singleton] at hvl
      obtain ⟨vss', vb, rfl, hvb⟩ : ∃ vss' vb, vss = vss' ++ [vb] ∧ vss'.length = rest.length := by
        rcases List.eq_nil_or_concat vss with rfl | ⟨vss', vb, rfl⟩
        · simp at hvl
        · exact ⟨vss', vb, by simp, by simp at hvl; omega⟩
      obtain ⟨hdr, hdb⟩ := Alls.unsnoc (H.dat (d := dall LDp M (rest.reverse ++ [b]) (vss' ++ [vb])) (by simp)) (by simp [hvb])
      have H := (H.add (d := dall LDp M rest.reverse vss') hdr).add (d := LDp.dat M b vb) hdb
      obtain ⟨a21, c21, a22, c22, a23, c23, a24, c24, a25, c25, a26, c26, rfl, hbr, hbg⟩ := LDp_form hdb
      have H := (H.add (d := LBr.dat M b.br [.int .i64 (b.br.1.next : Nat), .slice a21 b.br.1.bind.length c21, .slice a22 b.br.1.dis.length c22, .slice a23 0 c23, .slice a24 0 c24, .slice a25 b.br.2.length c25]) hbr).add (d := (LSl LD).dat M b.goals [.slice a26 b.goals.length c26]) hbg
      obtain ⟨bs, cs, hsl, hcb, _⟩ := H.row 1 rfl (k := vss'.length) List.getElem?_concat_length
      simp only [List.length_append, List.length_singleton, Value.slice.injEq, true_and] at hsl
      obtain ⟨rfl, rfl⟩ := hsl
      simp only [List.length_append, List.length_singleton] at H ⊢
      (repeat (first | refine qq ?_ | (refine qds H ?_; intro H) | (refine qrb H ?_; intro _ w H) | (refine qrs H ?_; intro w H) | (refine qdr H ?_; intro H)))
      rw [show ((vss'.length + 1 : Nat) : Int) - 1 = (vss'.length : Nat) by omega]
      refine WO_rd rfl (X_indexAddr _ _ _ (by exact rfl) (by exact rfl) (by omega)) ?_
      rw [show 0 + vss'.length * 8 = vss'.length * 8 from Nat.zero_add _]
      refine WO_rd rfl (X_loadN _ (by exact rfl) hcb rfl) ?_
      refine qrb H ?_; intro b15 w H
      refine qrs H ?_; intro w H
      (repeat (first | refine qq ?_ | (refine qds H ?_; intro H) | (refine qrb H ?_; intro _ w H) | (refine qrs H ?_; intro w H) | (refine qdr H ?_; intro H)))
      rw [show ((vss'.length + 1 : Nat) : Int) - 1 = (vss'.length : Nat) by omega]
      have hcap := H.rowCap 2 rfl
      refine WO_rd rfl (X_slice _ _ _ 0 vss'.length (by exact rfl) rfl ⟨.i64, (by exact rfl)⟩ (by omega) (by omega) hcap) ?_
      rw [slA_0, Nat.sub_zero, Nat.sub_zero]
      have H := H.pop 2 rfl
      (repeat (first | refine qq ?_ | (refine qds H ?_; intro H) | (refine qrb H ?_; intro _ w H) | (refine qrs H ?_; intro w H) | (refine qdr H ?_; intro H)))
      cases hg : b.goals with
      | nil =>
        unfold stepV at hsv
        rw [hg] at hsv H
        simp only [Option.some.injEq, Prod.mk.injEq] at hsv
        obtain ⟨rfl, rfl⟩ := hsv
        (repeat (first | refine qq ?_ | (refine qds H ?_; intro H) | (refine qrb H ?_; intro _ w H) | (refine qrs H ?_; intro w H) | (refine qdr H ?_; intro H)))
        refine WO_rd rfl (X_build (by exact rfl) [(0, [.int .i64 (b.br.1.next : Nat), .slice a21 b.br.1.bind.length c21, .slice a22 b.br.1.dis.length c22, .slice a23 0 c23, .slice a24 0 c24, .slice a25 b.br.2.length c25]), (1, [.int .i64 (b.height : Nat)])] (by exact rfl) (by exact rfl)) ?_
        (first | refine WO_s rfl (S_bslice1N H _ (by exact rfl) (by exact rfl) (by exact rfl) (by exact rfl) (by exact rfl) ?_) | refine WO_s rfl (S_bslice1s H _ (by exact rfl) (by exact rfl) (by exact rfl) ?_)); intro b64 w H
        refine WO_s rfl (S_append H 2 _ _ (vs := [.int .i64 (b.br.1.next : Nat), .slice a21 b.br.1.bind.length c21, .slice a22 b.br.1.dis.length c22, .slice a23 0 c23, .slice a24 0 c24, .slice a25 b.br.2.length c25, .int .i64 (b.height : Nat)]) (by exact rfl) (by exact rfl) (by exact rfl) (H.bcells 0 7 rfl rfl) rfl (by simp [Value.oneCell']) (by simp) (by exact rfl) (by omega) ?_)
        intro v13 w H
        have H := H.snoc (L := LF) (M := M) (l := out) (vss := uss) (x := (b.br, b.height)) (by simp) ⟨_, [.int .i64 (b.height : Nat)], rfl, H.dat (d := LBr.dat M b.br [.int .i64 (b.br.1.next : Nat), .slice a21 b.br.1.bind.length c21, .slice a22 b.br.1.dis.length c22, .slice a23 0 c23, .slice a24 0 c24, .slice a25 b.br.2.length c25]) (by simp), rfl⟩
        (repeat (first | refine qq ?_ | (refine qds H ?_; intro H) | (refine qrb H ?_; intro _ w H) | (refine qrs H ?_; intro w H) | (refine qdr H ?_; intro H)))
        refine ⟨steps - (i + 1), by omega, i + 1, _, rest, out ++ [(b.br, b.height)], _, v13, vss', uss ++ [[.int .i64 (b.br.1.next : Nat), .slice a21 b.br.1.bind.length c21, .slice a22 b.br.1.dis.length c22, .slice a23 0 c23, .slice a24 0 c24, .slice a25 b.br.2.length c25, .int .i64 (b.height : Nat)]], r1, rfl, by omega, sl_back ⟨rfl, rfl, rfl, rfl, rfl, rfl, trivial⟩, by rw [show steps - (i + 1) = k by omega]; exact hsr, by rw [← hout]; simp, by simp; omega, hrst, ?_⟩
        exact H.sub (.cons _ (.cons _ (.refl _))) (by simp)
      | cons x others =>
        obtain ⟨gx, dx⟩ := x
        rw [hg] at H hok3
        simp only [List.length_cons] at H hok3 ⊢
        have hc26 : others.length + 1 ≤ c26 := by
          obtain ⟨_, _, _, he, h6, h7, _⟩ := H.dat (d := (LSl LD).dat M ((gx, dx) :: others) [.slice a26 (others.length + 1) c26]) (by simp)
          simp only [List.cons.injEq, Value.slice.injEq, and_true] at he
          obtain ⟨_, rfl, rfl⟩ := he
          exact h7
        have hoth := rdSl_part (L := LD) (l := 1) (m := others.length + 1) (H.dat (d := (LSl LD).dat M ((gx, dx) :: others) [.slice a26 (others.length + 1) c26]) (by simp)) (by omega) (Nat.le_refl _)
        rw [Nat.add_sub_cancel, show (((gx, dx) :: others).take (others.length + 1)).drop 1 = others by simp] at hoth
        have H := H.add (d := (LSl LD).dat M others [.slice (slA a26 1 c26 LD.sz) others.length (c26 - 1)]) hoth
        clear hoth
        obtain ⟨bg, og, vg, rfl, _, _, hrg, H⟩ := H.elem (L := LD) (M := M) (l := (gx, dx) :: others) (a := a26) (n := others.length + 1) (c := c26) (by simp) 0 rfl
        obtain ⟨a31, c31, a32, c32, rfl, hgx⟩ := LD_form2 hrg
        have H := (H.add (d := LG.dat M gx [.int .i64 (gx.kind : Nat), .string gx.name, .slice a31 gx.terms.length c31, .slice a32 gx.kids.length c32]) hgx).add (d := (LSl LG).dat M gx.kids [.slice a32 gx.kids.length c32]) (rdG_kids hgx)
        clear hgx hrg
        have H := (H.add (d := LSt.dat M b.br.1 [.int .i64 (b.br.1.next : Nat), .slice a21 b.br.1.bind.length c21, .slice a22 b.br.1.dis.length c22, .slice a23 0 c23, .slice a24 0 c24]) (LBr_parts (H.dat (d := LBr.dat M b.br [.int .i64 (b.br.1.next : Nat), .slice a21 b.br.1.bind.length c21, .slice a22 b.br.1.dis.length c22, .slice a23 0 c23, .slice a24 0 c24, .slice a25 b.br.2.length c25]) (by simp))).1).add (d := (LSl LNat).dat M b.br.2 [.slice a25 b.br.2.length c25]) (LBr_parts (H.dat (d := LBr.dat M b.br [.int .i64 (b.br.1.next : Nat), .slice a21 b.br.1.bind.length c21, .slice a22 b.br.1.dis.length c22, .slice a23 0 c23, .slice a24 0 c24, .slice a25 b.br.2.length c25]) (by simp))).2
        (repeat (first | refine qq ?_ | (refine qds H ?_; intro H) | (refine qdr H ?_; intro H)))
        refine qrb H ?_; intro b16 w H
        refine qrs H ?_; intro w H
        (repeat (first | refine qq ?_ | (refine qds H ?_; intro H) | (refine qrb H ?_; intro _ w H) | (refine qrs H ?_; intro w H) | (refine qdr H ?_; intro H)))
        refine WO_rd rfl (X_slice _ _ _ 1 (others.length + 1) (by exact rfl) ⟨.i64, (by exact rfl)⟩ rfl (by omega) hc26 hc26) ?_
        rw [Nat.add_sub_cancel]
        obtain ⟨ao, hao⟩ : ∃ ao, ao = slA (some ⟨bg, og, none⟩) 1 c26 5 := ⟨_, rfl⟩
        rw [← hao]
        have H := H.add (d := (LSl LD).dat M others [.slice ao others.length (c26 - 1)]) (by rw [hao]; exact H.dat (d := (LSl LD).dat M others [.slice (slA (some ⟨bg, og, none⟩) 1 c26 LD.sz) others.length (c26 - 1)]) (by simp))
        (repeat (first | refine qq ?_ | (refine qds H ?_; intro H) | (refine qrb H ?_; intro _ w H) | (refine qrs H ?_; intro w H) | (refine qdr H ?_; intro H)))
        unfold stepV at hsv
        rw [hg] at hsv
        simp only [] at hsv
        cases h7 : Nat.beq gx.kind 7 with
        | true =>
          rw [h7] at hsv
          simp only [cond_true] at hsv
          cases hkl : Nat.ble gx.kids.length 1000 with
          | false => rw [hkl] at hsv; cases hsv
          | true =>
          rw [hkl] at hsv
          simp only [cond_true, Option.some.injEq, Prod.mk.injEq] at hsv
          obtain ⟨rfl, rfl⟩ := hsv
          have hkl := Nat.le_of_ble_eq_true hkl
          have hk7 := beq_of h7
          (repeat (first | refine qq ?_ | (refine qds H ?_; intro H) | (refine qrb H ?_; intro _ w H) | (refine qrs H ?_; intro w H) | (refine qdr H ?_; intro H)))
          refine WO_s rfl (S_call3 _ _ _ (by exact rfl) (by exact rfl) (by exact rfl) (by exact rfl) (before_c (M := H.wr M) (gs := gx.kids) (d := dx) (rest := others) (H.wr_lt hM) (H.dat (d := (LSl LG).dat M gx.kids [.slice a32 gx.kids.length c32]) (by simp)) (H.dat (d := (LSl LD).dat M others [.slice ao others.length (c26 - 1)]) (by simp)) hkl (by omega)) ?_)
          rintro v104 w ⟨hv, hm⟩
          obtain ⟨a41, c41, rfl⟩ := rdSl_val hv
          have H := (H.call hm).add (d := (LSl LD).dat M (gx.kids.map (·, dx) ++ others) [.slice a41 (gx.kids.map (·, dx) ++ others).length c41]) hv
          (repeat (first | refine qq ?_ | (refine qds H ?_; intro H) | (refine qrb H ?_; intro _ w H) | (refine qrs H ?_; intro w H) | (refine qdr H ?_; intro H)))
          (first | refine WO_s rfl (S_bslice1N H _ (by exact rfl) (by exact rfl) (by exact rfl) (by exact rfl) (by exact rfl) ?_) | refine WO_s rfl (S_bslice1s H _ (by exact rfl) (by exact rfl) (by exact rfl) ?_)); intro b108 w H
          refine WO_s rfl (S_append H 4 _ _ (vs := [.int .i64 (b.br.1.next : Nat), .slice a21 b.br.1.bind.length c21, .slice a22 b.br.1.dis.length c22, .slice a23 0 c23, .slice a24 0 c24, .slice a25 b.br.2.length c25, .slice a41 (gx.kids.map (·, dx) ++ others).length c41, .int .i64 (b.height : Nat)]) (by exact rfl) (by exact rfl) (by exact rfl) (H.bcells 0 8 rfl rfl) rfl (by simp [Value.oneCell']) (by simp) (by exact rfl) (by omega) ?_)
          intro v12 w H
          have H := H.snoc (L := LDp) (M := M) (l := rest.reverse) (vss := vss') (x := ⟨b.br, gx.kids.map (·, dx) ++ others, b.height⟩) (by simp) (LDp_mk (x := ⟨b.br, gx.kids.map (·, dx) ++ others, b.height⟩) (H.dat (d := LBr.dat M b.br [.int .i64 (b.br.1.next : Nat), .slice a21 b.br.1.bind.length c21, .slice a22 b.br.1.dis.length c22, .slice a23 0 c23, .slice a24 0 c24, .slice a25 b.br.2.length c25]) (by simp)) (H.dat (d := (LSl LD).dat M (gx.kids.map (·, dx) ++ others) [.slice a41 (gx.kids.map (·, dx) ++ others).length c41]) (by simp)))
          (repeat (first | refine qq ?_ | (refine qds H ?_; intro H) | (refine qrb H ?_; intro _ w H) | (refine qrs H ?_; intro w H) | (refine qdr H ?_; intro H)))
          refine ⟨steps - (i + 1), by omega, i + 1, _, _, out, v12, .slice a13 uss.length c13, vss' ++ [[.int .i64 (b.br.1.next : Nat), .slice a21 b.br.1.bind.length c21, .slice a22 b.br.1.dis.length c22, .slice a23 0 c23, .slice a24 0 c24, .slice a25 b.br.2.length c25, .slice a41 (gx.kids.map (·, dx) ++ others).length c41, .int .i64 (b.height : Nat)]], uss, r1, rfl, by omega, sl_back ⟨rfl, rfl, rfl, rfl, rfl, rfl, trivial⟩, by rw [show steps - (i + 1) = k by omega]; exact hsr, by rw [← hout]; simp, by omega, hl1, ?_⟩
          rw [List.reverse_cons]
          exact H.sub (.cons _ (.cons _ (.cons _ (.refl _)))) (by simp)
        | false =>
        rw [h7] at hsv
        simp only [cond_false] at hsv
        have hk7 := beq_ne h7
        cases h8 : Nat.beq gx.kind 8 with
        | true =>
          rw [h8] at hsv
          simp only [cond_true] at hsv
          have hk8 := beq_of h8
          cases hkl : Nat.ble gx.kids.length 1000 with
          | false => rw [hkl] at hsv; cases hsv
          | true =>
          rw [hkl] at hsv
          simp only [cond_true, Option.some.injEq, Prod.mk.injEq] at hsv
          obtain ⟨rfl, rfl⟩ := hsv
          have hkl := Nat.le_of_ble_eq_true hkl
          (repeat (first | refine qq ?_ | (refine qds H ?_; intro H) | (refine qrb H ?_; intro _ w H) | (refine qrs H ?_; intro w H) | (refine qdr H ?_; intro H)))
          refine W_loop (fun m f w' => ∃ j gg v12 vss2, m = j ∧ j ≤ gx.kids.length ∧ f = sl gg [(3, .int .i64 (depth : Nat)), (4, .int .i64 (steps : Nat)), (5, .pointer (some ⟨b5, 0, none⟩)), (12, v12), (13, .slice a13 uss.length c13), (14, .int .i64 (i : Nat)), (15, .pointer (some ⟨b15, 0, none⟩)), (16, .pointer (some ⟨b16, 0, none⟩)), (17, .slice ao others.length (c26 - 1)), (18, .int .i64 ((j : Nat) - 1))] ∧
            Holds wA [] [box b16 [.int .i64 (gx.kind : Nat), .string gx.name, .slice a31 gx.terms.length c31, .slice a32 gx.kids.length c32, .int .i64 (dx : Nat)] 106, box b15 [.int .i64 (b.br.1.next : Nat), .slice a21 b.br.1.bind.length c21, .slice a22 b.br.1.dis.length c22, .slice a23 0 c23, .slice a24 0 c24, .slice a25 b.br.2.length c25, .slice (some ⟨bg, og, none⟩) (others.length + 1) c26, .int .i64 (b.height : Nat)] 109, orow 53 7 (.slice a13 uss.length c13) uss, orow 109 8 v12 vss2, box b5 [.slice a P.length c] 25]
              [dall LDp M (orsV b dx others j (gx.kids.drop j) ++ rest).reverse vss2, dall LF M out uss, (LSl LR).dat M P [.slice a P.length c], (LSl LD).dat M others [.slice ao others.length (c26 - 1)], (LSl LG).dat M gx.kids [.slice a32 gx.kids.length c32],
                LBr.dat M b.br [.int .i64 (b.br.1.next : Nat), .slice a21 b.br.1.bind.length c21, .slice a22 b.br.1.dis.length c22, .slice a23 0 c23, .slice a24 0 c24, .slice a25 b.br.2.length c25]] w') gx.kids.length
            ⟨gx.kids.length, _, .slice (some ⟨bs, 0, none⟩) vss'.length c12, vss', rfl, Nat.le_refl _, sl_back ⟨rfl, rfl, rfl, rfl, rfl, rfl, rfl, rfl, rfl, rfl, trivial⟩, ?_⟩ ?_
          · rw [List.drop_length]
            exact H.sub (.refl _) (by simp [orsV])
          clear H
          rintro j f w ⟨_, gg2, v12, vss2, rfl, hj, rfl, H⟩
          obtain ⟨a70, c70, rfl⟩ := H.rowVal 3 rfl
          cases j with
          | zero =>
            (repeat (first | refine qq ?_ | (refine qds H ?_; intro H) | (refine qrb H ?_; intro _ w H) | (refine qrs H ?_; intro w H) | (refine qdr H ?_; intro H)))
            refine ⟨steps - (i + 1), by omega, i + 1, _, _, out, .slice a70 vss2.length c70, .slice a13 uss.length c13, vss2, uss, r1, rfl, by omega, sl_back ⟨rfl, rfl, rfl, rfl, rfl, rfl, trivial⟩, by rw [show steps - (i + 1) = k by omega]; exact hsr, by rw [← hout]; simp, by omega, hl1, ?_⟩
            exact H.sub (.cons _ (.cons _ (.refl _))) (by simp)
          | succ j =>
            obtain ⟨x, hx⟩ : ∃ x, gx.kids[j]? = some x := ⟨_, List.getElem?_eq_getElem (by omega)⟩
            have hvl2 := (Alls.get (H.dat (d := dall LDp M (orsV b dx others (j + 1) (gx.kids.drop (j + 1)) ++ rest).reverse vss2) (by simp))).1
            simp only [List.length_reverse, List.length_append, orsV_len, List.length_drop] at hvl2
            have hc32 : gx.kids.length ≤ c32 := by
              obtain ⟨_, _, _, he, h6, h7, _⟩ := H.dat (d := (LSl LG).dat M gx.kids [.slice a32 gx.kids.length c32]) (by simp)
              simp only [List.cons.injEq, Value.slice.injEq, and_true] at he
              obtain ⟨_, rfl, rfl⟩ := he
              exact h7
            have hpart := rdSl_part (L := LG) (l := j) (m := j + 1) (H.dat (d := (LSl LG).dat M gx.kids [.slice a32 gx.kids.length c32]) (by simp)) (by omega) hj
            rw [show (gx.kids.take (j + 1)).drop j = [x] from take_drop_one hx] at hpart
            have H := H.add (d := (LSl LG).dat M [x] [.slice (slA a32 j c32 LG.sz) (j + 1 - j) (c32 - j)]) hpart
            clear hpart
            rw [show ((j + 1 : Nat) : Int) - 1 = (j : Nat) by omega]
            (repeat (first | refine qq ?_ | (refine qds H ?_; intro H) | (refine qrb H ?_; intro _ w H) | (refine qrs H ?_; intro w H) | (refine qdr H ?_; intro H)))
            have H1 := H
            refine WD_any 20 [[], [], [1], [], [1, 2, 3], [], [5], [5, 6], [], [], [9], [5, 6, 7, 8, 9, 10], [], [12], [], [1, 2, 3, 4, 5, 6, 7, 8, 9, 10, 11, 12, 13, 14], [], [16], [1, 2, 3, 4, 5, 6, 7, 8, 9, 10, 11, 12, 13, 14, 15, 16, 17], [1, 2, 3, 4, 5, 6, 7, 8, 9, 10, 11, 12, 13, 14, 15, 16, 17, 18]] [(4, PN LBr (H1.wr M) ((b.br.1, b.br.2 ++ [j]))), (15, P1 (LSl LD) (H1.wr M) ((List.cons (x, dx) others))), (18, PN LDp (H1.wr M) ((⟨(b.br.1, b.br.2 ++ [j]), List.cons (x, dx) others, b.height⟩))), (19, P1 (LSl LDp) (H1.wr M) ([⟨(b.br.1, b.br.2 ++ [j]), List.cons (x, dx) others, b.height⟩]))] (by kernel_rfl) ?_ ?_ _ (by exact rfl) ?_
            · exact ⟨PN_stab, P1_stab, PN_stab, P1_stab, trivial⟩
            · refine ⟨?_, ?_, ?_, ?_, ?_, ?_, ?_, ?_, ?_, ?_, ?_, ?_, ?_, ?_, ?_, ?_, ?_, ?_, ?_, ?_, trivial⟩
              iterate 4 (· exact qob)
              · intro w hm
                have H := H.call hm
                iterate 3 refine qwr ?_
                refine qol ?_
                exact S_call2 _ _ (by exact rfl) (by exact rfl) (by exact rfl) (choose_c (x := b.br) (i := j) (M := H1.wr M) (fun b hb => Nat.lt_of_lt_of_le (H1.wr_lt hM b hb) hm.size) (H.dat (d := LBr.dat M b.br [.int .i64 (b.br.1.next : Nat), .slice a21 b.br.1.bind.length c21, .slice a22 b.br.1.dis.length c22, .slice a23 0 c23, .slice a24 0 c24, .slice a25 b.br.2.length c25]) (by simp)) hok2) fun v w' h => h
              iterate 6 (· exact qob)
              · intro w hm
                have H := H.call hm
                iterate 6 refine qwr ?_
                exact OA_rd rfl (by exact rfl) (X_slice _ _ _ j (j + 1) (by exact rfl) ⟨.i64, (by exact rfl)⟩ ⟨.i64, (by exact rfl)⟩ (by omega) (by omega) hc32)
              iterate 3 (· exact qob)
              · intro w hm
                have H := H.call hm
                iterate 3 refine qwr ?_
                refine qwl ?_; rintro _ ⟨us4, rfl, h4⟩
                iterate 6 refine qwr ?_
                refine WR_rd rfl (by exact rfl) (X_slice _ _ _ j (j + 1) (by exact rfl) ⟨.i64, (by exact rfl)⟩ ⟨.i64, (by exact rfl)⟩ (by omega) (by omega) hc32) ?_
                iterate 3 refine qwr ?_
                refine qol ?_
                exact S_call3 _ _ _ (by exact rfl) (by exact rfl) (by exact rfl) (by exact rfl) (before_c (M := H1.wr M) (gs := [x]) (d := dx) (rest := others) (fun b hb => Nat.lt_of_lt_of_le (H1.wr_lt hM b hb) hm.size) (H.dat (d := (LSl LG).dat M [x] [.slice (slA a32 j c32 LG.sz) (j + 1 - j) (c32 - j)]) (by simp)) (H.dat (d := (LSl LD).dat M others [.slice ao others.length (c26 - 1)]) (by simp)) (by simp) (by omega)) fun v w' h => h
              iterate 2 (· exact qob)
              · intro w hm
                have H := H.call hm
                iterate 3 refine qwr ?_
                refine qwl ?_; rintro _ ⟨us4, rfl, h4⟩
                iterate 6 refine qwr ?_
                refine WR_rd rfl (by exact rfl) (X_slice _ _ _ j (j + 1) (by exact rfl) ⟨.i64, (by exact rfl)⟩ ⟨.i64, (by exact rfl)⟩ (by omega) (by omega) hc32) ?_
                iterate 3 refine qwr ?_
                refine qwl ?_; intro v15 h15
                refine qwr ?_
                refine qwr ?_
                refine qol ?_
                obtain ⟨a51, c51, a52, c52, a53, c53, a54, c54, a55, c55, rfl, _⟩ := LBr_form h4
                obtain ⟨a59, c59, rfl⟩ := rdSl_val h15
                refine S_read (X_build (by exact rfl) [(0, [.int .i64 (b.br.1.next : Nat), .slice a51 b.br.1.bind.length c51, .slice a52 b.br.1.dis.length c52, .slice a53 0 c53, .slice a54 0 c54, .slice a55 (b.br.2 ++ [j]).length c55]), (1, [.slice a59 (List.cons (x, dx) others).length c59]), (2, [.int .i64 (b.height : Nat)])] (by exact rfl) (by exact rfl)) ?_
                exact ⟨⟨_, rfl, LDp_mk (x := ⟨(b.br.1, b.br.2 ++ [j]), List.cons (x, dx) others, b.height⟩) h4 h15⟩, Mod.refl _ _⟩
              · intro w hm
                have H := H.call hm
                iterate 3 refine qwr ?_
                refine qwl ?_; rintro _ ⟨us4, rfl, h4⟩
                iterate 6 refine qwr ?_
                refine WR_rd rfl (by exact rfl) (X_slice _ _ _ j (j + 1) (by exact rfl) ⟨.i64, (by exact rfl)⟩ ⟨.i64, (by exact rfl)⟩ (by omega) (by omega) hc32) ?_
                iterate 3 refine qwr ?_
                refine qwl ?_; intro v15 h15
                refine qwr ?_
                refine qwr ?_
                refine qwl ?_; rintro _ ⟨us18, rfl, h18⟩
                refine qol ?_
                obtain ⟨a61, c61, a62, c62, a63, c63, a64, c64, a65, c65, a66, c66, rfl, _⟩ := LDp_form h18
                have H' := (Holds.start w []).arg (L := LDp) h18
                refine S_bslice1N H' _ (by exact rfl) (by exact rfl) (by exact rfl) (by exact rfl) (by exact rfl) ?_
                intro b3 w' H'
                exact ⟨rdSl_one (Nat.le_refl _) (H'.own (fun b hb => Nat.lt_of_lt_of_le (H1.wr_lt hM b hb) hm.size) 0 rfl) (H'.out 0 rfl) (H'.bcells 0 8 rfl rfl), H'.mod⟩
            intro w hm
            have H := H.call hm
            iterate 4 refine qwr ?_
            refine qwl ?_; rintro _ ⟨us4, rfl, h4⟩
            iterate 6 refine qwr ?_
            refine WR_rd rfl (by exact rfl) (X_slice _ _ _ j (j + 1) (by exact rfl) ⟨.i64, (by exact rfl)⟩ ⟨.i64, (by exact rfl)⟩ (by omega) (by omega) hc32) ?_
            iterate 3 refine qwr ?_
            refine qwl ?_; intro v15 h15
            refine qwr ?_
            refine qwr ?_
            refine qwl ?_; rintro _ ⟨us18, rfl, h18⟩
            refine qwl ?_; intro v19 h19
            refine WR_nil ?_
            obtain ⟨b17, o17, c17, vs17, rfl, hr17, hc17⟩ := rdSl_at h19
            have H := H.add (d := LDp.dat M ⟨(b.br.1, b.br.2 ++ [j]), List.cons (x, dx) others, b.height⟩ vs17) hr17
            refine WD_s (by kernel_rfl) rfl rfl (S_append H 3 _ _ (by exact rfl) (by exact rfl) (by exact rfl) hc17 (LDp.len _ _ _ _ hr17) (LDp.one _ _ _ _ hr17) (by decide) (by exact rfl) (by omega) ?_)
            intro v12 w H
            refine WD_rd (by kernel_rfl) rfl rfl (X_assign _) (WD_end (by decide) ?_)
            have H := H.snoc (L := LDp) (M := M) (l := (orsV b dx others (j + 1) (gx.kids.drop (j + 1)) ++ rest).reverse) (vss := vss2) (x := ⟨(b.br.1, b.br.2 ++ [j]), List.cons (x, dx) others, b.height⟩) (by simp) (H.dat (d := LDp.dat M ⟨(b.br.1, b.br.2 ++ [j]), List.cons (x, dx) others, b.height⟩ vs17) (by simp))
            (repeat (first | refine qq ?_ | (refine qds H ?_; intro H) | (refine qrb H ?_; intro _ w H) | (refine qrs H ?_; intro w H) | (refine qdr H ?_; intro H)))
            refine ⟨j, by omega, j, _, v12, vss2 ++ [vs17], rfl, by omega, sl_back ⟨rfl, rfl, rfl, rfl, rfl, rfl, rfl, rfl, rfl, rfl, trivial⟩, ?_⟩
            rw [drop_at hx, orsV, List.cons_append, List.reverse_cons]
            exact H.sub (.refl _) (by simp)
        | false =>
        rw [h8] at hsv
        simp only [cond_false] at hsv
        have hk8 := beq_ne h8
        cases h9 : Nat.beq gx.kind 9 with
        | true =>
          rw [h9] at hsv
          simp only [cond_true] at hsv
          have hk9 := beq_of h9
          cases hdd : Nat.ble depth dx with
          | true =>
            rw [hdd] at hsv
            simp only [cond_true, Option.some.injEq, Prod.mk.injEq] at hsv
            obtain ⟨rfl, rfl⟩ := hsv
            have hdd := Nat.le_of_ble_eq_true hdd
            (repeat (first | refine qq ?_ | (refine qds H ?_; intro H) | (refine qrb H ?_; intro _ w H) | (refine qrs H ?_; intro w H) | (refine qdr H ?_; intro H)))
            (repeat (first | refine qq ?_ | (refine qds H ?_; intro H) | (refine qrb H ?_; intro _ w H) | (refine qrs H ?_; intro w H) | (refine qdr H ?_; intro H)))
            refine ⟨steps - (i + 1), by omega, i + 1, _, _, out, .slice (some ⟨bs, 0, none⟩) vss'.length c12, .slice a13 uss.length c13, vss', uss, r1, rfl, by omega, sl_back ⟨rfl, rfl, rfl, rfl, rfl, rfl, trivial⟩, by rw [show steps - (i + 1) = k by omega]; exact hsr, by rw [← hout]; simp, by omega, hl1, ?_⟩
            exact H.sub (.cons _ (.cons _ (.refl _))) (by simp)
          | false =>
          rw [hdd] at hsv
          simp only [cond_false] at hsv
          have hdd : ¬ depth ≤ dx := fun h => by rw [Nat.ble_eq_true_of_le h] at hdd; cases hdd
          cases hex : expandInV P b.br.1 gx with
          | none => rw [hex] at hsv; cases hsv
          | some sy =>
          obtain ⟨st', y⟩ := sy
          rw [hex] at hsv
          simp only [Option.some.injEq, Prod.mk.injEq] at hsv
          obtain ⟨rfl, rfl⟩ := hsv
          (repeat (first | refine qq ?_ | (refine qds H ?_; intro H) | (refine qrb H ?_; intro _ w H) | (refine qrs H ?_; intro w H) | (refine qdr H ?_; intro H)))
          refine WO_s rfl (S_call3 _ _ _ (by exact rfl) (by exact rfl) (by exact rfl) (by exact rfl) (expandIn_c (M := H.wr M) hex hP (H.wr_lt hM) (H.dat (d := (LSl LR).dat M P [.slice a P.length c]) (by simp)) (H.dat (d := LBr.dat M b.br [.int .i64 (b.br.1.next : Nat), .slice a21 b.br.1.bind.length c21, .slice a22 b.br.1.dis.length c22, .slice a23 0 c23, .slice a24 0 c24, .slice a25 b.br.2.length c25]) (by simp)) (H.dat (d := LG.dat M gx [.int .i64 (gx.kind : Nat), .string gx.name, .slice a31 gx.terms.length c31, .slice a32 gx.kids.length c32]) (by simp))) ?_)
          rintro u w ⟨⟨us', vs', rfl, hb', hy'⟩, hm⟩
          obtain ⟨a51, c51, a52, c52, a53, c53, a54, c54, a55, c55, rfl, _⟩ := LBr_form hb'
          obtain ⟨a56, c56, a57, c57, rfl, _⟩ := rdG_form hy'
          have H := ((H.call hm).add (d := LBr.dat M (st', b.br.2) [.int .i64 (st'.next : Nat), .slice a51 st'.bind.length c51, .slice a52 st'.dis.length c52, .slice a53 0 c53, .slice a54 0 c54, .slice a55 b.br.2.length c55]) hb').add (d := LG.dat M y [.int .i64 (y.kind : Nat), .string y.name, .slice a56 y.terms.length c56, .slice a57 y.kids.length c57]) hy'
          (repeat (first | refine qq ?_ | (refine qds H ?_; intro H) | (refine qrb H ?_; intro _ w H) | (refine qrs H ?_; intro w H) | (refine qdr H ?_; intro H)))
          have H1 := H
          refine WD_any 17 [[], [], [], [2], [], [4], [4, 5], [], [2, 3, 4, 5, 6, 7], [], [9], [], [11], [11, 12], [9, 10, 11, 12, 13], [1, 2, 3, 4, 5, 6, 7, 8, 9, 10, 11, 12, 13, 14], [1, 2, 3, 4, 5, 6, 7, 8, 9, 10, 11, 12, 13, 14, 15]] [(3, P1 (LSl LG) (H1.wr M) ([y])), (8, P1 (LSl LD) (H1.wr M) ((List.cons (y, dx + 1) others))), (15, PN LDp (H1.wr M) ((⟨(st', b.br.2), List.cons (y, dx + 1) others, max b.height (dx + 1)⟩))), (16, P1 (LSl LDp) (H1.wr M) ([⟨(st', b.br.2), List.cons (y, dx + 1) others, max b.height (dx + 1)⟩]))] (by kernel_rfl) ?_ ?_ _ (by exact rfl) ?_
          · exact ⟨P1_stab, P1_stab, PN_stab, P1_stab, trivial⟩
          · refine ⟨?_, ?_, ?_, ?_, ?_, ?_, ?_, ?_, ?_, ?_, ?_, ?_, ?_, ?_, ?_, ?_, ?_, trivial⟩
            iterate 3 (· exact qob)
            · intro w hm
              have H := H.call hm
              refine qwr ?_
              refine qol ?_
              have H' := (Holds.start w []).arg (L := LG) (M := H1.wr M) (x := y) (vs := [.int .i64 (y.kind : Nat), .string y.name, .slice a56 y.terms.length c56, .slice a57 y.kids.length c57]) (H.dat (d := LG.dat M y [.int .i64 (y.kind : Nat), .string y.name, .slice a56 y.terms.length c56, .slice a57 y.kids.length c57]) (by simp))
              refine S_bslice1N H' _ (by exact rfl) (by exact rfl) (by exact rfl) (by exact rfl) (by exact rfl) ?_
              intro b3 w' H'
              exact ⟨rdSl_one (Nat.le_refl _) (H'.own (fun b hb => Nat.lt_of_lt_of_le (H1.wr_lt hM b hb) hm.size) 0 rfl) (H'.out 0 rfl) (H'.bcells 0 4 rfl rfl), H'.mod⟩
            iterate 4 (· exact qob)
            · intro w hm
              have H := H.call hm
              refine qwr ?_
              refine qwl ?_; intro v3 h3
              iterate 4 refine qwr ?_
              refine qol ?_
              obtain ⟨a58, c58, rfl⟩ := rdSl_val h3
              exact S_call3 _ _ _ (by exact rfl) (by exact rfl) (by exact rfl) (by exact rfl) (before_c (M := H1.wr M) (gs := [y]) (d := dx + 1) (rest := others) (fun b hb => Nat.lt_of_lt_of_le (H1.wr_lt hM b hb) hm.size) h3 (H.dat (d := (LSl LD).dat M others [.slice ao others.length (c26 - 1)]) (by simp)) (by simp) (by omega)) fun v w' h => h
            iterate 5 (· exact qob)
            · intro w hm
              have H := H.call hm
              iterate 5 refine qwr ?_
              exact OA_rd rfl (by exact rfl) (X_max (a := b.height) (b := dx + 1) _ _ (by exact rfl) (by exact rfl))
            · intro w hm
              have H := H.call hm
              refine qwr ?_
              refine qwr ?_
              refine qwl ?_; intro v3 h3
              iterate 4 refine qwr ?_
              refine qwl ?_; intro v8 h8
              iterate 5 refine qwr ?_
              refine WR_rd rfl (by exact rfl) (X_max (a := b.height) (b := dx + 1) _ _ (by exact rfl) (by exact rfl)) ?_
              refine qol ?_
              obtain ⟨a59, c59, rfl⟩ := rdSl_val h8
              refine S_read (X_build (by exact rfl) [(0, [.int .i64 (st'.next : Nat), .slice a51 st'.bind.length c51, .slice a52 st'.dis.length c52, .slice a53 0 c53, .slice a54 0 c54, .slice a55 b.br.2.length c55]), (1, [.slice a59 (List.cons (y, dx + 1) others).length c59]), (2, [.int .i64 ((max b.height (dx + 1) : Nat) : Int)])] (by exact rfl) (by exact rfl)) ?_
              exact ⟨⟨_, rfl, LDp_mk (x := ⟨(st', b.br.2), List.cons (y, dx + 1) others, max b.height (dx + 1)⟩) (H.dat (d := LBr.dat M (st', b.br.2) [.int .i64 (st'.next : Nat), .slice a51 st'.bind.length c51, .slice a52 st'.dis.length c52, .slice a53 0 c53, .slice a54 0 c54, .slice a55 b.br.2.length c55]) (by simp)) h8⟩, Mod.refl _ _⟩
            · intro w hm
              have H := H.call hm
              refine qwr ?_
              refine qwr ?_
              refine qwl ?_; intro v3 h3
              iterate 4 refine qwr ?_
              refine qwl ?_; intro v8 h8
              iterate 5 refine qwr ?_
              refine WR_rd rfl (by exact rfl) (X_max (a := b.height) (b := dx + 1) _ _ (by exact rfl) (by exact rfl)) ?_
              refine qwl ?_; rintro _ ⟨us15, rfl, h15⟩
              refine qol ?_
              obtain ⟨a61, c61, a62, c62, a63, c63, a64, c64, a65, c65, a66, c66, rfl, _⟩ := LDp_form h15
              have H' := (Holds.start w []).arg (L := LDp) h15
              refine S_bslice1N H' _ (by exact rfl) (by exact rfl) (by exact rfl) (by exact rfl) (by exact rfl) ?_
              intro b3 w' H'
              exact ⟨rdSl_one (Nat.le_refl _) (H'.own (fun b hb => Nat.lt_of_lt_of_le (H1.wr_lt hM b hb) hm.size) 0 rfl) (H'.out 0 rfl) (H'.bcells 0 8 rfl rfl), H'.mod⟩
          intro w hm
          have H := H.call hm
          iterate 3 refine qwr ?_
          refine qwl ?_; intro v3 h3
          iterate 4 refine qwr ?_
          refine qwl ?_; intro v8 h8
          iterate 5 refine qwr ?_
          refine WR_rd rfl (by exact rfl) (X_max (a := b.height) (b := dx + 1) _ _ (by exact rfl) (by exact rfl)) ?_
          refine qwl ?_; rintro _ ⟨us15, rfl, h15⟩
          refine qwl ?_; intro v16 h16
          refine WR_nil ?_
          obtain ⟨b17, o17, c17, vs17, rfl, hr17, hc17⟩ := rdSl_at h16
          have H := H.add (d := LDp.dat M ⟨(st', b.br.2), List.cons (y, dx + 1) others, max b.height (dx + 1)⟩ vs17) hr17
          refine WD_s (by kernel_rfl) rfl rfl (S_append H 5 _ _ (by exact rfl) (by exact rfl) (by exact rfl) hc17 (LDp.len _ _ _ _ hr17) (LDp.one _ _ _ _ hr17) (by decide) (by exact rfl) (by omega) ?_)
          intro v12 w H
          refine WD_rd (by kernel_rfl) rfl rfl (X_assign _) (WD_end (by decide) ?_)
          have H := H.snoc (L := LDp) (M := M) (l := rest.reverse) (vss := vss') (x := ⟨(st', b.br.2), List.cons (y, dx + 1) others, max b.height (dx + 1)⟩) (by simp) (H.dat (d := LDp.dat M ⟨(st', b.br.2), List.cons (y, dx + 1) others, max b.height (dx + 1)⟩ vs17) (by simp))
          (repeat (first | refine qq ?_ | (refine qds H ?_; intro H) | (refine qrb H ?_; intro _ w H) | (refine qrs H ?_; intro w H) | (refine qdr H ?_; intro H)))
          refine ⟨steps - (i + 1), by omega, i + 1, _, _, out, v12, .slice a13 uss.length c13, vss' ++ [vs17], uss, r1, rfl, by omega, sl_back ⟨rfl, rfl, rfl, rfl, rfl, rfl, trivial⟩, by rw [show steps - (i + 1) = k by omega]; exact hsr, by rw [← hout]; simp, by omega, hl1, ?_⟩
          rw [List.reverse_cons]
          exact H.sub (.cons _ (.cons _ (.cons _ (.cons _ (.refl _))))) (by simp)
        | false =>
        rw [h9] at hsv
        simp only [cond_false] at hsv
        have hk9 := beq_ne h9
        cases hq : requireV b.br.1 gx with
        | none => rw [hq] at hsv; cases hsv
        | some oq =>
        rw [hq] at hsv
        (repeat (first | refine qq ?_ | (refine qds H ?_; intro H) | (refine qrb H ?_; intro _ w H) | (refine qrs H ?_; intro w H) | (refine qdr H ?_; intro H)))
        refine WO_s rfl (S_call2 _ _ (by exact rfl) (by exact rfl) (by exact rfl) (require_c (M := H.wr M) hq (H.wr_lt hM) (H.dat (d := LSt.dat M b.br.1 [.int .i64 (b.br.1.next : Nat), .slice a21 b.br.1.bind.length c21, .slice a22 b.br.1.dis.length c22, .slice a23 0 c23, .slice a24 0 c24]) (by simp)) (H.dat (d := LG.dat M gx [.int .i64 (gx.kind : Nat), .string gx.name, .slice a31 gx.terms.length c31, .slice a32 gx.kids.length c32]) (by simp)) hbst) ?_)
        rintro u w ⟨hu, hm⟩
        have H := H.call hm
        cases oq with
        | none =>
          cases hu
          simp only [Option.some.injEq, Prod.mk.injEq] at hsv
          obtain ⟨rfl, rfl⟩ := hsv
          (repeat (first | refine qq ?_ | (refine qds H ?_; intro H) | (refine qrb H ?_; intro _ w H) | (refine qrs H ?_; intro w H) | (refine qdr H ?_; intro H)))
          (repeat (first | refine qq ?_ | (refine qds H ?_; intro H) | (refine qrb H ?_; intro _ w H) | (refine qrs H ?_; intro w H) | (refine qdr H ?_; intro H)))
          refine ⟨steps - (i + 1), by omega, i + 1, _, _, out, .slice (some ⟨bs, 0, none⟩) vss'.length c12, .slice a13 uss.length c13, vss', uss, r1, rfl, by omega, sl_back ⟨rfl, rfl, rfl, rfl, rfl, rfl, trivial⟩, by rw [show steps - (i + 1) = k by omega]; exact hsr, by rw [← hout]; simp, by omega, hl1, ?_⟩
          exact H.sub (.cons _ (.cons _ (.cons _ (.refl _)))) (by simp)
        | some st' =>
          obtain ⟨vs', rfl, hst'⟩ := hu
          simp only [Option.some.injEq, Prod.mk.injEq] at hsv
          obtain ⟨rfl, rfl⟩ := hsv
          obtain ⟨a51, c51, a52, c52, a53, c53, a54, c54, rfl, _, _⟩ := LSt_five hst'
          have H := H.add (d := LSt.dat M st' [.int .i64 (st'.next : Nat), .slice a51 st'.bind.length c51, .slice a52 st'.dis.length c52, .slice a53 0 c53, .slice a54 0 c54]) hst'
          (repeat (first | refine qq ?_ | (refine qds H ?_; intro H) | (refine qrb H ?_; intro _ w H) | (refine qrs H ?_; intro w H) | (refine qdr H ?_; intro H)))
          (first | refine WO_s rfl (S_bslice1N H _ (by exact rfl) (by exact rfl) (by exact rfl) (by exact rfl) (by exact rfl) ?_) | refine WO_s rfl (S_bslice1s H _ (by exact rfl) (by exact rfl) (by exact rfl) ?_)); intro b94 w H
          refine WO_s rfl (S_append H 5 _ _ (vs := [.int .i64 (st'.next : Nat), .slice a51 st'.bind.length c51, .slice a52 st'.dis.length c52, .slice a53 0 c53, .slice a54 0 c54, .slice a25 b.br.2.length c25, .slice ao others.length (c26 - 1), .int .i64 (b.height : Nat)]) (by exact rfl) (by exact rfl) (by exact rfl) (H.bcells 0 8 rfl rfl) rfl (by simp [Value.oneCell']) (by simp) (by exact rfl) (by omega) ?_)
          intro v12 w H
          have H := H.snoc (L := LDp) (M := M) (l := rest.reverse) (vss := vss') (x := ⟨(st', b.br.2), others, b.height⟩) (by simp) (LDp_mk (x := ⟨(st', b.br.2), others, b.height⟩) (LBr_mk (H.dat (d := LSt.dat M st' [.int .i64 (st'.next : Nat), .slice a51 st'.bind.length c51, .slice a52 st'.dis.length c52, .slice a53 0 c53, .slice a54 0 c54]) (by simp)) (H.dat (d := (LSl LNat).dat M b.br.2 [.slice a25 b.br.2.length c25]) (by simp))) (H.dat (d := (LSl LD).dat M others [.slice ao others.length (c26 - 1)]) (by simp)))
          (repeat (first | refine qq ?_ | (refine qds H ?_; intro H) | (refine qrb H ?_; intro _ w H) | (refine qrs H ?_; intro w H) | (refine qdr H ?_; intro H)))
          refine ⟨steps - (i + 1), by omega, i + 1, _, _, out, v12, .slice a13 uss.length c13, vss' ++ [[.int .i64 (st'.next : Nat), .slice a51 st'.bind.length c51, .slice a52 st'.dis.length c52, .slice a53 0 c53, .slice a54 0 c54, .slice a25 b.br.2.length c25, .slice ao others.length (c26 - 1), .int .i64 (b.height : Nat)]], uss, r1, rfl, by omega, sl_back ⟨rfl, rfl, rfl, rfl, rfl, rfl, trivial⟩, by rw [show steps - (i + 1) = k by omega]; exact hsr, by rw [← hout]; simp, by omega, hl1, ?_⟩
          rw [List.reverse_cons]
          exact H.sub (.cons _ (.cons _ (.cons _ (.cons _ (.refl _))))) (by simp)
  · obtain rfl : i = steps := by omega
    rw [Nat.sub_self] at hs
    (repeat (first | refine qq ?_ | (refine qds H ?_; intro H) | (refine qrb H ?_; intro _ w H) | (refine qrs H ?_; intro w H) | (refine qdr H ?_; intro H)))
    have hdn : r = [] ∧ ((vss.length : Int) == 0) = dn := by
      cases stack with
      | nil =>
        cases hs
        simp only [List.reverse_nil, List.length_nil] at hvl
        exact ⟨rfl, by rw [← hvl]; rfl⟩
      | cons b rest =>
        cases hs
        simp only [List.reverse_cons, List.length_append, List.length_singleton] at hvl
        exact ⟨rfl, beq_eq_false_iff_ne.2 (by omega)⟩
    obtain ⟨rfl, rfl⟩ := hdn
    rw [List.append_nil] at hout
    subst hout
    have H := Holds.freeze (A1 := []) (A2 := [_, _]) (M := M) (L := LF) (l := out) H hM (H.dat (by simp)) (by simp)
    exact ⟨⟨_, rfl, H.out 0 rfl⟩, H.mod⟩
end Go.Proofs.YtljpfnjpifhdlaaGreatDoor
namespace Go.Proofs.YtljpfnjpifhdlaaGreatDoor
open Go
set_option maxHeartbeats 1000000 in
set_option maxRecDepth 100000 in
theorem DepthSearch_c {P : List Rl} {g : G} {n depth steps : Nat} {l : List Fo} {dn : Bool} {a : Option Addr} {c : Nat} {us : List Value} {M : Nat → Prop} {w : World} (hs : depthV P g n depth steps = some (l, dn)) (hc : canStartV P g n = true) (hdep : depth ≤ 1000) (hsteps : steps ≤ 4000) (hM : ∀ b, M b → b < w.heap.size)
    (hp : (LSl LR).rd M w P [.slice a P.length c]) (hg : rdG M w g us) :
    Calls Tryz.prog 9 #[.agg #[.slice a P.length c], .agg us.toArray, .int .i64 (n : Nat), .int .i64 (depth : Nat), .int .i64 (steps : Nat)] w (Ret fun v w' => (∃ u, v = .tuple #[u, .bool dn, .bool true] ∧ (LSl LF).rd M w' l [u]) ∧ Mod [] w w') := by
  obtain ⟨a6, c6, a7, c7, rfl, _⟩ := rdG_form hg
  have hn : n ≤ 100000 ∧ P.length ≤ 8 := by
    simp only [canStartV, progOkV, Bool.and_eq_true] at hc
    exact ⟨Nat.le_of_ble_eq_true hc.1.1.1.1.1, Nat.le_of_ble_eq_true hc.1.1.1.1.2.1.1⟩
  obtain ⟨hn, hP⟩ := hn
  obtain ⟨hl, hok⟩ := searchV_ok hs (by
    intro x hx
    rw [List.mem_singleton.1 hx]
    exact ⟨⟨by simp, .nil, by simp, by simp⟩, by simp, by simp⟩)
  refine enter3 Tryz.func9 rfl Tryz.ntmps9 rfl (by simp) ?_
  have H := ((Holds.start w []).arg (L := LG) hg).arg (L := LSl LR) hp
  refine W_rs ?_
  refine qrb H ?_; intro b5 w H
  refine qrb H ?_; intro b6 w H
  (repeat (first | refine qq ?_ | (refine qds H ?_; intro H) | (refine qrb H ?_; intro _ w H) | (refine qrs H ?_; intro w H) | (refine qdr H ?_; intro H)))
  refine WO_s rfl (S_call3 _ _ _ (by exact rfl) (by exact rfl) (by exact rfl) (by exact rfl) (canStart_c (M := H.wr M) hc (H.wr_lt hM) (H.dat (d := (LSl LR).dat M P [.slice a P.length c]) (by simp)) (H.dat (d := LG.dat M g [.int .i64 (g.kind : Nat), .string g.name, .slice a6 g.terms.length c6, .slice a7 g.kids.length c7]) (by simp))) ?_)
  rintro _ w ⟨rfl, hm⟩
  have H := H.call hm
  (repeat (first | refine qq ?_ | (refine qds H ?_; intro H) | (refine qrb H ?_; intro _ w H) | (refine qrs H ?_; intro w H) | (refine qdr H ?_; intro H)))
  refine WO_s rfl (S_call5 _ _ _ _ _ (by exact rfl) (by exact rfl) (by exact rfl) (by exact rfl) (by exact rfl) (by exact rfl) (depthSearch_c (M := H.wr M) hs hn hdep (by omega) hP (H.wr_lt hM) (H.dat (d := (LSl LR).dat M P [.slice a P.length c]) (by simp)) (H.dat (d := LG.dat M g [.int .i64 (g.kind : Nat), .string g.name, .slice a6 g.terms.length c6, .slice a7 g.kids.length c7]) (by simp))) ?_)
  rintro _ w ⟨⟨u, rfl, hu⟩, hm⟩
  obtain ⟨a8, c8, rfl⟩ := rdSl_val hu
  have H := (H.call hm).add (d := (LSl LF).dat M l [.slice a8 l.length c8]) hu
  (repeat (first | refine qq ?_ | (refine qds H ?_; intro H) | (refine qrb H ?_; intro _ w H) | (refine qrs H ?_; intro w H) | (refine qdr H ?_; intro H)))
  refine WO_s rfl (S_call1 _ (by exact rfl) (by exact rfl) (copyFound_c (M := H.wr M) (H.wr_lt hM) (H.dat (d := (LSl LF).dat M l [.slice a8 l.length c8]) (by simp)) (by omega) hok) ?_)
  rintro u w ⟨hu, hm⟩
  have H := (H.call hm).add (d := (LSl LF).dat M l [u]) hu
  (repeat (first | refine qq ?_ | (refine qds H ?_; intro H) | (refine qrb H ?_; intro _ w H) | (refine qrs H ?_; intro w H) | (refine qdr H ?_; intro H)))
  exact ⟨⟨_, rfl, H.out 0 rfl⟩, H.mod⟩
end Go.Proofs.YtljpfnjpifhdlaaGreatDoor
namespace Go.Proofs.YtljpfnjpifhdlaaGreatDoor
open Go
def T.ground : T → Bool
  | .var _ => false
  | .pair a b => a.ground && b.ground
  | _ => true
def noS : Nat → Unit → Option Unit := fun _ _ => none
def noT : Nat → Unit → Option ((T × Bool) × Unit) := fun _ _ => none
abbrev noD : Unit → List Dat := fun _ => []
abbrev noD2 : Unit × Unit → List Dat := fun _ => []
theorem ground_each : ∀ {t : T}, t.ground = true → eachV noS t () = some ()
  | .nil, _ => rfl
  | .sym _, _ => rfl
  | .num _, _ => rfl
  | .pair a b, h => by
    simp only [T.ground, Bool.and_eq_true] at h
    simp only [eachV, ground_each h.1, ground_each h.2]
theorem ground_map : ∀ {t : T}, t.ground = true → mapV noT t () = some (t, ())
  | .nil, _ => rfl
  | .sym _, _ => rfl
  | .num _, _ => rfl
  | .pair a b, h => by
    simp only [T.ground, Bool.and_eq_true] at h
    simp only [mapV, ground_map h.1, ground_map h.2]
theorem noS_c (g : FuncId) (cap : Array Value) : StepC g cap noA1 noD noS := by intro _ _ _ _ _ h; cases h
theorem noT_c (g : FuncId) (cap : Array Value) : StepT g cap noA noD2 noT := by intro _ _ _ _ _ _ _ _ h; cases h
set_option maxHeartbeats 1000000 in
set_option maxRecDepth 100000 in
theorem orderedVars_c {l : List T} {v : Value} {M : Nat → Prop} {wA : World} (hM : ∀ b, M b → b < wA.heap.size) (h : (LSl LT).rd M wA l [v]) (hg : l.all T.ground = true) (hl : l.length ≤ 100000) :
    Calls Tryz.prog 64 #[v] wA (Ret fun v w' => (∃ a c, v = .slice a 0 c) ∧ Mod [] wA w') := by
  obtain ⟨a, c, rfl⟩ := rdSl_val h
  refine enter1 Tryz.func64 rfl Tryz.ntmps64 rfl (by simp) ?_
  have H := (Holds.start wA []).arg (L := LSl LT) h
  (repeat (first | refine qq ?_ | (refine qds H ?_; intro H) | (refine qrb H ?_; intro _ w H) | (refine qrs H ?_; intro w H) | (refine qdr H ?_; intro H)))
  refine WO_s rfl (S_bslice0 H ?_); intro b0 w H
  refine qrb H ?_; intro b3 w H
  refine qrs H ?_; intro w H
  (repeat (first | refine qq ?_ | (refine qds H ?_; intro H) | (refine qrb H ?_; intro _ w H) | (refine qrs H ?_; intro w H) | (refine qdr H ?_; intro H)))
  refine WO_s rfl (S_makeMap H ?_); intro bm w H
  refine qrb H ?_; intro b4 w H
  refine qrs H ?_; intro w H
  (repeat (first | refine qq ?_ | (refine qds H ?_; intro H) | (refine qrb H ?_; intro _ w H) | (refine qrs H ?_; intro w H) | (refine qdr H ?_; intro H)))
  refine W_loop (fun m f w' => ∃ k g, m = l.length - k ∧ k ≤ l.length ∧ f = sl g [(9, .slice a l.length c), (10, .int .i64 l.length), (11, .int .i64 k), (3, .pointer (some ⟨b3, 0, none⟩)), (4, .pointer (some ⟨b4, 0, none⟩))] ∧
    Holds wA [] [box b3 [.slice (some ⟨b0, 0, none⟩) 0 0] 49] [(LSl LT).dat M l [.slice a l.length c]] w') l.length ⟨0, _, rfl, Nat.zero_le _, sl_back ⟨rfl, rfl, rfl, rfl, rfl, trivial⟩, H.sub (.cons _ (.cons _ (.cons_cons _ (List.nil_sublist _)))) (by simp)⟩ ?_
  clear H
  rintro m f w ⟨k, g, rfl, hk, rfl, H⟩
  by_cases hlt : k < l.length
  · obtain ⟨t, hx⟩ : ∃ x, l[k]? = some x := ⟨_, List.getElem?_eq_getElem hlt⟩
    obtain ⟨b, o, vs, rfl, _, _, hr, H⟩ := H.elem (L := LT) (M := M) (l := l) (a := a) (n := l.length) (c := c) (by simp) k hx
    obtain ⟨a1, c1, rfl⟩ := rdT_four hr
    have hgt := List.all_eq_true.1 hg t (List.mem_of_getElem? hx)
    (repeat (first | refine qq ?_ | (refine qds H ?_; intro H) | (refine qrb H ?_; intro _ w H) | (refine qrs H ?_; intro w H) | (refine qdr H ?_; intro H)))
    refine qa2 (hc := eachVar_c (noS_c 91 _) t (ground_each hgt) (H.into (As := noA1) (ds := noD) (s := ()) (List.append_nil _).symm hM (by simp)) (H.dat (d := LT.dat M t [.int .i64 t.kind, .int .i64 t.int, .string t.name, .slice a1 t.args.length c1]) (by simp))) (k := ?_)
    rintro _ w hout
    have H := H.call hout.1
    (repeat (first | refine qq ?_ | (refine qds H ?_; intro H) | (refine qrb H ?_; intro _ w H) | (refine qrs H ?_; intro w H) | (refine qdr H ?_; intro H)))
    exact ⟨l.length - (k + 1), by omega, k + 1, _, rfl, by omega, sl_back ⟨rfl, rfl, rfl, rfl, rfl, trivial⟩, H.sub (.cons _ (.refl _)) (by simp)⟩
  · (repeat (first | refine qq ?_ | (refine qds H ?_; intro H) | (refine qrb H ?_; intro _ w H) | (refine qrs H ?_; intro w H) | (refine qdr H ?_; intro H)))
    exact ⟨⟨_, _, rfl⟩, H.mod⟩
set_option maxHeartbeats 1000000 in
set_option maxRecDepth 100000 in
theorem Canonical_c {l : List T} {v : Value} {M : Nat → Prop} {wA : World} (hM : ∀ b, M b → b < wA.heap.size) (h : (LSl LT).rd M wA l [v]) (hg : l.all T.ground = true) (hok : l.all T.ok = true) (hl : l.length ≤ 100000) :
    Calls Tryz.prog 29 #[v] wA (Ret fun v w' => (LSl LT).rd M w' l [v] ∧ Mod [] wA w') := by
  obtain ⟨a, c, rfl⟩ := rdSl_val h
  refine enter1 Tryz.func29 rfl Tryz.ntmps29 rfl (by simp) ?_
  have H := (Holds.start wA []).arg (L := LSl LT) h
  (repeat (first | refine qq ?_ | (refine qds H ?_; intro H) | (refine qrb H ?_; intro _ w H) | (refine qrs H ?_; intro w H) | (refine qdr H ?_; intro H)))
  refine qa1 (hc := termsOk_c (H.dat (d := (LSl LT).dat M l [.slice a l.length c]) (by simp)) hok hl) (k := ?_)
  rintro _ w ⟨rfl, hm⟩
  have H := H.call hm
  (repeat (first | refine qq ?_ | (refine qds H ?_; intro H) | (refine qrb H ?_; intro _ w H) | (refine qrs H ?_; intro w H) | (refine qdr H ?_; intro H)))
  refine WO_s rfl (S_makeMap H ?_); intro bm w H
  refine qrb H ?_; intro b3 w H
  refine qrs H ?_; intro w H
  (repeat (first | refine qq ?_ | (refine qds H ?_; intro H) | (refine qrb H ?_; intro _ w H) | (refine qrs H ?_; intro w H) | (refine qdr H ?_; intro H)))
  refine qa1 (hc := orderedVars_c (M := H.wr M) (H.wr_lt hM) (H.dat (d := (LSl LT).dat M l [.slice a l.length c]) (by simp)) hg hl) (k := ?_)
  rintro _ w ⟨⟨a14, c14, rfl⟩, hm⟩
  have H := H.call hm
  (repeat (first | refine qq ?_ | (refine qds H ?_; intro H) | (refine qrb H ?_; intro _ w H) | (refine qrs H ?_; intro w H) | (refine qdr H ?_; intro H)))
  refine W_loop (fun m f w' => ∃ gg, m = 0 ∧ f = sl gg [(15, .int .i64 (0 : Nat)), (16, .int .i64 0), (0, .slice a l.length c), (3, .pointer (some ⟨b3, 0, none⟩))] ∧ Holds wA [] [] [(LSl LT).dat M l [.slice a l.length c]] w') 0 ⟨_, rfl, sl_back ⟨rfl, rfl, rfl, rfl, trivial⟩, H.sub (List.nil_sublist _) (by simp)⟩ ?_
  clear H
  rintro m f w ⟨gg, rfl, rfl, H⟩
  (repeat (first | refine qq ?_ | (refine qds H ?_; intro H) | (refine qrb H ?_; intro _ w H) | (refine qrs H ?_; intro w H) | (refine qdr H ?_; intro H)))
  refine WO_s rfl (S_bslice0 H ?_); intro b0 w H
  have H := (H.toRow 0 4 rfl).dnil (L := LT) (M := M)
  (repeat (first | refine qq ?_ | (refine qds H ?_; intro H) | (refine qrb H ?_; intro _ w H) | (refine qrs H ?_; intro w H) | (refine qdr H ?_; intro H)))
  refine W_loop (fun m f w' => ∃ k gg v6 vss, m = l.length - k ∧ k ≤ l.length ∧ f = sl gg [(26, .slice a l.length c), (27, .int .i64 l.length), (28, .int .i64 k), (3, .pointer (some ⟨b3, 0, none⟩)), (6, v6)] ∧
    Holds wA [] [orow 32 4 v6 vss] [dall LT M (l.take k) vss, (LSl LT).dat M l [.slice a l.length c]] w') l.length ⟨0, _, _, [], rfl, Nat.zero_le _, sl_back ⟨rfl, rfl, rfl, rfl, rfl, trivial⟩, H.sub (.refl _) (by simp)⟩ ?_
  clear H
  rintro m f w ⟨k, gg, v6, vss, rfl, hk, rfl, H⟩
  by_cases hlt : k < l.length
  · obtain ⟨t, hx⟩ : ∃ x, l[k]? = some x := ⟨_, List.getElem?_eq_getElem hlt⟩
    obtain ⟨b, o, vs, rfl, _, _, hr, H⟩ := H.elem (L := LT) (M := M) (l := l) (a := a) (n := l.length) (c := c) (by simp) k hx
    obtain ⟨a1, c1, rfl⟩ := rdT_four hr
    obtain ⟨a6, c6, rfl⟩ := H.rowVal 0 rfl
    have hgt := List.all_eq_true.1 hg t (List.mem_of_getElem? hx)
    (repeat (first | refine qq ?_ | (refine qds H ?_; intro H) | (refine qrb H ?_; intro _ w H) | (refine qrs H ?_; intro w H) | (refine qdr H ?_; intro H)))
    refine qa2 (hc := mapVars_c (noT_c 66 _) t (ground_map hgt) (H.into (As := noA) (ds := noD2) (s := ((), ())) (List.append_nil _).symm hM (by simp)) (H.dat (d := LT.dat M t [.int .i64 t.kind, .int .i64 t.int, .string t.name, .slice a1 t.args.length c1]) (by simp))) (k := ?_)
    rintro _ w ⟨⟨vs', rfl, hx'⟩, _, hout⟩
    obtain ⟨a2, c2, rfl⟩ := rdT_four hx'
    have H := (H.call hout.1).add (d := LT.dat M t [.int .i64 t.kind, .int .i64 t.int, .string t.name, .slice a2 t.args.length c2]) hx'
    (repeat (first | refine qq ?_ | (refine qds H ?_; intro H) | (refine qrb H ?_; intro _ w H) | (refine qrs H ?_; intro w H) | (refine qdr H ?_; intro H)))
    (first | refine WO_s rfl (S_bslice1N H _ (by exact rfl) (by exact rfl) (by exact rfl) (by exact rfl) (by exact rfl) ?_) | refine WO_s rfl (S_bslice1s H _ (by exact rfl) (by exact rfl) (by exact rfl) ?_)); intro b36 w H
    refine WO_s rfl (S_append H 2 _ _ (vs := [.int .i64 t.kind, .int .i64 t.int, .string t.name, .slice a2 t.args.length c2]) (by exact rfl) (by exact rfl) (by exact rfl) (H.bcells 0 4 rfl rfl) rfl (by simp [Value.oneCell']) (by simp) (by exact rfl) ?_ ?_)
    · have := (Alls.get (H.dat (d := dall LT M (l.take k) vss) (by simp))).1
      simp only [List.length_take] at this; omega
    intro v'' w H
    (repeat (first | refine qq ?_ | (refine qds H ?_; intro H) | (refine qrb H ?_; intro _ w H) | (refine qrs H ?_; intro w H) | (refine qdr H ?_; intro H)))
    refine ⟨l.length - (k + 1), by omega, k + 1, _, v'', vss ++ [[.int .i64 t.kind, .int .i64 t.int, .string t.name, .slice a2 t.args.length c2]], rfl, by omega, sl_back ⟨rfl, rfl, rfl, rfl, rfl, trivial⟩, ?_⟩
    rw [take_snoc hx]
    exact (H.snoc (L := LT) (M := M) (l := l.take k) (vss := vss) (x := t) (by simp) (H.dat (d := LT.dat M t [.int .i64 t.kind, .int .i64 t.int, .string t.name, .slice a2 t.args.length c2]) (by simp))).sub (.cons _ (.cons _ (.refl _))) (by simp)
  · obtain rfl : k = l.length := by omega
    (repeat (first | refine qq ?_ | (refine qds H ?_; intro H) | (refine qrb H ?_; intro _ w H) | (refine qrs H ?_; intro w H) | (refine qdr H ?_; intro H)))
    rw [List.take_length] at H
    have H := Holds.freeze (A1 := []) (A2 := []) (M := M) (L := LT) (l := l) H hM (H.dat (by repeat (first | exact List.Mem.head _ | apply List.Mem.tail))) (by simp)
    exact ⟨H.out 0 rfl, H.mod⟩
def putsV (s : Sb) : List T → Option (List T)
  | [] => some []
  | t :: ts => match putV s t with
    | none => none
    | some t' => match putsV s ts with
      | none => none
      | some ts' => some (t' :: ts')
theorem putsV_at {s : Sb} : ∀ {l l' : List T}, putsV s l = some l' → l'.length = l.length ∧ ∀ (k : Nat) (t : T), l[k]? = some t → ∃ t', putV s t = some t' ∧ l'[k]? = some t'
  | [], _, h => by cases h; exact ⟨rfl, by simp⟩
  | x :: l, l', h => by
    simp only [putsV] at h
    cases hx : putV s x with
    | none => rw [hx] at h; cases h
    | some x' =>
      rw [hx] at h
      simp only [] at h
      cases hl : putsV s l with
      | none => rw [hl] at h; cases h
      | some m =>
        rw [hl] at h
        cases h
        obtain ⟨h1, h2⟩ := putsV_at hl
        refine ⟨by simp [h1], fun k t hk => ?_⟩
        cases k with
        | zero => simp at hk; subst hk; exact ⟨x', hx, rfl⟩
        | succ k => simpa using h2 k t (by simpa using hk)
set_option maxHeartbeats 1000000 in
set_option maxRecDepth 100000 in
theorem Reify_c {s : Sb} {l l' : List T} {v1 v2 : Value} {M : Nat → Prop} {wA : World} (hM : ∀ b, M b → b < wA.heap.size) (hs : SubOk s) (h1 : LSb.rd M wA s [v1]) (h2 : (LSl LT).rd M wA l [v2]) (hok : l.all T.ok = true) (hl : l.length ≤ 100000) (hp : putsV s l = some l') (hg : l'.all T.ground = true) (hok' : l'.all T.ok = true) :
    Calls Tryz.prog 10 #[v1, v2] wA (Ret fun v w' => (∃ u, v = .tuple #[u, .bool true] ∧ (LSl LT).rd M w' l' [u]) ∧ Mod [] wA w') := by
  obtain ⟨a1, c1, rfl⟩ := rdSl_val h1
  obtain ⟨a, c, rfl⟩ := rdSl_val h2
  obtain ⟨hll, hat⟩ := putsV_at hp
  refine enter2 Tryz.func10 rfl Tryz.ntmps10 rfl (by simp) ?_
  have H := ((Holds.start wA []).arg (L := LSb) h1).arg (L := LSl LT) h2
  (repeat (first | refine qq ?_ | (refine qds H ?_; intro H) | (refine qrb H ?_; intro _ w H) | (refine qrs H ?_; intro w H) | (refine qdr H ?_; intro H)))
  refine qa1 (hc := SubstOk_c (M := H.wr M) (H.dat (d := LSb.dat M s [.slice a1 s.length c1]) (by simp)) hs (H.wr_lt hM)) (k := ?_)
  rintro _ w ⟨rfl, hm⟩
  have H := H.call hm
  (repeat (first | refine qq ?_ | (refine qds H ?_; intro H) | (refine qrb H ?_; intro _ w H) | (refine qrs H ?_; intro w H) | (refine qdr H ?_; intro H)))
  refine WO_g rfl rfl (by exact rfl) (S_call1 _ (by exact rfl) (by exact rfl) (termsOk_c (H.dat (d := (LSl LT).dat M l [.slice a l.length c]) (by simp)) hok hl) ?_)
  rintro _ w ⟨rfl, hm⟩
  have H := H.call hm
  (repeat (first | refine qq ?_ | (refine qds H ?_; intro H) | (refine qrb H ?_; intro _ w H) | (refine qrs H ?_; intro w H) | (refine qdr H ?_; intro H)))
  refine WO_s rfl (S_bslice0 H ?_); intro b0 w H
  have H := (H.toRow 0 4 rfl).dnil (L := LT) (M := M)
  (repeat (first | refine qq ?_ | (refine qds H ?_; intro H) | (refine qrb H ?_; intro _ w H) | (refine qrs H ?_; intro w H) | (refine qdr H ?_; intro H)))
  refine W_loop (fun m f w' => ∃ k gg v6 vss, m = l.length - k ∧ k ≤ l.length ∧ f = sl gg [(20, .slice a l.length c), (21, .int .i64 l.length), (22, .int .i64 k), (0, .slice a1 s.length c1), (6, v6)] ∧
    Holds wA [] [orow 32 4 v6 vss] [dall LT M (l'.take k) vss, (LSl LT).dat M l [.slice a l.length c], LSb.dat M s [.slice a1 s.length c1]] w') l.length ⟨0, _, _, [], rfl, Nat.zero_le _, sl_back ⟨rfl, rfl, rfl, rfl, rfl, trivial⟩, H.sub (.refl _) (by simp)⟩ ?_
  clear H
  rintro m f w ⟨k, gg, v6, vss, rfl, hk, rfl, H⟩
  obtain ⟨a6, c6, rfl⟩ := H.rowVal 0 rfl
  by_cases hlt : k < l.length
  · obtain ⟨t, hx⟩ : ∃ x, l[k]? = some x := ⟨_, List.getElem?_eq_getElem hlt⟩
    obtain ⟨t', hpt, hx'⟩ := hat k t hx
    obtain ⟨b, o, vs, rfl, _, _, hr, H⟩ := H.elem (L := LT) (M := M) (l := l) (a := a) (n := l.length) (c := c) (by simp) k hx
    obtain ⟨a8, c8, rfl⟩ := rdT_four hr
    (repeat (first | refine qq ?_ | (refine qds H ?_; intro H) | (refine qrb H ?_; intro _ w H) | (refine qrs H ?_; intro w H) | (refine qdr H ?_; intro H)))
    refine qa2 (hc := put_c (M := H.wr M) hs.val hpt (H.wr_lt hM) (H.dat (d := LSb.dat M s [.slice a1 s.length c1]) (by simp)) (H.dat (d := LT.dat M t [.int .i64 t.kind, .int .i64 t.int, .string t.name, .slice a8 t.args.length c8]) (by simp))) (k := ?_)
    rintro _ w ⟨⟨vs', rfl, hxx⟩, hm⟩
    obtain ⟨a2, c2, rfl⟩ := rdT_four hxx
    have H := (H.call hm).add (d := LT.dat M t' [.int .i64 t'.kind, .int .i64 t'.int, .string t'.name, .slice a2 t'.args.length c2]) hxx
    (repeat (first | refine qq ?_ | (refine qds H ?_; intro H) | (refine qrb H ?_; intro _ w H) | (refine qrs H ?_; intro w H) | (refine qdr H ?_; intro H)))
    (first | refine WO_s rfl (S_bslice1N H _ (by exact rfl) (by exact rfl) (by exact rfl) (by exact rfl) (by exact rfl) ?_) | refine WO_s rfl (S_bslice1s H _ (by exact rfl) (by exact rfl) (by exact rfl) ?_)); intro b36 w H
    refine WO_s rfl (S_append H 3 _ _ (vs := [.int .i64 t'.kind, .int .i64 t'.int, .string t'.name, .slice a2 t'.args.length c2]) (by exact rfl) (by exact rfl) (by exact rfl) (H.bcells 0 4 rfl rfl) rfl (by simp [Value.oneCell']) (by simp) (by exact rfl) ?_ ?_)
    · have := (Alls.get (H.dat (d := dall LT M (l'.take k) vss) (by simp))).1
      simp only [List.length_take] at this; omega
    intro v'' w H
    (repeat (first | refine qq ?_ | (refine qds H ?_; intro H) | (refine qrb H ?_; intro _ w H) | (refine qrs H ?_; intro w H) | (refine qdr H ?_; intro H)))
    refine ⟨l.length - (k + 1), by omega, k + 1, _, v'', vss ++ [[.int .i64 t'.kind, .int .i64 t'.int, .string t'.name, .slice a2 t'.args.length c2]], rfl, by omega, sl_back ⟨rfl, rfl, rfl, rfl, rfl, trivial⟩, ?_⟩
    rw [take_snoc hx']
    exact (H.snoc (L := LT) (M := M) (l := l'.take k) (vss := vss) (x := t') (by simp) (H.dat (d := LT.dat M t' [.int .i64 t'.kind, .int .i64 t'.int, .string t'.name, .slice a2 t'.args.length c2]) (by simp))).sub (.cons _ (.cons _ (.cons _ (.refl _)))) (by simp)
  · obtain rfl : k = l.length := by omega
    rw [← hll, List.take_length] at H

    have H := Holds.freeze (A1 := []) (A2 := []) (M := M) (L := LT) (l := l') H hM (H.dat (by repeat (first | exact List.Mem.head _ | apply List.Mem.tail))) (by simp)
    (repeat (first | refine qq ?_ | (refine qds H ?_; intro H) | (refine qrb H ?_; intro _ w H) | (refine qrs H ?_; intro w H) | (refine qdr H ?_; intro H)))
    refine qa1 (hc := Canonical_c (M := H.wr M) (l := l') (H.wr_lt hM) (H.dat (d := (LSl LT).dat M l' [.slice a6 vss.length c6]) (by simp)) hg hok' (by omega)) (k := ?_)
    rintro u w ⟨hu, hm⟩
    have H := (H.call hm).add (d := (LSl LT).dat M l' [u]) hu
    (repeat (first | refine qq ?_ | (refine qds H ?_; intro H) | (refine qrb H ?_; intro _ w H) | (refine qrs H ?_; intro w H) | (refine qdr H ?_; intro H)))
    exact ⟨⟨_, rfl, H.out 0 rfl⟩, H.mod⟩
end Go.Proofs.YtljpfnjpifhdlaaGreatDoor
namespace Go.Proofs.YtljpfnjpifhdlaaGreatDoor
open Go
section
variable {P : Program} {w : World} {r : Operand → Value} {d : Option Tmp} {ty : TypeId} {pos : String} {aft : Array Edge} {g : Option (Nat × Bool)} {xt yt : TypeId}
theorem X_rem (x y : Operand) {a b : Nat} (hx : r x = .int .i64 (a : Nat)) (hy : r y = .int .i64 (b : Nat)) (hb : b ≠ 0) : runC P w (execOp r ⟨d, .binOp .rem xt x y yt, ty, pos, aft, g⟩) = some (.value (.int .i64 ((a % b : Nat) : Int))) := by
  have h0 : ¬ (b : Int) = 0 := by omega
  have h2 : (a : Int).tmod (b : Int) = ((a % b : Nat) : Int) := rfl
  simp only [execOp, hx, hy, eqGuard, binOp, Op.intDiv, h0, if_false, h2]
  rfl
theorem X_quo (x y : Operand) {a b : Nat} (hx : r x = .int .i64 (a : Nat)) (hy : r y = .int .i64 (b : Nat)) (hb : b ≠ 0) (ha : a ≤ 9223372036854775807) : runC P w (execOp r ⟨d, .binOp .quo xt x y yt, ty, pos, aft, g⟩) = some (.value (.int .i64 ((a / b : Nat) : Int))) := by
  have h0 : ¬ (b : Int) = 0 := by omega
  have h2 : (a : Int).tdiv (b : Int) = ((a / b : Nat) : Int) := rfl
  have h1 := Nat.div_le_self a b
  generalize a / b = q at h1 h2 ⊢
  have h1 : IntKind.i64.wrap (q : Int) = (q : Int) := IntWalk.i64_in _ ⟨by omega, by omega⟩
  simp only [execOp, hx, hy, eqGuard, binOp, Op.intDiv, h0, if_false, h2, h1]
  rfl
end
def listOn : List T → T → T
  | [], t => t
  | x :: l, t => .pair x (listOn l t)
def digs : Nat → Nat → List T
  | 0, _ => []
  | f + 1, n => bif Nat.beq n 0 then [] else .num ((n % 2 : Nat) : Int) :: digs f (n / 2)
def numT (n : Nat) : T := listOn (digs 9 n) .nil
theorem digs_0 {f : Nat} : digs f 0 = [] := by cases f <;> rfl
theorem digs_pos {f n : Nat} (h : 0 < n) : digs (f + 1) n = .num ((n % 2 : Nat) : Int) :: digs f (n / 2) := by
  have hb : Nat.beq n 0 = false := by cases n with | zero => omega | succ n => rfl
  simp only [digs, hb, cond_false]
theorem digs_len : ∀ {f n : Nat}, (digs f n).length ≤ f
  | 0, _ => Nat.le_refl _
  | f + 1, n => by
    unfold digs
    cases Nat.beq n 0 with
    | true => simp
    | false => simp only [cond_false, List.length_cons]; exact Nat.succ_le_succ digs_len
set_option maxRecDepth 100000 in
theorem l02Num_c (n : Int) (M : Nat → Prop) (w : World) : Calls Tryz.prog 21 #[.int .i64 n] w (Ret (OutT' w M (.num n))) := by
  refine enterC Tryz.func21 rfl Tryz.ntmps21 rfl (by simp) ?_
  have H := Holds.start w []
  (repeat (first | refine qq ?_ | (refine qds H ?_; intro H) | (refine qrb H ?_; intro _ w H) | (refine qrs H ?_; intro w H) | (refine qdr H ?_; intro H)))
  refine WO_rd rfl (X_build (by exact rfl) [(0, [.int .i64 3]), (1, [.int .i64 n])] (by exact rfl) (by exact rfl)) ?_
  (repeat (first | refine qq ?_ | (refine qds H ?_; intro H) | (refine qrb H ?_; intro _ w H) | (refine qrs H ?_; intro w H) | (refine qdr H ?_; intro H)))
  exact ⟨_, _, _, rfl, H.bcells 0 4 rfl rfl, rfl, _, rfl, ⟨none, 0, rfl⟩, H.mod⟩
set_option maxRecDepth 100000 in
theorem l02Var_c (n : Nat) (M : Nat → Prop) (w : World) : Calls Tryz.prog 30 #[.int .i64 (n : Nat)] w (Ret (OutT' w M (.var n))) := by
  refine enterC Tryz.func30 rfl Tryz.ntmps30 rfl (by simp) ?_
  have H := Holds.start w []
  (repeat (first | refine qq ?_ | (refine qds H ?_; intro H) | (refine qrb H ?_; intro _ w H) | (refine qrs H ?_; intro w H) | (refine qdr H ?_; intro H)))
  refine WO_rd rfl (X_build (by exact rfl) [(0, [.int .i64 1]), (1, [.int .i64 (n : Nat)])] (by exact rfl) (by exact rfl)) ?_
  (repeat (first | refine qq ?_ | (refine qds H ?_; intro H) | (refine qrb H ?_; intro _ w H) | (refine qrs H ?_; intro w H) | (refine qdr H ?_; intro H)))
  exact ⟨_, _, _, rfl, H.bcells 0 4 rfl rfl, rfl, _, rfl, ⟨none, 0, rfl⟩, H.mod⟩
set_option maxRecDepth 100000 in
theorem l02Pair_c {x y : T} {us ts : List Value} {M : Nat → Prop} {w : World} (hM : ∀ b, M b → b < w.heap.size) (hx : rdT M w x us) (hy : rdT M w y ts) :
    Calls Tryz.prog 46 #[.agg us.toArray, .agg ts.toArray] w (Ret (OutT' w M (.pair x y))) := by
  obtain ⟨a1, n1, c1, rfl, hs1⟩ := rdT_args hx
  obtain ⟨a2, n2, c2, rfl, hs2⟩ := rdT_args hy
  refine enterC Tryz.func46 rfl Tryz.ntmps46 rfl (by simp) ?_
  have H := ((Holds.start w []).arg (L := LT) hx).arg (L := LT) hy
  refine W_rs ?_
  refine qrb H ?_; intro b1 w H
  refine qrb H ?_; intro b2 w H
  refine qrb H ?_; intro b3 w H
  refine WO_end (W_rs ?_)
  (repeat (first | ((with_reducible refine qi0 ?_); refine qrd ?_) | ((with_reducible refine qi1 ?_); first | refine qrn ?_ | refine qrg ?_ | refine qru ?_)))
  refine WO_s rfl (S_bslice2N H _ _ (by exact rfl) (by exact rfl) (by exact rfl) (by exact rfl) (by exact rfl) (by exact rfl) (by exact rfl) ?_); intro b4 w H
  refine WO_rd rfl (X_build (by exact rfl) [(0, [.int .i64 4]), (3, [.slice (some ⟨b4, 0, none⟩) 2 2])] (by exact rfl) (xs := [.int .i64 4, .int .i64 0, .string ⟨#[]⟩, .slice (some ⟨b4, 0, none⟩) 2 2]) (by exact rfl)) ?_
  refine qrs H ?_; intro w H
  refine WO_end (W_ret ?_)
  obtain ⟨h1, h2⟩ := H.own hM 0 rfl
  exact ⟨_, _, _, rfl, H.bcells 1 4 rfl rfl, rfl, _, rfl, rdT_mk (Nat.le_refl _) h1 h2 (H.out 1 rfl) (H.out 0 rfl) (H.bcells 0 8 rfl rfl), H.mod⟩
set_option maxHeartbeats 1000000 in
set_option maxRecDepth 100000 in
theorem implList_c {l : List T}  {v : Value} {M : Nat → Prop} {wA : World} (hM : ∀ b, M b → b < wA.heap.size) (h : (LSl LT).rd M wA l [v])  (hl : l.length ≤ 100000) :
    Calls Tryz.prog 69 #[v] wA (Ret (OutT' wA M (listOn l .nil))) := by
  obtain ⟨a, c, rfl⟩ := rdSl_val h
  skip
  refine enterC Tryz.func69 rfl Tryz.ntmps69 rfl (by simp) ?_
  have H := (Holds.start wA []).arg (L := LSl LT) h
  refine W_rs ?_
  refine qrb H ?_; intro b4 w H
  (repeat (first | refine qq ?_ | (refine qds H ?_; intro H) | (refine qdr H ?_; intro H)))
  refine WO_rd rfl (X_build (by exact rfl) [] (by exact rfl) (xs := [.int .i64 0, .int .i64 0, .string ⟨#[]⟩, .slice none 0 0]) (by exact rfl)) ?_
  refine qrb H ?_; intro b3 w H
  (repeat (first | refine qq ?_ | (refine qds H ?_; intro H) | (refine qrb H ?_; intro _ w H) | (refine qrs H ?_; intro w H) | (refine qdr H ?_; intro H)))
  refine W_loop (fun m f w' => ∃ gg t cs, m ≤ l.length ∧ f = sl gg [(0, .slice a l.length c), (3, .pointer (some ⟨b3, 0, none⟩)), (2, .pointer (some ⟨b4, 0, none⟩)), (4, .int .i64 ((m : Nat) - 1))] ∧ t = listOn (l.drop m) .nil ∧ cs.length = 4 ∧
    Holds wA [] [box b3 cs 32, box b4 [.int .i64 0, .int .i64 0, .string ⟨#[]⟩, .slice none 0 0] 32] [LT.dat M t cs, (LSl LT).dat M l [.slice a l.length c]] w') l.length
    ⟨_, _, [.int .i64 0, .int .i64 0, .string ⟨#[]⟩, .slice none 0 0], Nat.le_refl _, sl_back ⟨rfl, rfl, rfl, rfl, trivial⟩, rfl, rfl, ?_⟩ ?_
  · rw [List.drop_length]
    exact (H.add (d := LT.dat M .nil [.int .i64 0, .int .i64 0, .string ⟨#[]⟩, .slice none 0 0]) ⟨none, 0, rfl⟩).sub (.refl _) (by simp [listOn])
  clear H
  rintro m f w ⟨gg, t, cs, hm', rfl, ht, hcs, H⟩
  obtain ⟨at1, ct1, rfl⟩ := rdT_four (H.dat (d := LT.dat M t cs) (by simp))
  cases m with
  | zero =>
    (repeat (first | refine qq ?_ | (refine qds H ?_; intro H) | (refine qrb H ?_; intro _ w H) | (refine qrs H ?_; intro w H) | (refine qdr H ?_; intro H)))
    subst ht
    exact ⟨_, _, _, rfl, H.bcells 1 4 rfl rfl, rfl, _, rfl, H.out (L := LT) 0 rfl, H.mod⟩
  | succ j =>
    obtain ⟨x, hx⟩ : ∃ x, l[j]? = some x := ⟨_, List.getElem?_eq_getElem (by omega)⟩
    obtain ⟨b, o, vs, rfl, _, _, hr, H⟩ := H.elem (L := LT) (M := M) (l := l) (a := a) (n := l.length) (c := c) (by simp) j hx
    obtain ⟨a1, c1, rfl⟩ := rdT_four hr
    rw [show ((j + 1 : Nat) : Int) - 1 = (j : Nat) by omega]
    (repeat (first | refine qq ?_ | (refine qds H ?_; intro H) | (refine qrb H ?_; intro _ w H) | (refine qrs H ?_; intro w H) | (refine qdr H ?_; intro H)))
    have H1 := H
    refine WD_any 6 [[], [], [0, 1], [0, 1, 2], [], [0, 1, 2, 3, 4]] [(5, PN LT (H1.wr M) ((.pair x t)))] (by kernel_rfl) ?_ ?_ _ (by exact rfl) ?_
    · exact ⟨PN_stab, trivial⟩
    · refine ⟨?_, ?_, ?_, ?_, ?_, ?_, trivial⟩
      iterate 5 (· exact qob)
      · intro w hm
        have H := H.call hm
        iterate 5 refine qwr ?_
        refine qol ?_
        exact S_call2 _ _ (by exact rfl) (by exact rfl) (by exact rfl) (pair_c (M := H1.wr M) (fun b hb => Nat.lt_of_lt_of_le (H1.wr_lt hM b hb) hm.size) (H.dat (d := LT.dat M x [.int .i64 x.kind, .int .i64 x.int, .string x.name, .slice a1 x.args.length c1]) (by simp)) (H.dat (d := LT.dat M t [.int .i64 t.kind, .int .i64 t.int, .string t.name, .slice at1 t.args.length ct1]) (by simp))) fun v w' ⟨vs, h1, h2, h3⟩ => ⟨⟨vs, h1, h2⟩, h3⟩
    intro w hm
    have H := H.call hm
    iterate 5 refine qwr ?_
    refine qwl ?_; rintro _ ⟨us5, rfl, h5⟩; obtain ⟨a5, c5, rfl⟩ := rdT_four h5
    refine WR_nil ?_
    have H := H.add (d := LT.dat M (.pair x t) _) h5
    refine WD_n (by kernel_rfl) (by exact rfl) (S_storeN H 0 _ _ (by exact rfl) (by exact rfl) (by exact rfl) (by exact rfl) (by exact rfl) (by exact rfl) ?_); intro w H
    refine WD_end (by decide) ?_
    (repeat (first | refine qq ?_ | (refine qds H ?_; intro H) | (refine qrb H ?_; intro _ w H) | (refine qrs H ?_; intro w H) | (refine qdr H ?_; intro H)))
    refine ⟨j, by omega, _, .pair x t, _, by omega, sl_back ⟨rfl, rfl, rfl, rfl, trivial⟩, ?_, ?_, H.sub (.refl _) (by simp [putAt])⟩
    · rw [drop_at hx, listOn, ht]
    · exact rfl
set_option maxHeartbeats 1000000 in
set_option maxRecDepth 100000 in
theorem l02List_c {l : List T} {t0 : T} {us : List Value} {v : Value} {M : Nat → Prop} {wA : World} (hM : ∀ b, M b → b < wA.heap.size) (h : (LSl LT).rd M wA l [v]) (h0 : rdT M wA t0 us) (hl : l.length ≤ 100000) :
    Calls Tryz.prog 22 #[v, .agg us.toArray] wA (Ret (OutT' wA M (listOn l t0))) := by
  obtain ⟨a, c, rfl⟩ := rdSl_val h
  obtain ⟨at0, ct0, rfl⟩ := rdT_four h0
  refine enterC Tryz.func22 rfl Tryz.ntmps22 rfl (by simp) ?_
  have H := ((Holds.start wA []).arg (L := LSl LT) h).arg (L := LT) h0
  refine W_rs ?_
  refine qrb H ?_; intro b3 w H
  refine qrb H ?_; intro b4 w H
  (repeat (first | refine qq ?_ | (refine qds H ?_; intro H) | (refine qrb H ?_; intro _ w H) | (refine qrs H ?_; intro w H) | (refine qdr H ?_; intro H)))
  refine W_loop (fun m f w' => ∃ gg t cs, m ≤ l.length ∧ f = sl gg [(0, .slice a l.length c), (3, .pointer (some ⟨b3, 0, none⟩)), (4, .pointer (some ⟨b4, 0, none⟩)), (5, .int .i64 ((m : Nat) - 1))] ∧ t = listOn (l.drop m) t0 ∧ cs.length = 4 ∧
    Holds wA [] [box b3 cs 32, box b4 [.int .i64 0, .int .i64 0, .string ⟨#[]⟩, .slice none 0 0] 32] [LT.dat M t cs, (LSl LT).dat M l [.slice a l.length c]] w') l.length
    ⟨_, _, [.int .i64 t0.kind, .int .i64 t0.int, .string t0.name, .slice at0 t0.args.length ct0], Nat.le_refl _, sl_back ⟨rfl, rfl, rfl, rfl, trivial⟩, rfl, rfl, ?_⟩ ?_
  · rw [List.drop_length]
    exact (H.perm (List.Perm.swap _ _ _)).sub (.refl _) (by simp [listOn])
  clear H
  rintro m f w ⟨gg, t, cs, hm', rfl, ht, hcs, H⟩
  obtain ⟨at1, ct1, rfl⟩ := rdT_four (H.dat (d := LT.dat M t cs) (by simp))
  cases m with
  | zero =>
    (repeat (first | refine qq ?_ | (refine qds H ?_; intro H) | (refine qrb H ?_; intro _ w H) | (refine qrs H ?_; intro w H) | (refine qdr H ?_; intro H)))
    subst ht
    exact ⟨_, _, _, rfl, H.bcells 1 4 rfl rfl, rfl, _, rfl, H.out (L := LT) 0 rfl, H.mod⟩
  | succ j =>
    obtain ⟨x, hx⟩ : ∃ x, l[j]? = some x := ⟨_, List.getElem?_eq_getElem (by omega)⟩
    obtain ⟨b, o, vs, rfl, _, _, hr, H⟩ := H.elem (L := LT) (M := M) (l := l) (a := a) (n := l.length) (c := c) (by simp) j hx
    obtain ⟨a1, c1, rfl⟩ := rdT_four hr
    rw [show ((j + 1 : Nat) : Int) - 1 = (j : Nat) by omega]
    (repeat (first | refine qq ?_ | (refine qds H ?_; intro H) | (refine qrb H ?_; intro _ w H) | (refine qrs H ?_; intro w H) | (refine qdr H ?_; intro H)))
    have H1 := H
    refine WD_any 6 [[], [], [0, 1], [0, 1, 2], [], [0, 1, 2, 3, 4]] [(5, PN LT (H1.wr M) ((.pair x t)))] (by kernel_rfl) ?_ ?_ _ (by exact rfl) ?_
    · exact ⟨PN_stab, trivial⟩
    · refine ⟨?_, ?_, ?_, ?_, ?_, ?_, trivial⟩
      iterate 5 (· exact qob)
      · intro w hm
        have H := H.call hm
        iterate 5 refine qwr ?_
        refine qol ?_
        exact S_call2 _ _ (by exact rfl) (by exact rfl) (by exact rfl) (l02Pair_c (M := H1.wr M) (fun b hb => Nat.lt_of_lt_of_le (H1.wr_lt hM b hb) hm.size) (H.dat (d := LT.dat M x [.int .i64 x.kind, .int .i64 x.int, .string x.name, .slice a1 x.args.length c1]) (by simp)) (H.dat (d := LT.dat M t [.int .i64 t.kind, .int .i64 t.int, .string t.name, .slice at1 t.args.length ct1]) (by simp))) fun v w' ⟨vs, h1, h2, h3⟩ => ⟨⟨vs, h1, h2⟩, h3⟩
    intro w hm
    have H := H.call hm
    iterate 5 refine qwr ?_
    refine qwl ?_; rintro _ ⟨us5, rfl, h5⟩; obtain ⟨a5, c5, rfl⟩ := rdT_four h5
    refine WR_nil ?_
    have H := H.add (d := LT.dat M (.pair x t) _) h5
    refine WD_n (by kernel_rfl) (by exact rfl) (S_storeN H 0 _ _ (by exact rfl) (by exact rfl) (by exact rfl) (by exact rfl) (by exact rfl) (by exact rfl) ?_); intro w H
    refine WD_end (by decide) ?_
    (repeat (first | refine qq ?_ | (refine qds H ?_; intro H) | (refine qrb H ?_; intro _ w H) | (refine qrs H ?_; intro w H) | (refine qdr H ?_; intro H)))
    refine ⟨j, by omega, _, .pair x t, _, by omega, sl_back ⟨rfl, rfl, rfl, rfl, trivial⟩, ?_, ?_, H.sub (.refl _) (by simp [putAt])⟩
    · rw [drop_at hx, listOn, ht]
    · exact rfl
set_option maxHeartbeats 1000000 in
set_option maxRecDepth 100000 in
theorem l01In_c {n hi : Nat} (h : n ≤ hi) (w : World) : Calls Tryz.prog 20 #[.int .i64 (n : Nat), .int .i64 0, .int .i64 (hi : Nat)] w (Ret fun v w' => v = .bool true ∧ Mod [] w w') := by
  refine enter1 Tryz.func20 rfl Tryz.ntmps20 rfl (by simp) ?_
  have H := Holds.start w []
  (repeat (first | refine qq ?_ | (refine qds H ?_; intro H) | (refine qrb H ?_; intro _ w H) | (refine qrs H ?_; intro w H) | (refine qdr H ?_; intro H)))
  exact ⟨rfl, H.mod⟩
set_option maxHeartbeats 1000000 in
set_option maxRecDepth 100000 in
theorem specNumeralOf_c {n : Nat} (hn : n < 512) {M : Nat → Prop} {wA : World} (hM : ∀ b, M b → b < wA.heap.size) :
    Calls Tryz.prog 8 #[.int .i64 (n : Nat)] wA (Ret fun v w' => (∃ vs, v = .tuple #[.agg vs.toArray, .bool true] ∧ rdT M w' (numT n) vs) ∧ Mod [] wA w') := by
  refine enterCT Tryz.func8 rfl Tryz.ntmps8 rfl (by simp) ?_
  have H := Holds.start wA []
  refine W_rs ?_
  refine qrb H ?_; intro b2 w H
  (repeat (first | refine qq ?_ | (refine qds H ?_; intro H) | (refine qdr H ?_; intro H)))
  refine qa3 (hc := l01In_c (n := n) (hi := 1000000000) (by omega) w) (k := ?_)
  rintro _ w ⟨rfl, hm⟩
  have H := H.call hm
  (repeat (first | refine qq ?_ | (refine qds H ?_; intro H) | (refine qrb H ?_; intro _ w H) | (refine qrs H ?_; intro w H) | (refine qdr H ?_; intro H)))
  refine WO_s rfl (S_bslice0 H ?_); intro b0 w H
  have H := (H.toRow 0 4 rfl).dnil (L := LT) (M := M)
  (repeat (first | refine qq ?_ | (refine qds H ?_; intro H) | (refine qrb H ?_; intro _ w H) | (refine qrs H ?_; intro w H) | (refine qdr H ?_; intro H)))
  refine W_loop (fun m f w' => ∃ gg cur out v4 vss fu, m = cur ∧ cur < 2 ^ fu ∧ fu ≤ 9 ∧ f = sl gg [(0, .int .i64 (cur : Nat)), (2, .pointer (some ⟨b2, 0, none⟩)), (4, v4)] ∧ out ++ digs fu cur = digs 9 n ∧
    Holds wA [] [orow 32 4 v4 vss, box b2 [.int .i64 0, .int .i64 0, .string ⟨#[]⟩, .slice none 0 0] 32] [dall LT M out vss] w') n
    ⟨_, n, [], _, [], 9, rfl, hn, Nat.le_refl _, sl_back ⟨rfl, rfl, rfl, trivial⟩, rfl, H.sub (.refl _) (by simp)⟩ ?_
  clear H
  rintro m f w ⟨gg, cur, out, v4, vss, fu, rfl, hfu, hf9, rfl, ho, H⟩
  have hol : out.length + (digs fu m).length ≤ 9 := by
    have := congrArg List.length ho
    rw [List.length_append] at this
    have := digs_len (f := 9) (n := n)
    omega
  obtain ⟨a4, c4, rfl⟩ := H.rowVal 0 rfl
  have hvl := (Alls.get (H.dat (d := dall LT M out vss) (by simp))).1
  by_cases h0 : 0 < m
  · obtain ⟨fu, rfl⟩ : ∃ k, fu = k + 1 := by
      cases fu with
      | zero => simp at hfu; omega
      | succ k => exact ⟨k, rfl⟩
    (repeat (first | refine qq ?_ | (refine qds H ?_; intro H) | (refine qrb H ?_; intro _ w H) | (refine qrs H ?_; intro w H) | (refine qdr H ?_; intro H)))
    refine WO_rd rfl (X_rem (b := 2) _ _ (by exact rfl) (by exact rfl) (by omega)) ?_
    refine qa1 (hc := l02Num_c ((m % 2 : Nat) : Int) (H.wr M) _) (k := ?_)
    rintro _ w ⟨vs, rfl, hx, hm⟩
    obtain ⟨dg, hdg⟩ : ∃ dg : T, dg = .num ((m % 2 : Nat) : Int) := ⟨_, rfl⟩
    rw [← hdg] at hx
    obtain ⟨a1, c1, rfl⟩ := rdT_four hx
    have H := (H.call hm).add (d := LT.dat M dg [.int .i64 dg.kind, .int .i64 dg.int, .string dg.name, .slice a1 dg.args.length c1]) hx
    (first | refine WO_s rfl (S_bslice1N H _ (by exact rfl) (by exact rfl) (by exact rfl) (by exact rfl) (by exact rfl) ?_) | refine WO_s rfl (S_bslice1s H _ (by exact rfl) (by exact rfl) (by exact rfl) ?_)); intro b18 w H
    refine WO_s rfl (S_append H 1 _ _ (vs := [.int .i64 dg.kind, .int .i64 dg.int, .string dg.name, .slice a1 dg.args.length c1]) (by exact rfl) (by exact rfl) (by exact rfl) (H.bcells 0 4 rfl rfl) rfl (by simp [Value.oneCell']) (by simp) (by exact rfl) (by omega) ?_)
    intro v'' w H
    (repeat (first | refine qq ?_ | (refine qds H ?_; intro H) | (refine qrb H ?_; intro _ w H) | (refine qrs H ?_; intro w H) | (refine qdr H ?_; intro H)))
    refine WO_rd rfl (X_quo (b := 2) _ _ (by exact rfl) (by exact rfl) (by omega) (by have := Nat.pow_le_pow_right (n := 2) (by omega) hf9; omega)) ?_
    (repeat (first | refine qq ?_ | (refine qds H ?_; intro H) | (refine qrb H ?_; intro _ w H) | (refine qrs H ?_; intro w H) | (refine qdr H ?_; intro H)))
    refine ⟨m / 2, by omega, _, m / 2, out ++ [dg], v'', vss ++ [[.int .i64 dg.kind, .int .i64 dg.int, .string dg.name, .slice a1 dg.args.length c1]], fu, rfl, by rw [Nat.pow_succ] at hfu; omega, by omega, sl_back ⟨rfl, rfl, rfl, trivial⟩, by rw [← ho, digs_pos h0, hdg]; simp, ?_⟩
    exact (H.snoc (L := LT) (M := M) (l := out) (vss := vss) (x := dg) (by simp) (H.dat (d := LT.dat M dg [.int .i64 dg.kind, .int .i64 dg.int, .string dg.name, .slice a1 dg.args.length c1]) (by simp))).sub (.cons _ (.refl _)) (by simp)
  · obtain rfl : m = 0 := by omega
    rw [digs_0, List.append_nil] at ho
    subst ho
    have H := Holds.freeze (A1 := []) (A2 := [_]) (M := M) (L := LT) (l := digs 9 n) H hM (H.dat (by repeat (first | exact List.Mem.head _ | apply List.Mem.tail))) (by simp)
    (repeat (first | refine qq ?_ | (refine qds H ?_; intro H) | (refine qrb H ?_; intro _ w H) | (refine qrs H ?_; intro w H) | (refine qdr H ?_; intro H)))
    refine WO_rd rfl (X_build (by exact rfl) [] (by exact rfl) (xs := [.int .i64 0, .int .i64 0, .string ⟨#[]⟩, .slice none 0 0]) (by exact rfl)) ?_
    refine qa2 (hc := l02List_c (M := H.wr M) (l := digs 9 n) (t0 := .nil) (H.wr_lt hM) (H.dat (d := (LSl LT).dat M (digs 9 n) [.slice a4 vss.length c4]) (by simp)) ⟨none, 0, rfl⟩ (by omega)) (k := ?_)
    rintro _ w ⟨vs, rfl, hx, hm⟩
    obtain ⟨a1, c1, rfl⟩ := rdT_four hx
    have H := (H.call hm).add (d := LT.dat M (numT n) _) hx
    (repeat (first | refine qq ?_ | (refine qds H ?_; intro H) | (refine qrb H ?_; intro _ w H) | (refine qrs H ?_; intro w H) | (refine qdr H ?_; intro H)))
    exact ⟨_, _, _, rfl, H.bcells 0 4 rfl rfl, rfl, ⟨_, rfl, H.out (L := LT) 0 rfl⟩, H.mod⟩
set_option maxHeartbeats 1000000 in
set_option maxRecDepth 100000 in
theorem implNumeral_c {n : Nat} (hn : n < 512) {M : Nat → Prop} {wA : World} (hM : ∀ b, M b → b < wA.heap.size) :
    Calls Tryz.prog 32 #[.int .i64 (n : Nat)] wA (Ret fun v w' => OutT' wA M (numT n) v w') := by
  refine enterC Tryz.func32 rfl Tryz.ntmps32 rfl (by simp) ?_
  have H := Holds.start wA []
  refine W_rs ?_
  refine qrb H ?_; intro b2 w H
  (repeat (first | refine qq ?_ | (refine qds H ?_; intro H) | (refine qrb H ?_; intro _ w H) | (refine qrs H ?_; intro w H) | (refine qdr H ?_; intro H)))
  refine WO_s rfl (S_bslice0 H ?_); intro b0 w H
  have H := (H.toRow 0 4 rfl).dnil (L := LT) (M := M)
  (repeat (first | refine qq ?_ | (refine qds H ?_; intro H) | (refine qrb H ?_; intro _ w H) | (refine qrs H ?_; intro w H) | (refine qdr H ?_; intro H)))
  refine W_loop (fun m f w' => ∃ gg cur out v4 vss fu, m = cur ∧ cur < 2 ^ fu ∧ fu ≤ 9 ∧ f = sl gg [(0, .int .i64 (cur : Nat)), (2, .pointer (some ⟨b2, 0, none⟩)), (3, v4)] ∧ out ++ digs fu cur = digs 9 n ∧
    Holds wA [] [orow 32 4 v4 vss, box b2 [.int .i64 0, .int .i64 0, .string ⟨#[]⟩, .slice none 0 0] 32] [dall LT M out vss] w') n
    ⟨_, n, [], _, [], 9, rfl, hn, Nat.le_refl _, sl_back ⟨rfl, rfl, rfl, trivial⟩, rfl, H.sub (.refl _) (by simp)⟩ ?_
  clear H
  rintro m f w ⟨gg, cur, out, v4, vss, fu, rfl, hfu, hf9, rfl, ho, H⟩
  have hol : out.length + (digs fu m).length ≤ 9 := by
    have := congrArg List.length ho
    rw [List.length_append] at this
    have := digs_len (f := 9) (n := n)
    omega
  obtain ⟨a4, c4, rfl⟩ := H.rowVal 0 rfl
  have hvl := (Alls.get (H.dat (d := dall LT M out vss) (by simp))).1
  by_cases h0 : 0 < m
  · obtain ⟨fu, rfl⟩ : ∃ k, fu = k + 1 := by
      cases fu with
      | zero => simp at hfu; omega
      | succ k => exact ⟨k, rfl⟩
    (repeat (first | refine qq ?_ | (refine qds H ?_; intro H) | (refine qrb H ?_; intro _ w H) | (refine qrs H ?_; intro w H) | (refine qdr H ?_; intro H)))
    refine WO_rd rfl (X_rem (b := 2) _ _ (by exact rfl) (by exact rfl) (by omega)) ?_
    refine qa1 (hc := number_c ((m % 2 : Nat) : Int) (H.wr M) _) (k := ?_)
    rintro _ w ⟨vs, rfl, hx, hm⟩
    obtain ⟨dg, hdg⟩ : ∃ dg : T, dg = .num ((m % 2 : Nat) : Int) := ⟨_, rfl⟩
    rw [← hdg] at hx
    obtain ⟨a1, c1, rfl⟩ := rdT_four hx
    have H := (H.call hm).add (d := LT.dat M dg [.int .i64 dg.kind, .int .i64 dg.int, .string dg.name, .slice a1 dg.args.length c1]) hx
    (first | refine WO_s rfl (S_bslice1N H _ (by exact rfl) (by exact rfl) (by exact rfl) (by exact rfl) (by exact rfl) ?_) | refine WO_s rfl (S_bslice1s H _ (by exact rfl) (by exact rfl) (by exact rfl) ?_)); intro b18 w H
    refine WO_s rfl (S_append H 1 _ _ (vs := [.int .i64 dg.kind, .int .i64 dg.int, .string dg.name, .slice a1 dg.args.length c1]) (by exact rfl) (by exact rfl) (by exact rfl) (H.bcells 0 4 rfl rfl) rfl (by simp [Value.oneCell']) (by simp) (by exact rfl) (by omega) ?_)
    intro v'' w H
    (repeat (first | refine qq ?_ | (refine qds H ?_; intro H) | (refine qrb H ?_; intro _ w H) | (refine qrs H ?_; intro w H) | (refine qdr H ?_; intro H)))
    refine WO_rd rfl (X_quo (b := 2) _ _ (by exact rfl) (by exact rfl) (by omega) (by have := Nat.pow_le_pow_right (n := 2) (by omega) hf9; omega)) ?_
    (repeat (first | refine qq ?_ | (refine qds H ?_; intro H) | (refine qrb H ?_; intro _ w H) | (refine qrs H ?_; intro w H) | (refine qdr H ?_; intro H)))
    refine ⟨m / 2, by omega, _, m / 2, out ++ [dg], v'', vss ++ [[.int .i64 dg.kind, .int .i64 dg.int, .string dg.name, .slice a1 dg.args.length c1]], fu, rfl, by rw [Nat.pow_succ] at hfu; omega, by omega, sl_back ⟨rfl, rfl, rfl, trivial⟩, by rw [← ho, digs_pos h0, hdg]; simp, ?_⟩
    exact (H.snoc (L := LT) (M := M) (l := out) (vss := vss) (x := dg) (by simp) (H.dat (d := LT.dat M dg [.int .i64 dg.kind, .int .i64 dg.int, .string dg.name, .slice a1 dg.args.length c1]) (by simp))).sub (.cons _ (.refl _)) (by simp)
  · obtain rfl : m = 0 := by omega
    rw [digs_0, List.append_nil] at ho
    subst ho
    have H := Holds.freeze (A1 := []) (A2 := [_]) (M := M) (L := LT) (l := digs 9 n) H hM (H.dat (by repeat (first | exact List.Mem.head _ | apply List.Mem.tail))) (by simp)
    (repeat (first | refine qq ?_ | (refine qds H ?_; intro H) | (refine qrb H ?_; intro _ w H) | (refine qrs H ?_; intro w H) | (refine qdr H ?_; intro H)))
    refine qa1 (hc := implList_c (M := H.wr M) (l := digs 9 n) (H.wr_lt hM) (H.dat (d := (LSl LT).dat M (digs 9 n) [.slice a4 vss.length c4]) (by simp)) (by omega)) (k := ?_)
    rintro _ w ⟨vs, rfl, hx, hm⟩
    obtain ⟨a1, c1, rfl⟩ := rdT_four hx
    have H := (H.call hm).add (d := LT.dat M (numT n) _) hx
    (repeat (first | refine qq ?_ | (refine qds H ?_; intro H) | (refine qrb H ?_; intro _ w H) | (refine qrs H ?_; intro w H) | (refine qdr H ?_; intro H)))
    exact ⟨_, _, _, rfl, H.bcells 0 4 rfl rfl, rfl, _, rfl, H.out (L := LT) 0 rfl, H.mod⟩
set_option maxHeartbeats 1000000 in
set_option maxRecDepth 100000 in
theorem MakeVars_own {n : Nat} (hn : n ≤ 100) {M : Nat → Prop} {wA : World} :
    Calls Tryz.prog 11 #[.int .i64 (n : Nat)] wA (Ret fun v w' => ∃ a c vss, v = .slice a vss.length c ∧ Holds wA [] [orow 32 4 (.slice a vss.length c) vss] [dall LT M ((List.range n).map .var) vss] w') := by
  refine enter1 Tryz.func11 rfl Tryz.ntmps11 rfl (by simp) ?_
  have H := Holds.start wA []
  (repeat (first | refine qq ?_ | (refine qds H ?_; intro H) | (refine qrb H ?_; intro _ w H) | (refine qrs H ?_; intro w H) | (refine qdr H ?_; intro H)))
  refine WO_s rfl (S_bslice0 H ?_); intro b0 w H
  have H := (H.toRow 0 4 rfl).dnil (L := LT) (M := M)
  (repeat (first | refine qq ?_ | (refine qds H ?_; intro H) | (refine qrb H ?_; intro _ w H) | (refine qrs H ?_; intro w H) | (refine qdr H ?_; intro H)))
  refine W_loop (fun m f w' => ∃ gg k v3 vss, m = n - k ∧ k ≤ n ∧ f = sl gg [(0, .int .i64 (n : Nat)), (3, v3), (4, .int .i64 (k : Nat))] ∧
    Holds wA [] [orow 32 4 v3 vss] [dall LT M ((List.range k).map .var) vss] w') n ⟨_, 0, _, [], rfl, Nat.zero_le _, sl_back ⟨rfl, rfl, rfl, trivial⟩, H.sub (.refl _) (by simp)⟩ ?_
  clear H
  rintro m f w ⟨gg, k, v3, vss, rfl, hk, rfl, H⟩
  obtain ⟨a4, c4, rfl⟩ := H.rowVal 0 rfl
  have hvl := (Alls.get (H.dat (d := dall LT M ((List.range k).map .var) vss) (by simp))).1
  simp only [List.length_map, List.length_range] at hvl
  by_cases hlt : k < n
  · (repeat (first | refine qq ?_ | (refine qds H ?_; intro H) | (refine qrb H ?_; intro _ w H) | (refine qrs H ?_; intro w H) | (refine qdr H ?_; intro H)))
    refine qa1 (hc := l02Var_c k (H.wr M) _) (k := ?_)
    rintro _ w ⟨vs, rfl, hx, hm⟩
    obtain ⟨dg, hdg⟩ : ∃ dg : T, dg = .var k := ⟨_, rfl⟩
    rw [← hdg] at hx
    obtain ⟨a1, c1, rfl⟩ := rdT_four hx
    have H := (H.call hm).add (d := LT.dat M dg [.int .i64 dg.kind, .int .i64 dg.int, .string dg.name, .slice a1 dg.args.length c1]) hx
    (repeat (first | refine qq ?_ | (refine qds H ?_; intro H) | (refine qrb H ?_; intro _ w H) | (refine qrs H ?_; intro w H) | (refine qdr H ?_; intro H)))
    (first | refine WO_s rfl (S_bslice1N H _ (by exact rfl) (by exact rfl) (by exact rfl) (by exact rfl) (by exact rfl) ?_) | refine WO_s rfl (S_bslice1s H _ (by exact rfl) (by exact rfl) (by exact rfl) ?_)); intro b18 w H
    refine WO_s rfl (S_append H 1 _ _ (vs := [.int .i64 dg.kind, .int .i64 dg.int, .string dg.name, .slice a1 dg.args.length c1]) (by exact rfl) (by exact rfl) (by exact rfl) (H.bcells 0 4 rfl rfl) rfl (by simp [Value.oneCell']) (by simp) (by exact rfl) (by omega) ?_)
    intro v'' w H
    (repeat (first | refine qq ?_ | (refine qds H ?_; intro H) | (refine qrb H ?_; intro _ w H) | (refine qrs H ?_; intro w H) | (refine qdr H ?_; intro H)))
    refine ⟨n - (k + 1), by omega, _, k + 1, v'', vss ++ [[.int .i64 dg.kind, .int .i64 dg.int, .string dg.name, .slice a1 dg.args.length c1]], rfl, by omega, sl_back ⟨rfl, rfl, rfl, trivial⟩, ?_⟩
    rw [List.range_succ, List.map_append, List.map_singleton, ← hdg]
    exact (H.snoc (L := LT) (M := M) (l := (List.range k).map .var) (vss := vss) (x := dg) (by simp) (H.dat (d := LT.dat M dg [.int .i64 dg.kind, .int .i64 dg.int, .string dg.name, .slice a1 dg.args.length c1]) (by simp))).sub (.cons _ (.refl _)) (by simp)
  · obtain rfl : k = n := by omega
    (repeat (first | refine qq ?_ | (refine qds H ?_; intro H) | (refine qrb H ?_; intro _ w H) | (refine qrs H ?_; intro w H) | (refine qdr H ?_; intro H)))
    exact ⟨a4, c4, vss, rfl, H⟩
theorem MakeVars_c {n : Nat} (hn : n ≤ 100) {M : Nat → Prop} {wA : World} (hM : ∀ b, M b → b < wA.heap.size) :
    Calls Tryz.prog 11 #[.int .i64 (n : Nat)] wA (Ret fun v w' => (LSl LT).rd M w' ((List.range n).map .var) [v] ∧ Mod [] wA w') := by
  refine (MakeVars_own (M := M) hn).mono ?_
  rintro e w ⟨_, rfl, a, c, vss, rfl, H⟩
  have H := Holds.freeze (A1 := []) (A2 := []) (M := M) (L := LT) (l := (List.range n).map .var) H hM (H.dat (by repeat (first | exact List.Mem.head _ | apply List.Mem.tail))) (by simp)
  exact ⟨_, rfl, H.out 0 rfl, H.mod⟩
end Go.Proofs.YtljpfnjpifhdlaaGreatDoor
namespace Go.Proofs.YtljpfnjpifhdlaaGreatDoor
open Go
def pairsV (n : Nat) (k : Nat) : List (List T) := (List.range k).map fun i => [numT i, numT (n - i)]
set_option maxHeartbeats 1000000 in
set_option maxRecDepth 100000 in
theorem NumeralPairs_c {n : Nat} (hn : n ≤ 40) {M : Nat → Prop} {wA : World} (hM : ∀ b, M b → b < wA.heap.size) :
    Calls Tryz.prog 13 #[.int .i64 (n : Nat)] wA (Ret fun v w' => (LSl (LSl LT)).rd M w' (pairsV n (n + 1)) [v] ∧ Mod [] wA w') := by
  refine enter1 Tryz.func13 rfl Tryz.ntmps13 rfl (by simp) ?_
  have H := Holds.start wA []
  (repeat (first | refine qq ?_ | (refine qds H ?_; intro H) | (refine qrb H ?_; intro _ w H) | (refine qrs H ?_; intro w H) | (refine qdr H ?_; intro H)))
  refine WO_s rfl (S_bslice0 H ?_); intro b0 w H
  have H := (H.toRow 0 1 rfl).dnil (L := LSl LT) (M := M)
  (repeat (first | refine qq ?_ | (refine qds H ?_; intro H) | (refine qrb H ?_; intro _ w H) | (refine qrs H ?_; intro w H) | (refine qdr H ?_; intro H)))
  refine W_loop (fun m f w' => ∃ gg k v3 vss, m = n + 1 - k ∧ k ≤ n + 1 ∧ f = sl gg [(0, .int .i64 (n : Nat)), (3, v3), (4, .int .i64 (k : Nat))] ∧
    Holds wA [] [orow 30 1 v3 vss] [dall (LSl LT) M (pairsV n k) vss] w') (n + 1) ⟨_, 0, _, [], rfl, Nat.zero_le _, sl_back ⟨rfl, rfl, rfl, trivial⟩, H.sub (.refl _) (by simp [pairsV])⟩ ?_
  clear H
  rintro m f w ⟨gg, k, v3, vss, rfl, hk, rfl, H⟩
  obtain ⟨a4, c4, rfl⟩ := H.rowVal 0 rfl
  have hvl := (Alls.get (H.dat (d := dall (LSl LT) M (pairsV n k) vss) (by simp))).1
  simp only [pairsV, List.length_map, List.length_range] at hvl
  by_cases hlt : k ≤ n
  · (repeat (first | refine qq ?_ | (refine qds H ?_; intro H) | (refine qrb H ?_; intro _ w H) | (refine qrs H ?_; intro w H) | (refine qdr H ?_; intro H)))
    refine qa1 (hc := implNumeral_c (n := k) (by omega) (M := H.wr M) (H.wr_lt hM)) (k := ?_)
    rintro _ w ⟨vs, rfl, hx, hm⟩
    obtain ⟨a1, c1, rfl⟩ := rdT_four hx
    have H := (H.call hm).add (d := LT.dat M (numT k) [.int .i64 (numT k).kind, .int .i64 (numT k).int, .string (numT k).name, .slice a1 (numT k).args.length c1]) hx
    (repeat (first | refine qq ?_ | (refine qds H ?_; intro H) | (refine qrb H ?_; intro _ w H) | (refine qrs H ?_; intro w H) | (refine qdr H ?_; intro H)))
    rw [show (n : Int) - (k : Int) = ((n - k : Nat) : Int) by omega]
    refine qa1 (hc := implNumeral_c (n := n - k) (by omega) (M := H.wr M) (H.wr_lt hM)) (k := ?_)
    rintro _ w ⟨vs, rfl, hy, hm⟩
    obtain ⟨a2, c2, rfl⟩ := rdT_four hy
    have H := (H.call hm).add (d := LT.dat M (numT (n - k)) [.int .i64 (numT (n - k)).kind, .int .i64 (numT (n - k)).int, .string (numT (n - k)).name, .slice a2 (numT (n - k)).args.length c2]) hy
    refine WO_s rfl (S_bslice2N H _ _ (by exact rfl) (by exact rfl) (by exact rfl) (by exact rfl) (by exact rfl) (by exact rfl) (by exact rfl) ?_); intro b24 w H
    have H := H.frz hM 0 rfl (by simp)
    have hp : ((LSl LT).dat M [numT k, numT (n - k)] [.slice (some ⟨b24, 0, none⟩) 2 2]).ok (· ∈ owns [orow 30 1 (.slice a4 vss.length c4) vss]) w := by
      have hd := H.get 1 rfl
      exact rdSl_two (Nat.le_refl _) ⟨hd.1, hd.2.1⟩ (H.get 3 rfl) (H.get 2 rfl) hd.2.2
    have H := H.add hp
    (first | refine WO_s rfl (S_bslice1N H _ (by exact rfl) (by exact rfl) (by exact rfl) (by exact rfl) (by exact rfl) ?_) | refine WO_s rfl (S_bslice1s H _ (by exact rfl) (by exact rfl) (by exact rfl) ?_)); intro b25 w H
    refine WO_s rfl (S_append H 1 _ _ (vs := [.slice (some ⟨b24, 0, none⟩) 2 2]) (by exact rfl) (by exact rfl) (by exact rfl) (H.bcells 0 1 rfl rfl) rfl (by simp [Value.oneCell']) (by simp) (by exact rfl) (by omega) ?_)
    intro v'' w H
    (repeat (first | refine qq ?_ | (refine qds H ?_; intro H) | (refine qrb H ?_; intro _ w H) | (refine qrs H ?_; intro w H) | (refine qdr H ?_; intro H)))
    refine ⟨n + 1 - (k + 1), by omega, _, k + 1, v'', vss ++ [[.slice (some ⟨b24, 0, none⟩) 2 2]], rfl, by omega, sl_back ⟨rfl, rfl, rfl, trivial⟩, ?_⟩
    rw [pairsV, List.range_succ, List.map_append, List.map_singleton]
    exact (H.snoc (L := LSl LT) (M := M) (l := pairsV n k) (vss := vss) (x := [numT k, numT (n - k)]) (by simp) (H.dat (d := (LSl LT).dat M [numT k, numT (n - k)] [.slice (some ⟨b24, 0, none⟩) 2 2]) (by simp))).sub (.cons _ (.refl _)) (by simp [pairsV])
  · obtain rfl : k = n + 1 := by omega
    (repeat (first | refine qq ?_ | (refine qds H ?_; intro H) | (refine qrb H ?_; intro _ w H) | (refine qrs H ?_; intro w H) | (refine qdr H ?_; intro H)))
    have H := Holds.freeze (A1 := []) (A2 := []) (M := M) (L := LSl LT) (l := pairsV n (n + 1)) H hM (H.dat (by repeat (first | exact List.Mem.head _ | apply List.Mem.tail))) (by simp)
    exact ⟨H.out 0 rfl, H.mod⟩
def sameV : T → T → Bool
  | .pair a b, .pair a' b' => sameV a a' && sameV b b'
  | .nil, .nil => true
  | .var n, .var m => decide (n = m)
  | .num a, .num b => decide (a = b)
  | .sym s, .sym s' => decide (s = s')
  | _, _ => false
def allSame : List T → List T → Bool
  | [], [] => true
  | x :: l, y :: m => sameV x y && allSame l m
  | _, _ => false
theorem same_kind {t t' : T} (h : t.kind ≠ t'.kind) : sameV t t' = false := by
  cases t <;> cases t' <;> first | rfl | exact absurd rfl h
theorem same_int {t t' : T} (hk : t.kind = t'.kind) (h : t.int ≠ t'.int) : sameV t t' = false := by
  cases t <;> cases t' <;> simp [T.kind, T.int] at hk h <;> simp [sameV] <;> omega
theorem same_name {t t' : T} (hk : t.kind = t'.kind) (h : t.name ≠ t'.name) : sameV t t' = false := by
  cases t <;> cases t' <;> simp [T.kind, T.name] at hk h <;> simp [sameV] <;> exact h
theorem same_args {t t' : T} (hk : t.kind = t'.kind) : t.args.length = t'.args.length := by
  cases t <;> cases t' <;> simp [T.kind, T.args] at hk ⊢
theorem same_all {t t' : T} (hk : t.kind = t'.kind) (hi : t.int = t'.int) (hn : t.name = t'.name) : sameV t t' = allSame t.args t'.args := by
  cases t <;> cases t' <;> simp [T.kind, T.name, T.int] at hk hi hn <;> simp [sameV, allSame, T.args, *] <;> omega
abbrev SameC (t : T) : Prop := ∀ {t' : T} {us vs : List Value} {M M' : Nat → Prop} {w : World}, rdT M w t us → rdT M' w t' vs → Calls Tryz.prog 31 #[.agg us.toArray, .agg vs.toArray] w (Ret fun v w' => v = .bool (sameV t t') ∧ Mod [] w w')
set_option maxHeartbeats 1000000 in
set_option maxRecDepth 100000 in
theorem same_at (t : T) (ih : ∀ x ∈ t.args, SameC x) : SameC t := by
  intro t' us vs M M' wA h h'
  obtain ⟨a1, n1, c1, rfl, hs1⟩ := rdT_args h
  obtain ⟨a2, n2, c2, rfl, hs2⟩ := rdT_args h'
  obtain rfl := hs1.1
  obtain rfl := hs2.1
  refine enter1 Tryz.func31 rfl Tryz.ntmps31 rfl (by simp) ?_
  have H := ((Holds.start wA []).arg (L := LSl LT) (x := t.args) (vs := [.slice a1 t.args.length c1]) ⟨_, _, _, rfl, hs1⟩).arg (L := LSl LT) (x := t'.args) (vs := [.slice a2 t'.args.length c2]) ⟨_, _, _, rfl, hs2⟩
  refine W_rs ?_
  refine qrb H ?_; intro b2 w H
  refine qrb H ?_; intro b3 w H
  by_cases hk : t.kind = t'.kind
  · by_cases hi : t.int = t'.int
    · by_cases hn : t.name = t'.name
      · have hl := same_args hk
        have hla : t.args.length ≤ 2 := by cases t <;> simp [T.args]
        rw [same_all hk hi hn]
        (repeat (first | refine qq ?_ | (refine qds H ?_; intro H) | (refine qrb H ?_; intro _ w H) | (refine qrs H ?_; intro w H) | (refine qdr H ?_; intro H)))
        refine W_loop (fun m f w' => ∃ gg k, m = t.args.length - k ∧ k ≤ t.args.length ∧ f = sl gg [(3, .pointer (some ⟨b3, 0, none⟩)), (36, .slice a1 t.args.length c1), (37, .int .i64 (t.args.length : Nat)), (38, .int .i64 (k : Nat))] ∧ allSame (t.args.drop k) (t'.args.drop k) = allSame t.args t'.args ∧
          Holds wA [] [box b3 [.int .i64 t'.kind, .int .i64 t'.int, .string t'.name, .slice a2 t'.args.length c2] 32] [(LSl LT).dat M' t'.args [.slice a2 t'.args.length c2], (LSl LT).dat M t.args [.slice a1 t.args.length c1]] w') t.args.length
          ⟨_, 0, rfl, Nat.zero_le _, sl_back ⟨rfl, rfl, rfl, rfl, trivial⟩, rfl, H.sub (.cons_cons _ (List.nil_sublist _)) (by simp)⟩ ?_
        clear H
        rintro m f w ⟨gg, k, rfl, hk', rfl, hsm, H⟩
        by_cases hlt : k < t.args.length
        · obtain ⟨x, hx⟩ : ∃ x, t.args[k]? = some x := ⟨_, List.getElem?_eq_getElem hlt⟩
          obtain ⟨y, hy⟩ : ∃ x, t'.args[k]? = some x := ⟨_, List.getElem?_eq_getElem (by omega)⟩
          obtain ⟨b, o, vs1, rfl, _, _, hr, H⟩ := H.elem (L := LT) (M := M) (l := t.args) (a := a1) (n := t.args.length) (c := c1) (by simp) k hx
          obtain ⟨b', o', vs2, rfl, _, _, hr', H⟩ := H.elem (L := LT) (M := M') (l := t'.args) (a := a2) (n := t'.args.length) (c := c2) (by simp) k hy
          obtain ⟨a5, c5, rfl⟩ := rdT_four hr
          obtain ⟨a6, c6, rfl⟩ := rdT_four hr'
          rw [drop_at hx, drop_at hy, allSame] at hsm
          (repeat (first | refine qq ?_ | (refine qds H ?_; intro H) | (refine qrb H ?_; intro _ w H) | (refine qrs H ?_; intro w H) | (refine qdr H ?_; intro H)))
          refine WD_any 8 [[], [], [1], [], [1, 2, 3], [1, 2, 3, 4], [0, 1, 2, 3, 4, 5], [0, 1, 2, 3, 4, 5, 6]] [(6, PV ((.bool (sameV x y))))] (by kernel_rfl) ?_ ?_ _ (by exact rfl) ?_
          · exact ⟨PV_stab, trivial⟩
          · refine ⟨?_, ?_, ?_, ?_, ?_, ?_, ?_, ?_, trivial⟩
            iterate 6 (· exact qob)
            · intro w hm
              have H := H.call hm
              iterate 6 refine qwr ?_
              refine qol ?_
              exact S_call2 _ _ (by exact rfl) (by exact rfl) (by exact rfl) (ih x (List.mem_of_getElem? hx) (H.dat (d := LT.dat M x [.int .i64 x.kind, .int .i64 x.int, .string x.name, .slice a5 x.args.length c5]) (by simp)) (H.dat (d := LT.dat M' y [.int .i64 y.kind, .int .i64 y.int, .string y.name, .slice a6 y.args.length c6]) (by simp))) fun v w' h => h
            · exact qob
          intro w hm
          have H := H.call hm
          iterate 6 refine qwr ?_
          refine qwl ?_; rintro _ rfl
          refine qwr ?_
          refine WR_nil ?_
          refine WD_end (by decide) ?_
          cases hb : sameV x y with
          | false =>
            rw [hb] at hsm
            (repeat (first | refine qq ?_ | (refine qds H ?_; intro H) | (refine qrb H ?_; intro _ w H) | (refine qrs H ?_; intro w H) | (refine qdr H ?_; intro H)))
            exact ⟨by rw [← hsm]; rfl, H.mod⟩
          | true =>
            rw [hb, Bool.true_and] at hsm
            (repeat (first | refine qq ?_ | (refine qds H ?_; intro H) | (refine qrb H ?_; intro _ w H) | (refine qrs H ?_; intro w H) | (refine qdr H ?_; intro H)))
            exact ⟨t.args.length - (k + 1), by omega, _, k + 1, rfl, by omega, sl_back ⟨rfl, rfl, rfl, rfl, trivial⟩, hsm, H.sub (.cons _ (.refl _)) (by simp)⟩
        · obtain rfl : k = t.args.length := by omega
          rw [List.drop_length, hl, List.drop_length] at hsm
          (repeat (first | refine qq ?_ | (refine qds H ?_; intro H) | (refine qrb H ?_; intro _ w H) | (refine qrs H ?_; intro w H) | (refine qdr H ?_; intro H)))
          exact ⟨by rw [← hsm]; rfl, H.mod⟩
      · rw [same_name hk hn]
        (repeat (first | refine qq ?_ | (refine qds H ?_; intro H) | (refine qrb H ?_; intro _ w H) | (refine qrs H ?_; intro w H) | (refine qdr H ?_; intro H)))
        exact ⟨rfl, H.mod⟩
    · rw [same_int hk hi]
      (repeat (first | refine qq ?_ | (refine qds H ?_; intro H) | (refine qrb H ?_; intro _ w H) | (refine qrs H ?_; intro w H) | (refine qdr H ?_; intro H)))
      exact ⟨rfl, H.mod⟩
  · rw [same_kind hk]
    (repeat (first | refine qq ?_ | (refine qds H ?_; intro H) | (refine qrb H ?_; intro _ w H) | (refine qrs H ?_; intro w H) | (refine qdr H ?_; intro H)))
    exact ⟨rfl, H.mod⟩
theorem same_c (t : T) : SameC t := by
  induction t with
  | pair x y ihx ihy =>
    refine same_at _ fun z hz => ?_
    simp only [T.args, List.mem_cons, List.not_mem_nil, or_false] at hz
    rcases hz with rfl | rfl
    · exact ihx
    · exact ihy
  | nil => exact same_at _ fun z hz => by simp [T.args] at hz
  | var n => exact same_at _ fun z hz => by simp [T.args] at hz
  | sym n => exact same_at _ fun z hz => by simp [T.args] at hz
  | num n => exact same_at _ fun z hz => by simp [T.args] at hz
theorem allSame_len : ∀ {l l' : List T}, l.length ≠ l'.length → allSame l l' = false
  | [], [], h => absurd rfl h
  | [], _ :: _, _ => rfl
  | _ :: _, [], _ => rfl
  | x :: l, y :: m, h => by simp only [allSame]; rw [allSame_len (l := l) (l' := m) (by simpa using h), Bool.and_false]
set_option maxHeartbeats 1000000 in
set_option maxRecDepth 100000 in
theorem list_c {l l' : List T} {v v' : Value} {M M' : Nat → Prop} {wA : World} (h : (LSl LT).rd M wA l [v]) (h' : (LSl LT).rd M' wA l' [v']) (hl1 : l.length ≤ 100000) :
    Calls Tryz.prog 12 #[v, v'] wA (Ret fun u w' => u = .bool (allSame l l') ∧ Mod [] wA w') := by
  obtain ⟨a1, c1, rfl⟩ := rdSl_val h
  obtain ⟨a2, c2, rfl⟩ := rdSl_val h'
  refine enter1 Tryz.func12 rfl Tryz.ntmps12 rfl (by simp) ?_
  have H := ((Holds.start wA []).arg (L := LSl LT) h).arg (L := LSl LT) h'
  by_cases hl : l.length = l'.length
  · (repeat (first | refine qq ?_ | (refine qds H ?_; intro H) | (refine qrb H ?_; intro _ w H) | (refine qrs H ?_; intro w H) | (refine qdr H ?_; intro H)))
    refine W_loop (fun m f w' => ∃ gg k, m = l.length - k ∧ k ≤ l.length ∧ f = sl gg [(12, .slice a1 l.length c1), (1, .slice a2 l'.length c2), (13, .int .i64 (l.length : Nat)), (14, .int .i64 (k : Nat))] ∧ allSame (l.drop k) (l'.drop k) = allSame l l' ∧
      Holds wA [] [] [(LSl LT).dat M' l' [.slice a2 l'.length c2], (LSl LT).dat M l [.slice a1 l.length c1]] w') l.length
      ⟨_, 0, rfl, Nat.zero_le _, sl_back ⟨rfl, rfl, rfl, rfl, trivial⟩, rfl, H.sub (.refl _) (by simp)⟩ ?_
    clear H
    rintro m f w ⟨gg, k, rfl, hk', rfl, hsm, H⟩
    by_cases hlt : k < l.length
    · obtain ⟨x, hx⟩ : ∃ x, l[k]? = some x := ⟨_, List.getElem?_eq_getElem hlt⟩
      obtain ⟨y, hy⟩ : ∃ x, l'[k]? = some x := ⟨_, List.getElem?_eq_getElem (by omega)⟩
      obtain ⟨b, o, vs1, rfl, _, _, hr, H⟩ := H.elem (L := LT) (M := M) (l := l) (a := a1) (n := l.length) (c := c1) (by simp) k hx
      obtain ⟨b', o', vs2, rfl, _, _, hr', H⟩ := H.elem (L := LT) (M := M') (l := l') (a := a2) (n := l'.length) (c := c2) (by simp) k hy
      obtain ⟨a5, c5, rfl⟩ := rdT_four hr
      obtain ⟨a6, c6, rfl⟩ := rdT_four hr'
      rw [drop_at hx, drop_at hy, allSame] at hsm
      (repeat (first | refine qq ?_ | (refine qds H ?_; intro H) | (refine qrb H ?_; intro _ w H) | (refine qrs H ?_; intro w H) | (refine qdr H ?_; intro H)))
      refine WD_any 7 [[], [], [], [1, 2], [1, 2, 3], [0, 1, 2, 3, 4], [0, 1, 2, 3, 4, 5]] [(5, PV ((.bool (sameV x y))))] (by kernel_rfl) ?_ ?_ _ (by exact rfl) ?_
      · exact ⟨PV_stab, trivial⟩
      · refine ⟨?_, ?_, ?_, ?_, ?_, ?_, ?_, trivial⟩
        iterate 5 (· exact qob)
        · intro w hm
          have H := H.call hm
          iterate 5 refine qwr ?_
          refine qol ?_
          exact S_call2 _ _ (by exact rfl) (by exact rfl) (by exact rfl) (same_c x (H.dat (d := LT.dat M x [.int .i64 x.kind, .int .i64 x.int, .string x.name, .slice a5 x.args.length c5]) (by simp)) (H.dat (d := LT.dat M' y [.int .i64 y.kind, .int .i64 y.int, .string y.name, .slice a6 y.args.length c6]) (by simp))) fun v w' h => h
        · exact qob
      intro w hm
      have H := H.call hm
      iterate 5 refine qwr ?_
      refine qwl ?_; rintro _ rfl
      refine qwr ?_
      refine WR_nil ?_
      refine WD_end (by decide) ?_
      cases hb : sameV x y with
      | false =>
        rw [hb] at hsm
        (repeat (first | refine qq ?_ | (refine qds H ?_; intro H) | (refine qrb H ?_; intro _ w H) | (refine qrs H ?_; intro w H) | (refine qdr H ?_; intro H)))
        exact ⟨by rw [← hsm]; rfl, H.mod⟩
      | true =>
        rw [hb, Bool.true_and] at hsm
        (repeat (first | refine qq ?_ | (refine qds H ?_; intro H) | (refine qrb H ?_; intro _ w H) | (refine qrs H ?_; intro w H) | (refine qdr H ?_; intro H)))
        exact ⟨l.length - (k + 1), by omega, _, k + 1, rfl, by omega, sl_back ⟨rfl, rfl, rfl, rfl, trivial⟩, hsm, H.sub (.cons _ (.refl _)) (by simp)⟩
    · obtain rfl : k = l.length := by omega
      rw [List.drop_length, hl, List.drop_length] at hsm
      (repeat (first | refine qq ?_ | (refine qds H ?_; intro H) | (refine qrb H ?_; intro _ w H) | (refine qrs H ?_; intro w H) | (refine qdr H ?_; intro H)))
      exact ⟨by rw [← hsm]; rfl, H.mod⟩
  · rw [allSame_len hl]
    (repeat (first | refine qq ?_ | (refine qds H ?_; intro H) | (refine qrb H ?_; intro _ w H) | (refine qrs H ?_; intro w H) | (refine qdr H ?_; intro H)))
    exact ⟨rfl, H.mod⟩
end Go.Proofs.YtljpfnjpifhdlaaGreatDoor
namespace Go.Proofs.YtljpfnjpifhdlaaGreatDoor.Cu
open Go.RowKit
theorem cell_lt {w : World} {b o : Nat} {v : Value} (h : w.cell? ⟨b, o, none⟩ = some v) : b < w.heap.size := by
  unfold World.cell? at h
  rcases Nat.lt_or_ge b w.heap.size with h' | h'
  · exact h'
  · simp [Array.getElem?_eq_none h'] at h
theorem cell_of_block {w : World} {b T : Nat} {cs : Array Value} {fz : Nat × Nat} (h : w.heap[b]? = some (.cells cs T fz)) (o : Nat) : w.cell? ⟨b, o, none⟩ = cs[o]? := by
  simp [World.cell?, h]
theorem heap_new {w : World} {o : Obj} {b : Nat} (h : b = w.heap.size) : (w.alloc o).heap[b]? = some o := by
  subst h
  show (w.heap.push o)[w.heap.size]? = _
  simp
theorem heap_set {w : World} {b T o : Nat} {cs : Array Value} {fz : Nat × Nat} (v : Value) (h : w.heap[b]? = some (.cells cs T fz)) : (w.setCell ⟨b, o, none⟩ v).heap[b]? = some (.cells (cs.setIfInBounds o v) T fz) := by
  simp [World.setCell, Array.getElem?_modify, h]
theorem heap_set_other {w : World} {b b' o : Nat} (v : Value) (h : b' ≠ b) : (w.setCell ⟨b, o, none⟩ v).heap[b']? = w.heap[b']? := Below.heap_setCell _ _ _ _ h
theorem frozen_of_block {w : World} {b T : Nat} {cs : Array Value} (h : w.heap[b]? = some (.cells cs T (0, 0))) (o : Nat) : w.frozen? ⟨b, o, none⟩ = false := by
  simp [World.frozen?, h]
structure Wrote (F : List Nat) (w w' : World) : Prop where
  os : w'.os = w.os
  tape : w'.tape = w.tape
  output : w'.output = w.output
  size : w.heap.size ≤ w'.heap.size
  block : ∀ x : Nat, x < w.heap.size → x ∉ F → w'.heap[x]? = w.heap[x]?
  free : ∀ x : Nat, (∃ (cs : Array Value) (T : Nat), w.heap[x]? = some (Obj.cells cs T (0, 0))) → ∃ (cs : Array Value) (T : Nat), w'.heap[x]? = some (Obj.cells cs T (0, 0))
theorem Wrote.refl (F : List Nat) (w : World) : Wrote F w w := ⟨rfl, rfl, rfl, Nat.le_refl _, fun _ _ _ => rfl, fun _ h => h⟩
theorem Wrote.below {F : List Nat} {w w' : World} {B : Nat} (h : Wrote F w w') (hB : ∀ x ∈ F, B ≤ x) (hw : B ≤ w.heap.size) : Below B w w' :=
  ⟨h.os, h.tape, h.output, h.size, fun x hx => h.block x (by omega) (fun hm => by have := hB x hm; omega)⟩
theorem and_range (y : Int) (m : Nat) (hm : m < 2147483648) : 0 ≤ bits .and .i64 y (m : Int) ∧ bits .and .i64 y (m : Int) ≤ (m : Int) := by
  have h1 : (BitVec.ofInt 64 y &&& BitVec.ofInt 64 (m : Int)).toNat ≤ m := by
    rw [BitVec.toNat_and]
    have : (BitVec.ofInt 64 (m : Int)).toNat = m := by
      rw [BitVec.ofInt_natCast, BitVec.toNat_ofNat]
      exact Nat.mod_eq_of_lt (by omega)
    rw [this]
    exact Nat.and_le_right
  have h2 : bits .and .i64 y (m : Int) = ((BitVec.ofInt 64 y &&& BitVec.ofInt 64 (m : Int)).toNat : Int) := by
    show IntKind.i64.wrap ((BitVec.ofInt 64 y &&& BitVec.ofInt 64 (m : Int)).toNat : Int) = _
    exact IntWalk.i64_in _ (by omega)
  rw [h2]; omega

/-- a slice of bytes -/
def Bytes (w : World) (a : Option Addr) (l : Nat) : Prop := ∃ b o, (0 < l → a = some ⟨b, o, none⟩ ∧ b < w.heap.size) ∧ ∀ j, j < l → ∃ n : Int, 0 ≤ n ∧ n ≤ 255 ∧ w.cell? ⟨b, o + j, none⟩ = some (.int .u8 n)
theorem Bytes_below {w w' : World} {a : Option Addr} {l : Nat} (h : Bytes w a l) (hb : Below w.heap.size w w') : Bytes w' a l := by
  obtain ⟨b, o, h1, h2⟩ := h
  refine ⟨b, o, fun hp => ⟨(h1 hp).1, Nat.lt_of_lt_of_le (h1 hp).2 hb.size⟩, fun j hj => ?_⟩
  obtain ⟨n, h3, h4, h5⟩ := h2 j hj
  exact ⟨n, h3, h4, by rw [hb.cell (p := ⟨b, o + j, none⟩) (cell_lt h5)]; exact h5⟩

/-- the cursor over the bytes lies in block B, which is new since w0 -/
def CurAt (w0 w : World) (B : Nat) (a : Option Addr) (l cap : Nat) : Prop :=
  ∃ (i : Nat) (h : Int), i ≤ l ∧ w.heap[B]? = some (.cells #[.slice a l cap, .int .i64 i, .int .i64 h] 100 (0, 0)) ∧ w0.heap.size ≤ B ∧ Below w0.heap.size w0 w ∧ Bytes w0 a l

def ByteP (w0 w : World) (B : Nat) (a : Option Addr) (l cap : Nat) (e : Ending) (w' : World) : Prop :=
  ∃ x : Int, 0 ≤ x ∧ x ≤ 255 ∧ e = .returned (.int .i64 x) ∧ CurAt w0 w' B a l cap ∧ Wrote [B] w w'

theorem heap_set3 {w : World} {b T o : Nat} {x0 x1 x2 : Value} {fz : Nat × Nat} (v : Value) (h : w.heap[b]? = some (.cells #[x0, x1, x2] T fz)) : (w.setCell ⟨b, o, none⟩ v).heap[b]? = some (.cells (#[x0, x1, x2].setIfInBounds o v) T fz) := heap_set v h

theorem CurAt_end {w0 w w' : World} {B : Nat} {a : Option Addr} {l cap : Nat} (hB : w0.heap.size ≤ B) (hbel : Below w0.heap.size w0 w) (hby : Bytes w0 a l) {i : Nat} {h : Int} (hi : i ≤ l)
    (hbox : w'.heap[B]? = some (.cells #[.slice a l cap, .int .i64 i, .int .i64 h] 100 (0, 0))) (hw : Wrote [B] w w') : CurAt w0 w' B a l cap ∧ Wrote [B] w w' :=
  ⟨⟨i, h, hi, hbox, hB, hbel.trans (hw.below (fun x hx => by simp at hx; omega) hbel.size), hby⟩, hw⟩

set_option maxHeartbeats 1000000 in
set_option maxRecDepth 100000 in
theorem l01Byte_any (w0 w : World) (B : Nat) (a : Option Addr) (l cap : Nat) (hc : CurAt w0 w B a l cap) (hl : l ≤ 1000000000) :
    Calls Tryz.prog 19 #[.pointer (some ⟨B, 0, none⟩)] w (ByteP w0 w B a l cap) := by
  obtain ⟨i, h, hil, hbox, hB, hbel, hby⟩ := hc
  have q0 : w.cell? ⟨B, 0, none⟩ = some (.slice a l cap) := by simpa using cell_of_block hbox 0
  have q1 : w.cell? ⟨B, 1, none⟩ = some (.int .i64 i) := by simpa using cell_of_block hbox 1
  have q2 : w.cell? ⟨B, 2, none⟩ = some (.int .i64 h) := by simpa using cell_of_block hbox 2
  have qf := frozen_of_block hbox
  have HBOX := Lib.hid hbox; clear hbox
  by_cases hlt : i < l
  · obtain ⟨b, o, hb1, hb2⟩ := hby
    obtain ⟨rfl, hblt⟩ := hb1 (by omega)
    obtain ⟨n, hn0, hn1, hcell⟩ := hb2 i hlt
    rw [← hbel.cell (p := ⟨b, o + i, none⟩) hblt] at hcell
    have hbB : b ≠ B := by omega
    have HBY : Hid (Bytes w0 (some ⟨b, o, none⟩) l) := ⟨b, o, hb1, hb2⟩
    clear hb1 hb2
    go_enter Tryz.func19, Tryz.ntmps19
    go_wp2
    generalize wrap64 (wrap64 (h * 6364136223846793005) + 1442695040888963407) = h2
    go_quiet (fail)
    go_wp2
    generalize hx : bits BinOp.and IntKind.i64 (bits BinOp.xor IntKind.i64 (h2 / 8589934592) (h2 / 35184372088832)) 255 = x
    have hxr : 0 ≤ x ∧ x ≤ 255 := by rw [← hx]; exact and_range _ 255 (by omega)
    have hx0 := hxr.1
    have hx1 := hxr.2
    clear hx hxr
    go_quiet (fail)
    go_wp2
    go_quiet (fail)
    go_wp2
    generalize hy : bits BinOp.and IntKind.i64 (x + n) 255 = y
    have hyr : 0 ≤ y ∧ y ≤ 255 := by rw [← hy]; exact and_range _ 255 (by omega)
    go_ret
    refine ⟨y, hyr.1, hyr.2, rfl, CurAt_end hB hbel HBY.out (i := i + 1) (h := h2) (by omega) ?_ ?_⟩
    · have h0 := heap_set (o := 2) (.int .i64 h2) HBOX.out
      have h1 : ∀ k, ((w.setCell ⟨B, 2, none⟩ (.int .i64 h2)).drewN k).heap[B]? = some (.cells (#[.slice (some ⟨b, o, none⟩) l cap, .int .i64 i, .int .i64 h].setIfInBounds 2 (.int .i64 h2)) 100 (0, 0)) := fun k => h0
      refine (heap_set (o := 1) _ (h1 _)).trans ?_
      simp
    · exact ⟨rfl, rfl, rfl, by simp [World.setCell], fun z _ hz => by
        have hz' : z ≠ B := by simpa using hz
        rw [heap_set_other _ hz']; exact heap_set_other _ hz', fun z hz => by
        by_cases hzB : z = B
        · subst hzB; exact ⟨_, _, heap_set _ (heap_set _ HBOX.out)⟩
        · rw [heap_set_other _ hzB]; obtain ⟨cs, T, h'⟩ := hz; exact ⟨cs, T, (heap_set_other _ hzB).trans h'⟩⟩
  · obtain rfl : i = l := by omega
    have HBY := Lib.hid hby; clear hby
    have d1 : decide ((i : Int) < (i : Int)) = false := by simp
    have d2 : decide (i < i) = false := by simp
    go_enter Tryz.func19, Tryz.ntmps19
    go_wp2
    generalize wrap64 (wrap64 (h * 6364136223846793005) + 1442695040888963407) = h2
    go_quiet (fail)
    go_wp2
    generalize hx : bits BinOp.and IntKind.i64 (bits BinOp.xor IntKind.i64 (h2 / 8589934592) (h2 / 35184372088832)) 255 = x
    have hxr : 0 ≤ x ∧ x ≤ 255 := by rw [← hx]; exact and_range _ 255 (by omega)
    clear hx
    go_quiet (fail)
    go_wp2
    go_ret
    refine ⟨x, hxr.1, hxr.2, rfl, CurAt_end hB hbel HBY.out (i := i) (h := h2) (by omega) ?_ ?_⟩
    · have := heap_set (o := 2) (.int .i64 h2) HBOX.out
      simpa using this
    · exact ⟨rfl, rfl, rfl, by simp [World.setCell], fun z _ hz => by
        have hz' : z ≠ B := by simpa using hz
        exact heap_set_other _ hz', fun z hz => by
        by_cases hzB : z = B
        · subst hzB; exact ⟨_, _, heap_set _ HBOX.out⟩
        · obtain ⟨cs, T, h'⟩ := hz; exact ⟨cs, T, (heap_set_other _ hzB).trans h'⟩⟩

def NewP (w : World) (a : Option Addr) (l cap : Nat) (e : Ending) (w' : World) : Prop :=
  ∃ B, e = .returned (.pointer (some ⟨B, 0, none⟩)) ∧ CurAt w w' B a l cap

set_option maxHeartbeats 1000000 in
set_option maxRecDepth 100000 in
theorem l01New_any (w : World) (a : Option Addr) (l cap : Nat) (hby : Bytes w a l) (hl : l ≤ 1000000000) :
    Calls Tryz.prog 45 #[.slice a l cap] w (NewP w a l cap) := by
  obtain ⟨b, o, hb1, hb2⟩ := hby
  have HB1 := Lib.hid hb1; have HB2 := Lib.hid hb2
  clear hb1 hb2
  go_enter Tryz.func45, Tryz.ntmps45
  go_wp2
  go_loop [3, 4] (fun hv iv => ∃ (i : Nat) (h : Int), iv = .int .i64 i ∧ hv = .int .i64 h ∧ i ≤ l) (fun _ iv => l - (intOf iv).toNat)
  case atStart => exact ⟨0, _, rfl, rfl, by omega⟩
  case round =>
    obtain ⟨i, h, rfl, rfl, hi⟩ := hrel
    by_cases hgo : i < l ∧ i < 4000
    · obtain ⟨hil, hi4⟩ := hgo
      obtain ⟨rfl, hblt⟩ := HB1.out (by omega)
      obtain ⟨n, hn0, hn1, hcell⟩ := HB2.out i hil
      go_wp2
      go_round
      case rel => exact ⟨i + 1, _, by go_num, rfl, by omega⟩
      case measure => simp [intOf]; omega
    · have HBY : Hid (Bytes w a l) := ⟨b, o, HB1.out, HB2.out⟩
      by_cases hil : i < l
      · have hi4 : ¬ (i : Int) < 4000 := by omega
        have d4 : decide ((i : Int) < 4000) = false := by simp; omega
        have d5 : decide (i < 4000) = false := by simp; omega
        clear hgo
        go_wp2
        go_ret
        refine ⟨w.heap.size, rfl, 0, h, by omega, heap_new rfl, Nat.le_refl _, (Below.refl _ _).alloc (Nat.le_refl _) _, HBY.out⟩
      · have d4 : decide ((i : Int) < (l : Int)) = false := by simp; omega
        have d5 : decide (i < l) = false := by simp; omega
        clear hgo
        go_wp2
        go_ret
        refine ⟨w.heap.size, rfl, 0, h, by omega, heap_new rfl, Nat.le_refl _, (Below.refl _ _).alloc (Nat.le_refl _) _, HBY.out⟩

set_option maxHeartbeats 1000000 in
set_option maxRecDepth 100000 in
theorem l43New_any (w : World) (a : Option Addr) (l cap n : Nat) (hby : Bytes w a l) (hl : l ≤ 1000000000) (hn : n ≤ 1000000) :
    Calls Tryz.prog 18 #[.slice a l cap, .int .i64 n] w (NewP w a l cap) := by
  go_enter Tryz.func18, Tryz.ntmps18
  go_wp2_with fail
  refine (l01New_any w a l cap hby hl).mono ?_
  rintro e w1 ⟨B, rfl, hcur⟩
  go_wp2_with fail
  go_loopw [6] (fun iv wr => ∃ i : Nat, iv = .int .i64 i ∧ i ≤ n ∧ CurAt w wr B a l cap) (fun iv _ => n - (intOf iv).toNat)
  case atStart => exact ⟨0, rfl, by omega, hcur⟩
  case round =>
    obtain ⟨i, rfl, hi, hcur'⟩ := hrel
    by_cases hin : i < n
    · go_wp2_with fail
      refine (l01Byte_any w wr B a l cap hcur' hl).mono ?_
      rintro e w2 ⟨x, hx0, hx1, rfl, hcur2, hwr⟩
      go_wp2
      go_roundw
      case rel => exact ⟨i + 1, by go_num, by omega, hcur2⟩
      case measure => simp [intOf]; omega
    · go_wp2
      go_ret
      exact ⟨B, rfl, hcur'⟩

def NumP (w : World) (e : Ending) (w' : World) : Prop := ∃ x : Int, 0 ≤ x ∧ x ≤ 65535 ∧ e = .returned (.int .i64 x) ∧ Below w.heap.size w w'

set_option maxHeartbeats 1000000 in
set_option maxRecDepth 100000 in
theorem MakeNum_any (w : World) (a : Option Addr) (l cap n : Nat) (hby : Bytes w a l) (hl : l ≤ 1000000000) (hn : n ≤ 1000000) :
    Calls Tryz.prog 7 #[.slice a l cap, .int .i64 n] w (NumP w) := by
  go_enter Tryz.func7, Tryz.ntmps7
  go_wp2_with fail
  refine (l43New_any w a l cap n hby hl hn).mono ?_
  rintro e w1 ⟨B, rfl, hcur⟩
  go_wp2_with fail
  refine (l01Byte_any w w1 B a l cap hcur hl).mono ?_
  rintro e w2 ⟨x, hx0, hx1, rfl, hcur2, _⟩
  go_wp2_with fail
  refine (l01Byte_any w w2 B a l cap hcur2 hl).mono ?_
  rintro e w3 ⟨y, hy0, hy1, rfl, hcur3, _⟩
  go_wp2
  go_ret
  obtain ⟨_, _, _, _, _, hbel, _⟩ := hcur3
  exact ⟨x * 256 + y, by omega, by omega, rfl, hbel⟩
end Go.Proofs.YtljpfnjpifhdlaaGreatDoor.Cu
namespace Go.Proofs.YtljpfnjpifhdlaaGreatDoor
open Go
theorem MakeNum_c {a : Option Addr} {l cap n : Nat} {w : World} (hby : Cu.Bytes w a l) (hl : l ≤ 1000000000) (hn : n ≤ 1000000) :
    Calls Tryz.prog 7 #[.slice a l cap, .int .i64 (n : Nat)] w (Ret fun v w' => (∃ x : Nat, x ≤ 65535 ∧ v = .int .i64 (x : Nat)) ∧ Mod [] w w') := by
  refine (Cu.MakeNum_any w a l cap n hby hl hn).mono ?_
  rintro e w' ⟨x, h1, h2, rfl, h3⟩
  obtain ⟨k, rfl⟩ : ∃ k : Nat, x = (k : Nat) := ⟨x.toNat, by omega⟩
  exact ⟨_, rfl, ⟨k, by omega, rfl⟩, Mod.of_below h3⟩
end Go.Proofs.YtljpfnjpifhdlaaGreatDoor
namespace Go.Proofs.YtljpfnjpifhdlaaGreatDoor
open Go
/-- the variable that Atoi's error reads -/
def eVar : Dat := ⟨fun M w => ∃ gb tp p T fz, Tryz.prog.globalNamed "strconv.ErrSyntax" = some gb ∧ ¬ M gb ∧ gb < w.heap.size ∧ w.heap[gb]? = some (.cells #[.iface tp p] T fz),
  fun M w w' h ⟨gb, tp, p, T, fz, h1, h2, h3, h4⟩ => ⟨gb, tp, p, T, fz, h1, h2, lt_keep h h3 h2, by rw [h gb h3 h2]; exact h4⟩,
  fun M M' w h ⟨gb, tp, p, T, fz, h1, h2, h3, h4⟩ => ⟨gb, tp, p, T, fz, h1, fun hm => h2 (h gb h3 hm), h3, h4⟩⟩
theorem eVar_at {M : Nat → Prop} {w : World} (h : eVar.ok M w) : ∃ tp p, w.var? Tryz.prog "strconv.ErrSyntax" = some #[.iface tp p] := by
  obtain ⟨gb, tp, p, T, fz, h1, h2, h3, h4⟩ := h
  exact ⟨tp, p, by simp [World.var?, h1, h4]⟩
section
variable {P : Program} {w : World} {r : Operand → Value} {d : Option Tmp} {ty : TypeId} {pos : String} {aft : Array Edge} {g : Option (Nat × Bool)} {xt yt : TypeId} {K : Value → World → Prop}
theorem methods_of {ms : Array (String × TypeId)} (hu : P.underlying xt = some (.interface ms)) : P.underlying xt = some (.interface (P.methodsAt xt)) := by
  unfold Program.methodsAt
  rw [hu]
theorem S_ineqT (x : Operand) {ms : Array (String × TypeId)} (hu : P.underlying xt = some (.interface ms)) {tp : TypeId} {v : Value} (hx : r x = .iface tp v) (hy : r (.const .nilIface) = .nilIface) (k : K (.bool true) w) : OS P ⟨d, .binOp .neq xt x (.const .nilIface) yt, ty, pos, aft, g⟩ r w K := by
  refine S_run ?_ k
  have h := run_neq_held_nil w xt tp v (methods_of hu)
  simp only [execOp, hx, hy, eqGuard, Sem.run_bind]
  show Result.andThen (Sem.run P (binOp .neq xt (.iface tp v) .nilIface) w) (fun a w' => Sem.run P (pure (Next.value a)) w') = _
  rw [h]; rfl
theorem S_ineqF (x : Operand) {ms : Array (String × TypeId)} (hu : P.underlying xt = some (.interface ms)) (hx : r x = .nilIface) (hy : r (.const .nilIface) = .nilIface) (k : K (.bool false) w) : OS P ⟨d, .binOp .neq xt x (.const .nilIface) yt, ty, pos, aft, g⟩ r w K := by
  refine S_run ?_ k
  have h := run_neq_nil_nil w xt (methods_of hu)
  simp only [execOp, hx, hy, eqGuard, Sem.run_bind]
  have e : Result.andThen (Sem.run P (binOp .neq xt .nilIface .nilIface) w) (fun a w' => Sem.run P (pure (Next.value a)) w') = .ok (.value (.bool false)) w := by rw [h]; rfl
  cases x <;> exact e
end
def dig (d : Nat) : ByteArray := ⟨#[UInt8.ofNat (48 + d)]⟩
theorem dig_atoi {d : Nat} (h : d < 10) : Lib.atoi (dig d).data.toList = some (d : Int) := by
  have : d = 0 ∨ d = 1 ∨ d = 2 ∨ d = 3 ∨ d = 4 ∨ d = 5 ∨ d = 6 ∨ d = 7 ∨ d = 8 ∨ d = 9 := by omega
  rcases this with rfl | rfl | rfl | rfl | rfl | rfl | rfl | rfl | rfl | rfl <;> rfl
theorem dig_dec {d : Nat} (h : d < 10) : (⟨(Lib.decDigits d).toArray⟩ : ByteArray) = dig d := by
  rw [Lib.decDigits, dif_pos h]; rfl
theorem letter_atoi {s : ByteArray} (h : lowB (s.data.toList.getD 0 0).toNat = true) : Lib.atoi s.data.toList = none := by
  cases hs : s.data.toList with
  | nil => rfl
  | cons b r =>
    rw [hs] at h
    simp only [List.getD_cons_zero, lowB, Bool.and_eq_true, decide_eq_true_eq] at h
    have h1 : (b == 45) = false := by
      rw [beq_eq_false_iff_ne]; rintro rfl; simp at h
    have h2 : (b == 43) = false := by
      rw [beq_eq_false_iff_ne]; rintro rfl; simp at h
    have h3 : Lib.digitVal b = none := by
      unfold Lib.digitVal; rw [if_neg (by omega)]
    simp [Lib.atoi, h1, h2, Lib.decNat, Lib.decFrom, h3]
theorem Atoi_c {k : Nat} (hk : k < 10) (w : World) : Calls Tryz.prog 70 #[.string (dig k)] w (Ret fun v w' => v = .tuple #[.int .i64 (k : Nat), .nilIface] ∧ Mod [] w w') := by
  refine (Tryz.strconv_Atoi (dig k) k (by simp [dig, ByteArray.size]) (dig_atoi hk) w).mono ?_
  rintro e w' ⟨rfl, t, rfl⟩
  exact ⟨_, rfl, rfl, Mod.of_below (Lib.bytesWorld_below _ _ _)⟩
theorem Atoi_no {s : ByteArray} (hs : s.size ≤ 12) (h : lowB (s.data.toList.getD 0 0).toNat = true) {M : Nat → Prop} {w : World} (hv : eVar.ok M w) : Calls Tryz.prog 70 #[.string s] w (Ret fun v w' => (∃ tp' p', v = .tuple #[.int .i64 0, .iface tp' p']) ∧ Mod [] w w') := by
  obtain ⟨tp, p, hvar⟩ := eVar_at hv
  refine (Tryz.strconv_Atoi_err_var s (by omega) (letter_atoi h) tp p w hvar).mono ?_
  rintro e w' ⟨N, rfl, _, _, hb⟩
  exact ⟨_, rfl, ⟨_, _, rfl⟩, Mod.of_below hb⟩
theorem Itoa_c {k : Nat} (hk : k < 10) (w : World) : Calls Tryz.prog 71 #[.int .i64 (k : Nat)] w (Ret fun v w' => v = .string (dig k) ∧ Mod [] w w') := by
  refine (Tryz.strconv_Itoa_small k (by omega) w).mono ?_
  rintro e w' ⟨rfl, rfl⟩
  exact ⟨_, rfl, by rw [dig_dec hk], Mod.refl _ _⟩
set_option maxHeartbeats 1000000 in
set_option maxRecDepth 100000 in
theorem ParseInt_c {k : Nat} (hk : k < 10) (w : World) : Calls Tryz.prog 35 #[.string (dig k)] w (Ret fun v w' => v = .tuple #[.int .i64 (k : Nat), .bool true] ∧ Mod [] w w') := by
  refine enter2 Tryz.func35 rfl Tryz.ntmps35 rfl (by simp) ?_
  have H := Holds.start w []
  (repeat (first | refine qq ?_ | (refine qds H ?_; intro H) | (refine qrb H ?_; intro _ w H) | (refine qrs H ?_; intro w H) | (refine qdr H ?_; intro H)))
  refine qa1 (hc := Atoi_c hk w) (k := ?_)
  rintro _ w ⟨rfl, hm⟩
  have H := H.call hm
  (repeat (first | refine qq ?_ | (refine qds H ?_; intro H) | (refine qrb H ?_; intro _ w H) | (refine qrs H ?_; intro w H) | (refine qdr H ?_; intro H)))
  refine WO_s rfl (S_ineqF _ Tryz.underlying130 (by exact rfl) (by exact rfl) ?_)
  (repeat (first | refine qq ?_ | (refine qds H ?_; intro H) | (refine qrb H ?_; intro _ w H) | (refine qrs H ?_; intro w H) | (refine qdr H ?_; intro H)))
  refine WO_g rfl rfl (by exact rfl) (S_call1 _ (by exact rfl) (by exact rfl) (Itoa_c hk w) ?_)
  rintro _ w ⟨rfl, hm⟩
  have H := H.call hm
  (repeat (first | refine qq ?_ | (refine qds H ?_; intro H) | (refine qrb H ?_; intro _ w H) | (refine qrs H ?_; intro w H) | (refine qdr H ?_; intro H)))
  exact ⟨rfl, H.mod⟩
set_option maxHeartbeats 1000000 in
set_option maxRecDepth 100000 in
theorem ParseInt_no {s : ByteArray} (hs : s.size ≤ 12) (h : lowB (s.data.toList.getD 0 0).toNat = true) {M : Nat → Prop} {w : World} (hv : eVar.ok M w) : Calls Tryz.prog 35 #[.string s] w (Ret fun v w' => v = .tuple #[.int .i64 0, .bool false] ∧ Mod [] w w') := by
  refine enter2 Tryz.func35 rfl Tryz.ntmps35 rfl (by simp) ?_
  have H := Holds.start w []
  (repeat (first | refine qq ?_ | (refine qds H ?_; intro H) | (refine qrb H ?_; intro _ w H) | (refine qrs H ?_; intro w H) | (refine qdr H ?_; intro H)))
  refine qa1 (hc := Atoi_no hs h hv) (k := ?_)
  rintro _ w ⟨⟨tp', p', rfl⟩, hm⟩
  have H := H.call hm
  (repeat (first | refine qq ?_ | (refine qds H ?_; intro H) | (refine qrb H ?_; intro _ w H) | (refine qrs H ?_; intro w H) | (refine qdr H ?_; intro H)))
  refine WO_s rfl (S_ineqT _ Tryz.underlying130 (by exact rfl) (by exact rfl) ?_)
  (repeat (first | refine qq ?_ | (refine qds H ?_; intro H) | (refine qrb H ?_; intro _ w H) | (refine qrs H ?_; intro w H) | (refine qdr H ?_; intro H)))
  exact ⟨rfl, H.mod⟩
set_option maxRecDepth 100000 in
theorem FormatInt_c {k : Nat} (hk : k < 10) (w : World) : Calls Tryz.prog 37 #[.int .i64 (k : Nat)] w (Ret fun v w' => v = .string (dig k) ∧ Mod [] w w') := by
  refine enter1 Tryz.func37 rfl Tryz.ntmps37 rfl (by simp) ?_
  have H := Holds.start w []
  (repeat (first | refine qq ?_ | (refine qds H ?_; intro H) | (refine qrb H ?_; intro _ w H) | (refine qrs H ?_; intro w H) | (refine qdr H ?_; intro H)))
  refine qa1 (hc := Itoa_c hk w) (k := ?_)
  rintro _ w ⟨rfl, hm⟩
  have H := H.call hm
  (repeat (first | refine qq ?_ | (refine qds H ?_; intro H) | (refine qrb H ?_; intro _ w H) | (refine qrs H ?_; intro w H) | (refine qdr H ?_; intro H)))
  exact ⟨rfl, H.mod⟩
end Go.Proofs.YtljpfnjpifhdlaaGreatDoor
namespace Go.Proofs.YtljpfnjpifhdlaaGreatDoor
open Go
def peekV (l : List ByteArray) (i : Nat) : ByteArray := (l[i]?).getD ⟨#[]⟩
def takeV (l : List ByteArray) (i : Nat) (s : ByteArray) : Bool := decide (l[i]? = some s)
abbrev rcells (a : Option Addr) (l : List ByteArray) (c i : Nat) : List Value := [.slice a l.length c, .int .i64 (i : Nat)]
abbrev tkA (r : Nat) (a : Option Addr) (l : List ByteArray) (c : Nat) (i : Nat) : List Atom := [box r (rcells a l c i) 64]
theorem cell_lt {w : World} {p : Addr} {v : Value} (h : w.cell? p = some v) : p.block < w.heap.size := World.block_lt_of_cell? w p h
set_option maxHeartbeats 1000000 in
set_option maxRecDepth 100000 in
theorem done_c {l : List ByteArray} {i r c : Nat} {a : Option Addr} {w : World} (hc : Cells w r 0 (rcells a l c i)) :
    Calls Tryz.prog 15 #[.pointer (some ⟨r, 0, none⟩)] w (Ret fun v w' => v = .bool (Nat.beq i l.length) ∧ Mod [] w w') := by
  refine enter1 Tryz.func15 rfl Tryz.ntmps15 rfl (by simp) ?_
  have H := (Holds.start w []).add (d := dcells r 0 (rcells a l c i)) ⟨by simp [owns], cell_lt (hc 0 _ rfl), hc⟩
  (repeat (first | refine qq ?_ | (refine qds H ?_; intro H) | (refine qrb H ?_; intro _ w H) | (refine qrs H ?_; intro w H) | (refine qdr H ?_; intro H)))
  refine WD_any 10 [[], [0], [0, 1], [0, 1, 2], [], [4], [4, 5], [4, 5, 6], [4, 5, 6, 7], [0, 1, 2, 3, 4, 5, 6, 7, 8]] [] (by kernel_rfl) ?_ ?_ _ (by exact rfl) ?_
  · exact trivial
  · refine ⟨?_, ?_, ?_, ?_, ?_, ?_, ?_, ?_, ?_, ?_, trivial⟩
    iterate 10 (· exact qob)
  intro w hm
  have H := H.call hm
  iterate 10 refine qwr ?_
  refine WR_nil ?_
  refine WD_rd (by kernel_rfl) rfl rfl (X_as (v := .bool _) _ (by exact rfl)) (WD_end (by decide) ?_)
  (repeat (first | refine qq ?_ | (refine qds H ?_; intro H) | (refine qrb H ?_; intro _ w H) | (refine qrs H ?_; intro w H) | (refine qdr H ?_; intro H)))
  refine ⟨?_, H.mod⟩
  show Value.bool ((i : Int) == (l.length : Int)) = _
  congr 1
  cases h : Nat.beq i l.length with
  | true => have := beq_of h; simp [this]
  | false => have := beq_ne h; rw [beq_eq_false_iff_ne]; omega
set_option maxHeartbeats 1000000 in
set_option maxRecDepth 100000 in
theorem peek_c {l : List ByteArray} {i r c : Nat} {a : Option Addr} {M : Nat → Prop} {w : World} (hc : Cells w r 0 (rcells a l c i)) (hl : (LSl LStr).rd M w l [.slice a l.length c]) :
    Calls Tryz.prog 34 #[.pointer (some ⟨r, 0, none⟩)] w (Ret fun v w' => v = .string (peekV l i) ∧ Mod [] w w') := by
  refine enter1 Tryz.func34 rfl Tryz.ntmps34 rfl (by simp) ?_
  have H := ((Holds.start w []).arg (L := LSl LStr) hl).add (d := dcells r 0 (rcells a l c i)) ⟨by simp [owns], cell_lt (hc 0 _ rfl), hc⟩
  (repeat (first | refine qq ?_ | (refine qds H ?_; intro H) | (refine qrb H ?_; intro _ w H) | (refine qrs H ?_; intro w H) | (refine qdr H ?_; intro H)))
  refine WD_any 10 [[], [0], [0, 1], [0, 1, 2], [], [4], [4, 5], [4, 5, 6], [4, 5, 6, 7], [0, 1, 2, 3, 4, 5, 6, 7, 8]] [] (by kernel_rfl) ?_ ?_ _ (by exact rfl) ?_
  · exact trivial
  · refine ⟨?_, ?_, ?_, ?_, ?_, ?_, ?_, ?_, ?_, ?_, trivial⟩
    iterate 10 (· exact qob)
  intro w hm
  have H := H.call hm
  iterate 10 refine qwr ?_
  refine WR_nil ?_
  refine WD_end (by decide) ?_
  by_cases hlt : i < l.length
  · obtain ⟨s, hs⟩ : ∃ s, l[i]? = some s := ⟨_, List.getElem?_eq_getElem hlt⟩
    obtain ⟨b, o, vs, rfl, _, _, hr, H⟩ := H.elem (L := LStr) (M := M) (l := l) (a := a) (n := l.length) (c := c) (by simp) i hs
    have hr : vs = [.string s] := hr
    subst hr
    (repeat (first | refine qq ?_ | (refine qds H ?_; intro H) | (refine qrb H ?_; intro _ w H) | (refine qrs H ?_; intro w H) | (refine qdr H ?_; intro H)))
    refine WD_any 10 [[], [0], [0, 1], [0, 1, 2], [], [4], [4, 5], [4, 5, 6], [0, 1, 2, 3, 4, 5, 6, 7], [0, 1, 2, 3, 4, 5, 6, 7, 8]] [] (by kernel_rfl) ?_ ?_ _ (by exact rfl) ?_
    · exact trivial
    · refine ⟨?_, ?_, ?_, ?_, ?_, ?_, ?_, ?_, ?_, ?_, trivial⟩
      iterate 10 (· exact qob)
    intro w hm
    have H := H.call hm
    iterate 10 refine qwr ?_
    refine WR_nil ?_
    refine WD_rd (by kernel_rfl) rfl rfl (X_as (v := .string _) _ (by exact rfl)) (WD_end (by decide) ?_)
    (repeat (first | refine qq ?_ | (refine qds H ?_; intro H) | (refine qrb H ?_; intro _ w H) | (refine qrs H ?_; intro w H) | (refine qdr H ?_; intro H)))
    exact ⟨by rw [peekV, hs]; rfl, H.mod⟩
  · (repeat (first | refine qq ?_ | (refine qds H ?_; intro H) | (refine qrb H ?_; intro _ w H) | (refine qrs H ?_; intro w H) | (refine qdr H ?_; intro H)))
    exact ⟨by rw [peekV, List.getElem?_eq_none (by omega)]; rfl, H.mod⟩
abbrev tkD (l : List ByteArray) (a : Option Addr) (c : Nat) (_ : Nat) : List Dat := [(LSl LStr).dat (fun _ => False) l [.slice a l.length c]]
theorem In.toks {r c i : Nat} {l : List ByteArray} {a : Option Addr} {M : Nat → Prop} {w : World} (h : In (tkA r a l c) (tkD l a c) M i w) : (LSl LStr).rd M w l [.slice a l.length c] :=
  (LSl LStr).grow _ _ _ _ _ (fun _ _ hb => .inr hb) (h.2.2.2 ((LSl LStr).dat (fun _ => False) l [.slice a l.length c]) (by simp))
set_option maxHeartbeats 1000000 in
set_option maxRecDepth 100000 in
theorem take_c {l : List ByteArray} {i r c : Nat} {a : Option Addr} {M : Nat → Prop} {w : World} {s : ByteArray} (hl : l.length ≤ 100000) (hin : In (tkA r a l c) (tkD l a c) M i w) :
    Calls Tryz.prog 33 #[.pointer (some ⟨r, 0, none⟩), .string s] w (Ret fun v w' => v = .bool (takeV l i s) ∧ Out (tkA r a l c) (tkD l a c) M i (bif takeV l i s then i + 1 else i) w w') := by
  refine enter1 Tryz.func33 rfl Tryz.ntmps33 rfl (by simp) ?_
  have H := hin.begin
  have H := H.add (d := (LSl LStr).dat M l [.slice a l.length c]) ((LSl LStr).grow _ _ _ _ _ (fun b _ hb => hb.elim id (hin.2.1 b)) hin.toks)
  (repeat (first | refine qq ?_ | (refine qds H ?_; intro H) | (refine qrb H ?_; intro _ w H) | (refine qrs H ?_; intro w H) | (refine qdr H ?_; intro H)))
  by_cases hpe : peekV l i = s
  · by_cases hlt : i < l.length
    · have ht : takeV l i s = true := by
        obtain ⟨x, hx⟩ : ∃ x, l[i]? = some x := ⟨_, List.getElem?_eq_getElem hlt⟩
        rw [peekV, hx] at hpe
        simpa [takeV, hx] using hpe
      rw [ht]
      refine WD_any 16 [[], [0], [], [0, 1, 2], [0, 1, 2, 3], [0, 1, 2, 3, 4], [0, 1, 2, 3, 4, 5], [0, 1, 2, 3, 4, 5, 6], [0, 1, 2, 3, 4, 5, 6, 7], [0, 1, 2, 3, 4], [0, 1, 2, 3, 4, 9], [0, 1, 2, 3, 4, 9, 10], [0, 1, 2, 3, 4, 9, 10, 11], [0, 1, 2, 3, 4, 9, 10, 11, 12], [0, 1, 2, 3, 4, 5, 6, 7, 8, 9, 10, 11, 12, 13], [0, 1, 2, 3, 4, 5, 6, 7, 8, 9, 10, 11, 12, 13, 14]] [(1, PV ((.string (peekV l i))))] (by kernel_rfl) ?_ ?_ _ (by exact rfl) ?_
      · exact ⟨PV_stab, trivial⟩
      · refine ⟨?_, ?_, ?_, ?_, ?_, ?_, ?_, ?_, ?_, ?_, ?_, ?_, ?_, ?_, ?_, ?_, trivial⟩
        · exact qob
        · intro w hm
          have H := H.call hm
          refine qwr ?_
          refine qol ?_
          exact S_call1 _ (by exact rfl) (by exact rfl) (peek_c (H.bcells 0 2 rfl rfl) (H.dat (d := (LSl LStr).dat M l [.slice a l.length c]) (by simp))) fun v w' h => h
        · exact qob
        · intro w hm
          have H := H.call hm
          refine qwr ?_
          refine qwl ?_; rintro _ rfl
          refine qwr ?_
          exact OA_rd rfl (by exact rfl) (X_seT _ _ (by exact rfl) (by exact rfl) hpe)
        · intro w hm
          have H := H.call hm
          refine qwr ?_
          refine qwl ?_; rintro _ rfl
          refine qwr ?_
          refine WR_rd rfl (by exact rfl) (X_seT _ _ (by exact rfl) (by exact rfl) hpe) ?_
          exact qoa
        · intro w hm
          have H := H.call hm
          refine qwr ?_
          refine qwl ?_; rintro _ rfl
          refine qwr ?_
          refine WR_rd rfl (by exact rfl) (X_seT _ _ (by exact rfl) (by exact rfl) hpe) ?_
          refine qwr ?_
          first | exact qon | exact qoa
        · intro w hm
          have H := H.call hm
          refine qwr ?_
          refine qwl ?_; rintro _ rfl
          refine qwr ?_
          refine WR_rd rfl (by exact rfl) (X_seT _ _ (by exact rfl) (by exact rfl) hpe) ?_
          refine qwr ?_
          (first | refine qwn ?_ | refine qwg ?_)
          first | exact qon | exact qoa
        · intro w hm
          have H := H.call hm
          refine qwr ?_
          refine qwl ?_; rintro _ rfl
          refine qwr ?_
          refine WR_rd rfl (by exact rfl) (X_seT _ _ (by exact rfl) (by exact rfl) hpe) ?_
          refine qwr ?_
          (first | refine qwn ?_ | refine qwg ?_)
          (first | refine qwn ?_ | refine qwg ?_)
          first | exact qon | exact qoa
        · intro w hm
          have H := H.call hm
          refine qwr ?_
          refine qwl ?_; rintro _ rfl
          refine qwr ?_
          refine WR_rd rfl (by exact rfl) (X_seT _ _ (by exact rfl) (by exact rfl) hpe) ?_
          refine qwr ?_
          iterate 3 (first | refine qwn ?_ | refine qwg ?_)
          first | exact qon | exact qoa
        · intro w hm
          have H := H.call hm
          refine qwr ?_
          refine qwl ?_; rintro _ rfl
          refine qwr ?_
          refine WR_rd rfl (by exact rfl) (X_seT _ _ (by exact rfl) (by exact rfl) hpe) ?_
          refine qwr ?_
          first | exact qon | exact qoa
        · intro w hm
          have H := H.call hm
          refine qwr ?_
          refine qwl ?_; rintro _ rfl
          refine qwr ?_
          refine WR_rd rfl (by exact rfl) (X_seT _ _ (by exact rfl) (by exact rfl) hpe) ?_
          refine qwr ?_
          (first | refine qwn ?_ | refine qwg ?_)
          first | exact qon | exact qoa
        · intro w hm
          have H := H.call hm
          refine qwr ?_
          refine qwl ?_; rintro _ rfl
          refine qwr ?_
          refine WR_rd rfl (by exact rfl) (X_seT _ _ (by exact rfl) (by exact rfl) hpe) ?_
          refine qwr ?_
          (first | refine qwn ?_ | refine qwg ?_)
          (first | refine qwn ?_ | refine qwg ?_)
          first | exact qon | exact qoa
        · intro w hm
          have H := H.call hm
          refine qwr ?_
          refine qwl ?_; rintro _ rfl
          refine qwr ?_
          refine WR_rd rfl (by exact rfl) (X_seT _ _ (by exact rfl) (by exact rfl) hpe) ?_
          refine qwr ?_
          iterate 3 (first | refine qwn ?_ | refine qwg ?_)
          first | exact qon | exact qoa
        · intro w hm
          have H := H.call hm
          refine qwr ?_
          refine qwl ?_; rintro _ rfl
          refine qwr ?_
          refine WR_rd rfl (by exact rfl) (X_seT _ _ (by exact rfl) (by exact rfl) hpe) ?_
          refine qwr ?_
          iterate 4 (first | refine qwn ?_ | refine qwg ?_)
          first | exact qon | exact qoa
        · intro w hm
          have H := H.call hm
          refine qwr ?_
          refine qwl ?_; rintro _ rfl
          refine qwr ?_
          refine WR_rd rfl (by exact rfl) (X_seT _ _ (by exact rfl) (by exact rfl) hpe) ?_
          refine qwr ?_
          iterate 9 (first | refine qwn ?_ | refine qwg ?_)
          (first | exact qon | exact OA_rd rfl (by exact rfl) (X_lssT _ _ (by exact rfl) (by exact rfl) (by omega)))
        · intro w hm
          have H := H.call hm
          refine qwr ?_
          refine qwl ?_; rintro _ rfl
          refine qwr ?_
          refine WR_rd rfl (by exact rfl) (X_seT _ _ (by exact rfl) (by exact rfl) hpe) ?_
          refine qwr ?_
          iterate 9 (first | refine qwn ?_ | refine qwg ?_)
          (first | refine qwn ?_ | refine WR_readG rfl rfl rfl (by exact rfl) (by exact rfl) (X_lssT _ _ (by exact rfl) (by exact rfl) (by omega)) ?_)
          exact qoa
      intro w hm
      have H := H.call hm
      refine qwr ?_
      refine qwl ?_; rintro _ rfl
      refine qwr ?_
      refine WR_rd rfl (by exact rfl) (X_seT _ _ (by exact rfl) (by exact rfl) hpe) ?_
      refine qwr ?_
      iterate 9 (first | refine qwn ?_ | refine qwg ?_)
      (first | refine qwn ?_ | refine WR_readG rfl rfl rfl (by exact rfl) (by exact rfl) (X_lssT _ _ (by exact rfl) (by exact rfl) (by omega)) ?_)
      refine qwr ?_
      refine WR_nil ?_
      refine WD_end (by decide) ?_
      (repeat (first | refine qq ?_ | (refine qds H ?_; intro H) | (refine qrb H ?_; intro _ w H) | (refine qrs H ?_; intro w H) | (refine qdr H ?_; intro H)))
      exact ⟨rfl, H.outOf (M := M) (s' := i + 1) (A1 := []) (As := tkA r a l c) (ds := tkD l a c) rfl rfl (by simp)⟩
    · have ht : takeV l i s = false := by simp [takeV, List.getElem?_eq_none (show l.length ≤ i by omega)]
      rw [ht]
      refine WD_any 16 [[], [0], [], [0, 1, 2], [0, 1, 2, 3], [0, 1, 2, 3, 4], [0, 1, 2, 3, 4, 5], [0, 1, 2, 3, 4, 5, 6], [0, 1, 2, 3, 4, 5, 6, 7], [0, 1, 2, 3, 4], [0, 1, 2, 3, 4, 9], [0, 1, 2, 3, 4, 9, 10], [0, 1, 2, 3, 4, 9, 10, 11], [0, 1, 2, 3, 4, 9, 10, 11, 12], [0, 1, 2, 3, 4, 5, 6, 7, 8, 9, 10, 11, 12, 13], [0, 1, 2, 3, 4, 5, 6, 7, 8, 9, 10, 11, 12, 13, 14]] [(1, PV ((.string (peekV l i))))] (by kernel_rfl) ?_ ?_ _ (by exact rfl) ?_
      · exact ⟨PV_stab, trivial⟩
      · refine ⟨?_, ?_, ?_, ?_, ?_, ?_, ?_, ?_, ?_, ?_, ?_, ?_, ?_, ?_, ?_, ?_, trivial⟩
        · exact qob
        · intro w hm
          have H := H.call hm
          refine qwr ?_
          refine qol ?_
          exact S_call1 _ (by exact rfl) (by exact rfl) (peek_c (H.bcells 0 2 rfl rfl) (H.dat (d := (LSl LStr).dat M l [.slice a l.length c]) (by simp))) fun v w' h => h
        · exact qob
        · intro w hm
          have H := H.call hm
          refine qwr ?_
          refine qwl ?_; rintro _ rfl
          refine qwr ?_
          exact OA_rd rfl (by exact rfl) (X_seT _ _ (by exact rfl) (by exact rfl) hpe)
        · intro w hm
          have H := H.call hm
          refine qwr ?_
          refine qwl ?_; rintro _ rfl
          refine qwr ?_
          refine WR_rd rfl (by exact rfl) (X_seT _ _ (by exact rfl) (by exact rfl) hpe) ?_
          exact qoa
        · intro w hm
          have H := H.call hm
          refine qwr ?_
          refine qwl ?_; rintro _ rfl
          refine qwr ?_
          refine WR_rd rfl (by exact rfl) (X_seT _ _ (by exact rfl) (by exact rfl) hpe) ?_
          refine qwr ?_
          first | exact qon | exact qoa
        · intro w hm
          have H := H.call hm
          refine qwr ?_
          refine qwl ?_; rintro _ rfl
          refine qwr ?_
          refine WR_rd rfl (by exact rfl) (X_seT _ _ (by exact rfl) (by exact rfl) hpe) ?_
          refine qwr ?_
          (first | refine qwn ?_ | refine qwg ?_)
          first | exact qon | exact qoa
        · intro w hm
          have H := H.call hm
          refine qwr ?_
          refine qwl ?_; rintro _ rfl
          refine qwr ?_
          refine WR_rd rfl (by exact rfl) (X_seT _ _ (by exact rfl) (by exact rfl) hpe) ?_
          refine qwr ?_
          (first | refine qwn ?_ | refine qwg ?_)
          (first | refine qwn ?_ | refine qwg ?_)
          first | exact qon | exact qoa
        · intro w hm
          have H := H.call hm
          refine qwr ?_
          refine qwl ?_; rintro _ rfl
          refine qwr ?_
          refine WR_rd rfl (by exact rfl) (X_seT _ _ (by exact rfl) (by exact rfl) hpe) ?_
          refine qwr ?_
          iterate 3 (first | refine qwn ?_ | refine qwg ?_)
          first | exact qon | exact qoa
        · intro w hm
          have H := H.call hm
          refine qwr ?_
          refine qwl ?_; rintro _ rfl
          refine qwr ?_
          refine WR_rd rfl (by exact rfl) (X_seT _ _ (by exact rfl) (by exact rfl) hpe) ?_
          refine qwr ?_
          first | exact qon | exact qoa
        · intro w hm
          have H := H.call hm
          refine qwr ?_
          refine qwl ?_; rintro _ rfl
          refine qwr ?_
          refine WR_rd rfl (by exact rfl) (X_seT _ _ (by exact rfl) (by exact rfl) hpe) ?_
          refine qwr ?_
          (first | refine qwn ?_ | refine qwg ?_)
          first | exact qon | exact qoa
        · intro w hm
          have H := H.call hm
          refine qwr ?_
          refine qwl ?_; rintro _ rfl
          refine qwr ?_
          refine WR_rd rfl (by exact rfl) (X_seT _ _ (by exact rfl) (by exact rfl) hpe) ?_
          refine qwr ?_
          (first | refine qwn ?_ | refine qwg ?_)
          (first | refine qwn ?_ | refine qwg ?_)
          first | exact qon | exact qoa
        · intro w hm
          have H := H.call hm
          refine qwr ?_
          refine qwl ?_; rintro _ rfl
          refine qwr ?_
          refine WR_rd rfl (by exact rfl) (X_seT _ _ (by exact rfl) (by exact rfl) hpe) ?_
          refine qwr ?_
          iterate 3 (first | refine qwn ?_ | refine qwg ?_)
          first | exact qon | exact qoa
        · intro w hm
          have H := H.call hm
          refine qwr ?_
          refine qwl ?_; rintro _ rfl
          refine qwr ?_
          refine WR_rd rfl (by exact rfl) (X_seT _ _ (by exact rfl) (by exact rfl) hpe) ?_
          refine qwr ?_
          iterate 4 (first | refine qwn ?_ | refine qwg ?_)
          first | exact qon | exact qoa
        · intro w hm
          have H := H.call hm
          refine qwr ?_
          refine qwl ?_; rintro _ rfl
          refine qwr ?_
          refine WR_rd rfl (by exact rfl) (X_seT _ _ (by exact rfl) (by exact rfl) hpe) ?_
          refine qwr ?_
          iterate 9 (first | refine qwn ?_ | refine qwg ?_)
          (first | exact qon | exact OA_rd rfl (by exact rfl) (X_lssF _ _ (by exact rfl) (by exact rfl) (by omega)))
        · intro w hm
          have H := H.call hm
          refine qwr ?_
          refine qwl ?_; rintro _ rfl
          refine qwr ?_
          refine WR_rd rfl (by exact rfl) (X_seT _ _ (by exact rfl) (by exact rfl) hpe) ?_
          refine qwr ?_
          iterate 9 (first | refine qwn ?_ | refine qwg ?_)
          (first | refine qwn ?_ | refine WR_readG rfl rfl rfl (by exact rfl) (by exact rfl) (X_lssF _ _ (by exact rfl) (by exact rfl) (by omega)) ?_)
          exact qoa
      intro w hm
      have H := H.call hm
      refine qwr ?_
      refine qwl ?_; rintro _ rfl
      refine qwr ?_
      refine WR_rd rfl (by exact rfl) (X_seT _ _ (by exact rfl) (by exact rfl) hpe) ?_
      refine qwr ?_
      iterate 9 (first | refine qwn ?_ | refine qwg ?_)
      (first | refine qwn ?_ | refine WR_readG rfl rfl rfl (by exact rfl) (by exact rfl) (X_lssF _ _ (by exact rfl) (by exact rfl) (by omega)) ?_)
      refine qwr ?_
      refine WR_nil ?_
      refine WD_end (by decide) ?_
      (repeat (first | refine qq ?_ | (refine qds H ?_; intro H) | (refine qrb H ?_; intro _ w H) | (refine qrs H ?_; intro w H) | (refine qdr H ?_; intro H)))
      exact ⟨rfl, H.outOf (M := M) (s' := i) (A1 := []) (As := tkA r a l c) (ds := tkD l a c) rfl rfl (by simp)⟩
  · have ht : takeV l i s = false := by
      simp only [takeV, decide_eq_false_iff_not]
      intro h
      exact hpe (by rw [peekV, h]; rfl)
    rw [ht]
    refine WD_any 16 [[], [0], [], [0, 1, 2], [0, 1, 2, 3], [0, 1, 2, 3, 4], [0, 1, 2, 3, 4, 5], [0, 1, 2, 3, 4, 5, 6], [0, 1, 2, 3, 4, 5, 6, 7], [0, 1, 2, 3, 4], [0, 1, 2, 3, 4, 9], [0, 1, 2, 3, 4, 9, 10], [0, 1, 2, 3, 4, 9, 10, 11], [0, 1, 2, 3, 4, 9, 10, 11, 12], [0, 1, 2, 3, 4, 5, 6, 7, 8, 9, 10, 11, 12, 13], [0, 1, 2, 3, 4, 5, 6, 7, 8, 9, 10, 11, 12, 13, 14]] [(1, PV ((.string (peekV l i))))] (by kernel_rfl) ?_ ?_ _ (by exact rfl) ?_
    · exact ⟨PV_stab, trivial⟩
    · refine ⟨?_, ?_, ?_, ?_, ?_, ?_, ?_, ?_, ?_, ?_, ?_, ?_, ?_, ?_, ?_, ?_, trivial⟩
      · exact qob
      · intro w hm
        have H := H.call hm
        refine qwr ?_
        refine qol ?_
        exact S_call1 _ (by exact rfl) (by exact rfl) (peek_c (H.bcells 0 2 rfl rfl) (H.dat (d := (LSl LStr).dat M l [.slice a l.length c]) (by simp))) fun v w' h => h
      · exact qob
      · intro w hm
        have H := H.call hm
        refine qwr ?_
        refine qwl ?_; rintro _ rfl
        refine qwr ?_
        exact OA_rd rfl (by exact rfl) (X_seF _ _ (by exact rfl) (by exact rfl) hpe)
      · intro w hm
        have H := H.call hm
        refine qwr ?_
        refine qwl ?_; rintro _ rfl
        refine qwr ?_
        refine WR_rd rfl (by exact rfl) (X_seF _ _ (by exact rfl) (by exact rfl) hpe) ?_
        exact qoa
      · intro w hm
        have H := H.call hm
        refine qwr ?_
        refine qwl ?_; rintro _ rfl
        refine qwr ?_
        refine WR_rd rfl (by exact rfl) (X_seF _ _ (by exact rfl) (by exact rfl) hpe) ?_
        refine qwr ?_
        first | exact qon | exact qoa
      · intro w hm
        have H := H.call hm
        refine qwr ?_
        refine qwl ?_; rintro _ rfl
        refine qwr ?_
        refine WR_rd rfl (by exact rfl) (X_seF _ _ (by exact rfl) (by exact rfl) hpe) ?_
        refine qwr ?_
        (first | refine qwn ?_ | refine qwg ?_)
        first | exact qon | exact qoa
      · intro w hm
        have H := H.call hm
        refine qwr ?_
        refine qwl ?_; rintro _ rfl
        refine qwr ?_
        refine WR_rd rfl (by exact rfl) (X_seF _ _ (by exact rfl) (by exact rfl) hpe) ?_
        refine qwr ?_
        (first | refine qwn ?_ | refine qwg ?_)
        (first | refine qwn ?_ | refine qwg ?_)
        first | exact qon | exact qoa
      · intro w hm
        have H := H.call hm
        refine qwr ?_
        refine qwl ?_; rintro _ rfl
        refine qwr ?_
        refine WR_rd rfl (by exact rfl) (X_seF _ _ (by exact rfl) (by exact rfl) hpe) ?_
        refine qwr ?_
        iterate 3 (first | refine qwn ?_ | refine qwg ?_)
        first | exact qon | exact qoa
      · intro w hm
        have H := H.call hm
        refine qwr ?_
        refine qwl ?_; rintro _ rfl
        refine qwr ?_
        refine WR_rd rfl (by exact rfl) (X_seF _ _ (by exact rfl) (by exact rfl) hpe) ?_
        refine qwr ?_
        first | exact qon | exact qoa
      · intro w hm
        have H := H.call hm
        refine qwr ?_
        refine qwl ?_; rintro _ rfl
        refine qwr ?_
        refine WR_rd rfl (by exact rfl) (X_seF _ _ (by exact rfl) (by exact rfl) hpe) ?_
        refine qwr ?_
        (first | refine qwn ?_ | refine qwg ?_)
        first | exact qon | exact qoa
      · intro w hm
        have H := H.call hm
        refine qwr ?_
        refine qwl ?_; rintro _ rfl
        refine qwr ?_
        refine WR_rd rfl (by exact rfl) (X_seF _ _ (by exact rfl) (by exact rfl) hpe) ?_
        refine qwr ?_
        (first | refine qwn ?_ | refine qwg ?_)
        (first | refine qwn ?_ | refine qwg ?_)
        first | exact qon | exact qoa
      · intro w hm
        have H := H.call hm
        refine qwr ?_
        refine qwl ?_; rintro _ rfl
        refine qwr ?_
        refine WR_rd rfl (by exact rfl) (X_seF _ _ (by exact rfl) (by exact rfl) hpe) ?_
        refine qwr ?_
        iterate 3 (first | refine qwn ?_ | refine qwg ?_)
        first | exact qon | exact qoa
      · intro w hm
        have H := H.call hm
        refine qwr ?_
        refine qwl ?_; rintro _ rfl
        refine qwr ?_
        refine WR_rd rfl (by exact rfl) (X_seF _ _ (by exact rfl) (by exact rfl) hpe) ?_
        refine qwr ?_
        iterate 4 (first | refine qwn ?_ | refine qwg ?_)
        first | exact qon | exact qoa
      · intro w hm
        have H := H.call hm
        refine qwr ?_
        refine qwl ?_; rintro _ rfl
        refine qwr ?_
        refine WR_rd rfl (by exact rfl) (X_seF _ _ (by exact rfl) (by exact rfl) hpe) ?_
        refine qwr ?_
        iterate 9 (first | refine qwn ?_ | refine qwg ?_)
        first | exact qon | exact qoa
      · intro w hm
        have H := H.call hm
        refine qwr ?_
        refine qwl ?_; rintro _ rfl
        refine qwr ?_
        refine WR_rd rfl (by exact rfl) (X_seF _ _ (by exact rfl) (by exact rfl) hpe) ?_
        refine qwr ?_
        iterate 10 (first | refine qwn ?_ | refine qwg ?_)
        exact qoa
    intro w hm
    have H := H.call hm
    refine qwr ?_
    refine qwl ?_; rintro _ rfl
    refine qwr ?_
    refine WR_rd rfl (by exact rfl) (X_seF _ _ (by exact rfl) (by exact rfl) hpe) ?_
    refine qwr ?_
    iterate 10 (first | refine qwn ?_ | refine qwg ?_)
    refine qwr ?_
    refine WR_nil ?_
    refine WD_end (by decide) ?_
    (repeat (first | refine qq ?_ | (refine qds H ?_; intro H) | (refine qrb H ?_; intro _ w H) | (refine qrs H ?_; intro w H) | (refine qdr H ?_; intro H)))
    exact ⟨rfl, H.outOf (M := M) (s' := i) (A1 := []) (As := tkA r a l c) (ds := tkD l a c) rfl rfl (by simp)⟩
end Go.Proofs.YtljpfnjpifhdlaaGreatDoor
namespace Go.Proofs.YtljpfnjpifhdlaaGreatDoor
open Go
section
variable {P : Program} {w : World} {r : Operand → Value} {d : Option Tmp} {ty : TypeId} {pos : String} {aft : Array Edge} {g : Option (Nat × Bool)}
theorem X_sliceS {t : TypeId} [G : StF P t] (x : Operand) (lo hi : Option Operand) {s : ByteArray} (l h : Nat) (hx : r x = .string s) (hlo : bnd r lo 0 l) (hhi : bnd r hi s.size h) (h1 : l ≤ h) (h2 : h ≤ s.size) :
    runC P w (execOp r ⟨d, .slice t x lo hi none, ty, pos, aft, g⟩) = some (.value (.string (s.extract l h))) := by
  show runC P w (Instr.sliceAt t (r x) (lo.map r) (hi.map r) none >>= fun v => pure (Next.value v)) = _
  unfold Instr.sliceAt Instr.slice
  simp only [bind_assoc]
  rw [runC_bind, runC_underlying G.und, hx]
  simp only [Option.bind_some, bind_assoc]
  rw [runC_bind, runC_underlying G.und]
  simp only [Option.bind_some]
  have hb : runC P w (Instr.sliceBounds false s.size s.size (lo.map r) (hi.map r) none) = some (l, h, s.size) := by
    unfold Instr.sliceBounds
    cases lo with
    | none =>
      have hl : l = 0 := hlo
      subst hl
      cases hi with
      | none =>
        have hh : h = s.size := hhi
        subst hh
        simp [runC_pure]
      | some y =>
        obtain ⟨k, hy⟩ := hhi
        simp only [Option.map_some, Option.map_none, hy, pure_bind, runC_bind, runC_sliceBound h2, Option.bind_some, runC_pure]
    | some y =>
      obtain ⟨k, hy⟩ := hlo
      cases hi with
      | none =>
        have hh : h = s.size := hhi
        subst hh
        simp only [Option.map_some, Option.map_none, hy, pure_bind, runC_bind, runC_sliceBound h1, Option.bind_some, runC_pure]
      | some y' =>
        obtain ⟨k', hy'⟩ := hhi
        simp only [Option.map_some, hy, hy', pure_bind, runC_bind, runC_sliceBound h1, runC_sliceBound h2, Option.bind_some, runC_pure]
  simp only [Option.isSome_none, Bool.false_eq_true, if_false]
  rw [runC_bind, runC_bind, hb]
  simp only [Option.bind_some, runC_pure]
end
def stopB (c : Nat) : Bool := Nat.beq c 32 || Nat.beq c 10 || Nat.beq c 40 || Nat.beq c 41 || Nat.beq c 59
def wordEnd (s : ByteArray) : Nat → Nat → Nat
  | 0, k => k
  | f + 1, k => match s[k]? with
    | none => k
    | some c => bif stopB c.toNat then k else wordEnd s f (k + 1)
def tokV (s : ByteArray) : Nat → Nat → Option (List ByteArray)
  | f, i => match s[i]? with
    | none => some []
    | some c => match f with
      | 0 => none
      | f + 1 => bif Nat.beq c.toNat 32 || Nat.beq c.toNat 10 then tokV s f (i + 1)
        else bif Nat.beq c.toNat 59 then none
        else bif Nat.beq c.toNat 40 || Nat.beq c.toNat 41 then (match tokV s f (i + 1) with | none => none | some l => some (s.extract i (i + 1) :: l))
        else (match tokV s f (wordEnd s s.size i) with | none => none | some l => some (s.extract i (wordEnd s s.size i) :: l))
def charOk (c : UInt8) : Bool := Nat.beq c.toNat 10 || (Nat.ble 32 c.toNat && Nat.ble c.toNat 126)
set_option maxHeartbeats 1000000 in
set_option maxRecDepth 100000 in
theorem Tokens_c {s : ByteArray} {l : List ByteArray} {M : Nat → Prop} {wA : World} (hM : ∀ b, M b → b < wA.heap.size) (hs : s.size ≤ 100000) (hok : ∀ (i : Nat) (c : UInt8), s[i]? = some c → charOk c = true) (ht : tokV s (s.size + 1) 0 = some l) (hl : l.length ≤ 20000) :
    Calls Tryz.prog 14 #[.string s] wA (Ret fun v w' => (∃ u, v = .tuple #[u, .bool true] ∧ (LSl LStr).rd M w' l [u]) ∧ Mod [] wA w') := by
  refine enter2 Tryz.func14 rfl Tryz.ntmps14 rfl (by simp) ?_
  have H := Holds.start wA []
  (repeat (first | refine qq ?_ | (refine qds H ?_; intro H) | (refine qrb H ?_; intro _ w H) | (refine qrs H ?_; intro w H) | (refine qdr H ?_; intro H)))
  refine W_loop (fun m f w' => ∃ gg i, m = s.size - i ∧ i ≤ s.size ∧ f = sl gg [(0, .string s), (4, .int .i64 (i : Nat))] ∧ Holds wA [] [] [] w') s.size ⟨_, 0, rfl, Nat.zero_le _, sl_back ⟨rfl, rfl, trivial⟩, H⟩ ?_
  clear H
  rintro m f w ⟨gg, i, rfl, hi, rfl, H⟩
  by_cases hlt : i < s.size
  · obtain ⟨c, hc⟩ : ∃ c, s[i]? = some c := ⟨_, getElem?_pos s i hlt⟩
    have hcok := hok i c hc
    by_cases h10 : c.toNat = 10
    · (repeat (first | refine qq ?_ | (refine qds H ?_; intro H) | (refine qrb H ?_; intro _ w H) | (refine qrs H ?_; intro w H) | (refine qdr H ?_; intro H)))
      exact ⟨s.size - (i + 1), by omega, _, i + 1, rfl, by omega, sl_back ⟨rfl, rfl, trivial⟩, H⟩
    · have hr : 32 ≤ c.toNat ∧ c.toNat ≤ 126 := by
        simp only [charOk, Bool.or_eq_true, Bool.and_eq_true] at hcok
        rcases hcok with h | h
        · exact absurd (beq_of h) h10
        · exact ⟨Nat.le_of_ble_eq_true h.1, Nat.le_of_ble_eq_true h.2⟩
      (repeat (first | refine qq ?_ | (refine qds H ?_; intro H) | (refine qrb H ?_; intro _ w H) | (refine qrs H ?_; intro w H) | (refine qdr H ?_; intro H)))
      exact ⟨s.size - (i + 1), by omega, _, i + 1, rfl, by omega, sl_back ⟨rfl, rfl, trivial⟩, H⟩
  · obtain rfl : i = s.size := by omega
    clear hlt
    (repeat (first | refine qq ?_ | (refine qds H ?_; intro H) | (refine qrb H ?_; intro _ w H) | (refine qrs H ?_; intro w H) | (refine qdr H ?_; intro H)))
    refine WO_s rfl (S_bslice0 H ?_); intro b0 w H
    have H := (H.toRow 0 1 rfl).dnil (L := LStr) (M := M)
    (repeat (first | refine qq ?_ | (refine qds H ?_; intro H) | (refine qrb H ?_; intro _ w H) | (refine qrs H ?_; intro w H) | (refine qdr H ?_; intro H)))
    refine W_loop (fun m f w' => ∃ gg i out rest v5 vss, i ≤ s.size ∧ f = sl gg [(0, .string s), (5, v5), (6, .int .i64 (i : Nat))] ∧ tokV s m i = some rest ∧ out ++ rest = l ∧
      Holds wA [] [orow 9 1 v5 vss] [dall LStr M out vss] w') (s.size + 1) ⟨_, 0, [], l, _, [], Nat.zero_le _, sl_back ⟨rfl, rfl, rfl, trivial⟩, ht, rfl, H.sub (.refl _) (by simp)⟩ ?_
    clear H ht
    rintro fu f w ⟨gg, i, out, rest, v5, vss, hi, rfl, ht, ho, H⟩
    have hol : out.length ≤ 20000 := by rw [← ho, List.length_append] at hl; omega
    have hvl := (Alls.get (H.dat (d := dall LStr M out vss) (by simp))).1
    obtain ⟨a5, c5, rfl⟩ := H.rowVal 0 rfl
    by_cases hlt : i < s.size
    · obtain ⟨c, hc⟩ : ∃ c, s[i]? = some c := ⟨_, getElem?_pos s i hlt⟩
      unfold tokV at ht
      rw [hc] at ht
      cases fu with
      | zero => cases ht
      | succ fu =>
      simp only [] at ht
      have hc59 : c.toNat ≠ 59 := by
        intro e
        rw [e] at ht
        cases ht
      by_cases h1 : c.toNat = 32 ∨ c.toNat = 10
      · have hb : (Nat.beq c.toNat 32 || Nat.beq c.toNat 10) = true := by rcases h1 with h | h <;> rw [h] <;> rfl
        rw [hb] at ht
        simp only [cond_true] at ht
        rcases h1 with h1 | h1
        · (repeat (first | refine qq ?_ | (refine qds H ?_; intro H) | (refine qrb H ?_; intro _ w H) | (refine qrs H ?_; intro w H) | (refine qdr H ?_; intro H)))
          exact ⟨fu, by omega, _, i + 1, out, rest, _, vss, by omega, sl_back ⟨rfl, rfl, rfl, trivial⟩, ht, ho, H⟩
        · (repeat (first | refine qq ?_ | (refine qds H ?_; intro H) | (refine qrb H ?_; intro _ w H) | (refine qrs H ?_; intro w H) | (refine qdr H ?_; intro H)))
          exact ⟨fu, by omega, _, i + 1, out, rest, _, vss, by omega, sl_back ⟨rfl, rfl, rfl, trivial⟩, ht, ho, H⟩
      · have hb : (Nat.beq c.toNat 32 || Nat.beq c.toNat 10) = false := by
          cases e1 : Nat.beq c.toNat 32 with
          | true => exact absurd (.inl (beq_of e1)) h1
          | false => cases e2 : Nat.beq c.toNat 10 with
            | true => exact absurd (.inr (beq_of e2)) h1
            | false => rfl
        rw [hb] at ht
        have hb9 : Nat.beq c.toNat 59 = false := by cases e1 : Nat.beq c.toNat 59 with | true => exact absurd (beq_of e1) hc59 | false => rfl
        rw [hb9] at ht
        simp only [cond_false] at ht
        by_cases h2 : c.toNat = 40 ∨ c.toNat = 41
        · have hb : (Nat.beq c.toNat 40 || Nat.beq c.toNat 41) = true := by rcases h2 with h | h <;> rw [h] <;> rfl
          rw [hb] at ht
          simp only [cond_true] at ht
          cases hr : tokV s fu (i + 1) with
          | none => rw [hr] at ht; cases ht
          | some rest' =>
          rw [hr] at ht
          simp only [Option.some.injEq] at ht
          subst ht
          rcases h2 with h2 | h2
          all_goals
            (repeat (first | refine qq ?_ | (refine qds H ?_; intro H) | (refine qrb H ?_; intro _ w H) | (refine qrs H ?_; intro w H) | (refine qdr H ?_; intro H)))
            refine WO_rd rfl (X_sliceS _ (some _) (some _) i (i + 1) (by exact rfl) ⟨.i64, (by exact rfl)⟩ ⟨.i64, (by exact rfl)⟩ (by omega) (by omega)) ?_
            (first | refine WO_s rfl (S_bslice1N H _ (by exact rfl) (by exact rfl) (by exact rfl) (by exact rfl) (by exact rfl) ?_) | refine WO_s rfl (S_bslice1s H _ (by exact rfl) (by exact rfl) (by exact rfl) ?_)); intro b24 w H
            refine WO_s rfl (S_append H 1 _ _ (vs := [.string (s.extract i (i + 1))]) (by exact rfl) (by exact rfl) (by exact rfl) (H.bcells 0 1 rfl rfl) rfl (by simp [Value.oneCell']) (by simp) (by exact rfl) (by omega) ?_)
            intro v'' w H
            have H := H.snoc (L := LStr) (M := M) (l := out) (vss := vss) (x := s.extract i (i + 1)) (vs := [.string (s.extract i (i + 1))]) (by simp) rfl
            (repeat (first | refine qq ?_ | (refine qds H ?_; intro H) | (refine qrb H ?_; intro _ w H) | (refine qrs H ?_; intro w H) | (refine qdr H ?_; intro H)))
            exact ⟨fu, by omega, _, i + 1, out ++ [s.extract i (i + 1)], rest', v'', vss ++ [[.string (s.extract i (i + 1))]], by omega, sl_back ⟨rfl, rfl, rfl, trivial⟩, hr, by rw [← ho]; simp, H.sub (.cons _ (.refl _)) (by simp)⟩
        · have hb : (Nat.beq c.toNat 40 || Nat.beq c.toNat 41) = false := by
            cases e1 : Nat.beq c.toNat 40 with
            | true => exact absurd (.inl (beq_of e1)) h2
            | false => cases e2 : Nat.beq c.toNat 41 with
              | true => exact absurd (.inr (beq_of e2)) h2
              | false => rfl
          rw [hb] at ht
          simp only [cond_false] at ht
          obtain ⟨K, hK⟩ : ∃ K, K = wordEnd s s.size i := ⟨_, rfl⟩
          rw [← hK] at ht
          cases hr : tokV s fu K with
          | none => rw [hr] at ht; cases ht
          | some rest' =>
          rw [hr] at ht
          simp only [Option.some.injEq] at ht
          subst ht
          (repeat (first | refine qq ?_ | (refine qds H ?_; intro H) | (refine qrb H ?_; intro _ w H) | (refine qrs H ?_; intro w H) | (refine qdr H ?_; intro H)))
          refine W_loop (fun m f w' => ∃ gg k fu', m = s.size - k ∧ k ≤ s.size ∧ i ≤ k ∧ f = sl gg [(0, .string s), (5, .slice a5 vss.length c5), (6, .int .i64 (i : Nat)), (8, .int .i64 (k : Nat))] ∧ s.size ≤ k + fu' ∧ wordEnd s fu' k = K ∧
            Holds wA [] [orow 9 1 (.slice a5 vss.length c5) vss] [dall LStr M out vss] w') (s.size - i) ⟨_, i, s.size, rfl, hi, Nat.le_refl _, sl_back ⟨rfl, rfl, rfl, rfl, trivial⟩, by omega, hK.symm, H⟩ ?_
          clear H
          rintro m f w ⟨gg2, k, fu', rfl, hk, hik, rfl, hfu, hKk, H⟩
          by_cases hlt2 : k < s.size
          · obtain ⟨fu', rfl⟩ : ∃ q, fu' = q + 1 := ⟨fu' - 1, by omega⟩
            obtain ⟨c', hc'⟩ : ∃ c, s[k]? = some c := ⟨_, getElem?_pos s k hlt2⟩
            simp only [wordEnd, hc'] at hKk
            by_cases hst : c'.toNat = 32 ∨ c'.toNat = 10 ∨ c'.toNat = 40 ∨ c'.toNat = 41 ∨ c'.toNat = 59
            · have hb : stopB c'.toNat = true := by rcases hst with h | h | h | h | h <;> rw [h] <;> rfl
              rw [hb] at hKk
              simp only [cond_true] at hKk
              subst hKk
              rcases hst with hst | hst | hst | hst | hst
              all_goals
                (repeat (first | refine qq ?_ | (refine qds H ?_; intro H) | (refine qrb H ?_; intro _ w H) | (refine qrs H ?_; intro w H) | (refine qdr H ?_; intro H)))
                refine WO_rd rfl (X_sliceS _ (some _) (some _) i k (by exact rfl) ⟨.i64, (by exact rfl)⟩ ⟨.i64, (by exact rfl)⟩ hik hk) ?_
                (first | refine WO_s rfl (S_bslice1N H _ (by exact rfl) (by exact rfl) (by exact rfl) (by exact rfl) (by exact rfl) ?_) | refine WO_s rfl (S_bslice1s H _ (by exact rfl) (by exact rfl) (by exact rfl) ?_)); intro b24 w H
                refine WO_s rfl (S_append H 1 _ _ (vs := [.string (s.extract i k)]) (by exact rfl) (by exact rfl) (by exact rfl) (H.bcells 0 1 rfl rfl) rfl (by simp [Value.oneCell']) (by simp) (by exact rfl) (by omega) ?_)
                intro v'' w H
                have H := H.snoc (L := LStr) (M := M) (l := out) (vss := vss) (x := s.extract i k) (vs := [.string (s.extract i k)]) (by simp) rfl
                (repeat (first | refine qq ?_ | (refine qds H ?_; intro H) | (refine qrb H ?_; intro _ w H) | (refine qrs H ?_; intro w H) | (refine qdr H ?_; intro H)))
                exact ⟨fu, by omega, _, k, out ++ [s.extract i k], rest', v'', vss ++ [[.string (s.extract i k)]], hk, sl_back ⟨rfl, rfl, rfl, trivial⟩, hr, by rw [← ho]; simp, H.sub (.cons _ (.refl _)) (by simp)⟩
            · have hb : stopB c'.toNat = false := by
                cases e : stopB c'.toNat with
                | false => rfl
                | true =>
                  simp only [stopB, Bool.or_eq_true] at e
                  exfalso
                  rcases e with (((e | e) | e) | e) | e <;> (have := beq_of e; omega)
              rw [hb] at hKk
              simp only [cond_false] at hKk
              (repeat (first | refine qq ?_ | (refine qds H ?_; intro H) | (refine qrb H ?_; intro _ w H) | (refine qrs H ?_; intro w H) | (refine qdr H ?_; intro H)))
              exact ⟨s.size - (k + 1), by omega, _, k + 1, fu', rfl, by omega, by omega, sl_back ⟨rfl, rfl, rfl, rfl, trivial⟩, by omega, hKk, H⟩
          · obtain rfl : k = s.size := by omega
            have hKe : s.size = K := by
              have hn : s[s.size]? = none := getElem?_neg s s.size (by omega)
              cases fu' with
              | zero => exact hKk
              | succ q => simp only [wordEnd, hn] at hKk; exact hKk
            subst hKe
            clear hlt2
            (repeat (first | refine qq ?_ | (refine qds H ?_; intro H) | (refine qrb H ?_; intro _ w H) | (refine qrs H ?_; intro w H) | (refine qdr H ?_; intro H)))
            refine WO_rd rfl (X_sliceS _ (some _) (some _) i s.size (by exact rfl) ⟨.i64, (by exact rfl)⟩ ⟨.i64, (by exact rfl)⟩ hik hk) ?_
            (first | refine WO_s rfl (S_bslice1N H _ (by exact rfl) (by exact rfl) (by exact rfl) (by exact rfl) (by exact rfl) ?_) | refine WO_s rfl (S_bslice1s H _ (by exact rfl) (by exact rfl) (by exact rfl) ?_)); intro b24 w H
            refine WO_s rfl (S_append H 1 _ _ (vs := [.string (s.extract i s.size)]) (by exact rfl) (by exact rfl) (by exact rfl) (H.bcells 0 1 rfl rfl) rfl (by simp [Value.oneCell']) (by simp) (by exact rfl) (by omega) ?_)
            intro v'' w H
            have H := H.snoc (L := LStr) (M := M) (l := out) (vss := vss) (x := s.extract i s.size) (vs := [.string (s.extract i s.size)]) (by simp) rfl
            (repeat (first | refine qq ?_ | (refine qds H ?_; intro H) | (refine qrb H ?_; intro _ w H) | (refine qrs H ?_; intro w H) | (refine qdr H ?_; intro H)))
            exact ⟨fu, by omega, _, s.size, out ++ [s.extract i s.size], rest', v'', vss ++ [[.string (s.extract i s.size)]], hk, sl_back ⟨rfl, rfl, rfl, trivial⟩, hr, by rw [← ho]; simp, H.sub (.cons _ (.refl _)) (by simp)⟩
    · obtain rfl : i = s.size := by omega
      have hrest : rest = [] := by
        have hn : s[s.size]? = none := getElem?_neg s s.size (by omega)
        unfold tokV at ht
        rw [hn] at ht
        simpa using ht.symm
      subst hrest
      rw [List.append_nil] at ho
      subst ho
      clear hlt
      (repeat (first | refine qq ?_ | (refine qds H ?_; intro H) | (refine qrb H ?_; intro _ w H) | (refine qrs H ?_; intro w H) | (refine qdr H ?_; intro H)))
      have H := Holds.freeze (A1 := []) (A2 := []) (M := M) (L := LStr) (l := out) H hM (H.dat (by repeat (first | exact List.Mem.head _ | apply List.Mem.tail))) (by simp)
      exact ⟨⟨_, rfl, H.out 0 rfl⟩, H.mod⟩
end Go.Proofs.YtljpfnjpifhdlaaGreatDoor
namespace Go.Proofs.YtljpfnjpifhdlaaGreatDoor
open Go
def qd (k : Nat) : ByteArray := ⟨#[63, UInt8.ofNat (48 + k)]⟩
/-- the number k < n with s = f k -/
def findK (f : Nat → ByteArray) (s : ByteArray) : Nat → Option Nat
  | 0 => none
  | n + 1 => bif decide (s = f n) then some n else findK f s n
theorem findK_at {f : Nat → ByteArray} {s : ByteArray} : ∀ {n k : Nat}, findK f s n = some k → s = f k ∧ k < n
  | 0, _, h => by cases h
  | n + 1, k, h => by
    unfold findK at h
    cases hd : decide (s = f n) with
    | true => rw [hd] at h; cases h; exact ⟨by simpa using hd, by omega⟩
    | false => rw [hd] at h; obtain ⟨h1, h2⟩ := findK_at h; exact ⟨h1, by omega⟩
abbrev parL : ByteArray := ⟨#[40]⟩
abbrev parR : ByteArray := ⟨#[41]⟩
abbrev dotB : ByteArray := ⟨#[46]⟩
def itemsV (rec : Nat → Option (T × Nat)) (l : List ByteArray) : Nat → Nat → List T → Option (T × Nat)
  | 0, _, _ => none
  | f + 1, i, its => bif takeV l i parR then some (listOn its .nil, i + 1)
    else bif takeV l i dotB then (match rec (i + 1) with
      | none => none
      | some (t, j) => match its with
        | [] => none
        | x :: xs => bif takeV l j parR then some (listOn (x :: xs) t, j + 1) else none)
    else match rec i with
      | none => none
      | some (x, j) => itemsV rec l f j (its ++ [x])
def termV : Nat → List ByteArray → Nat → Option (T × Nat)
  | 0, _, _ => none
  | f + 1, l, i => match l[i]? with
    | none => none
    | some s => bif decide (s = parL) then itemsV (termV f l) l (f + 1) (i + 1) []
      else match findK qd s 10 with
        | some k => some (.var k, i + 1)
        | none => match findK dig s 10 with
          | some k => some (.num (k : Nat), i + 1)
          | none => none
theorem qd_tail {k : Nat} (h : k < 10) : (qd k).extract 1 2 = dig k := by
  have : k = 0 ∨ k = 1 ∨ k = 2 ∨ k = 3 ∨ k = 4 ∨ k = 5 ∨ k = 6 ∨ k = 7 ∨ k = 8 ∨ k = 9 := by omega
  rcases this with rfl | rfl | rfl | rfl | rfl | rfl | rfl | rfl | rfl | rfl <;> rfl
theorem dig_first {k : Nat} (h : k < 10) : ∃ c : UInt8, (dig k)[0]? = some c ∧ c.toNat = 48 + k := by
  have : k = 0 ∨ k = 1 ∨ k = 2 ∨ k = 3 ∨ k = 4 ∨ k = 5 ∨ k = 6 ∨ k = 7 ∨ k = 8 ∨ k = 9 := by omega
  rcases this with rfl | rfl | rfl | rfl | rfl | rfl | rfl | rfl | rfl | rfl <;> exact ⟨_, rfl, rfl⟩
theorem dig_noname {k : Nat} (h : k < 10) : nameB (dig k) = false := by
  have : k = 0 ∨ k = 1 ∨ k = 2 ∨ k = 3 ∨ k = 4 ∨ k = 5 ∨ k = 6 ∨ k = 7 ∨ k = 8 ∨ k = 9 := by omega
  rcases this with rfl | rfl | rfl | rfl | rfl | rfl | rfl | rfl | rfl | rfl <;> rfl
abbrev TermRC (l : List ByteArray) (r c : Nat) (a : Option Addr) (rec : Nat → Option (T × Nat)) : Prop := ∀ {i j : Nat} {t : T} {M : Nat → Prop} {w : World}, rec i = some (t, j) → In (tkA r a l c) (tkD l a c) M i w →
  Calls Tryz.prog 72 #[.pointer (some ⟨r, 0, none⟩)] w (Ret fun v w' => (∃ vs, v = .tuple #[.agg vs.toArray, .bool true] ∧ rdT M w' t vs) ∧ Out (tkA r a l c) (tkD l a c) M i j w w')
set_option maxHeartbeats 1000000 in
set_option maxRecDepth 100000 in
theorem term_leaf {l : List ByteArray} {r c i : Nat} {a : Option Addr} {s : ByteArray} {t : T} {M : Nat → Prop} {w : World} (hl : l.length ≤ 100000) (hs : l[i]? = some s) (hp : s ≠ parL) (ht : (∃ k, k < 10 ∧ s = qd k ∧ t = .var k) ∨ ∃ k, k < 10 ∧ s = dig k ∧ t = .num (k : Nat)) (hin : In (tkA r a l c) (tkD l a c) M i w) :
    Calls Tryz.prog 72 #[.pointer (some ⟨r, 0, none⟩)] w (Ret fun v w' => (∃ vs, v = .tuple #[.agg vs.toArray, .bool true] ∧ rdT M w' t vs) ∧ Out (tkA r a l c) (tkD l a c) M i (i + 1) w w') := by
  have hil : i < l.length := (List.getElem?_eq_some_iff.1 hs).1
  have hib : Nat.beq i l.length = false := by cases e : Nat.beq i l.length with | true => have := beq_of e; omega | false => rfl
  have hpk : peekV l i = s := by rw [peekV, hs]; rfl
  refine enterCT Tryz.func72 rfl Tryz.ntmps72 rfl (by simp) ?_
  have H := hin.begin
  have H := H.add (d := (LSl LStr).dat M l [.slice a l.length c]) ((LSl LStr).grow _ _ _ _ _ (fun b _ hb => hb.elim id (hin.2.1 b)) hin.toks)
  refine W_rs ?_
  refine qrb H ?_; intro b2 w H
  (repeat (first | refine qq ?_ | (refine qds H ?_; intro H) | (refine qdr H ?_; intro H)))
  refine qa1 (hc := done_c (l := l) (i := i) (c := c) (a := a) (H.bcells 1 2 rfl rfl)) (k := ?_)
  rintro _ w ⟨rfl, hm⟩
  have H := H.call hm
  rw [hib]
  (repeat (first | refine qq ?_ | (refine qds H ?_; intro H) | (refine qrb H ?_; intro _ w H) | (refine qrs H ?_; intro w H) | (refine qdr H ?_; intro H)))
  refine qa1 (hc := peek_c (H.bcells 1 2 rfl rfl) (H.dat (d := (LSl LStr).dat M l [.slice a l.length c]) (by simp))) (k := ?_)
  rintro _ w ⟨rfl, hm⟩
  have H := H.call hm
  rw [hpk]
  (repeat (first | refine qq ?_ | (refine qds H ?_; intro H) | (refine qrb H ?_; intro _ w H) | (refine qrs H ?_; intro w H) | (refine qdr H ?_; intro H)))
  rcases ht with ⟨k, hk, rfl, rfl⟩ | ⟨k, hk, rfl, rfl⟩
  · have h63 : (qd k)[0]? = some 63 := rfl
    (repeat (first | refine qq ?_ | (refine qds H ?_; intro H) | (refine qrb H ?_; intro _ w H) | (refine qrs H ?_; intro w H) | (refine qdr H ?_; intro H)))
    refine WO_rd rfl (X_sliceS _ (some _) none 1 2 (by exact rfl) ⟨.i64, (by exact rfl)⟩ (by exact rfl) (by omega) (Nat.le_refl _)) ?_
    rw [qd_tail hk]
    refine qa1 (hc := ParseInt_c hk w) (k := ?_)
    rintro _ w ⟨rfl, hm⟩
    have H := H.call hm
    (repeat (first | refine qq ?_ | (refine qds H ?_; intro H) | (refine qrb H ?_; intro _ w H) | (refine qrs H ?_; intro w H) | (refine qdr H ?_; intro H)))
    refine qa1 (hc := variable_c k (H.wr M) w) (k := ?_)
    rintro _ w ⟨vs, rfl, hx, hm⟩
    obtain ⟨a1, c1, rfl⟩ := rdT_four hx
    have H := (H.call hm).add (d := LT.dat M (.var k) _) hx
    (repeat (first | refine qq ?_ | (refine qds H ?_; intro H) | (refine qrb H ?_; intro _ w H) | (refine qrs H ?_; intro w H) | (refine qdr H ?_; intro H)))
    exact ⟨_, _, _, rfl, H.bcells 0 4 rfl rfl, rfl, ⟨_, rfl, H.out (L := LT) 0 rfl⟩, H.outOf (M := M) (s' := i + 1) (A1 := [_]) (As := tkA r a l c) (ds := tkD l a c) rfl rfl (by simp)⟩
  · obtain ⟨c0, hc0, hc1⟩ := dig_first hk
    (repeat (first | refine qq ?_ | (refine qds H ?_; intro H) | (refine qrb H ?_; intro _ w H) | (refine qrs H ?_; intro w H) | (refine qdr H ?_; intro H)))
    refine qa1 (hc := IsName_c (dig k) w (by simp [dig, ByteArray.size])) (k := ?_)
    rintro _ w ⟨rfl, hm⟩
    have H := H.call hm
    rw [dig_noname hk]
    (repeat (first | refine qq ?_ | (refine qds H ?_; intro H) | (refine qrb H ?_; intro _ w H) | (refine qrs H ?_; intro w H) | (refine qdr H ?_; intro H)))
    refine qa1 (hc := ParseInt_c hk w) (k := ?_)
    rintro _ w ⟨rfl, hm⟩
    have H := H.call hm
    (repeat (first | refine qq ?_ | (refine qds H ?_; intro H) | (refine qrb H ?_; intro _ w H) | (refine qrs H ?_; intro w H) | (refine qdr H ?_; intro H)))
    refine qa1 (hc := number_c (k : Nat) (H.wr M) w) (k := ?_)
    rintro _ w ⟨vs, rfl, hx, hm⟩
    obtain ⟨a1, c1, rfl⟩ := rdT_four hx
    have H := (H.call hm).add (d := LT.dat M (.num (k : Nat)) _) hx
    (repeat (first | refine qq ?_ | (refine qds H ?_; intro H) | (refine qrb H ?_; intro _ w H) | (refine qrs H ?_; intro w H) | (refine qdr H ?_; intro H)))
    exact ⟨_, _, _, rfl, H.bcells 0 4 rfl rfl, rfl, ⟨_, rfl, H.out (L := LT) 0 rfl⟩, H.outOf (M := M) (s' := i + 1) (A1 := [_]) (As := tkA r a l c) (ds := tkD l a c) rfl rfl (by simp)⟩
theorem takeV_true {l : List ByteArray} {i : Nat} {s : ByteArray} (h : takeV l i s = true) : peekV l i = s ∧ i < l.length := by
  have h : l[i]? = some s := by simpa [takeV] using h
  exact ⟨by rw [peekV, h]; rfl, (List.getElem?_eq_some_iff.1 h).1⟩
theorem takeV_false {l : List ByteArray} {i : Nat} {s : ByteArray} (hs : s ≠ ⟨#[]⟩) (h : takeV l i s = false) : peekV l i ≠ s := by
  intro e
  unfold peekV at e
  cases hl : l[i]? with
  | none => rw [hl] at e; exact hs e.symm
  | some x =>
    rw [hl] at e
    have e : x = s := e
    subst e
    simp [takeV, hl] at h
theorem beq_lt {i n : Nat} (h : i < n) : Nat.beq i n = false := by cases e : Nat.beq i n with | true => have := beq_of e; omega | false => rfl
set_option maxHeartbeats 2000000 in
set_option maxRecDepth 100000 in
theorem term_par {l : List ByteArray} {r c i j fu : Nat} {a : Option Addr} {t : T} {M : Nat → Prop} {wA : World} {rec : Nat → Option (T × Nat)} (ih : TermRC l r c a rec) (hl : l.length ≤ 100000) (hfu : fu ≤ 10000) (hs : l[i]? = some parL) (ht : itemsV rec l fu (i + 1) [] = some (t, j)) (hin : In (tkA r a l c) (tkD l a c) M i wA) :
    Calls Tryz.prog 72 #[.pointer (some ⟨r, 0, none⟩)] wA (Ret fun v w' => (∃ vs, v = .tuple #[.agg vs.toArray, .bool true] ∧ rdT M w' t vs) ∧ Out (tkA r a l c) (tkD l a c) M i j wA w') := by
  have hil : i < l.length := (List.getElem?_eq_some_iff.1 hs).1
  have hib := beq_lt hil
  have hpk : peekV l i = parL := by rw [peekV, hs]; rfl
  have hM := hin.1
  refine enterCT Tryz.func72 rfl Tryz.ntmps72 rfl (by simp) ?_
  have H := hin.begin
  have H := H.add (d := (LSl LStr).dat M l [.slice a l.length c]) ((LSl LStr).grow _ _ _ _ _ (fun b _ hb => hb.elim id (hin.2.1 b)) hin.toks)
  refine W_rs ?_
  refine qrb H ?_; intro b2 w H
  (repeat (first | refine qq ?_ | (refine qds H ?_; intro H) | (refine qdr H ?_; intro H)))
  refine qa1 (hc := done_c (l := l) (i := i) (c := c) (a := a) (H.bcells 1 2 rfl rfl)) (k := ?_)
  rintro _ w ⟨rfl, hm⟩
  have H := H.call hm
  rw [hib]
  (repeat (first | refine qq ?_ | (refine qds H ?_; intro H) | (refine qrb H ?_; intro _ w H) | (refine qrs H ?_; intro w H) | (refine qdr H ?_; intro H)))
  refine qa1 (hc := peek_c (H.bcells 1 2 rfl rfl) (H.dat (d := (LSl LStr).dat M l [.slice a l.length c]) (by simp))) (k := ?_)
  rintro _ w ⟨rfl, hm⟩
  have H := H.call hm
  rw [hpk]
  (repeat (first | refine qq ?_ | (refine qds H ?_; intro H) | (refine qrb H ?_; intro _ w H) | (refine qrs H ?_; intro w H) | (refine qdr H ?_; intro H)))
  refine WO_s rfl (S_bslice0 H ?_); intro b0 w H
  have H := (H.toRow 0 4 rfl).dnil (L := LT) (M := M)
  (repeat (first | refine qq ?_ | (refine qds H ?_; intro H) | (refine qrb H ?_; intro _ w H) | (refine qrs H ?_; intro w H) | (refine qdr H ?_; intro H)))
  refine W_loop (fun m f w' => ∃ gg i' its v5 vss, f = sl gg [(0, .pointer (some ⟨r, 0, none⟩)), (2, .pointer (some ⟨b2, 0, none⟩)), (5, v5)] ∧ itemsV rec l m i' its = some (t, j) ∧ its.length + m ≤ fu ∧
    Holds wA (owns (tkA r a l c i)) [orow 32 4 v5 vss, box b2 [.int .i64 0, .int .i64 0, .string ⟨#[]⟩, .slice none 0 0] 32, box r (rcells a l c i') 64] [dall LT M its vss, (LSl LStr).dat M l [.slice a l.length c], Dat.wide M ((LSl LStr).dat (fun _ => False) l [.slice a l.length c])] w') fu
    ⟨_, i + 1, [], _, [], sl_back ⟨rfl, rfl, rfl, trivial⟩, ht, by simp, H.sub (.refl _) (by simp)⟩ ?_
  clear H ht
  rintro fu' f w ⟨gg, i', its, v5, vss, rfl, ht, hits, H⟩
  obtain ⟨a5, c5, rfl⟩ := H.rowVal 0 rfl
  have hvl := (Alls.get (H.dat (d := dall LT M its vss) (by simp))).1
  cases fu' with
  | zero => cases ht
  | succ fu' =>
  simp only [itemsV] at ht
  (repeat (first | refine qq ?_ | (refine qds H ?_; intro H) | (refine qrb H ?_; intro _ w H) | (refine qrs H ?_; intro w H) | (refine qdr H ?_; intro H)))
  refine qa2 (hc := take_c (s := parR) hl (H.into (A1 := [_, _]) (As := tkA r a l c) (ds := tkD l a c) (s := i') rfl hM (by simp))) (k := ?_)
  rintro _ w ⟨rfl, hout⟩
  have H := H.step (A1 := [_, _]) (As := tkA r a l c) rfl hout
  cases hr : takeV l i' parR with
  | true =>
    rw [hr] at ht H
    simp only [cond_true, Option.some.injEq, Prod.mk.injEq] at ht H
    obtain ⟨rfl, rfl⟩ := ht
    have H := Holds.freeze (A1 := []) (A2 := [_, _]) (M := M) (L := LT) (l := its) H hM (H.dat (by repeat (first | exact List.Mem.head _ | apply List.Mem.tail))) (by simp [owns, box])
    (repeat (first | refine qq ?_ | (refine qds H ?_; intro H) | (refine qrb H ?_; intro _ w H) | (refine qrs H ?_; intro w H) | (refine qdr H ?_; intro H)))
    refine qa1 (hc := implList_c (M := H.wr M) (l := its) (H.wr_lt hM) (H.dat (d := (LSl LT).dat M its [.slice a5 vss.length c5]) (by simp)) (by omega)) (k := ?_)
    rintro _ w ⟨vs, rfl, hx, hm⟩
    obtain ⟨a1, c1, rfl⟩ := rdT_four hx
    have H := (H.call hm).add (d := LT.dat M (listOn its .nil) _) hx
    (repeat (first | refine qq ?_ | (refine qds H ?_; intro H) | (refine qrb H ?_; intro _ w H) | (refine qrs H ?_; intro w H) | (refine qdr H ?_; intro H)))
    exact ⟨_, _, _, rfl, H.bcells 0 4 rfl rfl, rfl, ⟨_, rfl, H.out (L := LT) 0 rfl⟩, H.outOf (M := M) (s' := i' + 1) (A1 := [_]) (As := tkA r a l c) (ds := tkD l a c) rfl rfl (by simp)⟩
  | false =>
  rw [hr] at ht H
  simp only [cond_false] at ht H
  (repeat (first | refine qq ?_ | (refine qds H ?_; intro H) | (refine qrb H ?_; intro _ w H) | (refine qrs H ?_; intro w H) | (refine qdr H ?_; intro H)))
  refine qa1 (hc := peek_c (H.bcells 2 2 rfl rfl) (H.dat (d := (LSl LStr).dat M l [.slice a l.length c]) (by simp))) (k := ?_)
  rintro _ w ⟨rfl, hm⟩
  have H := H.call hm
  cases hd : takeV l i' dotB with
  | true =>
    rw [hd] at ht
    simp only [cond_true] at ht
    obtain ⟨hpe, hil'⟩ := takeV_true hd
    have hib' := beq_lt hil'
    cases hrec : rec (i' + 1) with
    | none => rw [hrec] at ht; cases ht
    | some xj =>
    obtain ⟨x, j'⟩ := xj
    rw [hrec] at ht
    simp only [] at ht
    cases its with
    | nil => cases ht
    | cons y ys =>
    simp only [] at ht
    cases hr2 : takeV l j' parR with
    | false => rw [hr2] at ht; cases ht
    | true =>
    rw [hr2] at ht
    simp only [cond_true, Option.some.injEq, Prod.mk.injEq] at ht
    obtain ⟨rfl, rfl⟩ := ht
    (repeat (first | refine qq ?_ | (refine qds H ?_; intro H) | (refine qrb H ?_; intro _ w H) | (refine qrs H ?_; intro w H) | (refine qdr H ?_; intro H)))
    refine WO_g rfl rfl (by exact rfl) (S_call1 _ (by exact rfl) (by exact rfl) (done_c (l := l) (i := i') (c := c) (a := a) (H.bcells 2 2 rfl rfl)) ?_)
    rintro _ w ⟨rfl, hm⟩
    have H := H.call hm
    rw [hib']
    (repeat (first | refine qq ?_ | (refine qds H ?_; intro H) | (refine qrb H ?_; intro _ w H) | (refine qrs H ?_; intro w H) | (refine qdr H ?_; intro H)))
    refine qa1 (hc := ih hrec (H.into (A1 := [_, _]) (As := tkA r a l c) (ds := tkD l a c) (s := i' + 1) rfl hM (by simp))) (k := ?_)
    rintro _ w ⟨⟨vs, rfl, hx⟩, hout⟩
    have ho := hout.2.2.1
    obtain ⟨a1, c1, rfl⟩ := rdT_four hx
    have H := (H.step (A1 := [_, _]) (As := tkA r a l c) rfl hout).addO (A1 := [_, _]) (As := tkA r a l c) ho (L := LT) hx
    (repeat (first | refine qq ?_ | (refine qds H ?_; intro H) | (refine qdr H ?_; intro H)))
    refine qrb H ?_; intro b6 w H
    refine qrs H ?_; intro w H
    simp only [List.length_cons] at hvl hits
    (repeat (first | refine qq ?_ | (refine qds H ?_; intro H) | (refine qrb H ?_; intro _ w H) | (refine qrs H ?_; intro w H) | (refine qdr H ?_; intro H)))
    refine WO_g rfl rfl (by exact rfl) (S_call2 _ _ (by exact rfl) (by exact rfl) (by exact rfl) (take_c (s := parR) hl (H.into (A1 := [_, _, _]) (As := tkA r a l c) (ds := tkD l a c) (s := j') rfl hM (by simp))) ?_)
    rintro _ w ⟨rfl, hout⟩
    have H := H.step (A1 := [_, _, _]) (As := tkA r a l c) rfl hout
    rw [hr2] at H ⊢
    simp only [cond_true] at H
    have H := Holds.freeze (A1 := [_]) (A2 := [_, _]) (M := M) (L := LT) (l := y :: ys) H hM (H.dat (d := dall LT M (y :: ys) vss) (by simp)) (by simp [owns, box])
    obtain ⟨lt, hlt⟩ : ∃ lt, lt = y :: ys := ⟨_, rfl⟩
    have hltl : lt.length = vss.length := by rw [hlt, ← hvl, List.length_cons]
    rw [← hlt] at H
    rw [← hltl] at H ⊢
    (repeat (first | refine qq ?_ | (refine qds H ?_; intro H) | (refine qrb H ?_; intro _ w H) | (refine qrs H ?_; intro w H) | (refine qdr H ?_; intro H)))
    refine W_loop (fun m f w' => ∃ gg t6 cs, m ≤ lt.length ∧ f = sl gg [(2, .pointer (some ⟨b2, 0, none⟩)), (5, .slice a5 lt.length c5), (6, .pointer (some ⟨b6, 0, none⟩)), (8, .int .i64 ((m : Nat) - 1))] ∧ t6 = listOn (lt.drop m) x ∧ cs.length = 4 ∧
      Holds wA (owns (tkA r a l c i)) [box b6 cs 32, box b2 [.int .i64 0, .int .i64 0, .string ⟨#[]⟩, .slice none 0 0] 32, box r (rcells a l c (j' + 1)) 64] [LT.dat M t6 cs, (LSl LT).dat M lt [.slice a5 lt.length c5], Dat.wide M ((LSl LStr).dat (fun _ => False) l [.slice a l.length c])] w') lt.length
      ⟨_, _, [.int .i64 x.kind, .int .i64 x.int, .string x.name, .slice a1 x.args.length c1], Nat.le_refl _, sl_back ⟨rfl, rfl, rfl, rfl, trivial⟩, rfl, rfl, ?_⟩ ?_
    · rw [List.drop_length]
      exact H.sub (.refl _) (by simp [listOn])
    clear H
    rintro m f w ⟨gg, t6, cs, hm', rfl, ht6, hcs, H⟩
    obtain ⟨at1, ct1, rfl⟩ := rdT_four (H.dat (d := LT.dat M t6 cs) (by simp))
    cases m with
    | zero =>
      (repeat (first | refine qq ?_ | (refine qds H ?_; intro H) | (refine qrb H ?_; intro _ w H) | (refine qrs H ?_; intro w H) | (refine qdr H ?_; intro H)))
      subst ht6 hlt
      exact ⟨_, _, _, rfl, H.bcells 1 4 rfl rfl, rfl, ⟨_, rfl, H.out (L := LT) 0 rfl⟩, H.outOf (M := M) (s' := j' + 1) (A1 := [_, _]) (As := tkA r a l c) (ds := tkD l a c) rfl rfl (by simp)⟩
    | succ q =>
      obtain ⟨z, hz⟩ : ∃ x, lt[q]? = some x := ⟨_, List.getElem?_eq_getElem (by omega)⟩
      obtain ⟨b, o, vs, rfl, _, _, hrz, H⟩ := H.elem (L := LT) (M := M) (l := lt) (a := a5) (n := lt.length) (c := c5) (by simp) q hz
      obtain ⟨a8, c8, rfl⟩ := rdT_four hrz
      rw [show ((q + 1 : Nat) : Int) - 1 = (q : Nat) by omega]
      (repeat (first | refine qq ?_ | (refine qds H ?_; intro H) | (refine qrb H ?_; intro _ w H) | (refine qrs H ?_; intro w H) | (refine qdr H ?_; intro H)))
      have H1 := H
      refine WD_any 6 [[], [], [0, 1], [0, 1, 2], [], [0, 1, 2, 3, 4]] [(5, PN LT (H1.wr M) ((.pair z t6)))] (by kernel_rfl) ?_ ?_ _ (by exact rfl) ?_
      · exact ⟨PN_stab, trivial⟩
      · refine ⟨?_, ?_, ?_, ?_, ?_, ?_, trivial⟩
        iterate 5 (· exact qob)
        · intro w hm
          have H := H.call hm
          iterate 5 refine qwr ?_
          refine qol ?_
          exact S_call2 _ _ (by exact rfl) (by exact rfl) (by exact rfl) (pair_c (M := H1.wr M) (fun b hb => Nat.lt_of_lt_of_le (H1.wr_lt hM b hb) hm.size) (H.dat (d := LT.dat M z [.int .i64 z.kind, .int .i64 z.int, .string z.name, .slice a8 z.args.length c8]) (by simp)) (H.dat (d := LT.dat M t6 [.int .i64 t6.kind, .int .i64 t6.int, .string t6.name, .slice at1 t6.args.length ct1]) (by simp))) fun v w' ⟨vs, h1, h2, h3⟩ => ⟨⟨vs, h1, h2⟩, h3⟩
      intro w hm
      have H := H.call hm
      iterate 5 refine qwr ?_
      refine qwl ?_; rintro _ ⟨us5, rfl, h5⟩; obtain ⟨a5, c5, rfl⟩ := rdT_four h5
      refine WR_nil ?_
      have H := H.add (d := LT.dat M (.pair z t6) _) h5
      refine WD_n (by kernel_rfl) (by exact rfl) (S_storeN H 0 _ _ (by exact rfl) (by exact rfl) (by exact rfl) (by exact rfl) (by exact rfl) (by exact rfl) ?_); intro w H
      refine WD_end (by decide) ?_
      (repeat (first | refine qq ?_ | (refine qds H ?_; intro H) | (refine qrb H ?_; intro _ w H) | (refine qrs H ?_; intro w H) | (refine qdr H ?_; intro H)))
      refine ⟨q, by omega, _, .pair z t6, _, by omega, sl_back ⟨rfl, rfl, rfl, rfl, trivial⟩, ?_, ?_, H.sub (.refl _) (by simp [putAt])⟩
      · rw [drop_at hz, listOn, ht6]
      · exact rfl
  | false =>
  rw [hd] at ht
  simp only [cond_false] at ht
  have hne := takeV_false (s := dotB) (by decide) hd
  cases hrec : rec i' with
  | none => rw [hrec] at ht; cases ht
  | some xj =>
  obtain ⟨x, j'⟩ := xj
  rw [hrec] at ht
  simp only [] at ht
  (repeat (first | refine qq ?_ | (refine qds H ?_; intro H) | (refine qrb H ?_; intro _ w H) | (refine qrs H ?_; intro w H) | (refine qdr H ?_; intro H)))
  refine qa1 (hc := ih hrec (H.into (A1 := [_, _]) (As := tkA r a l c) (ds := tkD l a c) (s := i') rfl hM (by simp))) (k := ?_)
  rintro _ w ⟨⟨vs, rfl, hx⟩, hout⟩
  have ho := hout.2.2.1
  obtain ⟨a1, c1, rfl⟩ := rdT_four hx
  have H := (H.step (A1 := [_, _]) (As := tkA r a l c) rfl hout).addO (A1 := [_, _]) (As := tkA r a l c) ho (L := LT) hx
  (repeat (first | refine qq ?_ | (refine qds H ?_; intro H) | (refine qrb H ?_; intro _ w H) | (refine qrs H ?_; intro w H) | (refine qdr H ?_; intro H)))
  (first | refine WO_s rfl (S_bslice1N H _ (by exact rfl) (by exact rfl) (by exact rfl) (by exact rfl) (by exact rfl) ?_) | refine WO_s rfl (S_bslice1s H _ (by exact rfl) (by exact rfl) (by exact rfl) ?_)); intro b91 w H
  refine WO_s rfl (S_append H 2 _ _ (vs := [.int .i64 x.kind, .int .i64 x.int, .string x.name, .slice a1 x.args.length c1]) (by exact rfl) (by exact rfl) (by exact rfl) (H.bcells 0 4 rfl rfl) rfl (by simp [Value.oneCell']) (by simp) (by exact rfl) (by omega) ?_)
  intro v'' w H
  have H := H.snoc (L := LT) (M := M) (l := its) (vss := vss) (x := x) (by simp) (H.dat (d := LT.dat M x [.int .i64 x.kind, .int .i64 x.int, .string x.name, .slice a1 x.args.length c1]) (by simp))
  (repeat (first | refine qq ?_ | (refine qds H ?_; intro H) | (refine qrb H ?_; intro _ w H) | (refine qrs H ?_; intro w H) | (refine qdr H ?_; intro H)))
  exact ⟨fu', by omega, _, j', its ++ [x], v'', vss ++ [[.int .i64 x.kind, .int .i64 x.int, .string x.name, .slice a1 x.args.length c1]], sl_back ⟨rfl, rfl, rfl, trivial⟩, ht, by simp; omega, H.sub (.cons _ (.cons _ (.refl _))) (by simp)⟩
theorem term_c {l : List ByteArray} {r c : Nat} {a : Option Addr} (hl : l.length ≤ 100000) : ∀ f, f ≤ 10000 → TermRC l r c a (termV f l) := by
  intro f
  induction f with
  | zero => intro _ i j t M w h; cases h
  | succ f ih =>
    intro hf i j t M w h hin
    unfold termV at h
    cases hs : l[i]? with
    | none => rw [hs] at h; cases h
    | some s =>
      rw [hs] at h
      simp only [] at h
      cases hp : decide (s = parL) with
      | true =>
        rw [hp] at h
        have hp : s = parL := by simpa using hp
        subst hp
        exact term_par (ih (by omega)) hl hf hs h hin
      | false =>
        rw [hp] at h
        simp only [cond_false] at h
        have hp : s ≠ parL := by simpa using hp
        cases hq : findK qd s 10 with
        | some k =>
          rw [hq] at h
          cases h
          obtain ⟨h1, h2⟩ := findK_at hq
          exact term_leaf hl hs hp (.inl ⟨k, h2, h1, rfl⟩) hin
        | none =>
          rw [hq] at h
          simp only [] at h
          cases hd : findK dig s 10 with
          | none => rw [hd] at h; cases h
          | some k =>
            rw [hd] at h
            cases h
            obtain ⟨h1, h2⟩ := findK_at hd
            exact term_leaf hl hs hp (.inr ⟨k, h2, h1, rfl⟩) hin
def okV (l : List ByteArray) (i : Nat) : Option (T × Nat) := match termV 60 l i with
  | none => none
  | some (t, j) => bif t.ok then some (t, j) else none
set_option maxHeartbeats 1000000 in
set_option maxRecDepth 100000 in
theorem okTerm_c {l : List ByteArray} {r c i j : Nat} {a : Option Addr} {t : T} {M : Nat → Prop} {wA : World} (hl : l.length ≤ 100000) (h : okV l i = some (t, j)) (hin : In (tkA r a l c) (tkD l a c) M i wA) :
    Calls Tryz.prog 38 #[.pointer (some ⟨r, 0, none⟩)] wA (Ret fun v w' => (∃ vs, v = .tuple #[.agg vs.toArray, .bool true] ∧ rdT M w' t vs) ∧ Out (tkA r a l c) (tkD l a c) M i j wA w') := by
  have hM := hin.1
  unfold okV at h
  cases ht : termV 60 l i with
  | none => rw [ht] at h; cases h
  | some q =>
  obtain ⟨t', j'⟩ := q
  rw [ht] at h
  simp only [] at h
  cases hok : t'.ok with
  | false => rw [hok] at h; cases h
  | true =>
  rw [hok] at h
  cases h
  refine enterCT Tryz.func38 rfl Tryz.ntmps38 rfl (by simp) ?_
  have H := hin.begin
  refine W_rs ?_
  refine qrb H ?_; intro b2 w H
  (repeat (first | refine qq ?_ | (refine qds H ?_; intro H) | (refine qdr H ?_; intro H)))
  refine qa1 (hc := term_c hl 60 (by omega) ht (H.into (A1 := [_]) (As := tkA r a l c) (ds := tkD l a c) (s := i) rfl hM (by simp))) (k := ?_)
  rintro _ w ⟨⟨vs, rfl, hx⟩, hout⟩
  have ho := hout.2.2.1
  obtain ⟨a1, c1, rfl⟩ := rdT_four hx
  have H := (H.step (A1 := [_]) (As := tkA r a l c) rfl hout).addO (A1 := [_]) (As := tkA r a l c) ho (L := LT) hx
  (repeat (first | refine qq ?_ | (refine qds H ?_; intro H) | (refine qdr H ?_; intro H)))
  refine qrb H ?_; intro b4 w H
  refine qrs H ?_; intro w H
  (repeat (first | refine qq ?_ | (refine qds H ?_; intro H) | (refine qrb H ?_; intro _ w H) | (refine qrs H ?_; intro w H) | (refine qdr H ?_; intro H)))
  refine WO_g rfl rfl (by exact rfl) (S_call1 _ (by exact rfl) (by exact rfl) (TermOk_c (H.dat (d := LT.dat M t [.int .i64 t.kind, .int .i64 t.int, .string t.name, .slice a1 t.args.length c1]) (by simp)) hok) ?_)
  rintro _ w ⟨rfl, hm⟩
  have H := H.call hm
  (repeat (first | refine qq ?_ | (refine qds H ?_; intro H) | (refine qrb H ?_; intro _ w H) | (refine qrs H ?_; intro w H) | (refine qdr H ?_; intro H)))
  exact ⟨_, _, _, rfl, H.bcells 1 4 rfl rfl, rfl, ⟨_, rfl, H.out (L := LT) 0 rfl⟩, H.outOf (M := M) (s' := j) (A1 := [_, _]) (As := tkA r a l c) (ds := tkD l a c) rfl rfl (by simp)⟩
end Go.Proofs.YtljpfnjpifhdlaaGreatDoor
namespace Go.Proofs.YtljpfnjpifhdlaaGreatDoor
open Go
abbrev EntS := ByteArray × Value × Nat
def entS (x : EntS) : MapEntry := ⟨.string x.1, x.2.1, x.2.2⟩
abbrev KV := List (ByteArray × Value)
def lookS : KV → ByteArray → Option Value
  | [], _ => none
  | x :: l, n => if x.1 = n then some x.2 else lookS l n
def lookSx : List EntS → ByteArray → Nat → Option (Nat × Value)
  | [], _, _ => none
  | x :: l, n, i => if x.1 = n then some (i, x.2.1) else lookSx l n (i + 1)
theorem ba_beq (a b : ByteArray) : (a == b) = (a.data == b.data) := by cases a; cases b; rfl
theorem ba_same (a : ByteArray) : (a == a) = true := by rw [ba_beq]; simp
theorem ba_ne {a b : ByteArray} (h : a ≠ b) : (a == b) = false := by
  rw [ba_beq, beq_eq_false_iff_ne]
  intro e; exact h (by cases a; cases b; simp at e; simp [e])
theorem findNowS (n : ByteArray) : ∀ (l : List EntS) (i : Nat), Instr.findNow .string (.string n) (l.map entS) i = some (lookSx l n i)
  | [], _ => rfl
  | x :: l, i => by
    simp only [List.map_cons, Instr.findNow, lookSx, entS, Instr.sameNow]
    by_cases h : x.1 = n
    · subst h; simp [ba_same]
    · have h1 : (n == x.1) = false := ba_ne fun e => h e.symm
      rw [h1, if_neg h]
      exact findNowS n l (i + 1)
theorem lookSx_look (n : ByteArray) : ∀ (l : List EntS) (i : Nat), (lookSx l n i).map (·.2) = lookS (l.map fun x => (x.1, x.2.1)) n
  | [], _ => rfl
  | x :: l, i => by
    simp only [lookSx, List.map_cons, lookS]
    split
    · rfl
    · exact lookSx_look n l (i + 1)
def MapSAt (b : Nat) (l : KV) (w : World) : Prop := ∃ (es : List EntS) (clock : Nat), w.heap[b]? = some (.map (es.map entS).toArray clock) ∧ es.map (fun x => (x.1, x.2.1)) = l
def mps (b : Nat) (l : KV) : Atom := ⟨[b], MapSAt b l, fun _ _ h ⟨es, c, h1, h2⟩ => ⟨es, c, by rw [h b (by simp)]; exact h1, h2⟩⟩
section
variable {P : Program} {w0 w : World} {S : List Nat} {A : List Atom} {D : List Dat} {r : Operand → Value} {d : Option Tmp} {ty : TypeId} {pos : String} {aft : Array Edge} {g : Option (Nat × Bool)} {K : Value → World → Prop}
theorem S_makeMapS (H : Holds w0 S A D w) {t : TypeId} (k : ∀ b w', Holds w0 S (mps b [] :: A) D w' → K (.map (some b)) w') : OS P ⟨d, .makeMap t none, ty, pos, aft, g⟩ r w K := by
  refine S_run (v := .map (some w.heap.size)) (w' := w.alloc (.map #[] 0)) rfl (k _ _ ?_)
  exact H.new (a := mps w.heap.size []) ((Mod.refl _ _).alloc _) ⟨[], 0, by show (w.heap.push _)[w.heap.size]? = _; simp, rfl⟩ (by simp [mps]) (by simp [mps])
theorem runC_checkKeyS {k : TypeId} [I : StF P k] (e : Bool) (s : ByteArray) : runC P w (Instr.checkKey e 10000 k (.string s)) = some () := by
  unfold Instr.checkKey
  rw [runC_bind, runC_underlying I.und]
  rfl
theorem runC_findKeyS {k : TypeId} [I : StF P k] (n : ByteArray) (l : List EntS) : runC P w (Instr.findKey k (.string n) (l.map entS)) = some (lookSx l n 0) := by
  unfold Instr.findKey
  rw [runC_bind, runC_underlying I.und]
  simp only [Option.bind_some, findNowS]
  rfl
theorem runC_lookupS {t k e : TypeId} {agg : Bool} {sz : Nat} {z : Value} [G : MapF P t k e] [I : StF P k] [F : TyF P e agg sz z] {b : Nat} {l : KV} (hb : (mps b l).ok w) (n : ByteArray) :
    runC P w (Instr.lookup t (.map (some b)) (.string n) true) = some (.tuple #[(lookS l n).getD z, .bool (lookS l n).isSome]) := by
  obtain ⟨es, cl, h1, h2⟩ := hb
  unfold Instr.lookup
  rw [runC_bind, runC_underlying G.und]
  simp only [Option.bind_some]
  rw [runC_bind, runC_getMap h1]
  simp only [Option.bind_some]
  show runC P w (Instr.checkKey _ 10000 k (.string n) >>= _) = _
  rw [runC_bind, runC_checkKeyS]
  simp only [Option.bind_some]
  rw [runC_bind, runC_findKeyS]
  simp only [Option.bind_some]
  have hl := lookSx_look n es 0
  rw [h2] at hl
  cases hx : lookSx es n 0 with
  | none =>
    rw [hx] at hl
    simp only [Option.map_none] at hl
    rw [← hl]
    simp only [runC_bind, F.zero, Option.bind_some, runC_pure]
    rfl
  | some p =>
    rw [hx] at hl
    simp only [Option.map_some] at hl
    rw [← hl]
    rfl
theorem X_lookS {t k e : TypeId} {agg : Bool} {sz : Nat} {z : Value} [G : MapF P t k e] [I : StF P k] [F : TyF P e agg sz z] (H : Holds w0 S A D w) (x y : Operand) {b : Nat} {n : ByteArray} {l : KV} (hx : r x = .map (some b)) (hy : r y = .string n) (hm : mps b l ∈ A) :
    runC P w (execOp r ⟨d, .lookup t x y true, ty, pos, aft, g⟩) = some (.value (.tuple #[(lookS l n).getD z, .bool (lookS l n).isSome])) := by
  show runC P w (Instr.lookup t (r x) (r y) true >>= fun v => pure (Next.value v)) = _
  rw [runC_bind, hx, hy, runC_lookupS (H.atom hm)]; rfl
theorem X_lookSV {t k e : TypeId} {agg : Bool} {sz : Nat} {z : Value} [G : MapF P t k e] [I : StF P k] [F : TyF P e agg sz z] (H : Holds w0 S A D w) (x y : Operand) {b : Nat} {n : ByteArray} {l : KV} {v : Value} (hx : r x = .map (some b)) (hy : r y = .string n) (hm : mps b l ∈ A) (hv : lookS l n = some v) :
    runC P w (execOp r ⟨d, .lookup t x y true, ty, pos, aft, g⟩) = some (.value (.tuple #[v, .bool true])) := by
  rw [X_lookS H x y hx hy hm, hv]; rfl
theorem X_lookSN {t k e : TypeId} {agg : Bool} {sz : Nat} {z : Value} [G : MapF P t k e] [I : StF P k] [F : TyF P e agg sz z] (H : Holds w0 S A D w) (x y : Operand) {b : Nat} {n : ByteArray} {l : KV} (hx : r x = .map (some b)) (hy : r y = .string n) (hm : mps b l ∈ A) (hv : lookS l n = none) :
    runC P w (execOp r ⟨d, .lookup t x y true, ty, pos, aft, g⟩) = some (.value (.tuple #[z, .bool false])) := by
  rw [X_lookS H x y hx hy hm, hv]; rfl
theorem X_lenM {t k e : TypeId} [G : MapF P t k e] (H : Holds w0 S A D w) (x : Operand) {b : Nat} {l : KV} (hx : r x = .map (some b)) (hm : mps b l ∈ A) :
    runC P w (execOp r ⟨d, .call { callee := .builtin .len, args := #[x], argTypes := #[t] }, ty, pos, aft, g⟩) = some (.value (.int .i64 (l.length : Nat))) := by
  obtain ⟨es, cl, h1, h2⟩ := H.atom hm
  have hu : runC P w (underlying t) = some (.map k e) := runC_underlying G.und
  have hl : es.length = l.length := by rw [← h2, List.length_map]
  simp only [execOp, resolve, pure_bind, invoke, builtin, List.map_toArray, List.map_cons, List.map_nil, hx, Builtin.len_]
  simp [runC_bind, hu, runC_getMap h1, runC_pure, goInt, hl]
theorem run_updateS {t k e : TypeId} [G : MapF P t k e] [I : StF P k] {b : Nat} {l : KV} (hb : (mps b l).ok w) (n : ByteArray) (v : Value) (hn : lookS l n = none) :
    ∃ w', (Instr.mapUpdate t (.map (some b)) (.string n) v).run P w = .ok () w' ∧ Mod [b] w w' ∧ w'.heap.size = w.heap.size ∧ (mps b (l ++ [(n, v)])).ok w' := by
  obtain ⟨es, cl, h1, h2⟩ := hb
  have hblt : b < w.heap.size := (Array.getElem?_eq_some_iff.1 h1).1
  have mod : ∀ o, Mod [b] w (ChangeMaps.setBlock w b o) := fun o => ⟨rfl, rfl, rfl, by simp [ChangeMaps.setBlock], fun i _ hi => by
    have hi' : b ≠ i := fun e => hi (by simp [e])
    simp [ChangeMaps.setBlock, Array.getElem?_setIfInBounds_ne hi']⟩
  have at' : ∀ o, (ChangeMaps.setBlock w b o).heap[b]? = some o := fun o => by simp [ChangeMaps.setBlock, hblt]
  have run_set : ∀ o, (setObj b o).run P w = .ok () (ChangeMaps.setBlock w b o) := fun o => by simp [setObj, Sem.run, h1, ChangeMaps.setBlock]
  unfold Instr.mapUpdate
  simp only [Sem.run_bind, runC_run _ _ (runC_underlying G.und), Result.andThen_ok, runC_run _ _ (runC_getMap h1), runC_run _ _ (runC_checkKeyS (P := P) (w := w) (k := k) false n), runC_run _ _ (runC_findKeyS (P := P) (w := w) (k := k) n es)]
  have hl := lookSx_look n es 0
  rw [h2, hn] at hl
  cases hx : lookSx es n 0 with
  | some p => rw [hx] at hl; cases hl
  | none =>
    simp only []
    rw [run_set]
    exact ⟨_, rfl, mod _, by simp [ChangeMaps.setBlock], es ++ [(n, v, cl)], cl + 1, by rw [at']; simp [entS], by simp [h2]⟩
theorem S_setS (H : Holds w0 S A D w) (i : Nat) {t k e : TypeId} [G : MapF P t k e] [I : StF P k] (x y z : Operand) {b : Nat} {n : ByteArray} {l : KV} {v : Value} (hi : A[i]? = some (mps b l)) (hx : r x = .map (some b)) (hy : r y = .string n) (hz : r z = v) (hn : lookS l n = none)
    (kk : ∀ w', Holds w0 S (A.set i (mps b (l ++ [(n, v)]))) D w' → K undef w') : OS P ⟨d, .mapUpdate t x y z, ty, pos, aft, g⟩ r w K := by
  obtain ⟨w', h1, h2, h3, h4⟩ := run_updateS (P := P) (t := t) (H.atom (List.mem_of_getElem? hi)) n v hn
  have hblt : b < w.heap.size := H.lt b (mem_owns.2 ⟨_, List.mem_of_getElem? hi, by simp [mps]⟩)
  refine S_skip (w' := w') ?_ (kk w' (H.turnAt i hi h2 h4 (by simp [mps]) fun c hc => ?_))
  · show (Instr.mapUpdate t (r x) (r y) (r z) >>= fun _ => pure Next.skip).run P w = _
    rw [hx, hy, hz, Sem.run_bind, h1]; rfl
  · simp only [mps, List.mem_singleton] at hc
    subst hc
    exact ⟨by omega, .inl (by simp [mps])⟩
theorem S_insS (H : Holds w0 S A D w) (i : Nat) {t k e : TypeId} [G : MapF P t k e] [I : StF P k] (x y z : Operand) {b : Nat} {n : ByteArray} {l : KV} {v : Value} (hi : A[i]? = some (mps b l)) (hx : r x = .map (some b)) (hy : r y = .string n) (hz : r z = v) (hn : lookS l n = none)
    (kk : ∀ w', Holds w0 S (A.set i (mps b (l ++ [(n, v)]))) D w' → K undef w') : OS P ⟨d, .insert t x y z, ty, pos, aft, g⟩ r w K := S_setS (d := d) (ty := ty) (pos := pos) (aft := aft) (g := g) H i x y z hi hx hy hz hn kk
/-- a call of a function value that holds its receiver -/
theorem S_cloB {f : FuncId} [F : FnF P f] {x : Operand} {bd : Array Value} {tys : Array TypeId} {p : Value → World → Prop} (hx : r x = .func (.func f) bd #[]) (hc : Calls P f bd w (Ret p)) (k : ∀ v w', p v w' → K v w') :
    OS P ⟨d, .call { callee := .value x, args := #[], argTypes := tys }, ty, pos, aft, g⟩ r w K := by
  have e : (execOp r ⟨d, .call { callee := .value x, args := #[], argTypes := tys }, ty, pos, aft, g⟩).run P w = .ok (.enter f bd) w := by
    simp only [execOp, resolve, hx, Deferred.ofValue, pure_bind, invoke, List.map_toArray, List.map_nil, Array.append_empty]
    exact F.enter _ _
  unfold OS
  rw [e]
  exact calls_ret hc k
end
end Go.Proofs.YtljpfnjpifhdlaaGreatDoor
