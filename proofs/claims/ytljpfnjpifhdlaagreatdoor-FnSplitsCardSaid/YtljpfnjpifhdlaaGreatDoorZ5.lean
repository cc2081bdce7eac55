/- positive, IsPositive, fits, canStart. shifted, goalWith, expand. expand. Branches: append to a slice without room; choose, before. A block whose cells are no row of terms or bindings is none of the blocks of such data. copyState. Branches and answers: copyBranch. A block that holds the goal of zeros is none of the blocks of goals whose kinds are not 0. A call that hands back two rows of cells and a flag. The depth-first search as plain data: branches with their goals, one step, the whole search. Rows made within a region: an append that may write in place, while other operations are still to come. A region in whatever order in which one operation (c) writes what another has made: what is made is said twice, for before that write and for behind it. choose: a copy of the choices with one more; the append may write in place while other reads are still to come. expandIn. -/
import Derived.Test.YtljpfnjpifhdlaaGreatDoorZ4
import Derived.Test.YtljpfnjpifhdlaaGreatDoorZ2
namespace Go.Proofs.YtljpfnjpifhdlaaGreatDoor
open Go
def posGo : List Rl → Bool
  | [] => true
  | x :: xs => decide (eachG negS x.body () = some ()) && posGo xs
set_option maxRecDepth 100000 in
theorem positive_c {P : List Rl} {a : Option Addr} {c : Nat} {M : Nat → Prop} {w : World} (hs : posGo P = true) (hl : P.length ≤ 1000) (hM : ∀ b, M b → b < w.heap.size) (h : (LSl LR).rd M w P [.slice a P.length c]) :
    Calls Tryz.prog 76 #[.agg #[.slice a P.length c]] w (Ret fun v w' => v = .bool true ∧ Mod [] w w') := by
  refine enter1 Tryz.func76 rfl Tryz.ntmps76 rfl (by simp) ?_
  have H := (Holds.start w []).arg (L := LSl LR) h
  refine W_rs ?_
  refine qrb H ?_; intro b2 w H
  (repeat (first | refine qq ?_ | (refine qds H ?_; intro H) | (refine qrb H ?_; intro _ w H) | (refine qrs H ?_; intro w H) | (refine qdr H ?_; intro H)))
  refine W_loop (fun k' f w' => ∃ k gg, k' = P.length - k ∧ k ≤ P.length ∧ f = sl gg [(6, .slice a P.length c), (7, .int .i64 P.length), (8, .int .i64 k)] ∧ posGo (P.drop k) = true ∧ Holds _ [] [] [(LSl LR).dat M P [.slice a P.length c]] w') P.length
    ⟨0, _, rfl, Nat.zero_le _, sl_back ⟨rfl, rfl, rfl, trivial⟩, hs, H.sub (List.nil_sublist _) (by simp)⟩ ?_
  clear H hs
  rintro m0 f w ⟨k, gg, rfl, hk, rfl, hs, H⟩
  by_cases hlt : k < P.length
  · obtain ⟨x, hx⟩ : ∃ x, P[k]? = some x := ⟨_, List.getElem?_eq_getElem hlt⟩
    rw [drop_at hx] at hs
    simp only [posGo, Bool.and_eq_true, decide_eq_true_eq] at hs
    obtain ⟨h1, hs⟩ := hs
    obtain ⟨b, o, vs, rfl, _, _, hr, H⟩ := H.elem (L := LR) (M := M) (l := P) (a := a) (n := P.length) (c := c) (by simp) k hx
    obtain ⟨a1, c1, a2, c2, rfl, _⟩ := rdR_form hr
    have H := H.add (d := LG.dat M x.body [.int .i64 (x.body.kind : Nat), .string x.body.name, .slice a1 x.body.terms.length c1, .slice a2 x.body.kids.length c2]) (rdR_body (H.get 1 rfl))
    (repeat (first | refine qq ?_ | (refine qds H ?_; intro H) | (refine qrb H ?_; intro _ w H) | (refine qrs H ?_; intro w H) | (refine qdr H ?_; intro H)))
    refine qa1 (hc := negative_c h1 (H.wr_lt hM) (H.dat (d := LG.dat M x.body [.int .i64 (x.body.kind : Nat), .string x.body.name, .slice a1 x.body.terms.length c1, .slice a2 x.body.kids.length c2]) (by simp))) (k := ?_)
    rintro _ w ⟨rfl, hm⟩
    have H := H.call hm
    (repeat (first | refine qq ?_ | (refine qds H ?_; intro H) | (refine qrb H ?_; intro _ w H) | (refine qrs H ?_; intro w H) | (refine qdr H ?_; intro H)))
    exact ⟨P.length - (k + 1), by omega, k + 1, _, rfl, by omega, sl_back ⟨rfl, rfl, rfl, trivial⟩, hs, H.sub (List.nil_sublist _) (by simp)⟩
  · (repeat (first | refine qq ?_ | (refine qds H ?_; intro H) | (refine qrb H ?_; intro _ w H) | (refine qrs H ?_; intro w H) | (refine qdr H ?_; intro H)))
    exact ⟨rfl, H.mod⟩
set_option maxRecDepth 100000 in
theorem IsPositive_c {P : List Rl} {a : Option Addr} {c : Nat} {M : Nat → Prop} {w : World} (h1 : progOkV P = true) (hs : posGo P = true) (hM : ∀ b, M b → b < w.heap.size) (h : (LSl LR).rd M w P [.slice a P.length c]) :
    Calls Tryz.prog 47 #[.agg #[.slice a P.length c]] w (Ret fun v w' => v = .bool true ∧ Mod [] w w') := by
  have hl : P.length ≤ 8 := by
    simp only [progOkV, Bool.and_eq_true] at h1
    exact Nat.le_of_ble_eq_true h1.1
  refine enter1 Tryz.func47 rfl Tryz.ntmps47 rfl (by simp) ?_
  have H := (Holds.start w []).arg (L := LSl LR) h
  refine W_rs ?_
  refine qrb H ?_; intro b2 w H
  (repeat (first | refine qq ?_ | (refine qds H ?_; intro H) | (refine qrb H ?_; intro _ w H) | (refine qrs H ?_; intro w H) | (refine qdr H ?_; intro H)))
  refine qa1 (hc := ProgramOk_c h1 (H.wr_lt hM) (H.dat (d := (LSl LR).dat M P [.slice a P.length c]) (by simp))) (k := ?_)
  rintro _ w ⟨rfl, hm⟩
  have H := H.call hm
  (repeat (first | refine qq ?_ | (refine qds H ?_; intro H) | (refine qrb H ?_; intro _ w H) | (refine qrs H ?_; intro w H) | (refine qdr H ?_; intro H)))
  refine WO_g rfl rfl (by exact rfl) (S_call1 _ (by exact rfl) (by exact rfl) (positive_c hs (by omega) (H.wr_lt hM) (H.dat (d := (LSl LR).dat M P [.slice a P.length c]) (by simp))) ?_)
  rintro _ w ⟨rfl, hm⟩
  have H := H.call hm
  (repeat (first | refine qq ?_ | (refine qds H ?_; intro H) | (refine qrb H ?_; intro _ w H) | (refine qrs H ?_; intro w H) | (refine qdr H ?_; intro H)))
  exact ⟨rfl, H.mod⟩
set_option maxRecDepth 100000 in
theorem fits_c {P : List Rl} {g : G} {n : Nat} {a : Option Addr} {c : Nat} {us : List Value} {M : Nat → Prop} {w : World} (hv : varsBelowV g n = true) (hc : eachG (callS P) g () = some ()) (hl : P.length ≤ 1000) (hM : ∀ b, M b → b < w.heap.size) (hP : (LSl LR).rd M w P [.slice a P.length c]) (h : rdG M w g us) :
    Calls Tryz.prog 49 #[.agg #[.slice a P.length c], .agg us.toArray, .int .i64 n] w (Ret fun v w' => v = .bool true ∧ Mod [] w w') := by
  obtain ⟨a1, c1, a3, cc, rfl, _⟩ := rdG_form h
  refine enter1 Tryz.func49 rfl Tryz.ntmps49 rfl (by simp) ?_
  have H := ((Holds.start w []).arg (L := LG) h).arg (L := LSl LR) hP
  refine W_rs ?_
  refine qrb H ?_; intro b2 w H
  refine qrb H ?_; intro b3 w H
  (repeat (first | refine qq ?_ | (refine qds H ?_; intro H) | (refine qrb H ?_; intro _ w H) | (refine qrs H ?_; intro w H) | (refine qdr H ?_; intro H)))
  refine qa2 (hc := varsBelow_c hv (H.wr_lt hM) (H.dat (d := LG.dat M g [.int .i64 (g.kind : Nat), .string g.name, .slice a1 g.terms.length c1, .slice a3 g.kids.length cc]) (by simp))) (k := ?_)
  rintro _ w ⟨rfl, hm⟩
  have H := H.call hm
  (repeat (first | refine qq ?_ | (refine qds H ?_; intro H) | (refine qrb H ?_; intro _ w H) | (refine qrs H ?_; intro w H) | (refine qdr H ?_; intro H)))
  refine WO_g rfl rfl (by exact rfl) (S_call2 _ _ (by exact rfl) (by exact rfl) (by exact rfl) (callsFit_c hc hl (H.wr_lt hM) (H.dat (d := (LSl LR).dat M P [.slice a P.length c]) (by simp)) (H.dat (d := LG.dat M g [.int .i64 (g.kind : Nat), .string g.name, .slice a1 g.terms.length c1, .slice a3 g.kids.length cc]) (by simp))) ?_)
  rintro _ w ⟨rfl, hm⟩
  have H := H.call hm
  (repeat (first | refine qq ?_ | (refine qds H ?_; intro H) | (refine qrb H ?_; intro _ w H) | (refine qrs H ?_; intro w H) | (refine qdr H ?_; intro H)))
  exact ⟨rfl, H.mod⟩
def canStartV (P : List Rl) (g : G) (n : Nat) : Bool := Nat.ble n 100000 && (progOkV P && posGo P) && goalOkV g && varsBelowV g n && decide (eachG (callS P) g () = some ()) && decide (eachG negS g () = some ())
set_option maxRecDepth 100000 in
theorem canStart_c {P : List Rl} {g : G} {n : Nat} {a : Option Addr} {c : Nat} {us : List Value} {M : Nat → Prop} {w : World} (hs : canStartV P g n = true) (hM : ∀ b, M b → b < w.heap.size) (hP : (LSl LR).rd M w P [.slice a P.length c]) (h : rdG M w g us) :
    Calls Tryz.prog 23 #[.agg #[.slice a P.length c], .agg us.toArray, .int .i64 n] w (Ret fun v w' => v = .bool true ∧ Mod [] w w') := by
  obtain ⟨a1, c1, a3, cc, rfl, _⟩ := rdG_form h
  simp only [canStartV, Bool.and_eq_true, decide_eq_true_eq] at hs
  obtain ⟨⟨⟨⟨⟨h1, h2, hpos⟩, h3⟩, h4⟩, h5⟩, h6⟩ := hs
  have h1 := Nat.le_of_ble_eq_true h1
  have hl : P.length ≤ 8 := by
    simp only [progOkV, Bool.and_eq_true] at h2
    exact Nat.le_of_ble_eq_true h2.1
  refine enter1 Tryz.func23 rfl Tryz.ntmps23 rfl (by simp) ?_
  have H := ((Holds.start w []).arg (L := LG) h).arg (L := LSl LR) hP
  refine W_rs ?_
  refine qrb H ?_; intro b2 w H
  refine qrb H ?_; intro b3 w H
  (repeat (first | refine qq ?_ | (refine qds H ?_; intro H) | (refine qrb H ?_; intro _ w H) | (refine qrs H ?_; intro w H) | (refine qdr H ?_; intro H)))
  refine WO_g rfl rfl (by exact rfl) (S_call1 _ (by exact rfl) (by exact rfl) (IsPositive_c h2 hpos (H.wr_lt hM) (H.dat (d := (LSl LR).dat M P [.slice a P.length c]) (by simp))) ?_)
  rintro _ w ⟨rfl, hm⟩
  have H := H.call hm
  (repeat (first | refine qq ?_ | (refine qds H ?_; intro H) | (refine qrb H ?_; intro _ w H) | (refine qrs H ?_; intro w H) | (refine qdr H ?_; intro H)))
  refine WO_g rfl rfl (by exact rfl) (S_call1 _ (by exact rfl) (by exact rfl) (GoalOk_c h3 (H.wr_lt hM) (H.dat (d := LG.dat M g [.int .i64 (g.kind : Nat), .string g.name, .slice a1 g.terms.length c1, .slice a3 g.kids.length cc]) (by simp))) ?_)
  rintro _ w ⟨rfl, hm⟩
  have H := H.call hm
  (repeat (first | refine qq ?_ | (refine qds H ?_; intro H) | (refine qrb H ?_; intro _ w H) | (refine qrs H ?_; intro w H) | (refine qdr H ?_; intro H)))
  refine WO_g rfl rfl (by exact rfl) (S_call3 _ _ _ (by exact rfl) (by exact rfl) (by exact rfl) (by exact rfl) (fits_c h4 h5 (by omega) (H.wr_lt hM) (H.dat (d := (LSl LR).dat M P [.slice a P.length c]) (by simp)) (H.dat (d := LG.dat M g [.int .i64 (g.kind : Nat), .string g.name, .slice a1 g.terms.length c1, .slice a3 g.kids.length cc]) (by simp))) ?_)
  rintro _ w ⟨rfl, hm⟩
  have H := H.call hm
  (repeat (first | refine qq ?_ | (refine qds H ?_; intro H) | (refine qrb H ?_; intro _ w H) | (refine qrs H ?_; intro w H) | (refine qdr H ?_; intro H)))
  refine WO_g rfl rfl (by exact rfl) (S_call1 _ (by exact rfl) (by exact rfl) (negative_c h6 (H.wr_lt hM) (H.dat (d := LG.dat M g [.int .i64 (g.kind : Nat), .string g.name, .slice a1 g.terms.length c1, .slice a3 g.kids.length cc]) (by simp))) ?_)
  rintro _ w ⟨rfl, hm⟩
  have H := H.call hm
  (repeat (first | refine qq ?_ | (refine qds H ?_; intro H) | (refine qrb H ?_; intro _ w H) | (refine qrs H ?_; intro w H) | (refine qdr H ?_; intro H)))
  exact ⟨rfl, H.mod⟩
end Go.Proofs.YtljpfnjpifhdlaaGreatDoor
namespace Go.Proofs.YtljpfnjpifhdlaaGreatDoor
open Go
/-- a closure from terms to terms -/
def TermC (c : FuncId) (cap : Array Value) (ds : Unit → List Dat) (f : T → Option T) : Prop :=
  ∀ {t t' : T} {us : List Value} {M : Nat → Prop} {w : World}, f t = some t' → In noA1 ds M () w → rdT M w t us →
    Calls Tryz.prog c (#[.agg us.toArray] ++ cap) w (Ret fun v w' => (∃ vs, v = .tuple #[.agg vs.toArray, .bool true] ∧ rdT M w' t' vs) ∧ Mod [] w w')
def shS (d : Nat) : Nat → Unit → Option ((T × Bool) × Unit) := fun n _ => bif Nat.ble (n + d) 1000000 then some ((.var (n + d), true), ()) else none
def shV (d : Nat) (t : T) : Option T := match mapV (shS d) t () with
  | none => none
  | some (t, _) => some t
abbrev shD (d b3 : Nat) : Unit × Unit → List Dat := fun _ => [dcells b3 0 [.int .i64 (d : Nat)]]
abbrev exD (d b3 : Nat) : Unit → List Dat := fun _ => [dcells b3 0 [.int .i64 (d : Nat)]]
set_option maxRecDepth 100000 in
theorem shifted1_c (d b3 : Nat) : StepT 132 #[.pointer (some ⟨b3, 0, none⟩)] noA (shD d b3) (shS d) := by
  rintro n x b ⟨⟩ ⟨⟩ ⟨⟩ w M hs hin
  simp only [shS] at hs
  cases hn : Nat.ble (n + d) 1000000 with
  | false => rw [hn] at hs; cases hs
  | true =>
  rw [hn] at hs
  cases hs
  have hn := Nat.le_of_ble_eq_true hn
  show Calls _ _ #[.int .i64 n, .pointer (some ⟨b3, 0, none⟩)] _ _
  refine enterCT Tryz.func132 rfl Tryz.ntmps132 rfl (by simp) ?_
  obtain ⟨h1, h2, h3⟩ := hin.2.2.2 (dcells b3 0 [.int .i64 (d : Nat)]) (by simp)
  have H := hin.begin.add (hin.cells h1 h2 h3)
  (repeat (first | refine qq ?_ | (refine qds H ?_; intro H) | (refine qrb H ?_; intro _ w H) | (refine qrs H ?_; intro w H) | (refine qdr H ?_; intro H)))
  refine qa1 (hc := variable_c (n + d) (H.wr M) _) (k := ?_)
  rintro _ w ⟨vs, rfl, hx, hm⟩
  obtain ⟨a1, c1, rfl⟩ := rdT_four hx
  have H := (H.call hm).add (d := LT.dat M (.var (n + d)) _) hx
  (repeat (first | refine qq ?_ | (refine qds H ?_; intro H) | (refine qrb H ?_; intro _ w H) | (refine qrs H ?_; intro w H) | (refine qdr H ?_; intro H)))
  exact ⟨_, _, _, rfl, H.bcells 0 4 rfl rfl, rfl, ⟨_, rfl, H.out 0 rfl⟩, (), H.outOf (s := ((), ())) (s' := ((), ())) (A1 := [_]) (As := noA) (ds := shD d b3) rfl rfl (by simp)⟩
set_option maxRecDepth 100000 in
theorem shifted_c {t t' : T} {d : Nat} {us : List Value} {M : Nat → Prop} {w : World} (hs : shV d t = some t') (hM : ∀ b, M b → b < w.heap.size) (h : rdT M w t us) :
    Calls Tryz.prog 104 #[.agg us.toArray, .int .i64 d] w (Ret (OutT' w M t')) := by
  obtain ⟨a1, c1, rfl⟩ := rdT_four h
  unfold shV at hs
  cases hm : mapV (shS d) t () with
  | none => rw [hm] at hs; cases hs
  | some q =>
  obtain ⟨t2, ⟨⟩⟩ := q
  rw [hm] at hs
  cases hs
  refine enterC Tryz.func104 rfl Tryz.ntmps104 rfl (by simp) ?_
  have H := (Holds.start w []).arg (L := LT) h
  refine W_rs ?_
  refine qrb H ?_; intro b2 w H
  refine qrb H ?_; intro b3 w H
  (repeat (first | refine qq ?_ | (refine qds H ?_; intro H) | (refine qrb H ?_; intro _ w H) | (refine qrs H ?_; intro w H) | (refine qdr H ?_; intro H)))
  have H := H.frz (xs := [.int .i64 (d : Nat)]) hM 1 rfl (by simp)
  refine qa2 (hc := mapVars_c (shifted1_c d b3) t hm (H.into (As := noA) (ds := shD d b3) (s := ((), ())) (A1 := [_, _]) rfl hM (by simp)) (H.dat (d := LT.dat M t _) (by simp))) (k := ?_)
  rintro _ w ⟨⟨vs, rfl, hx⟩, _, hout⟩
  have ho := hout.2.2.1
  obtain ⟨a2, c2, rfl⟩ := rdT_four hx
  have H := (H.step (As := noA) (s := ((), ())) (s1 := ((), ())) (A1 := [_, _]) rfl hout).addO (As := noA) (A1 := [_, _]) (s := ((), ())) (s1 := ((), ())) ho (L := LT) hx
  (repeat (first | refine qq ?_ | (refine qds H ?_; intro H) | (refine qrb H ?_; intro _ w H) | (refine qrs H ?_; intro w H) | (refine qdr H ?_; intro H)))
  exact ⟨_, _, _, rfl, H.bcells 0 4 rfl rfl, rfl, _, rfl, H.out 0 rfl, H.mod⟩
set_option maxRecDepth 100000 in
theorem expand1_c (d b3 : Nat) : TermC 103 #[.pointer (some ⟨b3, 0, none⟩)] (exD d b3) (shV d) := by
  intro t t' us M w hs hin h
  obtain ⟨a1, c1, rfl⟩ := rdT_four h
  show Calls _ _ #[.agg _, .pointer (some ⟨b3, 0, none⟩)] _ _
  refine enterCT Tryz.func103 rfl Tryz.ntmps103 rfl (by simp) ?_
  obtain ⟨h1, h2, h3⟩ := hin.2.2.2 (dcells b3 0 [.int .i64 (d : Nat)]) (by simp)
  have H := (hin.begin.add (hin.cells h1 h2 h3)).add (hin.term h)
  (repeat (first | refine qq ?_ | (refine qds H ?_; intro H) | (refine qrb H ?_; intro _ w H) | (refine qrs H ?_; intro w H) | (refine qdr H ?_; intro H)))
  refine qa2 (hc := shifted_c (M := H.wr M) hs (H.wr_lt hin.1) (H.dat (d := LT.dat M t _) (by simp))) (k := ?_)
  rintro _ w ⟨vs, rfl, hx, hm⟩
  obtain ⟨a2, c2, rfl⟩ := rdT_four hx
  have H := (H.call hm).add (d := LT.dat M t' _) hx
  (repeat (first | refine qq ?_ | (refine qds H ?_; intro H) | (refine qrb H ?_; intro _ w H) | (refine qrs H ?_; intro w H) | (refine qdr H ?_; intro H)))
  exact ⟨_, _, _, rfl, H.bcells 0 4 rfl rfl, rfl, ⟨_, rfl, H.out 0 rfl⟩, H.mod⟩

/-! goalWith -/
def termsW (f : T → Option T) : List T → Option (List T)
  | [] => some []
  | t :: ts => match f t with
    | none => none
    | some t => match termsW f ts with
      | none => none
      | some ts => some (t :: ts)
mutual
def withG (f : T → Option T) : G → Option G
  | .mk k n ts gs => bif Nat.ble ts.length 1000 && Nat.ble gs.length 1000 then (match termsW f ts with
    | none => none
    | some ts => match withGs f gs with
      | none => none
      | some gs => some (.mk k n ts gs)) else none
def withGs (f : T → Option T) : List G → Option (List G)
  | [] => some []
  | g :: gs => match withG f g with
    | none => none
    | some g => match withGs f gs with
      | none => none
      | some gs => some (g :: gs)
end
theorem withG_eq (f : T → Option T) (g : G) : withG f g = bif Nat.ble g.terms.length 1000 && Nat.ble g.kids.length 1000 then (match termsW f g.terms with
    | none => none
    | some ts => match withGs f g.kids with
      | none => none
      | some gs => some (.mk g.kind g.name ts gs)) else none := by obtain ⟨k, n, ts, gs⟩ := g; simp only [withG, G.kids, G.terms, G.kind, G.name]
abbrev WithC (c : FuncId) (cap : Array Value) (ds : Unit → List Dat) (f : T → Option T) (g : G) : Prop :=
  ∀ {g' : G} {us : List Value} {M : Nat → Prop} {w : World}, withG f g = some g' → In noA1 ds M () w → rdG M w g us →
    Calls Tryz.prog 102 #[.agg us.toArray, .func (.func c) #[] cap] w (Ret fun v w' => (∃ vs, v = .tuple #[.agg vs.toArray, .bool true] ∧ rdG M w' g' vs) ∧ Mod [] w w')
set_option maxHeartbeats 1000000 in
set_option maxRecDepth 100000 in
theorem goalWith_at {c : FuncId} [FnF Tryz.prog c] {cap : Array Value} {ds : Unit → List Dat} {f : T → Option T} (C : TermC c cap ds f) (g : G) (ih : ∀ x ∈ g.kids, WithC c cap ds f x) : WithC c cap ds f g := by
  intro g' us M w hs hin h
  obtain ⟨a1, c1, a, cc, rfl, hts, hgs⟩ := rdG_parts h
  rw [withG_eq] at hs
  cases hl : Nat.ble g.terms.length 1000 && Nat.ble g.kids.length 1000 with
  | false => rw [hl] at hs; cases hs
  | true =>
  rw [hl] at hs
  simp only [Bool.and_eq_true] at hl
  have hl1 := Nat.le_of_ble_eq_true hl.1
  have hl2 := Nat.le_of_ble_eq_true hl.2
  simp only [cond_true] at hs
  cases ht : termsW f g.terms with
  | none => rw [ht] at hs; cases hs
  | some ts' =>
  rw [ht] at hs
  simp only [] at hs
  cases hg : withGs f g.kids with
  | none => rw [hg] at hs; cases hs
  | some gs' =>
  rw [hg] at hs
  cases hs
  refine enterCT Tryz.func102 rfl Tryz.ntmps102 rfl (by simp) ?_
  have H := ((hin.begin.add (d := (LSl LT).dat M g.terms [.slice a1 g.terms.length c1]) ((LSl LT).grow _ _ _ _ _ (fun b _ hb => hb.elim id (hin.2.1 b)) hts)).add (d := (LSl LG).dat M g.kids [.slice a g.kids.length cc]) ((LSl LG).grow _ _ _ _ _ (fun b _ hb => hb.elim id (hin.2.1 b)) hgs)).add (d := LG.dat M g [.int .i64 (g.kind : Nat), .string g.name, .slice a1 g.terms.length c1, .slice a g.kids.length cc]) (rdG_grow (fun b _ hb => hb.elim id (hin.2.1 b)) _ _ h)
  refine W_rs ?_
  refine qrb H ?_; intro b2 w H
  refine qrb H ?_; intro b4 w H
  (repeat (first | refine qq ?_ | (refine qds H ?_; intro H) | (refine qrb H ?_; intro _ w H) | (refine qrs H ?_; intro w H) | (refine qdr H ?_; intro H)))
  refine WO_rd rfl (X_build (by exact rfl) [(0, [.int .i64 (g.kind : Nat)]), (1, [.string g.name])] (by exact rfl) (by exact rfl)) ?_
  refine qrb H ?_; intro b6 w H
  refine qrs H ?_; intro w H
  have H := (H.nilRow 32 4).dnil (L := LT) (M := M)
  (repeat (first | refine qq ?_ | (refine qds H ?_; intro H) | (refine qrb H ?_; intro _ w H) | (refine qrs H ?_; intro w H) | (refine qdr H ?_; intro H)))
  refine W_loop (fun m fr w' => ∃ k gg a7 c7 vss l1 l2, m = g.terms.length - k ∧ k ≤ g.terms.length ∧ fr = sl gg [(21, .slice a1 g.terms.length c1), (22, .int .i64 g.terms.length), (23, .int .i64 k), (1, .func (.func c) #[] cap), (2, .pointer (some ⟨b2, 0, none⟩)), (4, .pointer (some ⟨b4, 0, none⟩)), (6, .pointer (some ⟨b6, 0, none⟩))] ∧
    termsW f (g.terms.drop k) = some l2 ∧ l1 ++ l2 = ts' ∧ l1.length = k ∧
    Holds _ [] [orow 32 4 (.slice a7 vss.length c7) vss, box b6 [.int .i64 (g.kind : Nat), .string g.name, .slice a7 vss.length c7, .slice none 0 0] 37, box b4 goZ 37, box b2 [.int .i64 (g.kind : Nat), .string g.name, .slice a1 g.terms.length c1, .slice a g.kids.length cc] 37]
      (dall LT M l1 vss :: (LSl LT).dat M g.terms [.slice a1 g.terms.length c1] :: (LSl LG).dat M g.kids [.slice a g.kids.length cc] :: (ds ()).map (Dat.wide M)) w') g.terms.length
    ⟨0, _, none, 0, [], [], ts', rfl, Nat.zero_le _, sl_back ⟨rfl, rfl, rfl, rfl, rfl, rfl, rfl, trivial⟩, ht, rfl, rfl, H.sub (.refl _) (by simp; intro x hx; exact .inr (.inr (.inr (.inr ⟨x, hx, rfl⟩))))⟩ ?_
  clear H
  rintro m fr w ⟨k, gg, a7, c7, vss, l1, l2, rfl, hk, rfl, hl2', happ, hlen, H⟩
  by_cases hlt : k < g.terms.length
  · obtain ⟨x, hx⟩ : ∃ x, g.terms[k]? = some x := ⟨_, List.getElem?_eq_getElem hlt⟩
    rw [drop_at hx] at hl2'
    simp only [termsW] at hl2'
    cases hf : f x with
    | none => rw [hf] at hl2'; cases hl2'
    | some x' =>
    rw [hf] at hl2'
    simp only [] at hl2'
    cases hr : termsW f (g.terms.drop (k + 1)) with
    | none => rw [hr] at hl2'; cases hl2'
    | some l3 =>
    rw [hr] at hl2'
    cases hl2'
    obtain ⟨b, o, vs, rfl, _, _, hr', H⟩ := H.elem (L := LT) (M := M) (l := g.terms) (a := a1) (n := g.terms.length) (c := c1) (by simp) k hx
    obtain ⟨a8, c8, rfl⟩ := rdT_four hr'
    (repeat (first | refine qq ?_ | (refine qds H ?_; intro H) | (refine qrb H ?_; intro _ w H) | (refine qrs H ?_; intro w H) | (refine qdr H ?_; intro H)))
    refine ql1 (hc := C hf (H.into (As := noA1) (ds := ds) (s := ()) (List.append_nil _).symm hin.1 (fun y hy => by simp; repeat (first | exact ⟨y, hy, rfl⟩ | refine .inr ?_))) (H.dat (d := LT.dat M x [.int .i64 x.kind, .int .i64 x.int, .string x.name, .slice a8 x.args.length c8]) (by simp))) (k := ?_)
    rintro _ w ⟨⟨vs, rfl, hx'⟩, hm⟩
    obtain ⟨a9, c9, rfl⟩ := rdT_four hx'
    have H := (H.call hm).add (d := LT.dat M x' [.int .i64 x'.kind, .int .i64 x'.int, .string x'.name, .slice a9 x'.args.length c9]) hx'
    (repeat (first | refine qq ?_ | (refine qds H ?_; intro H) | (refine qrb H ?_; intro _ w H) | (refine qrs H ?_; intro w H) | (refine qdr H ?_; intro H)))
    (first | refine WO_s rfl (S_bslice1N H _ (by exact rfl) (by exact rfl) (by exact rfl) (by exact rfl) (by exact rfl) ?_) | refine WO_s rfl (S_bslice1s H _ (by exact rfl) (by exact rfl) (by exact rfl) ?_)); intro b10 w H
    refine WO_s rfl (S_append H 3 _ _ (vs := [.int .i64 x'.kind, .int .i64 x'.int, .string x'.name, .slice a9 x'.args.length c9]) (by exact rfl) (by exact rfl) (by exact rfl) (H.bcells 0 4 rfl rfl) rfl (LT.one _ _ _ _ hx') (by simp) (by exact rfl) ?_ ?_)
    · have := (Alls.get (H.dat (d := dall LT M l1 vss) (by simp))).1; omega
    intro v' w H
    obtain ⟨a11, c11, rfl⟩ := H.rowVal 3 rfl
    (repeat (first | refine qq ?_ | (refine qds H ?_; intro H) | (refine qrb H ?_; intro _ w H) | (refine qrs H ?_; intro w H) | (refine qdr H ?_; intro H)))
    exact ⟨g.terms.length - (k + 1), by omega, k + 1, _, a11, c11, vss ++ [[.int .i64 x'.kind, .int .i64 x'.int, .string x'.name, .slice a9 x'.args.length c9]], l1 ++ [x'], l3, rfl, by omega, sl_back ⟨rfl, rfl, rfl, rfl, rfl, rfl, rfl, trivial⟩, hr, by rw [List.append_assoc]; exact happ, by simp; omega,
      (H.snoc (L := LT) (M := M) (l := l1) (vss := vss) (x := x') (by simp) (H.dat (d := LT.dat M x' [.int .i64 x'.kind, .int .i64 x'.int, .string x'.name, .slice a9 x'.args.length c9]) (by simp))).sub (.cons _ (.cons _ (.cons _ (.refl _)))) (by simp; intro y hy; repeat (first | exact ⟨y, hy, rfl⟩ | refine .inr ?_))⟩
  · rw [List.drop_eq_nil_of_le (by omega)] at hl2'
    simp only [termsW, Option.some.injEq] at hl2'
    subst hl2'
    rw [List.append_nil] at happ
    subst happ
    have H := Holds.freeze (A1 := []) (A2 := [box b6 [.int .i64 (g.kind : Nat), .string g.name, .slice a7 vss.length c7, .slice none 0 0] 37, box b4 goZ 37, box b2 [.int .i64 (g.kind : Nat), .string g.name, .slice a1 g.terms.length c1, .slice a g.kids.length cc] 37]) (M := M) (L := LT) (l := l1) H hin.1 (H.dat (by simp)) (by simp)
    (repeat (first | refine qq ?_ | (refine qds H ?_; intro H) | (refine qrb H ?_; intro _ w H) | (refine qrs H ?_; intro w H) | (refine qdr H ?_; intro H)))
    have H := (H.nilRow 37 4).dnil (L := LG) (M := M)
    (repeat (first | refine qq ?_ | (refine qds H ?_; intro H) | (refine qrb H ?_; intro _ w H) | (refine qrs H ?_; intro w H) | (refine qdr H ?_; intro H)))
    refine W_loop (fun m fr w' => ∃ k gg a8 c8 vss2 l3 l4, m = g.kids.length - k ∧ k ≤ g.kids.length ∧ fr = sl gg [(44, .slice a g.kids.length cc), (45, .int .i64 g.kids.length), (46, .int .i64 k), (1, .func (.func c) #[] cap), (2, .pointer (some ⟨b2, 0, none⟩)), (4, .pointer (some ⟨b4, 0, none⟩)), (6, .pointer (some ⟨b6, 0, none⟩))] ∧
      withGs f (g.kids.drop k) = some l4 ∧ l3 ++ l4 = gs' ∧ l3.length = k ∧
      Holds _ [] [orow 37 4 (.slice a8 vss2.length c8) vss2, box b6 [.int .i64 (g.kind : Nat), .string g.name, .slice a7 vss.length c7, .slice a8 vss2.length c8] 37, box b4 goZ 37, box b2 [.int .i64 (g.kind : Nat), .string g.name, .slice a1 g.terms.length c1, .slice a g.kids.length cc] 37]
        (dall LG M l3 vss2 :: (LSl LT).dat M l1 [.slice a7 vss.length c7] :: (LSl LG).dat M g.kids [.slice a g.kids.length cc] :: (ds ()).map (Dat.wide M)) w') g.kids.length
      ⟨0, _, none, 0, [], [], gs', rfl, Nat.zero_le _, sl_back ⟨rfl, rfl, rfl, rfl, rfl, rfl, rfl, trivial⟩, hg, rfl, rfl, H.sub (.refl _) (by simp; intro x hx; repeat (first | exact ⟨x, hx, rfl⟩ | refine .inr ?_))⟩ ?_
    clear H
    rintro m fr w ⟨k, gg, a8, c8, vss2, l3, l4, rfl, hk, rfl, hl4, happ, hlen, H⟩
    by_cases hlt : k < g.kids.length
    · obtain ⟨x, hx⟩ : ∃ x, g.kids[k]? = some x := ⟨_, List.getElem?_eq_getElem hlt⟩
      rw [drop_at hx] at hl4
      simp only [withGs] at hl4
      cases hf : withG f x with
      | none => rw [hf] at hl4; cases hl4
      | some x' =>
      rw [hf] at hl4
      simp only [] at hl4
      cases hr : withGs f (g.kids.drop (k + 1)) with
      | none => rw [hr] at hl4; cases hl4
      | some l5 =>
      rw [hr] at hl4
      cases hl4
      obtain ⟨b, o, vs, rfl, _, _, hr', H⟩ := H.elem (L := LG) (M := M) (l := g.kids) (a := a) (n := g.kids.length) (c := cc) (by simp) k hx
      obtain ⟨a9, c9, a10, c10, rfl, _⟩ := rdG_form hr'
      (repeat (first | refine qq ?_ | (refine qds H ?_; intro H) | (refine qrb H ?_; intro _ w H) | (refine qrs H ?_; intro w H) | (refine qdr H ?_; intro H)))
      refine qa2 (hc := ih x (List.mem_of_getElem? hx) hf (H.into (As := noA1) (ds := ds) (s := ()) (List.append_nil _).symm hin.1 (fun y hy => by simp; repeat (first | exact ⟨y, hy, rfl⟩ | refine .inr ?_))) (H.dat (d := LG.dat M x [.int .i64 (x.kind : Nat), .string x.name, .slice a9 x.terms.length c9, .slice a10 x.kids.length c10]) (by simp))) (k := ?_)
      rintro _ w ⟨⟨vs, rfl, hx'⟩, hm⟩
      obtain ⟨a11, c11, a12, c12, rfl, _⟩ := rdG_form hx'
      have H := (H.call hm).add (d := LG.dat M x' [.int .i64 (x'.kind : Nat), .string x'.name, .slice a11 x'.terms.length c11, .slice a12 x'.kids.length c12]) hx'
      (repeat (first | refine qq ?_ | (refine qds H ?_; intro H) | (refine qrb H ?_; intro _ w H) | (refine qrs H ?_; intro w H) | (refine qdr H ?_; intro H)))
      (first | refine WO_s rfl (S_bslice1N H _ (by exact rfl) (by exact rfl) (by exact rfl) (by exact rfl) (by exact rfl) ?_) | refine WO_s rfl (S_bslice1s H _ (by exact rfl) (by exact rfl) (by exact rfl) ?_)); intro b10 w H
      refine WO_s rfl (S_append H 3 _ _ (vs := [.int .i64 (x'.kind : Nat), .string x'.name, .slice a11 x'.terms.length c11, .slice a12 x'.kids.length c12]) (by exact rfl) (by exact rfl) (by exact rfl) (H.bcells 0 4 rfl rfl) rfl (LG.one _ _ _ _ hx') (by simp) (by exact rfl) ?_ ?_)
      · have := (Alls.get (H.dat (d := dall LG M l3 vss2) (by simp))).1; omega
      intro v' w H
      obtain ⟨a13, c13, rfl⟩ := H.rowVal 3 rfl
      (repeat (first | refine qq ?_ | (refine qds H ?_; intro H) | (refine qrb H ?_; intro _ w H) | (refine qrs H ?_; intro w H) | (refine qdr H ?_; intro H)))
      exact ⟨g.kids.length - (k + 1), by omega, k + 1, _, a13, c13, vss2 ++ [[.int .i64 (x'.kind : Nat), .string x'.name, .slice a11 x'.terms.length c11, .slice a12 x'.kids.length c12]], l3 ++ [x'], l5, rfl, by omega, sl_back ⟨rfl, rfl, rfl, rfl, rfl, rfl, rfl, trivial⟩, hr, by rw [List.append_assoc]; exact happ, by simp; omega,
        (H.snoc (L := LG) (M := M) (l := l3) (vss := vss2) (x := x') (by simp) (H.dat (d := LG.dat M x' [.int .i64 (x'.kind : Nat), .string x'.name, .slice a11 x'.terms.length c11, .slice a12 x'.kids.length c12]) (by simp))).sub (.cons _ (.cons _ (.cons _ (.refl _)))) (by simp; intro y hy; repeat (first | exact ⟨y, hy, rfl⟩ | refine .inr ?_))⟩
    · rw [List.drop_eq_nil_of_le (by omega)] at hl4
      simp only [withGs, Option.some.injEq] at hl4
      subst hl4
      rw [List.append_nil] at happ
      subst happ
      have H := Holds.freeze (A1 := []) (A2 := [box b6 [.int .i64 (g.kind : Nat), .string g.name, .slice a7 vss.length c7, .slice a8 vss2.length c8] 37, box b4 goZ 37, box b2 [.int .i64 (g.kind : Nat), .string g.name, .slice a1 g.terms.length c1, .slice a g.kids.length cc] 37]) (M := M) (L := LG) (l := l3) H hin.1 (H.dat (by simp)) (by simp)
      (repeat (first | refine qq ?_ | (refine qds H ?_; intro H) | (refine qrb H ?_; intro _ w H) | (refine qrs H ?_; intro w H) | (refine qdr H ?_; intro H)))
      exact ⟨_, _, _, rfl, H.bcells 1 4 rfl rfl, rfl, ⟨_, rfl, rdG_mk (H.out (L := LSl LT) (x := l1) 2 rfl) (H.out (L := LSl LG) (x := l3) 0 rfl)⟩, H.mod⟩
theorem goalWith_c {c : FuncId} [FnF Tryz.prog c] {cap : Array Value} {ds : Unit → List Dat} {f : T → Option T} (C : TermC c cap ds f) : ∀ (g : G), WithC c cap ds f g := by
  have main : ∀ (n : Nat) (g : G), SizeOf.sizeOf g < n → WithC c cap ds f g := by
    intro n
    induction n with
    | zero => intro g h; omega
    | succ n ih => intro g h; exact goalWith_at C g fun x hx => ih x (by have := G.kids_lt hx; omega)
  exact fun g => main _ g (Nat.lt_succ_self _)
end Go.Proofs.YtljpfnjpifhdlaaGreatDoor
namespace Go.Proofs.YtljpfnjpifhdlaaGreatDoor
open Go
section
variable {P : Program} {n : Nat} {g : FuncId} {fn : Func} {c : Code} {args : Array Value} {p : Value → World → Prop} {w : World}
theorem enterC2 {t u x : Tmp} {T : TypeId} {sz : Nat} {z : Value} [F : TyF P T true sz z] (hf : P.funcs[g]? = some fn) (hb : fn.body = some c) (hn : fn.ntmps = n) (hres : fn.results = #[.cell t T, .tmp u, .tmp x]) {ags : List Value} (ha : ags.length ≤ n)
    (h : W P n c (retQ fun f w => ∃ b o xs, f t = .pointer (some ⟨b, o, none⟩) ∧ Cells w b o xs ∧ xs.length = sz ∧ p (.tuple #[.agg xs.toArray, f u, f x]) w) (argF ags) w) : Calls P g ags.toArray w (Ret p) :=
  enter_any hf hb hn ha (fun f w' tmps ht ⟨b, o, xs, h1, h2, h3, h4⟩ => ⟨.tuple #[.agg xs.toArray, f u, f x], by
    have h5 := runC_run _ _ (loadVar_CN (P := P) (t := T) h2 h3)
    rw [← ht u, ← ht x]
    simp [results, hres, ht, h1, asAddr, h5], h4⟩) h
end
def eqG (v : Nat) (t : T) : G := .mk 2 ⟨#[]⟩ [.var v, t] []
def eqGs : List T → Nat → List G
  | [], _ => []
  | t :: ts, v => eqG v t :: eqGs ts (v + 1)
def expandV (r : Rl) (args : List T) (next : Nat) : Option (G × Nat) := bif Nat.ble (next + r.arity + r.locs) 100000 && Nat.ble args.length 1000 then (match withG (shV next) r.body with
  | none => none
  | some b => some (.mk 7 ⟨#[]⟩ [] (eqGs args next ++ [b]), next + r.arity + r.locs)) else none
theorem eqGs_snoc {args : List T} {k next : Nat} {t : T} (ht : args[k]? = some t) : eqGs (args.take (k + 1)) next = eqGs (args.take k) next ++ [eqG (next + k) t] := by
  induction args generalizing k next with
  | nil => cases ht
  | cons a l ih =>
    cases k with
    | zero => cases ht; rfl
    | succ k =>
      have := ih (k := k) (next := next + 1) (by simpa using ht)
      simp only [List.take_succ_cons, eqGs, List.cons_append, this]
      rw [show next + 1 + k = next + (k + 1) by omega]
theorem eqGs_len : ∀ (args : List T) (next : Nat), (eqGs args next).length = args.length
  | [], _ => rfl
  | _ :: ts, n => by simp [eqGs, eqGs_len ts]
set_option maxHeartbeats 1000000 in
set_option maxRecDepth 100000 in
theorem expand_c {r : Rl} {args : List T} {next : Nat} {g' : G} {n' : Nat} {v : Value} {us : List Value} {M : Nat → Prop} {w : World} (hs : expandV r args next = some (g', n')) (hM : ∀ b, M b → b < w.heap.size) (hr : LR.rd M w r us) (ha : (LSl LT).rd M w args [v]) :
    Calls Tryz.prog 79 #[.agg us.toArray, v, .int .i64 next] w (Ret fun v w' => (∃ vs, v = .tuple #[.agg vs.toArray, .int .i64 n', .bool true] ∧ rdG M w' g' vs) ∧ Mod [] w w') := by
  obtain ⟨a, c, rfl⟩ := rdSl_val ha
  obtain ⟨a1, c1, a2, c2, rfl, hb⟩ := rdR_form hr
  unfold expandV at hs
  cases hl : Nat.ble (next + r.arity + r.locs) 100000 && Nat.ble args.length 1000 with
  | false => rw [hl] at hs; cases hs
  | true =>
  rw [hl] at hs
  simp only [Bool.and_eq_true] at hl
  have hl1 := Nat.le_of_ble_eq_true hl.1
  have hl2 := Nat.le_of_ble_eq_true hl.2
  simp only [cond_true] at hs
  cases hg : withG (shV next) r.body with
  | none => rw [hg] at hs; cases hs
  | some b' =>
  rw [hg] at hs
  cases hs
  refine enterC2 Tryz.func79 rfl Tryz.ntmps79 rfl (by simp) ?_
  have H := (((Holds.start w []).arg (L := LR) hr).arg (L := LSl LT) ha).arg (L := LG) hb
  refine W_rs ?_
  refine qrb H ?_; intro b3 w H
  refine qrb H ?_; intro b5 w H
  refine qrb H ?_; intro b6 w H
  (repeat (first | refine qq ?_ | (refine qds H ?_; intro H) | (refine qrb H ?_; intro _ w H) | (refine qrs H ?_; intro w H) | (refine qdr H ?_; intro H)))
  refine WO_rd rfl (X_build (by exact rfl) [(0, [.int .i64 7])] (by exact rfl) (by exact rfl)) ?_
  refine qrb H ?_; intro b10 w H
  refine qrs H ?_; intro w H
  have H := H.frz (xs := [.int .i64 (next : Nat)]) hM 2 rfl (by simp)
  have H := (H.nilRow 37 4).dnil (L := LG) (M := M)
  (repeat (first | refine qq ?_ | (refine qds H ?_; intro H) | (refine qrb H ?_; intro _ w H) | (refine qrs H ?_; intro w H) | (refine qdr H ?_; intro H)))
  refine W_loop (fun m fr w' => ∃ k gg a7 c7 vss, m = args.length - k ∧ k ≤ args.length ∧ fr = sl gg [(26, .slice a args.length c), (27, .int .i64 args.length), (28, .int .i64 k), (3, .pointer (some ⟨b3, 0, none⟩)), (5, .pointer (some ⟨b5, 0, none⟩)), (6, .pointer (some ⟨b6, 0, none⟩)), (9, .int .i64 (next + r.arity + r.locs : Nat)), (10, .pointer (some ⟨b10, 0, none⟩))] ∧
    Holds _ [] [orow 37 4 (.slice a7 vss.length c7) vss, box b10 [.int .i64 7, .string ⟨#[]⟩, .slice none 0 0, .slice a7 vss.length c7] 37, box b6 goZ 37, box b3 [.string r.name, .int .i64 (r.arity : Nat), .int .i64 (r.locs : Nat), .int .i64 (r.body.kind : Nat), .string r.body.name, .slice a1 r.body.terms.length c1, .slice a2 r.body.kids.length c2] 67]
      [dall LG M (eqGs (args.take k) next) vss, dcells b5 0 [.int .i64 (next : Nat)], Dat.wide M (dcells b5 0 [.int .i64 (next : Nat)]), LG.dat M r.body [.int .i64 (r.body.kind : Nat), .string r.body.name, .slice a1 r.body.terms.length c1, .slice a2 r.body.kids.length c2], (LSl LT).dat M args [.slice a args.length c]] w') args.length
    ⟨0, _, none, 0, [], rfl, Nat.zero_le _, sl_back ⟨rfl, rfl, rfl, rfl, rfl, rfl, rfl, rfl, trivial⟩, H.sub (.refl _) (by simp [eqGs])⟩ ?_
  clear H
  rintro m fr w ⟨k, gg, a7, c7, vss, rfl, hk, rfl, H⟩
  by_cases hlt : k < args.length
  · obtain ⟨x, hx⟩ : ∃ x, args[k]? = some x := ⟨_, List.getElem?_eq_getElem hlt⟩
    obtain ⟨b, o, vs, rfl, _, _, hr', H⟩ := H.elem (L := LT) (M := M) (l := args) (a := a) (n := args.length) (c := c) (by simp) k hx
    obtain ⟨a8, c8, rfl⟩ := rdT_four hr'
    (repeat (first | refine qq ?_ | (refine qds H ?_; intro H) | (refine qrb H ?_; intro _ w H) | (refine qrs H ?_; intro w H) | (refine qdr H ?_; intro H)))
    obtain ⟨M', hM', _, hof⟩ := H.off hM
    refine WD_any 11 [[], [0], [], [], [2, 3], [2, 3, 4], [], [2, 3, 4, 5, 6], [2, 3, 4, 5, 6, 7], [2, 3, 4, 5, 6, 7, 8], [2, 3, 4, 5, 6, 7, 8, 9]] [(5, PN LT M' ((.var (next + k)))), (7, PN LT M' (x)), (8, P1 (LSl LT) M' ([.var (next + k), x])), (9, PN LG M' ((eqG (next + k) x))), (10, P1 (LSl LG) M' ([eqG (next + k) x]))] (by kernel_rfl) ?_ ?_ _ (by exact rfl) ?_
    · exact ⟨PN_stab, PN_stab, P1_stab, PN_stab, P1_stab, trivial⟩
    · refine ⟨?_, ?_, ?_, ?_, ?_, ?_, ?_, ?_, ?_, ?_, ?_, trivial⟩
      iterate 5 (· exact qob)
      · intro w hm
        have H := H.call hm
        iterate 3 refine qwr ?_
        refine qol ?_
        exact S_call1 _ (by exact rfl) (by exact rfl) (variable_c (next + k) M' _) fun v w' ⟨vs, h1, h2, h3⟩ => ⟨⟨vs, h1, h2⟩, h3⟩
      · exact qob
      · intro w hm
        have H := H.call hm
        iterate 3 refine qwr ?_
        refine qwl ?_; rintro _ ⟨us5, rfl, h5⟩; obtain ⟨a5, c5, rfl⟩ := rdT_four h5
        refine qwr ?_
        refine qol ?_
        exact S_call1 _ (by exact rfl) (by exact rfl) (copyTerm_c x (hM' _ hm.size) (H.dat (d := LT.dat M x [.int .i64 x.kind, .int .i64 x.int, .string x.name, .slice a8 x.args.length c8]) (by simp))) fun v w' ⟨vs, h1, h2, h3⟩ => ⟨⟨vs, h1, h2⟩, h3⟩
      · intro w hm
        have H := H.call hm
        iterate 3 refine qwr ?_
        refine qwl ?_; rintro _ ⟨us5, rfl, h5⟩; obtain ⟨a5, c5, rfl⟩ := rdT_four h5
        refine qwr ?_
        refine qwl ?_; rintro _ ⟨us7, rfl, h7⟩; obtain ⟨a7, c7, rfl⟩ := rdT_four h7
        refine qol ?_
        have H' := ((Holds.start w []).arg (L := LT) h5).arg (L := LT) h7
        refine S_bslice2N H' _ _ (by exact rfl) (by exact rfl) (by exact rfl) (by exact rfl) (by exact rfl) (by exact rfl) (by exact rfl) ?_
        intro b3 w' H'
        exact ⟨rdSl_two (Nat.le_refl _) (H'.own (hM' _ hm.size) 0 rfl) (H'.out 1 rfl) (H'.out 0 rfl) (H'.bcells 0 8 rfl rfl), H'.mod⟩
      · intro w hm
        have H := H.call hm
        iterate 3 refine qwr ?_
        refine qwl ?_; rintro _ ⟨us5, rfl, h5⟩; obtain ⟨a5, c5, rfl⟩ := rdT_four h5
        refine qwr ?_
        refine qwl ?_; rintro _ ⟨us7, rfl, h7⟩; obtain ⟨a7, c7, rfl⟩ := rdT_four h7
        refine qwl ?_; intro v8 h8
        refine qol ?_
        obtain ⟨a18, c18, rfl⟩ := rdSl_val h8
        refine S_read (X_build (by exact rfl) [(0, [.int .i64 2]), (2, [.slice a18 2 c18])] (by exact rfl) (by exact rfl)) ?_
        exact ⟨⟨_, rfl, rdG_mk h8 ⟨none, 0, 0, rfl, rfl, Nat.le_refl _, .inl rfl⟩⟩, Mod.refl _ _⟩
      · intro w hm
        have H := H.call hm
        iterate 3 refine qwr ?_
        refine qwl ?_; rintro _ ⟨us5, rfl, h5⟩; obtain ⟨a5, c5, rfl⟩ := rdT_four h5
        refine qwr ?_
        refine qwl ?_; rintro _ ⟨us7, rfl, h7⟩; obtain ⟨a7, c7, rfl⟩ := rdT_four h7
        refine qwl ?_; intro v8 h8
        refine qwl ?_; rintro _ ⟨us9, rfl, h9⟩
        refine qol ?_
        obtain ⟨a19, c19, a20, c20, rfl, _⟩ := rdG_form h9
        have H' := (Holds.start w []).arg (L := LG) h9
        refine S_bslice1N H' _ (by exact rfl) (by exact rfl) (by exact rfl) (by exact rfl) (by exact rfl) ?_
        intro b3 w' H'
        exact ⟨rdSl_one (Nat.le_refl _) (H'.own (hM' _ hm.size) 0 rfl) (H'.out 0 rfl) (H'.bcells 0 4 rfl rfl), H'.mod⟩
    intro w hm
    have H := H.call hm
    iterate 5 refine qwr ?_
    refine qwl ?_; rintro _ ⟨us5, rfl, h5⟩; obtain ⟨a5, c5, rfl⟩ := rdT_four h5
    refine qwr ?_
    refine qwl ?_; rintro _ ⟨us7, rfl, h7⟩; obtain ⟨a7, c7, rfl⟩ := rdT_four h7
    refine qwl ?_; intro v8 h8
    refine qwl ?_; rintro _ ⟨us9, rfl, h9⟩
    refine qwl ?_; intro v10 h10
    refine WR_nil ?_
    obtain ⟨b17, o17, c17, vs17, rfl, hr17, hc17⟩ := rdSl_at h10
    have H := H.add (hof hr17)
    refine WD_s (by kernel_rfl) rfl rfl (S_append H 1 _ _ (by exact rfl) (by exact rfl) (by exact rfl) hc17 (LG.len _ _ _ _ hr17) (LG.one _ _ _ _ hr17) (by decide) (by exact rfl) ?_ ?_)
    · have := (Alls.get (H.dat (d := dall LG M (eqGs (args.take k) next) vss) (by simp))).1
      rw [eqGs_len, List.length_take] at this
      omega
    intro v'' w H
    obtain ⟨a11, c11, rfl⟩ := H.rowVal 1 rfl
    refine WD_rd (by kernel_rfl) rfl rfl (X_fieldAddr _ (by exact rfl)) ?_
    refine WD_n (by kernel_rfl) (by exact rfl) (S_store1 H 2 _ _ (by exact rfl) (by exact rfl) (by exact rfl) (by exact rfl) (by exact rfl) (by exact rfl) ?_); intro w H
    refine WD_end (by decide) ?_
    (repeat (first | refine qq ?_ | (refine qds H ?_; intro H) | (refine qrb H ?_; intro _ w H) | (refine qrs H ?_; intro w H) | (refine qdr H ?_; intro H)))
    refine ⟨args.length - (k + 1), by omega, k + 1, _, a11, c11, vss ++ [vs17], rfl, by omega, sl_back ⟨rfl, rfl, rfl, rfl, rfl, rfl, rfl, rfl, trivial⟩, ?_⟩
    rw [eqGs_snoc hx]
    exact (H.snoc (L := LG) (M := M) (l := eqGs (args.take k) next) (vss := vss) (x := eqG (next + k) x) (by simp) (H.dat (d := LG.dat M (eqG (next + k) x) vs17) (by simp))).sub (.cons _ (.refl _)) (by simp)
  · obtain rfl : k = args.length := by omega
    rw [List.take_length] at H
    (repeat (first | refine qq ?_ | (refine qds H ?_; intro H) | (refine qrb H ?_; intro _ w H) | (refine qrs H ?_; intro w H) | (refine qdr H ?_; intro H)))
    refine qa2 (hc := goalWith_c (expand1_c next b5) r.body hg (H.into (As := noA1) (ds := exD next b5) (s := ()) (List.append_nil _).symm hM (by simp)) (H.dat (d := LG.dat M r.body [.int .i64 (r.body.kind : Nat), .string r.body.name, .slice a1 r.body.terms.length c1, .slice a2 r.body.kids.length c2]) (by simp))) (k := ?_)
    rintro _ w ⟨⟨vs, rfl, hx'⟩, hm⟩
    obtain ⟨a19, c19, a20, c20, rfl, _⟩ := rdG_form hx'
    have H := (H.call hm).add (d := LG.dat M b' [.int .i64 (b'.kind : Nat), .string b'.name, .slice a19 b'.terms.length c19, .slice a20 b'.kids.length c20]) hx'
    (repeat (first | refine qq ?_ | (refine qds H ?_; intro H) | (refine qrb H ?_; intro _ w H) | (refine qrs H ?_; intro w H) | (refine qdr H ?_; intro H)))
    (first | refine WO_s rfl (S_bslice1N H _ (by exact rfl) (by exact rfl) (by exact rfl) (by exact rfl) (by exact rfl) ?_) | refine WO_s rfl (S_bslice1s H _ (by exact rfl) (by exact rfl) (by exact rfl) ?_)); intro b14 w H
    refine WO_s rfl (S_append H 2 _ _ (vs := [.int .i64 (b'.kind : Nat), .string b'.name, .slice a19 b'.terms.length c19, .slice a20 b'.kids.length c20]) (by exact rfl) (by exact rfl) (by exact rfl) (H.bcells 0 4 rfl rfl) rfl (LG.one _ _ _ _ hx') (by simp) (by exact rfl) ?_ ?_)
    · have := (Alls.get (H.dat (d := dall LG M (eqGs args next) vss) (by simp))).1
      rw [eqGs_len] at this
      omega
    intro v' w H
    obtain ⟨a13, c13, rfl⟩ := H.rowVal 2 rfl
    have H := (H.snoc (L := LG) (M := M) (l := eqGs args next) (vss := vss) (x := b') (by simp) (H.dat (d := LG.dat M b' [.int .i64 (b'.kind : Nat), .string b'.name, .slice a19 b'.terms.length c19, .slice a20 b'.kids.length c20]) (by simp))).sub (A' := [orow 37 4 (.slice a13 (vss ++ [([.int .i64 (b'.kind : Nat), .string b'.name, .slice a19 b'.terms.length c19, .slice a20 b'.kids.length c20] : List Value)]).length c13) (vss ++ [([.int .i64 (b'.kind : Nat), .string b'.name, .slice a19 b'.terms.length c19, .slice a20 b'.kids.length c20] : List Value)]), box b10 [.int .i64 7, .string ⟨#[]⟩, .slice none 0 0, .slice a7 vss.length c7] 37, box b6 goZ 37, box b3 [.string r.name, .int .i64 (r.arity : Nat), .int .i64 (r.locs : Nat), .int .i64 (r.body.kind : Nat), .string r.body.name, .slice a1 r.body.terms.length c1, .slice a2 r.body.kids.length c2] 67]) (.cons _ (.cons _ (.refl _))) (fun _ h => h)
    have H := Holds.freeze (A1 := []) (A2 := [box b10 [.int .i64 7, .string ⟨#[]⟩, .slice none 0 0, .slice a7 vss.length c7] 37, box b6 goZ 37, box b3 [.string r.name, .int .i64 (r.arity : Nat), .int .i64 (r.locs : Nat), .int .i64 (r.body.kind : Nat), .string r.body.name, .slice a1 r.body.terms.length c1, .slice a2 r.body.kids.length c2] 67]) (M := M) (L := LG) (l := eqGs args next ++ [b']) H hM (H.dat (by simp)) (by simp)
    (repeat (first | refine qq ?_ | (refine qds H ?_; intro H) | (refine qrb H ?_; intro _ w H) | (refine qrs H ?_; intro w H) | (refine qdr H ?_; intro H)))
    exact ⟨_, _, _, rfl, H.bcells 1 4 rfl rfl, rfl, ⟨_, rfl, rdG_mk ⟨none, 0, 0, rfl, rfl, Nat.le_refl _, .inl rfl⟩ (H.out (L := LSl LG) (x := eqGs args next ++ [b']) 0 rfl)⟩, H.mod⟩
end Go.Proofs.YtljpfnjpifhdlaaGreatDoor
namespace Go.Proofs.YtljpfnjpifhdlaaGreatDoor
open Go
section
variable {P : Program} {r : Operand → Value} {d : Option Tmp} {ty : TypeId} {pos : String} {aft : Array Edge} {g : Option (Nat × Bool)} {w0 w : World} {S : List Nat} {A : List Atom} {D : List Dat} {K : Value → World → Prop}
/-- an append to a slice without room does not look where it lies -/
theorem append_noroom {t e : TypeId} {agg : Bool} {sz bytes : Nat} {z : Value} [G : SlF P t e] [F : TyF P e agg sz z] [B : ByF P e bytes] (a : Option Addr) (b : Addr) (n c : Nat) (news : List Value) (hl : news.length = n * sz) (hnews : ∀ j v, news[j]? = some v → w.cell? (b.add j) = some v) (hn : 0 < n) (hlen : n * (bytes + 1) ≤ 140737488355328) :
    (Builtin.append_ #[t, t] ty #[.slice a 0 0, .slice (some b) n c]).run P w = (Builtin.append_ #[t, t] ty #[.slice none 0 0, .slice (some b) n c]).run P w := by
  cases a with
  | none => rfl
  | some a =>
    obtain ⟨inf, hinf, hby⟩ := Option.map_eq_some_iff.1 B.run
    obtain ⟨hz, hsize⟩ := TyF.info (P := P) w hinf
    subst hby
    have h1 : n ≤ 140737488355328 := Nat.le_trans (Nat.le_mul_of_pos_right _ (by omega)) hlen
    have h2 : n * inf.bytes ≤ 140737488355328 := Nat.le_trans (Nat.mul_le_mul_left _ (by omega)) hlen
    rw [run_append_nil (P := P) w t ty e inf z G.und hinf hz b n c news (by rw [hsize]; exact hl) hnews hn (by omega) (by omega),
      run_append_grow (P := P) w t ty e inf z G.und hinf hz a 0 0 [] (by simp) (by simp) b n c news (by rw [hsize]; exact hl) hnews (by omega) (by omega) (growslice_fits (by omega) (by simpa using h2))]
    simp
theorem S_appendZ (H : Holds w0 S A D w) {t e : TypeId} {agg : Bool} {sz bytes : Nat} {z : Value} [G : SlF P t e] [F : TyF P e agg sz z] [B : ByF P e bytes] (s x : Operand) {a : Option Addr} {uss : List (List Value)} {b o c : Nat}
    (hs : r s = .slice a 0 0) (hx : r x = .slice (some ⟨b, o, none⟩) uss.length c) (hc : Cells w b o uss.flatten) (hl : ∀ us ∈ uss, us.length = sz) (h1 : ∀ us ∈ uss, ∀ u ∈ us, u.oneCell' = true) (hsz : 0 < sz) (hzs : z.cells.size = sz) (h0 : uss ≠ [])
    (hlen : uss.length * (bytes + 1) ≤ 140737488355328) (k : ∀ v' w', Holds w0 S (orow e sz v' uss :: A) D w' → K v' w') :
    OS P ⟨d, .call { callee := .builtin .append, args := #[s, x], argTypes := #[t, t] }, ty, pos, aft, g⟩ r w K := by
  obtain ⟨inf, hinf, hby⟩ := Option.map_eq_some_iff.1 B.run
  obtain ⟨hz, hsize⟩ := TyF.info (P := P) w hinf
  have H1 := H.nilRow e sz
  obtain ⟨hall, hown⟩ := H1.atom (List.Mem.head _)
  have hadd : ∀ m, (⟨b, o, none⟩ : Addr).add m = ⟨b, o + m, none⟩ := fun m => by unfold Addr.add; split <;> simp_all
  have hlen' : uss.length ≤ 140737488355328 := Nat.le_trans (Nat.le_mul_of_pos_right _ (by omega)) hlen
  have hpos : 0 < uss.length := List.length_pos_iff.2 h0
  have hcc : ∀ j u, uss.flatten[j]? = some u → w.cell? ((⟨b, o, none⟩ : Addr).add j) = some u := fun j u hj => by rw [hadd]; exact hc j u hj
  obtain ⟨v', w', hr, h2, h3, h4⟩ := run_append_own2' (P := P) w 0 t ty e inf z sz bytes G.und hinf hz hsize hby hzs hsz (.slice none 0 0) 0 [] hown ⟨b, o, none⟩ uss.length c uss.flatten (flat_len hl) hcc
    (fun u hu => by obtain ⟨us, hus, hu⟩ := List.mem_flatten.1 hu; exact h1 us hus u hu) hpos (by unfold maxLen; omega) (by have := Nat.le_trans (Nat.mul_le_mul_left uss.length (Nat.le_succ bytes)) hlen; rw [Nat.zero_add]; exact this) (Nat.zero_le _)
  rw [← append_noroom (agg := agg) (sz := sz) (bytes := bytes) (z := z) a ⟨b, o, none⟩ uss.length c uss.flatten (flat_len hl) hcc hpos hlen] at hr
  refine S_run (v := v') (w' := w') ?_ (k v' w' (H1.turnAt (a' := orow e sz v' uss) 0 rfl ⟨h3.os, h3.tape, h3.output, h3.size, fun k hk hn => h3.block k hk (fun e => hn ?_)⟩ ⟨?_, ?_⟩ ?_ ?_))
  · simp only [execOp, resolve, pure_bind, invoke, builtin, List.map_toArray, List.map_cons, List.map_nil, hs, hx, Sem.run_bind, hr, Result.andThen_ok]; rfl
  · simp [orow, ← e]
  · exact hl
  · simpa using h2
  · simp only [orow]; cases v'.ownBlock <;> simp
  · intro c hc
    simp only [orow, Option.mem_toList] at hc
    have hlt := h2.lt c hc
    refine ⟨hlt.2, ?_⟩
    rcases h4 with ⟨h4, _⟩ | ⟨h4, _⟩
    · exact .inl (by simp only [orow, Option.mem_toList]; rw [← h4]; exact hc)
    · rw [h4] at hc
      cases hc
      exact .inr (Nat.le_refl _)
/-- a copy of a slice: append to a slice without room -/
theorem S_copySl {α : Type} {L : Lay α} {M M' : Nat → Prop} {t e : TypeId} {agg : Bool} {sz bytes : Nat} {z : Value} [G : SlF P t e] [F : TyF P e agg sz z] [B : ByF P e bytes] (s x : Operand) {a a' : Option Addr} {n c : Nat} {l : List α}
    (hM' : ∀ b, M' b → b < w.heap.size) (hs : r s = .slice a 0 0) (hx : r x = .slice a' n c) (h : (LSl L).rd M w l [.slice a' n c]) (hel : ∀ y vs, L.rd M w y vs → L.rd M' w y vs) (hsz : sz = L.sz) (h0 : 0 < L.sz) (hzs : z.cells.size = L.sz) (hlen : l.length * (bytes + 1) ≤ 140737488355328) :
    OS P ⟨d, .call { callee := .builtin .append, args := #[s, x], argTypes := #[t, t] }, ty, pos, aft, g⟩ r w (fun v w' => P1 (LSl L) M' l v w' ∧ Mod [] w w') := by
  subst hsz
  have zero : ∀ n', n' = 0 → l = [] → r x = .slice a' n' c → OS P ⟨d, .call { callee := .builtin .append, args := #[s, x], argTypes := #[t, t] }, ty, pos, aft, g⟩ r w (fun v w' => P1 (LSl L) M' l v w' ∧ Mod [] w w') := by
    rintro _ rfl rfl hx
    exact X_append0 s x hs (Nat.le_refl _) hx ⟨⟨a, 0, 0, rfl, rfl, Nat.le_refl _, .inl rfl⟩, Mod.refl _ _⟩
  obtain ⟨a2, n2, c2, h1, h2, h3, h4⟩ := id h
  simp only [List.cons.injEq, Value.slice.injEq, and_true] at h1
  obtain ⟨rfl, rfl, rfl⟩ := h1
  rcases slice_cells h with ⟨hl0, hn0⟩ | ⟨b, o, uss, rfl, hnu, hal, hc, hl, h1⟩
  · exact zero _ hn0 hl0 hx
  · by_cases hu : uss = []
    · subst hu
      exact zero _ (by simpa using hnu) (by simpa using hal.get.1) hx
    · have H := (Holds.start w []).add (d := dall L M' l uss) (hal.imp fun y vs hy => L.grow _ _ _ _ _ (fun b _ hb => hb.elim id fun hb => absurd hb (by simp [owns])) (hel y vs hy))
      rw [hnu] at hx
      refine S_appendZ H s x (uss := uss) hs hx hc hl h1 h0 hzs hu (by rw [← hal.get.1]; exact hlen) fun v' w' H' => ?_
      have H' := Holds.freeze (A1 := []) (A2 := []) (M := M') (L := L) (l := l) H' hM' (H'.dat (by simp)) (by simp)
      exact ⟨H'.out 0 rfl, H'.mod⟩
end
/-- goals with their depth -/
def LD : Lay (G × Nat) := LG.and LNat
theorem LD_form {M : Nat → Prop} {w : World} {x : G × Nat} {vs : List Value} (h : LD.rd M w x vs) : ∃ a1 c1 a c, vs = [.int .i64 (x.1.kind : Nat), .string x.1.name, .slice a1 x.1.terms.length c1, .slice a x.1.kids.length c, .int .i64 (x.2 : Nat)] ∧
    rdG M w x.1 [.int .i64 (x.1.kind : Nat), .string x.1.name, .slice a1 x.1.terms.length c1, .slice a x.1.kids.length c] := by
  obtain ⟨us, ts, rfl, h1, h2⟩ := h
  have h2 : ts = [.int .i64 (x.2 : Nat)] := h2
  subst h2
  obtain ⟨a1, c1, a, c, rfl, _⟩ := rdG_form h1
  exact ⟨a1, c1, a, c, rfl, h1⟩
theorem LD_mk {M : Nat → Prop} {w : World} {g : G} {d : Nat} {a b c e : Value} (h : rdG M w g [a, b, c, e]) : LD.rd M w (g, d) [a, b, c, e, .int .i64 (d : Nat)] := ⟨_, [.int .i64 (d : Nat)], rfl, h, rfl⟩
set_option maxRecDepth 100000 in
theorem before_c {gs : List G} {d : Nat} {rest : List (G × Nat)} {v1 v2 : Value} {M : Nat → Prop} {w : World} (hM : ∀ b, M b → b < w.heap.size) (h1 : (LSl LG).rd M w gs [v1]) (h2 : (LSl LD).rd M w rest [v2]) (hl1 : gs.length ≤ 1000) (hl2 : rest.length ≤ 100000) :
    Calls Tryz.prog 52 #[v1, .int .i64 d, v2] w (Ret fun v w' => P1 (LSl LD) M (gs.map (·, d) ++ rest) v w' ∧ Mod [] w w') := by
  obtain ⟨a1, c1, rfl⟩ := rdSl_val h1
  obtain ⟨a2, c2, rfl⟩ := rdSl_val h2
  refine enter1 Tryz.func52 rfl Tryz.ntmps52 rfl (by simp) ?_
  have H := ((Holds.start w []).arg (L := LSl LG) h1).arg (L := LSl LD) h2
  (repeat (first | refine qq ?_ | (refine qds H ?_; intro H) | (refine qrb H ?_; intro _ w H) | (refine qrs H ?_; intro w H) | (refine qdr H ?_; intro H)))
  refine WO_s rfl (S_bslice0 H ?_); intro b0 w H
  have H := (H.toRow 0 5 rfl).dnil (L := LD) (M := M)
  (repeat (first | refine qq ?_ | (refine qds H ?_; intro H) | (refine qrb H ?_; intro _ w H) | (refine qrs H ?_; intro w H) | (refine qdr H ?_; intro H)))
  refine W_loop (fun m f w' => ∃ k g v' vss, m = gs.length - k ∧ k ≤ gs.length ∧ f = sl g [(11, .slice a1 gs.length c1), (12, .int .i64 gs.length), (13, .int .i64 k), (7, v'), (1, .int .i64 d), (2, .slice a2 rest.length c2)] ∧
    Holds _ [] [orow 106 5 v' vss] [dall LD M ((gs.take k).map (·, d)) vss, (LSl LG).dat M gs [.slice a1 gs.length c1], (LSl LD).dat M rest [.slice a2 rest.length c2]] w') gs.length ⟨0, _, _, [], rfl, Nat.zero_le _, sl_back ⟨rfl, rfl, rfl, rfl, rfl, rfl, trivial⟩, H.sub (.refl _) (by simp)⟩ ?_
  clear H
  rintro m f w ⟨k, g, v', vss, rfl, hk, rfl, H⟩
  by_cases hlt : k < gs.length
  · obtain ⟨x, hx⟩ : ∃ x, gs[k]? = some x := ⟨_, List.getElem?_eq_getElem hlt⟩
    obtain ⟨b, o, vs, rfl, _, _, hr, H⟩ := H.elem (L := LG) (M := M) (l := gs) (a := a1) (n := gs.length) (c := c1) (by simp) k hx
    obtain ⟨a3, c3, a4, c4, rfl, _⟩ := rdG_form hr
    obtain ⟨a5, c5, rfl⟩ := H.rowVal 0 rfl
    (repeat (first | refine qq ?_ | (refine qds H ?_; intro H) | (refine qrb H ?_; intro _ w H) | (refine qrs H ?_; intro w H) | (refine qdr H ?_; intro H)))
    refine WO_rd rfl (X_build (by exact rfl) [(0, [.int .i64 (x.kind : Nat), .string x.name, .slice a3 x.terms.length c3, .slice a4 x.kids.length c4]), (1, [.int .i64 d])] (by exact rfl) (by exact rfl)) ?_
    (first | refine WO_s rfl (S_bslice1N H _ (by exact rfl) (by exact rfl) (by exact rfl) (by exact rfl) (by exact rfl) ?_) | refine WO_s rfl (S_bslice1s H _ (by exact rfl) (by exact rfl) (by exact rfl) ?_)); intro b10 w H
    refine WO_s rfl (S_append H 2 _ _ (vs := [.int .i64 (x.kind : Nat), .string x.name, .slice a3 x.terms.length c3, .slice a4 x.kids.length c4, .int .i64 d]) (by exact rfl) (by exact rfl) (by exact rfl) (H.bcells 0 5 rfl rfl) rfl (by simp [Value.oneCell']) (by simp) (by exact rfl) ?_ ?_)
    · have := (Alls.get (H.dat (d := dall LD M ((gs.take k).map (·, d)) vss) (by simp))).1
      simp only [List.length_map, List.length_take] at this; omega
    intro v'' w H
    (repeat (first | refine qq ?_ | (refine qds H ?_; intro H) | (refine qrb H ?_; intro _ w H) | (refine qrs H ?_; intro w H) | (refine qdr H ?_; intro H)))
    refine ⟨gs.length - (k + 1), by omega, k + 1, _, v'', vss ++ [[.int .i64 (x.kind : Nat), .string x.name, .slice a3 x.terms.length c3, .slice a4 x.kids.length c4, .int .i64 d]], rfl, by omega, sl_back ⟨rfl, rfl, rfl, rfl, rfl, rfl, trivial⟩, ?_⟩
    rw [take_snoc hx, List.map_append]
    exact (H.snoc (L := LD) (M := M) (l := (gs.take k).map (·, d)) (vss := vss) (x := (x, d)) (by simp) (LD_mk (H.dat (d := LG.dat M x [.int .i64 (x.kind : Nat), .string x.name, .slice a3 x.terms.length c3, .slice a4 x.kids.length c4]) (by simp)))).sub (.cons _ (.cons _ (.refl _))) (by simp)
  · obtain rfl : k = gs.length := by omega
    rw [List.take_length] at H
    obtain ⟨a5, c5, rfl⟩ := H.rowVal 0 rfl
    have hlv := (H.dat (d := dall LD M (gs.map (·, d)) vss) (by simp)).get.1
    (repeat (first | refine qq ?_ | (refine qds H ?_; intro H) | (refine qrb H ?_; intro _ w H) | (refine qrs H ?_; intro w H) | (refine qdr H ?_; intro H)))
    refine WO_s rfl (S_appendD (L := LD) (M := M) (l := gs.map (·, d)) (l' := rest) (vss := vss) (a := a2) (n := rest.length) (c := c2) H 0 _ _ rfl (by simp) (by simp) (by exact rfl) (by exact rfl) rfl (by decide) rfl (by simp only [List.length_map]; omega) ?_)
    intro v3 vss3 w H
    (repeat (first | refine qq ?_ | (refine qds H ?_; intro H) | (refine qrb H ?_; intro _ w H) | (refine qrs H ?_; intro w H) | (refine qdr H ?_; intro H)))
    have H := Holds.freeze (A1 := []) (A2 := []) (M := M) (L := LD) (l := gs.map (·, d) ++ rest) H hM (H.dat (by simp)) (by simp)
    exact ⟨H.out 0 rfl, H.mod⟩
end Go.Proofs.YtljpfnjpifhdlaaGreatDoor
namespace Go.Proofs.YtljpfnjpifhdlaaGreatDoor
open Go
/-- a row that begins with two whole numbers -/
def II (vs : List Value) : Prop := ∃ k1 i1 k2 i2 r, vs = .int k1 i1 :: .int k2 i2 :: r
/-- no two whole numbers stand side by side in the block b -/
def NoII (w : World) (b : Nat) : Prop := ∃ zs T fz, w.heap[b]? = some (.cells (Array.mk zs) T fz) ∧ ∀ (j : Nat) k1 i1 k2 i2, zs[j]? = some (Value.int k1 i1) → zs[j + 1]? = some (Value.int k2 i2) → False
theorem noII_cells {w : World} {b o : Nat} {vs : List Value} (h : NoII w b) (hv : II vs) (hc : Cells w b o vs) : False := by
  obtain ⟨zs, T, fz, hb, hz⟩ := h
  obtain ⟨k1, i1, k2, i2, r, rfl⟩ := hv
  have h1 := hc 0 _ rfl
  have h2 := hc 1 _ rfl
  have e := block_cell (xs := zs) (T := T) (fz := fz) hb
  rw [Nat.add_zero, e] at h1
  rw [e] at h2
  exact hz o k1 i1 k2 i2 h1 h2
theorem II_T {M : Nat → Prop} {w : World} {t : T} {vs : List Value} (h : rdT M w t vs) : II vs := by
  obtain ⟨a, c, rfl⟩ := rdT_four h
  exact ⟨_, _, _, _, _, rfl⟩
theorem II_B {M : Nat → Prop} {w : World} {x : Nat × T} {vs : List Value} (h : LB.rd M w x vs) : II vs := by
  obtain ⟨a, c, rfl, _⟩ := LB_five h
  exact ⟨_, _, _, _, _, rfl⟩
theorem away_T {M : Nat → Prop} {w : World} {b : Nat} (hn : NoII w b) : ∀ {t : T} {vs : List Value}, rdT M w t vs → rdT (fun c => M c ∨ c = b) w t vs := by
  intro t
  induction t with
  | pair x y ihx ihy =>
    intro vs h
    obtain ⟨b', o, c, us, ts, h1, h2, h3, h4, h5, h6, h7, h8, h9⟩ := h
    refine ⟨b', o, c, us, ts, h1, h2, ?_, h4, h5, ihx h6, ihy h7, h8, h9⟩
    rintro (h | rfl)
    · exact h3 h
    · exact noII_cells hn (II_T h6) h8
  | nil => exact fun h => h
  | var n => exact fun h => h
  | sym s => exact fun h => h
  | num n => exact fun h => h
theorem away_B {M : Nat → Prop} {w : World} {b : Nat} (hn : NoII w b) {x : Nat × T} {vs : List Value} (h : LB.rd M w x vs) : LB.rd (fun c => M c ∨ c = b) w x vs := by
  obtain ⟨us, ts, rfl, h1, h2⟩ := h
  exact ⟨us, ts, rfl, h1, away_T hn h2⟩
theorem away_L {α : Type} {L : Lay α} {M : Nat → Prop} {w : World} {b : Nat} (hL : ∀ x vs, L.rd M w x vs → L.rd (fun c => M c ∨ c = b) w x vs) {b' : Nat} : ∀ {l : List α} {o : Nat}, RdL L M w b' o l → RdL L (fun c => M c ∨ c = b) w b' o l
  | [], _, _ => trivial
  | x :: _, _, ⟨⟨vs, h1, h2⟩, h3⟩ => ⟨⟨vs, hL x vs h1, h2⟩, away_L hL h3⟩
theorem away_Sl {α : Type} {L : Lay α} {M : Nat → Prop} {w : World} {b : Nat} (hn : NoII w b) (hI : ∀ x vs, L.rd M w x vs → II vs) (hL : ∀ x vs, L.rd M w x vs → L.rd (fun c => M c ∨ c = b) w x vs) {l : List α} {vs : List Value} (h : (LSl L).rd M w l vs) : (LSl L).rd (fun c => M c ∨ c = b) w l vs := by
  obtain ⟨a, n, c, rfl, h1, h2, h3⟩ := h
  refine ⟨a, n, c, rfl, h1, h2, ?_⟩
  rcases h3 with rfl | ⟨b', o, rfl, h4, h5, h6⟩
  · exact .inl rfl
  · cases l with
    | nil => exact .inl rfl
    | cons x l =>
      refine .inr ⟨b', o, rfl, ?_, h5, away_L hL h6⟩
      rintro (h | rfl)
      · exact h4 h
      · obtain ⟨⟨vs, h7, h8⟩, _⟩ := h6
        exact noII_cells hn (hI _ _ h7) h8
theorem away_Sb {M : Nat → Prop} {w : World} {b : Nat} (hn : NoII w b) {l : Sb} {vs : List Value} (h : LSb.rd M w l vs) : LSb.rd (fun c => M c ∨ c = b) w l vs := away_Sl hn (fun _ _ => II_B) (fun _ _ => away_B hn) h
theorem away_Ts {M : Nat → Prop} {w : World} {b : Nat} (hn : NoII w b) {l : List T} {vs : List Value} (h : (LSl LT).rd M w l vs) : (LSl LT).rd (fun c => M c ∨ c = b) w l vs := away_Sl hn (fun _ _ => II_T) (fun _ _ => away_T hn) h
theorem noII_stZ {w : World} {b T : Nat} {fz : Nat × Nat} (h : w.heap[b]? = some (.cells stZ.toArray T fz)) : NoII w b := by
  refine ⟨stZ, T, fz, h, ?_⟩
  intro j k1 i1 k2 i2 h1 h2
  match j, h1, h2 with
  | 0, _, h2 => cases h2
  | 1, h1, _ => cases h1
  | 2, h1, _ => cases h1
  | 3, h1, _ => cases h1
  | 4, h1, _ => cases h1
  | j + 5, h1, _ => cases h1
theorem noII_goZ {w : World} {b T : Nat} {fz : Nat × Nat} (h : w.heap[b]? = some (.cells goZ.toArray T fz)) : NoII w b := by
  refine ⟨goZ, T, fz, h, ?_⟩
  intro j k1 i1 k2 i2 h1 h2
  match j, h1, h2 with
  | 0, _, h2 => cases h2
  | 1, h1, _ => cases h1
  | 2, h1, _ => cases h1
  | 3, h1, _ => cases h1
  | j + 4, h1, _ => cases h1
end Go.Proofs.YtljpfnjpifhdlaaGreatDoor
namespace Go.Proofs.YtljpfnjpifhdlaaGreatDoor
open Go
set_option maxHeartbeats 1000000 in
set_option maxRecDepth 100000 in
theorem copyState_c {st : Sta} {vs : List Value} {M0 M : Nat → Prop} {wS : World} (hM : ∀ b, M b → b < wS.heap.size) (h : LSt.rd M0 wS st vs) (hl : st.bind.length ≤ 100000) (hl2 : st.dis.length ≤ 1000) (hld : ∀ d ∈ st.dis, d.length ≤ 100000) :
    Calls Tryz.prog 85 #[.agg vs.toArray] wS (Ret fun v w' => (∃ us, v = .agg us.toArray ∧ LSt.rd M w' st us) ∧ Mod [] wS w') := by
  obtain ⟨a1, c1, a2, c2, a3, c3, a4, c4, rfl, h1, h2⟩ := LSt_five h
  refine enterC Tryz.func85 rfl Tryz.ntmps85 rfl (by simp) ?_
  have H := ((Holds.start wS []).arg (L := LSb) h1).arg (L := LSs) h2
  refine W_rs ?_
  refine qrb H ?_; intro b1 w H
  refine qrb H ?_; intro b2 w H
  (repeat (first | refine qq ?_ | (refine qds H ?_; intro H) | (refine qrb H ?_; intro _ w H) | (refine qrs H ?_; intro w H) | (refine qdr H ?_; intro H)))
  obtain ⟨M', hM', _, hof⟩ := H.off hM
  have H0 := H
  have stab5 : ∀ (v : Value) (w1 w' : World), (∃ b, v = Value.slice (some ⟨b, 0, none⟩) 0 0) → Mod [] w1 w' → ∃ b, v = Value.slice (some ⟨b, 0, none⟩) 0 0 := fun _ _ _ h _ => h
  have stab6 : ∀ (v : Value) (w1 w' : World), (∃ a c b, v = Value.agg #[.int .i64 (st.next : Nat), .slice a st.bind.length c, .slice (some ⟨b, 0, none⟩) 0 0, .slice none 0 0, .slice none 0 0] ∧ LSb.rd M' w1 st.bind [.slice a st.bind.length c]) → Mod [] w1 w' → ∃ a c b, v = Value.agg #[.int .i64 (st.next : Nat), .slice a st.bind.length c, .slice (some ⟨b, 0, none⟩) 0 0, .slice none 0 0, .slice none 0 0] ∧ LSb.rd M' w' st.bind [.slice a st.bind.length c] :=
    fun _ _ _ ⟨a, c, b, h1, h2⟩ hm => ⟨a, c, b, h1, LSb.keep _ _ _ _ _ (fun b hb _ => hm.block b hb (by simp)) h2⟩
  have stab7 : ∀ (v : Value) (w1 w' : World), (∃ b, v = Value.pointer (some ⟨b, 0, none⟩) ∧ w.drew.heap.size ≤ b ∧ b < w1.heap.size ∧ w1.heap[b]? = some (.cells stZ.toArray 48 (0, 0))) → Mod [] w1 w' → ∃ b, v = Value.pointer (some ⟨b, 0, none⟩) ∧ w.drew.heap.size ≤ b ∧ b < w'.heap.size ∧ w'.heap[b]? = some (.cells stZ.toArray 48 (0, 0)) :=
    fun _ _ _ ⟨b, h1, h2, h3, h4⟩ hm => ⟨b, h1, h2, Nat.lt_of_lt_of_le h3 hm.size, by rw [hm.block b h3 (by simp)]; exact h4⟩
  refine WD_any 8 [[], [0], [], [2], [2, 3], [], [0, 1, 2, 3, 4, 5], []] [(4, P1 LSb M' ((st.bind))), (5, (fun v _ => ∃ b, v = Value.slice (some ⟨b, 0, none⟩) 0 0)), (6, (fun v w1 => ∃ a c b, v = Value.agg #[.int .i64 (st.next : Nat), .slice a st.bind.length c, .slice (some ⟨b, 0, none⟩) 0 0, .slice none 0 0, .slice none 0 0] ∧ LSb.rd M' w1 st.bind [.slice a st.bind.length c])), (7, (fun v w1 => ∃ b, v = Value.pointer (some ⟨b, 0, none⟩) ∧ w.drew.heap.size ≤ b ∧ b < w1.heap.size ∧ w1.heap[b]? = some (.cells stZ.toArray 48 (0, 0))))] (by kernel_rfl) ?_ ?_ _ (by exact rfl) ?_
  · exact ⟨P1_stab, stab5, stab6, stab7, trivial⟩
  · refine ⟨?_, ?_, ?_, ?_, ?_, ?_, ?_, ?_, trivial⟩
    iterate 4 (· exact qob)
    · intro w hm
      have H := H.call hm
      refine qwr ?_
      refine qwr ?_
      refine qol ?_
      exact S_call1 _ (by exact rfl) (by exact rfl) (copyBindings_c (hM' _ hm.size) (H.dat (d := LSb.dat M0 st.bind [.slice a1 st.bind.length c1]) (by simp)) hl) fun v w' h => h
    · intro w hm
      have H := H.call hm
      refine qol ?_
      exact S_bslice0 (Holds.start w []) fun b w' H' => ⟨⟨b, rfl⟩, H'.mod⟩
    · intro w hm
      have H := H.call hm
      iterate 4 refine qwr ?_
      refine qwl ?_; intro v4 h4
      refine qwl ?_; intro v5 h5
      refine qol ?_
      obtain ⟨b5, rfl⟩ := h5
      obtain ⟨a14, c14, rfl⟩ := rdSl_val h4
      refine S_read (X_build (by exact rfl) [(0, [.int .i64 (st.next : Nat)]), (1, [.slice a14 st.bind.length c14]), (2, [.slice (some ⟨b5, 0, none⟩) 0 0])] (by exact rfl) (by exact rfl)) ?_
      exact ⟨⟨a14, c14, b5, rfl, h4⟩, Mod.refl _ _⟩
    · intro w hm
      have H := H.call hm
      refine qol ?_
      refine S_alloc (xs := stZ) (Holds.start _ []) fun b w' H' => ?_
      have ho := H'.own (M := fun c => c < _) (fun _ h => h) 0 rfl
      exact ⟨⟨b, rfl, Nat.le_trans hm.size (Nat.not_lt.1 ho.1), ho.2, H'.atom (List.Mem.head _)⟩, H'.mod⟩
  intro w hm
  have H := H.call hm
  iterate 4 refine qwr ?_
  refine qwl ?_; intro v4 h4
  refine qwl ?_; intro v5 h5
  refine qwl ?_; intro v6 h6
  refine qwl ?_; intro v7 h7
  refine WR_nil ?_
  obtain ⟨b3, rfl, hb3a, hb3b, hb3⟩ := h7
  obtain ⟨a14, c14, b5, rfl, h14⟩ := h6
  have H1 := H0.new (a := box b3 stZ 48) hm hb3 (by simp [box]) (fun b hb => by
    have hb : b = b3 := by simpa [box] using hb
    subst hb
    exact ⟨hb3b, hb3a⟩)
  have H := H1.add (d := LSb.dat M st.bind [.slice a14 st.bind.length c14]) (LSb.grow _ _ _ _ _ (fun c _ hc => by
    rcases hc with hc | hc
    · exact .inl (.inl hc)
    · simp only [owns, List.flatMap_cons, List.mem_append] at hc
      rcases hc with hc | hc
      · exact .inr (by simpa [box] using hc)
      · exact .inl (.inr (by simp only [owns, List.flatMap_cons, List.mem_append]; exact hc))) (away_Sb (noII_stZ hb3) (hof h14)))
  refine WD_n (by kernel_rfl) (by exact rfl) (S_storeN H 0 _ _ (by exact rfl) (by exact rfl) (by exact rfl) (by exact rfl) (by exact rfl) (by exact rfl) ?_); intro w H
  refine WD_end (by decide) ?_
  (repeat (first | refine qq ?_ | (refine qds H ?_; intro H) | (refine qrb H ?_; intro _ w H) | (refine qrs H ?_; intro w H) | (refine qdr H ?_; intro H)))
  refine W_loop (fun m fr w' => ∃ k gg, m = st.dis.length - k ∧ k ≤ st.dis.length ∧ fr = sl gg [(14, .slice a2 st.dis.length c2), (15, .int .i64 st.dis.length), (16, .int .i64 k), (1, .pointer (some ⟨b1, 0, none⟩)), (2, .pointer (some ⟨b2, 0, none⟩)), (3, .pointer (some ⟨b3, 0, none⟩))] ∧
    ((k = 0 ∧ Holds wS [] [box b3 [.int .i64 (st.next : Nat), .slice a14 st.bind.length c14, .slice (some ⟨b5, 0, none⟩) 0 0, .slice none 0 0, .slice none 0 0] 48, box b2 stZ 48, box b1 [.int .i64 (st.next : Nat), .slice a1 st.bind.length c1, .slice a2 st.dis.length c2, .slice a3 0 c3, .slice a4 0 c4] 48] [LSb.dat M st.bind [.slice a14 st.bind.length c14], LSs.dat M0 st.dis [.slice a2 st.dis.length c2]] w') ∨
      ∃ a7 c7 vss, Holds wS [] [orow 43 1 (.slice a7 vss.length c7) vss, box b3 [.int .i64 (st.next : Nat), .slice a14 st.bind.length c14, .slice a7 vss.length c7, .slice none 0 0, .slice none 0 0] 48, box b2 stZ 48, box b1 [.int .i64 (st.next : Nat), .slice a1 st.bind.length c1, .slice a2 st.dis.length c2, .slice a3 0 c3, .slice a4 0 c4] 48] (dall LSb M (st.dis.take k) vss :: [LSb.dat M st.bind [.slice a14 st.bind.length c14], LSs.dat M0 st.dis [.slice a2 st.dis.length c2]]) w')) st.dis.length
    (by
      refine ⟨0, _, rfl, Nat.zero_le _, sl_back ⟨rfl, rfl, rfl, rfl, rfl, rfl, trivial⟩, ?_⟩
      exact .inl ⟨rfl, H.sub (.refl _) (by simp)⟩) ?_
  clear H
  rintro m fr w ⟨k, gg, rfl, hk, rfl, H⟩
  by_cases hlt : k < st.dis.length
  · obtain ⟨d, hx⟩ : ∃ x, st.dis[k]? = some x := ⟨_, List.getElem?_eq_getElem hlt⟩
    rcases H with ⟨rfl, H⟩ | ⟨a7, c7, vss, H⟩
    · obtain ⟨b, o, vs, rfl, _, _, hr', H⟩ := H.elem (L := LSb) (M := M0) (l := st.dis) (a := a2) (n := st.dis.length) (c := c2) (by simp) 0 hx
      obtain ⟨a8, c8, rfl⟩ := LSl_one hr'
      (repeat (first | refine qq ?_ | (refine qds H ?_; intro H) | (refine qrb H ?_; intro _ w H) | (refine qrs H ?_; intro w H) | (refine qdr H ?_; intro H)))
      obtain ⟨M', hM', _, hof⟩ := H.off hM
      refine WD_any 5 [[], [0], [], [2], [2, 3]] [(3, P1 LSb M' ((d))), (4, P1 (LSl LSb) M' ([d]))] (by kernel_rfl) ?_ ?_ _ (by exact rfl) ?_
      · exact ⟨P1_stab, P1_stab, trivial⟩
      · refine ⟨?_, ?_, ?_, ?_, ?_, trivial⟩
        iterate 3 (· exact qob)
        · intro w hm
          have H := H.call hm
          refine qwr ?_
          refine qol ?_
          exact S_call1 _ (by exact rfl) (by exact rfl) (copyBindings_c (hM' _ hm.size) (H.dat (d := LSb.dat M0 d [.slice a8 d.length c8]) (by simp)) (hld d (List.mem_of_getElem? hx))) fun v w' h => h
        · intro w hm
          have H := H.call hm
          refine qwr ?_
          refine qwl ?_; intro v3 h3
          refine qol ?_
          obtain ⟨a24, c24, rfl⟩ := rdSl_val h3
          have H' := (Holds.start w []).arg (L := LSb) h3
          refine S_bslice1s H' _ (v := .slice a24 d.length c24) (by exact rfl) (by exact rfl) (by exact rfl) ?_
          intro b3 w' H'
          exact ⟨rdSl_one (Nat.le_refl _) (H'.own (hM' _ hm.size) 0 rfl) (H'.out 0 rfl) (H'.bcells 0 1 rfl rfl), H'.mod⟩
      intro w hm
      have H := H.call hm
      iterate 3 refine qwr ?_
      refine qwl ?_; intro v3 h3
      refine qwl ?_; intro v4 h4
      refine WR_nil ?_
      obtain ⟨b17, o17, c17, vs17, rfl, hr17, hc17⟩ := rdSl_at h4
      have H := H.add (hof hr17)
      refine WD_s (by kernel_rfl) rfl rfl (S_appendZ (uss := [vs17]) H _ _ (by exact rfl) (by exact rfl) (by simpa using hc17) (by intro us hus; obtain rfl := List.mem_singleton.1 hus; exact LSb.len _ _ _ _ hr17) (by intro us hus u hu; obtain rfl := List.mem_singleton.1 hus; exact LSb.one _ _ _ _ hr17 u hu) (by decide) (by exact rfl) (by simp) (by simp) ?_)
      intro v'' w H
      obtain ⟨a11, c11, rfl⟩ := H.rowVal 0 rfl
      refine WD_rd (by kernel_rfl) rfl rfl (X_fieldAddr _ (by exact rfl)) ?_
      refine WD_n (by kernel_rfl) (by exact rfl) (S_store1 H 1 _ _ (by exact rfl) (by exact rfl) (by exact rfl) (by exact rfl) (by exact rfl) (by exact rfl) ?_); intro w H
      refine WD_end (by decide) ?_
      (repeat (first | refine qq ?_ | (refine qds H ?_; intro H) | (refine qrb H ?_; intro _ w H) | (refine qrs H ?_; intro w H) | (refine qdr H ?_; intro H)))
      refine ⟨st.dis.length - 1, by omega, 1, _, rfl, by omega, sl_back ⟨rfl, rfl, rfl, rfl, rfl, rfl, trivial⟩, .inr ⟨a11, c11, [vs17], ?_⟩⟩
      have e : st.dis.take 1 = [d] := by have := take_snoc hx; simpa using this
      rw [e]
      exact ((H.dnil (L := LSb) (M := M)).snoc (L := LSb) (M := M) (l := []) (vss := []) (x := d) (by simp) (H.dat (d := LSb.dat M d vs17) (by simp))).sub (.refl _) (by simp)
    · obtain ⟨b, o, vs, rfl, _, _, hr', H⟩ := H.elem (L := LSb) (M := M0) (l := st.dis) (a := a2) (n := st.dis.length) (c := c2) (by simp) k hx
      obtain ⟨a8, c8, rfl⟩ := LSl_one hr'
      (repeat (first | refine qq ?_ | (refine qds H ?_; intro H) | (refine qrb H ?_; intro _ w H) | (refine qrs H ?_; intro w H) | (refine qdr H ?_; intro H)))
      obtain ⟨M', hM', _, hof⟩ := H.off hM
      refine WD_any 5 [[], [0], [], [2], [2, 3]] [(3, P1 LSb M' ((d))), (4, P1 (LSl LSb) M' ([d]))] (by kernel_rfl) ?_ ?_ _ (by exact rfl) ?_
      · exact ⟨P1_stab, P1_stab, trivial⟩
      · refine ⟨?_, ?_, ?_, ?_, ?_, trivial⟩
        iterate 3 (· exact qob)
        · intro w hm
          have H := H.call hm
          refine qwr ?_
          refine qol ?_
          exact S_call1 _ (by exact rfl) (by exact rfl) (copyBindings_c (hM' _ hm.size) (H.dat (d := LSb.dat M0 d [.slice a8 d.length c8]) (by simp)) (hld d (List.mem_of_getElem? hx))) fun v w' h => h
        · intro w hm
          have H := H.call hm
          refine qwr ?_
          refine qwl ?_; intro v3 h3
          refine qol ?_
          obtain ⟨a24, c24, rfl⟩ := rdSl_val h3
          have H' := (Holds.start w []).arg (L := LSb) h3
          refine S_bslice1s H' _ (v := .slice a24 d.length c24) (by exact rfl) (by exact rfl) (by exact rfl) ?_
          intro b3 w' H'
          exact ⟨rdSl_one (Nat.le_refl _) (H'.own (hM' _ hm.size) 0 rfl) (H'.out 0 rfl) (H'.bcells 0 1 rfl rfl), H'.mod⟩
      intro w hm
      have H := H.call hm
      iterate 3 refine qwr ?_
      refine qwl ?_; intro v3 h3
      refine qwl ?_; intro v4 h4
      refine WR_nil ?_
      obtain ⟨b17, o17, c17, vs17, rfl, hr17, hc17⟩ := rdSl_at h4
      have H := H.add (hof hr17)
      refine WD_s (by kernel_rfl) rfl rfl (S_append H 0 _ _ (by exact rfl) (by exact rfl) (by exact rfl) hc17 (LSb.len _ _ _ _ hr17) (LSb.one _ _ _ _ hr17) (by decide) (by exact rfl) ?_ ?_)
      · have := (Alls.get (H.dat (d := dall LSb M (st.dis.take k) vss) (by simp))).1
        simp only [List.length_take] at this; omega
      intro v'' w H
      obtain ⟨a11, c11, rfl⟩ := H.rowVal 0 rfl
      refine WD_rd (by kernel_rfl) rfl rfl (X_fieldAddr _ (by exact rfl)) ?_
      refine WD_n (by kernel_rfl) (by exact rfl) (S_store1 H 1 _ _ (by exact rfl) (by exact rfl) (by exact rfl) (by exact rfl) (by exact rfl) (by exact rfl) ?_); intro w H
      refine WD_end (by decide) ?_
      (repeat (first | refine qq ?_ | (refine qds H ?_; intro H) | (refine qrb H ?_; intro _ w H) | (refine qrs H ?_; intro w H) | (refine qdr H ?_; intro H)))
      refine ⟨st.dis.length - (k + 1), by omega, k + 1, _, rfl, by omega, sl_back ⟨rfl, rfl, rfl, rfl, rfl, rfl, trivial⟩, .inr ⟨a11, c11, vss ++ [vs17], ?_⟩⟩
      rw [take_snoc hx]
      exact (H.snoc (L := LSb) (M := M) (l := st.dis.take k) (vss := vss) (x := d) (by simp) (H.dat (d := LSb.dat M d vs17) (by simp))).sub (.refl _) (by simp)
  · obtain rfl : k = st.dis.length := by omega
    rcases H with ⟨hk0, H⟩ | ⟨a7, c7, vss, H⟩
    · have hd0 : st.dis = [] := List.eq_nil_of_length_eq_zero hk0
      (repeat (first | refine qq ?_ | (refine qds H ?_; intro H) | (refine qrb H ?_; intro _ w H) | (refine qrs H ?_; intro w H) | (refine qdr H ?_; intro H)))
      refine WO_s rfl (S_bslice0 H ?_); intro b28 w H
      (repeat (first | refine qq ?_ | (refine qds H ?_; intro H) | (refine qrb H ?_; intro _ w H) | (refine qrs H ?_; intro w H) | (refine qdr H ?_; intro H)))
      refine WO_s rfl (X_append0 _ _ (by exact rfl) (Nat.le_refl _) (by exact rfl) ?_)
      (repeat (first | refine qq ?_ | (refine qds H ?_; intro H) | (refine qrb H ?_; intro _ w H) | (refine qrs H ?_; intro w H) | (refine qdr H ?_; intro H)))
      refine WO_s rfl (S_bslice0 H ?_); intro b33 w H
      (repeat (first | refine qq ?_ | (refine qds H ?_; intro H) | (refine qrb H ?_; intro _ w H) | (refine qrs H ?_; intro w H) | (refine qdr H ?_; intro H)))
      refine WO_s rfl (X_append0 _ _ (by exact rfl) (Nat.le_refl _) (by exact rfl) ?_)
      (repeat (first | refine qq ?_ | (refine qds H ?_; intro H) | (refine qrb H ?_; intro _ w H) | (refine qrs H ?_; intro w H) | (refine qdr H ?_; intro H)))
      exact ⟨_, _, _, rfl, H.bcells 3 5 rfl rfl, rfl, ⟨_, rfl, LSt_mk (st := st) (H.out (L := LSb) 0 rfl) (by rw [hd0]; exact ⟨_, _, _, rfl, rfl, Nat.le_refl _, .inl rfl⟩)⟩, H.mod⟩
    · rw [List.take_length] at H
      have H := Holds.freeze (A1 := []) (A2 := [box b3 [.int .i64 (st.next : Nat), .slice a14 st.bind.length c14, .slice a7 vss.length c7, .slice none 0 0, .slice none 0 0] 48, box b2 stZ 48, box b1 [.int .i64 (st.next : Nat), .slice a1 st.bind.length c1, .slice a2 st.dis.length c2, .slice a3 0 c3, .slice a4 0 c4] 48]) (M := M) (L := LSb) (l := st.dis) H hM (H.dat (by simp)) (by simp)
      (repeat (first | refine qq ?_ | (refine qds H ?_; intro H) | (refine qrb H ?_; intro _ w H) | (refine qrs H ?_; intro w H) | (refine qdr H ?_; intro H)))
      refine WO_s rfl (S_bslice0 H ?_); intro b28 w H
      (repeat (first | refine qq ?_ | (refine qds H ?_; intro H) | (refine qrb H ?_; intro _ w H) | (refine qrs H ?_; intro w H) | (refine qdr H ?_; intro H)))
      refine WO_s rfl (X_append0 _ _ (by exact rfl) (Nat.le_refl _) (by exact rfl) ?_)
      (repeat (first | refine qq ?_ | (refine qds H ?_; intro H) | (refine qrb H ?_; intro _ w H) | (refine qrs H ?_; intro w H) | (refine qdr H ?_; intro H)))
      refine WO_s rfl (S_bslice0 H ?_); intro b33 w H
      (repeat (first | refine qq ?_ | (refine qds H ?_; intro H) | (refine qrb H ?_; intro _ w H) | (refine qrs H ?_; intro w H) | (refine qdr H ?_; intro H)))
      refine WO_s rfl (X_append0 _ _ (by exact rfl) (Nat.le_refl _) (by exact rfl) ?_)
      (repeat (first | refine qq ?_ | (refine qds H ?_; intro H) | (refine qrb H ?_; intro _ w H) | (refine qrs H ?_; intro w H) | (refine qdr H ?_; intro H)))
      exact ⟨_, _, _, rfl, H.bcells 3 5 rfl rfl, rfl, ⟨_, rfl, LSt_mk (st := st) (H.out (L := LSb) 2 rfl) (H.out (L := LSs) 0 rfl)⟩, H.mod⟩
end Go.Proofs.YtljpfnjpifhdlaaGreatDoor
namespace Go.Proofs.YtljpfnjpifhdlaaGreatDoor
open Go
/-- a branch: a state and the choices made -/
abbrev Br := Sta × List Nat
def LBr : Lay Br := LSt.and (LSl LNat)
theorem LBr_form {M : Nat → Prop} {w : World} {x : Br} {vs : List Value} (h : LBr.rd M w x vs) : ∃ a1 c1 a2 c2 a3 c3 a4 c4 a5 c5, vs = [.int .i64 (x.1.next : Nat), .slice a1 x.1.bind.length c1, .slice a2 x.1.dis.length c2, .slice a3 0 c3, .slice a4 0 c4, .slice a5 x.2.length c5] ∧
    LSt.rd M w x.1 [.int .i64 (x.1.next : Nat), .slice a1 x.1.bind.length c1, .slice a2 x.1.dis.length c2, .slice a3 0 c3, .slice a4 0 c4] ∧ (LSl LNat).rd M w x.2 [.slice a5 x.2.length c5] := by
  obtain ⟨us, ts, rfl, h1, h2⟩ := h
  obtain ⟨a1, c1, a2, c2, a3, c3, a4, c4, rfl, _⟩ := LSt_five h1
  obtain ⟨a5, c5, rfl⟩ := LSl_one h2
  exact ⟨a1, c1, a2, c2, a3, c3, a4, c4, a5, c5, rfl, h1, h2⟩
set_option maxHeartbeats 1000000 in
set_option maxRecDepth 100000 in
theorem copyBranch_c {x : Br} {vs : List Value} {M0 M : Nat → Prop} {w : World} (hM : ∀ b, M b → b < w.heap.size) (h : LBr.rd M0 w x vs) (hl : x.1.bind.length ≤ 100000) (hl2 : x.1.dis.length ≤ 1000) (hld : ∀ d ∈ x.1.dis, d.length ≤ 100000) (hl3 : x.2.length ≤ 100000) :
    Calls Tryz.prog 56 #[.agg vs.toArray] w (Ret fun v w' => (∃ us, v = .agg us.toArray ∧ LBr.rd M w' x us) ∧ Mod [] w w') := by
  obtain ⟨a1, c1, a2, c2, a3, c3, a4, c4, a5, c5, rfl, h1, h2⟩ := LBr_form h
  refine enterC Tryz.func56 rfl Tryz.ntmps56 rfl (by simp) ?_
  have H := ((Holds.start w []).arg (L := LSt) h1).arg (L := LSl LNat) h2
  refine W_rs ?_
  refine qrb H ?_; intro b1 w H
  refine qrb H ?_; intro b2 w H
  (repeat (first | refine qq ?_ | (refine qds H ?_; intro H) | (refine qrb H ?_; intro _ w H) | (refine qrs H ?_; intro w H) | (refine qdr H ?_; intro H)))
  obtain ⟨M', hM', _, hof⟩ := H.off hM
  have stab3 : ∀ (v : Value) (w1 w' : World), (∃ b, v = Value.slice (some ⟨b, 0, none⟩) 0 0) → Mod [] w1 w' → ∃ b, v = Value.slice (some ⟨b, 0, none⟩) 0 0 := fun _ _ _ h _ => h
  refine WD_any 7 [[], [0], [0, 1], [], [], [4], [0, 1, 2, 3, 4, 5]] [(2, PN LSt M' ((x.1))), (3, (fun v _ => ∃ b, v = Value.slice (some ⟨b, 0, none⟩) 0 0)), (6, P1 (LSl LNat) M' ((x.2)))] (by kernel_rfl) ?_ ?_ _ (by exact rfl) ?_
  · exact ⟨PN_stab, stab3, P1_stab, trivial⟩
  · refine ⟨?_, ?_, ?_, ?_, ?_, ?_, ?_, trivial⟩
    iterate 2 (· exact qob)
    · intro w hm
      have H := H.call hm
      refine qwr ?_
      refine qwr ?_
      refine qol ?_
      exact S_call1 _ (by exact rfl) (by exact rfl) (copyState_c (hM' _ hm.size) (H.dat (d := LSt.dat M0 x.1 [.int .i64 (x.1.next : Nat), .slice a1 x.1.bind.length c1, .slice a2 x.1.dis.length c2, .slice a3 0 c3, .slice a4 0 c4]) (by simp)) hl hl2 hld) fun v w' h => h
    · intro w hm
      have H := H.call hm
      refine qol ?_
      exact S_bslice0 (Holds.start w []) fun b w' H' => ⟨⟨b, rfl⟩, H'.mod⟩
    iterate 2 (· exact qob)
    · intro w hm
      have H := H.call hm
      refine qwr ?_
      refine qwr ?_
      refine qwl ?_; rintro _ ⟨us2, rfl, h2⟩
      refine qwl ?_; intro v3 h3
      refine qwr ?_
      refine qwr ?_
      refine qol ?_
      obtain ⟨b3, rfl⟩ := h3
      exact S_copySl _ _ (hM' _ hm.size) (by exact rfl) (by exact rfl) (H.dat (d := (LSl LNat).dat M0 x.2 [.slice a5 x.2.length c5]) (by simp)) (fun _ _ h => h) rfl Nat.one_pos rfl (by omega)
  intro w hm
  have H := H.call hm
  refine qwr ?_
  refine qwr ?_
  refine qwl ?_; rintro _ ⟨us2, rfl, h2⟩
  refine qwl ?_; intro v3 h3
  refine qwr ?_
  refine qwr ?_
  refine qwl ?_; intro v6 h6
  refine WR_nil ?_
  obtain ⟨a11, c11, a12, c12, a13, c13, a14, c14, rfl, _⟩ := LSt_five h2
  obtain ⟨a16, c16, rfl⟩ := rdSl_val h6
  have H := (H.add (hof h2)).add (hof (L := LSl LNat) h6)
  refine WD_rd (by kernel_rfl) rfl rfl (X_build (by exact rfl) [(0, [.int .i64 (x.1.next : Nat), .slice a11 x.1.bind.length c11, .slice a12 x.1.dis.length c12, .slice a13 0 c13, .slice a14 0 c14]), (1, [.slice a16 x.2.length c16])] (by exact rfl) (by exact rfl)) ?_
  refine WD_n (by kernel_rfl) (by exact rfl) (S_storeN H 0 _ _ (by exact rfl) (by exact rfl) (by exact rfl) (by exact rfl) (by exact rfl) (by exact rfl) ?_); intro w H
  refine WD_end (by decide) ?_
  (repeat (first | refine qq ?_ | (refine qds H ?_; intro H) | (refine qrb H ?_; intro _ w H) | (refine qrs H ?_; intro w H) | (refine qdr H ?_; intro H)))
  exact ⟨_, _, _, rfl, H.bcells 0 6 rfl rfl, rfl, ⟨_, rfl, ⟨_, _, rfl, H.out (L := LSt) 1 rfl, H.out (L := LSl LNat) 0 rfl⟩⟩, H.mod⟩
/-- an answer: a branch and its depth -/
abbrev Fo := Br × Nat
def LF : Lay Fo := LBr.and LNat
theorem LF_form {M : Nat → Prop} {w : World} {x : Fo} {vs : List Value} (h : LF.rd M w x vs) : ∃ a1 c1 a2 c2 a3 c3 a4 c4 a5 c5, vs = [.int .i64 (x.1.1.next : Nat), .slice a1 x.1.1.bind.length c1, .slice a2 x.1.1.dis.length c2, .slice a3 0 c3, .slice a4 0 c4, .slice a5 x.1.2.length c5, .int .i64 (x.2 : Nat)] ∧ LBr.rd M w x.1 [.int .i64 (x.1.1.next : Nat), .slice a1 x.1.1.bind.length c1, .slice a2 x.1.1.dis.length c2, .slice a3 0 c3, .slice a4 0 c4, .slice a5 x.1.2.length c5] := by
  obtain ⟨us, ts, rfl, h1, h2⟩ := h
  have h2 : ts = [.int .i64 (x.2 : Nat)] := h2
  subst h2
  obtain ⟨a1, c1, a2, c2, a3, c3, a4, c4, a5, c5, rfl, _⟩ := LBr_form h1
  exact ⟨a1, c1, a2, c2, a3, c3, a4, c4, a5, c5, rfl, h1⟩
def BrOk (x : Br) : Prop := x.1.bind.length ≤ 100000 ∧ x.1.dis.length ≤ 1000 ∧ (∀ d ∈ x.1.dis, d.length ≤ 100000) ∧ x.2.length ≤ 100000
set_option maxHeartbeats 1000000 in
set_option maxRecDepth 100000 in
theorem copyFound_c {l : List Fo} {v : Value} {M0 M : Nat → Prop} {w : World} (hM : ∀ b, M b → b < w.heap.size) (h : (LSl LF).rd M0 w l [v]) (hl : l.length ≤ 100000) (hok : ∀ x ∈ l, BrOk x.1) :
    Calls Tryz.prog 25 #[v] w (Ret fun v' w' => P1 (LSl LF) M l v' w' ∧ Mod [] w w') := by
  obtain ⟨a, c, rfl⟩ := rdSl_val h
  refine enter1 Tryz.func25 rfl Tryz.ntmps25 rfl (by simp) ?_
  have H := (Holds.start w []).arg (L := LSl LF) h
  (repeat (first | refine qq ?_ | (refine qds H ?_; intro H) | (refine qrb H ?_; intro _ w H) | (refine qrs H ?_; intro w H) | (refine qdr H ?_; intro H)))
  refine WO_s rfl (S_bslice0 H ?_); intro b0 w H
  have H := (H.toRow 0 7 rfl).dnil (L := LF) (M := M)
  (repeat (first | refine qq ?_ | (refine qds H ?_; intro H) | (refine qrb H ?_; intro _ w H) | (refine qrs H ?_; intro w H) | (refine qdr H ?_; intro H)))
  refine W_loop (fun m f w' => ∃ k g v' vss, m = l.length - k ∧ k ≤ l.length ∧ f = sl g [(7, .slice a l.length c), (8, .int .i64 l.length), (9, .int .i64 k), (3, v')] ∧
    Holds _ [] [orow 53 7 v' vss] [dall LF M (l.take k) vss, (LSl LF).dat M0 l [.slice a l.length c]] w') l.length ⟨0, _, _, [], rfl, Nat.zero_le _, sl_back ⟨rfl, rfl, rfl, rfl, trivial⟩, H⟩ ?_
  clear H
  rintro m f w ⟨k, g, v', vss, rfl, hk, rfl, H⟩
  by_cases hlt : k < l.length
  · obtain ⟨x, hx⟩ : ∃ x, l[k]? = some x := ⟨_, List.getElem?_eq_getElem hlt⟩
    obtain ⟨b, o, vs, rfl, _, _, hr, H⟩ := H.elem (L := LF) (M := M0) (l := l) (a := a) (n := l.length) (c := c) (by simp) k hx
    obtain ⟨a1, c1, a2, c2, a3, c3, a4, c4, a5, c5, rfl, hbr⟩ := LF_form hr
    have H := H.add (d := LBr.dat M0 x.1 [.int .i64 (x.1.1.next : Nat), .slice a1 x.1.1.bind.length c1, .slice a2 x.1.1.dis.length c2, .slice a3 0 c3, .slice a4 0 c4, .slice a5 x.1.2.length c5]) hbr
    obtain ⟨a9, c9, rfl⟩ := H.rowVal 0 rfl
    obtain ⟨hk1, hk2, hk3, hk4⟩ := hok x (List.mem_of_getElem? hx)
    (repeat (first | refine qq ?_ | (refine qds H ?_; intro H) | (refine qrb H ?_; intro _ w H) | (refine qrs H ?_; intro w H) | (refine qdr H ?_; intro H)))
    obtain ⟨M', hM', _, hof⟩ := H.off hM
    refine WD_any 8 [[], [], [1], [1, 2], [], [4], [1, 2, 3, 4, 5], [1, 2, 3, 4, 5, 6]] [(3, PN LBr M' ((x.1))), (6, PN LF M' ((x))), (7, P1 (LSl LF) M' ([x]))] (by kernel_rfl) ?_ ?_ _ (by exact rfl) ?_
    · exact ⟨PN_stab, PN_stab, P1_stab, trivial⟩
    · refine ⟨?_, ?_, ?_, ?_, ?_, ?_, ?_, ?_, trivial⟩
      iterate 3 (· exact qob)
      · intro w hm
        have H := H.call hm
        refine qwr ?_
        refine qwr ?_
        refine qol ?_
        exact S_call1 _ (by exact rfl) (by exact rfl) (copyBranch_c (hM' _ hm.size) (H.dat (d := LBr.dat M0 x.1 [.int .i64 (x.1.1.next : Nat), .slice a1 x.1.1.bind.length c1, .slice a2 x.1.1.dis.length c2, .slice a3 0 c3, .slice a4 0 c4, .slice a5 x.1.2.length c5]) (by simp)) hk1 hk2 hk3 hk4) fun v w' h => h
      iterate 2 (· exact qob)
      · intro w hm
        have H := H.call hm
        refine qwr ?_
        refine qwr ?_
        refine qwl ?_; rintro _ ⟨us3, rfl, h3⟩
        refine qwr ?_
        refine qwr ?_
        refine qol ?_
        obtain ⟨a21, c21, a22, c22, a23, c23, a24, c24, a25, c25, rfl, _⟩ := LBr_form h3
        refine S_read (X_build (by exact rfl) [(0, [.int .i64 (x.1.1.next : Nat), .slice a21 x.1.1.bind.length c21, .slice a22 x.1.1.dis.length c22, .slice a23 0 c23, .slice a24 0 c24, .slice a25 x.1.2.length c25]), (1, [.int .i64 (x.2 : Nat)])] (by exact rfl) (by exact rfl)) ?_
        exact ⟨⟨_, rfl, ⟨_, [.int .i64 (x.2 : Nat)], rfl, h3, rfl⟩⟩, Mod.refl _ _⟩
      · intro w hm
        have H := H.call hm
        refine qwr ?_
        refine qwr ?_
        refine qwl ?_; rintro _ ⟨us3, rfl, h3⟩
        refine qwr ?_
        refine qwr ?_
        refine qwl ?_; rintro _ ⟨us6, rfl, h6⟩
        refine qol ?_
        obtain ⟨a21, c21, a22, c22, a23, c23, a24, c24, a25, c25, rfl, _⟩ := LF_form h6
        have H' := (Holds.start w []).arg (L := LF) h6
        refine S_bslice1N H' _ (by exact rfl) (by exact rfl) (by exact rfl) (by exact rfl) (by exact rfl) ?_
        intro b3 w' H'
        exact ⟨rdSl_one (Nat.le_refl _) (H'.own (hM' _ hm.size) 0 rfl) (H'.out 0 rfl) (H'.bcells 0 7 rfl rfl), H'.mod⟩
    intro w hm
    have H := H.call hm
    iterate 3 refine qwr ?_
    refine qwl ?_; rintro _ ⟨us3, rfl, h3⟩
    refine qwr ?_
    refine qwr ?_
    refine qwl ?_; rintro _ ⟨us6, rfl, h6⟩
    refine qwl ?_; intro v7 h7
    refine WR_nil ?_
    obtain ⟨b17, o17, c17, vs17, rfl, hr17, hc17⟩ := rdSl_at h7
    have H := H.add (hof hr17)
    refine WD_s (by kernel_rfl) rfl rfl (S_append H 1 _ _ (by exact rfl) (by exact rfl) (by exact rfl) hc17 (LF.len _ _ _ _ hr17) (LF.one _ _ _ _ hr17) (by decide) (by exact rfl) ?_ ?_)
    · have := (Alls.get (H.dat (d := dall LF M (l.take k) vss) (by simp))).1
      simp only [List.length_take] at this; omega
    intro v'' w H
    refine WD_rd (by kernel_rfl) rfl rfl (X_assign _) (WD_end (by decide) ?_)
    (repeat (first | refine qq ?_ | (refine qds H ?_; intro H) | (refine qrb H ?_; intro _ w H) | (refine qrs H ?_; intro w H) | (refine qdr H ?_; intro H)))
    refine ⟨l.length - (k + 1), by omega, k + 1, _, v'', vss ++ [vs17], rfl, by omega, sl_back ⟨rfl, rfl, rfl, rfl, trivial⟩, ?_⟩
    rw [take_snoc hx]
    exact (H.snoc (L := LF) (M := M) (l := l.take k) (vss := vss) (x := x) (by simp) (H.dat (d := LF.dat M x vs17) (by simp))).sub (.cons _ (.refl _)) (by simp)
  · obtain rfl : k = l.length := by omega
    (repeat (first | refine qq ?_ | (refine qds H ?_; intro H) | (refine qrb H ?_; intro _ w H) | (refine qrs H ?_; intro w H) | (refine qdr H ?_; intro H)))
    rw [List.take_length] at H
    have H := Holds.freeze (A1 := []) (A2 := []) (M := M) (L := LF) (l := l) H hM (H.dat (by repeat (first | exact List.Mem.head _ | apply List.Mem.tail))) (by simp)
    exact ⟨H.out 0 rfl, H.mod⟩
end Go.Proofs.YtljpfnjpifhdlaaGreatDoor
namespace Go.Proofs.YtljpfnjpifhdlaaGreatDoor
open Go
mutual
def G.pos : G → Bool | .mk k _ _ gs => Nat.blt 0 k && gpos gs
def gpos : List G → Bool | [] => true | g :: gs => g.pos && gpos gs
end
/-- the goal of zeros stands in the block b -/
def ZeroG (w : World) (b : Nat) : Prop := ∃ T fz, w.heap[b]? = some (.cells goZ.toArray T fz)
theorem zeroG_cells {w : World} {b o : Nat} {k : Nat} {n : ByteArray} {v1 v2 : Value} (h : ZeroG w b) (hk : 0 < k) (hc : Cells w b o [.int .i64 (k : Nat), .string n, v1, v2]) : False := by
  obtain ⟨T, fz, hb⟩ := h
  have h1 := hc 0 _ rfl
  rw [Nat.add_zero, block_cell hb] at h1
  match o, h1 with
  | 0, h1 =>
    simp only [List.getElem?_cons_zero, Option.some.injEq, Value.int.injEq, true_and] at h1
    omega
  | 1, h1 => cases h1
  | 2, h1 => cases h1
  | 3, h1 => cases h1
  | _ + 4, h1 => cases h1
mutual
theorem away_G {M : Nat → Prop} {w : World} {b : Nat} (hz : ZeroG w b) (hn : NoII w b) : ∀ (g : G) (vs : List Value), g.pos = true → rdG M w g vs → rdG (fun c => M c ∨ c = b) w g vs
  | .mk k n ts gs, vs, hp, hr => by
    simp only [G.pos, Bool.and_eq_true] at hp
    simp only [rdG] at hr ⊢
    obtain ⟨v1, a, c, h1, h2, h3, h4⟩ := hr
    refine ⟨v1, a, c, h1, away_Ts hn h2, h3, ?_⟩
    rcases h4 with h4 | ⟨b', o, ha, hM, hb, hg⟩
    · exact .inl h4
    · cases gs with
      | nil => exact .inl rfl
      | cons g gs =>
        refine .inr ⟨b', o, ha, ?_, hb, away_Gs hz hn (g :: gs) o hp.2 hg⟩
        rintro (h | rfl)
        · exact hM h
        · simp only [rdGs] at hg
          obtain ⟨⟨us, h5, h6⟩, _⟩ := hg
          obtain ⟨a1, c1, a2, c2, rfl, _⟩ := rdG_form h5
          have hk : 0 < g.kind := by
            have := hp.2
            obtain ⟨k', n', ts', gs'⟩ := g
            simp only [gpos, G.pos, Bool.and_eq_true] at this
            exact Nat.le_of_ble_eq_true this.1.1
          exact zeroG_cells hz hk h6
theorem away_Gs {M : Nat → Prop} {w : World} {b : Nat} (hz : ZeroG w b) (hn : NoII w b) {b' : Nat} : ∀ (gs : List G) (o : Nat), gpos gs = true → rdGs M w b' o gs → rdGs (fun c => M c ∨ c = b) w b' o gs
  | [], _, _, _ => by simp only [rdGs]
  | g :: gs, o, hp, hr => by
    simp only [gpos, Bool.and_eq_true] at hp
    simp only [rdGs] at hr ⊢
    obtain ⟨⟨vs, h1, h2⟩, h3⟩ := hr
    exact ⟨⟨vs, away_G hz hn g vs hp.1 h1, h2⟩, away_Gs hz hn gs (o + 4) hp.2 h3⟩
end
theorem zeroG_stO {w : World} {b T : Nat} {fz : Nat × Nat} (h : w.heap[b]? = some (.cells goZ.toArray T fz)) : ZeroG w b := ⟨T, fz, h⟩
end Go.Proofs.YtljpfnjpifhdlaaGreatDoor
namespace Go.Proofs.YtljpfnjpifhdlaaGreatDoor
open Go
section
variable {P : Program} {n : Nat} {g : FuncId} {fn : Func} {c : Code} {p : Value → World → Prop} {w : World}
theorem enterCCT {t t' u : Tmp} {T T' : TypeId} {sz sz' : Nat} {z z' : Value} [F : TyF P T true sz z] [F' : TyF P T' true sz' z'] (hf : P.funcs[g]? = some fn) (hb : fn.body = some c) (hn : fn.ntmps = n) (hres : fn.results = #[.cell t T, .cell t' T', .tmp u]) {ags : List Value} (ha : ags.length ≤ n)
    (h : W P n c (retQ fun f w => ∃ b o xs b' o' xs', f t = .pointer (some ⟨b, o, none⟩) ∧ Cells w b o xs ∧ xs.length = sz ∧ f t' = .pointer (some ⟨b', o', none⟩) ∧ Cells w b' o' xs' ∧ xs'.length = sz' ∧ p (.tuple #[.agg xs.toArray, .agg xs'.toArray, f u]) w) (argF ags) w) : Calls P g ags.toArray w (Ret p) :=
  enter_any hf hb hn ha (fun f w' tmps ht ⟨b, o, xs, b', o', xs', h1, h2, h3, h1', h2', h3', h4⟩ => ⟨.tuple #[.agg xs.toArray, .agg xs'.toArray, f u], by
    have h5 := runC_run _ _ (loadVar_CN (P := P) (t := T) h2 h3)
    have h6 := runC_run _ _ (loadVar_CN (P := P) (t := T') h2' h3')
    rw [← ht u]
    simp [results, hres, ht, h1, h1', asAddr, h5, h6], h4⟩) h
end
mutual
theorem G.pos_of : ∀ (g : G), g.fit = true → g.pos = true
  | .mk k n ts gs, h => by
    simp only [G.fit, Bool.and_eq_true, Bool.or_eq_true, shape2, shape7, shape9] at h
    simp only [G.pos, Bool.and_eq_true]
    refine ⟨?_, gpos_of gs h.2⟩
    have hk : 0 < k := by
      rcases h.1.2 with (⟨⟨⟨h, _⟩, _⟩, _⟩ | ⟨⟨⟨h, _⟩, _⟩, _⟩) | ⟨⟨⟨h, _⟩, _⟩, _⟩
      · rcases h with h | h <;> (have := beq_of h; omega)
      · rcases h with h | h <;> (have := beq_of h; omega)
      · have := beq_of h; omega
    exact Nat.ble_eq_true_of_le hk
theorem gpos_of : ∀ (gs : List G), gfits gs = true → gpos gs = true
  | [], _ => rfl
  | g :: gs, h => by
    simp only [gfits, Bool.and_eq_true] at h
    simp only [gpos, Bool.and_eq_true]
    exact ⟨G.pos_of g h.1, gpos_of gs h.2⟩
end
end Go.Proofs.YtljpfnjpifhdlaaGreatDoor
namespace Go.Proofs.YtljpfnjpifhdlaaGreatDoor
open Go
/-- a branch of the search: its branch, its goals with their depths, its height -/
structure Dp where
  br : Br
  goals : List (G × Nat)
  height : Nat
/-- the branches of an or, from number k on -/
def orsV (b : Dp) (d : Nat) (others : List (G × Nat)) : Nat → List G → List Dp
  | _, [] => []
  | k, g :: gs => ⟨(b.br.1, b.br.2 ++ [k]), (g, d) :: others, b.height⟩ :: orsV b d others (k + 1) gs
/-- expandIn -/
def expandInV (P : List Rl) (st : Sta) (g : G) : Option (Sta × G) := match relAt P g.name 0 with
  | none => none
  | some i => match P[i]? with
    | none => none
    | some r => match expandV r g.terms st.next with
      | none => none
      | some (y, n) => bif y.pos then some (⟨n, st.bind, st.dis⟩, y) else none
/-- one step; the first branch is the top of the stack -/
def stepV (P : List Rl) (depth : Nat) (b : Dp) (rest : List Dp) : Option (List Dp × List Fo) := match b.goals with
  | [] => some (rest, [(b.br, b.height)])
  | (g, d) :: others =>
    bif Nat.beq g.kind 7 then (bif Nat.ble g.kids.length 1000 then some (⟨b.br, g.kids.map (·, d) ++ others, b.height⟩ :: rest, []) else none)
    else bif Nat.beq g.kind 8 then (bif Nat.ble g.kids.length 1000 then some (orsV b d others 0 g.kids ++ rest, []) else none)
    else bif Nat.beq g.kind 9 then (bif Nat.ble depth d then some (rest, []) else match expandInV P b.br.1 g with
      | none => none
      | some (st, y) => some (⟨(st, b.br.2), (y, d + 1) :: others, max b.height (d + 1)⟩ :: rest, []))
    else match requireV b.br.1 g with
      | none => none
      | some none => some (rest, [])
      | some (some st) => some (⟨(st, b.br.2), others, b.height⟩ :: rest, [])
def dpOk (b : Dp) : Bool := Nat.ble b.br.1.dis.length 1000 && Nat.ble b.br.2.length 10000 && Nat.ble b.goals.length 10000 && Nat.ble b.height 10000
/-- the search: the answers from here on, and whether the stack is empty at the end -/
def searchV (P : List Rl) (depth : Nat) : Nat → List Dp → Option (List Fo × Bool)
  | _, [] => some ([], true)
  | 0, _ :: _ => some ([], false)
  | f + 1, b :: rest => bif dpOk b && Nat.ble rest.length 10000 then (match stepV P depth b rest with
    | none => none
    | some (l, o) => match searchV P depth f l with
      | none => none
      | some (r, d) => some (o ++ r, d)) else none
def depthV (P : List Rl) (g : G) (n depth steps : Nat) : Option (List Fo × Bool) := searchV P depth steps [⟨(⟨n, [], []⟩, []), [(g, 0)], 0⟩]
theorem requireV_ok {st st' : Sta} {g : G} (h : requireV st g = some (some st')) (hst : StaOk st) : StaOk st' := by
  unfold requireV at h
  split at h
  · rename_i a b ht
    cases h2 : Nat.beq g.kind 2 with
    | true =>
      rw [h2] at h
      simp only [cond_true] at h
      cases hs : solutionV st.bind [(a, b)] with
      | none => rw [hs] at h; cases h
      | some o =>
        rw [hs] at h
        cases o with
        | none => cases h
        | some x =>
          simp only [requireE] at h
          cases hx : substOk x with
          | false => rw [hx] at h; cases h
          | true => rw [hx] at h; exact settleV_ok h ⟨subOk_of hx, hst.dis, hst.len⟩
    | false =>
      rw [h2] at h
      simp only [cond_false] at h
      cases h3 : Nat.beq g.kind 3 with
      | false => rw [h3] at h; cases h
      | true =>
        rw [h3] at h
        simp only [cond_true] at h
        cases h4 : Nat.ble st.dis.length 1000 with
        | false => rw [h4] at h; cases h
        | true =>
          have h4 := Nat.le_of_ble_eq_true h4
          rw [Nat.ble_eq_true_of_le h4] at h
          simp only [cond_true] at h
          cases hs : solutionV st.bind [(a, b)] with
          | none => rw [hs] at h; cases h
          | some o =>
            rw [hs] at h
            cases o with
            | none => exact settleV_ok h hst
            | some x =>
              simp only [requireD] at h
              cases hx : substOk x with
              | false => rw [hx] at h; cases h
              | true =>
                rw [hx] at h
                simp only [cond_true] at h
                cases he : eqSb st.bind x with
                | true => rw [he] at h; cases h
                | false =>
                  rw [he] at h
                  refine settleV_ok h ⟨hst.bind, fun d hd => ?_, by simp; omega⟩
                  rcases List.mem_append.1 hd with hd | hd
                  · exact hst.dis d hd
                  · rw [List.mem_singleton.1 hd]; exact (subOk_of hx).sub newB_sub
  · cases h
theorem orsV_st {b : Dp} {d : Nat} {others : List (G × Nat)} : ∀ {gs : List G} {k : Nat}, ∀ x ∈ orsV b d others k gs, x.br.1 = b.br.1
  | [], _, x, hx => by cases hx
  | g :: gs, k, x, hx => by
    rcases List.mem_cons.1 hx with rfl | hx
    · rfl
    · exact orsV_st x hx
theorem stepV_ok {P : List Rl} {depth : Nat} {b : Dp} {rest l : List Dp} {o : List Fo} (h : stepV P depth b rest = some (l, o)) (hb : StaOk b.br.1) (hr : ∀ x ∈ rest, StaOk x.br.1) : (∀ x ∈ l, StaOk x.br.1) ∧ (∀ x ∈ o, x.1 = b.br) ∧ o.length ≤ 1 := by
  have one : ∀ {x : Dp}, StaOk x.br.1 → ∀ y ∈ x :: rest, StaOk y.br.1 := fun hx y hy => by
    rcases List.mem_cons.1 hy with rfl | hy
    · exact hx
    · exact hr y hy
  unfold stepV at h
  split at h
  · cases h; exact ⟨hr, fun x hx => by rw [List.mem_singleton.1 hx], Nat.le_refl _⟩
  · rename_i g d others hg
    cases h7 : Nat.beq g.kind 7 with
    | true =>
      rw [h7] at h
      simp only [cond_true] at h
      cases hk : Nat.ble g.kids.length 1000 with
      | false => rw [hk] at h; cases h
      | true => rw [hk] at h; cases h; exact ⟨one hb, by simp, by simp⟩
    | false =>
      rw [h7] at h
      simp only [cond_false] at h
      cases h8 : Nat.beq g.kind 8 with
      | true =>
        rw [h8] at h
        simp only [cond_true] at h
        cases hk : Nat.ble g.kids.length 1000 with
        | false => rw [hk] at h; cases h
        | true =>
          rw [hk] at h; cases h
          refine ⟨fun x hx => ?_, by simp, by simp⟩
          rcases List.mem_append.1 hx with hx | hx
          · rw [orsV_st x hx]; exact hb
          · exact hr x hx
      | false =>
        rw [h8] at h
        simp only [cond_false] at h
        cases h9 : Nat.beq g.kind 9 with
        | true =>
          rw [h9] at h
          simp only [cond_true] at h
          cases hd : Nat.ble depth d with
          | true => rw [hd] at h; cases h; exact ⟨hr, by simp, by simp⟩
          | false =>
            rw [hd] at h
            simp only [cond_false] at h
            cases he : expandInV P b.br.1 g with
            | none => rw [he] at h; cases h
            | some sy =>
              obtain ⟨st, y⟩ := sy
              rw [he] at h; cases h
              refine ⟨one ?_, by simp, by simp⟩
              unfold expandInV at he
              split at he
              · cases he
              · split at he
                · cases he
                · split at he
                  · cases he
                  · rename_i y' n' _
                    cases hp : y'.pos with
                    | false => rw [hp] at he; cases he
                    | true => rw [hp] at he; cases he; exact ⟨hb.bind, hb.dis, hb.len⟩
        | false =>
          rw [h9] at h
          simp only [cond_false] at h
          cases hq : requireV b.br.1 g with
          | none => rw [hq] at h; cases h
          | some o =>
            rw [hq] at h
            cases o with
            | none => cases h; exact ⟨hr, by simp, by simp⟩
            | some st => cases h; exact ⟨one (requireV_ok hq hb), by simp, by simp⟩
theorem searchV_ok {P : List Rl} {depth : Nat} : ∀ {f : Nat} {stack : List Dp} {l : List Fo} {d : Bool}, searchV P depth f stack = some (l, d) → (∀ x ∈ stack, StaOk x.br.1) → l.length ≤ f ∧ ∀ x ∈ l, BrOk x.1
  | 0, [], _, _, h, _ => by cases h; exact ⟨Nat.le_refl _, by simp⟩
  | f + 1, [], _, _, h, _ => by cases h; exact ⟨Nat.zero_le _, by simp⟩
  | 0, _ :: _, _, _, h, _ => by cases h; exact ⟨Nat.le_refl _, by simp⟩
  | f + 1, b :: rest, l, d, h, hst => by
    simp only [searchV] at h
    cases hok : dpOk b && Nat.ble rest.length 10000 with
    | false => rw [hok] at h; cases h
    | true =>
      rw [hok] at h
      simp only [cond_true] at h
      cases hs : stepV P depth b rest with
      | none => rw [hs] at h; cases h
      | some lo =>
        obtain ⟨l1, o⟩ := lo
        rw [hs] at h
        simp only [] at h
        have hb := hst b (by simp)
        obtain ⟨k1, k2, k3⟩ := stepV_ok hs hb fun x hx => hst x (by simp [hx])
        cases hr : searchV P depth f l1 with
        | none => rw [hr] at h; cases h
        | some rd =>
          obtain ⟨r, d'⟩ := rd
          rw [hr] at h
          cases h
          obtain ⟨ih1, ih2⟩ := searchV_ok hr k1
          refine ⟨by rw [List.length_append]; omega, fun x hx => ?_⟩
          rcases List.mem_append.1 hx with hx | hx
          · simp only [Bool.and_eq_true, dpOk] at hok
            rw [k2 x hx]
            have := Nat.le_of_ble_eq_true hok.1.1.1.1
            have := Nat.le_of_ble_eq_true hok.1.1.1.2
            have := hb.bind.len
            exact ⟨by omega, by omega, fun d hd => by have := (hb.dis d hd).len; omega, by omega⟩
          · exact ih2 x hx
end Go.Proofs.YtljpfnjpifhdlaaGreatDoor
namespace Go.Proofs.YtljpfnjpifhdlaaGreatDoor
open Go
section
variable {w0 w w' : World} {S : List Nat} {A : List Atom} {D : List Dat}
/-- one atom's blocks are written: the rest stands -/
theorem Holds.lose (H : Holds w0 S A D w) (i : Nat) {a : Atom} (hi : A[i]? = some a) (hm : Mod a.own w w') : Holds w0 S (A.eraseIdx i) D w' := by
  have H' := H.turnAt i (a' := ⟨[], fun _ => True, fun _ _ _ h => h⟩) hi hm trivial List.nodup_nil (by simp)
  refine H'.sub ?_ fun _ h => h
  have := List.eraseIdx_sublist (A.set i ⟨[], fun _ => True, fun _ _ _ h => h⟩) i
  rwa [List.eraseIdx_set_eq] at this
/-- a box is written: what it holds now -/
theorem Holds.reset (H : Holds w0 S A D w) (i : Nat) {b : Nat} {xs ys : List Value} {T U : TypeId} (hi : A[i]? = some (box b xs T)) (hm : Mod [b] w w') (hb : w'.heap[b]? = some (.cells ys.toArray U (0, 0))) : Holds w0 S (A.set i (box b ys U)) D w' :=
  H.turnAt i (a := box b xs T) (a' := box b ys U) hi hm hb (by simp [box]) fun c hc => by
    have hc : c = b := by simpa [box] using hc
    subst hc
    exact ⟨(Array.getElem?_eq_some_iff.1 hb).1, .inl (by simp [box])⟩
theorem Holds.ofBox {w : World} {b : Nat} {xs : List Value} {T : TypeId} (h : w.heap[b]? = some (.cells xs.toArray T (0, 0))) : Holds w [b] [box b xs T] [] w :=
  ⟨Mod.refl _ _, by simp [owns, box], fun c hc => by
    have hc : c = b := by simpa [owns, box] using hc
    subst hc; exact (Array.getElem?_eq_some_iff.1 h).1, fun c hc => .inr (by simpa [owns, box] using hc), fun x hx => by rw [List.mem_singleton.1 hx]; exact h, by simp⟩
end
/-- a row made since w1 -/
def RowAt (w1 : World) (e : TypeId) (n : Nat) (xs : List Value) (v : Value) (w : World) : Prop :=
  ∃ b cap cur, v = .slice (some ⟨b, 0, none⟩) n cap ∧ w1.heap.size ≤ b ∧ w.heap[b]? = some (.cells cur e (0, 0)) ∧ n ≤ cap ∧ cap ≤ maxLen ∧ cur.size = cap ∧ xs.length = n ∧ ∀ j, j < n → cur[j]? = xs[j]?
theorem RowAt.keep {n : Nat} {w1 w w' : World} {e : TypeId} {xs : List Value} {v : Value} (h : RowAt w1 e n xs v w) (hm : Mod [] w w') : RowAt w1 e n xs v w' := by
  obtain ⟨b, cap, cur, h1, h2, h3, h4⟩ := h
  exact ⟨b, cap, cur, h1, h2, by rw [hm.block b (Array.getElem?_eq_some_iff.1 h3).1 (by simp)]; exact h3, h4⟩
theorem rowAt_of {w1 w : World} {e : TypeId} {v : Value} {uss : List (List Value)} {n : Nat} {xs : List Value} (hn : uss.length = n) (hx : uss.flatten = xs) (h : (orow e 1 v uss).ok w) (h0 : uss ≠ []) (hb : ∀ b ∈ (orow e 1 v uss).own, w1.heap.size ≤ b) : RowAt w1 e n xs v w := by
  subst hn hx
  obtain ⟨_, h1, h2⟩ := h
  rcases h2 with ⟨_, h2⟩ | ⟨g, cap, cur, rfl, _, h4, h5, h6, h7, h8⟩
  · exact absurd (List.eq_nil_of_length_eq_zero h2) h0
  · refine ⟨g, cap, cur, rfl, hb g (by simp [orow, Value.ownBlock]), h4, h5, h6, by omega, by omega, fun j hj => ?_⟩
    rw [← h8, List.getElem?_take, if_pos (by omega)]; simp
section
variable {P : Program} {r : Operand → Value} {d : Option Tmp} {ty : TypeId} {pos : String} {aft : Array Edge} {g : Option (Nat × Bool)}
/-- one element more, in place or not -/
theorem S_appendRow {w1 w : World} {t e : TypeId} {bytes : Nat} {z : Value} [G : SlF P t e] [F : TyF P e false 1 z] [B : ByF P e bytes] (s x : Operand) {n : Nat} {xs : List Value} {u v : Value} {b c : Nat} (hw : Mod [] w1 w) (hzs : z.cells.size = 1)
    (hv : RowAt w1 e n xs v w) (hs : r s = v) (hx : r x = .slice (some ⟨b, 0, none⟩) 1 c) (hc : w.cell? ⟨b, 0, none⟩ = some u) (h1 : u.oneCell' = true) (hlen : (n + 1) * (bytes + 1) ≤ 140737488355328) :
    OS P ⟨d, .call { callee := .builtin .append, args := #[s, x], argTypes := #[t, t] }, ty, pos, aft, g⟩ r w (fun v w' => RowAt w1 e (n + 1) (xs ++ [u]) v w' ∧ Mod [] w1 w') := by
  obtain ⟨inf, hinf, hby⟩ := Option.map_eq_some_iff.1 B.run
  obtain ⟨hz, hsize⟩ := TyF.info (P := P) w hinf
  subst hby
  have hlen' : n + 1 ≤ 140737488355328 := Nat.le_trans (Nat.le_mul_of_pos_right _ (by omega)) hlen
  have hby' : (n + 1) * inf.bytes ≤ 140737488355328 := Nat.le_trans (Nat.mul_le_mul_left _ (by omega)) hlen
  obtain ⟨b1, cap, cur, rfl, h2, h3, h4, h5, h6, h7, h8⟩ := hv
  have hblt := (Array.getElem?_eq_some_iff.1 h3).1
  have hcc : ∀ j v, ([u] : List Value)[j]? = some v → w.cell? ((⟨b, 0, none⟩ : Addr).add j) = some v := by
    intro j v hj
    match j, hj with
    | 0, hj => simp at hj; subst hj; exact hc
  have hex : ∀ {v : Value} {w' : World}, (Builtin.append_ #[t, t] ty #[.slice (some ⟨b1, 0, none⟩) n cap, .slice (some ⟨b, 0, none⟩) 1 c]).run P w = .ok v w' → (execOp r ⟨d, .call { callee := .builtin .append, args := #[s, x], argTypes := #[t, t] }, ty, pos, aft, g⟩).run P w = .ok (.value v) w' := by
    intro v w' hr
    simp only [execOp, resolve, pure_bind, invoke, builtin, List.map_toArray, List.map_cons, List.map_nil, hs, hx, Sem.run_bind, hr, Result.andThen_ok]; rfl
  by_cases hroom : n + 1 ≤ cap
  · have hr := run_append_room (P := P) (w := w) t ty e inf G.und hinf b1 n cap cur h3 ⟨b, 0, none⟩ 1 c [u] (by simp [hsize]) hcc (by simpa using h1) hroom (by simp [hsize]; omega)
    have hset := setRow_heap w b1 cur ((cur.toList.take (n * inf.size) ++ [u] ++ cur.toList.drop (n * inf.size + [u].length)).toArray) e (0, 0) h3
    have hlen2 : ∀ j, (cur.toList.take (n * inf.size) ++ [u] ++ cur.toList.drop (n * inf.size + [u].length)).toArray[j]? = if j = n then some u else cur[j]? := by
      intro j
      rw [hsize, Nat.mul_one]
      simp only [List.getElem?_toArray, List.append_assoc, List.length_singleton]
      rcases Nat.lt_trichotomy j n with hj | rfl | hj
      · rw [List.getElem?_append_left (by simp; omega), if_neg (by omega), List.getElem?_take, if_pos hj]; simp
      · rw [List.getElem?_append_right (by simp; omega), if_pos rfl]
        simp [show j - min j cur.size = 0 by omega]
      · rw [List.getElem?_append_right (by simp; omega), if_neg (by omega)]
        simp only [List.length_take, Array.length_toList, List.singleton_append]
        rw [show j - min n cur.size = (j - n - 1) + 1 by omega, List.getElem?_cons_succ, List.getElem?_drop]
        simp [show n + 1 + (j - n - 1) = j by omega]
    refine S_run (hex hr) ⟨⟨b1, cap, _, rfl, h2, hset, hroom, h5, ?_, by simp [h7], fun j hj => ?_⟩, ⟨hw.os, hw.tape, hw.output, by simpa using hw.size, fun k hk _ => (setRow_other _ _ _ _ (by omega)).trans (hw.block k hk (by simp))⟩⟩
    · simp [hsize]; omega
    · rw [hlen2]
      by_cases hjn : j = n
      · subst hjn
        rw [if_pos rfl, List.getElem?_append_right (by omega)]
        simp [show j - xs.length = 0 by omega]
      · rw [if_neg hjn, List.getElem?_append_left (by omega)]
        exact h8 j (by omega)
  · have holds : ∀ j v, xs[j]? = some v → w.cell? ((⟨b1, 0, none⟩ : Addr).add j) = some v := by
      intro j v hj
      have hjl := (List.getElem?_eq_some_iff.1 hj).1
      have e1 : ((⟨b1, 0, none⟩ : Addr).add j) = ⟨b1, j, none⟩ := by unfold Addr.add; split <;> simp_all
      rw [e1]
      simp only [World.cell?, h3]
      rw [← h8 j (by omega)] at hj
      simpa using hj
    have hr := run_append_grow (P := P) (w := w) t ty e inf z G.und hinf hz ⟨b1, 0, none⟩ n cap xs (by rw [hsize]; omega) holds ⟨b, 0, none⟩ 1 c [u] (by simp [hsize]) hcc (by omega) (by omega) (growslice_fits (by omega) hby')
    have hgc : n + 1 ≤ grownCap w (n + 1) cap e := grownCap_ge _ _ _ _
    obtain ⟨X, hX⟩ : ∃ X, X = xs.toArray ++ [u].toArray ++ Builtin.zeroCells z.cells (grownCap w (n + 1) cap e - (n + 1)) := ⟨_, rfl⟩
    rw [← hX] at hr
    have hm : Mod [] w (w.drew.alloc (.cells X e)) := (Mod.refl _ _).drew.alloc _
    have hset : (w.drew.alloc (.cells X e)).heap[w.heap.size]? = some (.cells X e (0, 0)) := by show (w.heap.push _)[w.heap.size]? = _; simp
    refine S_run (hex hr) ⟨⟨w.heap.size, _, X, rfl, hw.size, hset, hgc, grownCap_le_maxLen _ _ _ _ (by unfold maxLen; omega), ?_, by simp [h7], fun j hj => ?_⟩, hw.trans hm⟩
    · rw [hX]; simp [size_zeroCells, hzs, h7]; omega
    · rw [hX, Array.getElem?_append_left (by simp [h7]; omega)]
      simp
end
end Go.Proofs.YtljpfnjpifhdlaaGreatDoor
namespace Go.Proofs.YtljpfnjpifhdlaaGreatDoor
open Go
abbrev Posts := Nat → Option (List Value → Value → World → Prop)
section
variable {P : Program} {ops : Array Oper} (loud : Posts) (S : List Nat) (w1 : World)

def opvs (f : FF) (o : Oper) : List Value := o.op.operands.toList.map (ev f)
/-- what number i has left -/
def okg (P : Program) (loud : Posts) (S : List Nat) (w1 : World) (ops : Array Oper) (i : Nat) (o : Oper) (f : FF) (v : Value) (w : World) : Prop :=
  if Region.wanted o (yl ops f) = true then (match loud i with | some p => p (opvs f o) v w | none => ∀ w', Mod S w1 w' → runC P w' (execOp (ev f) o) = some (.value v)) else v = undef
/-- behind the operations l, whatever they have left -/
def WG (P : Program) (loud : Posts) (S : List Nat) (w1 : World) (ops : Array Oper) (K : FF → World → Prop) (w : World) : List Nat → FF → Prop
  | [], f => K f w
  | i :: rest, f => ∀ o v, ops[i]? = some o → okg P loud S w1 ops i o f v w → WG P loud S w1 ops K w rest (updo f o.dst v)
/-- what number i owes; Rs: how the world goes on -/
def OwesG (P : Program) (loud : Posts) (Rs : World → World → Prop) (S : List Nat) (w1 : World) (ops : Array Oper) (i : Nat) (f : FF) (w : World) : Prop :=
  ∀ o, ops[i]? = some o → Region.wanted o (yl ops f) = true → match loud i with
    | some p => OS P o (ev f) w fun v w' => p (opvs f o) v w' ∧ Rs w w'
    | none => ∃ v, ∀ w', Mod S w1 w' → runC P w' (execOp (ev f) o) = some (.value v)
theorem looks_opvs {o : Oper} {f g : FF} (h : ∀ t ∈ o.looksAt ops, f t = g t) : opvs f o = opvs g o :=
  List.map_congr_left fun x hx => looks_ev (ops := ops) h x (by simpa using hx)
theorem okg_congr {i : Nat} {o : Oper} {f g : FF} {v : Value} {w : World} (hs : notSelect o = true) (h : ∀ t ∈ o.looksAt ops, f t = g t) (hk : okg P loud S w1 ops i o f v w) : okg P loud S w1 ops i o g v w := by
  unfold okg at *
  rw [← looks_want h, ← looks_exec hs h, ← looks_opvs h]
  exact hk
theorem WG_append {K : FF → World → Prop} {w : World} : ∀ (l1 l2 : List Nat) (f : FF), WG P loud S w1 ops K w (l1 ++ l2) f → WG P loud S w1 ops (fun f w => WG P loud S w1 ops K w l2 f) w l1 f
  | [], _, _, h => h
  | _ :: r, l2, _, h => fun o v ho hv => WG_append r l2 _ (h o v ho hv)

def preG (ops : Array Oper) (i : Nat) : List Nat := (List.range i).filter fun j => (clo ops i).contains j
def gChk (ops : Array Oper) (n m : Nat) (pre : List (List Nat)) : Bool :=
  decide (m ≤ ops.size) && backChk ops && (List.range m).all (fun i => dlt (dsts ops i) n && (ops[i]?).all notSelect) &&
  (List.range m).all (fun i => (List.range m).all fun j => (i == j || dsts ops i == none || dsts ops i != dsts ops j) && (!((looks ops i).any fun t => dsts ops j == some t) || (dirs ops i).contains j)) &&
  (List.range ops.size).all (fun j => decide (j < m) || (List.range m).all fun i => (clo ops j).contains i) &&
  (List.range m).all (fun i => (preG ops i).all fun j => (dirs ops j).all fun x => (preG ops i).contains x) &&
  ((List.range m).map (preG ops) == pre)
structure FactsG (ops : Array Oper) (n m : Nat) : Prop where
  le : m ≤ ops.size
  back : ∀ i j, i < ops.size → j ∈ dirs ops i → j < i
  dst : ∀ (i : Nat) (o : Oper), i < m → ops[i]? = some o → dlt o.dst n = true ∧ notSelect o = true
  one : ∀ i j d, i < m → j < m → i ≠ j → dsts ops i = some d → dsts ops j ≠ some d
  dir : ∀ i j t, i < m → j < m → t ∈ looks ops i → dsts ops j = some t → j ∈ dirs ops i
  tail : ∀ i j, j < ops.size → m ≤ j → i < m → i ∈ clo ops j
  clos : ∀ i j x, i < m → j ∈ preG ops i → x ∈ dirs ops j → x ∈ preG ops i
theorem factsG_of {n m : Nat} {pre : List (List Nat)} (h : gChk ops n m pre = true) : FactsG ops n m ∧ (List.range m).map (preG ops) = pre := by
  simp only [gChk, Bool.and_eq_true, List.all_eq_true, List.mem_range, beq_iff_eq, decide_eq_true_eq] at h
  obtain ⟨⟨⟨⟨⟨⟨h0, h1⟩, h2⟩, h3⟩, h4⟩, h5⟩, h6⟩ := h
  refine ⟨⟨h0, back_of h1, fun i o hi ho => ?_, fun i j d hi hj hne hd hd' => ?_, fun i j t hi hj ht hd => ?_, fun i j hj hm him => ?_, fun i j x hi hj hx => ?_⟩, h6⟩
  · have := h2 i hi
    simpa only [dsts, ho, Option.bind_some, Option.all_some] using this
  · have := (h3 i hi j hj).1
    simp [hne, hd, hd'] at this
  · have := (h3 i hi j hj).2
    simp only [Bool.or_eq_true, Bool.not_eq_true', List.any_eq_false, beq_iff_eq, List.contains_iff_mem] at this
    rcases this with h' | h'
    · exact absurd hd (h' t ht)
    · exact h'
  · have := h4 j hj
    simp only [Bool.or_eq_true, decide_eq_true_eq, List.all_eq_true, List.mem_range, List.contains_iff_mem] at this
    exact this.resolve_left (by omega) i him
  · have := h5 i hi j hj x hx
    simpa using this

/-- how what is left goes from before c's write to behind it -/
structure Turns (ops : Array Oper) (c : Nat) (L1 L2 : Posts) (Rc : World → World → Prop) : Prop where
  cpost : ∃ p, L1 c = some p
  rrefl : ∀ w, Rc w w
  none_iff : ∀ i, L1 i = none ↔ L2 i = none
  stab1 : ∀ i p, L1 i = some p → ∀ l v w w', p l v w → Mod [] w w' → p l v w'
  stab2 : ∀ i p, L2 i = some p → ∀ l v w w', p l v w → Mod [] w w' → p l v w'
  weak : ∀ i p q, L1 i = some p → L2 i = some q → ∀ l v w, p l v w → q l v w
  turn : ∀ i p q, i ≠ c → ¬ c ∈ clo ops i → L1 i = some p → L2 i = some q → ∀ l v w w', p l v w → Rc w w' → q l v w'
section
variable {c : Nat} {L1 L2 : Posts} {Rc : World → World → Prop} {i : Nat} {o : Oper} {f : FF} {v : Value} {w w' : World} {S : List Nat} {w1 : World}
theorem keepL {L : Posts} (stab : ∀ i p, L i = some p → ∀ l v w w', p l v w → Mod [] w w' → p l v w') (h : okg P L S w1 ops i o f v w) (hm : Mod [] w w') : okg P L S w1 ops i o f v w' := by
  unfold okg at *
  split
  · rename_i hw
    rw [if_pos hw] at h
    cases hl : L i with
    | none => simp only [hl] at h ⊢; exact h
    | some p => simp only [hl] at h ⊢; exact stab i p hl _ _ _ _ h hm
  · rename_i hw
    rw [if_neg hw] at h; exact h
theorem Turns.keep1 (T : Turns ops c L1 L2 Rc) (h : okg P L1 S w1 ops i o f v w) (hm : Mod [] w w') : okg P L1 S w1 ops i o f v w' := keepL T.stab1 h hm
theorem Turns.keep2 (T : Turns ops c L1 L2 Rc) (h : okg P L2 S w1 ops i o f v w) (hm : Mod [] w w') : okg P L2 S w1 ops i o f v w' := keepL T.stab2 h hm
theorem Turns.weak_ok (T : Turns ops c L1 L2 Rc) (h : okg P L1 S w1 ops i o f v w) : okg P L2 S w1 ops i o f v w := by
  unfold okg at *
  split
  · rename_i hw
    rw [if_pos hw] at h
    cases hl : L1 i with
    | none => simp only [hl, (T.none_iff i).1 hl] at h ⊢; exact h
    | some p =>
      cases hl2 : L2 i with
      | none => rw [(T.none_iff i).2 hl2] at hl; cases hl
      | some q => simp only [hl] at h ⊢; exact T.weak i p q hl hl2 _ _ _ h
  · rename_i hw
    rw [if_neg hw] at h; exact h
theorem Turns.turn_ok (T : Turns ops c L1 L2 Rc) (hic : i ≠ c) (hn : ¬ c ∈ clo ops i) (h : okg P L1 S w1 ops i o f v w) (hm : Rc w w') : okg P L2 S w1 ops i o f v w' := by
  unfold okg at *
  split
  · rename_i hw
    rw [if_pos hw] at h
    cases hl : L1 i with
    | none => simp only [hl, (T.none_iff i).1 hl] at h ⊢; exact h
    | some p =>
      cases hl2 : L2 i with
      | none => rw [(T.none_iff i).2 hl2] at hl; cases hl
      | some q => simp only [hl] at h ⊢; exact T.turn i p q hic hn hl hl2 _ _ _ _ h hm
  · rename_i hw
    rw [if_neg hw] at h; exact h
end
/-- the posts in force -/
def inF (c : Nat) (L1 L2 : Posts) (listed : Array Bool) : Posts := bif listed.getD c false then L2 else L1
structure StG (P : Program) (c : Nat) (L1 L2 : Posts) (S : List Nat) (w1 : World) (ops : Array Oper) (m : Nat) (f0 : FF) (listed : Array Bool) (f : FF) (w : World) : Prop where
  rel : Mod S w1 w
  gen : listed.getD c false = false → Mod [] w1 w
  low : ∀ i, listed.getD i false = true → i < m
  down : ∀ i, listed.getD i false = true → ∀ j ∈ dirs ops i, listed.getD j false = true
  ok : ∀ (i : Nat) (o : Oper), listed.getD i false = true → ops[i]? = some o → ∃ v, (∀ d, o.dst = some d → f d = v) ∧ okg P (inF c L1 L2 listed) S w1 ops i o f v w
  old : ∀ t, (∀ i, listed.getD i false = true → dsts ops i ≠ some t) → f t = f0 t
  size : listed.size = ops.size
theorem StG.inst {c : Nat} {L1 L2 : Posts} {n m : Nat} {f0 : FF} {listed : Array Bool} {f : FF} {w : World} (F : FactsG ops n m) (s : StG P c L1 L2 S w1 ops m f0 listed f w) (hL : ∀ i o f v, listed.getD i false = true → okg P (inF c L1 L2 listed) S w1 ops i o f v w → okg P loud S w1 ops i o f v w) (q : Nat → Bool)
    (hp : ∀ j, q j = true → ∀ x ∈ dirs ops j, q x = true) : ∀ (y : Nat) (K : FF → World → Prop), (∀ j, j < y → q j = true → listed.getD j false = true) →
      WG P loud S w1 ops K w ((List.range y).filter q) f0 → K (chain ops f ((List.range y).filter q) f0) w := by
  intro y
  induction y with
  | zero => intro K _ h; exact h
  | succ y ih =>
    intro K hl h
    rw [List.range_succ, List.filter_append] at h ⊢
    have h1 := ih _ (fun j hj => hl j (by omega)) (WG_append loud S w1 _ _ _ h)
    cases hpx : q y with
    | false => simp only [List.filter_cons, hpx, List.filter_nil, List.append_nil, Bool.false_eq_true, if_false] at h1 ⊢; exact h1
    | true =>
      simp only [List.filter_cons, hpx, List.filter_nil, if_true] at h1 ⊢
      rw [chain_append]
      have hlx := hl y (by omega) hpx
      have hxm := s.low _ hlx
      have hxs : y < ops.size := Nat.lt_of_lt_of_le hxm F.le
      have ho : ops[y]? = some ops[y] := Array.getElem?_eq_getElem hxs
      obtain ⟨_, hns⟩ := F.dst y _ hxm ho
      obtain ⟨v, hv1, hv2⟩ := s.ok y _ hlx ho
      have hv2 := hL _ _ _ _ hlx hv2
      have h2 := h1 ops[y] v ho (okg_congr loud S w1 (f := f) hns (fun t ht => ?_) hv2)
      · cases hd : ops[y].dst with
        | none =>
          simp only [chain, dsts, ho, Option.bind_some, hd, updo] at h2 ⊢
          exact h2
        | some d =>
          simp only [chain, dsts, ho, Option.bind_some, hd] at h2 ⊢
          rw [hv1 d hd]
          exact h2
      · by_cases hex : ∃ z ∈ (List.range y).filter q, dsts ops z = some t
        · exact (chain_new t _ _ hex).symm
        · have hno : ∀ z ∈ (List.range y).filter q, dsts ops z ≠ some t := fun z hz he => hex ⟨z, hz, he⟩
          rw [chain_old t _ _ hno]
          refine s.old t fun i hi he => ?_
          have hdir := F.dir y i t hxm (s.low _ hi) (by simpa [looks, ho] using ht) he
          exact hno i (List.mem_filter.2 ⟨List.mem_range.2 (F.back y i hxs hdir), hp y hpx i hdir⟩) he

/-- a state goes on by one operation -/
theorem StG.next {c : Nat} {L1 L2 : Posts} {n m : Nat} {f0 : FF} {listed : Array Bool} {f : FF} {w w' : World} {i : Nat} {o : Oper} {v : Value} (F : FactsG ops n m)
    (s : StG P c L1 L2 S w1 ops m f0 listed f w) (hw : Mod S w1 w') (hg : (listed.setIfInBounds i true).getD c false = false → Mod [] w1 w') (hL : ∀ j o f v, j ≠ i → listed.getD j false = true → okg P (inF c L1 L2 listed) S w1 ops j o f v w → okg P (inF c L1 L2 (listed.setIfInBounds i true)) S w1 ops j o f v w') (him : i < m) (ho : ops[i]? = some o) (hun : listed.getD i false = false) (hpre : ∀ j ∈ dirs ops i, listed.getD j false = true)
    (hv : okg P (inF c L1 L2 (listed.setIfInBounds i true)) S w1 ops i o f v w') : StG P c L1 L2 S w1 ops m f0 (listed.setIfInBounds i true) (updo f o.dst v) w' := by
  have his := (Array.getElem?_eq_some_iff.1 ho).1
  have hil : i < listed.size := by rw [s.size]; exact his
  have hdi : dsts ops i = o.dst := by simp [dsts, ho]
  have ne : ∀ t, dsts ops i ≠ some t → updo f o.dst v t = f t := by
    intro t ht
    rw [hdi] at ht
    cases hd : o.dst with
    | none => rfl
    | some d => exact upd_ne fun e => ht (by rw [hd, e])
  have keep : ∀ j oj, j < m → (j = i ∨ listed.getD j false = true) → ops[j]? = some oj → ∀ t ∈ oj.looksAt ops, f t = updo f o.dst v t := by
    intro j oj hj hji hoj t ht
    refine (ne t fun e => ?_).symm
    have hdir := F.dir j i t hj him (by simpa [looks, hoj] using ht) e
    rcases hji with rfl | hji
    · exact absurd (F.back j j (Nat.lt_of_lt_of_le hj F.le) hdir) (by omega)
    · rw [s.down j hji i hdir] at hun; cases hun
  refine ⟨hw, hg, fun j hj => ?_, fun j hj x hx => ?_, fun j oj hj hoj => ?_, fun t ht => ?_, by simp [s.size]⟩
  · rcases (listed_set hil).1 hj with rfl | hj
    · exact him
    · exact s.low j hj
  · refine (listed_set hil).2 (.inr ?_)
    rcases (listed_set hil).1 hj with rfl | hj
    · exact hpre x hx
    · exact s.down j hj x hx
  · have hjj := (listed_set hil).1 hj
    have hjm : j < m := by rcases hjj with rfl | h; exact him; exact s.low j h
    have hns := (F.dst j oj hjm hoj).2
    by_cases hji : j = i
    · subst hji
      rw [ho] at hoj; cases hoj
      refine ⟨v, fun d hd => ?_, okg_congr _ S w1 hns (keep j o him (.inl rfl) ho) hv⟩
      rw [hd]; exact upd_same _ _ _
    · have hjl := hjj.resolve_left hji
      obtain ⟨u, h1, h2⟩ := s.ok j oj hjl hoj
      refine ⟨u, fun d hd => ?_, okg_congr _ S w1 hns (keep j oj hjm (.inr hjl) hoj) (hL j oj f u hji hjl h2)⟩
      rw [ne d fun e => F.one i j d him hjm (Ne.symm hji) e (by simp [dsts, hoj, hd])]
      exact h1 d hd
  · rw [ne t (ht i ((listed_set hil).2 (.inl rfl)))]
    exact s.old t fun j hj => ht j ((listed_set hil).2 (.inr hj))

theorem phase_g {c : Nat} {L1 L2 : Posts} {Rc : World → World → Prop} {n m : Nat} {f0 : FF} {Q : FPost} {K : FF → World → Prop} (F : FactsG ops n m) (hK : ∀ f w, K f w → Q .normal f w) (hc : c < m) (T : Turns ops c L1 L2 Rc)
    (oblc : ∀ w, Mod [] w1 w → WG P L1 S w1 ops (OwesG P L1 (fun w w' => Rc w w' ∧ Mod S w1 w') S w1 ops c) w (preG ops c) f0)
    (obl : ∀ i, i < m → i ≠ c → ∀ w, Mod S w1 w → WG P L2 S w1 ops (OwesG P L1 (Mod []) S w1 ops i) w (preG ops i) f0)
    (fin : ∀ w, Mod S w1 w → WG P L2 S w1 ops (WD P n ops K m) w (List.range m) f0) :
    ∀ (r : Nat) (listed : Array Bool) (f : FF) (a : Act) (w : World) (q : Nat), q + r = ops.size → ((List.range m).filter fun i => listed.getD i false).length = q → StG P c L1 L2 S w1 ops m f0 listed f w → Fr n f a →
      wpAny P .any ops (toQ n Q) r listed a w := by
  have weak : ∀ (listed : Array Bool) (w : World) i o f v, okg P (inF c L1 L2 listed) S w1 ops i o f v w → okg P L2 S w1 ops i o f v w := by
    intro listed w i o f v h
    unfold inF at h
    cases hl : listed.getD c false with
    | true => rw [hl] at h; exact h
    | false => rw [hl] at h; exact T.weak_ok h
  intro r
  have last : ∀ (r : Nat) (listed : Array Bool) (f : FF) (a : Act) (w : World), m + r = ops.size → StG P c L1 L2 S w1 ops m f0 listed f w → Fr n f a → (∀ i, i < m → listed.getD i false = true) →
      wpAny P .any ops (toQ n Q) r listed a w := by
    intro r listed f a w hr s ha hall
    have hfl : ∀ m, (List.range m).filter (fun _ => true) = List.range m := fun m => List.filter_eq_self.2 fun _ _ => rfl
    have h := s.inst L2 S w1 F (fun i o f v _ => weak listed w i o f v) (fun _ => true) (fun _ _ _ _ => rfl) m _ (fun j hj _ => hall j hj) (by rw [hfl]; exact fin w s.rel)
    rw [hfl] at h
    have hch : chain ops f (List.range m) f0 = f := by
      funext t
      by_cases hex : ∃ x ∈ List.range m, dsts ops x = some t
      · exact chain_new t _ _ hex
      · have hno : ∀ x ∈ List.range m, dsts ops x ≠ some t := fun x hx he => hex ⟨x, hx, he⟩
        rw [chain_old t _ _ hno]
        exact (s.old t fun i hi => hno i (List.mem_range.2 (s.low _ hi))).symm
    rw [hch] at h
    exact h Q hK r listed a hr s.size (fun i => ⟨s.low i, hall i⟩) ha
  induction r with
  | zero =>
    intro listed f a w q hq hcnt s ha
    have hlen : ((List.range m).filter fun i => listed.getD i false).length = (List.range m).length := by
      have := List.length_filter_le (fun i => listed.getD i false) (List.range m)
      have := F.le
      simp only [List.length_range] at *; omega
    have hall : ∀ i, i < m → listed.getD i false = true := fun i hi => List.length_filter_eq_length_iff.1 hlen i (List.mem_range.2 hi)
    exact last 0 listed f a w (by simp only [List.length_range] at hlen; omega) s ha hall
  | succ r ih =>
    intro listed f a w q hq hcnt s ha
    by_cases hall : ∀ i, i < m → listed.getD i false = true
    · have hcm : q = m := by
        rw [← hcnt, List.filter_eq_self.2 (fun i hi => hall i (List.mem_range.1 hi)), List.length_range]
      exact last (r + 1) listed f a w (by omega) s ha hall
    · obtain ⟨i0, hi0m, hi0⟩ : ∃ i, i < m ∧ ¬ listed.getD i false = true := by
        refine Classical.byContradiction fun hn => hall fun i hi => Classical.byContradiction fun h => hn ⟨i, hi, h⟩
      obtain ⟨i1, ⟨hi1m, hi1⟩, hmin⟩ := exists_least (p := fun i => i < m ∧ ¬ listed.getD i false = true) ⟨i0, hi0m, hi0⟩
      have hin : i1 ∈ Region.ready .any ops listed := by
        have hs1 : i1 < ops.size := Nat.lt_of_lt_of_le hi1m F.le
        refine mem_ready.2 ⟨(not_listed (by rw [s.size]; exact hs1)).2 hi1, ops[i1], Array.getElem?_eq_getElem hs1, fun e he hb => ?_⟩
        have hlt := F.back i1 e.on hs1 (by
          simp only [dirs, Array.getElem?_eq_getElem hs1, List.mem_map, List.mem_filter]
          exact ⟨e, ⟨Array.mem_toList_iff.2 he, hb⟩, rfl⟩)
        exact Classical.byContradiction fun hn => by have := hmin e.on ⟨by omega, hn⟩; omega
      refine ⟨fun h0 => (by rw [h0] at hin; cases hin), fun i hi => ?_⟩
      obtain ⟨h0, o, ho, hpre⟩ := mem_ready.1 hi
      have his : i < ops.size := (Array.getElem?_eq_some_iff.1 ho).1
      have hun' := (not_listed (by rw [s.size]; exact his)).1 h0
      have hun : listed.getD i false = false := by simpa using hun'
      have hdirs : ∀ x ∈ dirs ops i, listed.getD x false = true := fun x hx => by
        simp only [dirs, ho, List.mem_map, List.mem_filter] at hx
        obtain ⟨e, ⟨he, hb⟩, rfl⟩ := hx
        exact hpre e (Array.mem_toList_iff.1 he) hb
      have hclo : ∀ x ∈ clo ops i, listed.getD x false = true := bfs_all (p := fun x => listed.getD x false = true) (fun j hj x hx => s.down j hj x hx) _ _ hdirs
      have him : i < m := by
        rcases Nat.lt_or_ge i m with h | h
        · exact h
        · exact absurd (hclo i1 (F.tail i1 i his h hi1m)) hi1
      obtain ⟨hdl, hns⟩ := F.dst i o him ho
      have hsub : ∀ j, (decide (j < i) && (clo ops i).contains j) = true → ∀ x ∈ dirs ops j, (decide (x < i) && (clo ops i).contains x) = true := fun j hj x hx => by
          simp only [Bool.and_eq_true, decide_eq_true_eq] at hj ⊢
          have := F.clos i j x him (List.mem_filter.2 ⟨List.mem_range.2 hj.1, hj.2⟩) hx
          have := List.mem_filter.1 this
          exact ⟨List.mem_range.1 this.1, this.2⟩
      have hpg : preG ops i = (List.range i).filter fun j => decide (j < i) && (clo ops i).contains j := by
        rw [preG]; exact List.filter_congr fun j hj => by simp [List.mem_range.1 hj]
      have hlst : ∀ j, j < i → (decide (j < i) && (clo ops i).contains j) = true → listed.getD j false = true := fun j _ hj => hclo j (by simp only [Bool.and_eq_true, List.contains_iff_mem] at hj; exact hj.2)
      have agree : ∀ t ∈ o.looksAt ops, chain ops f ((List.range i).filter fun j => decide (j < i) && (clo ops i).contains j) f0 t = f t := by
        intro t ht
        by_cases hex : ∃ x ∈ (List.range i).filter (fun j => decide (j < i) && (clo ops i).contains j), dsts ops x = some t
        · exact chain_new t _ _ hex
        · have hno : ∀ x ∈ (List.range i).filter (fun j => decide (j < i) && (clo ops i).contains j), dsts ops x ≠ some t := fun x hx he => hex ⟨x, hx, he⟩
          rw [chain_old t _ _ hno]
          refine (s.old t fun x hx he => ?_).symm
          have hdir := F.dir i x t him (s.low _ hx) (by simpa [looks, ho] using ht) he
          have hxi := F.back i x his hdir
          have hxc : x ∈ clo ops i := by
            have sub : ∀ (y : Nat) (l : List Nat), x ∈ l → x ∈ bfs ops y l := by
              intro y
              induction y with
              | zero => exact fun l h => h
              | succ y ih => exact fun l h => ih _ (List.mem_eraseDups.2 (List.mem_append.2 (.inl h)))
            exact sub _ _ hdir
          exact hno x (List.mem_filter.2 ⟨List.mem_range.2 hxi, by simp [hxi, hxc]⟩) he
      have cnt' : ((List.range m).filter fun j => (listed.setIfInBounds i true).getD j false).length = q + 1 := by
        have hil : i < listed.size := by rw [s.size]; exact his
        rw [← hcnt, ← List.countP_eq_length_filter, ← List.countP_eq_length_filter]
        have key : ∀ x, i < x → (List.range x).countP (fun j => (listed.setIfInBounds i true).getD j false) = (List.range x).countP (fun j => listed.getD j false) + 1 := by
          intro x
          induction x with
          | zero => omega
          | succ x ihx =>
            intro hix
            rw [List.range_succ, List.countP_append, List.countP_append, List.countP_singleton, List.countP_singleton]
            by_cases hxi : x = i
            · subst hxi
              have e1 : (listed.setIfInBounds x true).getD x false = true := (listed_set hil).2 (.inl rfl)
              rw [e1, hun]
              have e2 : (List.range x).countP (fun j => (listed.setIfInBounds x true).getD j false) = (List.range x).countP (fun j => listed.getD j false) :=
                List.countP_congr fun j hj => by
                  have : j ≠ x := by have := List.mem_range.1 hj; omega
                  rw [getD_set_ne false (Ne.symm this)]
              rw [e2]; simp
            · rw [ihx (by omega), getD_set_ne false (Ne.symm hxi)]; omega
        exact key _ him
      unfold wpOp
      simp only [ho]
      rw [ha.yielded]
      have hwant : Region.wanted o (yl ops (chain ops f ((List.range i).filter fun j => decide (j < i) && (clo ops i).contains j) f0)) = Region.wanted o (yl ops f) := looks_want agree
      have step : ∀ v w', okg P L1 S w1 ops i o f v w' → Mod S w1 w' → ((i ≠ c ∧ Mod [] w w') ∨ (i = c ∧ Rc w w')) → StG P c L1 L2 S w1 ops m f0 (listed.setIfInBounds i true) (updo f o.dst v) w' := by
        intro v w' hv hmw hst
        have hil : i < listed.size := by rw [s.size]; exact his
        refine s.next S w1 F hmw (fun hcl => ?_) (fun j oj fj vj hji hjl h => ?_) him ho hun hdirs ?_
        · rcases hst with ⟨hic, hm⟩ | ⟨rfl, hm⟩
          · rw [getD_set_ne false hic] at hcl
            exact (s.gen hcl).trans hm
          · rw [(listed_set hil).2 (.inl rfl)] at hcl; cases hcl
        · unfold inF at h ⊢
          rcases hst with ⟨hic, hm⟩ | ⟨rfl, hm⟩
          · rw [getD_set_ne false hic]
            cases hlc : listed.getD c false with
            | true => rw [hlc] at h; exact T.keep2 h hm
            | false => rw [hlc] at h; exact T.keep1 h hm
          · rw [hun] at h
            rw [(listed_set hil).2 (.inl rfl)]
            refine T.turn_ok hji (fun hcj => ?_) h hm
            have : ∀ x ∈ clo ops j, listed.getD x false = true := bfs_all (p := fun x => listed.getD x false = true) (fun j hj x hx => s.down j hj x hx) _ _ (s.down j hjl)
            rw [this _ hcj] at hun; cases hun
        · unfold inF
          cases (listed.setIfInBounds i true).getD c false with
          | true => exact T.weak_ok hv
          | false => exact hv
      split
      · rename_i hw
        have hOS : OS P o (ev f) w fun v w' => okg P L1 S w1 ops i o f v w' ∧ Mod S w1 w' ∧ ((i ≠ c ∧ Mod [] w w') ∨ (i = c ∧ Rc w w')) := by
          by_cases hic : i = c
          · subst hic
            have h2 := s.inst L1 S w1 F (fun j oj fj vj _ h => by unfold inF at h; rw [hun] at h; exact h) (fun j => decide (j < i) && (clo ops i).contains j) hsub i (OwesG P L1 (fun w w' => Rc w w' ∧ Mod S w1 w') S w1 ops i) hlst (by rw [← hpg]; exact oblc w (s.gen hun)) o ho (hwant.trans hw)
            obtain ⟨p, hp⟩ := T.cpost
            simp only [hp] at h2
            refine (OS_congr hns agree h2).mono ?_
            rintro v w' ⟨h3, h4, h5⟩
            rw [looks_opvs agree] at h3
            exact ⟨by unfold okg; rw [if_pos hw]; simp only [hp]; exact h3, h5, .inr ⟨rfl, h4⟩⟩
          · have h2 := s.inst L2 S w1 F (fun i o f v _ => weak listed w i o f v) (fun j => decide (j < i) && (clo ops i).contains j) hsub i (OwesG P L1 (Mod []) S w1 ops i) hlst (by rw [← hpg]; exact obl i him hic w s.rel) o ho (hwant.trans hw)
            cases hl : L1 i with
            | some p =>
              simp only [hl] at h2
              refine (OS_congr hns agree h2).mono ?_
              rintro v w' ⟨hp, hm⟩
              rw [looks_opvs agree] at hp
              exact ⟨by unfold okg; rw [if_pos hw]; simp only [hl]; exact hp, s.rel.trans (hm.mono (by simp)), .inl ⟨hic, hm⟩⟩
            | none =>
              simp only [hl] at h2
              obtain ⟨v, hv⟩ := h2
              simp only [looks_exec hns agree] at hv
              exact S_read (hv w s.rel) ⟨by unfold okg; rw [if_pos hw]; simp only [hl]; exact hv, s.rel, .inl ⟨hic, Mod.refl _ _⟩⟩
        have hOW : OW P n o (fun f' w' => ∃ v, f' = updo f o.dst v ∧ okg P L1 S w1 ops i o f v w' ∧ Mod S w1 w' ∧ ((i ≠ c ∧ Mod [] w w') ∨ (i = c ∧ Rc w w'))) f w :=
          ⟨hdl, hOS.mono fun v w' h => ⟨v, rfl, h⟩⟩
        refine .inl (Oper.wp_mono ?_ (hOW.wp a ha _))
        rintro a' w' ⟨f', hf', v, rfl, hv, hmw, hst⟩
        exact ih _ _ a' w' (q + 1) (by omega) cnt' (step v w' hv hmw hst) hf'
      · rename_i hw
        refine ih _ (updo f o.dst undef) _ w (q + 1) (by omega) cnt' (step undef w (by unfold okg; rw [if_neg hw]) s.rel ?_) (ha.put hdl undef)
        by_cases hic : i = c
        · subst hic; exact .inr ⟨rfl, T.rrefl w⟩
        · exact .inl ⟨hic, Mod.refl _ _⟩

/-- OPERATIONS 0 .. m-1 IN WHATEVER ORDER. c: the one that writes what another has made; L1: what operations leave, before it; L2: behind it; Rc: what it does to the world. -/
theorem WD_g {c : Nat} {L1 L2 : Posts} {Rc : World → World → Prop} {n : Nat} {K : FF → World → Prop} {f0 : FF} (m : Nat) (pre : List (List Nat)) (chk : gChk ops n m pre = true) (hc : c < m) (T : Turns ops c L1 L2 Rc)
    (oblc : ∀ l, pre[c]? = some l → ∀ w, Mod [] w1 w → WG P L1 S w1 ops (OwesG P L1 (fun w w' => Rc w w' ∧ Mod S w1 w') S w1 ops c) w l f0)
    (obl : ∀ i l, i ≠ c → pre[i]? = some l → ∀ w, Mod S w1 w → WG P L2 S w1 ops (OwesG P L1 (Mod []) S w1 ops i) w l f0)
    (fin : ∀ w, Mod S w1 w → WG P L2 S w1 ops (WD P n ops K m) w (List.range m) f0) : WD P n ops K 0 f0 w1 := by
  obtain ⟨F, hpre⟩ := factsG_of chk
  intro Q hK r listed a hr hs hl ha
  have hno : ∀ i, listed.getD i false = false := fun i => by
    have := hl i
    cases h : listed.getD i false with
    | false => rfl
    | true => exact absurd (this.1 h) (by omega)
  have hp : ∀ i, i < m → pre[i]? = some (preG ops i) := fun i hi => by
    rw [← hpre, List.getElem?_map, List.getElem?_range hi]; rfl
  refine phase_g S w1 F hK hc T (oblc _ (hp c hc)) (fun i hi hic w hw => obl i _ hic (hp i hi) w hw) fin r listed f0 a w1 0 hr ?_ ⟨Mod.refl _ _, fun _ => Mod.refl _ _, fun i hi => ?_, fun i hi => ?_, fun i o hi => ?_, fun _ _ => rfl, hs⟩ ha
  · simp [hno]
  · rw [hno] at hi; cases hi
  · rw [hno] at hi; cases hi
  · rw [hno] at hi; cases hi

def loudG : List (Nat × (List Value → Value → World → Prop)) → Posts
  | [], _ => none
  | (j, p) :: l, i => bif Nat.beq j i then some p else loudG l i
/-- what is left: number, before c's write, behind it -/
abbrev Two := Nat × (List Value → Value → World → Prop) × (List Value → Value → World → Prop)
def one1 : List Two → List (Nat × (List Value → Value → World → Prop)) := List.map fun x => (x.1, x.2.1)
def one2 : List Two → List (Nat × (List Value → Value → World → Prop)) := List.map fun x => (x.1, x.2.2)
def TurnAll (ops : Array Oper) (c : Nat) (Rc : World → World → Prop) : List Two → Prop
  | [] => True
  | (i, p, q) :: l => ((∀ u v w w', p u v w → Mod [] w w' → p u v w') ∧ (∀ u v w w', q u v w → Mod [] w w' → q u v w') ∧ (∀ u v w, p u v w → q u v w) ∧ ((Nat.beq i c || (clo ops i).contains c) = true ∨ ∀ u v w w', p u v w → Rc w w' → q u v w')) ∧ TurnAll ops c Rc l
theorem turnAll_of {c : Nat} {Rc : World → World → Prop} : ∀ {l : List Two}, TurnAll ops c Rc l → ∀ i, (loudG (one1 l) i = none ↔ loudG (one2 l) i = none) ∧ ∀ p q, loudG (one1 l) i = some p → loudG (one2 l) i = some q →
    (∀ u v w w', p u v w → Mod [] w w' → p u v w') ∧ (∀ u v w w', q u v w → Mod [] w w' → q u v w') ∧ (∀ u v w, p u v w → q u v w) ∧ (i ≠ c → ¬ c ∈ clo ops i → ∀ u v w w', p u v w → Rc w w' → q u v w')
  | [], _, i => ⟨Iff.rfl, fun p q h => by simp [loudG, one1] at h⟩
  | (j, a, b) :: l, ⟨h1, h2⟩, i => by
    have ih := turnAll_of h2 i
    simp only [one1, one2, List.map_cons, loudG] at ih ⊢
    cases hj : Nat.beq j i with
    | false => simpa [hj] using ih
    | true =>
      have := Nat.eq_of_beq_eq_true hj
      subst this
      simp only [cond_true, Option.some.injEq]
      refine ⟨by simp, ?_⟩
      rintro p q rfl rfl
      obtain ⟨k1, k2, k3, k4⟩ := h1
      refine ⟨k1, k2, k3, fun hne hn => ?_⟩
      rcases k4 with k4 | k4
      · simp only [Bool.or_eq_true, List.contains_iff_mem] at k4
        rcases k4 with k4 | k4
        · exact absurd (Nat.eq_of_beq_eq_true k4) hne
        · exact absurd k4 hn
      · exact k4
theorem turns_of {c : Nat} {Rc : World → World → Prop} {l : List Two} (h : TurnAll ops c Rc l) (hc : (loudG (one1 l) c).isSome = true) (hr : ∀ w, Rc w w) : Turns ops c (loudG (one1 l)) (loudG (one2 l)) Rc := by
  have some2 : ∀ i p, loudG (one1 l) i = some p → ∃ q, loudG (one2 l) i = some q := fun i p hp => by
    cases hq : loudG (one2 l) i with
    | some q => exact ⟨q, rfl⟩
    | none => rw [(turnAll_of h i).1.2 hq] at hp; cases hp
  have some1 : ∀ i p, loudG (one2 l) i = some p → ∃ q, loudG (one1 l) i = some q := fun i p hp => by
    cases hq : loudG (one1 l) i with
    | some q => exact ⟨q, rfl⟩
    | none => rw [(turnAll_of h i).1.1 hq] at hp; cases hp
  refine ⟨Option.isSome_iff_exists.1 hc, hr, fun i => (turnAll_of h i).1, fun i p hp => ?_, fun i p hp => ?_, fun i p q hp hq => ((turnAll_of h i).2 p q hp hq).2.2.1, fun i p q hic hn hp hq => ((turnAll_of h i).2 p q hp hq).2.2.2 hic hn⟩
  · obtain ⟨q, hq⟩ := some2 i p hp; exact ((turnAll_of h i).2 p q hp hq).1
  · obtain ⟨q, hq⟩ := some1 i p hp; exact ((turnAll_of h i).2 q p hq hp).2.1
def OblG (P : Program) (c : Nat) (L1 L2 : Posts) (Rc : World → World → Prop) (S : List Nat) (w1 : World) (ops : Array Oper) (f0 : FF) : Nat → List (List Nat) → Prop
  | _, [] => True
  | k, l :: pre => (∀ w, Mod (bif Nat.beq k c then [] else S) w1 w → bif Nat.beq k c then WG P L1 S w1 ops (OwesG P L1 (fun w w' => Rc w w' ∧ Mod S w1 w') S w1 ops k) w l f0 else WG P L2 S w1 ops (OwesG P L1 (Mod []) S w1 ops k) w l f0) ∧ OblG P c L1 L2 Rc S w1 ops f0 (k + 1) pre
theorem oblG_of {c : Nat} {L1 L2 : Posts} {Rc : World → World → Prop} {f0 : FF} : ∀ {pre : List (List Nat)} {k : Nat}, OblG P c L1 L2 Rc S w1 ops f0 k pre → ∀ i l, pre[i]? = some l → ∀ w, Mod (bif Nat.beq (k + i) c then [] else S) w1 w → bif Nat.beq (k + i) c then WG P L1 S w1 ops (OwesG P L1 (fun w w' => Rc w w' ∧ Mod S w1 w') S w1 ops (k + i)) w l f0 else WG P L2 S w1 ops (OwesG P L1 (Mod []) S w1 ops (k + i)) w l f0
  | [], _, _, i, l, h => by simp at h
  | _ :: _, _, ⟨h1, _⟩, 0, l, h => by simp at h; subst h; simpa using h1
  | _ :: pre, k, ⟨_, h2⟩, i + 1, l, h => by
    have := oblG_of h2 i l (by simpa using h)
    rwa [show k + 1 + i = k + (i + 1) by omega] at this
end
section
variable {P : Program} {ops : Array Oper}
theorem WD_whole {n : Nat} {K : FF → World → Prop} {f : FF} {w1 : World} (S : List Nat) (c : Nat) (Rc : World → World → Prop) (m : Nat) (pre : List (List Nat)) (ls : List Two) (chk : gChk ops n m pre = true) (hc : (Nat.blt c m && (loudG (one1 ls) c).isSome) = true) (hr : ∀ w, Rc w w) (turn : TurnAll ops c Rc ls)
    (obl : OblG P c (loudG (one1 ls)) (loudG (one2 ls)) Rc S w1 ops f 0 pre) (sp : List Nat) (hsp : List.range m = sp) (fin : ∀ w, Mod S w1 w → WG P (loudG (one2 ls)) S w1 ops (WD P n ops K m) w sp f) : WD P n ops K 0 f w1 := by
  simp only [Bool.and_eq_true] at hc
  refine WD_g S w1 m pre chk (Nat.le_of_ble_eq_true hc.1) (turns_of turn hc.2 hr) (fun l h w hw => ?_) (fun i l hic h w hw => ?_) (by rw [hsp]; exact fin)
  · have := oblG_of S w1 obl c l h w
    rw [Nat.zero_add, Nat.beq_refl] at this
    exact this hw
  · have := oblG_of S w1 obl i l h w
    have hb : Nat.beq i c = false := by cases hb : Nat.beq i c with | false => rfl | true => exact absurd (Nat.eq_of_beq_eq_true hb) hic
    rw [Nat.zero_add, hb] at this
    exact this hw
variable {loud : Posts} {S : List Nat} {w1 w : World} {K : FF → World → Prop} {f : FF} {i : Nat} {rest : List Nat} {d : Option Nat} {op : Op} {ty : TypeId} {pos : String} {aft : Array Edge} {v : Value}
theorem bifF {b : Bool} {A B : Prop} (h : b = false) (x : B) : bif b then A else B := by rw [h]; exact x
theorem bifT {b : Bool} {A B : Prop} (h : b = true) (x : A) : bif b then A else B := by rw [h]; exact x
theorem WG_nil (h : K f w) : WG P loud S w1 ops K w [] f := h
theorem WG_rd (ho : ops[i]? = some ⟨d, op, ty, pos, aft, none⟩) (hl : loud i = none) (hw : Mod S w1 w) (h : runC P w (execOp (ev f) ⟨d, op, ty, pos, aft, none⟩) = some (.value v)) (k : WG P loud S w1 ops K w rest (updo f d v)) : WG P loud S w1 ops K w (i :: rest) f := by
  intro o' v' ho' hv'
  rw [ho] at ho'
  cases ho'
  unfold okg at hv'
  rw [if_pos (by simp [Region.wanted])] at hv'
  simp only [hl] at hv'
  have := hv' w hw
  rw [h] at this
  cases this
  exact k
theorem WG_ld {p : List Value → Value → World → Prop} (ho : ops[i]? = some ⟨d, op, ty, pos, aft, none⟩) (hl : loud i = some p) (k : ∀ v, p (opvs f ⟨d, op, ty, pos, aft, none⟩) v w → WG P loud S w1 ops K w rest (updo f d v)) : WG P loud S w1 ops K w (i :: rest) f := by
  intro o' v' ho' hv'
  rw [ho] at ho'
  cases ho'
  unfold okg at hv'
  rw [if_pos (by simp [Region.wanted])] at hv'
  simp only [hl] at hv'
  exact k v' hv'
theorem OG_rd {Rs : World → World → Prop} {L : Posts} {g : Option (Nat × Bool)} (ho : ops[i]? = some ⟨d, op, ty, pos, aft, g⟩) (hl : L i = none) (h : ∀ w', Mod S w1 w' → runC P w' (execOp (ev f) ⟨d, op, ty, pos, aft, g⟩) = some (.value v)) : WG P loud S w1 ops (OwesG P L Rs S w1 ops i) w [] f := by
  intro o' ho' _
  rw [ho] at ho'
  cases ho'
  simp only [hl]
  exact ⟨v, h⟩
theorem OG_ld {Rs : World → World → Prop} {L : Posts} {g : Option (Nat × Bool)} {p : List Value → Value → World → Prop} (ho : ops[i]? = some ⟨d, op, ty, pos, aft, g⟩) (hl : L i = some p) (h : OS P ⟨d, op, ty, pos, aft, g⟩ (ev f) w fun v w' => p (opvs f ⟨d, op, ty, pos, aft, g⟩) v w' ∧ Rs w w') : WG P loud S w1 ops (OwesG P L Rs S w1 ops i) w [] f := by
  intro o' ho' _
  rw [ho] at ho'
  cases ho'
  simp only [hl]
  exact h
theorem qwgr (hw : Mod S w1 w) (k : WG P loud S w1 ops K w rest (updo f d v)) (ho : ops[i]? = some ⟨d, op, ty, pos, aft, none⟩ := by exact rfl) (hl : loud i = none := by exact rfl) (h : runC P w (execOp (ev f) ⟨d, op, ty, pos, aft, none⟩) = some (.value v) := by exact qrp) : WG P loud S w1 ops K w (i :: rest) f := WG_rd ho hl hw h k
end
end Go.Proofs.YtljpfnjpifhdlaaGreatDoor
namespace Go.Proofs.YtljpfnjpifhdlaaGreatDoor
open Go
theorem nat_cells {M : Nat → Prop} {w : World} : ∀ {l : List Nat} {uss : List (List Value)}, Alls (LNat.rd M w) l uss → uss.flatten = l.map fun k => .int .i64 (k : Nat)
  | [], [], _ => rfl
  | k :: l, us :: uss, ⟨h, t⟩ => by
    have h : us = [.int .i64 (k : Nat)] := h
    rw [List.flatten_cons, nat_cells t, h]; rfl
  | [], _ :: _, h => h.elim
  | _ :: _, [], h => h.elim
theorem rdL_nat {M : Nat → Prop} {w : World} {b : Nat} : ∀ {l : List Nat} {o : Nat}, (∀ j, j < l.length → w.cell? ⟨b, o + j, none⟩ = (l.map fun k => Value.int .i64 (k : Nat))[j]?) → RdL LNat M w b o l
  | [], _, _ => trivial
  | k :: l, o, h => by
    refine ⟨⟨[.int .i64 (k : Nat)], rfl, fun j u hj => ?_⟩, rdL_nat fun j hj => ?_⟩
    · match j, hj with
      | 0, hj => have := h 0 (by simp); simp at hj this; rw [← hj]; simpa using this
    · have := h (j + 1) (by simp; omega)
      rw [show o + LNat.sz + j = o + (j + 1) by simp [LNat]; omega]
      simpa using this
theorem rowAt_rd {w1 w : World} {e : TypeId} {l : List Nat} {v : Value} {M : Nat → Prop} (hM : ∀ b, M b → b < w1.heap.size) (h : RowAt w1 e l.length (l.map fun k => .int .i64 (k : Nat)) v w) : (LSl LNat).rd M w l [v] := by
  obtain ⟨b, cap, cur, rfl, h2, h3, h4, h5, h6, h7, h8⟩ := h
  refine ⟨_, _, cap, rfl, rfl, h4, .inr ⟨b, 0, rfl, fun hb => by have := hM b hb; omega, (Array.getElem?_eq_some_iff.1 h3).1, rdL_nat fun j hj => ?_⟩⟩
  rw [Nat.zero_add, ← h8 j hj]
  simp [World.cell?, h3]
/-- an empty slice without room -/
def Emp (v : Value) : Prop := ∃ b, v = .slice (some ⟨b, 0, none⟩) 0 0
def Ch5 (wS : World) (l : List Nat) (n : Nat) (xs : List Value) (v : Value) (a : World) : Prop := (l = [] ∧ Emp v) ∨ (l ≠ [] ∧ RowAt wS 3 n xs v a)
def Ch7 (u : Value) (v : Value) (a : World) : Prop := ∃ b, v = .slice (some ⟨b, 0, none⟩) 1 1 ∧ a.cell? ⟨b, 0, none⟩ = some u
def Ch9 (wS : World) (us : List Value) (n : Nat) (xs : List Value) (v : Value) (a : World) : Prop := ∃ b cap, v = .agg (us ++ [Value.slice (some ⟨b, 0, none⟩) (n + 1) cap]).toArray ∧ RowAt wS 3 (n + 1) xs (.slice (some ⟨b, 0, none⟩) (n + 1) cap) a
set_option maxHeartbeats 1000000 in
set_option maxRecDepth 100000 in
theorem choose_c {x : Br} {i : Nat} {vs : List Value} {M : Nat → Prop} {w : World} (hM : ∀ b, M b → b < w.heap.size) (h : LBr.rd M w x vs) (hl3 : x.2.length ≤ 10000) :
    Calls Tryz.prog 53 #[.agg vs.toArray, .int .i64 (i : Nat)] w (Ret fun v w' => (∃ us, v = .agg us.toArray ∧ LBr.rd M w' (x.1, x.2 ++ [i]) us) ∧ Mod [] w w') := by
  obtain ⟨a1, c1, a2, c2, a3, c3, a4, c4, a5, c5, rfl, h1, h2⟩ := LBr_form h
  refine enterC Tryz.func53 rfl Tryz.ntmps53 rfl (by simp) ?_
  have H := ((Holds.start w []).arg (L := LSt) h1).arg (L := LSl LNat) h2
  refine W_rs ?_
  refine qrb H ?_; intro b2 w H
  refine qrb H ?_; intro b4 w H
  (repeat (first | refine qq ?_ | (refine qds H ?_; intro H) | (refine qrb H ?_; intro _ w H) | (refine qrs H ?_; intro w H) | (refine qdr H ?_; intro H)))
  generalize w.drew = wS at H ⊢
  obtain ⟨n, hn⟩ : ∃ n, n = x.2.length := ⟨_, rfl⟩
  obtain ⟨xs, hxs⟩ : ∃ xs, xs = x.2.map fun k => Value.int .i64 (k : Nat) := ⟨_, rfl⟩
  obtain ⟨u, hu⟩ : ∃ u, u = Value.int .i64 (i : Nat) := ⟨_, rfl⟩
  have stab5 : ∀ (_ : List Value) (v : Value) (a b : World), Ch5 wS x.2 n xs v a → Mod [] a b → Ch5 wS x.2 n xs v b := fun _ _ _ _ h k => h.imp id fun h => ⟨h.1, h.2.keep k⟩
  have stab7 : ∀ (_ : List Value) (v : Value) (a b : World), Ch7 u v a → Mod [] a b → Ch7 u v b := fun _ _ _ _ ⟨b, h1, h2⟩ hm => ⟨b, h1, hm.cell h2⟩
  have stab8 : ∀ (_ : List Value) (v : Value) (a b : World), RowAt wS 3 (n + 1) (xs ++ [u]) v a → Mod [] a b → RowAt wS 3 (n + 1) (xs ++ [u]) v b := fun _ _ _ _ h k => h.keep k
  have stab9 : ∀ (_ : List Value) (v : Value) (a b : World), Ch9 wS [.int .i64 (x.1.next : Nat), .slice a1 x.1.bind.length c1, .slice a2 x.1.dis.length c2, .slice a3 0 c3, .slice a4 0 c4] n (xs ++ [u]) v a → Mod [] a b → Ch9 wS [.int .i64 (x.1.next : Nat), .slice a1 x.1.bind.length c1, .slice a2 x.1.dis.length c2, .slice a3 0 c3, .slice a4 0 c4] n (xs ++ [u]) v b := fun _ _ _ _ ⟨c, cap, h1, h2⟩ k => ⟨c, cap, h1, h2.keep k⟩
  have H1 := H
  refine WD_whole [] 8 (fun _ _ => True) 10 [[], [0], [], [], [3], [2, 3, 4], [], [6], [2, 3, 4, 5, 6, 7], [0, 1, 2, 3, 4, 5, 6, 7, 8]] [(2, (fun _ v _ => Emp v), (fun _ v _ => Emp v)), (5, (fun _ v a => Ch5 wS x.2 n xs v a), (fun _ _ _ => True)), (7, (fun _ v a => Ch7 u v a), (fun _ _ _ => True)), (8, (fun _ v a => RowAt wS 3 (n + 1) (xs ++ [u]) v a), (fun _ v a => RowAt wS 3 (n + 1) (xs ++ [u]) v a)), (9, (fun _ v a => Ch9 wS [.int .i64 (x.1.next : Nat), .slice a1 x.1.bind.length c1, .slice a2 x.1.dis.length c2, .slice a3 0 c3, .slice a4 0 c4] n (xs ++ [u]) v a), (fun _ v a => Ch9 wS [.int .i64 (x.1.next : Nat), .slice a1 x.1.bind.length c1, .slice a2 x.1.dis.length c2, .slice a3 0 c3, .slice a4 0 c4] n (xs ++ [u]) v a))] (by kernel_rfl) (by exact rfl) (by intro w; first | exact trivial | exact fun _ _ _ _ => rfl) ?_ ?_ _ (by exact rfl) ?_
  · exact ⟨⟨fun _ _ _ _ h _ => h, fun _ _ _ _ h _ => h, fun _ _ _ h => h, .inr fun _ _ _ _ h _ => h⟩, ⟨stab5, fun _ _ _ _ _ _ => trivial, fun _ _ _ _ => trivial, .inr fun _ _ _ _ _ _ => trivial⟩, ⟨stab7, fun _ _ _ _ _ _ => trivial, fun _ _ _ _ => trivial, .inr fun _ _ _ _ _ _ => trivial⟩, ⟨stab8, stab8, fun _ _ _ h => h, .inl (by kernel_rfl)⟩, ⟨stab9, stab9, fun _ _ _ h => h, .inl (by kernel_rfl)⟩, trivial⟩
  · refine ⟨?_, ?_, ?_, ?_, ?_, ?_, ?_, ?_, ?_, ?_, trivial⟩
    · intro w (hm : Mod [] _ w)
      refine bifF rfl ?_
      have H := H1.call hm
      exact OG_rd rfl rfl fun w hm => have H := H1.call hm; qrp
    · intro w (hm : Mod [] _ w)
      refine bifF rfl ?_
      have H := H1.call hm
      refine qwgr hm ?_
      exact OG_rd rfl rfl fun w hm => have H := H1.call hm; qrp
    · intro w (hm : Mod [] _ w)
      refine bifF rfl ?_
      have H := H1.call hm
      refine OG_ld rfl rfl ?_
      exact S_bslice0 (Holds.start w []) fun b w' H' => ⟨⟨b, rfl⟩, H'.mod⟩
    · intro w (hm : Mod [] _ w)
      refine bifF rfl ?_
      have H := H1.call hm
      exact OG_rd rfl rfl fun w hm => have H := H1.call hm; qrp
    · intro w (hm : Mod [] _ w)
      refine bifF rfl ?_
      have H := H1.call hm
      refine qwgr hm ?_
      exact OG_rd rfl rfl fun w hm => have H := H1.call hm; qrp
    · intro w (hm : Mod [] _ w)
      refine bifF rfl ?_
      have H := H1.call hm
      refine WG_ld rfl rfl ?_; intro v2 h2
      refine qwgr hm ?_
      refine qwgr hm ?_
      refine OG_ld rfl rfl ?_
      obtain ⟨b, rfl⟩ := h2
      rcases slice_cells (H.dat (d := (LSl LNat).dat M x.2 [.slice a5 x.2.length c5]) (by simp)) with ⟨hl0, hn0⟩ | ⟨b', o, uss, rfl, hnu, hal, hc, hl, h1'⟩
      · exact X_append0 _ _ (by exact rfl) (Nat.le_refl _) (by rw [hn0]; exact rfl) ⟨.inl ⟨hl0, b, rfl⟩, Mod.refl _ _⟩
      · by_cases hu0 : uss = []
        · subst hu0
          exact X_append0 _ _ (by exact rfl) (Nat.le_refl _) (by rw [hnu]; exact rfl) ⟨.inl ⟨by simpa using hal.get.1, b, rfl⟩, Mod.refl _ _⟩
        · have hx0 : x.2 ≠ [] := fun e => by rw [e] at hal; exact hu0 (by simpa using hal.get.1.symm)
          refine S_appendZ (Holds.start w []) (uss := uss) _ _ (by exact rfl) (by rw [hnu]; exact rfl) hc hl h1' Nat.one_pos rfl hu0 (by rw [← hnu]; simp; omega) fun v' w' H' => ⟨.inr ⟨hx0, rowAt_of (by rw [hn, hnu]) (by rw [hxs]; exact nat_cells hal) (H'.atom (List.Mem.head _)) hu0 fun b hb => ?_⟩, H'.mod⟩
          have hlow := H'.low b (mem_owns.2 ⟨_, List.Mem.head _, hb⟩)
          have := hm.size
          rcases hlow with h | h
          · omega
          · cases h
    · intro w (hm : Mod [] _ w)
      refine bifF rfl ?_
      have H := H1.call hm
      exact OG_rd rfl rfl fun w hm => have H := H1.call hm; qrp
    · intro w (hm : Mod [] _ w)
      refine bifF rfl ?_
      have H := H1.call hm
      refine qwgr hm ?_
      refine OG_ld rfl rfl ?_
      refine S_bslice1s (Holds.start w []) _ (v := .int .i64 (i : Nat)) (by exact rfl) (by exact rfl) (by exact rfl) ?_
      intro b3 w' H'
      exact ⟨⟨b3, rfl, by rw [hu]; exact H'.bcell 0 rfl rfl⟩, H'.mod⟩
    · intro w (hm : Mod [] _ w)
      refine bifT rfl ?_
      have H := H1.call hm
      refine WG_ld rfl rfl ?_; intro v2 h2
      refine qwgr (hm.mono (by simp)) ?_
      refine qwgr (hm.mono (by simp)) ?_
      refine WG_ld rfl rfl ?_; intro v5 h5
      refine qwgr (hm.mono (by simp)) ?_
      refine WG_ld rfl rfl ?_; intro v7 h7
      refine OG_ld rfl rfl ?_
      obtain ⟨b7, rfl, hb7⟩ := h7
      rcases h5 with ⟨hx0, b, rfl⟩ | ⟨hx0, h5⟩
      · refine S_appendZ (Holds.start w []) (uss := [[u]]) _ _ (by exact rfl) (by exact rfl) ?_ (by simp) (by rw [hu]; simp [Value.oneCell']) Nat.one_pos rfl (by simp) (by simp) fun v' w' H' => ⟨?_, trivial, hm.trans H'.mod⟩
        · intro j y hj
          match j, hj with
          | 0, hj => simp at hj; subst hj; exact hb7
        · rw [hn, hxs, hx0]
          refine rowAt_of rfl rfl (H'.atom (List.Mem.head _)) (by simp) fun b hb => ?_
          have hlow := H'.low b (mem_owns.2 ⟨_, List.Mem.head _, hb⟩)
          have := hm.size
          rcases hlow with h | h
          · omega
          · cases h
      · obtain ⟨b, cap, cur, rfl, h5'⟩ := id h5
        exact (S_appendRow _ _ hm rfl h5 (by exact rfl) (by exact rfl) hb7 (by rw [hu]; rfl) (by simp; omega)).mono fun v w h => ⟨h.1, trivial, h.2⟩
    · intro w (hm : Mod [] _ w)
      refine bifF rfl ?_
      have H := H1.call hm
      refine qwgr hm ?_
      refine qwgr hm ?_
      refine WG_ld rfl rfl ?_; intro v2 h2
      refine qwgr hm ?_
      refine qwgr hm ?_
      refine WG_ld rfl rfl ?_; intro v5 h5
      refine qwgr hm ?_
      refine WG_ld rfl rfl ?_; intro v7 h7
      refine WG_ld rfl rfl ?_; intro v8 h8
      refine OG_ld rfl rfl ?_
      obtain ⟨b, cap, cur, rfl, h8'⟩ := id h8
      refine S_read (X_build (by exact rfl) [(0, [.int .i64 (x.1.next : Nat), .slice a1 x.1.bind.length c1, .slice a2 x.1.dis.length c2, .slice a3 0 c3, .slice a4 0 c4]), (1, [.slice (some ⟨b, 0, none⟩) (n + 1) cap])] (by exact rfl) (by exact rfl)) ?_
      exact ⟨⟨b, cap, rfl, h8⟩, Mod.refl _ _⟩
  intro w hm
  have H := H1.call hm
  refine qwgr hm ?_
  refine qwgr hm ?_
  refine WG_ld rfl rfl ?_; intro v2 h2
  refine qwgr hm ?_
  refine qwgr hm ?_
  refine WG_ld rfl rfl ?_; intro v5 h5
  refine qwgr hm ?_
  refine WG_ld rfl rfl ?_; intro v7 h7
  refine WG_ld rfl rfl ?_; intro v8 h8
  refine WG_ld rfl rfl ?_; intro v9 h9
  refine WG_nil ?_
  obtain ⟨b, cap, rfl, h9'⟩ := h9
  subst hn hxs hu
  have H := H.add (d := (LSl LNat).dat M (x.2 ++ [i]) [.slice (some ⟨b, 0, none⟩) (x.2.length + 1) cap]) (rowAt_rd (e := 3) (w1 := wS) (H1.wr_lt hM) (by simpa using h9'))
  refine WD_n (by kernel_rfl) (by exact rfl) (S_storeN H 0 _ _ (by exact rfl) (by exact rfl) (by exact rfl) (by exact rfl) (by exact rfl) (by exact rfl) ?_); intro w H
  refine WD_end (by decide) ?_
  (repeat (first | refine qq ?_ | (refine qds H ?_; intro H) | (refine qrb H ?_; intro _ w H) | (refine qrs H ?_; intro w H) | (refine qdr H ?_; intro H)))
  exact ⟨_, _, _, rfl, H.bcells 0 6 rfl rfl, rfl, ⟨_, rfl, ⟨_, _, rfl, H.out (L := LSt) 2 rfl, H.out (L := LSl LNat) 0 rfl⟩⟩, H.mod⟩
end Go.Proofs.YtljpfnjpifhdlaaGreatDoor
namespace Go.Proofs.YtljpfnjpifhdlaaGreatDoor
open Go
/-- what expand hands back -/
def Ex13 (M : Nat → Prop) (y : G) (n : Nat) (v : Value) (a : World) : Prop := ∃ vs, v = .tuple #[.agg vs.toArray, .int .i64 (n : Nat), .bool true] ∧ rdG M a y vs
def Ex13' (n : Nat) (v : Value) : Prop := ∃ vs : List Value, v = .tuple #[.agg vs.toArray, .int .i64 (n : Nat), .bool true] ∧ vs.length = 4
/-- a new block of zeros -/
def Ex18 (wS : World) (v : Value) (a : World) : Prop := ∃ b, v = .pointer (some ⟨b, 0, none⟩) ∧ wS.heap.size ≤ b ∧ b < a.heap.size ∧ a.heap[b]? = some (.cells goZ.toArray 37 (0, 0))
/-- the goal stands in it -/
def Ex19 (M : Nat → Prop) (wS : World) (y : G) (u : List Value) (a : World) : Prop := ∃ b vs, u = [.pointer (some ⟨b, 0, none⟩), .agg vs.toArray] ∧ wS.heap.size ≤ b ∧ b < a.heap.size ∧ a.heap[b]? = some (.cells vs.toArray 37 (0, 0)) ∧ rdG (fun c => M c ∨ c = b) a y vs
theorem LSt_next {M : Nat → Prop} {w : World} {st : Sta} {z v1 v2 v3 v4 : Value} (h : LSt.rd M w st [z, v1, v2, v3, v4]) (n : Nat) : LSt.rd M w ⟨n, st.bind, st.dis⟩ [.int .i64 (n : Nat), v1, v2, v3, v4] := by
  obtain ⟨v1', v2', a3, c3, a4, c4, e, h1, h2⟩ := h
  simp only [List.cons.injEq, and_true] at e
  obtain ⟨rfl, rfl, rfl, rfl, rfl⟩ := e
  exact ⟨_, _, _, _, _, _, rfl, h1, h2⟩
set_option maxHeartbeats 1000000 in
set_option maxRecDepth 100000 in
theorem expandIn_c {P : List Rl} {x : Br} {g : G} {st : Sta} {y : G} {a : Option Addr} {c : Nat} {vs us : List Value} {M : Nat → Prop} {w : World} (hs : expandInV P x.1 g = some (st, y)) (hP : P.length ≤ 8) (hM : ∀ b, M b → b < w.heap.size)
    (hp : (LSl LR).rd M w P [.slice a P.length c]) (h : LBr.rd M w x vs) (hg : rdG M w g us) :
    Calls Tryz.prog 54 #[.agg #[.slice a P.length c], .agg vs.toArray, .agg us.toArray] w (Ret fun v w' => (∃ us' vs', v = .tuple #[.agg us'.toArray, .agg vs'.toArray, .bool true] ∧ LBr.rd M w' (st, x.2) us' ∧ rdG M w' y vs') ∧ Mod [] w w') := by
  obtain ⟨a1, c1, a2, c2, a3, c3, a4, c4, a5, c5, rfl, h1, h2⟩ := LBr_form h
  obtain ⟨a6, c6, a7, c7, rfl, h6⟩ := rdG_form hg
  unfold expandInV at hs
  cases hr : relAt P g.name 0 with
  | none => rw [hr] at hs; cases hs
  | some i =>
  rw [hr] at hs
  simp only [] at hs
  cases hx : P[i]? with
  | none => rw [hx] at hs; cases hs
  | some r =>
  rw [hx] at hs
  simp only [] at hs
  cases he : expandV r g.terms x.1.next with
  | none => rw [he] at hs; cases hs
  | some yn =>
  obtain ⟨y', n'⟩ := yn
  rw [he] at hs
  simp only [] at hs
  cases hpos : y'.pos with
  | false => rw [hpos] at hs; cases hs
  | true =>
  rw [hpos] at hs
  simp only [cond_true, Option.some.injEq, Prod.mk.injEq] at hs
  obtain ⟨rfl, rfl⟩ := hs
  refine enterCCT Tryz.func54 rfl Tryz.ntmps54 rfl (by simp) ?_
  have H := ((((Holds.start w []).arg (L := LSt) h1).arg (L := LSl LNat) h2).arg (L := LSl LT) h6).arg (L := LSl LR) hp
  refine W_rs ?_
  refine qrb H ?_; intro b3 w H
  refine qrb H ?_; intro b4 w H
  refine qrb H ?_; intro b5 w H
  refine qrb H ?_; intro b6 w H
  refine qrb H ?_; intro b7 w H
  (repeat (first | refine qq ?_ | (refine qds H ?_; intro H) | (refine qrb H ?_; intro _ w H) | (refine qrs H ?_; intro w H) | (refine qdr H ?_; intro H)))
  generalize w.drew = wS at H ⊢
  obtain ⟨b, o, vr, rfl, _, hil, hrr, H⟩ := H.elem (L := LR) (M := M) (l := P) (a := a) (n := P.length) (c := c) (by simp) i hx
  obtain ⟨a8, c8, a9, c9, rfl, _⟩ := rdR_form hrr
  have stab13 : ∀ (_ : List Value) (v : Value) (a b : World), Ex13 (H.wr M) y' n' v a → Mod [] a b → Ex13 (H.wr M) y' n' v b := fun _ _ _ _ ⟨vs, h1, h2⟩ hm => ⟨vs, h1, rdG_keep (fun b hb _ => hm.block b hb (by simp)) _ _ h2⟩
  have weak13 : ∀ (_ : List Value) (v : Value) (a : World), Ex13 (H.wr M) y' n' v a → Ex13' n' v := fun _ _ _ ⟨vs, h1, h2⟩ => ⟨vs, h1, LG.len _ _ _ _ h2⟩
  have stab18 : ∀ (_ : List Value) (v : Value) (a b : World), Ex18 wS v a → Mod [] a b → Ex18 wS v b := fun _ _ _ _ ⟨b, h1, h2, h3, h4⟩ hm => ⟨b, h1, h2, Nat.lt_of_lt_of_le h3 hm.size, by rw [hm.block b h3 (by simp)]; exact h4⟩
  have stab19 : ∀ (u : List Value) (_ : Value) (a b : World), Ex19 (H.wr M) wS y' u a → Mod [] a b → Ex19 (H.wr M) wS y' u b := fun _ _ _ _ ⟨b, vs, h1, h2, h3, h4, h5⟩ hm => ⟨b, vs, h1, h2, Nat.lt_of_lt_of_le h3 hm.size, by rw [hm.block b h3 (by simp)]; exact h4, rdG_keep (fun b hb _ => hm.block b hb (by simp)) _ _ h5⟩
  have H1 := H
  refine WD_whole [] 19 (fun _ _ => True) 22 [[], [0], [], [], [3], [2, 3, 4], [0, 1, 2, 3, 4, 5], [0, 1, 2, 3, 4, 5, 6], [], [8], [], [10], [10, 11], [0, 1, 2, 3, 4, 5, 6, 7, 8, 9, 10, 11, 12], [0, 1, 2, 3, 4, 5, 6, 7, 8, 9, 10, 11, 12, 13], [0, 1, 2, 3, 4, 5, 6, 7, 8, 9, 10, 11, 12, 13, 14], [0, 1, 2, 3, 4, 5, 6, 7, 8, 9, 10, 11, 12, 13, 14], [0, 1, 2, 3, 4, 5, 6, 7, 8, 9, 10, 11, 12, 13, 14], [], [0, 1, 2, 3, 4, 5, 6, 7, 8, 9, 10, 11, 12, 13, 14, 15, 18], [0, 1, 2, 3, 4, 5, 6, 7, 8, 9, 10, 11, 12, 13, 14, 15, 16, 18, 19], [0, 1, 2, 3, 4, 5, 6, 7, 8, 9, 10, 11, 12, 13, 14, 15, 16, 17, 18, 19, 20]] [(5, (fun _ v _ => v = (.int .i64 (i : Nat))), (fun _ v _ => v = (.int .i64 (i : Nat)))), (13, (fun _ v a => Ex13 (H1.wr M) y' n' v a), (fun _ v _ => Ex13' n' v)), (18, (fun _ v a => Ex18 wS v a), (fun _ _ _ => True)), (19, (fun u _ a => Ex19 (H1.wr M) wS y' u a), (fun u _ a => Ex19 (H1.wr M) wS y' u a))] (by kernel_rfl) (by exact rfl) (by intro w; first | exact trivial | exact fun _ _ _ _ => rfl) ?_ ?_ _ (by exact rfl) ?_
  · exact ⟨⟨fun _ _ _ _ h _ => h, fun _ _ _ _ h _ => h, fun _ _ _ h => h, .inr fun _ _ _ _ h _ => h⟩, ⟨stab13, fun _ _ _ _ h _ => h, weak13, .inr fun u v a _ h _ => weak13 u v a h⟩, ⟨stab18, fun _ _ _ _ _ _ => trivial, fun _ _ _ _ => trivial, .inr fun _ _ _ _ _ _ => trivial⟩, ⟨stab19, stab19, fun _ _ _ h => h, .inl (by kernel_rfl)⟩, trivial⟩
  · refine ⟨?_, ?_, ?_, ?_, ?_, ?_, ?_, ?_, ?_, ?_, ?_, ?_, ?_, ?_, ?_, ?_, ?_, ?_, ?_, ?_, ?_, ?_, trivial⟩
    · intro w (hm : Mod [] _ w)
      refine bifF rfl ?_
      have H := H1.call hm
      exact OG_rd rfl rfl fun w hm => have H := H1.call hm; qrp
    · intro w (hm : Mod [] _ w)
      refine bifF rfl ?_
      have H := H1.call hm
      refine qwgr hm ?_
      exact OG_rd rfl rfl fun w hm => have H := H1.call hm; qrp
    · intro w (hm : Mod [] _ w)
      refine bifF rfl ?_
      have H := H1.call hm
      exact OG_rd rfl rfl fun w hm => have H := H1.call hm; qrp
    · intro w (hm : Mod [] _ w)
      refine bifF rfl ?_
      have H := H1.call hm
      exact OG_rd rfl rfl fun w hm => have H := H1.call hm; qrp
    · intro w (hm : Mod [] _ w)
      refine bifF rfl ?_
      have H := H1.call hm
      refine qwgr hm ?_
      exact OG_rd rfl rfl fun w hm => have H := H1.call hm; qrp
    · intro w (hm : Mod [] _ w)
      refine bifF rfl ?_
      have H := H1.call hm
      refine qwgr hm ?_
      refine qwgr hm ?_
      refine qwgr hm ?_
      refine OG_ld rfl rfl ?_
      exact S_call2 _ _ (by exact rfl) (by exact rfl) (by exact rfl) (relation_c hr (by omega) (H.dat (d := (LSl LR).dat M P [.slice (some ⟨b, o, none⟩) P.length c]) (by simp))) fun v w' h => h
    · intro w (hm : Mod [] _ w)
      refine bifF rfl ?_
      have H := H1.call hm
      refine qwgr hm ?_
      refine qwgr hm ?_
      refine qwgr hm ?_
      refine qwgr hm ?_
      refine qwgr hm ?_
      refine WG_ld rfl rfl ?_; rintro _ rfl
      exact OG_rd rfl rfl fun w hm => have H := H1.call hm; qrp
    · intro w (hm : Mod [] _ w)
      refine bifF rfl ?_
      have H := H1.call hm
      refine qwgr hm ?_
      refine qwgr hm ?_
      refine qwgr hm ?_
      refine qwgr hm ?_
      refine qwgr hm ?_
      refine WG_ld rfl rfl ?_; rintro _ rfl
      refine qwgr hm ?_
      exact OG_rd rfl rfl fun w hm => have H := H1.call hm; qrp
    · intro w (hm : Mod [] _ w)
      refine bifF rfl ?_
      have H := H1.call hm
      exact OG_rd rfl rfl fun w hm => have H := H1.call hm; qrp
    · intro w (hm : Mod [] _ w)
      refine bifF rfl ?_
      have H := H1.call hm
      refine qwgr hm ?_
      exact OG_rd rfl rfl fun w hm => have H := H1.call hm; qrp
    · intro w (hm : Mod [] _ w)
      refine bifF rfl ?_
      have H := H1.call hm
      exact OG_rd rfl rfl fun w hm => have H := H1.call hm; qrp
    · intro w (hm : Mod [] _ w)
      refine bifF rfl ?_
      have H := H1.call hm
      refine qwgr hm ?_
      exact OG_rd rfl rfl fun w hm => have H := H1.call hm; qrp
    · intro w (hm : Mod [] _ w)
      refine bifF rfl ?_
      have H := H1.call hm
      refine qwgr hm ?_
      refine qwgr hm ?_
      exact OG_rd rfl rfl fun w hm => have H := H1.call hm; qrp
    · intro w (hm : Mod [] _ w)
      refine bifF rfl ?_
      have H := H1.call hm
      refine qwgr hm ?_
      refine qwgr hm ?_
      refine qwgr hm ?_
      refine qwgr hm ?_
      refine qwgr hm ?_
      refine WG_ld rfl rfl ?_; rintro _ rfl
      refine qwgr hm ?_
      refine qwgr hm ?_
      refine qwgr hm ?_
      refine qwgr hm ?_
      refine qwgr hm ?_
      refine qwgr hm ?_
      refine qwgr hm ?_
      refine OG_ld rfl rfl ?_
      exact S_call3 _ _ _ (by exact rfl) (by exact rfl) (by exact rfl) (by exact rfl) (expand_c he (fun b hb => Nat.lt_of_lt_of_le (H1.wr_lt hM b hb) hm.size) (H.dat (d := LR.dat M r [.string r.name, .int .i64 (r.arity : Nat), .int .i64 (r.locs : Nat), .int .i64 (r.body.kind : Nat), .string r.body.name, .slice a8 r.body.terms.length c8, .slice a9 r.body.kids.length c9]) (by simp)) (H.dat (d := (LSl LT).dat M g.terms [.slice a6 g.terms.length c6]) (by simp))) fun v w' h => h
    · intro w (hm : Mod [] _ w)
      refine bifF rfl ?_
      have H := H1.call hm
      refine qwgr hm ?_
      refine qwgr hm ?_
      refine qwgr hm ?_
      refine qwgr hm ?_
      refine qwgr hm ?_
      refine WG_ld rfl rfl ?_; rintro _ rfl
      refine qwgr hm ?_
      refine qwgr hm ?_
      refine qwgr hm ?_
      refine qwgr hm ?_
      refine qwgr hm ?_
      refine qwgr hm ?_
      refine qwgr hm ?_
      refine WG_ld rfl rfl ?_; rintro _ ⟨vs13, rfl, h13⟩
      exact OG_rd rfl rfl fun w hm => have H := H1.call hm; qrp
    · intro w (hm : Mod [] _ w)
      refine bifF rfl ?_
      have H := H1.call hm
      refine qwgr hm ?_
      refine qwgr hm ?_
      refine qwgr hm ?_
      refine qwgr hm ?_
      refine qwgr hm ?_
      refine WG_ld rfl rfl ?_; rintro _ rfl
      refine qwgr hm ?_
      refine qwgr hm ?_
      refine qwgr hm ?_
      refine qwgr hm ?_
      refine qwgr hm ?_
      refine qwgr hm ?_
      refine qwgr hm ?_
      refine WG_ld rfl rfl ?_; rintro _ ⟨vs13, rfl, h13⟩
      refine qwgr hm ?_
      exact OG_rd rfl rfl fun w hm => have H := H1.call hm; qrp
    · intro w (hm : Mod [] _ w)
      refine bifF rfl ?_
      have H := H1.call hm
      refine qwgr hm ?_
      refine qwgr hm ?_
      refine qwgr hm ?_
      refine qwgr hm ?_
      refine qwgr hm ?_
      refine WG_ld rfl rfl ?_; rintro _ rfl
      refine qwgr hm ?_
      refine qwgr hm ?_
      refine qwgr hm ?_
      refine qwgr hm ?_
      refine qwgr hm ?_
      refine qwgr hm ?_
      refine qwgr hm ?_
      refine WG_ld rfl rfl ?_; rintro _ ⟨vs13, rfl, h13⟩
      refine qwgr hm ?_
      exact OG_rd rfl rfl fun w hm => have H := H1.call hm; qrp
    · intro w (hm : Mod [] _ w)
      refine bifF rfl ?_
      have H := H1.call hm
      refine qwgr hm ?_
      refine qwgr hm ?_
      refine qwgr hm ?_
      refine qwgr hm ?_
      refine qwgr hm ?_
      refine WG_ld rfl rfl ?_; rintro _ rfl
      refine qwgr hm ?_
      refine qwgr hm ?_
      refine qwgr hm ?_
      refine qwgr hm ?_
      refine qwgr hm ?_
      refine qwgr hm ?_
      refine qwgr hm ?_
      refine WG_ld rfl rfl ?_; rintro _ ⟨vs13, rfl, h13⟩
      refine qwgr hm ?_
      exact OG_rd rfl rfl fun w hm => have H := H1.call hm; qrp
    · intro w (hm : Mod [] _ w)
      refine bifF rfl ?_
      have H := H1.call hm
      refine OG_ld rfl rfl ?_
      refine S_alloc (xs := goZ) (Holds.start _ []) fun b w' H' => ?_
      have ho := H'.own (M := fun c => c < _) (fun _ h => h) 0 rfl
      exact ⟨⟨b, rfl, Nat.le_trans hm.size (Nat.not_lt.1 ho.1), ho.2, H'.atom (List.Mem.head _)⟩, H'.mod⟩
    · intro w (hm : Mod [] _ w)
      refine bifT rfl ?_
      have H := H1.call hm
      refine qwgr (hm.mono (by simp)) ?_
      refine qwgr (hm.mono (by simp)) ?_
      refine qwgr (hm.mono (by simp)) ?_
      refine qwgr (hm.mono (by simp)) ?_
      refine qwgr (hm.mono (by simp)) ?_
      refine WG_ld rfl rfl ?_; rintro _ rfl
      refine qwgr (hm.mono (by simp)) ?_
      refine qwgr (hm.mono (by simp)) ?_
      refine qwgr (hm.mono (by simp)) ?_
      refine qwgr (hm.mono (by simp)) ?_
      refine qwgr (hm.mono (by simp)) ?_
      refine qwgr (hm.mono (by simp)) ?_
      refine qwgr (hm.mono (by simp)) ?_
      refine WG_ld rfl rfl ?_; rintro _ ⟨vs13, rfl, h13⟩
      refine qwgr (hm.mono (by simp)) ?_
      refine qwgr (hm.mono (by simp)) ?_
      refine WG_ld rfl rfl ?_; intro v18 h18
      refine OG_ld rfl rfl ?_
      obtain ⟨b9, rfl, hb9a, hb9b, hb9⟩ := h18
      have H' := (Holds.ofBox hb9).add (d := LG.dat (H1.wr M) y' vs13) (LG.grow _ _ _ _ _ (fun c _ hc => hc.imp id fun hc => by simpa [owns, box] using hc) (away_G (zeroG_stO hb9) (noII_goZ hb9) y' vs13 hpos h13))
      refine S_storeN H' 0 _ _ (by exact rfl) (by exact rfl) (by exact rfl) (LG.len _ _ _ _ h13) (List.all_eq_true.2 (LG.one _ _ _ _ h13)) (by exact rfl) ?_
      intro w2 H2
      have hb2 := H2.boxAt 0 rfl
      rw [putAt_all (by rw [show vs13.length = 4 from LG.len _ _ _ _ h13]; rfl)] at hb2
      exact ⟨⟨b9, vs13, rfl, hb9a, (Array.getElem?_eq_some_iff.1 hb2).1, hb2, LG.grow _ _ _ _ _ (fun c _ hc => hc.imp id fun hc => by simpa [owns, box] using hc) (H2.get 0 rfl)⟩, trivial, hm.fresh H2.mod (by simpa using hb9a)⟩
    · intro w (hm : Mod [] _ w)
      refine bifF rfl ?_
      have H := H1.call hm
      refine qwgr hm ?_
      refine qwgr hm ?_
      refine qwgr hm ?_
      refine qwgr hm ?_
      refine qwgr hm ?_
      refine WG_ld rfl rfl ?_; rintro _ rfl
      refine qwgr hm ?_
      refine qwgr hm ?_
      refine qwgr hm ?_
      refine qwgr hm ?_
      refine qwgr hm ?_
      refine qwgr hm ?_
      refine qwgr hm ?_
      refine WG_ld rfl rfl ?_; rintro _ ⟨vs13, rfl, h13⟩
      refine qwgr hm ?_
      refine qwgr hm ?_
      refine qwgr hm ?_
      refine WG_ld rfl rfl ?_; intro v18 h18
      refine WG_ld rfl rfl ?_; intro v19 h19
      exact OG_rd rfl rfl fun w hm => have H := H1.call hm; qrp
    · intro w (hm : Mod [] _ w)
      refine bifF rfl ?_
      have H := H1.call hm
      refine qwgr hm ?_
      refine qwgr hm ?_
      refine qwgr hm ?_
      refine qwgr hm ?_
      refine qwgr hm ?_
      refine WG_ld rfl rfl ?_; rintro _ rfl
      refine qwgr hm ?_
      refine qwgr hm ?_
      refine qwgr hm ?_
      refine qwgr hm ?_
      refine qwgr hm ?_
      refine qwgr hm ?_
      refine qwgr hm ?_
      refine WG_ld rfl rfl ?_; rintro _ ⟨vs13, rfl, h13⟩
      refine qwgr hm ?_
      refine qwgr hm ?_
      refine qwgr hm ?_
      refine qwgr hm ?_
      refine WG_ld rfl rfl ?_; intro v18 h18
      refine WG_ld rfl rfl ?_; intro v19 h19
      refine qwgr hm ?_
      exact OG_rd rfl rfl fun w hm => have H := H1.call hm; qrp
  intro w hm
  have H := H1.call hm
  refine qwgr hm ?_
  refine qwgr hm ?_
  refine qwgr hm ?_
  refine qwgr hm ?_
  refine qwgr hm ?_
  refine WG_ld rfl rfl ?_; rintro _ rfl
  refine qwgr hm ?_
  refine qwgr hm ?_
  refine qwgr hm ?_
  refine qwgr hm ?_
  refine qwgr hm ?_
  refine qwgr hm ?_
  refine qwgr hm ?_
  refine WG_ld rfl rfl ?_; rintro _ ⟨vs13, rfl, h13⟩
  refine qwgr hm ?_
  refine qwgr hm ?_
  refine qwgr hm ?_
  refine qwgr hm ?_
  refine WG_ld rfl rfl ?_; intro v18 h18
  refine WG_ld rfl rfl ?_; intro v19 h19
  refine qwgr hm ?_
  refine qwgr hm ?_
  refine WG_nil ?_
  obtain ⟨b9, vs9, hu9, hb9a, hb9b, hb9, hr9⟩ := h19
  have hu1 : [v18, Value.agg vs13.toArray] = [.pointer (some ⟨b9, 0, none⟩), .agg vs9.toArray] := hu9
  clear hu9
  simp only [List.cons.injEq, Value.agg.injEq, and_true] at hu1
  obtain ⟨rfl, hu2⟩ := hu1
  obtain rfl : vs13 = vs9 := by simpa using hu2
  clear hu2
  obtain ⟨a11, c11, a12, c12, rfl, _⟩ := rdG_form hr9
  have H := H1.new (a := box b9 [.int .i64 (y'.kind : Nat), .string y'.name, .slice a11 y'.terms.length c11, .slice a12 y'.kids.length c12] 37) hm hb9 (by simp [box]) (fun b hb => by
    have hb : b = b9 := by simpa [box] using hb
    subst hb
    exact ⟨hb9b, hb9a⟩)
  have H := H.add (d := LG.dat M y' [.int .i64 (y'.kind : Nat), .string y'.name, .slice a11 y'.terms.length c11, .slice a12 y'.kids.length c12]) (LG.grow _ _ _ _ _ (fun c _ hc => by
    rcases hc with hc | hc
    · exact .inl (.inl hc)
    · simp only [owns, List.flatMap_cons, List.mem_append] at hc
      rcases hc with hc | hc
      · exact .inr (by simpa [box] using hc)
      · exact .inl (.inr (by simp only [owns, List.flatMap_cons, List.mem_append]; exact hc))) hr9)
  refine WD_end (by decide) ?_
  (repeat (first | refine qq ?_ | (refine qds H ?_; intro H) | (refine qrb H ?_; intro _ w H) | (refine qrs H ?_; intro w H) | (refine qdr H ?_; intro H)))
  rename_i b12
  have stab5 : ∀ (_ : List Value) (_ : Value) (c d : World), c.heap[b6]? = some (.cells [.int .i64 (n' : Nat), .slice a1 x.1.bind.length c1, .slice a2 x.1.dis.length c2, .slice a3 0 c3, .slice a4 0 c4, .slice a5 x.2.length c5].toArray 51 (0, 0)) → Mod [] c d → d.heap[b6]? = some (.cells [.int .i64 (n' : Nat), .slice a1 x.1.bind.length c1, .slice a2 x.1.dis.length c2, .slice a3 0 c3, .slice a4 0 c4, .slice a5 x.2.length c5].toArray 51 (0, 0)) :=
    fun _ _ _ _ h hm => by rw [hm.block b6 (Array.getElem?_eq_some_iff.1 h).1 (by simp)]; exact h
  have H1 := H
  refine WD_whole [b6] 5 (fun _ _ => True) 6 [[], [], [1], [0, 1, 2], [], [0, 1, 2, 3]] [(5, (fun _ _ c => c.heap[b6]? = some (.cells [.int .i64 (n' : Nat), .slice a1 x.1.bind.length c1, .slice a2 x.1.dis.length c2, .slice a3 0 c3, .slice a4 0 c4, .slice a5 x.2.length c5].toArray 51 (0, 0))), (fun _ _ c => c.heap[b6]? = some (.cells [.int .i64 (n' : Nat), .slice a1 x.1.bind.length c1, .slice a2 x.1.dis.length c2, .slice a3 0 c3, .slice a4 0 c4, .slice a5 x.2.length c5].toArray 51 (0, 0))))] (by kernel_rfl) (by exact rfl) (by intro w; first | exact trivial | exact fun _ _ _ _ => rfl) ?_ ?_ _ (by exact rfl) ?_
  · exact ⟨⟨stab5, stab5, fun _ _ _ h => h, .inl (by kernel_rfl)⟩, trivial⟩
  · refine ⟨?_, ?_, ?_, ?_, ?_, ?_, trivial⟩
    · intro w (hm : Mod [b6] _ w)
      refine bifF rfl ?_
      have H := H1.lose 3 rfl hm
      exact OG_rd rfl rfl fun w hm => have H := H1.lose 3 rfl hm; qrp
    · intro w (hm : Mod [b6] _ w)
      refine bifF rfl ?_
      have H := H1.lose 3 rfl hm
      exact OG_rd rfl rfl fun w hm => have H := H1.lose 3 rfl hm; qrp
    · intro w (hm : Mod [b6] _ w)
      refine bifF rfl ?_
      have H := H1.lose 3 rfl hm
      refine qwgr hm ?_
      exact OG_rd rfl rfl fun w hm => have H := H1.lose 3 rfl hm; qrp
    · intro w (hm : Mod [b6] _ w)
      refine bifF rfl ?_
      have H := H1.lose 3 rfl hm
      refine qwgr hm ?_
      refine qwgr hm ?_
      refine qwgr hm ?_
      exact OG_rd rfl rfl fun w hm => have H := H1.lose 3 rfl hm; X_build (by exact rfl) [(0, [.int .i64 (n' : Nat), .slice a1 x.1.bind.length c1, .slice a2 x.1.dis.length c2, .slice a3 0 c3, .slice a4 0 c4]), (1, [.slice a5 x.2.length c5])] (by exact rfl) (by exact rfl)
    · intro w (hm : Mod [b6] _ w)
      refine bifF rfl ?_
      have H := H1.lose 3 rfl hm
      exact OG_rd rfl rfl fun w hm => have H := H1.lose 3 rfl hm; qrp
    · intro w (hm : Mod [] _ w)
      refine bifT rfl ?_
      have H := H1.call hm
      refine qwgr (hm.mono (by simp)) ?_
      refine qwgr (hm.mono (by simp)) ?_
      refine qwgr (hm.mono (by simp)) ?_
      refine WG_rd rfl rfl (hm.mono (by simp)) (X_build (by exact rfl) [(0, [.int .i64 (n' : Nat), .slice a1 x.1.bind.length c1, .slice a2 x.1.dis.length c2, .slice a3 0 c3, .slice a4 0 c4]), (1, [.slice a5 x.2.length c5])] (by exact rfl) (by exact rfl)) ?_
      refine OG_ld rfl rfl ?_
      refine S_storeN (Holds.ofBox (H.boxAt 3 rfl)) 0 _ _ (by exact rfl) (by exact rfl) (by exact rfl) (by exact rfl) (by exact rfl) (by exact rfl) ?_
      intro w2 H2
      exact ⟨H2.boxAt 0 rfl, trivial, (hm.mono (by simp)).trans H2.mod⟩
  intro w hm
  have H := H1.lose 3 rfl hm
  refine qwgr hm ?_
  refine qwgr hm ?_
  refine qwgr hm ?_
  refine WG_rd rfl rfl hm (X_build (by exact rfl) [(0, [.int .i64 (n' : Nat), .slice a1 x.1.bind.length c1, .slice a2 x.1.dis.length c2, .slice a3 0 c3, .slice a4 0 c4]), (1, [.slice a5 x.2.length c5])] (by exact rfl) (by exact rfl)) ?_
  refine qwgr hm ?_
  refine WG_ld rfl rfl ?_; intro v5 h5
  refine WG_nil ?_
  have H := H1.reset 3 rfl hm h5
  refine WD_n (by kernel_rfl) (by exact rfl) (S_storeN H 2 _ _ (by exact rfl) (by exact rfl) (by exact rfl) (by exact rfl) (by exact rfl) (by exact rfl) ?_); intro w H
  refine WD_rd (by kernel_rfl) rfl rfl (X_as (v := .bool _) _ (by exact rfl)) (WD_end (by decide) ?_)
  (repeat (first | refine qq ?_ | (refine qds H ?_; intro H) | (refine qrb H ?_; intro _ w H) | (refine qrs H ?_; intro w H) | (refine qdr H ?_; intro H)))
  exact ⟨_, _, _, _, _, _, rfl, H.bcells 3 6 rfl rfl, rfl, rfl, H.bcells 2 4 rfl rfl, rfl, ⟨_, _, rfl, ⟨_, _, rfl, LSt_next (H.out (L := LSt) 6 rfl) n', H.out (L := LSl LNat) 5 rfl⟩, H.out (L := LG) 0 rfl⟩, H.mod⟩
end Go.Proofs.YtljpfnjpifhdlaaGreatDoor
