/- MakeLisp: an expression and an environment of bounded size; TermSize; ListTerm of good terms. -/
import Derived.Test.YtjkabbkaeioibaaExB
import Derived.Test.YtjkabbkaeioibaaEvLaw
import Derived.Test.YtjkabbkaeioibaaCopy
namespace Go.Proofs.Ytjkabbkaeioibaa
open Go.RowKit
set_option linter.unusedVariables false

theorem expr6 : ExprT 6 185 := by
  have e1 : ExprT (3 / 2) 3 := expr_base _ (by decide)
  have e2 : ExprT (3 / 3) 3 := expr_base _ (by decide)
  have e3 : ExprT (2 / 2) 3 := expr_base _ (by decide)
  have e4 : ExprT (2 / 3) 3 := expr_base _ (by decide)
  have h3 : ExprT 3 29 := expr_step 3 3 (by decide) (by decide) (by decide) e1 e2
  have h2 : ExprT 2 29 := expr_step 2 3 (by decide) (by decide) (by decide) e3 e4
  exact expr_step 6 29 (by decide) (by decide) (by decide) h3 h2

def MakeP (w : World) (e : Ending) (w' : World) : Prop :=
  ∃ k1 n1 s1 a1 l1 c1 k2 n2 s2 a2 l2 c2, e = .returned (.tuple #[.agg #[.int .i64 k1, .int .i64 n1, .string s1, .slice a1 l1 c1], .agg #[.int .i64 k2, .int .i64 n2, .string s2, .slice a2 l2 c2]]) ∧
    TmV w' w.heap.size 185 k1 n1 s1 a1 l1 c1 ∧ TmV w' w.heap.size 17 k2 n2 s2 a2 l2 c2 ∧ Below w.heap.size w w'
theorem results_cells {fn : Func} {t u : Tmp} (h : fn.results = #[.cell t 26, .cell u 26]) (tmps : Array Value) (w : World) (B C : Nat) (hp : tmps.getD t undef = .pointer (some ⟨B, 0, none⟩)) (hq : tmps.getD u undef = .pointer (some ⟨C, 0, none⟩)) {y0 y1 y2 y3 z0 z1 z2 z3 : Value} {T U : Nat} {fz gz : Nat × Nat}
    (hb : w.heap[B]? = some (.cells #[y0, y1, y2, y3] T fz)) (hc : w.heap[C]? = some (.cells #[z0, z1, z2, z3] U gz)) : (results fn tmps).run Try.prog w = .ok (.tuple #[.agg #[y0, y1, y2, y3], .agg #[z0, z1, z2, z3]]) w := by
  have q0 := cell_of_block hb 0
  have q1 := cell_of_block hb 1
  have q2 := cell_of_block hb 2
  have q3 := cell_of_block hb 3
  have p0 := cell_of_block hc 0
  have p1 := cell_of_block hc 1
  have p2 := cell_of_block hc 2
  have p3 := cell_of_block hc 3
  simp at q0 q1 q2 q3 p0 p1 p2 p3
  have hp' : tmps[t]?.getD undef = .pointer (some ⟨B, 0, none⟩) := by simpa using hp
  have hq' : tmps[u]?.getD undef = .pointer (some ⟨C, 0, none⟩) := by simpa using hq
  simp [results, h, hp', hq', go_sem, q0, q1, q2, q3, p0, p1, p2, p3]
theorem TmV_set4 {V : World} {base N R : Nat} {k n : Int} {s : ByteArray} {a : Option Addr} {l c : Nat} {y0 y1 y2 y3 : Value} (h : TmV V base N k n s a l c) (hR : R < base) : TmV ((((V.setCell ⟨R, 0, none⟩ y0).setCell ⟨R, 1, none⟩ y1).setCell ⟨R, 2, none⟩ y2).setCell ⟨R, 3, none⟩ y3) base N k n s a l c := by
  obtain ⟨xs, F, h1, h2, h3, h4⟩ := h
  exact ⟨xs, F, RdS_same (fun x hx => heap_set4_other (by have := h4 x hx; omega)) h1, h2, h3, h4⟩
theorem MakeP_set {w V : World} {R Q : Nat} {k1 n1 : Int} {s1 : ByteArray} {a1 : Option Addr} {l1 c1 : Nat} {k2 n2 : Int} {s2 : ByteArray} {a2 : Option Addr} {l2 c2 base : Nat} {y0 y1 y2 y3 z0 z1 z2 z3 : Value} (h1 : TmV V base 185 k1 n1 s1 a1 l1 c1) (h2 : TmV V base 17 k2 n2 s2 a2 l2 c2) (hR : R < base) (hQ : Q < base) (hwR : w.heap.size ≤ R) (hwQ : w.heap.size ≤ Q) (hb : Below w.heap.size w V) :
    MakeP w (.returned (.tuple #[.agg #[.int .i64 k1, .int .i64 n1, .string s1, .slice a1 l1 c1], .agg #[.int .i64 k2, .int .i64 n2, .string s2, .slice a2 l2 c2]]))
      ((((((((V.setCell ⟨R, 0, none⟩ y0).setCell ⟨R, 1, none⟩ y1).setCell ⟨R, 2, none⟩ y2).setCell ⟨R, 3, none⟩ y3).setCell ⟨Q, 0, none⟩ z0).setCell ⟨Q, 1, none⟩ z1).setCell ⟨Q, 2, none⟩ z2).setCell ⟨Q, 3, none⟩ z3) :=
  ⟨k1, n1, s1, a1, l1, c1, k2, n2, s2, a2, l2, c2, rfl, (TmV_set4 (TmV_set4 h1 hR) hQ).mono (by omega) (Nat.le_refl _), (TmV_set4 (TmV_set4 h2 hR) hQ).mono (by omega) (Nat.le_refl _), (hb.trans (below_set4 hwR)).trans (below_set4 hwQ)⟩

set_option maxHeartbeats 4000000 in
set_option maxRecDepth 100000 in
theorem MakeLisp_any (w : World) (a : Option Addr) (l cap n : Nat) (hby : Bytes w a l) (hl : l ≤ 1000000000) (hn : n ≤ 1000000) :
    Calls Try.prog 38 #[.slice a l cap, .int .i64 n, .int .i64 6] w (MakeP w) := by
  have hbW : Below w.heap.size w ((w.alloc (.cells #[.int .i64 0, .int .i64 0, .string ⟨#[]⟩, .slice none 0 0] 26)).alloc (.cells #[.int .i64 0, .int .i64 0, .string ⟨#[]⟩, .slice none 0 0] 26)) := ((Below.refl _ _).alloc (Nat.le_refl _) _).alloc (by simp) _
  have hR : ((w.alloc (.cells #[.int .i64 0, .int .i64 0, .string ⟨#[]⟩, .slice none 0 0] 26)).alloc (.cells #[.int .i64 0, .int .i64 0, .string ⟨#[]⟩, .slice none 0 0] 26)).heap[w.heap.size]? = some (.cells #[.int .i64 0, .int .i64 0, .string ⟨#[]⟩, .slice none 0 0] 26 (0, 0)) := (heap_old (by simp)).trans (heap_new rfl)
  have hQ : ((w.alloc (.cells #[.int .i64 0, .int .i64 0, .string ⟨#[]⟩, .slice none 0 0] 26)).alloc (.cells #[.int .i64 0, .int .i64 0, .string ⟨#[]⟩, .slice none 0 0] 26)).heap[w.heap.size + 1]? = some (.cells #[.int .i64 0, .int .i64 0, .string ⟨#[]⟩, .slice none 0 0] 26 (0, 0)) := heap_new (by simp)
  have hsz : ((w.alloc (.cells #[.int .i64 0, .int .i64 0, .string ⟨#[]⟩, .slice none 0 0] 26)).alloc (.cells #[.int .i64 0, .int .i64 0, .string ⟨#[]⟩, .slice none 0 0] 26)).heap.size = w.heap.size + 2 := by simp
  have hby' := Bytes_below hby hbW
  clear hby
  go_enter Try.func38, Try.ntmps38
  go_upto_region 1 with fail
  generalize ((w.alloc (.cells #[.int .i64 0, .int .i64 0, .string ⟨#[]⟩, .slice none 0 0] 26)).alloc (.cells #[.int .i64 0, .int .i64 0, .string ⟨#[]⟩, .slice none 0 0] 26)) = W at *
  have HR := Lib.hid hR; have HQ := Lib.hid hQ
  clear hR hQ
  go_wp2_with fail
  refine (l43New_any W a l cap n hby' hl hn).mono ?_
  rintro e V ⟨B, rfl, hcur⟩
  have hB := hcur.lt
  have hWB : W.heap.size ≤ B := by obtain ⟨_, _, _, _, h, _⟩ := hcur; exact h
  have HRV := Lib.hid ((hcur.bel.block _ (by omega)).trans HR.out)
  have HQV := Lib.hid ((hcur.bel.block _ (by omega)).trans HQ.out)
  have hD := Dst.start hcur
  clear hby'
  go_wp2_with fail
  refine (expr6 W V B a l cap hcur hl).mono ?_
  rintro e V2 ⟨ka, na, sa, aa, la, ca, rfl, ta, hc2, hg2⟩
  replace hD := hD.go hc2 hg2
  have HR2 := Lib.hid ((hg2.block _ (by omega) (by simp; omega)).trans HRV.out)
  have HQ2 := Lib.hid ((hg2.block _ (by omega) (by simp; omega)).trans HQV.out)
  have hs2 := hg2.size
  clear hc2 hg2
  go_upto_region 3 with fail
  have hbV : Below V2.heap.size V2 (V2.alloc (.cells #[.int .i64 ka, .int .i64 na, .string sa, .slice aa la ca] 26)) := (Below.refl _ _).alloc (Nat.le_refl _) _
  have hHb : (V2.alloc (.cells #[.int .i64 ka, .int .i64 na, .string sa, .slice aa la ca] 26)).heap[V2.heap.size]? = some (.cells #[.int .i64 ka, .int .i64 na, .string sa, .slice aa la ca] 26 (0, 0)) := heap_new rfl
  replace hD := hD.below hbV
  replace ta := ta.below hbV
  have HR3 := Lib.hid ((hbV.block _ (by omega)).trans HR2.out)
  have HQ3 := Lib.hid ((hbV.block _ (by omega)).trans HQ2.out)
  generalize V2.alloc (.cells #[.int .i64 ka, .int .i64 na, .string sa, .slice aa la ca] 26) = V3 at *
  obtain ⟨x0, x1, x2, x3, _⟩ := box4 hHb
  have hlb := heap_lt hHb
  have nB : V2.heap.size ≠ B := by omega
  have nR : V2.heap.size ≠ w.heap.size := by omega
  have nQ : V2.heap.size ≠ w.heap.size + 1 := by omega
  have HSk : Hid (V3.cell? ⟨V2.heap.size, 0, none⟩ = some (.int .i64 ka) ∧ V3.cell? ⟨V2.heap.size, 1, none⟩ = some (.int .i64 na) ∧ V3.cell? ⟨V2.heap.size, 2, none⟩ = some (.string sa) ∧ V3.cell? ⟨V2.heap.size, 3, none⟩ = some (.slice aa la ca)) := ⟨x0, x1, x2, x3⟩
  have keep : Hid (∀ w' : World, w'.heap[V2.heap.size]? = V3.heap[V2.heap.size]? → w'.cell? ⟨V2.heap.size, 0, none⟩ = some (.int .i64 ka) ∧ w'.cell? ⟨V2.heap.size, 1, none⟩ = some (.int .i64 na) ∧ w'.cell? ⟨V2.heap.size, 2, none⟩ = some (.string sa) ∧ w'.cell? ⟨V2.heap.size, 3, none⟩ = some (.slice aa la ca)) := by
    intro w' h
    obtain ⟨y0, y1, y2, y3⟩ := HSk.out
    exact ⟨(World.cell?_of_block h).trans y0, (World.cell?_of_block h).trans y1, (World.cell?_of_block h).trans y2, (World.cell?_of_block h).trans y3⟩
  have hg0 : V3.grownBy V3.drew (some B) := grown_below (Below.refl _ _).drew _
  have CE := Lib.hid (l40Env_any W V3.drew B a l cap hD.drew.cur hl)
  have HD := Lib.hid hD.drew
  clear hHb hbV hD
  go_region_held3 (fun w' => w'.cell? ⟨V2.heap.size, 0, none⟩ = some (.int .i64 ka) ∧ w'.cell? ⟨V2.heap.size, 1, none⟩ = some (.int .i64 na) ∧ w'.cell? ⟨V2.heap.size, 2, none⟩ = some (.string sa) ∧ w'.cell? ⟨V2.heap.size, 3, none⟩ = some (.slice aa la ca))
    (first | with_reducible exact keep.out _ (hg0.block _ hlb (by simpa using nB)) | with_reducible exact keep.out _ (hg.block _ hlb (by simpa using nB)) | with_reducible exact keep.out _ ((heap_set4_other nR).trans (hg.block _ hlb (by simpa using nB))) | with_reducible exact keep.out _ ((heap_set4_other nQ).trans (hg.block _ hlb (by simpa using nB))) | with_reducible exact keep.out _ ((heap_set4_other nQ).trans ((heap_set4_other nR).trans (hg.block _ hlb (by simpa using nB)))) | with_reducible exact keep.out _ ((heap_set4_other nR).trans ((heap_set4_other nQ).trans (hg.block _ hlb (by simpa using nB)))))
    (first | (go_at_call 65; (refine CE.out.mono ?_); rintro e V5 ⟨k2, n2, s2, a2, l2, c2, rfl, te, hc5, hg5⟩; have hg : V3.grownBy V5 (some B) := grown_trans hg0 hg5; have hD5 := HD.out.go hc5 hg5; have HR5 := Lib.hid ((hg.block _ (heap_lt HR3.out) (by simp; omega)).trans HR3.out); have HQ5 := Lib.hid ((hg.block _ (heap_lt HQ3.out) (by simp; omega)).trans HQ3.out); obtain ⟨r0, r1, r2, r3, rf⟩ := box4 HR5.out; obtain ⟨q0, q1, q2, q3, qf⟩ := box4 HQ5.out; have hRl := heap_lt HR5.out; have hQl := heap_lt HQ5.out; have hRQ : w.heap.size ≠ w.heap.size + 1 := (by omega); have te2 := te.mono (show w.heap.size + 2 ≤ V3.drew.heap.size by (show _ ≤ V3.heap.size; omega)) (Nat.le_refl _); have ta2 := (ta.mono (show w.heap.size + 2 ≤ V.heap.size by (have := hcur.bel.size; omega)) (Nat.le_refl _)); have hbel := hbW.trans (hD5.cur.bel.mono (by omega))) | fail)
  have ta5 := (ta.grown hg hB).mono (show w.heap.size + 2 ≤ V.heap.size by (have := hcur.bel.size; omega)) (Nat.le_refl _)
  clear ta ta2 te
  go_wp2
  exact bodyPost_ret (results_cells rfl _ _ w.heap.size (w.heap.size + 1) rfl rfl ((heap_set4_other hRQ).trans (heap_set4 HR5.out)) (heap_set4 ((heap_set4_other hRQ.symm).trans HQ5.out))) rfl (MakeP_set ta5 te2 (by omega) (by omega) (Nat.le_refl _) (by omega) hbel)

set_option maxHeartbeats 1000000 in
theorem TermSize_any (k n : Int) (s : ByteArray) (xs : List Tm) (a : Option Addr) (l c : Nat) (F : List Nat) (w : World) (h : RdS w xs a l c F) (hL : (Tm.mk k n s xs).Lens) :
    Calls Try.prog 41 #[.agg #[.int .i64 k, .int .i64 n, .string s, .slice a l c]] w (NodesPost (.mk k n s xs) 5000 w) := by
  have NO := Lib.hid (fun room w' => nodesOf_all hL k n s xs a l c F room w' rfl)
  have hbA : ∀ o, Below w.heap.size w (w.alloc o) := fun o => (Below.refl _ _).alloc (Nat.le_refl _) o
  go_enter Try.func41, Try.ntmps41
  go_wp2_with fail
  refine (NO.out 5000 _ (RdS_ext h (hbA _)) (by decide) (by decide)).mono ?_
  rintro e w2 ⟨rfl, hb2⟩
  go_wp2
  go_ret
  exact ⟨rfl, (hbA _).trans (hb2.mono (by simp))⟩

theorem Rd_ext {w w' : World} {t : Tm} {b o : Nat} {F : List Nat} (h : Rd w t b o F) (hb : Below w.heap.size w w') : Rd w' t b o F :=
  Rd_same t b o F (fun x hx => hb.block x (Rd_lt t b o F h x hx)) h
set_option maxHeartbeats 1000000 in
set_option maxRecDepth 100000 in
theorem allOk_of (ts : List Tm) (b o l c : Nat) (Fs : List (List Nat)) (w : World) (hl : l = ts.length) (hmax : l ≤ 1000000) (hrd : ∀ i t, ts[i]? = some t → Rd w t b (o + 4 * i) (Fs.getD i []))
    (hok : ∀ t ∈ ts, t.ok = true) (hL : ∀ t ∈ ts, t.Lens) :
    Calls Try.prog 68 #[.slice (some ⟨b, o, none⟩) l c] w (TrueB w) := by
  have HL := Lib.hid hl; have HRD := Lib.hid hrd; have HOK := Lib.hid hok; have HLE := Lib.hid hL
  clear hl hrd hok hL
  go_enter Try.func68, Try.ntmps68
  go_wp2
  go_loopw [7] (fun i wr => ∃ j : Nat, j ≤ l ∧ i = .int .i64 j ∧ Below w.heap.size w wr) (fun i _ => l - (intOf i).toNat)
  case atStart => exact ⟨0, Nat.zero_le _, rfl, Below.refl _ _⟩
  case round =>
    obtain ⟨j, hj, rfl, hbel⟩ := hrel
    by_cases hlt : j < l
    · obtain ⟨xk, xn, xs, xas, hx⟩ : ∃ xk xn xs xas, ts[j]? = some (.mk xk xn xs xas) := by
        have h1 : j < ts.length := by have := HL.out; omega
        cases hx : ts[j] with
        | mk xk xn xs xas => exact ⟨xk, xn, xs, xas, by simp [h1, hx]⟩
      have r1 := HRD.out j _ hx
      rw [Rd_mk] at r1
      obtain ⟨x0, x1, x2, xa, xl, xc, x3, hrx⟩ := r1
      have hlt1 := cell_lt x0
      rw [← hbel.cell (p := ⟨b, _, none⟩) hlt1, show o + 4 * j = o + j * 4 by omega] at x0 x1 x2 x3
      have hm := List.mem_of_getElem? hx
      have hok := HOK.out _ hm
      have TS := Lib.hid (fun w' (hw : RdS w' xas xa xl xc (Fs.getD j [])) => TermOk_spec xk xn xs xas xa xl xc _ w' hw (HLE.out _ hm) (by have := (ok_wf hok).2; omega))
      have HO := Lib.hid hok
      clear hx hm hok
      go_wp2_with fail
      refine (TS.out _ (RdS_ext hrx (hbel.trans ((Below.refl _ _).alloc hbel.size _)))).mono ?_
      rintro e w2 ⟨rfl, hb2⟩
      rw [HO.out]
      have hb2' : Below wr.heap.size wr w2 := ((Below.refl _ _).alloc (Nat.le_refl _) _).trans (hb2.mono (by simp))
      clear x0 x1 x2 x3 hb2
      go_wp2
      go_roundw
      case rel => exact ⟨j + 1, by omega, by go_num, hbel.trans (hb2'.mono hbel.size)⟩
      case measure => simp [intOf]; omega
    · go_wp2
      go_ret
      exact ⟨rfl, hbel⟩

theorem list_lens {ts : List Tm} (h : ∀ t ∈ ts, t.Lens) : (Tm.list ts Tm.nil).Lens := lens_listL h
set_option maxHeartbeats 4000000 in
set_option maxRecDepth 100000 in
theorem ListTerm_ok (ts : List Tm) (es : List TV) (Fs : List (List Nat)) (cs : Array Value) (X : World) (g n : Nat) (T : Nat) (fz : Nat × Nat) (hrow : X.heap[g]? = some (.cells cs T fz)) (hcs : (es.flatMap TV.cells).toArray = cs) (hn : n = ts.length) (hn0 : 0 < n) (hn2 : n ≤ 100) (hFs : Fs.length = ts.length) (h : RdVs X ts es Fs)
    (hok : ∀ t ∈ ts, t.ok = true) (hL : ∀ t ∈ ts, t.Lens) (hc : cntL ts + n + 1 ≤ 5000) :
    Calls Try.prog 42 #[.slice (some ⟨g, 0, none⟩) n n, .agg #[.int .i64 0, .int .i64 0, .string ⟨#[]⟩, .slice none 0 0]] X (OutTB X (Tm.list ts Tm.nil) true []) := by
  have hrd := Rd_of_cells (b := g) 0 h (fun j u hj => by rw [cell_of_block hrow, ← hcs]; simpa using hj)
  have AO := Lib.hid (fun w' (hb : Below X.heap.size X w') => allOk_of ts g 0 n n Fs w' hn (by omega) (fun i t hi => Rd_ext (hrd i t hi) hb) hok hL)
  have TN := Lib.hid (fun w' => TermOk_spec 0 0 ⟨#[]⟩ [] none 0 0 [] w' (RdS_nil _ _ _) (.mk _ _ _ _ (by decide) (by decide) (by simp)) (by decide))
  have LS := Lib.hid (fun w' (hb : Below X.heap.size X w') => l02List_some ts (some ⟨g, 0, none⟩) g 0 n n Fs 0 0 ⟨#[]⟩ [] none 0 0 [] w' (RdS_nil _ _ _) (fun _ => rfl) hn (by omega) hFs (fun i t hi => Rd_ext (hrd i t hi) hb))
  have hcn : (Tm.list ts Tm.nil).cnt ≤ 5000 := by rw [cnt_listL]; omega
  have hLL := list_lens hL
  have HCN := Lib.hid hcn; have HLL := Lib.hid hLL
  clear hrd hrow hcs hn hFs h hok hL hc hcn hLL
  have hbA : ∀ o1 o2, Below X.heap.size X ((X.alloc o1).alloc o2) := fun o1 o2 => ((Below.refl _ _).alloc (Nat.le_refl _) _).alloc (by simp) _
  go_enter Try.func42, Try.ntmps42
  go_wp2_with fail
  have hbW := hbA (.cells #[.int .i64 0, .int .i64 0, .string ⟨#[]⟩, .slice none 0 0] 26) (.cells #[.int .i64 0, .int .i64 0, .string ⟨#[]⟩, .slice none 0 0] 26)
  have hT : ((X.alloc (.cells #[.int .i64 0, .int .i64 0, .string ⟨#[]⟩, .slice none 0 0] 26)).alloc (.cells #[.int .i64 0, .int .i64 0, .string ⟨#[]⟩, .slice none 0 0] 26)).heap[X.heap.size]? = some (.cells #[.int .i64 0, .int .i64 0, .string ⟨#[]⟩, .slice none 0 0] 26 (0, 0)) := (heap_old (by simp)).trans (heap_new rfl)
  have hR : ((X.alloc (.cells #[.int .i64 0, .int .i64 0, .string ⟨#[]⟩, .slice none 0 0] 26)).alloc (.cells #[.int .i64 0, .int .i64 0, .string ⟨#[]⟩, .slice none 0 0] 26)).heap[X.heap.size + 1]? = some (.cells #[.int .i64 0, .int .i64 0, .string ⟨#[]⟩, .slice none 0 0] 26 (0, 0)) := heap_new (by simp)
  generalize ((X.alloc (.cells #[.int .i64 0, .int .i64 0, .string ⟨#[]⟩, .slice none 0 0] 26)).alloc (.cells #[.int .i64 0, .int .i64 0, .string ⟨#[]⟩, .slice none 0 0] 26)) = W at *
  clear hbA
  refine (AO.out W hbW).mono ?_
  rintro e w1 ⟨rfl, hb1⟩
  replace hT := (hb1.block _ (heap_lt hT)).trans hT
  replace hR := (hb1.block _ (heap_lt hR)).trans hR
  replace hbW := hbW.trans (hb1.mono hbW.size)
  clear hb1
  have HR1 := Lib.hid hR; have HT1 := Lib.hid hT
  obtain ⟨t0, t1, t2, t3, _⟩ := box4 hT
  have hTl := heap_lt hT
  clear hR hT
  go_wp2_with fail
  refine (TN.out w1).mono ?_
  rintro e w2 ⟨rfl, hb2⟩
  rw [show (Tm.mk 0 0 ⟨#[]⟩ []).ok = true by decide +kernel]
  replace hbW := hbW.trans (hb2.mono hbW.size)
  have HR2 := Lib.hid ((hb2.block _ (heap_lt HR1.out)).trans HR1.out)
  have HT2 := Lib.hid ((hb2.block _ (heap_lt HT1.out)).trans HT1.out)
  clear t0 t1 t2 t3 hTl hb2 HT1 HR1
  obtain ⟨t0, t1, t2, t3, _⟩ := box4 HT2.out
  have hTl := heap_lt HT2.out
  go_wp2_with fail
  refine (LS.out w2 hbW).mono ?_
  rintro e w3 ⟨k, m, s, xs, a, l, c, F, ht, rfl, hrd, hgr, hb3⟩
  have htt : Tm.list ts Tm.nil = .mk k m s xs := ht
  have hcn := HCN.out
  rw [htt] at hcn
  replace hbW := hbW.trans (hb3.mono hbW.size)
  have HR3 := Lib.hid ((hb3.block _ (heap_lt HR2.out)).trans HR2.out)
  have HT3 := Lib.hid ((hb3.block _ (heap_lt HT2.out)).trans HT2.out)
  have FI := Lib.hid (l02Fits_any k m s xs a l c F w3 hrd (by omega))
  have HC3 := Lib.hid hcn
  clear t0 t1 t2 t3 hTl hb3 HT2 HR2 ht htt hrd hgr hcn
  go_wp2_with fail
  refine FI.out.mono ?_
  rintro e w4 ⟨rfl, hb4⟩
  rw [decide_eq_true HC3.out]
  replace hbW := hbW.trans (hb4.mono hbW.size)
  have HR4 := Lib.hid ((hb4.block _ (heap_lt HR3.out)).trans HR3.out)
  have HT4 := Lib.hid ((hb4.block _ (heap_lt HT3.out)).trans HT3.out)
  clear hb4 HT3 HR3 FI HC3
  obtain ⟨t0, t1, t2, t3, _⟩ := box4 HT4.out
  have hTl := heap_lt HT4.out
  go_wp2_with fail
  refine (LS.out w4 hbW).mono ?_
  rintro e w5 ⟨k2, m2, s2, xs2, a2, l2, c2, F2, ht, rfl, hrd, hgr, hb5⟩
  have htt : Tm.list ts Tm.nil = .mk k2 m2 s2 xs2 := ht
  replace hbW := hbW.trans (hb5.mono hbW.size)
  have HR5 := Lib.hid ((hb5.block _ (heap_lt HR4.out)).trans HR4.out)
  have hLL := HLL.out
  rw [htt] at hLL
  have CP := Lib.hid (copyT_all _ hLL k2 m2 s2 xs2 a2 l2 c2 F2 w5 rfl hrd)
  have HTT := Lib.hid htt
  clear t0 t1 t2 t3 hTl hb5 HT4 HR4 ht htt hgr hLL hrd
  go_wp2_with fail
  refine CP.out.mono ?_
  rintro e w6 ⟨k3, m3, s3, xs3, a3, l3, c3, F3, ht, rfl, hrd, hgr, hb6⟩
  have hRl5 := heap_lt HR5.out
  have HR6 := Lib.hid ((hb6.block _ hRl5).trans HR5.out)
  have hX5 := hbW.size
  have hF : ∀ x ∈ F3, w5.heap.size ≤ x := fun x hx => by rcases hgr.mem x hx with h' | ⟨h', _⟩; simp at h'; exact h'
  replace hbW := hbW.trans (hb6.mono hbW.size)
  obtain ⟨r0, r1, r2, r3, rf⟩ := box4 HR6.out
  have hRl := heap_lt HR6.out
  have HT3 := Lib.hid (HTT.out.trans ht)
  clear ht hb6
  go_wp2
  exact bodyPost_ret (results_term2 rfl _ _ (X.heap.size + 1) rfl rfl (heap_set4 HR6.out)) rfl (OutTB_set HT3.out hrd ⟨fun x hx => .inr ⟨by have := hF x hx; omega, by rcases hgr.mem x hx with h' | ⟨_, h'⟩; simp at h'; exact h'⟩, fun _ => hgr.nodup (by simp)⟩ hbW (by omega) (fun x hx => by have := hF x hx; omega))
end Go.Proofs.Ytjkabbkaeioibaa
