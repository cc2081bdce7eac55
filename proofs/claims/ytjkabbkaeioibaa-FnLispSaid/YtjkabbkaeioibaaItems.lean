/- The elements of a list and its tail; contract of the reference's ItemsOf. -/
import Derived.Test.YtjkabbkaeioibaaCopy
import Derived.Test.YtjkabbkaeioibaaNumVal
namespace Go.Proofs.Ytjkabbkaeioibaa
open Go.RowKit

/-- the elements of a list, and what stands behind them -/
def Tm.its : Tm → List Tm
  | .mk k _ _ [d, r] => if k = 4 then d :: r.its else []
  | .mk _ _ _ _ => []
def Tm.tl : Tm → Tm
  | .mk k n s [d, r] => if k = 4 then r.tl else .mk k n s [d, r]
  | .mk k n s xs => .mk k n s xs
theorem its_end {k m : Int} {s : ByteArray} {xs : List Tm} (hk : k ≠ 4) : (Tm.mk k m s xs).its = [] ∧ (Tm.mk k m s xs).tl = .mk k m s xs := by
  match xs with
  | [] => exact ⟨rfl, rfl⟩
  | [x] => exact ⟨rfl, rfl⟩
  | [x, y] => simp only [Tm.its, Tm.tl, if_neg hk]; exact ⟨trivial, trivial⟩
  | _ :: _ :: _ :: _ => exact ⟨rfl, rfl⟩
theorem its_pair {m : Int} {s : ByteArray} {d r : Tm} : (Tm.mk 4 m s [d, r]).its = d :: r.its ∧ (Tm.mk 4 m s [d, r]).tl = r.tl := by
  simp only [Tm.its, Tm.tl, if_true]; exact ⟨trivial, trivial⟩
theorem cnt_pair {k m : Int} {s : ByteArray} {d r : Tm} : (Tm.mk k m s [d, r]).cnt = 1 + d.cnt + r.cnt := by
  simp only [Tm.cnt, cntL]; omega

/-- the term that is looked at lies in the box B; v holds the elements so far -/
def ItRel (Q O : Nat → Prop) (w w1 : World) (B base : Nat) (T : Tm) (v : Value) (wr : World) : Prop :=
  ∃ k m s xs a l c F ts Fs, wr.heap[B]? = some (.cells #[.int .i64 k, .int .i64 m, .string s, .slice a l c] 26 (0, 0)) ∧ RdS wr xs a l c F ∧ (∀ x ∈ F, Q x ∧ x < w.heap.size) ∧ (Tm.mk k m s xs).wf = true ∧
    T.its = ts ++ (Tm.mk k m s xs).its ∧ T.tl = (Tm.mk k m s xs).tl ∧ OwnTs 26 wr base v ts Fs ∧ ts.length + (Tm.mk k m s xs).cnt ≤ 5000 ∧ (∀ x ∈ Fs.flatten, (O x ∧ x < w.heap.size) ∨ base ≤ x) ∧
    (∀ x, x < base → x ≠ B → wr.heap[x]? = w1.heap[x]?) ∧ Below w.heap.size w wr ∧ base ≤ wr.heap.size

theorem OwnTs_set4 {E : Nat} {w : World} {base b : Nat} {v y0 y1 y2 y3 : Value} {ts : List Tm} {Fs : List (List Nat)} (h : OwnTs E w base v ts Fs) (hb : b < base) (hF : ∀ x ∈ Fs.flatten, x ≠ b) :
    OwnTs E ((((w.setCell ⟨b, 0, none⟩ y0).setCell ⟨b, 1, none⟩ y1).setCell ⟨b, 2, none⟩ y2).setCell ⟨b, 3, none⟩ y3) base v ts Fs :=
  OwnTs_set (OwnTs_set (OwnTs_set (OwnTs_set h hb hF) hb hF) hb hF) hb hF
theorem size_set4 {w : World} {b : Nat} {y0 y1 y2 y3 : Value} : ((((w.setCell ⟨b, 0, none⟩ y0).setCell ⟨b, 1, none⟩ y1).setCell ⟨b, 2, none⟩ y2).setCell ⟨b, 3, none⟩ y3).heap.size = w.heap.size := by simp [World.setCell]

theorem it_below {wr w2 w3 : World} {base : Nat} {v : Value} {ts : List Tm} {Fs : List (List Nat)} {o : Obj} (hown : OwnTs 26 wr base v ts Fs) (hbase : base ≤ wr.heap.size)
    (hb2 : Below wr.heap.size wr w2) (hgrow : (w2.alloc o).grownBy w3 v.ownBlock) : Below base wr w3 :=
  (hb2.mono hbase).trans (((Below.refl _ _).alloc (by have := hb2.size; omega) _).trans (below_append hgrow (OwnTs_alloc (OwnTs_below hown hb2) o) (Nat.le_refl _) (by have := hb2.size; simp; omega)))

theorem ItRel_step {Q O : Nat → Prop} {w w1 wr w2 w3 : World} {B base : Nat} {T x : Tm} {v v' : Value} {o : Obj} {q0 q1 q2 q3 : Value} {yk yn : Int} {ys : ByteArray} {yas : List Tm} {ya : Option Addr} {yl yc : Nat} {F2 F' : List Nat} {ts : List Tm} {Fs : List (List Nat)}
    (hB : w.heap.size ≤ B) (hBb : B < base) (hbox : wr.heap[B]? = some (.cells #[q0, q1, q2, q3] 26 (0, 0))) (hry : RdS wr yas ya yl yc F2) (hF2 : ∀ x ∈ F2, Q x ∧ x < w.heap.size) (hy : (Tm.mk yk yn ys yas).wf = true)
    (hits : T.its = ts ++ x :: (Tm.mk yk yn ys yas).its) (htl : T.tl = (Tm.mk yk yn ys yas).tl) (hcnt : ts.length + 1 + (Tm.mk yk yn ys yas).cnt ≤ 5000)
    (hown : OwnTs 26 wr base v ts Fs) (hFs : ∀ x ∈ Fs.flatten, (O x ∧ x < w.heap.size) ∨ base ≤ x) (hmid : ∀ x, x < base → x ≠ B → wr.heap[x]? = w1.heap[x]?) (hbel : Below w.heap.size w wr) (hbase : base ≤ wr.heap.size)
    (hb2 : Below wr.heap.size wr w2) (hgrow : (w2.alloc o).grownBy w3 v.ownBlock) (hown3 : OwnTs 26 w3 base v' (ts ++ [x]) (Fs ++ [F'])) (hF' : ∀ x ∈ F', (O x ∧ x < w.heap.size) ∨ base ≤ x) :
    ItRel Q O w w1 B base T v' ((((w3.setCell ⟨B, 0, none⟩ (.int .i64 yk)).setCell ⟨B, 1, none⟩ (.int .i64 yn)).setCell ⟨B, 2, none⟩ (.string ys)).setCell ⟨B, 3, none⟩ (.slice ya yl yc)) := by
  have hb3 := it_below hown hbase hb2 hgrow
  have hFs' : ∀ x ∈ (Fs ++ [F']).flatten, (O x ∧ x < w.heap.size) ∨ base ≤ x := by
    intro x hx
    simp only [List.flatten_append, List.flatten_cons, List.flatten_nil, List.append_nil, List.mem_append] at hx
    rcases hx with hx | hx
    · exact hFs x hx
    · exact hF' x hx
  refine ⟨yk, yn, ys, yas, ya, yl, yc, F2, ts ++ [x], Fs ++ [F'], heap_set4 ((hb3.block _ hBb).trans hbox), ?_, hF2, hy, by simp [hits], htl, OwnTs_set4 hown3 hBb (fun x hx => by have := hFs' x hx; omega), by simp; omega, hFs', ?_, ?_, ?_⟩
  · refine RdS_same (fun x hx => ?_) hry
    have := (hF2 x hx).2
    rw [heap_set4_other (by omega), hb3.block _ (by omega)]
  · intro x hx hxB
    rw [heap_set4_other hxB, hb3.block _ hx]; exact hmid x hx hxB
  · exact (hbel.trans (hb3.mono (by omega))).trans (below_set4 hB)
  · rw [size_set4]; have := hb3.size; omega

def lenOf : Value → Nat | .slice _ l _ => l | _ => 0
theorem OwnTs_len {E : Nat} {w : World} {base : Nat} {v : Value} {ts : List Tm} {Fs : List (List Nat)} (h : OwnTs E w base v ts Fs) : ∃ a l c, v = .slice a l c ∧ l = ts.length := by
  obtain ⟨a, l, c, _, h1, _, _, h2, _⟩ := OwnTs_rd h
  exact ⟨a, l, c, h1, h2⟩

/-- two results: a slot, and a term in a box -/
theorem results_sterm {fn : Func} {t u : Tmp} (h : fn.results = #[.tmp u, .cell t 26]) (tmps : Array Value) (w : World) (B : Nat) (hp : tmps.getD t undef = .pointer (some ⟨B, 0, none⟩)) {y0 y1 y2 y3 r : Value} {T : Nat} {fz : Nat × Nat}
    (hu : tmps.getD u undef = r) (hb : w.heap[B]? = some (.cells #[y0, y1, y2, y3] T fz)) : (results fn tmps).run Try.prog w = .ok (.tuple #[r, .agg #[y0, y1, y2, y3]]) w := by
  have q0 := cell_of_block hb 0
  have q1 := cell_of_block hb 1
  have q2 := cell_of_block hb 2
  have q3 := cell_of_block hb 3
  simp at q0 q1 q2 q3
  have hp' : tmps[t]?.getD undef = .pointer (some ⟨B, 0, none⟩) := by simpa using hp
  have hu' : tmps[u]?.getD undef = r := by simpa using hu
  simp [results, h, hp', hu', go_sem, q0, q1, q2, q3]

def Tm.itsR (t : Tm) : List Tm := if t.ok = true then t.its else []
def Tm.tlR (t : Tm) : Tm := if t.ok = true then t.tl else Tm.nil
/-- the elements and the tail handed back -/
def ItemsP (w : World) (ts : List Tm) (t : Tm) (e : Ending) (w' : World) : Prop :=
  ∃ a l c F k n s xs a2 l2 c2 F2, t = .mk k n s xs ∧ e = .returned (.tuple #[.slice a l c, .agg #[.int .i64 k, .int .i64 n, .string s, .slice a2 l2 c2]]) ∧ RdS w' ts a l c F ∧ RdS w' xs a2 l2 c2 F2 ∧ (∀ x ∈ F ++ F2, w.heap.size ≤ x) ∧ Below w.heap.size w w'

theorem notown {E : Nat} {w w2 : World} {base : Nat} {v : Value} {ts : List Tm} {Fs : List (List Nat)} {F : List Nat} (hown : OwnTs E w base v ts Fs) (hgr : Grows w w2 [] F) : ∀ x ∈ F, v.ownBlock ≠ some x := by
  intro x hx hh
  have h1 := (hgr.fresh.2 x hx).1
  obtain ⟨es, h2, _⟩ := hown
  have h3 := (h2.lt x hh).2
  omega

theorem wf_lens {t : Tm} : t.wf = true → t.Lens := by
  induction t using Tm.ind with
  | h k n s xs ih =>
    intro h
    match xs, ih, h with
    | [], _, h =>
      simp only [Tm.wf, atomB] at h
      refine .mk k n s [] ?_ (by simp) (by simp)
      have hn : ∀ s, nameB s = true → s.size ≤ 12 := by
        intro s hs; simp only [nameB, Bool.and_eq_true, decide_eq_true_eq] at hs; exact hs.1.1.2
      split at h
      · simp only [Bool.and_eq_true, beq_iff_eq] at h; omega
      · split at h
        · simp only [Bool.and_eq_true, beq_iff_eq] at h; omega
        · split at h
          · simp only [Bool.and_eq_true, beq_iff_eq] at h; have := hn s h.2; omega
          · split at h
            · simp only [Bool.and_eq_true, beq_iff_eq] at h; omega
            · simp at h
    | [x, y], ih, h =>
      simp only [Tm.wf, Bool.and_eq_true, beq_iff_eq] at h
      obtain ⟨⟨⟨⟨_, _⟩, hs⟩, hx⟩, hy⟩ := h
      refine .mk k n s [x, y] (by omega) (by simp) (fun z hz => ?_)
      simp at hz
      rcases hz with rfl | rfl
      · exact ih z (by simp) hx
      · exact ih z (by simp) hy

set_option maxHeartbeats 2000000 in
set_option maxRecDepth 100000 in
theorem ItemsOf_spec (k m : Int) (s : ByteArray) (xs : List Tm) (a : Option Addr) (l c : Nat) (F : List Nat) (w : World) (h : RdS w xs a l c F) (hL : (Tm.mk k m s xs).Lens) (hcn : (Tm.mk k m s xs).cnt ≤ 10000000000) :
    Calls Try.prog 58 #[.agg #[.int .i64 k, .int .i64 m, .string s, .slice a l c]] w (ItemsP w (Tm.mk k m s xs).itsR (Tm.mk k m s xs).tlR) := by
  have hbA : ∀ o1 o2, Below w.heap.size w ((w.alloc o1).alloc o2) := fun o1 o2 => ((Below.refl _ _).alloc (Nat.le_refl _) o1).alloc (by simp) o2
  have HBA := Lib.hid hbA; clear hbA
  have HTO := Lib.hid (TermOk_spec k m s xs a l c F)
  go_enter Try.func58, Try.ntmps58
  go_wp2_with fail
  refine (HTO.out _ (RdS_ext h (HBA.out _ _)) hL hcn).mono ?_
  rintro e w1 ⟨rfl, hb1⟩
  have hb1' := (HBA.out _ _).trans (hb1.mono (by simp; omega))
  have hbox1 : w1.heap[w.heap.size]? = some (.cells #[.int .i64 k, .int .i64 m, .string s, .slice a l c] 26 (0, 0)) := by
    rw [hb1.block _ (by simp; omega), heap_old (by simp)]; exact heap_new rfl
  have hbox2 : w1.heap[w.heap.size + 1]? = some (.cells #[.int .i64 0, .int .i64 0, .string ByteArray.empty, .slice none 0 0] 26 (0, 0)) := by
    rw [hb1.block _ (by simp)]; exact heap_new (by simp)
  have hsz1 : w.heap.size + 1 < w1.heap.size := heap_lt hbox2
  cases hok : (Tm.mk k m s xs).ok with
  | false =>
    have hv1 : Hid ((Tm.mk k m s xs).itsR = []) := by simp [Hid, Tm.itsR, hok]
    have hv2 : Hid ((Tm.mk k m s xs).tlR = Tm.nil) := by simp [Hid, Tm.tlR, hok]
    have HB2 := Lib.hid hbox2
    obtain ⟨q0, q1, q2, q3, qf⟩ := box4 hbox2
    clear hok hbox1 hbox2 hb1
    go_wp2
    rw [hv1.out, hv2.out]
    exact bodyPost_ret (v := .tuple #[.slice none 0 0, .agg #[.int .i64 0, .int .i64 0, .string ByteArray.empty, .slice none 0 0]]) (results_sterm rfl _ _ (w.heap.size + 1) rfl rfl (heap_set4 HB2.out)) rfl ⟨none, 0, 0, [], 0, 0, ByteArray.empty, [], none, 0, 0, [], rfl, rfl, RdS_nil _ _ _, RdS_nil _ _ _, by simp, hb1'.trans (below_set4 (by omega))⟩
  | true =>
    have hv1 : Hid ((Tm.mk k m s xs).itsR = (Tm.mk k m s xs).its) := by simp [Hid, Tm.itsR, hok]
    have hv2 : Hid ((Tm.mk k m s xs).tlR = (Tm.mk k m s xs).tl) := by simp [Hid, Tm.tlR, hok]
    have hwf : (Tm.mk k m s xs).wf = true := by simp [Tm.ok] at hok; exact hok.1
    have hc5 : (Tm.mk k m s xs).cnt ≤ 5000 := by simp [Tm.ok] at hok; exact hok.2
    have hrd1 := RdS_ext h hb1'
    have hFlt := RdS_lt h
    have HB2 := Lib.hid hbox2
    generalize hT : Tm.mk k m s xs = T at *
    have START : ∀ W : World, Below w1.heap.size w1 W → (∃ g, w.heap.size + 2 ≤ g ∧ W.heap[g]? = some (.cells #[] 26 (0, 0)) ∧ g = w1.heap.size) → ItRel (fun _ => True) (fun _ => False) w w1 w.heap.size (w.heap.size + 2) T (.slice (some ⟨w1.heap.size, 0, none⟩) 0 0) W := by
      rintro W hbW ⟨g, hg1, hg2, rfl⟩
      refine ⟨k, m, s, xs, a, l, c, F, [], [], (hbW.block _ (by omega)).trans hbox1, RdS_ext hrd1 hbW, fun x hx => ⟨trivial, hFlt x hx⟩, by rw [hT]; exact hwf, by rw [hT]; rfl, by rw [hT], OwnTs_empty hg1 hg2, by rw [hT]; simpa using hc5, by simp, fun x hx _ => hbW.block x (by omega), hb1'.trans (hbW.mono hb1'.size), by have := hbW.size; omega⟩
    have HST := Lib.hid START
    clear hok hbox1 hb1 hwf hrd1 hFlt h START hc5 hL hcn HTO hbox2
    have HT := Lib.hid hT; clear hT
    go_wp2_with fail
    go_loopw [4] (fun v wr => ItRel (fun _ => True) (fun _ => False) w w1 w.heap.size (w.heap.size + 2) T v wr) (fun v _ => 5000 - lenOf v)
    case atStart => exact HST.out _ ((Below.refl _ _).alloc (Nat.le_refl _) _) ⟨_, by omega, heap_new rfl, rfl⟩
    case round =>
      obtain ⟨k, m, s, xs, a, l, c, F, ts, Fs, hbox, hrd, hF, hwf, hits, htl, hown, hcnt, hFs, hmid, hbel, hbase⟩ := hrel
      have HI := Lib.hid hits; have HTL := Lib.hid htl; have HF := Lib.hid hF; have HFS := Lib.hid hFs; have HMID := Lib.hid hmid
      have HBOX := Lib.hid hbox
      obtain ⟨q0, q1, q2, q3, qf⟩ := box4 hbox
      clear hbox HST hits htl hF hFs hmid
      obtain ⟨va, vl, vc, hv, hvl⟩ := OwnTs_len hown
      have HVL := Lib.hid hvl
      subst hv
      clear hvl
      by_cases hk : k = 4
      · subst hk
        obtain ⟨rfl, hs0, x, y, rfl, hx, hy⟩ := wf_four hwf
        obtain rfl := ba_empty hs0
        obtain ⟨b, o, xk, xn, xs, xas, xa, xl, xc, F1, yk, yn, ys, yas, ya, yl, yc, F2, hxy, rfl, rfl, hblt, ⟨x0, x1, x2, x3⟩, ⟨y0, y1, y2, y3⟩, hrx, hry⟩ := RdS_pair hrd hrd.1
        obtain ⟨rfl, rfl⟩ : x = .mk xk xn xs xas ∧ y = .mk yk yn ys yas := by simpa using hxy
        have hl2 : l = 2 := hrd.1
        subst hl2
        have hbw : b < w.heap.size := (HF.out b (by simp)).2
        have hF2 : Hid (∀ x ∈ F2, True ∧ x < w.heap.size) := fun x hx => HF.out x (by simp [hx])
        have hIts : Hid (T.its = ts ++ (Tm.mk xk xn xs xas) :: (Tm.mk yk yn ys yas).its) := by show _ = _; rw [HI.out, its_pair.1]
        have hTl : Hid (T.tl = (Tm.mk yk yn ys yas).tl) := by show _ = _; rw [HTL.out, its_pair.2]
        have hcn2 : ts.length + 1 + (Tm.mk yk yn ys yas).cnt ≤ 5000 := by rw [cnt_pair] at hcnt; omega
        have HC := Lib.hid (copyT_all _ (wf_lens hx) xk xn xs xas xa xl xc F1 wr rfl hrx)
        have HY := Lib.hid hy
        have hlen : ts.length ≤ 1000000000000 := by omega
        clear hwf hs0 hx hy hxy hrd
        go_wp2_with fail
        refine HC.out.mono ?_
        rintro e w2 ⟨k2, n2, s2, xs2, a2, l2, c2, F3, ht2, rfl, hrd2, hgr2, hb2⟩
        cases ht2
        have hown2 := OwnTs_below hown hb2
        have hs2 := hb2.size
        have HNO := Lib.hid (notown hown hgr2)
        clear HC
        go_wp2_with (at_builtin; refine append_term rfl _ _ rfl (w.heap.size + 2) _ ts _ rfl (OwnTs_alloc hown2 _) _ rfl _ _ _ _ _ _ xas F3 _ _ (heap_new rfl) (RdS_ext hrd2 ((Below.refl _ _).alloc (Nat.le_refl _) _)) HNO.out hlen (by simp; omega) ?_; intro v' w3 hown3 hgrow3; have hb3 := it_below hown hbase hb2 hgrow3; have HB3 := Lib.hid (heap_lt ((hb3.block _ (by omega)).trans HBOX.out)); obtain ⟨r0, r1, r2, r3, rf⟩ := box4 ((hb3.block _ (by omega)).trans HBOX.out); have z0 := (hb3.cell (p := ⟨b, o + 4, none⟩) (show b < w.heap.size + 2 by omega)).trans y0; have z1 := (hb3.cell (p := ⟨b, o + 4 + 1, none⟩) (show b < w.heap.size + 2 by omega)).trans y1; have z2 := (hb3.cell (p := ⟨b, o + 4 + 2, none⟩) (show b < w.heap.size + 2 by omega)).trans y2; have z3 := (hb3.cell (p := ⟨b, o + 4 + 3, none⟩) (show b < w.heap.size + 2 by omega)).trans y3)
        have hlow : ∀ x ∈ F3, ((fun _ : Nat => False) x ∧ x < w.heap.size) ∨ w.heap.size + 2 ≤ x := fun x hx => .inr (by have := (hgr2.fresh.2 x hx).1; omega)
        obtain ⟨a3, l3, c3, rfl, hl3⟩ := OwnTs_len hown3
        refine ⟨ItRel_step (Nat.le_refl _) (by omega) HBOX.out hry hF2.out HY.out hIts.out hTl.out hcn2 hown HFS.out HMID.out hbel hbase hb2 hgrow3 hown3 hlow, ?_⟩
        have := HVL.out
        simp only [lenOf]; simp at hl3; omega
      · have hke : (k == 4) = false := by simpa using hk
        have hR2 := (HMID.out (w.heap.size + 1) (by omega) (by omega)).trans HB2.out
        have hv3 : Hid (T.itsR = ts) := by show _ = _; rw [hv1.out, HI.out, (its_end hk).1]; simp
        have hv4 : Hid (T.tlR = .mk k m s xs) := by show _ = _; rw [hv2.out, HTL.out, (its_end hk).2]
        have HC := Lib.hid (copyT_all _ (wf_lens hwf) k m s xs a l c F wr rfl hrd)
        clear hk hwf
        go_wp2_with fail
        refine HC.out.mono ?_
        rintro e w2 ⟨k2, n2, s2, xs2, a2, l2, c2, F3, ht2, rfl, hrd2, hgr2, hb2⟩
        cases ht2
        have hR3 := (hb2.block _ (by omega)).trans hR2
        have HR3 := Lib.hid hR3
        obtain ⟨r0, r1, r2, r3, rf⟩ := box4 hR3
        obtain ⟨a4, l4, c4, F4, hv4', hrd4, hx4, hx5, hF4⟩ := OwnTs_rd (OwnTs_below hown hb2)
        clear hx4 hx5
        cases hv4'
        have hs2 := hb2.size
        clear hR3 hR2 HC
        go_wp2
        have hlow : ∀ x ∈ F3, x ≠ w.heap.size + 1 := fun x hx => by have := (hgr2.fresh.2 x hx).1; omega
        have hlow4 : ∀ x ∈ F4, x ≠ w.heap.size + 1 := fun x hx => by
          rcases hF4 x hx with h' | h'
          · have := HFS.out x h'; omega
          · omega
        have hnew : ∀ x ∈ F4 ++ F3, w.heap.size ≤ x := fun x hx => by
          rcases List.mem_append.1 hx with hx | hx
          · rcases hF4 x hx with h' | h'
            · rcases HFS.out x h' with ⟨hf, _⟩ | h''
              · exact hf.elim
              · omega
            · omega
          · have := (hgr2.fresh.2 x hx).1; omega
        refine bodyPost_ret (v := .tuple #[.slice va vl vc, .agg #[.int .i64 k, .int .i64 m, .string s, .slice a2 l2 c2]]) (results_sterm rfl _ _ (w.heap.size + 1) rfl rfl (heap_set4 HR3.out)) rfl ?_
        rw [hv3.out, hv4.out]
        exact ⟨va, vl, vc, F4, k, m, s, xs, a2, l2, c2, F3, rfl, rfl, RdS_same (fun x hx => heap_set4_other (hlow4 x hx)) hrd4, RdS_same (fun x hx => heap_set4_other (hlow x hx)) hrd2, hnew, (hbel.trans (hb2.mono hbel.size)).trans (below_set4 (by omega))⟩
end Go.Proofs.Ytjkabbkaeioibaa
