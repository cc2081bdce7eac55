/- Contracts of the comparisons of two terms of the right form: orderTerms, equalTerms; the reference's l02Cmp, l02Same. -/
import Derived.Test.YtjkabbkaeioibaaItems
import Derived.StillTailTactics
namespace Go.Proofs.Ytjkabbkaeioibaa
open Go.RowKit

/-- are two terms the same? -/
noncomputable def tmEq (a b : Tm) : Bool := @decide (a = b) (Classical.propDecidable _)
theorem tmEq_iff {a b : Tm} : tmEq a b = true ↔ a = b := by simp [tmEq]
theorem tmEq_false {a b : Tm} : tmEq a b = false ↔ a ≠ b := by simp [tmEq]
theorem tmEq_refl (a : Tm) : tmEq a a = true := tmEq_iff.2 rfl

theorem wf_split {k n : Int} {s : ByteArray} {xs : List Tm} (h : (Tm.mk k n s xs).wf = true) : (k ≠ 4 ∧ xs = []) ∨ (k = 4 ∧ n = 0 ∧ s.size = 0 ∧ ∃ x y, xs = [x, y] ∧ x.wf = true ∧ y.wf = true) := by
  by_cases hk : k = 4
  · subst hk
    exact .inr ⟨rfl, wf_four h⟩
  · left
    refine ⟨hk, ?_⟩
    match xs, h with
    | [], _ => rfl
    | [x, y], h => simp [Tm.wf, hk] at h

theorem bytesNe {a b : ByteArray} (h : a ≠ b) : (a.toList == b.toList) = false := by
  rw [ByteArray.toList_eq, ByteArray.toList_eq, beq_eq_false_iff_ne]
  exact fun hh => h (Go.WideShapes.bytes_inj hh)
def CmpP (t1 t2 : Tm) (w : World) (e : Ending) (w' : World) : Prop := ∃ v : Int, e = .returned (.int .i64 v) ∧ (v = 0 ↔ t1 = t2) ∧ Below w.heap.size w w'

theorem l02Sign_any (b : Bool) (w : World) : Calls Try.prog 92 #[.bool b] w fun e w' => (∃ v : Int, e = .returned (.int .i64 v) ∧ v ≠ 0) ∧ w = w' := by
  cases b
  · go_enter Try.func92, Try.ntmps92
    go_wp2
    go_ret
    exact ⟨⟨1, rfl, by decide⟩, rfl⟩
  · go_enter Try.func92, Try.ntmps92
    go_wp2
    go_ret
    exact ⟨⟨-1, rfl, by decide⟩, rfl⟩
theorem orderInts_ne (a b : Int) (h : a ≠ b) (w : World) : Calls Try.prog 108 #[.int .i64 a, .int .i64 b] w fun e w' => (∃ v : Int, e = .returned (.int .i64 v) ∧ v ≠ 0) ∧ w = w' := by
  by_cases hl : a < b
  · clear h
    go_enter Try.func108, Try.ntmps108
    go_wp2
    go_ret
    exact ⟨⟨-1, rfl, by decide⟩, rfl⟩
  · have hg : b < a := by omega
    clear h
    go_enter Try.func108, Try.ntmps108
    go_wp2
    go_ret
    exact ⟨⟨1, rfl, by decide⟩, rfl⟩

def CmpT (f : Nat) (t1 : Tm) : Prop := ∀ (k1 n1 : Int) (s1 : ByteArray) (xs1 : List Tm) (a1 : Option Addr) (l1 c1 : Nat) (F1 : List Nat) (k2 n2 : Int) (s2 : ByteArray) (xs2 : List Tm) (a2 : Option Addr) (l2 c2 : Nat) (F2 : List Nat) (w : World),
  t1 = .mk k1 n1 s1 xs1 → RdS w xs1 a1 l1 c1 F1 → RdS w xs2 a2 l2 c2 F2 → (Tm.mk k1 n1 s1 xs1).wf = true → (Tm.mk k2 n2 s2 xs2).wf = true →
  Calls Try.prog f #[.agg #[.int .i64 k1, .int .i64 n1, .string s1, .slice a1 l1 c1], .agg #[.int .i64 k2, .int .i64 n2, .string s2, .slice a2 l2 c2]] w (CmpP t1 (.mk k2 n2 s2 xs2) w)

set_option maxHeartbeats 2000000 in
set_option maxRecDepth 100000 in
theorem order_all (t : Tm) : CmpT 93 t := by
  induction t using Tm.ind with
  | h k0 n0 s0 xs0 ih =>
    intro k1 n1 s1 xs1 a1 l1 c1 F1 k2 n2 s2 xs2 a2 l2 c2 F2 w ht h1 h2 hw1 hw2
    cases ht
    have hbA : ∀ o1 o2, Below w.heap.size w ((w.alloc o1).alloc o2) := fun o1 o2 => ((Below.refl _ _).alloc (Nat.le_refl _) o1).alloc (by simp) o2
    have HBA := Lib.hid hbA; clear hbA
    by_cases hk : k0 = k2
    case neg =>
      have HK := Lib.hid hk
      have hk' : (k0 != k2) = true := by simpa using hk
      clear hk ih
      go_enter Try.func93, Try.ntmps93
      go_wp2_with fail
      refine (orderInts_ne _ _ HK.out _).mono ?_
      rintro e w1 ⟨⟨v, rfl, hv⟩, rfl⟩
      go_wp2
      go_ret
      exact ⟨v, rfl, ⟨fun h => absurd h hv, fun h => by cases h; exact absurd rfl HK.out⟩, HBA.out _ _⟩
    subst hk
    by_cases hn : n0 = n2
    case neg =>
      have HK := Lib.hid hn
      have hk' : (n0 != n2) = true := by simpa using hn
      clear hn ih
      go_enter Try.func93, Try.ntmps93
      go_wp2_with fail
      refine (orderInts_ne _ _ HK.out _).mono ?_
      rintro e w1 ⟨⟨v, rfl, hv⟩, rfl⟩
      go_wp2
      go_ret
      exact ⟨v, rfl, ⟨fun h => absurd h hv, fun h => by cases h; exact absurd rfl HK.out⟩, HBA.out _ _⟩
    subst hn
    by_cases hs : s0 = s2
    case neg =>
      have HK := Lib.hid hs
      have hk' := bytesNe hs
      clear hs ih
      go_enter Try.func93, Try.ntmps93
      go_wp2
      all_goals
        go_ret
        exact ⟨_, rfl, ⟨(fun h => by cases h), (fun h => by cases h; exact absurd rfl HK.out)⟩, HBA.out _ _⟩
    subst hs
    rcases wf_split hw1 with ⟨hk, rfl⟩ | ⟨rfl, rfl, hs0, x1, y1, rfl, hx1, hy1⟩
    · rcases wf_split hw2 with ⟨_, rfl⟩ | ⟨rfl, _⟩
      · have hk' : (k0 != 4) = true := by simpa using hk
        clear ih hk hw1 hw2
        go_enter Try.func93, Try.ntmps93
        go_wp2
        go_ret
        exact ⟨0, rfl, ⟨fun _ => rfl, fun _ => rfl⟩, HBA.out _ _⟩
      · exact absurd rfl hk
    · rcases wf_split hw2 with ⟨hk, rfl⟩ | ⟨_, _, _, x2, y2, rfl, hx2, hy2⟩
      · exact absurd rfl hk
      · obtain ⟨b1, o1, xk, xn, xs, xas, xa, xl, xc, G1, yk, yn, ys, yas, ya, yl, yc, G2, hxy, rfl, rfl, hblt, ⟨x10, x11, x12, x13⟩, ⟨y10, y11, y12, y13⟩, hrx1, hry1⟩ := RdS_pair h1 h1.1
        obtain ⟨rfl, rfl⟩ : x1 = .mk xk xn xs xas ∧ y1 = .mk yk yn ys yas := by simpa using hxy
        obtain ⟨b2, o2, zk, zn, zs, zas, za, zl, zc, G3, uk, un, us, uas, ua, ul, uc, G4, hzu, rfl, rfl, hblt2, ⟨x20, x21, x22, x23⟩, ⟨y20, y21, y22, y23⟩, hrx2, hry2⟩ := RdS_pair h2 h2.1
        obtain ⟨rfl, rfl⟩ : x2 = .mk zk zn zs zas ∧ y2 = .mk uk un us uas := by simpa using hzu
        have hl1 : l1 = 2 := h1.1
        have hl2 : l2 = 2 := h2.1
        subst hl1 hl2
        obtain rfl := ba_empty hs0
        have IX := Lib.hid (ih _ (by simp : Tm.mk xk xn xs xas ∈ _) xk xn xs xas xa xl xc G1 zk zn zs zas za zl zc G3)
        have IY := Lib.hid (ih _ (by simp : Tm.mk yk yn ys yas ∈ _) yk yn ys yas ya yl yc G2 uk un us uas ua ul uc G4)
        have HW := Lib.hid (And.intro (And.intro hx1 hy1) (And.intro hx2 hy2))
        clear ih hw1 hw2 hxy hzu hs0 h1 h2 hx1 hy1 hx2 hy2
        have HP : Hid (∀ (P : Prop), (Tm.mk 4 0 ByteArray.empty [Tm.mk xk xn xs xas, Tm.mk yk yn ys yas] = Tm.mk 4 0 ByteArray.empty [Tm.mk zk zn zs zas, Tm.mk uk un us uas]) ↔ (Tm.mk xk xn xs xas = Tm.mk zk zn zs zas ∧ Tm.mk yk yn ys yas = Tm.mk uk un us uas)) := by
          intro _; constructor
          · intro h; cases h; exact ⟨rfl, rfl⟩
          · rintro ⟨h1, h2⟩; cases h1; cases h2; rfl
        generalize Tm.mk xk xn xs xas = X1 at *
        generalize Tm.mk yk yn ys yas = Y1 at *
        go_enter Try.func93, Try.ntmps93
        go_wp2_with fail
        have hbN := HBA.out (.cells #[.int .i64 4, .int .i64 0, .string ByteArray.empty, .slice (some ⟨b1, o1, none⟩) 2 c1] 26) (.cells #[.int .i64 4, .int .i64 0, .string ByteArray.empty, .slice (some ⟨b2, o2, none⟩) 2 c2] 26)
        have hA1 : ((w.alloc (.cells #[.int .i64 4, .int .i64 0, .string ByteArray.empty, .slice (some ⟨b1, o1, none⟩) 2 c1] 26)).alloc (.cells #[.int .i64 4, .int .i64 0, .string ByteArray.empty, .slice (some ⟨b2, o2, none⟩) 2 c2] 26)).heap[w.heap.size]? = some (.cells #[.int .i64 4, .int .i64 0, .string ByteArray.empty, .slice (some ⟨b1, o1, none⟩) 2 c1] 26 (0, 0)) := by
          rw [heap_old (by simp)]; exact heap_new rfl
        have hA2 : ((w.alloc (.cells #[.int .i64 4, .int .i64 0, .string ByteArray.empty, .slice (some ⟨b1, o1, none⟩) 2 c1] 26)).alloc (.cells #[.int .i64 4, .int .i64 0, .string ByteArray.empty, .slice (some ⟨b2, o2, none⟩) 2 c2] 26)).heap[w.heap.size + 1]? = some (.cells #[.int .i64 4, .int .i64 0, .string ByteArray.empty, .slice (some ⟨b2, o2, none⟩) 2 c2] 26 (0, 0)) := heap_new (by simp)
        generalize (w.alloc (.cells #[.int .i64 4, .int .i64 0, .string ByteArray.empty, .slice (some ⟨b1, o1, none⟩) 2 c1] 26)).alloc (.cells #[.int .i64 4, .int .i64 0, .string ByteArray.empty, .slice (some ⟨b2, o2, none⟩) 2 c2] 26) = W at *
        have HA1 := Lib.hid hA1; have HA2 := Lib.hid hA2
        obtain ⟨_, _, _, p3, _⟩ := box4 hA1
        obtain ⟨_, _, _, q3, _⟩ := box4 hA2
        have hl1 := heap_lt hA1; have hl2 := heap_lt hA2
        rw [← hbN.cell (p := ⟨b1, _, none⟩) hblt] at x10 x11 x12 x13 y10 y11 y12 y13
        rw [← hbN.cell (p := ⟨b2, _, none⟩) hblt2] at x20 x21 x22 x23 y20 y21 y22 y23
        have hb1W : b1 < W.heap.size := Nat.lt_of_lt_of_le hblt hbN.size
        have hb2W : b2 < W.heap.size := Nat.lt_of_lt_of_le hblt2 hbN.size
        have hrx1' := RdS_ext (w' := W.drew) hrx1 hbN.drew; have hrx2' := RdS_ext (w' := W.drew) hrx2 hbN.drew
        have HRX := Lib.hid (And.intro hrx1' hrx2')
        clear hA1 hA2 hrx1' hrx2'
        go_still_tail 8, (by kernel_rfl)
        go_wp2_with fail
        refine (IX.out W.drew trivial HRX.out.1 HRX.out.2 HW.out.1.1 HW.out.2.1).mono ?_
        rintro e w2 ⟨v, rfl, hv, hb2⟩
        have hbW : Below W.heap.size W w2 := below_of_drew hb2
        by_cases hv0 : v = 0
        · have hX := hv.1 hv0
          have HX := Lib.hid hX
          subst hv0
          have r3 := (hbW.cell (p := ⟨w.heap.size, 3, none⟩) hl1).trans p3
          have u3 := (hbW.cell (p := ⟨w.heap.size + 1, 3, none⟩) hl2).trans q3
          rw [← hbW.cell (p := ⟨b1, _, none⟩) hb1W] at y10 y11 y12 y13
          rw [← hbW.cell (p := ⟨b2, _, none⟩) hb2W] at y20 y21 y22 y23
          have hbE := hbN.trans (hbW.mono hbN.size)
          have hry1' := RdS_ext (w' := w2.drew) hry1 hbE.drew; have hry2' := RdS_ext (w' := w2.drew) hry2 hbE.drew
          have HRY := Lib.hid (And.intro hry1' hry2')
          clear x10 x11 x12 x13 x20 x21 x22 x23 p3 q3 hX hv hb2 hry1' hry2'
          go_wp2_with fail
          go_still_tail 8, (by kernel_rfl)
          go_wp2_with fail
          refine (IY.out w2.drew trivial HRY.out.1 HRY.out.2 HW.out.1.2 HW.out.2.2).mono ?_
          rintro e w3 ⟨v, rfl, hv, hb3⟩
          have hb3' : Below w2.heap.size w2 w3 := below_of_drew hb3
          have HV := Lib.hid hv
          clear hv
          go_wp2
          go_ret
          exact ⟨v, rfl, by rw [HV.out, HP.out True]; exact ⟨fun h => ⟨HX.out, h⟩, fun h => h.2⟩, hbE.trans (hb3'.mono hbE.size)⟩
        · have hd : (v != 0) = true := by simpa using hv0
          have HV := Lib.hid hv0; have HV2 := Lib.hid hv
          clear x10 x11 x12 x13 x20 x21 x22 x23 y10 y11 y12 y13 y20 y21 y22 y23 hv0 hv
          go_wp2
          go_ret
          exact ⟨v, rfl, ⟨fun h => absurd h HV.out, fun h => absurd (HV2.out.2 (by cases h; rfl)) HV.out⟩, hbN.trans (hbW.mono hbN.size)⟩

theorem equal_any (k1 n1 : Int) (s1 : ByteArray) (xs1 : List Tm) (a1 : Option Addr) (l1 c1 : Nat) (F1 : List Nat) (k2 n2 : Int) (s2 : ByteArray) (xs2 : List Tm) (a2 : Option Addr) (l2 c2 : Nat) (F2 : List Nat) (w : World)
    (h1 : RdS w xs1 a1 l1 c1 F1) (h2 : RdS w xs2 a2 l2 c2 F2) (hw1 : (Tm.mk k1 n1 s1 xs1).wf = true) (hw2 : (Tm.mk k2 n2 s2 xs2).wf = true) :
    Calls Try.prog 80 #[.agg #[.int .i64 k1, .int .i64 n1, .string s1, .slice a1 l1 c1], .agg #[.int .i64 k2, .int .i64 n2, .string s2, .slice a2 l2 c2]] w
      fun e w' => e = .returned (.bool (tmEq (.mk k1 n1 s1 xs1) (.mk k2 n2 s2 xs2))) ∧ Below w.heap.size w w' := by
  have HC := Lib.hid (order_all (.mk k1 n1 s1 xs1) k1 n1 s1 xs1 a1 l1 c1 F1 k2 n2 s2 xs2 a2 l2 c2 F2)
  have hbA : ∀ o1 o2, Below w.heap.size w ((w.alloc o1).alloc o2) := fun o1 o2 => ((Below.refl _ _).alloc (Nat.le_refl _) o1).alloc (by simp) o2
  have HBA := Lib.hid hbA; clear hbA
  go_enter Try.func80, Try.ntmps80
  go_wp2_with fail
  refine (HC.out _ (by trivial) (RdS_ext h1 (HBA.out _ _)) (RdS_ext h2 (HBA.out _ _)) hw1 hw2).mono ?_
  rintro e w2 ⟨v, rfl, hv, hb2⟩
  have hbE := (HBA.out _ _).trans (hb2.mono (by simp; omega))
  by_cases hv0 : v = 0
  · have ht : Hid (tmEq (.mk k1 n1 s1 xs1) (.mk k2 n2 s2 xs2) = true) := tmEq_iff.2 (hv.1 hv0)
    subst hv0
    clear hv
    go_wp2
    go_ret
    exact ⟨by rw [ht.out]; rfl, hbE⟩
  · have ht : Hid (tmEq (.mk k1 n1 s1 xs1) (.mk k2 n2 s2 xs2) = false) := tmEq_false.2 (fun h => hv0 (hv.2 h))
    have hd : (v == 0) = false := by simpa using hv0
    clear hv hv0
    go_wp2
    go_ret
    exact ⟨by rw [ht.out]; rfl, hbE⟩

set_option maxHeartbeats 2000000 in
set_option maxRecDepth 100000 in
theorem cmp_all (t : Tm) : CmpT 79 t := by
  induction t using Tm.ind with
  | h k0 n0 s0 xs0 ih =>
    intro k1 n1 s1 xs1 a1 l1 c1 F1 k2 n2 s2 xs2 a2 l2 c2 F2 w ht h1 h2 hw1 hw2
    cases ht
    have hbA : ∀ o1 o2, Below w.heap.size w ((w.alloc o1).alloc o2) := fun o1 o2 => ((Below.refl _ _).alloc (Nat.le_refl _) o1).alloc (by simp) o2
    have HBA := Lib.hid hbA; clear hbA
    by_cases hk : k0 = k2
    case neg =>
      have HK := Lib.hid hk
      have hk' : (k0 != k2) = true := by simpa using hk
      clear hk ih
      go_enter Try.func79, Try.ntmps79
      go_wp2_with fail
      refine (l02Sign_any _ _).mono ?_
      rintro e w1 ⟨⟨v, rfl, hv⟩, rfl⟩
      go_wp2
      go_ret
      exact ⟨v, rfl, ⟨fun h => absurd h hv, fun h => by cases h; exact absurd rfl HK.out⟩, HBA.out _ _⟩
    subst hk
    by_cases hn : n0 = n2
    case neg =>
      have HK := Lib.hid hn
      have hk' : (n0 != n2) = true := by simpa using hn
      clear hn ih
      go_enter Try.func79, Try.ntmps79
      go_wp2_with fail
      refine (l02Sign_any _ _).mono ?_
      rintro e w1 ⟨⟨v, rfl, hv⟩, rfl⟩
      go_wp2
      go_ret
      exact ⟨v, rfl, ⟨fun h => absurd h hv, fun h => by cases h; exact absurd rfl HK.out⟩, HBA.out _ _⟩
    subst hn
    by_cases hs : s0 = s2
    case neg =>
      have HK := Lib.hid hs
      have hk' := bytesNe hs
      clear hs ih
      go_enter Try.func79, Try.ntmps79
      go_wp2_with fail
      refine (l02Sign_any _ _).mono ?_
      rintro e w1 ⟨⟨v, rfl, hv⟩, rfl⟩
      go_wp2
      go_ret
      exact ⟨v, rfl, ⟨fun h => absurd h hv, fun h => by cases h; exact absurd rfl HK.out⟩, HBA.out _ _⟩
    subst hs
    have hlen : xs0.length = xs2.length ∧ xs0.length ≤ 2 := by
      rcases wf_split hw1 with ⟨hk, rfl⟩ | ⟨rfl, rfl, hs0, x1, y1, rfl, hx1, hy1⟩
      · rcases wf_split hw2 with ⟨_, rfl⟩ | ⟨rfl, _⟩
        · simp
        · exact absurd rfl hk
      · rcases wf_split hw2 with ⟨hk, rfl⟩ | ⟨_, _, _, x2, y2, rfl, hx2, hy2⟩
        · exact absurd rfl hk
        · simp
    have hwx : (∀ x ∈ xs0, x.wf = true) ∧ (∀ x ∈ xs2, x.wf = true) := by
      constructor
      · rcases wf_split hw1 with ⟨hk, rfl⟩ | ⟨rfl, rfl, hs0, x1, y1, rfl, hx1, hy1⟩
        · simp
        · intro x hx; simp at hx; rcases hx with rfl | rfl <;> assumption
      · rcases wf_split hw2 with ⟨hk, rfl⟩ | ⟨rfl, rfl, hs0, x1, y1, rfl, hx1, hy1⟩
        · simp
        · intro x hx; simp at hx; rcases hx with rfl | rfl <;> assumption
    obtain ⟨b1, o1, Fs1, ha1, hl1, _, he1, _⟩ := RdS_each h1
    obtain ⟨b2, o2, Fs2, ha2, hl2, _, he2, _⟩ := RdS_each h2
    obtain ⟨hlen1, hlen2⟩ := hlen
    obtain rfl : l1 = l2 := by omega
    have hl12 : l1 ≤ 2 := by omega
    have HA1 := Lib.hid ha1; have HA2 := Lib.hid ha2; have HL1 := Lib.hid hl1; have HL2 := Lib.hid hl2; have HE1 := Lib.hid he1; have HE2 := Lib.hid he2; have HWX := Lib.hid hwx; have IH := Lib.hid ih
    clear ha1 ha2 hl1 hl2 he1 he2 hwx ih hlen1 hlen2 hw1 hw2 h1 h2
    go_enter Try.func79, Try.ntmps79
    go_wp2_with fail
    have hbN := HBA.out (.cells #[.int .i64 k0, .int .i64 n0, .string s0, .slice a1 l1 c1] 26) (.cells #[.int .i64 k0, .int .i64 n0, .string s0, .slice a2 l1 c2] 26)
    have hA1 : ((w.alloc (.cells #[.int .i64 k0, .int .i64 n0, .string s0, .slice a1 l1 c1] 26)).alloc (.cells #[.int .i64 k0, .int .i64 n0, .string s0, .slice a2 l1 c2] 26)).heap[w.heap.size]? = some (.cells #[.int .i64 k0, .int .i64 n0, .string s0, .slice a1 l1 c1] 26 (0, 0)) := by
      rw [heap_old (by simp)]; exact heap_new rfl
    have hA2 : ((w.alloc (.cells #[.int .i64 k0, .int .i64 n0, .string s0, .slice a1 l1 c1] 26)).alloc (.cells #[.int .i64 k0, .int .i64 n0, .string s0, .slice a2 l1 c2] 26)).heap[w.heap.size + 1]? = some (.cells #[.int .i64 k0, .int .i64 n0, .string s0, .slice a2 l1 c2] 26 (0, 0)) := heap_new (by simp)
    generalize (w.alloc (.cells #[.int .i64 k0, .int .i64 n0, .string s0, .slice a1 l1 c1] 26)).alloc (.cells #[.int .i64 k0, .int .i64 n0, .string s0, .slice a2 l1 c2] 26) = W at *
    obtain ⟨_, _, _, p3, _⟩ := box4 hA1
    obtain ⟨_, _, _, q3, _⟩ := box4 hA2
    have hlt1 := heap_lt hA1; have hlt2 := heap_lt hA2
    clear hA1 hA2
    go_loopw [5] (fun iv wr => ∃ i : Nat, i ≤ l1 ∧ iv = .int .i64 i ∧ (∀ j, j < i → xs0[j]? = xs2[j]?) ∧ Below W.heap.size W wr) (fun iv _ => l1 - (intOf iv).toNat)
    case atStart => exact ⟨0, Nat.zero_le _, rfl, fun j hj => by omega, Below.refl _ _⟩
    case round =>
      obtain ⟨i, hi, rfl, heq, hbel⟩ := hrel
      have HQ := Lib.hid heq; clear heq
      have r3 := (hbel.cell (p := ⟨w.heap.size, 3, none⟩) hlt1).trans p3
      have u3 := (hbel.cell (p := ⟨w.heap.size + 1, 3, none⟩) hlt2).trans q3
      have hr1 := Nat.lt_of_lt_of_le hlt1 hbel.size
      have hr2 := Nat.lt_of_lt_of_le hlt2 hbel.size
      by_cases hlt : i < l1
      · obtain rfl := HA1.out (by omega)
        obtain rfl := HA2.out (by omega)
        obtain ⟨xk, xn, xs, xas, hx⟩ : ∃ xk xn xs xas, xs0[i]? = some (.mk xk xn xs xas) := by
          have h1 : i < xs0.length := by have := HL1.out; omega
          cases hx : xs0[i] with
          | mk xk xn xs xas => exact ⟨xk, xn, xs, xas, by simp [h1, hx]⟩
        obtain ⟨yk, yn, ys, yas, hy⟩ : ∃ xk xn xs xas, xs2[i]? = some (.mk xk xn xs xas) := by
          have h1 : i < xs2.length := by have := HL2.out; omega
          cases hx : xs2[i] with
          | mk xk xn xs xas => exact ⟨xk, xn, xs, xas, by simp [h1, hx]⟩
        have rr1 := HE1.out i _ hx
        have rr2 := HE2.out i _ hy
        rw [Rd_mk] at rr1 rr2
        obtain ⟨x0, x1, x2, xa, xl, xc, x3, hrx⟩ := rr1
        obtain ⟨y0, y1, y2, ya, yl, yc, y3, hry⟩ := rr2
        have hbB := hbN.trans (hbel.mono hbN.size)
        have hlx := cell_lt x0
        have hly := cell_lt y0
        rw [← hbB.cell (p := ⟨b1, _, none⟩) hlx, show o1 + 4 * i = o1 + i * 4 by omega] at x0 x1 x2 x3
        rw [← hbB.cell (p := ⟨b2, _, none⟩) hly, show o2 + 4 * i = o2 + i * 4 by omega] at y0 y1 y2 y3
        have hmx := List.mem_of_getElem? hx
        have hmy := List.mem_of_getElem? hy
        have IC := Lib.hid (IH.out _ hmx xk xn xs xas xa xl xc _ yk yn ys yas ya yl yc _ wr.drew rfl (RdS_ext hrx hbB.drew) (RdS_ext hry hbB.drew) (HWX.out.1 _ hmx) (HWX.out.2 _ hmy))
        have HX := Lib.hid hx; have HY := Lib.hid hy
        have hi0 : (0 : Int) ≤ (i : Int) := by omega
        have hi1 : (i : Int) < (l1 : Int) := by omega
        clear hx hy hmx hmy
        go_wp2_with fail
        go_still_tail 10, (by kernel_rfl)
        go_wp2_with fail
        refine IC.out.mono ?_
        rintro e w2 ⟨v, rfl, hv, hb2⟩
        have hbW : Below wr.heap.size wr w2 := below_of_drew hb2
        have hbX := hbel.trans (hbW.mono hbel.size)
        have hbY := hbN.trans (hbX.mono hbN.size)
        clear x0 x1 x2 x3 y0 y1 y2 y3 hb2
        by_cases hv0 : v = 0
        · have hE : Hid (xs0[i]? = xs2[i]?) := by show _ = _; rw [HX.out, HY.out, hv.1 hv0]
          subst hv0
          clear hv
          go_wp2
          go_roundw
          case rel => exact ⟨i + 1, by omega, by go_num, (fun j hj => by
            by_cases hji : j = i
            · subst hji; exact hE.out
            · exact HQ.out j (by omega)), hbX⟩
          case measure => simp [intOf]; omega
        · have hd : (v != 0) = true := by simpa using hv0
          have HV := Lib.hid hv0; have HV2 := Lib.hid hv
          clear hv0 hv
          go_wp2
          go_ret
          refine ⟨v, rfl, ⟨fun h => absurd h HV.out, fun h => absurd (HV2.out.2 ?_) HV.out⟩, hbY⟩
          cases h
          have := HX.out.symm.trans HY.out
          simpa using this
      · obtain rfl : i = l1 := by omega
        have hfin : Hid (xs0 = xs2) := by
          show _ = _
          apply List.ext_getElem?
          intro j
          by_cases hj : j < i
          · exact HQ.out j hj
          · rw [List.getElem?_eq_none (by have := HL1.out; omega), List.getElem?_eq_none (by have := HL2.out; omega)]
        go_wp2
        go_ret
        exact ⟨0, rfl, ⟨fun _ => by rw [hfin.out], fun _ => rfl⟩, hbN.trans (hbel.mono hbN.size)⟩

theorem same_spec (k1 n1 : Int) (s1 : ByteArray) (xs1 : List Tm) (a1 : Option Addr) (l1 c1 : Nat) (F1 : List Nat) (k2 n2 : Int) (s2 : ByteArray) (xs2 : List Tm) (a2 : Option Addr) (l2 c2 : Nat) (F2 : List Nat) (w : World)
    (h1 : RdS w xs1 a1 l1 c1 F1) (h2 : RdS w xs2 a2 l2 c2 F2) (hw1 : (Tm.mk k1 n1 s1 xs1).wf = true) (hw2 : (Tm.mk k2 n2 s2 xs2).wf = true) :
    Calls Try.prog 61 #[.agg #[.int .i64 k1, .int .i64 n1, .string s1, .slice a1 l1 c1], .agg #[.int .i64 k2, .int .i64 n2, .string s2, .slice a2 l2 c2]] w
      fun e w' => e = .returned (.bool (tmEq (.mk k1 n1 s1 xs1) (.mk k2 n2 s2 xs2))) ∧ Below w.heap.size w w' := by
  have HC := Lib.hid (cmp_all (.mk k1 n1 s1 xs1) k1 n1 s1 xs1 a1 l1 c1 F1 k2 n2 s2 xs2 a2 l2 c2 F2)
  have hbA : ∀ o1 o2, Below w.heap.size w ((w.alloc o1).alloc o2) := fun o1 o2 => ((Below.refl _ _).alloc (Nat.le_refl _) o1).alloc (by simp) o2
  have HBA := Lib.hid hbA; clear hbA
  go_enter Try.func61, Try.ntmps61
  go_wp2_with fail
  refine (HC.out _ (by trivial) (RdS_ext h1 (HBA.out _ _)) (RdS_ext h2 (HBA.out _ _)) hw1 hw2).mono ?_
  rintro e w2 ⟨v, rfl, hv, hb2⟩
  have hbE := (HBA.out _ _).trans (hb2.mono (by simp; omega))
  by_cases hv0 : v = 0
  · have ht : Hid (tmEq (.mk k1 n1 s1 xs1) (.mk k2 n2 s2 xs2) = true) := tmEq_iff.2 (hv.1 hv0)
    subst hv0
    clear hv
    go_wp2
    go_ret
    exact ⟨by rw [ht.out]; rfl, hbE⟩
  · have ht : Hid (tmEq (.mk k1 n1 s1 xs1) (.mk k2 n2 s2 xs2) = false) := tmEq_false.2 (fun h => hv0 (hv.2 h))
    have hd : (v == 0) = false := by simpa using hv0
    clear hv hv0
    go_wp2
    go_ret
    exact ⟨by rw [ht.out]; rfl, hbE⟩
end Go.Proofs.Ytjkabbkaeioibaa
