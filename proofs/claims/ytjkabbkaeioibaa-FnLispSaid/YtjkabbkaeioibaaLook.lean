/- Contracts of copyTerm, lookup and LookupLisp (the program's), and of the reference's LookupLisp. -/
import Derived.Test.YtjkabbkaeioibaaCmp
import Derived.Deep.LoopGhost
namespace Go.Proofs.Ytjkabbkaeioibaa
open Go.RowKit

theorem Fresh.cons {w w3 : World} {F : List Nat} {cs : Array Value} {T : Nat} (h : Fresh w w3 F) (hw : w.heap.size ≤ w3.heap.size) : Fresh w (w3.alloc (.cells cs T)) (w3.heap.size :: F) := by
  have hlt : ∀ x ∈ F, x < w3.heap.size := fun x hx => by obtain ⟨c, T, h1⟩ := (h.2 x hx).2; exact heap_lt h1
  refine ⟨List.nodup_cons.2 ⟨fun hm => by have := hlt _ hm; omega, h.1⟩, fun x hx => ?_⟩
  rcases List.mem_cons.1 hx with rfl | hx
  · exact ⟨hw, cs, T, heap_new rfl⟩
  · obtain ⟨h1, c, T', h2⟩ := h.2 x hx
    exact ⟨h1, c, T', by rw [heap_old (hlt x hx)]; exact h2⟩
theorem Fresh.lt {w w3 : World} {F : List Nat} (h : Fresh w w3 F) : ∀ x ∈ F, x < w3.heap.size := fun x hx => by obtain ⟨c, T, h1⟩ := (h.2 x hx).2; exact heap_lt h1
theorem Fresh.base {w w' w3 : World} {F : List Nat} (h : Fresh w w3 F) (hw : w'.heap.size ≤ w.heap.size) : Fresh w' w3 F := ⟨h.1, fun x hx => ⟨Nat.le_trans hw (h.2 x hx).1, (h.2 x hx).2⟩⟩

def CopyI (t : Tm) : Prop := ∀ (k n : Int) (s : ByteArray) (xs : List Tm) (a : Option Addr) (l c : Nat) (F : List Nat) (w : World), t = .mk k n s xs → RdS w xs a l c F → t.wf = true →
  Calls Try.prog 63 #[.agg #[.int .i64 k, .int .i64 n, .string s, .slice a l c]] w (OutT w t [])

abbrev PairAt (B b o : Nat) (v3 x0 x1 x2 x3 x4 x5 x6 x7 : Value) (w : World) : Prop := w.cell? ⟨B, 3, none⟩ = some v3 ∧ w.cell? ⟨b, o, none⟩ = some x0 ∧ w.cell? ⟨b, o + 1, none⟩ = some x1 ∧ w.cell? ⟨b, o + 2, none⟩ = some x2 ∧ w.cell? ⟨b, o + 3, none⟩ = some x3 ∧ w.cell? ⟨b, o + 4, none⟩ = some x4 ∧ w.cell? ⟨b, o + 4 + 1, none⟩ = some x5 ∧ w.cell? ⟨b, o + 4 + 2, none⟩ = some x6 ∧ w.cell? ⟨b, o + 4 + 3, none⟩ = some x7
theorem PairAt.below {W w' : World} {B b o : Nat} {v3 x0 x1 x2 x3 x4 x5 x6 x7 : Value} (hb : Below W.heap.size W w') (hB : B < W.heap.size) (hbb : b < W.heap.size) (h : PairAt B b o v3 x0 x1 x2 x3 x4 x5 x6 x7 W) :
    w'.cell? ⟨B, 3, none⟩ = some v3 ∧ w'.cell? ⟨b, o, none⟩ = some x0 ∧ w'.cell? ⟨b, o + 1, none⟩ = some x1 ∧ w'.cell? ⟨b, o + 2, none⟩ = some x2 ∧ w'.cell? ⟨b, o + 3, none⟩ = some x3 ∧ w'.cell? ⟨b, o + 4, none⟩ = some x4 ∧ w'.cell? ⟨b, o + 4 + 1, none⟩ = some x5 ∧ w'.cell? ⟨b, o + 4 + 2, none⟩ = some x6 ∧ w'.cell? ⟨b, o + 4 + 3, none⟩ = some x7 := by
  obtain ⟨h0, h1, h2, h3, h4, h5, h6, h7, h8⟩ := h
  exact ⟨(hb.cell (p := ⟨B, 3, none⟩) hB).trans h0, (hb.cell (p := ⟨b, o, none⟩) hbb).trans h1, (hb.cell (p := ⟨b, o + 1, none⟩) hbb).trans h2, (hb.cell (p := ⟨b, o + 2, none⟩) hbb).trans h3, (hb.cell (p := ⟨b, o + 3, none⟩) hbb).trans h4, (hb.cell (p := ⟨b, o + 4, none⟩) hbb).trans h5, (hb.cell (p := ⟨b, o + 4 + 1, none⟩) hbb).trans h6, (hb.cell (p := ⟨b, o + 4 + 2, none⟩) hbb).trans h7, (hb.cell (p := ⟨b, o + 4 + 3, none⟩) hbb).trans h8⟩
theorem PairAt.same {W w' : World} {B b o : Nat} {v3 x0 x1 x2 x3 x4 x5 x6 x7 : Value} (hB : w'.heap[B]? = W.heap[B]?) (hbb : w'.heap[b]? = W.heap[b]?) (h : PairAt B b o v3 x0 x1 x2 x3 x4 x5 x6 x7 W) :
    w'.cell? ⟨B, 3, none⟩ = some v3 ∧ w'.cell? ⟨b, o, none⟩ = some x0 ∧ w'.cell? ⟨b, o + 1, none⟩ = some x1 ∧ w'.cell? ⟨b, o + 2, none⟩ = some x2 ∧ w'.cell? ⟨b, o + 3, none⟩ = some x3 ∧ w'.cell? ⟨b, o + 4, none⟩ = some x4 ∧ w'.cell? ⟨b, o + 4 + 1, none⟩ = some x5 ∧ w'.cell? ⟨b, o + 4 + 2, none⟩ = some x6 ∧ w'.cell? ⟨b, o + 4 + 3, none⟩ = some x7 := by
  obtain ⟨h0, h1, h2, h3, h4, h5, h6, h7, h8⟩ := h
  have c (m : Nat) : w'.cell? ⟨b, m, none⟩ = W.cell? ⟨b, m, none⟩ := World.cell?_of_block hbb
  exact ⟨(World.cell?_of_block (a := ⟨B, 3, none⟩) hB).trans h0, (c _).trans h1, (c _).trans h2, (c _).trans h3, (c _).trans h4, (c _).trans h5, (c _).trans h6, (c _).trans h7, (c _).trans h8⟩

theorem pair_end {w W w2 w3 : World} {B : Nat} {xk xn yk yn : Int} {xs ys : ByteArray} {xas yas : List Tm} {xa ya : Option Addr} {xl xc yl yc : Nat} {F7 F8 : List Nat} {y0 y1 y2 y3 : Value} (hB0 : w.heap.size ≤ B) (hB : B < W.heap.size) (hbN : Below w.heap.size w W)
    (hgr7 : Grows W.drew w2 [] F7) (hrd7 : RdS w2 xas xa xl xc F7) (hb7 : Below W.heap.size W w2) (hgr8 : Grows w2 w3 [] F8) (hrd8 : RdS w3 yas ya yl yc F8) (hb8 : Below w2.heap.size w2 w3) :
    OutT w (.mk 4 0 ByteArray.empty [.mk xk xn xs xas, .mk yk yn ys yas]) [] (.returned (.agg #[.int .i64 4, .int .i64 0, .string ⟨#[]⟩, .slice (some ⟨w3.heap.size, 0, none⟩) 2 2]))
      (((((w3.setCell ⟨B, 0, none⟩ y0).setCell ⟨B, 1, none⟩ y1).setCell ⟨B, 2, none⟩ y2).setCell ⟨B, 3, none⟩ y3).alloc (.cells #[.int .i64 xk, .int .i64 xn, .string xs, .slice xa xl xc, .int .i64 yk, .int .i64 yn, .string ys, .slice ya yl yc] 26)) := by
  have f7 : Fresh w w2 F7 := hgr7.fresh.base hbN.size
  have lo7 : ∀ x ∈ F7, W.heap.size ≤ x := fun x hx => (hgr7.fresh.2 x hx).1
  have f8 := hgr8.fresh
  have lo8 : ∀ x ∈ F8, w2.heap.size ≤ x := fun x hx => (f8.2 x hx).1
  have hs7 := hb7.size; have hs8 := hb8.size
  have f78 : Fresh w w3 (F7 ++ F8) := Fresh.add f7 (fun x hx => hb8.block x (f7.lt x hx)) f7.lt (by have := hbN.size; omega) f8
  have keep : ∀ x ∈ F7 ++ F8, ((((w3.setCell ⟨B, 0, none⟩ y0).setCell ⟨B, 1, none⟩ y1).setCell ⟨B, 2, none⟩ y2).setCell ⟨B, 3, none⟩ y3).heap[x]? = w3.heap[x]? := by
    intro x hx
    refine heap_set4_other ?_
    rcases List.mem_append.1 hx with hx | hx
    · have := lo7 x hx; omega
    · have := lo8 x hx; omega
  have fS : Fresh w ((((w3.setCell ⟨B, 0, none⟩ y0).setCell ⟨B, 1, none⟩ y1).setCell ⟨B, 2, none⟩ y2).setCell ⟨B, 3, none⟩ y3) (F7 ++ F8) := f78.later keep
  have hbE : Below w.heap.size w ((((w3.setCell ⟨B, 0, none⟩ y0).setCell ⟨B, 1, none⟩ y1).setCell ⟨B, 2, none⟩ y2).setCell ⟨B, 3, none⟩ y3) :=
    (hbN.trans ((hb7.trans (hb8.mono hs7)).mono hbN.size)).trans (below_set4 hB0)
  have hr7 := RdS_same (fun x hx => keep x (List.mem_append.2 (.inl hx))) (RdS_ext hrd7 hb8)
  have hr8 := RdS_same (fun x hx => keep x (List.mem_append.2 (.inr hx))) hrd8
  have hsz : ((((w3.setCell ⟨B, 0, none⟩ y0).setCell ⟨B, 1, none⟩ y1).setCell ⟨B, 2, none⟩ y2).setCell ⟨B, 3, none⟩ y3).heap.size = w3.heap.size := size_set4
  generalize (((w3.setCell ⟨B, 0, none⟩ y0).setCell ⟨B, 1, none⟩ y1).setCell ⟨B, 2, none⟩ y2).setCell ⟨B, 3, none⟩ y3 = V at *
  rw [← hsz]
  exact ⟨4, 0, ByteArray.empty, _, _, _, _, _, rfl, rfl, RdS_two (heap_new rfl) (Nat.le_refl _) (RdS_ext hr7 ((Below.refl _ _).alloc (Nat.le_refl _) _)) (RdS_ext hr8 ((Below.refl _ _).alloc (Nat.le_refl _) _)), (fS.cons hbE.size).grows, hbE.alloc hbE.size _⟩

set_option maxHeartbeats 2000000 in
set_option maxRecDepth 100000 in
theorem copyI_all (t : Tm) : CopyI t := by
  induction t using Tm.ind with
  | h k0 n0 s0 xs0 ih =>
    intro k n s xs a l c F w ht h hw
    cases ht
    rcases wf_split hw with ⟨hk, rfl⟩ | ⟨rfl, rfl, hs0, x1, y1, rfl, hx1, hy1⟩
    · have hk' : (k0 != 4) = true := by simpa using hk
      clear ih hk hw h
      go_enter Try.func63, Try.ntmps63
      go_wp2
      refine bodyPost_ret (v := .agg #[.int .i64 k0, .int .i64 n0, .string s0, .slice none 0 0]) (results_term rfl _ _ (w.heap.size + 1) rfl (heap_new (by simp))) rfl ⟨k0, n0, s0, [], none, 0, 0, [], rfl, rfl, RdS_nil _ _ _, Grows.nil _ _ _, ((Below.refl _ _).alloc (Nat.le_refl _) _).alloc (by simp) _⟩
    · obtain ⟨b, o, xk, xn, xs, xas, xa, xl, xc, G1, yk, yn, ys, yas, ya, yl, yc, G2, hxy, rfl, rfl, hblt, ⟨x0, x1', x2, x3⟩, ⟨y0, y1', y2, y3⟩, hrx, hry⟩ := RdS_pair h h.1
      obtain ⟨rfl, rfl⟩ : x1 = .mk xk xn xs xas ∧ y1 = .mk yk yn ys yas := by simpa using hxy
      have hl : l = 2 := h.1
      subst hl
      obtain rfl := ba_empty hs0
      have IX := Lib.hid (ih _ (by simp : Tm.mk xk xn xs xas ∈ _) xk xn xs xas xa xl xc G1)
      have IY := Lib.hid (ih _ (by simp : Tm.mk yk yn ys yas ∈ _) yk yn ys yas ya yl yc G2)
      clear ih hxy h hw hs0
      go_enter Try.func63, Try.ntmps63
      go_wp2_with fail
      have hbN : Below w.heap.size w ((w.alloc (.cells #[.int .i64 4, .int .i64 0, .string ByteArray.empty, .slice (some ⟨b, o, none⟩) 2 c] 26)).alloc (.cells #[.int .i64 0, .int .i64 0, .string ⟨#[]⟩, .slice none 0 0] 26)) := ((Below.refl _ _).alloc (Nat.le_refl _) _).alloc (by simp) _
      have hA1 : ((w.alloc (.cells #[.int .i64 4, .int .i64 0, .string ByteArray.empty, .slice (some ⟨b, o, none⟩) 2 c] 26)).alloc (.cells #[.int .i64 0, .int .i64 0, .string ⟨#[]⟩, .slice none 0 0] 26)).heap[w.heap.size]? = some (.cells #[.int .i64 4, .int .i64 0, .string ByteArray.empty, .slice (some ⟨b, o, none⟩) 2 c] 26 (0, 0)) := by
        rw [heap_old (by simp)]; exact heap_new rfl
      have hA2 : ((w.alloc (.cells #[.int .i64 4, .int .i64 0, .string ByteArray.empty, .slice (some ⟨b, o, none⟩) 2 c] 26)).alloc (.cells #[.int .i64 0, .int .i64 0, .string ⟨#[]⟩, .slice none 0 0] 26)).heap[w.heap.size + 1]? = some (.cells #[.int .i64 0, .int .i64 0, .string ⟨#[]⟩, .slice none 0 0] 26 (0, 0)) := heap_new (by simp)
      generalize (w.alloc (.cells #[.int .i64 4, .int .i64 0, .string ByteArray.empty, .slice (some ⟨b, o, none⟩) 2 c] 26)).alloc (.cells #[.int .i64 0, .int .i64 0, .string ⟨#[]⟩, .slice none 0 0] 26) = W at *
      have HA2 := Lib.hid hA2
      obtain ⟨_, _, _, p3, _⟩ := box4 hA1
      have hl1 := heap_lt hA1; have hl2 := heap_lt hA2
      rw [← hbN.cell (p := ⟨b, _, none⟩) hblt] at x0 x1' x2 x3 y0 y1' y2 y3
      have hbW' : b < W.heap.size := Nat.lt_of_lt_of_le hblt hbN.size
      have hbW : Below W.heap.size W W.drew := (Below.refl _ _).drew
      have HS : Hid (PairAt w.heap.size b o (.slice (some ⟨b, o, none⟩) 2 c) (.int .i64 xk) (.int .i64 xn) (.string xs) (.slice xa xl xc) (.int .i64 yk) (.int .i64 yn) (.string ys) (.slice ya yl yc) W) := ⟨p3, x0, x1', x2, x3, y0, y1', y2, y3⟩
      have hneB : w.heap.size ≠ w.heap.size + 1 := by omega
      have hneb : b ≠ w.heap.size + 1 := by omega
      clear hA1 hA2
      go_region_held3 (fun w' => w'.cell? ⟨w.heap.size, 3, none⟩ = some (.slice (some ⟨b, o, none⟩) 2 c) ∧ w'.cell? ⟨b, o, none⟩ = some (.int .i64 xk) ∧ w'.cell? ⟨b, o + 1, none⟩ = some (.int .i64 xn) ∧ w'.cell? ⟨b, o + 2, none⟩ = some (.string xs) ∧ w'.cell? ⟨b, o + 3, none⟩ = some (.slice xa xl xc) ∧ w'.cell? ⟨b, o + 4, none⟩ = some (.int .i64 yk) ∧ w'.cell? ⟨b, o + 4 + 1, none⟩ = some (.int .i64 yn) ∧ w'.cell? ⟨b, o + 4 + 2, none⟩ = some (.string ys) ∧ w'.cell? ⟨b, o + 4 + 3, none⟩ = some (.slice ya yl yc))
        (first | with_reducible exact HS.out | with_reducible exact PairAt.below hbW hl1 hbW' HS.out | with_reducible exact PairAt.below (hbW.alloc hbW.size _) hl1 hbW' HS.out | with_reducible exact PairAt.same (heap_set4_other hneB) (heap_set4_other hneb) (PairAt.below hbW hl1 hbW' HS.out) | with_reducible exact PairAt.same (heap_set4_other hneB) (heap_set4_other hneb) (PairAt.below (hbW.alloc hbW.size _) hl1 hbW' HS.out) | with_reducible exact PairAt.same ((heap_old (by rw [size_set4]; exact hl1z)).trans (heap_set4_other hneB)) ((heap_old (by rw [size_set4]; exact hbz)).trans (heap_set4_other hneb)) (PairAt.below hbW hl1 hbW' HS.out))
        (first | (go_at_call 63; (with_reducible refine (IX.out W.drew (by trivial) (RdS_ext (w' := W.drew) hrx hbN.drew) hx1).mono ?_); rintro e w2 ⟨k7, n7, s7, xs7, xa', xl', xc', F7, ht7, rfl, hrd7, hgr7, hb7⟩; cases ht7; replace hbW : Below W.heap.size W w2 := below_of_drew hb7) | (go_at_call 63; (with_reducible refine (IY.out w2 (by trivial) (RdS_ext (w' := w2) (RdS_ext hry hbN) hbW) hy1).mono ?_); rintro e w3 ⟨k8, n8, s8, xs8, ya', yl', yc', F8, ht8, rfl, hrd8, hgr8, hb8⟩; cases ht8; replace hbW : Below W.heap.size W w3 := hbW.trans (hb8.mono hbW.size); have hz := (hbW.block _ hl2).trans HA2.out; have HZ := Lib.hid hz; obtain ⟨z0, z1, z2, z3, zf⟩ := box4 hz; have hzl := heap_lt hz; have hl1z := Nat.lt_of_lt_of_le hl1 hbW.size; have hbz := Nat.lt_of_lt_of_le hbW' hbW.size; clear hz))
      go_wp2
      refine bodyPost_ret (v := .agg #[.int .i64 4, .int .i64 0, .string ⟨#[]⟩, .slice (some ⟨w3.heap.size, 0, none⟩) 2 2]) (results_term rfl _ _ (w.heap.size + 1) rfl ((heap_old (by rw [size_set4]; exact hzl)).trans (heap_set4 HZ.out))) rfl (pair_end (by omega) hl2 hbN hgr7 hrd7 (below_of_drew hb7) hgr8 hrd8 hb8)

/-- what a key is bound to in a list of pairs -/
noncomputable def lookL (x : Tm) : List Tm → Option Tm
  | [] => none
  | .mk k _ _ [a, b] :: r => if k = 4 then (if tmEq a x = true then some b else lookL x r) else none
  | _ :: _ => none
theorem lookL_end {x : Tm} {k n : Int} {s : ByteArray} {xs r : List Tm} (hk : k ≠ 4) : lookL x (.mk k n s xs :: r) = none := by
  match xs with
  | [] => simp [lookL]
  | [_] => simp [lookL]
  | [_, _] => simp [lookL, hk]
  | _ :: _ :: _ :: _ => simp [lookL]
theorem lookL_pair {x a b : Tm} {n : Int} {s : ByteArray} {r : List Tm} : lookL x (.mk 4 n s [a, b] :: r) = if tmEq a x = true then some b else lookL x r := by
  simp [lookL]

/-- a term and a value handed back: the term's blocks are of G, or new -/
def OutM (w : World) (t : Tm) (r : Value) (G : List Nat) (e : Ending) (w' : World) : Prop :=
  ∃ k n s xs a l c F, t = .mk k n s xs ∧ e = .returned (.tuple #[.agg #[.int .i64 k, .int .i64 n, .string s, .slice a l c], r]) ∧ RdS w' xs a l c F ∧ (∀ x ∈ F, x ∈ G ∨ w.heap.size ≤ x) ∧ Below w.heap.size w w'
theorem OutM_set {w w2 : World} {B : Nat} {t : Tm} {r : Value} {G : List Nat} {k n : Int} {s : ByteArray} {xs : List Tm} {a : Option Addr} {l c : Nat} {F : List Nat}
    (ht : t = .mk k n s xs) (hrd : RdS w2 xs a l c F) (hgr : ∀ x ∈ F, x ∈ G ∨ w.heap.size ≤ x) (hbel : Below w.heap.size w w2) (hB : w.heap.size ≤ B) (hBF : ∀ x ∈ F, x ≠ B) :
    OutM w t r G (.returned (.tuple #[.agg #[.int .i64 k, .int .i64 n, .string s, .slice a l c], r])) ((((w2.setCell ⟨B, 0, none⟩ (.int .i64 k)).setCell ⟨B, 1, none⟩ (.int .i64 n)).setCell ⟨B, 2, none⟩ (.string s)).setCell ⟨B, 3, none⟩ (.slice a l c)) :=
  ⟨k, n, s, xs, a, l, c, F, ht, rfl, RdS_same (fun x hx => heap_set4_other (hBF x hx)) hrd, hgr, hbel.trans (below_set4 hB)⟩
noncomputable def lookR (o : Option Tm) : Tm := o.getD Tm.nil

/-- lookup's loop: the rest of the environment lies in its box -/
def LookRel (w W : World) (x env : Tm) (G : List Nat) (gk : Nat) (wr : World) : Prop :=
  ∃ k n s xs a l c F, wr.heap[w.heap.size + 1]? = some (.cells #[.int .i64 k, .int .i64 n, .string s, .slice a l c] 26 (0, 0)) ∧ RdS wr xs a l c F ∧ (∀ y ∈ F, y ∈ G ∧ y < w.heap.size) ∧ (Tm.mk k n s xs).wf = true ∧ (Tm.mk k n s xs).cnt = gk ∧
    lookL x env.its = lookL x (Tm.mk k n s xs).its ∧ (∀ y, y < W.heap.size → y ≠ w.heap.size + 1 → wr.heap[y]? = W.heap[y]?) ∧ Below w.heap.size w wr ∧ W.heap.size ≤ wr.heap.size

end Go.Proofs.Ytjkabbkaeioibaa
