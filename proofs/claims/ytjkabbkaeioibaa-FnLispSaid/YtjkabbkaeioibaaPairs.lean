/- Slices of slices of terms; contracts of NumeralPairs, the program's and the reference's. -/
import Derived.Test.YtjkabbkaeioibaaNumeralS
import Derived.Test.YtjkabbkaeioibaaHeld
namespace Go.Proofs.Ytjkabbkaeioibaa
open Go.RowKit

/-- a slice's value -/
structure SV where
  a : Option Addr
  l : Nat
  c : Nat
def SV.cell (e : SV) : Value := .slice e.a e.l e.c
def RdVss (w : World) : List (List Tm) → List SV → List (List Nat) → Prop
  | [], [], [] => True
  | t :: ts, e :: es, F :: Fs => RdS w t e.a e.l e.c F ∧ RdVss w ts es Fs
  | _, _, _ => False
theorem RdVss_same {w w' : World} : ∀ {ts : List (List Tm)} {es : List SV} {Fs : List (List Nat)}, RdVss w ts es Fs → (∀ x ∈ Fs.flatten, w'.heap[x]? = w.heap[x]?) → RdVss w' ts es Fs
  | [], [], [], _, _ => trivial
  | t :: ts, e :: es, F :: Fs, h, hF => ⟨RdS_same (fun x hx => hF x (by simp [hx])) h.1, RdVss_same h.2 (fun x hx => hF x (by simp only [List.flatten_cons, List.mem_append]; exact .inr hx))⟩
  | [], _ :: _, _, h, _ => by cases h
  | [], [], _ :: _, h, _ => by cases h
  | _ :: _, [], _, h, _ => by cases h
  | _ :: _, _ :: _, [], h, _ => by cases h
theorem RdVss_lt {w : World} : ∀ {ts : List (List Tm)} {es : List SV} {Fs : List (List Nat)}, RdVss w ts es Fs → ∀ x ∈ Fs.flatten, x < w.heap.size
  | [], [], [], _, x, hx => by simp at hx
  | t :: ts, e :: es, F :: Fs, h, x, hx => by
    simp only [List.flatten_cons, List.mem_append] at hx
    rcases hx with hx | hx
    · exact RdS_lt h.1 x hx
    · exact RdVss_lt h.2 x hx
  | [], _ :: _, _, h, _, _ => by cases h
  | [], [], _ :: _, h, _, _ => by cases h
  | _ :: _, [], _, h, _, _ => by cases h
  | _ :: _, _ :: _, [], h, _, _ => by cases h
theorem RdVss_snoc {w : World} : ∀ {ts : List (List Tm)} {es : List SV} {Fs : List (List Nat)} {t : List Tm} {e : SV} {F : List Nat}, RdVss w ts es Fs → RdS w t e.a e.l e.c F → RdVss w (ts ++ [t]) (es ++ [e]) (Fs ++ [F])
  | [], [], [], _, _, _, _, h => ⟨h, trivial⟩
  | t :: ts, e :: es, F :: Fs, _, _, _, h, h' => ⟨h.1, RdVss_snoc h.2 h'⟩
  | [], _ :: _, _, _, _, _, h, _ => by cases h
  | [], [], _ :: _, _, _, _, h, _ => by cases h
  | _ :: _, [], _, _, _, _, h, _ => by cases h
  | _ :: _, _ :: _, [], _, _, _, h, _ => by cases h
theorem RdVss_len {w : World} : ∀ {ts : List (List Tm)} {es : List SV} {Fs : List (List Nat)}, RdVss w ts es Fs → es.length = ts.length ∧ Fs.length = ts.length
  | [], [], [], _ => ⟨rfl, rfl⟩
  | t :: ts, e :: es, F :: Fs, h => by have := RdVss_len h.2; simp [this.1, this.2]
  | [], _ :: _, _, h => by cases h
  | [], [], _ :: _, h => by cases h
  | _ :: _, [], _, h => by cases h
  | _ :: _, _ :: _, [], h => by cases h
theorem RdVss_at {w : World} : ∀ {ts : List (List Tm)} {es : List SV} {Fs : List (List Nat)}, RdVss w ts es Fs → ∀ i t, ts[i]? = some t → ∃ e : SV, es[i]? = some e ∧ RdS w t e.a e.l e.c (Fs.getD i [])
  | [], [], [], _, i, t, h => by simp at h
  | t :: ts, e :: es, F :: Fs, h, i, x, hx => by
    cases i with
    | zero => simp at hx; subst hx; exact ⟨e, by simp, by simpa using h.1⟩
    | succ i => obtain ⟨e', h1, h2⟩ := RdVss_at h.2 i x (by simpa using hx); exact ⟨e', by simpa using h1, by simpa using h2⟩
  | [], _ :: _, _, h, _, _, _ => by cases h
  | [], [], _ :: _, h, _, _, _ => by cases h
  | _ :: _, [], _, h, _, _, _ => by cases h
  | _ :: _, _ :: _, [], h, _, _, _ => by cases h

/-- a slice of slices of terms: row b holds the slices, F the blocks of each -/
def RdSS (w : World) (tss : List (List Tm)) (a : Option Addr) (l : Nat) (b : Nat) (Fs : List (List Nat)) : Prop :=
  l = tss.length ∧ Fs.length = tss.length ∧ (0 < l → a = some ⟨b, 0, none⟩ ∧ b ∉ Fs.flatten ∧ b < w.heap.size) ∧ ∀ i ts, tss[i]? = some ts → ∃ e : SV, w.cell? ⟨b, i, none⟩ = some e.cell ∧ RdS w ts e.a e.l e.c (Fs.getD i [])
theorem RdSS_ext {w w' : World} {tss : List (List Tm)} {a : Option Addr} {l b : Nat} {Fs : List (List Nat)} (h : RdSS w tss a l b Fs) (hb : Below w.heap.size w w') : RdSS w' tss a l b Fs := by
  obtain ⟨h1, h2, h3, h4⟩ := h
  refine ⟨h1, h2, fun hp => ⟨(h3 hp).1, (h3 hp).2.1, Nat.lt_of_lt_of_le (h3 hp).2.2 hb.size⟩, fun i ts hi => ?_⟩
  obtain ⟨e, h5, h6⟩ := h4 i ts hi
  exact ⟨e, by rw [hb.cell (p := ⟨b, i, none⟩) (cell_lt h5)]; exact h5, RdS_ext h6 hb⟩
theorem RdSS_lt {w : World} {tss : List (List Tm)} {a : Option Addr} {l b : Nat} {Fs : List (List Nat)} (h : RdSS w tss a l b Fs) : ∀ x ∈ Fs.flatten, x < w.heap.size := by
  obtain ⟨h1, h2, h3, h4⟩ := h
  intro x hx
  obtain ⟨F, hF, hxF⟩ := List.mem_flatten.1 hx
  obtain ⟨i, hi, rfl⟩ := List.getElem_of_mem hF
  have hi' : i < tss.length := by omega
  obtain ⟨e, _, h6⟩ := h4 i _ (List.getElem?_eq_getElem hi')
  exact RdS_lt h6 x (by simp [hi]; exact hxF)

/-- such a slice, made by the call itself -/
def OwnSs (E : Nat) (w : World) (base : Nat) (v : Value) (tss : List (List Tm)) (Fs : List (List Nat)) : Prop :=
  ∃ es : List SV, w.ownsRow base E 1 v tss.length (es.map SV.cell) ∧ RdVss w tss es Fs ∧ ∀ x ∈ Fs.flatten, v.ownBlock ≠ some x
theorem OwnSs_below {E : Nat} {w w' : World} {base : Nat} {v : Value} {tss : List (List Tm)} {Fs : List (List Nat)} (h : OwnSs E w base v tss Fs) (hb : Below w.heap.size w w') : OwnSs E w' base v tss Fs := by
  obtain ⟨es, h1, h2, h3⟩ := h
  refine ⟨es, h1.kept (row := none) ⟨hb.os, hb.tape, hb.output, hb.size, fun k hk _ => hb.block k hk⟩ ?_, RdVss_same h2 (fun x hx => hb.block x (RdVss_lt h2 x hx)), h3⟩
  cases v.ownBlock <;> simp
theorem OwnSs_empty {E : Nat} {w : World} {base g : Nat} (hb : base ≤ g) (hg : w.heap[g]? = some (.cells #[] E (0, 0))) : OwnSs E w base (.slice (some ⟨g, 0, none⟩) 0 0) [] [] :=
  ⟨[], ⟨by simp, .inr ⟨g, 0, #[], rfl, hb, hg, Nat.le_refl _, Nat.zero_le _, by simp, by simp⟩⟩, trivial, by simp⟩
theorem below_appendS {w w' : World} {E base B : Nat} {v : Value} {ts : List (List Tm)} {Fs : List (List Nat)} (hg : w.grownBy w' v.ownBlock) (h : OwnSs E w base v ts Fs) (hB : B ≤ base) (hw : B ≤ w.heap.size) : Below B w w' := by
  obtain ⟨es, h1, _⟩ := h
  exact ⟨hg.os, hg.tape, hg.output, hg.size, fun k hk => hg.block k (by omega) (fun hh => by have := (h1.lt k hh.symm).1; omega)⟩
theorem OwnSs_rd {E : Nat} {w : World} {base : Nat} {v : Value} {tss : List (List Tm)} {Fs : List (List Nat)} (h : OwnSs E w base v tss Fs) : ∃ a l c b, v = .slice a l c ∧ RdSS w tss a l b Fs ∧ (0 < l → base ≤ b) := by
  obtain ⟨es, h1, h2, h3⟩ := h
  have hlen := RdVss_len h2
  have hat := RdVss_at h2
  rcases h1.2 with ⟨rfl, hn⟩ | ⟨g, cap, cur, rfl, hb, hg, hcap, _, _, _⟩
  · have : tss = [] := List.eq_nil_of_length_eq_zero hn
    subst this
    exact ⟨none, 0, 0, 0, rfl, ⟨rfl, hlen.2, by simp, by simp⟩, by simp⟩
  · refine ⟨some ⟨g, 0, none⟩, tss.length, cap, g, rfl, ⟨rfl, hlen.2, fun _ => ⟨rfl, fun hm => h3 g hm rfl, heap_lt hg⟩, fun i ts hi => ?_⟩, fun _ => hb⟩
    obtain ⟨e, h4, h5⟩ := hat i ts hi
    refine ⟨e, ?_, h5⟩
    have := h1.cells (g := g) rfl i e.cell (by simp [h4])
    have hadd : (⟨g, 0, none⟩ : Addr).add i = ⟨g, i, none⟩ := by unfold Addr.add; split <;> simp_all
    rw [hadd] at this; exact this

theorem info_Terms : (Try.prog.info? 24).map (fun i => (i.zero, i.size, i.bytes)) = some (some (.slice none 0 0), 1, 24) := by kernel_rfl

theorem append_terms {w : World} {ops : Array Oper} {rest : List Oper} {o : Oper} {a : Act} {Q : Exit → Act → World → Prop} (hgd : o.guard = none) (s x : Operand)
    (ho : o.op = .call { callee := .builtin .append, args := #[s, x], argTypes := #[32, 32] })
    (base : Nat) (v : Value) (tss : List (List Tm)) (Fs : List (List Nat)) (hs : a.eval s = v) (hown : OwnSs 24 w base v tss Fs)
    (g : Nat) (hx : a.eval x = .slice (some ⟨g, 0, none⟩) 1 1) (e : SV) (ts : List Tm) (F : List Nat) (T : Nat) (fz : Nat × Nat)
    (hg : w.heap[g]? = some (.cells #[.slice e.a e.l e.c] T fz)) (hrd : RdS w ts e.a e.l e.c F) (hF : ∀ x ∈ F, v.ownBlock ≠ some x)
    (hlen : tss.length ≤ 1000000000000) (hbase : base ≤ w.heap.size)
    (h : ∀ v' w', OwnSs 24 w' base v' (tss ++ [ts]) (Fs ++ [F]) → w.grownBy w' v.ownBlock → wpList Try.prog ops Q rest (a.put o.dst v') w') : wpList Try.prog ops Q (o :: rest) a w := by
  obtain ⟨es, hrow, hvs, hne⟩ := hown
  obtain ⟨i0, hi, hz0, hz1, hz2⟩ := info_parts info_Terms
  refine wpList_append_own2 w hgd s x 32 ho base 24 i0 _ 1 24 Try.underlying32 hi hz0 hz1 hz2 rfl (by decide) v tss.length _ hs hrow ⟨g, 0, none⟩ 1 1
    [e.cell] hx rfl ?_ ?_ (by decide) (by unfold maxLen; omega) (by omega) hbase ?_
  · intro j u hj
    have hadd : (⟨g, 0, none⟩ : Addr).add j = ⟨g, j, none⟩ := by unfold Addr.add; split <;> simp_all
    rw [hadd, cell_of_block hg]
    simpa [SV.cell] using hj
  · simp [Value.oneCell', SV.cell]
  · intro v' w' h2 h3 h4
    refine h v' w' ⟨es ++ [e], ?_, ?_, ?_⟩ h3
    · simpa using h2
    · exact RdVss_snoc (RdVss_same hvs fun x hx => h3.block x (RdVss_lt hvs x hx) (fun hh => hne x hx hh.symm)) (RdS_same (fun x hx => h3.block x (RdS_lt hrd x hx) (fun hh => hF x hx hh.symm)) hrd)
    · intro x hx
      have hlt : x < w.heap.size ∧ v.ownBlock ≠ some x := by
        simp only [List.flatten_append, List.mem_append, List.flatten_cons, List.flatten_nil, List.append_nil] at hx
        rcases hx with hx | hx
        · exact ⟨RdVss_lt hvs x hx, hne x hx⟩
        · exact ⟨RdS_lt hrd x hx, hF x hx⟩
      rcases h4 with ⟨h4, _⟩ | ⟨h4, _⟩
      · rw [h4]; exact hlt.2
      · rw [h4]; intro hh; simp at hh; omega
end Go.Proofs.Ytjkabbkaeioibaa
