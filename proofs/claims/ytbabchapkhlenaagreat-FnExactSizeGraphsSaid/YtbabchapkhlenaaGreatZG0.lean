/- Parts of the proof: YR VC YF VQ1, the rest. -/
import Derived.Test.YtbabchapkhlenaaGreatZ42
namespace Go.Proofs.YtbabchapkhlenaaGreat
open Go
set_option linter.all false
set_option maxRecDepth 100000
set_option maxHeartbeats 4000000
theorem Mod.of_below {a b : World} (h : RowKit.Below a.heap.size a b) : Mod [] a b := ⟨h.os, h.tape, h.output, h.size, fun k hk _ => h.block k hk⟩
section
variable {P : Program} {f : AF} {A : List Atm} {d : Option Tmp} {ty : TypeId} {pos : String} {aft : Array Edge} {gg : Option (Nat × Bool)}
section cmp
variable {xt yt : TypeId} (x y : Operand) {k : IntKind} {a b : Int} (hx : eva f x = .one (.v (.int k a))) (hy : eva f y = .one (.v (.int k b)))
include hx hy
end cmp
section sums
variable {xt yt : TypeId} (x y : Operand) {a b : Int} (hx : eva f x = .one (.v (.int .i64 a))) (hy : eva f y = .one (.v (.int .i64 b)))
include hx hy
end sums
section strs
variable {xt yt : TypeId} (x y : Operand) {a b : ByteArray} (hx : eva f x = .one (.v (.string a))) (hy : eva f y = .one (.v (.string b)))
include hx hy
end strs
theorem P_lenV {t e : TypeId} [S : SlF P t e] (x : Operand) {a : Option Addr} {n c : Nat} (hx : eva f x = .one (.v (.slice a n c))) : PuO P f A ⟨d, .call { callee := .builtin .len, args := #[x], argTypes := #[t] }, ty, pos, aft, gg⟩ (.one (.v (.int .i64 n))) :=
 P_ex1 x rfl hx rfl fun _ _ h => X_len x h
end
instance : FnF Tryz.prog 10 := ⟨enters_of Tryz.func10 (by kernel_rfl) rfl⟩
instance : FnF Tryz.prog 12 := ⟨enters_of Tryz.func12 (by kernel_rfl) rfl⟩
instance : FnF Tryz.prog 13 := ⟨enters_of Tryz.func13 (by kernel_rfl) rfl⟩
instance : FnF Tryz.prog 14 := ⟨enters_of Tryz.func14 (by kernel_rfl) rfl⟩
instance : FnF Tryz.prog 36 := ⟨enters_of Tryz.func36 (by kernel_rfl) rfl⟩
instance : FnF Tryz.prog 38 := ⟨enters_of Tryz.func38 (by kernel_rfl) rfl⟩
instance : FnF Tryz.prog 39 := ⟨enters_of Tryz.func39 (by kernel_rfl) rfl⟩
instance : FnF Tryz.prog 40 := ⟨enters_of Tryz.func40 (by kernel_rfl) rfl⟩
instance : FnF Tryz.prog 41 := ⟨enters_of Tryz.func41 (by kernel_rfl) rfl⟩
instance : FnF Tryz.prog 77 := ⟨enters_of Tryz.func77 (by kernel_rfl) rfl⟩
instance : FnF Tryz.prog 79 := ⟨enters_of Tryz.func79 (by kernel_rfl) rfl⟩
instance : FnF Tryz.prog 80 := ⟨enters_of Tryz.func80 (by kernel_rfl) rfl⟩
instance : FnF Tryz.prog 119 := ⟨enters_of Tryz.func119 (by kernel_rfl) rfl⟩
def D.rg : D → Bool
 | .v _ => true
 | .s _ _ => false
def AV.rg : AV → Bool
 | .one d => d.rg
 | .agg l => l.all D.rg
 | .tup l => rgL l
 | .pto _ => false
 | .junk => true
where
 rgL : List AV → Bool
  | [] => true
  | a :: l => a.rg && rgL l
section
variable {M M' : Nat → Prop} {w w' : World}
theorem D.rg_rd {d : D} {y : Value} (h : d.rg = true) (hd : d.rd M w y) : d.rd M' w' y := by
 cases d with
 | v x => exact hd
 | s n r => cases h
theorem rdC_rg : ∀ {l : List D} {vs : List Value}, l.all D.rg = true → rdC M w l vs → rdC M' w' l vs
 | [], _, _, h => h
 | d :: l, _, h, ⟨x, xs, h1, h2, h3⟩ => by
  simp only [List.all_cons, Bool.and_eq_true] at h
  exact ⟨x, xs, h1, D.rg_rd h.1 h2, rdC_rg h.2 h3⟩
mutual
theorem AV.rg_rd : ∀ {a : AV} {y : Value}, a.rg = true → a.rd M w y → a.rd M' w' y
 | .one _, _, h, h1 => D.rg_rd (by simpa [AV.rg] using h) h1
 | .agg _, _, h, ⟨vs, h1, h2⟩ => ⟨vs, h1, rdC_rg (by simpa [AV.rg] using h) h2⟩
 | .tup _, _, h, ⟨vs, h1, h2⟩ => ⟨vs, h1, rdA_rg (by simpa [AV.rg] using h) h2⟩
 | .junk, _, _, _ => trivial
 | .pto _, _, h, _ => by simp [AV.rg] at h
theorem rdA_rg : ∀ {l : List AV} {vs : List Value}, AV.rg.rgL l = true → rdA M w l vs → rdA M' w' l vs
 | [], _, _, h => h
 | a :: l, _, h, ⟨x, xs, h1, h2, h3⟩ => by
  simp only [AV.rg.rgL, Bool.and_eq_true] at h
  exact ⟨x, xs, h1, AV.rg_rd h.1 h2, rdA_rg h.2 h3⟩
end
def Atm.Rg (a : Atm) : Prop := ∀ (M M' : Nat → Prop) (w : World), a.ok M w → a.ok M' w
theorem rdRows_rg : ∀ {rs : List (List D)} {vss : List (List Value)}, rs.all (fun r => r.all D.rg) = true → rdRows M w rs vss → rdRows M' w' rs vss
 | [], [], _, h => trivial
 | r :: rs, v :: vs, h, ⟨h1, h2⟩ => by
  simp only [List.all_cons, Bool.and_eq_true] at h
  exact ⟨rdC_rg h.1 h1, rdRows_rg h.2 h2⟩
theorem arow_rg {e : TypeId} {sz : Nat} {u : Value} {rows : List (List D)} (h : rows.all (fun r => r.all D.rg) = true) : (arow e sz u rows).Rg := fun _ _ _ ⟨vss, h1, h2⟩ => ⟨vss, h1, rdRows_rg h h2⟩
end
section
variable {P : Program} {f : AF} {A : List Atm} {d : Option Tmp} {ty : TypeId} {pos : String} {aft : Array Edge} {gg : Option (Nat × Bool)}
theorem P_callB {g : FuncId} [FnF P g] {avs : Array Operand} {tys : Array TypeId} {as' : List AV} {v : AV} (ha : VwL A (avs.toList.map (eva f)) as') (h : Pu P g as' v) (hr : v.rg = true) :
 PuO P f A ⟨d, .call { callee := .value (.func g), args := avs, argTypes := tys }, ty, pos, aft, gg⟩ v := fun M w r hp hx => by
 obtain ⟨hx1, hx2⟩ := call_rd hx
 have hm := ha M w _ hp (rdA_map hx2)
 have e : (avs.toList.map r).toArray = avs.map r ++ #[] := by apply Array.ext'; simp
 have hc : Calls P g (avs.map r ++ #[]) w (Ret fun u w' => v.rd M w' u ∧ Mod [] w w') := by
  have := h M w (avs.toList.map r) hp.hM hm
  rwa [e] at this
 refine S_clo (cap := #[]) (exact_of hx1 rfl) rfl hc ?_
 rintro u w' ⟨h1, h2⟩
 exact ⟨AV.rg_rd hr h1, h2⟩
theorem Spec.borrow {g : Nat} {xs as' : List AV} {Q' : AV → List Atm → Prop} (ha : VwL A xs as') (h : Spec P g as' [] Q') (hr : ∀ v B, Q' v B → v.rg = true ∧ ∀ a ∈ B, a.Rg) : Spec P g xs A fun v A' => ∃ B, Q' v B ∧ A' = A ++ B := fun M w vs hp hv => by
 have hp0 : Pre [] M w := ⟨hp.hM, by simp [oA], by simp [oA], by simp [oA], by simp⟩
 have hv0 : rdA (MO M []) w as' vs := rdA_grow (fun b _ hb => hb.elim id fun h => by simp [oA] at h) (ha M w vs hp hv)
 refine Calls.mono (h M w vs hp0 hv0) ?_
 rintro e w' ⟨u, rfl, v, B, hq, hrd, hs⟩
 obtain ⟨r1, r2⟩ := hr v B hq
 have hm : Mod [] w w' := hs.mod
 have new : ∀ b ∈ oA B, w.heap.size ≤ b := fun b hb => (hs.new b hb).resolve_left (by simp [oA])
 refine ⟨u, rfl, v, A ++ B, ⟨B, hq, rfl⟩, AV.rg_rd r1 hrd, ⟨hm.mono (by simp), ⟨hs.pre.hM, ?_, fun b hb => ?_, fun b hb => ?_, fun a ha => ?_⟩, fun b hb => ?_⟩⟩
 ·rw [oA_app]
  refine List.nodup_append.2 ⟨hp.nd, hs.pre.nd, fun x hx y hy e => ?_⟩
  have := hp.lt x hx
  have := new y hy
  omega
 ·rw [oA_app] at hb
  rcases List.mem_append.1 hb with hb | hb
  ·exact Nat.lt_of_lt_of_le (hp.lt b hb) hm.size
  ·exact hs.pre.lt b hb
 ·rw [oA_app] at hb
  rcases List.mem_append.1 hb with hb | hb
  ·exact hp.dis b hb
  ·exact hs.pre.dis b hb
 ·rcases List.mem_append.1 ha with ha | ha
  ·have h0 := hp.ats a ha
   have h1 := a.grow _ (fun b => MO M A b ∨ w.heap.size ≤ b) w (fun b hb h => h.resolve_right (by omega)) h0
   have h2 := a.keep _ w w' (fun b hb => hm.block b (hp.lt b (mem_oA.2 ⟨a, ha, hb⟩)) (by simp)) (fun b hb hn => hm.block b hb (by simp)) h1
   refine a.grow _ _ w' (fun b _ hM => ?_) h2
   rcases hM with hM | hM
   ·exact .inl (.inl hM)
   ·rw [oA_app] at hM
    rcases List.mem_append.1 hM with hM | hM
    ·exact .inl (.inr hM)
    ·exact .inr (new b hM)
  ·exact r2 a ha _ _ _ (hs.pre.ats a ha)
 ·rw [oA_app] at hb
  rcases List.mem_append.1 hb with hb | hb
  ·exact .inl hb
  ·exact .inr (new b hb)
end
end Go.Proofs.YtbabchapkhlenaaGreat
