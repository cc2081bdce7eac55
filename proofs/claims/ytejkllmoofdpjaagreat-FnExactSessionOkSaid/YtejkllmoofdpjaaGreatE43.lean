/- Parts of the proof: VP9 VQ3 V90. -/
import Derived.Test.YtejkllmoofdpjaaGreatE40
import Derived.Test.YtejkllmoofdpjaaGreatE36
namespace Go.Proofs.YtejkllmoofdpjaaGreat
open Go
set_option linter.all false
set_option maxRecDepth 100000
set_option maxHeartbeats 4000000
noncomputable section
open Classical
def BelT (t : T) (n : Int) : Prop := ∀ v, t.Occ v → (v : Int) < n
def BelS (s : Sb) (n : Int) : Prop := ∀ b ∈ s, (b.1 : Int) < n ∧ BelT b.2 n
def Stt.raw (st : Stt) : StR := ⟨st.next, st.bind.map toB, st.dis.map fun d => d.map toB, st.kinds.map toK, st.marks.map toM⟩
structure StChk (st : Stt) : Prop where
 nx : st.next ≤ 100000
 pre : Pre1 st
 bb : BelS st.bind st.next
 bd : ∀ d ∈ st.dis, BelS d st.next
 bk : ∀ k ∈ st.kinds, (k.1 : Int) < st.next
 bm : ∀ m ∈ st.marks, (m.1 : Int) < st.next
def SttOk (s : StR) : Prop := ∃ st : Stt, s = st.raw ∧ StChk st ∧ settleF st = some st
theorem toK_inj {s s' : Ks} (h : s.map toK = s'.map toK) : s = s' := List.map_inj_right (fun a b h => by
 have h : ((a.1 : Int), a.2) = ((b.1 : Int), b.2) := h
 cases a; cases b; simp only [Prod.mk.injEq] at h
 obtain ⟨h1, rfl⟩ := h
 obtain rfl := Int.ofNat.inj h1
 rfl) |>.1 h
theorem toM_inj {s s' : Ms} (h : s.map toM = s'.map toM) : s = s' := List.map_inj_right (fun a b h => by
 have h : ((a.1 : Int), a.2) = ((b.1 : Int), b.2) := h
 cases a; cases b; simp only [Prod.mk.injEq] at h
 obtain ⟨h1, rfl⟩ := h
 obtain rfl := Int.ofNat.inj h1
 rfl) |>.1 h
theorem raw_inj {a b : Stt} (h : a.raw = b.raw) : a = b := by
 obtain ⟨a1, a2, a3, a4, a5⟩ := a
 obtain ⟨b1, b2, b3, b4, b5⟩ := b
 simp only [Stt.raw, StR.mk.injEq] at h
 obtain ⟨h1, h2, h3, h4, h5⟩ := h
 obtain rfl := Int.ofNat.inj h1
 obtain rfl := toB_inj h2
 obtain rfl := (List.map_inj_right fun _ _ => toB_inj).1 h3
 obtain rfl := toK_inj h4
 obtain rfl := toM_inj h5
 rfl
theorem stOk_raw {st : Stt} : SttOk st.raw ↔ StChk st ∧ settleF st = some st := ⟨fun ⟨_, e, h⟩ => raw_inj e ▸ h, fun h => ⟨st, rfl, h⟩⟩
theorem encSt_raw (st : Stt) : encSt st.raw = encStt st := by
 show [_, _, D.s 1 ((st.dis.map fun d => d.map toB).map (encL 5 encB)), _, _] = _
 rw [List.map_map]; rfl
theorem dis_rows (L : List Sb) : (L.map fun d => d.map toB).map (encL 5 encB) = L.map eS := by rw [List.map_map]; rfl
theorem rowsAll_of {α β : Type} {f : β → α} {p : β → Prop} : ∀ {l : List α}, (∀ x ∈ l, ∃ y, x = f y ∧ p y) → ∃ m : List β, l = m.map f ∧ ∀ y ∈ m, p y
 | [], _ => ⟨[], rfl, by simp⟩
 | a :: l, h => by
  obtain ⟨y, rfl, hy⟩ := h _ (List.mem_cons_self ..)
  obtain ⟨m, rfl, hm⟩ := rowsAll_of (l := l) fun x hx => h x (List.mem_cons_of_mem _ hx)
  exact ⟨y :: m, rfl, fun z hz => (List.mem_cons.1 hz).elim (fun e => e ▸ hy) (hm z)⟩
section
variable {s : StR} (h : SttOk s)
include h
theorem SttOk.nx : 0 ≤ s.next ∧ s.next ≤ 100000 := by
 obtain ⟨st, rfl, hc, _⟩ := h
 have := hc.nx
 exact ⟨Int.natCast_nonneg _, by show (st.next : Int) ≤ _; omega⟩
theorem SttOk.b : SubR s.bind := by obtain ⟨st, rfl, hc, _⟩ := h; exact ⟨_, rfl, hc.pre.bind⟩
theorem SttOk.k : KOkR s.kinds := by obtain ⟨st, rfl, hc, _⟩ := h; exact kOkR_iff.2 ⟨_, rfl, hc.pre.kinds⟩
theorem SttOk.m : MOkR s.marks := by obtain ⟨st, rfl, hc, _⟩ := h; exact mOkR_iff.2 ⟨_, rfl, hc.pre.marks⟩
theorem SttOk.bb {b : Sb} (e : s.bind = b.map toB) : BelS b s.next := by
 obtain ⟨st, rfl, hc, _⟩ := h
 rw [← toB_inj (show st.bind.map toB = b.map toB from e)]
 exact hc.bb
theorem SttOk.d {d : List BdR} (e : d ∈ s.dis) : ∃ x : Sb, d = x.map toB ∧ Sub x ∧ BelS x s.next := by
 obtain ⟨st, rfl, hc, _⟩ := h
 obtain ⟨x, hx, rfl⟩ := List.mem_map.1 (show d ∈ st.dis.map fun d => d.map toB from e)
 exact ⟨x, rfl, hc.pre.dis x hx, hc.bd x hx⟩
theorem SttOk.bk {k : VkR} (e : k ∈ s.kinds) : k.1 < s.next := by
 obtain ⟨st, rfl, hc, _⟩ := h
 obtain ⟨x, hx, rfl⟩ := List.mem_map.1 (show k ∈ st.kinds.map toK from e)
 exact hc.bk x hx
theorem SttOk.bm {k : MkR} (e : k ∈ s.marks) : k.1 < s.next := by
 obtain ⟨st, rfl, hc, _⟩ := h
 obtain ⟨x, hx, rfl⟩ := List.mem_map.1 (show k ∈ st.marks.map toM from e)
 exact hc.bm x hx
end
theorem StChk.sp {st : Stt} (h : StChk st) (hm : st.marks.length ≤ 1048576) (hd : st.dis.length ≤ 1048576) : ∃ tags : List ByteArray, tags.length ≤ 10000000 ∧ SP tags st :=
 ⟨st.marks.map Prod.snd, by simp; omega, ⟨h.pre, ⟨h.pre.marks, fun m hm => List.mem_map_of_mem hm⟩, by omega, by have := h.nx; omega⟩⟩
def bndL (l : List Nat) : Nat := l.foldl (fun m v => max m (v + 1)) 0
theorem bndL_app (l : List Nat) (v : Nat) : bndL (l ++ [v]) = max (bndL l) (v + 1) := by unfold bndL; rw [List.foldl_append]; rfl
theorem bnd_foldl {n : Nat} : ∀ {l : List Nat} {m : Nat}, l.foldl (fun m v => max m (v + 1)) m ≤ n ↔ m ≤ n ∧ ∀ v ∈ l, v < n
 | [], m => by simp
 | v :: l, m => by
  rw [List.foldl_cons, bnd_foldl]
  constructor
  ·rintro ⟨h1, h2⟩
   exact ⟨by omega, fun u hu => (List.mem_cons.1 hu).elim (fun e => by omega) (h2 u)⟩
  ·rintro ⟨h1, h2⟩
   have := h2 v (List.mem_cons_self ..)
   exact ⟨by omega, fun u hu => h2 u (List.mem_cons_of_mem _ hu)⟩
theorem bndL_le {l : List Nat} {n : Nat} : bndL l ≤ n ↔ ∀ v ∈ l, v < n := by unfold bndL; rw [bnd_foldl]; simp
theorem belT_bnd {t : T} {n : Nat} : ¬ (bndL t.vars : Int) > n ↔ BelT t n := by
 rw [show ¬ (bndL t.vars : Int) > n ↔ bndL t.vars ≤ n by omega, bndL_le]
 unfold BelT
 simp only [mem_vars, Int.ofNat_lt]
end
noncomputable section
open Classical
def noG (g : Gl) : Prop := g.kind = 0 ∧ g.name = noS ∧ g.terms = [] ∧ g.goals = []
def noSt (s : StR) : Prop := s.next = 0 ∧ s.bind = [] ∧ s.dis = [] ∧ s.kinds = [] ∧ s.marks = []
def noB (b : BrR) : Prop := b.ch = [] ∧ noSt b.st
def brOk (b : BrR) : Prop := (∀ c ∈ b.ch, 0 ≤ c ∧ c ≤ 7) ∧ SttOk b.st
def goalP (p : List RlR) (g : Gl) (n : Int) : Prop := ∃ u : G, g = u.gl ∧ u.okG ∧ (∀ x ∈ u.pre, okC p x) ∧ (∀ v ∈ gvars u, (v : Int) < n) ∧ ∀ x ∈ u.pre, ¬ isN x
abbrev hasB (k : Int) : Prop := k = 1 ∨ k = 2
abbrev hasG (k : Int) : Prop := k = 2 ∨ k = 3
mutual
/-- the least Next in a stream: the program's way -/
def lst : Sm → Int
 | .mk k b _ l => if hasB k then b.st.next else lstL l 100001
def lstL : List Sm → Int → Int
 | [], n => n
 | x :: l, n => lstL l (min n (lst x))
end
mutual
/-- the reference's way -/
def lsr : Sm → Int → Int
 | .mk k b _ l, n => lsrL l (if hasB k ∧ b.st.next < n then b.st.next else n)
def lsrL : List Sm → Int → Int
 | [], n => n
 | x :: l, n => lsrL l (lsr x n)
end
theorem lst_eq (s : Sm) : lst s = if hasB s.kind then s.br.st.next else lstL s.kids 100001 := by cases s; rfl
theorem lsr_eq (s : Sm) (n : Int) : lsr s n = lsrL s.kids (if hasB s.kind ∧ s.br.st.next < n then s.br.st.next else n) := by cases s; rfl
def kidsN (k : Int) : Nat := if k = 3 then 1 else if k = 4 then 2 else 0
inductive SmOk (p : List RlR) : Sm → Prop
 | mk (s : Sm) (k : 0 ≤ s.kind ∧ s.kind ≤ 4) (n : s.kids.length = kidsN s.kind) (kids0 : ∀ x ∈ s.kids, x.kind ≠ 0) (kids : ∀ x ∈ s.kids, SmOk p x)
  (b1 : hasB s.kind → brOk s.br) (b0 : ¬ hasB s.kind → noB s.br) (g1 : hasG s.kind → goalP p s.goal (lst s)) (g0 : ¬ hasG s.kind → noG s.goal) : SmOk p s
theorem smOk_iff {p : List RlR} {s : Sm} : SmOk p s ↔ (0 ≤ s.kind ∧ s.kind ≤ 4) ∧ s.kids.length = kidsN s.kind ∧ (∀ x ∈ s.kids, x.kind ≠ 0 ∧ SmOk p x) ∧ (hasB s.kind → brOk s.br) ∧ (¬ hasB s.kind → noB s.br) ∧ (hasG s.kind → goalP p s.goal (lst s)) ∧ (¬ hasG s.kind → noG s.goal) :=
 ⟨fun h => by cases h with | mk _ a b c0 c d e f g => exact ⟨a, b, fun x hx => ⟨c0 x hx, c x hx⟩, d, e, f, g⟩, fun ⟨a, b, c, d, e, f, g⟩ => .mk _ a b (fun x hx => (c x hx).1) (fun x hx => (c x hx).2) d e f g⟩
theorem lstL_min : ∀ {l : List Sm} {n : Int}, lstL l n ≤ n ∧ ∀ m : Int, m ≤ n → lstL l m = min m (lstL l n)
 | [], n => ⟨Int.le_refl _, fun m h => by show m = min m n; omega⟩
 | x :: l, n => by
  have h1 := (lstL_min (l := l) (n := min n (lst x)))
  refine ⟨by show lstL l (min n (lst x)) ≤ n; omega, fun m h => ?_⟩
  show lstL l (min m (lst x)) = min m (lstL l (min n (lst x)))
  rw [h1.2 (min m (lst x)) (by omega)]
  omega
mutual
/-- in a valid stream both ways agree -/
theorem lsr_lst {p : List RlR} : ∀ {s : Sm}, SmOk p s → lst s ≤ 100001 ∧ ∀ n : Int, n ≤ 100001 → lsr s n = min n (lst s)
 | .mk k b g l, h => by
  obtain ⟨h1, h2, h3, h4, _⟩ := smOk_iff.1 h
  simp only [Sm.kind_mk, Sm.kids_mk, Sm.br_mk] at h1 h2 h3 h4
  by_cases hk : hasB k
  ·have hl : l = [] := List.length_eq_zero_iff.1 (by rw [show l.length = kidsN k from h2]; unfold kidsN; rw [if_neg (by omega), if_neg (by omega)])
   subst hl
   have hn : b.st.next ≤ 100000 := (h4 hk).2.nx.2
   have e : lst (.mk k b g []) = b.st.next := if_pos hk
   refine ⟨by omega, fun n hn => ?_⟩
   rw [e]
   show (if hasB k ∧ b.st.next < n then b.st.next else n) = _
   by_cases hlt : b.st.next < n
   ·rw [if_pos ⟨hk, hlt⟩]; omega
   ·rw [if_neg fun h => hlt h.2]; omega
  ·have e : lst (.mk k b g l) = lstL l 100001 := if_neg hk
   have hL := lsrL_lstL (l := l) fun x hx => (h3 x hx).2
   refine ⟨by rw [e]; exact lstL_min.1, fun n hn => ?_⟩
   rw [e]
   show lsrL l (if hasB k ∧ b.st.next < n then b.st.next else n) = _
   rw [if_neg fun h => hk h.1, hL n hn]
   exact lstL_min.2 n hn
theorem lsrL_lstL {p : List RlR} : ∀ {l : List Sm}, (∀ x ∈ l, SmOk p x) → ∀ n : Int, n ≤ 100001 → lsrL l n = lstL l n
 | [], _, _, _ => rfl
 | x :: l, h, n, hn => by
  show lsrL l (lsr x n) = lstL l (min n (lst x))
  rw [(lsr_lst (h x (List.mem_cons_self ..))).2 n hn]
  exact lsrL_lstL (fun y hy => h y (List.mem_cons_of_mem _ hy)) _ (by omega)
end
mutual
/-- a valid stream that is not empty has a branch -/
theorem lst_le {p : List RlR} : ∀ {s : Sm}, SmOk p s → s.kind ≠ 0 → 0 ≤ lst s ∧ lst s ≤ 100000
 | .mk k b g l, h, h0 => by
  obtain ⟨h1, h2, h3, h4, _⟩ := smOk_iff.1 h
  simp only [Sm.kind_mk, Sm.kids_mk, Sm.br_mk] at h0 h1 h2 h3 h4
  by_cases hk : hasB k
  ·have hn := (h4 hk).2.nx
   rw [show lst (.mk k b g l) = b.st.next from if_pos hk]
   exact hn
  ·have hl : l ≠ [] := fun e => by
    rw [e] at h2
    unfold kidsN at h2
    split at h2
    ·simp at h2
    ·split at h2
     ·simp at h2
     ·omega
   rw [show lst (.mk k b g l) = lstL l 100001 from if_neg hk]
   exact lstL_le (l := l) (n := 100001) (fun x hx => ⟨(h3 x hx).2, (h3 x hx).1⟩) (by omega) (.inr hl)
theorem lstL_le {p : List RlR} : ∀ {l : List Sm} {n : Int}, (∀ x ∈ l, SmOk p x ∧ x.kind ≠ 0) → 0 ≤ n → (n ≤ 100000 ∨ l ≠ []) → 0 ≤ lstL l n ∧ lstL l n ≤ 100000
 | [], n, _, h0, h => ⟨h0, h.elim id fun e => absurd rfl e⟩
 | x :: l, n, h, h0, _ => by
  obtain ⟨h1, h2⟩ := h x (List.mem_cons_self ..)
  have := lst_le h1 h2
  exact lstL_le (l := l) (fun y hy => h y (List.mem_cons_of_mem _ hy)) (by omega) (.inl (by omega))
end
end
noncomputable section
open Classical
theorem Con1.yes {P : Program} {g : Nat} {α : Type} {a : α → AV} {p pre : α → Prop} (h : Con1 P g α a (fun x => bp (p x)) pre) : Con1 P g α a (fun _ => bv true) (fun x => pre x ∧ p x) := ⟨fun x hx => by
 have := h.h x hx.1
 rwa [show bp (p x) = bv true from (bpT hx.2).symm] at this⟩
theorem Con1.no {P : Program} {g : Nat} {α : Type} {a : α → AV} {p pre : α → Prop} (h : Con1 P g α a (fun x => bp (p x)) pre) : Con1 P g α a (fun _ => bv false) (fun x => pre x ∧ ¬ p x) := ⟨fun x hx => by
 have := h.h x hx.1
 rwa [show bp (p x) = bv false from (bpF hx.2).symm] at this⟩
theorem Con2.yes {P : Program} {g : Nat} {α β : Type} {a : α → AV} {b : β → AV} {p pre : α → β → Prop} (h : Con2 P g α β a b (fun x y => bp (p x y)) pre) : Con2 P g α β a b (fun _ _ => bv true) (fun x y => pre x y ∧ p x y) := ⟨fun x y hx => by
 have := h.h x y hx.1
 rwa [show bp (p x y) = bv true from (bpT hx.2).symm] at this⟩
theorem Con2.no {P : Program} {g : Nat} {α β : Type} {a : α → AV} {b : β → AV} {p pre : α → β → Prop} (h : Con2 P g α β a b (fun x y => bp (p x y)) pre) : Con2 P g α β a b (fun _ _ => bv false) (fun x y => pre x y ∧ ¬ p x y) := ⟨fun x y hx => by
 have := h.h x y hx.1
 rwa [show bp (p x y) = bv false from (bpF hx.2).symm] at this⟩
theorem Con3.yes {P : Program} {g : Nat} {α β γ : Type} {a : α → AV} {b : β → AV} {c : γ → AV} {p pre : α → β → γ → Prop} (h : Con3 P g α β γ a b c (fun x y z => bp (p x y z)) pre) : Con3 P g α β γ a b c (fun _ _ _ => bv true) (fun x y z => pre x y z ∧ p x y z) := ⟨fun x y z hx => by
 have := h.h x y z hx.1
 rwa [show bp (p x y z) = bv true from (bpT hx.2).symm] at this⟩
theorem Con3.no {P : Program} {g : Nat} {α β γ : Type} {a : α → AV} {b : β → AV} {c : γ → AV} {p pre : α → β → γ → Prop} (h : Con3 P g α β γ a b c (fun x y z => bp (p x y z)) pre) : Con3 P g α β γ a b c (fun _ _ _ => bv false) (fun x y z => pre x y z ∧ ¬ p x y z) := ⟨fun x y z hx => by
 have := h.h x y z hx.1
 rwa [show bp (p x y z) = bv false from (bpF hx.2).symm] at this⟩
abbrev v1T (t : T) : AV := .one (.s 4 [encT t.tm])
theorem termsYes1 : Con1 Tryz.prog 168 T v1T (fun _ => bv true) T.okT := ⟨fun t h => termsYes_i.h [t.tm] ⟨⟨by unfold Lng; simp, tm_in h.fit, trivial⟩, fun x hx => by rw [List.mem_singleton.1 hx]; exact tm_ok.2 h⟩⟩
instance varBound1_c : Con1 Tryz.prog 250 T v1T (fun t => nv (bndL t.vars)) T.okT := ⟨fun t ht => by
 haveI := termsYes1
 refine Spec.pu ?_
 refine sp Tryz.func250 rfl Tryz.ntmps250 rfl rfl fun C => ?_
 (repeat' first | (refine kk ?_; intros) | refine kfk ?_ ?_ <;> intro hb | fail)
 rename_i bn
 refine kfor (ι := Unit) [t] (fun j _ => [(3, .one (.v (.pointer (some ⟨bn, 0, none⟩)))), (9, v1T t)]) (fun j _ => [abox bn [.v (.int .i64 (bndL (([t].take j).flatMap T.vars) : Int))] 3]) (fun _ _ => True) () trivial ?_ ?_ (hN := by simp)
 ·rintro j x _ hj hdd hjl _
  obtain ⟨rfl, rfl⟩ : j = 0 ∧ x = t := by
   have h0 : j = 0 := by simpa using hjl
   subst h0
   exact ⟨rfl, by simpa using hj.symm⟩
  have hrow : [encT x.tm][0]? = some (encT x.tm) := rfl
  (repeat' first | (refine kkS [209] [] ?_; intros) | refine kfS [209] [] ?_ ?_ <;> intro hb | fail)
  rename_i bt
  refine kcs (A1 := [abox bt (encT x.tm) 174]) (h := eachVar_c (g := 286) (cap := [.pointer (some ⟨bn, 0, none⟩)]) (by rfl) (fun vs A' => A' = [abox bn [.v (.int .i64 (bndL vs : Int))] 3]) x [] _ ?_ rfl) ?_
  ·rintro vs v A' hv rfl
   have hv2 := ht.fit.1 v hv
   refine sp Tryz.func286 rfl Tryz.ntmps286 rfl rfl fun C => ?_
   (repeat' first | (refine kk ?_; intros) | refine kfk ?_ ?_ <;> intro hb | fail)
   refine ker0 (A'' := [abox bn [.v (.int .i64 (max ((bndL vs : Nat) : Int) ((v + 1 : Nat) : Int)))] 3]) ?_
   rw [bndL_app, show ((max (bndL vs) (v + 1) : Nat) : Int) = max ((bndL vs : Nat) : Int) ((v + 1 : Nat) : Int) by omega]
  ·rintro _ A' rfl
   (repeat' first | (refine kk ?_; intros) | refine kfk ?_ ?_ <;> intro hb | fail)
   refine ⟨(), trivial, ?_⟩
   rw [show bndL (([x].take (0 + 1)).flatMap T.vars) = bndL ([] ++ x.vars) by simp]
   exact kwk
 ·rintro _ _
  (repeat' first | (refine kk ?_; intros) | refine kfk ?_ ?_ <;> intro hb | fail)
  exact ker1 _ ⟨rfl, rfl⟩ (hle := le_eq (by simp))⟩
instance below_c : Con2 Tryz.prog 200 Sb Nat vS nv (fun s n => bp (BelS s n)) (fun s _ => Sub s) := ⟨fun s n hs => by
 have hlen : ((s.map toB).map encB).length = s.length := by simp
 have hl1 := hs.vok.len
 have hl2 : Lng s.length := by unfold Lng; omega
 refine pu Tryz.func200 rfl Tryz.ntmps200 rfl rfl fun C => ?_
 (repeat' first | (refine kk ?_; intros) | refine kfk ?_ ?_ <;> intro hb | fail)
 refine kfor (ι := Unit) s (fun j _ => [(1, nv n), (7, vS s)]) (fun j _ => []) (fun j _ => ∀ b ∈ s.take j, (b.1 : Int) < n ∧ BelT b.2 n) () (by simp) ?_ ?_
 ·rintro j ⟨v, t⟩ _ hj hdd hjl hp
  have hrow : ((s.map toB).map encB)[j]? = some (.v (.int .i64 (v : Int)) :: encT t.tm) := by simp [hj, encB]
  have hm := List.mem_of_getElem? hj
  have p1 : t.okT := (hs.vok.ok _ hm).2
  have hbt := belT_bnd (t := t) (n := n)
  (repeat' first | (refine kk ?_; intros) | refine kfk ?_ ?_ <;> intro hb | fail)
  all_goals first
   | exact kret (bpF fun h => by have := (h _ hm).1; simp only at this; omega)
   | exact kret (bpF fun h => absurd (by assumption) (hbt.2 (h _ hm).2))
   | exact ⟨(), take_succ_all hj hp ⟨by omega, hbt.1 (by assumption)⟩, kwk⟩
 ·rintro _ hp
  rw [List.take_length] at hp
  (repeat' first | (refine kk ?_; intros) | refine kfk ?_ ?_ <;> intro hb | fail)
  exact kret (bpT hp)⟩
theorem eqK (w : World) (a b c d : Int) : runC Tryz.prog w (Op.equal 186 (.agg #[.int .i64 a, .int .i64 c]) (.agg #[.int .i64 b, .int .i64 d])) = some ((a == b) && (c == d)) := by
 have e1 := eqI w 9998 a b
 have e2 := eqI w 9998 c d
 unfold Op.equal
 rw [show Op.maxDepth = 9998 + 2 from rfl, Op.equalIn]
 rw [runC_bind, runC_underlying Tryz.underlying186]
 simp only [Option.bind_some]
 rw [runC_bind, show runC Tryz.prog w program = some Tryz.prog from rfl]
 simp only [Option.bind_some]
 rw [if_neg (by rw [show Tryz.prog.stoodInHeld 186 = false by kernel_rfl]; simp)]
 have p1 : runC Tryz.prog w (part 3 #[.int .i64 a, .int .i64 c] 0) = some (.int .i64 a) := by kernel_rfl
 have p2 : runC Tryz.prog w (part 3 #[.int .i64 b, .int .i64 d] 0) = some (.int .i64 b) := by kernel_rfl
 have p3 : runC Tryz.prog w (part 3 #[.int .i64 a, .int .i64 c] 1) = some (.int .i64 c) := by kernel_rfl
 have p4 : runC Tryz.prog w (part 3 #[.int .i64 b, .int .i64 d] 1) = some (.int .i64 d) := by kernel_rfl
 simp only [← Array.forIn_toList, List.forIn_cons, List.forIn_nil, bind_assoc, ne_eq, reduceCtorEq]
 have n1 : ¬ ("Var" : String) = "_" := by decide
 have n2 : ¬ ("Kind" : String) = "_" := by decide
 simp only [n1, n2, not_false_eq_true, if_true, bind_assoc, pure_bind]
 simp only [runC_bind, p1, p2, p3, p4, e1, e2, Option.bind_some]
 generalize (a == b) = q1
 generalize (c == d) = q2 at e2 ⊢
 cases q1 <;> cases q2 <;> simp [runC_bind, runC_pure, p3, p4, e2]
theorem P_ne2 {P : Program} {f : AF} {A : List Atm} {d : Option Tmp} {ty : TypeId} {pos : String} {aft : Array Edge} {gg : Option (Nat × Bool)} {xt yt : TypeId} (x y : Operand) {a b c e : Value} {q : Bool} (hx : eva f x = .agg [.v a, .v c]) (hy : eva f y = .agg [.v b, .v e])
 (hg : P.eqGuardType P.depth xt = false) (h : ∀ w, runC P w (Op.equal xt (.agg #[a, c]) (.agg #[b, e])) = some q) : PuO P f A ⟨d, .binOp .neq xt x y yt, ty, pos, aft, gg⟩ (bv !q) := PuO_rd fun M w r hp hr => by
 have hop : (Op.binOp .neq xt x y yt).operands = #[x, y] := rfl
 have g1 := hr x (by simp [hop])
 have g2 := hr y (by simp [hop])
 rw [hx] at g1
 rw [hy] at g2
 obtain ⟨_, r1, _, _, rfl, ⟨rfl, _⟩, _, _, rfl, ⟨rfl, _⟩, rfl⟩ := g1
 obtain ⟨_, r2, _, _, rfl, ⟨rfl, _⟩, _, _, rfl, ⟨rfl, _⟩, rfl⟩ := g2
 refine ⟨_, ?_, rfl, rfl⟩
 simp only [execOp, r1, r2, eqGuard, binOp]
 simp only [runC_bind, runC_pure, bind_assoc, h w, Option.bind_some, Bool.not_true, Bool.false_eq_true, if_false, show runC P w program = some P from rfl, hg, Bool.not_false, if_true]
end
end Go.Proofs.YtejkllmoofdpjaaGreat
