/- Parts of the proof: V91 V92. -/
import Derived.Test.YtejkllmoofdpjaaGreatE43
import Derived.Test.YtejkllmoofdpjaaGreatE33
namespace Go.Proofs.YtejkllmoofdpjaaGreat
open Go
set_option linter.all false
set_option maxRecDepth 100000
set_option maxHeartbeats 4000000
noncomputable section
open Classical
theorem take_eqS {α : Type} {l m : List α} {j : Nat} {x y : α} (hx : l[j]? = some x) (hy : m[j]? = some y) (he : l.take j = m.take j) (h : x = y) : l.take (j + 1) = m.take (j + 1) := by rw [List.take_add_one, List.take_add_one, hx, hy, he, h]
theorem ne_of_get {α : Type} {l m : List α} {j : Nat} {x y : α} (hx : l[j]? = some x) (hy : m[j]? = some y) (h : ¬ x = y) : ¬ l = m := fun e => h (by subst e; rw [hx] at hy; exact Option.some.inj hy)
theorem beqK {a b c d : Int} : ((a == b) && (c == d)) = true ↔ a = b ∧ c = d := by simp
theorem Stt.eq_iff {a b : Stt} : a = b ↔ a.next = b.next ∧ a.bind = b.bind ∧ a.dis = b.dis ∧ a.kinds = b.kinds ∧ a.marks = b.marks := ⟨fun h => by subst h; simp, fun ⟨h1, h2, h3, h4, h5⟩ => by cases a; cases b; simp_all⟩
structure StB (st : Stt) : Prop where
 b : st.bind.length ≤ 1000000
 d : st.dis.length ≤ 2000000 ∧ ∀ d ∈ st.dis, d.length ≤ 1000000
 k : st.kinds.length ≤ 2000000
 m : Lng st.marks.length
instance sameState_c : Con2 Tryz.prog 201 Stt Stt vSt vSt (fun a b => bp (a = b)) (fun a b => StB a ∧ StB b) := ⟨fun a b ⟨ha, hb⟩ => by
 obtain ⟨a1, ⟨a2, a2'⟩, a3, a4⟩ := ha
 obtain ⟨b1, ⟨b2, b2'⟩, b3, b4⟩ := hb
 have la2 : (a.dis.map eS).length = a.dis.length := List.length_map _
 have lb2 : (b.dis.map eS).length = b.dis.length := List.length_map _
 have la3 : ((a.kinds.map toK).map encK).length = a.kinds.length := by simp
 have lb3 : ((b.kinds.map toK).map encK).length = b.kinds.length := by simp
 have la4 : ((a.marks.map toM).map encM).length = a.marks.length := by simp
 have lb4 : ((b.marks.map toM).map encM).length = b.marks.length := by simp
 have p1 : a.bind.length ≤ 1000000 ∧ b.bind.length ≤ 1000000 := ⟨a1, b1⟩
 rw [Stt.eq_iff]
 refine pu Tryz.func201 rfl Tryz.ntmps201 rfl rfl fun C => ?_
 by_cases c1 : a.next = b.next
 case neg =>
  (repeat' first | (refine kk ?_; intros) | refine kfk ?_ ?_ <;> intro hb | fail)
  all_goals first
   | exact kret (bpF fun h => c1 h.1)
   | (exfalso; omega)
 by_cases c2 : a.bind = b.bind
 case neg =>
  (repeat' first | (refine kk ?_; intros) | refine kfk ?_ ?_ <;> intro hb | fail)
  all_goals first
   | exact kret (bpF fun h => c2 h.2.1)
   | (exfalso; omega)
   | exact absurd (by assumption) c2
 by_cases c3 : a.dis.length = b.dis.length
 case neg =>
  (repeat' first | (refine kk ?_; intros) | refine kfk ?_ ?_ <;> intro hb | fail)
  all_goals first
   | exact kret (bpF fun h => c3 (congrArg List.length h.2.2.1))
   | (exfalso; omega)
   | exact absurd c2 (by assumption)
 by_cases c4 : a.kinds.length = b.kinds.length
 case neg =>
  (repeat' first | (refine kk ?_; intros) | refine kfk ?_ ?_ <;> intro hb | fail)
  all_goals first
   | exact kret (bpF fun h => c4 (congrArg List.length h.2.2.2.1))
   | (exfalso; omega)
   | exact absurd c2 (by assumption)
 by_cases c5 : a.marks.length = b.marks.length
 case neg =>
  (repeat' first | (refine kk ?_; intros) | refine kfk ?_ ?_ <;> intro hb | fail)
  all_goals first
   | exact kret (bpF fun h => c5 (congrArg List.length h.2.2.2.2))
   | (exfalso; omega)
   | exact absurd c2 (by assumption)
 (repeat' first | (refine kk ?_; intros) | refine kfk ?_ ?_ <;> intro hb | fail)
 all_goals try (exact absurd c2 (by assumption))
 rename_i q2 q3
 refine kfor (ι := Unit) a.dis (fun j _ => [(2, .one (.v (.pointer (some ⟨q2, 0, none⟩)))), (3, .one (.v (.pointer (some ⟨q3, 0, none⟩))))]) (fun j _ => [abox q3 (encStt b) 53, abox q2 (encStt a) 53]) (fun j _ => a.dis.take j = b.dis.take j) () (by simp) ?_ ?_
 ·rintro j x _ hj hdd hjl hp
  obtain ⟨y, hy⟩ : ∃ y, b.dis[j]? = some y := ⟨b.dis[j]'(by omega), List.getElem?_eq_getElem (by omega)⟩
  have r1 : (a.dis.map eS)[j]? = some (eS x) := by simp [hj]
  have r2 : (b.dis.map eS)[j]? = some (eS y) := by simp [hy]
  have q1 : x.length ≤ 1000000 ∧ y.length ≤ 1000000 := ⟨a2' x (List.mem_of_getElem? hj), b2' y (List.mem_of_getElem? hy)⟩
  (repeat' first | (refine kk ?_; intros) | refine kfk ?_ ?_ <;> intro hb | fail)
  all_goals first
   | exact kret (bpF fun h => ne_of_get hj hy (by assumption) h.2.2.1)
   | exact ⟨(), take_eqS hj hy hp (by assumption), kwk⟩
 ·rintro _ hd1
  rw [List.take_length, c3, List.take_length] at hd1
  (repeat' first | (refine kk ?_; intros) | refine kfk ?_ ?_ <;> intro hb | fail)
  refine kfor (ι := Unit) a.kinds (fun j _ => [(2, .one (.v (.pointer (some ⟨q2, 0, none⟩)))), (3, .one (.v (.pointer (some ⟨q3, 0, none⟩))))]) (fun j _ => [abox q3 (encStt b) 53, abox q2 (encStt a) 53]) (fun j _ => a.kinds.take j = b.kinds.take j) () (by simp) ?_ ?_
  ·rintro j ⟨v, k⟩ _ hj hdd hjl hp
   obtain ⟨⟨v', k'⟩, hy⟩ : ∃ y, b.kinds[j]? = some y := ⟨b.kinds[j]'(by omega), List.getElem?_eq_getElem (by omega)⟩
   have r1 : ((a.kinds.map toK).map encK)[j]? = some [.v (.int .i64 (v : Int)), .v (.int .i64 k)] := by simp [hj, encK]
   have r2 : ((b.kinds.map toK).map encK)[j]? = some [.v (.int .i64 (v' : Int)), .v (.int .i64 k')] := by simp [hy, encK]
   (repeat' first | (refine kk ?_; intros) | refine kfk ?_ ?_ <;> intro hb | fail)
   refine kar ?_ (h := P_ne2 _ _ rfl rfl (by kernel_rfl) fun w => eqK w _ _ _ _)
   (repeat' first | (refine kk ?_; intros) | refine kfk ?_ ?_ <;> intro hb | fail)
   all_goals first
    | exact kret (bpF fun h => ne_of_get hj hy (fun e => by cases e; rw [beqK.2 ⟨rfl, rfl⟩] at hb; cases hb) h.2.2.2.1)
    | exact ⟨(), take_eqS hj hy hp (by obtain ⟨e1, e2⟩ := beqK.1 hb; obtain rfl := Int.ofNat.inj e1; rw [e2]), kwk⟩
  ·rintro _ hk1
   rw [List.take_length, c4, List.take_length] at hk1
   (repeat' first | (refine kk ?_; intros) | refine kfk ?_ ?_ <;> intro hb | fail)
   refine kfor (ι := Unit) a.marks (fun j _ => [(2, .one (.v (.pointer (some ⟨q2, 0, none⟩)))), (3, .one (.v (.pointer (some ⟨q3, 0, none⟩))))]) (fun j _ => [abox q3 (encStt b) 53, abox q2 (encStt a) 53]) (fun j _ => a.marks.take j = b.marks.take j) () (by simp) ?_ ?_
   ·rintro j ⟨v, k⟩ _ hj hdd hjl hp
    obtain ⟨⟨v', k'⟩, hy⟩ : ∃ y, b.marks[j]? = some y := ⟨b.marks[j]'(by omega), List.getElem?_eq_getElem (by omega)⟩
    have r1 : ((a.marks.map toM).map encM)[j]? = some [.v (.int .i64 (v : Int)), .v (.string k)] := by simp [hj, encM]
    have r2 : ((b.marks.map toM).map encM)[j]? = some [.v (.int .i64 (v' : Int)), .v (.string k')] := by simp [hy, encM]
    (repeat' first | (refine kk ?_; intros) | refine kfk ?_ ?_ <;> intro hb | fail)
    refine kar ?_ (h := P_ne2 _ _ rfl rfl (by kernel_rfl) fun w => eqM w 9998 _ _ _ _)
    (repeat' first | (refine kk ?_; intros) | refine kfk ?_ ?_ <;> intro hb | fail)
    all_goals first
     | exact kret (bpF fun h => ne_of_get hj hy (fun e => by cases e; rw [beqM.2 ⟨rfl, rfl⟩] at hb; cases hb) h.2.2.2.2)
     | exact ⟨(), take_eqS hj hy hp (by obtain ⟨e1, e2⟩ := beqM.1 hb; obtain rfl := Int.ofNat.inj e1; rw [e2]), kwk⟩
   ·rintro _ hm1
    rw [List.take_length, c5, List.take_length] at hm1
    (repeat' first | (refine kk ?_; intros) | refine kfk ?_ ?_ <;> intro hb | fail)
    exact kret (bpT ⟨c1, c2, hd1, hk1, hm1⟩)⟩
end
noncomputable section
open Classical
theorem SP.stB {tags : List ByteArray} {st : Stt} (h : SP tags st) (ht : tags.length ≤ 10000000) : StB st :=
 ⟨by have := h.pre.bind.vok.len; omega, ⟨h.dl, fun d hd => by have := (h.pre.dis d hd).vok.len; omega⟩, by have := h.pre.kinds.len; omega, by have := h.mrk.len ht; unfold Lng; omega⟩
instance stateOk_i : Con1 Tryz.prog 157 StR vStr (fun s => bp (SttOk s)) StR.In := ⟨fun s hin => by
 obtain ⟨h1, ⟨h2, h2'⟩, ⟨h3, h3'⟩, ⟨h4, h4'⟩, h5, h5'⟩ := hin
 obtain ⟨nx, bind, dis, kinds, marks⟩ := s
 simp only at h1 h2 h2' h3 h3' h4 h4' h5 h5'
 have p1 : Lng bind.length ∧ InB bind := ⟨by unfold Lng; omega, h2'⟩
 have p2 : Lng kinds.length := by unfold Lng; omega
 have p3 : Lng marks.length ∧ ∀ m ∈ marks, Lng m.2.size := ⟨by unfold Lng; omega, fun m hm => (h5' m hm).2⟩
 show Pu Tryz.prog 157 [.agg [.v (.int .i64 nx), .s 5 (bind.map encB), .s 1 (dis.map (encL 5 encB)), .s 2 (kinds.map encK), .s 2 (marks.map encM)]] _
 refine pu Tryz.func157 rfl Tryz.ntmps157 rfl rfl fun C => ?_
 by_cases c1 : 0 ≤ nx ∧ nx ≤ 100000
 case neg =>
  have h0 : nx < 0 ∨ 100000 < nx := by omega
  rcases h0 with h0 | h0
  all_goals
   (repeat' first | (refine kk ?_; intros) | refine kfk ?_ ?_ <;> intro hb | fail)
   exact kret (bpF fun h => c1 h.nx)
 by_cases c2 : SubR bind
 case neg =>
  haveI := substOk_i.no
  have := And.intro p1 c2
  (repeat' first | (refine kk ?_; intros) | refine kfk ?_ ?_ <;> intro hb | fail)
  exact kret (bpF fun h => c2 h.b)
 obtain ⟨b, rfl, hb⟩ := c2
 haveI := substYes_i
 by_cases c3 : KOkR kinds
 case neg =>
  haveI := kindsOkR_i.no
  have := And.intro p2 c3
  (repeat' first | (refine kk ?_; intros) | refine kfk ?_ ?_ <;> intro hb | fail)
  exact kret (bpF fun h => c3 h.k)
 obtain ⟨ks, rfl, hks⟩ := kOkR_iff.1 c3
 haveI := kindsYes_i
 by_cases c4 : MOkR marks
 case neg =>
  haveI := marksOkR_i.no
  have := And.intro p3 c4
  (repeat' first | (refine kk ?_; intros) | refine kfk ?_ ?_ <;> intro hb | fail)
  exact kret (bpF fun h => c4 h.m)
 obtain ⟨ms, rfl, hms⟩ := mOkR_iff.1 c4
 haveI := marksYes_i
 obtain ⟨n, rfl⟩ : ∃ n : Nat, nx = n := ⟨nx.toNat, by omega⟩
 have hml : ms.length ≤ 1048576 := by simpa using h5
 have p4 : MOk ms ∧ Lng ms.length := ⟨hms, by unfold Lng; omega⟩
 by_cases c5 : BelS b n
 case neg =>
  haveI := below_c.no
  have := And.intro hb c5
  (repeat' first | (refine kk ?_; intros) | refine kfk ?_ ?_ <;> intro hb | fail)
  exact kret (bpF fun h => c5 (h.bb rfl))
 haveI := below_c.yes
 have s5 := And.intro hb c5
 have hdl : (dis.map (encL 5 encB)).length = dis.length := List.length_map _
 (repeat' first | (refine kk ?_; intros) | refine kfk ?_ ?_ <;> intro hb | fail)
 rename_i b1
 refine kfor (ι := Unit) dis (fun j _ => [(1, .one (.v (.pointer (some ⟨b1, 0, none⟩)))), (46, vBss dis)]) (fun j _ => [abox b1 (encSt ⟨n, b.map toB, dis, ks.map toK, ms.map toM⟩) 53]) (fun j _ => ∀ d ∈ dis.take j, ∃ x : Sb, d = x.map toB ∧ Sub x ∧ BelS x n) () (by simp) ?_ ?_
 ·rintro j d _ hj hdd hjl hp
  have hrow : (dis.map (encL 5 encB))[j]? = some (encL 5 encB d) := by simp [hj]
  have hm := List.mem_of_getElem? hj
  by_cases c6 : SubR d
  ·obtain ⟨x, rfl, hx⟩ := c6
   by_cases c7 : BelS x n
   ·have := And.intro hx c7
    (repeat' first | (refine kk ?_; intros) | refine kfk ?_ ?_ <;> intro hb | fail)
    exact ⟨(), take_succ_all hj hp ⟨x, rfl, hx, c7⟩, kwk⟩
   ·haveI := below_c.no
    have := And.intro hx c7
    (repeat' first | (refine kk ?_; intros) | refine kfk ?_ ?_ <;> intro hb | fail)
    exact kret (bpF fun h => by obtain ⟨y, e, _, h3⟩ := h.d hm; exact c7 (toB_inj e ▸ h3))
  ·haveI := substOk_i.no
   have q1 : (Lng d.length ∧ InB d) ∧ ¬ SubR d := ⟨⟨by have := (h3' d hm).1; unfold Lng; omega, (h3' d hm).2⟩, c6⟩
   (repeat' first | (refine kk ?_; intros) | refine kfk ?_ ?_ <;> intro hb | fail)
   exact kret (bpF fun h => by obtain ⟨y, e, h2, _⟩ := h.d hm; exact c6 ⟨y, e, h2⟩)
 ·rintro _ hp
  rw [List.take_length] at hp
  obtain ⟨L, rfl, hL⟩ := rowsAll_of hp
  rw [show encSt ⟨n, b.map toB, L.map fun x => x.map toB, ks.map toK, ms.map toM⟩ = encStt ⟨n, b, L, ks, ms⟩ from encSt_raw ⟨n, b, L, ks, ms⟩]
  have hll : L.length ≤ 1048576 := by simpa using h3
  have hnx : (⟨n, b, L, ks, ms⟩ : Stt).next = n := rfl
  have hkl : ((ks.map toK).map encK).length = ks.length := by simp
  have hkl2 := hks.len
  have hml2 : ((ms.map toM).map encM).length = ms.length := by simp
  (repeat' first | (refine kk ?_; intros) | refine kfk ?_ ?_ <;> intro hb | fail)
  refine kfor (ι := Unit) ks (fun j _ => [(1, .one (.v (.pointer (some ⟨b1, 0, none⟩)))), (64, vK ks)]) (fun j _ => [abox b1 (encStt ⟨n, b, L, ks, ms⟩) 53]) (fun j _ => ∀ k ∈ ks.take j, (k.1 : Int) < n) () (by simp) ?_ ?_
  ·rintro j ⟨v, k⟩ _ hj hdd hjl hp1
   have hrow : ((ks.map toK).map encK)[j]? = some [.v (.int .i64 (v : Int)), .v (.int .i64 k)] := by simp [hj, encK]
   (repeat' first | (refine kk ?_; intros) | refine kfk ?_ ?_ <;> intro hb | fail)
   all_goals first
    | exact kret (bpF fun h => by have := h.bk (k := toK (v, k)) (List.mem_map_of_mem (List.mem_of_getElem? hj)); simp only [toK] at this; omega)
    | exact ⟨(), take_succ_all hj hp1 (by omega), kwk⟩
  ·rintro _ hk
   rw [List.take_length] at hk
   (repeat' first | (refine kk ?_; intros) | refine kfk ?_ ?_ <;> intro hb | fail)
   refine kfor (ι := Unit) ms (fun j _ => [(1, .one (.v (.pointer (some ⟨b1, 0, none⟩)))), (77, vM ms)]) (fun j _ => [abox b1 (encStt ⟨n, b, L, ks, ms⟩) 53]) (fun j _ => ∀ k ∈ ms.take j, (k.1 : Int) < n) () (by simp) ?_ ?_
   ·rintro j ⟨v, g⟩ _ hj hdd hjl hp1
    have hrow : ((ms.map toM).map encM)[j]? = some [.v (.int .i64 (v : Int)), .v (.string g)] := by simp [hj, encM]
    (repeat' first | (refine kk ?_; intros) | refine kfk ?_ ?_ <;> intro hb | fail)
    all_goals first
     | exact kret (bpF fun h => by have := h.bm (k := toM (v, g)) (List.mem_map_of_mem (List.mem_of_getElem? hj)); simp only [toM] at this; omega)
     | exact ⟨(), take_succ_all hj hp1 (by omega), kwk⟩
   ·rintro _ hmm
    rw [List.take_length] at hmm
    have hc : StChk ⟨n, b, L, ks, ms⟩ := ⟨by omega, ⟨hb, fun d hd => (hL d hd).1, hks, hms⟩, c5, fun d hd => (hL d hd).2, hk, hmm⟩
    obtain ⟨tags, ht, hsp⟩ := hc.sp hml hll
    have p5 : ∃ tags : List ByteArray, tags.length ≤ 10000000 ∧ SP tags ⟨n, b, L, ks, ms⟩ := ⟨tags, ht, hsp⟩
    have hfin : SttOk ⟨n, b.map toB, L.map fun x => x.map toB, ks.map toK, ms.map toM⟩ ↔ settleF ⟨n, b, L, ks, ms⟩ = some ⟨n, b, L, ks, ms⟩ := (stOk_raw (st := ⟨n, b, L, ks, ms⟩)).trans ⟨fun h => h.2, fun h => ⟨hc, h⟩⟩
    rw [bpC hfin]
    (repeat' first | (refine kk ?_; intros) | refine kfk ?_ ?_ <;> intro hb | fail)
    cases hset : settleF ⟨n, b, L, ks, ms⟩ with
    | none =>
     (repeat' first | (refine kk ?_; intros) | refine kfk ?_ ?_ <;> intro hb | fail)
     exact kret (bpF (by simp))
    | some x =>
     have p6 : StB x ∧ StB ⟨n, b, L, ks, ms⟩ := ⟨(settle_SP hsp hset).1.stB ht, hsp.stB ht⟩
     (repeat' first | (refine kk ?_; intros) | refine kfk ?_ ?_ <;> intro hb | fail)
     exact kret (bpC (p := x = ⟨n, b, L, ks, ms⟩) (by simp))⟩
end
end Go.Proofs.YtejkllmoofdpjaaGreat
