/- Parts of the proof: V94. -/
import Derived.Test.YtejkllmoofdpjaaGreatE45
namespace Go.Proofs.YtejkllmoofdpjaaGreat
open Go
set_option linter.all false
set_option maxRecDepth 100000
set_option maxHeartbeats 4000000
noncomputable section
open Classical
instance sameSt_s : Con2 Tryz.prog 118 Stt Stt vSt vSt (fun a b => bp (a = b)) (fun a b => StB a ∧ StB b) := ⟨fun a b ⟨ha, hb⟩ => by
 obtain ⟨a1, ⟨a2, a2'⟩, a3, a4⟩ := ha
 obtain ⟨b1, ⟨b2, b2'⟩, b3, b4⟩ := hb
 have la2 : (a.dis.map eS).length = a.dis.length := List.length_map _
 have lb2 : (b.dis.map eS).length = b.dis.length := List.length_map _
 have la3 : ((a.kinds.map toK).map encK).length = a.kinds.length := by simp
 have lb3 : ((b.kinds.map toK).map encK).length = b.kinds.length := by simp
 have la4 : ((a.marks.map toM).map encM).length = a.marks.length := by simp
 have lb4 : ((b.marks.map toM).map encM).length = b.marks.length := by simp
 have p1 : a.bind.length ≤ 1000000 ∧ b.bind.length ≤ 1000000 := ⟨a1, b1⟩
 have hz := cSb_tot.eq a.bind b.bind
 rw [Stt.eq_iff]
 refine pu Tryz.func118 rfl Tryz.ntmps118 rfl rfl fun C => ?_
 by_cases c1 : a.next = b.next
 case neg =>
  (repeat' first | (refine kk ?_; intros) | refine kfk ?_ ?_ <;> intro hb | fail)
  all_goals first
   | exact kret (bpF fun h => c1 h.1)
   | (exfalso; omega)
 by_cases c2 : a.bind = b.bind
 case neg =>
  have hz : ¬ cSb a.bind b.bind = 0 := fun h => c2 (hz.1 h)
  (repeat' first | (refine kk ?_; intros) | refine kfk ?_ ?_ <;> intro hb | fail)
  all_goals first
   | exact kret (bpF fun h => c2 h.2.1)
   | (exfalso; omega)
 have hz : cSb a.bind b.bind = 0 := hz.2 c2
 by_cases c3 : a.dis.length = b.dis.length
 case neg =>
  (repeat' first | (refine kk ?_; intros) | refine kfk ?_ ?_ <;> intro hb | fail)
  all_goals first
   | exact kret (bpF fun h => c3 (congrArg List.length h.2.2.1))
   | (exfalso; omega)
 by_cases c4 : a.kinds.length = b.kinds.length
 case neg =>
  (repeat' first | (refine kk ?_; intros) | refine kfk ?_ ?_ <;> intro hb | fail)
  all_goals first
   | exact kret (bpF fun h => c4 (congrArg List.length h.2.2.2.1))
   | (exfalso; omega)
 by_cases c5 : a.marks.length = b.marks.length
 case neg =>
  (repeat' first | (refine kk ?_; intros) | refine kfk ?_ ?_ <;> intro hb | fail)
  all_goals first
   | exact kret (bpF fun h => c5 (congrArg List.length h.2.2.2.2))
   | (exfalso; omega)
 (repeat' first | (refine kk ?_; intros) | refine kfk ?_ ?_ <;> intro hb | fail)
 rename_i q2 q3
 refine kfor (ι := Unit) a.dis (fun j _ => [(2, .one (.v (.pointer (some ⟨q2, 0, none⟩)))), (3, .one (.v (.pointer (some ⟨q3, 0, none⟩)))), (52, vSs a.dis)]) (fun j _ => [abox q3 (encStt b) 53, abox q2 (encStt a) 53]) (fun j _ => a.dis.take j = b.dis.take j) () (by simp) ?_ ?_
 ·rintro j x _ hj hdd hjl hp
  obtain ⟨y, hy⟩ : ∃ y, b.dis[j]? = some y := ⟨b.dis[j]'(by omega), List.getElem?_eq_getElem (by omega)⟩
  have r1 : (a.dis.map eS)[j]? = some (eS x) := by simp [hj]
  have r2 : (b.dis.map eS)[j]? = some (eS y) := by simp [hy]
  have q1 : x.length ≤ 1000000 ∧ y.length ≤ 1000000 := ⟨a2' x (List.mem_of_getElem? hj), b2' y (List.mem_of_getElem? hy)⟩
  (repeat' first | (refine kk ?_; intros) | refine kfk ?_ ?_ <;> intro hb | fail)
  all_goals first
   | exact kret (bpF fun h => ne_of_get hj hy (fun e => hb ((cSb_tot.eq _ _).2 e)) h.2.2.1)
   | exact ⟨(), take_eqS hj hy hp ((cSb_tot.eq _ _).1 hb), kwk⟩
 ·rintro _ hd1
  rw [List.take_length, c3, List.take_length] at hd1
  (repeat' first | (refine kk ?_; intros) | refine kfk ?_ ?_ <;> intro hb | fail)
  refine kfor (ι := Unit) a.kinds (fun j _ => [(2, .one (.v (.pointer (some ⟨q2, 0, none⟩)))), (3, .one (.v (.pointer (some ⟨q3, 0, none⟩)))), (69, vK a.kinds)]) (fun j _ => [abox q3 (encStt b) 53, abox q2 (encStt a) 53]) (fun j _ => a.kinds.take j = b.kinds.take j) () (by simp) ?_ ?_
  ·rintro j ⟨v, k⟩ _ hj hdd hjl hp
   obtain ⟨⟨v', k'⟩, hy⟩ : ∃ y, b.kinds[j]? = some y := ⟨b.kinds[j]'(by omega), List.getElem?_eq_getElem (by omega)⟩
   have r1 : ((a.kinds.map toK).map encK)[j]? = some [.v (.int .i64 (v : Int)), .v (.int .i64 k)] := by simp [hj, encK]
   have r2 : ((b.kinds.map toK).map encK)[j]? = some [.v (.int .i64 (v' : Int)), .v (.int .i64 k')] := by simp [hy, encK]
   (repeat' first | (refine kk ?_; intros) | refine kfk ?_ ?_ <;> intro hb | fail)
   refine kar ?_ (h := P_ne2 _ _ rfl rfl (by kernel_rfl) fun w => eqK w _ _ _ _)
   (repeat' first | (refine kk ?_; intros) | refine kfk ?_ ?_ <;> intro hb | fail)
   all_goals first
    | exact kret (bpF fun h => ne_of_get hj hy (fun e => by cases e; rw [beqK.2 ⟨rfl, rfl⟩] at hb; cases hb) h.2.2.2.1)
    | exact ⟨(), take_eqS hj hy hp (by obtain ⟨e1, e2⟩ := beqK.1 hb; obtain rfl := Int.ofNat.inj e1; rw [e2]), kwk⟩
  ·rintro _ hk1
   rw [List.take_length, c4, List.take_length] at hk1
   (repeat' first | (refine kk ?_; intros) | refine kfk ?_ ?_ <;> intro hb | fail)
   refine kfor (ι := Unit) a.marks (fun j _ => [(2, .one (.v (.pointer (some ⟨q2, 0, none⟩)))), (3, .one (.v (.pointer (some ⟨q3, 0, none⟩)))), (85, vM a.marks)]) (fun j _ => [abox q3 (encStt b) 53, abox q2 (encStt a) 53]) (fun j _ => a.marks.take j = b.marks.take j) () (by simp) ?_ ?_
   ·rintro j ⟨v, k⟩ _ hj hdd hjl hp
    obtain ⟨⟨v', k'⟩, hy⟩ : ∃ y, b.marks[j]? = some y := ⟨b.marks[j]'(by omega), List.getElem?_eq_getElem (by omega)⟩
    have r1 : ((a.marks.map toM).map encM)[j]? = some [.v (.int .i64 (v : Int)), .v (.string k)] := by simp [hj, encM]
    have r2 : ((b.marks.map toM).map encM)[j]? = some [.v (.int .i64 (v' : Int)), .v (.string k')] := by simp [hy, encM]
    (repeat' first | (refine kk ?_; intros) | refine kfk ?_ ?_ <;> intro hb | fail)
    refine kar ?_ (h := P_ne2 _ _ rfl rfl (by kernel_rfl) fun w => eqM w 9998 _ _ _ _)
    (repeat' first | (refine kk ?_; intros) | refine kfk ?_ ?_ <;> intro hb | fail)
    all_goals first
     | exact kret (bpF fun h => ne_of_get hj hy (fun e => by cases e; rw [beqM.2 ⟨rfl, rfl⟩] at hb; cases hb) h.2.2.2.2)
     | exact ⟨(), take_eqS hj hy hp (by obtain ⟨e1, e2⟩ := beqM.1 hb; obtain rfl := Int.ofNat.inj e1; rw [e2]), kwk⟩
   ·rintro _ hm1
    rw [List.take_length, c5, List.take_length] at hm1
    (repeat' first | (refine kk ?_; intros) | refine kfk ?_ ?_ <;> intro hb | fail)
    exact kret (bpT ⟨c1, c2, hd1, hk1, hm1⟩)⟩
instance stateOk_s : Con1 Tryz.prog 152 StR vStr (fun s => bp (SttOk s)) StR.In := ⟨fun s hin => by
 obtain ⟨h1, ⟨h2, h2'⟩, ⟨h3, h3'⟩, ⟨h4, h4'⟩, h5, h5'⟩ := hin
 obtain ⟨nx, bind, dis, kinds, marks⟩ := s
 simp only at h1 h2 h2' h3 h3' h4 h4' h5 h5'
 have p0 : True := trivial
 have p1 : Lng bind.length ∧ InB bind := ⟨by unfold Lng; omega, h2'⟩
 have p2 : Lng kinds.length := by unfold Lng; omega
 have p3 : Lng marks.length ∧ ∀ m ∈ marks, Lng m.2.size := ⟨by unfold Lng; omega, fun m hm => (h5' m hm).2⟩
 have p4 : bdssIn dis := ⟨h3, h3'⟩
 show Pu Tryz.prog 152 [.agg [.v (.int .i64 nx), .s 5 (bind.map encB), .s 1 (dis.map (encL 5 encB)), .s 2 (kinds.map encK), .s 2 (marks.map encM)]] _
 refine pu Tryz.func152 rfl Tryz.ntmps152 rfl rfl fun C => ?_
 by_cases c1 : 0 ≤ nx ∧ nx ≤ 100000
 case neg =>
  haveI := l01In_c.no
  have := And.intro p0 c1
  (repeat' first | (refine kk ?_; intros) | refine kfk ?_ ?_ <;> intro hb | fail)
  exact kret (bpF fun h => c1 h.nx)
 haveI := l01In_c.yes
 have s0 := And.intro p0 c1
 by_cases c2 : SubR bind
 case neg =>
  haveI := substOk_s.no
  have := And.intro p1 c2
  (repeat' first | (refine kk ?_; intros) | refine kfk ?_ ?_ <;> intro hb | fail)
  exact kret (bpF fun h => c2 h.b)
 haveI := substOk_s.yes
 have s1 := And.intro p1 c2
 by_cases cd : ∀ d ∈ dis, SubR d
 case neg =>
  haveI := alld_s.no
  have := And.intro p4 cd
  (repeat' first | (refine kk ?_; intros) | refine kfk ?_ ?_ <;> intro hb | fail)
  exact kret (bpF fun h => cd fun d hd => by obtain ⟨x, e, hx, _⟩ := h.d hd; exact ⟨x, e, hx⟩)
 haveI := alld_s.yes
 have s4 := And.intro p4 cd
 by_cases c3 : KOkR kinds
 case neg =>
  haveI := kindsOkR_s.no
  have := And.intro p2 c3
  (repeat' first | (refine kk ?_; intros) | refine kfk ?_ ?_ <;> intro hb | fail)
  exact kret (bpF fun h => c3 h.k)
 haveI := kindsOkR_s.yes
 have s2 := And.intro p2 c3
 by_cases c4 : MOkR marks
 case neg =>
  haveI := marksOkR_s.no
  have := And.intro p3 c4
  (repeat' first | (refine kk ?_; intros) | refine kfk ?_ ?_ <;> intro hb | fail)
  exact kret (bpF fun h => c4 h.m)
 haveI := marksOkR_s.yes
 have s3 := And.intro p3 c4
 obtain ⟨b, rfl, hb⟩ := c2
 obtain ⟨ks, rfl, hks⟩ := kOkR_iff.1 c3
 obtain ⟨ms, rfl, hms⟩ := mOkR_iff.1 c4
 obtain ⟨n, rfl⟩ : ∃ n : Nat, nx = n := ⟨nx.toNat, by omega⟩
 have hml : ms.length ≤ 1048576 := by simpa using h5
 obtain ⟨L, rfl, hL⟩ := rowsAll_of (f := fun x : Sb => x.map toB) (p := Sub) fun d hd => by obtain ⟨x, e, hx⟩ := cd d hd; exact ⟨x, e, hx⟩
 have hll : L.length ≤ 1048576 := by simpa using h3
 have hnx : (⟨n, b, L, ks, ms⟩ : Stt).next = n := rfl
 have hdl : ((L.map fun x => x.map toB).map (encL 5 encB)).length = L.length := by simp
 have hdl' : (L.map eS).length = L.length := List.length_map _
 have hkl : ((ks.map toK).map encK).length = ks.length := by simp
 have hkl2 := hks.len
 have hml2 : ((ms.map toM).map encM).length = ms.length := by simp
 have hst := encSt_raw ⟨n, b, L, ks, ms⟩
 by_cases c5 : BelS b n
 case neg =>
  haveI := within_s.no
  have := And.intro hb c5
  (repeat' first | (refine kk ?_; intros) | refine kfk ?_ ?_ <;> intro hb | fail)
  exact kret (bpF fun h => c5 (h.bb rfl))
 haveI := within_s.yes
 have s5 := And.intro hb c5
 (repeat' first | (refine kk ?_; intros) | refine kfk ?_ ?_ <;> intro hb | fail)
 rename_i b1
 refine kfor (ι := Unit) L (fun j _ => [(1, .one (.v (.pointer (some ⟨b1, 0, none⟩)))), (48, .one (.s 1 ((L.map fun x => x.map toB).map (encL 5 encB))))]) (fun j _ => [abox b1 [.v (.int .i64 (n : Int)), .s 5 ((b.map toB).map encB), .s 1 ((L.map fun x => x.map toB).map (encL 5 encB)), .s 2 ((ks.map toK).map encK), .s 2 ((ms.map toM).map encM)] 53]) (fun j _ => ∀ d ∈ L.take j, BelS d n) () (by simp) ?_ ?_
 ·rintro j x _ hj hdd hjl hp
  have hrow : ((L.map fun x => x.map toB).map (encL 5 encB))[j]? = some (eS x) := by rw [dis_rows]; simp [hj]
  have hm := List.mem_of_getElem? hj
  have hx := hL x hm
  by_cases c7 : BelS x n
  ·have := And.intro hx c7
   (repeat' first | (refine kk ?_; intros) | refine kfk ?_ ?_ <;> intro hb | fail)
   exact ⟨(), take_succ_all hj hp c7, kwk⟩
  ·haveI := within_s.no
   have := And.intro hx c7
   (repeat' first | (refine kk ?_; intros) | refine kfk ?_ ?_ <;> intro hb | fail)
   exact kret (bpF fun h => by obtain ⟨y, e, _, h3⟩ := h.d (List.mem_map_of_mem hm); exact c7 (toB_inj e ▸ h3))
 ·rintro _ hbd
  rw [List.take_length] at hbd
  rw [dis_rows]
  (repeat' first | (refine kk ?_; intros) | refine kfk ?_ ?_ <;> intro hb | fail)
  refine kfor (ι := Unit) ks (fun j _ => [(1, .one (.v (.pointer (some ⟨b1, 0, none⟩)))), (61, vK ks)]) (fun j _ => [abox b1 (encStt ⟨n, b, L, ks, ms⟩) 53]) (fun j _ => ∀ k ∈ ks.take j, (k.1 : Int) < n) () (by simp) ?_ ?_
  ·rintro j ⟨v, k⟩ _ hj hdd hjl hp1
   have hrow : ((ks.map toK).map encK)[j]? = some [.v (.int .i64 (v : Int)), .v (.int .i64 k)] := by simp [hj, encK]
   (repeat' first | (refine kk ?_; intros) | refine kfk ?_ ?_ <;> intro hb | fail)
   all_goals first
    | exact kret (bpF fun h => by have := h.bk (k := toK (v, k)) (List.mem_map_of_mem (List.mem_of_getElem? hj)); simp only [toK] at this; omega)
    | exact ⟨(), take_succ_all hj hp1 (by omega), kwk⟩
  ·rintro _ hk
   rw [List.take_length] at hk
   (repeat' first | (refine kk ?_; intros) | refine kfk ?_ ?_ <;> intro hb | fail)
   refine kfor (ι := Unit) ms (fun j _ => [(1, .one (.v (.pointer (some ⟨b1, 0, none⟩)))), (74, vM ms)]) (fun j _ => [abox b1 (encStt ⟨n, b, L, ks, ms⟩) 53]) (fun j _ => ∀ k ∈ ms.take j, (k.1 : Int) < n) () (by simp) ?_ ?_
   ·rintro j ⟨v, g⟩ _ hj hdd hjl hp1
    have hrow : ((ms.map toM).map encM)[j]? = some [.v (.int .i64 (v : Int)), .v (.string g)] := by simp [hj, encM]
    (repeat' first | (refine kk ?_; intros) | refine kfk ?_ ?_ <;> intro hb | fail)
    all_goals first
     | exact kret (bpF fun h => by have := h.bm (k := toM (v, g)) (List.mem_map_of_mem (List.mem_of_getElem? hj)); simp only [toM] at this; omega)
     | exact ⟨(), take_succ_all hj hp1 (by omega), kwk⟩
   ·rintro _ hmm
    rw [List.take_length] at hmm
    have hc : StChk ⟨n, b, L, ks, ms⟩ := ⟨by omega, ⟨hb, hL, hks, hms⟩, c5, hbd, hk, hmm⟩
    obtain ⟨tags, ht, hsp⟩ := hc.sp hml hll
    have p5 : ∃ tags : List ByteArray, tags.length ≤ 10000000 ∧ SP tags ⟨n, b, L, ks, ms⟩ := ⟨tags, ht, hsp⟩
    have hF := settleR_F (st := ⟨n, b, L, ks, ms⟩)
    have hfin : SttOk ⟨n, b.map toB, L.map fun x => x.map toB, ks.map toK, ms.map toM⟩ ↔ settleF ⟨n, b, L, ks, ms⟩ = some ⟨n, b, L, ks, ms⟩ := (stOk_raw (st := ⟨n, b, L, ks, ms⟩)).trans ⟨fun h => h.2, fun h => ⟨hc, h⟩⟩
    rw [bpC hfin]
    by_cases hok : (settleR ⟨n, b, L, ks, ms⟩).2 = true
    ·rw [if_pos hok] at hF
     have p6 : StB (settleR ⟨n, b, L, ks, ms⟩).1 ∧ StB ⟨n, b, L, ks, ms⟩ := ⟨(settle_SP hsp hF).1.stB ht, hsp.stB ht⟩
     (repeat' first | (refine kk ?_; intros) | refine kfk ?_ ?_ <;> intro hb | fail)
     all_goals first
      | exact kret (bpC (p := (settleR ⟨n, b, L, ks, ms⟩).1 = ⟨n, b, L, ks, ms⟩) (q := settleF ⟨n, b, L, ks, ms⟩ = some ⟨n, b, L, ks, ms⟩) (by rw [hF]; simp))
      | exact nomatch hok.symm.trans hb
    ·rw [if_neg hok] at hF
     (repeat' first | (refine kk ?_; intros) | refine kfk ?_ ?_ <;> intro hb | fail)
     all_goals first
      | exact absurd hb hok
      | exact kret (bpF (p := settleF ⟨n, b, L, ks, ms⟩ = some ⟨n, b, L, ks, ms⟩) (by rw [hF]; simp))⟩
end
end Go.Proofs.YtejkllmoofdpjaaGreat
