/- Parts of the proof: V54 V56 V57. -/
import Derived.Test.YtejkllmoofdpjaaGreatE29
import Derived.Test.YtejkllmoofdpjaaGreatE28
import Derived.Test.YtejkllmoofdpjaaGreatE27
namespace Go.Proofs.YtejkllmoofdpjaaGreat
open Go
set_option linter.all false
set_option maxRecDepth 100000
set_option maxHeartbeats 4000000
noncomputable section
open Classical
theorem kfbG {P : Program} {C : Cx} {f : AF} {A B : List Atm} {b sz : Nat} {ds ds' : List D} {T e : TypeId} {u : Value} {rows : List (List D)} {n : Nat} {ops : Array Oper} {K : AF → List Atm → Prop} {rest : List Oper} (hA : A.Perm (abox b ds T :: (B ++ [arow e sz u rows]))) (hv : VwC [arow e sz u rows] ds ds') (k : AO P n C ops K rest f (abox b ds' T :: B)) : AO P n C ops K rest f A :=
 fun gf w hi => k gf w (hi.fbox hA hv)
def settleR (st : Stt) : Stt × Bool := match kindsG st.bind st.kinds [], marksG st.bind st.marks [] with
 | some ks, some ms => match leftG st.bind ks (keptM ks ms) st.dis with
  | none => (zSt, false)
  | some left => (⟨st.next, st.bind, minF left, ks, keptM ks ms⟩, decide ((minF left).length ≤ 30))
 | _, _ => (zSt, false)
theorem settleR_F {st : Stt} : settleF st = if (settleR st).2 = true then some (settleR st).1 else none := by
 unfold settleF settleR
 cases kindsG st.bind st.kinds [] with
 | none => simp
 | some ks =>
  cases marksG st.bind st.marks [] with
  | none => simp
  | some ms =>
   simp only
   cases leftG st.bind ks (keptM ks ms) st.dis with
   | none => simp
   | some left =>
    simp only
    by_cases h : 30 < (minF left).length
    ·rw [if_pos h, if_neg (by simp; omega)]
    ·rw [if_neg h, if_pos (by simp; omega)]
theorem settleR_k {st : Stt} (h : kindsG st.bind st.kinds [] = none) : settleR st = (zSt, false) := by unfold settleR; rw [h]
theorem settleR_m {st : Stt} {ks : Ks} (h : kindsG st.bind st.kinds [] = some ks) (h2 : marksG st.bind st.marks [] = none) : settleR st = (zSt, false) := by unfold settleR; rw [h, h2]
theorem settleR_l {st : Stt} {ks : Ks} {ms : Ms} (h : kindsG st.bind st.kinds [] = some ks) (h2 : marksG st.bind st.marks [] = some ms) (h3 : leftG st.bind ks (keptM ks ms) st.dis = none) : settleR st = (zSt, false) := by unfold settleR; rw [h, h2]; simp only; rw [h3]
theorem settleR_s {st : Stt} {ks : Ks} {ms : Ms} {left : List Sb} (h : kindsG st.bind st.kinds [] = some ks) (h2 : marksG st.bind st.marks [] = some ms) (h3 : leftG st.bind ks (keptM ks ms) st.dis = some left) : settleR st = (⟨st.next, st.bind, minF left, ks, keptM ks ms⟩, decide ((minF left).length ≤ 30)) := by unfold settleR; rw [h, h2]; simp only; rw [h3]
abbrev resSt (r : Stt × Bool) : AV := .tup [vSt r.1, bv r.2]
instance settle_s : Con1 Tryz.prog 193 Stt vSt (fun st => resSt (settleR st)) (fun st => ∃ tags, tags.length ≤ 10000000 ∧ SP tags st) := ⟨fun st ⟨tags, htl, hst⟩ => by
 have hpre := hst.pre
 have hbind := hpre.bind
 have hkinds := hpre.kinds
 have hbl : st.bind.length ≤ 1000000 := by have := hbind.vok.len; omega
 have hmb := hst.mrk
 have q1 : Sub st.bind ∧ KOk st.kinds := ⟨hbind, hkinds⟩
 have q2 : Sub st.bind ∧ ∃ tags : List ByteArray, tags.length ≤ 10000000 ∧ MB tags st.marks := ⟨hbind, tags, htl, hmb⟩
 refine pu Tryz.func193 rfl Tryz.ntmps193 rfl rfl fun C => ?_
 (repeat' first | (refine kk ?_; intros) | refine kfk ?_ ?_ <;> intro hb | fail)
 cases hk : kindsG st.bind st.kinds [] with
 | none =>
  rw [settleR_k hk]
  (repeat' first | (refine kk ?_; intros) | refine kfk ?_ ?_ <;> intro hb | fail)
  cases hm : marksG st.bind st.marks [] with
  | none =>
   (repeat' first | (refine kk ?_; intros) | refine kfk ?_ ?_ <;> intro hb | fail)
   refine kr2 (rvw ?_) (rvV (.refl _))
   (exact wV)
  | some ms =>
   (repeat' first | (refine kk ?_; intros) | refine kfk ?_ ?_ <;> intro hb | fail)
   refine kr2 (rvw ?_) (rvV (.refl _))
   (exact wV)
 | some ks =>
  (repeat' first | (refine kk ?_; intros) | refine kfk ?_ ?_ <;> intro hb | fail)
  cases hm : marksG st.bind st.marks [] with
  | none =>
   rw [settleR_m hk hm]
   (repeat' first | (refine kk ?_; intros) | refine kfk ?_ ?_ <;> intro hb | fail)
   refine kr2 (rvw ?_) (rvV (.refl _))
   (exact wV)
  | some ms =>
   have hks : KOk ks := kindsG_ok hbind.fit .nil hkinds.ok hk
   have hmsb : MB tags ms := MB.marks hbind.fit .nil (fun b hb => ⟨hmb.ok.ok b hb, hmb.tg b hb⟩) hm
   (repeat' first | (refine kk ?_; intros) | refine kfk ?_ ?_ <;> intro hb | fail)
   rename_i b1 b2 b8
   have hml : ((ms.map toM).map encM).length = ms.length := by simp
   have hml2 := hmsb.len htl
   refine knA 189 2 ?_
   refine kfor (ι := Value) ms (fun j u => [(1, .one (.v (.pointer (some ⟨b1, 0, none⟩)))), (2, .one (.v (.pointer (some ⟨b2, 0, none⟩)))), (4, vK ks), (5, bv true), (7, bv true), (8, .one (.v (.pointer (some ⟨b8, 0, none⟩)))), (48, vM ms)]) (fun j u => [arow 189 2 u ((keptM ks (ms.take j)).map eM), abox b8 [.v (.int .i64 (st.next : Int)), .s 5 ((st.bind.map toB).map encB), .v (.slice none 0 0), .s 2 ((ks.map toK).map encK), .v u] 53, abox b2 zCs 53, abox b1 (encStt st) 53]) (fun _ _ => True) (.slice none 0 0) trivial ?_ ?_
   ·rintro j ⟨v, g⟩ u hj hdd hjl _
    have hrow : ((ms.map toM).map encM)[j]? = some (encM (toM (v, g))) := by simp [hj]
    have ht1 : ms.take (j + 1) = ms.take j ++ [(v, g)] := by rw [List.take_add_one, hj]; rfl
    have hle : (keptM ks (ms.take j)).length ≤ j := Nat.le_trans (List.length_filter_le _ _) (by simp; omega)
    by_cases h3 : kGet ks v = some 3
    ·have hw : (kindAdd ks (.var v) 2).isSome = false := by rw [kindAdd_old h3]; rfl
     (repeat' first | (refine kk ?_; intros) | refine kfk ?_ ?_ <;> intro hb | fail)
     ·exact nomatch (hb.symm.trans hw)
     ·refine ⟨u, trivial, ?_⟩
      rw [ht1, keptM_no h3]
      exact kwk
    ·have hw : (kindAdd ks (.var v) 2).isSome = true := by
      cases hg : kGet ks v with
      | none => rw [kindAdd_new hg]; rfl
      | some k' =>
       have hk2 : k' = 2 := by
        rcases (hks.ok _ (kGet_mem hg)).2 with h | h
        ·exact h
        ·exact absurd (by rw [hg]; congr 1) h3
       rw [kindAdd_old hg, hk2]; rfl
     (repeat' first | (refine kk ?_; intros) | refine kfk ?_ ?_ <;> intro hb | fail)
     ·rename_i u1
      refine ⟨u1, trivial, ?_⟩
      rw [ht1, keptM_yes h3, List.map_append]
      exact kwk
     ·exact nomatch (hb.symm.trans hw)
   ·intro u _
    rw [List.take_length]
    (repeat' first | (refine kkSz [] [70] ?_; intros) | fail)
    have hkme : (keptM ks ms).map eM = ((keptM ks ms).map toM).map encM := by rw [List.map_map]; rfl
    rw [hkme]
    refine kfbG (B := [abox b2 zCs 53, abox b1 (encStt st) 53]) (List.perm_append_comm (l₁ := [_]) (l₂ := [_, _, _])) (VwC.cons (VwD.refl _) (VwC.cons (VwD.refl _) (VwC.cons (VwD.refl _) (VwC.cons (VwD.refl _) (VwC.cons (VwD.row (List.mem_singleton.2 rfl) rfl) VwC.nil))))) ?_
    (repeat' first | (refine kkz ?_; intros) | refine kfk ?_ ?_ <;> intro hb | fail)
    rename_i u2
    generalize hkm : keptM ks ms = km
    have hkmb : MB tags km := hkm ▸ hmsb.filter
    have hdl := hst.dl
    have hdlen : (st.dis.map eS).length = st.dis.length := by simp
    refine kfor (ι := Value × List Sb) st.dis (fun j x => [(1, .one (.v (.pointer (some ⟨b1, 0, none⟩)))), (2, .one (.v (.pointer (some ⟨b2, 0, none⟩)))), (5, bv true), (7, bv true), (8, .one (.v (.pointer (some ⟨b8, 0, none⟩)))), (13, .one (.v x.1)), (72, vSs st.dis)]) (fun j x => [arow 48 1 x.1 (x.2.map eS), abox b8 [.v (.int .i64 (st.next : Int)), .s 5 ((st.bind.map toB).map encB), .v (.slice none 0 0), .s 2 ((ks.map toK).map encK), .s 2 ((km.map toM).map encM)] 53, abox b2 zCs 53, abox b1 (encStt st) 53]) (fun j x => (leftG st.bind ks km st.dis = (leftG st.bind ks km (st.dis.drop j)).map (x.2 ++ ·)) ∧ x.2.length ≤ j) (u2, []) ⟨by simp, by simp⟩ ?_ ?_
    ·rintro j d ⟨u, L⟩ hj hdd hjl ⟨hL, hLl⟩
     simp only at hL hLl
     dsimp only
     have hd := hpre.dis d (List.mem_of_getElem? hj)
     have hrow : (st.dis.map eS)[j]? = some (eS d) := by simp [hj]
     have p1 : SubF st.bind ∧ FitS d ∧ d.length ≤ 1000000 := ⟨⟨hbind.sok, hbind.sbfit⟩, hd.sbfit, by have := hd.vok.len; omega⟩
     rw [hdd] at hL
     (repeat' first | (refine kk ?_; intros) | refine kfk ?_ ?_ <;> intro hb | fail)
     have skip : leftG st.bind ks km (d :: st.dis.drop (j + 1)) = leftG st.bind ks km (st.dis.drop (j + 1)) → ∃ s' : Value × List Sb, ((leftG st.bind ks km st.dis = (leftG st.bind ks km (st.dis.drop (j + 1))).map (s'.2 ++ ·)) ∧ s'.2.length ≤ j + 1) ∧ s' = (u, L) := fun e => ⟨(u, L), ⟨by rw [hL, e], by simp only; omega⟩, rfl⟩
     cases hjn : join st.bind d with
     | none =>
      (repeat' first | (refine kk ?_; intros) | refine kfk ?_ ?_ <;> intro hb | fail)
      obtain ⟨_, h, rfl⟩ := skip (leftG_none hjn)
      exact ⟨_, h, kwk⟩
     | some x =>
      have hx := join_sub hbind hd hjn
      have p2 : Sub x ∧ KOk ks := ⟨hx, hks⟩
      have p3 : Sub x ∧ ∃ tags : List ByteArray, tags.length ≤ 10000000 ∧ MB tags km := ⟨hx, tags, htl, hkmb⟩
      have p4 : Lng st.bind.length ∧ x.length ≤ 1000000 := ⟨hbind.lng, by have := hx.vok.len; omega⟩
      (repeat' first | (refine kk ?_; intros) | refine kfk ?_ ?_ <;> intro hb | fail)
      cases hk2 : kindsG x ks [] with
      | none =>
       have hsk := skip (leftG_skip hjn (.inl hk2))
       (repeat' first | (refine kk ?_; intros) | refine kfk ?_ ?_ <;> intro hb | fail)
       cases hm2 : marksG x km [] <;> (repeat' first | (refine kk ?_; intros) | refine kfk ?_ ?_ <;> intro hb | fail) <;> (obtain ⟨_, h, rfl⟩ := hsk; exact ⟨_, h, kwk⟩)
      | some ks2 =>
       (repeat' first | (refine kk ?_; intros) | refine kfk ?_ ?_ <;> intro hb | fail)
       cases hm2 : marksG x km [] with
       | none =>
        have hsk := skip (leftG_skip hjn (.inr hm2))
        (repeat' first | (refine kk ?_; intros) | refine kfk ?_ ?_ <;> intro hb | fail)
        obtain ⟨_, h, rfl⟩ := hsk
        exact ⟨_, h, kwk⟩
       | some ms2 =>
        have hno : ¬ (kindsG x ks [] = none ∨ marksG x km [] = none) := by rw [hk2, hm2]; simp
        have hnl := newB_len (s := st.bind) hx
        have hnlen : (((newB st.bind x).map toB).map encB).length = (newB st.bind x).length := by simp
        by_cases hn : newB st.bind x = []
        ·have hn0 : (newB st.bind x).length = 0 := by rw [hn]; rfl
         have hl0 : leftG st.bind ks km st.dis = none := by rw [hL, leftG_stop hjn hno hn]; rfl
         rw [settleR_l hk hm (by rw [hkm]; exact hl0)]
         (repeat' first | (refine kk ?_; intros) | refine kfk ?_ ?_ <;> intro hb | fail)
         refine kr2 (rvw ?_) (rvV (.refl _))
         (exact wV)
        ·have hn0 : ¬ (newB st.bind x).length = 0 := fun h => hn (List.length_eq_zero_iff.1 h)
         (repeat' first | (refine kk ?_; intros) | refine kfk ?_ ?_ <;> intro hb | fail)
         rename_i u3
         refine ⟨(u3, L ++ [newB st.bind x]), ⟨?_, by simp; omega⟩, ?_⟩
         ·rw [hL, leftG_more hjn hno hn, Option.map_map]
          congr 1
          funext z; simp
         ·simp only [List.map_append]
          exact kwk
    ·rintro ⟨u, L⟩ ⟨hL, hLl⟩
     rw [List.drop_length] at hL
     simp only at hL hLl
     dsimp only
     have hL2 : leftG st.bind ks km st.dis = some L := by rw [hL]; simp [leftG]
     have p5 : (∀ d ∈ L, Sub d) ∧ L.length ≤ 2000000 := ⟨leftG_sub hbind hpre.dis hL2, by omega⟩
     rw [settleR_s hk hm (by rw [hkm]; exact hL2), hkm]
     (repeat' first | (refine kkSz [] [124] ?_; intros) | fail)
     refine kfO 0 123 ?_
     have hmlen : ((minF L).map eS).length = (minF L).length := by simp
     (repeat' first | (refine kk ?_; intros) | refine kfk ?_ ?_ <;> intro hb | fail)
     refine kmix 7 [0, 1, 2, 3, 4] [5, 6] [abox b8 [.v (.int .i64 (st.next : Int)), .s 5 ((st.bind.map toB).map encB), .s 1 ((minF L).map eS), .s 2 ((ks.map toK).map encK), .s 2 ((km.map toM).map encM)] 53] ?_
     (repeat (refine kkc ?_))
     (repeat' first | (refine kk ?_; intros) | refine kfk ?_ ?_ <;> intro hb | fail)
     refine kr2 (rvw ?_) (rvV (VwA.eq (a := bv (decide (((minF L).length : Int) ≤ 30))) (.refl _) (congrArg bv (decide_eq_decide.2 (show ((minF L).length : Int) ≤ 30 ↔ (minF L).length ≤ 30 by omega)))))
     (exact wV)⟩
end
end Go.Proofs.YtejkllmoofdpjaaGreat
