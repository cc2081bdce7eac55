/- Parts of the proof: V53. -/
import Derived.Test.YtejkllmoofdpjaaGreatE26
namespace Go.Proofs.YtejkllmoofdpjaaGreat
open Go
set_option linter.all false
set_option maxRecDepth 100000
set_option maxHeartbeats 4000000
noncomputable section
open Classical
abbrev zCs : List D := [.v (.int .i64 0), .v (.slice none 0 0), .v (.slice none 0 0), .v (.slice none 0 0), .v (.slice none 0 0)]
def isN3 (l : Ks) : Nat → Option Unit := fun v => if (v, 3) ∈ l then some () else none
theorem isN3_nil : upI (isN3 []) = fun _ => none := by funext x; simp [upI, isN3]
theorem isN3_put {l : Ks} {v : Nat} : putN (isN3 l) v () = isN3 (l ++ [(v, 3)]) := by
 funext x
 unfold putN isN3
 by_cases h : x = v <;> simp [h]
theorem isN3_other {l : Ks} {v : Nat} {k : Int} (h : ¬ k = 3) : isN3 (l ++ [(v, k)]) = isN3 l := by
 funext x
 unfold isN3
 have : ¬ ((3 : Int) = k) := fun e => h e.symm
 simp [this]
theorem keptM_yes {ks : Ks} {l : Ms} {v : Nat} {g : ByteArray} (h : ¬ kGet ks v = some 3) : keptM ks (l ++ [(v, g)]) = keptM ks l ++ [(v, g)] := by
 unfold keptM; rw [List.filter_append]; simp [List.filter, h]
theorem keptM_no {ks : Ks} {l : Ms} {v : Nat} {g : ByteArray} (h : kGet ks v = some 3) : keptM ks (l ++ [(v, g)]) = keptM ks l := by
 unfold keptM; rw [List.filter_append]; simp [List.filter, h]
instance settle_i : Con1 Tryz.prog 185 Stt vSt (fun st => optSt (settleF st)) (fun st => ∃ tags, tags.length ≤ 10000000 ∧ SP tags st) := ⟨fun st ⟨tags, htl, hst⟩ => by
 have hpre := hst.pre
 have hbind := hpre.bind
 have hkinds := hpre.kinds
 have hbl : st.bind.length ≤ 1000000 := by have := hbind.vok.len; omega
 have hmb := hst.mrk
 have q1 : Sub st.bind ∧ KOk st.kinds := ⟨hbind, hkinds⟩
 have q2 : Sub st.bind ∧ ∃ tags : List ByteArray, tags.length ≤ 10000000 ∧ MB tags st.marks := ⟨hbind, tags, htl, hmb⟩
 refine pu Tryz.func185 rfl Tryz.ntmps185 rfl rfl fun C => ?_
 (repeat' first | (refine kk ?_; intros) | refine kfk ?_ ?_ <;> intro hb | fail)
 cases hk : kindsG st.bind st.kinds [] with
 | none =>
  rw [settleF_k hk]
  (repeat' first | (refine kk ?_; intros) | refine kfk ?_ ?_ <;> intro hb | fail)
  cases hm : marksG st.bind st.marks [] with
  | none =>
   (repeat' first | (refine kk ?_; intros) | refine kfk ?_ ?_ <;> intro hb | fail)
   refine kr2 (rvw ?_) (rvV (.refl _))
   (exact wV)
  | some ms =>
   (repeat' first | (refine kk ?_; intros) | refine kfk ?_ ?_ <;> intro hb | fail)
   refine kr2 (rvw ?_) (rvV (.refl _))
   (exact wV)
 | some ks =>
  (repeat' first | (refine kk ?_; intros) | refine kfk ?_ ?_ <;> intro hb | fail)
  cases hm : marksG st.bind st.marks [] with
  | none =>
   rw [settleF_m hk hm]
   (repeat' first | (refine kk ?_; intros) | refine kfk ?_ ?_ <;> intro hb | fail)
   refine kr2 (rvw ?_) (rvV (.refl _))
   (exact wV)
  | some ms =>
   have hks : KOk ks := kindsG_ok hbind.fit .nil hkinds.ok hk
   have hmsb : MB tags ms := MB.marks hbind.fit .nil (fun b hb => ⟨hmb.ok.ok b hb, hmb.tg b hb⟩) hm
   (repeat' first | (refine kk ?_; intros) | refine kfk ?_ ?_ <;> intro hb | fail)
   refine kmm kvI setv fun mb => ?_
   (repeat' first | (refine kk ?_; intros) | refine kfk ?_ ?_ <;> intro hb | fail)
   rename_i b1 b2
   have hkl : ((ks.map toK).map encK).length = ks.length := by simp
   have hkl1 := hks.lng
   have hkl2 := hks.len
   have hml : ((ms.map toM).map encM).length = ms.length := by simp
   have hml2 := hmsb.len htl
   refine kfor (ι := Unit) ks (fun j _ => [(1, .one (.v (.pointer (some ⟨b1, 0, none⟩)))), (2, .one (.v (.pointer (some ⟨b2, 0, none⟩)))), (4, vK ks), (6, vM ms), (8, .one (.v (.map (some mb)))), (49, vK ks)]) (fun j _ => [amap kvI mb (gm setv (upI (isN3 (ks.take j)))), abox b2 zCs 53, abox b1 (encStt st) 53]) (fun _ _ => True) () trivial ?_ ?_ (kwk (hs := by rw [show upI (isN3 (ks.take 0)) = fun _ => none from isN3_nil]; (exact wS)))
   ·rintro j ⟨v, kd⟩ _ hj hdd hjl _
    have hrow : ((ks.map toK).map encK)[j]? = some [.v (.int .i64 (v : Int)), .v (.int .i64 kd)] := by simp [hj, encK]
    have ht1 : ks.take (j + 1) = ks.take j ++ [(v, kd)] := by rw [List.take_add_one, hj]; rfl
    by_cases hkk : kd = 3
    ·subst hkk
     (repeat' first | (refine kk ?_; intros) | refine kfk ?_ ?_ <;> intro hb | fail)
     refine kmuN 1 (v := ()) ?_
     rw [isN3_put, ← ht1]
     (repeat' first | (refine kk ?_; intros) | refine kfk ?_ ?_ <;> intro hb | fail)
     exact ⟨(), trivial, kwk⟩
    ·(repeat' first | (refine kk ?_; intros) | refine kfk ?_ ?_ <;> intro hb | fail)
     ·refine ⟨(), trivial, ?_⟩
      rw [ht1, isN3_other hkk]
      exact kwk
   ·intro _ _
    rw [List.take_length]
    (repeat' first | (refine kkz ?_; intros) | refine kfk ?_ ?_ <;> intro hb | fail)
    rename_i u0
    refine kfor (ι := Value) ms (fun j u => [(1, .one (.v (.pointer (some ⟨b1, 0, none⟩)))), (2, .one (.v (.pointer (some ⟨b2, 0, none⟩)))), (4, vK ks), (8, .one (.v (.map (some mb)))), (11, .one (.v u)), (63, vM ms)]) (fun j u => [arow 189 2 u ((keptM ks (ms.take j)).map eM), amap kvI mb (gm setv (upI (isN3 ks))), abox b2 zCs 53, abox b1 (encStt st) 53]) (fun _ _ => True) u0 trivial ?_ ?_
    ·rintro j ⟨v, g⟩ u hj hdd hjl _
     have hrow : ((ms.map toM).map encM)[j]? = some (encM (toM (v, g))) := by simp [hj]
     have ht1 : ms.take (j + 1) = ms.take j ++ [(v, g)] := by rw [List.take_add_one, hj]; rfl
     have hle : (keptM ks (ms.take j)).length ≤ j := Nat.le_trans (List.length_filter_le _ _) (by simp; omega)
     by_cases h3 : kGet ks v = some 3
     ·have f1 : upI (isN3 ks) (v : Int) = some () := by rw [upI_nat]; unfold isN3; rw [if_pos (kGet_mem h3)]
      (repeat' first | (refine kk ?_; intros) | refine kfk ?_ ?_ <;> intro hb | fail)
      refine ⟨u, trivial, ?_⟩
      rw [ht1, keptM_no h3]
      exact kwk
     ·have f1 : upI (isN3 ks) (v : Int) = none := by rw [upI_nat]; unfold isN3; rw [if_neg fun h => h3 (kGet_of_mem hks.asc h)]
      (repeat' first | (refine kk ?_; intros) | refine kfk ?_ ?_ <;> intro hb | fail)
      rename_i u1
      refine ⟨u1, trivial, ?_⟩
      rw [ht1, keptM_yes h3, List.map_append]
      exact kwk
    ·intro u _
     rw [List.take_length]
     (repeat' first | (refine kkSz [] [79] ?_; intros) | fail)
     refine kfO 0 11 ?_
     (repeat' first | (refine kkz ?_; intros) | refine kfk ?_ ?_ <;> intro hb | fail)
     rename_i u2
     generalize hkm : keptM ks ms = km
     have hkmb : MB tags km := hkm ▸ hmsb.filter
     have hdl := hst.dl
     have hdlen : (st.dis.map eS).length = st.dis.length := by simp
     refine kfor (ι := Value × List Sb) st.dis (fun j x => [(1, .one (.v (.pointer (some ⟨b1, 0, none⟩)))), (2, .one (.v (.pointer (some ⟨b2, 0, none⟩)))), (4, vK ks), (11, vM km), (14, .one (.v x.1)), (81, vSs st.dis)]) (fun j x => [arow 48 1 x.1 (x.2.map eS), abox b2 zCs 53, abox b1 (encStt st) 53]) (fun j x => (leftG st.bind ks km st.dis = (leftG st.bind ks km (st.dis.drop j)).map (x.2 ++ ·)) ∧ x.2.length ≤ j) (u2, []) ⟨by simp, by simp⟩ ?_ ?_ (kwk (h := ⟨.refl _, .refl _, .refl _, .refl _, .refl _, le_eq (by show AV.one (.s 2 (km.map eM)) = AV.one (.s 2 ((km.map toM).map encM)); rw [List.map_map]; rfl), .refl _, .refl _, trivial⟩))
     ·rintro j d ⟨u, L⟩ hj hdd hjl ⟨hL, hLl⟩
      simp only at hL hLl
      dsimp only
      have hd := hpre.dis d (List.mem_of_getElem? hj)
      have hrow : (st.dis.map eS)[j]? = some (eS d) := by simp [hj]
      have p1 : Sub st.bind ∧ Sub d := ⟨hbind, hd⟩
      rw [hdd] at hL
      (repeat' first | (refine kk ?_; intros) | refine kfk ?_ ?_ <;> intro hb | fail)
      have skip : leftG st.bind ks km (d :: st.dis.drop (j + 1)) = leftG st.bind ks km (st.dis.drop (j + 1)) → ∃ s' : Value × List Sb, ((leftG st.bind ks km st.dis = (leftG st.bind ks km (st.dis.drop (j + 1))).map (s'.2 ++ ·)) ∧ s'.2.length ≤ j + 1) ∧ s' = (u, L) := fun e => ⟨(u, L), ⟨by rw [hL, e], by simp only; omega⟩, rfl⟩
      cases hjn : join st.bind d with
      | none =>
       (repeat' first | (refine kk ?_; intros) | refine kfk ?_ ?_ <;> intro hb | fail)
       obtain ⟨_, h, rfl⟩ := skip (leftG_none hjn)
       exact ⟨_, h, kwk⟩
      | some x =>
       have hx := join_sub hbind hd hjn
       have p2 : Sub x ∧ KOk ks := ⟨hx, hks⟩
       have p3 : Sub x ∧ ∃ tags : List ByteArray, tags.length ≤ 10000000 ∧ MB tags km := ⟨hx, tags, htl, hkmb⟩
       have p4 : Sub st.bind ∧ Sub x := ⟨hbind, hx⟩
       (repeat' first | (refine kk ?_; intros) | refine kfk ?_ ?_ <;> intro hb | fail)
       cases hk2 : kindsG x ks [] with
       | none =>
        have hsk := skip (leftG_skip hjn (.inl hk2))
        (repeat' first | (refine kk ?_; intros) | refine kfk ?_ ?_ <;> intro hb | fail)
        cases hm2 : marksG x km [] <;> (repeat' first | (refine kk ?_; intros) | refine kfk ?_ ?_ <;> intro hb | fail) <;> (obtain ⟨_, h, rfl⟩ := hsk; exact ⟨_, h, kwk⟩)
       | some ks2 =>
        (repeat' first | (refine kk ?_; intros) | refine kfk ?_ ?_ <;> intro hb | fail)
        cases hm2 : marksG x km [] with
        | none =>
         have hsk := skip (leftG_skip hjn (.inr hm2))
         (repeat' first | (refine kk ?_; intros) | refine kfk ?_ ?_ <;> intro hb | fail)
         obtain ⟨_, h, rfl⟩ := hsk
         exact ⟨_, h, kwk⟩
        | some ms2 =>
         have hno : ¬ (kindsG x ks [] = none ∨ marksG x km [] = none) := by rw [hk2, hm2]; simp
         have hnl := newB_len (s := st.bind) hx
         have hnlen : (((newB st.bind x).map toB).map encB).length = (newB st.bind x).length := by simp
         by_cases hn : newB st.bind x = []
         ·have hn0 : (newB st.bind x).length = 0 := by rw [hn]; rfl
          have hl0 : leftG st.bind ks km st.dis = none := by rw [hL, leftG_stop hjn hno hn]; rfl
          rw [settleF_l hk hm (by rw [hkm]; exact hl0)]
          (repeat' first | (refine kk ?_; intros) | refine kfk ?_ ?_ <;> intro hb | fail)
          refine kr2 (rvw ?_) (rvV (.refl _))
          (exact wV)
         ·have hn0 : ¬ (newB st.bind x).length = 0 := fun h => hn (List.length_eq_zero_iff.1 h)
          (repeat' first | (refine kk ?_; intros) | refine kfk ?_ ?_ <;> intro hb | fail)
          rename_i u3
          refine ⟨(u3, L ++ [newB st.bind x]), ⟨?_, by simp; omega⟩, ?_⟩
          ·rw [hL, leftG_more hjn hno hn, Option.map_map]
           congr 1
           funext z; simp
          ·simp only [List.map_append]
           exact kwk
     ·rintro ⟨u, L⟩ ⟨hL, hLl⟩
      rw [List.drop_length] at hL
      simp only at hL hLl
      dsimp only
      have hL2 : leftG st.bind ks km st.dis = some L := by rw [hL]; simp [leftG]
      have p5 : (∀ d ∈ L, Sub d) ∧ L.length ≤ 2000000 := ⟨leftG_sub hbind hpre.dis hL2, by omega⟩
      rw [settleF_s hk hm (by rw [hkm]; exact hL2), hkm]
      (repeat' first | (refine kkSz [] [128] ?_; intros) | fail)
      refine kfO 0 127 ?_
      have hmlen : ((minF L).map eS).length = (minF L).length := by simp
      by_cases h30 : 30 < (minF L).length
      ·rw [if_pos h30]
       (repeat' first | (refine kk ?_; intros) | refine kfk ?_ ?_ <;> intro hb | fail)
       refine kr2 (rvw ?_) (rvV (.refl _))
       (exact wV)
      ·rw [if_neg h30]
       (repeat' first | (refine kk ?_; intros) | refine kfk ?_ ?_ <;> intro hb | fail)
       refine kr2 (rvw ?_) (rvV (.refl _))
       (exact wV)⟩
end
end Go.Proofs.YtejkllmoofdpjaaGreat
