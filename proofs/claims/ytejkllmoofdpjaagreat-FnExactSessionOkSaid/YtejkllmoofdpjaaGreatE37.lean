/- Parts of the proof: V62 V64. -/
import Derived.Test.YtejkllmoofdpjaaGreatE31
namespace Go.Proofs.YtejkllmoofdpjaaGreat
open Go
set_option linter.all false
set_option maxRecDepth 100000
set_option maxHeartbeats 4000000
noncomputable section
instance copy_s : Con1 Tryz.prog 176 T vT (fun t => vT t) (fun _ => True) := .ind T.nodes fun N ih t hN _ => by
 refine pu Tryz.func176 rfl Tryz.ntmps176 rfl rfl fun C => ?_
 cases t with
 | pair a b =>
  have := nodes_pos a
  have := nodes_pos b
  simp only [T.nodes] at hN
  have s1 : a.nodes < N ∧ True := ⟨by omega, trivial⟩
  have s2 : b.nodes < N ∧ True := ⟨by omega, trivial⟩
  (repeat' first | (refine kk ?_; intros) | refine kfk ?_ ?_ <;> intro hb | fail)
  rename_i b1 b2 b3
  refine knA 174 4 ?_
  refine kfor (ι := Value) [a, b] (fun j u => [(2, .one (.v (.pointer (some ⟨b2, 0, none⟩)))), (3, .one (.v (.pointer (some ⟨b3, 0, none⟩)))), (14, vTs [a, b])]) (fun j u => [arow 174 4 u ((([a, b].take j).map T.tm).map encT), abox b3 [.v (.int .i64 4), .v (.int .i64 0), .v (.string noS), .v u] 174, abox b2 zT 174]) (fun _ _ => True) (.slice none 0 0) trivial ?_ ?_ (hN := by simp)
  ·rintro j x u hj hdd hjl _
   have hx : x.nodes < N ∧ True := by
    rcases List.mem_cons.1 (List.mem_of_getElem? hj) with rfl | h
    ·exact s1
    ·obtain rfl := List.mem_singleton.1 h; exact s2
   have hrow : (rowsT ([a, b].map T.tm))[j]? = some (encT x.tm) := by rw [rowsT_eq]; simp only [List.getElem?_map, hj, Option.map_some]
   have ht1 : [a, b].take (j + 1) = [a, b].take j ++ [x] := by rw [List.take_add_one, hj]; rfl
   have hjl2 : j < 2 := by simpa using hjl
   have hle : ([a, b].take j).length ≤ j := by simp; omega
   (repeat' first | (refine kk ?_; intros) | refine kfk ?_ ?_ <;> intro hb | fail)
   refine kdA 1 (ho := rfl) fun u1 => ?_
   (repeat' first | (refine kk ?_; intros) | refine kfk ?_ ?_ <;> intro hb | fail)
   refine ⟨u1, trivial, ?_⟩
   rw [ht1, List.map_append, List.map_append]
   exact kwk
  ·intro u _
   (repeat' first | (refine kk ?_; intros) | refine kfk ?_ ?_ <;> intro hb | fail)
   refine kr1 (rvw ?_)
   exact VwC.cons (VwD.refl _) (VwC.cons (VwD.refl _) (VwC.cons (VwD.refl _) (VwC.cons (VwD.row (List.Mem.head _) rfl) VwC.nil)))
 | _ =>
  (repeat' first | (refine kk ?_; intros) | refine kfk ?_ ?_ <;> intro hb | fail)
  refine kun3 ?_
  (repeat' first | (refine kk ?_; intros) | refine kfk ?_ ?_ <;> intro hb | fail)
  refine kr1 (rvw ?_)
  (exact wV)
instance copyAll_s : Con1 Tryz.prog 166 (List T) vTs (fun l => vTs l) (fun l => l.length ≤ 1000000) := ⟨fun l hl => by
 have hlen : (rowsT (l.map T.tm)).length = l.length := by rw [rowsT_len, List.length_map]
 refine pu Tryz.func166 rfl Tryz.ntmps166 rfl rfl fun C => ?_
 (repeat' first | (refine kkz ?_; intros) | refine kfk ?_ ?_ <;> intro hb | fail)
 rename_i u0
 refine kfor (ι := Value) l (fun j u => [(3, .one (.v u)), (7, vTs l)]) (fun j u => [arow 174 4 u (rowsT ((l.take j).map T.tm))]) (fun _ _ => True) u0 trivial ?_ ?_
 ·rintro j x u hj hdd hjl _
  have hrow : (rowsT (l.map T.tm))[j]? = some (encT x.tm) := by rw [rowsT_eq]; simp [hj]
  have ht1 : l.take (j + 1) = l.take j ++ [x] := by rw [List.take_add_one, hj]; rfl
  have hle : (l.take j).length ≤ j := by simp; omega
  have hle2 : (rowsT ((l.take j).map T.tm)).length ≤ j := by rw [rowsT_len, List.length_map]; exact hle
  (repeat' first | (refine kk ?_; intros) | refine kfk ?_ ?_ <;> intro hb | fail)
  rename_i u1
  refine ⟨u1, trivial, ?_⟩
  rw [ht1, List.map_append, rowsT_app]
  exact kwk
 ·intro u _
  rw [List.take_length]
  (repeat' first | (refine kk ?_; intros) | refine kfk ?_ ?_ <;> intro hb | fail)
  exact kr1 (rvR rfl)⟩
end
noncomputable section
instance copyG_s : Con1 Tryz.prog 120 G vG (fun g => vG g) GvS := .ind G.nodes fun N ih g hN hg => by
 have hte := terms_ts g
 have hgo := goals_kids g
 have e3 : g.gl.subE = (g.kids.map G.gl).map encG := by rw [subE_eq, rowsG_eq, hgo]
 have e4 : g.gl.goals.length = g.kids.length := by rw [hgo, List.length_map]
 have k1 := hg.ts g (pre_self g)
 have k2 := hg.kids g (pre_self g)
 refine pu Tryz.func120 rfl Tryz.ntmps120 rfl rfl fun C => ?_
 (repeat' first | (refine kk ?_; intros) | refine kfk ?_ ?_ <;> intro hb | fail)
 rename_i b1 b2
 refine kmix 10 [0, 1, 2, 3, 4, 5, 6, 7] [8, 9] [abox b1 (encG g.gl) 59] ?_
 (repeat (refine kkc ?_))
 rw [hte]
 (repeat (refine kkc ?_))
 refine kacO rfl rfl (O_alloc rfl) ?_
 rintro v A' ⟨b3, rfl, rfl⟩
 refine ⟨Has.three, ?_⟩
 (repeat (refine kkc ?_))
 (repeat' first | (refine kk ?_; intros) | refine kfk ?_ ?_ <;> intro hb | fail)
 rw [e3, e4]
 refine knA 59 4 ?_
 refine kfor (ι := Value) g.kids (fun j u => [(2, .one (.v (.pointer (some ⟨b2, 0, none⟩)))), (3, .one (.v (.pointer (some ⟨b3, 0, none⟩)))), (15, .one (.s 4 ((g.kids.map G.gl).map encG)))]) (fun j u => [arow 59 4 u (((g.kids.take j).map G.gl).map encG), abox b3 [.v (.int .i64 g.gl.kind), .v (.string g.gl.name), .s 4 (rowsT (g.ts.map T.tm)), .v u] 59, abox b2 [.v (.int .i64 0), .v (.string noS), .v (.slice none 0 0), .v (.slice none 0 0)] 59]) (fun _ _ => True) (.slice none 0 0) trivial ?_ ?_
 ·rintro j x u hj hdd hjl _
  have hrow : ((g.kids.map G.gl).map encG)[j]? = some (encG x.gl) := by simp [hj]
  have hx := List.mem_of_getElem? hj
  have p1 : x.nodes < N ∧ GvS x := ⟨by have := kids_nodes hx; omega, hg.kid hx⟩
  have ht1 : g.kids.take (j + 1) = g.kids.take j ++ [x] := by rw [List.take_add_one, hj]; rfl
  have hle : (g.kids.take j).length ≤ j := by simp; omega
  (repeat' first | (refine kk ?_; intros) | refine kfk ?_ ?_ <;> intro hb | fail)
  refine kdA 1 (ho := rfl) fun u1 => ?_
  (repeat' first | (refine kk ?_; intros) | refine kfk ?_ ?_ <;> intro hb | fail)
  refine ⟨u1, trivial, ?_⟩
  rw [ht1, List.map_append, List.map_append]
  exact kwk
 ·intro u _
  rw [List.take_length]
  (repeat' first | (refine kk ?_; intros) | refine kfk ?_ ?_ <;> intro hb | fail)
  refine kr1 (rvw ?_)
  exact VwC.cons (VwD.refl _) (VwC.cons (VwD.refl _) (VwC.cons (by rw [← hte]; exact VwD.refl _) (VwC.cons (VwD.row (List.Mem.head _) e3.symm) VwC.nil)))
end
end Go.Proofs.YtejkllmoofdpjaaGreat
