/- Parts of the proof: V84. -/
import Derived.Test.YtbabchapkhlenaaGreatC45
namespace Go.Proofs.YtbabchapkhlenaaGreat
open Go
set_option linter.all false
set_option maxRecDepth 100000
set_option maxHeartbeats 4000000
noncomputable section
open Classical
abbrev vGrs (l:List Gr):AV:=.one (.s 3 (l.map encGr))
theorem ltG_of_strict {l:List Gr} (hs:Strict cG l) {k:Nat} {b x:Gr} (hk:l[k]?=some b) (hb:cG b x=-1):∀ c∈l.take (k+1),cG c x=-1:=fun c hc=>by
 obtain ⟨i,hi⟩:=List.getElem?_of_mem hc
 rw [List.getElem?_take] at hi
 split at hi
 ·rcases Nat.lt_or_ge i k with h|h
  ·exact cG_tot.trans _ _ _ (asc_get hs hi hk h) hb
  ·obtain rfl:i=k:=by omega
   rw [hk] at hi;cases hi;exact hb
 ·cases hi
instance insert31_s:Con2 Tryz.prog 46 (List Gr) Gr vGrs vGr (fun l g=>vGrs (insU cG g l)) (fun l g=>Strict cG l∧l.length≤1000000∧(∀ y∈l,y.arcs.length≤16)∧g.arcs.length≤16):=⟨fun l g ⟨hs,hl,h16,hg16⟩=>by
 have hlen:(l.map encGr).length=l.length:=by simp
 refine pu Tryz.func46 rfl Tryz.ntmps46 rfl rfl fun C=>?_
 (repeat' first|(refine kk ?_;intros)|refine kfk ?_ ?_<;>intro hb|fail)
 rename_i b3
 refine kloopE (ι:=Nat) 0 (fun k=>k) (fun k=>[(0,vGrs l),(3,.one (.v (.pointer (some ⟨b3,0,none⟩)))),(5,nv k)]) (fun _=>[abox b3 (encGr g) 59]) (fun k=>k≤l.length∧∀ i y,k≤i→l[i]?=some y→¬ cG y g=-1) (fun k=>k≤l.length∧(∀ i y,k≤i→l[i]?=some y→¬ cG y g=-1)∧∀ y∈l.take k,cG y g=-1) l.length ⟨Nat.le_refl _,fun i y hi hy=>by have:=(List.getElem?_eq_some_iff.1 hy).1;omega⟩ ?_ ?_
 ·rintro k ⟨h1,h2⟩
  by_cases hk:0 < k
  ·obtain ⟨y,hy⟩:∃ y,l[k - 1]?=some y:=⟨l[k - 1],List.getElem?_eq_getElem (by omega)⟩
   have hrow:(l.map encGr)[k - 1]?=some (encGr y):=by simp [hy]
   have p1:y.arcs.length≤16∧g.arcs.length≤16:=⟨h16 y (List.mem_of_getElem? hy),hg16⟩
   have hval:=cG_tot.val y g
   by_cases hc:cG y g=-1
   ·(repeat' first|(refine kk ?_;intros)|refine kfk ?_ ?_<;>intro hb|fail)
    all_goals first
     | (refine ⟨k, ⟨h1, h2, ?_⟩, kwk⟩
        have:=ltG_of_strict hs hy hc
        rwa [show k - 1+1=k by omega] at this)
     | (exfalso;omega)
   ·(repeat' first|(refine kk ?_;intros)|refine kfk ?_ ?_<;>intro hb|fail)
    all_goals first
     | (refine ⟨k - 1, by omega, ⟨by omega, fun i z hi hz => ?_⟩, kwk⟩
        rcases Nat.lt_or_ge i k with h|h
        ·obtain rfl:i=k - 1:=by omega
         rw [hy] at hz;cases hz;exact hc
        ·exact h2 i z h hz)
     | (exfalso;omega)
  ·obtain rfl:k=0:=by omega
   (repeat' first|(refine kk ?_;intros)|refine kfk ?_ ?_<;>intro hb|fail)
   exact ⟨0,⟨h1,h2,by simp⟩,kwk⟩
 ·rintro k ⟨h1,h2,h3⟩
  have g0:∀ y∈l.take k,cG g y=1:=fun y hy=>by rw [cG_tot.anti,h3 y hy];rfl
  have hput:(∀ y,l[k]?=some y→¬ cG y g=0)→insU cG g l=l.take k++g::l.drop k:=fun h0=>insU_put h1 g0 fun y hy=>by
   have:=cG_tot.val y g
   have h4:=h2 k y (Nat.le_refl _) hy
   have h5:=h0 y hy
   rw [cG_tot.anti]
   have:cG y g=1:=by omega
   rw [this]
  by_cases hk:k < l.length
  ·obtain ⟨y,hy⟩:∃ y,l[k]?=some y:=⟨l[k],List.getElem?_eq_getElem hk⟩
   have hrow:(l.map encGr)[k]?=some (encGr y):=by simp [hy]
   have p1:y.arcs.length≤16∧g.arcs.length≤16:=⟨h16 y (List.mem_of_getElem? hy),hg16⟩
   by_cases hc:cG y g=0
   ·have:insU cG g l=l:=insU_same g0 hy (by rw [cG_tot.anti,hc];rfl)
    rw [this]
    (repeat' first|(refine kk ?_;intros)|refine kfk ?_ ?_<;>intro hb|fail)
    all_goals first
     | exact kr1 (rvT rfl)
     | (exfalso;omega)
   ·rw [hput fun z hz=>by rw [hy] at hz;cases hz;exact hc]
    (repeat' first|(refine kkz ?_;intros)|refine kfk ?_ ?_<;>intro hb|fail)
    all_goals first
     | (refine kr1 (rvR ?_);simp)
     | (exfalso;omega)
     | trace_state
  ·rw [hput fun z hz=>by have:=(List.getElem?_eq_some_iff.1 hz).1;omega]
   (repeat' first|(refine kkz ?_;intros)|refine kfk ?_ ?_<;>intro hb|fail)
   all_goals first
    | (refine kr1 (rvR ?_);simp)
    | (exfalso;omega)
    | trace_state⟩
end
end Go.Proofs.YtbabchapkhlenaaGreat
