/- Parts of the proof: V18 VL V30 V32 VK2 VK1 V50 VP5 VP6. -/
import Derived.Test.YtejkllmoofdpjaaGreatD11
import Derived.Test.YtejkllmoofdpjaaGreatD12
import Derived.Test.YtejkllmoofdpjaaGreatD13
import Derived.LoopN
namespace Go.Proofs.YtejkllmoofdpjaaGreat
open Go
set_option linter.all false
set_option maxRecDepth 100000
set_option maxHeartbeats 4000000
noncomputable section
abbrev encN (n:Nat):List D:=encI (n:Int)
abbrev cellN (n:Nat):List Value:=[.int .i64 (n:Nat)]
theorem cellN_flat (l:List Nat):(l.map cellN).flatten=l.map fun n=>Value.int .i64 (n:Nat):=by
 induction l with
 | nil=>rfl
 | cons a l ih=>simp [ih,cellN]
theorem rdRows_N {M:Nat→Prop} {w:World}:∀ {l:List Nat} {vss:List (List Value)},rdRows M w (l.map encN) vss↔vss=l.map cellN
 | [],[]=>by simp [rdRows]
 | [],_::_=>by simp [rdRows]
 | _::_,[]=>by simp [rdRows]
 | n::l,v::vss=>by
  simp only [List.map_cons,rdRows,rdRows_N (l:=l),List.cons.injEq]
  refine and_congr ?_ Iff.rfl
  constructor
  ·rintro ⟨x,xs,rfl,⟨rfl,_⟩,rfl⟩;rfl
  ·rintro rfl;exact ⟨_,_,rfl,⟨rfl,rfl⟩,rfl⟩
abbrev zN (l:List Nat):List Int:=l.map fun n:Nat=>(n:Int)
theorem natSortN (ks:List Nat):∃ l:List Nat,l.Perm ks∧l.Pairwise (·≤·)∧((zN ks).mergeSort fun x y=>decide (x≤y))=zN l:=by
 have hp:=List.mergeSort_perm (zN ks) (fun x y=>decide (x≤y))
 have hs:=List.pairwise_mergeSort (le:=fun (x y:Int)=>decide (x≤y)) (by intro a b c;simp;omega) (by intro a b;simp;omega) (zN ks)
 generalize ((zN ks).mergeSort fun x y=>decide (x≤y))=z at hp hs
 have hz:z=zN (z.map Int.toNat):=by
  unfold zN
  rw [List.map_map]
  conv=>lhs;rw [← List.map_id z]
  refine List.map_congr_left fun x hx=>?_
  obtain ⟨n,_,rfl⟩:=List.mem_map.1 (hp.subset hx)
  simp
 refine ⟨z.map Int.toNat,?_,?_,hz⟩
 ·have:=hp.map Int.toNat
  simpa [List.map_map,Function.comp_def] using this
 ·rw [hz,List.pairwise_map] at hs
  exact hs.imp fun h=>by simpa using h
theorem sortInts_c (u:Value) (ks:List Nat) (hks:ks.length < 4611686018427387904):Spec Tryz.prog 254 [.one (.v u)] [arow 3 1 u (ks.map encN)] fun _ A'=>∃ l:List Nat,l.Perm ks∧l.Pairwise (·≤·)∧A'=[arow 3 1 u (l.map encN)]:=fun M w vs hp hv=>by
 obtain ⟨x,xs,rfl,⟨rfl,_⟩,rfl⟩:=hv
 obtain ⟨vss,⟨hall,hlen,hr⟩,hrd⟩:=hp.ats _ (List.mem_singleton.2 rfl)
 rw [rdRows_N] at hrd
 subst hrd
 rcases hr with ⟨rfl,h0⟩ | ⟨b,cap,cur,rfl,hlo,hg,hnc,hcm,hcs,htake⟩
 ·have:ks=[]:=by simpa using h0
  subst this
  refine Calls.mono (Tryz.sort_Ints_none none 0 w) ?_
  rintro e w' ⟨rfl,rfl⟩
  exact ⟨_,rfl,.tup [],_,⟨[],.refl _,.nil,rfl⟩,undef_rd,.refl hp⟩
 ·have hbl:b < w.heap.size:=hp.lt b (mem_oA.2 ⟨_,List.mem_singleton.2 rfl,by simp [arow,Value.ownBlock]⟩)
  have hzl:(ks.map cellN).length=(zN ks).length:=by simp
  have hcell:∀ j (hj:j < ks.length),cur[j]?=some (.int .i64 (ks[j]:Nat)):=fun j hj=>by
   have h1:(cur.toList.take ((ks.map cellN).length * 1))[j]?=some (Value.int .i64 (ks[j]:Nat)):=by
    rw [htake,cellN_flat];simp [hj]
   rw [List.getElem?_take] at h1
   simpa [hj] using h1
  have hH:Go.Sort.Holds (Value.int .i64) w b 0 (zN ks).toArray:=by
   intro j hj
   have hj':j < ks.length:=by simpa using hj
   refine ⟨?_,by simp [World.frozen?,hg]⟩
   rw [Nat.zero_add,block_cell hg,Array.getElem?_toList,hcell j hj']
   simp [hj']
  rw [hzl] at hp ⊢
  refine Calls.mono (Tryz.sort_Ints b 0 cap (zN ks) w hH hbl (by simpa using hks)) ?_
  rintro e w' ⟨rfl,n,os,rfl⟩
  obtain ⟨l,hpl,hs,hz⟩:=natSortN ks
  refine ⟨_,rfl,.tup [],_,⟨l,hpl,hs,rfl⟩,undef_rd,?_⟩
  rw [hz]
  have hheap:(Go.Sort.grow (Go.Sort.putRow (Value.int .i64) (Go.Sort.ahead w n) b 0 (zN l).toArray) os).heap=(w.heap.modify b (Go.Sort.onCells (Go.Sort.putCells (Value.int .i64) 0 (zN l).toArray)))++os:=rfl
  have hbk:(Go.Sort.grow (Go.Sort.putRow (Value.int .i64) (Go.Sort.ahead w n) b 0 (zN l).toArray) os).heap[b]?=some (.cells (Go.Sort.putCells (Value.int .i64) 0 (zN l).toArray cur) 3 (0,0)):=by
   rw [hheap,Array.getElem?_append_left (by simpa using hbl),Array.getElem?_modify,if_pos rfl,hg]
   rfl
  have hll:l.length=ks.length:=hpl.length_eq
  have hmod:Mod [b] w (Go.Sort.grow (Go.Sort.putRow (Value.int .i64) (Go.Sort.ahead w n) b 0 (zN l).toArray) os):=⟨rfl,rfl,rfl,by rw [hheap];simp,fun k hk hn=>by
   have hkb:k≠b:=fun e=>hn (by simp [e])
   rw [hheap,Array.getElem?_append_left (by simpa using hk),Array.getElem?_modify,if_neg (Ne.symm hkb)]⟩
  refine hp.turn (i:=0) (a':=arow 3 1 (.slice (some ⟨b,0,none⟩) (zN ks).length cap) (l.map encN)) rfl hmod (by simp [arow,Value.ownBlock]) (fun c hc=>?_) ⟨l.map cellN,⟨by simp [cellN],?_⟩,rdRows_N.2 rfl⟩
  ·simp only [arow,Value.ownBlock,Option.toList_some,List.mem_singleton] at hc
   subst hc
   refine ⟨?_,.inl (by simp [arow,Value.ownBlock])⟩
   rw [hheap];simp;omega
  ·rw [cellN_flat]
   refine ⟨by simp,.inr ⟨b,cap,_,by simp [hll],Nat.zero_le _,hbk,by simpa [hll] using hnc,hcm,by simpa [Go.Sort.putCells] using hcs,?_⟩⟩
   rw [cellN_flat] at htake
   simp only [List.length_map,Nat.mul_one] at htake hnc hcs ⊢
   apply List.ext_getElem?
   intro j
   rw [List.getElem?_take]
   by_cases hj:j < l.length
   ·rw [if_pos hj]
    have hjc:j < cur.size:=by omega
    simp only [Go.Sort.putCells,Array.getElem?_toList,Array.getElem?_mapIdx,Array.getElem?_eq_getElem hjc,Option.map_some]
    rw [if_pos (by simp;omega)]
    simp [hj]
   ·rw [if_neg hj,List.getElem?_eq_none (by simpa using hj)]
theorem asc_one {l m:List Nat} (hl:l.Pairwise (· < ·)) (hm:m.Pairwise (· < ·)) (h:∀ n,n∈l↔n∈m):l=m:=sorted_ext (r:=(· < ·)) (fun a=>Nat.lt_irrefl a) (fun _ _ _=>Nat.lt_trans) hl hm h
def KeysN (c:Nat→Option Unit) (l:List Nat):Prop:=l.Pairwise (· < ·)∧∀ n,n∈l↔c n≠none
theorem gm_upI_none {c:Nat→Option Unit} {m:Int}:gm setv (upI c) m≠none↔∃ n:Nat,m=n∧c n≠none:=by
 unfold gm upI
 constructor
 ·intro h
  by_cases h0:0≤m
  ·rw [if_pos h0] at h
   exact ⟨m.toNat,by omega,fun e=>h (by rw [e];rfl)⟩
  ·rw [if_neg h0] at h;exact absurd rfl h
 ·rintro ⟨n,rfl,h⟩
  rw [if_pos (by omega)]
  simpa using h
theorem sortedInts_c {l:List Nat} {c:Nat→Option Unit} (hk:KeysN c l) (hl:l.length≤1000000) (ms:Nat) :
 Spec Tryz.prog 211 [.one (.v (.map (some ms)))] [setA ms c] fun r A'=>r=.one (.s 1 (l.map encN))∧A'=[setA ms c]:=by
 refine sp Tryz.func211 rfl Tryz.ntmps211 rfl rfl fun C=>?_
 (repeat' first|(refine kkz ?_;intros)|refine kfk ?_ ?_<;>intro hb|fail)
 rename_i u0
 refine krg 1 ?_
 intro q T
 (repeat' first|(refine kkz ?_;intros)|refine kfk ?_ ?_<;>intro hb|fail)
 refine kloop (ι:=Value × List Nat) (fun x=>T - x.2.length) (fun x=>[(7,.one (.v (.pointer (some ⟨q,0,none⟩)))),(3,.one (.v x.1))]) (fun x=>[arow 3 1 x.1 (x.2.map encN),amapI kvI ms q (gm setv (upI c)) T (x.2.map fun n:Nat=>(n:Int))]) (fun x=>x.2.length≤T∧x.2.Nodup∧(∀ n∈x.2,c n≠none)) (u0,[]) ⟨Nat.zero_le _,by simp,by simp⟩ ?_
 rintro ⟨u,ks⟩ ⟨h1,h2,h3⟩
 simp only at h1 h2 h3
 have hkl:ks.length≤l.length:=nodup_len h2 fun n hn=>(hk.2 n).2 (h3 n hn)
 (repeat' first|(refine kkz ?_;intros)|refine kfk ?_ ?_<;>intro hb|fail)
 refine knx 1 ?_ ?_
 ·intro e1 e2 e3
  (repeat' first|(refine kkz ?_;intros)|refine kfk ?_ ?_<;>intro hb|fail)
  refine kunO 1 ?_
  have hks:ks.Perm l:=by
   refine (List.perm_ext_iff_of_nodup h2 (hk.1.imp fun h=>Nat.ne_of_lt h)).2 fun n=>⟨fun hn=>(hk.2 n).2 (h3 n hn),fun hn=>?_⟩
   have:=e1 n (gm_upI_none.2 ⟨n,rfl,(hk.2 n).1 hn⟩)
   obtain ⟨x,hx,e⟩:=List.mem_map.1 this
   rwa [← Int.ofNat_inj.1 e]
  (repeat' first|(refine kkz ?_;intros)|refine kfk ?_ ?_<;>intro hb|fail)
  refine kcs (A1:=[setA ms c]) (h:=sortInts_c u ks (by have:=hks.length_eq;omega)) ?_ (hA:=List.Perm.swap _ _ [])
  rintro v A' ⟨m,g1,g2,rfl⟩
  have hm:m=l:=by
   have hn:m.Nodup:=(g1.trans hks).nodup_iff.2 (hk.1.imp fun h=>Nat.ne_of_lt h)
   exact asc_one ((g2.and hn).imp fun ⟨h,h'⟩=>by omega) hk.1 fun n=>(g1.trans hks).mem_iff
  subst hm
  refine kfO 1 3 ?_
  (repeat' first|(refine kkz ?_;intros)|refine kfk ?_ ?_<;>intro hb|fail)
  exact ker1 _ ⟨rfl,rfl⟩
 ·intro m hm hg hT
  obtain ⟨n,rfl,hn⟩:=gm_upI_none.1 hg
  have hgn:gm setv (upI c) (n:Int)=some (bv true):=by unfold gm;rw [upI_nat];cases hc:c n with
   | none=>exact absurd hc hn
   | some _=>rfl
  (repeat' first|(refine kkz ?_;intros)|refine kfk ?_ ?_<;>intro hb|fail)
  refine kr ?_ (h:=P_entry (ka:=iv) _ rfl (by repeat (first|exact List.Mem.head _|apply List.Mem.tail)) hgn)
  (repeat' first|(refine kkz ?_;intros)|refine kfk ?_ ?_<;>intro hb|fail)
  rename_i u1
  refine ⟨(u1,ks++[n]),?_,⟨?_,?_,?_⟩,?_⟩
  ·simp at hT ⊢;omega
  ·simp at hT ⊢;omega
  ·rw [List.nodup_append]
   refine ⟨h2,by simp,fun a ha b hb e=>hm ?_⟩
   simp at hb;subst hb;subst e
   exact List.mem_map.2 ⟨_,ha,rfl⟩
  ·intro x hx
   rcases List.mem_append.1 hx with hx|hx
   ·exact h3 x hx
   ·simp at hx;subst hx;exact hn
  ·show Wk _ _ _ [arow _ 1 _ (List.map encN (ks++[n])),amapI _ _ _ _ _ (List.map _ (ks++[n]))]
   rw [List.map_append,List.map_append]
   exact kwk
end
section
variable {P:Program} {n:Nat} {C:Cx} {c:Code} {Q:AQ}
def ARn (P:Program) (n:Nat) (C:Cx) (c:Code) (Q:AQ):Nat→AF→List Atm→Prop
 | 0,_,_=>False
 | k+1,f,A=>AW P n C c (asq (ARn P n C c Q k) Q) f A
theorem AW_rounds (k:Nat) {f:AF} {A:List Atm} (h:ARn P n C c Q k f A):AW P n C (.loop c) Q f A:=fun g w hi a ha=>by
 refine wp_loop_rounds k ?_
 induction k generalizing f A g w a with
 | zero=>exact h.elim
 | succ k ih=>
  rw [rounds_succ]
  refine wp_mono (h g w hi a ha) ?_
  rintro e a' w' ⟨g',hg',f',A',hq,hi'⟩
  cases e with
  | normal=>exact ih hq g' w' hi' a' hg'
  | exit id=>exact ⟨g',hg',f',A',hq,hi'⟩
  | goto l=>exact ⟨g',hg',f',A',hq,hi'⟩
  | ret=>exact ⟨g',hg',f',A',hq,hi'⟩
  | panic ch=>exact ⟨g',hg',f',A',hq,hi'⟩
  | outgrown=>exact ⟨g',hg',f',A',hq,hi'⟩
variable {f:AF} {A:List Atm}
theorem kun1 (h:AW P n C c (asq (fun _ _=>False) Q) f A):AW P n C (.loop c) Q f A:=AW_rounds 1 h
theorem kun3 (h:AW P n C c (asq (AW P n C c (asq (AW P n C c (asq (fun _ _=>False) Q)) Q)) Q) f A):AW P n C (.loop c) Q f A:=AW_rounds 3 h
end
noncomputable section
instance sign_s:Con1 Tryz.prog 205 Bool bv (fun b=>iv (if b=true then -1 else 1)) (fun _=>True):=⟨fun b _=>by
 refine pu Tryz.func205 rfl Tryz.ntmps205 rfl rfl fun C=>?_
 cases b
 all_goals (repeat' first|(refine kk ?_;intros)|refine kfk ?_ ?_<;>intro hb|fail)
 all_goals exact kret rfl⟩
instance pair_s:Con2 Tryz.prog 326 T T vT vT (fun a b=>vT (.pair a b)) (fun _ _=>True):=⟨fun a b _=>by
 refine pu Tryz.func326 rfl Tryz.ntmps326 rfl rfl fun C=>?_
 (repeat' first|(refine kk ?_;intros)|refine kfk ?_ ?_<;>intro hb|fail)
 refine kr1 (rvw ?_)
 (exact wV)⟩
instance var_s:Con1 Tryz.prog 243 Nat nv (fun n=>vT (.var n)) (fun _=>True):=⟨fun n _=>by
 refine pu Tryz.func243 rfl Tryz.ntmps243 rfl rfl fun C=>?_
 (repeat' first|(refine kk ?_;intros)|refine kfk ?_ ?_<;>intro hb|fail)
 refine kr1 (rvw ?_)
 (exact wV)⟩
theorem sign_cI {a b:Int} (h:a≠b):(if decide (a < b)=true then (-1:Int) else 1)=cI a b:=by
 unfold cI;by_cases h1:a < b
 ·simp [h1]
 ·simp [h1];omega
theorem sign_cB {a b:ByteArray} (h:a≠b):(if Op.bytesLess a.toList b.toList=true then (-1:Int) else 1)=cB a b:=by rw [bytesLess_cB h]
theorem argsLen (t:T):t.tm.args.length=0∨∃ a b,t=.pair a b:=by cases t<;>simp [T.tm]
instance cmp_s:Con2 Tryz.prog 206 T T vT vT (fun a b=>iv (cT a b)) (fun _ _=>True):=.ind (fun a _=>a.nodes) fun N ih a b hN _=>by
 refine pu Tryz.func206 rfl Tryz.ntmps206 rfl rfl fun C=>?_
 by_cases hk:a.tm.kind=b.tm.kind
 ·by_cases hi:a.tm.int=b.tm.int
  ·by_cases hn:a.tm.name=b.tm.name
   ·rcases key_same hk hi hn with rfl | ⟨a1,a2,b1,b2,rfl,rfl⟩
    ·cases a with
     | pair a1 a2=>
      have:=nodes_pos a1
      have:=nodes_pos a2
      simp only [T.nodes] at hN
      have s1:a1.nodes < N:=by omega
      have s2:a2.nodes < N:=by omega
      clear hk hi hn
      (repeat' first|(refine kk ?_;intros)|refine kfk ?_ ?_<;>intro hb|fail)
      refine kun3 ?_
      (repeat' first|(refine kk ?_;intros)|refine kfk ?_ ?_<;>intro hb|fail)
      ·exact absurd (cT_tot.self _) hb
      ·exact absurd (cT_tot.self _) hb
      ·refine kret ?_
       rw [cT_tot.self]
     | _=>
      (repeat' first|(refine kk ?_;intros)|refine kfk ?_ ?_<;>intro hb|fail)
      refine kun1 ?_
      (repeat' first|(refine kk ?_;intros)|refine kfk ?_ ?_<;>intro hb|fail)
      refine kret ?_
      rw [cT_tot.self]
    ·have:=nodes_pos a1
     have:=nodes_pos a2
     simp only [T.nodes] at hN
     have s1:a1.nodes < N:=by omega
     have s2:a2.nodes < N:=by omega
     clear hk hi hn
     (repeat' first|(refine kk ?_;intros)|refine kfk ?_ ?_<;>intro hb|fail)
     refine kun3 ?_
     (repeat' first|(refine kk ?_;intros)|refine kfk ?_ ?_<;>intro hb|fail)
     ·refine kret ?_
      rw [cT_pair,if_pos hb]
     ·refine kret ?_
      rename_i hb1
      rw [cT_pair,if_neg (by simpa using hb1)]
     ·refine kret ?_
      rename_i hb1
      have h0:cT a1 b1=0:=by simpa using hb1
      have h1:cT a2 b2=0:=by simpa using hb
      rw [cT_pair,if_neg (by simpa using h0),h1]
   ·(repeat' first|(refine kk ?_;intros)|refine kfk ?_ ?_<;>intro hb|fail)
    all_goals refine kret ?_
    all_goals rw [keyne_name hk hi hn,← sign_cB hn]
  ·(repeat' first|(refine kk ?_;intros)|refine kfk ?_ ?_<;>intro hb|fail)
   refine kret ?_
   rw [keyne_int hk hi,← sign_cI hi]
 ·(repeat' first|(refine kk ?_;intros)|refine kfk ?_ ?_<;>intro hb|fail)
  refine kret ?_
  rw [keyne_kind hk,← sign_cI hk]
instance same_s:Con2 Tryz.prog 324 T T vT vT (fun a b=>bp (a=b)) (fun _ _=>True):=⟨fun a b _=>by
 refine pu Tryz.func324 rfl Tryz.ntmps324 rfl rfl fun C=>?_
 (repeat' first|(refine kk ?_;intros)|refine kfk ?_ ?_<;>intro hb|fail)
 refine kret (bpI ?_)
 rw [beq_iff_eq,cT_tot.eq]⟩
instance occurs_s:Con2 Tryz.prog 327 Nat T nv vT (fun v t=>bp (t.Occ v)) (fun _ _=>True):=.ind (fun _ t=>t.nodes) fun N ih v t hN _=>by
 refine pu Tryz.func327 rfl Tryz.ntmps327 rfl rfl fun C=>?_
 cases t with
 | pair a b=>
  have:=nodes_pos a
  have:=nodes_pos b
  simp only [T.nodes] at hN
  have s1:a.nodes < N:=by omega
  have s2:b.nodes < N:=by omega
  (repeat' first|(refine kk ?_;intros)|refine kfk ?_ ?_<;>intro hb|fail)
  refine kun3 ?_
  (repeat' first|(refine kk ?_;intros)|refine kfk ?_ ?_<;>intro hb|fail)
  ·exact kret (bpT (.inl hb))
  ·exact kret (bpT (.inr hb))
  ·exact kret (bpF fun h=>by rcases h with h|h<;>contradiction)
 | var n=>
  (repeat' first|(refine kk ?_;intros)|refine kfk ?_ ?_<;>intro hb|fail)
  refine kun1 ?_
  (repeat' first|(refine kk ?_;intros)|refine kfk ?_ ?_<;>intro hb|fail)
  refine kret (bpI ?_)
  rw [beq_iff_eq]
  show ((n:Int)=v)↔n=v
  exact Int.ofNat_inj
 | _=>
  (repeat' first|(refine kk ?_;intros)|refine kfk ?_ ?_<;>intro hb|fail)
  refine kun1 ?_
  (repeat' first|(refine kk ?_;intros)|refine kfk ?_ ?_<;>intro hb|fail)
  exact kret (bpF fun h=>h)
instance put_s:Con3 Tryz.prog 328 T Nat T vT nv vT (fun t v x=>vT (putT v x t)) (fun _ _ _=>True):=.ind (fun t _ _=>t.nodes) fun N ih t v x hN _=>by
 refine pu Tryz.func328 rfl Tryz.ntmps328 rfl rfl fun C=>?_
 cases t with
 | pair a b=>
  have:=nodes_pos a
  have:=nodes_pos b
  simp only [T.nodes] at hN
  have s1:a.nodes < N:=by omega
  have s2:b.nodes < N:=by omega
  (repeat' first|(refine kk ?_;intros)|refine kfk ?_ ?_<;>intro hb|fail)
  refine kr1 (rvw ?_)
  (exact wV)
 | var n=>
  by_cases hn:n=v
  ·have e:putT v x (.var n)=x:=by simp [putT,T.sub,hn]
   have hi:(T.var n).tm.int=(v:Int):=by rw [hn];rfl
   rw [e]
   (repeat' first|(refine kk ?_;intros)|refine kfk ?_ ?_<;>intro hb|fail)
   refine kr1 (rvw ?_)
   (exact wV)
  ·have e:putT v x (.var n)=.var n:=by simp [putT,T.sub,hn]
   have hi:(T.var n).tm.int≠(v:Int):=fun h=>hn (Int.ofNat_inj.1 h)
   rw [e]
   (repeat' first|(refine kk ?_;intros)|refine kfk ?_ ?_<;>intro hb|fail)
   refine kr1 (rvw ?_)
   (exact wV)
 | _=>
  (repeat' first|(refine kk ?_;intros)|refine kfk ?_ ?_<;>intro hb|fail)
  refine kr1 (rvw ?_)
  (exact wV)
instance fits_s:Con1 Tryz.prog 291 T vT (fun t=>bp (t.nodes≤5000)) (fun t=>t.fit):=⟨fun t ht=>by
 have hin:=tm_in ht
 have hc:=cnt_nodes t.tm 5000 (by omega)
 rw [tm_nodes] at hc
 refine pu Tryz.func291 rfl Tryz.ntmps291 rfl rfl fun C=>?_
 (repeat' first|(refine kk ?_;intros)|refine kfk ?_ ?_<;>intro hb|fail)
 refine kret (bpI ?_)
 rw [decide_eq_true_iff]
 omega⟩
end
noncomputable section
abbrev nsv (l:List Nat):AV:=.one (.s 1 (l.map encN))
def insA (l:List Nat) (n:Nat):List Nat:=l.filter (fun x=>decide (x < n))++n::l.filter (fun x=>decide (n < x))
abbrev AscN (l:List Nat):Prop:=l.Pairwise (· < ·)
theorem mem_insA {l:List Nat} {n x:Nat}:x∈insA l n↔x=n∨x∈l:=by
 unfold insA
 simp only [List.mem_append,List.mem_filter,List.mem_cons,decide_eq_true_eq]
 constructor
 ·rintro (h|h|h)
  ·exact .inr h.1
  ·exact .inl h
  ·exact .inr h.1
 ·rintro (h|h)
  ·exact .inr (.inl h)
  ·rcases Nat.lt_trichotomy x n with h1|h1|h1
   ·exact .inl ⟨h,h1⟩
   ·exact .inr (.inl h1)
   ·exact .inr (.inr ⟨h,h1⟩)
theorem asc_insA {l:List Nat} {n:Nat} (h:AscN l):AscN (insA l n):=by
 unfold insA
 refine List.pairwise_append.2 ⟨h.sublist List.filter_sublist,List.pairwise_cons.2 ⟨fun x hx=>by simpa using (List.mem_filter.1 hx).2,h.sublist List.filter_sublist⟩,fun x hx y hy=>?_⟩
 have h1:x < n:=by simpa using (List.mem_filter.1 hx).2
 rcases List.mem_cons.1 hy with rfl|hy
 ·exact h1
 ·have h2:n < y:=by simpa using (List.mem_filter.1 hy).2
  omega
theorem insA_old {l:List Nat} {n:Nat} (h:AscN l) (hn:n∈l):insA l n=l:=asc_one (asc_insA h) h fun x=>by
 rw [mem_insA];exact ⟨fun h=>h.elim (fun e=>e▸hn) id,.inr⟩
theorem insA_cut {l:List Nat} {n k:Nat} (h1:∀ x∈l.take k,x < n) (h2:∀ x∈l.drop k,n < x):insA l n=l.take k++n::l.drop k:=by
 unfold insA
 have e:l=l.take k++l.drop k:=(List.take_append_drop k l).symm
 have a1:(l.take k).filter (fun x=>decide (x < n))=l.take k:=List.filter_eq_self.2 fun x hx=>by simpa using h1 x hx
 have a2:(l.drop k).filter (fun x=>decide (x < n))=[]:=List.filter_eq_nil_iff.2 fun x hx=>by have:=h2 x hx;simp;omega
 have a3:(l.take k).filter (fun x=>decide (n < x))=[]:=List.filter_eq_nil_iff.2 fun x hx=>by have:=h1 x hx;simp;omega
 have a4:(l.drop k).filter (fun x=>decide (n < x))=l.drop k:=List.filter_eq_self.2 fun x hx=>by simpa using h2 x hx
 conv=>lhs;rw [e]
 rw [List.filter_append,List.filter_append,a1,a2,a3,a4]
 simp
theorem insA_len {l:List Nat} {n:Nat} (h:AscN l):(insA l n).length≤l.length+1:=by
 have:=nodup_len (l:=insA l n) (m:=n::l) ((asc_insA h).imp fun h=>Nat.ne_of_lt h) fun x hx=>by rw [mem_insA] at hx;exact List.mem_cons.2 hx
 simpa using this
instance insert_s:Con2 Tryz.prog 252 (List Nat) Nat nsv nv (fun l n=>nsv (insA l n)) (fun l _=>AscN l∧l.length≤1099511627776):=⟨fun l n ⟨ha,hl⟩=>by
 have hlen:(l.map encN).length=l.length:=by simp
 refine pu Tryz.func252 rfl Tryz.ntmps252 rfl rfl fun C=>?_
 (repeat' first|(refine kk ?_;intros)|refine kfk ?_ ?_<;>intro hb|fail)
 refine kloop (ι:=Nat) (fun k=>k) (fun k=>[(0,nsv l),(1,nv n),(5,nv k)]) (fun _=>[]) (fun k=>k≤l.length∧∀ x∈l.drop k,n≤x) l.length ⟨Nat.le_refl _,by simp⟩ ?_
 rintro k ⟨h1,h2⟩
 have key:(∀ x∈l.take k,x < n)→(∀ x,l[k]?=some x→x≠n)→(((l.take k).map encN++[encN n])++(l.drop k).map encN)=(insA l n).map encN:=fun g1 g2=>by
  rw [insA_cut g1 fun x hx=>?_]
  ·simp
  ·have:=h2 x hx
   rcases Nat.eq_or_lt_of_le this with e|e
   ·subst e
    obtain ⟨i,hi⟩:=List.getElem?_of_mem hx
    rw [List.getElem?_drop] at hi
    cases i with
    | zero=>exact absurd rfl (g2 n (by simpa using hi))
    | succ i=>
     have hk:k < l.length:=by have:=(List.getElem?_eq_some_iff.1 hi).1;omega
     have:=List.pairwise_iff_getElem.1 ha k (k+(i+1)) hk (List.getElem?_eq_some_iff.1 hi).1 (by omega)
     have h3:=h2 l[k] (List.mem_of_getElem? (i:=0) (by rw [List.getElem?_drop];simp [hk]))
     have h4:=(List.getElem?_eq_some_iff.1 hi).2
     omega
   ·exact e
 have h0:∀ (j:Nat) (x:Nat),l[j]?=some x→(l.map encN)[j]?=some (encN x):=fun j x h=>by simp [h]
 by_cases hk:0 < k
 ·obtain ⟨y,hy⟩:∃ y,l[k - 1]?=some y:=⟨l[k - 1]'(by omega),List.getElem?_eq_getElem (by omega)⟩
  have hy':=h0 _ _ hy
  have low:y < n→∀ x∈l.take k,x < n:=fun hyn x hx=>by
   obtain ⟨i,hi⟩:=List.getElem?_of_mem hx
   rw [List.getElem?_take] at hi
   split at hi
   ·have hi':=List.getElem?_eq_some_iff.1 hi
    have hy2:=List.getElem?_eq_some_iff.1 hy
    by_cases e:i=k - 1
    ·subst e;rw [hy] at hi;cases hi;exact hyn
    ·have:=List.pairwise_iff_getElem.1 ha i (k - 1) hi'.1 hy2.1 (by omega)
     rw [hi'.2,hy2.2] at this;omega
   ·cases hi
  by_cases hyn:y < n
  ·by_cases hkl:k < l.length
   ·obtain ⟨z,hz⟩:∃ z,l[k]?=some z:=⟨l[k],List.getElem?_eq_getElem hkl⟩
    have hz':=h0 _ _ hz
    (repeat' first|(refine kkz ?_;intros)|refine kfk ?_ ?_<;>intro hb|fail)
    ·refine kret ?_
     have hb:z=n:=by have hb:(z:Int)=n:=hb;omega
     rw [insA_old ha (hb▸List.mem_of_getElem? hz)]
    ·refine kr1 (rvR (key (low hyn) fun x hx e=>?_))
     rw [hz] at hx;cases hx;subst e;exact hb rfl
   ·(repeat' first|(refine kkz ?_;intros)|refine kfk ?_ ?_<;>intro hb|fail)
    refine kr1 (rvR (key (low hyn) fun x hx e=>?_))
    have:=(List.getElem?_eq_some_iff.1 hx).1;omega
  ·(repeat' first|(refine kkz ?_;intros)|refine kfk ?_ ?_<;>intro hb|fail)
   refine ⟨k - 1,by omega,⟨by omega,fun x hx=>?_⟩,kwk⟩
   rw [List.drop_eq_getElem_cons (by omega),show k - 1+1=k by omega] at hx
   rcases List.mem_cons.1 hx with rfl|hx
   ·have:=(List.getElem?_eq_some_iff.1 hy).2;omega
   ·exact h2 x hx
 ·obtain rfl:k=0:=by omega
  by_cases hkl:0 < l.length
  ·obtain ⟨z,hz⟩:∃ z,l[0]?=some z:=⟨l[0],List.getElem?_eq_getElem hkl⟩
   have hz':=h0 _ _ hz
   (repeat' first|(refine kkz ?_;intros)|refine kfk ?_ ?_<;>intro hb|fail)
   ·refine kret ?_
    have hb:z=n:=by have hb:(z:Int)=n:=hb;omega
    rw [insA_old ha (hb▸List.mem_of_getElem? hz)]
   ·refine kr1 (rvR (key (by simp) fun x hx e=>?_))
    rw [hz] at hx;cases hx;subst e;exact hb rfl
  ·(repeat' first|(refine kkz ?_;intros)|refine kfk ?_ ?_<;>intro hb|fail)
   refine kr1 (rvR (key (by simp) fun x hx e=>?_))
   have:=(List.getElem?_eq_some_iff.1 hx).1;omega⟩
def varsA (l:List Nat) (t:T):List Nat:=t.vars.foldl insA l
theorem asc_foldA:∀ {m l:List Nat},AscN l→AscN (m.foldl insA l)
 | [],_,h=>h
 | _::_,_,h=>by simp only [List.foldl_cons];exact asc_foldA (asc_insA h)
theorem mem_foldA {x:Nat}:∀ {m l:List Nat},x∈m.foldl insA l↔x∈m∨x∈l
 | [],_=>by simp
 | n::m,l=>by simp only [List.foldl_cons,mem_foldA (m:=m),mem_insA,List.mem_cons];exact ⟨by rintro (h|h|h)<;>simp [h],by rintro ((h|h)|h)<;>simp [h]⟩
theorem len_foldA:∀ {m l:List Nat},AscN l→(m.foldl insA l).length≤l.length+m.length
 | [],_,_=>by simp
 | n::m,l,h=>by
  have h1:=insA_len (n:=n) h
  have h2:=len_foldA (m:=m) (asc_insA (n:=n) h)
  simp only [List.foldl_cons,List.length_cons];omega
theorem vars_len:∀ t:T,t.vars.length≤t.nodes
 | .var _=>by simp [T.vars,T.nodes]
 | .pair a b=>by have:=vars_len a;have:=vars_len b;simp [T.vars,T.nodes];omega
 | .nil=>by simp [T.vars]
 | .sym _=>by simp [T.vars]
 | .num _=>by simp [T.vars]
theorem mem_varsA {x:Nat} {l:List Nat} {t:T}:x∈varsA l t↔t.Occ x∨x∈l:=by rw [varsA,mem_foldA,mem_vars]
instance vars_s:Con2 Tryz.prog 204 T (List Nat) vT nsv (fun t l=>nsv (varsA l t)) (fun t l=>AscN l∧l.length+t.nodes≤1099511627776):=.ind (fun t _=>t.nodes) fun N ih t l hN ⟨ha,hl⟩=>by
 refine pu Tryz.func204 rfl Tryz.ntmps204 rfl rfl fun C=>?_
 cases t with
 | pair a b=>
  have:=nodes_pos a
  have:=nodes_pos b
  simp only [T.nodes] at hN hl
  have s1:a.nodes < N:=by omega
  have s2:b.nodes < N:=by omega
  have a1:AscN (varsA l a):=asc_foldA ha
  have l1:(varsA l a).length≤l.length+a.nodes:=Nat.le_trans (len_foldA ha) (by have:=vars_len a;omega)
  have h1:a.nodes < N∧AscN l∧l.length+a.nodes≤1099511627776:=⟨s1,ha,by omega⟩
  have h2:b.nodes < N∧AscN (varsA l a)∧(varsA l a).length+b.nodes≤1099511627776:=⟨s2,a1,by omega⟩
  (repeat' first|(refine kk ?_;intros)|refine kfk ?_ ?_<;>intro hb|fail)
  refine kun3 ?_
  (repeat' first|(refine kk ?_;intros)|refine kfk ?_ ?_<;>intro hb|fail)
  refine kret ?_
  unfold varsA
  rw [T.vars,List.foldl_append]
 | var n=>
  have h1:l.length≤1099511627776:=by omega
  (repeat' first|(refine kk ?_;intros)|refine kfk ?_ ?_<;>intro hb|fail)
  exact kret rfl
 | _=>
  (repeat' first|(refine kk ?_;intros)|refine kfk ?_ ?_<;>intro hb|fail)
  refine kun1 ?_
  (repeat' first|(refine kk ?_;intros)|refine kfk ?_ ?_<;>intro hb|fail)
  exact kret rfl
end
noncomputable section
abbrev toK (b:Nat × Int):VkR:=((b.1:Int),b.2)
abbrev toM (b:Nat × ByteArray):MkR:=((b.1:Int),b.2)
abbrev vK (l:Ks):AV:=.one (.s 2 ((l.map toK).map encK))
abbrev vM (l:Ms):AV:=.one (.s 2 ((l.map toM).map encM))
theorem asc_len:∀ {l:Ks} {n:Nat},l.Pairwise (fun a b=>a.1 < b.1)→(∀ b∈l,n≤b.1∧b.1≤100000)→l.length≤100001 - n
 | [],_,_,_=>Nat.zero_le _
 | b::l,n,ha,h=>by
  obtain ⟨h1,h2⟩:=List.pairwise_cons.1 ha
  have hb:=h b (by simp)
  have:=asc_len (l:=l) (n:=b.1+1) h2 fun c hc=>⟨h1 c hc,(h c (by simp [hc])).2⟩
  simp only [List.length_cons]
  omega
theorem KOk.len {l:Ks} (h:KOk l):l.length≤100001:=by
 have:=asc_len (n:=0) h.asc fun b hb=>⟨Nat.zero_le _,(h.ok b hb).1⟩
 omega
theorem KOk.lng {l:Ks} (h:KOk l):Lng l.length:=by have:=h.len;unfold Lng;omega
theorem asc_get {α:Type} {r:α→α→Prop} {l:List α} (h:l.Pairwise r) {i j:Nat} {a b:α} (hi:l[i]?=some a) (hj:l[j]?=some b) (hij:i < j):r a b:=by
 obtain ⟨h1,rfl⟩:=List.getElem?_eq_some_iff.1 hi
 obtain ⟨h2,rfl⟩:=List.getElem?_eq_some_iff.1 hj
 exact List.pairwise_iff_getElem.1 h i j h1 h2 hij
theorem kindsYes_i:Con1 Tryz.prog 198 Ks vK (fun _=>bv true) KOk:=⟨fun l hl=>by
 have hlen:((l.map toK).map encK).length=l.length:=by simp
 have hl1:=hl.lng
 refine pu Tryz.func198 rfl Tryz.ntmps198 rfl rfl fun C=>?_
 (repeat' first|(refine kk ?_;intros)|refine kfk ?_ ?_<;>intro hb|fail)
 refine kfor (ι:=Unit) l (fun j _=>[(0,vK l),(5,vK l)]) (fun j _=>[]) (fun j _=>True) () trivial ?_ ?_
 ·rintro j ⟨v,k⟩ _ hj hd hjl _
  have hrow:((l.map toK).map encK)[j]?=some (encK (toK (v,k))):=by simp [hj]
  have hm:=hl.ok _ (List.mem_of_getElem? hj)
  simp only at hm
  by_cases h0:0 < j
  ·obtain ⟨⟨v',k'⟩,hc⟩:∃ c,l[j - 1]?=some c:=⟨l[j - 1],List.getElem?_eq_getElem (by omega)⟩
   have hrow2:((l.map toK).map encK)[j - 1]?=some (encK (toK (v',k'))):=by simp [hc]
   have hlt:=asc_get hl.asc hc hj (by omega)
   simp only at hlt
   (repeat' first|(refine kk ?_;intros)|refine kfk ?_ ?_<;>intro hb|fail)
   all_goals first
    | exact ⟨(),trivial,kwk⟩
    | (exfalso;simp only at *;omega)
  ·(repeat' first|(refine kk ?_;intros)|refine kfk ?_ ?_<;>intro hb|fail)
   all_goals first
    | exact ⟨(),trivial,kwk⟩
    | (exfalso;simp only at *;omega)
 ·intro _ _
  (repeat' first|(refine kk ?_;intros)|refine kfk ?_ ?_<;>intro hb|fail)
  exact kret rfl⟩
abbrev mAV (b:Nat × ByteArray):AV:=.agg (encM (toM b))
theorem cMk_less {a b:Nat × ByteArray}:cMk a b=-1↔a.1 < b.1∨a.1=b.1∧Op.bytesLess a.2.toList b.2.toList=true:=by
 rw [← cB_lt]
 show (if cNat a.1 b.1≠0 then cNat a.1 b.1 else cB a.2 b.2)=-1↔_
 unfold cNat cI
 by_cases h1:(a.1:Int) < b.1
 ·simp [h1];omega
 ·by_cases h2:(b.1:Int) < a.1
  ·simp [h1,h2];omega
  ·have:a.1=b.1:=by omega
   simp [h1,h2,this]
instance less_i:Con2 Tryz.prog 231 (Nat × ByteArray) (Nat × ByteArray) mAV mAV (fun a b=>bp (cMk a b=-1)) (fun _ _=>True):=⟨fun a b _=>by
 obtain ⟨v,s⟩:=a
 obtain ⟨w,t⟩:=b
 refine pu Tryz.func231 rfl Tryz.ntmps231 rfl rfl fun C=>?_
 (repeat' first|(refine kk ?_;intros)|refine kfk ?_ ?_<;>intro hb|fail)
 ·have hb:(v:Int) < w:=hb
  exact kret (bpT (cMk_less.2 (.inl (by simp only;omega))))
 ·have hb:(v:Int)=w:=hb
  have hv:v=w:=by omega
  exact kret (bpI ⟨fun h=>cMk_less.2 (.inr ⟨hv,h⟩),fun h=>((cMk_less.1 h).resolve_left (by simp only;omega)).2⟩)
 ·rename_i g1
  have g1:¬ (v:Int) < w:=g1
  have hb:¬ (v:Int)=w:=hb
  exact kret (bpF fun h=>by have:=cMk_less.1 h;simp only at this;omega)⟩
theorem nameYes_i:Con1 Tryz.prog 167 ByteArray sv (fun _=>bv true) (fun s=>Lng s.size∧NameP s):=⟨fun s ⟨hs,hn⟩=>by
 have h:=isName_i.h s hs
 rwa [show bp (NameP s)=bv true from (bpT hn).symm] at h⟩
theorem nameP_lng {s:ByteArray} (h:NameP s):Lng s.size:=by
 have:=h.2.1
 unfold Lng;omega
theorem marksYes_i:Con1 Tryz.prog 199 Ms vM (fun _=>bv true) (fun l=>MOk l∧Lng l.length):=⟨fun l ⟨hl,hl1⟩=>by
 haveI:=nameYes_i
 have hlen:((l.map toM).map encM).length=l.length:=by simp
 refine pu Tryz.func199 rfl Tryz.ntmps199 rfl rfl fun C=>?_
 (repeat' first|(refine kk ?_;intros)|refine kfk ?_ ?_<;>intro hb|fail)
 refine kfor (ι:=Unit) l (fun j _=>[(0,vM l),(5,vM l)]) (fun j _=>[]) (fun j _=>True) () trivial ?_ ?_
 ·rintro j ⟨v,k⟩ _ hj hd hjl _
  have hrow:((l.map toM).map encM)[j]?=some (encM (toM (v,k))):=by simp [hj]
  have hm:=hl.ok _ (List.mem_of_getElem? hj)
  simp only at hm
  have hn:Lng k.size∧NameP k:=⟨nameP_lng hm.2,hm.2⟩
  by_cases h0:0 < j
  ·obtain ⟨⟨v',k'⟩,hc⟩:∃ c,l[j - 1]?=some c:=⟨l[j - 1],List.getElem?_eq_getElem (by omega)⟩
   have hrow2:((l.map toM).map encM)[j - 1]?=some (encM (toM (v',k'))):=by simp [hc]
   have hlt:=asc_get hl.asc hc hj (by omega)
   (repeat' first|(refine kk ?_;intros)|refine kfk ?_ ?_<;>intro hb|fail)
   all_goals first
    | exact ⟨(),trivial,kwk⟩
    | exact absurd hlt hb
    | (exfalso;revert hb;simp only [toM];omega)
  ·(repeat' first|(refine kk ?_;intros)|refine kfk ?_ ?_<;>intro hb|fail)
   all_goals first
    | exact ⟨(),trivial,kwk⟩
    | (exfalso;simp only at *;omega)
 ·intro _ _
  (repeat' first|(refine kk ?_;intros)|refine kfk ?_ ?_<;>intro hb|fail)
  exact kret rfl⟩
end
noncomputable section
inductive G where
 | tru
 | fail
 | eq (a b:T)
 | ne (a b:T)
 | sy (a:T)
 | nu (a:T)
 | ab (s:ByteArray) (a:T)
 | all (l:List G)
 | any (l:List G)
 | call (s:ByteArray) (l:List T)
 | non (s:ByteArray) (l:List T)
mutual
def G.gl:G→Gl
 | .tru=>.mk 0 noS [] []
 | .fail=>.mk 1 noS [] []
 | .eq a b=>.mk 2 noS [a.tm,b.tm] []
 | .ne a b=>.mk 3 noS [a.tm,b.tm] []
 | .sy a=>.mk 4 noS [a.tm] []
 | .nu a=>.mk 5 noS [a.tm] []
 | .ab s a=>.mk 6 noS [(T.sym s).tm,a.tm] []
 | .all l=>.mk 7 noS [] (glL l)
 | .any l=>.mk 8 noS [] (glL l)
 | .call s l=>.mk 9 s (l.map T.tm) []
 | .non s l=>.mk 10 noS [] [.mk 9 s (l.map T.tm) []]
def glL:List G→List Gl
 | []=>[]
 | g::l=>g.gl::glL l
end
theorem glL_eq:∀ l:List G,glL l=l.map G.gl
 | []=>rfl
 | g::l=>by rw [glL,glL_eq l];rfl
mutual
def Gl.nodes:Gl→Nat
 | .mk _ _ _ l=>1+nodesGl l
def nodesGl:List Gl→Nat
 | []=>0
 | g::l=>g.nodes+nodesGl l
end
theorem Gl.nodes_eq (g:Gl):g.nodes=1+nodesGl g.goals:=by cases g;rfl
theorem Gl.nodes_pos (g:Gl):1≤g.nodes:=by cases g;simp [Gl.nodes]
mutual
def G.nodes:G→Nat
 | .all l=>1+nodesG l
 | .any l=>1+nodesG l
 | .non _ _=>2
 | _=>1
def nodesG:List G→Nat
 | []=>0
 | g::l=>g.nodes+nodesG l
end
abbrev str (s:String):ByteArray:=s.toUTF8
def reserved : List ByteArray := [str "true", str "fail", str "symbol", str "number", str "absent", str "and", str "or", str "not", str "define"]
def RelP (s:ByteArray):Prop:=s∉reserved∧NameP s
mutual
/-- the form of a goal -/
def Gl.wf:Gl→Prop
 | .mk k s ts gs=>(∀ t∈ts,t.ok)∧(((k=0∨k=1)∧s=noS∧ts=[]∧gs=[])∨((k=2∨k=3)∧s=noS∧ts.length=2∧gs=[])∨((k=4∨k=5)∧s=noS∧ts.length=1∧gs=[])∨(k=6∧s=noS∧ts.length=2∧(∀ t,ts[0]?=some t→t.kind=2)∧gs=[])∨
  ((k=7∨k=8)∧s=noS∧ts=[]∧gs.length≤8∧wfGl gs)∨(k=9∧RelP s∧ts.length≤4∧gs=[])∨(k=10∧s=noS∧ts=[]∧gs.length=1∧(∀ g,gs[0]?=some g→g.kind=9)∧wfGl gs))
def wfGl:List Gl→Prop
 | []=>True
 | g::l=>g.wf∧wfGl l
end
theorem wfGl_all:∀ {l:List Gl},wfGl l↔∀ g∈l,g.wf
 | []=>by simp [wfGl]
 | g::l=>by simp [wfGl,wfGl_all (l:=l)]
theorem Gl.wf_iff {g:Gl}:g.wf↔(∀ t∈g.terms,t.ok)∧(((g.kind=0∨g.kind=1)∧g.name=noS∧g.terms=[]∧g.goals=[])∨((g.kind=2∨g.kind=3)∧g.name=noS∧g.terms.length=2∧g.goals=[])∨((g.kind=4∨g.kind=5)∧g.name=noS∧g.terms.length=1∧g.goals=[])∨(g.kind=6∧g.name=noS∧g.terms.length=2∧(∀ t,g.terms[0]?=some t→t.kind=2)∧g.goals=[])∨
 ((g.kind=7∨g.kind=8)∧g.name=noS∧g.terms=[]∧g.goals.length≤8∧wfGl g.goals)∨(g.kind=9∧RelP g.name∧g.terms.length≤4∧g.goals=[])∨(g.kind=10∧g.name=noS∧g.terms=[]∧g.goals.length=1∧(∀ x,g.goals[0]?=some x→x.kind=9)∧wfGl g.goals)):=by cases g;exact Iff.rfl
def Gl.ok (g:Gl):Prop:=g.wf∧g.nodes≤80
mutual
/-- valid goals -/
def G.Ok:G→Prop
 | .eq a b=>a.okT∧b.okT
 | .ne a b=>a.okT∧b.okT
 | .sy a=>a.okT
 | .nu a=>a.okT
 | .ab s a=>NameP s∧a.okT
 | .all l=>l.length≤8∧OkL l
 | .any l=>l.length≤8∧OkL l
 | .call s l=>RelP s∧l.length≤4∧∀ t∈l,t.okT
 | .non s l=>RelP s∧l.length≤4∧∀ t∈l,t.okT
 | _=>True
def OkL:List G→Prop
 | []=>True
 | g::l=>g.Ok∧OkL l
end
theorem OkL_all:∀ {l:List G},OkL l↔∀ g∈l,g.Ok
 | []=>by simp [OkL]
 | g::l=>by simp [OkL,OkL_all (l:=l)]
mutual
theorem gl_nodes:∀ g:G,g.gl.nodes=g.nodes
 | .tru=>rfl
 | .fail=>rfl
 | .eq _ _=>rfl
 | .ne _ _=>rfl
 | .sy _=>rfl
 | .nu _=>rfl
 | .ab _ _=>rfl
 | .all l=>by simp only [G.gl,Gl.nodes,G.nodes,glL_nodes l]
 | .any l=>by simp only [G.gl,Gl.nodes,G.nodes,glL_nodes l]
 | .call _ _=>rfl
 | .non _ _=>rfl
theorem glL_nodes:∀ l:List G,nodesGl (glL l)=nodesG l
 | []=>rfl
 | g::l=>by simp only [glL,nodesGl,nodesG,gl_nodes g,glL_nodes l]
end
mutual
theorem gl_wf:∀ {g:G},g.Ok→g.gl.wf
 | .tru,_=>by simp [G.gl,Gl.wf]
 | .fail,_=>by simp [G.gl,Gl.wf]
 | .eq a b, h => by have h : a.okT ∧ b.okT := by simpa [G.Ok] using h
                    simp [G.gl,Gl.wf,tm_ok,h]
 | .ne a b, h => by have h : a.okT ∧ b.okT := by simpa [G.Ok] using h
                    simp [G.gl,Gl.wf,tm_ok,h]
 | .sy a, h => by have h : a.okT := by simpa [G.Ok] using h
                  simp [G.gl,Gl.wf,tm_ok,h]
 | .nu a, h => by have h : a.okT := by simpa [G.Ok] using h
                  simp [G.gl,Gl.wf,tm_ok,h]
 | .ab s a,h=>by
  have h:NameP s∧a.okT:=by simpa [G.Ok] using h
  have h0:(T.sym s).okT:=⟨fit_sym.2 h.1,by simp [T.nodes]⟩
  have h1:=tm_ok.2 h0
  have h2:=tm_ok.2 h.2
  simp [G.gl,Gl.wf,h1,h2]
  rfl
 | .all l,h=>by
  have h:l.length≤8∧OkL l:=by simpa [G.Ok] using h
  have:=glL_wf h.2
  simp [G.gl,Gl.wf,this,glL_eq,h.1]
  rw [← glL_eq];exact this
 | .any l,h=>by
  have h:l.length≤8∧OkL l:=by simpa [G.Ok] using h
  have:=glL_wf h.2
  simp [G.gl,Gl.wf,this,glL_eq,h.1]
  rw [← glL_eq];exact this
 | .call s l,h=>by
  have h:RelP s∧l.length≤4∧∀ t∈l,t.okT:=by simpa [G.Ok] using h
  simp [G.gl,Gl.wf,h.1,h.2.1]
  exact fun t ht=>tm_ok.2 (h.2.2 t ht)
 | .non s l,h=>by
  have h:RelP s∧l.length≤4∧∀ t∈l,t.okT:=by simpa [G.Ok] using h
  simp [G.gl,Gl.wf,wfGl,h.1,h.2.1]
  exact fun t ht=>tm_ok.2 (h.2.2 t ht)
theorem glL_wf:∀ {l:List G},OkL l→wfGl (glL l)
 | [],_=>by simp [glL,wfGl]
 | g::l,h=>by
  have h:g.Ok∧OkL l:=by simpa [OkL] using h
  simp only [glL,wfGl]
  exact ⟨gl_wf h.1,glL_wf h.2⟩
end
theorem len1 {α:Type} {l:List α} (h:l.length=1):∃ a,l=[a]:=by
 match l,h with
 | [a],_=>exact ⟨a,rfl⟩
theorem len2 {α:Type} {l:List α} (h:l.length=2):∃ a b,l=[a,b]:=by
 match l,h with
 | [a,b],_=>exact ⟨a,b,rfl⟩
mutual
theorem wf_gl:∀ {g:Gl},g.wf→∃ u:G,g=u.gl∧u.Ok
 | .mk k s ts gs,h=>by
  unfold Gl.wf at h
  obtain ⟨h0,h⟩:=h
  obtain ⟨us,rfl,hu⟩:=all_ok h0
  rcases h with ⟨hk,rfl,ht,rfl⟩ | ⟨hk,rfl,ht,rfl⟩ | ⟨hk,rfl,ht,rfl⟩ | ⟨rfl,rfl,ht,h1,rfl⟩ | ⟨hk,rfl,ht,hl,hw⟩ | ⟨rfl,hr,ht,rfl⟩ | ⟨rfl,rfl,ht,hl,h1,hw⟩
  ·have ht:us=[]:=by simpa using ht
   subst ht
   rcases hk with rfl|rfl
   ·exact ⟨.tru,rfl,by simp [G.Ok]⟩
   ·exact ⟨.fail,rfl,by simp [G.Ok]⟩
  ·obtain ⟨a,b,rfl⟩:=len2 (by simpa using ht)
   have ha:=hu a (by simp)
   have hb:=hu b (by simp)
   rcases hk with rfl|rfl
   ·exact ⟨.eq a b,rfl,by simp [G.Ok,ha,hb]⟩
   ·exact ⟨.ne a b,rfl,by simp [G.Ok,ha,hb]⟩
  ·obtain ⟨a,rfl⟩:=len1 (by simpa using ht)
   have ha:=hu a (by simp)
   rcases hk with rfl|rfl
   ·exact ⟨.sy a,rfl,by simp [G.Ok,ha]⟩
   ·exact ⟨.nu a,rfl,by simp [G.Ok,ha]⟩
  ·obtain ⟨a,b,rfl⟩:=len2 (by simpa using ht)
   have ha:=hu a (by simp)
   have hb:=hu b (by simp)
   have hk:=h1 a.tm rfl
   cases a with
   | sym s=>exact ⟨.ab s b,rfl,by simp [G.Ok,hb];exact fit_sym.1 ha.fit⟩
   | _=>simp [T.tm] at hk
  ·have ht:us=[]:=by simpa using ht
   subst ht
   obtain ⟨l,rfl,hl'⟩:=wf_glL hw
   have hn:l.length≤8:=by rw [glL_eq,List.length_map] at hl;exact hl
   rcases hk with rfl|rfl
   ·exact ⟨.all l,rfl,by simp [G.Ok,hn,hl']⟩
   ·exact ⟨.any l,rfl,by simp [G.Ok,hn,hl']⟩
  ·exact ⟨.call s us,rfl,by simp only [G.Ok];exact ⟨hr,by simpa using ht,hu⟩⟩
  ·have ht:us=[]:=by simpa using ht
   subst ht
   obtain ⟨g,rfl⟩:=len1 hl
   have hk:=h1 g rfl
   have hg:g.wf:=by simpa [wfGl] using hw
   obtain ⟨u,rfl,hu'⟩:=wf_gl hg
   cases u with
   | call s l=>exact ⟨.non s l,rfl,by simpa [G.Ok] using hu'⟩
   | _=>simp [G.gl] at hk
theorem wf_glL:∀ {l:List Gl},wfGl l→∃ m:List G,l=glL m∧OkL m
 | [],_=>⟨[],rfl,by simp [OkL]⟩
 | g::l,h=>by
  have h:g.wf∧wfGl l:=by simpa [wfGl] using h
  obtain ⟨u,rfl,hu⟩:=wf_gl h.1
  obtain ⟨m,rfl,hm⟩:=wf_glL h.2
  exact ⟨u::m,rfl,by simp [OkL,hu,hm]⟩
end
structure G.okG (g:G):Prop where
 ok:g.Ok
 size:g.nodes≤80
theorem okG_iff {g:Gl}:g.ok↔∃ u:G,g=u.gl∧u.okG:=by
 constructor
 ·rintro ⟨h1,h2⟩
  obtain ⟨u,rfl,h3⟩:=wf_gl h1
  exact ⟨u,rfl,h3,by rw [← gl_nodes];exact h2⟩
 ·rintro ⟨u,rfl,h⟩
  exact ⟨gl_wf h.ok,by rw [gl_nodes];exact h.size⟩
end
noncomputable section
abbrev resL:List ByteArray:=[⟨#[116,114,117,101]⟩,⟨#[102,97,105,108]⟩,⟨#[115,121,109,98,111,108]⟩,⟨#[110,117,109,98,101,114]⟩,⟨#[97,98,115,101,110,116]⟩,⟨#[97,110,100]⟩,⟨#[111,114]⟩,⟨#[110,111,116]⟩,⟨#[100,101,102,105,110,101]⟩]
theorem res_eq:reserved=resL:=by
 unfold reserved resL str
 rfl
theorem relP_iff {s:ByteArray}:RelP s↔(∀ x∈resL,s≠x)∧NameP s:=by
 unfold RelP
 rw [res_eq]
 exact and_congr_left fun _=>⟨fun h x hx e=>h (e▸hx),fun h hs=>h s hs rfl⟩
theorem take_succ_allP {α:Type} {l:List α} {j:Nat} {x:α} {p:α→Prop} (hj:l[j]?=some x) (h:∀ y∈l.take j,p y) (hx:p x):∀ y∈l.take (j+1),p y:=by
 rw [List.take_add_one,hj]
 intro y hy
 rcases List.mem_append.1 hy with hy|hy
 ·exact h y hy
 ·simp at hy;subst hy;exact hx
abbrev encW (s:ByteArray):List D:=[.v (.string s)]
instance relName_i:Con1 Tryz.prog 121 ByteArray sv (fun s=>bp (RelP s)) (fun s=>Lng s.size):=⟨fun s hs=>by
 refine pu Tryz.func121 rfl Tryz.ntmps121 rfl rfl fun C=>?_
 (repeat' first|(refine kk ?_;intros)|refine kfk ?_ ?_<;>intro hb|fail)
 all_goals first
  | contradiction
  | exact kret (bpF fun h=>(relP_iff.1 h).1 s (by subst_vars;simp [resL]) rfl)
  | exact kret (show bp (NameP s)=bp (RelP s) from congrArg bp (propext ⟨fun h=>relP_iff.2 ⟨by simp only [resL,List.forall_mem_cons];exact ⟨by assumption,by assumption,by assumption,by assumption,by assumption,by assumption,by assumption,by assumption,by assumption,by simp⟩,h⟩,fun h=>h.2⟩))⟩
instance relName_s:Con1 Tryz.prog 115 ByteArray sv (fun s=>bp (RelP s)) (fun s=>Lng s.size):=⟨fun s hs=>by
 refine pu Tryz.func115 rfl Tryz.ntmps115 rfl rfl fun C=>?_
 (repeat' first|(refine kk ?_;intros)|fail)
 refine kfor (ι:=Unit) resL (fun j _=>[(0,sv s),(5,.one (.s 1 (resL.map encW)))]) (fun j _=>[]) (fun j _=>∀ x∈resL.take j,s≠x) () (by simp) ?_ ?_
 ·rintro j x _ hj hd hjl hp
  have hrow:(resL.map encW)[j]?=some (encW x):=by rw [List.getElem?_map,hj];rfl
  (repeat' first|(refine kk ?_;intros)|refine kfk ?_ ?_<;>intro hb|fail)
  ·exact kret (bpF fun h=>(relP_iff.1 h).1 x (List.mem_of_getElem? hj) hb.symm)
  ·exact ⟨(),take_succ_allP hj hp fun e=>hb e.symm,kwk⟩
 ·intro _ hp
  rw [List.take_length] at hp
  (repeat' first|(refine kk ?_;intros)|refine kfk ?_ ?_<;>intro hb|fail)
  exact kret (show bp (NameP s)=bp (RelP s) from congrArg bp (propext ⟨fun h=>relP_iff.2 ⟨hp,h⟩,fun h=>(relP_iff.1 h).2⟩))⟩
end
noncomputable section
open Classical
abbrev ArcP:=Nat × Nat × Bool
def fnd (a b:List ArcP) (i k:Nat):Prop:=∃ x∈a,∃ y∈b,x.1=i∧x.2.1=y.1∧y.2.1=k
end
end Go.Proofs.YtejkllmoofdpjaaGreat
