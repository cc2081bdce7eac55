/- Parts of the proof: V82. -/
import Derived.Test.YtbabchapkhlenaaGreatC44
namespace Go.Proofs.YtbabchapkhlenaaGreat
open Go
set_option linter.all false
set_option maxRecDepth 100000
set_option maxHeartbeats 4000000
noncomputable section
open Classical
abbrev zGr:List D:=[.v (.string noS),.v (.string noS),.v (.slice none 0 0)]
theorem colsA_len {a b:List ArcP} {i:Nat}:∀ n:Nat,(colsA a b i n).length≤n
 | 0=>by simp [colsA]
 | n+1=>by
  unfold colsA
  have:=colsA_len (a:=a) (b:=b) (i:=i) n
  rw [List.length_append]
  unfold rowA
  split<;>simp<;>omega
theorem rowsA_len {a b:List ArcP}:∀ n:Nat,(rowsA a b n).length≤4 * n
 | 0=>by simp [rowsA]
 | n+1=>by
  unfold rowsA
  have:=rowsA_len (a:=a) (b:=b) n
  have:=colsA_len (a:=a) (b:=b) (i:=n) 4
  rw [List.length_append]
  omega
theorem composeN_c (a b:Gr) (ha:GrOk a) (hb:GrOk b) (hm:¬ a.callee=b.caller):Spec Tryz.prog 44 [vGr a,vGr b] [] fun v A'=>v=.tup [.agg zGr,bv false]∧A'=[]:=by
 have hla:=ha.arcs.len
 have hlb:=hb.arcs.len
 have hl1:(a.arcs.map encA).length=a.arcs.length:=by simp
 have hl2:(b.arcs.map encA).length=b.arcs.length:=by simp
 haveI:=graphYes_i
 refine sp Tryz.func44 rfl Tryz.ntmps44 rfl rfl fun C=>?_
 (repeat' first|(refine kk ?_;intros)|refine kfk ?_ ?_<;>intro hb|fail)
 all_goals first
  | exact kerC2 ⟨rfl,rfl⟩ (.refl _) (.refl _)
  | exact absurd (by assumption) hm
theorem composeY_c (a b:Gr) (ha:GrOk a) (hb:GrOk b) (hm:a.callee=b.caller):Spec Tryz.prog 44 [vGr a,vGr b] [] fun v A'=>∃ u,v=.tup [.agg (rowO (u,compG a b)),bv true]∧A'=[atmO (u,compG a b)]:=by
 have hla:=ha.arcs.len
 have hlb:=hb.arcs.len
 have hl1:(a.arcs.map encA).length=a.arcs.length:=by simp
 have hl2:(b.arcs.map encA).length=b.arcs.length:=by simp
 haveI:=graphYes_i
 refine sp Tryz.func44 rfl Tryz.ntmps44 rfl rfl fun C=>?_
 (repeat' first|(refine kkS [] [31] ?_;intros)|refine kfS [] [31] ?_ ?_<;>intro hb|fail)
 all_goals try exact absurd hm (by assumption)
 (repeat' first|(refine kk ?_;intros)|refine kfk ?_ ?_<;>intro hb|fail)
 rename_i b2 b3 b4 bg
 refine knA 66 3 ?_
 refine kloop (ι:=Nat × Value) (fun v=>4 - v.1) (fun v=>[(2,.one (.v (.pointer (some ⟨b2,0,none⟩)))),(3,.one (.v (.pointer (some ⟨b3,0,none⟩)))),(4,.one (.v (.pointer (some ⟨b4,0,none⟩)))),(6,.one (.v (.pointer (some ⟨bg,0,none⟩)))),(7,nv v.1)]) (fun v=>[arow 66 3 v.2 ((rowsA a.arcs b.arcs v.1).map encA),abox bg [.v (.string a.caller),.v (.string b.callee),.v v.2] 59,abox b4 zGr 59,abox b3 (encGr b) 59,abox b2 (encGr a) 59]) (fun v=>v.1≤4) (0,.slice none 0 0) (Nat.zero_le _) ?_
 rintro ⟨i,u⟩ hi
 simp only at hi
 dsimp only
 by_cases hi4:i < 4
 ·have hrl:=rowsA_len (a:=a.arcs) (b:=b.arcs) i
  (repeat' first|(refine kk ?_;intros)|refine kfk ?_ ?_<;>intro hb|fail)
  refine kloop (ι:=Nat × Value) (fun v=>4 - v.1) (fun v=>[(2,.one (.v (.pointer (some ⟨b2,0,none⟩)))),(3,.one (.v (.pointer (some ⟨b3,0,none⟩)))),(4,.one (.v (.pointer (some ⟨b4,0,none⟩)))),(6,.one (.v (.pointer (some ⟨bg,0,none⟩)))),(7,nv i),(8,nv v.1)]) (fun v=>[arow 66 3 v.2 ((rowsA a.arcs b.arcs i++colsA a.arcs b.arcs i v.1).map encA),abox bg [.v (.string a.caller),.v (.string b.callee),.v v.2] 59,abox b4 zGr 59,abox b3 (encGr b) 59,abox b2 (encGr a) 59]) (fun v=>v.1≤4) (0,u) (Nat.zero_le _) ?_ (kwk (hs:=by simp only [colsA,List.append_nil];(exact wS)))
  rintro ⟨k,u⟩ hk
  simp only at hk
  dsimp only
  by_cases hk4:k < 4
  ·have hcl:=colsA_len (a:=a.arcs) (b:=b.arcs) (i:=i) k
   (repeat' first|(refine kk ?_;intros)|refine kfk ?_ ?_<;>intro hb|fail)
   refine kfor (ι:=Bool × Bool) a.arcs (fun p z=>[(2,.one (.v (.pointer (some ⟨b2,0,none⟩)))),(3,.one (.v (.pointer (some ⟨b3,0,none⟩)))),(4,.one (.v (.pointer (some ⟨b4,0,none⟩)))),(6,.one (.v (.pointer (some ⟨bg,0,none⟩)))),(7,nv i),(8,nv k),(9,bv z.1),(10,bv z.2),(45,.one (.s 3 (a.arcs.map encA)))]) (fun p z=>[arow 66 3 u ((rowsA a.arcs b.arcs i++colsA a.arcs b.arcs i k).map encA),abox bg [.v (.string a.caller),.v (.string b.callee),.v u] 59,abox b4 zGr 59,abox b3 (encGr b) 59,abox b2 (encGr a) 59]) (fun p z=>(z.1=true↔fnd (a.arcs.take p) b.arcs i k)∧(z.2=true↔strt (a.arcs.take p) b.arcs i k)) (false,false) ⟨by simp [fnd],by simp [strt]⟩ ?_ ?_
   ·rintro p x ⟨f1,s1⟩ hp hpd hpl ⟨q1,q2⟩
    have hrow:(a.arcs.map encA)[p]?=some (encA x):=by simp [hp]
    have hpt:a.arcs.take (p+1)=a.arcs.take p++[x]:=by rw [List.take_add_one,hp];rfl
    (repeat' first|(refine kk ?_;intros)|refine kfk ?_ ?_<;>intro hb|fail)
    rename_i bx
    refine kfor (ι:=Bool × Bool) b.arcs (fun n z=>[(2,.one (.v (.pointer (some ⟨b2,0,none⟩)))),(3,.one (.v (.pointer (some ⟨b3,0,none⟩)))),(4,.one (.v (.pointer (some ⟨b4,0,none⟩)))),(6,.one (.v (.pointer (some ⟨bg,0,none⟩)))),(7,nv i),(8,nv k),(9,bv z.1),(10,bv z.2),(45,.one (.s 3 (a.arcs.map encA))),(47,iv p),(46,iv a.arcs.length),(12,.one (.v (.pointer (some ⟨bx,0,none⟩)))),(52,.one (.s 3 (b.arcs.map encA)))]) (fun n z=>[abox bx (encA x) 66,arow 66 3 u ((rowsA a.arcs b.arcs i++colsA a.arcs b.arcs i k).map encA),abox bg [.v (.string a.caller),.v (.string b.callee),.v u] 59,abox b4 zGr 59,abox b3 (encGr b) 59,abox b2 (encGr a) 59]) (fun n z=>(z.1=true↔fnd (a.arcs.take p) b.arcs i k∨∃ y∈b.arcs.take n,x.1=i∧x.2.1=y.1∧y.2.1=k)∧(z.2=true↔strt (a.arcs.take p) b.arcs i k∨∃ y∈b.arcs.take n,x.1=i∧x.2.1=y.1∧y.2.1=k∧(x.2.2=true∨y.2.2=true))) (f1,s1) ⟨by simpa using q1,by simpa using q2⟩ ?_ ?_
    ·rintro n y ⟨f2,s2⟩ hn hnd hnl ⟨q3,q4⟩
     have hrow2:(b.arcs.map encA)[n]?=some (encA y):=by simp [hn]
     have hnt:b.arcs.take (n+1)=b.arcs.take n++[y]:=by rw [List.take_add_one,hn];rfl
     by_cases hC:x.1=i∧x.2.1=y.1∧y.2.1=k
     ·obtain ⟨c1,c2,c3⟩:=hC
      have r3:(true=true↔fnd (a.arcs.take p) b.arcs i k∨∃ y∈b.arcs.take (n+1),x.1=i∧x.2.1=y.1∧y.2.1=k):=⟨fun _=>.inr ⟨y,by rw [hnt];simp,c1,c2,c3⟩,fun _=>rfl⟩
      have r4:(s2 || x.2.2 || y.2.2)=true↔strt (a.arcs.take p) b.arcs i k∨∃ y∈b.arcs.take (n+1),x.1=i∧x.2.1=y.1∧y.2.1=k∧(x.2.2=true∨y.2.2=true):=by
       rw [hnt]
       simp only [Bool.or_eq_true]
       constructor
       ·rintro ((h|h)|h)
        ·rcases q4.1 h with h | ⟨z,hz,h⟩
         ·exact .inl h
         ·exact .inr ⟨z,by simp [hz],h⟩
        ·exact .inr ⟨y,by simp,c1,c2,c3,.inl h⟩
        ·exact .inr ⟨y,by simp,c1,c2,c3,.inr h⟩
       ·rintro (h | ⟨z,hz,h⟩)
        ·exact .inl (.inl (q4.2 (.inl h)))
        ·rcases List.mem_append.1 hz with hz|hz
         ·exact .inl (.inl (q4.2 (.inr ⟨z,hz,h⟩)))
         ·obtain rfl:=List.mem_singleton.1 hz
          rcases h.2.2.2 with h|h
          ·exact .inl (.inr h)
          ·exact .inr h
      clear q3 q4 q1 q2
      obtain ⟨xf,xt,xs⟩:=x
      obtain ⟨yf,yt,ys⟩:=y
      simp only at c1 c2 c3 r4
      subst c1 c2 c3
      cases s2<;>cases xs<;>cases ys<;>(
       (repeat' first|(refine kk ?_;intros)|refine kfk ?_ ?_<;>intro hb|fail)
       all_goals first
        | exact absurd rfl hb
        | exact ⟨(true,_),⟨r3,r4⟩,kwk⟩)
     ·have r3:f2=true↔fnd (a.arcs.take p) b.arcs i k∨∃ y∈b.arcs.take (n+1),x.1=i∧x.2.1=y.1∧y.2.1=k:=by
       rw [q3,hnt]
       refine or_congr Iff.rfl ⟨fun ⟨z,hz,h⟩=>⟨z,by simp [hz],h⟩,fun ⟨z,hz,h⟩=>?_⟩
       rcases List.mem_append.1 hz with hz|hz
       ·exact ⟨z,hz,h⟩
       ·obtain rfl:=List.mem_singleton.1 hz;exact absurd h hC
      have r4:s2=true↔strt (a.arcs.take p) b.arcs i k∨∃ y∈b.arcs.take (n+1),x.1=i∧x.2.1=y.1∧y.2.1=k∧(x.2.2=true∨y.2.2=true):=by
       rw [q4,hnt]
       refine or_congr Iff.rfl ⟨fun ⟨z,hz,h⟩=>⟨z,by simp [hz],h⟩,fun ⟨z,hz,h⟩=>?_⟩
       rcases List.mem_append.1 hz with hz|hz
       ·exact ⟨z,hz,h⟩
       ·obtain rfl:=List.mem_singleton.1 hz;exact absurd ⟨h.1,h.2.1,h.2.2.1⟩ hC
      (repeat' first|(refine kk ?_;intros)|refine kfk ?_ ?_<;>intro hb|fail)
      all_goals first
       | exact ⟨(f2,s2),⟨r3,r4⟩,kwk⟩
       | (exfalso;omega)
    ·rintro ⟨f2,s2⟩ ⟨q3,q4⟩
     rw [List.take_length] at q3 q4
     (repeat' first|(refine kk ?_;intros)|refine kfk ?_ ?_<;>intro hb|fail)
     refine ⟨(f2,s2),⟨q3.trans ?_,q4.trans ?_⟩,kwk⟩
     ·rw [hpt]
      unfold fnd
      constructor
      ·rintro (⟨z,hz,h⟩|h)
       ·exact ⟨z,by simp [hz],h⟩
       ·exact ⟨x,by simp,h⟩
      ·rintro ⟨z,hz,h⟩
       rcases List.mem_append.1 hz with hz|hz
       ·exact .inl ⟨z,hz,h⟩
       ·obtain rfl:=List.mem_singleton.1 hz;exact .inr h
     ·rw [hpt]
      unfold strt
      constructor
      ·rintro (⟨z,hz,h⟩|h)
       ·exact ⟨z,by simp [hz],h⟩
       ·exact ⟨x,by simp,h⟩
      ·rintro ⟨z,hz,h⟩
       rcases List.mem_append.1 hz with hz|hz
       ·exact .inl ⟨z,hz,h⟩
       ·obtain rfl:=List.mem_singleton.1 hz;exact .inr h
   ·rintro ⟨f1,s1⟩ ⟨q1,q2⟩
    rw [List.take_length] at q1 q2
    simp only at q1 q2
    have hs1:s1=decide (strt a.arcs b.arcs i k):=by rw [Bool.eq_iff_iff];simpa using q2
    cases f1 with
    | true=>
     have hra:rowA a.arcs b.arcs i k=[(i,k,s1)]:=by unfold rowA;rw [if_pos (q1.1 rfl),hs1]
     (repeat' first|(refine kk ?_;intros)|refine kfk ?_ ?_<;>intro hb|fail)
     rename_i u2
     refine ⟨(k+1,u2),by simp only;omega,by simp only;omega,?_⟩
     exact kwk (hs:=by
      simp only [colsA,hra,← List.append_assoc]
      simp only [List.map_append,List.map_cons,List.map_nil]
      (exact wS))
    | false=>
     have hra:rowA a.arcs b.arcs i k=[]:=by unfold rowA;rw [if_neg fun h=>by have:=q1.2 h;cases this]
     (repeat' first|(refine kk ?_;intros)|refine kfk ?_ ?_<;>intro hb|fail)
     refine ⟨(k+1,u),by simp only;omega,by simp only;omega,?_⟩
     exact kwk (hs:=by
      simp only [colsA,hra,List.append_nil]
      (exact wS))
  ·obtain rfl:k=4:=by omega
   (repeat' first|(refine kk ?_;intros)|refine kfk ?_ ?_<;>intro hb|fail)
   exact ⟨(i+1,u),by simp only;omega,by simp only;omega,kwk⟩
 ·obtain rfl:i=4:=by omega
  (repeat' first|(refine kk ?_;intros)|refine kfk ?_ ?_<;>intro hb|fail)
  exact kerC2 (A'':=[atmO (u,compG a b)]) (v1:=.agg (rowO (u,compG a b))) (v2:=bv true) ⟨u,rfl,rfl⟩ (.refl _) (.refl _)
instance compose_s:Con2 Tryz.prog 43 Gr Gr vGr vGr (fun a b=>vGr (compG a b)) (fun a b=>a.arcs.length≤16∧b.arcs.length≤16):=⟨fun a b ⟨hla,hlb⟩=>by
 have hl1:(a.arcs.map encA).length=a.arcs.length:=by simp
 have hl2:(b.arcs.map encA).length=b.arcs.length:=by simp
 refine pu Tryz.func43 rfl Tryz.ntmps43 rfl rfl fun C=>?_
 (repeat' first|(refine kk ?_;intros)|refine kfk ?_ ?_<;>intro hb|fail)
 rename_i b2 b3 b4 bg
 refine knA 66 3 ?_
 refine kloop (ι:=Nat × Value) (fun v=>4 - v.1) (fun v=>[(2,.one (.v (.pointer (some ⟨b2,0,none⟩)))),(3,.one (.v (.pointer (some ⟨b3,0,none⟩)))),(4,.one (.v (.pointer (some ⟨b4,0,none⟩)))),(5,.one (.v (.pointer (some ⟨bg,0,none⟩)))),(6,nv v.1)]) (fun v=>[arow 66 3 v.2 ((rowsA a.arcs b.arcs v.1).map encA),abox bg [.v (.string a.caller),.v (.string b.callee),.v v.2] 59,abox b4 zGr 59,abox b3 (encGr b) 59,abox b2 (encGr a) 59]) (fun v=>v.1≤4) (0,.slice none 0 0) (Nat.zero_le _) ?_
 rintro ⟨i,u⟩ hi
 simp only at hi
 dsimp only
 by_cases hi4:i < 4
 ·have hrl:=rowsA_len (a:=a.arcs) (b:=b.arcs) i
  (repeat' first|(refine kk ?_;intros)|refine kfk ?_ ?_<;>intro hb|fail)
  refine kloop (ι:=Nat × Value) (fun v=>4 - v.1) (fun v=>[(2,.one (.v (.pointer (some ⟨b2,0,none⟩)))),(3,.one (.v (.pointer (some ⟨b3,0,none⟩)))),(4,.one (.v (.pointer (some ⟨b4,0,none⟩)))),(5,.one (.v (.pointer (some ⟨bg,0,none⟩)))),(6,nv i),(7,nv v.1)]) (fun v=>[arow 66 3 v.2 ((rowsA a.arcs b.arcs i++colsA a.arcs b.arcs i v.1).map encA),abox bg [.v (.string a.caller),.v (.string b.callee),.v v.2] 59,abox b4 zGr 59,abox b3 (encGr b) 59,abox b2 (encGr a) 59]) (fun v=>v.1≤4) (0,u) (Nat.zero_le _) ?_ (kwk (hs:=by simp only [colsA,List.append_nil];(exact wS)))
  rintro ⟨k,u⟩ hk
  simp only at hk
  dsimp only
  by_cases hk4:k < 4
  ·have hcl:=colsA_len (a:=a.arcs) (b:=b.arcs) (i:=i) k
   (repeat' first|(refine kk ?_;intros)|refine kfk ?_ ?_<;>intro hb|fail)
   refine kfor (ι:=Bool × Bool) a.arcs (fun p z=>[(2,.one (.v (.pointer (some ⟨b2,0,none⟩)))),(3,.one (.v (.pointer (some ⟨b3,0,none⟩)))),(4,.one (.v (.pointer (some ⟨b4,0,none⟩)))),(5,.one (.v (.pointer (some ⟨bg,0,none⟩)))),(6,nv i),(7,nv k),(8,bv z.1),(9,bv z.2),(28,.one (.s 3 (a.arcs.map encA)))]) (fun p z=>[arow 66 3 u ((rowsA a.arcs b.arcs i++colsA a.arcs b.arcs i k).map encA),abox bg [.v (.string a.caller),.v (.string b.callee),.v u] 59,abox b4 zGr 59,abox b3 (encGr b) 59,abox b2 (encGr a) 59]) (fun p z=>(z.1=true↔fnd (a.arcs.take p) b.arcs i k)∧(z.2=true↔strt (a.arcs.take p) b.arcs i k)) (false,false) ⟨by simp [fnd],by simp [strt]⟩ ?_ ?_
   ·rintro p x ⟨f1,s1⟩ hp hpd hpl ⟨q1,q2⟩
    have hrow:(a.arcs.map encA)[p]?=some (encA x):=by simp [hp]
    have hpt:a.arcs.take (p+1)=a.arcs.take p++[x]:=by rw [List.take_add_one,hp];rfl
    (repeat' first|(refine kk ?_;intros)|refine kfk ?_ ?_<;>intro hb|fail)
    rename_i bx
    refine kfor (ι:=Bool × Bool) b.arcs (fun n z=>[(2,.one (.v (.pointer (some ⟨b2,0,none⟩)))),(3,.one (.v (.pointer (some ⟨b3,0,none⟩)))),(4,.one (.v (.pointer (some ⟨b4,0,none⟩)))),(5,.one (.v (.pointer (some ⟨bg,0,none⟩)))),(6,nv i),(7,nv k),(8,bv z.1),(9,bv z.2),(28,.one (.s 3 (a.arcs.map encA))),(30,iv p),(29,iv a.arcs.length),(11,.one (.v (.pointer (some ⟨bx,0,none⟩)))),(35,.one (.s 3 (b.arcs.map encA)))]) (fun n z=>[abox bx (encA x) 66,arow 66 3 u ((rowsA a.arcs b.arcs i++colsA a.arcs b.arcs i k).map encA),abox bg [.v (.string a.caller),.v (.string b.callee),.v u] 59,abox b4 zGr 59,abox b3 (encGr b) 59,abox b2 (encGr a) 59]) (fun n z=>(z.1=true↔fnd (a.arcs.take p) b.arcs i k∨∃ y∈b.arcs.take n,x.1=i∧x.2.1=y.1∧y.2.1=k)∧(z.2=true↔strt (a.arcs.take p) b.arcs i k∨∃ y∈b.arcs.take n,x.1=i∧x.2.1=y.1∧y.2.1=k∧(x.2.2=true∨y.2.2=true))) (f1,s1) ⟨by simpa using q1,by simpa using q2⟩ ?_ ?_
    ·rintro n y ⟨f2,s2⟩ hn hnd hnl ⟨q3,q4⟩
     have hrow2:(b.arcs.map encA)[n]?=some (encA y):=by simp [hn]
     have hnt:b.arcs.take (n+1)=b.arcs.take n++[y]:=by rw [List.take_add_one,hn];rfl
     by_cases hC:x.1=i∧x.2.1=y.1∧y.2.1=k
     ·obtain ⟨c1,c2,c3⟩:=hC
      have r3:(true=true↔fnd (a.arcs.take p) b.arcs i k∨∃ y∈b.arcs.take (n+1),x.1=i∧x.2.1=y.1∧y.2.1=k):=⟨fun _=>.inr ⟨y,by rw [hnt];simp,c1,c2,c3⟩,fun _=>rfl⟩
      have r4:(s2 || x.2.2 || y.2.2)=true↔strt (a.arcs.take p) b.arcs i k∨∃ y∈b.arcs.take (n+1),x.1=i∧x.2.1=y.1∧y.2.1=k∧(x.2.2=true∨y.2.2=true):=by
       rw [hnt]
       simp only [Bool.or_eq_true]
       constructor
       ·rintro ((h|h)|h)
        ·rcases q4.1 h with h | ⟨z,hz,h⟩
         ·exact .inl h
         ·exact .inr ⟨z,by simp [hz],h⟩
        ·exact .inr ⟨y,by simp,c1,c2,c3,.inl h⟩
        ·exact .inr ⟨y,by simp,c1,c2,c3,.inr h⟩
       ·rintro (h | ⟨z,hz,h⟩)
        ·exact .inl (.inl (q4.2 (.inl h)))
        ·rcases List.mem_append.1 hz with hz|hz
         ·exact .inl (.inl (q4.2 (.inr ⟨z,hz,h⟩)))
         ·obtain rfl:=List.mem_singleton.1 hz
          rcases h.2.2.2 with h|h
          ·exact .inl (.inr h)
          ·exact .inr h
      clear q3 q4 q1 q2
      obtain ⟨xf,xt,xs⟩:=x
      obtain ⟨yf,yt,ys⟩:=y
      simp only at c1 c2 c3 r4
      subst c1 c2 c3
      cases s2<;>cases xs<;>cases ys<;>(
       (repeat' first|(refine kk ?_;intros)|refine kfk ?_ ?_<;>intro hb|fail)
       all_goals first
        | exact absurd rfl hb
        | exact ⟨(true,_),⟨r3,r4⟩,kwk⟩)
     ·have r3:f2=true↔fnd (a.arcs.take p) b.arcs i k∨∃ y∈b.arcs.take (n+1),x.1=i∧x.2.1=y.1∧y.2.1=k:=by
       rw [q3,hnt]
       refine or_congr Iff.rfl ⟨fun ⟨z,hz,h⟩=>⟨z,by simp [hz],h⟩,fun ⟨z,hz,h⟩=>?_⟩
       rcases List.mem_append.1 hz with hz|hz
       ·exact ⟨z,hz,h⟩
       ·obtain rfl:=List.mem_singleton.1 hz;exact absurd h hC
      have r4:s2=true↔strt (a.arcs.take p) b.arcs i k∨∃ y∈b.arcs.take (n+1),x.1=i∧x.2.1=y.1∧y.2.1=k∧(x.2.2=true∨y.2.2=true):=by
       rw [q4,hnt]
       refine or_congr Iff.rfl ⟨fun ⟨z,hz,h⟩=>⟨z,by simp [hz],h⟩,fun ⟨z,hz,h⟩=>?_⟩
       rcases List.mem_append.1 hz with hz|hz
       ·exact ⟨z,hz,h⟩
       ·obtain rfl:=List.mem_singleton.1 hz;exact absurd ⟨h.1,h.2.1,h.2.2.1⟩ hC
      (repeat' first|(refine kk ?_;intros)|refine kfk ?_ ?_<;>intro hb|fail)
      all_goals first
       | exact ⟨(f2,s2),⟨r3,r4⟩,kwk⟩
       | (exfalso;omega)
    ·rintro ⟨f2,s2⟩ ⟨q3,q4⟩
     rw [List.take_length] at q3 q4
     (repeat' first|(refine kk ?_;intros)|refine kfk ?_ ?_<;>intro hb|fail)
     refine ⟨(f2,s2),⟨q3.trans ?_,q4.trans ?_⟩,kwk⟩
     ·rw [hpt]
      unfold fnd
      constructor
      ·rintro (⟨z,hz,h⟩|h)
       ·exact ⟨z,by simp [hz],h⟩
       ·exact ⟨x,by simp,h⟩
      ·rintro ⟨z,hz,h⟩
       rcases List.mem_append.1 hz with hz|hz
       ·exact .inl ⟨z,hz,h⟩
       ·obtain rfl:=List.mem_singleton.1 hz;exact .inr h
     ·rw [hpt]
      unfold strt
      constructor
      ·rintro (⟨z,hz,h⟩|h)
       ·exact ⟨z,by simp [hz],h⟩
       ·exact ⟨x,by simp,h⟩
      ·rintro ⟨z,hz,h⟩
       rcases List.mem_append.1 hz with hz|hz
       ·exact .inl ⟨z,hz,h⟩
       ·obtain rfl:=List.mem_singleton.1 hz;exact .inr h
   ·rintro ⟨f1,s1⟩ ⟨q1,q2⟩
    rw [List.take_length] at q1 q2
    simp only at q1 q2
    have hs1:s1=decide (strt a.arcs b.arcs i k):=by rw [Bool.eq_iff_iff];simpa using q2
    cases f1 with
    | true=>
     have hra:rowA a.arcs b.arcs i k=[(i,k,s1)]:=by unfold rowA;rw [if_pos (q1.1 rfl),hs1]
     (repeat' first|(refine kk ?_;intros)|refine kfk ?_ ?_<;>intro hb|fail)
     rename_i u2
     refine ⟨(k+1,u2),by simp only;omega,by simp only;omega,?_⟩
     exact kwk (hs:=by
      simp only [colsA,hra,← List.append_assoc]
      simp only [List.map_append,List.map_cons,List.map_nil]
      (exact wS))
    | false=>
     have hra:rowA a.arcs b.arcs i k=[]:=by unfold rowA;rw [if_neg fun h=>by have:=q1.2 h;cases this]
     (repeat' first|(refine kk ?_;intros)|refine kfk ?_ ?_<;>intro hb|fail)
     refine ⟨(k+1,u),by simp only;omega,by simp only;omega,?_⟩
     exact kwk (hs:=by
      simp only [colsA,hra,List.append_nil]
      (exact wS))
  ·obtain rfl:k=4:=by omega
   (repeat' first|(refine kk ?_;intros)|refine kfk ?_ ?_<;>intro hb|fail)
   exact ⟨(i+1,u),by simp only;omega,by simp only;omega,kwk⟩
 ·obtain rfl:i=4:=by omega
  (repeat' first|(refine kk ?_;intros)|refine kfk ?_ ?_<;>intro hb|fail)
  refine kr1 (rvw ?_)
  exact VwC.cons (VwD.refl _) (VwC.cons (VwD.refl _) (VwC.cons (VwD.row (List.Mem.head _) rfl) VwC.nil))⟩
end
end Go.Proofs.YtbabchapkhlenaaGreat
