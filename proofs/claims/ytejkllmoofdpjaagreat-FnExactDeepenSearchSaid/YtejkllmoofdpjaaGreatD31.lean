/- Parts of the proof: VW1 VW2 VW3. -/
import Derived.Test.YtejkllmoofdpjaaGreatD30
namespace Go.Proofs.YtejkllmoofdpjaaGreat
open Go
set_option linter.all false
set_option maxRecDepth 100000
set_option maxHeartbeats 4000000
noncomputable section
open Classical
theorem szTs_c (N:Nat) (ih:Con2 Tryz.prog 126 Tm Int tv iv (fun t left=>iv (leftV t.sz left)) (fun t left=>SizeOf.sizeOf t < N∧t.In0∧0≤left∧left≤1048576)) (l:List Tm) (left:Int) (hN:∀ t∈l,SizeOf.sizeOf t < N) (hlen:Len l.length) (hin:∀ t∈l,t.In0) (h0:0≤left) (h1:left≤1048576):Pu Tryz.prog 66 [tsv l,iv left] (iv (leftV (l.length+szT l) left)):=by
 refine pu Tryz.func66 rfl Tryz.ntmps66 rfl rfl fun C=>?_
 by_cases h0:(l.length:Int)≤left
 case neg=>
  (repeat' first|(refine kk ?_;intros)|refine kfk ?_ ?_<;>intro hb|fail)
  all_goals first
   | exact kret (congrArg iv (leftV_not (by omega)).symm)
   | (exfalso;omega)
 have hlt:(rowsT l).length=l.length:=rowsT_len l
 (repeat' first|(refine kk ?_;intros)|refine kfk ?_ ?_<;>intro hb|fail)
 refine kloop (ι:=Nat × Int) (fun q=>l.length - q.1) (fun q=>[(0,.one (.s 4 (rowsT l))),(1,iv q.2),(5,nv q.1)]) (fun _=>[]) (fun q=>(q.1≤l.length∧0≤q.2∧q.2≤1048576)∧leftV (l.length+szT l) left=leftV (szT (l.drop q.1)) q.2) (0,left - l.length) ⟨⟨Nat.zero_le _,by simp only;omega,by simp only;omega⟩,by
  simp only [List.drop_zero]
  unfold leftV
  split<;>split<;>omega⟩ ?_
 rintro ⟨j,lf⟩ ⟨⟨q1,q2,q3⟩,q4⟩
 simp only at q1 q2 q3 q4
 dsimp only
 by_cases hj:j < l.length
 ·obtain ⟨x,hx⟩:∃ y,l[j]?=some y:=⟨l[j],List.getElem?_eq_getElem hj⟩
  have hd:l.drop j=x::l.drop (j+1):=by
   rw [List.drop_eq_getElem_cons hj]
   rw [List.getElem?_eq_getElem hj] at hx
   cases hx;rfl
  have hdz:=szT_drop hd
  have hrow:(rowsT l)[j]?=some (encT x):=rowsT_get hx
  have hb1:=leftV_le (z:=x.sz) (left:=lf) (b:=1048576) (by omega) q3
  have hxin:=hin x (List.mem_of_getElem? hx)
  have p1:SizeOf.sizeOf x < N∧x.In0∧0≤lf∧lf≤1048576:=⟨hN x (List.mem_of_getElem? hx),hxin,q2,q3⟩
  by_cases hfit:(x.sz:Int)≤lf
  ·have hl1:=leftV_fit hfit
   (repeat' first|(refine kk ?_;intros)|refine kfk ?_ ?_<;>intro hb|fail)
   all_goals first
    | (exfalso;omega)
    | skip
   refine ⟨(j+1,leftV x.sz lf),by simp only;omega,⟨⟨by simp only;omega,by simp only;omega,by simp only;omega⟩,?_⟩,kwk⟩
   rw [q4,hl1]
   simp only
   unfold leftV
   split<;>split<;>omega
  ·have hl1:=leftV_not hfit
   (repeat' first|(refine kk ?_;intros)|refine kfk ?_ ?_<;>intro hb|fail)
   all_goals first
    | (exfalso;omega)
    | skip
   rw [q4,leftV_not (show ¬ ((szT (l.drop j):Nat):Int)≤lf by omega)]
   exact kret rfl
 ·obtain rfl:j=l.length:=by omega
  rw [List.drop_length] at q4
  (repeat' first|(refine kk ?_;intros)|refine kfk ?_ ?_<;>intro hb|fail)
  rw [q4]
  exact kret (congrArg iv (by show lf=leftV 0 lf;rw [leftV_fit (by omega)];omega))
instance szTerm_c:Con2 Tryz.prog 126 Tm Int tv iv (fun t left=>iv (leftV t.sz left)) (fun t left=>t.In0∧0≤left∧left≤1048576):=.ind (fun t _=>SizeOf.sizeOf t) fun N ih t left hN ⟨hin,h0,h1⟩=>by
 obtain ⟨i1,i2,i3,i4,i5⟩:=Tm.in0_iff.1 hin
 have hN2:∀ x∈t.args,SizeOf.sizeOf x < N:=fun x hx=>by
  obtain ⟨j,hj⟩:=List.getElem?_of_mem hx
  have:=Tm.arg_lt hj;omega
 have hsz:t.sz=t.name.size+(t.args.length+szT t.args):=by
  cases t
  simp only [Tm.sz,Tm.name_mk,Tm.args_mk]
 rw [hsz]
 haveI:Con2 Tryz.prog 66 (List (List D)) Int (fun r=>.one (.s 4 r)) iv (fun _ left=>iv (leftV (t.args.length+szT t.args) left)) (fun r left=>r=t.argE∧0≤left∧left≤1048576):=⟨fun r left ⟨e,h0,h1⟩=>by subst e;rw [argE_eq];exact szTs_c N ih t.args left hN2 i4 (InL0.all.1 i5) h0 h1⟩
 refine pu Tryz.func126 rfl Tryz.ntmps126 rfl rfl fun C=>?_
 by_cases hs:(t.name.size:Int)≤left
 case neg=>
  (repeat' first|(refine kk ?_;intros)|refine kfk ?_ ?_<;>intro hb|fail)
  all_goals first
   | exact kret (congrArg iv (leftV_not (by omega)).symm)
   | (exfalso;omega)
 have hb:=leftV_le (z:=t.args.length+szT t.args) (left:=left - t.name.size) (b:=1048576) (by omega) (by omega)
 have p1:t.argE=t.argE∧0≤left - (t.name.size:Int)∧left - (t.name.size:Int)≤1048576:=⟨rfl,by omega,by omega⟩
 by_cases hf:((t.args.length+szT t.args:Nat):Int)≤left - t.name.size
 ·have hl1:=leftV_fit hf
  (repeat' first|(refine kk ?_;intros)|refine kfk ?_ ?_<;>intro hb|fail)
  all_goals first
   | (exfalso;omega)
   | exact kret (congrArg iv (show leftV (t.args.length+szT t.args) (left - t.name.size)=leftV (t.name.size+(t.args.length+szT t.args)) left by rw [hl1,leftV_fit (by omega)];omega))
 ·have hl1:=leftV_not hf
  (repeat' first|(refine kk ?_;intros)|refine kfk ?_ ?_<;>intro hb|fail)
  all_goals first
   | (exfalso;omega)
   | exact kret (congrArg iv (leftV_not (by omega)).symm)
theorem szGs_c (N:Nat) (ih:Con2 Tryz.prog 22 Gl Int (fun g=>.agg (encG g)) iv (fun t left=>iv (leftV t.sz left)) (fun t left=>SizeOf.sizeOf t < N∧t.In0∧0≤left∧left≤1048576)) (l:List Gl) (left:Int) (hN:∀ t∈l,SizeOf.sizeOf t < N) (hlen:Len l.length) (hin:∀ t∈l,t.In0) (h0:0≤left) (h1:left≤1048576):Pu Tryz.prog 67 [.one (.s 4 (rowsG l)),iv left] (iv (leftV (l.length+szG l) left)):=by
 refine pu Tryz.func67 rfl Tryz.ntmps67 rfl rfl fun C=>?_
 by_cases h0:(l.length:Int)≤left
 case neg=>
  (repeat' first|(refine kk ?_;intros)|refine kfk ?_ ?_<;>intro hb|fail)
  all_goals first
   | exact kret (congrArg iv (leftV_not (by omega)).symm)
   | (exfalso;omega)
 have hlt:(rowsG l).length=l.length:=rowsG_len l
 (repeat' first|(refine kk ?_;intros)|refine kfk ?_ ?_<;>intro hb|fail)
 refine kloop (ι:=Nat × Int) (fun q=>l.length - q.1) (fun q=>[(0,.one (.s 4 (rowsG l))),(1,iv q.2),(5,nv q.1)]) (fun _=>[]) (fun q=>(q.1≤l.length∧0≤q.2∧q.2≤1048576)∧leftV (l.length+szG l) left=leftV (szG (l.drop q.1)) q.2) (0,left - l.length) ⟨⟨Nat.zero_le _,by simp only;omega,by simp only;omega⟩,by
  simp only [List.drop_zero]
  unfold leftV
  split<;>split<;>omega⟩ ?_
 rintro ⟨j,lf⟩ ⟨⟨q1,q2,q3⟩,q4⟩
 simp only at q1 q2 q3 q4
 dsimp only
 by_cases hj:j < l.length
 ·obtain ⟨x,hx⟩:∃ y,l[j]?=some y:=⟨l[j],List.getElem?_eq_getElem hj⟩
  have hd:l.drop j=x::l.drop (j+1):=by
   rw [List.drop_eq_getElem_cons hj]
   rw [List.getElem?_eq_getElem hj] at hx
   cases hx;rfl
  have hdz:=szG_drop hd
  have hrow:(rowsG l)[j]?=some (encG x):=rowsG_get hx
  have hb1:=leftV_le (z:=x.sz) (left:=lf) (b:=1048576) (by omega) q3
  have hxin:=hin x (List.mem_of_getElem? hx)
  have p1:SizeOf.sizeOf x < N∧x.In0∧0≤lf∧lf≤1048576:=⟨hN x (List.mem_of_getElem? hx),hxin,q2,q3⟩
  by_cases hfit:(x.sz:Int)≤lf
  ·have hl1:=leftV_fit hfit
   (repeat' first|(refine kk ?_;intros)|refine kfk ?_ ?_<;>intro hb|fail)
   all_goals first
    | (exfalso;omega)
    | skip
   refine ⟨(j+1,leftV x.sz lf),by simp only;omega,⟨⟨by simp only;omega,by simp only;omega,by simp only;omega⟩,?_⟩,kwk⟩
   rw [q4,hl1]
   simp only
   unfold leftV
   split<;>split<;>omega
  ·have hl1:=leftV_not hfit
   (repeat' first|(refine kk ?_;intros)|refine kfk ?_ ?_<;>intro hb|fail)
   all_goals first
    | (exfalso;omega)
    | skip
   rw [q4,leftV_not (show ¬ ((szG (l.drop j):Nat):Int)≤lf by omega)]
   exact kret rfl
 ·obtain rfl:j=l.length:=by omega
  rw [List.drop_length] at q4
  (repeat' first|(refine kk ?_;intros)|refine kfk ?_ ?_<;>intro hb|fail)
  rw [q4]
  exact kret (congrArg iv (by show lf=leftV 0 lf;rw [leftV_fit (by omega)];omega))
theorem szTs_all (l:List Tm) (left:Int) (hlen:Len l.length) (hin:InL0 l) (h0:0≤left) (h1:left≤1048576):Pu Tryz.prog 66 [tsv l,iv left] (iv (leftV (l.length+szT l) left)):=
 szTs_c (SizeOf.sizeOf l+1) ⟨fun {t left} h=>szTerm_c.h t left h.2⟩ l left (fun t ht=>by have:=List.sizeOf_lt_of_mem ht;omega) hlen (InL0.all.1 hin) h0 h1
instance szGoal_c:Con2 Tryz.prog 22 Gl Int (fun g=>.agg (encG g)) iv (fun t left=>iv (leftV t.sz left)) (fun t left=>t.In0∧0≤left∧left≤1048576):=.ind (fun t _=>SizeOf.sizeOf t) fun N ih t left hN ⟨hin,h0,h1⟩=>by
 obtain ⟨i1,i2,i3,i4,i5,i6⟩:=Gl.in0_iff.1 hin
 have hN2:∀ x∈t.goals,SizeOf.sizeOf x < N:=fun x hx=>by
  obtain ⟨j,hj⟩:=List.getElem?_of_mem hx
  have:=Gl.kid_lt hj;omega
 have hsz:t.sz=t.name.size+(t.terms.length+szT t.terms)+(t.goals.length+szG t.goals):=by
  cases t
  simp only [Gl.sz,Gl.name_mk,Gl.terms_mk,Gl.goals_mk]
 rw [hsz]
 haveI:Con2 Tryz.prog 67 (List (List D)) Int (fun r=>.one (.s 4 r)) iv (fun _ left=>iv (leftV (t.goals.length+szG t.goals) left)) (fun r left=>r=t.subE∧0≤left∧left≤1048576):=⟨fun r left ⟨e,h0,h1⟩=>by subst e;rw [subE_eq];exact szGs_c N ih t.goals left hN2 i5 (InG0.all.1 i6) h0 h1⟩
 haveI:Con2 Tryz.prog 66 (List (List D)) Int (fun r=>.one (.s 4 r)) iv (fun _ left=>iv (leftV (t.terms.length+szT t.terms) left)) (fun r left=>r=rowsT t.terms∧0≤left∧left≤1048576):=⟨fun r left ⟨e,h0,h1⟩=>by subst e;exact szTs_all t.terms left i3 i4 h0 h1⟩
 refine pu Tryz.func22 rfl Tryz.ntmps22 rfl rfl fun C=>?_
 by_cases hs:(t.name.size:Int)≤left
 case neg=>
  (repeat' first|(refine kkS [66,67] [] ?_;intros)|refine kfS [66,67] [] ?_ ?_<;>intro hb|fail)
  all_goals first
   | exact kret (congrArg iv (leftV_not (by omega)).symm)
   | (exfalso;omega)
 have p0:rowsT t.terms=rowsT t.terms∧0≤left - (t.name.size:Int)∧left - (t.name.size:Int)≤1048576:=⟨rfl,by omega,by omega⟩
 have hb0:=leftV_le (z:=t.terms.length+szT t.terms) (left:=left - t.name.size) (b:=1048576) (by omega) (by omega)
 by_cases hf0:((t.terms.length+szT t.terms:Nat):Int)≤left - t.name.size
 case neg=>
  have hl0:=leftV_not hf0
  (repeat' first|(refine kkS [67] [] ?_;intros)|refine kfS [67] [] ?_ ?_<;>intro hb|fail)
  all_goals first
   | (exfalso;omega)
   | exact kret (congrArg iv (leftV_not (by omega)).symm)
 have hl0:=leftV_fit hf0
 have hb:=leftV_le (z:=t.goals.length+szG t.goals) (left:=leftV (t.terms.length+szT t.terms) (left - t.name.size)) (b:=1048576) (by omega) (by omega)
 have p1:t.subE=t.subE∧0≤leftV (t.terms.length+szT t.terms) (left - t.name.size)∧leftV (t.terms.length+szT t.terms) (left - t.name.size)≤1048576:=⟨rfl,by omega,by omega⟩
 by_cases hf:((t.goals.length+szG t.goals:Nat):Int)≤leftV (t.terms.length+szT t.terms) (left - t.name.size)
 ·have hl1:=leftV_fit hf
  (repeat' first|(refine kk ?_;intros)|refine kfk ?_ ?_<;>intro hb|fail)
  all_goals first
   | (exfalso;omega)
   | exact kret (congrArg iv (show leftV (t.goals.length+szG t.goals) (leftV (t.terms.length+szT t.terms) (left - t.name.size))=leftV (t.name.size+(t.terms.length+szT t.terms)+(t.goals.length+szG t.goals)) left by rw [hl1,hl0,leftV_fit (by omega)];omega))
 ·have hl1:=leftV_not hf
  (repeat' first|(refine kk ?_;intros)|refine kfk ?_ ?_<;>intro hb|fail)
  all_goals first
   | (exfalso;omega)
   | exact kret (congrArg iv (leftV_not (by omega)).symm)
abbrev vR (r:RlR):AV:=.agg (encR r)
instance szRel_c:Con2 Tryz.prog 98 RlR Int vR iv (fun t left=>iv (leftV t.sz left)) (fun t left=>t.In0∧0≤left∧left≤1048576):=⟨fun r left ⟨hin,h0,h1⟩=>by
 have hnm:=hin.nm
 have hsz:r.sz=r.name.size+r.body.sz:=rfl
 rw [hsz]
 refine pu Tryz.func98 rfl Tryz.ntmps98 rfl rfl fun C=>?_
 by_cases hs:(r.name.size:Int)≤left
 case neg=>
  (repeat' first|(refine kk ?_;intros)|refine kfk ?_ ?_<;>intro hb|fail)
  all_goals first
   | exact kret (congrArg iv (leftV_not (by omega)).symm)
   | (exfalso;omega)
 have p0:r.body.In0∧0≤left - (r.name.size:Int)∧left - (r.name.size:Int)≤1048576:=⟨hin.body,by omega,by omega⟩
 have hb:=leftV_le (z:=r.body.sz) (left:=left - r.name.size) (b:=1048576) (by omega) (by omega)
 by_cases hf:(r.body.sz:Int)≤left - r.name.size
 ·have hl1:=leftV_fit hf
  (repeat' first|(refine kk ?_;intros)|refine kfk ?_ ?_<;>intro hb|fail)
  all_goals first
   | (exfalso;omega)
   | exact kret (congrArg iv (show leftV r.body.sz (left - r.name.size)=leftV (r.name.size+r.body.sz) left by rw [hl1,leftV_fit (by omega)];omega))
 ·have hl1:=leftV_not hf
  (repeat' first|(refine kk ?_;intros)|refine kfk ?_ ?_<;>intro hb|fail)
  all_goals first
   | (exfalso;omega)
   | exact kret (congrArg iv (leftV_not (by omega)).symm)⟩
instance szRelS_c:Con2 Tryz.prog 44 (List RlR) Int (fun l=>.one (.s 7 (l.map encR))) iv (fun l left=>iv (leftV (l.length+szR l) left)) (fun l left=>InP0 l∧0≤left∧left≤1048576):=⟨fun l left ⟨⟨hlen,hin⟩,h0,h1⟩=>by
 refine pu Tryz.func44 rfl Tryz.ntmps44 rfl rfl fun C=>?_
 by_cases h0:(l.length:Int)≤left
 case neg=>
  (repeat' first|(refine kk ?_;intros)|refine kfk ?_ ?_<;>intro hb|fail)
  all_goals first
   | exact kret (congrArg iv (leftV_not (by omega)).symm)
   | (exfalso;omega)
 have hlt:(l.map encR).length=l.length:=List.length_map _
 (repeat' first|(refine kk ?_;intros)|refine kfk ?_ ?_<;>intro hb|fail)
 refine kloop (ι:=Nat × Int) (fun q=>l.length - q.1) (fun q=>[(0,.one (.s 7 (l.map encR))),(1,iv q.2),(5,nv q.1)]) (fun _=>[]) (fun q=>(q.1≤l.length∧0≤q.2∧q.2≤1048576)∧leftV (l.length+szR l) left=leftV (szR (l.drop q.1)) q.2) (0,left - l.length) ⟨⟨Nat.zero_le _,by simp only;omega,by simp only;omega⟩,by
  simp only [List.drop_zero]
  unfold leftV
  split<;>split<;>omega⟩ ?_
 rintro ⟨j,lf⟩ ⟨⟨q1,q2,q3⟩,q4⟩
 simp only at q1 q2 q3 q4
 dsimp only
 by_cases hj:j < l.length
 ·obtain ⟨x,hx⟩:∃ y,l[j]?=some y:=⟨l[j],List.getElem?_eq_getElem hj⟩
  have hd:l.drop j=x::l.drop (j+1):=by
   rw [List.drop_eq_getElem_cons hj]
   rw [List.getElem?_eq_getElem hj] at hx
   cases hx;rfl
  have hdz:=szR_drop hd
  have hrow:(l.map encR)[j]?=some (encR x):=by simp [hx]
  have hb1:=leftV_le (z:=x.sz) (left:=lf) (b:=1048576) (by omega) q3
  have hxin:=hin x (List.mem_of_getElem? hx)
  have p1:x.In0∧0≤lf∧lf≤1048576:=⟨hxin,q2,q3⟩
  by_cases hfit:(x.sz:Int)≤lf
  ·have hl1:=leftV_fit hfit
   (repeat' first|(refine kk ?_;intros)|refine kfk ?_ ?_<;>intro hb|fail)
   all_goals first
    | (exfalso;omega)
    | skip
   refine ⟨(j+1,leftV x.sz lf),by simp only;omega,⟨⟨by simp only;omega,by simp only;omega,by simp only;omega⟩,?_⟩,kwk⟩
   rw [q4,hl1]
   simp only
   unfold leftV
   split<;>split<;>omega
  ·have hl1:=leftV_not hfit
   (repeat' first|(refine kk ?_;intros)|refine kfk ?_ ?_<;>intro hb|fail)
   all_goals first
    | (exfalso;omega)
    | skip
   rw [q4,leftV_not (show ¬ ((szR (l.drop j):Nat):Int)≤lf by omega)]
   exact kret rfl
 ·obtain rfl:j=l.length:=by omega
  rw [List.drop_length] at q4
  (repeat' first|(refine kk ?_;intros)|refine kfk ?_ ?_<;>intro hb|fail)
  rw [q4]
  exact kret (congrArg iv (by show lf=leftV 0 lf;rw [leftV_fit (by omega)];omega))⟩
instance szProgram_c:Con2 Tryz.prog 9 (List RlR) Int vP iv (fun l left=>iv (leftV (l.length+szR l) left)) (fun l left=>InP0 l∧0≤left∧left≤1048576):=⟨fun l left ⟨hin,h0,h1⟩=>by
 have p1:InP0 l∧0≤left∧left≤1048576:=⟨hin,h0,h1⟩
 have hb:=leftV_le (z:=l.length+szR l) (left:=left) (b:=1048576) (by omega) h1
 refine pu Tryz.func9 rfl Tryz.ntmps9 rfl rfl fun C=>?_
 by_cases hf:((l.length+szR l:Nat):Int)≤left
 ·have hl1:=leftV_fit hf
  (repeat' first|(refine kk ?_;intros)|refine kfk ?_ ?_<;>intro hb|fail)
  all_goals first
   | (exfalso;omega)
   | exact kret rfl
 ·have hl1:=leftV_not hf
  (repeat' first|(refine kk ?_;intros)|refine kfk ?_ ?_<;>intro hb|fail)
  all_goals first
   | (exfalso;omega)
   | exact kret (congrArg iv (leftV_not hf).symm)⟩
end
noncomputable section
open Classical
def fillR (rows:List (List D)) (z:List D) (j:Nat):List (List D):=rows.take j++List.replicate (rows.length - j) z
theorem fillR_zero (rows:List (List D)) (z:List D):fillR rows z 0=List.replicate rows.length z:=by simp [fillR]
theorem fillR_full (rows:List (List D)) (z:List D):fillR rows z rows.length=rows:=by simp [fillR]
theorem fillR_len (rows:List (List D)) (z:List D) (j:Nat) (h:j≤rows.length):(fillR rows z j).length=rows.length:=by simp [fillR];omega
theorem fillR_set {rows:List (List D)} {z c:List D} {j:Nat} (h:rows[j]?=some c):(fillR rows z j).set j c=fillR rows z (j+1):=by
 obtain ⟨hj,rfl⟩:=List.getElem?_eq_some_iff.1 h
 unfold fillR
 rw [List.set_append_right _ _ (by simp;omega)]
 have e1:j - (rows.take j).length=0:=by simp;omega
 rw [e1,List.take_add_one,List.getElem?_eq_getElem hj,show rows.length - j=(rows.length - (j+1))+1 by omega,List.replicate_succ,List.append_assoc]
 rfl
abbrev zTm:List D:=[.v (.int .i64 0),.v (.int .i64 0),.v (.string noS),.v (.slice none 0 0)]
theorem toTs_c (N:Nat) (ih:Con1 Tryz.prog 130 Tm tv tv (fun t=>SizeOf.sizeOf t < N∧t.In0∧t.sz≤1048576)) (l:List Tm) (hN:∀ t∈l,SizeOf.sizeOf t < N) (hlen:l.length+szT l≤1048576) (hin:∀ t∈l,t.In0):Pu Tryz.prog 70 [tsv l] (tsv l):=by
 refine pu Tryz.func70 rfl Tryz.ntmps70 rfl rfl fun C=>?_
 have hlt:(rowsT l).length=l.length:=rowsT_len l
 have hle:(rowsT l).length≤1048576:=by omega
 have hL:Lng (rowsT l).length:=by unfold Lng;omega
 (repeat' first|(refine kk ?_;intros)|refine kfk ?_ ?_<;>intro hb|fail)
 rename_i b
 refine kloop (ι:=Nat) (fun q=>l.length - q) (fun q=>[(0,.one (.s 4 (rowsT l))),(3,.one (.v (.slice (some ⟨b,0,none⟩) l.length l.length))),(4,nv q)]) (fun q=>[arow 174 4 (.slice (some ⟨b,0,none⟩) l.length l.length) (fillR (rowsT l) zTm q)]) (fun q=>q≤l.length) 0 (Nat.zero_le _) ?_ (by rw [fillR_zero,hlt];exact kwk)
 intro j hj0
 by_cases hj:j < l.length
 ·obtain ⟨x,hx⟩:∃ y,l[j]?=some y:=⟨l[j],List.getElem?_eq_getElem hj⟩
  have hrow:(rowsT l)[j]?=some (encT x):=rowsT_get hx
  have hset:=fillR_set (z:=zTm) hrow
  have hfl:=fillR_len (rowsT l) zTm j (by omega)
  have hfj:j < (fillR (rowsT l) zTm j).length:=by omega
  have p1:SizeOf.sizeOf x < N∧x.In0∧x.sz≤1048576:=⟨hN x (List.mem_of_getElem? hx),hin x (List.mem_of_getElem? hx),by have:=szT_mem (List.mem_of_getElem? hx);omega⟩
  (repeat' first|(refine kk ?_;intros)|refine kfk ?_ ?_<;>intro hb|fail)
  refine kstR 0 j ?_
  rw [hset]
  (repeat' first|(refine kk ?_;intros)|refine kfk ?_ ?_<;>intro hb|fail)
  refine ⟨j+1,by omega,by omega,?_⟩
  exact kwk
 ·obtain rfl:j=l.length:=by omega
  rw [← hlt,fillR_full]
  (repeat' first|(refine kk ?_;intros)|refine kfk ?_ ?_<;>intro hb|fail)
  exact kr1 (rvR rfl)
instance toTerm_c:Con1 Tryz.prog 130 Tm tv tv (fun t=>t.In0∧t.sz≤1048576):=.ind (fun t=>SizeOf.sizeOf t) fun N ih t hN ⟨hin,h0⟩=>by
 obtain ⟨i1,i2,i3,i4,i5⟩:=Tm.in0_iff.1 hin
 have hN2:∀ x∈t.args,SizeOf.sizeOf x < N:=fun x hx=>by
  obtain ⟨j,hj⟩:=List.getElem?_of_mem hx
  have:=Tm.arg_lt hj;omega
 have hsz:t.sz=t.name.size+(t.args.length+szT t.args):=by
  cases t
  simp only [Tm.sz,Tm.name_mk,Tm.args_mk]
 haveI:Con1 Tryz.prog 70 (List (List D)) (fun r=>.one (.s 4 r)) (fun r=>.one (.s 4 r)) (fun r=>r=t.argE):=⟨fun r e=>by subst e;rw [argE_eq];exact toTs_c N ih t.args hN2 (by omega) (InL0.all.1 i5)⟩
 have p1:t.argE=t.argE:=rfl
 refine pu Tryz.func130 rfl Tryz.ntmps130 rfl rfl fun C=>?_
 (repeat' first|(refine kk ?_;intros)|refine kfk ?_ ?_<;>intro hb|fail)
 refine kr1 (rvw ?_)
 (exact wV)
theorem toTs_all (l:List Tm) (hlen:l.length+szT l≤1048576) (hin:InL0 l):Pu Tryz.prog 70 [tsv l] (tsv l):=
 toTs_c (SizeOf.sizeOf l+1) ⟨fun {t} h=>toTerm_c.h t h.2⟩ l (fun t ht=>by have:=List.sizeOf_lt_of_mem ht;omega) hlen (InL0.all.1 hin)
abbrev zGl:List D:=[.v (.int .i64 0),.v (.string noS),.v (.slice none 0 0),.v (.slice none 0 0)]
theorem toGs_c (N:Nat) (ih:Con1 Tryz.prog 24 Gl (fun g=>.agg (encG g)) (fun g=>.agg (encG g)) (fun t=>SizeOf.sizeOf t < N∧t.In0∧t.sz≤1048576)) (l:List Gl) (hN:∀ t∈l,SizeOf.sizeOf t < N) (hlen:l.length+szG l≤1048576) (hin:∀ t∈l,t.In0):Pu Tryz.prog 71 [.one (.s 4 (rowsG l))] (.one (.s 4 (rowsG l))):=by
 refine pu Tryz.func71 rfl Tryz.ntmps71 rfl rfl fun C=>?_
 have hlt:(rowsG l).length=l.length:=rowsG_len l
 have hle:(rowsG l).length≤1048576:=by omega
 have hL:Lng (rowsG l).length:=by unfold Lng;omega
 (repeat' first|(refine kk ?_;intros)|refine kfk ?_ ?_<;>intro hb|fail)
 rename_i b
 refine kloop (ι:=Nat) (fun q=>l.length - q) (fun q=>[(0,.one (.s 4 (rowsG l))),(3,.one (.v (.slice (some ⟨b,0,none⟩) l.length l.length))),(4,nv q)]) (fun q=>[arow 59 4 (.slice (some ⟨b,0,none⟩) l.length l.length) (fillR (rowsG l) zGl q)]) (fun q=>q≤l.length) 0 (Nat.zero_le _) ?_ (by rw [fillR_zero,hlt];exact kwk)
 intro j hj0
 by_cases hj:j < l.length
 ·obtain ⟨x,hx⟩:∃ y,l[j]?=some y:=⟨l[j],List.getElem?_eq_getElem hj⟩
  have hrow:(rowsG l)[j]?=some (encG x):=rowsG_get hx
  have hset:=fillR_set (z:=zGl) hrow
  have hfl:=fillR_len (rowsG l) zGl j (by omega)
  have hfj:j < (fillR (rowsG l) zGl j).length:=by omega
  have p1:SizeOf.sizeOf x < N∧x.In0∧x.sz≤1048576:=⟨hN x (List.mem_of_getElem? hx),hin x (List.mem_of_getElem? hx),by have:=szG_mem (List.mem_of_getElem? hx);omega⟩
  (repeat' first|(refine kk ?_;intros)|refine kfk ?_ ?_<;>intro hb|fail)
  refine kstR 0 j ?_
  rw [hset]
  (repeat' first|(refine kk ?_;intros)|refine kfk ?_ ?_<;>intro hb|fail)
  refine ⟨j+1,by omega,by omega,?_⟩
  exact kwk
 ·obtain rfl:j=l.length:=by omega
  rw [← hlt,fillR_full]
  (repeat' first|(refine kk ?_;intros)|refine kfk ?_ ?_<;>intro hb|fail)
  exact kr1 (rvR rfl)
instance toGoal_c:Con1 Tryz.prog 24 Gl (fun g=>.agg (encG g)) (fun g=>.agg (encG g)) (fun t=>t.In0∧t.sz≤1048576):=.ind (fun t=>SizeOf.sizeOf t) fun N ih t hN ⟨hin,h0⟩=>by
 obtain ⟨i1,i2,i3,i4,i5,i6⟩:=Gl.in0_iff.1 hin
 have hN2:∀ x∈t.goals,SizeOf.sizeOf x < N:=fun x hx=>by
  obtain ⟨j,hj⟩:=List.getElem?_of_mem hx
  have:=Gl.kid_lt hj;omega
 have hsz:t.sz=t.name.size+(t.terms.length+szT t.terms)+(t.goals.length+szG t.goals):=by
  cases t
  simp only [Gl.sz,Gl.name_mk,Gl.terms_mk,Gl.goals_mk]
 haveI:Con1 Tryz.prog 71 (List (List D)) (fun r=>.one (.s 4 r)) (fun r=>.one (.s 4 r)) (fun r=>r=t.subE):=⟨fun r e=>by subst e;rw [subE_eq];exact toGs_c N ih t.goals hN2 (by omega) (InG0.all.1 i6)⟩
 haveI:Con1 Tryz.prog 70 (List (List D)) (fun r=>.one (.s 4 r)) (fun r=>.one (.s 4 r)) (fun r=>r=rowsT t.terms):=⟨fun r e=>by subst e;exact toTs_all t.terms (by omega) i4⟩
 have p1:t.subE=t.subE:=rfl
 have p2:rowsT t.terms=rowsT t.terms:=rfl
 refine pu Tryz.func24 rfl Tryz.ntmps24 rfl rfl fun C=>?_
 (repeat' first|(refine kk ?_;intros)|refine kfk ?_ ?_<;>intro hb|fail)
 refine kr1 (rvw ?_)
 (exact wV)
instance toRel_c:Con1 Tryz.prog 104 RlR vR vR (fun r=>r.In0∧r.sz≤1048576):=⟨fun r ⟨hin,h0⟩=>by
 have hsz:r.sz=r.name.size+r.body.sz:=rfl
 have p1:r.body.In0∧r.body.sz≤1048576:=⟨hin.body,by omega⟩
 refine pu Tryz.func104 rfl Tryz.ntmps104 rfl rfl fun C=>?_
 (repeat' first|(refine kk ?_;intros)|refine kfk ?_ ?_<;>intro hb|fail)
 refine kr1 (rvw ?_)
 (exact wV)⟩
abbrev zRl:List D:=.v (.string noS)::.v (.int .i64 0)::.v (.int .i64 0)::zGl
instance toRelS_c:Con1 Tryz.prog 49 (List RlR) (fun l=>.one (.s 7 (l.map encR))) (fun l=>.one (.s 7 (l.map encR))) (fun l=>InP0 l∧l.length+szR l≤1048576):=⟨fun l ⟨⟨_,hin⟩,hlen⟩=>by
 refine pu Tryz.func49 rfl Tryz.ntmps49 rfl rfl fun C=>?_
 have hlt:(l.map encR).length=l.length:=List.length_map _
 have hle:(l.map encR).length≤1048576:=by omega
 have hL:Lng (l.map encR).length:=by unfold Lng;omega
 (repeat' first|(refine kk ?_;intros)|refine kfk ?_ ?_<;>intro hb|fail)
 rename_i b
 refine kloop (ι:=Nat) (fun q=>l.length - q) (fun q=>[(0,.one (.s 7 (l.map encR))),(3,.one (.v (.slice (some ⟨b,0,none⟩) l.length l.length))),(4,nv q)]) (fun q=>[arow 154 7 (.slice (some ⟨b,0,none⟩) l.length l.length) (fillR (l.map encR) zRl q)]) (fun q=>q≤l.length) 0 (Nat.zero_le _) ?_ (by rw [fillR_zero,hlt];exact kwk)
 intro j hj0
 by_cases hj:j < l.length
 ·obtain ⟨x,hx⟩:∃ y,l[j]?=some y:=⟨l[j],List.getElem?_eq_getElem hj⟩
  have hrow:(l.map encR)[j]?=some (encR x):=by simp [hx]
  have hset:=fillR_set (z:=zRl) hrow
  have hfl:=fillR_len (l.map encR) zRl j (by omega)
  have hfj:j < (fillR (l.map encR) zRl j).length:=by omega
  have p1:x.In0∧x.sz≤1048576:=⟨hin x (List.mem_of_getElem? hx),by have:=szR_mem (List.mem_of_getElem? hx);omega⟩
  (repeat' first|(refine kk ?_;intros)|refine kfk ?_ ?_<;>intro hb|fail)
  refine kstR 0 j ?_
  rw [hset]
  (repeat' first|(refine kk ?_;intros)|refine kfk ?_ ?_<;>intro hb|fail)
  refine ⟨j+1,by omega,by omega,?_⟩
  exact kwk
 ·obtain rfl:j=l.length:=by omega
  rw [← hlt,fillR_full]
  (repeat' first|(refine kk ?_;intros)|refine kfk ?_ ?_<;>intro hb|fail)
  exact kr1 (rvR rfl)⟩
instance toProgram_c:Con1 Tryz.prog 12 (List RlR) vP vP (fun p=>InP0 p∧p.length+szR p≤1048576):=⟨fun p hp=>by
 refine pu Tryz.func12 rfl Tryz.ntmps12 rfl rfl fun C=>?_
 (repeat' first|(refine kk ?_;intros)|refine kfk ?_ ?_<;>intro hb|fail)
 refine kr1 (rvw ?_)
 (exact wV)⟩
end
noncomputable section
open Classical
theorem eqTs_c (N:Nat) (ih:Con2 Tryz.prog 137 Tm Tm tv tv (fun a b=>bp (a=b)) (fun a b=>SizeOf.sizeOf a < N∧a.In∧b.In)) (a b:List Tm) (hN:∀ t∈a,SizeOf.sizeOf t < N) (hla:Lng a.length) (hlb:Lng b.length) (hia:∀ t∈a,t.In) (hib:∀ t∈b,t.In):Pu Tryz.prog 78 [tsv a,tsv b] (bp (a=b)):=by
 have h1:(rowsT a).length=a.length:=rowsT_len a
 have h2:(rowsT b).length=b.length:=rowsT_len b
 refine pu Tryz.func78 rfl Tryz.ntmps78 rfl rfl fun C=>?_
 by_cases hlen:a.length=b.length
 case neg=>
  (repeat' first|(refine kk ?_;intros)|refine kfk ?_ ?_<;>intro hb|fail)
  exact kret (bpF fun h=>hlen (congrArg List.length h))
 (repeat' first|(refine kk ?_;intros)|refine kfk ?_ ?_<;>intro hb|fail)
 refine kloop (ι:=Nat) (fun q=>a.length - q) (fun q=>[(0,.one (.s 4 (rowsT a))),(1,.one (.s 4 (rowsT b))),(5,nv q)]) (fun _=>[]) (fun q=>q≤a.length∧a.take q=b.take q) 0 ⟨Nat.zero_le _,by simp⟩ ?_
 rintro j ⟨hj0,he⟩
 by_cases hj:j < a.length
 ·obtain ⟨x,hx⟩:∃ y,a[j]?=some y:=⟨a[j],List.getElem?_eq_getElem hj⟩
  obtain ⟨y,hy⟩:∃ y,b[j]?=some y:=⟨b[j]'(by omega),List.getElem?_eq_getElem (by omega)⟩
  have hra:(rowsT a)[j]?=some (encT x):=rowsT_get hx
  have hrb:(rowsT b)[j]?=some (encT y):=rowsT_get hy
  have p1:SizeOf.sizeOf x < N∧x.In∧y.In:=⟨hN x (List.mem_of_getElem? hx),hia x (List.mem_of_getElem? hx),hib y (List.mem_of_getElem? hy)⟩
  by_cases hxy:x=y
  ·(repeat' first|(refine kk ?_;intros)|refine kfk ?_ ?_<;>intro hb|fail)
   all_goals first
    | exact (by assumption:¬ (x=y)).elim hxy
    | refine ⟨j+1,by omega,⟨by omega,by rw [List.take_add_one,List.take_add_one,hx,hy,he,hxy]⟩,kwk⟩
  ·(repeat' first|(refine kk ?_;intros)|refine kfk ?_ ?_<;>intro hb|fail)
   all_goals first
    | exact (hxy (by assumption)).elim
    | exact kret (bpF fun h=>hxy (by subst h;rw [hx] at hy;exact Option.some.inj hy))
 ·obtain rfl:j=a.length:=by omega
  rw [List.take_length,hlen,List.take_length] at he
  (repeat' first|(refine kk ?_;intros)|refine kfk ?_ ?_<;>intro hb|fail)
  exact kret (bpT he)
instance eqTerm_c:Con2 Tryz.prog 137 Tm Tm tv tv (fun a b=>bp (a=b)) (fun a b=>a.In∧b.In):=.ind (fun t _=>SizeOf.sizeOf t) fun N ih a b hN ⟨ha,hb'⟩=>by
 obtain ⟨i1,i2,i3,i4,i5⟩:=Tm.in_iff.1 ha
 obtain ⟨j1,j2,j3,j4,j5⟩:=Tm.in_iff.1 hb'
 have hN2:∀ x∈a.args,SizeOf.sizeOf x < N:=fun x hx=>by
  obtain ⟨j,hj⟩:=List.getElem?_of_mem hx
  have:=Tm.arg_lt hj;omega
 have heq:a=b↔a.kind=b.kind∧a.int=b.int∧a.name=b.name∧a.args=b.args:=by
  cases a;cases b
  simp only [Tm.mk.injEq,Tm.kind_mk,Tm.int_mk,Tm.name_mk,Tm.args_mk]
 haveI:Con2 Tryz.prog 78 (List (List D)) (List (List D)) (fun r=>.one (.s 4 r)) (fun r=>.one (.s 4 r)) (fun _ _=>bp (a.args=b.args)) (fun r s=>r=a.argE∧s=b.argE):=⟨fun r s ⟨e1,e2⟩=>by subst e1;subst e2;rw [argE_eq,argE_eq];exact eqTs_c N ih a.args b.args hN2 i4 j4 (InL.all.1 i5) (InL.all.1 j5)⟩
 have p1:a.argE=a.argE∧b.argE=b.argE:=⟨rfl,rfl⟩
 rw [heq]
 refine pu Tryz.func137 rfl Tryz.ntmps137 rfl rfl fun C=>?_
 (repeat' first|(refine kk ?_;intros)|refine kfk ?_ ?_<;>intro hb|fail)
 all_goals first
  | (refine kret (bpF ?_);rintro ⟨q1,q2,q3,q4⟩;first|exact hb q1|exact hb q2|exact hb q3|exact hb q4)
  | (refine kret (bpT ?_);refine ⟨?_,?_,?_,?_⟩<;>assumption)
theorem eqTs_all (a b:List Tm) (hla:Lng a.length) (hlb:Lng b.length) (hia:InL a) (hib:InL b):Pu Tryz.prog 78 [tsv a,tsv b] (bp (a=b)):=
 eqTs_c (SizeOf.sizeOf a+1) ⟨fun {t u} h=>eqTerm_c.h t u h.2⟩ a b (fun t ht=>by have:=List.sizeOf_lt_of_mem ht;omega) hla hlb (InL.all.1 hia) (InL.all.1 hib)
theorem eqGs_c (N:Nat) (ih:Con2 Tryz.prog 28 Gl Gl (fun g=>.agg (encG g)) (fun g=>.agg (encG g)) (fun a b=>bp (a=b)) (fun a b=>SizeOf.sizeOf a < N∧a.In∧b.In)) (a b:List Gl) (hN:∀ t∈a,SizeOf.sizeOf t < N) (hla:Lng a.length) (hlb:Lng b.length) (hia:∀ t∈a,t.In) (hib:∀ t∈b,t.In):Pu Tryz.prog 79 [.one (.s 4 (rowsG a)),.one (.s 4 (rowsG b))] (bp (a=b)):=by
 have h1:(rowsG a).length=a.length:=rowsG_len a
 have h2:(rowsG b).length=b.length:=rowsG_len b
 refine pu Tryz.func79 rfl Tryz.ntmps79 rfl rfl fun C=>?_
 by_cases hlen:a.length=b.length
 case neg=>
  (repeat' first|(refine kk ?_;intros)|refine kfk ?_ ?_<;>intro hb|fail)
  exact kret (bpF fun h=>hlen (congrArg List.length h))
 (repeat' first|(refine kk ?_;intros)|refine kfk ?_ ?_<;>intro hb|fail)
 refine kloop (ι:=Nat) (fun q=>a.length - q) (fun q=>[(0,.one (.s 4 (rowsG a))),(1,.one (.s 4 (rowsG b))),(5,nv q)]) (fun _=>[]) (fun q=>q≤a.length∧a.take q=b.take q) 0 ⟨Nat.zero_le _,by simp⟩ ?_
 rintro j ⟨hj0,he⟩
 by_cases hj:j < a.length
 ·obtain ⟨x,hx⟩:∃ y,a[j]?=some y:=⟨a[j],List.getElem?_eq_getElem hj⟩
  obtain ⟨y,hy⟩:∃ y,b[j]?=some y:=⟨b[j]'(by omega),List.getElem?_eq_getElem (by omega)⟩
  have hra:(rowsG a)[j]?=some (encG x):=rowsG_get hx
  have hrb:(rowsG b)[j]?=some (encG y):=rowsG_get hy
  have p1:SizeOf.sizeOf x < N∧x.In∧y.In:=⟨hN x (List.mem_of_getElem? hx),hia x (List.mem_of_getElem? hx),hib y (List.mem_of_getElem? hy)⟩
  by_cases hxy:x=y
  ·(repeat' first|(refine kk ?_;intros)|refine kfk ?_ ?_<;>intro hb|fail)
   all_goals first
    | exact (by assumption:¬ (x=y)).elim hxy
    | refine ⟨j+1,by omega,⟨by omega,by rw [List.take_add_one,List.take_add_one,hx,hy,he,hxy]⟩,kwk⟩
  ·(repeat' first|(refine kk ?_;intros)|refine kfk ?_ ?_<;>intro hb|fail)
   all_goals first
    | exact (hxy (by assumption)).elim
    | exact kret (bpF fun h=>hxy (by subst h;rw [hx] at hy;exact Option.some.inj hy))
 ·obtain rfl:j=a.length:=by omega
  rw [List.take_length,hlen,List.take_length] at he
  (repeat' first|(refine kk ?_;intros)|refine kfk ?_ ?_<;>intro hb|fail)
  exact kret (bpT he)
instance eqGoal_c:Con2 Tryz.prog 28 Gl Gl (fun g=>.agg (encG g)) (fun g=>.agg (encG g)) (fun a b=>bp (a=b)) (fun a b=>a.In∧b.In):=.ind (fun t _=>SizeOf.sizeOf t) fun N ih a b hN ⟨ha,hb'⟩=>by
 obtain ⟨i1,i2,i3,i4,i5,i6⟩:=Gl.in_iff.1 ha
 obtain ⟨j1,j2,j3,j4,j5,j6⟩:=Gl.in_iff.1 hb'
 have l5:Lng a.goals.length:=by unfold Lng;omega
 have m5:Lng b.goals.length:=by unfold Lng;omega
 have hN2:∀ x∈a.goals,SizeOf.sizeOf x < N:=fun x hx=>by
  obtain ⟨j,hj⟩:=List.getElem?_of_mem hx
  have:=Gl.kid_lt hj;omega
 have heq:a=b↔a.kind=b.kind∧a.name=b.name∧a.terms=b.terms∧a.goals=b.goals:=by
  cases a;cases b
  simp only [Gl.mk.injEq,Gl.kind_mk,Gl.name_mk,Gl.terms_mk,Gl.goals_mk]
 haveI:Con2 Tryz.prog 79 (List (List D)) (List (List D)) (fun r=>.one (.s 4 r)) (fun r=>.one (.s 4 r)) (fun _ _=>bp (a.goals=b.goals)) (fun r s=>r=a.subE∧s=b.subE):=⟨fun r s ⟨e1,e2⟩=>by subst e1;subst e2;rw [subE_eq,subE_eq];exact eqGs_c N ih a.goals b.goals hN2 l5 m5 (InG.all.1 i6) (InG.all.1 j6)⟩
 haveI:Con2 Tryz.prog 78 (List (List D)) (List (List D)) (fun r=>.one (.s 4 r)) (fun r=>.one (.s 4 r)) (fun _ _=>bp (a.terms=b.terms)) (fun r s=>r=rowsT a.terms∧s=rowsT b.terms):=⟨fun r s ⟨e1,e2⟩=>by subst e1;subst e2;exact eqTs_all a.terms b.terms i3 j3 i4 j4⟩
 have p1:a.subE=a.subE∧b.subE=b.subE:=⟨rfl,rfl⟩
 have p2:rowsT a.terms=rowsT a.terms∧rowsT b.terms=rowsT b.terms:=⟨rfl,rfl⟩
 rw [heq]
 refine pu Tryz.func28 rfl Tryz.ntmps28 rfl rfl fun C=>?_
 (repeat' first|(refine kk ?_;intros)|refine kfk ?_ ?_<;>intro hb|fail)
 all_goals first
  | (refine kret (bpF ?_);rintro ⟨q1,q2,q3,q4⟩;first|exact hb q1|exact hb q2|exact hb q3|exact hb q4)
  | (refine kret (bpT ?_);refine ⟨?_,?_,?_,?_⟩<;>assumption)
instance eqRel_c:Con2 Tryz.prog 113 RlR RlR vR vR (fun a b=>bp (a=b)) (fun a b=>a.In∧b.In):=⟨fun a b ⟨ha,hb'⟩=>by
 have i1:=ha.nm
 have i2:=ha.ar
 have i3:=ha.loc
 have j1:=hb'.nm
 have j2:=hb'.ar
 have j3:=hb'.loc
 have p1:a.body.In∧b.body.In:=⟨ha.body,hb'.body⟩
 have heq:a=b↔a.name=b.name∧a.ar=b.ar∧a.loc=b.loc∧a.body=b.body:=by
  cases a;cases b
  simp only [RlR.mk.injEq]
 rw [heq]
 refine pu Tryz.func113 rfl Tryz.ntmps113 rfl rfl fun C=>?_
 (repeat' first|(refine kk ?_;intros)|refine kfk ?_ ?_<;>intro hb|fail)
 all_goals first
  | (refine kret (bpF ?_);rintro ⟨q1,q2,q3,q4⟩;first|exact hb q1|exact hb q2|exact hb q3|exact hb q4)
  | (refine kret (bpT ?_);refine ⟨?_,?_,?_,?_⟩<;>assumption)⟩
instance eqRelS_c:Con2 Tryz.prog 54 (List RlR) (List RlR) (fun l=>.one (.s 7 (l.map encR))) (fun l=>.one (.s 7 (l.map encR))) (fun a b=>bp (a=b)) (fun a b=>InP a∧InP b):=⟨fun a b ⟨⟨hla,hia⟩,⟨hlb,hib⟩⟩=>by
 have h1:(a.map encR).length=a.length:=List.length_map _
 have h2:(b.map encR).length=b.length:=List.length_map _
 refine pu Tryz.func54 rfl Tryz.ntmps54 rfl rfl fun C=>?_
 by_cases hlen:a.length=b.length
 case neg=>
  (repeat' first|(refine kk ?_;intros)|refine kfk ?_ ?_<;>intro hb|fail)
  exact kret (bpF fun h=>hlen (congrArg List.length h))
 (repeat' first|(refine kk ?_;intros)|refine kfk ?_ ?_<;>intro hb|fail)
 refine kloop (ι:=Nat) (fun q=>a.length - q) (fun q=>[(0,.one (.s 7 (a.map encR))),(1,.one (.s 7 (b.map encR))),(5,nv q)]) (fun _=>[]) (fun q=>q≤a.length∧a.take q=b.take q) 0 ⟨Nat.zero_le _,by simp⟩ ?_
 rintro j ⟨hj0,he⟩
 by_cases hj:j < a.length
 ·obtain ⟨x,hx⟩:∃ y,a[j]?=some y:=⟨a[j],List.getElem?_eq_getElem hj⟩
  obtain ⟨y,hy⟩:∃ y,b[j]?=some y:=⟨b[j]'(by omega),List.getElem?_eq_getElem (by omega)⟩
  have hra:(a.map encR)[j]?=some (encR x):=by simp [hx]
  have hrb:(b.map encR)[j]?=some (encR y):=by simp [hy]
  have p1:x.In∧y.In:=⟨hia x (List.mem_of_getElem? hx),hib y (List.mem_of_getElem? hy)⟩
  by_cases hxy:x=y
  ·(repeat' first|(refine kk ?_;intros)|refine kfk ?_ ?_<;>intro hb|fail)
   all_goals first
    | exact (by assumption:¬ (x=y)).elim hxy
    | refine ⟨j+1,by omega,⟨by omega,by rw [List.take_add_one,List.take_add_one,hx,hy,he,hxy]⟩,kwk⟩
  ·(repeat' first|(refine kk ?_;intros)|refine kfk ?_ ?_<;>intro hb|fail)
   all_goals first
    | exact (hxy (by assumption)).elim
    | exact kret (bpF fun h=>hxy (by subst h;rw [hx] at hy;exact Option.some.inj hy))
 ·obtain rfl:j=a.length:=by omega
  rw [List.take_length,hlen,List.take_length] at he
  (repeat' first|(refine kk ?_;intros)|refine kfk ?_ ?_<;>intro hb|fail)
  exact kret (bpT he)⟩
instance eqProgram_c:Con2 Tryz.prog 15 (List RlR) (List RlR) vP vP (fun a b=>bp (a=b)) (fun a b=>InP a∧InP b):=⟨fun a b hp=>by
 refine pu Tryz.func15 rfl Tryz.ntmps15 rfl rfl fun C=>?_
 (repeat' first|(refine kk ?_;intros)|refine kfk ?_ ?_<;>intro hb|fail)
 all_goals first
  | exact kret (bpT (by assumption))
  | exact kret (bpF (by assumption))⟩
end
end Go.Proofs.YtejkllmoofdpjaaGreat
