/- Parts of the proof: V71. -/
import Derived.Test.YtejkllmoofdpjaaGreatD32
namespace Go.Proofs.YtejkllmoofdpjaaGreat
open Go
set_option linter.all false
set_option maxRecDepth 100000
set_option maxHeartbeats 4000000
noncomputable section
open Classical
instance gcnt_s:Con2 Tryz.prog 164 Gl Int vg iv (fun g m=>iv (g.cnt m)) (fun g m=>g.In∧0≤m∧m≤1048576):=.ind (fun g _=>SizeOf.sizeOf g) fun N ih g m hN ⟨hin,hm,hm'⟩=>by
 obtain ⟨_,_,_,_,hgl,_⟩:=Gl.in_iff.1 hin
 refine pu Tryz.func164 rfl Tryz.ntmps164 rfl rfl fun C=>?_
 (repeat' first|(refine kk ?_;intros)|refine kfk ?_ ?_<;>intro hb|fail)
 refine kfor (ι:=Int) g.goals (fun j n=>[(1,iv m),(5,iv n),(9,.one (.s 4 g.subE))]) (fun _ _=>[]) (fun j n=>cntGl m (g.goals.drop j) n=g.cnt m∧1≤n∧n≤m+1) 1 ⟨by cases g;rfl,by omega,by omega⟩ ?_ ?_
 ·rintro j x n hj hd hjl ⟨h1,h2,h3⟩
  have hx:=Gl.kid_in hin hj
  have hs:=Gl.kid_lt hj
  have hc:=gcnt_le x (m - n)
  rw [hd,cntGl] at h1
  have s1:SizeOf.sizeOf x < N∧x.In∧0≤m - n∧m - n≤1048576→True:=fun _=>trivial
  by_cases hg:n > m
  ·rw [if_pos hg] at h1
   (repeat' first|(refine kk ?_;intros)|refine kfk ?_ ?_<;>intro hb|fail)
   all_goals first
    | exact kret (congrArg iv h1)
    | (exfalso;omega)
  ·rw [if_neg hg] at h1
   have s2:SizeOf.sizeOf x < N∧x.In∧0≤m - n∧m - n≤1048576:=⟨by omega,hx,by omega,by omega⟩
   (repeat' first|(refine kk ?_;intros)|refine kfk ?_ ?_<;>intro hb|fail)
   all_goals first
    | exact ⟨_,⟨h1,by omega,by omega⟩,kwk⟩
    | (exfalso;omega)
 ·rintro n ⟨h1,h2,h3⟩
  rw [List.drop_length,cntGl] at h1
  (repeat' first|(refine kk ?_;intros)|refine kfk ?_ ?_<;>intro hb|fail)
  exact kret (congrArg iv h1)
theorem allYes_s:Con1 Tryz.prog 251 (List Tm) tsv (fun _=>bv true) (fun l=>(Lng l.length∧InL l)∧∀ t∈l,t.ok):=⟨fun l ⟨hl,h⟩=>by
 have:=allOk_s.h l hl
 rwa [show bp (∀ t∈l,t.ok)=bv true from (bpT h).symm] at this⟩
theorem inYes_s:Con3 Tryz.prog 91 Int Int Int iv iv iv (fun _ _ _=>bv true) (fun n lo hi=>lo≤n∧n≤hi):=⟨fun n lo hi h=>by
 have:=l01In_c.h n lo hi trivial
 rwa [show bp (lo≤n∧n≤hi)=bv true from (bpT h).symm] at this⟩
theorem wf_kids {k:Int} {s:ByteArray} {ts:List Tm} {gs:List Gl} (h:(Gl.mk k s ts gs).wf):∀ x∈gs,x.wf:=by
 have hw:=(Gl.wf_iff.1 h).2
 simp only [Gl.kind_mk,Gl.name_mk,Gl.terms_mk,Gl.goals_mk] at hw
 rcases hw with hw|hw|hw|hw|hw|hw|hw
 ·rw [hw.2.2.2];simp
 ·rw [hw.2.2.2];simp
 ·rw [hw.2.2.2];simp
 ·rw [hw.2.2.2.2];simp
 ·exact wfGl_all.1 hw.2.2.2.2
 ·rw [hw.2.2.2];simp
 ·exact wfGl_all.1 hw.2.2.2.2.2
instance gshape_s:Con1 Tryz.prog 203 Gl vg (fun g=>bp g.wf) (fun g=>g.In):=.ind (fun g=>SizeOf.sizeOf g) fun N ih g hN hin=>by
 obtain ⟨k,s,ts,gs⟩:=g
 obtain ⟨_,hsz,htl,htin,hgl,hgin⟩:=Gl.in_iff.1 hin
 simp only [Gl.kind_mk,Gl.name_mk,Gl.terms_mk,Gl.goals_mk] at hsz htl htin hgl hgin
 replace hgin:=InG.all.1 hgin
 have hlt:(rowsT ts).length=ts.length:=rowsT_len _
 have hlg:(rowsG gs).length=gs.length:=rowsG_len _
 have p0:Lng ts.length∧InL ts:=⟨htl,htin⟩
 refine pu Tryz.func203 rfl Tryz.ntmps203 rfl rfl fun C=>?_
 (repeat' first|(refine kkS [] [6] ?_;intros)|fail)
 rename_i b1
 by_cases h10:0≤k∧k≤10
 case neg=>
  (repeat' first|(refine kk ?_;intros)|refine kfk ?_ ?_<;>intro hb|fail)
  all_goals first
   | exact absurd (by assumption) h10
   | (refine kret (bpF fun w=>?_);have w:=(Gl.wf_iff.1 w).2;simp only [Gl.kind_mk] at w;omega)
 by_cases ht:∀ t∈ts,t.ok
 case neg=>
  (repeat' first|(refine kk ?_;intros)|refine kfk ?_ ?_<;>intro hb|fail)
  all_goals first
   | exact kret (bpF fun w=>ht (Gl.wf_iff.1 w).1)
   | exact absurd (by assumption) ht
 haveI:=allYes_s
 haveI:=inYes_s
 have p1:=And.intro p0 ht
 rcases (show k=0∨k=1∨k=2∨k=3∨k=4∨k=5∨k=6∨k=7∨k=8∨k=9∨k=10 by omega) with rfl|rfl|rfl|rfl|rfl|rfl|rfl|rfl|rfl|rfl|rfl
 ·have hw:=Gl.wf_iff (g:=.mk 0 s ts gs)
  simp only [Gl.kind_mk,Gl.name_mk,Gl.terms_mk,Gl.goals_mk,Int.reduceEq,false_or,or_false,false_and,true_and,or_self,and_self,true_or,or_true] at hw
  (repeat' first|(refine kkS [] [32] ?_;intros)|refine kfS [] [32] ?_ ?_<;>intro hb|fail)
  iterate 1 (· refine kret (bpF fun w=>?_);have w:=(hw.1 w).2;first|omega|(simp_all [noS];done)|(simp_all [noS];omega))
  refine kr ?_ (h:=P_index _ _ 0 rfl rfl rfl)
  (repeat' first|(refine kk ?_;intros)|refine kfk ?_ ?_<;>intro hb|fail)
  iterate 2 (· refine kret (bpF fun w=>?_);have w:=(hw.1 w).2;first|omega|(simp_all [noS];done)|(simp_all [noS];omega))
  refine kfor (ι:=Unit) gs (fun j _=>[(1,.one (.v (.pointer (some ⟨b1,0,none⟩)))),(61,.one (.s 4 (rowsG gs)))]) (fun j _=>[abox b1 (encG (.mk 0 s ts gs)) 59]) (fun j _=>∀ x∈(gs).take j,x.wf) () (by simp) ?_ ?_
  ·rintro j x _ hj hd hjl hp
   have hx:=hgin x (List.mem_of_getElem? hj)
   have hs:=Gl.kid_lt (g:=.mk 0 s ts gs) hj
   have s1:SizeOf.sizeOf x < N∧x.In:=⟨by omega,hx⟩
   (repeat' first|(refine kk ?_;intros)|refine kfk ?_ ?_<;>intro hb|fail)
   ·exact kret (bpF fun w=>hb (wf_kids w x (List.mem_of_getElem? hj)))
   ·exact ⟨(),take_succ_allP hj hp hb,kwk⟩
  ·rintro _ hall
   rw [List.take_length] at hall
   (repeat' first|(refine kk ?_;intros)|refine kfk ?_ ?_<;>intro hb|fail)
   exact kret (bpT (hw.2 ⟨ht,by assumption,List.length_eq_zero_iff.1 (by omega),List.length_eq_zero_iff.1 (by omega)⟩))
 ·have hw:=Gl.wf_iff (g:=.mk 1 s ts gs)
  simp only [Gl.kind_mk,Gl.name_mk,Gl.terms_mk,Gl.goals_mk,Int.reduceEq,false_or,or_false,false_and,true_and,or_self,and_self,true_or,or_true] at hw
  (repeat' first|(refine kkS [] [32] ?_;intros)|refine kfS [] [32] ?_ ?_<;>intro hb|fail)
  iterate 1 (· refine kret (bpF fun w=>?_);have w:=(hw.1 w).2;first|omega|(simp_all [noS];done)|(simp_all [noS];omega))
  refine kr ?_ (h:=P_index _ _ 1 rfl rfl rfl)
  (repeat' first|(refine kk ?_;intros)|refine kfk ?_ ?_<;>intro hb|fail)
  iterate 2 (· refine kret (bpF fun w=>?_);have w:=(hw.1 w).2;first|omega|(simp_all [noS];done)|(simp_all [noS];omega))
  refine kfor (ι:=Unit) gs (fun j _=>[(1,.one (.v (.pointer (some ⟨b1,0,none⟩)))),(61,.one (.s 4 (rowsG gs)))]) (fun j _=>[abox b1 (encG (.mk 1 s ts gs)) 59]) (fun j _=>∀ x∈(gs).take j,x.wf) () (by simp) ?_ ?_
  ·rintro j x _ hj hd hjl hp
   have hx:=hgin x (List.mem_of_getElem? hj)
   have hs:=Gl.kid_lt (g:=.mk 1 s ts gs) hj
   have s1:SizeOf.sizeOf x < N∧x.In:=⟨by omega,hx⟩
   (repeat' first|(refine kk ?_;intros)|refine kfk ?_ ?_<;>intro hb|fail)
   ·exact kret (bpF fun w=>hb (wf_kids w x (List.mem_of_getElem? hj)))
   ·exact ⟨(),take_succ_allP hj hp hb,kwk⟩
  ·rintro _ hall
   rw [List.take_length] at hall
   (repeat' first|(refine kk ?_;intros)|refine kfk ?_ ?_<;>intro hb|fail)
   exact kret (bpT (hw.2 ⟨ht,by assumption,List.length_eq_zero_iff.1 (by omega),List.length_eq_zero_iff.1 (by omega)⟩))
 ·have hw:=Gl.wf_iff (g:=.mk 2 s ts gs)
  simp only [Gl.kind_mk,Gl.name_mk,Gl.terms_mk,Gl.goals_mk,Int.reduceEq,false_or,or_false,false_and,true_and,or_self,and_self,true_or,or_true] at hw
  (repeat' first|(refine kkS [] [32] ?_;intros)|refine kfS [] [32] ?_ ?_<;>intro hb|fail)
  iterate 1 (· refine kret (bpF fun w=>?_);have w:=(hw.1 w).2;first|omega|(simp_all [noS];done)|(simp_all [noS];omega))
  refine kr ?_ (h:=P_index _ _ 2 rfl rfl rfl)
  (repeat' first|(refine kk ?_;intros)|refine kfk ?_ ?_<;>intro hb|fail)
  iterate 2 (· refine kret (bpF fun w=>?_);have w:=(hw.1 w).2;first|omega|(simp_all [noS];done)|(simp_all [noS];omega))
  refine kfor (ι:=Unit) gs (fun j _=>[(1,.one (.v (.pointer (some ⟨b1,0,none⟩)))),(61,.one (.s 4 (rowsG gs)))]) (fun j _=>[abox b1 (encG (.mk 2 s ts gs)) 59]) (fun j _=>∀ x∈(gs).take j,x.wf) () (by simp) ?_ ?_
  ·rintro j x _ hj hd hjl hp
   have hx:=hgin x (List.mem_of_getElem? hj)
   have hs:=Gl.kid_lt (g:=.mk 2 s ts gs) hj
   have s1:SizeOf.sizeOf x < N∧x.In:=⟨by omega,hx⟩
   (repeat' first|(refine kk ?_;intros)|refine kfk ?_ ?_<;>intro hb|fail)
   ·exact kret (bpF fun w=>hb (wf_kids w x (List.mem_of_getElem? hj)))
   ·exact ⟨(),take_succ_allP hj hp hb,kwk⟩
  ·rintro _ hall
   rw [List.take_length] at hall
   (repeat' first|(refine kk ?_;intros)|refine kfk ?_ ?_<;>intro hb|fail)
   exact kret (bpT (hw.2 ⟨ht,by assumption,by omega,List.length_eq_zero_iff.1 (by omega)⟩))
 ·have hw:=Gl.wf_iff (g:=.mk 3 s ts gs)
  simp only [Gl.kind_mk,Gl.name_mk,Gl.terms_mk,Gl.goals_mk,Int.reduceEq,false_or,or_false,false_and,true_and,or_self,and_self,true_or,or_true] at hw
  (repeat' first|(refine kkS [] [32] ?_;intros)|refine kfS [] [32] ?_ ?_<;>intro hb|fail)
  iterate 1 (· refine kret (bpF fun w=>?_);have w:=(hw.1 w).2;first|omega|(simp_all [noS];done)|(simp_all [noS];omega))
  refine kr ?_ (h:=P_index _ _ 3 rfl rfl rfl)
  (repeat' first|(refine kk ?_;intros)|refine kfk ?_ ?_<;>intro hb|fail)
  iterate 2 (· refine kret (bpF fun w=>?_);have w:=(hw.1 w).2;first|omega|(simp_all [noS];done)|(simp_all [noS];omega))
  refine kfor (ι:=Unit) gs (fun j _=>[(1,.one (.v (.pointer (some ⟨b1,0,none⟩)))),(61,.one (.s 4 (rowsG gs)))]) (fun j _=>[abox b1 (encG (.mk 3 s ts gs)) 59]) (fun j _=>∀ x∈(gs).take j,x.wf) () (by simp) ?_ ?_
  ·rintro j x _ hj hd hjl hp
   have hx:=hgin x (List.mem_of_getElem? hj)
   have hs:=Gl.kid_lt (g:=.mk 3 s ts gs) hj
   have s1:SizeOf.sizeOf x < N∧x.In:=⟨by omega,hx⟩
   (repeat' first|(refine kk ?_;intros)|refine kfk ?_ ?_<;>intro hb|fail)
   ·exact kret (bpF fun w=>hb (wf_kids w x (List.mem_of_getElem? hj)))
   ·exact ⟨(),take_succ_allP hj hp hb,kwk⟩
  ·rintro _ hall
   rw [List.take_length] at hall
   (repeat' first|(refine kk ?_;intros)|refine kfk ?_ ?_<;>intro hb|fail)
   exact kret (bpT (hw.2 ⟨ht,by assumption,by omega,List.length_eq_zero_iff.1 (by omega)⟩))
 ·have hw:=Gl.wf_iff (g:=.mk 4 s ts gs)
  simp only [Gl.kind_mk,Gl.name_mk,Gl.terms_mk,Gl.goals_mk,Int.reduceEq,false_or,or_false,false_and,true_and,or_self,and_self,true_or,or_true] at hw
  (repeat' first|(refine kkS [] [32] ?_;intros)|refine kfS [] [32] ?_ ?_<;>intro hb|fail)
  iterate 1 (· refine kret (bpF fun w=>?_);have w:=(hw.1 w).2;first|omega|(simp_all [noS];done)|(simp_all [noS];omega))
  refine kr ?_ (h:=P_index _ _ 4 rfl rfl rfl)
  (repeat' first|(refine kk ?_;intros)|refine kfk ?_ ?_<;>intro hb|fail)
  iterate 2 (· refine kret (bpF fun w=>?_);have w:=(hw.1 w).2;first|omega|(simp_all [noS];done)|(simp_all [noS];omega))
  refine kfor (ι:=Unit) gs (fun j _=>[(1,.one (.v (.pointer (some ⟨b1,0,none⟩)))),(61,.one (.s 4 (rowsG gs)))]) (fun j _=>[abox b1 (encG (.mk 4 s ts gs)) 59]) (fun j _=>∀ x∈(gs).take j,x.wf) () (by simp) ?_ ?_
  ·rintro j x _ hj hd hjl hp
   have hx:=hgin x (List.mem_of_getElem? hj)
   have hs:=Gl.kid_lt (g:=.mk 4 s ts gs) hj
   have s1:SizeOf.sizeOf x < N∧x.In:=⟨by omega,hx⟩
   (repeat' first|(refine kk ?_;intros)|refine kfk ?_ ?_<;>intro hb|fail)
   ·exact kret (bpF fun w=>hb (wf_kids w x (List.mem_of_getElem? hj)))
   ·exact ⟨(),take_succ_allP hj hp hb,kwk⟩
  ·rintro _ hall
   rw [List.take_length] at hall
   (repeat' first|(refine kk ?_;intros)|refine kfk ?_ ?_<;>intro hb|fail)
   exact kret (bpT (hw.2 ⟨ht,by assumption,by omega,List.length_eq_zero_iff.1 (by omega)⟩))
 ·have hw:=Gl.wf_iff (g:=.mk 5 s ts gs)
  simp only [Gl.kind_mk,Gl.name_mk,Gl.terms_mk,Gl.goals_mk,Int.reduceEq,false_or,or_false,false_and,true_and,or_self,and_self,true_or,or_true] at hw
  (repeat' first|(refine kkS [] [32] ?_;intros)|refine kfS [] [32] ?_ ?_<;>intro hb|fail)
  iterate 1 (· refine kret (bpF fun w=>?_);have w:=(hw.1 w).2;first|omega|(simp_all [noS];done)|(simp_all [noS];omega))
  refine kr ?_ (h:=P_index _ _ 5 rfl rfl rfl)
  (repeat' first|(refine kk ?_;intros)|refine kfk ?_ ?_<;>intro hb|fail)
  iterate 2 (· refine kret (bpF fun w=>?_);have w:=(hw.1 w).2;first|omega|(simp_all [noS];done)|(simp_all [noS];omega))
  refine kfor (ι:=Unit) gs (fun j _=>[(1,.one (.v (.pointer (some ⟨b1,0,none⟩)))),(61,.one (.s 4 (rowsG gs)))]) (fun j _=>[abox b1 (encG (.mk 5 s ts gs)) 59]) (fun j _=>∀ x∈(gs).take j,x.wf) () (by simp) ?_ ?_
  ·rintro j x _ hj hd hjl hp
   have hx:=hgin x (List.mem_of_getElem? hj)
   have hs:=Gl.kid_lt (g:=.mk 5 s ts gs) hj
   have s1:SizeOf.sizeOf x < N∧x.In:=⟨by omega,hx⟩
   (repeat' first|(refine kk ?_;intros)|refine kfk ?_ ?_<;>intro hb|fail)
   ·exact kret (bpF fun w=>hb (wf_kids w x (List.mem_of_getElem? hj)))
   ·exact ⟨(),take_succ_allP hj hp hb,kwk⟩
  ·rintro _ hall
   rw [List.take_length] at hall
   (repeat' first|(refine kk ?_;intros)|refine kfk ?_ ?_<;>intro hb|fail)
   exact kret (bpT (hw.2 ⟨ht,by assumption,by omega,List.length_eq_zero_iff.1 (by omega)⟩))
 ·by_cases h2:ts.length=2
  ·obtain ⟨a,b,rfl⟩:=len2 h2
   have hw:=Gl.wf_iff (g:=.mk 6 s [a,b] gs)
   simp only [Gl.kind_mk,Gl.name_mk,Gl.terms_mk,Gl.goals_mk,Int.reduceEq,false_or,or_false,false_and,true_and,or_self,and_self,true_or,or_true] at hw
   (repeat' first|(refine kkS [] [32] ?_;intros)|refine kfS [] [32] ?_ ?_<;>intro hb|fail)
   iterate 1 (· refine kret (bpF fun w=>?_);have w:=(hw.1 w).2;first|omega|(simp_all [noS];done)|(simp_all [noS];omega))
   refine kr ?_ (h:=P_index _ _ 6 rfl rfl rfl)
   (repeat' first|(refine kk ?_;intros)|refine kfk ?_ ?_<;>intro hb|fail)
   iterate 1 (· refine kret (bpF fun w=>?_);have w:=(hw.1 w).2;first|omega|(simp_all [noS];done)|(simp_all [noS];omega))
   refine kfor (ι:=Unit) gs (fun j _=>[(1,.one (.v (.pointer (some ⟨b1,0,none⟩)))),(61,.one (.s 4 (rowsG gs)))]) (fun j _=>[abox b1 (encG (.mk 6 s [a,b] gs)) 59]) (fun j _=>∀ x∈(gs).take j,x.wf) () (by simp) ?_ ?_
   ·rintro j x _ hj hd hjl hp
    have hx:=hgin x (List.mem_of_getElem? hj)
    have hs:=Gl.kid_lt (g:=.mk 6 s [a,b] gs) hj
    have s1:SizeOf.sizeOf x < N∧x.In:=⟨by omega,hx⟩
    (repeat' first|(refine kk ?_;intros)|refine kfk ?_ ?_<;>intro hb|fail)
    ·exact kret (bpF fun w=>hb (wf_kids w x (List.mem_of_getElem? hj)))
    ·exact ⟨(),take_succ_allP hj hp hb,kwk⟩
   ·rintro _ hall
    rw [List.take_length] at hall
    (repeat' first|(refine kk ?_;intros)|refine kfk ?_ ?_<;>intro hb|fail)
    exact kret (bpI (b:=a.kind == 2) ⟨fun h=>hw.2 ⟨ht,by assumption,by rfl,fun t h2=>by simp at h2;subst h2;simpa using h,List.length_eq_zero_iff.1 (by omega)⟩,fun w=>by have:=(hw.1 w).2.2.2.1 a rfl;simpa using this⟩)
  ·have hw:=Gl.wf_iff (g:=.mk 6 s ts gs)
   simp only [Gl.kind_mk,Gl.name_mk,Gl.terms_mk,Gl.goals_mk,Int.reduceEq,false_or,or_false,false_and,true_and,or_self,and_self,true_or,or_true] at hw
   (repeat' first|(refine kkS [] [32] ?_;intros)|refine kfS [] [32] ?_ ?_<;>intro hb|fail)
   iterate 1 (· refine kret (bpF fun w=>?_);have w:=(hw.1 w).2;first|omega|(simp_all [noS];done)|(simp_all [noS];omega))
   refine kr ?_ (h:=P_index _ _ 6 rfl rfl rfl)
   (repeat' first|(refine kk ?_;intros)|refine kfk ?_ ?_<;>intro hb|fail)
   iterate 1 (· refine kret (bpF fun w=>?_);have w:=(hw.1 w).2;first|omega|(simp_all [noS];done)|(simp_all [noS];omega))
 ·have hw:=Gl.wf_iff (g:=.mk 7 s ts gs)
  simp only [Gl.kind_mk,Gl.name_mk,Gl.terms_mk,Gl.goals_mk,Int.reduceEq,false_or,or_false,false_and,true_and,or_self,and_self,true_or,or_true] at hw
  (repeat' first|(refine kkS [] [32] ?_;intros)|refine kfS [] [32] ?_ ?_<;>intro hb|fail)
  iterate 1 (· refine kret (bpF fun w=>?_);have w:=(hw.1 w).2;first|omega|(simp_all [noS];done)|(simp_all [noS];omega))
  refine kr ?_ (h:=P_index _ _ 7 rfl rfl rfl)
  (repeat' first|(refine kk ?_;intros)|refine kfk ?_ ?_<;>intro hb|fail)
  iterate 2 (· refine kret (bpF fun w=>?_);have w:=(hw.1 w).2;first|omega|(simp_all [noS];done)|(simp_all [noS];omega))
  refine kfor (ι:=Unit) gs (fun j _=>[(1,.one (.v (.pointer (some ⟨b1,0,none⟩)))),(61,.one (.s 4 (rowsG gs)))]) (fun j _=>[abox b1 (encG (.mk 7 s ts gs)) 59]) (fun j _=>∀ x∈(gs).take j,x.wf) () (by simp) ?_ ?_
  ·rintro j x _ hj hd hjl hp
   have hx:=hgin x (List.mem_of_getElem? hj)
   have hs:=Gl.kid_lt (g:=.mk 7 s ts gs) hj
   have s1:SizeOf.sizeOf x < N∧x.In:=⟨by omega,hx⟩
   (repeat' first|(refine kk ?_;intros)|refine kfk ?_ ?_<;>intro hb|fail)
   ·exact kret (bpF fun w=>hb (wf_kids w x (List.mem_of_getElem? hj)))
   ·exact ⟨(),take_succ_allP hj hp hb,kwk⟩
  ·rintro _ hall
   rw [List.take_length] at hall
   (repeat' first|(refine kk ?_;intros)|refine kfk ?_ ?_<;>intro hb|fail)
   exact kret (bpT (hw.2 ⟨ht,by assumption,List.length_eq_zero_iff.1 (by omega),by omega,wfGl_all.2 hall⟩))
 ·have hw:=Gl.wf_iff (g:=.mk 8 s ts gs)
  simp only [Gl.kind_mk,Gl.name_mk,Gl.terms_mk,Gl.goals_mk,Int.reduceEq,false_or,or_false,false_and,true_and,or_self,and_self,true_or,or_true] at hw
  (repeat' first|(refine kkS [] [32] ?_;intros)|refine kfS [] [32] ?_ ?_<;>intro hb|fail)
  iterate 1 (· refine kret (bpF fun w=>?_);have w:=(hw.1 w).2;first|omega|(simp_all [noS];done)|(simp_all [noS];omega))
  refine kr ?_ (h:=P_index _ _ 8 rfl rfl rfl)
  (repeat' first|(refine kk ?_;intros)|refine kfk ?_ ?_<;>intro hb|fail)
  iterate 2 (· refine kret (bpF fun w=>?_);have w:=(hw.1 w).2;first|omega|(simp_all [noS];done)|(simp_all [noS];omega))
  refine kfor (ι:=Unit) gs (fun j _=>[(1,.one (.v (.pointer (some ⟨b1,0,none⟩)))),(61,.one (.s 4 (rowsG gs)))]) (fun j _=>[abox b1 (encG (.mk 8 s ts gs)) 59]) (fun j _=>∀ x∈(gs).take j,x.wf) () (by simp) ?_ ?_
  ·rintro j x _ hj hd hjl hp
   have hx:=hgin x (List.mem_of_getElem? hj)
   have hs:=Gl.kid_lt (g:=.mk 8 s ts gs) hj
   have s1:SizeOf.sizeOf x < N∧x.In:=⟨by omega,hx⟩
   (repeat' first|(refine kk ?_;intros)|refine kfk ?_ ?_<;>intro hb|fail)
   ·exact kret (bpF fun w=>hb (wf_kids w x (List.mem_of_getElem? hj)))
   ·exact ⟨(),take_succ_allP hj hp hb,kwk⟩
  ·rintro _ hall
   rw [List.take_length] at hall
   (repeat' first|(refine kk ?_;intros)|refine kfk ?_ ?_<;>intro hb|fail)
   exact kret (bpT (hw.2 ⟨ht,by assumption,List.length_eq_zero_iff.1 (by omega),by omega,wfGl_all.2 hall⟩))
 ·have hw:=Gl.wf_iff (g:=.mk 9 s ts gs)
  simp only [Gl.kind_mk,Gl.name_mk,Gl.terms_mk,Gl.goals_mk,Int.reduceEq,false_or,or_false,false_and,true_and,or_self,and_self,true_or,or_true] at hw
  (repeat' first|(refine kkS [] [32] ?_;intros)|fail)
  refine kr ?_ (h:=P_index _ _ 9 rfl rfl rfl)
  (repeat' first|(refine kk ?_;intros)|refine kfk ?_ ?_<;>intro hb|fail)
  iterate 2 (· refine kret (bpF fun w=>?_);have w:=(hw.1 w).2;first|omega|(simp_all [noS];done)|(simp_all [noS];omega))
  refine kfor (ι:=Unit) gs (fun j _=>[(1,.one (.v (.pointer (some ⟨b1,0,none⟩)))),(61,.one (.s 4 (rowsG gs)))]) (fun j _=>[abox b1 (encG (.mk 9 s ts gs)) 59]) (fun j _=>∀ x∈(gs).take j,x.wf) () (by simp) ?_ ?_
  ·rintro j x _ hj hd hjl hp
   have hx:=hgin x (List.mem_of_getElem? hj)
   have hs:=Gl.kid_lt (g:=.mk 9 s ts gs) hj
   have s1:SizeOf.sizeOf x < N∧x.In:=⟨by omega,hx⟩
   (repeat' first|(refine kk ?_;intros)|refine kfk ?_ ?_<;>intro hb|fail)
   ·exact kret (bpF fun w=>hb (wf_kids w x (List.mem_of_getElem? hj)))
   ·exact ⟨(),take_succ_allP hj hp hb,kwk⟩
  ·rintro _ hall
   rw [List.take_length] at hall
   (repeat' first|(refine kk ?_;intros)|refine kfk ?_ ?_<;>intro hb|fail)
   ·exact kret (bpC ⟨fun h=>hw.2 ⟨ht,h,by omega,List.length_eq_zero_iff.1 (by omega)⟩,fun w=>(hw.1 w).2.1⟩)
   ·exact kret (bpF fun w=>by have w:=(hw.1 w).2;simp_all)
 ·by_cases h2:gs.length=1
  ·obtain ⟨x0,rfl⟩:=len1 h2
   have hw:=Gl.wf_iff (g:=.mk 10 s ts [x0])
   simp only [Gl.kind_mk,Gl.name_mk,Gl.terms_mk,Gl.goals_mk,Int.reduceEq,false_or,or_false,false_and,true_and,or_self,and_self,true_or,or_true] at hw
   (repeat' first|(refine kkS [] [32] ?_;intros)|refine kfS [] [32] ?_ ?_<;>intro hb|fail)
   iterate 1 (· refine kret (bpF fun w=>?_);have w:=(hw.1 w).2;first|omega|(simp_all [noS];done)|(simp_all [noS];omega))
   refine kr ?_ (h:=P_index _ _ 10 rfl rfl rfl)
   (repeat' first|(refine kk ?_;intros)|refine kfk ?_ ?_<;>intro hb|fail)
   iterate 1 (· refine kret (bpF fun w=>?_);have w:=(hw.1 w).2;first|omega|(simp_all [noS];done)|(simp_all [noS];omega))
   refine kfor (ι:=Unit) [x0] (fun j _=>[(1,.one (.v (.pointer (some ⟨b1,0,none⟩)))),(61,.one (.s 4 (rowsG [x0])))]) (fun j _=>[abox b1 (encG (.mk 10 s ts [x0])) 59]) (fun j _=>∀ x∈([x0]).take j,x.wf) () (by simp) ?_ ?_
   ·rintro j x _ hj hd hjl hp
    have hx:=hgin x (List.mem_of_getElem? hj)
    have hs:=Gl.kid_lt (g:=.mk 10 s ts [x0]) hj
    have s1:SizeOf.sizeOf x < N∧x.In:=⟨by omega,hx⟩
    (repeat' first|(refine kk ?_;intros)|refine kfk ?_ ?_<;>intro hb|fail)
    ·exact kret (bpF fun w=>hb (wf_kids w x (List.mem_of_getElem? hj)))
    ·exact ⟨(),take_succ_allP hj hp hb,kwk⟩
   ·rintro _ hall
    rw [List.take_length] at hall
    (repeat' first|(refine kk ?_;intros)|refine kfk ?_ ?_<;>intro hb|fail)
    exact kret (bpI (b:=x0.kind == 9) ⟨fun h=>hw.2 ⟨ht,by assumption,List.length_eq_zero_iff.1 (by omega),rfl,fun y h2=>by simp at h2;subst h2;simpa using h,wfGl_all.2 hall⟩,fun w=>by have:=(hw.1 w).2.2.2.2.1 x0 rfl;simpa using this⟩)
  ·have hw:=Gl.wf_iff (g:=.mk 10 s ts gs)
   simp only [Gl.kind_mk,Gl.name_mk,Gl.terms_mk,Gl.goals_mk,Int.reduceEq,false_or,or_false,false_and,true_and,or_self,and_self,true_or,or_true] at hw
   (repeat' first|(refine kkS [] [32] ?_;intros)|refine kfS [] [32] ?_ ?_<;>intro hb|fail)
   iterate 1 (· refine kret (bpF fun w=>?_);have w:=(hw.1 w).2;first|omega|(simp_all [noS];done)|(simp_all [noS];omega))
   refine kr ?_ (h:=P_index _ _ 10 rfl rfl rfl)
   (repeat' first|(refine kk ?_;intros)|refine kfk ?_ ?_<;>intro hb|fail)
   iterate 2 (· refine kret (bpF fun w=>?_);have w:=(hw.1 w).2;first|omega|(simp_all [noS];done)|(simp_all [noS];omega))
   refine kfor (ι:=Unit) gs (fun j _=>[(1,.one (.v (.pointer (some ⟨b1,0,none⟩)))),(61,.one (.s 4 (rowsG gs)))]) (fun j _=>[abox b1 (encG (.mk 10 s ts gs)) 59]) (fun j _=>∀ x∈(gs).take j,x.wf) () (by simp) ?_ ?_
   ·rintro j x _ hj hd hjl hp
    have hx:=hgin x (List.mem_of_getElem? hj)
    have hs:=Gl.kid_lt (g:=.mk 10 s ts gs) hj
    have s1:SizeOf.sizeOf x < N∧x.In:=⟨by omega,hx⟩
    (repeat' first|(refine kk ?_;intros)|refine kfk ?_ ?_<;>intro hb|fail)
    ·exact kret (bpF fun w=>hb (wf_kids w x (List.mem_of_getElem? hj)))
    ·exact ⟨(),take_succ_allP hj hp hb,kwk⟩
   ·rintro _ hall
    rw [List.take_length] at hall
    (repeat' first|(refine kk ?_;intros)|refine kfk ?_ ?_<;>intro hb|fail)
    exact kret (bpF fun w=>h2 (hw.1 w).2.2.2.1)
instance goalOk_s:Con1 Tryz.prog 161 Gl vg (fun g=>bp g.ok) (fun g=>g.In):=⟨fun g hin=>by
 have hc:=gcnt_nodes g 80 (by omega)
 refine pu Tryz.func161 rfl Tryz.ntmps161 rfl rfl fun C=>?_
 (repeat' first|(refine kk ?_;intros)|refine kfk ?_ ?_<;>intro hb|fail)
 all_goals first
  | exact kret (bpC ⟨fun w=>⟨w,by omega⟩,fun w=>w.1⟩)
  | exact kret (bpF fun w=>by have:=w.2;omega)⟩
instance goalOk_i:Con1 Tryz.prog 110 Gl vg (fun g=>bp g.ok) (fun g=>g.In):=⟨fun g hin=>by
 have hp:=g.nodes_pos
 refine pu Tryz.func110 rfl Tryz.ntmps110 rfl rfl fun C=>?_
 (repeat' first|(refine kk ?_;intros)|refine kfk ?_ ?_<;>intro hb|fail)
 refine kret (bpI ⟨fun w=>?_,fun w=>?_⟩)
 ·have:=@gnR_pos g 80 (by simp at w;omega)
  exact ⟨this.1,by omega⟩
 ·have:=gnR_of (room:=80) w.1 (by have:=w.2;omega)
  simp;omega⟩
end
end Go.Proofs.YtejkllmoofdpjaaGreat
