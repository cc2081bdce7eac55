/- Parts of the proof: VU6 VP1 VP2 VP3 VP4. -/
import Derived.Test.YtejkllmoofdpjaaGreatD8
import Derived.Laws.Strings
import Derived.Sort.Statements
namespace Go.Proofs.YtejkllmoofdpjaaGreat
open Go
set_option linter.all false
set_option maxRecDepth 100000
set_option maxHeartbeats 4000000
section
variable {up:Nat→Option Nat} {sh:Nat→Option T} {σ:Su}
theorem bnd_iff (h:CI up sh σ) {v x:Nat} (hx:Up up v x):Bnd σ v↔¬ (x=v∧sh x=none):=by
 unfold Bnd
 constructor
 ·rintro hb ⟨rfl,hs⟩
  exact hb (h.sem.free x hx hs)
 ·intro hn e
  have hc:=h.sem.says.cls v x hx
  cases hs:sh x with
  | none=>
   rw [h.sem.free x hx.root hs,e] at hc
   cases hc;exact hn ⟨rfl,hs⟩
  | some t=>
   rw [h.sem.says.shp x t hx.root hs,e] at hc
   cases t with
   | var n=>exact h.sem.flat x _ n hx.root hs rfl
   | _=>cases hc
theorem free_unmet (h:CI up sh σ) {v:Nat} (hv:up v=none):σ v=.var v:=by
 refine h.sem.free v (.self (.inl hv)) ?_
 cases hs:sh v with
 | none=>rfl
 | some t=>exact absurd hv (h.shm v (by rw [hs];simp))
noncomputable def outS (σ:Su) (D:List Nat):Sb:=open Classical in (D.filter fun v=>decide (Bnd σ v)).map fun v=>(v,σ v)
theorem mem_outS {D:List Nat} {b:Nat × T}:b∈outS σ D↔b.1∈D∧Bnd σ b.1∧b.2=σ b.1:=by
 unfold outS
 simp only [List.mem_map,List.mem_filter,decide_eq_true_eq]
 constructor
 ·rintro ⟨v,⟨h1,h2⟩,rfl⟩;exact ⟨h1,h2,rfl⟩
 ·rintro ⟨h1,h2,h3⟩;exact ⟨b.1,⟨h1,h2⟩,Prod.ext rfl h3.symm⟩
theorem outS_asc {D:List Nat} (hD:D.Pairwise (· < ·)):Asc (outS σ D):=by
 unfold outS Asc
 rw [List.pairwise_map]
 exact hD.sublist List.filter_sublist
theorem outS_snoc_bnd {D:List Nat} {v:Nat} (h:Bnd σ v):outS σ (D++[v])=outS σ D++[(v,σ v)]:=by
 unfold outS;rw [List.filter_append,List.map_append];simp [h]
theorem outS_snoc_free {D:List Nat} {v:Nat} (h:¬ Bnd σ v):outS σ (D++[v])=outS σ D:=by
 unfold outS;rw [List.filter_append,List.map_append];simp [h]
theorem suOf_outS {D:List Nat} (hD:D.Pairwise (· < ·)) (hm:∀ v,Bnd σ v→v∈D):suOf (outS σ D)=σ:=by
 funext v
 by_cases hb:Bnd σ v
 ·have hmem:(v,σ v)∈outS σ D:=mem_outS.2 ⟨hm v hb,hb,rfl⟩
  exact suOf_mem (outS_asc hD) hmem
 ·have hb':σ v=.var v:=by unfold Bnd at hb;simpa using hb
  unfold suOf
  rw [getS_none fun x hx=>?_,hb'];rfl
  rintro rfl
  exact hb (mem_outS.1 hx).2.1
theorem mg_outS {U:Su→Prop} (hc:Can U σ) {D:List Nat} (hD:D.Pairwise (· < ·)) (hm:∀ v,Bnd σ v→v∈D) (hl:(outS σ D).length≤400) (hs:∀ v∈D,Bnd σ v→(σ v).nodes≤5000):mg U=some (outS σ D):=by
 have e:=suOf_outS hD hm
 refine mg_eq (by rw [e];exact hc) ⟨outS_asc hD,hl,fun b hb=>?_,fun b hb=>?_⟩
 ·obtain ⟨h1,h2,h3⟩:=mem_outS.1 hb
  rw [h3];exact hs _ h1 h2
 ·rw [e];exact (mem_outS.1 hb).2.1
theorem mg_big {U:Su→Prop} (hc:Can U σ) (hb:Big σ):mg U=none:=by
 cases h:mg U with
 | none=>rfl
 | some s=>
  obtain ⟨h1,h2⟩:=mg_some h
  rw [hc.unique h1] at hb
  exact absurd hb h2.small
theorem big_size {v:Nat} (h:Bnd σ v) (hs:5000 < (σ v).nodes):Big σ:=.inl ⟨v,h,hs⟩
theorem big_len {D:List Nat} (hD:D.Pairwise (· < ·)) (h:400 < (outS σ D).length):Big σ:=by
 refine .inr ⟨(outS σ D).map (·.1),?_,by simpa using h,fun v hv=>?_⟩
 ·exact List.pairwise_map.2 ((outS_asc hD).imp fun h=>Nat.ne_of_lt h)
 ·obtain ⟨b,hb,rfl⟩:=List.mem_map.1 hv
  exact (mem_outS.1 hb).2.1
end
theorem ci_none:CI (fun _=>none) (fun _=>none) .var:=by
 have hu:∀ v x,Up (fun _=>none) v x→x=v:=fun v x h=>by
  cases h with
  | self=>rfl
  | step h=>cases h
 exact ⟨fun v u h=>(by cases h),fun r t _ h=>(by cases h),⟨fun v u h=>(by cases h),fun x t n _ h=>(by cases h),⟨fun v x h=>(by rw [hu v x h]),fun x t _ h=>(by cases h)⟩,fun x _ _=>rfl⟩,fun r h=>absurd rfl h⟩
theorem says_none (τ:Su):Says (fun _=>none) (fun _=>none) τ:=by
 refine ⟨fun v x h=>?_,fun x t _ h=>by cases h⟩
 cases h with
 | self=>rfl
 | step h=>cases h
theorem mg_none_of {U:Su→Prop} (h:∀ τ,¬ U τ):mg U=none:=mg_fails (Fails.of_none h)
structure TotC {α:Type} (c:α→α→Int):Prop where
 eq:∀ a b,c a b=0↔a=b
 anti:∀ a b,c b a=- c a b
 trans:∀ a b d,c a b=-1→c b d=-1→c a d=-1
 val:∀ a b,c a b=-1∨c a b=0∨c a b=1
section
variable {α β:Type} {c:α→α→Int} {c':β→β→Int}
theorem TotC.self (h:TotC c) (a:α):c a a=0:=(h.eq a a).2 rfl
theorem TotC.le {h:TotC c} {a b d:α} (h1:c a b≠1) (h2:c b d≠1):c a d≠1:=by
 rcases h.val a b with e|e|e
 ·rcases h.val b d with f|f|f
  ·rw [h.trans a b d e f];decide
  ·rw [← (h.eq b d).1 f,e];decide
  ·exact absurd f h2
 ·rw [(h.eq a b).1 e];exact h2
 ·exact absurd e h1
def prodC (c:α→α→Int) (c':β→β→Int) (x y:α × β):Int:=if c x.1 y.1≠0 then c x.1 y.1 else c' x.2 y.2
theorem TotC.prod (h:TotC c) (h':TotC c'):TotC (prodC c c'):=by
 refine ⟨fun a b=>?_,fun a b=>?_,fun a b d h1 h2=>?_,fun a b=>?_⟩
 ·unfold prodC
  split
  ·rename_i hn
   exact ⟨fun e=>absurd e hn,fun e=>by rw [e] at hn;exact absurd (h.self _) hn⟩
  ·rename_i hn
   have hn:c a.1 b.1=0:=by simpa using hn
   rw [h'.eq]
   exact ⟨fun e=>Prod.ext ((h.eq _ _).1 hn) e,fun e=>by rw [e]⟩
 ·unfold prodC
  rw [h.anti,h'.anti]
  by_cases hn:c a.1 b.1=0
  ·simp [hn]
  ·have:- c a.1 b.1≠0:=by omega
   simp [hn]
 ·unfold prodC at *
  by_cases e1:c a.1 b.1=0
  ·rw [if_neg (by simpa using e1)] at h1
   have e1':=(h.eq _ _).1 e1
   rw [e1']
   by_cases e2:c b.1 d.1=0
   ·rw [if_neg (by simpa using e2)] at h2 ⊢
    exact h'.trans _ _ _ h1 h2
   ·rw [if_pos e2] at h2 ⊢;exact h2
  ·rw [if_pos e1] at h1
   by_cases e2:c b.1 d.1=0
   ·rw [← (h.eq _ _).1 e2,if_pos e1];exact h1
   ·rw [if_pos e2] at h2
    have e3:=h.trans _ _ _ h1 h2
    rw [if_pos (by rw [e3];decide)];exact e3
 ·unfold prodC
  split
  ·exact h.val _ _
  ·exact h'.val _ _
theorem TotC.by {f:β→α} (h:TotC c) (hf:∀ a b,f a=f b→a=b):TotC fun a b=>c (f a) (f b):=
 ⟨fun a b=>(h.eq _ _).trans ⟨hf a b,fun e=>by rw [e]⟩,fun a b=>h.anti _ _,fun a b d=>h.trans _ _ _,fun a b=>h.val _ _⟩
def lexC (c:α→α→Int):List α→List α→Int
 | [],[]=>0
 | [],_::_=>-1
 | _::_,[]=>1
 | a::l,b::m=>if c a b≠0 then c a b else lexC c l m
theorem TotC.lex (h:TotC c):TotC (lexC c):=by
 have anti:∀ a b:List α,lexC c b a=- lexC c a b:=by
  intro a
  induction a with
  | nil=>intro b;cases b<;>simp [lexC]
  | cons x l ih=>
   intro b
   cases b with
   | nil=>simp [lexC]
   | cons y m=>
    simp only [lexC]
    rw [h.anti x y,ih]
    by_cases hn:c x y=0
    ·simp [hn]
    ·simp [hn]
 refine ⟨fun a=>?_,anti,fun a=>?_,fun a=>?_⟩
 ·induction a with
  | nil=>intro b;cases b<;>simp [lexC]
  | cons x l ih=>
   intro b
   cases b with
   | nil=>simp [lexC]
   | cons y m=>
    simp only [lexC,List.cons.injEq]
    split
    ·rename_i hn
     exact ⟨fun e=>absurd e hn,fun e=>by rw [e.1] at hn;exact absurd (h.self _) hn⟩
    ·rename_i hn
     have hn:c x y=0:=by simpa using hn
     rw [ih,← h.eq x y]
     exact ⟨fun e=>⟨hn,e⟩,fun e=>e.2⟩
 ·induction a with
  | nil=>intro b d;cases b<;>cases d<;>simp [lexC]
  | cons x l ih=>
   intro b d
   cases b with
   | nil=>simp [lexC]
   | cons y m=>
    cases d with
    | nil=>simp [lexC]
    | cons z n=>
     simp only [lexC]
     intro h1 h2
     by_cases e1:c x y=0
     ·rw [if_neg (by simpa using e1)] at h1
      rw [(h.eq _ _).1 e1]
      by_cases e2:c y z=0
      ·rw [if_neg (by simpa using e2)] at h2 ⊢
       exact ih _ _ h1 h2
      ·rw [if_pos e2] at h2 ⊢;exact h2
     ·rw [if_pos e1] at h1
      by_cases e2:c y z=0
      ·rw [← (h.eq _ _).1 e2,if_pos e1];exact h1
      ·rw [if_pos e2] at h2
       have e3:=h.trans _ _ _ h1 h2
       rw [if_pos (by rw [e3];decide)];exact e3
 ·induction a with
  | nil=>intro b;cases b<;>simp [lexC]
  | cons x l ih=>
   intro b
   cases b with
   | nil=>simp [lexC]
   | cons y m=>
    simp only [lexC]
    split
    ·exact h.val _ _
    ·exact ih m
end
def cI (a b:Int):Int:=if a < b then -1 else if b < a then 1 else 0
theorem cI_tot:TotC cI:=by
 refine ⟨fun a b=>?_,fun a b=>?_,fun a b d=>?_,fun a b=>?_⟩<;>unfold cI<;>(repeat' split)<;>first|omega|simp<;>omega
theorem byteLess_irr:∀ l,Op.bytesLess l l=false
 | []=>rfl
 | a::l=>by
  unfold Op.bytesLess
  simp only [beq_self_eq_true,Bool.true_and,byteLess_irr l,Bool.or_false,decide_eq_false_iff_not]
  exact UInt8.lt_irrefl a
theorem byteLess_tri:∀ l m,Op.bytesLess l m=true∨l=m∨Op.bytesLess m l=true
 | [],[]=>.inr (.inl rfl)
 | [],_::_=>.inl rfl
 | _::_,[]=>.inr (.inr rfl)
 | a::l,b::m=>by
  unfold Op.bytesLess
  rcases UInt8.lt_or_lt_of_ne (a:=a) (b:=b) |> fun h=>(Classical.em (a=b)).imp id h with h|h
  ·subst h
   rcases byteLess_tri l m with h|h|h
   ·exact .inl (by simp [h])
   ·exact .inr (.inl (by rw [h]))
   ·exact .inr (.inr (by simp [h]))
  ·rcases h with h|h
   ·exact .inl (by simp [h])
   ·exact .inr (.inr (by simp [h]))
theorem byteLess_trans:∀ l m n,Op.bytesLess l m=true→Op.bytesLess m n=true→Op.bytesLess l n=true
 | [],[],_,h,_=>by cases h
 | _::_,[],_,h,_=>by simp [Op.bytesLess] at h
 | _,_::_,[],_,h=>by simp [Op.bytesLess] at h
 | [],_::_,_::_,_,_=>rfl
 | a::l,b::m,d::n,h1,h2=>by
  simp only [Op.bytesLess,Bool.or_eq_true,decide_eq_true_eq,Bool.and_eq_true,beq_iff_eq] at h1 h2 ⊢
  rcases h1 with h1 | ⟨h1,h1'⟩
  ·rcases h2 with h2 | ⟨h2,h2'⟩
   ·exact .inl (UInt8.lt_trans h1 h2)
   ·exact .inl (h2▸h1)
  ·subst h1
   rcases h2 with h2 | ⟨h2,h2'⟩
   ·exact .inl h2
   ·exact .inr ⟨h2,byteLess_trans l m n h1' h2'⟩
theorem bytes_ext' {a b:ByteArray} (h:a.toList=b.toList):a=b:=Go.WideShapes.bytes_inj (by rwa [ByteArray.toList_eq,ByteArray.toList_eq] at h)
def cB (a b:ByteArray):Int:=if a=b then 0 else if Op.bytesLess a.toList b.toList=true then -1 else 1
theorem cB_tot:TotC cB:=by
 have neg:∀ {a b:ByteArray},Op.bytesLess a.toList b.toList=true→Op.bytesLess b.toList a.toList=true→False:=fun h1 h2=>by
  have:=byteLess_trans _ _ _ h1 h2
  rw [byteLess_irr] at this;cases this
 have ne:∀ {a b:ByteArray},Op.bytesLess a.toList b.toList=true→a≠b:=fun h e=>by rw [e,byteLess_irr] at h;cases h
 refine ⟨fun a b=>?_,fun a b=>?_,fun a b d h1 h2=>?_,fun a b=>?_⟩
 ·unfold cB;split
  ·rename_i h;exact ⟨fun _=>h,fun _=>rfl⟩
  ·rename_i h;split<;>exact ⟨fun e=>(by cases e),fun e=>absurd e h⟩
 ·unfold cB
  by_cases h:a=b
  ·simp [h]
  ·rw [if_neg h,if_neg (Ne.symm h)]
   rcases byteLess_tri a.toList b.toList with e|e|e
   ·rw [if_pos e,if_neg fun e'=>neg e e'];rfl
   ·exact absurd (bytes_ext' e) h
   ·rw [if_pos e,if_neg fun e'=>neg e e']
 ·have l1:Op.bytesLess a.toList b.toList=true:=by
   unfold cB at h1;split at h1;cases h1;split at h1;assumption;cases h1
  have l2:Op.bytesLess b.toList d.toList=true:=by
   unfold cB at h2;split at h2;cases h2;split at h2;assumption;cases h2
  have l3:=byteLess_trans _ _ _ l1 l2
  unfold cB;rw [if_neg (ne l3),if_pos l3]
 ·unfold cB;split
  ·exact .inr (.inl rfl)
  ·split
   ·exact .inl rfl
   ·exact .inr (.inr rfl)
theorem cB_lt {a b:ByteArray}:cB a b=-1↔Op.bytesLess a.toList b.toList=true:=by
 unfold cB
 constructor
 ·intro h;split at h;cases h;split at h;assumption;cases h
 ·intro h
  rw [if_neg (fun e=>by rw [e,byteLess_irr] at h;cases h),if_pos h]
def keyT (t:T):Int × (Int × ByteArray):=(t.kind,(t.int,t.name))
abbrev cK:Int × (Int × ByteArray)→Int × (Int × ByteArray)→Int:=prodC cI (prodC cI cB)
theorem cK_tot:TotC cK:=cI_tot.prod (cI_tot.prod cB_tot)
def cT (a b:T):Int:=if cK (keyT a) (keyT b)≠0 then cK (keyT a) (keyT b) else match a,b with
 | .pair a1 a2,.pair b1 b2=>if cT a1 b1≠0 then cT a1 b1 else cT a2 b2
 | _,_=>0
theorem cT_key {a b:T} (h:cK (keyT a) (keyT b)≠0):cT a b=cK (keyT a) (keyT b):=by unfold cT;rw [if_pos h]
theorem cT_pair (a1 a2 b1 b2:T):cT (.pair a1 a2) (.pair b1 b2)=if cT a1 b1≠0 then cT a1 b1 else cT a2 b2:=by
 rw [cT,if_neg (by simp only [ne_eq,Decidable.not_not];exact cK_tot.self _)]
theorem key_eq {a b:T} (h:cK (keyT a) (keyT b)=0):a=b∨∃ a1 a2 b1 b2,a=.pair a1 a2∧b=.pair b1 b2:=by
 have h:=(cK_tot.eq _ _).1 h
 unfold keyT at h
 simp only [Prod.mk.injEq] at h
 obtain ⟨h1,h2,h3⟩:=h
 cases a<;>cases b<;>simp [T.kind,T.int,T.name] at h1 h2 h3 ⊢<;>first|assumption|omega
theorem cT_leaf {a b:T} (h:cK (keyT a) (keyT b)=0) (hn:∀ a1 a2,a≠.pair a1 a2):cT a b=0:=by
 unfold cT
 rw [if_neg (by simpa using h)]
 cases a<;>first|rfl|exact absurd rfl (hn _ _)
def toks:T→List (Int × (Int × ByteArray))
 | .pair a b=>keyT (.pair a b)::(toks a++toks b)
 | t=>[keyT t]
theorem toks_cons (t:T):∃ r,toks t=keyT t::r:=by cases t<;>exact ⟨_,rfl⟩
theorem leaf_toks {a:T} (hn:∀ a1 a2,a≠.pair a1 a2) (ht:toks a=[keyT a]) (b:T) (l m:List (Int × (Int × ByteArray))):lexC cK (toks a++l) (toks b++m)=if cT a b≠0 then cT a b else lexC cK l m:=by
 by_cases h:cK (keyT a) (keyT b)=0
 ·rw [cT_leaf h hn]
  rcases key_eq h with h' | ⟨_,_,_,_,h1,_⟩
  ·subst h'
   rw [ht]
   simp only [List.cons_append,List.nil_append,lexC]
   rw [if_neg (by simpa using h)];rfl
  ·exact absurd h1 (hn _ _)
 ·obtain ⟨r,hr⟩:=toks_cons b
  rw [hr,cT_key h,if_pos h,ht]
  simp only [List.cons_append,lexC]
  rw [if_pos h]
theorem cT_toks:∀ (a b:T) (l m:List (Int × (Int × ByteArray))),lexC cK (toks a++l) (toks b++m)=if cT a b≠0 then cT a b else lexC cK l m:=by
 intro a
 induction a with
 | pair a1 a2 ih1 ih2=>
  intro b l m
  by_cases h:cK (keyT (.pair a1 a2)) (keyT b)=0
  ·have:∃ b1 b2,b=.pair b1 b2:=by
    rcases key_eq h with h' | ⟨_,_,b1,b2,_,h2⟩
    ·exact ⟨_,_,h'.symm⟩
    ·exact ⟨b1,b2,h2⟩
   obtain ⟨b1,b2,rfl⟩:=this
   simp only [toks,List.cons_append,List.append_assoc,lexC]
   rw [if_neg (by simpa using h),ih1,cT_pair]
   by_cases h1:cT a1 b1=0
   ·have h1':¬ (cT a1 b1≠0):=by simpa using h1
    rw [if_neg h1',ih2]
    simp only [if_neg h1']
   ·simp only [if_pos h1]
  ·obtain ⟨r,hr⟩:=toks_cons b
   rw [hr,cT_key h,if_pos h]
   simp only [toks,List.cons_append,lexC]
   rw [if_pos h]
 | nil=>exact fun b l m=>leaf_toks (by intros;simp) rfl b l m
 | var n=>exact fun b l m=>leaf_toks (by intros;simp) rfl b l m
 | sym n=>exact fun b l m=>leaf_toks (by intros;simp) rfl b l m
 | num n=>exact fun b l m=>leaf_toks (by intros;simp) rfl b l m
theorem leaf_zero {a b:T} (hn:∀ a1 a2,a≠.pair a1 a2) (h:cT a b=0):a=b:=by
 by_cases hk:cK (keyT a) (keyT b)=0
 ·rcases key_eq hk with h' | ⟨_,_,_,_,h1,_⟩
  ·exact h'
  ·exact absurd h1 (hn _ _)
 ·rw [cT_key hk] at h;exact absurd h hk
theorem cT_zero:∀ {a b:T},cT a b=0→a=b:=by
 intro a
 induction a with
 | pair a1 a2 ih1 ih2=>
  intro b h
  by_cases hk:cK (keyT (.pair a1 a2)) (keyT b)=0
  ·rcases key_eq hk with h' | ⟨_,_,b1,b2,h1,h2⟩
   ·exact h'
   ·cases h1;subst h2
    rw [cT_pair] at h
    by_cases h1:cT a1 b1=0
    ·rw [if_neg (by simpa using h1)] at h
     rw [ih1 h1,ih2 h]
    ·rw [if_pos h1] at h;exact absurd h h1
  ·rw [cT_key hk] at h;exact absurd h hk
 | nil=>exact fun h=>leaf_zero (by intros;simp) h
 | var n=>exact fun h=>leaf_zero (by intros;simp) h
 | sym s=>exact fun h=>leaf_zero (by intros;simp) h
 | num n=>exact fun h=>leaf_zero (by intros;simp) h
theorem cT_lex (a b:T):cT a b=lexC cK (toks a) (toks b):=by
 have:=cT_toks a b [] []
 rw [List.append_nil,List.append_nil] at this
 rw [this]
 split
 ·rfl
 ·rename_i h;simpa [lexC] using h
theorem cT_tot:TotC cT:=by
 have h:TotC fun a b=>lexC cK (toks a) (toks b):=cK_tot.lex.by fun a b e=>cT_zero (by rw [cT_lex,e];exact cK_tot.lex.self _)
 have e:cT=fun a b=>lexC cK (toks a) (toks b):=by funext a b;exact cT_lex a b
 rw [e];exact h
abbrev cNat (a b:Nat):Int:=cI a b
theorem cNat_tot:TotC cNat:=cI_tot.by fun a b h=>by omega
abbrev cBd:Nat × T→Nat × T→Int:=prodC cNat cT
theorem cBd_tot:TotC cBd:=cNat_tot.prod cT_tot
abbrev cSb:List (Nat × T)→List (Nat × T)→Int:=lexC cBd
theorem cSb_tot:TotC cSb:=cBd_tot.lex
abbrev cMk:Nat × ByteArray→Nat × ByteArray→Int:=prodC cNat cB
theorem cMk_tot:TotC cMk:=cNat_tot.prod cB_tot
section
variable {α:Type} {c:α→α→Int}
abbrev Strict (c:α→α→Int) (l:List α):Prop:=l.Pairwise fun a b=>c a b=-1
theorem strict_ext (h:TotC c) {l l':List α} (h1:Strict c l) (h2:Strict c l') (e:∀ x,x∈l↔x∈l'):l=l':=
 sorted_ext (r:=fun a b=>c a b=-1) (fun a ha=>by rw [h.self] at ha;cases ha) h.trans h1 h2 e
def insU (c:α→α→Int) (x:α):List α→List α
 | []=>[x]
 | y::l=>if c x y=-1 then x::y::l else if c x y=0 then y::l else y::insU c x l
theorem mem_insU (h:TotC c) {x z:α}:∀ {l:List α},z∈insU c x l↔z=x∨z∈l
 | []=>by simp [insU]
 | y::l=>by
  unfold insU
  split
  ·simp
  ·split
   ·rename_i e
    have:=(h.eq _ _).1 e
    subst this;simp
   ·simp only [List.mem_cons,mem_insU h (l:=l)]
    constructor
    ·rintro (h|h|h)<;>simp [h]
    ·rintro (h|h|h)<;>simp [h]
theorem strict_insU (h:TotC c) {x:α}:∀ {l:List α},Strict c l→Strict c (insU c x l)
 | [],_=>by simp [insU,Strict]
 | y::l,hs=>by
  obtain ⟨h1,h2⟩:=List.pairwise_cons.1 hs
  unfold insU
  split
  ·rename_i e
   refine List.pairwise_cons.2 ⟨fun z hz=>?_,hs⟩
   rcases List.mem_cons.1 hz with rfl|hz
   ·exact e
   ·exact h.trans _ _ _ e (h1 z hz)
  ·split
   ·exact hs
   ·rename_i e1 e2
    have e:c y x=-1:=by
     rcases h.val x y with e|e|e
     ·exact absurd e e1
     ·exact absurd e e2
     ·rw [h.anti,e]
    refine List.pairwise_cons.2 ⟨fun z hz=>?_,strict_insU h h2⟩
    rcases (mem_insU h).1 hz with rfl|hz
    ·exact e
    ·exact h1 z hz
def sortU (c:α→α→Int) (l:List α):List α:=l.foldr (insU c) []
theorem mem_sortU (h:TotC c) {z:α}:∀ {l:List α},z∈sortU c l↔z∈l
 | []=>by simp [sortU]
 | x::l=>by
  show z∈insU c x (sortU c l)↔_
  rw [mem_insU h,mem_sortU h,List.mem_cons]
theorem strict_sortU (h:TotC c):∀ {l:List α},Strict c (sortU c l)
 | []=>.nil
 | _::_=>strict_insU h (strict_sortU h)
theorem sortU_eq (h:TotC c) {l m:List α} (hs:Strict c m) (e:∀ x,x∈m↔x∈l):sortU c l=m:=
 strict_ext h (strict_sortU h) hs fun x=>(mem_sortU h).trans (e x).symm
end
noncomputable section
open Classical
abbrev Ks:=List (Nat × Int)
abbrev Ms:=List (Nat × ByteArray)
structure KOk (l:Ks):Prop where
 asc:l.Pairwise fun a b=>a.1 < b.1
 ok:∀ b∈l,b.1≤100000∧(b.2=2∨b.2=3)
structure MOk (l:Ms):Prop where
 asc:Strict cMk l
 ok:∀ b∈l,b.1≤100000∧NameP b.2
def kGet:Ks→Nat→Option Int
 | [],_=>none
 | (v,k)::l,x=>if v=x then some k else kGet l x
def kIns (v:Nat) (k:Int):Ks→Ks
 | []=>[(v,k)]
 | (u,j)::l=>if u < v then (u,j)::kIns v k l else (v,k)::(u,j)::l
def kindAdd (l:Ks) (x:T) (k:Int):Option Ks:=match x with
 | .var v=>match kGet l v with
  | some k'=>if k'=k then some l else none
  | none=>some (kIns v k l)
 | x=>if x.kind=k then some l else none
def kindsG (s:Sb):Ks→Ks→Option Ks
 | [],out=>some out
 | b::l,out=>match kindAdd out (suOf s b.1) b.2 with
  | none=>none
  | some out=>kindsG s l out
def T.hasSym (tag:ByteArray):T→Prop
 | .pair a b=>a.hasSym tag∨b.hasSym tag
 | .sym s=>s=tag
 | _=>False
def T.vars:T→List Nat
 | .var n=>[n]
 | .pair a b=>a.vars++b.vars
 | _=>[]
theorem mem_vars {v:Nat}:∀ {t:T},v∈t.vars↔t.Occ v
 | .var n=>by simp [T.vars,T.Occ,eq_comm]
 | .pair a b=>by simp [T.vars,T.Occ,mem_vars (t:=a),mem_vars (t:=b)]
 | .nil=>by simp [T.vars,T.Occ]
 | .sym _=>by simp [T.vars,T.Occ]
 | .num _=>by simp [T.vars,T.Occ]
def markAdd (l:Ms) (x:T) (tag:ByteArray):Option Ms:=if x.hasSym tag then none else some (sortU cMk (l++x.vars.map fun v=>(v,tag)))
def marksG (s:Sb):Ms→Ms→Option Ms
 | [],out=>some out
 | b::l,out=>match markAdd out (suOf s b.1) b.2 with
  | none=>none
  | some out=>marksG s l out
def eqB (d:Sb):List (T × T):=d.map fun b=>(.var b.1,b.2)
abbrev join (s d:Sb):Option Sb:=mg (eqs s (eqB d))
def newB (s x:Sb):Sb:=x.filter fun b=>decide (getS s b.1=none)
def leftG (s:Sb) (ks:Ks) (ms:Ms):List Sb→Option (List Sb)
 | []=>some []
 | d::l=>match join s d with
  | none=>leftG s ks ms l
  | some x=>if kindsG x ks []=none∨marksG x ms []=none then leftG s ks ms l
   else if newB s x=[] then none else (leftG s ks ms l).map (newB s x::·)
def moreG (s t:Sb):Prop:=∀ b∈s,(suOf t b.1).nodes≤5000∧(b.2.sub (suOf t)).nodes≤5000∧suOf t b.1=b.2.sub (suOf t)
def minF (l:List Sb):List Sb:=sortU cSb (l.filter fun e=>decide (∀ d∈l,d=e∨¬ moreG d e))
structure Stt where
 next:Nat
 bind:Sb
 dis:List Sb
 kinds:Ks
 marks:Ms
def keptM (ks:Ks) (ms:Ms):Ms:=ms.filter fun m=>decide (kGet ks m.1≠some 3)
def settleF (st:Stt):Option Stt:=match kindsG st.bind st.kinds [],marksG st.bind st.marks [] with
 | some ks,some ms=>match leftG st.bind ks (keptM ks ms) st.dis with
  | none=>none
  | some left=>if 30 < (minF left).length then none else some ⟨st.next,st.bind,minF left,ks,keptM ks ms⟩
 | _,_=>none
theorem kGet_mem {l:Ks} {v:Nat} {k:Int} (h:kGet l v=some k):(v,k)∈l:=by
 induction l with
 | nil=>cases h
 | cons b l ih=>
  obtain ⟨u,j⟩:=b
  unfold kGet at h
  split at h
  ·rename_i e;cases h;subst e;exact List.mem_cons_self
  ·exact List.mem_cons_of_mem _ (ih h)
theorem kGet_none {l:Ks} {v:Nat}:kGet l v=none↔∀ b∈l,b.1≠v:=by
 induction l with
 | nil=>simp [kGet]
 | cons b l ih=>
  obtain ⟨u,j⟩:=b
  unfold kGet
  split
  ·rename_i e;simp [e]
  ·rename_i e;rw [ih];simp [e]
theorem mem_kIns {v:Nat} {k:Int} {b:Nat × Int}:∀ {l:Ks},b∈kIns v k l↔b=(v,k)∨b∈l
 | []=>by simp [kIns]
 | (u,j)::l=>by
  unfold kIns
  split
  ·simp only [List.mem_cons,mem_kIns (l:=l)]
   constructor
   ·rintro (h|h|h)<;>simp [h]
   ·rintro (h|h|h)<;>simp [h]
  ·simp
theorem asc_kIns {v:Nat} {k:Int}:∀ {l:Ks},l.Pairwise (fun a b=>a.1 < b.1)→(∀ b∈l,b.1≠v)→(kIns v k l).Pairwise fun a b=>a.1 < b.1
 | [],_,_=>by simp [kIns]
 | (u,j)::l,h,hn=>by
  obtain ⟨h1,h2⟩:=List.pairwise_cons.1 h
  unfold kIns
  split
  ·rename_i hlt
   refine List.pairwise_cons.2 ⟨fun b hb=>?_,asc_kIns h2 fun b hb=>hn b (by simp [hb])⟩
   rcases mem_kIns.1 hb with rfl|hb
   ·exact hlt
   ·exact h1 b hb
  ·rename_i hlt
   have:=hn (u,j) (by simp)
   simp only at this
   refine List.pairwise_cons.2 ⟨fun b hb=>?_,h⟩
   rcases List.mem_cons.1 hb with rfl|hb
   ·simp only;omega
   ·have:=h1 b hb;simp only at this ⊢;omega
theorem kindAdd_ok {l l':Ks} {x:T} {k:Int} (hl:KOk l) (hk:k=2∨k=3) (hx:∀ v,x=.var v→v≤100000) (h:kindAdd l x k=some l'):KOk l':=by
 unfold kindAdd at h
 split at h
 ·rename_i v
  split at h
  ·split at h
   ·cases h;exact hl
   ·cases h
  ·rename_i hn
   cases h
   refine ⟨asc_kIns hl.asc (kGet_none.1 hn),fun b hb=>?_⟩
   rcases mem_kIns.1 hb with rfl|hb
   ·exact ⟨hx v rfl,hk⟩
   ·exact hl.ok b hb
 ·split at h
  ·cases h;exact hl
  ·cases h
theorem fit_suOf {s:Sb} (hs:∀ b∈s,b.2.fit) {v:Nat} (hv:v≤100000):(suOf s v).fit:=by
 unfold suOf
 cases hg:getS s v with
 | none=>exact fit_var.2 hv
 | some t=>exact hs _ (getS_in hg)
theorem kindsG_ok {s:Sb} (hs:∀ b∈s,b.2.fit):∀ {l out out':Ks},KOk out→(∀ b∈l,b.1≤100000∧(b.2=2∨b.2=3))→kindsG s l out=some out'→KOk out'
 | [],out,_,ho,_,h=>by cases h;exact ho
 | b::l,out,out',ho,hl,h=>by
  unfold kindsG at h
  split at h
  ·cases h
  ·rename_i o1 h1
   have hb:=hl b (by simp)
   exact kindsG_ok hs (kindAdd_ok ho hb.2 (fun v e=>by have:=fit_suOf hs hb.1;rw [e] at this;exact fit_var.1 this) h1) (fun c hc=>hl c (by simp [hc])) h
theorem KOk.nil:KOk []:=⟨.nil,by simp⟩
theorem MOk.nil:MOk []:=⟨.nil,by simp⟩
theorem markAdd_ok {l l':Ms} {x:T} {tag:ByteArray} (hl:MOk l) (ht:NameP tag) (hx:∀ v,x.Occ v→v≤100000) (h:markAdd l x tag=some l'):MOk l':=by
 unfold markAdd at h
 split at h
 ·cases h
 ·cases h
  refine ⟨strict_sortU cMk_tot,fun b hb=>?_⟩
  rcases List.mem_append.1 ((mem_sortU cMk_tot).1 hb) with hb|hb
  ·exact hl.ok b hb
  ·obtain ⟨v,hv,rfl⟩:=List.mem_map.1 hb
   exact ⟨hx v (mem_vars.1 hv),ht⟩
theorem marksG_ok {s:Sb} (hs:∀ b∈s,b.2.fit):∀ {l out out':Ms},MOk out→(∀ b∈l,b.1≤100000∧NameP b.2)→marksG s l out=some out'→MOk out'
 | [],out,_,ho,_,h=>by cases h;exact ho
 | b::l,out,out',ho,hl,h=>by
  unfold marksG at h
  split at h
  ·cases h
  ·rename_i o1 h1
   have hb:=hl b (by simp)
   exact marksG_ok hs (markAdd_ok ho hb.2 (fun v hv=>(fit_suOf hs hb.1).1 v hv) h1) (fun c hc=>hl c (by simp [hc])) h
theorem MOk.filter {l:Ms} {p:Nat × ByteArray→Bool} (h:MOk l):MOk (l.filter p):=⟨h.asc.sublist List.filter_sublist,fun b hb=>h.ok b (List.mem_filter.1 hb).1⟩
theorem Sub.fit {s:Sb} (h:Sub s):∀ b∈s,b.2.fit:=fun b hb=>(h.vok.ok b hb).2.fit
theorem Sub.sbfit {s:Sb} (h:Sub s):SbFit varP leafP s:=fun b hb=>⟨(h.vok.ok b hb).1,(h.vok.ok b hb).2.fit⟩
theorem Sub.of {s:Sb} (h:Sok s) (hf:SbFit varP leafP s):Sub s:=⟨⟨h.len,h.asc,fun b hb=>⟨(hf b hb).1,(hf b hb).2,h.size b hb⟩⟩,h⟩
theorem mg_sub {s x:Sb} {l:List (T × T)} (hs:Sub s) (hl:∀ e∈l,e.1.fit∧e.2.fit) (h:mg (eqs s l)=some x):Sub x:=.of (mg_sok h) (mg_fit h hs.sbfit hl)
theorem eqB_fit {d:Sb} (h:SbFit varP leafP d):∀ e∈eqB d,e.1.fit∧e.2.fit:=fun e he=>by
 obtain ⟨b,hb,rfl⟩:=List.mem_map.1 he
 exact ⟨fit_var.2 (h b hb).1,(h b hb).2⟩
theorem join_sub {s d x:Sb} (hs:Sub s) (hd:Sub d) (h:join s d=some x):Sub x:=mg_sub hs (eqB_fit hd.sbfit) h
theorem getS_filter {p:Nat × T→Bool} {v:Nat}:∀ {s:Sb},getS s v=none→getS (s.filter p) v=none
 | [],_=>rfl
 | (u,t)::s,h=>by
  unfold getS at h
  split at h
  ·cases h
  ·rename_i hu
   rw [List.filter_cons]
   split
   ·unfold getS;rw [if_neg hu];exact getS_filter h
   ·exact getS_filter h
theorem Sub.filter {s:Sb} {p:Nat × T→Bool} (h:Sub s):Sub (s.filter p):=
 ⟨⟨Nat.le_trans (List.length_filter_le _ _) h.vok.len,h.vok.asc.sublist List.filter_sublist,fun b hb=>h.vok.ok b (List.mem_filter.1 hb).1⟩,
  ⟨h.sok.asc.sublist List.filter_sublist,Nat.le_trans (List.length_filter_le _ _) h.sok.len,fun b hb=>h.sok.size b (List.mem_filter.1 hb).1,fun b hb=>h.sok.ori b (List.mem_filter.1 hb).1,fun b hb v hv=>getS_filter (h.sok.free b (List.mem_filter.1 hb).1 v hv)⟩⟩
theorem leftG_sub {s:Sb} {ks:Ks} {ms:Ms} (hs:Sub s):∀ {l left:List Sb},(∀ d∈l,Sub d)→leftG s ks ms l=some left→∀ d∈left,Sub d
 | [],left,_,h,d,hd=>by cases h;cases hd
 | e::l,left,hl,h,d,hd=>by
  unfold leftG at h
  split at h
  ·exact leftG_sub hs (fun d hd=>hl d (by simp [hd])) h d hd
  ·rename_i x hx
   split at h
   ·exact leftG_sub hs (fun d hd=>hl d (by simp [hd])) h d hd
   ·split at h
    ·cases h
    ·obtain ⟨r,hr,rfl⟩:=Option.map_eq_some_iff.1 h
     rcases List.mem_cons.1 hd with rfl|hd
     ·exact (join_sub hs (hl e (by simp)) hx).filter
     ·exact leftG_sub hs (fun d hd=>hl d (by simp [hd])) hr d hd
theorem minF_sub {l:List Sb} (h:∀ d∈l,Sub d):∀ d∈minF l,Sub d:=fun d hd=>h d (List.mem_filter.1 ((mem_sortU cSb_tot).1 hd)).1
structure Pre1 (st:Stt):Prop where
 bind:Sub st.bind
 dis:∀ d∈st.dis,Sub d
 kinds:KOk st.kinds
 marks:MOk st.marks
theorem settle_pre {st st':Stt} (h:Pre1 st) (e:settleF st=some st'):Pre1 st'∧st'.next=st.next∧st'.bind=st.bind:=by
 unfold settleF at e
 split at e
 ·rename_i ks ms hk hm
  split at e
  ·cases e
  ·rename_i left hl
   split at e
   ·cases e
   ·cases e
    exact ⟨⟨h.bind,minF_sub (leftG_sub h.bind h.dis hl),kindsG_ok h.bind.fit .nil h.kinds.ok hk,(marksG_ok h.bind.fit .nil h.marks.ok hm).filter⟩,rfl,rfl⟩
 ·cases e
def below (s:Sb) (n:Nat):Prop:=∀ b∈s,b.1 < n∧∀ v,b.2.Occ v→v < n
end
section
open Go Go.Sort
section
variable {α:Type} [Inhabited α] {c:α→α→Int}
abbrev ltC (c:α→α→Int) (a b:α):Bool:=decide (c a b=-1)
theorem TotC.swo (h:TotC c):SWO (ltC c):=by
 refine ⟨fun x=>?_,fun x y z=>?_,fun x y z=>?_⟩
 ·simp [ltC,h.self]
 ·simp only [ltC,decide_eq_true_eq];exact h.trans x y z
 ·simp only [ltC,decide_eq_false_iff_not]
  intro h1 h2
  have:=TotC.le (h:=h) (a:=z) (b:=y) (d:=x) (by rw [h.anti];omega) (by rw [h.anti];omega)
  rw [h.anti] at this;omega
theorem swo_fst {β:Type}:SWO fun a b:Nat × β=>decide (a.1 < b.1):=by
 refine ⟨fun x=>?_,fun x y z=>?_,fun x y z=>?_⟩<;>simp only [decide_eq_true_eq,decide_eq_false_iff_not]<;>omega
theorem permIn_list {d d':Array α} (h:PermIn 0 d.size d d'):d'.toList.Perm d.toList:=by
 have h3:=h.2.2
 have e1:(d.extract 0 d.size).toList=d.toList:=by simp
 have e2:(d'.extract 0 d.size).toList=d'.toList:=by rw [← h.1];simp
 rwa [e1,e2] at h3
theorem sorted_pw {lt:α→α→Bool} {d:Array α} (h:SortedIn lt 0 d.size d):d.toList.Pairwise fun a b=>lt b a=false:=by
 rw [List.pairwise_iff_getElem]
 intro i j hi hj hij
 have:=h i j (Nat.zero_le _) hij (by simpa using hj)
 have hi':i < d.size:=by simpa using hi
 have hj':j < d.size:=by simpa using hj
 simpa [getElem!_pos,hi',hj'] using this
theorem sort_strict (h:TotC c) {d d':Array α} (hp:PermIn 0 d.size d d') (hs:SortedIn (ltC c) 0 d.size d') (hn:d.toList.Nodup):d'.toList=sortU c d.toList:=by
 have pm:=permIn_list hp
 have hs':d'.toList.Pairwise fun a b=>ltC c b a=false:=sorted_pw (by rw [hp.1];exact hs)
 have hn':d'.toList.Pairwise (·≠·):=pm.nodup_iff.2 hn
 refine (sortU_eq h ?_ fun x=>pm.mem_iff).symm
 refine (hs'.and hn').imp fun {a b} ⟨h1,h2⟩=>?_
 have h1:c b a≠-1:=by simpa [ltC] using h1
 rcases h.val a b with e|e|e
 ·exact e
 ·exact absurd ((h.eq _ _).1 e) h2
 ·exact absurd (by rw [h.anti,e]) h1
def outF [DecidableEq α] (p:α→Bool) (s:List α):Nat→List α
 | 0=>[]
 | i+1=>outF p s i++(match s[i]? with|none=>[]|some x=>if (i=0∨s[i - 1]?≠some x)∧p x=true then [x] else [])
omit [Inhabited α] in
theorem outF_strict [DecidableEq α] (h:TotC c) {p:α→Bool} {s:List α} (hs:s.Pairwise fun a b=>c b a≠-1):∀ i,i≤s.length→Strict c (outF p s i)∧(∀ x,x∈outF p s i↔x∈s.take i∧p x=true)
 | 0,_=>by simp [outF,Strict]
 | i+1,hi=>by
  obtain ⟨h1,h2⟩:=outF_strict h (p:=p) hs i (by omega)
  have hx:s[i]?=some s[i]:=by simp
  have hin:∀ x∈s.take i,c s[i] x≠-1:=fun x hx=>by
   obtain ⟨j,hj,rfl⟩:=List.getElem_of_mem hx
   rw [List.getElem_take]
   exact List.pairwise_iff_getElem.1 hs j i (by simp at hj;omega) (by omega) (by simp at hj;omega)
  unfold outF
  rw [hx]
  simp only
  have ht:s.take (i+1)=s.take i++[s[i]]:=by rw [List.take_add_one,hx];rfl
  split
  ·rename_i hc
   obtain ⟨hc,hp⟩:=hc
   refine ⟨List.pairwise_append.2 ⟨h1,by simp,fun x hx y hy=>?_⟩,fun x=>?_⟩
   ·obtain rfl:=List.mem_singleton.1 hy
    have hx:=((h2 x).1 hx).1
    have h3:=hin x hx
    rcases h.val x s[i] with e|e|e
    ·exact e
    ·exfalso
     have e:=(h.eq _ _).1 e
     rcases hc with hc|hc
     ·subst hc;simp at hx
     ·apply hc
      obtain ⟨j,hj,hjx⟩:=List.getElem_of_mem hx
      rw [List.getElem_take] at hjx
      simp at hj
      have hi1:i - 1 < s.length:=by omega
      rw [List.getElem?_eq_getElem hi1]
      congr 1
      have hl:c s[i] s[i - 1]≠-1:=List.pairwise_iff_getElem.1 hs (i - 1) i hi1 (by omega) (by omega)
      by_cases hji:j=i - 1
      ·subst hji;rw [hjx];exact e
      ·have hl2:c s[i - 1] s[j]≠-1:=List.pairwise_iff_getElem.1 hs j (i - 1) (by omega) hi1 (by omega)
       rw [hjx,e] at hl2
       refine (h.eq _ _).1 ?_
       rcases h.val s[i - 1] s[i] with e'|e'|e'
       ·exact absurd e' hl2
       ·exact e'
       ·rw [h.anti,e'] at hl;exact absurd rfl hl
    ·exact absurd (by rw [h.anti,e]) h3
   ·rw [ht]
    simp only [List.mem_append,h2,List.mem_singleton]
    constructor
    ·rintro (⟨a,b⟩|rfl)
     ·exact ⟨.inl a,b⟩
     ·exact ⟨.inr rfl,hp⟩
    ·rintro ⟨a|rfl,b⟩
     ·exact .inl ⟨a,b⟩
     ·exact .inr rfl
  ·rename_i hc
   rw [List.append_nil]
   refine ⟨h1,fun x=>?_⟩
   rw [h2,ht]
   simp only [List.mem_append,List.mem_singleton]
   constructor
   ·rintro ⟨a,b⟩;exact ⟨.inl a,b⟩
   ·rintro ⟨a|rfl,b⟩
    ·exact ⟨a,b⟩
    ·refine ⟨?_,b⟩
     have hc':¬ (i=0∨s[i - 1]?≠some s[i]):=fun h'=>hc ⟨h',b⟩
     have hi0:i≠0:=fun e=>hc' (.inl e)
     have he:s[i - 1]?=some s[i]:=by
      by_cases e:s[i - 1]?=some s[i]
      ·exact e
      ·exact absurd (.inr e) hc'
     have hi1:i - 1 < s.length:=by omega
     rw [List.getElem?_eq_getElem hi1] at he
     rw [← Option.some.inj he]
     have:(s.take i)[i - 1]'(by simp;omega)=s[i - 1]:=List.getElem_take
     rw [← this]
     exact List.getElem_mem _
end
end
section
open Go Go.Sort
section
variable {α:Type} {c:α→α→Int}
theorem insU_put {x:α}:∀ {l:List α} {k:Nat},k≤l.length→(∀ y∈l.take k,c x y=1)→(∀ y,l[k]?=some y→c x y=-1)→insU c x l=l.take k++x::l.drop k
 | [],k,hk,_,_=>by
  obtain rfl:k=0:=by simpa using hk
  rfl
 | y::l,0,_,_,h2=>by
  have:=h2 y rfl
  unfold insU;rw [if_pos this];rfl
 | y::l,k+1,hk,h1,h2=>by
  have hy:=h1 y (by simp)
  unfold insU
  rw [if_neg (by rw [hy];decide),if_neg (by rw [hy];decide),insU_put (k:=k) (by simpa using hk) (fun z hz=>h1 z (by simp [hz])) (fun z hz=>h2 z (by simpa using hz))]
  rfl
theorem insU_same {x y:α}:∀ {l:List α} {k:Nat},(∀ y∈l.take k,c x y=1)→l[k]?=some y→c x y=0→insU c x l=l
 | [],k,_,h,_=>by simp at h
 | z::l,0,_,h,h0=>by
  obtain rfl:z=y:=by simpa using h
  unfold insU;rw [if_neg (by rw [h0];decide),if_pos h0]
 | z::l,k+1,h1,h,h0=>by
  have hz:=h1 z (by simp)
  unfold insU
  rw [if_neg (by rw [hz];decide),if_neg (by rw [hz];decide),insU_same (k:=k) (fun z hz=>h1 z (by simp [hz])) (by simpa using h) h0]
theorem sortU_snoc (h:TotC c) (l:List α) (x:α):sortU c (l++[x])=insU c x (sortU c l):=
 sortU_eq h (strict_insU h (strict_sortU h)) fun z=>by rw [mem_insU h,mem_sortU h];simp [or_comm]
theorem sortU_strict (h:TotC c) {l:List α} (hl:Strict c l):sortU c l=l:=sortU_eq h hl fun _=>.rfl
theorem sortU_congr (h:TotC c) {l m:List α} (e:∀ x,x∈l↔x∈m):sortU c l=sortU c m:=sortU_eq h (strict_sortU h) fun x=>(mem_sortU h).trans (e x).symm
end
theorem kIns_at {v:Nat} {x:Int}:∀ {l:Ks} {k:Nat},k≤l.length→(∀ b∈l.take k,b.1 < v)→(∀ b,l[k]?=some b→¬ b.1 < v)→kIns v x l=l.take k++(v,x)::l.drop k
 | [],k,hk,_,_=>by
  obtain rfl:k=0:=by simpa using hk
  rfl
 | b::l,0,_,_,h2=>by
  have:=h2 b rfl
  obtain ⟨u,j⟩:=b
  unfold kIns;rw [if_neg this];rfl
 | b::l,k+1,hk,h1,h2=>by
  have hy:=h1 b (by simp)
  obtain ⟨u,j⟩:=b
  unfold kIns
  rw [if_pos hy,kIns_at (k:=k) (by simpa using hk) (fun z hz=>h1 z (by simp [hz])) (fun z hz=>h2 z (by simpa using hz))]
  rfl
theorem kGet_at {v:Nat} {l:Ks} {k:Nat} (ha:l.Pairwise fun a b=>a.1 < b.1) (h1:∀ b∈l.take k,b.1 < v) {b:Nat × Int} (hb:l[k]?=some b) (hlt:¬ b.1 < v):kGet l v=if b.1=v then some b.2 else none:=by
 induction l generalizing k with
 | nil=>simp at hb
 | cons y l ih=>
  obtain ⟨h3,h4⟩:=List.pairwise_cons.1 ha
  cases k with
  | zero=>
   obtain rfl:y=b:=by simpa using hb
   obtain ⟨u,j⟩:=y
   show (if u=v then some j else kGet l v)=_
   split
   ·rfl
   ·rename_i hn
    refine kGet_none.2 fun b hb e=>?_
    have:=h3 b hb
    simp only at this hlt hn
    omega
  | succ k=>
   have hy:=h1 y (by simp)
   obtain ⟨u,j⟩:=y
   show (if u=v then some j else kGet l v)=_
   simp only at hy
   rw [if_neg (by omega)]
   exact ih (k:=k) h4 (fun z hz=>h1 z (by simp [hz])) (by simpa using hb)
theorem kGet_end {v:Nat} {l:Ks} (h1:∀ b∈l,b.1 < v):kGet l v=none:=kGet_none.2 fun b hb e=>by have:=h1 b hb;omega
theorem kIns_sort {l:Ks} {v:Nat} {x:Int} (ha:l.Pairwise fun a b=>a.1 < b.1) (hn:kGet l v=none) {d':Array (Nat × Int)} (hp:PermIn 0 (l.length+1) (l++[(v,x)]).toArray d') (hs:SortedIn (fun a b:Nat × Int=>decide (a.1 < b.1)) 0 (l.length+1) d'):d'.toList=kIns v x l:=by
 have pm:=permIn_list (d:=(l++[(v,x)]).toArray) (by simpa using hp)
 have hz:d'.size=l.length+1:=by simpa using hp.1
 have hs':=sorted_pw (d:=d') (by rw [hz];exact hs)
 have hkn:=kGet_none.1 hn
 have hnd:((l++[(v,x)]).map (·.1)).Nodup:=by
  rw [List.map_append,List.nodup_append]
  refine ⟨?_,by simp,?_⟩
  ·rw [List.nodup_iff_pairwise_ne,List.pairwise_map]
   exact ha.imp fun h=>by omega
  ·intro a hm b hb
   obtain ⟨c,hc,rfl⟩:=List.mem_map.1 hm
   obtain rfl:b=v:=by simpa using hb
   exact hkn c hc
 have hnd':(d'.toList.map (·.1)).Nodup:=(pm.map (·.1)).nodup_iff.2 hnd
 have hst:d'.toList.Pairwise fun a b=>a.1 < b.1:=by
  rw [List.nodup_iff_pairwise_ne,List.pairwise_map] at hnd'
  refine (hs'.and hnd').imp fun {a b} ⟨h1,h2⟩=>?_
  have h1:¬ b.1 < a.1:=by simpa using h1
  omega
 refine sorted_ext (r:=fun a b:Nat × Int=>a.1 < b.1) (fun a ha=>by omega) (fun _ _ _ h1 h2=>by omega) hst (asc_kIns ha hkn) fun b=>?_
 rw [pm.mem_iff,mem_kIns]
 simp [or_comm]
end
end Go.Proofs.YtejkllmoofdpjaaGreat
