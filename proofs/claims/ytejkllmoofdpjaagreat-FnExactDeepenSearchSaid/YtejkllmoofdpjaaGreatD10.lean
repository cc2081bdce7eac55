/- Parts of the proof: VX VH V06 VI. -/
import Derived.Test.YtejkllmoofdpjaaGreatD9
namespace Go.Proofs.YtejkllmoofdpjaaGreat
open Go
set_option linter.all false
set_option maxRecDepth 100000
set_option maxHeartbeats 4000000
section
variable {P:Program} {n:Nat} {ops:Array Oper}
theorem WD_any {K:FF→World→Prop} (k m:Nat) (I:Array Bool→FF→World→Prop) (hkm:k≤m) (hms:m≤ops.size) (back:backChk ops=true) (tail:∀ i j,j < ops.size→m≤j→k≤i→i < m→i∈clo ops j)
 (step:∀ (listed:Array Bool) (i:Nat) (o:Oper) (f:FF) (w:World),listed.size=ops.size→ops[i]?=some o→k≤i→i < m→listed.getD i false=false→(∀ j∈dirs ops i,listed.getD j false=true)→(∀ j∈clo ops i,listed.getD j false=true)→(∀ j,listed.getD j false=true→j < m)→I listed f w→
   if Region.wanted o (yl ops f)=true then OW P n o (I (listed.setIfInBounds i true)) f w else I (listed.setIfInBounds i true) (updo f o.dst undef) w∧dlt o.dst n=true)
 (fin:∀ listed f w,(∀ i,listed.getD i false=true↔i < m)→I listed f w→WD P n ops K m f w)
 {f:FF} {w:World} (h:∀ listed:Array Bool,(∀ i,listed.getD i false=true↔i < k)→I listed f w):WD P n ops K k f w:=by
 intro Q hK r listed a hr hs hl ha
 have key:∀ (r:Nat) (listed:Array Bool) (f:FF) (a:Act) (w:World) (c:Nat),c+r=ops.size→((List.range m).filter fun i=>listed.getD i false).length=c→listed.size=ops.size→(∀ i,i < k→listed.getD i false=true)→(∀ i,listed.getD i false=true→i < m)→(∀ i,listed.getD i false=true→∀ j∈dirs ops i,listed.getD j false=true)→I listed f w→Fr n f a→wpAny P .any ops (toQ n Q) r listed a w:=by
  intro r
  have last:∀ (r:Nat) (listed:Array Bool) (f:FF) (a:Act) (w:World),m+r=ops.size→listed.size=ops.size→(∀ i,listed.getD i false=true→i < m)→I listed f w→Fr n f a→(∀ i,i < m→listed.getD i false=true)→wpAny P .any ops (toQ n Q) r listed a w:=fun r listed f a w hr hs hlow hI ha hall=>
   fin listed f w (fun i=>⟨hlow i,hall i⟩) hI Q hK r listed a hr hs (fun i=>⟨hlow i,hall i⟩) ha
  have cntm:∀ (listed:Array Bool),(∀ i,i < m→listed.getD i false=true)→((List.range m).filter fun i=>listed.getD i false).length=m:=fun listed hall=>by
   rw [List.filter_eq_self.2 (fun i hi=>hall i (List.mem_range.1 hi)),List.length_range]
  induction r with
  | zero=>
   intro listed f a w c hc hcnt hs hbase hlow hdown hI ha
   have hle:=List.length_filter_le (fun i=>listed.getD i false) (List.range m)
   have hlen:((List.range m).filter fun i=>listed.getD i false).length=(List.range m).length:=by simp only [List.length_range] at *;omega
   have hall:∀ i,i < m→listed.getD i false=true:=fun i hi=>List.length_filter_eq_length_iff.1 hlen i (List.mem_range.2 hi)
   exact last 0 listed f a w (by have:=cntm listed hall;omega) hs hlow hI ha hall
  | succ r ih=>
   intro listed f a w c hc hcnt hs hbase hlow hdown hI ha
   by_cases hall:∀ i,i < m→listed.getD i false=true
   ·exact last _ listed f a w (by have:=cntm listed hall;omega) hs hlow hI ha hall
   ·obtain ⟨i0,hi0m,hi0⟩:∃ i,i < m∧¬ listed.getD i false=true:=by
     refine Classical.byContradiction fun hn=>hall fun i hi=>Classical.byContradiction fun h=>hn ⟨i,hi,h⟩
    obtain ⟨i1,⟨hi1m,hi1⟩,hmin⟩:=exists_least (p:=fun i=>i < m∧¬ listed.getD i false=true) ⟨i0,hi0m,hi0⟩
    have hi1s:i1 < ops.size:=by omega
    have hin:i1∈Region.ready .any ops listed:=by
     refine mem_ready.2 ⟨(not_listed (by omega)).2 hi1,ops[i1],Array.getElem?_eq_getElem hi1s,fun e he hb=>?_⟩
     have hlt:=back_of back i1 e.on hi1s (by
      simp only [dirs,Array.getElem?_eq_getElem hi1s,List.mem_map,List.mem_filter]
      exact ⟨e,⟨Array.mem_toList_iff.2 he,hb⟩,rfl⟩)
     exact Classical.byContradiction fun hn=>by have:=hmin e.on ⟨by omega,hn⟩;omega
    refine ⟨fun h0=>(by rw [h0] at hin;cases hin),fun i hi=>?_⟩
    obtain ⟨h0,o,ho,hpre⟩:=mem_ready.1 hi
    have his:i < ops.size:=(Array.getElem?_eq_some_iff.1 ho).1
    have hun':=(not_listed (by omega)).1 h0
    have hun:listed.getD i false=false:=by simpa using hun'
    have hdirs:∀ x∈dirs ops i,listed.getD x false=true:=fun x hx=>by
     simp only [dirs,ho,List.mem_map,List.mem_filter] at hx
     obtain ⟨e,⟨he,hb⟩,rfl⟩:=hx
     exact hpre e (Array.mem_toList_iff.1 he) hb
    have hclo:∀ x∈clo ops i,listed.getD x false=true:=bfs_all (p:=fun x=>listed.getD x false=true) (fun j hj x hx=>hdown j hj x hx) _ _ hdirs
    have hki:k≤i:=Classical.byContradiction fun hn=>hun' (hbase i (by omega))
    have him:i < m:=by
     rcases Nat.lt_or_ge i m with h|h
     ·exact h
     ·have hk1:k≤i1:=Classical.byContradiction fun hn=>hi1 (hbase i1 (by omega))
      exact absurd (hclo i1 (tail i1 i his h hk1 hi1m)) hi1
    have hil:i < listed.size:=by omega
    have cnt':((List.range m).filter fun j=>(listed.setIfInBounds i true).getD j false).length=c+1:=by
     rw [← hcnt,← List.countP_eq_length_filter,← List.countP_eq_length_filter]
     have key:∀ x,i < x→(List.range x).countP (fun j=>(listed.setIfInBounds i true).getD j false)=(List.range x).countP (fun j=>listed.getD j false)+1:=by
      intro x
      induction x with
      | zero=>omega
      | succ x ihx=>
       intro hix
       rw [List.range_succ,List.countP_append,List.countP_append,List.countP_singleton,List.countP_singleton]
       by_cases hxi:x=i
       ·subst hxi
        have e1:(listed.setIfInBounds x true).getD x false=true:=(listed_set hil).2 (.inl rfl)
        rw [e1,hun]
        have e2:(List.range x).countP (fun j=>(listed.setIfInBounds x true).getD j false)=(List.range x).countP (fun j=>listed.getD j false):=List.countP_congr fun j hj=>by
         have:=List.mem_range.1 hj
         rw [getD_set_ne false (by omega)]
        rw [e2];simp
       ·rw [ihx (by omega),getD_set_ne false (Ne.symm hxi)];omega
     exact key _ him
    have base':∀ j,j < k→(listed.setIfInBounds i true).getD j false=true:=fun j hj=>(listed_set hil).2 (.inr (hbase j hj))
    have low':∀ j,(listed.setIfInBounds i true).getD j false=true→j < m:=fun j hj=>by
     rcases (listed_set hil).1 hj with rfl|hj
     ·exact him
     ·exact hlow j hj
    have down':∀ j,(listed.setIfInBounds i true).getD j false=true→∀ x∈dirs ops j,(listed.setIfInBounds i true).getD x false=true:=fun j hj x hx=>by
     refine (listed_set hil).2 (.inr ?_)
     rcases (listed_set hil).1 hj with rfl|hj
     ·exact hdirs x hx
     ·exact hdown j hj x hx
    have hst:=step listed i o f w hs ho hki him hun hdirs hclo hlow hI
    unfold wpOp
    simp only [ho]
    rw [ha.yielded]
    split
    ·rename_i hw
     rw [if_pos hw] at hst
     refine .inl (Oper.wp_mono ?_ (hst.wp a ha _))
     rintro a' w' ⟨f',hf',hr'⟩
     exact ih _ f' a' w' (c+1) (by omega) cnt' (by simp [hs]) base' low' down' hr' hf'
    ·rename_i hw
     rw [if_neg hw] at hst
     exact ih _ _ _ w (c+1) (by omega) cnt' (by simp [hs]) base' low' down' hst.1 (ha.put hst.2 undef)
 have hcnt:((List.range m).filter fun i=>listed.getD i false).length=k:=by
  have e1:(List.range m).filter (fun i=>listed.getD i false)=(List.range m).filter fun i=>decide (i < k):=List.filter_congr fun i _=>by
   cases hg:listed.getD i false with
   | true=>simp [(hl i).1 hg]
   | false => have : ¬ i < k := fun h => by rw [(hl i).2 h] at hg; cases hg
              simp [this]
  rw [e1]
  have e2:m=k+(m - k):=by omega
  rw [e2,List.range_eq_range',← List.range'_append_1,List.filter_append,List.filter_eq_self.2 (fun x hx=>by have:=List.mem_range'_1.1 hx;simp;omega),List.filter_eq_nil_iff.2 (fun x hx=>by have:=List.mem_range'_1.1 hx;simp;omega)]
  simp
 exact key r listed f a w k hr hcnt hs (fun i hi=>(hl i).2 hi) (fun i hi=>by have:=(hl i).1 hi;omega) (fun i hi j hj=>(hl j).2 (by
  have h1:=(hl i).1 hi
  have:=back_of back i j (by omega) hj;omega)) (h listed hl) ha
end
def Has (B A:List Atm):Prop:=∃ R,A.Perm (R++B)
theorem Has.refl (A:List Atm):Has A A:=⟨[],.refl _⟩
theorem Has.left {A R:List Atm}:Has A (R++A):=⟨R,.refl _⟩
theorem Has.nil {A:List Atm}:Has [] A:=⟨A,by simp⟩
theorem Has.one {y:Atm} {A:List Atm}:Has [y] (y::A):=⟨A,(List.perm_append_singleton y A).symm⟩
theorem Has.two {x y:Atm} {A:List Atm}:Has [y] (x::y::A):=⟨x::A,List.Perm.cons x (List.perm_append_singleton y A).symm⟩
theorem Has.three {x x' y:Atm} {A:List Atm}:Has [y] (x::x'::y::A):=⟨x::x'::A,List.Perm.cons x (List.Perm.cons x' (List.perm_append_singleton y A).symm)⟩
theorem PuO.has {P:Program} {f:AF} {A B:List Atm} {o:Oper} {v:AV} (h:PuO P f B o v) (hb:Has B A):PuO P f A o v:=fun M w r hp hx=>by
 obtain ⟨R,hR⟩:=hb
 have hp1:=hp.perm hR.symm
 have hmo:∀ b,MO M A b↔MO (MO M R) B b:=fun b=>by
  rw [← MO_app]
  exact ⟨fun h=>h.imp id fun h=>(oA_perm hR).subset h,fun h=>h.imp id fun h=>(oA_perm hR).symm.subset h⟩
 exact (h (MO M R) w r hp1.front fun x hx'=>AV.grow (fun b _ hb=>(hmo b).2 hb) (hx x hx')).mono fun u w' ⟨h1,h2⟩=>⟨AV.grow (fun b _ hb=>(hmo b).1 hb) h1,h2⟩
theorem RStep.has {P:Program} {ops:Array Oper} {f:AF} {A B:List Atm} {o:Oper} {v:AV} (h:RStep P ops f B o v) (hb:Has B A):RStep P ops f A o v:=by
 unfold RStep at *
 split
 ·rename_i hg;rw [hg] at h;exact h.has hb
 ·rename_i j b hg
  rw [hg] at h
  obtain ⟨t,c,h1,h2,h3⟩:=h
  refine ⟨t,c,h1,h2,?_⟩
  split
  ·rename_i hc;rw [if_pos hc] at h3;exact h3.has hb
  ·rename_i hc;rw [if_neg hc] at h3;exact h3
theorem Opn.congr {P:Program} {ops:Array Oper} {f f':AF} {A:List Atm} {o:Oper} {Q:AV→List Atm→Prop} (h:∀ t∈o.looksAt ops,f t=f' t) (hp:Opn P f A o Q):Opn P f' A o Q:=fun M w r h1 h2=>hp M w r h1 fun x hx=>by rw [eva_congr h x hx];exact h2 x hx
def CStep (P:Program) (ops:Array Oper) (f:AF) (A:List Atm) (o:Oper) (Q:AV→List Atm→Prop):Prop:=
 match o.guard with
 | none=>Opn P f A o Q
 | some (j,b)=>∃ t c,(ops[j]?).bind (·.dst)=some t∧f t=obv c∧if c=some b then Opn P f A o Q else Q (.tup []) A
def AC (P:Program) (n:Nat) (ops:Array Oper) (B:List Atm) (K:AF→List Atm→Prop):List Nat→AF→List Atm→Prop
 | [],f,A=>K f A
 | i::rest,f,A=>∀ o,ops[i]?=some o→dlt o.dst n=true∧∃ Q,CStep P ops f A o Q∧∀ v A',Q v A'→Has B A'∧AC P n ops B K rest (auo f o.dst v) A'
def chainChk (ops:Array Oper):List Nat→Bool
 | []=>true
 | i::rest=>rest.all (fun j=>(clo ops j).contains i && i != j) && chainChk ops rest
def ascChk:List Nat→Bool
 | []=>true
 | i::rest=>rest.all (fun j=>decide (i < j)) && ascChk rest
def mixChk (ops:Array Oper) (n k m:Nat) (L1 L2:List Nat):Bool:=
 backChk ops && decide (k≤m) && decide (m≤ops.size) && (span k m).all (fun i=>L1.contains i || L2.contains i) && L1.all (fun i=>decide (k≤i) && decide (i < m) && !L2.contains i && (dirs ops i).all fun j=>decide (j < k) || L1.contains j) &&
 L1.all (fun i=>(dsts ops i).isSome && dlt (dsts ops i) n) && L2.all (fun i=>decide (k≤i) && decide (i < m)) &&
 (span k m).all (fun i=>(span k m).all fun j=>(i == j || dsts ops i == none || dsts ops i != dsts ops j) && (!((looks ops i).any fun t=>dsts ops j == some t) || (dirs ops i).contains j)) &&
 chainChk ops L2 && ascChk L1 && (List.range ops.size).all (fun j=>decide (j < m) || (span k m).all fun i=>(clo ops j).contains i)
structure FactsM (ops:Array Oper) (n k m:Nat) (L1 L2:List Nat):Prop where
 back:backChk ops=true
 km:k≤m
 le:m≤ops.size
 all:∀ i,k≤i→i < m→i∈L1∨i∈L2
 l1:∀ i∈L1,(k≤i∧i < m)∧i∉L2∧∀ j∈dirs ops i,j < k∨j∈L1
 dst:∀ i∈L1,∃ d,dsts ops i=some d∧dlt (some d) n=true
 l2:∀ i∈L2,k≤i∧i < m
 one:∀ i j t,k≤i→i < m→k≤j→j < m→dsts ops i=some t→dsts ops j=some t→i=j
 dir:∀ i j t,k≤i→i < m→k≤j→j < m→t∈looks ops i→dsts ops j=some t→j∈dirs ops i
 chain:chainChk ops L2=true
 asc:L1.Pairwise (· < ·)
 tail:∀ i j,j < ops.size→m≤j→k≤i→i < m→i∈clo ops j
theorem asc_of_chk:∀ {l:List Nat},ascChk l=true→l.Pairwise (· < ·)
 | [],_=>.nil
 | i::r,h=>by
  simp only [ascChk,Bool.and_eq_true,List.all_eq_true,decide_eq_true_eq] at h
  exact List.pairwise_cons.2 ⟨h.1,asc_of_chk h.2⟩
theorem factsM {ops:Array Oper} {n k m:Nat} {L1 L2:List Nat} (h:mixChk ops n k m L1 L2=true):FactsM ops n k m L1 L2:=by
 simp only [mixChk,Bool.and_eq_true,List.all_eq_true,mem_span,List.mem_range,decide_eq_true_eq,Bool.or_eq_true,List.contains_iff_mem,Bool.not_eq_true',beq_iff_eq] at h
 obtain ⟨⟨⟨⟨⟨⟨⟨⟨⟨⟨h1,ha⟩,hb⟩,h2⟩,h3⟩,h4⟩,h5⟩,h6⟩,h7⟩,h8⟩,h9⟩:=h
 refine ⟨h1,ha,hb,fun i hi hj=>h2 i ⟨hi,hj⟩,fun i hi=>?_,fun i hi=>?_,h5,fun i j t hi hi' hj hj' e1 e2=>?_,fun i j t hi hi' hj hj' ht e=>?_,h7,asc_of_chk h8,fun i j hj hm hi hi'=>?_⟩
 ·obtain ⟨⟨⟨a,a'⟩,b⟩,c⟩:=h3 i hi
  exact ⟨⟨a,a'⟩,fun hm=>(by rw [List.contains_iff_mem.2 hm] at b;cases b),c⟩
 ·obtain ⟨a,b⟩:=h4 i hi
  obtain ⟨d,hd⟩:=Option.isSome_iff_exists.1 a
  exact ⟨d,hd,by rw [← hd];exact b⟩
 ·rcases (h6 i ⟨hi,hi'⟩ j ⟨hj,hj'⟩).1 with (h|h)|h
  ·exact h
  ·rw [e1] at h;cases h
  ·rw [e1,e2] at h;simp at h
 ·rcases (h6 i ⟨hi,hi'⟩ j ⟨hj,hj'⟩).2 with h|h
  ·rw [List.any_eq_false] at h
   have:=h t ht
   rw [e] at this;simp at this
  ·exact h
 ·exact (h9 j hj).resolve_left (by omega) i ⟨hi,hi'⟩
section
variable {P:Program} {ops:Array Oper} {A B:List Atm} {f:AF}
theorem AR_vals {K:AF→Prop}:∀ {l:List Nat} {f:AF},l.Pairwise (· < ·)→AR P ops A K l f→∃ val:Nat→AV,(∀ l1 i l2 o,l=l1++i::l2→ops[i]?=some o→RStep P ops (ach ops val l1 f) A o (val i))∧K (ach ops val l f)
 | [],f,_,h=>⟨fun _=>.junk,fun l1 i l2 o e=>by simp at e,h⟩
 | i::r,f,hp,⟨v,h1,h2⟩=>by
  obtain ⟨hi,hr⟩:=List.pairwise_cons.1 hp
  obtain ⟨val,h3,h4⟩:=AR_vals hr h2
  have ne:∀ j∈r,j≠i:=fun j hj e=>by have:=hi j hj;omega
  have hc:∀ (l:List Nat) (f:AF),(∀ j∈l,j∈r)→ach ops (fun j=>if j=i then v else val j) l f=ach ops val l f:=fun l f hl=>ach_congr l f fun j hj=>by rw [if_neg (ne j (hl j hj))]
  refine ⟨fun j=>if j=i then v else val j,fun l1 k l2 o e ho=>?_,?_⟩
  ·cases l1 with
   | nil=>
    simp only [List.nil_append,List.cons.injEq] at e
    obtain ⟨rfl,rfl⟩:=e
    simp only [ach,if_true]
    exact h1 o ho
   | cons x l1=>
    simp only [List.cons_append,List.cons.injEq] at e
    obtain ⟨rfl,rfl⟩:=e
    have hk:k∈l1++k::l2:=by simp
    show RStep P ops _ A o (if k=i then v else val k)
    rw [if_neg (ne k hk)]
    simp only [ach,if_true]
    rw [hc l1 _ fun j hj=>by simp [hj]]
    exact h3 l1 k l2 o rfl ho
  ·simp only [ach,if_true]
   rw [hc r _ fun j hj=>hj]
   exact h4
theorem head_of_chain {L2 done todo:List Nat} {i:Nat} (hc:chainChk ops L2=true) (e:L2=done++todo) (hi:i∈todo) (hpre:∀ j∈todo,j∈clo ops i→False):∃ rest,todo=i::rest:=by
 have h1:chainChk ops todo=true:=by
  subst e
  induction done with
  | nil=>exact hc
  | cons x d ih=>simp only [List.cons_append,chainChk,Bool.and_eq_true] at hc;exact ih hc.2
 match todo,hi,h1 with
 | x::rest,hi,h1=>
  simp only [chainChk,Bool.and_eq_true,List.all_eq_true] at h1
  rcases List.mem_cons.1 hi with rfl|hi
  ·exact ⟨rest,rfl⟩
  ·have:=(h1.1 i hi).1
   exact absurd (List.contains_iff_mem.1 this) (hpre x (by simp))
theorem chain_nodup:∀ {L2:List Nat},chainChk ops L2=true→L2.Nodup
 | [],_=>.nil
 | i::r,h=>by
  simp only [chainChk,Bool.and_eq_true,List.all_eq_true] at h
  exact List.nodup_cons.2 ⟨fun hm=>by have:=(h.1 i hm).2;simp at this,chain_nodup h.2⟩
end
structure IM (P:Program) (n:Nat) (C:Cx) (ops:Array Oper) (B:List Atm) (K:AF→List Atm→Prop) (k m:Nat) (L2:List Nat) (fL:AF) (listed:Array Bool) (g:FF) (w:World):Prop where
 ex:∃ (done todo:List Nat) (fC:AF) (A:List Atm),L2=done++todo∧(∀ i∈done,listed.getD i false=true)∧(∀ i∈todo,listed.getD i false=false)∧
  AC P n ops B K todo fC A∧Has B A∧Step C.A0 A C.M C.w0 w∧(∀ t,(∀ c∈L2,dsts ops c≠some t)→fC t=fL t)∧∀ t,(∀ i,k≤i→i < m→listed.getD i false=false→dsts ops i≠some t)→(fC t).rd (MO C.M A) w (g t)
theorem AD_mix {P:Program} {n:Nat} {C:Cx} {ops:Array Oper} {K:AF→List Atm→Prop} {f:AF} {A B:List Atm} (k m:Nat) (L1 L2:List Nat) (chk:mixChk ops n k m L1 L2=true) (hB:Has B A) (h:AR P ops B (fun f'=>AC P n ops B (fun f A=>AD P n C ops K m f A) L2 f' A) L1 f):AD P n C ops K k f A:=by
 intro g w hi
 have F:=factsM chk
 obtain ⟨val,hv,hK⟩:=AR_vals F.asc h
 have nd:=chain_nodup F.chain
 have old:∀ (l:List Nat) (t:Nat),(∀ i∈l,dsts ops i≠some t)→ach ops val l f t=f t:=fun l t hl=>ach_old t l f hl
 refine WD_any k m (IM P n C ops B (fun f A=>AD P n C ops K m f A) k m L2 (ach ops val L1 f)) F.km F.le F.back F.tail ?_ ?_ ?_
 ·rintro listed i o g w hs ho hki him hun hpre hclo hlow ⟨done,todo,fC,A,e,hd,ht,hac,hb,hst,hfc,hrd⟩
  have his:i < ops.size:=(Array.getElem?_eq_some_iff.1 ho).1
  have hil:i < listed.size:=by omega
  have hlk:∀ t∈o.looksAt ops,∀ x,k≤x→x < m→listed.getD x false=false→dsts ops x≠some t:=fun t ht x hx hx' hu e=>by
   have:=hpre x (F.dir i x t hki him hx hx' (by simpa [looks,ho] using ht) e)
   rw [hu] at this;cases this
  have rdl:∀ t∈o.looksAt ops,(fC t).rd (MO C.M A) w (g t):=fun t ht=>hrd t (hlk t ht)
  have hops:∀ x∈o.op.operands.toList,(eva fC x).rd (MO C.M A) w (ev g x):=fun x hx=>by
   cases x with
   | tmp t=>exact rdl t (List.mem_append_left _ (List.mem_filterMap.2 ⟨.tmp t,hx,rfl⟩))
   | const v=>exact cst_rd v
   | global g=>exact ⟨rfl,rfl⟩
   | func g=>exact ⟨rfl,rfl⟩
  have unl:∀ x,(listed.setIfInBounds i true).getD x false=false↔x≠i∧listed.getD x false=false:=fun x=>by
   have:=listed_set (j:=x) hil
   constructor
   ·intro h
    constructor
    ·rintro rfl;rw [this.2 (.inl rfl)] at h;cases h
    ·cases hg:listed.getD x false with
     | false=>rfl
     | true=>rw [this.2 (.inr hg)] at h;cases h
   ·rintro ⟨h1,h2⟩
    cases hg:(listed.setIfInBounds i true).getD x false with
    | false=>rfl
    | true=>
     rcases this.1 hg with h|h
     ·exact absurd h h1
     ·rw [h2] at h;cases h
  rcases F.all i hki him with h1|h2
  ·-- one that looks at nothing of the chain
   obtain ⟨hnot,hcl⟩:=(F.l1 i h1).2
   obtain ⟨d,hdd,hdl⟩:=F.dst i h1
   have hod:o.dst=some d:=by simpa [dsts,ho] using hdd
   obtain ⟨l1,l2,hL⟩:=List.append_of_mem h1
   have hsort:=F.asc
   rw [hL] at hsort
   have hpw:=List.pairwise_append.1 hsort
   have hag:∀ t∈o.looksAt ops,ach ops val l1 f t=fC t:=fun t ht=>by
    by_cases hex:∃ j,(k≤j∧j < m)∧dsts ops j=some t
    ·obtain ⟨j,⟨hj,hj'⟩,hjt⟩:=hex
     have hjd:=F.dir i j t hki him hj hj' (by simpa [looks,ho] using ht) hjt
     have hj1:=(hcl j hjd).resolve_left (by omega)
     have hji:=back_of F.back i j his hjd
     have hjl:j∈l1:=by
      rw [hL] at hj1
      rcases List.mem_append.1 hj1 with h|h
      ·exact h
      ·rcases List.mem_cons.1 h with rfl|h
       ·omega
       ·have:=(List.pairwise_cons.1 hpw.2.1).1 j h;omega
     have hfct:fC t=ach ops val L1 f t:=hfc t fun c hc e=>(F.l1 j hj1).2.1 (F.one c j t (F.l2 c hc).1 (F.l2 c hc).2 hj hj' e hjt▸hc)
     rw [hfct,ach_at t j L1 f hj1 hjt fun x hx e=>F.one x j t (F.l1 x hx).1.1 (F.l1 x hx).1.2 hj hj' e hjt,ach_at t j l1 f hjl hjt fun x hx e=>F.one x j t (F.l1 x (by rw [hL];simp [hx])).1.1 (F.l1 x (by rw [hL];simp [hx])).1.2 hj hj' e hjt]
    ·have hno:∀ x,k≤x∧x < m→dsts ops x≠some t:=fun x hx e=>hex ⟨x,hx,e⟩
     rw [old l1 t fun x hx=>hno x (F.l1 x (by rw [hL];simp [hx])).1,hfc t fun c hc=>hno c (F.l2 c hc),old L1 t fun x hx=>hno x (F.l1 x hx).1]
   have hr:=(RStep.congr hag (hv l1 i l2 o hL ho)).has hb
   have hfd:fC d=val i:=by
    rw [hfc d fun c hc e=>hnot (F.one c i d (F.l2 c hc).1 (F.l2 c hc).2 hki him e hdd▸hc),ach_at d i L1 f h1 hdd fun x hx e=>F.one x i d (F.l1 x hx).1.1 (F.l1 x hx).1.2 hki him e hdd]
   have next:∀ u w',(val i).rd (MO C.M A) w' u→Mod [] w w'→IM P n C ops B (fun f A=>AD P n C ops K m f A) k m L2 (ach ops val L1 f) (listed.setIfInBounds i true) (updo g o.dst u) w':=fun u w' hu hm=>by
    refine ⟨done,todo,fC,A,e,fun x hx=>(listed_set hil).2 (.inr (hd x hx)),fun x hx=>(unl x).2 ⟨fun ex=>hnot (by rw [e,← ex];simp [hx]),ht x hx⟩,hac,hb,hst.trans (.pure hst.pre hm),hfc,fun t htt=>?_⟩
    rw [hod]
    by_cases htd:t=d
    ·subst htd
     rw [hfd]
     show (val i).rd _ _ (upd g t u t)
     rw [upd_same];exact hu
    ·show (fC t).rd _ _ (upd g d u t)
     rw [upd_ne htd]
     refine AV.keep (fun b hb _=>hm.block b hb (by simp)) (hrd t fun x hx hx' hu'=>?_)
     by_cases hxi:x=i
     ·subst hxi;rw [hdd];intro e';cases e';exact htd rfl
     ·exact htt x hx hx' ((unl x).2 ⟨hxi,hu'⟩)
   unfold RStep at hr
   cases hg:o.guard with
   | none=>
    rw [hg] at hr
    rw [if_pos (by simp [Region.wanted,hg])]
    exact ⟨by rw [hod];exact hdl,(hr C.M w (ev g) hst.pre hops).mono fun u w' ⟨h1,h2⟩=>next u w' h1 h2⟩
   | some gw=>
    obtain ⟨j,b⟩:=gw
    rw [hg] at hr
    obtain ⟨t',c,h1',h2',h3'⟩:=hr
    have h4:=rdl t' (by simp [Oper.looksAt,hg,h1'])
    rw [h2'] at h4
    have hy:yl ops g j=c:=yl_obv h1' h4
    by_cases hcb:c=some b
    ·rw [if_pos hcb] at h3'
     rw [if_pos (by simp [Region.wanted,hg,hy,hcb])]
     exact ⟨by rw [hod];exact hdl,(h3' C.M w (ev g) hst.pre hops).mono fun u w' ⟨h1,h2⟩=>next u w' h1 h2⟩
    ·rw [if_neg hcb] at h3'
     rw [if_neg (by simp [Region.wanted,hg,hy,hcb])]
     exact ⟨next undef w (by rw [h3'];exact undef_rd) (Mod.refl _ _),by rw [hod];exact hdl⟩
  ·-- the next one of the chain
   have hit:i∈todo:=by
    rw [e] at h2
    rcases List.mem_append.1 h2 with h|h
    ·have:=hd i h;rw [hun] at this;cases this
    ·exact h
   obtain ⟨rest,rfl⟩:=head_of_chain F.chain e hit fun j hj hjc=>by have:=ht j hj;rw [hclo j hjc] at this;cases this
   obtain ⟨hdl,Q,hq,hk⟩:=hac o ho
   have next:∀ u w' v A',Q v A'→v.rd (MO C.M A') w' u→Step A A' C.M w w'→IM P n C ops B (fun f A=>AD P n C ops K m f A) k m L2 (ach ops val L1 f) (listed.setIfInBounds i true) (updo g o.dst u) w':=fun u w' v A' hqv hu hs'=>by
    obtain ⟨hb',hac'⟩:=hk v A' hqv
    refine ⟨done++[i],rest,auo fC o.dst v,A',by rw [e];simp,fun x hx=>(listed_set hil).2 ?_,fun x hx=>(unl x).2 ⟨?_,ht x (by simp [hx])⟩,hac',hb',hst.trans hs',fun t htt=>?_,fun t htt=>?_⟩
    ·rcases List.mem_append.1 hx with hx|hx
     ·exact .inr (hd x hx)
     ·exact .inl (by simpa using hx)
    ·rintro rfl
     rw [e] at nd
     have:=(List.nodup_append.1 nd).2.1
     exact (List.nodup_cons.1 this).1 hx
    ·rw [auo_ne fun e'=>htt i h2 (by simpa [dsts,ho] using e')]
     exact hfc t htt
    ·cases hod:o.dst with
     | none=>
      show (fC t).rd _ _ (g t)
      exact hs'.keep (hrd t fun x hx hx' hu'=>by
       by_cases hxi:x=i
       ·subst hxi;simp [dsts,ho,hod]
       ·exact htt x hx hx' ((unl x).2 ⟨hxi,hu'⟩))
     | some d=>
      by_cases htd:t=d
      ·subst htd
       show (au fC t v t).rd _ _ (upd g t u t)
       rw [au_same,upd_same];exact hu
      ·rw [auo_ne (by simp;exact fun e=>htd e.symm)]
       show (fC t).rd _ _ (upd g d u t)
       rw [upd_ne htd]
       refine hs'.keep (hrd t fun x hx hx' hu'=>?_)
       by_cases hxi:x=i
       ·subst hxi;simp only [dsts,ho,Option.bind_some,hod];intro e';cases e';exact htd rfl
       ·exact htt x hx hx' ((unl x).2 ⟨hxi,hu'⟩)
   unfold CStep at hq
   cases hg:o.guard with
   | none=>
    rw [hg] at hq
    rw [if_pos (by simp [Region.wanted,hg])]
    exact ⟨hdl,(hq C.M w (ev g) hst.pre hops).mono fun u w' ⟨v,A',h1,h2,h3⟩=>next u w' v A' h1 h2 h3⟩
   | some gw=>
    obtain ⟨j,b⟩:=gw
    rw [hg] at hq
    obtain ⟨t',c,h1',h2',h3'⟩:=hq
    have h4:=rdl t' (by simp [Oper.looksAt,hg,h1'])
    rw [h2'] at h4
    have hy:yl ops g j=c:=yl_obv h1' h4
    by_cases hcb:c=some b
    ·rw [if_pos hcb] at h3'
     rw [if_pos (by simp [Region.wanted,hg,hy,hcb])]
     exact ⟨hdl,(h3' C.M w (ev g) hst.pre hops).mono fun u w' ⟨v,A',h1,h2,h3⟩=>next u w' v A' h1 h2 h3⟩
    ·rw [if_neg hcb] at h3'
     rw [if_neg (by simp [Region.wanted,hg,hy,hcb])]
     exact ⟨next undef w _ A h3' undef_rd (.refl hst.pre),hdl⟩
 ·rintro listed g w hall ⟨done,todo,fC,A,e,hd,ht,hac,hb,hst,hfc,hrd⟩
  match todo,e,ht,hac with
  | [],e,ht,hac=>exact hac g w ⟨hst,fun t=>hrd t fun x hx hx' hu=>by rw [(hall x).2 hx'] at hu;cases hu⟩
  | x::r,e,ht,hac=>
   have:=ht x (by simp)
   rw [(hall x).2 (F.l2 x (by rw [e];simp)).2] at this;cases this
 ·intro listed hl
  have hun:∀ x,k≤x→listed.getD x false=false:=fun x hx=>by
   cases hg:listed.getD x false with
   | false=>rfl
   | true=>have:=(hl x).1 hg;omega
  refine ⟨[],L2,ach ops val L1 f,A,rfl,by simp,fun i hi=>hun i (F.l2 i hi).1,hK,hB,hi.st,fun t _=>rfl,fun t ht=>?_⟩
  rw [old L1 t fun x hx=>ht x (F.l1 x hx).1.1 (F.l1 x hx).1.2 (hun x (F.l1 x hx).1.1)]
  exact hi.fr t
section
variable {P:Program} {n:Nat} {C:Cx} {ops:Array Oper} {K:AF→List Atm→Prop} {f:AF} {A B:List Atm} {v:AV} {d:Nat} {dd:Option Tmp} {op:Op} {ty:TypeId} {pos:String} {aft:Array Edge} {i j t:Nat} {b:Bool} {rest:List Nat} {K':AF→Prop}
theorem kmix {k0:Nat} (m:Nat) (L1 L2:List Nat) (B:List Atm) (k:AR P ops B (fun f'=>AC P n ops B (fun f A=>AD P n C ops K m f A) L2 f' A) L1 f) (chk:mixChk ops n k0 m L1 L2=true:=by decide +kernel) (hB:Has B A:=by (first|exact Has.nil|exact Has.one|exact Has.two|exact Has.three|exact Has.refl _|exact ⟨[_],.refl _⟩|exact ⟨[_,_],.refl _⟩|exact ⟨[_,_,_],.refl _⟩|fail)):AD P n C ops K k0 f A:=AD_mix k0 m L1 L2 chk hB k
theorem kpar {k0:Nat} (m:Nat) (k:AR P ops A (fun f=>AD P n C ops K m f A) (List.range' k0 (m - k0)) f) (chk:parChk ops n k0 m ((span k0 m).map (preL ops k0 m))=true:=by decide +kernel):AD P n C ops K k0 f A:=AD_par m chk k
theorem kal1 (k:AR P ops A K' rest (au f d v)) (ho:ops[i]?=some ⟨some d,op,ty,pos,aft,none⟩:=by exact rfl) (h:PuO P f A ⟨some d,op,ty,pos,aft,none⟩ v:=by exact kpu):AR P ops A K' (i::rest) f:=
 ⟨v,fun o h'=>by rw [ho] at h';cases h';exact h,by simpa only [dsts,ho,Option.bind_some,auo] using k⟩
theorem kal0 (k:K' f):AR P ops A K' [] f:=k
theorem kac0 (k:K f A):AC P n ops B K [] f A:=k
theorem kacP (k:AC P n ops B K rest (au f d v) A) (ho:ops[i]?=some ⟨some d,op,ty,pos,aft,none⟩:=by exact rfl) (hb:Has B A:=by (first|exact Has.nil|exact Has.one|exact Has.two|exact Has.three|exact Has.refl _|exact ⟨[_],.refl _⟩|exact ⟨[_,_],.refl _⟩|exact ⟨[_,_,_],.refl _⟩|fail)) (hd:Nat.blt d n=true:=by exact rfl) (h:PuO P f A ⟨some d,op,ty,pos,aft,none⟩ v:=by exact kpu):AC P n ops B K (i::rest) f A:=fun o h'=>by
 rw [ho] at h';cases h'
 exact ⟨hd,_,h.opn,fun v' A' ⟨h1,h2⟩=>by subst h1;subst h2;exact ⟨hb,k⟩⟩
theorem kacO {Q:AV→List Atm→Prop} (ho:ops[i]?=some ⟨some d,op,ty,pos,aft,none⟩:=by exact rfl) (hd:Nat.blt d n=true:=by exact rfl) (h:Opn P f A ⟨some d,op,ty,pos,aft,none⟩ Q) (k:∀ v A',Q v A'→Has B A'∧AC P n ops B K rest (au f d v) A'):AC P n ops B K (i::rest) f A:=fun o h'=>by
 rw [ho] at h';cases h'
 exact ⟨hd,_,h,k⟩
theorem kacs {g:FuncId} [FnF P g] {avs:Array Operand} {tys:Array TypeId} {as1:List AV} {A1 L:List Atm} {Q':AV→List Atm→Prop} (h:Spec P g as1 L Q') (k:∀ v A',Q' v A'→Has B (A1++A')∧AC P n ops B K rest (au f d v) (A1++A')) (ho:ops[i]?=some ⟨some d,.call {callee:=.value (.func g),args:=avs,argTypes:=tys },ty,pos,aft,none⟩:=by exact rfl) (hA:A.Perm (A1++L):=by exact .refl _) (hd:Nat.blt d n=true:=by exact rfl) (ha:avs.toList.map (eva f)=as1:=by exact rfl) :
 AC P n ops B K (i::rest) f A:=kacO ho hd (O_call ha (h.front hA)) fun v A' ⟨B',h1,h2⟩=>h2▸k v B' h1
variable {T:TypeId} {agg:Bool} {sz:Nat} {z:Value} {T':TypeId} {x1 x2:Operand} {a2:AV}
theorem kacW [F:TyF P T agg sz z] (q:Nat) {bb:Nat} {ds cs:List D} (k:AC P n ops B K rest f (A.set q (abox bb cs T'))) (ho:ops[i]?=some ⟨none,.store T x1 x2,ty,pos,aft,none⟩:=by exact rfl) (hx:eva f x1=.one (.v (.pointer (some ⟨bb,0,none⟩))):=by exact rfl) (hi:A[q]?=some (abox bb ds T'):=by exact rfl) (hy:eva f x2=a2:=by (first|exact sh1 rfl|exact sh2 rfl|exact sh3 rfl|exact sh4 rfl|exact sh5 rfl|exact rfl|fail)) (hc:a2.cellsD=some cs:=by exact rfl)
 (hl:cs.length=sz:=by exact rfl) (hd:ds.length=sz:=by exact rfl) (hb:Has B (A.set q (abox bb cs T')):=by (first|exact Has.nil|exact Has.one|exact Has.two|exact Has.three|exact Has.refl _|exact ⟨[_],.refl _⟩|exact ⟨[_,_],.refl _⟩|exact ⟨[_,_,_],.refl _⟩|fail)):AC P n ops B K (i::rest) f A:=fun o h'=>by
 rw [ho] at h';cases h'
 refine ⟨rfl,_,O_store q x1 x2 hx hi hy hc hl (by simp [hd]),fun v A' ⟨h1,h2⟩=>?_⟩
 subst h1;subst h2
 rw [putD_all (hd.trans hl.symm)]
 exact ⟨hb,k⟩
end
section
variable {P:Program} {f:AF} {A:List Atm} {t:Nat} {v a:AV}
theorem rvV (h:VwA A a v) (hx:f t=a:=by (first|exact sh1 rfl|exact sh2 rfl|exact sh3 rfl|exact sh4 rfl|exact sh5 rfl|exact rfl|fail)):RVw P f A (.tmp t) v:=⟨f t,R1_tmp,by rw [hx];exact h⟩
theorem rvw {T T':TypeId} {sz:Nat} {z:Value} [F:TyF P T true sz z] {b:Nat} {ds cs':List D} (e:VwC A ds cs') (hx:f t=.one (.v (.pointer (some ⟨b,0,none⟩))):=by exact rfl) (hm:abox b ds T'∈A:=by repeat (first|exact List.Mem.head _|apply List.Mem.tail)) (hl:ds.length=sz:=by exact rfl):RVw P f A (.cell t T) (.agg cs'):=rvW hx hm hl e
end
theorem wkR {f:AF} {A A':List Atm} (h:A'.Sublist A):Wk f A f A':=⟨fun _=>.refl _,A,.refl _,h⟩
theorem ker0 {P:Program} {f:AF} {A A'':List Atm} {Q':AV→List Atm→Prop} (hq:Q' (.tup []) A'') (hs:A''.Sublist A:=by (exact wS)):∃ l v A'',RV P f A [] l∧Q' v A''∧(AV.of1 l).le v∧Wk f A f A'':=⟨[],.tup [],A'',rfl,hq,.refl _,wkR hs⟩
theorem ker1 {P:Program} {f:AF} {A A'':List Atm} {Q':AV→List Atm→Prop} {t:Nat} {a:AV} (v:AV) (hq:Q' v A'') (hx:f t=a:=by (first|exact sh1 rfl|exact sh2 rfl|exact sh3 rfl|exact sh4 rfl|exact sh5 rfl|exact rfl|fail)) (hle:a.le v:=by (first|exact le_eq rfl|exact le_nilM|exact le_nilT|fail)) (hs:A''.Sublist A:=by (exact wS)):∃ l v A'',RV P f A [.tmp t] l∧Q' v A''∧(AV.of1 l).le v∧Wk f A f A'':=⟨[f t],v,A'',⟨_,_,rfl,R1_tmp,rfl⟩,hq,by rw [show AV.of1 [f t]=f t from rfl,hx];exact hle,wkR hs⟩
theorem wH {X:Prop} (h:X:=by (first|exact Has.nil|exact Has.one|exact Has.two|exact Has.three|exact Has.refl _|exact ⟨[_],.refl _⟩|exact ⟨[_,_],.refl _⟩|exact ⟨[_,_,_],.refl _⟩|fail)):X:=h
noncomputable section
abbrev nv (n:Nat):AV:=iv (n:Int)
instance orderInts_c:Con2 Tryz.prog 321 Int Int iv iv (fun a b=>iv (cI a b)) (fun _ _=>True):=⟨fun a b _=>by
 refine pu Tryz.func321 rfl Tryz.ntmps321 rfl rfl fun C=>?_
 (repeat' first|(refine kk ?_;intros)|refine kfk ?_ ?_<;>intro hb|fail)
 all_goals refine kret ?_
 all_goals unfold cI
 ·rw [if_pos hb]
 ·rename_i h;rw [if_neg h,if_pos hb]
 ·rename_i h;rw [if_neg h,if_neg hb]⟩
instance variable_c:Con1 Tryz.prog 214 Nat nv (fun n=>vT (.var n)) (fun _=>True):=⟨fun n _=>by
 refine pu Tryz.func214 rfl Tryz.ntmps214 rfl rfl fun C=>?_
 (repeat' first|(refine kk ?_;intros)|refine kfk ?_ ?_<;>intro hb|fail)
 refine kr1 (rvw ?_)
 (exact wV)⟩
instance copyTerm_c:Con1 Tryz.prog 177 T vT (fun t=>vT t) (fun _=>True):=.ind T.nodes fun N ih t hN _=>by
 refine pu Tryz.func177 rfl Tryz.ntmps177 rfl rfl fun C=>?_
 cases t with
 | pair a b=>
  have ha:=nodes_pos a
  have hb:=nodes_pos b
  simp only [T.nodes] at hN
  have h1:a.nodes < N:=by omega
  have h2:b.nodes < N:=by omega
  (repeat' first|(refine kk ?_;intros)|refine kfk ?_ ?_<;>intro hb|fail)
  refine kr1 (rvw ?_)
  (exact wV)
 | _=>
  (repeat' first|(refine kk ?_;intros)|refine kfk ?_ ?_<;>intro hb|fail)
  refine kr1 (rvw ?_)
  (exact wV)
instance pair_c:Con2 Tryz.prog 293 T T vT vT (fun a b=>vT (.pair a b)) (fun _ _=>True):=⟨fun a b _=>by
 refine pu Tryz.func293 rfl Tryz.ntmps293 rfl rfl fun C=>?_
 (repeat' first|(refine kk ?_;intros)|refine kfk ?_ ?_<;>intro hb|fail)
 refine kr1 (rvw ?_)
 (exact wV)⟩
theorem keyne_kind {a b:T} (h:a.tm.kind≠b.tm.kind):cT a b=cI a.tm.kind b.tm.kind:=by
 have hk:∀ t:T,t.tm.kind=t.kind:=fun t=>by cases t<;>rfl
 rw [hk,hk] at *
 have:cI a.kind b.kind≠0:=fun e=>h ((cI_tot.eq _ _).1 e)
 have e:cK (keyT a) (keyT b)=cI a.kind b.kind:=by unfold cK prodC keyT;rw [if_pos this]
 rw [cT_key (by rw [e];exact this),e]
theorem tm_kind (t:T):t.tm.kind=t.kind:=by cases t<;>rfl
theorem tm_int (t:T):t.tm.int=t.int:=by cases t<;>rfl
theorem tm_name (t:T):t.tm.name=t.name:=by cases t<;>rfl
theorem keyne_int {a b:T} (h0:a.tm.kind=b.tm.kind) (h:a.tm.int≠b.tm.int):cT a b=cI a.tm.int b.tm.int:=by
 rw [tm_kind,tm_kind] at h0
 rw [tm_int,tm_int] at *
 have h1:cI a.kind b.kind=0:=(cI_tot.eq _ _).2 h0
 have h2:cI a.int b.int≠0:=fun e=>h ((cI_tot.eq _ _).1 e)
 have e:cK (keyT a) (keyT b)=cI a.int b.int:=by unfold cK prodC keyT;simp only [h1,ne_eq,not_true,if_false];rw [if_pos h2]
 rw [cT_key (by rw [e];exact h2),e]
theorem keyne_name {a b:T} (h0:a.tm.kind=b.tm.kind) (h1:a.tm.int=b.tm.int) (h:a.tm.name≠b.tm.name):cT a b=cB a.tm.name b.tm.name:=by
 rw [tm_kind,tm_kind] at h0
 rw [tm_int,tm_int] at h1
 rw [tm_name,tm_name] at *
 have h1:cI a.kind b.kind=0:=(cI_tot.eq _ _).2 h0
 have h2:cI a.int b.int=0:=(cI_tot.eq _ _).2 ‹_›
 have h3:cB a.name b.name≠0:=fun e=>h ((cB_tot.eq _ _).1 e)
 have e:cK (keyT a) (keyT b)=cB a.name b.name:=by unfold cK prodC keyT;simp only [h1,h2,ne_eq,not_true,if_false]
 rw [cT_key (by rw [e];exact h3),e]
theorem key_same {a b:T} (h0:a.tm.kind=b.tm.kind) (h1:a.tm.int=b.tm.int) (h2:a.tm.name=b.tm.name):a=b∨∃ a1 a2 b1 b2,a=.pair a1 a2∧b=.pair b1 b2:=by
 rw [tm_kind,tm_kind] at h0
 rw [tm_int,tm_int] at h1
 rw [tm_name,tm_name] at h2
 exact key_eq ((cK_tot.eq _ _).2 (by unfold keyT;rw [h0,h1,h2]))
theorem bytesLess_cB {a b:ByteArray} (h:a≠b):cB a b=if Op.bytesLess a.toList b.toList=true then -1 else 1:=by unfold cB;rw [if_neg h]
instance orderTerms_c:Con2 Tryz.prog 299 T T vT vT (fun a b=>iv (cT a b)) (fun _ _=>True):=.ind (fun a _=>a.nodes) fun N ih a b hN _=>by
 refine pu Tryz.func299 rfl Tryz.ntmps299 rfl rfl fun C=>?_
 by_cases hk:a.tm.kind=b.tm.kind
 ·by_cases hi:a.tm.int=b.tm.int
  ·by_cases hn:a.tm.name=b.tm.name
   ·rcases key_same hk hi hn with rfl | ⟨a1,a2,b1,b2,rfl,rfl⟩
    ·cases a with
     | pair a1 a2=>
      have:=nodes_pos a1
      have:=nodes_pos a2
      simp only [T.nodes] at hN
      have s1:a1.nodes < N:=by omega
      have s2:a2.nodes < N:=by omega
      clear hk hi hn
      (repeat' first|(refine kk ?_;intros)|refine kfk ?_ ?_<;>intro hb|fail)
      all_goals refine kret ?_
      ·exact absurd (cT_tot.self a1) hb
      ·rw [cT_tot.self,cT_tot.self]
     | _=>
      (repeat' first|(refine kk ?_;intros)|refine kfk ?_ ?_<;>intro hb|fail)
      refine kret ?_
      rw [cT_tot.self]
    ·have:=nodes_pos a1
     have:=nodes_pos a2
     simp only [T.nodes] at hN
     have s1:a1.nodes < N:=by omega
     have s2:a2.nodes < N:=by omega
     clear hk hi hn
     (repeat' first|(refine kk ?_;intros)|refine kfk ?_ ?_<;>intro hb|fail)
     all_goals refine kret ?_
     ·rw [cT_pair,if_pos hb]
     ·rw [cT_pair,if_neg (by simpa using hb)]
   ·(repeat' first|(refine kk ?_;intros)|refine kfk ?_ ?_<;>intro hb|fail)
    all_goals refine kret ?_
    all_goals rw [keyne_name hk hi hn,bytesLess_cB hn]
    ·rw [if_pos hb]
    ·rw [if_neg (by simp [hb])]
  ·(repeat' first|(refine kk ?_;intros)|refine kfk ?_ ?_<;>intro hb|fail)
   refine kret ?_
   rw [keyne_int hk hi]
 ·(repeat' first|(refine kk ?_;intros)|refine kfk ?_ ?_<;>intro hb|fail)
  refine kret ?_
  rw [keyne_kind hk]
instance equalTerms_c:Con2 Tryz.prog 267 T T vT vT (fun a b=>bp (a=b)) (fun _ _=>True):=⟨fun a b _=>by
 refine pu Tryz.func267 rfl Tryz.ntmps267 rfl rfl fun C=>?_
 (repeat' first|(refine kk ?_;intros)|refine kfk ?_ ?_<;>intro hb|fail)
 refine kret (bpI ?_)
 rw [beq_iff_eq,cT_tot.eq]⟩
instance hasSymbol_c:Con2 Tryz.prog 228 T ByteArray vT sv (fun t s=>bp (t.hasSym s)) (fun _ _=>True):=.ind (fun a _=>a.nodes) fun N ih t s hN _=>by
 refine pu Tryz.func228 rfl Tryz.ntmps228 rfl rfl fun C=>?_
 cases t with
 | pair a b=>
  have:=nodes_pos a
  have:=nodes_pos b
  simp only [T.nodes] at hN
  have s1:a.nodes < N:=by omega
  have s2:b.nodes < N:=by omega
  (repeat' first|(refine kk ?_;intros)|refine kfk ?_ ?_<;>intro hb|fail)
  ·exact kret (bpT (.inl hb))
  ·exact kret (bpC ⟨.inr,fun h=>h.resolve_left hb⟩)
 | sym s'=>
  (repeat' first|(refine kk ?_;intros)|refine kfk ?_ ?_<;>intro hb|fail)
  refine kret (bpI ?_)
  rw [beq_iff_eq,bytes_ext];rfl
 | _=>
  (repeat' first|(refine kk ?_;intros)|refine kfk ?_ ?_<;>intro hb|fail)
  exact kret (bpF fun h=>h)
end
theorem kerC {P:Program} {f:AF} {A A'':List Atm} {Q':AV→List Atm→Prop} {t:Nat} {T T':TypeId} {sz:Nat} {z:Value} [F:TyF P T true sz z] {b:Nat} {ds:List D} (v:AV) (hq:Q' v A'') (hle:(AV.agg ds).le v) (hx:f t=.one (.v (.pointer (some ⟨b,0,none⟩))):=by exact rfl) (hm:abox b ds T'∈A:=by repeat (first|exact List.Mem.head _|apply List.Mem.tail)) (hl:ds.length=sz:=by exact rfl) (hs:A''.Sublist A:=by (exact wS)) :
 ∃ l v A'',RV P f A [.cell t T] l∧Q' v A''∧(AV.of1 l).le v∧Wk f A f A'':=⟨[.agg ds],v,A'',⟨_,_,rfl,R1_cell hx hm (by rw [List.drop_zero,← hl,List.take_length]) (by simp [hl]),rfl⟩,hq,hle,wkR hs⟩
theorem kerC2 {P:Program} {f:AF} {A A'':List Atm} {Q':AV→List Atm→Prop} {t t2:Nat} {T T':TypeId} {sz:Nat} {z:Value} [F:TyF P T true sz z] {b:Nat} {ds:List D} {a v1 v2:AV} (hq:Q' (.tup [v1,v2]) A'') (hle:(AV.agg ds).le v1) (hle2:a.le v2) (hx:f t=.one (.v (.pointer (some ⟨b,0,none⟩))):=by exact rfl) (hx2:f t2=a:=by (first|exact sh1 rfl|exact sh2 rfl|exact sh3 rfl|exact sh4 rfl|exact sh5 rfl|exact rfl|fail)) (hm:abox b ds T'∈A:=by repeat (first|exact List.Mem.head _|apply List.Mem.tail)) (hl:ds.length=sz:=by exact rfl) (hs:A''.Sublist A:=by (exact wS)) :
 ∃ l v A'',RV P f A [.cell t T,.tmp t2] l∧Q' v A''∧(AV.of1 l).le v∧Wk f A f A'':=⟨[.agg ds,f t2],.tup [v1,v2],A'',⟨_,_,rfl,R1_cell hx hm (by rw [List.drop_zero,← hl,List.take_length]) (by simp [hl]),_,_,rfl,R1_tmp,rfl⟩,hq,AV.le_tup (show leA [AV.agg ds,f t2] [v1,v2] from ⟨hle,by rw [hx2];exact hle2,trivial⟩),wkR hs⟩
theorem ker2 {P:Program} {f:AF} {A A'':List Atm} {Q':AV→List Atm→Prop} {t t2:Nat} {a a2 v1 v2:AV} (hq:Q' (.tup [v1,v2]) A'') (hle:a.le v1) (hle2:a2.le v2) (hx:f t=a:=by (first|exact sh1 rfl|exact sh2 rfl|exact sh3 rfl|exact sh4 rfl|exact sh5 rfl|exact rfl|fail)) (hx2:f t2=a2:=by (first|exact sh1 rfl|exact sh2 rfl|exact sh3 rfl|exact sh4 rfl|exact sh5 rfl|exact rfl|fail)) (hs:A''.Sublist A:=by (exact wS)) :
 ∃ l v A'',RV P f A [.tmp t,.tmp t2] l∧Q' v A''∧(AV.of1 l).le v∧Wk f A f A'':=⟨[f t,f t2],.tup [v1,v2],A'',⟨_,_,rfl,R1_tmp,_,_,rfl,R1_tmp,rfl⟩,hq,AV.le_tup (show leA [f t,f t2] [v1,v2] from ⟨by rw [hx];exact hle,by rw [hx2];exact hle2,trivial⟩),wkR hs⟩
theorem kkn {X Y:Prop} (k:Y) (h:Hv Y→X:=by intro k;(first|((first|refine kc ?_|refine kr ?_|refine kar ?_|refine kT ?_|refine kF ?_|refine kxo ?_|refine kae ?_|refine krF ?_|refine krT ?_|refine krU ?_|refine karF ?_|refine karT ?_|refine karU ?_|refine kstW 0 ?_|refine kstW 1 ?_|refine kstW 2 ?_|refine kstW 3 ?_|refine kstW 4 ?_|refine kstW 5 ?_|refine kst 0 ?_|refine kst 1 ?_|refine kst 2 ?_|refine kst 3 ?_|refine kst 4 ?_|refine kst 5 ?_|fail);(repeat (first|refine kc ?_|refine kr ?_|refine kar ?_|refine kT ?_|refine kF ?_|refine kxo ?_|refine kae ?_|refine krF ?_|refine krT ?_|refine krU ?_|refine karF ?_|refine karT ?_|refine karU ?_|refine kstW 0 ?_|refine kstW 1 ?_|refine kstW 2 ?_|refine kstW 3 ?_|refine kstW 4 ?_|refine kstW 5 ?_|refine kst 0 ?_|refine kst 1 ?_|refine kst 2 ?_|refine kst 3 ?_|refine kst 4 ?_|refine kst 5 ?_|fail));first|(first|exact kbx k.out|exact kal k.out|exact kmk k.out|exact kbs0 k.out|exact kap 0 k.out|exact kap 1 k.out|exact kap 2 k.out|exact kap 3 k.out|exact kdA 0 k.out|exact kdA 1 k.out|exact kdA 2 k.out|exact kdA 3 k.out|fail)|exact k.out)|(first|exact kbx k.out|exact kal k.out|exact kmk k.out|exact kbs0 k.out|exact kap 0 k.out|exact kap 1 k.out|exact kap 2 k.out|exact kap 3 k.out|exact kdA 0 k.out|exact kdA 1 k.out|exact kdA 2 k.out|exact kdA 3 k.out|fail))):X:=h ⟨k⟩
theorem kkc {X Y:Prop} (k:Y) (h:Hv Y→X:=by intro k;(first|refine kal1 ?_|refine kalT ?_|refine kal0 ?_|refine kacP ?_|refine kac0 ?_|refine kacW 0 ?_|refine kacW 1 ?_|refine kacW 2 ?_|refine kacW 3 ?_|refine kc ?_|fail);(repeat (first|refine kal1 ?_|refine kalT ?_|refine kal0 ?_|refine kacP ?_|refine kac0 ?_|refine kacW 0 ?_|refine kacW 1 ?_|refine kacW 2 ?_|refine kacW 3 ?_|refine kc ?_|fail));exact k.out):X:=h ⟨k⟩
end Go.Proofs.YtejkllmoofdpjaaGreat
