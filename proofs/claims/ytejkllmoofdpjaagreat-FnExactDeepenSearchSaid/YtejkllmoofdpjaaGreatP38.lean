/- Parts of the proof: VQ2 VQ1. -/
import Derived.Test.YtejkllmoofdpjaaGreatD29
namespace Go.Proofs.YtejkllmoofdpjaaGreat
open Go
set_option linter.all false
set_option maxRecDepth 100000
set_option maxHeartbeats 4000000
instance:FnF Tryz.prog 40:=⟨enters_of Tryz.func40 (by kernel_rfl) rfl⟩
instance:FnF Tryz.prog 41:=⟨enters_of Tryz.func41 (by kernel_rfl) rfl⟩
instance:FnF Tryz.prog 42:=⟨enters_of Tryz.func42 (by kernel_rfl) rfl⟩
instance:FnF Tryz.prog 43:=⟨enters_of Tryz.func43 (by kernel_rfl) rfl⟩
def AC2 (P:Program) (n:Nat) (ops:Array Oper) (B:List Atm) (K:AF→List Atm→Prop):Nat→List Nat→AF→List Atm→Prop
 | 0,_,f,A=>K f A
 | k+1,todo,f,A=>∀ i∈todo,(∀ j∈todo,j∉clo ops i)→∀ o,ops[i]?=some o→dlt o.dst n=true∧∃ Q,CStep P ops f A o Q∧∀ v A',Q v A'→Has B A'∧AC2 P n ops B K k (todo.erase i) (auo f o.dst v) A'
def mixChk2 (ops:Array Oper) (n k m:Nat) (L1 L2:List Nat):Bool:=
 backChk ops && decide (k≤m) && decide (m≤ops.size) && (span k m).all (fun i=>L1.contains i || L2.contains i) && L1.all (fun i=>decide (k≤i) && decide (i < m) && !L2.contains i && (dirs ops i).all fun j=>decide (j < k) || L1.contains j) &&
 L1.all (fun i=>(dsts ops i).isSome && dlt (dsts ops i) n) && L2.all (fun i=>decide (k≤i) && decide (i < m)) &&
 (span k m).all (fun i=>(span k m).all fun j=>(i == j || dsts ops i == none || dsts ops i != dsts ops j) && (!((looks ops i).any fun t=>dsts ops j == some t) || (dirs ops i).contains j)) &&
 ascChk L2 && ascChk L1 && (List.range ops.size).all (fun j=>decide (j < m) || (span k m).all fun i=>(clo ops j).contains i)
structure FactsM2 (ops:Array Oper) (n k m:Nat) (L1 L2:List Nat):Prop where
 back:backChk ops=true
 km:k≤m
 le:m≤ops.size
 all:∀ i,k≤i→i < m→i∈L1∨i∈L2
 l1:∀ i∈L1,(k≤i∧i < m)∧i∉L2∧∀ j∈dirs ops i,j < k∨j∈L1
 dst:∀ i∈L1,∃ d,dsts ops i=some d∧dlt (some d) n=true
 l2:∀ i∈L2,k≤i∧i < m
 one:∀ i j t,k≤i→i < m→k≤j→j < m→dsts ops i=some t→dsts ops j=some t→i=j
 dir:∀ i j t,k≤i→i < m→k≤j→j < m→t∈looks ops i→dsts ops j=some t→j∈dirs ops i
 nd2:L2.Pairwise (· < ·)
 asc:L1.Pairwise (· < ·)
 tail:∀ i j,j < ops.size→m≤j→k≤i→i < m→i∈clo ops j
theorem factsM2 {ops:Array Oper} {n k m:Nat} {L1 L2:List Nat} (h:mixChk2 ops n k m L1 L2=true):FactsM2 ops n k m L1 L2:=by
 simp only [mixChk2,Bool.and_eq_true,List.all_eq_true,mem_span,List.mem_range,decide_eq_true_eq,Bool.or_eq_true,List.contains_iff_mem,Bool.not_eq_true',beq_iff_eq] at h
 obtain ⟨⟨⟨⟨⟨⟨⟨⟨⟨⟨h1,ha⟩,hb⟩,h2⟩,h3⟩,h4⟩,h5⟩,h6⟩,h7⟩,h8⟩,h9⟩:=h
 refine ⟨h1,ha,hb,fun i hi hj=>h2 i ⟨hi,hj⟩,fun i hi=>?_,fun i hi=>?_,h5,fun i j t hi hi' hj hj' e1 e2=>?_,fun i j t hi hi' hj hj' ht e=>?_,asc_of_chk h7,asc_of_chk h8,fun i j hj hm hi hi'=>?_⟩
 ·obtain ⟨⟨⟨a,a'⟩,b⟩,c⟩:=h3 i hi
  exact ⟨⟨a,a'⟩,fun hm=>(by rw [List.contains_iff_mem.2 hm] at b;cases b),c⟩
 ·obtain ⟨a,b⟩:=h4 i hi
  obtain ⟨d,hd⟩:=Option.isSome_iff_exists.1 a
  exact ⟨d,hd,by rw [← hd];exact b⟩
 ·rcases (h6 i ⟨hi,hi'⟩ j ⟨hj,hj'⟩).1 with (h|h)|h
  ·exact h
  ·rw [e1] at h;cases h
  ·rw [e1,e2] at h;simp at h
 ·rcases (h6 i ⟨hi,hi'⟩ j ⟨hj,hj'⟩).2 with h|h
  ·rw [List.any_eq_false] at h
   have:=h t ht
   rw [e] at this;simp at this
  ·exact h
 ·exact (h9 j hj).resolve_left (by omega) i ⟨hi,hi'⟩
structure IM2 (P:Program) (n:Nat) (C:Cx) (ops:Array Oper) (B:List Atm) (K:AF→List Atm→Prop) (k m:Nat) (L2:List Nat) (fL:AF) (listed:Array Bool) (g:FF) (w:World):Prop where
 ex:∃ (todo:List Nat) (fC:AF) (A:List Atm),todo.Nodup∧(∀ i∈todo,i∈L2∧listed.getD i false=false)∧(∀ i∈L2,listed.getD i false=false→i∈todo)∧
  AC2 P n ops B K todo.length todo fC A∧Has B A∧Step C.A0 A C.M C.w0 w∧(∀ t,(∀ c∈L2,dsts ops c≠some t)→fC t=fL t)∧∀ t,(∀ i,k≤i→i < m→listed.getD i false=false→dsts ops i≠some t)→(fC t).rd (MO C.M A) w (g t)
theorem AD_mix2 {P:Program} {n:Nat} {C:Cx} {ops:Array Oper} {K:AF→List Atm→Prop} {f:AF} {A B:List Atm} (k m:Nat) (L1 L2:List Nat) (chk:mixChk2 ops n k m L1 L2=true) (hB:Has B A) (h:AR P ops B (fun f'=>AC2 P n ops B (fun f A=>AD P n C ops K m f A) L2.length L2 f' A) L1 f):AD P n C ops K k f A:=by
 intro g w hi
 have F:=factsM2 chk
 obtain ⟨val,hv,hK⟩:=AR_vals F.asc h
 have nd:L2.Nodup:=F.nd2.imp fun h=>Nat.ne_of_lt h
 have old:∀ (l:List Nat) (t:Nat),(∀ i∈l,dsts ops i≠some t)→ach ops val l f t=f t:=fun l t hl=>ach_old t l f hl
 refine WD_any k m (IM2 P n C ops B (fun f A=>AD P n C ops K m f A) k m L2 (ach ops val L1 f)) F.km F.le F.back F.tail ?_ ?_ ?_
 ·rintro listed i o g w hs ho hki him hun hpre hclo hlow ⟨todo,fC,A,e,ht,hd,hac,hb,hst,hfc,hrd⟩
  have his:i < ops.size:=(Array.getElem?_eq_some_iff.1 ho).1
  have hil:i < listed.size:=by omega
  have hlk:∀ t∈o.looksAt ops,∀ x,k≤x→x < m→listed.getD x false=false→dsts ops x≠some t:=fun t ht x hx hx' hu e=>by
   have:=hpre x (F.dir i x t hki him hx hx' (by simpa [looks,ho] using ht) e)
   rw [hu] at this;cases this
  have rdl:∀ t∈o.looksAt ops,(fC t).rd (MO C.M A) w (g t):=fun t ht=>hrd t (hlk t ht)
  have hops:∀ x∈o.op.operands.toList,(eva fC x).rd (MO C.M A) w (ev g x):=fun x hx=>by
   cases x with
   | tmp t=>exact rdl t (List.mem_append_left _ (List.mem_filterMap.2 ⟨.tmp t,hx,rfl⟩))
   | const v=>exact cst_rd v
   | global g=>exact ⟨rfl,rfl⟩
   | func g=>exact ⟨rfl,rfl⟩
  have unl:∀ x,(listed.setIfInBounds i true).getD x false=false↔x≠i∧listed.getD x false=false:=fun x=>by
   have:=listed_set (j:=x) hil
   constructor
   ·intro h
    constructor
    ·rintro rfl;rw [this.2 (.inl rfl)] at h;cases h
    ·cases hg:listed.getD x false with
     | false=>rfl
     | true=>rw [this.2 (.inr hg)] at h;cases h
   ·rintro ⟨h1,h2⟩
    cases hg:(listed.setIfInBounds i true).getD x false with
    | false=>rfl
    | true=>
     rcases this.1 hg with h|h
     ·exact absurd h h1
     ·rw [h2] at h;cases h
  rcases F.all i hki him with h1|h2
  ·-- one that looks at nothing of the chain
   obtain ⟨hnot,hcl⟩:=(F.l1 i h1).2
   obtain ⟨d,hdd,hdl⟩:=F.dst i h1
   have hod:o.dst=some d:=by simpa [dsts,ho] using hdd
   obtain ⟨l1,l2,hL⟩:=List.append_of_mem h1
   have hsort:=F.asc
   rw [hL] at hsort
   have hpw:=List.pairwise_append.1 hsort
   have hag:∀ t∈o.looksAt ops,ach ops val l1 f t=fC t:=fun t ht=>by
    by_cases hex:∃ j,(k≤j∧j < m)∧dsts ops j=some t
    ·obtain ⟨j,⟨hj,hj'⟩,hjt⟩:=hex
     have hjd:=F.dir i j t hki him hj hj' (by simpa [looks,ho] using ht) hjt
     have hj1:=(hcl j hjd).resolve_left (by omega)
     have hji:=back_of F.back i j his hjd
     have hjl:j∈l1:=by
      rw [hL] at hj1
      rcases List.mem_append.1 hj1 with h|h
      ·exact h
      ·rcases List.mem_cons.1 h with rfl|h
       ·omega
       ·have:=(List.pairwise_cons.1 hpw.2.1).1 j h;omega
     have hfct:fC t=ach ops val L1 f t:=hfc t fun c hc e=>(F.l1 j hj1).2.1 (F.one c j t (F.l2 c hc).1 (F.l2 c hc).2 hj hj' e hjt▸hc)
     rw [hfct,ach_at t j L1 f hj1 hjt fun x hx e=>F.one x j t (F.l1 x hx).1.1 (F.l1 x hx).1.2 hj hj' e hjt,ach_at t j l1 f hjl hjt fun x hx e=>F.one x j t (F.l1 x (by rw [hL];simp [hx])).1.1 (F.l1 x (by rw [hL];simp [hx])).1.2 hj hj' e hjt]
    ·have hno:∀ x,k≤x∧x < m→dsts ops x≠some t:=fun x hx e=>hex ⟨x,hx,e⟩
     rw [old l1 t fun x hx=>hno x (F.l1 x (by rw [hL];simp [hx])).1,hfc t fun c hc=>hno c (F.l2 c hc),old L1 t fun x hx=>hno x (F.l1 x hx).1]
   have hr:=(RStep.congr hag (hv l1 i l2 o hL ho)).has hb
   have hfd:fC d=val i:=by
    rw [hfc d fun c hc e=>hnot (F.one c i d (F.l2 c hc).1 (F.l2 c hc).2 hki him e hdd▸hc),ach_at d i L1 f h1 hdd fun x hx e=>F.one x i d (F.l1 x hx).1.1 (F.l1 x hx).1.2 hki him e hdd]
   have next:∀ u w',(val i).rd (MO C.M A) w' u→Mod [] w w'→IM2 P n C ops B (fun f A=>AD P n C ops K m f A) k m L2 (ach ops val L1 f) (listed.setIfInBounds i true) (updo g o.dst u) w':=fun u w' hu hm=>by
    refine ⟨todo,fC,A,e,fun x hx=>⟨(ht x hx).1,(unl x).2 ⟨fun ex=>hnot (ex▸(ht x hx).1),(ht x hx).2⟩⟩,fun x hx hu=>hd x hx ((unl x).1 hu).2,hac,hb,hst.trans (.pure hst.pre hm),hfc,fun t htt=>?_⟩
    rw [hod]
    by_cases htd:t=d
    ·subst htd
     rw [hfd]
     show (val i).rd _ _ (upd g t u t)
     rw [upd_same];exact hu
    ·show (fC t).rd _ _ (upd g d u t)
     rw [upd_ne htd]
     refine AV.keep (fun b hb _=>hm.block b hb (by simp)) (hrd t fun x hx hx' hu'=>?_)
     by_cases hxi:x=i
     ·subst hxi;rw [hdd];intro e';cases e';exact htd rfl
     ·exact htt x hx hx' ((unl x).2 ⟨hxi,hu'⟩)
   unfold RStep at hr
   cases hg:o.guard with
   | none=>
    rw [hg] at hr
    rw [if_pos (by simp [Region.wanted,hg])]
    exact ⟨by rw [hod];exact hdl,(hr C.M w (ev g) hst.pre hops).mono fun u w' ⟨h1,h2⟩=>next u w' h1 h2⟩
   | some gw=>
    obtain ⟨j,b⟩:=gw
    rw [hg] at hr
    obtain ⟨t',c,h1',h2',h3'⟩:=hr
    have h4:=rdl t' (by simp [Oper.looksAt,hg,h1'])
    rw [h2'] at h4
    have hy:yl ops g j=c:=yl_obv h1' h4
    by_cases hcb:c=some b
    ·rw [if_pos hcb] at h3'
     rw [if_pos (by simp [Region.wanted,hg,hy,hcb])]
     exact ⟨by rw [hod];exact hdl,(h3' C.M w (ev g) hst.pre hops).mono fun u w' ⟨h1,h2⟩=>next u w' h1 h2⟩
    ·rw [if_neg hcb] at h3'
     rw [if_neg (by simp [Region.wanted,hg,hy,hcb])]
     exact ⟨next undef w (by rw [h3'];exact undef_rd) (Mod.refl _ _),by rw [hod];exact hdl⟩
  ·-- the next one of the chain
   have hit:i∈todo:=hd i h2 hun
   have hrdy:∀ j∈todo,j∉clo ops i:=fun j hj hjc=>by have:=(ht j hj).2;rw [hclo j hjc] at this;cases this
   obtain ⟨q,hq0⟩:∃ q,todo.length=q+1:=⟨todo.length - 1,by have:=List.length_pos_of_mem hit;omega⟩
   rw [hq0] at hac
   have hel:(todo.erase i).length=q:=by rw [List.length_erase_of_mem hit];omega
   obtain ⟨hdl,Q,hq,hk⟩:=hac i hit hrdy o ho
   have next:∀ u w' v A',Q v A'→v.rd (MO C.M A') w' u→Step A A' C.M w w'→IM2 P n C ops B (fun f A=>AD P n C ops K m f A) k m L2 (ach ops val L1 f) (listed.setIfInBounds i true) (updo g o.dst u) w':=fun u w' v A' hqv hu hs'=>by
    obtain ⟨hb',hac'⟩:=hk v A' hqv
    refine ⟨todo.erase i,auo fC o.dst v,A',e.erase i,fun x hx=>?_,fun x hx hu=>?_,by rw [hel];exact hac',hb',hst.trans hs',fun t htt=>?_,fun t htt=>?_⟩
    ·have hx':=(List.Nodup.mem_erase_iff e).1 hx
     exact ⟨(ht x hx'.2).1,(unl x).2 ⟨hx'.1,(ht x hx'.2).2⟩⟩
    ·have:=(unl x).1 hu
     exact (List.Nodup.mem_erase_iff e).2 ⟨this.1,hd x hx this.2⟩
    ·rw [auo_ne fun e'=>htt i h2 (by simpa [dsts,ho] using e')]
     exact hfc t htt
    ·cases hod:o.dst with
     | none=>
      show (fC t).rd _ _ (g t)
      exact hs'.keep (hrd t fun x hx hx' hu'=>by
       by_cases hxi:x=i
       ·subst hxi;simp [dsts,ho,hod]
       ·exact htt x hx hx' ((unl x).2 ⟨hxi,hu'⟩))
     | some d=>
      by_cases htd:t=d
      ·subst htd
       show (au fC t v t).rd _ _ (upd g t u t)
       rw [au_same,upd_same];exact hu
      ·rw [auo_ne (by simp;exact fun e=>htd e.symm)]
       show (fC t).rd _ _ (upd g d u t)
       rw [upd_ne htd]
       refine hs'.keep (hrd t fun x hx hx' hu'=>?_)
       by_cases hxi:x=i
       ·subst hxi;simp only [dsts,ho,Option.bind_some,hod];intro e';cases e';exact htd rfl
       ·exact htt x hx hx' ((unl x).2 ⟨hxi,hu'⟩)
   unfold CStep at hq
   cases hg:o.guard with
   | none=>
    rw [hg] at hq
    rw [if_pos (by simp [Region.wanted,hg])]
    exact ⟨hdl,(hq C.M w (ev g) hst.pre hops).mono fun u w' ⟨v,A',h1,h2,h3⟩=>next u w' v A' h1 h2 h3⟩
   | some gw=>
    obtain ⟨j,b⟩:=gw
    rw [hg] at hq
    obtain ⟨t',c,h1',h2',h3'⟩:=hq
    have h4:=rdl t' (by simp [Oper.looksAt,hg,h1'])
    rw [h2'] at h4
    have hy:yl ops g j=c:=yl_obv h1' h4
    by_cases hcb:c=some b
    ·rw [if_pos hcb] at h3'
     rw [if_pos (by simp [Region.wanted,hg,hy,hcb])]
     exact ⟨hdl,(h3' C.M w (ev g) hst.pre hops).mono fun u w' ⟨v,A',h1,h2,h3⟩=>next u w' v A' h1 h2 h3⟩
    ·rw [if_neg hcb] at h3'
     rw [if_neg (by simp [Region.wanted,hg,hy,hcb])]
     exact ⟨next undef w _ A h3' undef_rd (.refl hst.pre),hdl⟩
 ·rintro listed g w hall ⟨todo,fC,A,e,ht,hd,hac,hb,hst,hfc,hrd⟩
  have h0:todo=[]:=by
   cases todo with
   | nil=>rfl
   | cons x r=>
    have:=ht x (by simp)
    rw [(hall x).2 (F.l2 x this.1).2] at this;cases this.2
  subst h0
  exact hac g w ⟨hst,fun t=>hrd t fun x hx hx' hu=>by rw [(hall x).2 hx'] at hu;cases hu⟩
 ·intro listed hl
  have hun:∀ x,k≤x→listed.getD x false=false:=fun x hx=>by
   cases hg:listed.getD x false with
   | false=>rfl
   | true=>have:=(hl x).1 hg;omega
  refine ⟨L2,ach ops val L1 f,A,nd,fun i hi=>⟨hi,hun i (F.l2 i hi).1⟩,fun i hi _=>hi,hK,hB,hi.st,fun t _=>rfl,fun t ht=>?_⟩
  rw [old L1 t fun x hx=>ht x (F.l1 x hx).1.1 (F.l1 x hx).1.2 (hun x (F.l1 x hx).1.1)]
  exact hi.fr t
section
variable {P:Program} {n:Nat} {C:Cx} {ops:Array Oper} {K:AF→List Atm→Prop} {f:AF} {A B:List Atm} {d:Nat} {op:Op} {ty:TypeId} {pos:String} {aft:Array Edge} {v:AV} {todo:List Nat} {q i:Nat}
theorem kmix2 {k0:Nat} (m:Nat) (L1 L2:List Nat) (B:List Atm) (k:AR P ops B (fun f'=>AC2 P n ops B (fun f A=>AD P n C ops K m f A) L2.length L2 f' A) L1 f) (chk:mixChk2 ops n k0 m L1 L2=true:=by decide +kernel) (hB:Has B A:=by (first|exact Has.nil|exact Has.one|exact Has.two|exact Has.three|exact Has.refl _|exact ⟨[_],.refl _⟩|exact ⟨[_,_],.refl _⟩|exact ⟨[_,_,_],.refl _⟩|fail)):AD P n C ops K k0 f A:=AD_mix2 k0 m L1 L2 chk hB k
abbrev AS2 (P:Program) (n:Nat) (ops:Array Oper) (B:List Atm) (K:AF→List Atm→Prop) (q:Nat) (todo:List Nat) (i:Nat) (f:AF) (A:List Atm):Prop:=∀ o,ops[i]?=some o→dlt o.dst n=true∧∃ Q,CStep P ops f A o Q∧∀ v A',Q v A'→Has B A'∧AC2 P n ops B K q todo (auo f o.dst v) A'
theorem ks2 {Q:AV→List Atm→Prop} (ho:ops[i]?=some ⟨some d,op,ty,pos,aft,none⟩) (hd:Nat.blt d n=true) (h:Opn P f A ⟨some d,op,ty,pos,aft,none⟩ Q) (k:∀ v A',Q v A'→Has B A'∧AC2 P n ops B K q todo (au f d v) A'):AS2 P n ops B K q todo i f A:=fun o h'=>by
 rw [ho] at h';cases h'
 exact ⟨hd,Q,h,k⟩
end
def D.rg:D→Bool
 | .v _=>true
 | .s _ _=>false
def AV.rg:AV→Bool
 | .one d=>d.rg
 | .agg l=>l.all D.rg
 | .tup l=>rgL l
 | .pto _=>false
 | .junk=>true
where
 rgL:List AV→Bool
  | []=>true
  | a::l=>a.rg && rgL l
section
variable {M M':Nat→Prop} {w w':World}
theorem D.rg_rd {d:D} {y:Value} (h:d.rg=true) (hd:d.rd M w y):d.rd M' w' y:=by
 cases d with
 | v x=>exact hd
 | s n r=>cases h
theorem rdC_rg:∀ {l:List D} {vs:List Value},l.all D.rg=true→rdC M w l vs→rdC M' w' l vs
 | [],_,_,h=>h
 | d::l,_,h,⟨x,xs,h1,h2,h3⟩=>by
  simp only [List.all_cons,Bool.and_eq_true] at h
  exact ⟨x,xs,h1,D.rg_rd h.1 h2,rdC_rg h.2 h3⟩
mutual
theorem AV.rg_rd:∀ {a:AV} {y:Value},a.rg=true→a.rd M w y→a.rd M' w' y
 | .one _,_,h,h1=>D.rg_rd (by simpa [AV.rg] using h) h1
 | .agg _,_,h,⟨vs,h1,h2⟩=>⟨vs,h1,rdC_rg (by simpa [AV.rg] using h) h2⟩
 | .tup _,_,h,⟨vs,h1,h2⟩=>⟨vs,h1,rdA_rg (by simpa [AV.rg] using h) h2⟩
 | .junk,_,_,_=>trivial
 | .pto _,_,h,_=>by simp [AV.rg] at h
theorem rdA_rg:∀ {l:List AV} {vs:List Value},AV.rg.rgL l=true→rdA M w l vs→rdA M' w' l vs
 | [],_,_,h=>h
 | a::l,_,h,⟨x,xs,h1,h2,h3⟩=>by
  simp only [AV.rg.rgL,Bool.and_eq_true] at h
  exact ⟨x,xs,h1,AV.rg_rd h.1 h2,rdA_rg h.2 h3⟩
end
def Atm.Rg (a:Atm):Prop:=∀ (M M':Nat→Prop) (w:World),a.ok M w→a.ok M' w
theorem rdRows_rg:∀ {rs:List (List D)} {vss:List (List Value)},rs.all (fun r=>r.all D.rg)=true→rdRows M w rs vss→rdRows M' w' rs vss
 | [],[],_,h=>trivial
 | r::rs,v::vs,h,⟨h1,h2⟩=>by
  simp only [List.all_cons,Bool.and_eq_true] at h
  exact ⟨rdC_rg h.1 h1,rdRows_rg h.2 h2⟩
theorem arow_rg {e:TypeId} {sz:Nat} {u:Value} {rows:List (List D)} (h:rows.all (fun r=>r.all D.rg)=true):(arow e sz u rows).Rg:=fun _ _ _ ⟨vss,h1,h2⟩=>⟨vss,h1,rdRows_rg h h2⟩
end
section
variable {P:Program} {f:AF} {A:List Atm} {d:Option Tmp} {ty:TypeId} {pos:String} {aft:Array Edge} {gg:Option (Nat × Bool)}
theorem P_callB {g:FuncId} [FnF P g] {avs:Array Operand} {tys:Array TypeId} {as':List AV} {v:AV} (ha:VwL A (avs.toList.map (eva f)) as') (h:Pu P g as' v) (hr:v.rg=true) :
 PuO P f A ⟨d,.call {callee:=.value (.func g),args:=avs,argTypes:=tys },ty,pos,aft,gg⟩ v:=fun M w r hp hx=>by
 obtain ⟨hx1,hx2⟩:=call_rd hx
 have hm:=ha M w _ hp (rdA_map hx2)
 have e:(avs.toList.map r).toArray=avs.map r++#[]:=by apply Array.ext';simp
 have hc:Calls P g (avs.map r++#[]) w (Ret fun u w'=>v.rd M w' u∧Mod [] w w'):=by
  have:=h M w (avs.toList.map r) hp.hM hm
  rwa [e] at this
 refine S_clo (cap:=#[]) (exact_of hx1 rfl) rfl hc ?_
 rintro u w' ⟨h1,h2⟩
 exact ⟨AV.rg_rd hr h1,h2⟩
theorem Spec.borrow {g:Nat} {xs as':List AV} {Q':AV→List Atm→Prop} (ha:VwL A xs as') (h:Spec P g as' [] Q') (hr:∀ v B,Q' v B→v.rg=true∧∀ a∈B,a.Rg):Spec P g xs A fun v A'=>∃ B,Q' v B∧A'=A++B:=fun M w vs hp hv=>by
 have hp0:Pre [] M w:=⟨hp.hM,by simp [oA],by simp [oA],by simp [oA],by simp⟩
 have hv0:rdA (MO M []) w as' vs:=rdA_grow (fun b _ hb=>hb.elim id fun h=>by simp [oA] at h) (ha M w vs hp hv)
 refine Calls.mono (h M w vs hp0 hv0) ?_
 rintro e w' ⟨u,rfl,v,B,hq,hrd,hs⟩
 obtain ⟨r1,r2⟩:=hr v B hq
 have hm:Mod [] w w':=hs.mod
 have new:∀ b∈oA B,w.heap.size≤b:=fun b hb=>(hs.new b hb).resolve_left (by simp [oA])
 refine ⟨u,rfl,v,A++B,⟨B,hq,rfl⟩,AV.rg_rd r1 hrd,⟨hm.mono (by simp),⟨hs.pre.hM,?_,fun b hb=>?_,fun b hb=>?_,fun a ha=>?_⟩,fun b hb=>?_⟩⟩
 ·rw [oA_app]
  refine List.nodup_append.2 ⟨hp.nd,hs.pre.nd,fun x hx y hy e=>?_⟩
  have:=hp.lt x hx
  have:=new y hy
  omega
 ·rw [oA_app] at hb
  rcases List.mem_append.1 hb with hb|hb
  ·exact Nat.lt_of_lt_of_le (hp.lt b hb) hm.size
  ·exact hs.pre.lt b hb
 ·rw [oA_app] at hb
  rcases List.mem_append.1 hb with hb|hb
  ·exact hp.dis b hb
  ·exact hs.pre.dis b hb
 ·rcases List.mem_append.1 ha with ha|ha
  ·have h0:=hp.ats a ha
   have h1:=a.grow _ (fun b=>MO M A b∨w.heap.size≤b) w (fun b hb h=>h.resolve_right (by omega)) h0
   have h2:=a.keep _ w w' (fun b hb=>hm.block b (hp.lt b (mem_oA.2 ⟨a,ha,hb⟩)) (by simp)) (fun b hb hn=>hm.block b hb (by simp)) h1
   refine a.grow _ _ w' (fun b _ hM=>?_) h2
   rcases hM with hM|hM
   ·exact .inl (.inl hM)
   ·rw [oA_app] at hM
    rcases List.mem_append.1 hM with hM|hM
    ·exact .inl (.inr hM)
    ·exact .inr (new b hM)
  ·exact r2 a ha _ _ _ (hs.pre.ats a ha)
 ·rw [oA_app] at hb
  rcases List.mem_append.1 hb with hb|hb
  ·exact .inl hb
  ·exact .inr (new b hb)
end
section
variable {P:Program} {n:Nat} {C:Cx} {Q:AQ} {f:AF} {A:List Atm} {b:Nat} {ds ds':List D} {T:TypeId} {c:Code}
theorem Inv.box0 {g:FF} {w:World} (h:leC ds ds') (hi:Inv C f (abox b ds T::A) g w):Inv C f (abox b ds' T::A) g w:=
 ⟨⟨hi.st.mod,⟨hi.st.pre.hM,hi.st.pre.nd,hi.st.pre.lt,hi.st.pre.dis,fun a ha=>by
  rcases List.mem_cons.1 ha with rfl|ha
  ·obtain ⟨vs,h1,h2⟩:=hi.st.pre.ats _ (List.Mem.head _)
   exact ⟨vs,h1,rdC_le h h2⟩
  ·exact hi.st.pre.ats a (List.Mem.tail _ ha)⟩,hi.st.new⟩,hi.fr⟩
theorem AO_box0 {ops:Array Oper} {K:AF→List Atm→Prop} {rest:List Oper} (h:leC ds ds') (k:AO P n C ops K rest f (abox b ds' T::A)):AO P n C ops K rest f (abox b ds T::A):=fun g w hi=>k g w (hi.box0 h)
end
theorem erase_last {y:Atm}:∀ {A:List Atm} {i:Nat},A[i]?=some y→(A.eraseIdx i++[y]).Perm A
 | [],i,h=>by simp at h
 | x::A,0,h=>by simp at h;subst h;exact List.perm_append_comm (l₂:=[x])
 | x::A,i+1,h=>by simpa using (erase_last (A:=A) (i:=i) (by simpa using h)).cons x
theorem Has.mem {A:List Atm} {y:Atm} (h:y∈A):Has [y] A:=by
 obtain ⟨i,hi⟩:=List.getElem?_of_mem h
 exact ⟨A.eraseIdx i,(erase_last hi).symm⟩
section
variable {P:Program} {n:Nat} {C:Cx} {Q:AQ} {f:AF} {A:List Atm} {c:Code} {M:Nat→Prop} {w:World} {e:TypeId} {sz:Nat} {u:Value} {rows:List (List D)}
def RowU (u:Value) (n:Nat):Prop:=(u=.slice none 0 0∧n=0)∨∃ b c,u=.slice (some ⟨b,0,none⟩) n c
theorem Pre.rowU (hp:Pre A M w) (hm:arow e sz u rows∈A):RowU u rows.length:=by
 obtain ⟨vss,⟨hall,hlen,hown⟩,hrd⟩:=hp.ats _ hm
 have hvl:=rdRows_len hrd
 rcases hown with ⟨hu,h0⟩ | ⟨b,c,cur,hu,_⟩
 ·exact .inl ⟨hu,by omega⟩
 ·exact .inr ⟨b,c,by rw [hu,hvl]⟩
theorem AW_rowU (hm:arow e sz u rows∈A) (k:RowU u rows.length→AW P n C c Q f A):AW P n C c Q f A:=fun g w hi=>k (hi.st.pre.rowU hm) g w hi
end
inductive VwR (A:List Atm):List (List D)→List (List D)→Prop
 | nil:VwR A [] []
 | cons {r r':List D} {l l':List (List D)}:VwC A r r'→VwR A l l'→VwR A (r::l) (r'::l')
theorem VwR.map {α:Type} {A:List Atm} {f f':α→List D}:∀ {l:List α},(∀ x∈l,VwC A (f x) (f' x))→VwR A (l.map f) (l.map f')
 | [],_=>.nil
 | x::l,h=>.cons (h x (by simp)) (VwR.map fun y hy=>h y (by simp [hy]))
theorem VwR.rd {A:List Atm} {M:Nat→Prop} {w:World} (hp:Pre A M w):∀ {rs rs':List (List D)} {vss:List (List Value)},VwR A rs rs'→rdRows (MO M A) w rs vss→rdRows M w rs' vss
 | [],_,[],.nil,_=>trivial
 | _::_,_,v::vs,.cons h k,⟨h1,h2⟩=>⟨h M w v hp h1,VwR.rd hp k h2⟩
theorem VwD.rowV {A:List Atm} {e:TypeId} {sz:Nat} {u:Value} {rows rows':List (List D)} (hm:arow e sz u rows∈A) (hv:VwR A rows rows'):VwD A (.v u) (.s sz rows'):=fun M w y hp h=>by
 rw [h.1]
 obtain ⟨vss,h1,h2⟩:=hp.ats _ hm
 exact row_rd (e:=e) (rows:=rows') ⟨vss,h1,VwR.rd hp hv h2⟩ fun b hb=>⟨hp.dis b (mem_oA.2 ⟨_,hm,hb⟩),hp.lt b (mem_oA.2 ⟨_,hm,hb⟩)⟩
section
variable {P:Program} {n:Nat} {C:Cx} {Q:AQ} {f:AF} {A A1 B:List Atm} {t:Nat} {u:Value} {d:D}
theorem Inv.freezeV {g:FF} {w:World} (hi:Inv C f A g w) (hA:A.Perm (A1++B)) (ht:f t=.one (.v u)) (hv:VwD B (.v u) d):Inv C (au f t (.one d)) A1 g w:=by
 have hw:Wk f A f A1:=⟨fun _=>.refl _,A1++B,hA.symm,List.sublist_append_left _ _⟩
 have hi':=hw.inv hi
 refine ⟨hi'.st,fun j=>?_⟩
 by_cases hj:j=t
 ·subst hj
  have h1:=hi.fr j
  rw [ht] at h1
  have e3:au f j (.one d) j=.one d:=by simp [au]
  rw [e3]
  exact hv (MO C.M A1) w _ (hi.st.pre.perm hA.symm).front ⟨h1.1,h1.2⟩
 ·have e3:au f t (.one d) j=f j:=by
   have hb:Nat.beq j t=false:=by cases hb:Nat.beq j t with|false=>rfl|true=>exact absurd (Nat.eq_of_beq_eq_true hb) hj
   simp [au,hb]
  rw [e3];exact hi'.fr j
theorem AO_freezeV {ops:Array Oper} {K:AF→List Atm→Prop} {rest:List Oper} (hA:A.Perm (A1++B)) (ht:f t=.one (.v u)) (hv:VwD B (.v u) d) (k:AO P n C ops K rest (au f t (.one d)) A1):AO P n C ops K rest f A:=fun g w hi=>k g w (hi.freezeV hA ht hv)
end
end Go.Proofs.YtejkllmoofdpjaaGreat
