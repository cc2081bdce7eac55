/- Parts of the proof: VJ. -/
import Derived.Test.YtejkllmoofdpjaaGreatD10
namespace Go.Proofs.YtejkllmoofdpjaaGreat
open Go
set_option linter.all false
set_option maxRecDepth 100000
set_option maxHeartbeats 4000000
section
open Go.ChangeMaps (setBlock)
section
variable {κ:Type} [DecidableEq κ] {kv:κ→Value}
def IterM (M:Nat→Prop) (w:World) (kv:κ→Value) (b q:Nat) (g:κ→Option AV) (T:Nat) (ks:List κ):Prop:=b≠q∧∃ (l:List (EntK κ)) (c:Nat) (seen:Array Nat),MapAt M w kv b g l c∧w.heap[q]?=some (.mapIter (some b) c seen c)∧(∀ x∈l,x.2.2∈seen↔x.1∈ks)∧ks.Nodup∧(∀ k∈ks,k∈l.map (·.1))∧l.length=T∧
 ∀ n,ks.getLast?=some n→∃ x∈l,x.1=n∧∃ s0:Array Nat,seen=s0.push x.2.2
theorem MapAt.keep {M:Nat→Prop} {w w':World} {b:Nat} {g:κ→Option AV} {l:List (EntK κ)} {c:Nat} (h:MapAt M w kv b g l c) (h1:w'.heap[b]?=w.heap[b]?) (h2:∀ b,b < w.heap.size→¬ M b→w'.heap[b]?=w.heap[b]?):MapAt M w' kv b g l c:=
 ⟨by rw [h1];exact h.blk,h.keys,h.ages,h.old,fun x=>by
  have:=h.val x
  cases hg:g x<;>cases hl:look l x<;>rw [hg,hl] at this<;>first|exact this|exact AV.keep h2 this⟩
theorem MapAt.grow {M M':Nat→Prop} {w:World} {b:Nat} {g:κ→Option AV} {l:List (EntK κ)} {c:Nat} (h:MapAt M w kv b g l c) (hm:∀ b,b < w.heap.size→M' b→M b):MapAt M' w kv b g l c:=
 ⟨h.blk,h.keys,h.ages,h.old,fun x=>by
  have:=h.val x
  cases hg:g x<;>cases hl:look l x<;>rw [hg,hl] at this<;>first|exact this|exact AV.grow hm this⟩
def amapI (kv:κ→Value) (b q:Nat) (g:κ→Option AV) (T:Nat) (ks:List κ):Atm:=⟨[b,q],fun M w=>IterM M w kv b q g T ks,
 fun M w w' h1 h2 ⟨h0,l,c,s,h,h3,h4⟩=>⟨h0,l,c,s,h.keep (h1 b (by simp)) h2,by rw [h1 q (by simp)];exact h3,h4⟩,
 fun M M' w hm ⟨h0,l,c,s,h,h3,h4⟩=>⟨h0,l,c,s,h.grow hm,h3,h4⟩⟩
theorem nodup_keyK {γ:Type} {f:EntK κ→γ} {z y:EntK κ}:∀ {l:List (EntK κ)},(l.map f).Nodup→z∈l→y∈l→f z=f y→z=y
 | x::l,h,hz,hy,e=>by
  simp only [List.map_cons,List.nodup_cons] at h
  rcases List.mem_cons.1 hz with hz1|hz1<;>rcases List.mem_cons.1 hy with hy1|hy1
  ·rw [hz1,hy1]
  ·exact absurd (by rw [← hz1,e];exact List.mem_map_of_mem hy1) h.1
  ·exact absurd (by rw [← hy1,← e];exact List.mem_map_of_mem hz1) h.1
  ·exact nodup_keyK h.2 hz1 hy1 e
class KeyW (κ:Type) (kv:outParam (κ→Value)) (ka:outParam (κ→AV)):Prop where
 wr:∀ M w x,(ka x).rd M w (kv x)
instance:KeyW Int kvI (fun n=>.one (.v (.int .i64 n))):=⟨fun _ _ _=>⟨rfl,rfl⟩⟩
variable {P:Program} {f:AF} {A:List Atm} {d:Option Tmp} {ty:TypeId} {pos:String} {aft:Array Edge} {gg:Option (Nat × Bool)}
theorem O_range {t k e:TypeId} [G:MapF P t k e] (i:Nat) (x:Operand) {b:Nat} {g:κ→Option AV} (hi:A[i]?=some (amap kv b g)) (hx:eva f x=.one (.v (.map (some b)))) :
 Opn P f A ⟨d,.range t x,ty,pos,aft,gg⟩ fun v A'=>∃ q T,v=.one (.v (.pointer (some ⟨q,0,none⟩)))∧A'=A.set i (amapI kv b q g T []):=fun M w r hp h=>by
 obtain ⟨l,c,hm⟩:=hp.ats _ (List.mem_of_getElem? hi)
 have hblt:b < w.heap.size:=(Array.getElem?_eq_some_iff.1 hm.blk).1
 have old:∀ c',c' < w.heap.size→(w.alloc (.mapIter (some b) c #[] c)).heap[c']?=w.heap[c']?:=fun c' hc=>by
  show (w.heap.push _)[c']?=_
  rw [Array.getElem?_push_lt hc,← Array.getElem?_eq_getElem]
 refine S_run (v:=.pointer (some ⟨w.heap.size,0,none⟩)) (w':=w.alloc (.mapIter (some b) c #[] c)) ?_ ⟨_,_,⟨w.heap.size,l.length,rfl,rfl⟩,⟨rfl,rfl⟩,hp.turn hi ((Mod.refl _ _).alloc _) ?_ ?_ ?_⟩
 ·show (Instr.range t (r x) >>= fun v=>pure (Next.value v)).run P w=_
  rw [exact_of (h x (by simp [Op.operands])) hx]
  unfold Instr.range
  simp only [bind_assoc,Sem.run_bind,runC_run _ _ (runC_underlying G.und),Result.andThen_ok,runC_run _ _ (runC_getMap hm.blk),Sem.run_pure]
  rfl
 ·simp [amapI];omega
 ·intro c' hc
  simp only [amapI,List.mem_cons,List.not_mem_nil,or_false] at hc
  rcases hc with rfl|rfl
  ·exact ⟨by simp;omega,.inl (by simp [amap])⟩
  ·exact ⟨by simp,.inr (Nat.le_refl _)⟩
 ·refine ⟨by omega,l,c,#[],(hm.grow (M':=MO M (A.set i (amapI kv b w.heap.size g l.length []))) ?_).keep (old b hblt) fun c' hc _=>old c' hc,?_,by simp,by simp,by simp,rfl,by simp⟩
  ·intro c' hc hM
   refine hM.imp id fun ho=>?_
   obtain ⟨a,ha,hb⟩:=mem_oA.1 ho
   rcases List.mem_or_eq_of_mem_set ha with ha|rfl
   ·exact mem_oA.2 ⟨a,ha,hb⟩
   ·simp only [amapI,List.mem_cons,List.not_mem_nil,or_false] at hb
    rcases hb with rfl|rfl
    ·exact mem_oA.2 ⟨_,List.mem_of_getElem? hi,by simp [amap]⟩
    ·omega
  ·show (w.heap.push _)[w.heap.size]?=_;simp
def NextQ (kv:κ→Value) (A:List Atm) (i b q:Nat) (g:κ→Option AV) (T:Nat) (ks:List κ) (v:AV) (A':List Atm):Prop:=
 (v=.tup [.one (.v (.bool false))]∧A'=A∧(∀ n,g n≠none→n∈ks)∧ks.Nodup∧∀ n∈ks,g n≠none)∨
 ∃ n,v=.tup [.one (.v (.bool true)),.junk,.junk]∧n∉ks∧g n≠none∧ks.length < T∧A'=A.set i (amapI kv b q g T (ks++[n]))
theorem set_own {i:Nat} {a a':Atm} (hi:A[i]?=some a) (h:a'.own=a.own):oA (A.set i a')=oA A:=by
 obtain ⟨s1,s2⟩:=set_split (y:=a') hi
 rw [s2]
 conv=>rhs;rw [s1]
 simp [oA,h]
theorem O_next (i:Nat) (x:Operand) {b q T:Nat} {g:κ→Option AV} {ks:List κ} (hi:A[i]?=some (amapI kv b q g T ks)) (hx:eva f x=.one (.v (.pointer (some ⟨q,0,none⟩)))) :
 Opn P f A ⟨d,.next x false,ty,pos,aft,gg⟩ (NextQ kv A i b q g T ks):=fun M w r hp h=>by
 obtain ⟨h0,l,c,seen,hm,h6,h7,h8,h9,h10,h11⟩:=hp.ats _ (List.mem_of_getElem? hi)
 have hblt:b < w.heap.size:=(Array.getElem?_eq_some_iff.1 hm.blk).1
 have hqlt:q < w.heap.size:=(Array.getElem?_eq_some_iff.1 h6).1
 have rx:=exact_of (h x (by simp [Op.operands])) hx
 have hold:∀ x∈(l.map (entK kv)).toArray.toList,x.born < c:=by
  intro x hx
  simp only [List.mem_map] at hx
  obtain ⟨y,hy,rfl⟩:=hx
  exact hm.old y hy
 rcases run_next_at (P:=P) w ty q b c c seen (l.map (entK kv)).toArray c h6 hm.blk hold (Nat.le_refl _) with ⟨hz,hr⟩ | ⟨e,he,w1,hw1,hr⟩
 ·refine S_run (v:=.tuple #[.bool false]) (w':=w) ?_ ⟨_,_,.inl ⟨rfl,rfl,?_,h8,?_⟩,⟨[.bool false],rfl,_,[],rfl,⟨rfl,rfl⟩,rfl⟩,.refl hp⟩
  ·show (Instr.next (r x) false ty >>= fun v=>pure (Next.value v)).run P w=_
   rw [rx,Sem.run_bind,hr];rfl
  ·intro n hn
   have:=hm.val n
   cases hl:look l n with
   | none=>cases hg:g n with
    | none=>exact absurd hg hn
    | some a=>rw [hl,hg] at this;exact this.elim
   | some v=>
    obtain ⟨y,hy,rfl,_⟩:=look_mem hl
    refine (h7 y hy).1 ?_
    by_cases hs:y.2.2∈seen
    ·exact hs
    ·have hmm:entK kv y∈(leftOf (l.map (entK kv)).toArray seen).toList:=by
      simp only [leftOf,Array.toList_filter,List.mem_filter]
      exact ⟨List.mem_map_of_mem hy,by simp [entK,hs]⟩
     have:0 < (leftOf (l.map (entK kv)).toArray seen).toList.length:=List.length_pos_of_mem hmm
     simp only [Array.length_toList] at this
     omega
  ·intro n hn
   obtain ⟨y,hy,rfl⟩:=List.mem_map.1 (h9 n hn)
   have:=hm.val y.1
   rw [look_of_mem hm.keys hy] at this
   intro hg;rw [hg] at this;exact this
 ·simp only [leftOf,Array.toList_filter,List.mem_filter] at he
  obtain ⟨he1,he2⟩:=he
  obtain ⟨y,hy,rfl⟩:=List.mem_map.1 he1
  have hns:y.2.2∉seen:=by simpa [entK] using he2
  have hnk:y.1∉ks:=fun h=>hns ((h7 y hy).2 h)
  have e1:w1.heap=w.heap:=by rcases hw1 with rfl|rfl<;>rfl
  have m1:Mod [b,q] w (setBlock w1 q (.mapIter (some b) c (seen.push y.2.2) c)):=by
   have m0:Mod [b,q] w w1:=by rcases hw1 with rfl|rfl;exact Mod.refl _ _;exact ⟨rfl,rfl,rfl,Nat.le_refl _,fun _ _ _=>rfl⟩
   refine ⟨m0.1,m0.2,m0.3,by simp [setBlock,e1],fun j hj hjn=>?_⟩
   have hjq:q≠j:=fun e=>hjn (by simp [e])
   simp [setBlock,Array.getElem?_setIfInBounds_ne hjq,e1]
  have hlt:ks.length < T:=by
   have:=nodup_len (l:=y.1::ks) (m:=l.map (·.1)) (List.nodup_cons.2 ⟨hnk,h8⟩) (fun z hz=>by
    rcases List.mem_cons.1 hz with rfl|hz
    ·exact List.mem_map_of_mem hy
    ·exact h9 z hz)
   simp only [List.length_cons,List.length_map] at this;omega
  have hgn:g y.1≠none:=fun hg=>by
   have:=hm.val y.1
   rw [look_of_mem hm.keys hy,hg] at this;exact this
  have ho:=set_own (a':=amapI kv b q g T (ks++[y.1])) hi rfl
  have hMO:MO M (A.set i (amapI kv b q g T (ks++[y.1])))=MO M A:=by funext b';unfold MO;rw [ho]
  refine S_run (v:=.tuple #[.bool true,kv y.1,y.2.1]) (w':=setBlock w1 q (.mapIter (some b) c (seen.push y.2.2) c)) ?_ ⟨_,_,.inr ⟨y.1,rfl,hnk,hgn,hlt,rfl⟩,⟨[.bool true,kv y.1,y.2.1],rfl,_,_,rfl,⟨rfl,rfl⟩,_,_,rfl,trivial,_,_,rfl,trivial,rfl⟩,hp.turn hi m1 ?_ ?_ ?_⟩
  ·show (Instr.next (r x) false ty >>= fun v=>pure (Next.value v)).run P w=_
   rw [rx,Sem.run_bind,hr];rfl
  ·simp [amapI,h0]
  ·intro c' hc
   refine ⟨?_,.inl hc⟩
   simp only [amapI,List.mem_cons,List.not_mem_nil,or_false] at hc
   rcases hc with rfl|rfl<;>simp [setBlock,e1]<;>omega
  ·have hb':(setBlock w1 q (.mapIter (some b) c (seen.push y.2.2) c)).heap[b]?=w.heap[b]?:=by
    simp only [setBlock,e1];rw [Array.getElem?_setIfInBounds_ne (Ne.symm h0)]
   refine ⟨h0,l,c,seen.push y.2.2,?_,by simp [setBlock,e1,hqlt],?_,?_,?_,h10,fun n hn=>⟨y,hy,by simpa using hn,seen,rfl⟩⟩
   ·rw [hMO]
    refine hm.keep hb' fun c' hc hn=>m1.block c' hc fun hcb=>hn (.inr (mem_oA.2 ⟨_,List.mem_of_getElem? hi,hcb⟩))
   ·intro z hz
    rw [Array.mem_push,List.mem_append,h7 z hz]
    refine or_congr Iff.rfl ?_
    simp only [List.mem_singleton]
    constructor
    ·intro hzy;rw [nodup_keyK hm.ages hz hy hzy]
    ·intro hzy;rw [nodup_keyK hm.keys hz hy hzy]
   ·rw [List.nodup_append]
    refine ⟨h8,by simp,fun a ha b' hb'=>?_⟩
    simp at hb';subst hb'
    exact fun e=>hnk (e▸ha)
   ·intro k hk
    rcases List.mem_append.1 hk with hk|hk
    ·exact h9 k hk
    ·simp at hk;subst hk;exact List.mem_map_of_mem hy
theorem P_entry {ka:κ→AV} [W:KeyW κ kv ka] (x:Operand) {b q T:Nat} {g:κ→Option AV} {ks:List κ} {n:κ} {a:AV} (hx:eva f x=.one (.v (.pointer (some ⟨q,0,none⟩)))) (hm:amapI kv b q g T (ks++[n])∈A) (hv:g n=some a):PuO P f A ⟨d,.entry x,ty,pos,aft,gg⟩ (.tup [ka n,a]):=PuO_rd fun M w r hp h=>by
 obtain ⟨h0,l,c,seen,hM,h6,h7,h8,h9,h10,h11⟩:=hp.ats _ hm
 obtain ⟨y,hy,rfl,s0,rfl⟩:=h11 n (by simp)
 have hyv:a.rd (MO M A) w y.2.1:=by
  have:=hM.val y.1
  rw [look_of_mem hM.keys hy,hv] at this
  exact this
 refine ⟨.tuple #[kv y.1,y.2.1],?_,[kv y.1,y.2.1],rfl,_,_,rfl,W.wr _ _ _,_,_,rfl,hyv,rfl⟩
 show runC P w (Instr.entry (r x) >>= fun v=>pure (Next.value v))=_
 rw [exact_of (h x (by simp [Op.operands])) hx]
 have hf:(l.map (entK kv)).toArray.find? (·.born == y.2.2)=some (entK kv y):=by
  rw [← Array.find?_toList]
  exact find_born (entK kv y) _ (by simpa [Function.comp_def,entK] using hM.ages) (List.mem_map_of_mem hy)
 have hg1:runC P w (getObj q)=some (.mapIter (some b) c (s0.push y.2.2) c):=by simp [getObj,runC,h6]
 have hg2:=runC_getMap (P:=P) hM.blk
 unfold Instr.entry
 simp only [bind_assoc]
 rw [runC_bind,hg1]
 simp only [Option.bind_some,Array.back?_push,bind_assoc]
 rw [runC_bind,hg2]
 simp only [Option.bind_some,bne_self_eq_false,Bool.false_eq_true,if_false]
 have hf':Array.find? (fun x=>x.born == y.2.2) (l.map (entK kv)).toArray=some (entK kv y):=hf
 rw [hf']
 simp [entK,runC_pure]
theorem Inv.unIter {C:Cx} {gf:FF} {w:World} (hi':Inv C f A gf w) (i:Nat) {b q T:Nat} {g:κ→Option AV} {ks:List κ} (hi:A[i]?=some (amapI kv b q g T ks)):Inv C f (A.set i (amap kv b g)) gf w:=by
 have hs:∀ c,c∈oA (A.set i (amap kv b g))→c∈oA A:=fun c hc=>by
  obtain ⟨a,ha,hb⟩:=mem_oA.1 hc
  rcases List.mem_or_eq_of_mem_set ha with ha|rfl
  ·exact mem_oA.2 ⟨a,ha,hb⟩
  ·simp only [amap,List.mem_singleton] at hb;subst hb
   exact mem_oA.2 ⟨_,List.mem_of_getElem? hi,by simp [amapI]⟩
 have hMO:∀ c,MO C.M (A.set i (amap kv b g)) c→MO C.M A c:=fun c h=>h.imp id (hs c)
 have hp:=hi'.st.pre
 obtain ⟨h0,l,c,seen,hm,_⟩:=hp.ats _ (List.mem_of_getElem? hi)
 have st:Step A (A.set i (amap kv b g)) C.M w w:=hp.turn hi (Mod.refl _ _) (by simp [amap]) (fun c' hc=>by
  simp only [amap,List.mem_singleton] at hc;subst hc
  exact ⟨(Array.getElem?_eq_some_iff.1 hm.blk).1,.inl (by simp [amapI])⟩) ⟨l,c,hm.grow fun c _ h=>hMO c h⟩
 exact ⟨hi'.st.trans st,fun j=>AV.grow (fun c _ h=>hMO c h) (hi'.fr j)⟩
end
section
variable {P:Program} {n:Nat} {C:Cx} {ops:Array Oper} {K:AF→List Atm→Prop} {rest:List Oper} {f:AF} {A:List Atm} {d:Nat} {ty:TypeId} {pos:String} {aft:Array Edge} {κ:Type} [DecidableEq κ] {kv:κ→Value} {x1:Operand} {t k e:TypeId} {Q:AQ} {c:Code}
theorem krg [G:MapF P t k e] (i:Nat) {b:Nat} {g:κ→Option AV} (kk:∀ q T:Nat,AO P n C ops K rest (au f d (.one (.v (.pointer (some ⟨q,0,none⟩))))) (A.set i (amapI kv b q g T []))) (hd:Nat.blt d n=true:=by exact rfl) (hx:eva f x1=.one (.v (.map (some b))):=by exact rfl) (hi:A[i]?=some (amap kv b g):=by exact rfl):AO P n C ops K (⟨some d,.range t x1,ty,pos,aft,none⟩::rest) f A:=
 AO_o rfl hd (O_range i x1 hi hx) fun v A' ⟨q,T,h1,h2⟩=>h1▸h2▸kk q T
theorem knx (i:Nat) {b q T:Nat} {g:κ→Option AV} {ks:List κ} (kend:(∀ n,g n≠none→n∈ks)→ks.Nodup→(∀ n∈ks,g n≠none)→AO P n C ops K rest (au f d (.tup [.one (.v (.bool false))])) A) (kmore:∀ m,m∉ks→g m≠none→ks.length < T→AO P n C ops K rest (au f d (.tup [.one (.v (.bool true)),.junk,.junk])) (A.set i (amapI kv b q g T (ks++[m]))))
 (hd:Nat.blt d n=true:=by exact rfl) (hx:eva f x1=.one (.v (.pointer (some ⟨q,0,none⟩))):=by exact rfl) (hi:A[i]?=some (amapI kv b q g T ks):=by exact rfl):AO P n C ops K (⟨some d,.next x1 false,ty,pos,aft,none⟩::rest) f A:=
 AO_o rfl hd (O_next i x1 hi hx) fun v A' h=>by
  rcases h with ⟨h1,h2,h3,h4,h5⟩ | ⟨m,h1,h2,h3,h4,h5⟩
  ·exact h1▸h2▸kend h3 h4 h5
  ·exact h1▸h5▸kmore m h2 h3 h4
theorem kunO (i:Nat) {b q T:Nat} {g:κ→Option AV} {ks:List κ} (kk:AO P n C ops K rest f (A.set i (amap kv b g))) (hi:A[i]?=some (amapI kv b q g T ks):=by exact rfl):AO P n C ops K rest f A:=fun gf w h=>kk gf w (h.unIter i hi)
end
def notB:Op→Bool
 | .buildSlice _ 0 _=>false
 | _=>true
section
variable {P:Program} {n:Nat} {C:Cx} {ops:Array Oper} {K:AF→List Atm→Prop} {rest:List Oper} {f:AF} {A:List Atm} {v:AV} {d:Nat} {op:Op} {ty:TypeId} {pos:String} {aft:Array Edge}
theorem krz (k:AO P n C ops K rest (au f d v) A) (_hz:notB op=true:=by exact rfl) (hd:Nat.blt d n=true:=by exact rfl) (h:PuO P f A ⟨some d,op,ty,pos,aft,none⟩ v:=by exact kpu):AO P n C ops K (⟨some d,op,ty,pos,aft,none⟩::rest) f A:=kr k hd h
theorem kkz {X Y:Prop} (k:Y) (h:Hv Y→X:=by intro k;(first|((first|refine kc ?_|refine krz ?_|refine kar ?_|refine kT ?_|refine kF ?_|refine kxo ?_|refine kd ?_|refine kdq ?_|refine kdP ?_|refine kdW 0 ?_|refine kdW 1 ?_|refine kdW 2 ?_|refine kdW 3 ?_|refine kdw 0 ?_|refine kdw 1 ?_|refine kdw 2 ?_|refine kdw 3 ?_|refine kae ?_|refine kde ?_|refine krF ?_|refine krT ?_|refine krU ?_|refine karF ?_|refine karT ?_|refine karU ?_|refine kstW 0 ?_|refine kstW 1 ?_|refine kstW 2 ?_|refine kstW 3 ?_|refine kstW 4 ?_|refine kstW 5 ?_|refine kst 0 ?_|refine kst 1 ?_|refine kst 2 ?_|refine kst 3 ?_|refine kst 4 ?_|refine kst 5 ?_|fail);(repeat (first|refine kc ?_|refine krz ?_|refine kar ?_|refine kT ?_|refine kF ?_|refine kxo ?_|refine kd ?_|refine kdq ?_|refine kdP ?_|refine kdW 0 ?_|refine kdW 1 ?_|refine kdW 2 ?_|refine kdW 3 ?_|refine kdw 0 ?_|refine kdw 1 ?_|refine kdw 2 ?_|refine kdw 3 ?_|refine kae ?_|refine kde ?_|refine krF ?_|refine krT ?_|refine krU ?_|refine karF ?_|refine karT ?_|refine karU ?_|refine kstW 0 ?_|refine kstW 1 ?_|refine kstW 2 ?_|refine kstW 3 ?_|refine kstW 4 ?_|refine kstW 5 ?_|refine kst 0 ?_|refine kst 1 ?_|refine kst 2 ?_|refine kst 3 ?_|refine kst 4 ?_|refine kst 5 ?_|fail));first|(first|exact kbx k.out|exact kal k.out|exact kmk k.out|exact kbs0 k.out|exact kap 0 k.out|exact kap 1 k.out|exact kap 2 k.out|exact kap 3 k.out|exact kdA 0 k.out|exact kdA 1 k.out|exact kdA 2 k.out|exact kdA 3 k.out|fail)|exact k.out)|(first|exact kbx k.out|exact kal k.out|exact kmk k.out|exact kbs0 k.out|exact kap 0 k.out|exact kap 1 k.out|exact kap 2 k.out|exact kap 3 k.out|exact kdA 0 k.out|exact kdA 1 k.out|exact kdA 2 k.out|exact kdA 3 k.out|fail))):X:=h ⟨k⟩
theorem kkSz (c s:List Nat) {X Y:Prop} (k:Y) (h:Hs c s Y→X:=by intro k;(first|(((fail_if_success with_reducible refine nS k ?_);(first|refine kc ?_|refine krz ?_|refine kar ?_|refine kT ?_|refine kF ?_|refine kxo ?_|refine kd ?_|refine kdq ?_|refine kdP ?_|refine kdW 0 ?_|refine kdW 1 ?_|refine kdW 2 ?_|refine kdW 3 ?_|refine kdw 0 ?_|refine kdw 1 ?_|refine kdw 2 ?_|refine kdw 3 ?_|refine kae ?_|refine kde ?_|refine krF ?_|refine krT ?_|refine krU ?_|refine karF ?_|refine karT ?_|refine karU ?_|refine kstW 0 ?_|refine kstW 1 ?_|refine kstW 2 ?_|refine kstW 3 ?_|refine kstW 4 ?_|refine kstW 5 ?_|refine kst 0 ?_|refine kst 1 ?_|refine kst 2 ?_|refine kst 3 ?_|refine kst 4 ?_|refine kst 5 ?_|fail));(repeat ((fail_if_success with_reducible refine nS k ?_);(first|refine kc ?_|refine krz ?_|refine kar ?_|refine kT ?_|refine kF ?_|refine kxo ?_|refine kd ?_|refine kdq ?_|refine kdP ?_|refine kdW 0 ?_|refine kdW 1 ?_|refine kdW 2 ?_|refine kdW 3 ?_|refine kdw 0 ?_|refine kdw 1 ?_|refine kdw 2 ?_|refine kdw 3 ?_|refine kae ?_|refine kde ?_|refine krF ?_|refine krT ?_|refine krU ?_|refine karF ?_|refine karT ?_|refine karU ?_|refine kstW 0 ?_|refine kstW 1 ?_|refine kstW 2 ?_|refine kstW 3 ?_|refine kstW 4 ?_|refine kstW 5 ?_|refine kst 0 ?_|refine kst 1 ?_|refine kst 2 ?_|refine kst 3 ?_|refine kst 4 ?_|refine kst 5 ?_|fail)));first|((fail_if_success with_reducible refine nS k ?_);(first|exact kbx k.out|exact kal k.out|exact kmk k.out|exact kbs0 k.out|exact kap 0 k.out|exact kap 1 k.out|exact kap 2 k.out|exact kap 3 k.out|exact kdA 0 k.out|exact kdA 1 k.out|exact kdA 2 k.out|exact kdA 3 k.out|fail))|exact k.out)|((fail_if_success with_reducible refine nS k ?_);(first|exact kbx k.out|exact kal k.out|exact kmk k.out|exact kbs0 k.out|exact kap 0 k.out|exact kap 1 k.out|exact kap 2 k.out|exact kap 3 k.out|exact kdA 0 k.out|exact kdA 1 k.out|exact kdA 2 k.out|exact kdA 3 k.out|fail)))):X:=h ⟨k⟩
end
end
end Go.Proofs.YtejkllmoofdpjaaGreat
