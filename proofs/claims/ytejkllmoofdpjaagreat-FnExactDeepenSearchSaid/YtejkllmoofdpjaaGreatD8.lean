/- Parts of the proof: VU4 VU5. -/
import Derived.Test.YtejkllmoofdpjaaGreatD7
namespace Go.Proofs.YtejkllmoofdpjaaGreat
open Go
set_option linter.all false
set_option maxRecDepth 100000
set_option maxHeartbeats 4000000
inductive Up (up:Nat→Option Nat):Nat→Nat→Prop
 | self {v:Nat}:up v=none∨up v=some v→Up up v v
 | step {v u x:Nat}:up v=some u→u≠v→Up up u x→Up up v x
theorem Up.unique {up:Nat→Option Nat} {v x y:Nat} (h:Up up v x) (h':Up up v y):x=y:=by
 induction h with
 | self h=>
  cases h' with
  | self=>rfl
  | step h1 h2 _=>rcases h with h|h<;>rw [h] at h1<;>cases h1;exact absurd rfl h2
 | step h1 h2 _ ih=>
  cases h' with
  | self h=>rcases h with h|h<;>rw [h] at h1<;>cases h1;exact absurd rfl h2
  | step h3 h4 h5=>rw [h1] at h3;cases h3;exact ih h5
theorem Up.root {up:Nat→Option Nat} {v x:Nat} (h:Up up v x):Up up x x:=by
 induction h with
 | self h=>exact .self h
 | step _ _ _ ih=>exact ih
def Desc (up:Nat→Option Nat):Prop:=∀ v u,up v=some u→u≤v
theorem Up.le {up:Nat→Option Nat} (hd:Desc up) {v x:Nat} (h:Up up v x):x≤v:=by
 induction h with
 | self=>exact Nat.le_refl _
 | step h1 _ _ ih=>exact Nat.le_trans ih (hd _ _ h1)
theorem Up.exists {up:Nat→Option Nat} (hd:Desc up) (v:Nat):∃ x,Up up v x:=by
 induction v using Nat.strongRecOn with
 | _ v ih=>
  cases h:up v with
  | none=>exact ⟨v,.self (.inl h)⟩
  | some u=>
   by_cases hu:u=v
   ·exact ⟨v,.self (.inr (by rw [h,hu]))⟩
   ·obtain ⟨x,hx⟩:=ih u (by have:=hd v u h;omega)
    exact ⟨x,.step h hu hx⟩
structure Says (up:Nat→Option Nat) (sh:Nat→Option T) (τ:Su):Prop where
 cls:∀ v x,Up up v x→τ v=τ x
 shp:∀ x t,Up up x x→sh x=some t→τ x=t.sub τ
structure Sem (up:Nat→Option Nat) (sh:Nat→Option T) (σ:Su):Prop where
 desc:Desc up
 flat:∀ x t n,Up up x x→sh x=some t→t≠.var n
 says:Says up sh σ
 free:∀ x,Up up x x→sh x=none→σ x=.var x
theorem Sem.gen {up:Nat→Option Nat} {sh:Nat→Option T} {σ τ:Su} (h:Sem up sh σ) (ht:Says up sh τ):∀ (n v:Nat),(σ v).nodes≤n→(σ v).sub τ=τ v:=by
 intro n
 induction n with
 | zero=>intro v hv;have:=nodes_pos (σ v);omega
 | succ n ih=>
  intro v hv
  obtain ⟨x,hx⟩:=Up.exists h.desc v
  rw [h.says.cls v x hx,ht.cls v x hx]
  rw [h.says.cls v x hx] at hv
  cases hs:sh x with
  | none=>rw [h.free x hx.root hs];rfl
  | some t=>
   rw [h.says.shp x t hx.root hs] at hv ⊢
   rw [ht.shp x t hx.root hs]
   cases t with
   | var m=>exact absurd rfl (h.flat x _ m hx.root hs)
   | nil=>rfl
   | sym s=>rfl
   | num i=>rfl
   | pair a b=>
    have all:∀ c:T,(c.sub σ).nodes≤n→(c.sub σ).sub τ=c.sub τ:=fun c hc=>by
     rw [sub_sub]
     exact sub_congr fun w hw=>ih w (Nat.le_trans (occ_nodes hw) hc)
    simp only [T.sub,T.nodes] at hv ⊢
    rw [all a (by omega),all b (by omega)]
theorem Sem.can {up:Nat→Option Nat} {sh:Nat→Option T} {σ:Su} (h:Sem up sh σ):Can (Says up sh) σ:=by
 refine ⟨h.says,fun τ ht v=>h.gen ht _ v (Nat.le_refl _),fun v u hv=>?_⟩
 obtain ⟨x,hx⟩:=Up.exists h.desc v
 rw [h.says.cls v x hx] at hv
 cases hs:sh x with
 | none=>rw [h.free x hx.root hs] at hv;cases hv;exact hx.le h.desc
 | some t=>
  rw [h.says.shp x t hx.root hs] at hv
  cases t with
  | var m=>exact absurd rfl (h.flat x _ m hx.root hs)
  | nil=>cases hv
  | sym s=>cases hv
  | num i=>cases hv
  | pair a b=>cases hv
def SameUp (up up':Nat→Option Nat):Prop:=∀ v x,Up up v x↔Up up' v x
theorem Says.same {up up':Nat→Option Nat} {sh:Nat→Option T} {τ:Su} (h:Says up sh τ) (e:SameUp up up'):Says up' sh τ:=⟨fun v x hx=>h.cls v x ((e v x).2 hx),fun x t hx=>h.shp x t ((e x x).2 hx)⟩
theorem Sem.same {up up':Nat→Option Nat} {sh:Nat→Option T} {σ:Su} (h:Sem up sh σ) (e:SameUp up up') (hd:Desc up'):Sem up' sh σ:=
 ⟨hd,fun x t n hx=>h.flat x t n ((e x x).2 hx),h.says.same e,fun x hx=>h.free x ((e x x).2 hx)⟩
def Met (up:Nat→Option Nat):Prop:=∀ v u,up v=some u→up u≠none
theorem half_same {up up2:Nat→Option Nat} {v u u':Nat} (hd:Desc up) (h1:up v=some u) (hne:u≠v) (h2:up u=some u') (e:∀ w,up2 w=if w=v then some u' else up w):SameUp up up2:=by
 have hu:u < v:=by have:=hd v u h1;omega
 have hu':u'≤u:=hd u u' h2
 have ev:up2 v=some u':=by rw [e,if_pos rfl]
 have eo:∀ w,w≠v→up2 w=up w:=fun w hw=>by rw [e,if_neg hw]
 intro w x
 constructor
 ·intro h
  induction h with
  | @self w h=>
   have hw:w≠v:=by rintro rfl;rcases h with h|h<;>rw [h1] at h<;>cases h;exact hne rfl
   exact .self (by rw [eo w hw];exact h)
  | @step w w1 x hs hn _ ih=>
   by_cases hw:w=v
   ·subst hw
    rw [h1] at hs;cases hs
    refine .step ev (by omega) ?_
    cases ih with
    | self h=>
     rw [eo u (by omega),h2] at h
     rcases h with h|h
     ·cases h
     ·cases h;exact .self (.inr (by rw [eo u (by omega),h2]))
    | step h3 h4 h5=>rw [eo u (by omega),h2] at h3;cases h3;exact h5
   ·exact .step (by rw [eo w hw];exact hs) hn ih
 ·intro h
  induction h with
  | @self w h=>
   have hw:w≠v:=by
    rintro rfl
    rw [ev] at h
    rcases h with h|h
    ·cases h
    ·cases h;omega
   exact .self (by rw [← eo w hw];exact h)
  | @step w w1 x hs hn _ ih=>
   by_cases hw:w=v
   ·subst hw
    rw [ev] at hs;cases hs
    refine .step h1 hne ?_
    by_cases hu2:u'=u
    ·rw [← hu2];exact ih
    ·exact .step h2 hu2 ih
   ·exact .step (by rw [← eo w hw];exact hs) hn ih
theorem new_same {up up2:Nat→Option Nat} {v:Nat} (h1:up v=none) (e:∀ w,up2 w=if w=v then some v else up w):SameUp up up2:=by
 have ev:up2 v=some v:=by rw [e,if_pos rfl]
 have eo:∀ w,w≠v→up2 w=up w:=fun w hw=>by rw [e,if_neg hw]
 intro w x
 constructor
 ·intro h
  induction h with
  | @self w h=>
   by_cases hw:w=v
   ·subst hw;exact .self (.inr ev)
   ·exact .self (by rw [eo w hw];exact h)
  | @step w w1 x hs hn _ ih=>
   have hw:w≠v:=by rintro rfl;rw [h1] at hs;cases hs
   exact .step (by rw [eo w hw];exact hs) hn ih
 ·intro h
  induction h with
  | @self w h=>
   by_cases hw:w=v
   ·subst hw;exact .self (.inl h1)
   ·exact .self (by rw [← eo w hw];exact h)
  | @step w w1 x hs hn _ ih=>
   have hw:w≠v:=by rintro rfl;rw [ev] at hs;cases hs;exact hn rfl
   exact .step (by rw [← eo w hw];exact hs) hn ih
theorem SameUp.trans {a b c:Nat→Option Nat} (h:SameUp a b) (k:SameUp b c):SameUp a c:=fun v x=>(h v x).trans (k v x)
theorem SameUp.symm {a b:Nat→Option Nat} (h:SameUp a b):SameUp b a:=fun v x=>(h v x).symm
theorem SameUp.refl (a:Nat→Option Nat):SameUp a a:=fun _ _=>Iff.rfl
structure More (up up':Nat→Option Nat) (N:Nat→Prop):Prop where
 same:SameUp up up'
 desc:Desc up'
 met:Met up'
 dom:∀ w,up' w≠none↔up w≠none∨N w
theorem More.refl {up:Nat→Option Nat} (hd:Desc up) (hm:Met up) {N:Nat→Prop} (hN:∀ w,N w→up w≠none):More up up N:=⟨fun _ _=>Iff.rfl,hd,hm,fun w=>⟨.inl,fun h=>h.elim id (hN w)⟩⟩
theorem More.trans {a b c:Nat→Option Nat} {N N' N'':Nat→Prop} (h:More a b N) (k:More b c N') (e:∀ w,N'' w↔N w∨N' w):More a c N'':=
 ⟨h.same.trans k.same,k.desc,k.met,fun w=>by rw [k.dom,h.dom,e];exact or_assoc⟩
theorem More.new {up:Nat→Option Nat} {v:Nat} (hd:Desc up) (hm:Met up) (h1:up v=none) {up2:Nat→Option Nat} (e:∀ w,up2 w=if w=v then some v else up w):More up up2 (·=v):=by
 refine ⟨new_same h1 e,fun w y hw=>?_,fun w y hw=>?_,fun w=>?_⟩
 ·rw [e] at hw
  split at hw
  ·rename_i e;cases hw;omega
  ·exact hd w y hw
 ·rw [e] at hw ⊢
  split at hw
  ·cases hw;rw [if_pos rfl];simp
  ·split
   ·simp
   ·exact hm w y hw
 ·rw [e]
  by_cases h:w=v
  ·rw [if_pos h];exact ⟨fun _=>.inr h,fun _=>by simp⟩
  ·rw [if_neg h];exact ⟨.inl,fun h'=>h'.elim id fun e=>absurd e h⟩
theorem More.half {up:Nat→Option Nat} {v u u':Nat} (hd:Desc up) (hm:Met up) (h1:up v=some u) (hne:u≠v) (h2:up u=some u') {up2:Nat→Option Nat} (e:∀ w,up2 w=if w=v then some u' else up w):More up up2 (fun _=>False):=by
 have hu:u < v:=by have:=hd v u h1;omega
 have hu':u'≤u:=hd u u' h2
 have hv:up v≠none:=by rw [h1];simp
 have hn2:∀ w,up2 w≠none↔up w≠none:=fun w=>by
  rw [e]
  split
  ·rename_i e;rw [e];exact ⟨fun _=>hv,fun _=>by simp⟩
  ·exact Iff.rfl
 refine ⟨half_same hd h1 hne h2 e,fun w y hw=>?_,fun w y hw=>?_,fun w=>by rw [hn2];simp⟩
 ·rw [e] at hw
  split at hw
  ·rename_i e;cases hw;omega
  ·exact hd w y hw
 ·rw [hn2]
  rw [e] at hw
  split at hw
  ·cases hw;exact hm u _ h2
  ·exact hm w y hw
theorem Up.step_inv {up:Nat→Option Nat} {v u x:Nat} (h1:up v=some u) (h:Up up u x):Up up v x:=by
 by_cases hu:u=v
 ·subst hu;exact h
 ·exact .step h1 hu h
theorem Up.at_root {up:Nat→Option Nat} {v:Nat} (h1:up v=some v):Up up v v:=.self (.inr h1)
def Known (up:Nat→Option Nat) (sh:Nat→Option T):Prop:=∀ r t,Up up r r→sh r=some t→∀ v,t.Occ v→up v≠none
theorem Known.more {up up':Nat→Option Nat} {sh:Nat→Option T} {N:Nat→Prop} (h:Known up sh) (k:More up up' N):Known up' sh:=fun r t hr hs v hv=>
 (k.dom v).2 (.inl (h r t ((k.same r r).2 hr) hs v hv))
structure SemX (up:Nat→Option Nat) (sh:Nat→Option T) (x:Nat) (σ:Su):Prop where
 cls:∀ v r,Up up v r→σ v=σ r
 shp:∀ r t,Up up r r→r≠x→sh r=some t→σ r=t.sub σ∧∀ m,t≠.var m
 free:∀ r,Up up r r→r≠x→sh r=none→σ r=.var r
 own:σ x=.var x
theorem SemX.same {up up':Nat→Option Nat} {sh:Nat→Option T} {x:Nat} {σ:Su} (h:SemX up sh x σ) (e:SameUp up up'):SemX up' sh x σ:=
 ⟨fun v r hr=>h.cls v r ((e v r).2 hr),fun r t hr=>h.shp r t ((e r r).2 hr),fun r hr=>h.free r ((e r r).2 hr),h.own⟩
theorem Sem.semX {up:Nat→Option Nat} {sh sh':Nat→Option T} {x:Nat} {σ:Su} (h:Sem up sh' σ) (hx:Up up x x) (e:∀ w,sh' w=if w=x then none else sh w):SemX up sh x σ:=
 ⟨h.says.cls,fun r t hr hne hs=>⟨h.says.shp r t hr (by rw [e,if_neg hne];exact hs),fun m=>h.flat r t m hr (by rw [e,if_neg hne];exact hs)⟩,fun r hr hne hs=>h.free r hr (by rw [e,if_neg hne];exact hs),h.free x hx (by rw [e,if_pos rfl])⟩
theorem strict_nodes {σ:Su} {t:T} {v:Nat} (hv:t.Occ v) (hn:∀ m,t≠.var m):(σ v).nodes+1≤(t.sub σ).nodes:=by
 cases t with
 | var m=>exact absurd rfl (hn m)
 | pair a b=>
  simp only [T.sub,T.nodes]
  rcases hv with h|h
  ·have:=occ_nodes (σ:=σ) h;omega
  ·have:=occ_nodes (σ:=σ) h;omega
 | nil=>exact hv.elim
 | sym s=>exact hv.elim
 | num n=>exact hv.elim
section
variable {up:Nat→Option Nat} {sh sh':Nat→Option T} {σ τ:Su} {x:Nat} {t:T}
theorem bind_all {σ:Su} {x:Nat} {X:T} (t:T):t.sub (bindS σ x X)=(t.sub σ).sub fun u=>if u=x then X else .var u:=(sub_sub t).symm
theorem Sem.know (h:Sem up sh σ) (hx:Up up x x) (hs:sh x=none) (ht:∀ n,t≠.var n) (ho:¬ (t.sub σ).Occ x) (e:∀ w,sh' w=if w=x then some t else sh w):Sem up sh' (bindS σ x (t.sub σ)):=by
 have hxx:(t.sub σ).sub (fun u=>if u=x then t.sub σ else .var u)=t.sub σ:=sub_fix fun w hw=>by rw [if_neg];rintro rfl;exact ho hw
 have hox:σ x=.var x:=h.free x hx hs
 refine ⟨h.desc,fun r t' n hr hr2=>?_,⟨fun v r hr=>?_,fun r t' hr hr2=>?_⟩,fun r hr hr2=>?_⟩
 ·rw [e] at hr2
  split at hr2
  ·cases hr2;exact ht n
  ·exact h.flat r t' n hr hr2
 ·unfold bindS;rw [h.says.cls v r hr]
 ·rw [bind_all]
  rw [e] at hr2
  split at hr2
  ·rename_i hrx
   cases hr2;subst hrx
   rw [hxx];unfold bindS;rw [hox];simp [T.sub]
  ·unfold bindS;rw [h.says.shp r t' hr hr2]
 ·rw [e] at hr2
  split at hr2
  ·cases hr2
  ·rename_i hrx
   unfold bindS
   rw [h.free r hr hr2]
   simp [T.sub,hrx]
theorem Says.know (hx:Up up x x) (hs:sh x=none) (e:∀ w,sh' w=if w=x then some t else sh w):Says up sh' τ↔Says up sh τ∧τ x=t.sub τ:=by
 constructor
 ·intro h
  refine ⟨⟨h.cls,fun r t' hr hr2=>h.shp r t' hr ?_⟩,h.shp x t hx (by rw [e,if_pos rfl])⟩
  rw [e,if_neg]
  ·exact hr2
  ·rintro rfl;rw [hs] at hr2;cases hr2
 ·rintro ⟨h,hxt⟩
  refine ⟨h.cls,fun r t' hr hr2=>?_⟩
  rw [e] at hr2
  split at hr2
  ·rename_i hrx;cases hr2;subst hrx;exact hxt
  ·exact h.shp r t' hr hr2
end
theorem join_up {up up':Nat→Option Nat} {x y:Nat} (hd:Desc up) (hx:Up up x x) (hy:Up up y y) (hlt:x < y) (e:∀ w,up' w=if w=y then some x else up w) :
 ∀ v r,Up up' v r↔∃ q,Up up v q∧r=if q=y then x else q:=by
 have ey:up' y=some x:=by rw [e,if_pos rfl]
 have eo:∀ w,w≠y→up' w=up w:=fun w hw=>by rw [e,if_neg hw]
 have hx':Up up' x x:=by
  cases hx with
  | self h=>exact .self (by rw [eo x (by omega)];exact h)
  | step h1 h2 h3=>have:=h3.le hd;have:=hd _ _ h1;exact absurd (by omega) h2
 have fwd:∀ v q,Up up v q→Up up' v (if q=y then x else q):=by
  intro v q h
  induction h with
  | @self w h=>
   by_cases hw:w=y
   ·subst hw;rw [if_pos rfl];exact .step ey (by omega) hx'
   ·rw [if_neg hw];exact .self (by rw [eo w hw];exact h)
  | @step w u q hs hn _ ih=>
   have hw:w≠y:=by
    rintro rfl
    cases hy with
    | self h=>rcases h with h|h<;>rw [hs] at h<;>cases h;exact hn rfl
    | step h1 h2 h3=>have:=h3.le hd;have:=hd _ _ h1;exact h2 (by omega)
   exact .step (by rw [eo w hw];exact hs) hn ih
 intro v r
 constructor
 ·intro h
  obtain ⟨q,hq⟩:=Up.exists hd v
  exact ⟨q,hq,h.unique (fwd v q hq)⟩
 ·rintro ⟨q,hq,rfl⟩
  exact fwd v q hq
theorem Sem.merge {up up':Nat→Option Nat} {sh:Nat→Option T} {σ:Su} {x y:Nat} (h:Sem up sh σ) (hx:Up up x x) (hy:Up up y y) (hlt:x < y) (sx:sh x=none) (sy:sh y=none) (e:∀ w,up' w=if w=y then some x else up w):Sem up' sh (bindS σ y (.var x)):=by
 have hj:=join_up h.desc hx hy hlt e
 have ox:=h.free x hx sx
 have oy:=h.free y hy sy
 have root:∀ r,Up up' r r→Up up r r∧r≠y:=fun r hr=>by
  obtain ⟨q,h1,h2⟩:=(hj r r).1 hr
  by_cases hq:q=y
  ·rw [if_pos hq] at h2
   subst h2
   exact ⟨hx,by omega⟩
  ·rw [if_neg hq] at h2
   subst h2
   exact ⟨h1,hq⟩
 refine ⟨fun v u hv=>?_,fun r t n hr=>h.flat r t n (root r hr).1,⟨fun v r hr=>?_,fun r t hr hs=>?_⟩,fun r hr hs=>?_⟩
 ·rw [e] at hv
  split at hv
  ·cases hv;omega
  ·exact h.desc v u hv
 ·obtain ⟨q,h1,rfl⟩:=(hj v r).1 hr
  unfold bindS
  rw [h.says.cls v q h1]
  by_cases hq:q=y
  ·rw [if_pos hq,hq,oy,ox]
   simp [T.sub,Nat.ne_of_lt hlt]
  ·rw [if_neg hq]
 ·rw [bind_all]
  unfold bindS
  rw [h.says.shp r t (root r hr).1 hs]
 ·obtain ⟨h1,h2⟩:=root r hr
  unfold bindS
  rw [h.free r h1 hs]
  simp [T.sub,h2]
theorem Sem.drop {up:Nat→Option Nat} {sh sh':Nat→Option T} {σ:Su} {y:Nat} (h:Sem up sh σ) (e:∀ w,sh' w=if w=y then none else sh w):∃ σ',Sem up sh' σ':=by
 -- values by size of the old ones
 let P:Nat→Su→Prop:=fun n F=>(∀ v r,Up up v r→F v=F r)∧(∀ r t,Up up r r→sh' r=some t→(σ r).nodes≤n→F r=t.sub F)∧∀ r,Up up r r→sh' r=none→F r=.var r
 have old:∀ r t,sh' r=some t→sh r=some t:=fun r t hs=>by rw [e] at hs;split at hs;cases hs;exact hs
 have less:∀ r t v q,Up up r r→sh' r=some t→t.Occ v→Up up v q→(σ q).nodes+1≤(σ r).nodes:=fun r t v q hr hs hv hq=>by
  have:=strict_nodes (σ:=σ) hv (fun m=>h.flat r t m hr (old r t hs))
  rw [← h.says.shp r t hr (old r t hs),h.says.cls v q hq] at this
  exact this
 have agree:∀ (m n:Nat) (F G:Su),m≤n→P m F→P n G→∀ r,Up up r r→(σ r).nodes≤m→F r=G r:=by
  intro m
  induction m using Nat.strongRecOn with
  | _ m ih=>
   intro n F G hmn hF hG r hr hn
   cases hs:sh' r with
   | none=>rw [hF.2.2 r hr hs,hG.2.2 r hr hs]
   | some t=>
    rw [hF.2.1 r t hr hs hn,hG.2.1 r t hr hs (by omega)]
    refine sub_congr fun v hv=>?_
    obtain ⟨q,hq⟩:=Up.exists h.desc v
    have hl:=less r t v q hr hs hv hq
    rw [hF.1 v q hq,hG.1 v q hq]
    have hp:=nodes_pos (σ q)
    exact ih (m - 1) (by omega) n F G (by omega) ⟨hF.1,fun r t a b c=>hF.2.1 r t a b (by omega),hF.2.2⟩ hG q hq.root (by omega)
 have ex:∀ n:Nat,∃ F:Su,P n F:=by
  intro n
  induction n with
  | zero=>
   refine ⟨fun v=>.var (Classical.choose (Up.exists h.desc v)),fun v r hr=>?_,fun r t _ _ hn=>?_,fun r hr _=>?_⟩
   ·have h1:=Classical.choose_spec (Up.exists h.desc v)
    have h2:=Classical.choose_spec (Up.exists h.desc r)
    simp only
    rw [h1.unique hr,h2.unique hr.root]
   ·have:=nodes_pos (σ r);omega
   ·have h2:=Classical.choose_spec (Up.exists h.desc r)
    simp only
    rw [h2.unique hr]
  | succ n ih=>
   obtain ⟨F,f1,f2,f3⟩:=ih
   refine ⟨fun v=>match sh' (Classical.choose (Up.exists h.desc v)) with|some t=>t.sub F|none=>.var (Classical.choose (Up.exists h.desc v)),fun v r hr=>?_,fun r t hr hs hn=>?_,fun r hr hs=>?_⟩
   ·have h1:=Classical.choose_spec (Up.exists h.desc v)
    have h2:=Classical.choose_spec (Up.exists h.desc r)
    simp only
    rw [h1.unique hr,h2.unique hr.root]
   ·have h2:=(Classical.choose_spec (Up.exists h.desc r)).unique hr
    simp only [h2,hs]
    refine sub_congr fun v hv=>?_
    obtain ⟨q,hq⟩:=Up.exists h.desc v
    have h1:=(Classical.choose_spec (Up.exists h.desc v)).unique hq
    simp only [h1]
    rw [f1 v q hq]
    cases hsq:sh' q with
    | none=>simp only;exact f3 q hq.root hsq
    | some t'=>
     simp only
     have:=less r t v q hr hs hv hq
     exact f2 q t' hq.root hsq (by omega)
   ·have h2:=(Classical.choose_spec (Up.exists h.desc r)).unique hr
    simp only [h2,hs]
 -- each value at its own size
 let C:Nat→Su:=fun n=>Classical.choose (ex n)
 have hC:∀ n,P n (C n):=fun n=>Classical.choose_spec (ex n)
 refine ⟨fun v=>C (σ v).nodes v,h.desc,fun r t n hr hs=>h.flat r t n hr (old r t hs),⟨fun v r hr=>?_,fun r t hr hs=>?_⟩,fun r hr hs=>(hC _).2.2 r hr hs⟩
 ·rw [h.says.cls v r hr]
  exact (hC _).1 v r hr
 ·rw [(hC (σ r).nodes).2.1 r t hr hs (Nat.le_refl _)]
  refine sub_congr fun v hv=>?_
  obtain ⟨q,hq⟩:=Up.exists h.desc v
  have hl:=less r t v q hr hs hv hq
  rw [(hC _).1 v q hq,h.says.cls v q hq,(hC _).1 v q hq]
  exact (agree (σ q).nodes (σ r).nodes (C (σ q).nodes) (C (σ r).nodes) (by omega) (hC _) (hC _) q hq.root (Nat.le_refl _)).symm
theorem Sem.shapes {up:Nat→Option Nat} {sh sh':Nat→Option T} {σ:Su} (h:Sem up sh σ) (e:∀ r,Up up r r→sh' r=sh r):Sem up sh' σ:=
 ⟨h.desc,fun x t n hx hs=>h.flat x t n hx (by rw [← e x hx];exact hs),⟨h.says.cls,fun x t hx hs=>h.says.shp x t hx (by rw [← e x hx];exact hs)⟩,fun x hx hs=>h.free x hx (by rw [← e x hx];exact hs)⟩
theorem Sem.joined {up up':Nat→Option Nat} {sh:Nat→Option T} {σ:Su} {x y:Nat} (h:Sem up sh σ) (hx:Up up x x) (hy:Up up y y) (hlt:x < y) (e:∀ w,up' w=if w=y then some x else up w) :
 ∃ σX,Sem up' (fun w=>if w=x then none else sh w) σX:=by
 obtain ⟨σ1,h1⟩:=h.drop (y:=x) (sh':=fun w=>if w=x then none else sh w) fun _=>rfl
 obtain ⟨σ2,h2⟩:=h1.drop (y:=y) (sh':=fun w=>if w=y then none else if w=x then none else sh w) fun _=>rfl
 have h3:=h2.merge hx hy hlt (by simp) (by simp) e
 refine ⟨_,h3.shapes fun r hr=>?_⟩
 have hry:r≠y:=by
  rintro rfl
  obtain ⟨q,h4,h5⟩:=(join_up h.desc hx hy hlt e r r).1 hr
  by_cases hq:q=r
  ·rw [if_pos hq] at h5;omega
  ·rw [if_neg hq] at h5;exact hq h5.symm
 simp [hry]
theorem Says.joined {up up':Nat→Option Nat} {sh:Nat→Option T} {τ:Su} {x y:Nat} (hd:Desc up) (hx:Up up x x) (hy:Up up y y) (hlt:x < y) (e:∀ w,up' w=if w=y then some x else up w) :
 Says up' sh τ∧(∀ t,sh y=some t→τ y=t.sub τ)↔Says up sh τ∧τ x=τ y:=by
 have hj:=join_up hd hx hy hlt e
 have root':∀ r,Up up r r→r≠y→Up up' r r:=fun r hr hne=>(hj r r).2 ⟨r,hr,by rw [if_neg hne]⟩
 have root:∀ r,Up up' r r→Up up r r∧r≠y:=fun r hr=>by
  obtain ⟨q,h1,h2⟩:=(hj r r).1 hr
  by_cases hq:q=y
  ·rw [if_pos hq] at h2;subst h2;exact ⟨hx,by omega⟩
  ·rw [if_neg hq] at h2;subst h2;exact ⟨h1,hq⟩
 constructor
 ·rintro ⟨h,h2⟩
  have hxy:τ x=τ y:=(h.cls y x ((hj y x).2 ⟨y,hy,by rw [if_pos rfl]⟩)).symm
  refine ⟨⟨fun v r hr=>?_,fun r t hr hs=>?_⟩,hxy⟩
  ·have:=h.cls v _ ((hj v _).2 ⟨r,hr,rfl⟩)
   rw [this]
   by_cases hry:r=y
   ·rw [if_pos hry,hry,hxy]
   ·rw [if_neg hry]
  ·by_cases hry:r=y
   ·subst hry;exact h2 t hs
   ·exact h.shp r t (root' r hr hry) hs
 ·rintro ⟨h,hxy⟩
  refine ⟨⟨fun v r hr=>?_,fun r t hr hs=>h.shp r t (root r hr).1 hs⟩,fun t hs=>h.shp y t hy hs⟩
  obtain ⟨q,h1,rfl⟩:=(hj v r).1 hr
  rw [h.cls v q h1]
  by_cases hq:q=y
  ·rw [if_pos hq,hq,hxy]
  ·rw [if_neg hq]
structure CI (up:Nat→Option Nat) (sh:Nat→Option T) (σ:Su):Prop where
 met:Met up
 known:Known up sh
 sem:Sem up sh σ
 shm:∀ r,sh r≠none→up r≠none
theorem CI.more {up up':Nat→Option Nat} {sh:Nat→Option T} {σ:Su} {N:Nat→Prop} (h:CI up sh σ) (k:More up up' N):CI up' sh σ:=⟨k.met,h.known.more k,h.sem.same k.same k.desc,fun r hr=>(k.dom r).2 (.inl (h.shm r hr))⟩
noncomputable def cntP (B:Nat) (p:Nat→Prop):Nat:=open Classical in ((List.range B).filter fun r=>decide (p r)).length
theorem cntP_le {B:Nat} {p q:Nat→Prop} (h:∀ r,p r→q r):cntP B p≤cntP B q:=by
 unfold cntP
 induction B with
 | zero=>exact Nat.le_refl _
 | succ B ih=>
  rw [List.range_succ,List.filter_append,List.filter_append,List.length_append,List.length_append]
  by_cases hp:p B
  ·simp only [List.filter_cons,List.filter_nil,decide_eq_true_eq,hp,h B hp,if_true]
   have:=ih;simp only [List.length_cons,List.length_nil];omega
  ·have:(List.filter (fun r=>@decide (p r) (Classical.propDecidable _)) [B]).length=0:=by simp [hp]
   omega
theorem cntP_lt {B:Nat} {p q:Nat→Prop} (h:∀ r,p r→q r) {x:Nat} (hx:x < B) (h1:q x) (h2:¬ p x):cntP B p < cntP B q:=by
 unfold cntP
 induction B with
 | zero=>omega
 | succ B ih=>
  rw [List.range_succ,List.filter_append,List.filter_append,List.length_append,List.length_append]
  by_cases hxB:x=B
  ·subst hxB
   have e1:(List.filter (fun r=>@decide (p r) (Classical.propDecidable _)) [x]).length=0:=by simp [h2]
   have e2:(List.filter (fun r=>@decide (q r) (Classical.propDecidable _)) [x]).length=1:=by simp [h1]
   have:=cntP_le (B:=x) h
   unfold cntP at this
   omega
  ·have h3:=ih (by omega)
   have e:(List.filter (fun r=>@decide (p r) (Classical.propDecidable _)) [B]).length≤(List.filter (fun r=>@decide (q r) (Classical.propDecidable _)) [B]).length:=by
    by_cases hp:p B
    ·simp [hp,h B hp]
    ·simp [hp]
   omega
noncomputable def deg (B:Nat) (up:Nat→Option Nat) (sh:Nat→Option T):Nat:=cntP B (fun r=>Up up r r∧up r≠none)+cntP B (fun r=>(Up up r r∧up r≠none)∧sh r=none)
theorem deg_more {B:Nat} {up up':Nat→Option Nat} {sh:Nat→Option T} (k:More up up' fun _=>False):deg B up' sh=deg B up sh:=by
 have e:∀ r,(Up up' r r∧up' r≠none)↔(Up up r r∧up r≠none):=fun r=>by rw [← k.same r r,k.dom r,or_false]
 unfold deg
 simp only [e]
structure EqR (B:Nat) (up:Nat→Option Nat) (sh:Nat→Option T) (a b:T) (ok:Bool) (up':Nat→Option Nat) (sh':Nat→Option T):Prop where
 dom:∀ w,up' w≠none↔up w≠none
 yes:ok=true→(∃ σ',CI up' sh' σ')∧(∀ τ,Says up' sh' τ↔Says up sh τ∧a.sub τ=b.sub τ)∧(deg B up' sh' < deg B up sh∨More up up' (fun _=>False)∧sh'=sh)
 no:ok=false→∀ τ,Says up sh τ→a.sub τ≠b.sub τ
section
variable {B:Nat} {up up1 up':Nat→Option Nat} {sh sh':Nat→Option T} {σ σX:Su} {a b:T} {ok:Bool} {x y:Nat}
theorem EqR.pre (k:More up up1 fun _=>False) (h:EqR B up1 sh a b ok up' sh'):EqR B up sh a b ok up' sh':=by
 refine ⟨fun w=>by rw [h.dom,k.dom,or_false],fun e=>?_,fun e τ ht=>h.no e τ (ht.same k.same)⟩
 obtain ⟨h1,h2,h3⟩:=h.yes e
 refine ⟨h1,fun τ=>by rw [h2];exact ⟨fun h=>⟨h.1.same k.same.symm,h.2⟩,fun h=>⟨h.1.same k.same,h.2⟩⟩,?_⟩
 rw [← deg_more k]
 exact h3.imp id fun h=>⟨k.trans h.1 fun _=>by simp,h.2⟩
theorem EqR.swap (h:EqR B up sh a b ok up' sh'):EqR B up sh b a ok up' sh':=
 ⟨h.dom,fun e=>⟨(h.yes e).1,fun τ=>by rw [(h.yes e).2.1];exact ⟨fun h=>⟨h.1,h.2.symm⟩,fun h=>⟨h.1,h.2.symm⟩⟩,(h.yes e).2.2⟩,fun e τ ht e'=>h.no e τ ht e'.symm⟩
theorem EqR.same {c d:T} (h:EqR B up sh a b ok up' sh') (e:∀ τ,Says up sh τ→(a.sub τ=b.sub τ↔c.sub τ=d.sub τ)):EqR B up sh c d ok up' sh':=
 ⟨h.dom,fun k=>⟨(h.yes k).1,fun τ=>by rw [(h.yes k).2.1];exact ⟨fun h=>⟨h.1,(e τ h.1).1 h.2⟩,fun h=>⟨h.1,(e τ h.1).2 h.2⟩⟩,(h.yes k).2.2⟩,fun k τ ht e'=>h.no k τ ht ((e τ ht).2 e')⟩
theorem eq_true (h:CI up sh σ) (e:∀ τ,Says up sh τ→a.sub τ=b.sub τ):EqR B up sh a b true up sh:=
 ⟨fun _=>Iff.rfl,fun _=>⟨⟨σ,h⟩,fun τ=>⟨fun ht=>⟨ht,e τ ht⟩,fun ht=>ht.1⟩,.inr ⟨.refl h.sem.desc h.met fun _ h=>h.elim,rfl⟩⟩,fun e=>(by cases e)⟩
theorem eq_false (e:∀ τ,Says up sh τ→a.sub τ≠b.sub τ):EqR B up sh a b false up sh:=⟨fun _=>Iff.rfl,fun e=>(by cases e),fun _=>e⟩
theorem eq_pair {a1 a2 b1 b2:T} {up2:Nat→Option Nat} {sh1 sh2:Nat→Option T} (h1:EqR B up sh a1 b1 true up1 sh1) (h2:EqR B up1 sh1 a2 b2 ok up2 sh2):EqR B up sh (.pair a1 a2) (.pair b1 b2) ok up2 sh2:=by
 obtain ⟨_,e1,e2⟩:=h1.yes rfl
 refine ⟨fun w=>by rw [h2.dom,h1.dom],fun e=>?_,fun e τ ht=>?_⟩
 ·obtain ⟨k1,k2,k3⟩:=h2.yes e
  refine ⟨k1,fun τ=>by rw [k2,e1];simp only [T.sub,T.pair.injEq,and_assoc],?_⟩
  rcases e2 with e2 | ⟨e2,rfl⟩
  ·rcases k3 with k3 | ⟨k3,rfl⟩
   ·exact .inl (Nat.lt_trans k3 e2)
   ·exact .inl (by rw [deg_more k3];exact e2)
  ·rcases k3 with k3 | ⟨k3,rfl⟩
   ·exact .inl (by rw [← deg_more e2];exact k3)
   ·exact .inr ⟨e2.trans k3 fun _=>by simp,rfl⟩
 ·simp only [T.sub,ne_eq,T.pair.injEq]
  rintro ⟨h3,h4⟩
  exact h2.no e τ ((e1 τ).2 ⟨ht,h3⟩) h4
theorem eq_pair_no {a1 a2 b1 b2:T} (h1:EqR B up sh a1 b1 false up1 sh'):EqR B up sh (.pair a1 a2) (.pair b1 b2) false up1 sh':=
 ⟨h1.dom,fun e=>(by cases e),fun e τ ht h=>by simp only [T.sub,T.pair.injEq] at h;exact h1.no e τ ht h.1⟩
theorem no_loop {t:T} (hc:Sem up sh' σX) (hf:∀ n,t≠.var n) (ho:(t.sub σX).Occ x) (τ:Su) (ht:Says up sh' τ) (e:τ x=t.sub τ):False:=by
 have h:=hc.can.closed_all ht (t:=t)
 rw [h] at e
 have:=occurs_check e ho
 cases t with
 | var n=>exact hf n rfl
 | _=>cases this
theorem says_drop {τ:Su} (ht:Says up sh τ) (e:∀ w t,sh' w=some t→sh w=some t):Says up sh' τ:=⟨ht.cls,fun r t hr hs=>ht.shp r t hr (e r t hs)⟩
theorem eq_know {t:T} (h:CI up sh σ) (hx:Up up x x) (hm:up x≠none) (hB:x < B) (hs:sh x=none) (hf:∀ n,t≠.var n) (hv:∀ v,t.Occ v→up v≠none) (e:∀ w,sh' w=if w=x then some t else sh w) (ho:(ok=false↔(t.sub σ).Occ x)) (k:More up up' fun _=>False) :
 EqR B up sh (.var x) t ok up' sh':=by
 refine ⟨fun w=>by rw [k.dom,or_false],fun hok=>?_,fun hok τ ht e'=>?_⟩
 ·have hno:¬ (t.sub σ).Occ x:=fun h=>by have:=ho.2 h;rw [hok] at this;cases this
  have hsem:=h.sem.know hx hs hf hno e
  have hkn:Known up sh':=fun r t' hr hs' v hv'=>by
   rw [e] at hs'
   split at hs'
   ·cases hs';exact hv v hv'
   ·exact h.known r t' hr hs' v hv'
  refine ⟨⟨_,(CI.mk h.met hkn hsem fun r hr=>by
   rw [e] at hr
   split at hr
   ·rename_i hrx;rw [hrx];exact hm
   ·exact h.shm r hr).more k⟩,fun τ=>?_,.inl ?_⟩
  ·rw [show Says up' sh' τ↔Says up sh' τ from ⟨fun h=>h.same k.same.symm,fun h=>h.same k.same⟩,Says.know hx hs e];rfl
  ·rw [deg_more k]
   unfold deg
   have:cntP B (fun r=>(Up up r r∧up r≠none)∧sh' r=none) < cntP B (fun r=>(Up up r r∧up r≠none)∧sh r=none):=cntP_lt (x:=x) (fun r hr=>⟨hr.1,by
    have:=hr.2
    rw [e] at this
    split at this
    ·cases this
    ·exact this⟩) hB ⟨⟨hx,hm⟩,hs⟩ (fun hr=>by have:=hr.2;rw [e,if_pos rfl] at this;cases this)
   omega
 ·exact no_loop h.sem hf (ho.1 hok) τ ht e'
theorem deg_join (hd:Desc up) (hx:Up up x x) (hy:Up up y y) (hmy:up y≠none) (hlt:x < y) (hB:y < B) (e:∀ w,up1 w=if w=y then some x else up w) (es:∀ w,sh' w=none→sh w=none):deg B up1 sh' < deg B up sh:=by
 have hj:=join_up hd hx hy hlt e
 have root:∀ r,Up up1 r r→Up up r r∧r≠y:=fun r hr=>by
  obtain ⟨q,h1,h2⟩:=(hj r r).1 hr
  by_cases hq:q=y
  ·rw [if_pos hq] at h2;subst h2;exact ⟨hx,by omega⟩
  ·rw [if_neg hq] at h2;subst h2;exact ⟨h1,hq⟩
 have dom:∀ r,up1 r≠none→up r≠none:=fun r hr=>by
  rw [e] at hr
  split at hr
  ·rename_i h;rw [h];exact hmy
  ·exact hr
 unfold deg
 have a1:cntP B (fun r=>Up up1 r r∧up1 r≠none) < cntP B (fun r=>Up up r r∧up r≠none):=cntP_lt (x:=y) (fun r hr=>⟨(root r hr.1).1,dom r hr.2⟩) hB ⟨hy,hmy⟩ fun h=>(root y h.1).2 rfl
 have a2:cntP B (fun r=>(Up up1 r r∧up1 r≠none)∧sh' r=none)≤cntP B (fun r=>(Up up r r∧up r≠none)∧sh r=none):=cntP_le fun r hr=>⟨⟨(root r hr.1.1).1,dom r hr.1.2⟩,es r hr.2⟩
 omega
theorem join_ok (h:CI up sh σ) (hx:Up up x x) (hy:Up up y y) (hmx:up x≠none) (hmy:up y≠none) (hlt:x < y) (e:∀ w,up1 w=if w=y then some x else up w) :
 (∀ w,up1 w≠none↔up w≠none)∧Met up1∧Desc up1∧Known up1 sh∧Up up1 x x∧∃ σX,Sem up1 (fun w=>if w=x then none else sh w) σX:=by
 have hj:=join_up h.sem.desc hx hy hlt e
 have dom:∀ w,up1 w≠none↔up w≠none:=fun w=>by
  rw [e]
  split
  ·rename_i h;rw [h];exact ⟨fun _=>hmy,fun _=>by simp⟩
  ·exact Iff.rfl
 obtain ⟨σX,hX⟩:=h.sem.joined hx hy hlt e
 refine ⟨dom,fun v u hv=>?_,hX.desc,fun r t hr hs v hv=>?_,(hj x x).2 ⟨x,hx,by rw [if_neg (by omega)]⟩,σX,hX⟩
 ·rw [dom]
  rw [e] at hv
  split at hv
  ·cases hv;exact hmx
  ·exact h.met v u hv
 ·rw [dom]
  obtain ⟨q,h1,h2⟩:=(hj r r).1 hr
  by_cases hq:q=y
  ·rw [if_pos hq] at h2;subst h2;exact h.known r t hx hs v hv
  ·rw [if_neg hq] at h2;subst h2;exact h.known r t h1 hs v hv
theorem join_back {sh1:Nat→Option T} {t:T} (hm:Met up1) (hmx:up1 x≠none) (hs:∀ r,sh r≠none→up1 r≠none) (hk:Known up1 sh) (hx:Up up1 x x) (hX:Sem up1 (fun w=>if w=x then none else sh w) σX) (hf:∀ n,t≠.var n) (hv:∀ v,t.Occ v→up1 v≠none) (e:∀ w,sh1 w=if w=x then some t else sh w) (ho:¬ (t.sub σX).Occ x):CI up1 sh1 (bindS σX x (t.sub σX)):=by
 refine ⟨hm,fun r t' hr hs v hv'=>?_,hX.know hx (by simp) hf ho fun w=>by rw [e];by_cases h:w=x<;>simp [h],fun r hr=>?_⟩
 ·rw [e] at hs
  split at hs
  ·cases hs;exact hv v hv'
  ·exact hk r t' hr hs v hv'
 ·rw [e] at hr
  split at hr
  ·rename_i hrx;rw [hrx];exact hmx
  ·exact hs r hr
theorem join_loop {sh1:Nat→Option T} {t:T} (hx:Up up1 x x) (hX:Sem up1 (fun w=>if w=x then none else sh w) σX) (hf:∀ n,t≠.var n) (e:∀ w,sh1 w=if w=x then some t else sh w) (ho:(t.sub σX).Occ x) (τ:Su) (ht:Says up1 sh1 τ):False:=
 no_loop hX hf ho τ (says_drop (sh':=fun w=>if w=x then none else sh w) ht fun w t' (hs:(if w=x then none else sh w)=some t')=>by
  by_cases h:w=x
  ·rw [if_pos h] at hs;cases hs
  ·rw [e,if_neg h];rwa [if_neg h] at hs) (ht.shp x t hx (by rw [e,if_pos rfl]))
theorem eq_join_y (h:CI up sh σ) (hx:Up up x x) (hy:Up up y y) (hmx:up x≠none) (hmy:up y≠none) (hlt:x < y) (hB:y < B) (e:∀ w,up1 w=if w=y then some x else up w) (sy:sh y=none) (sx:sh x=none):EqR B up sh (.var x) (.var y) true up1 sh:=by
 obtain ⟨dom,hm,hd,hk,hx1,σX,hX⟩:=join_ok h hx hy hmx hmy hlt e
 refine ⟨dom,fun _=>⟨⟨σX,hm,hk,hX.shapes fun r _=>?_,fun r hr=>(dom r).2 (h.shm r hr)⟩,fun τ=>?_,.inl (deg_join h.sem.desc hx hy hmy hlt hB e fun _ h=>h)⟩,fun e=>(by cases e)⟩
 ·show sh r=if r=x then none else sh r
  split
  ·rename_i hr;rw [hr,sx]
  ·rfl
 ·rw [show (T.var x).sub τ=τ x from rfl,show (T.var y).sub τ=τ y from rfl,← Says.joined h.sem.desc hx hy hlt e]
  exact ⟨fun ht=>⟨ht,fun t hs=>by rw [sy] at hs;cases hs⟩,fun ht=>ht.1⟩
theorem eq_join_x {t:T} (h:CI up sh σ) (hx:Up up x x) (hy:Up up y y) (hmx:up x≠none) (hmy:up y≠none) (hlt:x < y) (hB:y < B) (e:∀ w,up1 w=if w=y then some x else up w) (sy:sh y=none) (sx:sh x=some t)
 (hX:Sem up1 (fun w=>if w=x then none else sh w) σX) (ho:ok=false↔(t.sub σX).Occ x) (k:More up1 up' fun _=>False):EqR B up sh (.var x) (.var y) ok up' sh:=by
 obtain ⟨dom,hm,hd,hk,hx1,_⟩:=join_ok h hx hy hmx hmy hlt e
 have es:∀ w,sh w=if w=x then some t else sh w:=fun w=>by
  split
  ·rename_i hw;rw [hw,sx]
  ·rfl
 have hf:∀ n,t≠.var n:=fun n=>h.sem.flat x t n hx sx
 have hj:∀ τ,Says up1 sh τ↔Says up sh τ∧τ x=τ y:=fun τ=>by
  rw [← Says.joined h.sem.desc hx hy hlt e]
  exact ⟨fun ht=>⟨ht,fun t hs=>by rw [sy] at hs;cases hs⟩,fun ht=>ht.1⟩
 refine ⟨fun w=>by rw [k.dom,or_false,dom],fun hok=>?_,fun hok τ ht e'=>?_⟩
 ·have hno:¬ (t.sub σX).Occ x:=fun h=>by have:=ho.2 h;rw [hok] at this;cases this
  have hc:=join_back hm ((dom x).2 hmx) (fun r hr=>(dom r).2 (h.shm r hr)) hk hx1 hX hf (fun v hv=>hk x t hx1 sx v hv) es hno
  refine ⟨⟨_,hc.more k⟩,fun τ=>?_,.inl (by rw [deg_more k];exact deg_join h.sem.desc hx hy hmy hlt hB e fun _ h=>h)⟩
  rw [← show Says up1 sh τ↔Says up' sh τ from ⟨fun h=>h.same k.same,fun h=>h.same k.same.symm⟩,hj];rfl
 ·exact join_loop hx1 hX hf es (ho.1 hok) τ ((hj τ).2 ⟨ht,e'⟩)
theorem eq_join_move {t:T} (h:CI up sh σ) (hx:Up up x x) (hy:Up up y y) (hmx:up x≠none) (hmy:up y≠none) (hlt:x < y) (hB:y < B) (e:∀ w,up1 w=if w=y then some x else up w) (sy:sh y=some t) (sx:sh x=none)
 (hX:Sem up1 (fun w=>if w=x then none else sh w) σX) (es:∀ w,sh' w=if w=x then some t else sh w) (ho:ok=false↔(t.sub σX).Occ x) (k:More up1 up' fun _=>False):EqR B up sh (.var x) (.var y) ok up' sh':=by
 obtain ⟨dom,hm,hd,hk,hx1,_⟩:=join_ok h hx hy hmx hmy hlt e
 have hf:∀ n,t≠.var n:=fun n=>h.sem.flat y t n hy sy
 have hyx:Up up1 y x:=(join_up h.sem.desc hx hy hlt e y x).2 ⟨y,hy,by rw [if_pos rfl]⟩
 have hj:∀ τ,Says up1 sh' τ↔Says up sh τ∧τ x=τ y:=fun τ=>by
  rw [← Says.joined h.sem.desc hx hy hlt e,Says.know hx1 sx es]
  constructor
  ·rintro ⟨h1,h2⟩
   refine ⟨h1,fun t' hs=>?_⟩
   rw [sy] at hs;cases hs
   rw [h1.cls y x hyx,h2]
  ·rintro ⟨h1,h2⟩
   exact ⟨h1,by rw [← h1.cls y x hyx,h2 t sy]⟩
 refine ⟨fun w=>by rw [k.dom,or_false,dom],fun hok=>?_,fun hok τ ht e'=>?_⟩
 ·have hno:¬ (t.sub σX).Occ x:=fun h=>by have:=ho.2 h;rw [hok] at this;cases this
  have hc:=join_back hm ((dom x).2 hmx) (fun r hr=>(dom r).2 (h.shm r hr)) hk hx1 hX hf (fun v hv=>(dom v).2 (h.known y t hy sy v hv)) es hno
  refine ⟨⟨_,hc.more k⟩,fun τ=>?_,.inl (by
   rw [deg_more k]
   refine deg_join h.sem.desc hx hy hmy hlt hB e fun w hw=>?_
   rw [es] at hw
   split at hw
   ·cases hw
   ·exact hw)⟩
  rw [← show Says up1 sh' τ↔Says up' sh' τ from ⟨fun h=>h.same k.same,fun h=>h.same k.same.symm⟩,hj];rfl
 ·exact join_loop hx1 hX hf es (ho.1 hok) τ ((hj τ).2 ⟨ht,e'⟩)
theorem eq_join_loop {t tx:T} (h:CI up sh σ) (hx:Up up x x) (hy:Up up y y) (hmx:up x≠none) (hmy:up y≠none) (hlt:x < y) (e:∀ w,up1 w=if w=y then some x else up w) (sy:sh y=some t) (sx:sh x=some tx)
 (hX:Sem up1 (fun w=>if w=x then none else sh w) σX) (ho:(t.sub σX).Occ x∨(tx.sub σX).Occ x) (k:More up1 up' fun _=>False):EqR B up sh (.var x) (.var y) false up' sh:=by
 obtain ⟨dom,hm,hd,hk,hx1,_⟩:=join_ok h hx hy hmx hmy hlt e
 refine ⟨fun w=>by rw [k.dom,or_false,dom],fun hok=>(by cases hok),fun _ τ ht e'=>?_⟩
 obtain ⟨h1,h2⟩:=(Says.joined h.sem.desc hx hy hlt e).2 ⟨ht,e'⟩
 have hdrop:Says up1 (fun w=>if w=x then none else sh w) τ:=says_drop h1 fun w t' (hs:(if w=x then none else sh w)=some t')=>by
  by_cases hw:w=x
  ·rw [if_pos hw] at hs;cases hs
  ·rwa [if_neg hw] at hs
 rcases ho with ho|ho
 ·exact no_loop hX (fun n=>h.sem.flat y t n hy sy) ho τ hdrop (by rw [← h2 t sy];exact e')
 ·exact no_loop hX (fun n=>h.sem.flat x tx n hx sx) ho τ hdrop (h1.shp x tx hx1 sx)
theorem eq_join_both {t tx:T} {sh2:Nat→Option T} {up2:Nat→Option Nat} (h:CI up sh σ) (hx:Up up x x) (hy:Up up y y) (hmx:up x≠none) (hmy:up y≠none) (hlt:x < y) (hB:y < B) (e:∀ w,up1 w=if w=y then some x else up w) (sy:sh y=some t) (sx:sh x=some tx)
 (hX:Sem up1 (fun w=>if w=x then none else sh w) σX) (ho:¬ (tx.sub σX).Occ x) (k:More up1 up' fun _=>False) :
 (∃ σ',CI up' sh σ')∧deg B up' sh < deg B up sh∧(∀ v,t.Occ v→up' v≠none)∧(∀ v,tx.Occ v→up' v≠none)∧(EqR B up' sh tx t ok up2 sh2→EqR B up sh (.var x) (.var y) ok up2 sh2):=by
 obtain ⟨dom,hm,hd,hk,hx1,_⟩:=join_ok h hx hy hmx hmy hlt e
 have es:∀ w,sh w=if w=x then some tx else sh w:=fun w=>by
  split
  ·rename_i hw;rw [hw,sx]
  ·rfl
 have hc:=join_back hm ((dom x).2 hmx) (fun r hr=>(dom r).2 (h.shm r hr)) hk hx1 hX (fun n=>h.sem.flat x tx n hx sx) (fun v hv=>hk x tx hx1 sx v hv) es ho
 have hdeg:deg B up' sh < deg B up sh:=by rw [deg_more k];exact deg_join h.sem.desc hx hy hmy hlt hB e fun _ h=>h
 have hyx:Up up1 y x:=(join_up h.sem.desc hx hy hlt e y x).2 ⟨y,hy,by rw [if_pos rfl]⟩
 have hj:∀ τ,Says up' sh τ∧tx.sub τ=t.sub τ↔Says up sh τ∧τ x=τ y:=fun τ=>by
  rw [← show Says up1 sh τ↔Says up' sh τ from ⟨fun h=>h.same k.same,fun h=>h.same k.same.symm⟩,← Says.joined h.sem.desc hx hy hlt e]
  constructor
  ·rintro ⟨h1,h2⟩
   refine ⟨h1,fun t' hs=>?_⟩
   rw [sy] at hs;cases hs
   rw [h1.cls y x hyx,h1.shp x tx hx1 sx,h2]
  ·rintro ⟨h1,h2⟩
   exact ⟨h1,by rw [← h1.shp x tx hx1 sx,← h1.cls y x hyx,h2 t sy]⟩
 have dom':∀ w,up' w≠none↔up w≠none:=fun w=>by rw [k.dom,or_false,dom]
 refine ⟨⟨_,hc.more k⟩,hdeg,fun v hv=>(dom' v).2 (h.known y t hy sy v hv),fun v hv=>(dom' v).2 (h.known x tx hx sx v hv),fun hr=>⟨fun w=>by rw [hr.dom,dom'],fun hok=>?_,fun hok τ ht e'=>?_⟩⟩
 ·obtain ⟨h1,h2,h3⟩:=hr.yes hok
  refine ⟨h1,fun τ=>by rw [h2,hj];rfl,.inl ?_⟩
  rcases h3 with h3 | ⟨h3,rfl⟩
  ·exact Nat.lt_trans h3 hdeg
  ·rw [deg_more h3];exact hdeg
 ·obtain ⟨h1,h2⟩:=(hj τ).2 ⟨ht,e'⟩
  exact hr.no hok τ h1 h2
end
end Go.Proofs.YtejkllmoofdpjaaGreat
