/- Parts of the proof: VP9 VQ3 V90 V91 V92 V93 V94 V95 V96 VT5. -/
import Derived.Test.YtejkllmoofdpjaaGreatD36
import Derived.Test.YtejkllmoofdpjaaGreatD34
import Derived.Test.YtejkllmoofdpjaaGreatD35
namespace Go.Proofs.YtejkllmoofdpjaaGreat
open Go
set_option linter.all false
set_option maxRecDepth 100000
set_option maxHeartbeats 4000000
noncomputable section
open Classical
def BelT (t:T) (n:Int):Prop:=∀ v,t.Occ v→(v:Int) < n
def BelS (s:Sb) (n:Int):Prop:=∀ b∈s,(b.1:Int) < n∧BelT b.2 n
def Stt.raw (st:Stt):StR:=⟨st.next,st.bind.map toB,st.dis.map fun d=>d.map toB,st.kinds.map toK,st.marks.map toM⟩
structure StChk (st:Stt):Prop where
 nx:st.next≤100000
 pre:Pre1 st
 bb:BelS st.bind st.next
 bd:∀ d∈st.dis,BelS d st.next
 bk:∀ k∈st.kinds,(k.1:Int) < st.next
 bm:∀ m∈st.marks,(m.1:Int) < st.next
def SttOk (s:StR):Prop:=∃ st:Stt,s=st.raw∧StChk st∧settleF st=some st
theorem encSt_raw (st:Stt):encSt st.raw=encStt st:=by
 show [_,_,D.s 1 ((st.dis.map fun d=>d.map toB).map (encL 5 encB)),_,_]=_
 rw [List.map_map];rfl
section
variable {s:StR} (h:SttOk s)
include h
theorem SttOk.nx:0≤s.next∧s.next≤100000:=by
 obtain ⟨st,rfl,hc,_⟩:=h
 have:=hc.nx
 exact ⟨Int.natCast_nonneg _,by show (st.next:Int)≤_;omega⟩
theorem SttOk.b:SubR s.bind:=by obtain ⟨st,rfl,hc,_⟩:=h;exact ⟨_,rfl,hc.pre.bind⟩
theorem SttOk.k:KOkR s.kinds:=by obtain ⟨st,rfl,hc,_⟩:=h;exact kOkR_iff.2 ⟨_,rfl,hc.pre.kinds⟩
theorem SttOk.m:MOkR s.marks:=by obtain ⟨st,rfl,hc,_⟩:=h;exact mOkR_iff.2 ⟨_,rfl,hc.pre.marks⟩
theorem SttOk.d {d:List BdR} (e:d∈s.dis):∃ x:Sb,d=x.map toB∧Sub x∧BelS x s.next:=by
 obtain ⟨st,rfl,hc,_⟩:=h
 obtain ⟨x,hx,rfl⟩:=List.mem_map.1 (show d∈st.dis.map fun d=>d.map toB from e)
 exact ⟨x,rfl,hc.pre.dis x hx,hc.bd x hx⟩
end
theorem StChk.sp {st:Stt} (h:StChk st) (hm:st.marks.length≤1048576) (hd:st.dis.length≤1048576):∃ tags:List ByteArray,tags.length≤10000000∧SP tags st:=
 ⟨st.marks.map Prod.snd,by simp;omega,⟨h.pre,⟨h.pre.marks,fun m hm=>List.mem_map_of_mem hm⟩,by omega,by have:=h.nx;omega⟩⟩
end
noncomputable section
open Classical
def goalP (p:List RlR) (g:Gl) (n:Int):Prop:=∃ u:G,g=u.gl∧u.okG∧(∀ x∈u.pre,okC p x)∧(∀ v∈gvars u,(v:Int) < n)∧∀ x∈u.pre,¬ isN x
end
noncomputable section
open Classical
theorem Con1.yes {P:Program} {g:Nat} {α:Type} {a:α→AV} {p pre:α→Prop} (h:Con1 P g α a (fun x=>bp (p x)) pre):Con1 P g α a (fun _=>bv true) (fun x=>pre x∧p x):=⟨fun x hx=>by
 have:=h.h x hx.1
 rwa [show bp (p x)=bv true from (bpT hx.2).symm] at this⟩
theorem Con1.no {P:Program} {g:Nat} {α:Type} {a:α→AV} {p pre:α→Prop} (h:Con1 P g α a (fun x=>bp (p x)) pre):Con1 P g α a (fun _=>bv false) (fun x=>pre x∧¬ p x):=⟨fun x hx=>by
 have:=h.h x hx.1
 rwa [show bp (p x)=bv false from (bpF hx.2).symm] at this⟩
theorem Con2.yes {P:Program} {g:Nat} {α β:Type} {a:α→AV} {b:β→AV} {p pre:α→β→Prop} (h:Con2 P g α β a b (fun x y=>bp (p x y)) pre):Con2 P g α β a b (fun _ _=>bv true) (fun x y=>pre x y∧p x y):=⟨fun x y hx=>by
 have:=h.h x y hx.1
 rwa [show bp (p x y)=bv true from (bpT hx.2).symm] at this⟩
theorem Con2.no {P:Program} {g:Nat} {α β:Type} {a:α→AV} {b:β→AV} {p pre:α→β→Prop} (h:Con2 P g α β a b (fun x y=>bp (p x y)) pre):Con2 P g α β a b (fun _ _=>bv false) (fun x y=>pre x y∧¬ p x y):=⟨fun x y hx=>by
 have:=h.h x y hx.1
 rwa [show bp (p x y)=bv false from (bpF hx.2).symm] at this⟩
theorem Con3.yes {P:Program} {g:Nat} {α β γ:Type} {a:α→AV} {b:β→AV} {c:γ→AV} {p pre:α→β→γ→Prop} (h:Con3 P g α β γ a b c (fun x y z=>bp (p x y z)) pre):Con3 P g α β γ a b c (fun _ _ _=>bv true) (fun x y z=>pre x y z∧p x y z):=⟨fun x y z hx=>by
 have:=h.h x y z hx.1
 rwa [show bp (p x y z)=bv true from (bpT hx.2).symm] at this⟩
theorem Con3.no {P:Program} {g:Nat} {α β γ:Type} {a:α→AV} {b:β→AV} {c:γ→AV} {p pre:α→β→γ→Prop} (h:Con3 P g α β γ a b c (fun x y z=>bp (p x y z)) pre):Con3 P g α β γ a b c (fun _ _ _=>bv false) (fun x y z=>pre x y z∧¬ p x y z):=⟨fun x y z hx=>by
 have:=h.h x y z hx.1
 rwa [show bp (p x y z)=bv false from (bpF hx.2).symm] at this⟩
end
noncomputable section
open Classical
def negR (g:Gl):Prop:=∃ u:G,g=u.gl∧∃ x∈u.pre,isN x
def fitR2 (p:List RlR) (g:Gl) (n:Int):Prop:=∃ u:G,g=u.gl∧(∀ v∈gvars u,(v:Int) < n)∧∀ x∈u.pre,okC p x
theorem negR_gl {u:G}:negR u.gl↔∃ x∈u.pre,isN x:=⟨fun ⟨_,e,h⟩=>gl_inj e▸h,fun h=>⟨u,rfl,h⟩⟩
theorem fitR2_gl {p:List RlR} {u:G} {n:Int}:fitR2 p u.gl n↔(∀ v∈gvars u,(v:Int) < n)∧∀ x∈u.pre,okC p x:=⟨fun ⟨_,e,h⟩=>gl_inj e▸h,fun h=>⟨u,rfl,h⟩⟩
theorem goalP_iff {p:List RlR} {g:Gl} {n:Int}:goalP p g n↔g.ok∧¬ negR g∧fitR2 p g n:=by
 constructor
 ·rintro ⟨u,rfl,h1,h2,h3,h4⟩
  exact ⟨okG_iff.2 ⟨u,rfl,h1⟩,fun h=>by obtain ⟨x,hx,h5⟩:=negR_gl.1 h;exact h4 x hx h5,fitR2_gl.2 ⟨h3,h2⟩⟩
 ·rintro ⟨h1,h2,h3⟩
  obtain ⟨u,rfl,hu⟩:=okG_iff.1 h1
  obtain ⟨h4,h5⟩:=fitR2_gl.1 h3
  exact ⟨u,rfl,hu,h5,h4,fun x hx h=>h2 (negR_gl.2 ⟨x,hx,h⟩)⟩
theorem ok_gvp {g:Gl} (h:g.ok):∃ u:G,g=u.gl∧GvP u:=by
 obtain ⟨u,rfl,hu⟩:=okG_iff.1 h
 exact ⟨u,rfl,hu.ok.gvp⟩
theorem negative_r:Con1 Tryz.prog 111 Gl vg (fun g=>bp (negR g)) (fun g=>∃ u:G,g=u.gl∧GvP u):=⟨fun g ⟨u,e,hu⟩=>by
 subst e
 have:=hasKind_c.h u hu
 rwa [bpC (negR_gl (u:=u)).symm] at this⟩
theorem fits_r:Con3 Tryz.prog 112 (List RlR) Gl Int vP vg iv (fun p g n=>bp (fitR2 p g n)) (fun p g _=>p.length≤1000∧∃ u:G,g=u.gl∧GvP u):=⟨fun p g n ⟨hp,u,e,hu⟩=>by
 subst e
 have p1:p.length≤1000∧GvP u:=⟨hp,hu⟩
 rw [bpC (fitR2_gl (p:=p) (u:=u) (n:=n))]
 refine pu Tryz.func112 rfl Tryz.ntmps112 rfl rfl fun C=>?_
 (repeat' first|(refine kk ?_;intros)|refine kfk ?_ ?_<;>intro hb|fail)
 all_goals first
  | exact kret (bpF fun h=>absurd h.1 (by assumption))
  | exact kret (bpC ⟨fun h=>⟨hb,h⟩,fun h=>h.2⟩)⟩
end
noncomputable section
open Classical
theorem only_r:Con2 Tryz.prog 151 Gl Bool vg bv (fun g _=>bp (¬ negR g)) (fun g b=>(∃ u:G,g=u.gl∧GvS u)∧b=false):=⟨fun g b ⟨⟨u,e,hu⟩,hb⟩=>by
 subst e
 have:=only_s.h u b ⟨hu,hb⟩
 rwa [bpC (show (∀ x∈u.pre,¬ isN x)↔¬ negR u.gl by rw [negR_gl];simp)] at this⟩
theorem fitsR_gvs {p:List RlR} {g:Gl} {n:Int} (h:fitsR p g n):∃ u:G,g=u.gl∧GvS u:=by
 obtain ⟨u,rfl,hu,_⟩:=h
 exact ⟨u,rfl,hu.ok.gvs⟩
theorem goalP_fits {p:List RlR} {g:Gl} {n:Int}:goalP p g n↔fitsR p g n∧¬ negR g:=by
 constructor
 ·rintro ⟨u,rfl,h1,h2,h3,h4⟩
  exact ⟨⟨u,rfl,h1,h2,h3⟩,fun h=>by obtain ⟨x,hx,h5⟩:=negR_gl.1 h;exact h4 x hx h5⟩
 ·rintro ⟨⟨u,rfl,h1,h2,h3⟩,h⟩
  exact ⟨u,rfl,h1,h2,h3,fun x hx h5=>h (negR_gl.2 ⟨x,hx,h5⟩)⟩
instance goal_s:Con3 Tryz.prog 103 (List RlR) Gl Int vP vg iv (fun p g n=>bp (goalP p g n)) (fun p g _=>p.length≤1000∧g.In):=⟨fun p g n ⟨hp,hin⟩=>by
 haveI:=only_r
 have p1:p.length≤1000∧g.In:=⟨hp,hin⟩
 refine pu Tryz.func103 rfl Tryz.ntmps103 rfl rfl fun C=>?_
 by_cases h:fitsR p g n
 ·have p2:(∃ u:G,g=u.gl∧GvS u)∧false=false:=⟨fitsR_gvs h,rfl⟩
  (repeat' first|(refine kk ?_;intros)|refine kfk ?_ ?_<;>intro hb|fail)
  all_goals first
   | exact kret (bpC ⟨fun w=>goalP_fits.2 ⟨h,w⟩,fun w=>(goalP_fits.1 w).2⟩)
   | exact absurd h (by assumption)
 ·(repeat' first|(refine kk ?_;intros)|refine kfk ?_ ?_<;>intro hb|fail)
  all_goals first
   | exact kret (bpF fun w=>h (goalP_fits.1 w).1)
   | exact absurd (by assumption) h⟩
end
section
open Go Go.RowKit Go.Joins Go.ChangeShapes Go.Deep
noncomputable section
section
variable {H:Type} {enc:TypeId × Value→H} {P:Program} {w:World} {spare:Nat→Bool} {held:Bool}
def Rdg (enc:TypeId × Value→H) (P:Program) (w:World) (spare:Nat→Bool) (held:Bool) (T:TypeId) {α:Type} (e:α→List D) (ok:α→Prop):Prop:=
 ∀ n cs x,DataW.trod enc P w 0 spare held n T cs=some x→∃ a,rdC NoM w (e a) cs∧ok a
theorem Rdg.mono {T:TypeId} {α β:Type} {e:α→List D} {e':β→List D} {k:α→Prop} {k':β→Prop} (h:Rdg enc P w spare held T e k) (f:α→β) (he:∀ a,e a=e' (f a)) (hk:∀ a,k a→k' (f a)):Rdg enc P w spare held T e' k':=fun n cs x hx=>by
 obtain ⟨a,h1,h2⟩:=h n cs x hx
 exact ⟨f a,he a▸h1,hk a h2⟩
end
section
variable {H:Type} {enc:TypeId × Value→H} {w:World}
abbrev OpA (enc:TypeId × Value→H) (w:World) (T:TypeId) {α:Type} (e:α→List D) (ok:α→Prop):Prop:=Rdg enc Tryz.prog w (fun _=>true) true T e ok
theorem opn_term:OpA enc w 168 encT Tm.In0:=fun n cs x h=>open_tm Tryz.underlying168 (by kernel_rfl) (by kernel_rfl) Tryz.underlying3 Tryz.underlying3 Tryz.underlying9 Tryz.underlying34 n cs x h
theorem opn_goal:OpA enc w 37 encG Gl.In0:=fun n cs x h=>open_gl Tryz.underlying37 (by kernel_rfl) (by kernel_rfl) (by kernel_rfl) Tryz.underlying3 Tryz.underlying9 Tryz.underlying34 Tryz.underlying35 (fun n cs x h=>opn_term n cs x h) n cs x h
theorem opn_agg {T:TypeId} {fs:Array Field} {α:Type} {e:α→List D} {ok:α→Prop} (hs:Tryz.prog.underlying T=some (.struct fs)) (h:OpA enc w T e ok) {r:Reach} {b0:Nat} {v:Value} {d:DataW H} {p:List MemPlace} (hv:Value.okWide Tryz.prog w r b0 T v)
 (ht:DataW.Trod enc Tryz.prog w 0 (fun _=>true) true T v d p):∃ a,(AV.agg (e a)).rd NoM w v∧ok a:=by
 obtain ⟨cs,rfl,hsz⟩:=Go.WideShapes.okWide_struct hs hv
 obtain ⟨fuel,hf⟩:=ht
 obtain ⟨q,hq,hin⟩:=h _ _ _ hf
 exact ⟨q,⟨cs.toList,by simp,by simpa [Value.cells] using hq⟩,hin⟩
end
end
end
end Go.Proofs.YtejkllmoofdpjaaGreat
