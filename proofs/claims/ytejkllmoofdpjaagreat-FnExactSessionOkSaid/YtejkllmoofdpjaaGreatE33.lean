/- Parts of the proof: V74 VP7. -/
import Derived.Test.YtejkllmoofdpjaaGreatE31
namespace Go.Proofs.YtejkllmoofdpjaaGreat
open Go
set_option linter.all false
set_option maxRecDepth 100000
set_option maxHeartbeats 4000000
noncomputable section
open Classical
theorem settle_SP {tags : List ByteArray} {st st' : Stt} (h : SP tags st) (e : settleF st = some st') : SP tags st' ∧ st'.next = st.next ∧ st'.dis.length ≤ 30 := by
 obtain ⟨h1, h2, h3⟩ := settle_pre h.pre e
 unfold settleF at e
 split at e
 ·rename_i ks ms hk hm
  split at e
  ·cases e
  ·rename_i left hl
   split at e
   ·cases e
   ·cases e
    have hd : (minF left).length ≤ 30 := by omega
    exact ⟨⟨h1, (MB.marks h.pre.bind.fit .nil (fun b hb => ⟨h.mrk.ok.ok b hb, h.mrk.tg b hb⟩) hm).filter, by simp only; omega, h.nx⟩, rfl, hd⟩
 ·cases e
end
end Go.Proofs.YtejkllmoofdpjaaGreat
