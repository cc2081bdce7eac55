/- Small functions: l01In, markText. -/
import Derived.Test.YtjkabbkaeioibaaRows
import Derived.Test.YtjkabbkaeioibaaText
import Derived.Test.YtjkabbkaeioibaaTerm
namespace Go.Proofs.Ytjkabbkaeioibaa
open Go.RowKit

set_option maxHeartbeats 400000 in
theorem l01In_true (n lo hi : Int) (w : World) (h1 : lo ≤ n) (h2 : n ≤ hi) : Calls Try.prog 47 #[.int .i64 n, .int .i64 lo, .int .i64 hi] w fun e w' => e = .returned (.bool true) ∧ w = w' := by
  go_enter Try.func47, Try.ntmps47
  go_wp2
  go_ret
  exact ⟨rfl, rfl⟩
set_option maxHeartbeats 400000 in
theorem l01In_false (n lo hi : Int) (w : World) (h : n < lo ∨ hi < n) : Calls Try.prog 47 #[.int .i64 n, .int .i64 lo, .int .i64 hi] w fun e w' => e = .returned (.bool false) ∧ w = w' := by
  by_cases h1 : n < lo
  · clear h
    go_enter Try.func47, Try.ntmps47
    go_wp2
    go_ret
    exact ⟨rfl, rfl⟩
  · have h2 : decide (n ≤ hi) = false := by simp; omega
    clear h
    go_enter Try.func47, Try.ntmps47
    go_wp2
    go_ret
    exact ⟨rfl, rfl⟩

/-- the text that marks a place -/
def markGo (k : Nat) (out : ByteArray) : ByteArray := if _h : k = 0 then out else markGo (k / 10) (⟨#[UInt8.ofNat (48 + k % 10)]⟩ ++ out)
termination_by k
decreasing_by omega
def markTx (k : Nat) : ByteArray := ⟨#[109]⟩ ++ markGo k ByteArray.empty
theorem markGo_pos {k : Nat} (h : 0 < k) (out : ByteArray) : markGo k out = markGo (k / 10) (⟨#[UInt8.ofNat (48 + k % 10)]⟩ ++ out) := by
  rw [markGo]; simp [show k ≠ 0 by omega]
theorem markGo_zero (out : ByteArray) : markGo 0 out = out := by rw [markGo]; simp

set_option maxHeartbeats 400000 in
set_option maxRecDepth 100000 in
theorem markText_any (k : Nat) (w : World) (h0 : 0 < k) (hk : k ≤ 1000000000000) : Calls Try.prog 75 #[.int .i64 k] w fun e w' => e = .returned (.string (markTx k)) ∧ Below w.heap.size w w' := by
  have kc : ∀ (W : World) (b : Nat) (n : Int), W.cell? ⟨b, 0, none⟩ = some (.int .u8 n) → (convert 36 9 (.slice (some ⟨b, 0, none⟩) 1 1)).run Try.prog W = .ok (.string ⟨#[UInt8.ofNat n.toNat]⟩) W := fun W b n h => conv_one h
  have KC := Lib.hid kc; clear kc
  go_enter Try.func75, Try.ntmps75
  go_wp2
  go_loopw [0, 3] (fun kv v wr => ∃ (j : Nat) (out : ByteArray), kv = .int .i64 j ∧ v = .string out ∧ markGo k ByteArray.empty = markGo j out ∧ out.size + j ≤ k ∧ Below w.heap.size w wr) (fun kv _ _ => (intOf kv).toNat)
  case atStart => exact ⟨k, ByteArray.empty, rfl, rfl, rfl, by simp, Below.refl _ _⟩
  case round =>
    obtain ⟨j, out, rfl, rfl, hm, hsz, hbel⟩ := hrel
    have HM := Lib.hid hm; clear hm
    by_cases hj : 0 < j
    · have kc : ∀ (W : World) (b : Nat), W.cell? ⟨b, 0, none⟩ = some (.int .u8 (48 + (j : Int) % 10)) → (convert 36 9 (.slice (some ⟨b, 0, none⟩) 1 1)).run Try.prog W = .ok (.string ⟨#[UInt8.ofNat (48 + (j : Int) % 10).toNat]⟩) W := fun W b h => KC.out W b _ h
      have hsz1 : (⟨#[UInt8.ofNat (48 + (j : Int) % 10).toNat]⟩ : ByteArray).size = 1 := rfl
      have he : (⟨#[UInt8.ofNat (48 + (j : Int) % 10).toNat]⟩ : ByteArray) = ⟨#[UInt8.ofNat (48 + j % 10)]⟩ := by
        rw [show (48 + (j : Int) % 10).toNat = 48 + j % 10 by omega]
      generalize (⟨#[UInt8.ofNat (48 + (j : Int) % 10).toNat]⟩ : ByteArray) = x at *
      have HE := Lib.hid he; clear he
      have hsz2 : x.size ≤ 1 := by omega
      clear hsz1
      go_wp2
      go_roundw
      case rel =>
        refine ⟨j / 10, x ++ out, by go_num, rfl, ?_, ?_, hbel.alloc hbel.size _⟩
        · rw [HM.out, markGo_pos hj, HE.out]
        · simp only [ByteArray.size_append]; omega
      case measure => simp [intOf]; omega
    · obtain rfl : j = 0 := by omega
      go_wp2
      go_ret
      refine ⟨?_, hbel⟩
      have e : markGo k ByteArray.empty = out := by rw [HM.out, markGo_zero]
      simp only [markTx, e]
      rfl
end Go.Proofs.Ytjkabbkaeioibaa
