/- Contracts of spec.Join (the strings of a slice joined by a separator) and of the two texts. -/
import Derived.Test.YtjkabbkaeioibaaRows
import Derived.WalkKit
import Derived.WalkSpells
import Derived.WalkLawsBesides
import Derived.Lib.Hide
namespace Go.Proofs.Ytjkabbkaeioibaa
open Go.RowKit

/-- the strings joined by a separator, the first m of them -/
def joinTo (ss : List ByteArray) (by_ : ByteArray) : Nat → ByteArray
  | 0 => ByteArray.empty
  | m + 1 => (if 0 < m then joinTo ss by_ m ++ by_ else joinTo ss by_ m) ++ ss.getD m ByteArray.empty

def joinLen (ss : List ByteArray) (by_ : ByteArray) : Nat → Nat
  | 0 => 0
  | m + 1 => joinLen ss by_ m + by_.size + (ss.getD m ByteArray.empty).size

/-- the same on lists of bytes -/
def joinL (ss : List ByteArray) (by_ : List UInt8) : Nat → List UInt8
  | 0 => []
  | m + 1 => (if 0 < m then joinL ss by_ m ++ by_ else joinL ss by_ m) ++ (ss.getD m ByteArray.empty).data.toList
theorem ba_append (x y : ByteArray) : (x ++ y).data.toList = x.data.toList ++ y.data.toList := by simp
theorem joinTo_data (ss : List ByteArray) (by_ : ByteArray) (m : Nat) : (joinTo ss by_ m).data.toList = joinL ss by_.data.toList m := by
  induction m with
  | zero => rfl
  | succ m ih =>
    simp only [joinTo, joinL]
    split <;> simp only [ba_append, ih]
theorem ba_of_list {x : ByteArray} {l : List UInt8} (h : x.data.toList = l) : x = ⟨l.toArray⟩ := by
  cases x; subst h; simp
theorem joinTo_of {ss : List ByteArray} {by_ : ByteArray} {m : Nat} {l : List UInt8} (h : joinL ss by_.data.toList m = l) : joinTo ss by_ m = ⟨l.toArray⟩ :=
  ba_of_list (by rw [joinTo_data, h])

theorem joinTo_size (ss : List ByteArray) (by_ : ByteArray) (m : Nat) : (joinTo ss by_ m).size ≤ joinLen ss by_ m := by
  induction m with
  | zero => simp [joinTo, joinLen]
  | succ m ih =>
    simp only [joinTo, joinLen]
    split <;> simp only [ByteArray.size_append] <;> omega
theorem joinLen_mono (ss : List ByteArray) (by_ : ByteArray) (m k : Nat) : joinLen ss by_ m ≤ joinLen ss by_ (m + k) := by
  induction k with
  | zero => simp
  | succ k ih => rw [← Nat.add_assoc]; simp only [joinLen]; omega

set_option maxHeartbeats 400000 in
theorem join_any (b off n cap : Nat) (ss : List ByteArray) (by_ : ByteArray) (w : World) (hsz : joinLen ss by_ n ≤ 1000000)
    (hc : ∀ i, i < n → w.cell? ⟨b, off + i, none⟩ = some (.string (ss.getD i ByteArray.empty))) (hlt : n ≤ 1000) :
    Calls Try.prog 45 #[.slice (some ⟨b, off, none⟩) n cap, .string by_] w fun e w' => e = .returned (.string (joinTo ss by_ n)) ∧ w = w' := by
  go_enter Try.func45, Try.ntmps45
  go_wp2
  go_loop [5, 10] (fun s i => ∃ k : Nat, k ≤ n ∧ i = .int .i64 k ∧ s = .string (joinTo ss by_ k)) (fun _ i => n - (intOf i).toNat)
  case atStart => exact ⟨0, Nat.zero_le _, rfl, rfl⟩
  case round =>
    obtain ⟨k, hk, rfl, rfl⟩ := hrel
    by_cases hlt2 : k < n
    · have hck := hc k hlt2
      clear hc
      have hs := joinTo_size ss by_ k
      have hm := joinLen_mono ss by_ (k+1) (n - (k+1))
      rw [show k + 1 + (n - (k+1)) = n by omega] at hm
      simp only [joinLen] at hm
      have hjs : Hid (joinTo ss by_ (k + 1) = (if 0 < k then joinTo ss by_ k ++ by_ else joinTo ss by_ k) ++ ss.getD k ByteArray.empty) := rfl
      generalize joinTo ss by_ k = s at *
      generalize ss.getD k ByteArray.empty = x at *
      by_cases h0 : 0 < k
      · go_wp2
        go_round
        case rel => exact ⟨k + 1, by omega, by go_num, by rw [hjs.out, if_pos h0]⟩
        case measure => simp [intOf]; omega
      · go_wp2
        go_round
        case rel => exact ⟨k + 1, by omega, by go_num, by rw [hjs.out, if_neg h0]⟩
        case measure => simp [intOf]; omega
    · have : k = n := by omega
      subst this
      clear hc
      go_wp2
      go_ret
      exact ⟨rfl, rfl⟩


/-- string([]byte{n}): one byte -/
theorem conv_one {w : World} {b : Nat} {n : Int} (h : w.cell? ⟨b, 0, none⟩ = some (.int .u8 n)) :
    (convert 36 9 (.slice (some ⟨b, 0, none⟩) 1 1)).run Try.prog w = .ok (.string ⟨#[UInt8.ofNat n.toNat]⟩) w := by
  rw [run_convert_bytes_string w 36 9 5 _ _ _ Try.underlying36 Try.underlying5 Try.underlying9]
  rw [run_bytesToString w ⟨b, 0, none⟩ 1 1 [n] (by simp [loadCells, loadCellsFrom, load, Addr.add, Sem.run, h, go_sem])]
  rfl

/-- the text of the relational interpreter, in bytes -/
def lispBytes : List UInt8 := [40, 100, 101, 102, 105, 110, 101, 32, 40, 108, 111, 111, 107, 117, 112, 32, 63, 120, 32, 63, 101, 110, 118, 32, 63, 118, 41, 32, 40, 97, 110, 100, 32, 40, 61, 32, 63, 101, 110, 118, 32, 40, 40, 63, 121, 32, 46, 32, 63, 119, 41, 32, 46, 32, 63, 114, 41, 41, 32, 40, 111, 114, 32, 40, 97, 110, 100, 32, 40, 61, 32, 63, 120, 32, 63, 121, 41, 32, 40, 61, 32, 63, 118, 32, 63, 119, 41, 41, 32, 40, 97, 110, 100, 32, 40, 47, 61, 32, 63, 120, 32, 63, 121, 41, 32, 40, 108, 111, 111, 107, 117, 112, 32, 63, 120, 32, 63, 114, 32, 63, 118, 41, 41, 41, 41, 41, 10, 40, 100, 101, 102, 105, 110, 101, 32, 40, 101, 118, 97, 108, 32, 63, 101, 32, 63, 101, 110, 118, 32, 63, 118, 41, 32, 40, 111, 114, 32, 40, 97, 110, 100, 32, 40, 115, 121, 109, 98, 111, 108, 32, 63, 101, 41, 32, 40, 108, 111, 111, 107, 117, 112, 32, 63, 101, 32, 63, 101, 110, 118, 32, 63, 118, 41, 41, 32, 40, 97, 110, 100, 32, 40, 61, 32, 63, 101, 32, 40, 113, 117, 111, 116, 101, 32, 63, 118, 41, 41, 32, 40, 97, 98, 115, 101, 110, 116, 32, 99, 108, 111, 115, 117, 114, 101, 32, 63, 118, 41, 41, 32, 40, 97, 110, 100, 32, 40, 61, 32, 63, 101, 32, 40, 108, 97, 109, 98, 100, 97, 32, 40, 63, 120, 41, 32, 63, 98, 41, 41, 32, 40, 115, 121, 109, 98, 111, 108, 32, 63, 120, 41, 32, 40, 61, 32, 63, 118, 32, 40, 99, 108, 111, 115, 117, 114, 101, 32, 63, 120, 32, 63, 98, 32, 63, 101, 110, 118, 41, 41, 41, 32, 40, 97, 110, 100, 32, 40, 61, 32, 63, 101, 32, 40, 99, 111, 110, 115, 32, 63, 102, 32, 63, 97, 41, 41, 32, 40, 61, 32, 63, 118, 32, 40, 63, 112, 32, 46, 32, 63, 113, 41, 41, 32, 40, 101, 118, 97, 108, 32, 63, 102, 32, 63, 101, 110, 118, 32, 63, 112, 41, 32, 40, 101, 118, 97, 108, 32, 63, 97, 32, 63, 101, 110, 118, 32, 63, 113, 41, 41, 32, 40, 97, 110, 100, 32, 40, 61, 32, 63, 101, 32, 40, 99, 97, 114, 32, 63, 97, 41, 41, 32, 40, 101, 118, 97, 108, 32, 63, 97, 32, 63, 101, 110, 118, 32, 40, 63, 118, 32, 46, 32, 63, 113, 41, 41, 41, 32, 40, 97, 110, 100, 32, 40, 61, 32, 63, 101, 32, 40, 99, 100, 114, 32, 63, 97, 41, 41, 32, 40, 101, 118, 97, 108, 32, 63, 97, 32, 63, 101, 110, 118, 32, 40, 63, 112, 32, 46, 32, 63, 118, 41, 41, 41, 32, 40, 97, 110, 100, 32, 40, 61, 32, 63, 101, 32, 40, 105, 102, 32, 63, 102, 32, 63, 97, 32, 63, 98, 41, 41, 32, 40, 101, 118, 97, 108, 32, 63, 102, 32, 63, 101, 110, 118, 32, 63, 112, 41, 32, 40, 111, 114, 32, 40, 97, 110, 100, 32, 40, 47, 61, 32, 63, 112, 32, 40, 41, 41, 32, 40, 101, 118, 97, 108, 32, 63, 97, 32, 63, 101, 110, 118, 32, 63, 118, 41, 41, 32, 40, 97, 110, 100, 32, 40, 61, 32, 63, 112, 32, 40, 41, 41, 32, 40, 101, 118, 97, 108, 32, 63, 98, 32, 63, 101, 110, 118, 32, 63, 118, 41, 41, 41, 41, 32, 40, 97, 110, 100, 32, 40, 61, 32, 63, 101, 32, 40, 63, 102, 32, 63, 97, 41, 41, 32, 40, 47, 61, 32, 63, 102, 32, 113, 117, 111, 116, 101, 41, 32, 40, 47, 61, 32, 63, 102, 32, 99, 97, 114, 41, 32, 40, 47, 61, 32, 63, 102, 32, 99, 100, 114, 41, 32, 40, 101, 118, 97, 108, 32, 63, 102, 32, 63, 101, 110, 118, 32, 40, 99, 108, 111, 115, 117, 114, 101, 32, 63, 120, 32, 63, 98, 32, 63, 112, 41, 41, 32, 40, 101, 118, 97, 108, 32, 63, 97, 32, 63, 101, 110, 118, 32, 63, 113, 41, 32, 40, 101, 118, 97, 108, 32, 63, 98, 32, 40, 40, 63, 120, 32, 46, 32, 63, 113, 41, 32, 46, 32, 63, 112, 41, 32, 63, 118, 41, 41, 41, 41, 10]

set_option maxHeartbeats 400000 in
set_option maxRecDepth 100000 in
theorem lispText_impl (w : World) : Calls Try.prog 15 #[] w fun e w' => e = .returned (.string ⟨lispBytes.toArray⟩) ∧ w = w' := by
  go_enter Try.func15, Try.ntmps15
  go_wp2
  go_ret
  exact ⟨congrArg (fun l : List UInt8 => Ending.returned (Value.string ⟨l.toArray⟩)) (by decide +kernel), rfl⟩

def lispParts : List ByteArray := [⟨#[40, 100, 101, 102, 105, 110, 101, 32, 40, 108, 111, 111, 107, 117, 112, 32, 63, 120, 32, 63, 101, 110, 118, 32, 63, 118, 41, 32, 40, 97, 110, 100, 32, 40, 61, 32, 63, 101, 110, 118, 32, 40, 40, 63, 121, 32, 46, 32, 63, 119, 41, 32, 46, 32, 63, 114, 41, 41, 32, 40, 111, 114, 32, 40, 97, 110, 100, 32, 40, 61, 32, 63, 120, 32, 63, 121, 41, 32, 40, 61, 32, 63, 118, 32, 63, 119, 41, 41, 32, 40, 97, 110, 100, 32, 40, 47, 61, 32, 63, 120, 32, 63, 121, 41, 32, 40, 108, 111, 111, 107, 117, 112, 32, 63, 120, 32, 63, 114, 32, 63, 118, 41, 41, 41, 41, 41]⟩, ⟨#[40, 100, 101, 102, 105, 110, 101, 32, 40, 101, 118, 97, 108, 32, 63, 101, 32, 63, 101, 110, 118, 32, 63, 118, 41, 32, 40, 111, 114, 32, 40, 97, 110, 100, 32, 40, 115, 121, 109, 98, 111, 108, 32, 63, 101, 41, 32, 40, 108, 111, 111, 107, 117, 112, 32, 63, 101, 32, 63, 101, 110, 118, 32, 63, 118, 41, 41, 32, 40, 97, 110, 100, 32, 40, 61, 32, 63, 101, 32, 40, 113, 117, 111, 116, 101, 32, 63, 118, 41, 41, 32, 40, 97, 98, 115, 101, 110, 116, 32, 99, 108, 111, 115, 117, 114, 101, 32, 63, 118, 41, 41, 32, 40, 97, 110, 100, 32, 40, 61, 32, 63, 101, 32, 40, 108, 97, 109, 98, 100, 97, 32, 40, 63, 120, 41, 32, 63, 98, 41, 41, 32, 40, 115, 121, 109, 98, 111, 108, 32, 63, 120, 41, 32, 40, 61, 32, 63, 118, 32, 40, 99, 108, 111, 115, 117, 114, 101, 32, 63, 120, 32, 63, 98, 32, 63, 101, 110, 118, 41, 41, 41, 32, 40, 97, 110, 100, 32, 40, 61, 32, 63, 101, 32, 40, 99, 111, 110, 115, 32, 63, 102, 32, 63, 97, 41, 41, 32, 40, 61, 32, 63, 118, 32, 40, 63, 112, 32, 46, 32, 63, 113, 41, 41, 32, 40, 101, 118, 97, 108, 32, 63, 102, 32, 63, 101, 110, 118, 32, 63, 112, 41, 32, 40, 101, 118, 97, 108, 32, 63, 97, 32, 63, 101, 110, 118, 32, 63, 113, 41, 41, 32, 40, 97, 110, 100, 32, 40, 61, 32, 63, 101, 32, 40, 99, 97, 114, 32, 63, 97, 41, 41, 32, 40, 101, 118, 97, 108, 32, 63, 97, 32, 63, 101, 110, 118, 32, 40, 63, 118, 32, 46, 32, 63, 113, 41, 41, 41, 32, 40, 97, 110, 100, 32, 40, 61, 32, 63, 101, 32, 40, 99, 100, 114, 32, 63, 97, 41, 41, 32, 40, 101, 118, 97, 108, 32, 63, 97, 32, 63, 101, 110, 118, 32, 40, 63, 112, 32, 46, 32, 63, 118, 41, 41, 41, 32, 40, 97, 110, 100, 32, 40, 61, 32, 63, 101, 32, 40, 105, 102, 32, 63, 102, 32, 63, 97, 32, 63, 98, 41, 41, 32, 40, 101, 118, 97, 108, 32, 63, 102, 32, 63, 101, 110, 118, 32, 63, 112, 41, 32, 40, 111, 114, 32, 40, 97, 110, 100, 32, 40, 47, 61, 32, 63, 112, 32, 40, 41, 41, 32, 40, 101, 118, 97, 108, 32, 63, 97, 32, 63, 101, 110, 118, 32, 63, 118, 41, 41, 32, 40, 97, 110, 100, 32, 40, 61, 32, 63, 112, 32, 40, 41, 41, 32, 40, 101, 118, 97, 108, 32, 63, 98, 32, 63, 101, 110, 118, 32, 63, 118, 41, 41, 41, 41, 32, 40, 97, 110, 100, 32, 40, 61, 32, 63, 101, 32, 40, 63, 102, 32, 63, 97, 41, 41, 32, 40, 47, 61, 32, 63, 102, 32, 113, 117, 111, 116, 101, 41, 32, 40, 47, 61, 32, 63, 102, 32, 99, 97, 114, 41, 32, 40, 47, 61, 32, 63, 102, 32, 99, 100, 114, 41, 32, 40, 101, 118, 97, 108, 32, 63, 102, 32, 63, 101, 110, 118, 32, 40, 99, 108, 111, 115, 117, 114, 101, 32, 63, 120, 32, 63, 98, 32, 63, 112, 41, 41, 32, 40, 101, 118, 97, 108, 32, 63, 97, 32, 63, 101, 110, 118, 32, 63, 113, 41, 32, 40, 101, 118, 97, 108, 32, 63, 98, 32, 40, 40, 63, 120, 32, 46, 32, 63, 113, 41, 32, 46, 32, 63, 112, 41, 32, 63, 118, 41, 41, 41, 41]⟩, ⟨#[]⟩]
theorem lisp_joined : joinTo lispParts ⟨#[10]⟩ 3 = ⟨lispBytes.toArray⟩ := joinTo_of (by decide +kernel)
theorem lisp_len : joinLen lispParts ⟨#[10]⟩ 3 ≤ 1000000 := by decide +kernel

set_option maxHeartbeats 400000 in
set_option maxRecDepth 100000 in
theorem lispText_spec (w : World) : Calls Try.prog 14 #[] w fun e w' => e = .returned (.string ⟨lispBytes.toArray⟩) ∧ Below w.heap.size w w' := by
  have kc : ∀ (W : World) (b : Nat), W.cell? ⟨b, 0, none⟩ = some (.int .u8 10) → (convert 36 9 (.slice (some ⟨b, 0, none⟩) 1 1)).run Try.prog W = .ok (.string ⟨#[10]⟩) W := fun W b h => conv_one h
  go_enter Try.func14, Try.ntmps14
  go_wp2_with fail
  refine (join_any w.heap.size 0 3 3 lispParts ⟨#[10]⟩ _ lisp_len ?_ (by omega)).mono ?_
  · intro i hi
    match i, hi with
    | 0, _ => simp [go_sem]; rfl
    | 1, _ => simp [go_sem]; rfl
    | 2, _ => simp [go_sem]; rfl
  · rintro e w' ⟨rfl, rfl⟩
    go_wp2
    go_ret
    exact ⟨by rw [lisp_joined]; rfl, ((Below.refl _ _).alloc (Nat.le_refl _) _).alloc (by simp) _⟩

end Go.Proofs.Ytjkabbkaeioibaa
