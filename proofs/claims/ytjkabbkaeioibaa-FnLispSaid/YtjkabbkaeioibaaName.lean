/- Contracts of IsName, the program's and the reference's. -/
import Derived.Test.YtjkabbkaeioibaaSmall
import Derived.BigQuiet
namespace Go.Proofs.Ytjkabbkaeioibaa
open Go.RowKit

def lowB (c : Nat) : Bool := decide (97 ≤ c) && decide (c ≤ 122)
def chB (c : Nat) : Bool := lowB c || (decide (48 ≤ c) && decide (c ≤ 57)) || c == 45
/-- a name: 1 to 12 bytes, a small letter first, then small letters, digits, dashes -/
def nameB (s : ByteArray) : Bool := decide (1 ≤ s.size) && decide (s.size ≤ 12) && lowB (s.data.toList.getD 0 0).toNat && (s.data.toList.drop 1).all fun c => chB c.toNat

set_option maxHeartbeats 1000000 in
set_option maxRecDepth 100000 in
theorem isName_impl (s : ByteArray) (w : World) (hs : s.size ≤ 1000000000000) : Calls Try.prog 87 #[.string s] w fun e w' => e = .returned (.bool (nameB s)) ∧ w = w' := by
  by_cases h1 : s.size < 1
  · have e1 : Hid (nameB s = false) := by simp [Hid, nameB]; omega
    go_enter Try.func87, Try.ntmps87
    go_wp2
    go_ret
    exact ⟨by rw [e1.out]; rfl, rfl⟩
  · by_cases h2 : 12 < s.size
    · have e1 : Hid (nameB s = false) := by simp [Hid, nameB]; omega
      go_enter Try.func87, Try.ntmps87
      go_wp2
      go_ret
      exact ⟨by rw [e1.out]; rfl, rfl⟩
    · have h0 : 0 < s.size := by omega
      have hg0 : (s.data.toList.getD 0 0) = s[0] := by
        simp [List.getD, h0]; rfl
      by_cases hc : lowB s[0].toNat = true
      · have ⟨hc1, hc2⟩ : 97 ≤ s[0].toNat ∧ s[0].toNat ≤ 122 := by simpa [lowB] using hc
        have hc1' : (97 : Int) ≤ (s[0].toNat : Int) := by omega
        have hc2' : (s[0].toNat : Int) ≤ 122 := by omega
        have HN : Hid (nameB s = (s.data.toList.drop 1).all fun c => chB c.toNat) := by
          simp only [Hid, nameB, hg0, hc]
          simp [show 1 ≤ s.size by omega, show s.size ≤ 12 by omega]
        have d1 : decide ((s.size : Int) < 1) = false := by simp; omega
        have d2 : decide (12 < (s.size : Int)) = false := by simp; omega
        clear hc hc1 hc2 hg0
        go_enter Try.func87, Try.ntmps87
        go_wp2
        go_loop [3] (fun i => ∃ k : Nat, 1 ≤ k ∧ k ≤ s.size ∧ i = .int .i64 k ∧ Hid (∀ j, 1 ≤ j → j < k → chB (s.data.toList.getD j 0).toNat = true)) (fun i => s.size - (intOf i).toNat)
        case atStart => exact ⟨1, by omega, by omega, rfl, fun j h h' => by omega⟩
        case round =>
          obtain ⟨k, hk1, hk, rfl, HJ⟩ := hrel
          by_cases hlt : k < s.size
          · have hgk : s.data.toList.getD k 0 = s[k] := by simp [List.getD, hlt]; rfl
            have good : chB s[k].toNat = true → Hid (∀ j, 1 ≤ j → j < k + 1 → chB (s.data.toList.getD j 0).toNat = true) := by
              intro hg j h h'
              rcases Nat.lt_or_ge j k with hjk | hjk
              · exact HJ.out j h hjk
              · obtain rfl : j = k := by omega
                rw [hgk]; exact hg
            have GOOD := Lib.hid good
            have bad : chB s[k].toNat = false → Hid (nameB s = false) := by
              intro hb
              show nameB s = false
              rw [HN.out, List.all_eq_false]
              refine ⟨s[k], ?_, by simp [hb]⟩
              rw [← hgk]
              rw [List.mem_drop_iff_getElem]
              refine ⟨k - 1, by simp; omega, ?_⟩
              simp [List.getD, show 1 + (k - 1) = k by omega, hlt]
            have BAD := Lib.hid bad
            clear good bad hgk
            have hcases : (97 ≤ s[k].toNat ∧ s[k].toNat ≤ 122) ∨ (48 ≤ s[k].toNat ∧ s[k].toNat ≤ 57) ∨ s[k].toNat = 45 ∨ 122 < s[k].toNat ∨ (57 < s[k].toNat ∧ s[k].toNat < 97) ∨ (s[k].toNat < 48 ∧ s[k].toNat ≠ 45) := by omega
            rcases hcases with hx | hx | hx | hx | hx | hx
            · have hx1 : (97 : Int) ≤ (s[k].toNat : Int) := by omega
              have hx2 : (s[k].toNat : Int) ≤ 122 := by omega
              have HG := GOOD.out (by simp [chB, lowB, hx])
              clear hx
              go_wp2
              go_round
              case rel => exact ⟨k + 1, by omega, by omega, by go_num, HG⟩
              case measure => simp [intOf]; omega
            · have hx1 : (48 : Int) ≤ (s[k].toNat : Int) := by omega
              have hx2 : (s[k].toNat : Int) ≤ 57 := by omega
              have HG := GOOD.out (by simp [chB, hx])
              clear hx
              go_wp2
              go_round
              case rel => exact ⟨k + 1, by omega, by omega, by go_num, HG⟩
              case measure => simp [intOf]; omega
            · have hx1 : (s[k].toNat : Int) < 48 := by omega
              have hx2 : ((s[k].toNat : Int) == 45) = true := by simp; omega
              have HG := GOOD.out (by simp [chB, hx])
              clear hx
              go_wp2
              go_round
              case rel => exact ⟨k + 1, by omega, by omega, by go_num, HG⟩
              case measure => simp [intOf]; omega
            · have hx1 : (122 : Int) < (s[k].toNat : Int) := by omega
              have d3 : decide ((s[k].toNat : Int) ≤ 122) = false := by simp; omega
              have d4 : decide ((s[k].toNat : Int) ≤ 57) = false := by simp; omega
              have hx2 : ((s[k].toNat : Int) == 45) = false := by simp; omega
              have HB := BAD.out (by simp [chB, lowB]; omega)
              clear hx
              go_wp2
              go_ret
              exact ⟨by rw [HB.out]; rfl, rfl⟩
            · have hx1 : (57 : Int) < (s[k].toNat : Int) := by omega
              have hx3 : (s[k].toNat : Int) < 97 := by omega
              have d4 : decide ((s[k].toNat : Int) ≤ 57) = false := by simp; omega
              have hx2 : ((s[k].toNat : Int) == 45) = false := by simp; omega
              have HB := BAD.out (by simp [chB, lowB]; omega)
              clear hx
              go_wp2
              go_ret
              exact ⟨by rw [HB.out]; rfl, rfl⟩
            · have hx1 : (s[k].toNat : Int) < 48 := by omega
              have hx2 : ((s[k].toNat : Int) == 45) = false := by simp; omega
              have HB := BAD.out (by simp [chB, lowB]; omega)
              clear hx
              go_wp2
              go_ret
              exact ⟨by rw [HB.out]; rfl, rfl⟩
          · obtain rfl : k = s.size := by omega
            have fin : Hid (nameB s = true) := by
              show nameB s = true
              rw [HN.out, List.all_eq_true]
              intro c hm
              obtain ⟨j, hj, rfl⟩ := List.mem_drop_iff_getElem.1 hm
              have hj' : j + 1 < s.data.toList.length := hj
              have hsz : s.data.toList.length = s.size := by simp
              have h3 := HJ.out (1 + j) (by omega) (by omega)
              have h4 : s.data.toList.getD (1 + j) 0 = s.data.toList[1 + j]'(by omega) := by
                simp only [List.getD, List.getElem?_eq_getElem (show 1 + j < s.data.toList.length by omega), Option.getD_some]
              rw [h4] at h3
              simpa [Nat.add_comm] using h3
            go_wp2
            go_ret
            exact ⟨by rw [fin.out]; rfl, rfl⟩
      · have HN : Hid (nameB s = false) := by
          show nameB s = false
          simp only [nameB, hg0]
          simp at hc
          simp [hc]
        have hor : s[0].toNat < 97 ∨ 122 < s[0].toNat := by
          simp [lowB] at hc; omega
        have d1 : decide ((s.size : Int) < 1) = false := by simp; omega
        have d2 : decide (12 < (s.size : Int)) = false := by simp; omega
        clear hg0 hc
        rcases hor with hx | hx
        · have hx1 : (s[0].toNat : Int) < 97 := by omega
          clear hx
          go_enter Try.func87, Try.ntmps87
          go_wp2
          go_ret
          exact ⟨by rw [HN.out]; rfl, rfl⟩
        · have hx1 : 122 < (s[0].toNat : Int) := by omega
          clear hx
          go_enter Try.func87, Try.ntmps87
          go_wp2
          go_ret
          exact ⟨by rw [HN.out]; rfl, rfl⟩

/-- the byte at j is as a name wants it -/
def chAt (s : ByteArray) (j : Nat) : Prop := if j = 0 then lowB (s.data.toList.getD 0 0).toNat = true else chB (s.data.toList.getD j 0).toNat = true
theorem nameB_bad {s : ByteArray} {k : Nat} (hk : k < s.size) (h : ¬ chAt s k) : nameB s = false := by
  have hsz : s.data.toList.length = s.size := by simp
  by_cases h0 : k = 0
  · subst h0
    simp only [chAt, if_true, Bool.not_eq_true] at h
    simp only [nameB, h]; simp
  · simp only [chAt, h0, if_false, Bool.not_eq_true] at h
    have : ((s.data.toList.drop 1).all fun c => chB c.toNat) = false := by
      rw [List.all_eq_false]
      refine ⟨s.data.toList.getD k 0, ?_, by rw [h]; decide⟩
      rw [List.mem_drop_iff_getElem]
      refine ⟨k - 1, by omega, ?_⟩
      simp only [show 1 + (k - 1) = k by omega, List.getD, List.getElem?_eq_getElem (show k < s.data.toList.length by omega), Option.getD_some]
    simp only [nameB, this, Bool.and_false]
theorem nameB_good {s : ByteArray} (h : ∀ j, j < s.size → chAt s j) : nameB s = (decide (1 ≤ s.size) && decide (s.size ≤ 12)) := by
  have hsz : s.data.toList.length = s.size := by simp
  by_cases h0 : 0 < s.size
  · have h1 : lowB (s.data.toList.getD 0 0).toNat = true := by simpa [chAt] using h 0 h0
    have h2 : ((s.data.toList.drop 1).all fun c => chB c.toNat) = true := by
      rw [List.all_eq_true]
      intro c hm
      obtain ⟨j, hj, rfl⟩ := List.mem_drop_iff_getElem.1 hm
      have h3 := h (1 + j) (by omega)
      simp only [chAt, show ¬ (1 + j = 0) by omega, if_false] at h3
      have h4 : s.data.toList.getD (1 + j) 0 = s.data.toList[1 + j]'(by omega) := by
        simp only [List.getD, List.getElem?_eq_getElem (show 1 + j < s.data.toList.length by omega), Option.getD_some]
      rw [h4] at h3
      simpa [Nat.add_comm] using h3
    simp only [nameB, h1, h2, Bool.and_true]
  · simp [nameB, show ¬ 1 ≤ s.size by omega]

set_option maxHeartbeats 1000000 in
set_option maxRecDepth 100000 in
theorem isName_spec (s : ByteArray) (w : World) (hs : s.size ≤ 1000000000000) : Calls Try.prog 91 #[.string s] w fun e w' => e = .returned (.bool (nameB s)) ∧ w = w' := by
  go_enter Try.func91, Try.ntmps91
  go_wp2
  go_loop [3] (fun i => ∃ k : Nat, k ≤ s.size ∧ i = .int .i64 k ∧ Hid (∀ j, j < k → chAt s j)) (fun i => s.size - (intOf i).toNat)
  case atStart => exact ⟨0, by omega, rfl, fun j h => by omega⟩
  case round =>
    obtain ⟨k, hk, rfl, HJ⟩ := hrel
    by_cases hlt : k < s.size
    · have hgk : s.data.toList.getD k 0 = s[k] := by simp [List.getD, hlt]; rfl
      have good : chAt s k → Hid (∀ j, j < k + 1 → chAt s j) := by
        intro hg j h'
        rcases Nat.lt_or_ge j k with hjk | hjk
        · exact HJ.out j hjk
        · obtain rfl : j = k := by omega
          exact hg
      have bad : ¬ chAt s k → Hid (nameB s = false) := fun hb => nameB_bad hlt hb
      have GOOD := Lib.hid good
      have BAD := Lib.hid bad
      clear good bad
      have HGK := Lib.hid hgk; clear hgk
      by_cases hlow : 97 ≤ s[k].toNat ∧ s[k].toNat ≤ 122
      · have hx1 : (97 : Int) ≤ (s[k].toNat : Int) := by omega
        have hx2 : (s[k].toNat : Int) ≤ 122 := by omega
        have HG := GOOD.out (by unfold chAt; split <;> rename_i h; subst h; rw [HGK.out]; simp [lowB, hlow]; rw [HGK.out]; simp [chB, lowB, hlow])
        clear hlow
        go_wp2
        go_round
        case rel => exact ⟨k + 1, by omega, by go_num, HG⟩
        case measure => simp [intOf]; omega
      · by_cases hk0 : k = 0
        · subst hk0
          have HB := BAD.out (by unfold chAt; simp only [if_true]; rw [HGK.out]; simp [lowB]; omega)
          rcases (show s[0].toNat < 97 ∨ 122 < s[0].toNat by omega) with hx | hx
          · have hx1 : (s[0].toNat : Int) < 97 := by omega
            clear hlow hx
            go_wp2
            go_ret
            exact ⟨by rw [HB.out]; rfl, rfl⟩
          · have hx1 : 122 < (s[0].toNat : Int) := by omega
            have d3 : decide ((s[0].toNat : Int) ≤ 122) = false := by simp; omega
            clear hlow hx
            go_wp2
            go_ret
            exact ⟨by rw [HB.out]; rfl, rfl⟩
        · have hk0' : ((k : Int) == 0) = false := by simp; omega
          by_cases hd : s[k].toNat = 45
          · have hx1 : (s[k].toNat : Int) < 97 := by omega
            have hx2 : ((s[k].toNat : Int) != 45) = false := by simp; omega
            have HG := GOOD.out (by unfold chAt; simp only [hk0, if_false]; rw [HGK.out]; simp [chB, hd])
            clear hlow hd
            go_wp2
            go_round
            case rel => exact ⟨k + 1, by omega, by go_num, HG⟩
            case measure => simp [intOf]; omega
          · have hx2 : ((s[k].toNat : Int) != 45) = true := by simp; omega
            by_cases hdig : 48 ≤ s[k].toNat ∧ s[k].toNat ≤ 57
            · have hx1 : (s[k].toNat : Int) < 97 := by omega
              have hx3 : (48 : Int) ≤ (s[k].toNat : Int) := by omega
              have hx4 : (s[k].toNat : Int) ≤ 57 := by omega
              have HG := GOOD.out (by unfold chAt; simp only [hk0, if_false]; rw [HGK.out]; simp [chB, hdig])
              clear hlow hd hdig
              go_wp2_with (go_at_call 47; refine (l01In_true _ _ _ _ (by omega) (by omega)).mono ?_; rintro e w' ⟨rfl, rfl⟩)
              go_round
              case rel => exact ⟨k + 1, by omega, by go_num, HG⟩
              case measure => simp [intOf]; omega
            · have HB := BAD.out (by unfold chAt; simp only [hk0, if_false]; rw [HGK.out]; simp [chB, lowB]; omega)
              have hor : (s[k].toNat : Int) < 48 ∨ 57 < (s[k].toNat : Int) := by omega
              have HOR := Lib.hid hor
              rcases (show s[k].toNat < 97 ∨ 122 < s[k].toNat by omega) with hx | hx
              · have hx1 : (s[k].toNat : Int) < 97 := by omega
                clear hlow hx hd hdig hor
                go_wp2_with (go_at_call 47; refine (l01In_false _ _ _ _ HOR.out).mono ?_; rintro e w' ⟨rfl, rfl⟩)
                go_ret
                exact ⟨by rw [HB.out]; rfl, rfl⟩
              · have hx1 : 122 < (s[k].toNat : Int) := by omega
                have d3 : decide ((s[k].toNat : Int) ≤ 122) = false := by simp; omega
                have hx5 : (s[k].toNat : Int) < 256 := by have := s[k].toNat_lt; omega
                clear hlow hx hd hdig hor
                go_wp2_with (go_at_call 47; refine (l01In_false _ _ _ _ HOR.out).mono ?_; rintro e w' ⟨rfl, rfl⟩)
                go_ret
                exact ⟨by rw [HB.out]; rfl, rfl⟩
    · obtain rfl : k = s.size := by omega
      have HN : Hid (nameB s = (decide (1 ≤ s.size) && decide (s.size ≤ 12))) := nameB_good HJ.out
      clear HJ hlt
      by_cases hin : 1 ≤ s.size ∧ s.size ≤ 12
      · go_wp2_with fail
        refine (l01In_true _ _ _ _ (by omega) (by omega)).mono ?_
        rintro e w' ⟨rfl, rfl⟩
        have HIN := Lib.hid hin; clear hin
        go_wp2
        go_ret
        exact ⟨by rw [HN.out]; simp [HIN.out], rfl⟩
      · have hor : (s.size : Int) < 1 ∨ 12 < (s.size : Int) := by omega
        have HOR := Lib.hid hor; have HIN := Lib.hid hin; clear hor hin
        go_wp2_with fail
        refine (l01In_false _ _ _ _ HOR.out).mono ?_
        rintro e w' ⟨rfl, rfl⟩
        go_wp2
        go_ret
        refine ⟨?_, rfl⟩
        have : (decide (1 ≤ s.size) && decide (s.size ≤ 12)) = false := by
          have := HIN.out
          simp; omega
        rw [HN.out, this]; rfl
end Go.Proofs.Ytjkabbkaeioibaa
