/- The reference's evaluator computes what the plain evaluation says. -/
import Derived.Test.YtjkabbkaeioibaaMSp
import Derived.Test.YtjkabbkaeioibaaMIf
import Derived.Test.YtjkabbkaeioibaaMSel
import Derived.Test.YtjkabbkaeioibaaMAp
namespace Go.Proofs.Ytjkabbkaeioibaa
open Go.RowKit

theorem list_shapeS (l : List Tm) : (∃ a b, l = [a, b]) ∨ (∃ a b c, l = [a, b, c]) ∨ (∃ a b c d, l = [a, b, c, d]) ∨ (l.length ≠ 2 ∧ l.length ≠ 3 ∧ l.length ≠ 4) := by
  match l with
  | [] => simp
  | [_] => simp
  | [a, b] => exact .inl ⟨a, b, rfl⟩
  | [a, b, c] => exact .inr (.inl ⟨a, b, c, rfl⟩)
  | [a, b, c, d] => exact .inr (.inr (.inl ⟨a, b, c, d, rfl⟩))
  | _ :: _ :: _ :: _ :: _ :: _ => right; right; right; simp

theorem spec_all (fuel : Nat) : EvalS fuel := by
  induction fuel with
  | zero =>
    intro left B k1 n1 s1 xs1 a1 l1 c1 F1 k2 n2 s2 xs2 a2 l2 c2 F2 w hlf h1000 hw h1 h2 hB1 hB2 hok1 hok2
    obtain rfl : left = 0 := by omega
    exact sp_zero B k1 n1 s1 a1 l1 c1 F1 k2 n2 s2 a2 l2 c2 F2 w hw
  | succ fuel ih =>
    intro left B k1 n1 s1 xs1 a1 l1 c1 F1 k2 n2 s2 xs2 a2 l2 c2 F2 w hlf h1000 hw h1 h2 hB1 hB2 hok1 hok2
    cases left with
    | zero =>
      rw [ev, if_pos rfl]
      exact sp_zero B k1 n1 s1 a1 l1 c1 F1 k2 n2 s2 a2 l2 c2 F2 w hw
    | succ left =>
      have hlf' : left ≤ fuel := by omega
      rw [ev, if_neg (by omega), Nat.add_sub_cancel]
      by_cases hk : k1 = 2
      · exact sp_sym fuel ih left B k1 n1 s1 xs1 a1 l1 c1 F1 k2 n2 s2 xs2 a2 l2 c2 F2 w hlf' h1000 hw h1 h2 hB1 hB2 hok1 hok2 hk
      have none := sp_none fuel ih left B k1 n1 s1 xs1 a1 l1 c1 F1 k2 n2 s2 xs2 a2 l2 c2 F2 w hlf' h1000 hw h1 h2 hB1 hB2 hok1 hok2 hk
      by_cases htl : (Tm.mk k1 n1 s1 xs1).tl.kind = 0
      case neg =>
        rw [evStep, if_neg (show (Tm.mk k1 n1 s1 xs1).kind ≠ 2 from hk), if_pos htl]
        exact none (formR_tail htl) (formR_tail htl) (formR_tail htl) (formR_tail htl) (formR_tail htl) (formR_tail htl) (formR_tail htl)
      rcases list_shapeS (Tm.mk k1 n1 s1 xs1).its with ⟨⟨xk, xn, xz, xas⟩, ⟨yk, yn, yz, yas⟩, hits⟩ | ⟨⟨xk, xn, xz, xas⟩, ⟨yk, yn, yz, yas⟩, ⟨zk, zn, zz, zas⟩, hits⟩ | ⟨⟨xk, xn, xz, xas⟩, ⟨yk, yn, yz, yas⟩, ⟨zk, zn, zz, zas⟩, ⟨uk, un, uz, uas⟩, hits⟩ | ⟨hl2, hl3, hl4⟩
      · cases hq : isSym (.mk xk xn xz xas) ⟨#[113, 117, 111, 116, 101]⟩ with
        | true =>
          cases hcl : (Tm.mk yk yn yz yas).hasSym ⟨#[99, 108, 111, 115, 117, 114, 101]⟩ with
          | false => exact sp_quote fuel ih left B k1 n1 s1 xs1 a1 l1 c1 F1 k2 n2 s2 xs2 a2 l2 c2 F2 w hlf' h1000 hw h1 h2 hB1 hB2 hok1 hok2 hk htl xk xn xz xas yk yn yz yas hits hq hcl
          | true => exact sp_quote_bad fuel ih left B k1 n1 s1 xs1 a1 l1 c1 F1 k2 n2 s2 xs2 a2 l2 c2 F2 w hlf' h1000 hw h1 h2 hB1 hB2 hok1 hok2 hk htl xk xn xz xas yk yn yz yas hits hq hcl
        | false =>
          cases hc : isSym (.mk xk xn xz xas) ⟨#[99, 97, 114]⟩ with
          | true => exact sp_car fuel ih left B k1 n1 s1 xs1 a1 l1 c1 F1 k2 n2 s2 xs2 a2 l2 c2 F2 w hlf' h1000 hw h1 h2 hB1 hB2 hok1 hok2 hk htl xk xn xz xas yk yn yz yas hits hq hc
          | false =>
            cases hd : isSym (.mk xk xn xz xas) ⟨#[99, 100, 114]⟩ with
            | true => exact sp_cdr fuel ih left B k1 n1 s1 xs1 a1 l1 c1 F1 k2 n2 s2 xs2 a2 l2 c2 F2 w hlf' h1000 hw h1 h2 hB1 hB2 hok1 hok2 hk htl xk xn xz xas yk yn yz yas hits hq hc hd
            | false => exact sp_app fuel ih left B k1 n1 s1 xs1 a1 l1 c1 F1 k2 n2 s2 xs2 a2 l2 c2 F2 w hlf' h1000 hw h1 h2 hB1 hB2 hok1 hok2 hk htl xk xn xz xas yk yn yz yas hits hq hc hd
      · cases hq : isSym (.mk xk xn xz xas) ⟨#[108, 97, 109, 98, 100, 97]⟩ with
        | true =>
          have bad := sp_lam_bad fuel ih left B k1 n1 s1 xs1 a1 l1 c1 F1 k2 n2 s2 xs2 a2 l2 c2 F2 w hlf' h1000 hw h1 h2 hB1 hB2 hok1 hok2 hk htl xk xn xz xas yk yn yz yas zk zn zz zas hits hq
          by_cases hyt : (Tm.mk yk yn yz yas).tl.kind = 0
          case neg => exact bad (.inl hyt)
          by_cases hyl : (Tm.mk yk yn yz yas).its.length = 1
          case neg => exact bad (.inr (.inl hyl))
          match hyi : (Tm.mk yk yn yz yas).its, hyl with
          | [.mk gk gn gz gas], _ =>
            by_cases hgk : gk = 2
            · exact sp_lam_good fuel ih left B k1 n1 s1 xs1 a1 l1 c1 F1 k2 n2 s2 xs2 a2 l2 c2 F2 w hlf' h1000 hw h1 h2 hB1 hB2 hok1 hok2 hk htl xk xn xz xas yk yn yz yas zk zn zz zas hits hq gk gn gz gas hyi hyt hgk
            · exact bad (.inr (.inr ⟨_, hyi, hgk⟩))
        | false =>
          cases hc : isSym (.mk xk xn xz xas) ⟨#[99, 111, 110, 115]⟩ with
          | true => exact sp_cons fuel ih left B k1 n1 s1 xs1 a1 l1 c1 F1 k2 n2 s2 xs2 a2 l2 c2 F2 w hlf' h1000 hw h1 h2 hB1 hB2 hok1 hok2 hk htl xk xn xz xas yk yn yz yas zk zn zz zas hits hc hq
          | false =>
            rw [evStep_list (show (Tm.mk k1 n1 s1 xs1).kind ≠ 2 from hk) htl, hits, evForm, if_neg (by simp [hq]), if_neg (by simp [hc])]
            exact none (formR_len (by rw [hits]; simp)) (formR_sym hits hq (by decide)) (formR_sym hits hc (by decide)) (formR_len (by rw [hits]; simp)) (formR_len (by rw [hits]; simp)) (formR_len (by rw [hits]; simp)) (formR_len (by rw [hits]; simp))
      · cases hq : isSym (.mk xk xn xz xas) ⟨#[105, 102]⟩ with
        | true =>
          by_cases hnz : (ev fuel left (.mk yk yn yz yas) (.mk k2 n2 s2 xs2)).1.kind = 0
          · exact sp_if_else fuel ih left B k1 n1 s1 xs1 a1 l1 c1 F1 k2 n2 s2 xs2 a2 l2 c2 F2 w hlf' h1000 hw h1 h2 hB1 hB2 hok1 hok2 hk htl xk xn xz xas yk yn yz yas zk zn zz zas uk un uz uas hits hq hnz
          · exact sp_if_then fuel ih left B k1 n1 s1 xs1 a1 l1 c1 F1 k2 n2 s2 xs2 a2 l2 c2 F2 w hlf' h1000 hw h1 h2 hB1 hB2 hok1 hok2 hk htl xk xn xz xas yk yn yz yas zk zn zz zas uk un uz uas hits hq hnz
        | false =>
          rw [evStep_list (show (Tm.mk k1 n1 s1 xs1).kind ≠ 2 from hk) htl, hits, evForm, if_neg (by simp [hq])]
          exact none (formR_len (by rw [hits]; simp)) (formR_len (by rw [hits]; simp)) (formR_len (by rw [hits]; simp)) (formR_len (by rw [hits]; simp)) (formR_len (by rw [hits]; simp)) (formR_sym hits hq (by decide)) (formR_len (by rw [hits]; simp))
      · rw [evStep_list (show (Tm.mk k1 n1 s1 xs1).kind ≠ 2 from hk) htl, evForm_other hl2 hl3 hl4]
        exact none (formR_len hl2) (formR_len hl3) (formR_len hl3) (formR_len hl2) (formR_len hl2) (formR_len hl4) (formR_len hl2)
end Go.Proofs.Ytjkabbkaeioibaa
