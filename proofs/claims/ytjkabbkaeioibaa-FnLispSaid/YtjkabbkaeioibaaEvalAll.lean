/- The program's evaluator computes what the plain evaluation says. -/
import Derived.Test.YtjkabbkaeioibaaEvalC
import Derived.Test.YtjkabbkaeioibaaEvalD
import Derived.Test.YtjkabbkaeioibaaEvalE
import Derived.Test.YtjkabbkaeioibaaEvalH
import Derived.Test.YtjkabbkaeioibaaMEv
namespace Go.Proofs.Ytjkabbkaeioibaa
open Go.RowKit

theorem list_shape (l : List Tm) : (∃ a b, l = [a, b]) ∨ (∃ a b c, l = [a, b, c]) ∨ (∃ a b c d, l = [a, b, c, d]) ∨ (l.length ≠ 2 ∧ l.length ≠ 3 ∧ l.length ≠ 4) := by
  match l with
  | [] => simp
  | [_] => simp
  | [a, b] => exact .inl ⟨a, b, rfl⟩
  | [a, b, c] => exact .inr (.inl ⟨a, b, c, rfl⟩)
  | [a, b, c, d] => exact .inr (.inr (.inl ⟨a, b, c, d, rfl⟩))
  | _ :: _ :: _ :: _ :: _ :: _ => right; right; right; simp

theorem eval_all (fuel : Nat) : EvalT fuel := by
  induction fuel with
  | zero =>
    intro left steps B k1 n1 s1 xs1 a1 l1 c1 F1 k2 n2 s2 xs2 a2 l2 c2 F2 w hlf _ h1000 hlsp h1 h2 hB1 hB2 hok1 hok2
    obtain rfl : left = 0 := by omega
    exact eval_zero steps B k1 n1 s1 xs1 a1 l1 c1 F1 k2 n2 s2 xs2 a2 l2 c2 F2 w h1000 hlsp h1 h2 hB1 hB2 hok1 hok2
  | succ fuel ih =>
    intro left steps B k1 n1 s1 xs1 a1 l1 c1 F1 k2 n2 s2 xs2 a2 l2 c2 F2 w hlf hst h1000 hlsp h1 h2 hB1 hB2 hok1 hok2
    cases left with
    | zero =>
      rw [ev, if_pos rfl]
      exact eval_zero steps B k1 n1 s1 xs1 a1 l1 c1 F1 k2 n2 s2 xs2 a2 l2 c2 F2 w h1000 hlsp h1 h2 hB1 hB2 hok1 hok2
    | succ left =>
      have hlf' : left ≤ fuel := by omega
      rw [ev, if_neg (by omega), Nat.add_sub_cancel]
      by_cases hk : k1 = 2
      · exact eval_sym fuel ih left steps B k1 n1 s1 xs1 a1 l1 c1 F1 k2 n2 s2 xs2 a2 l2 c2 F2 w hlf' hst h1000 hlsp h1 h2 hB1 hB2 hok1 hok2 hk
      by_cases htl : (Tm.mk k1 n1 s1 xs1).tl.kind = 0
      case neg => exact eval_tail fuel ih left steps B k1 n1 s1 xs1 a1 l1 c1 F1 k2 n2 s2 xs2 a2 l2 c2 F2 w hlf' hst h1000 hlsp h1 h2 hB1 hB2 hok1 hok2 hk htl
      rcases list_shape (Tm.mk k1 n1 s1 xs1).its with ⟨⟨xk, xn, xz, xas⟩, ⟨yk, yn, yz, yas⟩, hits⟩ | ⟨⟨xk, xn, xz, xas⟩, ⟨yk, yn, yz, yas⟩, ⟨zk, zn, zz, zas⟩, hits⟩ | ⟨⟨xk, xn, xz, xas⟩, ⟨yk, yn, yz, yas⟩, ⟨zk, zn, zz, zas⟩, ⟨uk, un, uz, uas⟩, hits⟩ | ⟨hl2, hl3, hl4⟩
      · cases hq : isSym (.mk xk xn xz xas) ⟨#[113, 117, 111, 116, 101]⟩ with
        | true => exact eval_quote fuel ih left steps B k1 n1 s1 xs1 a1 l1 c1 F1 k2 n2 s2 xs2 a2 l2 c2 F2 w hlf' hst h1000 hlsp h1 h2 hB1 hB2 hok1 hok2 hk htl xk xn xz xas yk yn yz yas hits hq
        | false =>
          cases hc : isSym (.mk xk xn xz xas) ⟨#[99, 97, 114]⟩ with
          | true => exact eval_car fuel ih left steps B k1 n1 s1 xs1 a1 l1 c1 F1 k2 n2 s2 xs2 a2 l2 c2 F2 w hlf' hst h1000 hlsp h1 h2 hB1 hB2 hok1 hok2 hk htl xk xn xz xas yk yn yz yas hits hq hc
          | false =>
            cases hd : isSym (.mk xk xn xz xas) ⟨#[99, 100, 114]⟩ with
            | true => exact eval_cdr fuel ih left steps B k1 n1 s1 xs1 a1 l1 c1 F1 k2 n2 s2 xs2 a2 l2 c2 F2 w hlf' hst h1000 hlsp h1 h2 hB1 hB2 hok1 hok2 hk htl xk xn xz xas yk yn yz yas hits hq hc hd
            | false =>
              have bad := eval_app_bad fuel ih left steps B k1 n1 s1 xs1 a1 l1 c1 F1 k2 n2 s2 xs2 a2 l2 c2 F2 w hlf' hst h1000 hlsp h1 h2 hB1 hB2 hok1 hok2 hk htl xk xn xz xas yk yn yz yas hits hq hc hd
              have hgood := ev_good fuel left (.mk xk xn xz xas) (.mk k2 n2 s2 xs2) (its_ok hok1 _ (by rw [hits]; simp)) hok2
              by_cases hcode : (ev fuel left (.mk xk xn xz xas) (.mk k2 n2 s2 xs2)).2.1 = 0
              case neg => exact bad (.inr (.inl (by rw [hgood.bad hcode]; decide)))
              by_cases hft : (ev fuel left (.mk xk xn xz xas) (.mk k2 n2 s2 xs2)).1.tl.kind = 0
              case neg => exact bad (.inl hft)
              rcases list_shape (ev fuel left (.mk xk xn xz xas) (.mk k2 n2 s2 xs2)).1.its with ⟨_, _, hfi⟩ | ⟨_, _, _, hfi⟩ | ⟨⟨pk, pn, pz, pas⟩, ⟨gk, gn, gz, gas⟩, ⟨vk, vn, vz, vas⟩, ⟨uk, un, uz, uas⟩, hfi⟩ | ⟨_, _, hl4⟩
              · exact bad (.inr (.inl (by rw [hfi]; simp)))
              · exact bad (.inr (.inl (by rw [hfi]; simp)))
              · cases hcl : isSym (.mk pk pn pz pas) ⟨#[99, 108, 111, 115, 117, 114, 101]⟩ with
                | true => exact eval_app fuel ih left steps B k1 n1 s1 xs1 a1 l1 c1 F1 k2 n2 s2 xs2 a2 l2 c2 F2 w hlf' hst h1000 hlsp h1 h2 hB1 hB2 hok1 hok2 hk htl xk xn xz xas yk yn yz yas hits hq hc hd pk pn pz pas gk gn gz gas vk vn vz vas uk un uz uas hcode hft hfi hcl
                | false => exact bad (.inr (.inr ⟨_, _, hfi, hcl⟩))
              · exact bad (.inr (.inl hl4))
      · cases hq : isSym (.mk xk xn xz xas) ⟨#[108, 97, 109, 98, 100, 97]⟩ with
        | true =>
          have bad := eval_lam_bad fuel ih left steps B k1 n1 s1 xs1 a1 l1 c1 F1 k2 n2 s2 xs2 a2 l2 c2 F2 w hlf' hst h1000 hlsp h1 h2 hB1 hB2 hok1 hok2 hk htl xk xn xz xas yk yn yz yas zk zn zz zas hits hq
          by_cases hyt : (Tm.mk yk yn yz yas).tl.kind = 0
          case neg => exact bad (.inl hyt)
          by_cases hyl : (Tm.mk yk yn yz yas).its.length = 1
          case neg => exact bad (.inr (.inl hyl))
          match hyi : (Tm.mk yk yn yz yas).its, hyl with
          | [.mk gk gn gz gas], _ =>
            by_cases hgk : gk = 2
            · exact eval_lam_good fuel ih left steps B k1 n1 s1 xs1 a1 l1 c1 F1 k2 n2 s2 xs2 a2 l2 c2 F2 w hlf' hst h1000 hlsp h1 h2 hB1 hB2 hok1 hok2 hk htl xk xn xz xas yk yn yz yas zk zn zz zas hits hq gk gn gz gas hyi hyt hgk
            · exact bad (.inr (.inr ⟨_, hyi, hgk⟩))
        | false =>
          cases hc : isSym (.mk xk xn xz xas) ⟨#[99, 111, 110, 115]⟩ with
          | true => exact eval_cons fuel ih left steps B k1 n1 s1 xs1 a1 l1 c1 F1 k2 n2 s2 xs2 a2 l2 c2 F2 w hlf' hst h1000 hlsp h1 h2 hB1 hB2 hok1 hok2 hk htl xk xn xz xas yk yn yz yas zk zn zz zas hits hq hc
          | false => exact eval_three fuel ih left steps B k1 n1 s1 xs1 a1 l1 c1 F1 k2 n2 s2 xs2 a2 l2 c2 F2 w hlf' hst h1000 hlsp h1 h2 hB1 hB2 hok1 hok2 hk htl xk xn xz xas yk yn yz yas zk zn zz zas hits hq hc
      · cases hq : isSym (.mk xk xn xz xas) ⟨#[105, 102]⟩ with
        | true =>
          by_cases hnz : (ev fuel left (.mk yk yn yz yas) (.mk k2 n2 s2 xs2)).1.kind = 0
          · exact eval_if_else fuel ih left steps B k1 n1 s1 xs1 a1 l1 c1 F1 k2 n2 s2 xs2 a2 l2 c2 F2 w hlf' hst h1000 hlsp h1 h2 hB1 hB2 hok1 hok2 hk htl xk xn xz xas yk yn yz yas zk zn zz zas uk un uz uas hits hq hnz
          · exact eval_if_then fuel ih left steps B k1 n1 s1 xs1 a1 l1 c1 F1 k2 n2 s2 xs2 a2 l2 c2 F2 w hlf' hst h1000 hlsp h1 h2 hB1 hB2 hok1 hok2 hk htl xk xn xz xas yk yn yz yas zk zn zz zas uk un uz uas hits hq hnz
        | false => exact eval_four fuel ih left steps B k1 n1 s1 xs1 a1 l1 c1 F1 k2 n2 s2 xs2 a2 l2 c2 F2 w hlf' hst h1000 hlsp h1 h2 hB1 hB2 hok1 hok2 hk htl xk xn xz xas yk yn yz yas zk zn zz zas uk un uz uas hits hq
      · exact eval_len fuel ih left steps B k1 n1 s1 xs1 a1 l1 c1 F1 k2 n2 s2 xs2 a2 l2 c2 F2 w hlf' hst h1000 hlsp h1 h2 hB1 hB2 hok1 hok2 hk htl hl2 hl3 hl4
end Go.Proofs.Ytjkabbkaeioibaa
