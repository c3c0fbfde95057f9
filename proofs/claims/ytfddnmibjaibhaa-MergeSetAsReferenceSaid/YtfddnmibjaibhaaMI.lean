/- Plain laws of the merge chapter: two windows, the number of groups. -/
import Derived.Test.YtfddnmibjaibhaaM5
import Derived.Test.YtfddnmibjaibhaaMF
namespace Go.Proofs.Ytfddnmibjaibhaa

theorem cl_mono {p q : Int} (h : p ≤ q) {x y : Al} (hc : cl p x y = true) : cl q x y = true := by
  unfold cl at hc ⊢; simp only [decide_eq_true_eq] at hc ⊢; omega
theorem edge_mono {p q : Int} (h : p ≤ q) {l : List Al} {i j : Nat} (hc : edge p l i j = true) : edge q l i j = true := by
  unfold edge at hc ⊢
  revert hc
  cases l[i]? <;> cases l[j]? <;> simp
  exact cl_mono h
theorem col_mono {p q : Int} (h : p ≤ q) (l : List Al) {i j : Nat} (hi : i < l.length) (hj : j < l.length) (hc : col p l i = col p l j) : col q l i = col q l j :=
  (col_least p l).least (col q l) (fun a b ha hb hr => (col_least q l).resp a b ha hb (edge_mono h hr)) i j hi hj hc
theorem fr_coarse {n : Nat} {c d : Nat → Nat} (h : ∀ i j, i < n → j < n → c i = c j → d i = d j) : (fr n d).length ≤ (fr n c).length := by
  unfold fr
  have : ∀ m, m ≤ n → ((List.range m).filter (isF d)).length ≤ ((List.range m).filter (isF c)).length := by
    intro m
    induction m with
    | zero => intro _; simp
    | succ m ih =>
      intro hm
      have := ih (by omega)
      rw [List.range_succ, List.filter_append, List.filter_append, List.length_append, List.length_append]
      cases e : isF d m with
      | false => simp [e]; omega
      | true =>
        have e2 : isF c m = true := isF_of.2 fun j hj he => isF_of.1 e j hj (h j m (by omega) (by omega) he)
        simp [e, e2]; omega
  exact this n (Nat.le_refl _)
theorem gl_coarse {p q : Int} (h : p ≤ q) (l : List Al) : (gl l.length (col q l)).length ≤ (gl l.length (col p l)).length := by
  rw [gl_length, gl_length]; exact fr_coarse fun i j hi hj => col_mono h l hi hj
theorem idx_mono {p q : Int} (h : p ≤ q) (l : List Al) {i j : Nat} (hi : i < l.length) (hj : j < l.length) (hc : idx l.length (col p l) i = idx l.length (col p l) j) : idx l.length (col q l) i = idx l.length (col q l) j :=
  (idx_eq hi hj).2 (col_mono h l hi hj ((idx_eq hi hj).1 hc))
end Go.Proofs.Ytfddnmibjaibhaa
