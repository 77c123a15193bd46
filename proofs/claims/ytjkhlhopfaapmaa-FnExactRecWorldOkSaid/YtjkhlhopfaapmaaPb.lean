/- Small words on counters, lists that are filled place by place, and loops with a number of rounds. No condition. -/
import Derived.Test.YtjkhlhopfaapmaaWWords
namespace Go.Proofs.Ytjkhlhopfaapmaa.Pb
open Go.RowKit Go.Proofs.YtjkhlhopfaapmaaW.PrintWords

theorem wrapSucc {i n : Nat} (h : i < n) (hn : n ≤ 9223372036854775807) : wrap64 ((i : Int) + 1) = ((i + 1 : Nat) : Int) := by unfold wrap64; omega

theorem wrapIn {x : Int} (h0 : -9223372036854775808 ≤ x) (h1 : x ≤ 9223372036854775807) : wrap64 x = x := by unfold wrap64; omega

/-- A loop over the places from i on, k rounds at most. -/
theorem loopInd (n : Nat) (Q : Nat → Nat → Prop) (h0 : ∀ k, Q (k + 1) n) (hs : ∀ k i, i < n → Q k (i + 1) → Q (k + 1) i) : ∀ i k, i ≤ n → n - i < k → Q k i := by
  intro i k hi hk
  generalize hd : n - i = d at hk
  induction d generalizing i k with
  | zero =>
    obtain ⟨k, rfl⟩ : ∃ m, k = m + 1 := ⟨k - 1, by omega⟩
    obtain rfl : i = n := by omega
    exact h0 k
  | succ d ih =>
    obtain ⟨k, rfl⟩ : ∃ m, k = m + 1 := ⟨k - 1, by omega⟩
    exact hs k i (by omega) (ih (i + 1) k (by omega) (by omega) (by omega))

/-- The same, with at least B rounds left at each place. -/
theorem loopIndB (n B : Nat) (Q : Nat → Nat → Prop) (h0 : ∀ k, Q (k + 1) n) (hs : ∀ k i, i < n → B ≤ k → Q k (i + 1) → Q (k + 1) i) : ∀ i k, i ≤ n → n - i + B < k → Q k i := by
  intro i k hi hk
  generalize hd : n - i = d at hk
  induction d generalizing i k with
  | zero =>
    obtain ⟨k, rfl⟩ : ∃ m, k = m + 1 := ⟨k - 1, by omega⟩
    obtain rfl : i = n := by omega
    exact h0 k
  | succ d ih =>
    obtain ⟨k, rfl⟩ : ∃ m, k = m + 1 := ⟨k - 1, by omega⟩
    exact hs k i (by omega) (by omega) (ih (i + 1) k (by omega) (by omega) (by omega))

theorem dropAt {α : Type} {xs : List α} {i : Nat} (h : i < xs.length) : xs.drop i = xs[i] :: xs.drop (i + 1) := List.drop_eq_getElem_cons h

theorem getDAt {α : Type} {xs : List α} {i : Nat} (h : i < xs.length) (z : α) : xs.getD ((i : Int)).toNat z = xs[i] := by
  rw [Int.toNat_natCast, List.getD_eq_getElem?_getD, List.getElem?_eq_getElem h]; rfl

/-- What is filled place by place. -/
def fill {α : Type} (ys : List α) (z : α) (i : Nat) : List α := ys.take i ++ List.replicate (ys.length - i) z
theorem fill_zero {α : Type} (ys : List α) (z : α) : fill ys z 0 = List.replicate ys.length z := by simp [fill]
theorem fill_all {α : Type} (ys : List α) (z : α) : fill ys z ys.length = ys := by simp [fill]
theorem fill_length {α : Type} (ys : List α) (z : α) (i : Nat) (h : i ≤ ys.length) : (fill ys z i).length = ys.length := by
  unfold fill; rw [List.length_append, List.length_take, List.length_replicate]; omega
theorem fill_set {α : Type} (ys : List α) (z : α) (i : Nat) (h : i < ys.length) : (fill ys z i).set i ys[i] = fill ys z (i + 1) := by
  unfold fill
  have e : ys.length - i = (ys.length - (i + 1)) + 1 := by omega
  rw [e, List.replicate_succ, List.set_append_right _ _ (by rw [List.length_take]; omega)]
  rw [List.length_take, Nat.min_eq_left (by omega), Nat.sub_self, List.set_cons_zero, List.take_succ_eq_append_getElem h, List.append_assoc]
  rfl

end Go.Proofs.Ytjkhlhopfaapmaa.Pb
