/- The law on RecWorldOk at every world; conditions: its slices are readable. -/
import Derived.Test.YtjkhlhopfaapmaaQFnExactRecWorldOkb
import Derived.Test.YtjkhlhopfaapmaaQFnExactRecWorldOkc
import Derived.Test.YtjkhlhopfaapmaaQFnExactRecWorldOkd
import Derived.Test.YtjkhlhopfaapmaaQFnExactRecWorldOkf
import Derived.Test.YtjkhlhopfaapmaaQFnExactRecWorldOks
namespace Go.Proofs.Ytjkhlhopfaapmaa.QFnExactRecWorldOk
open Go.RowKit Go.Proofs.Ytjkhlhopfaapmaa.PFnExactRecWorldOk Go.Proofs.YtjkhlhopfaapmaaW.PrintWords Go.Proofs.YtjkhlhopfaapmaaW.PrintLast Go.Proofs.YtjkhlhopfaapmaaW.PrintMore Go.Proofs.Ytjkhlhopfaapmaa.Pb Go.Proofs.Ytjkhlhopfaapmaa.Op Go.Proofs.Ytjkhlhopfaapmaa.Wk
set_option linter.unusedSimpArgs false
set_option linter.unusedVariables false

/-! ### impl.RecValid: the ways out of its first test -/
set_option maxHeartbeats 8000000 in
set_option maxRecDepth 100000 in
theorem implHead (n0 o n3 n4 n6 n7 n13 n17 : Int) (b2 L T : Bool) (A5 A8 A9 A10 A14 A15 A16 : Option Addr) (m5 m8 m9 m10 m14 m15 m16 c5 c8 c9 c10 c14 c15 c16 : Nat) (w : World)
    (k1 k2 k3 k4 k5 k6 k7 k8 k9 : Bool) (hf : (k1 && k2 && k3 && k4 && k5 && k6 && k7 && k8 && k9) = false)
    (C1 : QC w 18 #[.int .i64 o, .int .i64 1, .int .i64 5] k1) (C2 : QC w 18 #[.int .i64 n0, .int .i64 1, .int .i64 o] k2)
    (C3 : QC w 36 #[.agg #[.int .i64 n3, .int .i64 n4, .slice A5 m5 c5]] k3) (C4 : QC w 36 #[.agg #[.int .i64 n6, .int .i64 n7, .slice A8 m8 c8]] k4)
    (C5 : decide ((400 : Int) < (m9 : Int)) = !k5) (C6 : decide ((20 : Int) < (m10 : Int)) = !k6) (C7 : QC w 18 #[.int .i64 n17, .int .i64 0, .int .i64 1000000] k7)
    (C8 : QC w 37 #[.slice A14 m14 c14, .int .i64 o] k8) (C9 : QC w 38 #[.slice A15 m15 c15] k9) :
    Calls Try.prog 19 #[.agg #[.int .i64 n0, .int .i64 o, .bool b2, .int .i64 n3, .int .i64 n4, .slice A5 m5 c5, .int .i64 n6, .int .i64 n7, .slice A8 m8 c8, .slice A9 m9 c9, .slice A10 m10 c10, .bool L, .bool T, .int .i64 n13, .slice A14 m14 c14, .slice A15 m15 c15, .slice A16 m16 c16, .int .i64 n17]] w fun e w' => e = .returned (.bool false) ∧ Below w.heap.size w w' := by
  have hu1 := Try.underlying49
  have hu2 := Try.underlying44
  have D1 := Aside0.mk C1
  have D2 := Aside0.mk C2
  have D3 := Aside0.mk C3
  have D4 := Aside0.mk C4
  have D7 := Aside0.mk C7
  have D8 := Aside0.mk C8
  have D9 := Aside0.mk C9
  clear C1 C2 C3 C4 C7 C8 C9
  have HB := Aside0.mk (Below.refl w.heap.size w)
  rcases k1 with _ | _
  rotate_left; rcases k2 with _ | _
  rotate_left; rcases k3 with _ | _
  rotate_left; rcases k4 with _ | _
  rotate_left; rcases k5 with _ | _
  rotate_left; rcases k6 with _ | _
  rotate_left; rcases k7 with _ | _
  rotate_left; rcases k8 with _ | _
  rotate_left; rcases k9 with _ | _
  rotate_left; · exact absurd hf (by simp)
  all_goals
    clear hf
    try simp only [Bool.not_true, Bool.not_false] at C5 C6
    go_enter Try.func19, Try.ntmps19
    go_wp2_with (first
      | go_big_skip
      | ((with_reducible refine gate_dst (N := 1) rfl ?_); refine box_event ?hg (N := 1) ?hd (cs := #[.int .i64 n0, .int .i64 o, .bool b2, .int .i64 n3, .int .i64 n4, .slice A5 m5 c5, .int .i64 n6, .int .i64 n7, .slice A8 m8 c8, .slice A9 m9 c9, .slice A10 m10 c10, .bool L, .bool T, .int .i64 n13, .slice A14 m14 c14, .slice A15 m15 c15, .slice A16 m16 c16, .int .i64 n17]) (t := 49) ?hr ?_; (case hd => rfl); (case hg => rfl); (case hr => first | (go_simp; done) | (go_simp; rfl)); intro ga _hg w1 hbox hb; have n0_ := Aside0.mk (below_step HB.out hb); clear HB; have HB := n0_; clear n0_; have BA := Aside0.mk hbox; clear hb hbox _hg; have ra := blk_cell BA.out)
      | ((first
          | (go_at_call 18; (first | (with_reducible refine (D1.out _ HB.out).mono ?_) | (with_reducible refine (D2.out _ HB.out).mono ?_) | (with_reducible refine (D7.out _ HB.out).mono ?_)))
          | (go_at_call 36; (first | (with_reducible refine (D3.out _ HB.out).mono ?_) | (with_reducible refine (D4.out _ HB.out).mono ?_)))
          | (go_at_call 37; (with_reducible refine (D8.out _ HB.out).mono ?_))
          | (go_at_call 38; (with_reducible refine (D9.out _ HB.out).mono ?_)));
         rintro e wn ⟨rfl, hb⟩; have n0_ := Aside0.mk (below_step HB.out hb); have n1_ := Aside0.mk (blk_below BA.out hb); clear HB BA; have HB := n0_; have BA := n1_; clear n0_ n1_ ra; clear hb; have ra := blk_cell BA.out))
    go_ret
    exact ⟨rfl, HB.out⟩

/-! ### a recorder that is valid -/
def heldAt (n0 o : Int) (ms : List S52) (j : Nat) : Bool := msgV o (rd_T52 ms (j : Int)) && decide ((rd_T52 ms (j : Int)).f1 = n0)
def headV (n0 o n3 n4 n6 n7 n17 : Int) (x5 x8 : List S93) (x9 : List S52) (x10 : List ByteArray) : Bool :=
  decide (1 ≤ o ∧ o ≤ 5) && decide (1 ≤ n0 ∧ n0 ≤ o) && diskB n3 n4 x5 && diskB n6 n7 x8 && decide (x9.length ≤ 400) && wishesB x10 && decide (0 ≤ n17 ∧ n17 ≤ 1000000)
def validB (n0 o n3 n4 n6 n7 n13 n17 : Int) (b2 L T : Bool) (x5 : List S93) (x8 : List S93) (x9 : List S52) (x10 : List ByteArray) (x14 : List Int) (x15 : List S93) (x16 : List S83) : Bool :=
  headV n0 o n3 n4 n6 n7 n17 x5 x8 x9 x10 && (allFrom (heldAt n0 o x9) x9.length 0 && specTail (numsB x14 o) (slotsB x15) (acksB x16 o) L T (decide (1 ≤ n13 ∧ n13 ≤ n6)) (!decide (x16.length = 0)) (decide (0 < x14.length + x15.length))
    (!L && !T && decide (n13 = 0) && !decide (0 < x14.length + x15.length + x16.length)) b2 (decide ((x9.length : Int) + (x10.length : Int) + n17 = 0)))
theorem tailEq (r1 r2 r3 L T k8 kA kY kz k3 b2 ks1 ks2 : Bool) : specTail r1 r2 r3 L T k8 kA kY (!L && !T && kz && !k3) b2 (ks1 && ks2) = (r1 && r2 && r3 && implTail L T k8 kA kY kz k3 b2 ks1 ks2) := by
  unfold specTail implTail
  cases r1 <;> cases r2 <;> cases r3 <;> try rfl
  cases L <;> cases T <;> try rfl
  all_goals (cases kz <;> cases k3 <;> cases b2 <;> simp)
def implHeadV (n0 o n3 n4 n6 n7 n17 : Int) (x5 x8 : List S93) (x9 : List S52) (x10 : List ByteArray) (x14 : List Int) (x15 : List S93) : Bool :=
  decide (1 ≤ o ∧ o ≤ 5) && decide (1 ≤ n0 ∧ n0 ≤ o) && diskB n3 n4 x5 && diskB n6 n7 x8 && decide (x9.length ≤ 400) && decide (x10.length ≤ 20) && decide (0 ≤ n17 ∧ n17 ≤ 1000000) && numsB x14 o && slotsB x15
theorem validEq (n0 o n3 n4 n6 n7 n13 n17 : Int) (b2 L T : Bool) (x5 : List S93) (x8 : List S93) (x9 : List S52) (x10 : List ByteArray) (x14 : List Int) (x15 : List S93) (x16 : List S83) :
    validB n0 o n3 n4 n6 n7 n13 n17 b2 L T x5 x8 x9 x10 x14 x15 x16 = (implHeadV n0 o n3 n4 n6 n7 n17 x5 x8 x9 x10 x14 x15 && (allFrom (heldAt n0 o x9) x9.length 0 && (allFrom (wishAt x10) x10.length 0 && (allFrom (ackAt x16 o) x16.length 0 && implTail L T (decide (1 ≤ n13 ∧ n13 ≤ n6)) (!decide (x16.length = 0)) (decide (0 < x14.length + x15.length)) (decide (n13 = 0)) (decide (0 < x14.length + x15.length + x16.length)) b2 (decide (x9.length + x10.length = 0)) (decide (n17 = 0)))))) := by
  unfold validB headV implHeadV wishesB acksB
  by_cases hx : x9.length ≤ 400
  · by_cases hy : x10.length ≤ 20
    · by_cases hz : 0 ≤ n17 ∧ n17 ≤ 1000000
      · have e : decide ((x9.length : Int) + (x10.length : Int) + n17 = 0) = (decide (x9.length + x10.length = 0) && decide (n17 = 0)) := by
          rw [← Bool.decide_and]
          exact decide_eq_decide.2 ⟨fun h => ⟨by omega, by omega⟩, fun h => by omega⟩
        rw [e, tailEq]
        generalize implTail _ _ _ _ _ _ _ _ _ _ = t
        generalize allFrom (heldAt n0 o x9) _ _ = a
        generalize allFrom (wishAt x10) _ _ = b
        generalize allFrom (ackAt x16 o) _ _ = c
        generalize numsB x14 o = d
        generalize slotsB x15 = s
        rw [decide_eq_true hx, decide_eq_true hy, decide_eq_true hz]
        generalize decide (1 ≤ o ∧ o ≤ 5) = p1
        generalize decide (1 ≤ n0 ∧ n0 ≤ o) = p2
        generalize diskB n3 n4 x5 = p3
        generalize diskB n6 n7 x8 = p4
        simp only [Bool.and_true, Bool.true_and]
        cases p1 <;> cases p2 <;> cases p3 <;> cases p4 <;> cases a <;> cases b <;> cases c <;> cases d <;> cases s <;> rfl
      · rw [decide_eq_false hz]; simp
    · rw [decide_eq_false hy]; simp
  · rw [decide_eq_false hx]; simp
theorem lenDec400 (n : Nat) : decide ((400 : Int) < (n : Int)) = !decide (n ≤ 400) := by
  by_cases h : n ≤ 400
  · rw [decide_eq_true h, decide_eq_false (by omega)]; rfl
  · rw [decide_eq_false h, decide_eq_true (by omega)]; rfl
theorem lenDec20 (n : Nat) : decide ((20 : Int) < (n : Int)) = !decide (n ≤ 20) := by
  by_cases h : n ≤ 20
  · rw [decide_eq_true h, decide_eq_false (by omega)]; rfl
  · rw [decide_eq_false h, decide_eq_true (by omega)]; rfl
theorem wrapSum2 {a b : Nat} (ha : a ≤ 1048576) (hb : b ≤ 1048576) : wrap64 ((a : Int) + (b : Int)) = (a : Int) + (b : Int) := wrapIn (by omega) (by omega)
theorem wrapSum3 {a b c : Nat} (ha : a ≤ 1048576) (hb : b ≤ 1048576) (hc : c ≤ 1048576) : wrap64 ((a : Int) + (b : Int) + (c : Int)) = (a : Int) + (b : Int) + (c : Int) := wrapIn (by omega) (by omega)
theorem wrapHeld {a b : Nat} {n : Int} (ha : a ≤ 1048576) (hb : b ≤ 1048576) (h : 0 ≤ n ∧ n ≤ 1000000) : wrap64 ((a : Int) + (b : Int) + n) = (a : Int) + (b : Int) + n := wrapIn (by omega) (by omega)
theorem sumPos2 (a b : Nat) : decide ((0 : Int) < (a : Int) + (b : Int)) = decide (0 < a + b) := decide_eq_decide.2 (by omega)
theorem sumPos3 (a b c : Nat) : decide ((0 : Int) < (a : Int) + (b : Int) + (c : Int)) = decide (0 < a + b + c) := decide_eq_decide.2 (by omega)
theorem sumZero2 (a b : Nat) : decide ((a : Int) + (b : Int) = 0) = decide (a + b = 0) := decide_eq_decide.2 (by omega)
theorem sumZero3 (a b c : Nat) : decide ((a : Int) + (b : Int) + (c : Int) = 0) = !decide (0 < a + b + c) := by
  by_cases h : 0 < a + b + c
  · rw [decide_eq_true h, decide_eq_false (by omega)]; rfl
  · rw [decide_eq_false h, decide_eq_true (by omega)]; rfl
theorem le63 {n : Nat} (h : n ≤ 1048576) : n ≤ 9223372036854775807 := by omega
theorem ackB (x16 : List S83) (ma : ∀ x ∈ x16, x.f1.length ≤ 1048576) : ∀ i : Nat, i < x16.length → (rd_T83 x16 i).f1.length < 1048577 ∧ (rd_T83 x16 i).f1.length ≤ 9223372036854775807 := by
  intro i hi
  have : (rd_T83 x16 i).f1.length ≤ 1048576 := by
    unfold rd_T83
    rw [getDAt hi]
    exact ma _ (List.getElem_mem hi)
  exact ⟨by omega, by omega⟩
theorem takeC {α : Type} {d : Kd α} {w : World} {A : Option Addr} {xs : List α} (h : Kd.C d w A xs.length xs) (i : Nat) (hi : i ≤ xs.length) : Kd.C d w A (xs.take i).length (xs.take i) := by
  obtain ⟨h1, h2, h3⟩ := h
  have hl : (xs.take i).length = i := by rw [List.length_take]; omega
  refine ⟨rfl, by rw [hl]; omega, fun h0 => ?_⟩
  obtain ⟨ad, ha, hc⟩ := h3 (by omega)
  exact ⟨ad, ha, fun j p hj => hc j p (by
    have hji : j < i := by have := (List.getElem?_eq_some_iff.1 hj).1; omega
    rw [List.getElem?_take_of_lt hji] at hj
    exact hj)⟩
theorem specDiskQ (p n : Int) (xs : List S93) (A : Option Addr) (c : Nat) (w : World) (hC : Kd.C k93 w A xs.length xs) (hc : xs.length ≤ c) : QC w 27 #[.agg #[.int .i64 p, .int .i64 n, .slice A xs.length c]] (diskB p n xs) := fun W hb => spec_RecDiskOk.calls (xs.length + 2) p n A c xs _ W (Kd.C_below hC hb) hc (specDiskOk p n xs _ (by omega))
theorem specNumQ (o : Int) (xs : List Int) (A : Option Addr) (c : Nat) (w : World) (hC : Kd.C (Kd.int .i64) w A xs.length xs) (hc : xs.length ≤ c) : QC w 29 #[.slice A xs.length c, .int .i64 o] (numsB xs o) := fun W hb => drawnB (spec_l2Numbers.calls (xs.length + 1) A c xs o _ W (Kd.C_below hC hb) hc (specNumbers xs o hC.2.1 _ (Nat.lt_succ_self _)))
theorem implDiskQ (p n : Int) (xs : List S93) (A : Option Addr) (c : Nat) (w : World) (hC : Kd.C k93 w A xs.length xs) (hc : xs.length ≤ c) : QC w 36 #[.agg #[.int .i64 p, .int .i64 n, .slice A xs.length c]] (diskB p n xs) := fun W hb => impl_RecDiskOk.calls (xs.length + 2) p n A c xs _ W (Kd.C_below hC hb) hc (implDiskOk p n xs _ (by omega))
theorem implNumQ (o : Int) (xs : List Int) (A : Option Addr) (c : Nat) (w : World) (hC : Kd.C (Kd.int .i64) w A xs.length xs) (hc : xs.length ≤ c) : QC w 37 #[.slice A xs.length c, .int .i64 o] (numsB xs o) := fun W hb => drawnB (impl_people.calls (xs.length + 1) A c xs o _ W (Kd.C_below hC hb) hc (implPeople xs o hC.2.1 _ (Nat.lt_succ_self _)))
set_option maxHeartbeats 4000000 in
theorem specValidC (n0 o n3 n4 n6 n7 n13 n17 : Int) (b2 L T : Bool) (x5 : List S93) (x8 : List S93) (x9 : List S52) (x10 : List ByteArray) (x14 : List Int) (x15 : List S93) (x16 : List S83) (v5 v8 v9 v10 v14 v15 v16 : Value) (w : World)
    (h5 : Sl 93 k93 w x5 v5) (b5 : x5.length ≤ 1048576)
    (h8 : Sl 93 k93 w x8 v8) (b8 : x8.length ≤ 1048576)
    (h9 : Sl 52 k52 w x9 v9) (b9 : x9.length ≤ 1048576)
    (h10 : Sl 9 Kd.string w x10 v10) (b10 : x10.length ≤ 1048576)
    (h14 : Sl 3 (Kd.int .i64) w x14 v14) (b14 : x14.length ≤ 1048576)
    (h15 : Sl 93 k93 w x15 v15) (b15 : x15.length ≤ 1048576)
    (h16 : Sl 83 k83 w x16 v16) (b16 : x16.length ≤ 1048576) (mm : ∀ x ∈ x9, x.f7.length ≤ 1048576) (ma : ∀ x ∈ x16, x.f1.length ≤ 1048576) :
    Calls Try.prog 13 #[.agg #[.int .i64 n0, .int .i64 o, .bool b2, .int .i64 n3, .int .i64 n4, v5, .int .i64 n6, .int .i64 n7, v8, v9, v10, .bool L, .bool T, .int .i64 n13, v14, v15, v16, .int .i64 n17]] w fun e w' => e = .returned (.bool (validB n0 o n3 n4 n6 n7 n13 n17 b2 L T x5 x8 x9 x10 x14 x15 x16)) ∧ Below w.heap.size w w' := by
  obtain ⟨A5, c5, rfl, l5, C5⟩ := h5
  obtain ⟨A8, c8, rfl, l8, C8⟩ := h8
  obtain ⟨A9, c9, rfl, l9, C9⟩ := h9
  obtain ⟨A10, c10, rfl, l10, C10⟩ := h10
  obtain ⟨A14, c14, rfl, l14, C14⟩ := h14
  obtain ⟨A15, c15, rfl, l15, C15⟩ := h15
  obtain ⟨A16, c16, rfl, l16, C16⟩ := h16
  have bs := wrapSum2 b14 b15
  have bt := wrapSum3 b14 b15 b16
  have bu := wrapSum2 b9 b10
  have ba := ackB x16 ma
  have Q1 := l1InQ o 1 5 w
  have Q2 := l1InQ n0 1 o w
  have Q3 := specDiskQ n3 n4 x5 A5 c5 w C5 l5
  have Q4 := specDiskQ n6 n7 x8 A8 c8 w C8 l8
  have Q6 : QC w 28 #[.slice A10 x10.length c10] (wishesB x10) := fun W hb => drawnB (spec_l2WishesOk.calls (25 * x10.length + 1) A10 c10 x10 _ W (Kd.C_below C10 hb) l10 (specWishes x10 _ (Nat.lt_succ_self _)))
  have Q7 := l1InQ n17 0 1000000 w
  have Q5 := lenDec400 x9.length
  have E3 : QC w 31 #[.slice A16 x16.length c16, .int .i64 o] (acksB x16 o) := fun W hb => acksWalk x16 A16 c16 o W (Kd.C_below C16 hb) (fun x W1 _ => drawnB (spec_l1In.calls x 1 60 _ W1 (l1In x 1 60))) (fun x A1 c1 W1 _ hC hc => drawnB (spec_l2Numbers.calls (x.length + 1) A1 c1 x o _ W1 hC hc (specNumbers x o hC.2.1 _ (Nat.lt_succ_self _)))) _ (by unfold acksB; rw [Bool.and_true])
  have Eq : QC w 32 #[.agg #[.int .i64 n0, .int .i64 o, .bool b2, .int .i64 n3, .int .i64 n4, .slice A5 x5.length c5, .int .i64 n6, .int .i64 n7, .slice A8 x8.length c8, .slice A9 x9.length c9, .slice A10 x10.length c10, .bool L, .bool T, .int .i64 n13, .slice A14 x14.length c14, .slice A15 x15.length c15, .slice A16 x16.length c16, .int .i64 n17]] (!L && !T && decide (n13 = 0) && !decide (0 < x14.length + x15.length + x16.length)) := fun W hb => quietC n0 o n3 n4 n6 n7 n13 n17 b2 L T A5 A8 A9 A10 A14 A15 A16 x5.length x8.length x9.length x10.length x14.length x15.length x16.length c5 c8 c9 c10 c14 c15 c16 W _ _ rfl (by rw [bs, bt, sumZero3])
  cases hf : headV n0 o n3 n4 n6 n7 n17 x5 x8 x9 x10 with
  | false =>
    refine (specHead n0 o n3 n4 n6 n7 n13 n17 b2 L T A5 A8 A9 A10 A14 A15 A16 x5.length x8.length x9.length x10.length x14.length x15.length x16.length c5 c8 c9 c10 c14 c15 c16 w _ _ _ _ _ _ _ hf Q1 Q2 Q3 Q4 Q5 Q6 Q7).mono fun e w' h => ?_
    have e0 : validB n0 o n3 n4 n6 n7 n13 n17 b2 L T x5 x8 x9 x10 x14 x15 x16 = false := by unfold validB; rw [hf, Bool.false_and]
    rw [e0]
    exact h
  | true =>
    have hf' := hf
    unfold headV at hf'
    simp only [Bool.and_eq_true] at hf'
    obtain ⟨⟨⟨⟨⟨⟨g1, g2⟩, g3⟩, g4⟩, g5⟩, g6⟩, g7⟩ := hf'
    rw [g1] at Q1
    rw [g2] at Q2
    rw [g3] at Q3
    rw [g4] at Q4
    rw [g6] at Q6
    rw [g7] at Q7
    have g5' := of_decide_eq_true g5
    have g7' := of_decide_eq_true g7
    have g6' : x10.length ≤ 20 := by unfold wishesB at g6; rw [Bool.and_eq_true] at g6; exact of_decide_eq_true g6.1
    exact specPass n0 o n3 n4 n6 n7 n13 n17 b2 L T A5 A8 A9 A10 A14 A15 A16 x5.length x8.length x10.length x14.length x15.length x16.length c5 c8 c9 c10 c14 c15 c16 x9 w (msgV o) C9 g5' Q1 Q2 Q3 Q4 Q6 Q7 (specMsgQ o w)
      _ _ _ _ _ _ _ _ _ (by unfold validB; rw [hf, Bool.true_and]; rfl) (specNumQ o x14 A14 c14 w C14 l14) (specSlotQ x15 A15 c15 w C15 l15) E3 (l1InQ n13 1 n6 w) Eq (by rw [Bool.not_not]) (by rw [bs, sumPos2]) (by rw [bu, wrapHeld b9 b10 g7'])
set_option maxHeartbeats 4000000 in
theorem implValidC (n0 o n3 n4 n6 n7 n13 n17 : Int) (b2 L T : Bool) (x5 : List S93) (x8 : List S93) (x9 : List S52) (x10 : List ByteArray) (x14 : List Int) (x15 : List S93) (x16 : List S83) (v5 v8 v9 v10 v14 v15 v16 : Value) (w : World)
    (h5 : Sl 93 k93 w x5 v5) (b5 : x5.length ≤ 1048576)
    (h8 : Sl 93 k93 w x8 v8) (b8 : x8.length ≤ 1048576)
    (h9 : Sl 52 k52 w x9 v9) (b9 : x9.length ≤ 1048576)
    (h10 : Sl 9 Kd.string w x10 v10) (b10 : x10.length ≤ 1048576)
    (h14 : Sl 3 (Kd.int .i64) w x14 v14) (b14 : x14.length ≤ 1048576)
    (h15 : Sl 93 k93 w x15 v15) (b15 : x15.length ≤ 1048576)
    (h16 : Sl 83 k83 w x16 v16) (b16 : x16.length ≤ 1048576) (mm : ∀ x ∈ x9, x.f7.length ≤ 1048576) (ma : ∀ x ∈ x16, x.f1.length ≤ 1048576) :
    Calls Try.prog 19 #[.agg #[.int .i64 n0, .int .i64 o, .bool b2, .int .i64 n3, .int .i64 n4, v5, .int .i64 n6, .int .i64 n7, v8, v9, v10, .bool L, .bool T, .int .i64 n13, v14, v15, v16, .int .i64 n17]] w fun e w' => e = .returned (.bool (validB n0 o n3 n4 n6 n7 n13 n17 b2 L T x5 x8 x9 x10 x14 x15 x16)) ∧ Below w.heap.size w w' := by
  obtain ⟨A5, c5, rfl, l5, C5⟩ := h5
  obtain ⟨A8, c8, rfl, l8, C8⟩ := h8
  obtain ⟨A9, c9, rfl, l9, C9⟩ := h9
  obtain ⟨A10, c10, rfl, l10, C10⟩ := h10
  obtain ⟨A14, c14, rfl, l14, C14⟩ := h14
  obtain ⟨A15, c15, rfl, l15, C15⟩ := h15
  obtain ⟨A16, c16, rfl, l16, C16⟩ := h16
  have bs := wrapSum2 b14 b15
  have bt := wrapSum3 b14 b15 b16
  have bu := wrapSum2 b9 b10
  have ba := ackB x16 ma
  have Q1 := withinQ o 1 5 w
  have Q2 := withinQ n0 1 o w
  have Q3 := implDiskQ n3 n4 x5 A5 c5 w C5 l5
  have Q4 := implDiskQ n6 n7 x8 A8 c8 w C8 l8
  have Q7 := withinQ n17 0 1000000 w
  have Q8 := implNumQ o x14 A14 c14 w C14 l14
  have Q9 := implSlotQ x15 A15 c15 w C15 l15
  have Q5 := lenDec400 x9.length
  have Q6 := lenDec20 x10.length
  rw [validEq]
  cases hf : implHeadV n0 o n3 n4 n6 n7 n17 x5 x8 x9 x10 x14 x15 with
  | false =>
    rw [Bool.false_and]
    exact implHead n0 o n3 n4 n6 n7 n13 n17 b2 L T A5 A8 A9 A10 A14 A15 A16 x5.length x8.length x9.length x10.length x14.length x15.length x16.length c5 c8 c9 c10 c14 c15 c16 w _ _ _ _ _ _ _ _ _ hf Q1 Q2 Q3 Q4 Q5 Q6 Q7 Q8 Q9
  | true =>
    have hf' := hf
    unfold implHeadV at hf'
    simp only [Bool.and_eq_true] at hf'
    obtain ⟨⟨⟨⟨⟨⟨⟨⟨g1, g2⟩, g3⟩, g4⟩, g5⟩, g6⟩, g7⟩, g8⟩, g9⟩ := hf'
    rw [g1] at Q1
    rw [g2] at Q2
    rw [g3] at Q3
    rw [g4] at Q4
    rw [g7] at Q7
    rw [g8] at Q8
    rw [g9] at Q9
    have g5' := of_decide_eq_true g5
    have g6' := of_decide_eq_true g6
    rw [Bool.true_and]
    exact implPass n0 o n3 n4 n6 n7 n13 n17 b2 L T A5 A8 A9 A10 A14 A15 A16 x5.length x8.length x14.length x15.length c5 c8 c9 c10 c14 c15 c16 x9 x10 x16 w (msgV o) C9 g5' C10 g6' l10 C16 Q1 Q2 Q3 Q4 Q7 (implMsgQ o w) Q8 Q9
      (fun x W _ => drawnB (impl_within.calls x 1 100 _ W (within x 1 100))) (fun x W _ => drawnB (impl_within.calls x 1 60 _ W (within x 1 60)))
      (fun i W hi hb => by
        have ht : (x10.take i).length = i := by rw [List.length_take]; exact Nat.min_eq_left (Nat.le_of_lt hi)
        have hC : Kd.C Kd.string W A10 (x10.take i).length (x10.take i) := takeC (Kd.C_below C10 hb) i (Nat.le_of_lt hi)
        have := slices_Contains_string_string.calls (i + 1) A10 c10 (x10.take i) (rdOf ByteArray.empty x10 (i : Int)) _ W hC (by rw [ht]; exact Nat.le_trans (Nat.le_of_lt hi) l10) (contains x10 i hi (le63 b10) _ (Nat.lt_succ_self _))
        rw [ht] at this
        exact drawnB this)
      (fun x A c W _ hC hc => drawnB (impl_people.calls (x.length + 1) A c x o _ W hC hc (implPeople x o hC.2.1 _ (Nat.lt_succ_self _))))
      _ _ _ _ _ _ _ _ rfl (withinQ n13 1 n6 w) (by rw [Bool.not_not]) (by rw [bs, sumPos2]) rfl (by rw [bs, bt, sumPos3]) (by rw [bu, sumZero2]) rfl

/-! ### worlds: the ways out of the first test, and the contracts -/
set_option maxHeartbeats 8000000 in
set_option maxRecDepth 100000 in
theorem specWokHead (A B C : Option Addr) (n m l c d e : Nat) (w : World) (k1 k2 : Bool) (hf : (k1 && k2) = false) (C1 : QC w 12 #[.int .i64 (n : Int), .int .i64 1, .int .i64 5] k1) (C2 : decide ((600 : Int) < (m : Int)) = !k2) :
    Calls Try.prog 5 #[.agg #[.slice A n c, .slice B m d, .slice C l e]] w fun e w' => e = .returned (.bool false) ∧ Below w.heap.size w w' := by
  have hu1 := Try.underlying33
  have D1 := Aside0.mk C1
  clear C1
  have HB := Aside0.mk (Below.refl w.heap.size w)
  rcases k1 with _ | _
  rotate_left; rcases k2 with _ | _
  rotate_left; · exact absurd hf (by simp)
  all_goals
    clear hf
    try simp only [Bool.not_true, Bool.not_false] at C2
    go_enter Try.func5, Try.ntmps5
    go_wp2_with (first
      | go_big_skip
      | ((with_reducible refine gate_dst (N := 1) rfl ?_); refine box_event ?hg (N := 1) ?hd (cs := #[.slice A n c, .slice B m d, .slice C l e]) (t := 33) ?hr ?_; (case hd => rfl); (case hg => rfl); (case hr => first | (go_simp; done) | (go_simp; rfl)); intro ga _hg w1 hbox hb; have n0_ := Aside0.mk (below_step HB.out hb); clear HB; have HB := n0_; clear n0_; have BA := Aside0.mk hbox; clear hb hbox _hg; have ra := blk_cell BA.out)
      | (go_at_call 12; (with_reducible refine (D1.out _ HB.out).mono ?_); rintro e_ wn ⟨rfl, hb⟩; have n0_ := Aside0.mk (below_step HB.out hb); have n1_ := Aside0.mk (blk_below BA.out hb); clear HB BA; have HB := n0_; have BA := n1_; clear n0_ n1_ ra; clear hb; have ra := blk_cell BA.out))
    go_ret
    exact ⟨rfl, HB.out⟩
set_option maxHeartbeats 8000000 in
set_option maxRecDepth 100000 in
theorem implWokHead (A B C : Option Addr) (n m l c d e : Nat) (w : World) (k1 k2 : Bool) (hf : (k1 && k2) = false) (C1 : QC w 18 #[.int .i64 (n : Int), .int .i64 1, .int .i64 5] k1) (C2 : decide ((600 : Int) < (m : Int)) = !k2) :
    Calls Try.prog 7 #[.agg #[.slice A n c, .slice B m d, .slice C l e]] w fun e w' => e = .returned (.bool false) ∧ Below w.heap.size w w' := by
  have hu1 := Try.underlying33
  have D1 := Aside0.mk C1
  clear C1
  have HB := Aside0.mk (Below.refl w.heap.size w)
  rcases k1 with _ | _
  rotate_left; rcases k2 with _ | _
  rotate_left; · exact absurd hf (by simp)
  all_goals
    clear hf
    try simp only [Bool.not_true, Bool.not_false] at C2
    go_enter Try.func7, Try.ntmps7
    go_wp2_with (first
      | go_big_skip
      | ((with_reducible refine gate_dst (N := 1) rfl ?_); refine box_event ?hg (N := 1) ?hd (cs := #[.slice A n c, .slice B m d, .slice C l e]) (t := 33) ?hr ?_; (case hd => rfl); (case hg => rfl); (case hr => first | (go_simp; done) | (go_simp; rfl)); intro ga _hg w1 hbox hb; have n0_ := Aside0.mk (below_step HB.out hb); clear HB; have HB := n0_; clear n0_; have BA := Aside0.mk hbox; clear hb hbox _hg; have ra := blk_cell BA.out)
      | (go_at_call 18; (with_reducible refine (D1.out _ HB.out).mono ?_); rintro e_ wn ⟨rfl, hb⟩; have n0_ := Aside0.mk (below_step HB.out hb); have n1_ := Aside0.mk (blk_below BA.out hb); clear HB BA; have HB := n0_; have BA := n1_; clear n0_ n1_ ra; clear hb; have ra := blk_cell BA.out))
    go_ret
    exact ⟨rfl, HB.out⟩
def validR (x : RecI) : Bool := validB x.f0 x.f1 x.f3 x.f4 x.f6 x.f7 x.f13 x.f17 x.f2 x.f11 x.f12 x.f5 x.f8 x.f9 x.f10 x.f14 x.f15 x.f16
def BXI (x : RecI) : Prop := (x.f5.length ≤ 1048576 ∧ x.f8.length ≤ 1048576 ∧ x.f9.length ≤ 1048576 ∧ x.f10.length ≤ 1048576 ∧ x.f14.length ≤ 1048576 ∧ x.f15.length ≤ 1048576 ∧ x.f16.length ≤ 1048576) ∧ (∀ m ∈ x.f9, m.f7.length ≤ 1048576) ∧ (∀ m ∈ x.f16, m.f1.length ≤ 1048576)
def worldB (xs : List RecI) (ms : List S52) (fs : List S54) : Bool := (decide (1 ≤ (xs.length : Int) ∧ (xs.length : Int) ≤ 5) && decide (ms.length ≤ 600)) && (allFrom (recAt validR xs) xs.length 0 && (allFrom (flyAt (msgV (xs.length : Int)) ms) ms.length 0 && (allFrom (fixAt fs) fs.length 0 && true)))
theorem lenDec600 (n : Nat) : decide ((600 : Int) < (n : Int)) = !decide (n ≤ 600) := by
  by_cases h : n ≤ 600
  · rw [decide_eq_true h, decide_eq_false (by omega)]; rfl
  · rw [decide_eq_false h, decide_eq_true (by omega)]; rfl
theorem bxMap {x : RecL} (h : BX x) : BXI (mRec x) := by
  obtain ⟨⟨b5, b8, b9, b10, b14, b15, b16⟩, mm, ma⟩ := h
  refine ⟨⟨?_, ?_, ?_, b10, b14, ?_, ?_⟩, fun m hm => ?_, fun m hm => ?_⟩
  · show (x.f5.map mSlot).length ≤ 1048576
    rw [List.length_map]; exact b5
  · show (x.f8.map mSlot).length ≤ 1048576
    rw [List.length_map]; exact b8
  · show (x.f9.map mMsg).length ≤ 1048576
    rw [List.length_map]; exact b9
  · show (x.f15.map mSlot).length ≤ 1048576
    rw [List.length_map]; exact b15
  · show (x.f16.map mAck).length ≤ 1048576
    rw [List.length_map]; exact b16
  · obtain ⟨y, hy, rfl⟩ := List.mem_map.1 hm
    show (y.f7.map mSlot).length ≤ 1048576
    rw [List.length_map]
    exact mm y hy
  · obtain ⟨y, hy, rfl⟩ := List.mem_map.1 hm
    exact ma y hy
theorem specVC (w : World) (xs : List RecI) (hb : ∀ x ∈ xs, BXI x) : VC w 13 xs validR := fun x hx A5 A8 A9 A10 A14 A15 A16 c5 c8 c9 c10 c14 c15 c16 h W hW =>
  specValidC x.f0 x.f1 x.f3 x.f4 x.f6 x.f7 x.f13 x.f17 x.f2 x.f11 x.f12 x.f5 x.f8 x.f9 x.f10 x.f14 x.f15 x.f16 _ _ _ _ _ _ _ W (Sl.mk h.1.1 (Kd.C_below h.1.2 hW)) (hb x hx).1.1 (Sl.mk h.2.1.1 (Kd.C_below h.2.1.2 hW)) (hb x hx).1.2.1 (Sl.mk h.2.2.1.1 (Kd.C_below h.2.2.1.2 hW)) (hb x hx).1.2.2.1 (Sl.mk h.2.2.2.1.1 (Kd.C_below h.2.2.2.1.2 hW)) (hb x hx).1.2.2.2.1 (Sl.mk h.2.2.2.2.1.1 (Kd.C_below h.2.2.2.2.1.2 hW)) (hb x hx).1.2.2.2.2.1 (Sl.mk h.2.2.2.2.2.1.1 (Kd.C_below h.2.2.2.2.2.1.2 hW)) (hb x hx).1.2.2.2.2.2.1 (Sl.mk h.2.2.2.2.2.2.1 (Kd.C_below h.2.2.2.2.2.2.2 hW)) (hb x hx).1.2.2.2.2.2.2 (hb x hx).2.1 (hb x hx).2.2
theorem specWorldC (xs : List RecI) (ms : List S52) (fs : List S54) (v1 v2 v3 : Value) (w : World) (s1 : Sl 49 kI w xs v1) (s2 : Sl 52 k52 w ms v2) (s3 : Sl 54 k54 w fs v3) (hb : ∀ x ∈ xs, BXI x) :
    Calls Try.prog 5 #[.agg #[v1, v2, v3]] w fun e w' => e = .returned (.bool (worldB xs ms fs)) ∧ Below w.heap.size w w' := by
  obtain ⟨A, c, rfl, l1, C1⟩ := s1
  obtain ⟨B, d, rfl, l2, C2⟩ := s2
  obtain ⟨C, e, rfl, l3, C3⟩ := s3
  have Q1 := l1InQ (xs.length : Int) 1 5 w
  cases hf : (decide (1 ≤ (xs.length : Int) ∧ (xs.length : Int) ≤ 5) && decide (ms.length ≤ 600)) with
  | false =>
    have e0 : worldB xs ms fs = false := by unfold worldB; rw [hf, Bool.false_and]
    rw [e0]
    exact specWokHead A B C xs.length ms.length fs.length c d e w _ _ hf Q1 (lenDec600 ms.length)
  | true =>
    have hf' := hf
    rw [Bool.and_eq_true] at hf'
    rw [hf'.1] at Q1
    exact specWok xs ms fs A B C c d e w C1 C2 C3 validR (msgV (xs.length : Int)) Q1 (of_decide_eq_true hf'.2) (specVC w xs hb) (specMsgQ (xs.length : Int) w) (fun x W _ => drawnB (spec_l1In.calls x 1 60 _ W (l1In x 1 60))) _ (by unfold worldB; rw [hf, Bool.true_and])
theorem implVC (w : World) (xs : List RecI) (hb : ∀ x ∈ xs, BXI x) : VC w 19 xs validR := fun x hx A5 A8 A9 A10 A14 A15 A16 c5 c8 c9 c10 c14 c15 c16 h W hW =>
  implValidC x.f0 x.f1 x.f3 x.f4 x.f6 x.f7 x.f13 x.f17 x.f2 x.f11 x.f12 x.f5 x.f8 x.f9 x.f10 x.f14 x.f15 x.f16 _ _ _ _ _ _ _ W (Sl.mk h.1.1 (Kd.C_below h.1.2 hW)) (hb x hx).1.1 (Sl.mk h.2.1.1 (Kd.C_below h.2.1.2 hW)) (hb x hx).1.2.1 (Sl.mk h.2.2.1.1 (Kd.C_below h.2.2.1.2 hW)) (hb x hx).1.2.2.1 (Sl.mk h.2.2.2.1.1 (Kd.C_below h.2.2.2.1.2 hW)) (hb x hx).1.2.2.2.1 (Sl.mk h.2.2.2.2.1.1 (Kd.C_below h.2.2.2.2.1.2 hW)) (hb x hx).1.2.2.2.2.1 (Sl.mk h.2.2.2.2.2.1.1 (Kd.C_below h.2.2.2.2.2.1.2 hW)) (hb x hx).1.2.2.2.2.2.1 (Sl.mk h.2.2.2.2.2.2.1 (Kd.C_below h.2.2.2.2.2.2.2 hW)) (hb x hx).1.2.2.2.2.2.2 (hb x hx).2.1 (hb x hx).2.2
theorem implWorldC (xs : List RecI) (ms : List S52) (fs : List S54) (v1 v2 v3 : Value) (w : World) (s1 : Sl 49 kI w xs v1) (s2 : Sl 52 k52 w ms v2) (s3 : Sl 54 k54 w fs v3) (hb : ∀ x ∈ xs, BXI x) :
    Calls Try.prog 7 #[.agg #[v1, v2, v3]] w fun e w' => e = .returned (.bool (worldB xs ms fs)) ∧ Below w.heap.size w w' := by
  obtain ⟨A, c, rfl, l1, C1⟩ := s1
  obtain ⟨B, d, rfl, l2, C2⟩ := s2
  obtain ⟨C, e, rfl, l3, C3⟩ := s3
  have Q1 := withinQ (xs.length : Int) 1 5 w
  cases hf : (decide (1 ≤ (xs.length : Int) ∧ (xs.length : Int) ≤ 5) && decide (ms.length ≤ 600)) with
  | false =>
    have e0 : worldB xs ms fs = false := by unfold worldB; rw [hf, Bool.false_and]
    rw [e0]
    exact implWokHead A B C xs.length ms.length fs.length c d e w _ _ hf Q1 (lenDec600 ms.length)
  | true =>
    have hf' := hf
    rw [Bool.and_eq_true] at hf'
    rw [hf'.1] at Q1
    exact implWok xs ms fs A B C c d e w C1 C2 C3 validR (msgV (xs.length : Int)) Q1 (of_decide_eq_true hf'.2) (implVC w xs hb) (implMsgQ (xs.length : Int) w) (fun x W _ => drawnB (impl_within.calls x 1 60 _ W (within x 1 60))) _ (by unfold worldB; rw [hf, Bool.true_and])
def wlaw.r10.T : Bool × List (List Nat × List Nat) := (true, [([], []), ([], []), ([1], [1]), ([0, 2, 2], [0, 2]), ([3], [3])])
def wlaw.r10.B : List Nat := [0, 0, 2, 7, 15]
theorem wlaw.r10.tab : rtab .any (opsOf Try.f3 10) = wlaw.r10.T := by kernel_rfl
theorem wlaw.r10.bits : waitsOk wlaw.r10.T.2 wlaw.r10.B = true := by kernel_rfl
theorem Sl.one {α : Type} {e : Nat} {d : Kd α} {w : World} {x : List α} {v : Value} (h : Sl e d w x v) : v.oneCell' = true := by
  obtain ⟨A, c, rfl, _⟩ := h
  rfl
theorem eqWorldS (xs : List RecI) (ms : List S52) (fs : List S54) (v1 v2 v3 y1 y2 y3 : Value) (w : World) (s1 : Sl 49 kI w xs v1) (s2 : Sl 52 k52 w ms v2) (s3 : Sl 54 k54 w fs v3) (t1 : Sl 49 kI w xs y1) (t2 : Sl 52 k52 w ms y2) (t3 : Sl 54 k54 w fs y3) :
    Calls Try.prog 8 #[.agg #[v1, v2, v3], .agg #[y1, y2, y3]] w fun e w' => e = .returned (.bool true) ∧ Below w.heap.size w w' := by
  obtain ⟨A, c, rfl, l1, C1⟩ := s1
  obtain ⟨B, d, rfl, l2, C2⟩ := s2
  obtain ⟨C, e, rfl, l3, C3⟩ := s3
  obtain ⟨A', c', rfl, l1', C1'⟩ := t1
  obtain ⟨B', d', rfl, l2', C2'⟩ := t2
  obtain ⟨C', e', rfl, l3', C3'⟩ := t3
  exact eqWorldC xs ms fs A A' B B' C C' c c' d d' e e' w C1 C1' C2 C2' C3 C3' l2 l2' l3 l3'
set_option maxHeartbeats 16000000 in
set_option maxRecDepth 100000 in
theorem law (xs : List RecL) (ms : List S70) (fs : List S72) (A B C : Option Addr) (c d e : Nat) (w : World) (h1 : Kd.C kL w A xs.length xs) (hw : ∀ x ∈ xs, WFr x) (h2 : Kd.C k70 w B ms.length ms) (l2 : ms.length ≤ d) (m2 : ms.length ≤ maxLen) (f2 : ∀ m ∈ ms, m.f6.size ≤ maxLen ∧ m.f7.length ≤ maxLen ∧ ∀ y ∈ m.f7, y.f1.size ≤ maxLen)
    (h3 : Kd.C k72 w C fs.length fs) (l3 : fs.length ≤ e) (m3 : fs.length ≤ maxLen) (f3 : ∀ f ∈ fs, f.f1.size ≤ maxLen) :
    Calls Try.prog 3 #[.agg #[.slice A xs.length c, .slice B ms.length d, .slice C fs.length e]] w fun e w' => e = .returned (.bool true) ∧ Below w.heap.size w w' := by
  have hu1 := Try.underlying26
  have hu2 := Try.underlying33
  have H := Aside0.mk (And.intro h1 (And.intro h2 h3))
  have HX := Aside0.mk (And.intro hw (And.intro l2 (And.intro m2 (And.intro f2 (And.intro l3 (And.intro m3 f3))))))
  clear h1 h2 h3 hw l2 m2 f2 l3 m3 f3
  have HB := Aside0.mk (Below.refl w.heap.size w)
  go_enter Try.func3, Try.ntmps3
  go_upto_region 3 with (first
    | ((with_reducible refine gate_dst (N := 1) rfl ?_); refine box_event ?hg (N := 1) ?hd (cs := #[.slice A xs.length c, .slice B ms.length d, .slice C fs.length e]) (t := 26) ?hr ?_; (case hd => rfl); (case hg => rfl); (case hr => first | (go_simp; done) | (go_simp; rfl)); intro gp _hg w1 hbox hb; have n_ := Aside0.mk (below_step HB.out hb); clear HB; have HB := n_; clear n_; have BP := Aside0.mk hbox; clear hb hbox _hg)
    | (((with_reducible refine gate_load (t := 26) (p := 1) rfl ?_); refine load_row (ty := 26) (t := 26) (g := gp) (cs := #[.slice A xs.length c, .slice B ms.length d, .slice C fs.length e]) rfl rfl rfl BP.out Try.underlying26 rfl (by kernel_rfl) ?_))
    | (go_at_call 4; (with_reducible refine (szWorldC xs ms fs A B C c d e _ (Kd.C_below H.out.1 HB.out) HX.out.1 (Kd.C_below H.out.2.1 HB.out) HX.out.2.1 HX.out.2.2.1 HX.out.2.2.2.1 (Kd.C_below H.out.2.2 HB.out) HX.out.2.2.2.2.1 HX.out.2.2.2.2.2.1 HX.out.2.2.2.2.2.2).mono ?_); rintro e_ wn ⟨r, rfl, hr, hb⟩; have n_ := Aside0.mk (below_step HB.out hb); clear HB; have HB := n_; clear n_; have n_ := Aside0.mk (blk_below BP.out hb); clear BP; have BP := n_; clear n_; have HRr := Aside0.mk hr; clear hr hb))
  by_cases hneg : r < 0
  · have hd : decide (r < 0) = true := decide_eq_true hneg
    clear hneg
    go_wp2
    go_ret
    exact ⟨rfl, HB.out⟩
  have hd : decide (r < 0) = false := decide_eq_false hneg
  obtain ⟨⟨n1, bx⟩, ⟨n2, bm⟩, n3⟩ := HRr.out (Int.not_lt.1 hneg)
  have HT := Aside0.mk (fun (W_ : World) (hb_ : Below w.heap.size w W_) => toWorldC xs ms fs A B C c d e W_ (Kd.C_below H.out.1 hb_) n1 bx (Kd.C_below H.out.2.1 hb_) HX.out.2.1 n2 bm (Kd.C_below H.out.2.2 hb_) HX.out.2.2.2.2.1 n3)
  have HBX := Aside0.mk (show ∀ x ∈ xs.map mRec, BXI x from fun x hx => by obtain ⟨y, hy, rfl⟩ := List.mem_map.1 hx; exact bxMap (bx y hy))
  clear hneg n1 bx n2 bm n3 HRr
  have HSv := Aside0.mk trivial
  have HW := Aside0.mk trivial
  go_upto_region 10 with (first
    | (((with_reducible refine gate_load (t := 26) (p := 1) rfl ?_); refine load_row (ty := 26) (t := 26) (g := gp) (cs := #[.slice A xs.length c, .slice B ms.length d, .slice C fs.length e]) rfl rfl rfl BP.out Try.underlying26 rfl (by kernel_rfl) ?_))
    | (go_at_call 6; (with_reducible refine (HT.out _ HB.out).mono ?_); rintro e_ wn ⟨v1, v2, v3, rfl, hs, hb⟩; have n_ := Aside0.mk (below_step HB.out hb); clear HB; have HB := n_; clear n_; have n_ := Aside0.mk (blk_below BP.out hb); clear BP; have BP := n_; clear n_; clear HSv HW; have HSv := Aside0.mk hs; have HW := Aside0.mk (Below.refl wn.heap.size wn); clear hs hb)
    | (go_at_call 5; (with_reducible refine (specWorldC (xs.map mRec) (ms.map mMsg) (fs.map mFix) _ _ _ _ (Sl.below HSv.out.1 HW.out) (Sl.below HSv.out.2.1 HW.out) (Sl.below HSv.out.2.2 HW.out) HBX.out).mono ?_); rintro e_ wn ⟨rfl, hb⟩; have n_ := Aside0.mk (below_step HB.out hb); clear HB; have HB := n_; clear n_; have n_ := Aside0.mk (blk_below BP.out hb); clear BP; have BP := n_; clear n_; (try (have n_ := Aside0.mk (blk_below BK.out hb); clear BK; have BK := n_; clear n_)); (try (have n_ := Aside0.mk (below_step HW.out hb); clear HW; have HW := n_; clear n_)); clear hb)
    | (go_at_call 7; (with_reducible refine (implWorldC (xs.map mRec) (ms.map mMsg) (fs.map mFix) _ _ _ _ (Sl.below HSv.out.1 HW.out) (Sl.below HSv.out.2.1 HW.out) (Sl.below HSv.out.2.2 HW.out) HBX.out).mono ?_); rintro e_ wn ⟨rfl, hb⟩; have n_ := Aside0.mk (below_step HB.out hb); clear HB; have HB := n_; clear n_; have n_ := Aside0.mk (blk_below BP.out hb); clear BP; have BP := n_; clear n_; (try (have n_ := Aside0.mk (blk_below BK.out hb); clear BK; have BK := n_; clear n_)); (try (have n_ := Aside0.mk (below_step HW.out hb); clear HW; have HW := n_; clear n_)); clear hb)
    | ((with_reducible refine gate_dst (N := 5) rfl ?_); refine box_event ?hg (N := 5) ?hd (cs := #[.slice none 0 0, .slice none 0 0, .slice none 0 0]) (t := 33) ?hr ?_; (case hd => rfl); (case hg => rfl); (case hr => first | (go_simp; done) | (go_simp; rfl)); intro gK hgK wK hbox hb; have GEK := Aside0.mk (Nat.le_trans (below_size HB.out) (Nat.le_of_eq hgK.symm)); have GWK := Aside0.mk (Nat.le_trans (below_size HW.out) (Nat.le_of_eq hgK.symm)); have nePK := Aside0.mk (Nat.ne_of_lt (Nat.lt_of_lt_of_le (blk_lt BP.out) (Nat.le_of_eq hgK.symm))); have n_ := Aside0.mk (below_step HB.out hb); clear HB; have HB := n_; clear n_; have n_ := Aside0.mk (blk_below BP.out hb); clear BP; have BP := n_; clear n_; have n_ := Aside0.mk (below_step HW.out hb); clear HW; have HW := n_; clear n_; have BK := Aside0.mk hbox; clear hb hbox hgK)
    | ((with_reducible refine gate_store (t := 33) (p := 5) (v := .tmp 16) rfl ?_); refine store_row (ty := 33) (t := 33) (g := gK) (cells := #[v1, v2, v3]) (old := #[.slice none 0 0, .slice none 0 0, .slice none 0 0]) rfl rfl rfl rfl rfl BK.out (by kernel_rfl) rfl (by simp only [List.all_cons, List.all_nil, List.toList_toArray, Sl.one HSv.out.1, Sl.one HSv.out.2.1, Sl.one HSv.out.2.2, Bool.and_true]) ?_; intro w9 hbox hg; have n_ := Aside0.mk (below_grow HB.out hg GEK.out); clear HB; have HB := n_; clear n_; have n_ := Aside0.mk (below_grow HW.out hg GWK.out); clear HW; have HW := n_; clear n_; have n_ := Aside0.mk (blk_grown BP.out hg (fun e_ => nePK.out (Option.some.inj e_))); clear BP; have BP := n_; clear n_; clear BK; have BK := Aside0.mk hbox; clear hbox hg)
    | (((with_reducible refine gate_load (t := 33) (p := 5) rfl ?_); refine load_row (ty := 33) (t := 33) (g := gK) (cs := #[v1, v2, v3]) rfl rfl rfl BK.out Try.underlying33 rfl (by kernel_rfl) ?_)))
  have hbd : Below wn.heap.size wn wn.drew := below_drew1 (Below.refl _ wn)
  have dK := blk_below BK.out hbd
  have dP := blk_below BP.out hbd
  refine start_ (n := 5) (S := (fun w' => w'.heap[gK]? = some (.cells #[v1, v2, v3] 33 (0, 0)) ∧ w'.heap[gp]? = some (.cells #[.slice A xs.length c, .slice B ms.length d, .slice C fs.length e] 26 (0, 0)))) (ds := []) #[O,O,O,O,O] (by kernel_rfl) rfl rfl ⟨dK, dP⟩ (fun hHeld => ?_); refine with_tabW wlaw.r10.tab wlaw.r10.bits (fun HT_ HW_ => ?_)
  refine take_ (i := 0) (N := some 22) (v := ?_) (a' := ?_) #[I,O,O,O,O] rfl rfl (take_ofW HT_.out HW_.out (by kernel_rfl)) (fun _ _ _ h => h) (Or.inl ⟨by rfl, ?_⟩) hHeld ?_ ?_
  rotate_left
  · rintro w' ⟨s0, s1⟩
    refine run_load_box (x := .tmp 5) ?_ ?_ s0 Try.underlying33 rfl (by kernel_rfl) <;> rfl
  rotate_left
  · simp only [Act.put, List.setIfInBounds_toArray, List.set_cons_zero, List.set_cons_succ, i64_w, i32_w]
    rfl
  refine take_ (i := 1) (N := some 23) (v := ?_) (a' := ?_) #[I,I,O,O,O] rfl rfl (take_ofW HT_.out HW_.out (by kernel_rfl)) (fun _ _ _ h => h) (Or.inl ⟨by rfl, ?_⟩) hHeld ?_ ?_
  rotate_left
  · rintro w' ⟨s0, s1⟩
    refine run_load_box (x := .tmp 1) ?_ ?_ s1 Try.underlying26 rfl (by kernel_rfl) <;> rfl
  rotate_left
  · simp only [Act.put, List.setIfInBounds_toArray, List.set_cons_zero, List.set_cons_succ, i64_w, i32_w]
    rfl
  refine one_ (i := 2) (N := some 24) #[I,I,I,O,O] rfl rfl (one_of HT_.out (by kernel_rfl)) (by decide) (fun K hK => ?_)
  refine goes_ Try.func6 (by kernel_rfl) rfl #[.agg #[.slice A xs.length c, .slice B ms.length d, .slice C fs.length e]] (by rfl) rfl rfl (by (try simp only [List.map_toArray, List.map_cons, List.map_nil]); first | done | rfl) ?_
  with_reducible refine (HT.out _ (below_step HB.out hbd)).mono ?_
  rintro e_ wm ⟨y1, y2, y3, rfl, hy, hb⟩
  have hb2 := below_step hbd hb
  have mK := blk_below BK.out hb2
  have mP := blk_below BP.out hb2
  refine ⟨_, rfl, ?_⟩
  refine hK.out _ _ ⟨mK, mP⟩ (fun hHeld => ?_)
  clear hK K
  refine norm_ (a' := ?_) ?_ ?_
  rotate_left
  · show Act.put _ (some 24) _ = _
    simp only [Act.put, List.setIfInBounds_toArray, List.set_cons_zero, List.set_cons_succ, i64_w, i32_w]
    rfl
  refine one_ (i := 3) (N := some 25) #[I,I,I,I,O] rfl rfl (one_of HT_.out (by kernel_rfl)) (by decide) (fun K hK => ?_)
  refine goes_ Try.func8 (by kernel_rfl) rfl #[.agg #[v1, v2, v3], .agg #[y1, y2, y3]] (by rfl) rfl rfl (by (try simp only [List.map_toArray, List.map_cons, List.map_nil]); first | done | rfl) ?_
  with_reducible refine (eqWorldS (xs.map mRec) (ms.map mMsg) (fs.map mFix) v1 v2 v3 y1 y2 y3 wm (Sl.below HSv.out.1 (below_step HW.out hb2)) (Sl.below HSv.out.2.1 (below_step HW.out hb2)) (Sl.below HSv.out.2.2 (below_step HW.out hb2)) hy.1 hy.2.1 hy.2.2).mono ?_
  rintro e_ wz ⟨rfl, hbz⟩
  have hb3 := below_step hb2 hbz
  have zK := blk_below BK.out hb3
  have zP := blk_below BP.out hb3
  refine ⟨_, rfl, ?_⟩
  refine hK.out _ _ ⟨zK, zP⟩ (fun hHeld => ?_)
  clear hK K
  refine norm_ (a' := ?_) ?_ ?_
  rotate_left
  · show Act.put _ (some 25) _ = _
    simp only [Act.put, List.setIfInBounds_toArray, List.set_cons_zero, List.set_cons_succ, i64_w, i32_w]
    rfl
  refine pure_ (i := 4) (N := some 26) (v := ?_) (a' := ?_) #[I,I,I,I,I] rfl rfl (any_of HT_.out (by kernel_rfl)) (fun _ _ _ h => h) (Or.inl ⟨by rfl, ?_⟩) ?_ ?_
  rotate_left; intro w'; go_simp; with_reducible rfl; rotate_left; simp only [Act.put, List.setIfInBounds_toArray, List.set_cons_zero, List.set_cons_succ, i64_w, i32_w]; rfl
  refine done_ (done_of HT_.out (by kernel_rfl)) ?_
  go_wp2
  go_ret
  exact ⟨rfl, below_step HB.out hb3⟩

end Go.Proofs.Ytjkhlhopfaapmaa.QFnExactRecWorldOk
