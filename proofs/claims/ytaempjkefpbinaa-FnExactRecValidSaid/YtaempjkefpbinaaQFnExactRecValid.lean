/- The law on RecValid at every recorder; conditions: its slices are readable. -/
import Derived.Test.YtaempjkefpbinaaQFnExactRecValidb
import Derived.Test.YtaempjkefpbinaaQFnExactRecValidc
import Derived.Test.YtaempjkefpbinaaQFnExactRecValidd
namespace Go.Proofs.Ytaempjkefpbinaa.QFnExactRecValid
open Go.RowKit Go.Proofs.Ytaempjkefpbinaa.PFnExactRecValid Go.Proofs.YtaempjkefpbinaaW.PrintWords Go.Proofs.YtaempjkefpbinaaW.PrintLast Go.Proofs.YtaempjkefpbinaaW.PrintMore Go.Proofs.Ytaempjkefpbinaa.Pb Go.Proofs.Ytaempjkefpbinaa.Op Go.Proofs.Ytaempjkefpbinaa.Wk
set_option linter.unusedSimpArgs false
set_option linter.unusedVariables false

/-! ### impl.RecValid: the ways out of its first test -/
set_option maxHeartbeats 8000000 in
set_option maxRecDepth 100000 in
theorem implHead (n0 o n3 n4 n6 n7 n13 n17 : Int) (b2 L T : Bool) (A5 A8 A9 A10 A14 A15 A16 : Option Addr) (m5 m8 m9 m10 m14 m15 m16 c5 c8 c9 c10 c14 c15 c16 : Nat) (w : World)
    (k1 k2 k3 k4 k5 k6 k7 k8 k9 : Bool) (hf : (k1 && k2 && k3 && k4 && k5 && k6 && k7 && k8 && k9) = false)
    (C1 : QC w 29 #[.int .i64 o, .int .i64 1, .int .i64 5] k1) (C2 : QC w 29 #[.int .i64 n0, .int .i64 1, .int .i64 o] k2)
    (C3 : QC w 30 #[.agg #[.int .i64 n3, .int .i64 n4, .slice A5 m5 c5]] k3) (C4 : QC w 30 #[.agg #[.int .i64 n6, .int .i64 n7, .slice A8 m8 c8]] k4)
    (C5 : decide ((400 : Int) < (m9 : Int)) = !k5) (C6 : decide ((20 : Int) < (m10 : Int)) = !k6) (C7 : QC w 29 #[.int .i64 n17, .int .i64 0, .int .i64 1000000] k7)
    (C8 : QC w 31 #[.slice A14 m14 c14, .int .i64 o] k8) (C9 : QC w 32 #[.slice A15 m15 c15] k9) :
    Calls Try.prog 7 #[.agg #[.int .i64 n0, .int .i64 o, .bool b2, .int .i64 n3, .int .i64 n4, .slice A5 m5 c5, .int .i64 n6, .int .i64 n7, .slice A8 m8 c8, .slice A9 m9 c9, .slice A10 m10 c10, .bool L, .bool T, .int .i64 n13, .slice A14 m14 c14, .slice A15 m15 c15, .slice A16 m16 c16, .int .i64 n17]] w fun e w' => e = .returned (.bool false) ∧ Below w.heap.size w w' := by
  have hu1 := Try.underlying39
  have hu2 := Try.underlying35
  have D1 := Aside0.mk C1
  have D2 := Aside0.mk C2
  have D3 := Aside0.mk C3
  have D4 := Aside0.mk C4
  have D7 := Aside0.mk C7
  have D8 := Aside0.mk C8
  have D9 := Aside0.mk C9
  clear C1 C2 C3 C4 C7 C8 C9
  have HB := Aside0.mk (Below.refl w.heap.size w)
  rcases k1 with _ | _
  rotate_left; rcases k2 with _ | _
  rotate_left; rcases k3 with _ | _
  rotate_left; rcases k4 with _ | _
  rotate_left; rcases k5 with _ | _
  rotate_left; rcases k6 with _ | _
  rotate_left; rcases k7 with _ | _
  rotate_left; rcases k8 with _ | _
  rotate_left; rcases k9 with _ | _
  rotate_left; · exact absurd hf (by simp)
  all_goals
    clear hf
    try simp only [Bool.not_true, Bool.not_false] at C5 C6
    go_enter Try.func7, Try.ntmps7
    go_wp2_with (first
      | go_big_skip
      | ((with_reducible refine gate_dst (N := 1) rfl ?_); refine box_event ?hg (N := 1) ?hd (cs := #[.int .i64 n0, .int .i64 o, .bool b2, .int .i64 n3, .int .i64 n4, .slice A5 m5 c5, .int .i64 n6, .int .i64 n7, .slice A8 m8 c8, .slice A9 m9 c9, .slice A10 m10 c10, .bool L, .bool T, .int .i64 n13, .slice A14 m14 c14, .slice A15 m15 c15, .slice A16 m16 c16, .int .i64 n17]) (t := 39) ?hr ?_; (case hd => rfl); (case hg => rfl); (case hr => first | (go_simp; done) | (go_simp; rfl)); intro ga _hg w1 hbox hb; have n0_ := Aside0.mk (below_step HB.out hb); clear HB; have HB := n0_; clear n0_; have BA := Aside0.mk hbox; clear hb hbox _hg; have ra := blk_cell BA.out)
      | ((first
          | (go_at_call 29; (first | (with_reducible refine (D1.out _ HB.out).mono ?_) | (with_reducible refine (D2.out _ HB.out).mono ?_) | (with_reducible refine (D7.out _ HB.out).mono ?_)))
          | (go_at_call 30; (first | (with_reducible refine (D3.out _ HB.out).mono ?_) | (with_reducible refine (D4.out _ HB.out).mono ?_)))
          | (go_at_call 31; (with_reducible refine (D8.out _ HB.out).mono ?_))
          | (go_at_call 32; (with_reducible refine (D9.out _ HB.out).mono ?_)));
         rintro e wn ⟨rfl, hb⟩; have n0_ := Aside0.mk (below_step HB.out hb); have n1_ := Aside0.mk (blk_below BA.out hb); clear HB BA; have HB := n0_; have BA := n1_; clear n0_ n1_ ra; clear hb; have ra := blk_cell BA.out))
    go_ret
    exact ⟨rfl, HB.out⟩

/-! ### a recorder that is valid -/
def msgV (o : Int) (x : S54) : Bool := msgB x.f0 x.f1 x.f2 x.f3 x.f4 x.f5 x.f6 x.f7 o
def heldAt (n0 o : Int) (ms : List S54) (j : Nat) : Bool := msgV o (rd_T54 ms (j : Int)) && decide ((rd_T54 ms (j : Int)).f1 = n0)
def headV (n0 o n3 n4 n6 n7 n17 : Int) (x5 x8 : List S81) (x9 : List S54) (x10 : List ByteArray) : Bool :=
  decide (1 ≤ o ∧ o ≤ 5) && decide (1 ≤ n0 ∧ n0 ≤ o) && diskB n3 n4 x5 && diskB n6 n7 x8 && decide (x9.length ≤ 400) && wishesB x10 && decide (0 ≤ n17 ∧ n17 ≤ 1000000)
def validB (n0 o n3 n4 n6 n7 n13 n17 : Int) (b2 L T : Bool) (x5 : List S81) (x8 : List S81) (x9 : List S54) (x10 : List ByteArray) (x14 : List Int) (x15 : List S81) (x16 : List S66) : Bool :=
  headV n0 o n3 n4 n6 n7 n17 x5 x8 x9 x10 && (allFrom (heldAt n0 o x9) x9.length 0 && specTail (numsB x14 o) (slotsB x15) (acksB x16 o) L T (decide (1 ≤ n13 ∧ n13 ≤ n6)) (!decide (x16.length = 0)) (decide (0 < x14.length + x15.length))
    (!L && !T && decide (n13 = 0) && !decide (0 < x14.length + x15.length + x16.length)) b2 (decide ((x9.length : Int) + (x10.length : Int) + n17 = 0)))
theorem tailEq (r1 r2 r3 L T k8 kA kY kz k3 b2 ks1 ks2 : Bool) : specTail r1 r2 r3 L T k8 kA kY (!L && !T && kz && !k3) b2 (ks1 && ks2) = (r1 && r2 && r3 && implTail L T k8 kA kY kz k3 b2 ks1 ks2) := by
  unfold specTail implTail
  cases r1 <;> cases r2 <;> cases r3 <;> try rfl
  cases L <;> cases T <;> try rfl
  all_goals (cases kz <;> cases k3 <;> cases b2 <;> simp)
def implHeadV (n0 o n3 n4 n6 n7 n17 : Int) (x5 x8 : List S81) (x9 : List S54) (x10 : List ByteArray) (x14 : List Int) (x15 : List S81) : Bool :=
  decide (1 ≤ o ∧ o ≤ 5) && decide (1 ≤ n0 ∧ n0 ≤ o) && diskB n3 n4 x5 && diskB n6 n7 x8 && decide (x9.length ≤ 400) && decide (x10.length ≤ 20) && decide (0 ≤ n17 ∧ n17 ≤ 1000000) && numsB x14 o && slotsB x15
theorem validEq (n0 o n3 n4 n6 n7 n13 n17 : Int) (b2 L T : Bool) (x5 : List S81) (x8 : List S81) (x9 : List S54) (x10 : List ByteArray) (x14 : List Int) (x15 : List S81) (x16 : List S66) :
    validB n0 o n3 n4 n6 n7 n13 n17 b2 L T x5 x8 x9 x10 x14 x15 x16 = (implHeadV n0 o n3 n4 n6 n7 n17 x5 x8 x9 x10 x14 x15 && (allFrom (heldAt n0 o x9) x9.length 0 && (allFrom (wishAt x10) x10.length 0 && (allFrom (ackAt x16 o) x16.length 0 && implTail L T (decide (1 ≤ n13 ∧ n13 ≤ n6)) (!decide (x16.length = 0)) (decide (0 < x14.length + x15.length)) (decide (n13 = 0)) (decide (0 < x14.length + x15.length + x16.length)) b2 (decide (x9.length + x10.length = 0)) (decide (n17 = 0)))))) := by
  unfold validB headV implHeadV wishesB acksB
  by_cases hx : x9.length ≤ 400
  · by_cases hy : x10.length ≤ 20
    · by_cases hz : 0 ≤ n17 ∧ n17 ≤ 1000000
      · have e : decide ((x9.length : Int) + (x10.length : Int) + n17 = 0) = (decide (x9.length + x10.length = 0) && decide (n17 = 0)) := by
          rw [← Bool.decide_and]
          exact decide_eq_decide.2 ⟨fun h => ⟨by omega, by omega⟩, fun h => by omega⟩
        rw [e, tailEq]
        generalize implTail _ _ _ _ _ _ _ _ _ _ = t
        generalize allFrom (heldAt n0 o x9) _ _ = a
        generalize allFrom (wishAt x10) _ _ = b
        generalize allFrom (ackAt x16 o) _ _ = c
        generalize numsB x14 o = d
        generalize slotsB x15 = s
        rw [decide_eq_true hx, decide_eq_true hy, decide_eq_true hz]
        generalize decide (1 ≤ o ∧ o ≤ 5) = p1
        generalize decide (1 ≤ n0 ∧ n0 ≤ o) = p2
        generalize diskB n3 n4 x5 = p3
        generalize diskB n6 n7 x8 = p4
        simp only [Bool.and_true, Bool.true_and]
        cases p1 <;> cases p2 <;> cases p3 <;> cases p4 <;> cases a <;> cases b <;> cases c <;> cases d <;> cases s <;> rfl
      · rw [decide_eq_false hz]; simp
    · rw [decide_eq_false hy]; simp
  · rw [decide_eq_false hx]; simp
theorem drawnB {P : Program} {f : FuncId} {args : Array Value} {w : World} {v : Value} (h : Calls P f args w fun e w' => e = .returned v ∧ Drawn0 w w') : Calls P f args w fun e w' => e = .returned v ∧ Below w.heap.size w w' := h.mono fun _ _ ⟨h1, h2⟩ => ⟨h1, h2.below⟩
theorem lenDec400 (n : Nat) : decide ((400 : Int) < (n : Int)) = !decide (n ≤ 400) := by
  by_cases h : n ≤ 400
  · rw [decide_eq_true h, decide_eq_false (by omega)]; rfl
  · rw [decide_eq_false h, decide_eq_true (by omega)]; rfl
theorem lenDec20 (n : Nat) : decide ((20 : Int) < (n : Int)) = !decide (n ≤ 20) := by
  by_cases h : n ≤ 20
  · rw [decide_eq_true h, decide_eq_false (by omega)]; rfl
  · rw [decide_eq_false h, decide_eq_true (by omega)]; rfl
theorem wrapSum2 {a b : Nat} (ha : a ≤ 1048576) (hb : b ≤ 1048576) : wrap64 ((a : Int) + (b : Int)) = (a : Int) + (b : Int) := wrapIn (by omega) (by omega)
theorem wrapSum3 {a b c : Nat} (ha : a ≤ 1048576) (hb : b ≤ 1048576) (hc : c ≤ 1048576) : wrap64 ((a : Int) + (b : Int) + (c : Int)) = (a : Int) + (b : Int) + (c : Int) := wrapIn (by omega) (by omega)
theorem wrapHeld {a b : Nat} {n : Int} (ha : a ≤ 1048576) (hb : b ≤ 1048576) (h : 0 ≤ n ∧ n ≤ 1000000) : wrap64 ((a : Int) + (b : Int) + n) = (a : Int) + (b : Int) + n := wrapIn (by omega) (by omega)
theorem sumPos2 (a b : Nat) : decide ((0 : Int) < (a : Int) + (b : Int)) = decide (0 < a + b) := decide_eq_decide.2 (by omega)
theorem sumPos3 (a b c : Nat) : decide ((0 : Int) < (a : Int) + (b : Int) + (c : Int)) = decide (0 < a + b + c) := decide_eq_decide.2 (by omega)
theorem sumZero2 (a b : Nat) : decide ((a : Int) + (b : Int) = 0) = decide (a + b = 0) := decide_eq_decide.2 (by omega)
theorem le63 {n : Nat} (h : n ≤ 1048576) : n ≤ 9223372036854775807 := by omega
theorem ackB (x16 : List S66) (ma : ∀ x ∈ x16, x.f1.length ≤ 1048576) : ∀ i : Nat, i < x16.length → (rd_T66 x16 i).f1.length < 1048577 ∧ (rd_T66 x16 i).f1.length ≤ 9223372036854775807 := by
  intro i hi
  have : (rd_T66 x16 i).f1.length ≤ 1048576 := by
    unfold rd_T66
    rw [getDAt hi]
    exact ma _ (List.getElem_mem hi)
  exact ⟨by omega, by omega⟩
theorem quietEq (n0 o n3 n4 n6 n7 n13 n17 : Int) (b2 L T : Bool) (x5 x8 : List S81) (x9 : List S54) (x10 : List ByteArray) (x14 : List Int) (x15 : List S81) (x16 : List S66) (b14 : x14.length ≤ 1048576) (b15 : x15.length ≤ 1048576) (b16 : x16.length ≤ 1048576) :
    spec_l2Quiet.f n0 o b2 n3 n4 x5 n6 n7 x8 x9 x10 L T n13 x14 x15 x16 n17 = some (!L && !T && decide (n13 = 0) && !decide (0 < x14.length + x15.length + x16.length)) := by
  unfold spec_l2Quiet.f
  rw [wrapSum2 b14 b15, wrapSum3 b14 b15 b16]
  cases L
  · cases T
    · by_cases h : n13 = 0
      · rw [if_neg (by simp), if_neg (by simp), if_pos h, decide_eq_true h]
        congr 1
        by_cases hh : 0 < x14.length + x15.length + x16.length
        · rw [decide_eq_true hh, beq_eq_false_iff_ne.2 (by omega)]; rfl
        · rw [decide_eq_false hh, beq_iff_eq.2 (by omega)]; rfl
      · rw [if_neg (by simp), if_neg (by simp), if_neg h, decide_eq_false h]; rfl
    · rfl
  · rfl
theorem takeC {α : Type} {d : Kd α} {w : World} {A : Option Addr} {xs : List α} (h : Kd.C d w A xs.length xs) (i : Nat) (hi : i ≤ xs.length) : Kd.C d w A (xs.take i).length (xs.take i) := by
  obtain ⟨h1, h2, h3⟩ := h
  have hl : (xs.take i).length = i := by rw [List.length_take]; omega
  refine ⟨rfl, by rw [hl]; omega, fun h0 => ?_⟩
  obtain ⟨ad, ha, hc⟩ := h3 (by omega)
  exact ⟨ad, ha, fun j p hj => hc j p (by
    have hji : j < i := by have := (List.getElem?_eq_some_iff.1 hj).1; omega
    rw [List.getElem?_take_of_lt hji] at hj
    exact hj)⟩
theorem l1InQ (a b c : Int) (w : World) : QC w 15 #[.int .i64 a, .int .i64 b, .int .i64 c] (decide (b ≤ a ∧ a ≤ c)) := fun W _ => drawnB (spec_l1In.calls a b c _ W (l1In a b c))
theorem withinQ (a b c : Int) (w : World) : QC w 29 #[.int .i64 a, .int .i64 b, .int .i64 c] (decide (b ≤ a ∧ a ≤ c)) := fun W _ => drawnB (impl_within.calls a b c _ W (within a b c))
theorem specDiskQ (p n : Int) (xs : List S81) (A : Option Addr) (c : Nat) (w : World) (hC : Kd.C k81 w A xs.length xs) (hc : xs.length ≤ c) : QC w 16 #[.agg #[.int .i64 p, .int .i64 n, .slice A xs.length c]] (diskB p n xs) := fun W hb => spec_RecDiskOk.calls (xs.length + 2) p n A c xs _ W (Kd.C_below hC hb) hc (specDiskOk p n xs _ (by omega))
theorem specMsgQ (o : Int) (w : World) : MC w 18 o (msgV o) := fun x A c W _ hC hc => spec_RecMessageOk.calls (x.f7.length + 1) x.f0 x.f1 x.f2 x.f3 x.f4 x.f5 x.f6 A c x.f7 o _ W hC hc (specMsgOk x.f0 x.f1 x.f2 x.f3 x.f4 x.f5 x.f6 x.f7 o _ (Nat.lt_succ_self _))
theorem specNumQ (o : Int) (xs : List Int) (A : Option Addr) (c : Nat) (w : World) (hC : Kd.C (Kd.int .i64) w A xs.length xs) (hc : xs.length ≤ c) : QC w 19 #[.slice A xs.length c, .int .i64 o] (numsB xs o) := fun W hb => drawnB (spec_l2Numbers.calls (xs.length + 1) A c xs o _ W (Kd.C_below hC hb) hc (specNumbers xs o hC.2.1 _ (Nat.lt_succ_self _)))
theorem implDiskQ (p n : Int) (xs : List S81) (A : Option Addr) (c : Nat) (w : World) (hC : Kd.C k81 w A xs.length xs) (hc : xs.length ≤ c) : QC w 30 #[.agg #[.int .i64 p, .int .i64 n, .slice A xs.length c]] (diskB p n xs) := fun W hb => impl_RecDiskOk.calls (xs.length + 2) p n A c xs _ W (Kd.C_below hC hb) hc (implDiskOk p n xs _ (by omega))
theorem implMsgQ (o : Int) (w : World) : MC w 33 o (msgV o) := fun x A c W _ hC hc => impl_RecMessageOk.calls (x.f7.length + 1) x.f0 x.f1 x.f2 x.f3 x.f4 x.f5 x.f6 A c x.f7 o _ W hC hc (implMsgOk x.f0 x.f1 x.f2 x.f3 x.f4 x.f5 x.f6 x.f7 o _ (Nat.lt_succ_self _))
theorem implNumQ (o : Int) (xs : List Int) (A : Option Addr) (c : Nat) (w : World) (hC : Kd.C (Kd.int .i64) w A xs.length xs) (hc : xs.length ≤ c) : QC w 31 #[.slice A xs.length c, .int .i64 o] (numsB xs o) := fun W hb => drawnB (impl_people.calls (xs.length + 1) A c xs o _ W (Kd.C_below hC hb) hc (implPeople xs o hC.2.1 _ (Nat.lt_succ_self _)))
theorem specSlotQ (xs : List S81) (A : Option Addr) (c : Nat) (w : World) (hC : Kd.C k81 w A xs.length xs) (hc : xs.length ≤ c) : QC w 20 #[.slice A xs.length c] (slotsB xs) := fun W hb => drawnB (spec_l1SlotsOk.calls (xs.length + 1) A c xs _ W (Kd.C_below hC hb) hc (specSlotsOk xs _ (Nat.lt_succ_self _)))
theorem implSlotQ (xs : List S81) (A : Option Addr) (c : Nat) (w : World) (hC : Kd.C k81 w A xs.length xs) (hc : xs.length ≤ c) : QC w 32 #[.slice A xs.length c] (slotsB xs) := fun W hb => impl_slotsOk.calls (xs.length + 1) A c xs _ W (Kd.C_below hC hb) hc (implSlotsOk xs _ (Nat.lt_succ_self _))
set_option maxHeartbeats 4000000 in
theorem specValidC (n0 o n3 n4 n6 n7 n13 n17 : Int) (b2 L T : Bool) (x5 : List S81) (x8 : List S81) (x9 : List S54) (x10 : List ByteArray) (x14 : List Int) (x15 : List S81) (x16 : List S66) (v5 v8 v9 v10 v14 v15 v16 : Value) (w : World)
    (h5 : Sl 81 k81 w x5 v5) (b5 : x5.length ≤ 1048576)
    (h8 : Sl 81 k81 w x8 v8) (b8 : x8.length ≤ 1048576)
    (h9 : Sl 54 k54 w x9 v9) (b9 : x9.length ≤ 1048576)
    (h10 : Sl 9 Kd.string w x10 v10) (b10 : x10.length ≤ 1048576)
    (h14 : Sl 3 (Kd.int .i64) w x14 v14) (b14 : x14.length ≤ 1048576)
    (h15 : Sl 81 k81 w x15 v15) (b15 : x15.length ≤ 1048576)
    (h16 : Sl 66 k66 w x16 v16) (b16 : x16.length ≤ 1048576) (mm : ∀ x ∈ x9, x.f7.length ≤ 1048576) (ma : ∀ x ∈ x16, x.f1.length ≤ 1048576) :
    Calls Try.prog 5 #[.agg #[.int .i64 n0, .int .i64 o, .bool b2, .int .i64 n3, .int .i64 n4, v5, .int .i64 n6, .int .i64 n7, v8, v9, v10, .bool L, .bool T, .int .i64 n13, v14, v15, v16, .int .i64 n17]] w fun e w' => e = .returned (.bool (validB n0 o n3 n4 n6 n7 n13 n17 b2 L T x5 x8 x9 x10 x14 x15 x16)) ∧ Below w.heap.size w w' := by
  obtain ⟨A5, c5, rfl, l5, C5⟩ := h5
  obtain ⟨A8, c8, rfl, l8, C8⟩ := h8
  obtain ⟨A9, c9, rfl, l9, C9⟩ := h9
  obtain ⟨A10, c10, rfl, l10, C10⟩ := h10
  obtain ⟨A14, c14, rfl, l14, C14⟩ := h14
  obtain ⟨A15, c15, rfl, l15, C15⟩ := h15
  obtain ⟨A16, c16, rfl, l16, C16⟩ := h16
  have bs := wrapSum2 b14 b15
  have bt := wrapSum3 b14 b15 b16
  have bu := wrapSum2 b9 b10
  have ba := ackB x16 ma
  have Q1 := l1InQ o 1 5 w
  have Q2 := l1InQ n0 1 o w
  have Q3 := specDiskQ n3 n4 x5 A5 c5 w C5 l5
  have Q4 := specDiskQ n6 n7 x8 A8 c8 w C8 l8
  have Q6 : QC w 17 #[.slice A10 x10.length c10] (wishesB x10) := fun W hb => drawnB (spec_l2WishesOk.calls (25 * x10.length + 1) A10 c10 x10 _ W (Kd.C_below C10 hb) l10 (specWishes x10 _ (Nat.lt_succ_self _)))
  have Q7 := l1InQ n17 0 1000000 w
  have Q5 := lenDec400 x9.length
  have E3 : QC w 21 #[.slice A16 x16.length c16, .int .i64 o] (acksB x16 o) := fun W hb => spec_l2AcksOk.calls (x16.length + 1048578) A16 c16 x16 o _ W (Kd.C_below C16 hb) l16 (specAcks x16 o (le63 b16) 1048577 ba _ (Nat.lt_succ_self _))
  have Eq : QC w 22 #[.agg #[.int .i64 n0, .int .i64 o, .bool b2, .int .i64 n3, .int .i64 n4, .slice A5 x5.length c5, .int .i64 n6, .int .i64 n7, .slice A8 x8.length c8, .slice A9 x9.length c9, .slice A10 x10.length c10, .bool L, .bool T, .int .i64 n13, .slice A14 x14.length c14, .slice A15 x15.length c15, .slice A16 x16.length c16, .int .i64 n17]] (!L && !T && decide (n13 = 0) && !decide (0 < x14.length + x15.length + x16.length)) := fun W hb => spec_l2Quiet.calls n0 o b2 n3 n4 A5 c5 x5 n6 n7 A8 c8 x8 A9 c9 x9 A10 c10 x10 L T n13 A14 c14 x14 A15 c15 x15 A16 c16 x16 n17 _ W (Kd.C_below C5 hb) l5 (Kd.C_below C8 hb) l8 (Kd.C_below C9 hb) l9 (Kd.C_below C10 hb) l10 (Kd.C_below C14 hb) l14 (Kd.C_below C15 hb) l15 (Kd.C_below C16 hb) l16 (quietEq n0 o n3 n4 n6 n7 n13 n17 b2 L T x5 x8 x9 x10 x14 x15 x16 b14 b15 b16)
  cases hf : headV n0 o n3 n4 n6 n7 n17 x5 x8 x9 x10 with
  | false =>
    refine (specHead n0 o n3 n4 n6 n7 n13 n17 b2 L T A5 A8 A9 A10 A14 A15 A16 x5.length x8.length x9.length x10.length x14.length x15.length x16.length c5 c8 c9 c10 c14 c15 c16 w _ _ _ _ _ _ _ hf Q1 Q2 Q3 Q4 Q5 Q6 Q7).mono fun e w' h => ?_
    have e0 : validB n0 o n3 n4 n6 n7 n13 n17 b2 L T x5 x8 x9 x10 x14 x15 x16 = false := by unfold validB; rw [hf, Bool.false_and]
    rw [e0]
    exact h
  | true =>
    have hf' := hf
    unfold headV at hf'
    simp only [Bool.and_eq_true] at hf'
    obtain ⟨⟨⟨⟨⟨⟨g1, g2⟩, g3⟩, g4⟩, g5⟩, g6⟩, g7⟩ := hf'
    rw [g1] at Q1
    rw [g2] at Q2
    rw [g3] at Q3
    rw [g4] at Q4
    rw [g6] at Q6
    rw [g7] at Q7
    have g5' := of_decide_eq_true g5
    have g7' := of_decide_eq_true g7
    have g6' : x10.length ≤ 20 := by unfold wishesB at g6; rw [Bool.and_eq_true] at g6; exact of_decide_eq_true g6.1
    exact specPass n0 o n3 n4 n6 n7 n13 n17 b2 L T A5 A8 A9 A10 A14 A15 A16 x5.length x8.length x10.length x14.length x15.length x16.length c5 c8 c9 c10 c14 c15 c16 x9 w (msgV o) C9 g5' Q1 Q2 Q3 Q4 Q6 Q7 (specMsgQ o w)
      _ _ _ _ _ _ _ _ _ (by unfold validB; rw [hf, Bool.true_and]; rfl) (specNumQ o x14 A14 c14 w C14 l14) (specSlotQ x15 A15 c15 w C15 l15) E3 (l1InQ n13 1 n6 w) Eq (by rw [Bool.not_not]) (by rw [bs, sumPos2]) (by rw [bu, wrapHeld b9 b10 g7'])
set_option maxHeartbeats 4000000 in
theorem implValidC (n0 o n3 n4 n6 n7 n13 n17 : Int) (b2 L T : Bool) (x5 : List S81) (x8 : List S81) (x9 : List S54) (x10 : List ByteArray) (x14 : List Int) (x15 : List S81) (x16 : List S66) (v5 v8 v9 v10 v14 v15 v16 : Value) (w : World)
    (h5 : Sl 81 k81 w x5 v5) (b5 : x5.length ≤ 1048576)
    (h8 : Sl 81 k81 w x8 v8) (b8 : x8.length ≤ 1048576)
    (h9 : Sl 54 k54 w x9 v9) (b9 : x9.length ≤ 1048576)
    (h10 : Sl 9 Kd.string w x10 v10) (b10 : x10.length ≤ 1048576)
    (h14 : Sl 3 (Kd.int .i64) w x14 v14) (b14 : x14.length ≤ 1048576)
    (h15 : Sl 81 k81 w x15 v15) (b15 : x15.length ≤ 1048576)
    (h16 : Sl 66 k66 w x16 v16) (b16 : x16.length ≤ 1048576) (mm : ∀ x ∈ x9, x.f7.length ≤ 1048576) (ma : ∀ x ∈ x16, x.f1.length ≤ 1048576) :
    Calls Try.prog 7 #[.agg #[.int .i64 n0, .int .i64 o, .bool b2, .int .i64 n3, .int .i64 n4, v5, .int .i64 n6, .int .i64 n7, v8, v9, v10, .bool L, .bool T, .int .i64 n13, v14, v15, v16, .int .i64 n17]] w fun e w' => e = .returned (.bool (validB n0 o n3 n4 n6 n7 n13 n17 b2 L T x5 x8 x9 x10 x14 x15 x16)) ∧ Below w.heap.size w w' := by
  obtain ⟨A5, c5, rfl, l5, C5⟩ := h5
  obtain ⟨A8, c8, rfl, l8, C8⟩ := h8
  obtain ⟨A9, c9, rfl, l9, C9⟩ := h9
  obtain ⟨A10, c10, rfl, l10, C10⟩ := h10
  obtain ⟨A14, c14, rfl, l14, C14⟩ := h14
  obtain ⟨A15, c15, rfl, l15, C15⟩ := h15
  obtain ⟨A16, c16, rfl, l16, C16⟩ := h16
  have bs := wrapSum2 b14 b15
  have bt := wrapSum3 b14 b15 b16
  have bu := wrapSum2 b9 b10
  have ba := ackB x16 ma
  have Q1 := withinQ o 1 5 w
  have Q2 := withinQ n0 1 o w
  have Q3 := implDiskQ n3 n4 x5 A5 c5 w C5 l5
  have Q4 := implDiskQ n6 n7 x8 A8 c8 w C8 l8
  have Q7 := withinQ n17 0 1000000 w
  have Q8 := implNumQ o x14 A14 c14 w C14 l14
  have Q9 := implSlotQ x15 A15 c15 w C15 l15
  have Q5 := lenDec400 x9.length
  have Q6 := lenDec20 x10.length
  rw [validEq]
  cases hf : implHeadV n0 o n3 n4 n6 n7 n17 x5 x8 x9 x10 x14 x15 with
  | false =>
    rw [Bool.false_and]
    exact implHead n0 o n3 n4 n6 n7 n13 n17 b2 L T A5 A8 A9 A10 A14 A15 A16 x5.length x8.length x9.length x10.length x14.length x15.length x16.length c5 c8 c9 c10 c14 c15 c16 w _ _ _ _ _ _ _ _ _ hf Q1 Q2 Q3 Q4 Q5 Q6 Q7 Q8 Q9
  | true =>
    have hf' := hf
    unfold implHeadV at hf'
    simp only [Bool.and_eq_true] at hf'
    obtain ⟨⟨⟨⟨⟨⟨⟨⟨g1, g2⟩, g3⟩, g4⟩, g5⟩, g6⟩, g7⟩, g8⟩, g9⟩ := hf'
    rw [g1] at Q1
    rw [g2] at Q2
    rw [g3] at Q3
    rw [g4] at Q4
    rw [g7] at Q7
    rw [g8] at Q8
    rw [g9] at Q9
    have g5' := of_decide_eq_true g5
    have g6' := of_decide_eq_true g6
    rw [Bool.true_and]
    exact implPass n0 o n3 n4 n6 n7 n13 n17 b2 L T A5 A8 A9 A10 A14 A15 A16 x5.length x8.length x14.length x15.length c5 c8 c9 c10 c14 c15 c16 x9 x10 x16 w (msgV o) C9 g5' C10 g6' l10 C16 Q1 Q2 Q3 Q4 Q7 (implMsgQ o w) Q8 Q9
      (fun x W _ => drawnB (impl_within.calls x 1 100 _ W (within x 1 100))) (fun x W _ => drawnB (impl_within.calls x 1 60 _ W (within x 1 60)))
      (fun i W hi hb => by
        have ht : (x10.take i).length = i := by rw [List.length_take]; exact Nat.min_eq_left (Nat.le_of_lt hi)
        have hC : Kd.C Kd.string W A10 (x10.take i).length (x10.take i) := takeC (Kd.C_below C10 hb) i (Nat.le_of_lt hi)
        have := slices_Contains_string_string.calls (i + 1) A10 c10 (x10.take i) (rdOf ByteArray.empty x10 (i : Int)) _ W hC (by rw [ht]; exact Nat.le_trans (Nat.le_of_lt hi) l10) (contains x10 i hi (le63 b10) _ (Nat.lt_succ_self _))
        rw [ht] at this
        exact drawnB this)
      (fun x A c W _ hC hc => drawnB (impl_people.calls (x.length + 1) A c x o _ W hC hc (implPeople x o hC.2.1 _ (Nat.lt_succ_self _))))
      _ _ _ _ _ _ _ _ rfl (withinQ n13 1 n6 w) (by rw [Bool.not_not]) (by rw [bs, sumPos2]) rfl (by rw [bs, bt, sumPos3]) (by rw [bu, sumZero2]) rfl
/-! ### the law on RecValid: the machine's side -/
theorem Sl.one {α : Type} {e : Nat} {d : Kd α} {w : World} {x : List α} {v : Value} (h : Sl e d w x v) : v.oneCell' = true := by
  obtain ⟨A, c, rfl, _⟩ := h
  rfl
def region10.T : Bool × List (List Nat × List Nat) := (true, [([], []), ([], []), ([1], [1]), ([0, 2, 2], [0, 2]), ([3], [3])])
def region10.B : List Nat := [0, 0, 2, 7, 15]
theorem region10.tab : rtab .any (opsOf Try.f3 10) = region10.T := by kernel_rfl
theorem region10.bits : waitsOk region10.T.2 region10.B = true := by kernel_rfl
set_option maxHeartbeats 8000000 in
set_option maxRecDepth 100000 in
theorem lawBig (n0 o n3 n4 n6 n7 n13 n17 : Int) (b2 L T : Bool) (x5 : List S78) (x8 : List S78) (x9 : List S75) (x10 : List ByteArray) (x14 : List Int) (x15 : List S78) (x16 : List S80) (A5 A8 A9 A10 A14 A15 A16 : Option Addr) (c5 c8 c9 c10 c14 c15 c16 : Nat) (w : World) (r : Int) (hr : r < 0) (hq : QI w 4 #[.agg #[.int .i64 n0, .int .i64 o, .bool b2, .int .i64 n3, .int .i64 n4, .slice A5 x5.length c5, .int .i64 n6, .int .i64 n7, .slice A8 x8.length c8, .slice A9 x9.length c9, .slice A10 x10.length c10, .bool L, .bool T, .int .i64 n13, .slice A14 x14.length c14, .slice A15 x15.length c15, .slice A16 x16.length c16, .int .i64 n17], .int .i64 1048576] r) :
    Calls Try.prog 3 #[.agg #[.int .i64 n0, .int .i64 o, .bool b2, .int .i64 n3, .int .i64 n4, .slice A5 x5.length c5, .int .i64 n6, .int .i64 n7, .slice A8 x8.length c8, .slice A9 x9.length c9, .slice A10 x10.length c10, .bool L, .bool T, .int .i64 n13, .slice A14 x14.length c14, .slice A15 x15.length c15, .slice A16 x16.length c16, .int .i64 n17]] w fun e w' => e = .returned (.bool true) ∧ Below w.heap.size w w' := by
  have hu1 := Try.underlying30
  have HQ := Aside0.mk hq
  have hd : decide (r < 0) = true := decide_eq_true hr
  clear hq hr
  have HB := Aside0.mk (Below.refl w.heap.size w)
  go_enter Try.func3, Try.ntmps3
  go_wp2_with (first
    | ((with_reducible refine gate_dst (N := 1) rfl ?_); refine box_event ?hg (N := 1) ?hd (cs := #[.int .i64 n0, .int .i64 o, .bool b2, .int .i64 n3, .int .i64 n4, .slice A5 x5.length c5, .int .i64 n6, .int .i64 n7, .slice A8 x8.length c8, .slice A9 x9.length c9, .slice A10 x10.length c10, .bool L, .bool T, .int .i64 n13, .slice A14 x14.length c14, .slice A15 x15.length c15, .slice A16 x16.length c16, .int .i64 n17]) (t := 30) ?hr ?_; (case hd => rfl); (case hg => rfl); (case hr => first | (go_simp; done) | (go_simp; rfl)); intro gp _hg w1 hbox hb; have n_ := Aside0.mk (below_step HB.out hb); clear HB; have HB := n_; clear n_; have BP := Aside0.mk hbox; clear hb hbox _hg)
    | (((with_reducible refine gate_load (t := 30) (p := 1) rfl ?_); refine load_row (ty := 30) (t := 30) (g := gp) (cs := #[.int .i64 n0, .int .i64 o, .bool b2, .int .i64 n3, .int .i64 n4, .slice A5 x5.length c5, .int .i64 n6, .int .i64 n7, .slice A8 x8.length c8, .slice A9 x9.length c9, .slice A10 x10.length c10, .bool L, .bool T, .int .i64 n13, .slice A14 x14.length c14, .slice A15 x15.length c15, .slice A16 x16.length c16, .int .i64 n17]) rfl rfl rfl BP.out Try.underlying30 rfl (by kernel_rfl) ?_))
    | (go_at_call 4; (with_reducible refine (HQ.out _ HB.out).mono ?_); rintro e wn ⟨rfl, hb⟩; have n_ := Aside0.mk (below_step HB.out hb); clear HB; have HB := n_; clear n_; (try (have n_ := Aside0.mk (blk_below BP.out hb); clear BP; have BP := n_; clear n_)); (try (have n_ := Aside0.mk (blk_below BK.out hb); clear BK; have BK := n_; clear n_)); (try (have n_ := Aside0.mk (below_step HW.out hb); clear HW; have HW := n_; clear n_)); clear hb))
  go_ret
  exact ⟨rfl, HB.out⟩
set_option maxHeartbeats 16000000 in
set_option maxRecDepth 100000 in
theorem lawSmall (n0 o n3 n4 n6 n7 n13 n17 : Int) (b2 L T : Bool) (x5 : List S78) (x8 : List S78) (x9 : List S75) (x10 : List ByteArray) (x14 : List Int) (x15 : List S78) (x16 : List S80) (A5 A8 A9 A10 A14 A15 A16 : Option Addr) (c5 c8 c9 c10 c14 c15 c16 : Nat) (w : World) (r : Int) (hr : ¬ r < 0) (V : Bool) (hq : QI w 4 #[.agg #[.int .i64 n0, .int .i64 o, .bool b2, .int .i64 n3, .int .i64 n4, .slice A5 x5.length c5, .int .i64 n6, .int .i64 n7, .slice A8 x8.length c8, .slice A9 x9.length c9, .slice A10 x10.length c10, .bool L, .bool T, .int .i64 n13, .slice A14 x14.length c14, .slice A15 x15.length c15, .slice A16 x16.length c16, .int .i64 n17], .int .i64 1048576] r)
    (ht : ∀ W, Below w.heap.size w W → Calls Try.prog 6 #[.agg #[.int .i64 n0, .int .i64 o, .bool b2, .int .i64 n3, .int .i64 n4, .slice A5 x5.length c5, .int .i64 n6, .int .i64 n7, .slice A8 x8.length c8, .slice A9 x9.length c9, .slice A10 x10.length c10, .bool L, .bool T, .int .i64 n13, .slice A14 x14.length c14, .slice A15 x15.length c15, .slice A16 x16.length c16, .int .i64 n17]] W fun e w' => ∃ v5 v8 v9 v10 v14 v15 v16, e = .returned (.agg #[.int .i64 n0, .int .i64 o, .bool b2, .int .i64 n3, .int .i64 n4, v5, .int .i64 n6, .int .i64 n7, v8, v9, v10, .bool L, .bool T, .int .i64 n13, v14, v15, v16, .int .i64 n17]) ∧ (Sl 81 k81 w' (x5.map mSlot) v5 ∧ Sl 81 k81 w' (x8.map mSlot) v8 ∧ Sl 54 k54 w' (x9.map mMsg) v9 ∧ Sl 9 Kd.string w' x10 v10 ∧ Sl 3 (Kd.int .i64) w' x14 v14 ∧ Sl 81 k81 w' (x15.map mSlot) v15 ∧ Sl 66 k66 w' (x16.map mAck) v16) ∧ Below W.heap.size W w')
    (hs : ∀ (v5 v8 v9 v10 v14 v15 v16 : Value) (W : World), (Sl 81 k81 W (x5.map mSlot) v5 ∧ Sl 81 k81 W (x8.map mSlot) v8 ∧ Sl 54 k54 W (x9.map mMsg) v9 ∧ Sl 9 Kd.string W x10 v10 ∧ Sl 3 (Kd.int .i64) W x14 v14 ∧ Sl 81 k81 W (x15.map mSlot) v15 ∧ Sl 66 k66 W (x16.map mAck) v16) → Calls Try.prog 5 #[.agg #[.int .i64 n0, .int .i64 o, .bool b2, .int .i64 n3, .int .i64 n4, v5, .int .i64 n6, .int .i64 n7, v8, v9, v10, .bool L, .bool T, .int .i64 n13, v14, v15, v16, .int .i64 n17]] W fun e w' => e = .returned (.bool V) ∧ Below W.heap.size W w')
    (hi : ∀ (v5 v8 v9 v10 v14 v15 v16 : Value) (W : World), (Sl 81 k81 W (x5.map mSlot) v5 ∧ Sl 81 k81 W (x8.map mSlot) v8 ∧ Sl 54 k54 W (x9.map mMsg) v9 ∧ Sl 9 Kd.string W x10 v10 ∧ Sl 3 (Kd.int .i64) W x14 v14 ∧ Sl 81 k81 W (x15.map mSlot) v15 ∧ Sl 66 k66 W (x16.map mAck) v16) → Calls Try.prog 7 #[.agg #[.int .i64 n0, .int .i64 o, .bool b2, .int .i64 n3, .int .i64 n4, v5, .int .i64 n6, .int .i64 n7, v8, v9, v10, .bool L, .bool T, .int .i64 n13, v14, v15, v16, .int .i64 n17]] W fun e w' => e = .returned (.bool V) ∧ Below W.heap.size W w') :
    Calls Try.prog 3 #[.agg #[.int .i64 n0, .int .i64 o, .bool b2, .int .i64 n3, .int .i64 n4, .slice A5 x5.length c5, .int .i64 n6, .int .i64 n7, .slice A8 x8.length c8, .slice A9 x9.length c9, .slice A10 x10.length c10, .bool L, .bool T, .int .i64 n13, .slice A14 x14.length c14, .slice A15 x15.length c15, .slice A16 x16.length c16, .int .i64 n17]] w fun e w' => e = .returned (.bool true) ∧ Below w.heap.size w w' := by
  have hu1 := Try.underlying30
  have hu2 := Try.underlying39
  have HQ := Aside0.mk hq
  have HT := Aside0.mk ht
  have HS := Aside0.mk hs
  have HI := Aside0.mk hi
  have hd : decide (r < 0) = false := decide_eq_false hr
  clear hq hr ht hs hi
  have HB := Aside0.mk (Below.refl w.heap.size w)
  have HSv := Aside0.mk trivial
  have HW := Aside0.mk trivial
  go_enter Try.func3, Try.ntmps3
  go_upto_region 10 with (first
    | ((with_reducible refine gate_dst (N := 1) rfl ?_); refine box_event ?hg (N := 1) ?hd (cs := #[.int .i64 n0, .int .i64 o, .bool b2, .int .i64 n3, .int .i64 n4, .slice A5 x5.length c5, .int .i64 n6, .int .i64 n7, .slice A8 x8.length c8, .slice A9 x9.length c9, .slice A10 x10.length c10, .bool L, .bool T, .int .i64 n13, .slice A14 x14.length c14, .slice A15 x15.length c15, .slice A16 x16.length c16, .int .i64 n17]) (t := 30) ?hr ?_; (case hd => rfl); (case hg => rfl); (case hr => first | (go_simp; done) | (go_simp; rfl)); intro gp _hg w1 hbox hb; have n_ := Aside0.mk (below_step HB.out hb); clear HB; have HB := n_; clear n_; have BP := Aside0.mk hbox; clear hb hbox _hg)
    | (((with_reducible refine gate_load (t := 30) (p := 1) rfl ?_); refine load_row (ty := 30) (t := 30) (g := gp) (cs := #[.int .i64 n0, .int .i64 o, .bool b2, .int .i64 n3, .int .i64 n4, .slice A5 x5.length c5, .int .i64 n6, .int .i64 n7, .slice A8 x8.length c8, .slice A9 x9.length c9, .slice A10 x10.length c10, .bool L, .bool T, .int .i64 n13, .slice A14 x14.length c14, .slice A15 x15.length c15, .slice A16 x16.length c16, .int .i64 n17]) rfl rfl rfl BP.out Try.underlying30 rfl (by kernel_rfl) ?_))
    | (go_at_call 4; (with_reducible refine (HQ.out _ HB.out).mono ?_); rintro e wn ⟨rfl, hb⟩; have n_ := Aside0.mk (below_step HB.out hb); clear HB; have HB := n_; clear n_; (try (have n_ := Aside0.mk (blk_below BP.out hb); clear BP; have BP := n_; clear n_)); (try (have n_ := Aside0.mk (blk_below BK.out hb); clear BK; have BK := n_; clear n_)); (try (have n_ := Aside0.mk (below_step HW.out hb); clear HW; have HW := n_; clear n_)); clear hb)
    | (go_at_call 6; (with_reducible refine (HT.out _ HB.out).mono ?_); rintro e wn ⟨v5, v8, v9, v10, v14, v15, v16, rfl, hs, hb⟩; have n_ := Aside0.mk (below_step HB.out hb); clear HB; have HB := n_; clear n_; have n_ := Aside0.mk (blk_below BP.out hb); clear BP; have BP := n_; clear n_; clear HSv HW; have HSv := Aside0.mk hs; have HW := Aside0.mk (Below.refl wn.heap.size wn); clear hs hb)
    | (go_at_call 5; (with_reducible refine (HS.out _ _ _ _ _ _ _ _ ⟨Sl.below HSv.out.1 HW.out, Sl.below HSv.out.2.1 HW.out, Sl.below HSv.out.2.2.1 HW.out, Sl.below HSv.out.2.2.2.1 HW.out, Sl.below HSv.out.2.2.2.2.1 HW.out, Sl.below HSv.out.2.2.2.2.2.1 HW.out, Sl.below HSv.out.2.2.2.2.2.2 HW.out⟩).mono ?_); rintro e wn ⟨rfl, hb⟩; have n_ := Aside0.mk (below_step HB.out hb); clear HB; have HB := n_; clear n_; have n_ := Aside0.mk (blk_below BP.out hb); clear BP; have BP := n_; clear n_; (try (have n_ := Aside0.mk (blk_below BK.out hb); clear BK; have BK := n_; clear n_)); (try (have n_ := Aside0.mk (below_step HW.out hb); clear HW; have HW := n_; clear n_)); clear hb)
    | (go_at_call 7; (with_reducible refine (HI.out _ _ _ _ _ _ _ _ ⟨Sl.below HSv.out.1 HW.out, Sl.below HSv.out.2.1 HW.out, Sl.below HSv.out.2.2.1 HW.out, Sl.below HSv.out.2.2.2.1 HW.out, Sl.below HSv.out.2.2.2.2.1 HW.out, Sl.below HSv.out.2.2.2.2.2.1 HW.out, Sl.below HSv.out.2.2.2.2.2.2 HW.out⟩).mono ?_); rintro e wn ⟨rfl, hb⟩; have n_ := Aside0.mk (below_step HB.out hb); clear HB; have HB := n_; clear n_; have n_ := Aside0.mk (blk_below BP.out hb); clear BP; have BP := n_; clear n_; (try (have n_ := Aside0.mk (blk_below BK.out hb); clear BK; have BK := n_; clear n_)); (try (have n_ := Aside0.mk (below_step HW.out hb); clear HW; have HW := n_; clear n_)); clear hb)
    | ((with_reducible refine gate_dst (N := 5) rfl ?_); refine box_event ?hg (N := 5) ?hd (cs := #[.int .i64 0, .int .i64 0, .bool false, .int .i64 0, .int .i64 0, .slice none 0 0, .int .i64 0, .int .i64 0, .slice none 0 0, .slice none 0 0, .slice none 0 0, .bool false, .bool false, .int .i64 0, .slice none 0 0, .slice none 0 0, .slice none 0 0, .int .i64 0]) (t := 39) ?hr ?_; (case hd => rfl); (case hg => rfl); (case hr => first | (go_simp; done) | (go_simp; rfl)); intro gK hgK wK hbox hb; have GEK := Aside0.mk (Nat.le_trans (below_size HB.out) (Nat.le_of_eq hgK.symm)); have GWK := Aside0.mk (Nat.le_trans (below_size HW.out) (Nat.le_of_eq hgK.symm)); have nePK := Aside0.mk (Nat.ne_of_lt (Nat.lt_of_lt_of_le (blk_lt BP.out) (Nat.le_of_eq hgK.symm))); have n_ := Aside0.mk (below_step HB.out hb); clear HB; have HB := n_; clear n_; have n_ := Aside0.mk (blk_below BP.out hb); clear BP; have BP := n_; clear n_; have n_ := Aside0.mk (below_step HW.out hb); clear HW; have HW := n_; clear n_; have BK := Aside0.mk hbox; clear hb hbox hgK)
    | ((with_reducible refine gate_store (t := 39) (p := 5) (v := .tmp 16) rfl ?_); refine store_row (ty := 39) (t := 39) (g := gK) (cells := #[.int .i64 n0, .int .i64 o, .bool b2, .int .i64 n3, .int .i64 n4, v5, .int .i64 n6, .int .i64 n7, v8, v9, v10, .bool L, .bool T, .int .i64 n13, v14, v15, v16, .int .i64 n17]) (old := #[.int .i64 0, .int .i64 0, .bool false, .int .i64 0, .int .i64 0, .slice none 0 0, .int .i64 0, .int .i64 0, .slice none 0 0, .slice none 0 0, .slice none 0 0, .bool false, .bool false, .int .i64 0, .slice none 0 0, .slice none 0 0, .slice none 0 0, .int .i64 0]) rfl rfl rfl rfl rfl BK.out (by kernel_rfl) rfl (by simp only [List.all_cons, List.all_nil, List.toList_toArray, Sl.one HSv.out.1, Sl.one HSv.out.2.1, Sl.one HSv.out.2.2.1, Sl.one HSv.out.2.2.2.1, Sl.one HSv.out.2.2.2.2.1, Sl.one HSv.out.2.2.2.2.2.1, Sl.one HSv.out.2.2.2.2.2.2, Bool.and_true]; rfl) ?_; intro w9 hbox hg; have n_ := Aside0.mk (below_grow HB.out hg GEK.out); clear HB; have HB := n_; clear n_; have n_ := Aside0.mk (below_grow HW.out hg GWK.out); clear HW; have HW := n_; clear n_; have n_ := Aside0.mk (blk_grown BP.out hg (fun e_ => nePK.out (Option.some.inj e_))); clear BP; have BP := n_; clear n_; clear BK; have BK := Aside0.mk hbox; clear hbox hg)
    | (((with_reducible refine gate_load (t := 39) (p := 5) rfl ?_); refine load_row (ty := 39) (t := 39) (g := gK) (cs := #[.int .i64 n0, .int .i64 o, .bool b2, .int .i64 n3, .int .i64 n4, v5, .int .i64 n6, .int .i64 n7, v8, v9, v10, .bool L, .bool T, .int .i64 n13, v14, v15, v16, .int .i64 n17]) rfl rfl rfl BK.out Try.underlying39 rfl (by kernel_rfl) ?_)))
  have hbd : Below wn.heap.size wn wn.drew := below_drew1 (Below.refl _ wn)
  have dK := blk_below BK.out hbd
  have dP := blk_below BP.out hbd
  refine start_ (n := 5) (S := (fun w' => w'.heap[gK]? = some (.cells #[.int .i64 n0, .int .i64 o, .bool b2, .int .i64 n3, .int .i64 n4, v5, .int .i64 n6, .int .i64 n7, v8, v9, v10, .bool L, .bool T, .int .i64 n13, v14, v15, v16, .int .i64 n17] 39 (0, 0)) ∧ w'.heap[gp]? = some (.cells #[.int .i64 n0, .int .i64 o, .bool b2, .int .i64 n3, .int .i64 n4, .slice A5 x5.length c5, .int .i64 n6, .int .i64 n7, .slice A8 x8.length c8, .slice A9 x9.length c9, .slice A10 x10.length c10, .bool L, .bool T, .int .i64 n13, .slice A14 x14.length c14, .slice A15 x15.length c15, .slice A16 x16.length c16, .int .i64 n17] 30 (0, 0)))) (ds := []) #[O,O,O,O,O] (by kernel_rfl) rfl rfl ⟨dK, dP⟩ (fun hHeld => ?_); refine with_tabW region10.tab region10.bits (fun HT_ HW_ => ?_)
  refine take_ (i := 0) (N := some 22) (v := ?_) (a' := ?_) #[I,O,O,O,O] rfl rfl (take_ofW HT_.out HW_.out (by kernel_rfl)) (fun _ _ _ h => h) (Or.inl ⟨by rfl, ?_⟩) hHeld ?_ ?_
  rotate_left
  · rintro w' ⟨s0, s1⟩
    refine run_load_box (x := .tmp 5) ?_ ?_ s0 Try.underlying39 rfl (by kernel_rfl) <;> rfl
  rotate_left
  · simp only [Act.put, List.setIfInBounds_toArray, List.set_cons_zero, List.set_cons_succ, i64_w, i32_w]
    rfl
  refine take_ (i := 1) (N := some 23) (v := ?_) (a' := ?_) #[I,I,O,O,O] rfl rfl (take_ofW HT_.out HW_.out (by kernel_rfl)) (fun _ _ _ h => h) (Or.inl ⟨by rfl, ?_⟩) hHeld ?_ ?_
  rotate_left
  · rintro w' ⟨s0, s1⟩
    refine run_load_box (x := .tmp 1) ?_ ?_ s1 Try.underlying30 rfl (by kernel_rfl) <;> rfl
  rotate_left
  · simp only [Act.put, List.setIfInBounds_toArray, List.set_cons_zero, List.set_cons_succ, i64_w, i32_w]
    rfl
  refine one_ (i := 2) (N := some 24) #[I,I,I,O,O] rfl rfl (one_of HT_.out (by kernel_rfl)) (by decide) (fun K hK => ?_)
  refine goes_ Try.func6 (by kernel_rfl) rfl #[.agg #[.int .i64 n0, .int .i64 o, .bool b2, .int .i64 n3, .int .i64 n4, .slice A5 x5.length c5, .int .i64 n6, .int .i64 n7, .slice A8 x8.length c8, .slice A9 x9.length c9, .slice A10 x10.length c10, .bool L, .bool T, .int .i64 n13, .slice A14 x14.length c14, .slice A15 x15.length c15, .slice A16 x16.length c16, .int .i64 n17]] (by rfl) rfl rfl (by (try simp only [List.map_toArray, List.map_cons, List.map_nil]); first | done | rfl) ?_
  with_reducible refine (HT.out _ (below_step HB.out hbd)).mono ?_
  rintro e wm ⟨y5, y8, y9, y10, y14, y15, y16, rfl, hy, hb⟩
  have hb2 := below_step hbd hb
  have mK := blk_below BK.out hb2
  have mP := blk_below BP.out hb2
  refine ⟨_, rfl, ?_⟩
  refine hK.out _ _ ⟨mK, mP⟩ (fun hHeld => ?_)
  clear hK K
  refine norm_ (a' := ?_) ?_ ?_
  rotate_left
  · show Act.put _ (some 24) _ = _
    simp only [Act.put, List.setIfInBounds_toArray, List.set_cons_zero, List.set_cons_succ, i64_w, i32_w]
    rfl
  refine one_ (i := 3) (N := some 25) #[I,I,I,I,O] rfl rfl (one_of HT_.out (by kernel_rfl)) (by decide) (fun K hK => ?_)
  refine goes_ Try.func8 (by kernel_rfl) rfl #[.agg #[.int .i64 n0, .int .i64 o, .bool b2, .int .i64 n3, .int .i64 n4, v5, .int .i64 n6, .int .i64 n7, v8, v9, v10, .bool L, .bool T, .int .i64 n13, v14, v15, v16, .int .i64 n17], .agg #[.int .i64 n0, .int .i64 o, .bool b2, .int .i64 n3, .int .i64 n4, y5, .int .i64 n6, .int .i64 n7, y8, y9, y10, .bool L, .bool T, .int .i64 n13, y14, y15, y16, .int .i64 n17]] (by rfl) rfl rfl (by (try simp only [List.map_toArray, List.map_cons, List.map_nil]); first | done | rfl) ?_
  with_reducible refine (eqRecorderC n0 o n3 n4 n6 n7 n13 n17 b2 L T (x5.map mSlot) (x8.map mSlot) (x15.map mSlot) (x9.map mMsg) x10 x14 (x16.map mAck) v5 v8 v9 v10 v14 v15 v16 y5 y8 y9 y10 y14 y15 y16  wm (Sl.below HSv.out.1 (below_step HW.out hb2)) (Sl.below HSv.out.2.1 (below_step HW.out hb2)) (Sl.below HSv.out.2.2.1 (below_step HW.out hb2)) (Sl.below HSv.out.2.2.2.1 (below_step HW.out hb2)) (Sl.below HSv.out.2.2.2.2.1 (below_step HW.out hb2)) (Sl.below HSv.out.2.2.2.2.2.1 (below_step HW.out hb2)) (Sl.below HSv.out.2.2.2.2.2.2 (below_step HW.out hb2)) hy.1 hy.2.1 hy.2.2.1 hy.2.2.2.1 hy.2.2.2.2.1 hy.2.2.2.2.2.1 hy.2.2.2.2.2.2).mono ?_
  rintro e wz ⟨rfl, hbz⟩
  have hb3 := below_step hb2 hbz
  have zK := blk_below BK.out hb3
  have zP := blk_below BP.out hb3
  refine ⟨_, rfl, ?_⟩
  refine hK.out _ _ ⟨zK, zP⟩ (fun hHeld => ?_)
  clear hK K
  refine norm_ (a' := ?_) ?_ ?_
  rotate_left
  · show Act.put _ (some 25) _ = _
    simp only [Act.put, List.setIfInBounds_toArray, List.set_cons_zero, List.set_cons_succ, i64_w, i32_w]
    rfl
  refine pure_ (i := 4) (N := some 26) (v := ?_) (a' := ?_) #[I,I,I,I,I] rfl rfl (any_of HT_.out (by kernel_rfl)) (fun _ _ _ h => h) (Or.inl ⟨by rfl, ?_⟩) ?_ ?_
  rotate_left
  · intro w'
    go_simp
    with_reducible rfl
  rotate_left
  · simp only [Act.put, List.setIfInBounds_toArray, List.set_cons_zero, List.set_cons_succ, i64_w, i32_w]
    rfl
  refine done_ (done_of HT_.out (by kernel_rfl)) ?_
  go_wp2
  go_ret
  exact ⟨rfl, below_step HB.out hb3⟩
theorem law (n0 o n3 n4 n6 n7 n13 n17 : Int) (b2 L T : Bool) (x5 : List S78) (x8 : List S78) (x9 : List S75) (x10 : List ByteArray) (x14 : List Int) (x15 : List S78) (x16 : List S80) (A5 A8 A9 A10 A14 A15 A16 : Option Addr) (c5 c8 c9 c10 c14 c15 c16 : Nat) (w : World)
    (h5 : Kd.C k78 w A5 x5.length x5) (l5 : x5.length ≤ c5) (m5 : x5.length ≤ maxLen) (f5 : ∀ y ∈ x5, y.f1.size ≤ maxLen)
    (h8 : Kd.C k78 w A8 x8.length x8) (l8 : x8.length ≤ c8) (m8 : x8.length ≤ maxLen) (f8 : ∀ y ∈ x8, y.f1.size ≤ maxLen)
    (h9 : Kd.C k75 w A9 x9.length x9) (l9 : x9.length ≤ c9) (m9 : x9.length ≤ maxLen) (f9 : ∀ x ∈ x9, x.f6.size ≤ maxLen ∧ x.f7.length ≤ maxLen ∧ ∀ y ∈ x.f7, y.f1.size ≤ maxLen)
    (h10 : Kd.C Kd.string w A10 x10.length x10) (l10 : x10.length ≤ c10) (m10 : x10.length ≤ maxLen) (f10 : ∀ x ∈ x10, x.size ≤ maxLen)
    (h14 : Kd.C (Kd.int .i64) w A14 x14.length x14) (l14 : x14.length ≤ c14) (m14 : x14.length ≤ maxLen)
    (h15 : Kd.C k78 w A15 x15.length x15) (l15 : x15.length ≤ c15) (m15 : x15.length ≤ maxLen) (f15 : ∀ y ∈ x15, y.f1.size ≤ maxLen)
    (h16 : Kd.C k80 w A16 x16.length x16) (l16 : x16.length ≤ c16) (m16 : x16.length ≤ maxLen) (f16 : ∀ x ∈ x16, x.f1.length ≤ maxLen) :
    Calls Try.prog 3 #[.agg #[.int .i64 n0, .int .i64 o, .bool b2, .int .i64 n3, .int .i64 n4, .slice A5 x5.length c5, .int .i64 n6, .int .i64 n7, .slice A8 x8.length c8, .slice A9 x9.length c9, .slice A10 x10.length c10, .bool L, .bool T, .int .i64 n13, .slice A14 x14.length c14, .slice A15 x15.length c15, .slice A16 x16.length c16, .int .i64 n17]] w fun e w' => e = .returned (.bool true) ∧ Below w.heap.size w w' := by
  obtain ⟨r, hB, hQ⟩ := szRecorderC n0 o n3 n4 n6 n7 n13 n17 1048576 b2 L T x5 x8 x9 x10 x14 x15 x16 A5 A8 A9 A10 A14 A15 A16 c5 c8 c9 c10 c14 c15 c16 w rfl h5 l5 m5 f5 h8 l8 m8 f8 h9 l9 m9 f9 h10 l10 m10 f10 h14 l14 m14 h15 l15 m15 f15 h16 l16 m16 f16
  by_cases hr : r < 0
  · exact lawBig n0 o n3 n4 n6 n7 n13 n17 b2 L T x5 x8 x9 x10 x14 x15 x16 A5 A8 A9 A10 A14 A15 A16 c5 c8 c9 c10 c14 c15 c16 w r hr hQ
  · obtain ⟨⟨b5, b8, b9, b10, b14, b15, b16⟩, mm, ma⟩ := hB (Int.not_lt.1 hr)
    have mm' : ∀ x ∈ x9.map mMsg, x.f7.length ≤ 1048576 := by
      intro x hx
      obtain ⟨y, hy, rfl⟩ := List.mem_map.1 hx
      show (y.f7.map mSlot).length ≤ 1048576
      rw [List.length_map]
      exact mm y hy
    have ma' : ∀ x ∈ x16.map mAck, x.f1.length ≤ 1048576 := by
      intro x hx
      obtain ⟨y, hy, rfl⟩ := List.mem_map.1 hx
      exact ma y hy
    have d5 : (x5.map mSlot).length ≤ 1048576 := by rw [List.length_map]; exact b5
    have d8 : (x8.map mSlot).length ≤ 1048576 := by rw [List.length_map]; exact b8
    have d9 : (x9.map mMsg).length ≤ 1048576 := by rw [List.length_map]; exact b9
    have d15 : (x15.map mSlot).length ≤ 1048576 := by rw [List.length_map]; exact b15
    have d16 : (x16.map mAck).length ≤ 1048576 := by rw [List.length_map]; exact b16
    exact lawSmall n0 o n3 n4 n6 n7 n13 n17 b2 L T x5 x8 x9 x10 x14 x15 x16 A5 A8 A9 A10 A14 A15 A16 c5 c8 c9 c10 c14 c15 c16 w r hr (validB n0 o n3 n4 n6 n7 n13 n17 b2 L T (x5.map mSlot) (x8.map mSlot) (x9.map mMsg) x10 x14 (x15.map mSlot) (x16.map mAck)) hQ
      (fun W hb => toRecorderC n0 o n3 n4 n6 n7 n13 n17 b2 L T x5 x8 x9 x10 x14 x15 x16 A5 A8 A9 A10 A14 A15 A16 c5 c8 c9 c10 c14 c15 c16 W (Kd.C_below h5 hb) l5 b5 (Kd.C_below h8 hb) l8 b8 (Kd.C_below h9 hb) l9 b9 (Kd.C_below h10 hb) l10 b10 (Kd.C_below h14 hb) l14 b14 (Kd.C_below h15 hb) l15 b15 (Kd.C_below h16 hb) l16 b16 mm ma)
      (fun v5 v8 v9 v10 v14 v15 v16 W h => specValidC n0 o n3 n4 n6 n7 n13 n17 b2 L T (x5.map mSlot) (x8.map mSlot) (x9.map mMsg) x10 x14 (x15.map mSlot) (x16.map mAck) v5 v8 v9 v10 v14 v15 v16 W h.1 d5 h.2.1 d8 h.2.2.1 d9 h.2.2.2.1 b10 h.2.2.2.2.1 b14 h.2.2.2.2.2.1 d15 h.2.2.2.2.2.2 d16 mm' ma')
      (fun v5 v8 v9 v10 v14 v15 v16 W h => implValidC n0 o n3 n4 n6 n7 n13 n17 b2 L T (x5.map mSlot) (x8.map mSlot) (x9.map mMsg) x10 x14 (x15.map mSlot) (x16.map mAck) v5 v8 v9 v10 v14 v15 v16 W h.1 d5 h.2.1 d8 h.2.2.1 d9 h.2.2.2.1 b10 h.2.2.2.2.1 b14 h.2.2.2.2.2.1 d15 h.2.2.2.2.2.2 d16 mm' ma')

end Go.Proofs.Ytaempjkefpbinaa.QFnExactRecValid
