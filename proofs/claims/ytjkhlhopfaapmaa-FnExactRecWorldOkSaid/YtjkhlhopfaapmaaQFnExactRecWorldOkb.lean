/- The reference's RecValid walked; conditions: its callees' contracts, named in each theorem. -/
import Derived.Test.YtjkhlhopfaapmaaQFnExactRecWorldOka
namespace Go.Proofs.Ytjkhlhopfaapmaa.QFnExactRecWorldOk
open Go.RowKit Go.Proofs.Ytjkhlhopfaapmaa.PFnExactRecWorldOk Go.Proofs.YtjkhlhopfaapmaaW.PrintWords Go.Proofs.YtjkhlhopfaapmaaW.PrintLast Go.Proofs.YtjkhlhopfaapmaaW.PrintMore Go.Proofs.Ytjkhlhopfaapmaa.Pb Go.Proofs.Ytjkhlhopfaapmaa.Op Go.Proofs.Ytjkhlhopfaapmaa.Wk
set_option linter.unusedSimpArgs false
set_option linter.unusedVariables false

/-! ### spec.RecValid: the walk -/
set_option maxHeartbeats 8000000 in
set_option maxRecDepth 100000 in
theorem specHead (n0 o n3 n4 n6 n7 n13 n17 : Int) (b2 L T : Bool) (A5 A8 A9 A10 A14 A15 A16 : Option Addr) (m5 m8 m9 m10 m14 m15 m16 c5 c8 c9 c10 c14 c15 c16 : Nat) (w : World)
    (k1 k2 k3 k4 k5 k6 k7 : Bool) (hf : (k1 && k2 && k3 && k4 && k5 && k6 && k7) = false)
    (C1 : QC w 12 #[.int .i64 o, .int .i64 1, .int .i64 5] k1) (C2 : QC w 12 #[.int .i64 n0, .int .i64 1, .int .i64 o] k2)
    (C3 : QC w 27 #[.agg #[.int .i64 n3, .int .i64 n4, .slice A5 m5 c5]] k3) (C4 : QC w 27 #[.agg #[.int .i64 n6, .int .i64 n7, .slice A8 m8 c8]] k4)
    (C5 : decide ((400 : Int) < (m9 : Int)) = !k5) (C6 : QC w 28 #[.slice A10 m10 c10] k6) (C7 : QC w 12 #[.int .i64 n17, .int .i64 0, .int .i64 1000000] k7) :
    Calls Try.prog 13 #[.agg #[.int .i64 n0, .int .i64 o, .bool b2, .int .i64 n3, .int .i64 n4, .slice A5 m5 c5, .int .i64 n6, .int .i64 n7, .slice A8 m8 c8, .slice A9 m9 c9, .slice A10 m10 c10, .bool L, .bool T, .int .i64 n13, .slice A14 m14 c14, .slice A15 m15 c15, .slice A16 m16 c16, .int .i64 n17]] w fun e w' => e = .returned (.bool false) ∧ Below w.heap.size w w' := by
  have hu1 := Try.underlying49
  have hu2 := Try.underlying44
  have D1 := Aside0.mk C1
  have D2 := Aside0.mk C2
  have D3 := Aside0.mk C3
  have D4 := Aside0.mk C4
  have D6 := Aside0.mk C6
  have D7 := Aside0.mk C7
  clear C1 C2 C3 C4 C6 C7
  have HB := Aside0.mk (Below.refl w.heap.size w)
  rcases k1 with _ | _
  rotate_left; rcases k2 with _ | _
  rotate_left; rcases k3 with _ | _
  rotate_left; rcases k4 with _ | _
  rotate_left; rcases k5 with _ | _
  rotate_left; rcases k6 with _ | _
  rotate_left; rcases k7 with _ | _
  rotate_left; · exact absurd hf (by simp)
  all_goals
    clear hf
    try simp only [Bool.not_true, Bool.not_false] at C5
    go_enter Try.func13, Try.ntmps13
    go_wp2_with (first
      | ((with_reducible refine gate_dst (N := 1) rfl ?_); refine box_event ?hg (N := 1) ?hd (cs := #[.int .i64 n0, .int .i64 o, .bool b2, .int .i64 n3, .int .i64 n4, .slice A5 m5 c5, .int .i64 n6, .int .i64 n7, .slice A8 m8 c8, .slice A9 m9 c9, .slice A10 m10 c10, .bool L, .bool T, .int .i64 n13, .slice A14 m14 c14, .slice A15 m15 c15, .slice A16 m16 c16, .int .i64 n17]) (t := 49) ?hr ?_; (case hd => rfl); (case hg => rfl); (case hr => first | (go_simp; done) | (go_simp; rfl)); intro ga _hg w1 hbox hb; have n0_ := Aside0.mk (below_step HB.out hb); clear HB; have HB := n0_; clear n0_; have BA := Aside0.mk hbox; clear hb hbox _hg; have ra := blk_cell BA.out)
      | ((first
          | (go_at_call 12; (first | (with_reducible refine (D1.out _ HB.out).mono ?_) | (with_reducible refine (D2.out _ HB.out).mono ?_) | (with_reducible refine (D7.out _ HB.out).mono ?_)))
          | (go_at_call 27; (first | (with_reducible refine (D3.out _ HB.out).mono ?_) | (with_reducible refine (D4.out _ HB.out).mono ?_)))
          | (go_at_call 28; (with_reducible refine (D6.out _ HB.out).mono ?_)));
         rintro e wn ⟨rfl, hb⟩; have n0_ := Aside0.mk (below_step HB.out hb); have n1_ := Aside0.mk (blk_below BA.out hb); clear HB BA; have HB := n0_; have BA := n1_; clear n0_ n1_ ra; clear hb; have ra := blk_cell BA.out))
    go_ret
    exact ⟨rfl, HB.out⟩

/-! ### spec.RecValid behind its head -/
def region6.T : Bool × List (List Nat × List Nat) := (true, [([], []), ([0], [0]), ([], []), ([1, 2], [1, 2]), ([3], [3]), ([], []), ([5], [5]), ([4, 6], [4, 6]), ([7], [7]), ([8, 7], [8]), ([9], [9]), ([10, 9], [9, 10]), ([9], [9]), ([11, 12, 9], [9, 11, 12]), ([13, 9], [9, 13]), ([14, 9], [9, 14]), ([9], [9]), ([16, 9], [9, 16]), ([15, 17, 9], [9, 15, 17]), ([9, 18], [9, 18])])
def region6.B : List Nat := [0, 1, 0, 7, 15, 0, 32, 127, 255, 511, 1023, 2047, 1023, 8191, 16383, 32767, 1023, 66559, 262143, 524287]
theorem region6.tab : rtab .any (opsOf Try.f13 6) = region6.T := by kernel_rfl
theorem region6.bits : waitsOk region6.T.2 region6.B = true := by kernel_rfl
set_option maxHeartbeats 8000000 in
set_option maxRecDepth 100000 in
theorem specPass (n0 o n3 n4 n6 n7 n13 n17 : Int) (b2 L T : Bool) (A5 A8 A9 A10 A14 A15 A16 : Option Addr) (m5 m8 m10 m14 m15 m16 c5 c8 c9 c10 c14 c15 c16 : Nat) (ms : List S52) (w : World)
    (q : S52 → Bool) (hms : Kd.C k52 w A9 ms.length ms) (hl9 : ms.length ≤ 400)
    (C1 : QC w 12 #[.int .i64 o, .int .i64 1, .int .i64 5] true) (C2 : QC w 12 #[.int .i64 n0, .int .i64 1, .int .i64 o] true)
    (C3 : QC w 27 #[.agg #[.int .i64 n3, .int .i64 n4, .slice A5 m5 c5]] true) (C4 : QC w 27 #[.agg #[.int .i64 n6, .int .i64 n7, .slice A8 m8 c8]] true)
    (C6 : QC w 28 #[.slice A10 m10 c10] true) (C7 : QC w 12 #[.int .i64 n17, .int .i64 0, .int .i64 1000000] true) (CM : MC w 14 o q)
    (r1 r2 r3 k8 kA kY kq kS V : Bool) (hV : V = (allFrom (fun j : Nat => q (rd_T52 ms (j : Int)) && decide ((rd_T52 ms (j : Int)).f1 = n0)) ms.length 0 && specTail r1 r2 r3 L T k8 kA kY kq b2 kS))
    (E1 : QC w 29 #[.slice A14 m14 c14, .int .i64 o] r1) (E2 : QC w 30 #[.slice A15 m15 c15] r2) (E3 : QC w 31 #[.slice A16 m16 c16, .int .i64 o] r3)
    (E8 : QC w 12 #[.int .i64 n13, .int .i64 1, .int .i64 n6] k8) (Eq : QC w 32 #[.agg #[.int .i64 n0, .int .i64 o, .bool b2, .int .i64 n3, .int .i64 n4, .slice A5 m5 c5, .int .i64 n6, .int .i64 n7, .slice A8 m8 c8, .slice A9 ms.length c9, .slice A10 m10 c10, .bool L, .bool T, .int .i64 n13, .slice A14 m14 c14, .slice A15 m15 c15, .slice A16 m16 c16, .int .i64 n17]] kq) (CA : decide (m16 = 0) = !kA) (CY : decide ((0 : Int) < wrap64 ((m14 : Int) + (m15 : Int))) = kY)
    (CS : decide (wrap64 (wrap64 ((ms.length : Int) + (m10 : Int)) + n17) = 0) = kS) :
    Calls Try.prog 13 #[.agg #[.int .i64 n0, .int .i64 o, .bool b2, .int .i64 n3, .int .i64 n4, .slice A5 m5 c5, .int .i64 n6, .int .i64 n7, .slice A8 m8 c8, .slice A9 ms.length c9, .slice A10 m10 c10, .bool L, .bool T, .int .i64 n13, .slice A14 m14 c14, .slice A15 m15 c15, .slice A16 m16 c16, .int .i64 n17]] w fun e w' => e = .returned (.bool V) ∧ Below w.heap.size w w' := by
  have hu1 := Try.underlying49
  have hu2 := Try.underlying44
  have hu3 := Try.underlying52
  have hl5 : decide ((400 : Int) < (ms.length : Int)) = false := decide_eq_false (by omega)
  have D1 := Aside0.mk C1
  have D2 := Aside0.mk C2
  have D3 := Aside0.mk C3
  have D4 := Aside0.mk C4
  have D6 := Aside0.mk C6
  have D7 := Aside0.mk C7
  have DM := Aside0.mk CM
  have HR := Aside0.mk hms
  have HL := Aside0.mk hl9
  have HL1 := Aside0.mk (show ms.length ≤ 9223372036854775807 by omega)
  have F1 := Aside0.mk E1
  have F2 := Aside0.mk E2
  have F3 := Aside0.mk E3
  have F8 := Aside0.mk E8
  have Fq := Aside0.mk Eq
  have GA := Aside0.mk CA
  have GY := Aside0.mk CY
  have GS := Aside0.mk CS
  have HV := Aside0.mk hV
  clear E8 Eq CA CY CS hV
  clear C1 C2 C3 C4 C6 C7 CM hms hl9 E1 E2 E3
  have HB := Aside0.mk (Below.refl w.heap.size w)
  go_enter Try.func13, Try.ntmps13
  go_wp2_with (first
      | ((with_reducible refine gate_dst (N := 1) rfl ?_); refine box_event ?hg (N := 1) ?hd (cs := #[.int .i64 n0, .int .i64 o, .bool b2, .int .i64 n3, .int .i64 n4, .slice A5 m5 c5, .int .i64 n6, .int .i64 n7, .slice A8 m8 c8, .slice A9 ms.length c9, .slice A10 m10 c10, .bool L, .bool T, .int .i64 n13, .slice A14 m14 c14, .slice A15 m15 c15, .slice A16 m16 c16, .int .i64 n17]) (t := 49) ?hr ?_; (case hd => rfl); (case hg => rfl); (case hr => first | (go_simp; done) | (go_simp; rfl)); intro ga _hg w1 hbox hb; have n0_ := Aside0.mk (below_step HB.out hb); clear HB; have HB := n0_; clear n0_; have BA := Aside0.mk hbox; clear hb hbox _hg; have ra := blk_cell BA.out)
      | ((first
          | (go_at_call 12; (first | (with_reducible refine (D1.out _ HB.out).mono ?_) | (with_reducible refine (D2.out _ HB.out).mono ?_) | (with_reducible refine (D7.out _ HB.out).mono ?_)))
          | (go_at_call 27; (first | (with_reducible refine (D3.out _ HB.out).mono ?_) | (with_reducible refine (D4.out _ HB.out).mono ?_)))
          | (go_at_call 28; (with_reducible refine (D6.out _ HB.out).mono ?_)));
         rintro e wn ⟨rfl, hb⟩; have n0_ := Aside0.mk (below_step HB.out hb); have n1_ := Aside0.mk (blk_below BA.out hb); clear HB BA; have HB := n0_; have BA := n1_; clear n0_ n1_ ra; clear hb; have ra := blk_cell BA.out))
  go_loopg [3] ms.length (fun kr v3 w' => ∃ (i : Int), v3 = .int .i64 i ∧ Aside0 (V = (allFrom (fun j : Nat => q (rd_T52 ms (j : Int)) && decide ((rd_T52 ms (j : Int)).f1 = n0)) ms.length i.toNat && specTail r1 r2 r3 L T k8 kA kY kq b2 kS)) ∧ Aside0 (0 ≤ i ∧ i + kr = ms.length) ∧ Aside0 (Below w.heap.size w w') ∧ Aside0 (w'.heap[ga]? = some (.cells #[.int .i64 n0, .int .i64 o, .bool b2, .int .i64 n3, .int .i64 n4, .slice A5 m5 c5, .int .i64 n6, .int .i64 n7, .slice A8 m8 c8, .slice A9 ms.length c9, .slice A10 m10 c10, .bool L, .bool T, .int .i64 n13, .slice A14 m14 c14, .slice A15 m15 c15, .slice A16 m16 c16, .int .i64 n17] 49 (0, 0))))
  case atStart => exact ⟨0, rfl, HV, ⟨⟨Int.le_refl _, by omega⟩⟩, HB, BA⟩
  case round =>
    clear ra
    clear HB BA HV
    obtain ⟨i, rfl, HV, HI, HB, BA⟩ := hrel
    have ra := blk_cell BA.out
    by_cases hi : i < (ms.length : Int)
    · rcases gk with _ | gk1
      · exact absurd HI.out.2 (by omega)
      have hc : decide (i < (ms.length : Int)) = true := decide_eq_true hi
      have hc0 : decide (0 ≤ i) = true := decide_eq_true HI.out.1
      have HI' := Aside0.mk hi
      clear hi
      go_upto_region 6 with (fail)
      obtain ⟨ad, A7, c7, e, h0, h1, h2, h3, h4, h5, h6, h7, hl7, hi7⟩ := at_T52 HR.out i HI.out.1 HI'.out
      subst e
      replace h0 := (HB.out.cell (World.block_lt_of_cell? w _ h0)).trans h0
      replace h1 := (HB.out.cell (World.block_lt_of_cell? w _ h1)).trans h1
      replace h2 := (HB.out.cell (World.block_lt_of_cell? w _ h2)).trans h2
      replace h3 := (HB.out.cell (World.block_lt_of_cell? w _ h3)).trans h3
      replace h4 := (HB.out.cell (World.block_lt_of_cell? w _ h4)).trans h4
      replace h5 := (HB.out.cell (World.block_lt_of_cell? w _ h5)).trans h5
      replace h6 := (HB.out.cell (World.block_lt_of_cell? w _ h6)).trans h6
      replace h7 := (HB.out.cell (World.block_lt_of_cell? w _ h7)).trans h7
      have hb0 : wr.cell? ⟨ga, 0, none⟩ = some (.int .i64 n0) := ra 0
      have hb1 : wr.cell? ⟨ga, 1, none⟩ = some (.int .i64 o) := ra 1
      have hb5 : wr.cell? ⟨ga, 9, none⟩ = some (.slice (some ad) ms.length c9) := ra 9
      have hb3 := Aside0.mk (show Below w.heap.size w wr.drew from below_drew1 HB.out)
      have HI7 := Aside0.mk (Kd.C_below hi7 hb3.out)
      have hbd : Below wr.heap.size wr wr.drew := below_drew1 (Below.refl _ wr)
      have d0 := (hbd.cell (World.block_lt_of_cell? wr _ h0)).trans h0
      have d1 := (hbd.cell (World.block_lt_of_cell? wr _ h1)).trans h1
      have d2 := (hbd.cell (World.block_lt_of_cell? wr _ h2)).trans h2
      have d3 := (hbd.cell (World.block_lt_of_cell? wr _ h3)).trans h3
      have d4 := (hbd.cell (World.block_lt_of_cell? wr _ h4)).trans h4
      have d5 := (hbd.cell (World.block_lt_of_cell? wr _ h5)).trans h5
      have d6 := (hbd.cell (World.block_lt_of_cell? wr _ h6)).trans h6
      have d7 := (hbd.cell (World.block_lt_of_cell? wr _ h7)).trans h7
      have db0 := (hbd.cell (World.block_lt_of_cell? wr _ hb0)).trans hb0
      have db1 := (hbd.cell (World.block_lt_of_cell? wr _ hb1)).trans hb1
      have db5 := (hbd.cell (World.block_lt_of_cell? wr _ hb5)).trans hb5
      clear ra
      have p1 := HI'.out
      have p0 := HI.out.1
      cases hq : q (rd_T52 ms i)
      · have HZ := Aside0.mk (loopFalse HV.out p0 p1 HL1.out (by show (q (rd_T52 ms ((i.toNat : Nat) : Int)) && _) = false; rw [Int.toNat_of_nonneg p0, hq]; rfl))
        clear HV
        have hcall := DM.out (rd_T52 ms i) _ _ _ hb3.out HI7.out hl7
        rw [hq] at hcall
        have HC := Aside0.mk hcall
        clear hcall hq
        refine start_ (n := 20) (S := (fun w' => w'.cell? ⟨ga, 9, none⟩ = some (.slice (some ad) ms.length c9) ∧ w'.cell? ⟨ga, 1, none⟩ = some (.int .i64 o) ∧ w'.cell? ⟨ga, 0, none⟩ = some (.int .i64 n0) ∧ w'.cell? (ad.add (i.toNat * 8)) = some (.int .i64 (rd_T52 ms i).f0) ∧ w'.cell? ⟨(ad.add (i.toNat * 8)).block, (ad.add (i.toNat * 8)).off + 1, none⟩ = some (.int .i64 (rd_T52 ms i).f1) ∧ w'.cell? ⟨(ad.add (i.toNat * 8)).block, (ad.add (i.toNat * 8)).off + 2, none⟩ = some (.int .i64 (rd_T52 ms i).f2) ∧ w'.cell? ⟨(ad.add (i.toNat * 8)).block, (ad.add (i.toNat * 8)).off + 3, none⟩ = some (.int .i64 (rd_T52 ms i).f3) ∧ w'.cell? ⟨(ad.add (i.toNat * 8)).block, (ad.add (i.toNat * 8)).off + 4, none⟩ = some (.int .i64 (rd_T52 ms i).f4) ∧ w'.cell? ⟨(ad.add (i.toNat * 8)).block, (ad.add (i.toNat * 8)).off + 5, none⟩ = some (.int .i64 (rd_T52 ms i).f5) ∧ w'.cell? ⟨(ad.add (i.toNat * 8)).block, (ad.add (i.toNat * 8)).off + 6, none⟩ = some (.string (rd_T52 ms i).f6) ∧ w'.cell? ⟨(ad.add (i.toNat * 8)).block, (ad.add (i.toNat * 8)).off + 7, none⟩ = some (.slice A7 (rd_T52 ms i).f7.length c7))) (ds := []) #[O,O,O,O,O,O,O,O,O,O,O,O,O,O,O,O,O,O,O,O] (by kernel_rfl) rfl rfl ⟨db5, db1, db0, d0, d1, d2, d3, d4, d5, d6, d7⟩ (fun hHeld => ?_); refine with_tabW region6.tab region6.bits (fun HT_ HW_ => ?_)
        refine pure_ (i := 0) (N := some 53) (v := ?_) (a' := ?_) #[I,O,O,O,O,O,O,O,O,O,O,O,O,O,O,O,O,O,O,O] rfl rfl (any_of HT_.out (by kernel_rfl)) (fun _ _ _ h => h) (Or.inl ⟨by rfl, ?_⟩) ?_ ?_
        rotate_left
        · intro w'
          go_simp
          with_reducible rfl
        rotate_left
        · simp only [Act.put, List.setIfInBounds_toArray, List.set_cons_zero, List.set_cons_succ]
          rfl
        refine take_ (i := 1) (N := some 54) (v := ?_) (a' := ?_) #[I,I,O,O,O,O,O,O,O,O,O,O,O,O,O,O,O,O,O,O] rfl rfl (take_ofW HT_.out HW_.out (by kernel_rfl)) (fun _ _ _ h => h) (Or.inl ⟨by rfl, ?_⟩) hHeld ?_ ?_
        rotate_left
        · rintro w' ⟨s0, s1, s2, s3, s4, s5, s6, s7, s8, s9, s10⟩
          go_simp
          with_reducible rfl
        rotate_left
        · simp only [Act.put, List.setIfInBounds_toArray, List.set_cons_zero, List.set_cons_succ]
          rfl
        refine pure_ (i := 2) (N := some 55) (v := ?_) (a' := ?_) #[I,I,I,O,O,O,O,O,O,O,O,O,O,O,O,O,O,O,O,O] rfl rfl (any_of HT_.out (by kernel_rfl)) (fun _ _ _ h => h) (Or.inl ⟨by rfl, ?_⟩) ?_ ?_
        rotate_left
        · intro w'
          go_simp
          with_reducible rfl
        rotate_left
        · simp only [Act.put, List.setIfInBounds_toArray, List.set_cons_zero, List.set_cons_succ]
          rfl
        refine pure_ (i := 3) (N := some 56) (v := ?_) (a' := ?_) #[I,I,I,I,O,O,O,O,O,O,O,O,O,O,O,O,O,O,O,O] rfl rfl (any_of HT_.out (by kernel_rfl)) (fun _ _ _ h => h) (Or.inl ⟨by rfl, ?_⟩) ?_ ?_
        rotate_left
        · intro w'
          go_simp
          with_reducible rfl
        rotate_left
        · simp only [Act.put, List.setIfInBounds_toArray, List.set_cons_zero, List.set_cons_succ]
          rfl
        refine take_ (i := 4) (N := some 57) (v := ?_) (a' := ?_) #[I,I,I,I,I,O,O,O,O,O,O,O,O,O,O,O,O,O,O,O] rfl rfl (take_ofW HT_.out HW_.out (by kernel_rfl)) (fun _ _ _ h => h) (Or.inl ⟨by rfl, ?_⟩) hHeld ?_ ?_
        rotate_left
        · rintro w' ⟨s0, s1, s2, s3, s4, s5, s6, s7, s8, s9, s10⟩
          go_simp
          with_reducible rfl
        rotate_left
        · simp only [Act.put, List.setIfInBounds_toArray, List.set_cons_zero, List.set_cons_succ]
          rfl
        refine pure_ (i := 5) (N := some 58) (v := ?_) (a' := ?_) #[I,I,I,I,I,I,O,O,O,O,O,O,O,O,O,O,O,O,O,O] rfl rfl (any_of HT_.out (by kernel_rfl)) (fun _ _ _ h => h) (Or.inl ⟨by rfl, ?_⟩) ?_ ?_
        rotate_left
        · intro w'
          go_simp
          with_reducible rfl
        rotate_left
        · simp only [Act.put, List.setIfInBounds_toArray, List.set_cons_zero, List.set_cons_succ]
          rfl
        refine take_ (i := 6) (N := some 59) (v := ?_) (a' := ?_) #[I,I,I,I,I,I,I,O,O,O,O,O,O,O,O,O,O,O,O,O] rfl rfl (take_ofW HT_.out HW_.out (by kernel_rfl)) (fun _ _ _ h => h) (Or.inl ⟨by rfl, ?_⟩) hHeld ?_ ?_
        rotate_left
        · rintro w' ⟨s0, s1, s2, s3, s4, s5, s6, s7, s8, s9, s10⟩
          go_simp
          with_reducible rfl
        rotate_left
        · simp only [Act.put, List.setIfInBounds_toArray, List.set_cons_zero, List.set_cons_succ]
          rfl
        refine one_ (i := 7) (N := some 60) #[I,I,I,I,I,I,I,I,O,O,O,O,O,O,O,O,O,O,O,O] rfl rfl (one_of HT_.out (by kernel_rfl)) (by decide) (fun K hK => ?_)
        refine goes_ Try.func14 (by kernel_rfl) rfl #[.agg #[.int .i64 (rd_T52 ms i).f0, .int .i64 (rd_T52 ms i).f1, .int .i64 (rd_T52 ms i).f2, .int .i64 (rd_T52 ms i).f3, .int .i64 (rd_T52 ms i).f4, .int .i64 (rd_T52 ms i).f5, .string (rd_T52 ms i).f6, .slice A7 (rd_T52 ms i).f7.length c7], .int .i64 o] (by rfl) rfl rfl (by (try simp only [List.map_toArray, List.map_cons, List.map_nil]); first | done | rfl) ?_
        with_reducible refine HC.out.mono ?_
        rintro e wn ⟨rfl, hb⟩
        have hb2 := below_step (below_drew1 (Below.refl wr.heap.size wr)) hb
        have k0 := (hb2.cell (World.block_lt_of_cell? wr _ h0)).trans h0; have k1 := (hb2.cell (World.block_lt_of_cell? wr _ h1)).trans h1; have k2 := (hb2.cell (World.block_lt_of_cell? wr _ h2)).trans h2; have k3 := (hb2.cell (World.block_lt_of_cell? wr _ h3)).trans h3; have k4 := (hb2.cell (World.block_lt_of_cell? wr _ h4)).trans h4; have k5 := (hb2.cell (World.block_lt_of_cell? wr _ h5)).trans h5; have k6 := (hb2.cell (World.block_lt_of_cell? wr _ h6)).trans h6; have k7 := (hb2.cell (World.block_lt_of_cell? wr _ h7)).trans h7; have kb0 := (hb2.cell (World.block_lt_of_cell? wr _ hb0)).trans hb0; have kb1 := (hb2.cell (World.block_lt_of_cell? wr _ hb1)).trans hb1; have kb5 := (hb2.cell (World.block_lt_of_cell? wr _ hb5)).trans hb5
        refine ⟨_, rfl, ?_⟩
        refine hK.out _ _ ⟨kb5, kb1, kb0, k0, k1, k2, k3, k4, k5, k6, k7⟩ (fun hHeld => ?_)
        clear hK K
        refine norm_ (a' := ?_) ?_ ?_
        rotate_left
        · show Act.put _ (some 60) _ = _
          simp only [Act.put, List.setIfInBounds_toArray, List.set_cons_zero, List.set_cons_succ]
          rfl
        refine pure_ (i := 8) (N := some 61) (v := ?_) (a' := ?_) #[I,I,I,I,I,I,I,I,I,O,O,O,O,O,O,O,O,O,O,O] rfl rfl (any_of HT_.out (by kernel_rfl)) (fun _ _ _ h => h) (Or.inl ⟨by rfl, ?_⟩) ?_ ?_
        rotate_left
        · intro w'
          go_simp
          with_reducible rfl
        rotate_left
        · simp only [Act.put, List.setIfInBounds_toArray, List.set_cons_zero, List.set_cons_succ]
          rfl
        refine pure_ (i := 9) (N := some 62) (v := ?_) (a' := ?_) #[I,I,I,I,I,I,I,I,I,I,O,O,O,O,O,O,O,O,O,O] rfl rfl (any_of HT_.out (by kernel_rfl)) (fun _ _ _ h => h) (Or.inl ⟨by rfl, ?_⟩) ?_ ?_
        rotate_left
        · intro w'
          go_simp
          with_reducible rfl
        rotate_left
        · simp only [Act.put, List.setIfInBounds_toArray, List.set_cons_zero, List.set_cons_succ]
          rfl
        refine pure_ (i := 10) (N := some 63) (v := undef) (a' := ?_) #[I,I,I,I,I,I,I,I,I,I,I,O,O,O,O,O,O,O,O,O] rfl rfl (any_of HT_.out (by kernel_rfl)) (fun _ _ _ h => h) (Or.inr ⟨by rfl, rfl⟩) ?_ ?_
        rotate_left
        · simp only [Act.put, List.setIfInBounds_toArray, List.set_cons_zero, List.set_cons_succ]
          rfl
        refine pure_ (i := 11) (N := some 64) (v := undef) (a' := ?_) #[I,I,I,I,I,I,I,I,I,I,I,I,O,O,O,O,O,O,O,O] rfl rfl (any_of HT_.out (by kernel_rfl)) (fun _ _ _ h => h) (Or.inr ⟨by rfl, rfl⟩) ?_ ?_
        rotate_left
        · simp only [Act.put, List.setIfInBounds_toArray, List.set_cons_zero, List.set_cons_succ]
          rfl
        refine pure_ (i := 12) (N := some 65) (v := undef) (a' := ?_) #[I,I,I,I,I,I,I,I,I,I,I,I,I,O,O,O,O,O,O,O] rfl rfl (any_of HT_.out (by kernel_rfl)) (fun _ _ _ h => h) (Or.inr ⟨by rfl, rfl⟩) ?_ ?_
        rotate_left
        · simp only [Act.put, List.setIfInBounds_toArray, List.set_cons_zero, List.set_cons_succ]
          rfl
        refine pure_ (i := 13) (N := some 66) (v := undef) (a' := ?_) #[I,I,I,I,I,I,I,I,I,I,I,I,I,I,O,O,O,O,O,O] rfl rfl (any_of HT_.out (by kernel_rfl)) (fun _ _ _ h => h) (Or.inr ⟨by rfl, rfl⟩) ?_ ?_
        rotate_left
        · simp only [Act.put, List.setIfInBounds_toArray, List.set_cons_zero, List.set_cons_succ]
          rfl
        refine pure_ (i := 14) (N := some 67) (v := undef) (a' := ?_) #[I,I,I,I,I,I,I,I,I,I,I,I,I,I,I,O,O,O,O,O] rfl rfl (any_of HT_.out (by kernel_rfl)) (fun _ _ _ h => h) (Or.inr ⟨by rfl, rfl⟩) ?_ ?_
        rotate_left
        · simp only [Act.put, List.setIfInBounds_toArray, List.set_cons_zero, List.set_cons_succ]
          rfl
        refine pure_ (i := 15) (N := some 68) (v := undef) (a' := ?_) #[I,I,I,I,I,I,I,I,I,I,I,I,I,I,I,I,O,O,O,O] rfl rfl (any_of HT_.out (by kernel_rfl)) (fun _ _ _ h => h) (Or.inr ⟨by rfl, rfl⟩) ?_ ?_
        rotate_left
        · simp only [Act.put, List.setIfInBounds_toArray, List.set_cons_zero, List.set_cons_succ]
          rfl
        refine pure_ (i := 16) (N := some 69) (v := undef) (a' := ?_) #[I,I,I,I,I,I,I,I,I,I,I,I,I,I,I,I,I,O,O,O] rfl rfl (any_of HT_.out (by kernel_rfl)) (fun _ _ _ h => h) (Or.inr ⟨by rfl, rfl⟩) ?_ ?_
        rotate_left
        · simp only [Act.put, List.setIfInBounds_toArray, List.set_cons_zero, List.set_cons_succ]
          rfl
        refine pure_ (i := 17) (N := some 70) (v := undef) (a' := ?_) #[I,I,I,I,I,I,I,I,I,I,I,I,I,I,I,I,I,I,O,O] rfl rfl (any_of HT_.out (by kernel_rfl)) (fun _ _ _ h => h) (Or.inr ⟨by rfl, rfl⟩) ?_ ?_
        rotate_left
        · simp only [Act.put, List.setIfInBounds_toArray, List.set_cons_zero, List.set_cons_succ]
          rfl
        refine pure_ (i := 18) (N := some 71) (v := undef) (a' := ?_) #[I,I,I,I,I,I,I,I,I,I,I,I,I,I,I,I,I,I,I,O] rfl rfl (any_of HT_.out (by kernel_rfl)) (fun _ _ _ h => h) (Or.inr ⟨by rfl, rfl⟩) ?_ ?_
        rotate_left
        · simp only [Act.put, List.setIfInBounds_toArray, List.set_cons_zero, List.set_cons_succ]
          rfl
        refine pure_ (i := 19) (N := some 72) (v := ?_) (a' := ?_) #[I,I,I,I,I,I,I,I,I,I,I,I,I,I,I,I,I,I,I,I] rfl rfl (any_of HT_.out (by kernel_rfl)) (fun _ _ _ h => h) (Or.inl ⟨by rfl, ?_⟩) ?_ ?_
        rotate_left
        · intro w'
          go_simp
          with_reducible rfl
        rotate_left
        · simp only [Act.put, List.setIfInBounds_toArray, List.set_cons_zero, List.set_cons_succ]
          rfl
        refine done_ (done_of HT_.out (by kernel_rfl)) ?_
        go_wp2
        go_ret
        exact ⟨by rw [HZ.out]; rfl, below_step HB.out hb2⟩
      · have hcall := DM.out (rd_T52 ms i) _ _ _ hb3.out HI7.out hl7
        rw [hq] at hcall
        have HC := Aside0.mk hcall
        have HQ := Aside0.mk hq
        clear hcall hq
        by_cases hn : (rd_T52 ms i).f1 = n0
        · have hnb : decide ((rd_T52 ms i).f1 = n0) = true := decide_eq_true hn
          have hnb1 : ((rd_T52 ms i).f1 == n0) = true := by simpa using hn
          have hnb2 : ((rd_T52 ms i).f1 != n0) = false := by simpa using hn
          have hnb3 : decide ((rd_T52 ms i).f1 ≠ n0) = false := by simpa using hn
          have HZ := Aside0.mk (loopTrue HV.out p0 p1 HL1.out (by show (q (rd_T52 ms ((i.toNat : Nat) : Int)) && decide ((rd_T52 ms ((i.toNat : Nat) : Int)).f1 = n0)) = true; rw [Int.toNat_of_nonneg p0, HQ.out, hnb]; rfl))
          clear hn HV HQ
          refine start_ (n := 20) (S := (fun w' => w'.cell? ⟨ga, 9, none⟩ = some (.slice (some ad) ms.length c9) ∧ w'.cell? ⟨ga, 1, none⟩ = some (.int .i64 o) ∧ w'.cell? ⟨ga, 0, none⟩ = some (.int .i64 n0) ∧ w'.cell? (ad.add (i.toNat * 8)) = some (.int .i64 (rd_T52 ms i).f0) ∧ w'.cell? ⟨(ad.add (i.toNat * 8)).block, (ad.add (i.toNat * 8)).off + 1, none⟩ = some (.int .i64 (rd_T52 ms i).f1) ∧ w'.cell? ⟨(ad.add (i.toNat * 8)).block, (ad.add (i.toNat * 8)).off + 2, none⟩ = some (.int .i64 (rd_T52 ms i).f2) ∧ w'.cell? ⟨(ad.add (i.toNat * 8)).block, (ad.add (i.toNat * 8)).off + 3, none⟩ = some (.int .i64 (rd_T52 ms i).f3) ∧ w'.cell? ⟨(ad.add (i.toNat * 8)).block, (ad.add (i.toNat * 8)).off + 4, none⟩ = some (.int .i64 (rd_T52 ms i).f4) ∧ w'.cell? ⟨(ad.add (i.toNat * 8)).block, (ad.add (i.toNat * 8)).off + 5, none⟩ = some (.int .i64 (rd_T52 ms i).f5) ∧ w'.cell? ⟨(ad.add (i.toNat * 8)).block, (ad.add (i.toNat * 8)).off + 6, none⟩ = some (.string (rd_T52 ms i).f6) ∧ w'.cell? ⟨(ad.add (i.toNat * 8)).block, (ad.add (i.toNat * 8)).off + 7, none⟩ = some (.slice A7 (rd_T52 ms i).f7.length c7))) (ds := []) #[O,O,O,O,O,O,O,O,O,O,O,O,O,O,O,O,O,O,O,O] (by kernel_rfl) rfl rfl ⟨db5, db1, db0, d0, d1, d2, d3, d4, d5, d6, d7⟩ (fun hHeld => ?_); refine with_tabW region6.tab region6.bits (fun HT_ HW_ => ?_)
          refine pure_ (i := 0) (N := some 53) (v := ?_) (a' := ?_) #[I,O,O,O,O,O,O,O,O,O,O,O,O,O,O,O,O,O,O,O] rfl rfl (any_of HT_.out (by kernel_rfl)) (fun _ _ _ h => h) (Or.inl ⟨by rfl, ?_⟩) ?_ ?_
          rotate_left
          · intro w'
            go_simp
            with_reducible rfl
          rotate_left
          · simp only [Act.put, List.setIfInBounds_toArray, List.set_cons_zero, List.set_cons_succ]
            rfl
          refine take_ (i := 1) (N := some 54) (v := ?_) (a' := ?_) #[I,I,O,O,O,O,O,O,O,O,O,O,O,O,O,O,O,O,O,O] rfl rfl (take_ofW HT_.out HW_.out (by kernel_rfl)) (fun _ _ _ h => h) (Or.inl ⟨by rfl, ?_⟩) hHeld ?_ ?_
          rotate_left
          · rintro w' ⟨s0, s1, s2, s3, s4, s5, s6, s7, s8, s9, s10⟩
            go_simp
            with_reducible rfl
          rotate_left
          · simp only [Act.put, List.setIfInBounds_toArray, List.set_cons_zero, List.set_cons_succ]
            rfl
          refine pure_ (i := 2) (N := some 55) (v := ?_) (a' := ?_) #[I,I,I,O,O,O,O,O,O,O,O,O,O,O,O,O,O,O,O,O] rfl rfl (any_of HT_.out (by kernel_rfl)) (fun _ _ _ h => h) (Or.inl ⟨by rfl, ?_⟩) ?_ ?_
          rotate_left
          · intro w'
            go_simp
            with_reducible rfl
          rotate_left
          · simp only [Act.put, List.setIfInBounds_toArray, List.set_cons_zero, List.set_cons_succ]
            rfl
          refine pure_ (i := 3) (N := some 56) (v := ?_) (a' := ?_) #[I,I,I,I,O,O,O,O,O,O,O,O,O,O,O,O,O,O,O,O] rfl rfl (any_of HT_.out (by kernel_rfl)) (fun _ _ _ h => h) (Or.inl ⟨by rfl, ?_⟩) ?_ ?_
          rotate_left
          · intro w'
            go_simp
            with_reducible rfl
          rotate_left
          · simp only [Act.put, List.setIfInBounds_toArray, List.set_cons_zero, List.set_cons_succ]
            rfl
          refine take_ (i := 4) (N := some 57) (v := ?_) (a' := ?_) #[I,I,I,I,I,O,O,O,O,O,O,O,O,O,O,O,O,O,O,O] rfl rfl (take_ofW HT_.out HW_.out (by kernel_rfl)) (fun _ _ _ h => h) (Or.inl ⟨by rfl, ?_⟩) hHeld ?_ ?_
          rotate_left
          · rintro w' ⟨s0, s1, s2, s3, s4, s5, s6, s7, s8, s9, s10⟩
            go_simp
            with_reducible rfl
          rotate_left
          · simp only [Act.put, List.setIfInBounds_toArray, List.set_cons_zero, List.set_cons_succ]
            rfl
          refine pure_ (i := 5) (N := some 58) (v := ?_) (a' := ?_) #[I,I,I,I,I,I,O,O,O,O,O,O,O,O,O,O,O,O,O,O] rfl rfl (any_of HT_.out (by kernel_rfl)) (fun _ _ _ h => h) (Or.inl ⟨by rfl, ?_⟩) ?_ ?_
          rotate_left
          · intro w'
            go_simp
            with_reducible rfl
          rotate_left
          · simp only [Act.put, List.setIfInBounds_toArray, List.set_cons_zero, List.set_cons_succ]
            rfl
          refine take_ (i := 6) (N := some 59) (v := ?_) (a' := ?_) #[I,I,I,I,I,I,I,O,O,O,O,O,O,O,O,O,O,O,O,O] rfl rfl (take_ofW HT_.out HW_.out (by kernel_rfl)) (fun _ _ _ h => h) (Or.inl ⟨by rfl, ?_⟩) hHeld ?_ ?_
          rotate_left
          · rintro w' ⟨s0, s1, s2, s3, s4, s5, s6, s7, s8, s9, s10⟩
            go_simp
            with_reducible rfl
          rotate_left
          · simp only [Act.put, List.setIfInBounds_toArray, List.set_cons_zero, List.set_cons_succ]
            rfl
          refine one_ (i := 7) (N := some 60) #[I,I,I,I,I,I,I,I,O,O,O,O,O,O,O,O,O,O,O,O] rfl rfl (one_of HT_.out (by kernel_rfl)) (by decide) (fun K hK => ?_)
          refine goes_ Try.func14 (by kernel_rfl) rfl #[.agg #[.int .i64 (rd_T52 ms i).f0, .int .i64 (rd_T52 ms i).f1, .int .i64 (rd_T52 ms i).f2, .int .i64 (rd_T52 ms i).f3, .int .i64 (rd_T52 ms i).f4, .int .i64 (rd_T52 ms i).f5, .string (rd_T52 ms i).f6, .slice A7 (rd_T52 ms i).f7.length c7], .int .i64 o] (by rfl) rfl rfl (by (try simp only [List.map_toArray, List.map_cons, List.map_nil]); first | done | rfl) ?_
          with_reducible refine HC.out.mono ?_
          rintro e wn ⟨rfl, hb⟩
          have hb2 := below_step (below_drew1 (Below.refl wr.heap.size wr)) hb
          have k0 := (hb2.cell (World.block_lt_of_cell? wr _ h0)).trans h0; have k1 := (hb2.cell (World.block_lt_of_cell? wr _ h1)).trans h1; have k2 := (hb2.cell (World.block_lt_of_cell? wr _ h2)).trans h2; have k3 := (hb2.cell (World.block_lt_of_cell? wr _ h3)).trans h3; have k4 := (hb2.cell (World.block_lt_of_cell? wr _ h4)).trans h4; have k5 := (hb2.cell (World.block_lt_of_cell? wr _ h5)).trans h5; have k6 := (hb2.cell (World.block_lt_of_cell? wr _ h6)).trans h6; have k7 := (hb2.cell (World.block_lt_of_cell? wr _ h7)).trans h7; have kb0 := (hb2.cell (World.block_lt_of_cell? wr _ hb0)).trans hb0; have kb1 := (hb2.cell (World.block_lt_of_cell? wr _ hb1)).trans hb1; have kb5 := (hb2.cell (World.block_lt_of_cell? wr _ hb5)).trans hb5
          refine ⟨_, rfl, ?_⟩
          refine hK.out _ _ ⟨kb5, kb1, kb0, k0, k1, k2, k3, k4, k5, k6, k7⟩ (fun hHeld => ?_)
          clear hK K
          refine norm_ (a' := ?_) ?_ ?_
          rotate_left
          · show Act.put _ (some 60) _ = _
            simp only [Act.put, List.setIfInBounds_toArray, List.set_cons_zero, List.set_cons_succ]
            rfl
          refine pure_ (i := 8) (N := some 61) (v := ?_) (a' := ?_) #[I,I,I,I,I,I,I,I,I,O,O,O,O,O,O,O,O,O,O,O] rfl rfl (any_of HT_.out (by kernel_rfl)) (fun _ _ _ h => h) (Or.inl ⟨by rfl, ?_⟩) ?_ ?_
          rotate_left
          · intro w'
            go_simp
            with_reducible rfl
          rotate_left
          · simp only [Act.put, List.setIfInBounds_toArray, List.set_cons_zero, List.set_cons_succ]
            rfl
          refine pure_ (i := 9) (N := some 62) (v := ?_) (a' := ?_) #[I,I,I,I,I,I,I,I,I,I,O,O,O,O,O,O,O,O,O,O] rfl rfl (any_of HT_.out (by kernel_rfl)) (fun _ _ _ h => h) (Or.inl ⟨by rfl, ?_⟩) ?_ ?_
          rotate_left
          · intro w'
            go_simp
            with_reducible rfl
          rotate_left
          · simp only [Act.put, List.setIfInBounds_toArray, List.set_cons_zero, List.set_cons_succ]
            rfl
          refine pure_ (i := 10) (N := some 63) (v := ?_) (a' := ?_) #[I,I,I,I,I,I,I,I,I,I,I,O,O,O,O,O,O,O,O,O] rfl rfl (any_of HT_.out (by kernel_rfl)) (fun _ _ _ h => h) (Or.inl ⟨by rfl, ?_⟩) ?_ ?_
          rotate_left
          · intro w'
            go_simp
            with_reducible rfl
          rotate_left
          · simp only [Act.put, List.setIfInBounds_toArray, List.set_cons_zero, List.set_cons_succ]
            rfl
          refine take_ (i := 11) (N := some 64) (v := ?_) (a' := ?_) #[I,I,I,I,I,I,I,I,I,I,I,I,O,O,O,O,O,O,O,O] rfl rfl (take_ofW HT_.out HW_.out (by kernel_rfl)) (fun _ _ _ h => h) (Or.inl ⟨by rfl, ?_⟩) hHeld ?_ ?_
          rotate_left
          · rintro w' ⟨s0, s1, s2, s3, s4, s5, s6, s7, s8, s9, s10⟩
            go_simp
            with_reducible rfl
          rotate_left
          · simp only [Act.put, List.setIfInBounds_toArray, List.set_cons_zero, List.set_cons_succ]
            rfl
          refine pure_ (i := 12) (N := some 65) (v := ?_) (a' := ?_) #[I,I,I,I,I,I,I,I,I,I,I,I,I,O,O,O,O,O,O,O] rfl rfl (any_of HT_.out (by kernel_rfl)) (fun _ _ _ h => h) (Or.inl ⟨by rfl, ?_⟩) ?_ ?_
          rotate_left
          · intro w'
            go_simp
            with_reducible rfl
          rotate_left
          · simp only [Act.put, List.setIfInBounds_toArray, List.set_cons_zero, List.set_cons_succ]
            rfl
          refine pure_ (i := 13) (N := some 66) (v := ?_) (a' := ?_) #[I,I,I,I,I,I,I,I,I,I,I,I,I,I,O,O,O,O,O,O] rfl rfl (any_of HT_.out (by kernel_rfl)) (fun _ _ _ h => h) (Or.inl ⟨by rfl, ?_⟩) ?_ ?_
          rotate_left
          · intro w'
            go_simp
            with_reducible rfl
          rotate_left
          · simp only [Act.put, List.setIfInBounds_toArray, List.set_cons_zero, List.set_cons_succ]
            rfl
          refine pure_ (i := 14) (N := some 67) (v := ?_) (a' := ?_) #[I,I,I,I,I,I,I,I,I,I,I,I,I,I,I,O,O,O,O,O] rfl rfl (any_of HT_.out (by kernel_rfl)) (fun _ _ _ h => h) (Or.inl ⟨by rfl, ?_⟩) ?_ ?_
          rotate_left
          · intro w'
            go_simp
            with_reducible rfl
          rotate_left
          · simp only [Act.put, List.setIfInBounds_toArray, List.set_cons_zero, List.set_cons_succ]
            rfl
          refine take_ (i := 15) (N := some 68) (v := ?_) (a' := ?_) #[I,I,I,I,I,I,I,I,I,I,I,I,I,I,I,I,O,O,O,O] rfl rfl (take_ofW HT_.out HW_.out (by kernel_rfl)) (fun _ _ _ h => h) (Or.inl ⟨by rfl, ?_⟩) hHeld ?_ ?_
          rotate_left
          · rintro w' ⟨s0, s1, s2, s3, s4, s5, s6, s7, s8, s9, s10⟩
            go_simp
            with_reducible rfl
          rotate_left
          · simp only [Act.put, List.setIfInBounds_toArray, List.set_cons_zero, List.set_cons_succ]
            rfl
          refine pure_ (i := 16) (N := some 69) (v := ?_) (a' := ?_) #[I,I,I,I,I,I,I,I,I,I,I,I,I,I,I,I,I,O,O,O] rfl rfl (any_of HT_.out (by kernel_rfl)) (fun _ _ _ h => h) (Or.inl ⟨by rfl, ?_⟩) ?_ ?_
          rotate_left
          · intro w'
            go_simp
            with_reducible rfl
          rotate_left
          · simp only [Act.put, List.setIfInBounds_toArray, List.set_cons_zero, List.set_cons_succ]
            rfl
          refine take_ (i := 17) (N := some 70) (v := ?_) (a' := ?_) #[I,I,I,I,I,I,I,I,I,I,I,I,I,I,I,I,I,I,O,O] rfl rfl (take_ofW HT_.out HW_.out (by kernel_rfl)) (fun _ _ _ h => h) (Or.inl ⟨by rfl, ?_⟩) hHeld ?_ ?_
          rotate_left
          · rintro w' ⟨s0, s1, s2, s3, s4, s5, s6, s7, s8, s9, s10⟩
            go_simp
            with_reducible rfl
          rotate_left
          · simp only [Act.put, List.setIfInBounds_toArray, List.set_cons_zero, List.set_cons_succ]
            rfl
          refine pure_ (i := 18) (N := some 71) (v := ?_) (a' := ?_) #[I,I,I,I,I,I,I,I,I,I,I,I,I,I,I,I,I,I,I,O] rfl rfl (any_of HT_.out (by kernel_rfl)) (fun _ _ _ h => h) (Or.inl ⟨by rfl, ?_⟩) ?_ ?_
          rotate_left
          · intro w'
            go_simp
            with_reducible rfl
          rotate_left
          · simp only [Act.put, List.setIfInBounds_toArray, List.set_cons_zero, List.set_cons_succ]
            rfl
          refine pure_ (i := 19) (N := some 72) (v := ?_) (a' := ?_) #[I,I,I,I,I,I,I,I,I,I,I,I,I,I,I,I,I,I,I,I] rfl rfl (any_of HT_.out (by kernel_rfl)) (fun _ _ _ h => h) (Or.inl ⟨by rfl, ?_⟩) ?_ ?_
          rotate_left
          · intro w'
            go_simp
            with_reducible rfl
          rotate_left
          · simp only [Act.put, List.setIfInBounds_toArray, List.set_cons_zero, List.set_cons_succ]
            rfl
          refine done_ (done_of HT_.out (by kernel_rfl)) ?_
          go_wp2
          go_roundg gk1
          case measure => omega
          case rel => exact ⟨wrap64 (i + 1), rfl, HZ, ⟨by have := HI.out; have := HL.out; have := HI'.out; rw [wrapIn (by omega) (by omega)]; omega⟩, ⟨below_step HB.out hb2⟩, ⟨blk_below BA.out hb2⟩⟩
        · have hnb : decide ((rd_T52 ms i).f1 = n0) = false := decide_eq_false hn
          have hnb1 : ((rd_T52 ms i).f1 == n0) = false := by simpa using hn
          have hnb2 : ((rd_T52 ms i).f1 != n0) = true := by simpa using hn
          have hnb3 : decide ((rd_T52 ms i).f1 ≠ n0) = true := by simpa using hn
          have HZ := Aside0.mk (loopFalse HV.out p0 p1 HL1.out (by show (q (rd_T52 ms ((i.toNat : Nat) : Int)) && decide ((rd_T52 ms ((i.toNat : Nat) : Int)).f1 = n0)) = false; rw [Int.toNat_of_nonneg p0, HQ.out, hnb]; rfl))
          clear hn HV HQ
          refine start_ (n := 20) (S := (fun w' => w'.cell? ⟨ga, 9, none⟩ = some (.slice (some ad) ms.length c9) ∧ w'.cell? ⟨ga, 1, none⟩ = some (.int .i64 o) ∧ w'.cell? ⟨ga, 0, none⟩ = some (.int .i64 n0) ∧ w'.cell? (ad.add (i.toNat * 8)) = some (.int .i64 (rd_T52 ms i).f0) ∧ w'.cell? ⟨(ad.add (i.toNat * 8)).block, (ad.add (i.toNat * 8)).off + 1, none⟩ = some (.int .i64 (rd_T52 ms i).f1) ∧ w'.cell? ⟨(ad.add (i.toNat * 8)).block, (ad.add (i.toNat * 8)).off + 2, none⟩ = some (.int .i64 (rd_T52 ms i).f2) ∧ w'.cell? ⟨(ad.add (i.toNat * 8)).block, (ad.add (i.toNat * 8)).off + 3, none⟩ = some (.int .i64 (rd_T52 ms i).f3) ∧ w'.cell? ⟨(ad.add (i.toNat * 8)).block, (ad.add (i.toNat * 8)).off + 4, none⟩ = some (.int .i64 (rd_T52 ms i).f4) ∧ w'.cell? ⟨(ad.add (i.toNat * 8)).block, (ad.add (i.toNat * 8)).off + 5, none⟩ = some (.int .i64 (rd_T52 ms i).f5) ∧ w'.cell? ⟨(ad.add (i.toNat * 8)).block, (ad.add (i.toNat * 8)).off + 6, none⟩ = some (.string (rd_T52 ms i).f6) ∧ w'.cell? ⟨(ad.add (i.toNat * 8)).block, (ad.add (i.toNat * 8)).off + 7, none⟩ = some (.slice A7 (rd_T52 ms i).f7.length c7))) (ds := []) #[O,O,O,O,O,O,O,O,O,O,O,O,O,O,O,O,O,O,O,O] (by kernel_rfl) rfl rfl ⟨db5, db1, db0, d0, d1, d2, d3, d4, d5, d6, d7⟩ (fun hHeld => ?_); refine with_tabW region6.tab region6.bits (fun HT_ HW_ => ?_)
          refine pure_ (i := 0) (N := some 53) (v := ?_) (a' := ?_) #[I,O,O,O,O,O,O,O,O,O,O,O,O,O,O,O,O,O,O,O] rfl rfl (any_of HT_.out (by kernel_rfl)) (fun _ _ _ h => h) (Or.inl ⟨by rfl, ?_⟩) ?_ ?_
          rotate_left
          · intro w'
            go_simp
            with_reducible rfl
          rotate_left
          · simp only [Act.put, List.setIfInBounds_toArray, List.set_cons_zero, List.set_cons_succ]
            rfl
          refine take_ (i := 1) (N := some 54) (v := ?_) (a' := ?_) #[I,I,O,O,O,O,O,O,O,O,O,O,O,O,O,O,O,O,O,O] rfl rfl (take_ofW HT_.out HW_.out (by kernel_rfl)) (fun _ _ _ h => h) (Or.inl ⟨by rfl, ?_⟩) hHeld ?_ ?_
          rotate_left
          · rintro w' ⟨s0, s1, s2, s3, s4, s5, s6, s7, s8, s9, s10⟩
            go_simp
            with_reducible rfl
          rotate_left
          · simp only [Act.put, List.setIfInBounds_toArray, List.set_cons_zero, List.set_cons_succ]
            rfl
          refine pure_ (i := 2) (N := some 55) (v := ?_) (a' := ?_) #[I,I,I,O,O,O,O,O,O,O,O,O,O,O,O,O,O,O,O,O] rfl rfl (any_of HT_.out (by kernel_rfl)) (fun _ _ _ h => h) (Or.inl ⟨by rfl, ?_⟩) ?_ ?_
          rotate_left
          · intro w'
            go_simp
            with_reducible rfl
          rotate_left
          · simp only [Act.put, List.setIfInBounds_toArray, List.set_cons_zero, List.set_cons_succ]
            rfl
          refine pure_ (i := 3) (N := some 56) (v := ?_) (a' := ?_) #[I,I,I,I,O,O,O,O,O,O,O,O,O,O,O,O,O,O,O,O] rfl rfl (any_of HT_.out (by kernel_rfl)) (fun _ _ _ h => h) (Or.inl ⟨by rfl, ?_⟩) ?_ ?_
          rotate_left
          · intro w'
            go_simp
            with_reducible rfl
          rotate_left
          · simp only [Act.put, List.setIfInBounds_toArray, List.set_cons_zero, List.set_cons_succ]
            rfl
          refine take_ (i := 4) (N := some 57) (v := ?_) (a' := ?_) #[I,I,I,I,I,O,O,O,O,O,O,O,O,O,O,O,O,O,O,O] rfl rfl (take_ofW HT_.out HW_.out (by kernel_rfl)) (fun _ _ _ h => h) (Or.inl ⟨by rfl, ?_⟩) hHeld ?_ ?_
          rotate_left
          · rintro w' ⟨s0, s1, s2, s3, s4, s5, s6, s7, s8, s9, s10⟩
            go_simp
            with_reducible rfl
          rotate_left
          · simp only [Act.put, List.setIfInBounds_toArray, List.set_cons_zero, List.set_cons_succ]
            rfl
          refine pure_ (i := 5) (N := some 58) (v := ?_) (a' := ?_) #[I,I,I,I,I,I,O,O,O,O,O,O,O,O,O,O,O,O,O,O] rfl rfl (any_of HT_.out (by kernel_rfl)) (fun _ _ _ h => h) (Or.inl ⟨by rfl, ?_⟩) ?_ ?_
          rotate_left
          · intro w'
            go_simp
            with_reducible rfl
          rotate_left
          · simp only [Act.put, List.setIfInBounds_toArray, List.set_cons_zero, List.set_cons_succ]
            rfl
          refine take_ (i := 6) (N := some 59) (v := ?_) (a' := ?_) #[I,I,I,I,I,I,I,O,O,O,O,O,O,O,O,O,O,O,O,O] rfl rfl (take_ofW HT_.out HW_.out (by kernel_rfl)) (fun _ _ _ h => h) (Or.inl ⟨by rfl, ?_⟩) hHeld ?_ ?_
          rotate_left
          · rintro w' ⟨s0, s1, s2, s3, s4, s5, s6, s7, s8, s9, s10⟩
            go_simp
            with_reducible rfl
          rotate_left
          · simp only [Act.put, List.setIfInBounds_toArray, List.set_cons_zero, List.set_cons_succ]
            rfl
          refine one_ (i := 7) (N := some 60) #[I,I,I,I,I,I,I,I,O,O,O,O,O,O,O,O,O,O,O,O] rfl rfl (one_of HT_.out (by kernel_rfl)) (by decide) (fun K hK => ?_)
          refine goes_ Try.func14 (by kernel_rfl) rfl #[.agg #[.int .i64 (rd_T52 ms i).f0, .int .i64 (rd_T52 ms i).f1, .int .i64 (rd_T52 ms i).f2, .int .i64 (rd_T52 ms i).f3, .int .i64 (rd_T52 ms i).f4, .int .i64 (rd_T52 ms i).f5, .string (rd_T52 ms i).f6, .slice A7 (rd_T52 ms i).f7.length c7], .int .i64 o] (by rfl) rfl rfl (by (try simp only [List.map_toArray, List.map_cons, List.map_nil]); first | done | rfl) ?_
          with_reducible refine HC.out.mono ?_
          rintro e wn ⟨rfl, hb⟩
          have hb2 := below_step (below_drew1 (Below.refl wr.heap.size wr)) hb
          have k0 := (hb2.cell (World.block_lt_of_cell? wr _ h0)).trans h0; have k1 := (hb2.cell (World.block_lt_of_cell? wr _ h1)).trans h1; have k2 := (hb2.cell (World.block_lt_of_cell? wr _ h2)).trans h2; have k3 := (hb2.cell (World.block_lt_of_cell? wr _ h3)).trans h3; have k4 := (hb2.cell (World.block_lt_of_cell? wr _ h4)).trans h4; have k5 := (hb2.cell (World.block_lt_of_cell? wr _ h5)).trans h5; have k6 := (hb2.cell (World.block_lt_of_cell? wr _ h6)).trans h6; have k7 := (hb2.cell (World.block_lt_of_cell? wr _ h7)).trans h7; have kb0 := (hb2.cell (World.block_lt_of_cell? wr _ hb0)).trans hb0; have kb1 := (hb2.cell (World.block_lt_of_cell? wr _ hb1)).trans hb1; have kb5 := (hb2.cell (World.block_lt_of_cell? wr _ hb5)).trans hb5
          refine ⟨_, rfl, ?_⟩
          refine hK.out _ _ ⟨kb5, kb1, kb0, k0, k1, k2, k3, k4, k5, k6, k7⟩ (fun hHeld => ?_)
          clear hK K
          refine norm_ (a' := ?_) ?_ ?_
          rotate_left
          · show Act.put _ (some 60) _ = _
            simp only [Act.put, List.setIfInBounds_toArray, List.set_cons_zero, List.set_cons_succ]
            rfl
          refine pure_ (i := 8) (N := some 61) (v := ?_) (a' := ?_) #[I,I,I,I,I,I,I,I,I,O,O,O,O,O,O,O,O,O,O,O] rfl rfl (any_of HT_.out (by kernel_rfl)) (fun _ _ _ h => h) (Or.inl ⟨by rfl, ?_⟩) ?_ ?_
          rotate_left
          · intro w'
            go_simp
            with_reducible rfl
          rotate_left
          · simp only [Act.put, List.setIfInBounds_toArray, List.set_cons_zero, List.set_cons_succ]
            rfl
          refine pure_ (i := 9) (N := some 62) (v := ?_) (a' := ?_) #[I,I,I,I,I,I,I,I,I,I,O,O,O,O,O,O,O,O,O,O] rfl rfl (any_of HT_.out (by kernel_rfl)) (fun _ _ _ h => h) (Or.inl ⟨by rfl, ?_⟩) ?_ ?_
          rotate_left
          · intro w'
            go_simp
            with_reducible rfl
          rotate_left
          · simp only [Act.put, List.setIfInBounds_toArray, List.set_cons_zero, List.set_cons_succ]
            rfl
          refine pure_ (i := 10) (N := some 63) (v := ?_) (a' := ?_) #[I,I,I,I,I,I,I,I,I,I,I,O,O,O,O,O,O,O,O,O] rfl rfl (any_of HT_.out (by kernel_rfl)) (fun _ _ _ h => h) (Or.inl ⟨by rfl, ?_⟩) ?_ ?_
          rotate_left
          · intro w'
            go_simp
            with_reducible rfl
          rotate_left
          · simp only [Act.put, List.setIfInBounds_toArray, List.set_cons_zero, List.set_cons_succ]
            rfl
          refine take_ (i := 11) (N := some 64) (v := ?_) (a' := ?_) #[I,I,I,I,I,I,I,I,I,I,I,I,O,O,O,O,O,O,O,O] rfl rfl (take_ofW HT_.out HW_.out (by kernel_rfl)) (fun _ _ _ h => h) (Or.inl ⟨by rfl, ?_⟩) hHeld ?_ ?_
          rotate_left
          · rintro w' ⟨s0, s1, s2, s3, s4, s5, s6, s7, s8, s9, s10⟩
            go_simp
            with_reducible rfl
          rotate_left
          · simp only [Act.put, List.setIfInBounds_toArray, List.set_cons_zero, List.set_cons_succ]
            rfl
          refine pure_ (i := 12) (N := some 65) (v := ?_) (a' := ?_) #[I,I,I,I,I,I,I,I,I,I,I,I,I,O,O,O,O,O,O,O] rfl rfl (any_of HT_.out (by kernel_rfl)) (fun _ _ _ h => h) (Or.inl ⟨by rfl, ?_⟩) ?_ ?_
          rotate_left
          · intro w'
            go_simp
            with_reducible rfl
          rotate_left
          · simp only [Act.put, List.setIfInBounds_toArray, List.set_cons_zero, List.set_cons_succ]
            rfl
          refine pure_ (i := 13) (N := some 66) (v := ?_) (a' := ?_) #[I,I,I,I,I,I,I,I,I,I,I,I,I,I,O,O,O,O,O,O] rfl rfl (any_of HT_.out (by kernel_rfl)) (fun _ _ _ h => h) (Or.inl ⟨by rfl, ?_⟩) ?_ ?_
          rotate_left
          · intro w'
            go_simp
            with_reducible rfl
          rotate_left
          · simp only [Act.put, List.setIfInBounds_toArray, List.set_cons_zero, List.set_cons_succ]
            rfl
          refine pure_ (i := 14) (N := some 67) (v := ?_) (a' := ?_) #[I,I,I,I,I,I,I,I,I,I,I,I,I,I,I,O,O,O,O,O] rfl rfl (any_of HT_.out (by kernel_rfl)) (fun _ _ _ h => h) (Or.inl ⟨by rfl, ?_⟩) ?_ ?_
          rotate_left
          · intro w'
            go_simp
            with_reducible rfl
          rotate_left
          · simp only [Act.put, List.setIfInBounds_toArray, List.set_cons_zero, List.set_cons_succ]
            rfl
          refine take_ (i := 15) (N := some 68) (v := ?_) (a' := ?_) #[I,I,I,I,I,I,I,I,I,I,I,I,I,I,I,I,O,O,O,O] rfl rfl (take_ofW HT_.out HW_.out (by kernel_rfl)) (fun _ _ _ h => h) (Or.inl ⟨by rfl, ?_⟩) hHeld ?_ ?_
          rotate_left
          · rintro w' ⟨s0, s1, s2, s3, s4, s5, s6, s7, s8, s9, s10⟩
            go_simp
            with_reducible rfl
          rotate_left
          · simp only [Act.put, List.setIfInBounds_toArray, List.set_cons_zero, List.set_cons_succ]
            rfl
          refine pure_ (i := 16) (N := some 69) (v := ?_) (a' := ?_) #[I,I,I,I,I,I,I,I,I,I,I,I,I,I,I,I,I,O,O,O] rfl rfl (any_of HT_.out (by kernel_rfl)) (fun _ _ _ h => h) (Or.inl ⟨by rfl, ?_⟩) ?_ ?_
          rotate_left
          · intro w'
            go_simp
            with_reducible rfl
          rotate_left
          · simp only [Act.put, List.setIfInBounds_toArray, List.set_cons_zero, List.set_cons_succ]
            rfl
          refine take_ (i := 17) (N := some 70) (v := ?_) (a' := ?_) #[I,I,I,I,I,I,I,I,I,I,I,I,I,I,I,I,I,I,O,O] rfl rfl (take_ofW HT_.out HW_.out (by kernel_rfl)) (fun _ _ _ h => h) (Or.inl ⟨by rfl, ?_⟩) hHeld ?_ ?_
          rotate_left
          · rintro w' ⟨s0, s1, s2, s3, s4, s5, s6, s7, s8, s9, s10⟩
            go_simp
            with_reducible rfl
          rotate_left
          · simp only [Act.put, List.setIfInBounds_toArray, List.set_cons_zero, List.set_cons_succ]
            rfl
          refine pure_ (i := 18) (N := some 71) (v := ?_) (a' := ?_) #[I,I,I,I,I,I,I,I,I,I,I,I,I,I,I,I,I,I,I,O] rfl rfl (any_of HT_.out (by kernel_rfl)) (fun _ _ _ h => h) (Or.inl ⟨by rfl, ?_⟩) ?_ ?_
          rotate_left
          · intro w'
            go_simp
            with_reducible rfl
          rotate_left
          · simp only [Act.put, List.setIfInBounds_toArray, List.set_cons_zero, List.set_cons_succ]
            rfl
          refine pure_ (i := 19) (N := some 72) (v := ?_) (a' := ?_) #[I,I,I,I,I,I,I,I,I,I,I,I,I,I,I,I,I,I,I,I] rfl rfl (any_of HT_.out (by kernel_rfl)) (fun _ _ _ h => h) (Or.inl ⟨by rfl, ?_⟩) ?_ ?_
          rotate_left
          · intro w'
            go_simp
            with_reducible rfl
          rotate_left
          · simp only [Act.put, List.setIfInBounds_toArray, List.set_cons_zero, List.set_cons_succ]
            rfl
          refine done_ (done_of HT_.out (by kernel_rfl)) ?_
          go_wp2
          go_ret
          exact ⟨by rw [HZ.out]; rfl, below_step HB.out hb2⟩
    · have hc : decide (i < (ms.length : Int)) = false := decide_eq_false hi
      have hie : i.toNat = ms.length := by have := HI.out; omega
      have HV' := Aside0.mk (HV.out.trans (by rw [hie, allFrom_end, Bool.true_and]))
      clear hi hie HV
      have HV := HV'
      clear HV'
      have ca := GA.out
      have ca1 : decide (0 < m16) = kA := by cases kA <;> simp at ca ⊢ <;> omega
      have ca2 : decide ((0 : Int) < (m16 : Int)) = kA := by cases kA <;> simp at ca ⊢ <;> omega
      have cy := GY.out
      have cs0 := GS.out
      have cs1 : (wrap64 (wrap64 ((ms.length : Int) + (m10 : Int)) + n17) == 0) = kS := by rw [← cs0]; rfl
      rcases r1 with _ | _
      · clear ca ca1 ca2 cy cs0 cs1
        clear ra
        obtain ⟨r1_, r2_, r6_, r9_, r10_, r11_, r12_, r13_, r14_, r15_, r16_, r17_⟩ := recFacts BA.out
        go_wp2_with (first
          | go_big_skip
          | (((with_reducible refine gate_load (t := 49) (p := 1) rfl ?_); refine load_row (ty := 49) (t := 49) (g := ga) (cs := #[.int .i64 n0, .int .i64 o, .bool b2, .int .i64 n3, .int .i64 n4, .slice A5 m5 c5, .int .i64 n6, .int .i64 n7, .slice A8 m8 c8, .slice A9 ms.length c9, .slice A10 m10 c10, .bool L, .bool T, .int .i64 n13, .slice A14 m14 c14, .slice A15 m15 c15, .slice A16 m16 c16, .int .i64 n17]) rfl rfl rfl BA.out Try.underlying49 rfl (by kernel_rfl) ?_))
          | (((with_reducible refine gate_load (t := 49) (p := 1) rfl ?_); refine load_row_g (by rfl) (ty := 49) (t := 49) (g := ga) (cs := #[.int .i64 n0, .int .i64 o, .bool b2, .int .i64 n3, .int .i64 n4, .slice A5 m5 c5, .int .i64 n6, .int .i64 n7, .slice A8 m8 c8, .slice A9 ms.length c9, .slice A10 m10 c10, .bool L, .bool T, .int .i64 n13, .slice A14 m14 c14, .slice A15 m15 c15, .slice A16 m16 c16, .int .i64 n17]) rfl rfl BA.out Try.underlying49 rfl (by kernel_rfl) ?_))
          | ((first
          | (go_at_call 29; (with_reducible refine (F1.out _ HB.out).mono ?_))
          | (go_at_call 30; (with_reducible refine (F2.out _ HB.out).mono ?_))
          | (go_at_call 31; (with_reducible refine (F3.out _ HB.out).mono ?_))
          | (go_at_call 12; (with_reducible refine (F8.out _ HB.out).mono ?_))
          | (go_at_call 32; (with_reducible refine (Fq.out _ HB.out).mono ?_))); rintro e wn ⟨rfl, hb⟩; have n0_ := Aside0.mk (below_step HB.out hb); have n1_ := Aside0.mk (blk_below BA.out hb); clear HB BA; have HB := n0_; have BA := n1_; clear n0_ n1_; clear r1_ r2_ r6_ r9_ r10_ r11_ r12_ r13_ r14_ r15_ r16_ r17_; clear hb; obtain ⟨r1_, r2_, r6_, r9_, r10_, r11_, r12_, r13_, r14_, r15_, r16_, r17_⟩ := recFacts BA.out))
        go_ret
        have hx := HV.out
        simp only [specTail, Bool.and_true, Bool.true_and, Bool.and_false, Bool.false_and, Bool.or_true, Bool.or_false, Bool.true_or, Bool.false_or, Bool.not_true, Bool.not_false, cond_true, cond_false, Bool.and_self, Bool.or_self] at hx
        exact ⟨by rw [hx]; rfl, HB.out⟩
      rcases r2 with _ | _
      · clear ca ca1 ca2 cy cs0 cs1
        clear ra
        obtain ⟨r1_, r2_, r6_, r9_, r10_, r11_, r12_, r13_, r14_, r15_, r16_, r17_⟩ := recFacts BA.out
        go_wp2_with (first
          | go_big_skip
          | (((with_reducible refine gate_load (t := 49) (p := 1) rfl ?_); refine load_row (ty := 49) (t := 49) (g := ga) (cs := #[.int .i64 n0, .int .i64 o, .bool b2, .int .i64 n3, .int .i64 n4, .slice A5 m5 c5, .int .i64 n6, .int .i64 n7, .slice A8 m8 c8, .slice A9 ms.length c9, .slice A10 m10 c10, .bool L, .bool T, .int .i64 n13, .slice A14 m14 c14, .slice A15 m15 c15, .slice A16 m16 c16, .int .i64 n17]) rfl rfl rfl BA.out Try.underlying49 rfl (by kernel_rfl) ?_))
          | (((with_reducible refine gate_load (t := 49) (p := 1) rfl ?_); refine load_row_g (by rfl) (ty := 49) (t := 49) (g := ga) (cs := #[.int .i64 n0, .int .i64 o, .bool b2, .int .i64 n3, .int .i64 n4, .slice A5 m5 c5, .int .i64 n6, .int .i64 n7, .slice A8 m8 c8, .slice A9 ms.length c9, .slice A10 m10 c10, .bool L, .bool T, .int .i64 n13, .slice A14 m14 c14, .slice A15 m15 c15, .slice A16 m16 c16, .int .i64 n17]) rfl rfl BA.out Try.underlying49 rfl (by kernel_rfl) ?_))
          | ((first
          | (go_at_call 29; (with_reducible refine (F1.out _ HB.out).mono ?_))
          | (go_at_call 30; (with_reducible refine (F2.out _ HB.out).mono ?_))
          | (go_at_call 31; (with_reducible refine (F3.out _ HB.out).mono ?_))
          | (go_at_call 12; (with_reducible refine (F8.out _ HB.out).mono ?_))
          | (go_at_call 32; (with_reducible refine (Fq.out _ HB.out).mono ?_))); rintro e wn ⟨rfl, hb⟩; have n0_ := Aside0.mk (below_step HB.out hb); have n1_ := Aside0.mk (blk_below BA.out hb); clear HB BA; have HB := n0_; have BA := n1_; clear n0_ n1_; clear r1_ r2_ r6_ r9_ r10_ r11_ r12_ r13_ r14_ r15_ r16_ r17_; clear hb; obtain ⟨r1_, r2_, r6_, r9_, r10_, r11_, r12_, r13_, r14_, r15_, r16_, r17_⟩ := recFacts BA.out))
        go_ret
        have hx := HV.out
        simp only [specTail, Bool.and_true, Bool.true_and, Bool.and_false, Bool.false_and, Bool.or_true, Bool.or_false, Bool.true_or, Bool.false_or, Bool.not_true, Bool.not_false, cond_true, cond_false, Bool.and_self, Bool.or_self] at hx
        exact ⟨by rw [hx]; rfl, HB.out⟩
      rcases r3 with _ | _
      · clear ca ca1 ca2 cy cs0 cs1
        clear ra
        obtain ⟨r1_, r2_, r6_, r9_, r10_, r11_, r12_, r13_, r14_, r15_, r16_, r17_⟩ := recFacts BA.out
        go_wp2_with (first
          | go_big_skip
          | (((with_reducible refine gate_load (t := 49) (p := 1) rfl ?_); refine load_row (ty := 49) (t := 49) (g := ga) (cs := #[.int .i64 n0, .int .i64 o, .bool b2, .int .i64 n3, .int .i64 n4, .slice A5 m5 c5, .int .i64 n6, .int .i64 n7, .slice A8 m8 c8, .slice A9 ms.length c9, .slice A10 m10 c10, .bool L, .bool T, .int .i64 n13, .slice A14 m14 c14, .slice A15 m15 c15, .slice A16 m16 c16, .int .i64 n17]) rfl rfl rfl BA.out Try.underlying49 rfl (by kernel_rfl) ?_))
          | (((with_reducible refine gate_load (t := 49) (p := 1) rfl ?_); refine load_row_g (by rfl) (ty := 49) (t := 49) (g := ga) (cs := #[.int .i64 n0, .int .i64 o, .bool b2, .int .i64 n3, .int .i64 n4, .slice A5 m5 c5, .int .i64 n6, .int .i64 n7, .slice A8 m8 c8, .slice A9 ms.length c9, .slice A10 m10 c10, .bool L, .bool T, .int .i64 n13, .slice A14 m14 c14, .slice A15 m15 c15, .slice A16 m16 c16, .int .i64 n17]) rfl rfl BA.out Try.underlying49 rfl (by kernel_rfl) ?_))
          | ((first
          | (go_at_call 29; (with_reducible refine (F1.out _ HB.out).mono ?_))
          | (go_at_call 30; (with_reducible refine (F2.out _ HB.out).mono ?_))
          | (go_at_call 31; (with_reducible refine (F3.out _ HB.out).mono ?_))
          | (go_at_call 12; (with_reducible refine (F8.out _ HB.out).mono ?_))
          | (go_at_call 32; (with_reducible refine (Fq.out _ HB.out).mono ?_))); rintro e wn ⟨rfl, hb⟩; have n0_ := Aside0.mk (below_step HB.out hb); have n1_ := Aside0.mk (blk_below BA.out hb); clear HB BA; have HB := n0_; have BA := n1_; clear n0_ n1_; clear r1_ r2_ r6_ r9_ r10_ r11_ r12_ r13_ r14_ r15_ r16_ r17_; clear hb; obtain ⟨r1_, r2_, r6_, r9_, r10_, r11_, r12_, r13_, r14_, r15_, r16_, r17_⟩ := recFacts BA.out))
        go_ret
        have hx := HV.out
        simp only [specTail, Bool.and_true, Bool.true_and, Bool.and_false, Bool.false_and, Bool.or_true, Bool.or_false, Bool.true_or, Bool.false_or, Bool.not_true, Bool.not_false, cond_true, cond_false, Bool.and_self, Bool.or_self] at hx
        exact ⟨by rw [hx]; rfl, HB.out⟩
      rcases L with _ | _ <;> rcases T with _ | _ <;> rcases b2 with _ | _
      · rcases kq with _ | _
        all_goals
          clear ra
          obtain ⟨r1_, r2_, r6_, r9_, r10_, r11_, r12_, r13_, r14_, r15_, r16_, r17_⟩ := recFacts BA.out
          go_wp2_with (first
            | go_big_skip
            | (((with_reducible refine gate_load (t := 49) (p := 1) rfl ?_); refine load_row (ty := 49) (t := 49) (g := ga) (cs := #[.int .i64 n0, .int .i64 o, .bool false, .int .i64 n3, .int .i64 n4, .slice A5 m5 c5, .int .i64 n6, .int .i64 n7, .slice A8 m8 c8, .slice A9 ms.length c9, .slice A10 m10 c10, .bool false, .bool false, .int .i64 n13, .slice A14 m14 c14, .slice A15 m15 c15, .slice A16 m16 c16, .int .i64 n17]) rfl rfl rfl BA.out Try.underlying49 rfl (by kernel_rfl) ?_))
            | (((with_reducible refine gate_load (t := 49) (p := 1) rfl ?_); refine load_row_g (by rfl) (ty := 49) (t := 49) (g := ga) (cs := #[.int .i64 n0, .int .i64 o, .bool false, .int .i64 n3, .int .i64 n4, .slice A5 m5 c5, .int .i64 n6, .int .i64 n7, .slice A8 m8 c8, .slice A9 ms.length c9, .slice A10 m10 c10, .bool false, .bool false, .int .i64 n13, .slice A14 m14 c14, .slice A15 m15 c15, .slice A16 m16 c16, .int .i64 n17]) rfl rfl BA.out Try.underlying49 rfl (by kernel_rfl) ?_))
            | ((first
            | (go_at_call 29; (with_reducible refine (F1.out _ HB.out).mono ?_))
            | (go_at_call 30; (with_reducible refine (F2.out _ HB.out).mono ?_))
            | (go_at_call 31; (with_reducible refine (F3.out _ HB.out).mono ?_))
            | (go_at_call 12; (with_reducible refine (F8.out _ HB.out).mono ?_))
            | (go_at_call 32; (with_reducible refine (Fq.out _ HB.out).mono ?_))); rintro e wn ⟨rfl, hb⟩; have n0_ := Aside0.mk (below_step HB.out hb); have n1_ := Aside0.mk (blk_below BA.out hb); clear HB BA; have HB := n0_; have BA := n1_; clear n0_ n1_; clear r1_ r2_ r6_ r9_ r10_ r11_ r12_ r13_ r14_ r15_ r16_ r17_; clear hb; obtain ⟨r1_, r2_, r6_, r9_, r10_, r11_, r12_, r13_, r14_, r15_, r16_, r17_⟩ := recFacts BA.out))
          go_ret
          have hx := HV.out
          simp only [specTail, Bool.and_true, Bool.true_and, Bool.and_false, Bool.false_and, Bool.or_true, Bool.or_false, Bool.true_or, Bool.false_or, Bool.not_true, Bool.not_false, cond_true, cond_false, Bool.and_self, Bool.or_self] at hx
          exact ⟨by rw [hx]; rfl, HB.out⟩
      · rcases kq with _ | _
        all_goals
          clear ra
          obtain ⟨r1_, r2_, r6_, r9_, r10_, r11_, r12_, r13_, r14_, r15_, r16_, r17_⟩ := recFacts BA.out
          go_wp2_with (first
            | go_big_skip
            | (((with_reducible refine gate_load (t := 49) (p := 1) rfl ?_); refine load_row (ty := 49) (t := 49) (g := ga) (cs := #[.int .i64 n0, .int .i64 o, .bool true, .int .i64 n3, .int .i64 n4, .slice A5 m5 c5, .int .i64 n6, .int .i64 n7, .slice A8 m8 c8, .slice A9 ms.length c9, .slice A10 m10 c10, .bool false, .bool false, .int .i64 n13, .slice A14 m14 c14, .slice A15 m15 c15, .slice A16 m16 c16, .int .i64 n17]) rfl rfl rfl BA.out Try.underlying49 rfl (by kernel_rfl) ?_))
            | (((with_reducible refine gate_load (t := 49) (p := 1) rfl ?_); refine load_row_g (by rfl) (ty := 49) (t := 49) (g := ga) (cs := #[.int .i64 n0, .int .i64 o, .bool true, .int .i64 n3, .int .i64 n4, .slice A5 m5 c5, .int .i64 n6, .int .i64 n7, .slice A8 m8 c8, .slice A9 ms.length c9, .slice A10 m10 c10, .bool false, .bool false, .int .i64 n13, .slice A14 m14 c14, .slice A15 m15 c15, .slice A16 m16 c16, .int .i64 n17]) rfl rfl BA.out Try.underlying49 rfl (by kernel_rfl) ?_))
            | ((first
            | (go_at_call 29; (with_reducible refine (F1.out _ HB.out).mono ?_))
            | (go_at_call 30; (with_reducible refine (F2.out _ HB.out).mono ?_))
            | (go_at_call 31; (with_reducible refine (F3.out _ HB.out).mono ?_))
            | (go_at_call 12; (with_reducible refine (F8.out _ HB.out).mono ?_))
            | (go_at_call 32; (with_reducible refine (Fq.out _ HB.out).mono ?_))); rintro e wn ⟨rfl, hb⟩; have n0_ := Aside0.mk (below_step HB.out hb); have n1_ := Aside0.mk (blk_below BA.out hb); clear HB BA; have HB := n0_; have BA := n1_; clear n0_ n1_; clear r1_ r2_ r6_ r9_ r10_ r11_ r12_ r13_ r14_ r15_ r16_ r17_; clear hb; obtain ⟨r1_, r2_, r6_, r9_, r10_, r11_, r12_, r13_, r14_, r15_, r16_, r17_⟩ := recFacts BA.out))
          go_ret
          have hx := HV.out
          simp only [specTail, Bool.and_true, Bool.true_and, Bool.and_false, Bool.false_and, Bool.or_true, Bool.or_false, Bool.true_or, Bool.false_or, Bool.not_true, Bool.not_false, cond_true, cond_false, Bool.and_self, Bool.or_self] at hx
          exact ⟨by rw [hx]; rfl, HB.out⟩
      · rcases k8 with _ | _
        rotate_left; rcases kA with _ | _
        rcases kq with _ | _
        all_goals
          clear ra
          obtain ⟨r1_, r2_, r6_, r9_, r10_, r11_, r12_, r13_, r14_, r15_, r16_, r17_⟩ := recFacts BA.out
          go_wp2_with (first
            | go_big_skip
            | (((with_reducible refine gate_load (t := 49) (p := 1) rfl ?_); refine load_row (ty := 49) (t := 49) (g := ga) (cs := #[.int .i64 n0, .int .i64 o, .bool false, .int .i64 n3, .int .i64 n4, .slice A5 m5 c5, .int .i64 n6, .int .i64 n7, .slice A8 m8 c8, .slice A9 ms.length c9, .slice A10 m10 c10, .bool false, .bool true, .int .i64 n13, .slice A14 m14 c14, .slice A15 m15 c15, .slice A16 m16 c16, .int .i64 n17]) rfl rfl rfl BA.out Try.underlying49 rfl (by kernel_rfl) ?_))
            | (((with_reducible refine gate_load (t := 49) (p := 1) rfl ?_); refine load_row_g (by rfl) (ty := 49) (t := 49) (g := ga) (cs := #[.int .i64 n0, .int .i64 o, .bool false, .int .i64 n3, .int .i64 n4, .slice A5 m5 c5, .int .i64 n6, .int .i64 n7, .slice A8 m8 c8, .slice A9 ms.length c9, .slice A10 m10 c10, .bool false, .bool true, .int .i64 n13, .slice A14 m14 c14, .slice A15 m15 c15, .slice A16 m16 c16, .int .i64 n17]) rfl rfl BA.out Try.underlying49 rfl (by kernel_rfl) ?_))
            | ((first
            | (go_at_call 29; (with_reducible refine (F1.out _ HB.out).mono ?_))
            | (go_at_call 30; (with_reducible refine (F2.out _ HB.out).mono ?_))
            | (go_at_call 31; (with_reducible refine (F3.out _ HB.out).mono ?_))
            | (go_at_call 12; (with_reducible refine (F8.out _ HB.out).mono ?_))
            | (go_at_call 32; (with_reducible refine (Fq.out _ HB.out).mono ?_))); rintro e wn ⟨rfl, hb⟩; have n0_ := Aside0.mk (below_step HB.out hb); have n1_ := Aside0.mk (blk_below BA.out hb); clear HB BA; have HB := n0_; have BA := n1_; clear n0_ n1_; clear r1_ r2_ r6_ r9_ r10_ r11_ r12_ r13_ r14_ r15_ r16_ r17_; clear hb; obtain ⟨r1_, r2_, r6_, r9_, r10_, r11_, r12_, r13_, r14_, r15_, r16_, r17_⟩ := recFacts BA.out))
          go_ret
          have hx := HV.out
          simp only [specTail, Bool.and_true, Bool.true_and, Bool.and_false, Bool.false_and, Bool.or_true, Bool.or_false, Bool.true_or, Bool.false_or, Bool.not_true, Bool.not_false, cond_true, cond_false, Bool.and_self, Bool.or_self] at hx
          exact ⟨by rw [hx]; rfl, HB.out⟩
      · rcases k8 with _ | _
        rotate_left; rcases kA with _ | _
        all_goals
          clear ra
          obtain ⟨r1_, r2_, r6_, r9_, r10_, r11_, r12_, r13_, r14_, r15_, r16_, r17_⟩ := recFacts BA.out
          go_wp2_with (first
            | go_big_skip
            | (((with_reducible refine gate_load (t := 49) (p := 1) rfl ?_); refine load_row (ty := 49) (t := 49) (g := ga) (cs := #[.int .i64 n0, .int .i64 o, .bool true, .int .i64 n3, .int .i64 n4, .slice A5 m5 c5, .int .i64 n6, .int .i64 n7, .slice A8 m8 c8, .slice A9 ms.length c9, .slice A10 m10 c10, .bool false, .bool true, .int .i64 n13, .slice A14 m14 c14, .slice A15 m15 c15, .slice A16 m16 c16, .int .i64 n17]) rfl rfl rfl BA.out Try.underlying49 rfl (by kernel_rfl) ?_))
            | (((with_reducible refine gate_load (t := 49) (p := 1) rfl ?_); refine load_row_g (by rfl) (ty := 49) (t := 49) (g := ga) (cs := #[.int .i64 n0, .int .i64 o, .bool true, .int .i64 n3, .int .i64 n4, .slice A5 m5 c5, .int .i64 n6, .int .i64 n7, .slice A8 m8 c8, .slice A9 ms.length c9, .slice A10 m10 c10, .bool false, .bool true, .int .i64 n13, .slice A14 m14 c14, .slice A15 m15 c15, .slice A16 m16 c16, .int .i64 n17]) rfl rfl BA.out Try.underlying49 rfl (by kernel_rfl) ?_))
            | ((first
            | (go_at_call 29; (with_reducible refine (F1.out _ HB.out).mono ?_))
            | (go_at_call 30; (with_reducible refine (F2.out _ HB.out).mono ?_))
            | (go_at_call 31; (with_reducible refine (F3.out _ HB.out).mono ?_))
            | (go_at_call 12; (with_reducible refine (F8.out _ HB.out).mono ?_))
            | (go_at_call 32; (with_reducible refine (Fq.out _ HB.out).mono ?_))); rintro e wn ⟨rfl, hb⟩; have n0_ := Aside0.mk (below_step HB.out hb); have n1_ := Aside0.mk (blk_below BA.out hb); clear HB BA; have HB := n0_; have BA := n1_; clear n0_ n1_; clear r1_ r2_ r6_ r9_ r10_ r11_ r12_ r13_ r14_ r15_ r16_ r17_; clear hb; obtain ⟨r1_, r2_, r6_, r9_, r10_, r11_, r12_, r13_, r14_, r15_, r16_, r17_⟩ := recFacts BA.out))
          go_ret
          have hx := HV.out
          simp only [specTail, Bool.and_true, Bool.true_and, Bool.and_false, Bool.false_and, Bool.or_true, Bool.or_false, Bool.true_or, Bool.false_or, Bool.not_true, Bool.not_false, cond_true, cond_false, Bool.and_self, Bool.or_self] at hx
          exact ⟨by rw [hx]; rfl, HB.out⟩
      · rcases k8 with _ | _
        rotate_left; rcases kY with _ | _
        rcases kq with _ | _
        all_goals
          clear ra
          obtain ⟨r1_, r2_, r6_, r9_, r10_, r11_, r12_, r13_, r14_, r15_, r16_, r17_⟩ := recFacts BA.out
          go_wp2_with (first
            | go_big_skip
            | (((with_reducible refine gate_load (t := 49) (p := 1) rfl ?_); refine load_row (ty := 49) (t := 49) (g := ga) (cs := #[.int .i64 n0, .int .i64 o, .bool false, .int .i64 n3, .int .i64 n4, .slice A5 m5 c5, .int .i64 n6, .int .i64 n7, .slice A8 m8 c8, .slice A9 ms.length c9, .slice A10 m10 c10, .bool true, .bool false, .int .i64 n13, .slice A14 m14 c14, .slice A15 m15 c15, .slice A16 m16 c16, .int .i64 n17]) rfl rfl rfl BA.out Try.underlying49 rfl (by kernel_rfl) ?_))
            | (((with_reducible refine gate_load (t := 49) (p := 1) rfl ?_); refine load_row_g (by rfl) (ty := 49) (t := 49) (g := ga) (cs := #[.int .i64 n0, .int .i64 o, .bool false, .int .i64 n3, .int .i64 n4, .slice A5 m5 c5, .int .i64 n6, .int .i64 n7, .slice A8 m8 c8, .slice A9 ms.length c9, .slice A10 m10 c10, .bool true, .bool false, .int .i64 n13, .slice A14 m14 c14, .slice A15 m15 c15, .slice A16 m16 c16, .int .i64 n17]) rfl rfl BA.out Try.underlying49 rfl (by kernel_rfl) ?_))
            | ((first
            | (go_at_call 29; (with_reducible refine (F1.out _ HB.out).mono ?_))
            | (go_at_call 30; (with_reducible refine (F2.out _ HB.out).mono ?_))
            | (go_at_call 31; (with_reducible refine (F3.out _ HB.out).mono ?_))
            | (go_at_call 12; (with_reducible refine (F8.out _ HB.out).mono ?_))
            | (go_at_call 32; (with_reducible refine (Fq.out _ HB.out).mono ?_))); rintro e wn ⟨rfl, hb⟩; have n0_ := Aside0.mk (below_step HB.out hb); have n1_ := Aside0.mk (blk_below BA.out hb); clear HB BA; have HB := n0_; have BA := n1_; clear n0_ n1_; clear r1_ r2_ r6_ r9_ r10_ r11_ r12_ r13_ r14_ r15_ r16_ r17_; clear hb; obtain ⟨r1_, r2_, r6_, r9_, r10_, r11_, r12_, r13_, r14_, r15_, r16_, r17_⟩ := recFacts BA.out))
          go_ret
          have hx := HV.out
          simp only [specTail, Bool.and_true, Bool.true_and, Bool.and_false, Bool.false_and, Bool.or_true, Bool.or_false, Bool.true_or, Bool.false_or, Bool.not_true, Bool.not_false, cond_true, cond_false, Bool.and_self, Bool.or_self] at hx
          exact ⟨by rw [hx]; rfl, HB.out⟩
      · rcases k8 with _ | _
        rotate_left; rcases kY with _ | _
        all_goals
          clear ra
          obtain ⟨r1_, r2_, r6_, r9_, r10_, r11_, r12_, r13_, r14_, r15_, r16_, r17_⟩ := recFacts BA.out
          go_wp2_with (first
            | go_big_skip
            | (((with_reducible refine gate_load (t := 49) (p := 1) rfl ?_); refine load_row (ty := 49) (t := 49) (g := ga) (cs := #[.int .i64 n0, .int .i64 o, .bool true, .int .i64 n3, .int .i64 n4, .slice A5 m5 c5, .int .i64 n6, .int .i64 n7, .slice A8 m8 c8, .slice A9 ms.length c9, .slice A10 m10 c10, .bool true, .bool false, .int .i64 n13, .slice A14 m14 c14, .slice A15 m15 c15, .slice A16 m16 c16, .int .i64 n17]) rfl rfl rfl BA.out Try.underlying49 rfl (by kernel_rfl) ?_))
            | (((with_reducible refine gate_load (t := 49) (p := 1) rfl ?_); refine load_row_g (by rfl) (ty := 49) (t := 49) (g := ga) (cs := #[.int .i64 n0, .int .i64 o, .bool true, .int .i64 n3, .int .i64 n4, .slice A5 m5 c5, .int .i64 n6, .int .i64 n7, .slice A8 m8 c8, .slice A9 ms.length c9, .slice A10 m10 c10, .bool true, .bool false, .int .i64 n13, .slice A14 m14 c14, .slice A15 m15 c15, .slice A16 m16 c16, .int .i64 n17]) rfl rfl BA.out Try.underlying49 rfl (by kernel_rfl) ?_))
            | ((first
            | (go_at_call 29; (with_reducible refine (F1.out _ HB.out).mono ?_))
            | (go_at_call 30; (with_reducible refine (F2.out _ HB.out).mono ?_))
            | (go_at_call 31; (with_reducible refine (F3.out _ HB.out).mono ?_))
            | (go_at_call 12; (with_reducible refine (F8.out _ HB.out).mono ?_))
            | (go_at_call 32; (with_reducible refine (Fq.out _ HB.out).mono ?_))); rintro e wn ⟨rfl, hb⟩; have n0_ := Aside0.mk (below_step HB.out hb); have n1_ := Aside0.mk (blk_below BA.out hb); clear HB BA; have HB := n0_; have BA := n1_; clear n0_ n1_; clear r1_ r2_ r6_ r9_ r10_ r11_ r12_ r13_ r14_ r15_ r16_ r17_; clear hb; obtain ⟨r1_, r2_, r6_, r9_, r10_, r11_, r12_, r13_, r14_, r15_, r16_, r17_⟩ := recFacts BA.out))
          go_ret
          have hx := HV.out
          simp only [specTail, Bool.and_true, Bool.true_and, Bool.and_false, Bool.false_and, Bool.or_true, Bool.or_false, Bool.true_or, Bool.false_or, Bool.not_true, Bool.not_false, cond_true, cond_false, Bool.and_self, Bool.or_self] at hx
          exact ⟨by rw [hx]; rfl, HB.out⟩
      · clear ca ca1 ca2 cy cs0 cs1
        clear ra
        obtain ⟨r1_, r2_, r6_, r9_, r10_, r11_, r12_, r13_, r14_, r15_, r16_, r17_⟩ := recFacts BA.out
        go_wp2_with (first
          | go_big_skip
          | (((with_reducible refine gate_load (t := 49) (p := 1) rfl ?_); refine load_row (ty := 49) (t := 49) (g := ga) (cs := #[.int .i64 n0, .int .i64 o, .bool false, .int .i64 n3, .int .i64 n4, .slice A5 m5 c5, .int .i64 n6, .int .i64 n7, .slice A8 m8 c8, .slice A9 ms.length c9, .slice A10 m10 c10, .bool true, .bool true, .int .i64 n13, .slice A14 m14 c14, .slice A15 m15 c15, .slice A16 m16 c16, .int .i64 n17]) rfl rfl rfl BA.out Try.underlying49 rfl (by kernel_rfl) ?_))
          | (((with_reducible refine gate_load (t := 49) (p := 1) rfl ?_); refine load_row_g (by rfl) (ty := 49) (t := 49) (g := ga) (cs := #[.int .i64 n0, .int .i64 o, .bool false, .int .i64 n3, .int .i64 n4, .slice A5 m5 c5, .int .i64 n6, .int .i64 n7, .slice A8 m8 c8, .slice A9 ms.length c9, .slice A10 m10 c10, .bool true, .bool true, .int .i64 n13, .slice A14 m14 c14, .slice A15 m15 c15, .slice A16 m16 c16, .int .i64 n17]) rfl rfl BA.out Try.underlying49 rfl (by kernel_rfl) ?_))
          | ((first
          | (go_at_call 29; (with_reducible refine (F1.out _ HB.out).mono ?_))
          | (go_at_call 30; (with_reducible refine (F2.out _ HB.out).mono ?_))
          | (go_at_call 31; (with_reducible refine (F3.out _ HB.out).mono ?_))
          | (go_at_call 12; (with_reducible refine (F8.out _ HB.out).mono ?_))
          | (go_at_call 32; (with_reducible refine (Fq.out _ HB.out).mono ?_))); rintro e wn ⟨rfl, hb⟩; have n0_ := Aside0.mk (below_step HB.out hb); have n1_ := Aside0.mk (blk_below BA.out hb); clear HB BA; have HB := n0_; have BA := n1_; clear n0_ n1_; clear r1_ r2_ r6_ r9_ r10_ r11_ r12_ r13_ r14_ r15_ r16_ r17_; clear hb; obtain ⟨r1_, r2_, r6_, r9_, r10_, r11_, r12_, r13_, r14_, r15_, r16_, r17_⟩ := recFacts BA.out))
        go_ret
        have hx := HV.out
        simp only [specTail, Bool.and_true, Bool.true_and, Bool.and_false, Bool.false_and, Bool.or_true, Bool.or_false, Bool.true_or, Bool.false_or, Bool.not_true, Bool.not_false, cond_true, cond_false, Bool.and_self, Bool.or_self] at hx
        exact ⟨by rw [hx]; rfl, HB.out⟩
      · clear ca ca1 ca2 cy cs0 cs1
        clear ra
        obtain ⟨r1_, r2_, r6_, r9_, r10_, r11_, r12_, r13_, r14_, r15_, r16_, r17_⟩ := recFacts BA.out
        go_wp2_with (first
          | go_big_skip
          | (((with_reducible refine gate_load (t := 49) (p := 1) rfl ?_); refine load_row (ty := 49) (t := 49) (g := ga) (cs := #[.int .i64 n0, .int .i64 o, .bool true, .int .i64 n3, .int .i64 n4, .slice A5 m5 c5, .int .i64 n6, .int .i64 n7, .slice A8 m8 c8, .slice A9 ms.length c9, .slice A10 m10 c10, .bool true, .bool true, .int .i64 n13, .slice A14 m14 c14, .slice A15 m15 c15, .slice A16 m16 c16, .int .i64 n17]) rfl rfl rfl BA.out Try.underlying49 rfl (by kernel_rfl) ?_))
          | (((with_reducible refine gate_load (t := 49) (p := 1) rfl ?_); refine load_row_g (by rfl) (ty := 49) (t := 49) (g := ga) (cs := #[.int .i64 n0, .int .i64 o, .bool true, .int .i64 n3, .int .i64 n4, .slice A5 m5 c5, .int .i64 n6, .int .i64 n7, .slice A8 m8 c8, .slice A9 ms.length c9, .slice A10 m10 c10, .bool true, .bool true, .int .i64 n13, .slice A14 m14 c14, .slice A15 m15 c15, .slice A16 m16 c16, .int .i64 n17]) rfl rfl BA.out Try.underlying49 rfl (by kernel_rfl) ?_))
          | ((first
          | (go_at_call 29; (with_reducible refine (F1.out _ HB.out).mono ?_))
          | (go_at_call 30; (with_reducible refine (F2.out _ HB.out).mono ?_))
          | (go_at_call 31; (with_reducible refine (F3.out _ HB.out).mono ?_))
          | (go_at_call 12; (with_reducible refine (F8.out _ HB.out).mono ?_))
          | (go_at_call 32; (with_reducible refine (Fq.out _ HB.out).mono ?_))); rintro e wn ⟨rfl, hb⟩; have n0_ := Aside0.mk (below_step HB.out hb); have n1_ := Aside0.mk (blk_below BA.out hb); clear HB BA; have HB := n0_; have BA := n1_; clear n0_ n1_; clear r1_ r2_ r6_ r9_ r10_ r11_ r12_ r13_ r14_ r15_ r16_ r17_; clear hb; obtain ⟨r1_, r2_, r6_, r9_, r10_, r11_, r12_, r13_, r14_, r15_, r16_, r17_⟩ := recFacts BA.out))
        go_ret
        have hx := HV.out
        simp only [specTail, Bool.and_true, Bool.true_and, Bool.and_false, Bool.false_and, Bool.or_true, Bool.or_false, Bool.true_or, Bool.false_or, Bool.not_true, Bool.not_false, cond_true, cond_false, Bool.and_self, Bool.or_self] at hx
        exact ⟨by rw [hx]; rfl, HB.out⟩

end Go.Proofs.Ytjkhlhopfaapmaa.QFnExactRecWorldOk
