/- The program's RecValid walked; conditions: its callees' contracts, named in each theorem. -/
import Derived.Test.YtjkhlhopfaapmaaQFnExactRecWorldOka
namespace Go.Proofs.Ytjkhlhopfaapmaa.QFnExactRecWorldOk
open Go.RowKit Go.Proofs.Ytjkhlhopfaapmaa.PFnExactRecWorldOk Go.Proofs.YtjkhlhopfaapmaaW.PrintWords Go.Proofs.YtjkhlhopfaapmaaW.PrintLast Go.Proofs.YtjkhlhopfaapmaaW.PrintMore Go.Proofs.Ytjkhlhopfaapmaa.Pb Go.Proofs.Ytjkhlhopfaapmaa.Op Go.Proofs.Ytjkhlhopfaapmaa.Wk
set_option linter.unusedSimpArgs false
set_option linter.unusedVariables false
/-! ### impl.RecValid -/
def region18.T : Bool × List (List Nat × List Nat) := (true, [([], []), ([0], [0]), ([1], [1]), ([2], [2]), ([3, 2], [3]), ([4], [4]), ([5, 4], [4, 5]), ([4], [4]), ([7, 4], [4, 7]), ([6, 8, 4, 4], [4, 6, 8]), ([9, 4], [4, 9]), ([4, 10], [4, 10]), ([11, 9], [11]), ([12], [12]), ([13, 12], [12, 13]), ([14, 12, 12], [12, 14]), ([15], [15]), ([16, 15], [15, 16]), ([15], [15]), ([18, 15], [15, 18]), ([15], [15]), ([20, 15], [15, 20]), ([19, 21, 15], [15, 19, 21]), ([22, 15], [15, 22]), ([23, 15], [15, 23]), ([17, 24, 15], [15, 17, 24]), ([15, 25, 12], [12, 15, 25]), ([12, 26], [12, 26])])
def region18.B : List Nat := [0, 1, 3, 7, 15, 31, 63, 31, 159, 511, 1023, 2047, 4095, 8191, 16383, 32767, 65535, 131071, 65535, 327679, 65535, 1114111, 3997695, 8191999, 16580607, 33554431, 67108863, 134217727]
theorem region18.tab : rtab .any (opsOf Try.f19 18) = region18.T := by kernel_rfl
theorem region18.bits : waitsOk region18.T.2 region18.B = true := by kernel_rfl

theorem posOf {n : Nat} {k : Bool} (h : decide (n = 0) = !k) : decide (0 < n) = k := by
  by_cases h0 : n = 0
  · rw [decide_eq_true h0] at h
    rw [decide_eq_false (by omega)]
    cases k
    · rfl
    · exact absurd h (by decide)
  · rw [decide_eq_false h0] at h
    rw [decide_eq_true (by omega)]
    cases k
    · exact absurd h (by decide)
    · rfl
theorem posOfI {n : Nat} {k : Bool} (h : decide (n = 0) = !k) : decide ((0 : Int) < (n : Int)) = k := by
  rw [← posOf h]
  by_cases h0 : 0 < n
  · rw [decide_eq_true h0, decide_eq_true (by omega)]
  · rw [decide_eq_false h0, decide_eq_false (by omega)]
def implTail (L T k8 kA kY kz k3 b2 ks1 ks2 : Bool) : Bool := !(L && T) && (bif L || T then k8 && !(T && kA) && !(L && kY) else kz && !k3) && (b2 || !L && !T && ks1 && ks2)
abbrev NC (w : World) (f : Nat) (lo hi : Int) : Prop := ∀ (x : Int) (W : World), Below w.heap.size w W → Calls Try.prog f #[.int .i64 x, .int .i64 lo, .int .i64 hi] W fun e w' => e = .returned (.bool (decide (lo ≤ x ∧ x ≤ hi))) ∧ Below W.heap.size W w'
abbrev SC (w : World) (f : Nat) (xs : List ByteArray) (A : Option Addr) (c : Nat) : Prop := ∀ (i : Nat) (W : World), i < xs.length → Below w.heap.size w W → Calls Try.prog f #[.slice A i c, .string (rdOf ByteArray.empty xs (i : Int))] W fun e w' => e = .returned (.bool (!newAt xs i)) ∧ Below W.heap.size W w'
set_option maxHeartbeats 16000000 in
set_option maxRecDepth 100000 in
theorem implPass (n0 o n3 n4 n6 n7 n13 n17 : Int) (b2 L T : Bool) (A5 A8 A9 A10 A14 A15 A16 : Option Addr) (m5 m8 m14 m15 c5 c8 c9 c10 c14 c15 c16 : Nat) (ms : List S52) (xs : List ByteArray) (ks : List S83) (w : World)
    (q : S52 → Bool) (hms : Kd.C k52 w A9 ms.length ms) (hl9 : ms.length ≤ 400) (hxs : Kd.C Kd.string w A10 xs.length xs) (hl10 : xs.length ≤ 20) (hc10 : xs.length ≤ c10) (hks : Kd.C k83 w A16 ks.length ks)
    (C1 : QC w 18 #[.int .i64 o, .int .i64 1, .int .i64 5] true) (C2 : QC w 18 #[.int .i64 n0, .int .i64 1, .int .i64 o] true)
    (C3 : QC w 36 #[.agg #[.int .i64 n3, .int .i64 n4, .slice A5 m5 c5]] true) (C4 : QC w 36 #[.agg #[.int .i64 n6, .int .i64 n7, .slice A8 m8 c8]] true)
    (C7 : QC w 18 #[.int .i64 n17, .int .i64 0, .int .i64 1000000] true) (CM : MC w 20 o q)
    (E1 : QC w 37 #[.slice A14 m14 c14, .int .i64 o] true) (E2 : QC w 38 #[.slice A15 m15 c15] true)
    (CN : NC w 18 1 100) (CK : NC w 18 1 60) (CS : SC w 39 xs A10 c10) (CP : AC w 37 o)
    (k8 kA kY kz k3 ks1 ks2 V : Bool) (hV : V = (allFrom (fun j : Nat => q (rd_T52 ms (j : Int)) && decide ((rd_T52 ms (j : Int)).f1 = n0)) ms.length 0 && (allFrom (wishAt xs) xs.length 0 && (allFrom (ackAt ks o) ks.length 0 && (implTail L T k8 kA kY kz k3 b2 ks1 ks2)))))
    (E8 : QC w 18 #[.int .i64 n13, .int .i64 1, .int .i64 n6] k8) (CA : decide (ks.length = 0) = !kA) (CY : decide ((0 : Int) < wrap64 ((m14 : Int) + (m15 : Int))) = kY)
    (CZ : decide (n13 = 0) = kz) (C3s : decide ((0 : Int) < wrap64 (wrap64 ((m14 : Int) + (m15 : Int)) + (ks.length : Int))) = k3)
    (CS1 : decide (wrap64 ((ms.length : Int) + (xs.length : Int)) = 0) = ks1) (CS2 : decide (n17 = 0) = ks2) :
    Calls Try.prog 19 #[.agg #[.int .i64 n0, .int .i64 o, .bool b2, .int .i64 n3, .int .i64 n4, .slice A5 m5 c5, .int .i64 n6, .int .i64 n7, .slice A8 m8 c8, .slice A9 ms.length c9, .slice A10 xs.length c10, .bool L, .bool T, .int .i64 n13, .slice A14 m14 c14, .slice A15 m15 c15, .slice A16 ks.length c16, .int .i64 n17]] w fun e w' => e = .returned (.bool V) ∧ Below w.heap.size w w' := by
  have hu1 := Try.underlying49
  have hu2 := Try.underlying44
  have hu3 := Try.underlying52
  have hu4 := Try.underlying83
  have hl5 : decide ((400 : Int) < (ms.length : Int)) = false := decide_eq_false (by omega)
  have hl6 : decide ((20 : Int) < (xs.length : Int)) = false := decide_eq_false (by omega)
  have D1 := Aside0.mk C1
  have D2 := Aside0.mk C2
  have D3 := Aside0.mk C3
  have D4 := Aside0.mk C4
  have D7 := Aside0.mk C7
  have DM := Aside0.mk CM
  have DN := Aside0.mk CN
  have DK := Aside0.mk CK
  have DS := Aside0.mk CS
  have DP := Aside0.mk CP
  have HR := Aside0.mk hms
  have HX := Aside0.mk hxs
  have HK := Aside0.mk hks
  have HL := Aside0.mk (And.intro hl9 (And.intro hl10 hc10))
  have HL1 := Aside0.mk (And.intro (show ms.length ≤ 9223372036854775807 by omega) (And.intro (show xs.length ≤ 9223372036854775807 by omega) (show ks.length ≤ 9223372036854775807 from hks.2.1)))
  have F1 := Aside0.mk E1
  have F2 := Aside0.mk E2
  have F8 := Aside0.mk E8
  have GA := Aside0.mk CA
  have GY := Aside0.mk CY
  have GZ := Aside0.mk CZ
  have G3 := Aside0.mk C3s
  have GS1 := Aside0.mk CS1
  have GS2 := Aside0.mk CS2
  have HV := Aside0.mk hV
  clear C1 C2 C3 C4 C7 CM CN CK CS CP hms hxs hks hl9 hl10 hc10 E1 E2 E8 CA CY CZ C3s CS1 CS2 hV
  have HB := Aside0.mk (Below.refl w.heap.size w)
  go_enter Try.func19, Try.ntmps19
  go_wp2_with (first
      | ((with_reducible refine gate_dst (N := 1) rfl ?_); refine box_event ?hg (N := 1) ?hd (cs := #[.int .i64 n0, .int .i64 o, .bool b2, .int .i64 n3, .int .i64 n4, .slice A5 m5 c5, .int .i64 n6, .int .i64 n7, .slice A8 m8 c8, .slice A9 ms.length c9, .slice A10 xs.length c10, .bool L, .bool T, .int .i64 n13, .slice A14 m14 c14, .slice A15 m15 c15, .slice A16 ks.length c16, .int .i64 n17]) (t := 49) ?hr ?_; (case hd => rfl); (case hg => rfl); (case hr => first | (go_simp; done) | (go_simp; rfl)); intro ga _hg w1 hbox hb; have n0_ := Aside0.mk (below_step HB.out hb); clear HB; have HB := n0_; clear n0_; have BA := Aside0.mk hbox; clear hb hbox _hg; obtain ⟨r0_, r1_, r3_, r4_, r5_, r6_, r7_, r8_, r9_, r10_, r14_, r15_, r17_⟩ := recFactsH BA.out)
      | ((first
          | (go_at_call 18; (first | (with_reducible refine (D1.out _ HB.out).mono ?_) | (with_reducible refine (D2.out _ HB.out).mono ?_) | (with_reducible refine (D7.out _ HB.out).mono ?_)))
          | (go_at_call 36; (first | (with_reducible refine (D3.out _ HB.out).mono ?_) | (with_reducible refine (D4.out _ HB.out).mono ?_)))
          | (go_at_call 37; (first | (with_reducible refine (F1.out _ HB.out).mono ?_)))
          | (go_at_call 38; (first | (with_reducible refine (F2.out _ HB.out).mono ?_))));
         rintro e wn ⟨rfl, hb⟩; have n0_ := Aside0.mk (below_step HB.out hb); have n1_ := Aside0.mk (blk_below BA.out hb); clear HB BA; have HB := n0_; have BA := n1_; clear n0_ n1_; clear hb; clear r0_ r1_ r3_ r4_ r5_ r6_ r7_ r8_ r9_ r10_ r14_ r15_ r17_; obtain ⟨r0_, r1_, r3_, r4_, r5_, r6_, r7_, r8_, r9_, r10_, r14_, r15_, r17_⟩ := recFactsH BA.out))
  go_loopg [68] ms.length (fun kr v3 w' => ∃ (i : Int), v3 = .int .i64 i ∧ Aside0 (V = (allFrom (fun j : Nat => q (rd_T52 ms (j : Int)) && decide ((rd_T52 ms (j : Int)).f1 = n0)) ms.length i.toNat && (allFrom (wishAt xs) xs.length 0 && (allFrom (ackAt ks o) ks.length 0 && (implTail L T k8 kA kY kz k3 b2 ks1 ks2))))) ∧ Aside0 (0 ≤ i ∧ i + kr = ms.length) ∧ Aside0 (Below w.heap.size w w') ∧ Aside0 (w'.heap[ga]? = some (.cells #[.int .i64 n0, .int .i64 o, .bool b2, .int .i64 n3, .int .i64 n4, .slice A5 m5 c5, .int .i64 n6, .int .i64 n7, .slice A8 m8 c8, .slice A9 ms.length c9, .slice A10 xs.length c10, .bool L, .bool T, .int .i64 n13, .slice A14 m14 c14, .slice A15 m15 c15, .slice A16 ks.length c16, .int .i64 n17] 49 (0, 0))))
  case atStart => exact ⟨0, rfl, HV, ⟨⟨Int.le_refl _, by omega⟩⟩, HB, BA⟩
  case round =>
    clear HB BA HV
    try clear r0_ r1_ r3_ r4_ r5_ r6_ r7_ r8_ r9_ r10_ r14_ r15_ r17_
    try clear r10_ r12_
    try clear r12_ r16_
    obtain ⟨i, rfl, HV, HI, HB, BA⟩ := hrel
    by_cases hi : i < (ms.length : Int)
    · rcases gk with _ | gk1
      · exact absurd HI.out.2 (by omega)
      have hc : decide (i < (ms.length : Int)) = true := decide_eq_true hi
      have hc0 : decide (0 ≤ i) = true := decide_eq_true HI.out.1
      have HI' := Aside0.mk hi
      have p0 := HI.out.1
      have p1 := hi
      clear hi
      go_upto_region 5 with (fail)
      obtain ⟨ad, A7, c7, e, h0, h1, h2, h3, h4, h5, h6, h7, hl7, hi7⟩ := at_T52 HR.out i p0 p1
      subst e
      replace h0 := (HB.out.cell (World.block_lt_of_cell? w _ h0)).trans h0
      replace h1 := (HB.out.cell (World.block_lt_of_cell? w _ h1)).trans h1
      replace h2 := (HB.out.cell (World.block_lt_of_cell? w _ h2)).trans h2
      replace h3 := (HB.out.cell (World.block_lt_of_cell? w _ h3)).trans h3
      replace h4 := (HB.out.cell (World.block_lt_of_cell? w _ h4)).trans h4
      replace h5 := (HB.out.cell (World.block_lt_of_cell? w _ h5)).trans h5
      replace h6 := (HB.out.cell (World.block_lt_of_cell? w _ h6)).trans h6
      replace h7 := (HB.out.cell (World.block_lt_of_cell? w _ h7)).trans h7
      have HC := Aside0.mk (fun (W : World) (hb : Below w.heap.size w W) => DM.out (rd_T52 ms i) A7 c7 W hb (Kd.C_below hi7 hb) hl7)
      clear hl7 hi7
      cases hq : q (rd_T52 ms i)
      · have HZ := Aside0.mk (loopFalse HV.out p0 p1 HL1.out.1 (by show (q (rd_T52 ms ((i.toNat : Nat) : Int)) && _) = false; rw [Int.toNat_of_nonneg p0, hq]; rfl))
        simp only [hq] at HC
        clear HV hq
        go_wp2_with (first
          | go_big_skip
          | ((with_reducible refine gate_dst (N := 4) rfl ?_); refine box_event ?hg (N := 4) ?hd (cs := #[.int .i64 0, .int .i64 0, .int .i64 0, .int .i64 0, .int .i64 0, .int .i64 0, .string ⟨#[]⟩, .slice none 0 0]) (t := 52) ?hr ?_; (case hd => rfl); (case hg => rfl); (case hr => first | (go_simp; done) | (go_simp; rfl)); intro gK hgK wK hbox hb; have GEK := Aside0.mk (Nat.le_trans (below_size HB.out) (Nat.le_of_eq hgK.symm)); have neAK := Aside0.mk (Nat.ne_of_lt (Nat.lt_of_lt_of_le (blk_lt BA.out) (Nat.le_of_eq hgK.symm))); have n0_ := Aside0.mk (below_step HB.out hb); have n1_ := Aside0.mk (blk_below BA.out hb); clear HB BA; have HB := n0_; have BA := n1_; clear n0_ n1_; have BK := Aside0.mk hbox; clear hb hbox hgK)
          | ((with_reducible refine gate_store (t := 52) (p := 4) (v := .tmp 71) rfl ?_); refine store_row (ty := 52) (t := 52) (g := gK) (cells := #[.int .i64 (rd_T52 ms i).f0, .int .i64 (rd_T52 ms i).f1, .int .i64 (rd_T52 ms i).f2, .int .i64 (rd_T52 ms i).f3, .int .i64 (rd_T52 ms i).f4, .int .i64 (rd_T52 ms i).f5, .string (rd_T52 ms i).f6, .slice A7 (rd_T52 ms i).f7.length c7]) (old := #[.int .i64 0, .int .i64 0, .int .i64 0, .int .i64 0, .int .i64 0, .int .i64 0, .string ⟨#[]⟩, .slice none 0 0]) rfl rfl rfl rfl rfl BK.out (by kernel_rfl) rfl rfl ?_; intro w9 hbox hg; have n0_ := Aside0.mk (below_grow HB.out hg GEK.out); have n1_ := Aside0.mk (blk_grown BA.out hg (fun e_ => neAK.out (Option.some.inj e_))); clear HB BA BK; have HB := n0_; have BA := n1_; clear n0_ n1_; have BK := Aside0.mk hbox; clear hbox hg; have r0_ : World.cell? w9 ⟨ga, 0, none⟩ = some (.int .i64 n0) := blk_cell BA.out 0; have r1_ : World.cell? w9 ⟨ga, 1, none⟩ = some (.int .i64 o) := blk_cell BA.out 1; have k1_ : World.cell? w9 ⟨gK, 1, none⟩ = some (.int .i64 (rd_T52 ms i).f1) := blk_cell BK.out 1)
          | (((with_reducible refine gate_load (t := 52) (p := 4) rfl ?_); refine load_row (ty := 52) (t := 52) (g := gK) (cs := #[.int .i64 (rd_T52 ms i).f0, .int .i64 (rd_T52 ms i).f1, .int .i64 (rd_T52 ms i).f2, .int .i64 (rd_T52 ms i).f3, .int .i64 (rd_T52 ms i).f4, .int .i64 (rd_T52 ms i).f5, .string (rd_T52 ms i).f6, .slice A7 (rd_T52 ms i).f7.length c7]) rfl rfl rfl BK.out Try.underlying52 rfl (by kernel_rfl) ?_))
          | ((go_at_call 20; (first | (with_reducible refine (HC.out _ HB.out).mono ?_))); rintro e wn ⟨rfl, hb⟩; have n0_ := Aside0.mk (below_step HB.out hb); have n1_ := Aside0.mk (blk_below BA.out hb); have n2_ := Aside0.mk (blk_below BK.out hb); clear HB BA BK; have HB := n0_; have BA := n1_; have BK := n2_; clear n0_ n1_ n2_; clear r0_ r1_; clear hb; have r0_ : World.cell? wn ⟨ga, 0, none⟩ = some (.int .i64 n0) := blk_cell BA.out 0; have r1_ : World.cell? wn ⟨ga, 1, none⟩ = some (.int .i64 o) := blk_cell BA.out 1; clear k1_; have k1_ : World.cell? wn ⟨gK, 1, none⟩ = some (.int .i64 (rd_T52 ms i).f1) := blk_cell BK.out 1))
        go_ret
        exact ⟨by rw [HZ.out]; rfl, HB.out⟩
      · simp only [hq] at HC
        by_cases hn : (rd_T52 ms i).f1 = n0
        · have hnb : decide ((rd_T52 ms i).f1 = n0) = true := decide_eq_true hn
          have hnb1 : ((rd_T52 ms i).f1 == n0) = true := by simpa using hn
          have hnb2 : ((rd_T52 ms i).f1 != n0) = false := by simpa using hn
          have hnb3 : decide ((rd_T52 ms i).f1 ≠ n0) = false := by simpa using hn
          have HZ := Aside0.mk (loopTrue HV.out p0 p1 HL1.out.1 (by show (q (rd_T52 ms ((i.toNat : Nat) : Int)) && decide ((rd_T52 ms ((i.toNat : Nat) : Int)).f1 = n0)) = true; rw [Int.toNat_of_nonneg p0, hq, hnb]; rfl))
          clear HV hq hn
          go_wp2_with (first
            | go_big_skip
            | ((with_reducible refine gate_dst (N := 4) rfl ?_); refine box_event ?hg (N := 4) ?hd (cs := #[.int .i64 0, .int .i64 0, .int .i64 0, .int .i64 0, .int .i64 0, .int .i64 0, .string ⟨#[]⟩, .slice none 0 0]) (t := 52) ?hr ?_; (case hd => rfl); (case hg => rfl); (case hr => first | (go_simp; done) | (go_simp; rfl)); intro gK hgK wK hbox hb; have GEK := Aside0.mk (Nat.le_trans (below_size HB.out) (Nat.le_of_eq hgK.symm)); have neAK := Aside0.mk (Nat.ne_of_lt (Nat.lt_of_lt_of_le (blk_lt BA.out) (Nat.le_of_eq hgK.symm))); have n0_ := Aside0.mk (below_step HB.out hb); have n1_ := Aside0.mk (blk_below BA.out hb); clear HB BA; have HB := n0_; have BA := n1_; clear n0_ n1_; have BK := Aside0.mk hbox; clear hb hbox hgK)
            | ((with_reducible refine gate_store (t := 52) (p := 4) (v := .tmp 71) rfl ?_); refine store_row (ty := 52) (t := 52) (g := gK) (cells := #[.int .i64 (rd_T52 ms i).f0, .int .i64 (rd_T52 ms i).f1, .int .i64 (rd_T52 ms i).f2, .int .i64 (rd_T52 ms i).f3, .int .i64 (rd_T52 ms i).f4, .int .i64 (rd_T52 ms i).f5, .string (rd_T52 ms i).f6, .slice A7 (rd_T52 ms i).f7.length c7]) (old := #[.int .i64 0, .int .i64 0, .int .i64 0, .int .i64 0, .int .i64 0, .int .i64 0, .string ⟨#[]⟩, .slice none 0 0]) rfl rfl rfl rfl rfl BK.out (by kernel_rfl) rfl rfl ?_; intro w9 hbox hg; have n0_ := Aside0.mk (below_grow HB.out hg GEK.out); have n1_ := Aside0.mk (blk_grown BA.out hg (fun e_ => neAK.out (Option.some.inj e_))); clear HB BA BK; have HB := n0_; have BA := n1_; clear n0_ n1_; have BK := Aside0.mk hbox; clear hbox hg; have r0_ : World.cell? w9 ⟨ga, 0, none⟩ = some (.int .i64 n0) := blk_cell BA.out 0; have r1_ : World.cell? w9 ⟨ga, 1, none⟩ = some (.int .i64 o) := blk_cell BA.out 1; have k1_ : World.cell? w9 ⟨gK, 1, none⟩ = some (.int .i64 (rd_T52 ms i).f1) := blk_cell BK.out 1)
            | (((with_reducible refine gate_load (t := 52) (p := 4) rfl ?_); refine load_row (ty := 52) (t := 52) (g := gK) (cs := #[.int .i64 (rd_T52 ms i).f0, .int .i64 (rd_T52 ms i).f1, .int .i64 (rd_T52 ms i).f2, .int .i64 (rd_T52 ms i).f3, .int .i64 (rd_T52 ms i).f4, .int .i64 (rd_T52 ms i).f5, .string (rd_T52 ms i).f6, .slice A7 (rd_T52 ms i).f7.length c7]) rfl rfl rfl BK.out Try.underlying52 rfl (by kernel_rfl) ?_))
            | ((go_at_call 20; (first | (with_reducible refine (HC.out _ HB.out).mono ?_))); rintro e wn ⟨rfl, hb⟩; have n0_ := Aside0.mk (below_step HB.out hb); have n1_ := Aside0.mk (blk_below BA.out hb); have n2_ := Aside0.mk (blk_below BK.out hb); clear HB BA BK; have HB := n0_; have BA := n1_; have BK := n2_; clear n0_ n1_ n2_; clear r0_ r1_; clear hb; have r0_ : World.cell? wn ⟨ga, 0, none⟩ = some (.int .i64 n0) := blk_cell BA.out 0; have r1_ : World.cell? wn ⟨ga, 1, none⟩ = some (.int .i64 o) := blk_cell BA.out 1; clear k1_; have k1_ : World.cell? wn ⟨gK, 1, none⟩ = some (.int .i64 (rd_T52 ms i).f1) := blk_cell BK.out 1))
          go_roundg gk1
          case measure => omega
          case rel => exact ⟨wrap64 (i + 1), rfl, HZ, ⟨by have := HI.out; have := HL.out.1; have := HI'.out; rw [wrapIn (by omega) (by omega)]; omega⟩, HB, BA⟩
        · have hnb : decide ((rd_T52 ms i).f1 = n0) = false := decide_eq_false hn
          have hnb1 : ((rd_T52 ms i).f1 == n0) = false := by simpa using hn
          have hnb2 : ((rd_T52 ms i).f1 != n0) = true := by simpa using hn
          have hnb3 : decide ((rd_T52 ms i).f1 ≠ n0) = true := by simpa using hn
          have HZ := Aside0.mk (loopFalse HV.out p0 p1 HL1.out.1 (by show (q (rd_T52 ms ((i.toNat : Nat) : Int)) && decide ((rd_T52 ms ((i.toNat : Nat) : Int)).f1 = n0)) = false; rw [Int.toNat_of_nonneg p0, hq, hnb]; rfl))
          clear HV hq hn
          go_wp2_with (first
            | go_big_skip
            | ((with_reducible refine gate_dst (N := 4) rfl ?_); refine box_event ?hg (N := 4) ?hd (cs := #[.int .i64 0, .int .i64 0, .int .i64 0, .int .i64 0, .int .i64 0, .int .i64 0, .string ⟨#[]⟩, .slice none 0 0]) (t := 52) ?hr ?_; (case hd => rfl); (case hg => rfl); (case hr => first | (go_simp; done) | (go_simp; rfl)); intro gK hgK wK hbox hb; have GEK := Aside0.mk (Nat.le_trans (below_size HB.out) (Nat.le_of_eq hgK.symm)); have neAK := Aside0.mk (Nat.ne_of_lt (Nat.lt_of_lt_of_le (blk_lt BA.out) (Nat.le_of_eq hgK.symm))); have n0_ := Aside0.mk (below_step HB.out hb); have n1_ := Aside0.mk (blk_below BA.out hb); clear HB BA; have HB := n0_; have BA := n1_; clear n0_ n1_; have BK := Aside0.mk hbox; clear hb hbox hgK)
            | ((with_reducible refine gate_store (t := 52) (p := 4) (v := .tmp 71) rfl ?_); refine store_row (ty := 52) (t := 52) (g := gK) (cells := #[.int .i64 (rd_T52 ms i).f0, .int .i64 (rd_T52 ms i).f1, .int .i64 (rd_T52 ms i).f2, .int .i64 (rd_T52 ms i).f3, .int .i64 (rd_T52 ms i).f4, .int .i64 (rd_T52 ms i).f5, .string (rd_T52 ms i).f6, .slice A7 (rd_T52 ms i).f7.length c7]) (old := #[.int .i64 0, .int .i64 0, .int .i64 0, .int .i64 0, .int .i64 0, .int .i64 0, .string ⟨#[]⟩, .slice none 0 0]) rfl rfl rfl rfl rfl BK.out (by kernel_rfl) rfl rfl ?_; intro w9 hbox hg; have n0_ := Aside0.mk (below_grow HB.out hg GEK.out); have n1_ := Aside0.mk (blk_grown BA.out hg (fun e_ => neAK.out (Option.some.inj e_))); clear HB BA BK; have HB := n0_; have BA := n1_; clear n0_ n1_; have BK := Aside0.mk hbox; clear hbox hg; have r0_ : World.cell? w9 ⟨ga, 0, none⟩ = some (.int .i64 n0) := blk_cell BA.out 0; have r1_ : World.cell? w9 ⟨ga, 1, none⟩ = some (.int .i64 o) := blk_cell BA.out 1; have k1_ : World.cell? w9 ⟨gK, 1, none⟩ = some (.int .i64 (rd_T52 ms i).f1) := blk_cell BK.out 1)
            | (((with_reducible refine gate_load (t := 52) (p := 4) rfl ?_); refine load_row (ty := 52) (t := 52) (g := gK) (cs := #[.int .i64 (rd_T52 ms i).f0, .int .i64 (rd_T52 ms i).f1, .int .i64 (rd_T52 ms i).f2, .int .i64 (rd_T52 ms i).f3, .int .i64 (rd_T52 ms i).f4, .int .i64 (rd_T52 ms i).f5, .string (rd_T52 ms i).f6, .slice A7 (rd_T52 ms i).f7.length c7]) rfl rfl rfl BK.out Try.underlying52 rfl (by kernel_rfl) ?_))
            | ((go_at_call 20; (first | (with_reducible refine (HC.out _ HB.out).mono ?_))); rintro e wn ⟨rfl, hb⟩; have n0_ := Aside0.mk (below_step HB.out hb); have n1_ := Aside0.mk (blk_below BA.out hb); have n2_ := Aside0.mk (blk_below BK.out hb); clear HB BA BK; have HB := n0_; have BA := n1_; have BK := n2_; clear n0_ n1_ n2_; clear r0_ r1_; clear hb; have r0_ : World.cell? wn ⟨ga, 0, none⟩ = some (.int .i64 n0) := blk_cell BA.out 0; have r1_ : World.cell? wn ⟨ga, 1, none⟩ = some (.int .i64 o) := blk_cell BA.out 1; clear k1_; have k1_ : World.cell? wn ⟨gK, 1, none⟩ = some (.int .i64 (rd_T52 ms i).f1) := blk_cell BK.out 1))
          go_ret
          exact ⟨by rw [HZ.out]; rfl, HB.out⟩
    · have hc : decide (i < (ms.length : Int)) = false := decide_eq_false hi
      have HV' := Aside0.mk (HV.out.trans (by rw [show i.toNat = ms.length by have := HI.out; omega, allFrom_end, Bool.true_and]))
      clear HV
      have HV := HV'
      clear HV' hi HI
      have r10_ : World.cell? wr ⟨ga, 10, none⟩ = some (.slice A10 xs.length c10) := blk_cell BA.out 10
      have r12_ : World.cell? wr ⟨ga, 12, none⟩ = some (.bool T) := blk_cell BA.out 12
      go_wp2
      go_loopg [88] xs.length (fun kr v3 w' => ∃ (i : Int), v3 = .int .i64 i ∧ Aside0 (V = (allFrom (wishAt xs) xs.length i.toNat && (allFrom (ackAt ks o) ks.length 0 && (implTail L T k8 kA kY kz k3 b2 ks1 ks2)))) ∧ Aside0 (0 ≤ i ∧ i + kr = xs.length) ∧ Aside0 (Below w.heap.size w w') ∧ Aside0 (w'.heap[ga]? = some (.cells #[.int .i64 n0, .int .i64 o, .bool b2, .int .i64 n3, .int .i64 n4, .slice A5 m5 c5, .int .i64 n6, .int .i64 n7, .slice A8 m8 c8, .slice A9 ms.length c9, .slice A10 xs.length c10, .bool L, .bool T, .int .i64 n13, .slice A14 m14 c14, .slice A15 m15 c15, .slice A16 ks.length c16, .int .i64 n17] 49 (0, 0))))
      case atStart => exact ⟨0, rfl, HV, ⟨⟨Int.le_refl _, by omega⟩⟩, HB, BA⟩
      case round =>
        clear HB BA HV
        try clear r0_ r1_ r3_ r4_ r5_ r6_ r7_ r8_ r9_ r10_ r14_ r15_ r17_
        try clear r10_ r12_
        try clear r12_ r16_
        obtain ⟨i, rfl, HV, HI, HB, BA⟩ := hrel
        by_cases hi : i < (xs.length : Int)
        · rcases gk with _ | gk1
          · exact absurd HI.out.2 (by omega)
          have hc : decide (i < (xs.length : Int)) = true := decide_eq_true hi
          have hc0 : decide (0 ≤ i) = true := decide_eq_true HI.out.1
          have HI' := Aside0.mk hi
          have p0 := HI.out.1
          have p1 := hi
          clear hi
          have HWa := Aside0.mk (show wishAt xs i.toNat = (decide (1 ≤ ((rdOf ByteArray.empty xs i).size : Int) ∧ ((rdOf ByteArray.empty xs i).size : Int) ≤ 100) && newAt xs i.toNat) by rw [wishAt_eq, Int.toNat_of_nonneg p0])
          obtain ⟨ad, e, hx⟩ := Kd.at_string HX.out i p0 p1
          subst e
          replace hx := (HB.out.cell (World.block_lt_of_cell? w _ hx)).trans hx
          go_upto_region 12 with (fail)
          have hic : i ≤ (c10 : Int) := by have := HL.out.2.2; omega
          have r10_ : World.cell? wr ⟨ga, 10, none⟩ = some (.slice (some ad) xs.length c10) := blk_cell BA.out 10
          have HC := Aside0.mk (fun (W : World) (hb : Below w.heap.size w W) => DN.out ((rdOf ByteArray.empty xs i).size : Int) W hb)
          have HS := Aside0.mk (fun (W : World) (hb : Below w.heap.size w W) => DS.out i.toNat W (by omega) hb)
          rw [Int.toNat_of_nonneg p0] at HS
          cases hw : decide (1 ≤ ((rdOf ByteArray.empty xs i).size : Int) ∧ ((rdOf ByteArray.empty xs i).size : Int) ≤ 100)
          · have HZ := Aside0.mk (loopFalse HV.out p0 p1 HL1.out.2.1 (by rw [HWa.out, hw]; rfl))
            simp only [hw] at HC
            clear HV hw HWa
            go_wp2_with (first
              | go_big_skip
              | ((first
                | (go_at_call 18; (first | (with_reducible refine (HC.out _ HB.out).mono ?_)))
                | (go_at_call 39; (first | (with_reducible refine (HS.out _ HB.out).mono ?_)))); rintro e wn ⟨rfl, hb⟩; have n0_ := Aside0.mk (below_step HB.out hb); have n1_ := Aside0.mk (blk_below BA.out hb); clear HB BA; have HB := n0_; have BA := n1_; clear n0_ n1_; clear r10_; clear hb; have r10_ : World.cell? wn ⟨ga, 10, none⟩ = some (.slice (some ad) xs.length c10) := blk_cell BA.out 10))
            go_ret
            exact ⟨by rw [HZ.out]; rfl, HB.out⟩
          · simp only [hw] at HC
            cases hn : newAt xs i.toNat
            · have HZ := Aside0.mk (loopFalse HV.out p0 p1 HL1.out.2.1 (by rw [HWa.out, hw, hn]; rfl))
              simp only [hn, Bool.not_true, Bool.not_false] at HS
              clear HV hw hn HWa
              go_wp2_with (first
                | go_big_skip
                | ((first
                  | (go_at_call 18; (first | (with_reducible refine (HC.out _ HB.out).mono ?_)))
                  | (go_at_call 39; (first | (with_reducible refine (HS.out _ HB.out).mono ?_)))); rintro e wn ⟨rfl, hb⟩; have n0_ := Aside0.mk (below_step HB.out hb); have n1_ := Aside0.mk (blk_below BA.out hb); clear HB BA; have HB := n0_; have BA := n1_; clear n0_ n1_; clear r10_; clear hb; have r10_ : World.cell? wn ⟨ga, 10, none⟩ = some (.slice (some ad) xs.length c10) := blk_cell BA.out 10))
              go_ret
              exact ⟨by rw [HZ.out]; rfl, HB.out⟩
            · have HZ := Aside0.mk (loopTrue HV.out p0 p1 HL1.out.2.1 (by rw [HWa.out, hw, hn]; rfl))
              simp only [hn, Bool.not_true, Bool.not_false] at HS
              clear HV hw hn HWa
              go_wp2_with (first
                | go_big_skip
                | ((first
                  | (go_at_call 18; (first | (with_reducible refine (HC.out _ HB.out).mono ?_)))
                  | (go_at_call 39; (first | (with_reducible refine (HS.out _ HB.out).mono ?_)))); rintro e wn ⟨rfl, hb⟩; have n0_ := Aside0.mk (below_step HB.out hb); have n1_ := Aside0.mk (blk_below BA.out hb); clear HB BA; have HB := n0_; have BA := n1_; clear n0_ n1_; clear r10_; clear hb; have r10_ : World.cell? wn ⟨ga, 10, none⟩ = some (.slice (some ad) xs.length c10) := blk_cell BA.out 10))
              go_roundg gk1
              case measure => omega
              case rel => exact ⟨wrap64 (i + 1), rfl, HZ, ⟨by have := HI.out; have := HL.out.2.1; have := HI'.out; rw [wrapIn (by omega) (by omega)]; omega⟩, HB, BA⟩
        · have hc : decide (i < (xs.length : Int)) = false := decide_eq_false hi
          have HV' := Aside0.mk (HV.out.trans (by rw [show i.toNat = xs.length by have := HI.out; omega, allFrom_end, Bool.true_and]))
          clear HV
          have HV := HV'
          clear HV' hi HI
          have r12_ : World.cell? wr ⟨ga, 12, none⟩ = some (.bool T) := blk_cell BA.out 12
          have r16_ : World.cell? wr ⟨ga, 16, none⟩ = some (.slice A16 ks.length c16) := blk_cell BA.out 16
          go_wp2
          go_loopg [109] ks.length (fun kr v3 w' => ∃ (i : Int), v3 = .int .i64 i ∧ Aside0 (V = (allFrom (ackAt ks o) ks.length i.toNat && (implTail L T k8 kA kY kz k3 b2 ks1 ks2))) ∧ Aside0 (0 ≤ i ∧ i + kr = ks.length) ∧ Aside0 (Below w.heap.size w w') ∧ Aside0 (w'.heap[ga]? = some (.cells #[.int .i64 n0, .int .i64 o, .bool b2, .int .i64 n3, .int .i64 n4, .slice A5 m5 c5, .int .i64 n6, .int .i64 n7, .slice A8 m8 c8, .slice A9 ms.length c9, .slice A10 xs.length c10, .bool L, .bool T, .int .i64 n13, .slice A14 m14 c14, .slice A15 m15 c15, .slice A16 ks.length c16, .int .i64 n17] 49 (0, 0))))
          case atStart => exact ⟨0, rfl, HV, ⟨⟨Int.le_refl _, by omega⟩⟩, HB, BA⟩
          case round =>
            clear HB BA HV
            try clear r0_ r1_ r3_ r4_ r5_ r6_ r7_ r8_ r9_ r10_ r14_ r15_ r17_
            try clear r10_ r12_
            try clear r12_ r16_
            obtain ⟨i, rfl, HV, HI, HB, BA⟩ := hrel
            by_cases hi : i < (ks.length : Int)
            · rcases gk with _ | gk1
              · exact absurd HI.out.2 (by omega)
              have hc : decide (i < (ks.length : Int)) = true := decide_eq_true hi
              have hc0 : decide (0 ≤ i) = true := decide_eq_true HI.out.1
              have HI' := Aside0.mk hi
              have p0 := HI.out.1
              have p1 := hi
              clear hi
              have HWa := Aside0.mk (show ackAt ks o i.toNat = (decide (1 ≤ (rd_T83 ks i).f0 ∧ (rd_T83 ks i).f0 ≤ 60) && (numsB (rd_T83 ks i).f1 o && (decide (i.toNat = 0) || decide ((rd_T83 ks ((i.toNat - 1 : Nat) : Int)).f0 < (rd_T83 ks i).f0)))) by rw [ackAt_eq, Int.toNat_of_nonneg p0])
              obtain ⟨ad, A1, c1, e, h0, h1, hl1, hi1⟩ := at_T83 HK.out i p0 p1
              subst e
              replace h0 := (HB.out.cell (World.block_lt_of_cell? w _ h0)).trans h0
              replace h1 := (HB.out.cell (World.block_lt_of_cell? w _ h1)).trans h1
              have HC := Aside0.mk (fun (W : World) (hb : Below w.heap.size w W) => DK.out (rd_T83 ks i).f0 W hb)
              have HP := Aside0.mk (fun (W : World) (hb : Below w.heap.size w W) => DP.out (rd_T83 ks i).f1 A1 c1 W hb (Kd.C_below hi1 hb) hl1)
              clear hl1 hi1
              go_upto_region 18 with (first
                | ((with_reducible refine gate_dst (N := 8) rfl ?_); refine box_event ?hg (N := 8) ?hd (cs := #[.int .i64 0, .slice none 0 0]) (t := 83) ?hr ?_; (case hd => rfl); (case hg => rfl); (case hr => first | (go_simp; done) | (go_simp; rfl)); intro gK hgK wK hbox hb; have GEK := Aside0.mk (Nat.le_trans (below_size HB.out) (Nat.le_of_eq hgK.symm)); have neAK := Aside0.mk (Nat.ne_of_lt (Nat.lt_of_lt_of_le (blk_lt BA.out) (Nat.le_of_eq hgK.symm))); have n0_ := Aside0.mk (below_step HB.out hb); have n1_ := Aside0.mk (blk_below BA.out hb); clear HB BA; have HB := n0_; have BA := n1_; clear n0_ n1_; have BK := Aside0.mk hbox; clear hb hbox hgK)
                | ((with_reducible refine gate_store (t := 83) (p := 8) (v := .tmp 113) rfl ?_); refine store_row (ty := 83) (t := 83) (g := gK) (cells := #[.int .i64 (rd_T83 ks i).f0, .slice A1 (rd_T83 ks i).f1.length c1]) (old := #[.int .i64 0, .slice none 0 0]) rfl rfl rfl rfl rfl BK.out (by kernel_rfl) rfl rfl ?_; intro w9 hbox hg; have n0_ := Aside0.mk (below_grow HB.out hg GEK.out); have n1_ := Aside0.mk (blk_grown BA.out hg (fun e_ => neAK.out (Option.some.inj e_))); clear HB BA BK; have HB := n0_; have BA := n1_; clear n0_ n1_; have BK := Aside0.mk hbox; clear hbox hg))
              clear h0 h1
              have r1_ : World.cell? w9 ⟨ga, 1, none⟩ = some (.int .i64 o) := blk_cell BA.out 1
              have r16_ : World.cell? w9 ⟨ga, 16, none⟩ = some (.slice (some ad) ks.length c16) := blk_cell BA.out 16
              have k0_ : World.cell? w9 ⟨gK, 0, none⟩ = some (.int .i64 (rd_T83 ks i).f0) := blk_cell BK.out 0
              have k1_ : World.cell? w9 ⟨gK, 1, none⟩ = some (.slice A1 (rd_T83 ks i).f1.length c1) := blk_cell BK.out 1
              have hbd : Below w9.heap.size w9 w9.drew := below_drew1 (Below.refl _ w9)
              cases hw : decide (1 ≤ (rd_T83 ks i).f0 ∧ (rd_T83 ks i).f0 ≤ 60)
              · have HZ := Aside0.mk (loopFalse HV.out p0 p1 HL1.out.2.2 (by rw [HWa.out, hw]; rfl))
                simp only [hw] at HC
                clear HV hw HWa
                have dr1_ := (hbd.cell (World.block_lt_of_cell? w9 _ r1_)).trans r1_; have dr16_ := (hbd.cell (World.block_lt_of_cell? w9 _ r16_)).trans r16_; have dk0_ := (hbd.cell (World.block_lt_of_cell? w9 _ k0_)).trans k0_; have dk1_ := (hbd.cell (World.block_lt_of_cell? w9 _ k1_)).trans k1_
                refine start_ (n := 28) (S := (fun w' => w'.cell? ⟨ga, 1, none⟩ = some (.int .i64 o) ∧ w'.cell? ⟨ga, 16, none⟩ = some (.slice (some ad) ks.length c16) ∧ w'.cell? ⟨gK, 0, none⟩ = some (.int .i64 (rd_T83 ks i).f0) ∧ w'.cell? ⟨gK, 1, none⟩ = some (.slice A1 (rd_T83 ks i).f1.length c1))) (ds := []) #[O,O,O,O,O,O,O,O,O,O,O,O,O,O,O,O,O,O,O,O,O,O,O,O,O,O,O,O] (by kernel_rfl) rfl rfl ⟨dr1_, dr16_, dk0_, dk1_⟩ (fun hHeld => ?_); refine with_tabW region18.tab region18.bits (fun HT_ HW_ => ?_)
                refine pure_ (i := 0) (N := some 114) (v := ?_) (a' := ?_) #[I,O,O,O,O,O,O,O,O,O,O,O,O,O,O,O,O,O,O,O,O,O,O,O,O,O,O,O] rfl rfl (any_of HT_.out (by kernel_rfl)) (fun _ _ _ h => h) (Or.inl ⟨by rfl, ?_⟩) ?_ ?_
                rotate_left; intro w'; go_simp; with_reducible rfl; rotate_left; simp only [Act.put, List.setIfInBounds_toArray, List.set_cons_zero, List.set_cons_succ, i64_w, i32_w]; rfl
                refine take_ (i := 1) (N := some 115) (v := ?_) (a' := ?_) #[I,I,O,O,O,O,O,O,O,O,O,O,O,O,O,O,O,O,O,O,O,O,O,O,O,O,O,O] rfl rfl (take_ofW HT_.out HW_.out (by kernel_rfl)) (fun _ _ _ h => h) (Or.inl ⟨by rfl, ?_⟩) hHeld ?_ ?_
                rotate_left; rintro w' ⟨s0, s1, s2, s3⟩; go_simp; with_reducible rfl; rotate_left; simp only [Act.put, List.setIfInBounds_toArray, List.set_cons_zero, List.set_cons_succ, i64_w, i32_w]; rfl
                refine one_ (i := 2) (N := some 116) #[I,I,I,O,O,O,O,O,O,O,O,O,O,O,O,O,O,O,O,O,O,O,O,O,O,O,O,O] rfl rfl (one_of HT_.out (by kernel_rfl)) (by decide) (fun K hK => ?_)
                refine goes_ Try.func18 (by kernel_rfl) rfl #[.int .i64 (rd_T83 ks i).f0, .int .i64 1, .int .i64 60] (by rfl) rfl rfl (by (try simp only [List.map_toArray, List.map_cons, List.map_nil]); first | done | rfl) ?_
                with_reducible refine (HC.out _ (below_step HB.out hbd)).mono ?_
                rintro e wn ⟨rfl, hb⟩
                have hb2 := below_step hbd hb
                have lr1_ := (hb2.cell (World.block_lt_of_cell? w9 _ r1_)).trans r1_; have lr16_ := (hb2.cell (World.block_lt_of_cell? w9 _ r16_)).trans r16_; have lk0_ := (hb2.cell (World.block_lt_of_cell? w9 _ k0_)).trans k0_; have lk1_ := (hb2.cell (World.block_lt_of_cell? w9 _ k1_)).trans k1_
                refine ⟨_, rfl, ?_⟩
                refine hK.out _ _ ⟨lr1_, lr16_, lk0_, lk1_⟩ (fun hHeld => ?_)
                clear hK K
                refine norm_ (a' := ?_) ?_ ?_
                rotate_left
                · show Act.put _ (some 116) _ = _
                  simp only [Act.put, List.setIfInBounds_toArray, List.set_cons_zero, List.set_cons_succ, i64_w, i32_w]
                  rfl
                refine pure_ (i := 3) (N := some 117) (v := ?_) (a' := ?_) #[I,I,I,I,O,O,O,O,O,O,O,O,O,O,O,O,O,O,O,O,O,O,O,O,O,O,O,O] rfl rfl (any_of HT_.out (by kernel_rfl)) (fun _ _ _ h => h) (Or.inl ⟨by rfl, ?_⟩) ?_ ?_
                rotate_left; intro w'; go_simp; with_reducible rfl; rotate_left; simp only [Act.put, List.setIfInBounds_toArray, List.set_cons_zero, List.set_cons_succ, i64_w, i32_w]; rfl
                refine pure_ (i := 4) (N := some 118) (v := ?_) (a' := ?_) #[I,I,I,I,I,O,O,O,O,O,O,O,O,O,O,O,O,O,O,O,O,O,O,O,O,O,O,O] rfl rfl (any_of HT_.out (by kernel_rfl)) (fun _ _ _ h => h) (Or.inl ⟨by rfl, ?_⟩) ?_ ?_
                rotate_left; intro w'; go_simp; with_reducible rfl; rotate_left; simp only [Act.put, List.setIfInBounds_toArray, List.set_cons_zero, List.set_cons_succ, i64_w, i32_w]; rfl
                refine pure_ (i := 5) (N := some 119) (v := undef) (a' := ?_) #[I,I,I,I,I,I,O,O,O,O,O,O,O,O,O,O,O,O,O,O,O,O,O,O,O,O,O,O] rfl rfl (any_of HT_.out (by kernel_rfl)) (fun _ _ _ h => h) (Or.inr ⟨by rfl, rfl⟩) ?_ ?_
                rotate_left; simp only [Act.put, List.setIfInBounds_toArray, List.set_cons_zero, List.set_cons_succ, i64_w, i32_w]; rfl
                refine pure_ (i := 6) (N := some 120) (v := undef) (a' := ?_) #[I,I,I,I,I,I,I,O,O,O,O,O,O,O,O,O,O,O,O,O,O,O,O,O,O,O,O,O] rfl rfl (any_of HT_.out (by kernel_rfl)) (fun _ _ _ h => h) (Or.inr ⟨by rfl, rfl⟩) ?_ ?_
                rotate_left; simp only [Act.put, List.setIfInBounds_toArray, List.set_cons_zero, List.set_cons_succ, i64_w, i32_w]; rfl
                refine pure_ (i := 7) (N := some 121) (v := undef) (a' := ?_) #[I,I,I,I,I,I,I,I,O,O,O,O,O,O,O,O,O,O,O,O,O,O,O,O,O,O,O,O] rfl rfl (any_of HT_.out (by kernel_rfl)) (fun _ _ _ h => h) (Or.inr ⟨by rfl, rfl⟩) ?_ ?_
                rotate_left; simp only [Act.put, List.setIfInBounds_toArray, List.set_cons_zero, List.set_cons_succ, i64_w, i32_w]; rfl
                refine pure_ (i := 8) (N := some 122) (v := undef) (a' := ?_) #[I,I,I,I,I,I,I,I,I,O,O,O,O,O,O,O,O,O,O,O,O,O,O,O,O,O,O,O] rfl rfl (any_of HT_.out (by kernel_rfl)) (fun _ _ _ h => h) (Or.inr ⟨by rfl, rfl⟩) ?_ ?_
                rotate_left; simp only [Act.put, List.setIfInBounds_toArray, List.set_cons_zero, List.set_cons_succ, i64_w, i32_w]; rfl
                refine pure_ (i := 9) (N := some 123) (v := undef) (a' := ?_) #[I,I,I,I,I,I,I,I,I,I,O,O,O,O,O,O,O,O,O,O,O,O,O,O,O,O,O,O] rfl rfl (any_of HT_.out (by kernel_rfl)) (fun _ _ _ h => h) (Or.inr ⟨by rfl, rfl⟩) ?_ ?_
                rotate_left; simp only [Act.put, List.setIfInBounds_toArray, List.set_cons_zero, List.set_cons_succ, i64_w, i32_w]; rfl
                refine pure_ (i := 10) (N := some 124) (v := undef) (a' := ?_) #[I,I,I,I,I,I,I,I,I,I,I,O,O,O,O,O,O,O,O,O,O,O,O,O,O,O,O,O] rfl rfl (any_of HT_.out (by kernel_rfl)) (fun _ _ _ h => h) (Or.inr ⟨by rfl, rfl⟩) ?_ ?_
                rotate_left; simp only [Act.put, List.setIfInBounds_toArray, List.set_cons_zero, List.set_cons_succ, i64_w, i32_w]; rfl
                refine pure_ (i := 11) (N := some 125) (v := ?_) (a' := ?_) #[I,I,I,I,I,I,I,I,I,I,I,I,O,O,O,O,O,O,O,O,O,O,O,O,O,O,O,O] rfl rfl (any_of HT_.out (by kernel_rfl)) (fun _ _ _ h => h) (Or.inl ⟨by rfl, ?_⟩) ?_ ?_
                rotate_left; intro w'; go_simp; with_reducible rfl; rotate_left; simp only [Act.put, List.setIfInBounds_toArray, List.set_cons_zero, List.set_cons_succ, i64_w, i32_w]; rfl
                refine pure_ (i := 12) (N := some 126) (v := ?_) (a' := ?_) #[I,I,I,I,I,I,I,I,I,I,I,I,I,O,O,O,O,O,O,O,O,O,O,O,O,O,O,O] rfl rfl (any_of HT_.out (by kernel_rfl)) (fun _ _ _ h => h) (Or.inl ⟨by rfl, ?_⟩) ?_ ?_
                rotate_left; intro w'; go_simp; with_reducible rfl; rotate_left; simp only [Act.put, List.setIfInBounds_toArray, List.set_cons_zero, List.set_cons_succ, i64_w, i32_w]; rfl
                refine pure_ (i := 13) (N := some 127) (v := undef) (a' := ?_) #[I,I,I,I,I,I,I,I,I,I,I,I,I,I,O,O,O,O,O,O,O,O,O,O,O,O,O,O] rfl rfl (any_of HT_.out (by kernel_rfl)) (fun _ _ _ h => h) (Or.inr ⟨by rfl, rfl⟩) ?_ ?_
                rotate_left; simp only [Act.put, List.setIfInBounds_toArray, List.set_cons_zero, List.set_cons_succ, i64_w, i32_w]; rfl
                refine pure_ (i := 14) (N := some 128) (v := undef) (a' := ?_) #[I,I,I,I,I,I,I,I,I,I,I,I,I,I,I,O,O,O,O,O,O,O,O,O,O,O,O,O] rfl rfl (any_of HT_.out (by kernel_rfl)) (fun _ _ _ h => h) (Or.inr ⟨by rfl, rfl⟩) ?_ ?_
                rotate_left; simp only [Act.put, List.setIfInBounds_toArray, List.set_cons_zero, List.set_cons_succ, i64_w, i32_w]; rfl
                refine pure_ (i := 15) (N := some 129) (v := undef) (a' := ?_) #[I,I,I,I,I,I,I,I,I,I,I,I,I,I,I,I,O,O,O,O,O,O,O,O,O,O,O,O] rfl rfl (any_of HT_.out (by kernel_rfl)) (fun _ _ _ h => h) (Or.inr ⟨by rfl, rfl⟩) ?_ ?_
                rotate_left; simp only [Act.put, List.setIfInBounds_toArray, List.set_cons_zero, List.set_cons_succ, i64_w, i32_w]; rfl
                refine pure_ (i := 16) (N := some 130) (v := undef) (a' := ?_) #[I,I,I,I,I,I,I,I,I,I,I,I,I,I,I,I,I,O,O,O,O,O,O,O,O,O,O,O] rfl rfl (any_of HT_.out (by kernel_rfl)) (fun _ _ _ h => h) (Or.inr ⟨by rfl, rfl⟩) ?_ ?_
                rotate_left; simp only [Act.put, List.setIfInBounds_toArray, List.set_cons_zero, List.set_cons_succ, i64_w, i32_w]; rfl
                refine pure_ (i := 17) (N := some 131) (v := undef) (a' := ?_) #[I,I,I,I,I,I,I,I,I,I,I,I,I,I,I,I,I,I,O,O,O,O,O,O,O,O,O,O] rfl rfl (any_of HT_.out (by kernel_rfl)) (fun _ _ _ h => h) (Or.inr ⟨by rfl, rfl⟩) ?_ ?_
                rotate_left; simp only [Act.put, List.setIfInBounds_toArray, List.set_cons_zero, List.set_cons_succ, i64_w, i32_w]; rfl
                refine pure_ (i := 18) (N := some 132) (v := undef) (a' := ?_) #[I,I,I,I,I,I,I,I,I,I,I,I,I,I,I,I,I,I,I,O,O,O,O,O,O,O,O,O] rfl rfl (any_of HT_.out (by kernel_rfl)) (fun _ _ _ h => h) (Or.inr ⟨by rfl, rfl⟩) ?_ ?_
                rotate_left; simp only [Act.put, List.setIfInBounds_toArray, List.set_cons_zero, List.set_cons_succ, i64_w, i32_w]; rfl
                refine pure_ (i := 19) (N := some 133) (v := undef) (a' := ?_) #[I,I,I,I,I,I,I,I,I,I,I,I,I,I,I,I,I,I,I,I,O,O,O,O,O,O,O,O] rfl rfl (any_of HT_.out (by kernel_rfl)) (fun _ _ _ h => h) (Or.inr ⟨by rfl, rfl⟩) ?_ ?_
                rotate_left; simp only [Act.put, List.setIfInBounds_toArray, List.set_cons_zero, List.set_cons_succ, i64_w, i32_w]; rfl
                refine pure_ (i := 20) (N := some 134) (v := undef) (a' := ?_) #[I,I,I,I,I,I,I,I,I,I,I,I,I,I,I,I,I,I,I,I,I,O,O,O,O,O,O,O] rfl rfl (any_of HT_.out (by kernel_rfl)) (fun _ _ _ h => h) (Or.inr ⟨by rfl, rfl⟩) ?_ ?_
                rotate_left; simp only [Act.put, List.setIfInBounds_toArray, List.set_cons_zero, List.set_cons_succ, i64_w, i32_w]; rfl
                refine pure_ (i := 21) (N := some 135) (v := undef) (a' := ?_) #[I,I,I,I,I,I,I,I,I,I,I,I,I,I,I,I,I,I,I,I,I,I,O,O,O,O,O,O] rfl rfl (any_of HT_.out (by kernel_rfl)) (fun _ _ _ h => h) (Or.inr ⟨by rfl, rfl⟩) ?_ ?_
                rotate_left; simp only [Act.put, List.setIfInBounds_toArray, List.set_cons_zero, List.set_cons_succ, i64_w, i32_w]; rfl
                refine pure_ (i := 22) (N := some 136) (v := undef) (a' := ?_) #[I,I,I,I,I,I,I,I,I,I,I,I,I,I,I,I,I,I,I,I,I,I,I,O,O,O,O,O] rfl rfl (any_of HT_.out (by kernel_rfl)) (fun _ _ _ h => h) (Or.inr ⟨by rfl, rfl⟩) ?_ ?_
                rotate_left; simp only [Act.put, List.setIfInBounds_toArray, List.set_cons_zero, List.set_cons_succ, i64_w, i32_w]; rfl
                refine pure_ (i := 23) (N := some 137) (v := undef) (a' := ?_) #[I,I,I,I,I,I,I,I,I,I,I,I,I,I,I,I,I,I,I,I,I,I,I,I,O,O,O,O] rfl rfl (any_of HT_.out (by kernel_rfl)) (fun _ _ _ h => h) (Or.inr ⟨by rfl, rfl⟩) ?_ ?_
                rotate_left; simp only [Act.put, List.setIfInBounds_toArray, List.set_cons_zero, List.set_cons_succ, i64_w, i32_w]; rfl
                refine pure_ (i := 24) (N := some 138) (v := undef) (a' := ?_) #[I,I,I,I,I,I,I,I,I,I,I,I,I,I,I,I,I,I,I,I,I,I,I,I,I,O,O,O] rfl rfl (any_of HT_.out (by kernel_rfl)) (fun _ _ _ h => h) (Or.inr ⟨by rfl, rfl⟩) ?_ ?_
                rotate_left; simp only [Act.put, List.setIfInBounds_toArray, List.set_cons_zero, List.set_cons_succ, i64_w, i32_w]; rfl
                refine pure_ (i := 25) (N := some 139) (v := undef) (a' := ?_) #[I,I,I,I,I,I,I,I,I,I,I,I,I,I,I,I,I,I,I,I,I,I,I,I,I,I,O,O] rfl rfl (any_of HT_.out (by kernel_rfl)) (fun _ _ _ h => h) (Or.inr ⟨by rfl, rfl⟩) ?_ ?_
                rotate_left; simp only [Act.put, List.setIfInBounds_toArray, List.set_cons_zero, List.set_cons_succ, i64_w, i32_w]; rfl
                refine pure_ (i := 26) (N := some 140) (v := undef) (a' := ?_) #[I,I,I,I,I,I,I,I,I,I,I,I,I,I,I,I,I,I,I,I,I,I,I,I,I,I,I,O] rfl rfl (any_of HT_.out (by kernel_rfl)) (fun _ _ _ h => h) (Or.inr ⟨by rfl, rfl⟩) ?_ ?_
                rotate_left; simp only [Act.put, List.setIfInBounds_toArray, List.set_cons_zero, List.set_cons_succ, i64_w, i32_w]; rfl
                refine pure_ (i := 27) (N := some 141) (v := ?_) (a' := ?_) #[I,I,I,I,I,I,I,I,I,I,I,I,I,I,I,I,I,I,I,I,I,I,I,I,I,I,I,I] rfl rfl (any_of HT_.out (by kernel_rfl)) (fun _ _ _ h => h) (Or.inl ⟨by rfl, ?_⟩) ?_ ?_
                rotate_left; intro w'; go_simp; with_reducible rfl; rotate_left; simp only [Act.put, List.setIfInBounds_toArray, List.set_cons_zero, List.set_cons_succ, i64_w, i32_w]; rfl
                refine done_ (done_of HT_.out (by kernel_rfl)) ?_
                go_wp2
                go_ret
                exact ⟨by rw [HZ.out]; rfl, below_step HB.out hb2⟩
              · simp only [hw] at HC
                cases hn : numsB (rd_T83 ks i).f1 o
                · have HZ := Aside0.mk (loopFalse HV.out p0 p1 HL1.out.2.2 (by rw [HWa.out, hw, hn]; rfl))
                  simp only [hn] at HP
                  clear HV hw hn HWa
                  have dr1_ := (hbd.cell (World.block_lt_of_cell? w9 _ r1_)).trans r1_; have dr16_ := (hbd.cell (World.block_lt_of_cell? w9 _ r16_)).trans r16_; have dk0_ := (hbd.cell (World.block_lt_of_cell? w9 _ k0_)).trans k0_; have dk1_ := (hbd.cell (World.block_lt_of_cell? w9 _ k1_)).trans k1_
                  refine start_ (n := 28) (S := (fun w' => w'.cell? ⟨ga, 1, none⟩ = some (.int .i64 o) ∧ w'.cell? ⟨ga, 16, none⟩ = some (.slice (some ad) ks.length c16) ∧ w'.cell? ⟨gK, 0, none⟩ = some (.int .i64 (rd_T83 ks i).f0) ∧ w'.cell? ⟨gK, 1, none⟩ = some (.slice A1 (rd_T83 ks i).f1.length c1))) (ds := []) #[O,O,O,O,O,O,O,O,O,O,O,O,O,O,O,O,O,O,O,O,O,O,O,O,O,O,O,O] (by kernel_rfl) rfl rfl ⟨dr1_, dr16_, dk0_, dk1_⟩ (fun hHeld => ?_); refine with_tabW region18.tab region18.bits (fun HT_ HW_ => ?_)
                  refine pure_ (i := 0) (N := some 114) (v := ?_) (a' := ?_) #[I,O,O,O,O,O,O,O,O,O,O,O,O,O,O,O,O,O,O,O,O,O,O,O,O,O,O,O] rfl rfl (any_of HT_.out (by kernel_rfl)) (fun _ _ _ h => h) (Or.inl ⟨by rfl, ?_⟩) ?_ ?_
                  rotate_left; intro w'; go_simp; with_reducible rfl; rotate_left; simp only [Act.put, List.setIfInBounds_toArray, List.set_cons_zero, List.set_cons_succ, i64_w, i32_w]; rfl
                  refine take_ (i := 1) (N := some 115) (v := ?_) (a' := ?_) #[I,I,O,O,O,O,O,O,O,O,O,O,O,O,O,O,O,O,O,O,O,O,O,O,O,O,O,O] rfl rfl (take_ofW HT_.out HW_.out (by kernel_rfl)) (fun _ _ _ h => h) (Or.inl ⟨by rfl, ?_⟩) hHeld ?_ ?_
                  rotate_left; rintro w' ⟨s0, s1, s2, s3⟩; go_simp; with_reducible rfl; rotate_left; simp only [Act.put, List.setIfInBounds_toArray, List.set_cons_zero, List.set_cons_succ, i64_w, i32_w]; rfl
                  refine one_ (i := 2) (N := some 116) #[I,I,I,O,O,O,O,O,O,O,O,O,O,O,O,O,O,O,O,O,O,O,O,O,O,O,O,O] rfl rfl (one_of HT_.out (by kernel_rfl)) (by decide) (fun K hK => ?_)
                  refine goes_ Try.func18 (by kernel_rfl) rfl #[.int .i64 (rd_T83 ks i).f0, .int .i64 1, .int .i64 60] (by rfl) rfl rfl (by (try simp only [List.map_toArray, List.map_cons, List.map_nil]); first | done | rfl) ?_
                  with_reducible refine (HC.out _ (below_step HB.out hbd)).mono ?_
                  rintro e wn ⟨rfl, hb⟩
                  have hb2 := below_step hbd hb
                  have lr1_ := (hb2.cell (World.block_lt_of_cell? w9 _ r1_)).trans r1_; have lr16_ := (hb2.cell (World.block_lt_of_cell? w9 _ r16_)).trans r16_; have lk0_ := (hb2.cell (World.block_lt_of_cell? w9 _ k0_)).trans k0_; have lk1_ := (hb2.cell (World.block_lt_of_cell? w9 _ k1_)).trans k1_
                  refine ⟨_, rfl, ?_⟩
                  refine hK.out _ _ ⟨lr1_, lr16_, lk0_, lk1_⟩ (fun hHeld => ?_)
                  clear hK K
                  refine norm_ (a' := ?_) ?_ ?_
                  rotate_left
                  · show Act.put _ (some 116) _ = _
                    simp only [Act.put, List.setIfInBounds_toArray, List.set_cons_zero, List.set_cons_succ, i64_w, i32_w]
                    rfl
                  refine pure_ (i := 3) (N := some 117) (v := ?_) (a' := ?_) #[I,I,I,I,O,O,O,O,O,O,O,O,O,O,O,O,O,O,O,O,O,O,O,O,O,O,O,O] rfl rfl (any_of HT_.out (by kernel_rfl)) (fun _ _ _ h => h) (Or.inl ⟨by rfl, ?_⟩) ?_ ?_
                  rotate_left; intro w'; go_simp; with_reducible rfl; rotate_left; simp only [Act.put, List.setIfInBounds_toArray, List.set_cons_zero, List.set_cons_succ, i64_w, i32_w]; rfl
                  refine pure_ (i := 4) (N := some 118) (v := ?_) (a' := ?_) #[I,I,I,I,I,O,O,O,O,O,O,O,O,O,O,O,O,O,O,O,O,O,O,O,O,O,O,O] rfl rfl (any_of HT_.out (by kernel_rfl)) (fun _ _ _ h => h) (Or.inl ⟨by rfl, ?_⟩) ?_ ?_
                  rotate_left; intro w'; go_simp; with_reducible rfl; rotate_left; simp only [Act.put, List.setIfInBounds_toArray, List.set_cons_zero, List.set_cons_succ, i64_w, i32_w]; rfl
                  refine pure_ (i := 5) (N := some 119) (v := ?_) (a' := ?_) #[I,I,I,I,I,I,O,O,O,O,O,O,O,O,O,O,O,O,O,O,O,O,O,O,O,O,O,O] rfl rfl (any_of HT_.out (by kernel_rfl)) (fun _ _ _ h => h) (Or.inl ⟨by rfl, ?_⟩) ?_ ?_
                  rotate_left; intro w'; go_simp; with_reducible rfl; rotate_left; simp only [Act.put, List.setIfInBounds_toArray, List.set_cons_zero, List.set_cons_succ, i64_w, i32_w]; rfl
                  refine take_ (i := 6) (N := some 120) (v := ?_) (a' := ?_) #[I,I,I,I,I,I,I,O,O,O,O,O,O,O,O,O,O,O,O,O,O,O,O,O,O,O,O,O] rfl rfl (take_ofW HT_.out HW_.out (by kernel_rfl)) (fun _ _ _ h => h) (Or.inl ⟨by rfl, ?_⟩) hHeld ?_ ?_
                  rotate_left; rintro w' ⟨s0, s1, s2, s3⟩; go_simp; with_reducible rfl; rotate_left; simp only [Act.put, List.setIfInBounds_toArray, List.set_cons_zero, List.set_cons_succ, i64_w, i32_w]; rfl
                  refine pure_ (i := 7) (N := some 121) (v := ?_) (a' := ?_) #[I,I,I,I,I,I,I,I,O,O,O,O,O,O,O,O,O,O,O,O,O,O,O,O,O,O,O,O] rfl rfl (any_of HT_.out (by kernel_rfl)) (fun _ _ _ h => h) (Or.inl ⟨by rfl, ?_⟩) ?_ ?_
                  rotate_left; intro w'; go_simp; with_reducible rfl; rotate_left; simp only [Act.put, List.setIfInBounds_toArray, List.set_cons_zero, List.set_cons_succ, i64_w, i32_w]; rfl
                  refine take_ (i := 8) (N := some 122) (v := ?_) (a' := ?_) #[I,I,I,I,I,I,I,I,I,O,O,O,O,O,O,O,O,O,O,O,O,O,O,O,O,O,O,O] rfl rfl (take_ofW HT_.out HW_.out (by kernel_rfl)) (fun _ _ _ h => h) (Or.inl ⟨by rfl, ?_⟩) hHeld ?_ ?_
                  rotate_left; rintro w' ⟨s0, s1, s2, s3⟩; go_simp; with_reducible rfl; rotate_left; simp only [Act.put, List.setIfInBounds_toArray, List.set_cons_zero, List.set_cons_succ, i64_w, i32_w]; rfl
                  refine one_ (i := 9) (N := some 123) #[I,I,I,I,I,I,I,I,I,I,O,O,O,O,O,O,O,O,O,O,O,O,O,O,O,O,O,O] rfl rfl (one_of HT_.out (by kernel_rfl)) (by decide) (fun K hK => ?_)
                  refine goes_ Try.func37 (by kernel_rfl) rfl #[.slice A1 (rd_T83 ks i).f1.length c1, .int .i64 o] (by rfl) rfl rfl (by (try simp only [List.map_toArray, List.map_cons, List.map_nil]); first | done | rfl) ?_
                  with_reducible refine (HP.out _ (below_step HB.out hb2)).mono ?_
                  rintro e wm ⟨rfl, hbm⟩
                  have hb3 := below_step hb2 hbm
                  have mr1_ := (hb3.cell (World.block_lt_of_cell? w9 _ r1_)).trans r1_; have mr16_ := (hb3.cell (World.block_lt_of_cell? w9 _ r16_)).trans r16_; have mk0_ := (hb3.cell (World.block_lt_of_cell? w9 _ k0_)).trans k0_; have mk1_ := (hb3.cell (World.block_lt_of_cell? w9 _ k1_)).trans k1_
                  refine ⟨_, rfl, ?_⟩
                  refine hK.out _ _ ⟨mr1_, mr16_, mk0_, mk1_⟩ (fun hHeld => ?_)
                  clear hK K
                  refine norm_ (a' := ?_) ?_ ?_
                  rotate_left
                  · show Act.put _ (some 123) _ = _
                    simp only [Act.put, List.setIfInBounds_toArray, List.set_cons_zero, List.set_cons_succ, i64_w, i32_w]
                    rfl
                  refine pure_ (i := 10) (N := some 124) (v := ?_) (a' := ?_) #[I,I,I,I,I,I,I,I,I,I,I,O,O,O,O,O,O,O,O,O,O,O,O,O,O,O,O,O] rfl rfl (any_of HT_.out (by kernel_rfl)) (fun _ _ _ h => h) (Or.inl ⟨by rfl, ?_⟩) ?_ ?_
                  rotate_left; intro w'; go_simp; with_reducible rfl; rotate_left; simp only [Act.put, List.setIfInBounds_toArray, List.set_cons_zero, List.set_cons_succ, i64_w, i32_w]; rfl
                  refine pure_ (i := 11) (N := some 125) (v := ?_) (a' := ?_) #[I,I,I,I,I,I,I,I,I,I,I,I,O,O,O,O,O,O,O,O,O,O,O,O,O,O,O,O] rfl rfl (any_of HT_.out (by kernel_rfl)) (fun _ _ _ h => h) (Or.inl ⟨by rfl, ?_⟩) ?_ ?_
                  rotate_left; intro w'; go_simp; with_reducible rfl; rotate_left; simp only [Act.put, List.setIfInBounds_toArray, List.set_cons_zero, List.set_cons_succ, i64_w, i32_w]; rfl
                  refine pure_ (i := 12) (N := some 126) (v := ?_) (a' := ?_) #[I,I,I,I,I,I,I,I,I,I,I,I,I,O,O,O,O,O,O,O,O,O,O,O,O,O,O,O] rfl rfl (any_of HT_.out (by kernel_rfl)) (fun _ _ _ h => h) (Or.inl ⟨by rfl, ?_⟩) ?_ ?_
                  rotate_left; intro w'; go_simp; with_reducible rfl; rotate_left; simp only [Act.put, List.setIfInBounds_toArray, List.set_cons_zero, List.set_cons_succ, i64_w, i32_w]; rfl
                  refine pure_ (i := 13) (N := some 127) (v := undef) (a' := ?_) #[I,I,I,I,I,I,I,I,I,I,I,I,I,I,O,O,O,O,O,O,O,O,O,O,O,O,O,O] rfl rfl (any_of HT_.out (by kernel_rfl)) (fun _ _ _ h => h) (Or.inr ⟨by rfl, rfl⟩) ?_ ?_
                  rotate_left; simp only [Act.put, List.setIfInBounds_toArray, List.set_cons_zero, List.set_cons_succ, i64_w, i32_w]; rfl
                  refine pure_ (i := 14) (N := some 128) (v := undef) (a' := ?_) #[I,I,I,I,I,I,I,I,I,I,I,I,I,I,I,O,O,O,O,O,O,O,O,O,O,O,O,O] rfl rfl (any_of HT_.out (by kernel_rfl)) (fun _ _ _ h => h) (Or.inr ⟨by rfl, rfl⟩) ?_ ?_
                  rotate_left; simp only [Act.put, List.setIfInBounds_toArray, List.set_cons_zero, List.set_cons_succ, i64_w, i32_w]; rfl
                  refine pure_ (i := 15) (N := some 129) (v := undef) (a' := ?_) #[I,I,I,I,I,I,I,I,I,I,I,I,I,I,I,I,O,O,O,O,O,O,O,O,O,O,O,O] rfl rfl (any_of HT_.out (by kernel_rfl)) (fun _ _ _ h => h) (Or.inr ⟨by rfl, rfl⟩) ?_ ?_
                  rotate_left; simp only [Act.put, List.setIfInBounds_toArray, List.set_cons_zero, List.set_cons_succ, i64_w, i32_w]; rfl
                  refine pure_ (i := 16) (N := some 130) (v := undef) (a' := ?_) #[I,I,I,I,I,I,I,I,I,I,I,I,I,I,I,I,I,O,O,O,O,O,O,O,O,O,O,O] rfl rfl (any_of HT_.out (by kernel_rfl)) (fun _ _ _ h => h) (Or.inr ⟨by rfl, rfl⟩) ?_ ?_
                  rotate_left; simp only [Act.put, List.setIfInBounds_toArray, List.set_cons_zero, List.set_cons_succ, i64_w, i32_w]; rfl
                  refine pure_ (i := 17) (N := some 131) (v := undef) (a' := ?_) #[I,I,I,I,I,I,I,I,I,I,I,I,I,I,I,I,I,I,O,O,O,O,O,O,O,O,O,O] rfl rfl (any_of HT_.out (by kernel_rfl)) (fun _ _ _ h => h) (Or.inr ⟨by rfl, rfl⟩) ?_ ?_
                  rotate_left; simp only [Act.put, List.setIfInBounds_toArray, List.set_cons_zero, List.set_cons_succ, i64_w, i32_w]; rfl
                  refine pure_ (i := 18) (N := some 132) (v := undef) (a' := ?_) #[I,I,I,I,I,I,I,I,I,I,I,I,I,I,I,I,I,I,I,O,O,O,O,O,O,O,O,O] rfl rfl (any_of HT_.out (by kernel_rfl)) (fun _ _ _ h => h) (Or.inr ⟨by rfl, rfl⟩) ?_ ?_
                  rotate_left; simp only [Act.put, List.setIfInBounds_toArray, List.set_cons_zero, List.set_cons_succ, i64_w, i32_w]; rfl
                  refine pure_ (i := 19) (N := some 133) (v := undef) (a' := ?_) #[I,I,I,I,I,I,I,I,I,I,I,I,I,I,I,I,I,I,I,I,O,O,O,O,O,O,O,O] rfl rfl (any_of HT_.out (by kernel_rfl)) (fun _ _ _ h => h) (Or.inr ⟨by rfl, rfl⟩) ?_ ?_
                  rotate_left; simp only [Act.put, List.setIfInBounds_toArray, List.set_cons_zero, List.set_cons_succ, i64_w, i32_w]; rfl
                  refine pure_ (i := 20) (N := some 134) (v := undef) (a' := ?_) #[I,I,I,I,I,I,I,I,I,I,I,I,I,I,I,I,I,I,I,I,I,O,O,O,O,O,O,O] rfl rfl (any_of HT_.out (by kernel_rfl)) (fun _ _ _ h => h) (Or.inr ⟨by rfl, rfl⟩) ?_ ?_
                  rotate_left; simp only [Act.put, List.setIfInBounds_toArray, List.set_cons_zero, List.set_cons_succ, i64_w, i32_w]; rfl
                  refine pure_ (i := 21) (N := some 135) (v := undef) (a' := ?_) #[I,I,I,I,I,I,I,I,I,I,I,I,I,I,I,I,I,I,I,I,I,I,O,O,O,O,O,O] rfl rfl (any_of HT_.out (by kernel_rfl)) (fun _ _ _ h => h) (Or.inr ⟨by rfl, rfl⟩) ?_ ?_
                  rotate_left; simp only [Act.put, List.setIfInBounds_toArray, List.set_cons_zero, List.set_cons_succ, i64_w, i32_w]; rfl
                  refine pure_ (i := 22) (N := some 136) (v := undef) (a' := ?_) #[I,I,I,I,I,I,I,I,I,I,I,I,I,I,I,I,I,I,I,I,I,I,I,O,O,O,O,O] rfl rfl (any_of HT_.out (by kernel_rfl)) (fun _ _ _ h => h) (Or.inr ⟨by rfl, rfl⟩) ?_ ?_
                  rotate_left; simp only [Act.put, List.setIfInBounds_toArray, List.set_cons_zero, List.set_cons_succ, i64_w, i32_w]; rfl
                  refine pure_ (i := 23) (N := some 137) (v := undef) (a' := ?_) #[I,I,I,I,I,I,I,I,I,I,I,I,I,I,I,I,I,I,I,I,I,I,I,I,O,O,O,O] rfl rfl (any_of HT_.out (by kernel_rfl)) (fun _ _ _ h => h) (Or.inr ⟨by rfl, rfl⟩) ?_ ?_
                  rotate_left; simp only [Act.put, List.setIfInBounds_toArray, List.set_cons_zero, List.set_cons_succ, i64_w, i32_w]; rfl
                  refine pure_ (i := 24) (N := some 138) (v := undef) (a' := ?_) #[I,I,I,I,I,I,I,I,I,I,I,I,I,I,I,I,I,I,I,I,I,I,I,I,I,O,O,O] rfl rfl (any_of HT_.out (by kernel_rfl)) (fun _ _ _ h => h) (Or.inr ⟨by rfl, rfl⟩) ?_ ?_
                  rotate_left; simp only [Act.put, List.setIfInBounds_toArray, List.set_cons_zero, List.set_cons_succ, i64_w, i32_w]; rfl
                  refine pure_ (i := 25) (N := some 139) (v := undef) (a' := ?_) #[I,I,I,I,I,I,I,I,I,I,I,I,I,I,I,I,I,I,I,I,I,I,I,I,I,I,O,O] rfl rfl (any_of HT_.out (by kernel_rfl)) (fun _ _ _ h => h) (Or.inr ⟨by rfl, rfl⟩) ?_ ?_
                  rotate_left; simp only [Act.put, List.setIfInBounds_toArray, List.set_cons_zero, List.set_cons_succ, i64_w, i32_w]; rfl
                  refine pure_ (i := 26) (N := some 140) (v := undef) (a' := ?_) #[I,I,I,I,I,I,I,I,I,I,I,I,I,I,I,I,I,I,I,I,I,I,I,I,I,I,I,O] rfl rfl (any_of HT_.out (by kernel_rfl)) (fun _ _ _ h => h) (Or.inr ⟨by rfl, rfl⟩) ?_ ?_
                  rotate_left; simp only [Act.put, List.setIfInBounds_toArray, List.set_cons_zero, List.set_cons_succ, i64_w, i32_w]; rfl
                  refine pure_ (i := 27) (N := some 141) (v := ?_) (a' := ?_) #[I,I,I,I,I,I,I,I,I,I,I,I,I,I,I,I,I,I,I,I,I,I,I,I,I,I,I,I] rfl rfl (any_of HT_.out (by kernel_rfl)) (fun _ _ _ h => h) (Or.inl ⟨by rfl, ?_⟩) ?_ ?_
                  rotate_left; intro w'; go_simp; with_reducible rfl; rotate_left; simp only [Act.put, List.setIfInBounds_toArray, List.set_cons_zero, List.set_cons_succ, i64_w, i32_w]; rfl
                  refine done_ (done_of HT_.out (by kernel_rfl)) ?_
                  go_wp2
                  go_ret
                  exact ⟨by rw [HZ.out]; rfl, below_step HB.out hb3⟩
                · simp only [hn] at HP
                  by_cases h00 : i = 0
                  · have HZ := Aside0.mk (loopTrue HV.out p0 p1 HL1.out.2.2 (by rw [HWa.out, hw, hn, decide_eq_true (show i.toNat = 0 by omega)]; rfl))
                    have hgt : decide (0 < i) = false := decide_eq_false (by omega)
                    clear HV hw hn HWa h00
                    have dr1_ := (hbd.cell (World.block_lt_of_cell? w9 _ r1_)).trans r1_; have dr16_ := (hbd.cell (World.block_lt_of_cell? w9 _ r16_)).trans r16_; have dk0_ := (hbd.cell (World.block_lt_of_cell? w9 _ k0_)).trans k0_; have dk1_ := (hbd.cell (World.block_lt_of_cell? w9 _ k1_)).trans k1_
                    refine start_ (n := 28) (S := (fun w' => w'.cell? ⟨ga, 1, none⟩ = some (.int .i64 o) ∧ w'.cell? ⟨ga, 16, none⟩ = some (.slice (some ad) ks.length c16) ∧ w'.cell? ⟨gK, 0, none⟩ = some (.int .i64 (rd_T83 ks i).f0) ∧ w'.cell? ⟨gK, 1, none⟩ = some (.slice A1 (rd_T83 ks i).f1.length c1))) (ds := []) #[O,O,O,O,O,O,O,O,O,O,O,O,O,O,O,O,O,O,O,O,O,O,O,O,O,O,O,O] (by kernel_rfl) rfl rfl ⟨dr1_, dr16_, dk0_, dk1_⟩ (fun hHeld => ?_); refine with_tabW region18.tab region18.bits (fun HT_ HW_ => ?_)
                    refine pure_ (i := 0) (N := some 114) (v := ?_) (a' := ?_) #[I,O,O,O,O,O,O,O,O,O,O,O,O,O,O,O,O,O,O,O,O,O,O,O,O,O,O,O] rfl rfl (any_of HT_.out (by kernel_rfl)) (fun _ _ _ h => h) (Or.inl ⟨by rfl, ?_⟩) ?_ ?_
                    rotate_left; intro w'; go_simp; with_reducible rfl; rotate_left; simp only [Act.put, List.setIfInBounds_toArray, List.set_cons_zero, List.set_cons_succ, i64_w, i32_w]; rfl
                    refine take_ (i := 1) (N := some 115) (v := ?_) (a' := ?_) #[I,I,O,O,O,O,O,O,O,O,O,O,O,O,O,O,O,O,O,O,O,O,O,O,O,O,O,O] rfl rfl (take_ofW HT_.out HW_.out (by kernel_rfl)) (fun _ _ _ h => h) (Or.inl ⟨by rfl, ?_⟩) hHeld ?_ ?_
                    rotate_left; rintro w' ⟨s0, s1, s2, s3⟩; go_simp; with_reducible rfl; rotate_left; simp only [Act.put, List.setIfInBounds_toArray, List.set_cons_zero, List.set_cons_succ, i64_w, i32_w]; rfl
                    refine one_ (i := 2) (N := some 116) #[I,I,I,O,O,O,O,O,O,O,O,O,O,O,O,O,O,O,O,O,O,O,O,O,O,O,O,O] rfl rfl (one_of HT_.out (by kernel_rfl)) (by decide) (fun K hK => ?_)
                    refine goes_ Try.func18 (by kernel_rfl) rfl #[.int .i64 (rd_T83 ks i).f0, .int .i64 1, .int .i64 60] (by rfl) rfl rfl (by (try simp only [List.map_toArray, List.map_cons, List.map_nil]); first | done | rfl) ?_
                    with_reducible refine (HC.out _ (below_step HB.out hbd)).mono ?_
                    rintro e wn ⟨rfl, hb⟩
                    have hb2 := below_step hbd hb
                    have lr1_ := (hb2.cell (World.block_lt_of_cell? w9 _ r1_)).trans r1_; have lr16_ := (hb2.cell (World.block_lt_of_cell? w9 _ r16_)).trans r16_; have lk0_ := (hb2.cell (World.block_lt_of_cell? w9 _ k0_)).trans k0_; have lk1_ := (hb2.cell (World.block_lt_of_cell? w9 _ k1_)).trans k1_
                    refine ⟨_, rfl, ?_⟩
                    refine hK.out _ _ ⟨lr1_, lr16_, lk0_, lk1_⟩ (fun hHeld => ?_)
                    clear hK K
                    refine norm_ (a' := ?_) ?_ ?_
                    rotate_left
                    · show Act.put _ (some 116) _ = _
                      simp only [Act.put, List.setIfInBounds_toArray, List.set_cons_zero, List.set_cons_succ, i64_w, i32_w]
                      rfl
                    refine pure_ (i := 3) (N := some 117) (v := ?_) (a' := ?_) #[I,I,I,I,O,O,O,O,O,O,O,O,O,O,O,O,O,O,O,O,O,O,O,O,O,O,O,O] rfl rfl (any_of HT_.out (by kernel_rfl)) (fun _ _ _ h => h) (Or.inl ⟨by rfl, ?_⟩) ?_ ?_
                    rotate_left; intro w'; go_simp; with_reducible rfl; rotate_left; simp only [Act.put, List.setIfInBounds_toArray, List.set_cons_zero, List.set_cons_succ, i64_w, i32_w]; rfl
                    refine pure_ (i := 4) (N := some 118) (v := ?_) (a' := ?_) #[I,I,I,I,I,O,O,O,O,O,O,O,O,O,O,O,O,O,O,O,O,O,O,O,O,O,O,O] rfl rfl (any_of HT_.out (by kernel_rfl)) (fun _ _ _ h => h) (Or.inl ⟨by rfl, ?_⟩) ?_ ?_
                    rotate_left; intro w'; go_simp; with_reducible rfl; rotate_left; simp only [Act.put, List.setIfInBounds_toArray, List.set_cons_zero, List.set_cons_succ, i64_w, i32_w]; rfl
                    refine pure_ (i := 5) (N := some 119) (v := ?_) (a' := ?_) #[I,I,I,I,I,I,O,O,O,O,O,O,O,O,O,O,O,O,O,O,O,O,O,O,O,O,O,O] rfl rfl (any_of HT_.out (by kernel_rfl)) (fun _ _ _ h => h) (Or.inl ⟨by rfl, ?_⟩) ?_ ?_
                    rotate_left; intro w'; go_simp; with_reducible rfl; rotate_left; simp only [Act.put, List.setIfInBounds_toArray, List.set_cons_zero, List.set_cons_succ, i64_w, i32_w]; rfl
                    refine take_ (i := 6) (N := some 120) (v := ?_) (a' := ?_) #[I,I,I,I,I,I,I,O,O,O,O,O,O,O,O,O,O,O,O,O,O,O,O,O,O,O,O,O] rfl rfl (take_ofW HT_.out HW_.out (by kernel_rfl)) (fun _ _ _ h => h) (Or.inl ⟨by rfl, ?_⟩) hHeld ?_ ?_
                    rotate_left; rintro w' ⟨s0, s1, s2, s3⟩; go_simp; with_reducible rfl; rotate_left; simp only [Act.put, List.setIfInBounds_toArray, List.set_cons_zero, List.set_cons_succ, i64_w, i32_w]; rfl
                    refine pure_ (i := 7) (N := some 121) (v := ?_) (a' := ?_) #[I,I,I,I,I,I,I,I,O,O,O,O,O,O,O,O,O,O,O,O,O,O,O,O,O,O,O,O] rfl rfl (any_of HT_.out (by kernel_rfl)) (fun _ _ _ h => h) (Or.inl ⟨by rfl, ?_⟩) ?_ ?_
                    rotate_left; intro w'; go_simp; with_reducible rfl; rotate_left; simp only [Act.put, List.setIfInBounds_toArray, List.set_cons_zero, List.set_cons_succ, i64_w, i32_w]; rfl
                    refine take_ (i := 8) (N := some 122) (v := ?_) (a' := ?_) #[I,I,I,I,I,I,I,I,I,O,O,O,O,O,O,O,O,O,O,O,O,O,O,O,O,O,O,O] rfl rfl (take_ofW HT_.out HW_.out (by kernel_rfl)) (fun _ _ _ h => h) (Or.inl ⟨by rfl, ?_⟩) hHeld ?_ ?_
                    rotate_left; rintro w' ⟨s0, s1, s2, s3⟩; go_simp; with_reducible rfl; rotate_left; simp only [Act.put, List.setIfInBounds_toArray, List.set_cons_zero, List.set_cons_succ, i64_w, i32_w]; rfl
                    refine one_ (i := 9) (N := some 123) #[I,I,I,I,I,I,I,I,I,I,O,O,O,O,O,O,O,O,O,O,O,O,O,O,O,O,O,O] rfl rfl (one_of HT_.out (by kernel_rfl)) (by decide) (fun K hK => ?_)
                    refine goes_ Try.func37 (by kernel_rfl) rfl #[.slice A1 (rd_T83 ks i).f1.length c1, .int .i64 o] (by rfl) rfl rfl (by (try simp only [List.map_toArray, List.map_cons, List.map_nil]); first | done | rfl) ?_
                    with_reducible refine (HP.out _ (below_step HB.out hb2)).mono ?_
                    rintro e wm ⟨rfl, hbm⟩
                    have hb3 := below_step hb2 hbm
                    have mr1_ := (hb3.cell (World.block_lt_of_cell? w9 _ r1_)).trans r1_; have mr16_ := (hb3.cell (World.block_lt_of_cell? w9 _ r16_)).trans r16_; have mk0_ := (hb3.cell (World.block_lt_of_cell? w9 _ k0_)).trans k0_; have mk1_ := (hb3.cell (World.block_lt_of_cell? w9 _ k1_)).trans k1_
                    refine ⟨_, rfl, ?_⟩
                    refine hK.out _ _ ⟨mr1_, mr16_, mk0_, mk1_⟩ (fun hHeld => ?_)
                    clear hK K
                    refine norm_ (a' := ?_) ?_ ?_
                    rotate_left
                    · show Act.put _ (some 123) _ = _
                      simp only [Act.put, List.setIfInBounds_toArray, List.set_cons_zero, List.set_cons_succ, i64_w, i32_w]
                      rfl
                    refine pure_ (i := 10) (N := some 124) (v := ?_) (a' := ?_) #[I,I,I,I,I,I,I,I,I,I,I,O,O,O,O,O,O,O,O,O,O,O,O,O,O,O,O,O] rfl rfl (any_of HT_.out (by kernel_rfl)) (fun _ _ _ h => h) (Or.inl ⟨by rfl, ?_⟩) ?_ ?_
                    rotate_left; intro w'; go_simp; with_reducible rfl; rotate_left; simp only [Act.put, List.setIfInBounds_toArray, List.set_cons_zero, List.set_cons_succ, i64_w, i32_w]; rfl
                    refine pure_ (i := 11) (N := some 125) (v := ?_) (a' := ?_) #[I,I,I,I,I,I,I,I,I,I,I,I,O,O,O,O,O,O,O,O,O,O,O,O,O,O,O,O] rfl rfl (any_of HT_.out (by kernel_rfl)) (fun _ _ _ h => h) (Or.inl ⟨by rfl, ?_⟩) ?_ ?_
                    rotate_left; intro w'; go_simp; with_reducible rfl; rotate_left; simp only [Act.put, List.setIfInBounds_toArray, List.set_cons_zero, List.set_cons_succ, i64_w, i32_w]; rfl
                    refine pure_ (i := 12) (N := some 126) (v := ?_) (a' := ?_) #[I,I,I,I,I,I,I,I,I,I,I,I,I,O,O,O,O,O,O,O,O,O,O,O,O,O,O,O] rfl rfl (any_of HT_.out (by kernel_rfl)) (fun _ _ _ h => h) (Or.inl ⟨by rfl, ?_⟩) ?_ ?_
                    rotate_left; intro w'; go_simp; with_reducible rfl; rotate_left; simp only [Act.put, List.setIfInBounds_toArray, List.set_cons_zero, List.set_cons_succ, i64_w, i32_w]; rfl
                    refine pure_ (i := 13) (N := some 127) (v := ?_) (a' := ?_) #[I,I,I,I,I,I,I,I,I,I,I,I,I,I,O,O,O,O,O,O,O,O,O,O,O,O,O,O] rfl rfl (any_of HT_.out (by kernel_rfl)) (fun _ _ _ h => h) (Or.inl ⟨by rfl, ?_⟩) ?_ ?_
                    rotate_left; intro w'; go_simp; with_reducible rfl; rotate_left; simp only [Act.put, List.setIfInBounds_toArray, List.set_cons_zero, List.set_cons_succ, i64_w, i32_w]; rfl
                    refine pure_ (i := 14) (N := some 128) (v := ?_) (a' := ?_) #[I,I,I,I,I,I,I,I,I,I,I,I,I,I,I,O,O,O,O,O,O,O,O,O,O,O,O,O] rfl rfl (any_of HT_.out (by kernel_rfl)) (fun _ _ _ h => h) (Or.inl ⟨by rfl, ?_⟩) ?_ ?_
                    rotate_left; intro w'; go_simp; with_reducible rfl; rotate_left; simp only [Act.put, List.setIfInBounds_toArray, List.set_cons_zero, List.set_cons_succ, i64_w, i32_w]; rfl
                    refine pure_ (i := 15) (N := some 129) (v := ?_) (a' := ?_) #[I,I,I,I,I,I,I,I,I,I,I,I,I,I,I,I,O,O,O,O,O,O,O,O,O,O,O,O] rfl rfl (any_of HT_.out (by kernel_rfl)) (fun _ _ _ h => h) (Or.inl ⟨by rfl, ?_⟩) ?_ ?_
                    rotate_left; intro w'; go_simp; with_reducible rfl; rotate_left; simp only [Act.put, List.setIfInBounds_toArray, List.set_cons_zero, List.set_cons_succ, i64_w, i32_w]; rfl
                    refine pure_ (i := 16) (N := some 130) (v := undef) (a' := ?_) #[I,I,I,I,I,I,I,I,I,I,I,I,I,I,I,I,I,O,O,O,O,O,O,O,O,O,O,O] rfl rfl (any_of HT_.out (by kernel_rfl)) (fun _ _ _ h => h) (Or.inr ⟨by rfl, rfl⟩) ?_ ?_
                    rotate_left; simp only [Act.put, List.setIfInBounds_toArray, List.set_cons_zero, List.set_cons_succ, i64_w, i32_w]; rfl
                    refine pure_ (i := 17) (N := some 131) (v := undef) (a' := ?_) #[I,I,I,I,I,I,I,I,I,I,I,I,I,I,I,I,I,I,O,O,O,O,O,O,O,O,O,O] rfl rfl (any_of HT_.out (by kernel_rfl)) (fun _ _ _ h => h) (Or.inr ⟨by rfl, rfl⟩) ?_ ?_
                    rotate_left; simp only [Act.put, List.setIfInBounds_toArray, List.set_cons_zero, List.set_cons_succ, i64_w, i32_w]; rfl
                    refine pure_ (i := 18) (N := some 132) (v := undef) (a' := ?_) #[I,I,I,I,I,I,I,I,I,I,I,I,I,I,I,I,I,I,I,O,O,O,O,O,O,O,O,O] rfl rfl (any_of HT_.out (by kernel_rfl)) (fun _ _ _ h => h) (Or.inr ⟨by rfl, rfl⟩) ?_ ?_
                    rotate_left; simp only [Act.put, List.setIfInBounds_toArray, List.set_cons_zero, List.set_cons_succ, i64_w, i32_w]; rfl
                    refine pure_ (i := 19) (N := some 133) (v := undef) (a' := ?_) #[I,I,I,I,I,I,I,I,I,I,I,I,I,I,I,I,I,I,I,I,O,O,O,O,O,O,O,O] rfl rfl (any_of HT_.out (by kernel_rfl)) (fun _ _ _ h => h) (Or.inr ⟨by rfl, rfl⟩) ?_ ?_
                    rotate_left; simp only [Act.put, List.setIfInBounds_toArray, List.set_cons_zero, List.set_cons_succ, i64_w, i32_w]; rfl
                    refine pure_ (i := 20) (N := some 134) (v := undef) (a' := ?_) #[I,I,I,I,I,I,I,I,I,I,I,I,I,I,I,I,I,I,I,I,I,O,O,O,O,O,O,O] rfl rfl (any_of HT_.out (by kernel_rfl)) (fun _ _ _ h => h) (Or.inr ⟨by rfl, rfl⟩) ?_ ?_
                    rotate_left; simp only [Act.put, List.setIfInBounds_toArray, List.set_cons_zero, List.set_cons_succ, i64_w, i32_w]; rfl
                    refine pure_ (i := 21) (N := some 135) (v := undef) (a' := ?_) #[I,I,I,I,I,I,I,I,I,I,I,I,I,I,I,I,I,I,I,I,I,I,O,O,O,O,O,O] rfl rfl (any_of HT_.out (by kernel_rfl)) (fun _ _ _ h => h) (Or.inr ⟨by rfl, rfl⟩) ?_ ?_
                    rotate_left; simp only [Act.put, List.setIfInBounds_toArray, List.set_cons_zero, List.set_cons_succ, i64_w, i32_w]; rfl
                    refine pure_ (i := 22) (N := some 136) (v := undef) (a' := ?_) #[I,I,I,I,I,I,I,I,I,I,I,I,I,I,I,I,I,I,I,I,I,I,I,O,O,O,O,O] rfl rfl (any_of HT_.out (by kernel_rfl)) (fun _ _ _ h => h) (Or.inr ⟨by rfl, rfl⟩) ?_ ?_
                    rotate_left; simp only [Act.put, List.setIfInBounds_toArray, List.set_cons_zero, List.set_cons_succ, i64_w, i32_w]; rfl
                    refine pure_ (i := 23) (N := some 137) (v := undef) (a' := ?_) #[I,I,I,I,I,I,I,I,I,I,I,I,I,I,I,I,I,I,I,I,I,I,I,I,O,O,O,O] rfl rfl (any_of HT_.out (by kernel_rfl)) (fun _ _ _ h => h) (Or.inr ⟨by rfl, rfl⟩) ?_ ?_
                    rotate_left; simp only [Act.put, List.setIfInBounds_toArray, List.set_cons_zero, List.set_cons_succ, i64_w, i32_w]; rfl
                    refine pure_ (i := 24) (N := some 138) (v := undef) (a' := ?_) #[I,I,I,I,I,I,I,I,I,I,I,I,I,I,I,I,I,I,I,I,I,I,I,I,I,O,O,O] rfl rfl (any_of HT_.out (by kernel_rfl)) (fun _ _ _ h => h) (Or.inr ⟨by rfl, rfl⟩) ?_ ?_
                    rotate_left; simp only [Act.put, List.setIfInBounds_toArray, List.set_cons_zero, List.set_cons_succ, i64_w, i32_w]; rfl
                    refine pure_ (i := 25) (N := some 139) (v := undef) (a' := ?_) #[I,I,I,I,I,I,I,I,I,I,I,I,I,I,I,I,I,I,I,I,I,I,I,I,I,I,O,O] rfl rfl (any_of HT_.out (by kernel_rfl)) (fun _ _ _ h => h) (Or.inr ⟨by rfl, rfl⟩) ?_ ?_
                    rotate_left; simp only [Act.put, List.setIfInBounds_toArray, List.set_cons_zero, List.set_cons_succ, i64_w, i32_w]; rfl
                    refine pure_ (i := 26) (N := some 140) (v := ?_) (a' := ?_) #[I,I,I,I,I,I,I,I,I,I,I,I,I,I,I,I,I,I,I,I,I,I,I,I,I,I,I,O] rfl rfl (any_of HT_.out (by kernel_rfl)) (fun _ _ _ h => h) (Or.inl ⟨by rfl, ?_⟩) ?_ ?_
                    rotate_left; intro w'; go_simp; with_reducible rfl; rotate_left; simp only [Act.put, List.setIfInBounds_toArray, List.set_cons_zero, List.set_cons_succ, i64_w, i32_w]; rfl
                    refine pure_ (i := 27) (N := some 141) (v := ?_) (a' := ?_) #[I,I,I,I,I,I,I,I,I,I,I,I,I,I,I,I,I,I,I,I,I,I,I,I,I,I,I,I] rfl rfl (any_of HT_.out (by kernel_rfl)) (fun _ _ _ h => h) (Or.inl ⟨by rfl, ?_⟩) ?_ ?_
                    rotate_left; intro w'; go_simp; with_reducible rfl; rotate_left; simp only [Act.put, List.setIfInBounds_toArray, List.set_cons_zero, List.set_cons_succ, i64_w, i32_w]; rfl
                    refine done_ (done_of HT_.out (by kernel_rfl)) ?_
                    go_wp2
                    go_roundg gk1
                    case measure => omega
                    case rel => exact ⟨wrap64 (i + 1), rfl, HZ, ⟨by have := HI.out; have := HL1.out.2.2; have := HI'.out; rw [wrapIn (by omega) (by omega)]; omega⟩, ⟨below_step HB.out hb3⟩, ⟨blk_below BA.out hb3⟩⟩
                  · have hgt : decide (0 < i) = true := decide_eq_true (by omega)
                    have hw1 : wrap64 (i - 1) = i - 1 := by have := HL1.out.2.2; exact wrapIn (by omega) (by omega)
                    have p2 : 0 ≤ i - 1 := by omega
                    have p3 : i - 1 < (ks.length : Int) := by omega
                    obtain ⟨ad2, A2, c2, e2, e0_, _, _, _⟩ := at_T83 HK.out (i - 1) p2 p3
                    obtain rfl := Option.some.inj e2
                    rw [show (i - 1).toNat = i.toNat - 1 by omega] at e0_
                    have p4 : 1 ≤ i := by omega
                    have p5 : decide (i - 1 < (ks.length : Int)) = true := decide_eq_true p3
                    replace e0_ := (HB.out.cell (World.block_lt_of_cell? w _ e0_)).trans e0_
                    by_cases hle : (rd_T83 ks i).f0 ≤ (rd_T83 ks (i - 1)).f0
                    · have hle1 : decide ((rd_T83 ks i).f0 ≤ (rd_T83 ks (i - 1)).f0) = true := decide_eq_true hle
                      have HZ := Aside0.mk (loopFalse HV.out p0 p1 HL1.out.2.2 (by rw [HWa.out, hw, hn, decide_eq_false (show ¬ i.toNat = 0 by omega), show ((i.toNat - 1 : Nat) : Int) = i - 1 by omega, decide_eq_false (show ¬ (rd_T83 ks (i - 1)).f0 < (rd_T83 ks i).f0 by omega)]; rfl))
                      clear HV hw hn HWa h00 hle
                      have dr1_ := (hbd.cell (World.block_lt_of_cell? w9 _ r1_)).trans r1_; have dr16_ := (hbd.cell (World.block_lt_of_cell? w9 _ r16_)).trans r16_; have dk0_ := (hbd.cell (World.block_lt_of_cell? w9 _ k0_)).trans k0_; have dk1_ := (hbd.cell (World.block_lt_of_cell? w9 _ k1_)).trans k1_; have de0_ := (hbd.cell (World.block_lt_of_cell? w9 _ e0_)).trans e0_
                      refine start_ (n := 28) (S := (fun w' => w'.cell? ⟨ga, 1, none⟩ = some (.int .i64 o) ∧ w'.cell? ⟨ga, 16, none⟩ = some (.slice (some ad) ks.length c16) ∧ w'.cell? ⟨gK, 0, none⟩ = some (.int .i64 (rd_T83 ks i).f0) ∧ w'.cell? ⟨gK, 1, none⟩ = some (.slice A1 (rd_T83 ks i).f1.length c1) ∧ w'.cell? (ad.add ((i.toNat - 1) * 2)) = some (.int .i64 (rd_T83 ks (i - 1)).f0))) (ds := []) #[O,O,O,O,O,O,O,O,O,O,O,O,O,O,O,O,O,O,O,O,O,O,O,O,O,O,O,O] (by kernel_rfl) rfl rfl ⟨dr1_, dr16_, dk0_, dk1_, de0_⟩ (fun hHeld => ?_); refine with_tabW region18.tab region18.bits (fun HT_ HW_ => ?_)
                      refine pure_ (i := 0) (N := some 114) (v := ?_) (a' := ?_) #[I,O,O,O,O,O,O,O,O,O,O,O,O,O,O,O,O,O,O,O,O,O,O,O,O,O,O,O] rfl rfl (any_of HT_.out (by kernel_rfl)) (fun _ _ _ h => h) (Or.inl ⟨by rfl, ?_⟩) ?_ ?_
                      rotate_left; intro w'; go_simp; with_reducible rfl; rotate_left; simp only [Act.put, List.setIfInBounds_toArray, List.set_cons_zero, List.set_cons_succ, i64_w, i32_w]; rfl
                      refine take_ (i := 1) (N := some 115) (v := ?_) (a' := ?_) #[I,I,O,O,O,O,O,O,O,O,O,O,O,O,O,O,O,O,O,O,O,O,O,O,O,O,O,O] rfl rfl (take_ofW HT_.out HW_.out (by kernel_rfl)) (fun _ _ _ h => h) (Or.inl ⟨by rfl, ?_⟩) hHeld ?_ ?_
                      rotate_left; rintro w' ⟨s0, s1, s2, s3, s4⟩; go_simp; with_reducible rfl; rotate_left; simp only [Act.put, List.setIfInBounds_toArray, List.set_cons_zero, List.set_cons_succ, i64_w, i32_w]; rfl
                      refine one_ (i := 2) (N := some 116) #[I,I,I,O,O,O,O,O,O,O,O,O,O,O,O,O,O,O,O,O,O,O,O,O,O,O,O,O] rfl rfl (one_of HT_.out (by kernel_rfl)) (by decide) (fun K hK => ?_)
                      refine goes_ Try.func18 (by kernel_rfl) rfl #[.int .i64 (rd_T83 ks i).f0, .int .i64 1, .int .i64 60] (by rfl) rfl rfl (by (try simp only [List.map_toArray, List.map_cons, List.map_nil]); first | done | rfl) ?_
                      with_reducible refine (HC.out _ (below_step HB.out hbd)).mono ?_
                      rintro e wn ⟨rfl, hb⟩
                      have hb2 := below_step hbd hb
                      have lr1_ := (hb2.cell (World.block_lt_of_cell? w9 _ r1_)).trans r1_; have lr16_ := (hb2.cell (World.block_lt_of_cell? w9 _ r16_)).trans r16_; have lk0_ := (hb2.cell (World.block_lt_of_cell? w9 _ k0_)).trans k0_; have lk1_ := (hb2.cell (World.block_lt_of_cell? w9 _ k1_)).trans k1_; have le0_ := (hb2.cell (World.block_lt_of_cell? w9 _ e0_)).trans e0_
                      refine ⟨_, rfl, ?_⟩
                      refine hK.out _ _ ⟨lr1_, lr16_, lk0_, lk1_, le0_⟩ (fun hHeld => ?_)
                      clear hK K
                      refine norm_ (a' := ?_) ?_ ?_
                      rotate_left
                      · show Act.put _ (some 116) _ = _
                        simp only [Act.put, List.setIfInBounds_toArray, List.set_cons_zero, List.set_cons_succ, i64_w, i32_w]
                        rfl
                      refine pure_ (i := 3) (N := some 117) (v := ?_) (a' := ?_) #[I,I,I,I,O,O,O,O,O,O,O,O,O,O,O,O,O,O,O,O,O,O,O,O,O,O,O,O] rfl rfl (any_of HT_.out (by kernel_rfl)) (fun _ _ _ h => h) (Or.inl ⟨by rfl, ?_⟩) ?_ ?_
                      rotate_left; intro w'; go_simp; with_reducible rfl; rotate_left; simp only [Act.put, List.setIfInBounds_toArray, List.set_cons_zero, List.set_cons_succ, i64_w, i32_w]; rfl
                      refine pure_ (i := 4) (N := some 118) (v := ?_) (a' := ?_) #[I,I,I,I,I,O,O,O,O,O,O,O,O,O,O,O,O,O,O,O,O,O,O,O,O,O,O,O] rfl rfl (any_of HT_.out (by kernel_rfl)) (fun _ _ _ h => h) (Or.inl ⟨by rfl, ?_⟩) ?_ ?_
                      rotate_left; intro w'; go_simp; with_reducible rfl; rotate_left; simp only [Act.put, List.setIfInBounds_toArray, List.set_cons_zero, List.set_cons_succ, i64_w, i32_w]; rfl
                      refine pure_ (i := 5) (N := some 119) (v := ?_) (a' := ?_) #[I,I,I,I,I,I,O,O,O,O,O,O,O,O,O,O,O,O,O,O,O,O,O,O,O,O,O,O] rfl rfl (any_of HT_.out (by kernel_rfl)) (fun _ _ _ h => h) (Or.inl ⟨by rfl, ?_⟩) ?_ ?_
                      rotate_left; intro w'; go_simp; with_reducible rfl; rotate_left; simp only [Act.put, List.setIfInBounds_toArray, List.set_cons_zero, List.set_cons_succ, i64_w, i32_w]; rfl
                      refine take_ (i := 6) (N := some 120) (v := ?_) (a' := ?_) #[I,I,I,I,I,I,I,O,O,O,O,O,O,O,O,O,O,O,O,O,O,O,O,O,O,O,O,O] rfl rfl (take_ofW HT_.out HW_.out (by kernel_rfl)) (fun _ _ _ h => h) (Or.inl ⟨by rfl, ?_⟩) hHeld ?_ ?_
                      rotate_left; rintro w' ⟨s0, s1, s2, s3, s4⟩; go_simp; with_reducible rfl; rotate_left; simp only [Act.put, List.setIfInBounds_toArray, List.set_cons_zero, List.set_cons_succ, i64_w, i32_w]; rfl
                      refine pure_ (i := 7) (N := some 121) (v := ?_) (a' := ?_) #[I,I,I,I,I,I,I,I,O,O,O,O,O,O,O,O,O,O,O,O,O,O,O,O,O,O,O,O] rfl rfl (any_of HT_.out (by kernel_rfl)) (fun _ _ _ h => h) (Or.inl ⟨by rfl, ?_⟩) ?_ ?_
                      rotate_left; intro w'; go_simp; with_reducible rfl; rotate_left; simp only [Act.put, List.setIfInBounds_toArray, List.set_cons_zero, List.set_cons_succ, i64_w, i32_w]; rfl
                      refine take_ (i := 8) (N := some 122) (v := ?_) (a' := ?_) #[I,I,I,I,I,I,I,I,I,O,O,O,O,O,O,O,O,O,O,O,O,O,O,O,O,O,O,O] rfl rfl (take_ofW HT_.out HW_.out (by kernel_rfl)) (fun _ _ _ h => h) (Or.inl ⟨by rfl, ?_⟩) hHeld ?_ ?_
                      rotate_left; rintro w' ⟨s0, s1, s2, s3, s4⟩; go_simp; with_reducible rfl; rotate_left; simp only [Act.put, List.setIfInBounds_toArray, List.set_cons_zero, List.set_cons_succ, i64_w, i32_w]; rfl
                      refine one_ (i := 9) (N := some 123) #[I,I,I,I,I,I,I,I,I,I,O,O,O,O,O,O,O,O,O,O,O,O,O,O,O,O,O,O] rfl rfl (one_of HT_.out (by kernel_rfl)) (by decide) (fun K hK => ?_)
                      refine goes_ Try.func37 (by kernel_rfl) rfl #[.slice A1 (rd_T83 ks i).f1.length c1, .int .i64 o] (by rfl) rfl rfl (by (try simp only [List.map_toArray, List.map_cons, List.map_nil]); first | done | rfl) ?_
                      with_reducible refine (HP.out _ (below_step HB.out hb2)).mono ?_
                      rintro e wm ⟨rfl, hbm⟩
                      have hb3 := below_step hb2 hbm
                      have mr1_ := (hb3.cell (World.block_lt_of_cell? w9 _ r1_)).trans r1_; have mr16_ := (hb3.cell (World.block_lt_of_cell? w9 _ r16_)).trans r16_; have mk0_ := (hb3.cell (World.block_lt_of_cell? w9 _ k0_)).trans k0_; have mk1_ := (hb3.cell (World.block_lt_of_cell? w9 _ k1_)).trans k1_; have me0_ := (hb3.cell (World.block_lt_of_cell? w9 _ e0_)).trans e0_
                      refine ⟨_, rfl, ?_⟩
                      refine hK.out _ _ ⟨mr1_, mr16_, mk0_, mk1_, me0_⟩ (fun hHeld => ?_)
                      clear hK K
                      refine norm_ (a' := ?_) ?_ ?_
                      rotate_left
                      · show Act.put _ (some 123) _ = _
                        simp only [Act.put, List.setIfInBounds_toArray, List.set_cons_zero, List.set_cons_succ, i64_w, i32_w]
                        rfl
                      refine pure_ (i := 10) (N := some 124) (v := ?_) (a' := ?_) #[I,I,I,I,I,I,I,I,I,I,I,O,O,O,O,O,O,O,O,O,O,O,O,O,O,O,O,O] rfl rfl (any_of HT_.out (by kernel_rfl)) (fun _ _ _ h => h) (Or.inl ⟨by rfl, ?_⟩) ?_ ?_
                      rotate_left; intro w'; go_simp; with_reducible rfl; rotate_left; simp only [Act.put, List.setIfInBounds_toArray, List.set_cons_zero, List.set_cons_succ, i64_w, i32_w]; rfl
                      refine pure_ (i := 11) (N := some 125) (v := ?_) (a' := ?_) #[I,I,I,I,I,I,I,I,I,I,I,I,O,O,O,O,O,O,O,O,O,O,O,O,O,O,O,O] rfl rfl (any_of HT_.out (by kernel_rfl)) (fun _ _ _ h => h) (Or.inl ⟨by rfl, ?_⟩) ?_ ?_
                      rotate_left; intro w'; go_simp; with_reducible rfl; rotate_left; simp only [Act.put, List.setIfInBounds_toArray, List.set_cons_zero, List.set_cons_succ, i64_w, i32_w]; rfl
                      refine pure_ (i := 12) (N := some 126) (v := ?_) (a' := ?_) #[I,I,I,I,I,I,I,I,I,I,I,I,I,O,O,O,O,O,O,O,O,O,O,O,O,O,O,O] rfl rfl (any_of HT_.out (by kernel_rfl)) (fun _ _ _ h => h) (Or.inl ⟨by rfl, ?_⟩) ?_ ?_
                      rotate_left; intro w'; go_simp; with_reducible rfl; rotate_left; simp only [Act.put, List.setIfInBounds_toArray, List.set_cons_zero, List.set_cons_succ, i64_w, i32_w]; rfl
                      refine pure_ (i := 13) (N := some 127) (v := ?_) (a' := ?_) #[I,I,I,I,I,I,I,I,I,I,I,I,I,I,O,O,O,O,O,O,O,O,O,O,O,O,O,O] rfl rfl (any_of HT_.out (by kernel_rfl)) (fun _ _ _ h => h) (Or.inl ⟨by rfl, ?_⟩) ?_ ?_
                      rotate_left; intro w'; go_simp; with_reducible rfl; rotate_left; simp only [Act.put, List.setIfInBounds_toArray, List.set_cons_zero, List.set_cons_succ, i64_w, i32_w]; rfl
                      refine pure_ (i := 14) (N := some 128) (v := ?_) (a' := ?_) #[I,I,I,I,I,I,I,I,I,I,I,I,I,I,I,O,O,O,O,O,O,O,O,O,O,O,O,O] rfl rfl (any_of HT_.out (by kernel_rfl)) (fun _ _ _ h => h) (Or.inl ⟨by rfl, ?_⟩) ?_ ?_
                      rotate_left; intro w'; go_simp; with_reducible rfl; rotate_left; simp only [Act.put, List.setIfInBounds_toArray, List.set_cons_zero, List.set_cons_succ, i64_w, i32_w]; rfl
                      refine pure_ (i := 15) (N := some 129) (v := ?_) (a' := ?_) #[I,I,I,I,I,I,I,I,I,I,I,I,I,I,I,I,O,O,O,O,O,O,O,O,O,O,O,O] rfl rfl (any_of HT_.out (by kernel_rfl)) (fun _ _ _ h => h) (Or.inl ⟨by rfl, ?_⟩) ?_ ?_
                      rotate_left; intro w'; go_simp; with_reducible rfl; rotate_left; simp only [Act.put, List.setIfInBounds_toArray, List.set_cons_zero, List.set_cons_succ, i64_w, i32_w]; rfl
                      refine pure_ (i := 16) (N := some 130) (v := ?_) (a' := ?_) #[I,I,I,I,I,I,I,I,I,I,I,I,I,I,I,I,I,O,O,O,O,O,O,O,O,O,O,O] rfl rfl (any_of HT_.out (by kernel_rfl)) (fun _ _ _ h => h) (Or.inl ⟨by rfl, ?_⟩) ?_ ?_
                      rotate_left; intro w'; go_simp; with_reducible rfl; rotate_left; simp only [Act.put, List.setIfInBounds_toArray, List.set_cons_zero, List.set_cons_succ, i64_w, i32_w]; rfl
                      refine take_ (i := 17) (N := some 131) (v := ?_) (a' := ?_) #[I,I,I,I,I,I,I,I,I,I,I,I,I,I,I,I,I,I,O,O,O,O,O,O,O,O,O,O] rfl rfl (take_ofW HT_.out HW_.out (by kernel_rfl)) (fun _ _ _ h => h) (Or.inl ⟨by rfl, ?_⟩) hHeld ?_ ?_
                      rotate_left; rintro w' ⟨s0, s1, s2, s3, s4⟩; go_simp; with_reducible rfl; rotate_left; simp only [Act.put, List.setIfInBounds_toArray, List.set_cons_zero, List.set_cons_succ, i64_w, i32_w]; rfl
                      refine pure_ (i := 18) (N := some 132) (v := ?_) (a' := ?_) #[I,I,I,I,I,I,I,I,I,I,I,I,I,I,I,I,I,I,I,O,O,O,O,O,O,O,O,O] rfl rfl (any_of HT_.out (by kernel_rfl)) (fun _ _ _ h => h) (Or.inl ⟨by rfl, ?_⟩) ?_ ?_
                      rotate_left; intro w'; go_simp; with_reducible rfl; rotate_left; simp only [Act.put, List.setIfInBounds_toArray, List.set_cons_zero, List.set_cons_succ, i64_w, i32_w]; rfl
                      refine take_ (i := 19) (N := some 133) (v := ?_) (a' := ?_) #[I,I,I,I,I,I,I,I,I,I,I,I,I,I,I,I,I,I,I,I,O,O,O,O,O,O,O,O] rfl rfl (take_ofW HT_.out HW_.out (by kernel_rfl)) (fun _ _ _ h => h) (Or.inl ⟨by rfl, ?_⟩) hHeld ?_ ?_
                      rotate_left; rintro w' ⟨s0, s1, s2, s3, s4⟩; go_simp; with_reducible rfl; rotate_left; simp only [Act.put, List.setIfInBounds_toArray, List.set_cons_zero, List.set_cons_succ, i64_w, i32_w]; rfl
                      refine pure_ (i := 20) (N := some 134) (v := ?_) (a' := ?_) #[I,I,I,I,I,I,I,I,I,I,I,I,I,I,I,I,I,I,I,I,I,O,O,O,O,O,O,O] rfl rfl (any_of HT_.out (by kernel_rfl)) (fun _ _ _ h => h) (Or.inl ⟨by rfl, ?_⟩) ?_ ?_
                      rotate_left; intro w'; go_simp; with_reducible rfl; rotate_left; simp only [Act.put, List.setIfInBounds_toArray, List.set_cons_zero, List.set_cons_succ, i64_w, i32_w]; rfl
                      refine pure_ (i := 21) (N := some 135) (v := ?_) (a' := ?_) #[I,I,I,I,I,I,I,I,I,I,I,I,I,I,I,I,I,I,I,I,I,I,O,O,O,O,O,O] rfl rfl (any_of HT_.out (by kernel_rfl)) (fun _ _ _ h => h) (Or.inl ⟨by rfl, ?_⟩) ?_ ?_
                      rotate_left; intro w'; go_simp; with_reducible rfl; rotate_left; simp only [Act.put, List.setIfInBounds_toArray, List.set_cons_zero, List.set_cons_succ, i64_w, i32_w]; rfl
                      refine pure_ (i := 22) (N := some 136) (v := ?_) (a' := ?_) #[I,I,I,I,I,I,I,I,I,I,I,I,I,I,I,I,I,I,I,I,I,I,I,O,O,O,O,O] rfl rfl (any_of HT_.out (by kernel_rfl)) (fun _ _ _ h => h) (Or.inl ⟨by rfl, ?_⟩) ?_ ?_
                      rotate_left; intro w'; go_simp; with_reducible rfl; rotate_left; simp only [Act.put, List.setIfInBounds_toArray, List.set_cons_zero, List.set_cons_succ, i64_w, i32_w]; rfl
                      refine pure_ (i := 23) (N := some 137) (v := ?_) (a' := ?_) #[I,I,I,I,I,I,I,I,I,I,I,I,I,I,I,I,I,I,I,I,I,I,I,I,O,O,O,O] rfl rfl (any_of HT_.out (by kernel_rfl)) (fun _ _ _ h => h) (Or.inl ⟨by rfl, ?_⟩) ?_ ?_
                      rotate_left; intro w'; go_simp; with_reducible rfl; rotate_left; simp only [Act.put, List.setIfInBounds_toArray, List.set_cons_zero, List.set_cons_succ, i64_w, i32_w]; rfl
                      refine take_ (i := 24) (N := some 138) (v := ?_) (a' := ?_) #[I,I,I,I,I,I,I,I,I,I,I,I,I,I,I,I,I,I,I,I,I,I,I,I,I,O,O,O] rfl rfl (take_ofW HT_.out HW_.out (by kernel_rfl)) (fun _ _ _ h => h) (Or.inl ⟨by rfl, ?_⟩) hHeld ?_ ?_
                      rotate_left; rintro w' ⟨s0, s1, s2, s3, s4⟩; go_simp; with_reducible rfl; rotate_left; simp only [Act.put, List.setIfInBounds_toArray, List.set_cons_zero, List.set_cons_succ, i64_w, i32_w]; rfl
                      refine pure_ (i := 25) (N := some 139) (v := ?_) (a' := ?_) #[I,I,I,I,I,I,I,I,I,I,I,I,I,I,I,I,I,I,I,I,I,I,I,I,I,I,O,O] rfl rfl (any_of HT_.out (by kernel_rfl)) (fun _ _ _ h => h) (Or.inl ⟨by rfl, ?_⟩) ?_ ?_
                      rotate_left; intro w'; go_simp; with_reducible rfl; rotate_left; simp only [Act.put, List.setIfInBounds_toArray, List.set_cons_zero, List.set_cons_succ, i64_w, i32_w]; rfl
                      refine pure_ (i := 26) (N := some 140) (v := ?_) (a' := ?_) #[I,I,I,I,I,I,I,I,I,I,I,I,I,I,I,I,I,I,I,I,I,I,I,I,I,I,I,O] rfl rfl (any_of HT_.out (by kernel_rfl)) (fun _ _ _ h => h) (Or.inl ⟨by rfl, ?_⟩) ?_ ?_
                      rotate_left; intro w'; go_simp; with_reducible rfl; rotate_left; simp only [Act.put, List.setIfInBounds_toArray, List.set_cons_zero, List.set_cons_succ, i64_w, i32_w]; rfl
                      refine pure_ (i := 27) (N := some 141) (v := ?_) (a' := ?_) #[I,I,I,I,I,I,I,I,I,I,I,I,I,I,I,I,I,I,I,I,I,I,I,I,I,I,I,I] rfl rfl (any_of HT_.out (by kernel_rfl)) (fun _ _ _ h => h) (Or.inl ⟨by rfl, ?_⟩) ?_ ?_
                      rotate_left; intro w'; go_simp; with_reducible rfl; rotate_left; simp only [Act.put, List.setIfInBounds_toArray, List.set_cons_zero, List.set_cons_succ, i64_w, i32_w]; rfl
                      refine done_ (done_of HT_.out (by kernel_rfl)) ?_
                      go_wp2
                      go_ret
                      exact ⟨by rw [HZ.out]; rfl, below_step HB.out hb3⟩
                    · have hle1 : decide ((rd_T83 ks i).f0 ≤ (rd_T83 ks (i - 1)).f0) = false := decide_eq_false hle
                      have HZ := Aside0.mk (loopTrue HV.out p0 p1 HL1.out.2.2 (by rw [HWa.out, hw, hn, decide_eq_false (show ¬ i.toNat = 0 by omega), show ((i.toNat - 1 : Nat) : Int) = i - 1 by omega, decide_eq_true (show  (rd_T83 ks (i - 1)).f0 < (rd_T83 ks i).f0 by omega)]; rfl))
                      clear HV hw hn HWa h00 hle
                      have dr1_ := (hbd.cell (World.block_lt_of_cell? w9 _ r1_)).trans r1_; have dr16_ := (hbd.cell (World.block_lt_of_cell? w9 _ r16_)).trans r16_; have dk0_ := (hbd.cell (World.block_lt_of_cell? w9 _ k0_)).trans k0_; have dk1_ := (hbd.cell (World.block_lt_of_cell? w9 _ k1_)).trans k1_; have de0_ := (hbd.cell (World.block_lt_of_cell? w9 _ e0_)).trans e0_
                      refine start_ (n := 28) (S := (fun w' => w'.cell? ⟨ga, 1, none⟩ = some (.int .i64 o) ∧ w'.cell? ⟨ga, 16, none⟩ = some (.slice (some ad) ks.length c16) ∧ w'.cell? ⟨gK, 0, none⟩ = some (.int .i64 (rd_T83 ks i).f0) ∧ w'.cell? ⟨gK, 1, none⟩ = some (.slice A1 (rd_T83 ks i).f1.length c1) ∧ w'.cell? (ad.add ((i.toNat - 1) * 2)) = some (.int .i64 (rd_T83 ks (i - 1)).f0))) (ds := []) #[O,O,O,O,O,O,O,O,O,O,O,O,O,O,O,O,O,O,O,O,O,O,O,O,O,O,O,O] (by kernel_rfl) rfl rfl ⟨dr1_, dr16_, dk0_, dk1_, de0_⟩ (fun hHeld => ?_); refine with_tabW region18.tab region18.bits (fun HT_ HW_ => ?_)
                      refine pure_ (i := 0) (N := some 114) (v := ?_) (a' := ?_) #[I,O,O,O,O,O,O,O,O,O,O,O,O,O,O,O,O,O,O,O,O,O,O,O,O,O,O,O] rfl rfl (any_of HT_.out (by kernel_rfl)) (fun _ _ _ h => h) (Or.inl ⟨by rfl, ?_⟩) ?_ ?_
                      rotate_left; intro w'; go_simp; with_reducible rfl; rotate_left; simp only [Act.put, List.setIfInBounds_toArray, List.set_cons_zero, List.set_cons_succ, i64_w, i32_w]; rfl
                      refine take_ (i := 1) (N := some 115) (v := ?_) (a' := ?_) #[I,I,O,O,O,O,O,O,O,O,O,O,O,O,O,O,O,O,O,O,O,O,O,O,O,O,O,O] rfl rfl (take_ofW HT_.out HW_.out (by kernel_rfl)) (fun _ _ _ h => h) (Or.inl ⟨by rfl, ?_⟩) hHeld ?_ ?_
                      rotate_left; rintro w' ⟨s0, s1, s2, s3, s4⟩; go_simp; with_reducible rfl; rotate_left; simp only [Act.put, List.setIfInBounds_toArray, List.set_cons_zero, List.set_cons_succ, i64_w, i32_w]; rfl
                      refine one_ (i := 2) (N := some 116) #[I,I,I,O,O,O,O,O,O,O,O,O,O,O,O,O,O,O,O,O,O,O,O,O,O,O,O,O] rfl rfl (one_of HT_.out (by kernel_rfl)) (by decide) (fun K hK => ?_)
                      refine goes_ Try.func18 (by kernel_rfl) rfl #[.int .i64 (rd_T83 ks i).f0, .int .i64 1, .int .i64 60] (by rfl) rfl rfl (by (try simp only [List.map_toArray, List.map_cons, List.map_nil]); first | done | rfl) ?_
                      with_reducible refine (HC.out _ (below_step HB.out hbd)).mono ?_
                      rintro e wn ⟨rfl, hb⟩
                      have hb2 := below_step hbd hb
                      have lr1_ := (hb2.cell (World.block_lt_of_cell? w9 _ r1_)).trans r1_; have lr16_ := (hb2.cell (World.block_lt_of_cell? w9 _ r16_)).trans r16_; have lk0_ := (hb2.cell (World.block_lt_of_cell? w9 _ k0_)).trans k0_; have lk1_ := (hb2.cell (World.block_lt_of_cell? w9 _ k1_)).trans k1_; have le0_ := (hb2.cell (World.block_lt_of_cell? w9 _ e0_)).trans e0_
                      refine ⟨_, rfl, ?_⟩
                      refine hK.out _ _ ⟨lr1_, lr16_, lk0_, lk1_, le0_⟩ (fun hHeld => ?_)
                      clear hK K
                      refine norm_ (a' := ?_) ?_ ?_
                      rotate_left
                      · show Act.put _ (some 116) _ = _
                        simp only [Act.put, List.setIfInBounds_toArray, List.set_cons_zero, List.set_cons_succ, i64_w, i32_w]
                        rfl
                      refine pure_ (i := 3) (N := some 117) (v := ?_) (a' := ?_) #[I,I,I,I,O,O,O,O,O,O,O,O,O,O,O,O,O,O,O,O,O,O,O,O,O,O,O,O] rfl rfl (any_of HT_.out (by kernel_rfl)) (fun _ _ _ h => h) (Or.inl ⟨by rfl, ?_⟩) ?_ ?_
                      rotate_left; intro w'; go_simp; with_reducible rfl; rotate_left; simp only [Act.put, List.setIfInBounds_toArray, List.set_cons_zero, List.set_cons_succ, i64_w, i32_w]; rfl
                      refine pure_ (i := 4) (N := some 118) (v := ?_) (a' := ?_) #[I,I,I,I,I,O,O,O,O,O,O,O,O,O,O,O,O,O,O,O,O,O,O,O,O,O,O,O] rfl rfl (any_of HT_.out (by kernel_rfl)) (fun _ _ _ h => h) (Or.inl ⟨by rfl, ?_⟩) ?_ ?_
                      rotate_left; intro w'; go_simp; with_reducible rfl; rotate_left; simp only [Act.put, List.setIfInBounds_toArray, List.set_cons_zero, List.set_cons_succ, i64_w, i32_w]; rfl
                      refine pure_ (i := 5) (N := some 119) (v := ?_) (a' := ?_) #[I,I,I,I,I,I,O,O,O,O,O,O,O,O,O,O,O,O,O,O,O,O,O,O,O,O,O,O] rfl rfl (any_of HT_.out (by kernel_rfl)) (fun _ _ _ h => h) (Or.inl ⟨by rfl, ?_⟩) ?_ ?_
                      rotate_left; intro w'; go_simp; with_reducible rfl; rotate_left; simp only [Act.put, List.setIfInBounds_toArray, List.set_cons_zero, List.set_cons_succ, i64_w, i32_w]; rfl
                      refine take_ (i := 6) (N := some 120) (v := ?_) (a' := ?_) #[I,I,I,I,I,I,I,O,O,O,O,O,O,O,O,O,O,O,O,O,O,O,O,O,O,O,O,O] rfl rfl (take_ofW HT_.out HW_.out (by kernel_rfl)) (fun _ _ _ h => h) (Or.inl ⟨by rfl, ?_⟩) hHeld ?_ ?_
                      rotate_left; rintro w' ⟨s0, s1, s2, s3, s4⟩; go_simp; with_reducible rfl; rotate_left; simp only [Act.put, List.setIfInBounds_toArray, List.set_cons_zero, List.set_cons_succ, i64_w, i32_w]; rfl
                      refine pure_ (i := 7) (N := some 121) (v := ?_) (a' := ?_) #[I,I,I,I,I,I,I,I,O,O,O,O,O,O,O,O,O,O,O,O,O,O,O,O,O,O,O,O] rfl rfl (any_of HT_.out (by kernel_rfl)) (fun _ _ _ h => h) (Or.inl ⟨by rfl, ?_⟩) ?_ ?_
                      rotate_left; intro w'; go_simp; with_reducible rfl; rotate_left; simp only [Act.put, List.setIfInBounds_toArray, List.set_cons_zero, List.set_cons_succ, i64_w, i32_w]; rfl
                      refine take_ (i := 8) (N := some 122) (v := ?_) (a' := ?_) #[I,I,I,I,I,I,I,I,I,O,O,O,O,O,O,O,O,O,O,O,O,O,O,O,O,O,O,O] rfl rfl (take_ofW HT_.out HW_.out (by kernel_rfl)) (fun _ _ _ h => h) (Or.inl ⟨by rfl, ?_⟩) hHeld ?_ ?_
                      rotate_left; rintro w' ⟨s0, s1, s2, s3, s4⟩; go_simp; with_reducible rfl; rotate_left; simp only [Act.put, List.setIfInBounds_toArray, List.set_cons_zero, List.set_cons_succ, i64_w, i32_w]; rfl
                      refine one_ (i := 9) (N := some 123) #[I,I,I,I,I,I,I,I,I,I,O,O,O,O,O,O,O,O,O,O,O,O,O,O,O,O,O,O] rfl rfl (one_of HT_.out (by kernel_rfl)) (by decide) (fun K hK => ?_)
                      refine goes_ Try.func37 (by kernel_rfl) rfl #[.slice A1 (rd_T83 ks i).f1.length c1, .int .i64 o] (by rfl) rfl rfl (by (try simp only [List.map_toArray, List.map_cons, List.map_nil]); first | done | rfl) ?_
                      with_reducible refine (HP.out _ (below_step HB.out hb2)).mono ?_
                      rintro e wm ⟨rfl, hbm⟩
                      have hb3 := below_step hb2 hbm
                      have mr1_ := (hb3.cell (World.block_lt_of_cell? w9 _ r1_)).trans r1_; have mr16_ := (hb3.cell (World.block_lt_of_cell? w9 _ r16_)).trans r16_; have mk0_ := (hb3.cell (World.block_lt_of_cell? w9 _ k0_)).trans k0_; have mk1_ := (hb3.cell (World.block_lt_of_cell? w9 _ k1_)).trans k1_; have me0_ := (hb3.cell (World.block_lt_of_cell? w9 _ e0_)).trans e0_
                      refine ⟨_, rfl, ?_⟩
                      refine hK.out _ _ ⟨mr1_, mr16_, mk0_, mk1_, me0_⟩ (fun hHeld => ?_)
                      clear hK K
                      refine norm_ (a' := ?_) ?_ ?_
                      rotate_left
                      · show Act.put _ (some 123) _ = _
                        simp only [Act.put, List.setIfInBounds_toArray, List.set_cons_zero, List.set_cons_succ, i64_w, i32_w]
                        rfl
                      refine pure_ (i := 10) (N := some 124) (v := ?_) (a' := ?_) #[I,I,I,I,I,I,I,I,I,I,I,O,O,O,O,O,O,O,O,O,O,O,O,O,O,O,O,O] rfl rfl (any_of HT_.out (by kernel_rfl)) (fun _ _ _ h => h) (Or.inl ⟨by rfl, ?_⟩) ?_ ?_
                      rotate_left; intro w'; go_simp; with_reducible rfl; rotate_left; simp only [Act.put, List.setIfInBounds_toArray, List.set_cons_zero, List.set_cons_succ, i64_w, i32_w]; rfl
                      refine pure_ (i := 11) (N := some 125) (v := ?_) (a' := ?_) #[I,I,I,I,I,I,I,I,I,I,I,I,O,O,O,O,O,O,O,O,O,O,O,O,O,O,O,O] rfl rfl (any_of HT_.out (by kernel_rfl)) (fun _ _ _ h => h) (Or.inl ⟨by rfl, ?_⟩) ?_ ?_
                      rotate_left; intro w'; go_simp; with_reducible rfl; rotate_left; simp only [Act.put, List.setIfInBounds_toArray, List.set_cons_zero, List.set_cons_succ, i64_w, i32_w]; rfl
                      refine pure_ (i := 12) (N := some 126) (v := ?_) (a' := ?_) #[I,I,I,I,I,I,I,I,I,I,I,I,I,O,O,O,O,O,O,O,O,O,O,O,O,O,O,O] rfl rfl (any_of HT_.out (by kernel_rfl)) (fun _ _ _ h => h) (Or.inl ⟨by rfl, ?_⟩) ?_ ?_
                      rotate_left; intro w'; go_simp; with_reducible rfl; rotate_left; simp only [Act.put, List.setIfInBounds_toArray, List.set_cons_zero, List.set_cons_succ, i64_w, i32_w]; rfl
                      refine pure_ (i := 13) (N := some 127) (v := ?_) (a' := ?_) #[I,I,I,I,I,I,I,I,I,I,I,I,I,I,O,O,O,O,O,O,O,O,O,O,O,O,O,O] rfl rfl (any_of HT_.out (by kernel_rfl)) (fun _ _ _ h => h) (Or.inl ⟨by rfl, ?_⟩) ?_ ?_
                      rotate_left; intro w'; go_simp; with_reducible rfl; rotate_left; simp only [Act.put, List.setIfInBounds_toArray, List.set_cons_zero, List.set_cons_succ, i64_w, i32_w]; rfl
                      refine pure_ (i := 14) (N := some 128) (v := ?_) (a' := ?_) #[I,I,I,I,I,I,I,I,I,I,I,I,I,I,I,O,O,O,O,O,O,O,O,O,O,O,O,O] rfl rfl (any_of HT_.out (by kernel_rfl)) (fun _ _ _ h => h) (Or.inl ⟨by rfl, ?_⟩) ?_ ?_
                      rotate_left; intro w'; go_simp; with_reducible rfl; rotate_left; simp only [Act.put, List.setIfInBounds_toArray, List.set_cons_zero, List.set_cons_succ, i64_w, i32_w]; rfl
                      refine pure_ (i := 15) (N := some 129) (v := ?_) (a' := ?_) #[I,I,I,I,I,I,I,I,I,I,I,I,I,I,I,I,O,O,O,O,O,O,O,O,O,O,O,O] rfl rfl (any_of HT_.out (by kernel_rfl)) (fun _ _ _ h => h) (Or.inl ⟨by rfl, ?_⟩) ?_ ?_
                      rotate_left; intro w'; go_simp; with_reducible rfl; rotate_left; simp only [Act.put, List.setIfInBounds_toArray, List.set_cons_zero, List.set_cons_succ, i64_w, i32_w]; rfl
                      refine pure_ (i := 16) (N := some 130) (v := ?_) (a' := ?_) #[I,I,I,I,I,I,I,I,I,I,I,I,I,I,I,I,I,O,O,O,O,O,O,O,O,O,O,O] rfl rfl (any_of HT_.out (by kernel_rfl)) (fun _ _ _ h => h) (Or.inl ⟨by rfl, ?_⟩) ?_ ?_
                      rotate_left; intro w'; go_simp; with_reducible rfl; rotate_left; simp only [Act.put, List.setIfInBounds_toArray, List.set_cons_zero, List.set_cons_succ, i64_w, i32_w]; rfl
                      refine take_ (i := 17) (N := some 131) (v := ?_) (a' := ?_) #[I,I,I,I,I,I,I,I,I,I,I,I,I,I,I,I,I,I,O,O,O,O,O,O,O,O,O,O] rfl rfl (take_ofW HT_.out HW_.out (by kernel_rfl)) (fun _ _ _ h => h) (Or.inl ⟨by rfl, ?_⟩) hHeld ?_ ?_
                      rotate_left; rintro w' ⟨s0, s1, s2, s3, s4⟩; go_simp; with_reducible rfl; rotate_left; simp only [Act.put, List.setIfInBounds_toArray, List.set_cons_zero, List.set_cons_succ, i64_w, i32_w]; rfl
                      refine pure_ (i := 18) (N := some 132) (v := ?_) (a' := ?_) #[I,I,I,I,I,I,I,I,I,I,I,I,I,I,I,I,I,I,I,O,O,O,O,O,O,O,O,O] rfl rfl (any_of HT_.out (by kernel_rfl)) (fun _ _ _ h => h) (Or.inl ⟨by rfl, ?_⟩) ?_ ?_
                      rotate_left; intro w'; go_simp; with_reducible rfl; rotate_left; simp only [Act.put, List.setIfInBounds_toArray, List.set_cons_zero, List.set_cons_succ, i64_w, i32_w]; rfl
                      refine take_ (i := 19) (N := some 133) (v := ?_) (a' := ?_) #[I,I,I,I,I,I,I,I,I,I,I,I,I,I,I,I,I,I,I,I,O,O,O,O,O,O,O,O] rfl rfl (take_ofW HT_.out HW_.out (by kernel_rfl)) (fun _ _ _ h => h) (Or.inl ⟨by rfl, ?_⟩) hHeld ?_ ?_
                      rotate_left; rintro w' ⟨s0, s1, s2, s3, s4⟩; go_simp; with_reducible rfl; rotate_left; simp only [Act.put, List.setIfInBounds_toArray, List.set_cons_zero, List.set_cons_succ, i64_w, i32_w]; rfl
                      refine pure_ (i := 20) (N := some 134) (v := ?_) (a' := ?_) #[I,I,I,I,I,I,I,I,I,I,I,I,I,I,I,I,I,I,I,I,I,O,O,O,O,O,O,O] rfl rfl (any_of HT_.out (by kernel_rfl)) (fun _ _ _ h => h) (Or.inl ⟨by rfl, ?_⟩) ?_ ?_
                      rotate_left; intro w'; go_simp; with_reducible rfl; rotate_left; simp only [Act.put, List.setIfInBounds_toArray, List.set_cons_zero, List.set_cons_succ, i64_w, i32_w]; rfl
                      refine pure_ (i := 21) (N := some 135) (v := ?_) (a' := ?_) #[I,I,I,I,I,I,I,I,I,I,I,I,I,I,I,I,I,I,I,I,I,I,O,O,O,O,O,O] rfl rfl (any_of HT_.out (by kernel_rfl)) (fun _ _ _ h => h) (Or.inl ⟨by rfl, ?_⟩) ?_ ?_
                      rotate_left; intro w'; go_simp; with_reducible rfl; rotate_left; simp only [Act.put, List.setIfInBounds_toArray, List.set_cons_zero, List.set_cons_succ, i64_w, i32_w]; rfl
                      refine pure_ (i := 22) (N := some 136) (v := ?_) (a' := ?_) #[I,I,I,I,I,I,I,I,I,I,I,I,I,I,I,I,I,I,I,I,I,I,I,O,O,O,O,O] rfl rfl (any_of HT_.out (by kernel_rfl)) (fun _ _ _ h => h) (Or.inl ⟨by rfl, ?_⟩) ?_ ?_
                      rotate_left; intro w'; go_simp; with_reducible rfl; rotate_left; simp only [Act.put, List.setIfInBounds_toArray, List.set_cons_zero, List.set_cons_succ, i64_w, i32_w]; rfl
                      refine pure_ (i := 23) (N := some 137) (v := ?_) (a' := ?_) #[I,I,I,I,I,I,I,I,I,I,I,I,I,I,I,I,I,I,I,I,I,I,I,I,O,O,O,O] rfl rfl (any_of HT_.out (by kernel_rfl)) (fun _ _ _ h => h) (Or.inl ⟨by rfl, ?_⟩) ?_ ?_
                      rotate_left; intro w'; go_simp; with_reducible rfl; rotate_left; simp only [Act.put, List.setIfInBounds_toArray, List.set_cons_zero, List.set_cons_succ, i64_w, i32_w]; rfl
                      refine take_ (i := 24) (N := some 138) (v := ?_) (a' := ?_) #[I,I,I,I,I,I,I,I,I,I,I,I,I,I,I,I,I,I,I,I,I,I,I,I,I,O,O,O] rfl rfl (take_ofW HT_.out HW_.out (by kernel_rfl)) (fun _ _ _ h => h) (Or.inl ⟨by rfl, ?_⟩) hHeld ?_ ?_
                      rotate_left; rintro w' ⟨s0, s1, s2, s3, s4⟩; go_simp; with_reducible rfl; rotate_left; simp only [Act.put, List.setIfInBounds_toArray, List.set_cons_zero, List.set_cons_succ, i64_w, i32_w]; rfl
                      refine pure_ (i := 25) (N := some 139) (v := ?_) (a' := ?_) #[I,I,I,I,I,I,I,I,I,I,I,I,I,I,I,I,I,I,I,I,I,I,I,I,I,I,O,O] rfl rfl (any_of HT_.out (by kernel_rfl)) (fun _ _ _ h => h) (Or.inl ⟨by rfl, ?_⟩) ?_ ?_
                      rotate_left; intro w'; go_simp; with_reducible rfl; rotate_left; simp only [Act.put, List.setIfInBounds_toArray, List.set_cons_zero, List.set_cons_succ, i64_w, i32_w]; rfl
                      refine pure_ (i := 26) (N := some 140) (v := ?_) (a' := ?_) #[I,I,I,I,I,I,I,I,I,I,I,I,I,I,I,I,I,I,I,I,I,I,I,I,I,I,I,O] rfl rfl (any_of HT_.out (by kernel_rfl)) (fun _ _ _ h => h) (Or.inl ⟨by rfl, ?_⟩) ?_ ?_
                      rotate_left; intro w'; go_simp; with_reducible rfl; rotate_left; simp only [Act.put, List.setIfInBounds_toArray, List.set_cons_zero, List.set_cons_succ, i64_w, i32_w]; rfl
                      refine pure_ (i := 27) (N := some 141) (v := ?_) (a' := ?_) #[I,I,I,I,I,I,I,I,I,I,I,I,I,I,I,I,I,I,I,I,I,I,I,I,I,I,I,I] rfl rfl (any_of HT_.out (by kernel_rfl)) (fun _ _ _ h => h) (Or.inl ⟨by rfl, ?_⟩) ?_ ?_
                      rotate_left; intro w'; go_simp; with_reducible rfl; rotate_left; simp only [Act.put, List.setIfInBounds_toArray, List.set_cons_zero, List.set_cons_succ, i64_w, i32_w]; rfl
                      refine done_ (done_of HT_.out (by kernel_rfl)) ?_
                      go_wp2
                      go_roundg gk1
                      case measure => omega
                      case rel => exact ⟨wrap64 (i + 1), rfl, HZ, ⟨by have := HI.out; have := HL1.out.2.2; have := HI'.out; rw [wrapIn (by omega) (by omega)]; omega⟩, ⟨below_step HB.out hb3⟩, ⟨blk_below BA.out hb3⟩⟩
            · have hc : decide (i < (ks.length : Int)) = false := decide_eq_false hi
              have HV' := Aside0.mk (HV.out.trans (by rw [show i.toNat = ks.length by have := HI.out; omega, allFrom_end, Bool.true_and]))
              clear HV
              have HV := HV'
              clear HV' hi HI
              have ca := GA.out
              have ca1 : decide (0 < ks.length) = kA := posOf ca
              have ca2 : decide ((0 : Int) < (ks.length : Int)) = kA := posOfI ca
              have cy := GY.out
              have cz := GZ.out
              have cz1 : (n13 == 0) = kz := by rw [← cz]; rfl
              have cz2 : (n13 != 0) = !kz := by rw [← cz]; rfl
              have cz3 : decide (n13 ≠ 0) = !kz := by rw [← cz]; by_cases h : n13 = 0 <;> simp [h]
              have c3 := G3.out
              have cs1 := GS1.out
              have cs2 := GS2.out
              have cs1a : (wrap64 ((ms.length : Int) + (xs.length : Int)) == 0) = ks1 := by rw [← cs1]; rfl
              have cs2a : (n17 == 0) = ks2 := by rw [← cs2]; rfl
              rcases L with _ | _ <;> rcases T with _ | _ <;> rcases b2 with _ | _
              · rcases kz with _ | _
                rotate_left; rcases k3 with _ | _
                rcases ks1 with _ | _
                all_goals
                  clear ca ca1 ca2 cy
                  try simp only [Bool.not_true, Bool.not_false] at cz cz1 cz2 cz3 c3 cs1 cs1a cs2 cs2a
                  obtain ⟨r1_, r2_, r6_, r9_, r10_, r11_, r12_, r13_, r14_, r15_, r16_, r17_⟩ := recFacts BA.out
                  go_wp2_with (first
                    | go_big_skip
                    | ((go_at_call 18; (first | (with_reducible refine (F8.out _ HB.out).mono ?_))); rintro e wn ⟨rfl, hb⟩; have n0_ := Aside0.mk (below_step HB.out hb); have n1_ := Aside0.mk (blk_below BA.out hb); clear HB BA; have HB := n0_; have BA := n1_; clear n0_ n1_; clear hb; clear r1_ r2_ r6_ r9_ r10_ r11_ r12_ r13_ r14_ r15_ r16_ r17_; obtain ⟨r1_, r2_, r6_, r9_, r10_, r11_, r12_, r13_, r14_, r15_, r16_, r17_⟩ := recFacts BA.out))
                  go_ret
                  have hx := HV.out
                  simp only [implTail, Bool.and_true, Bool.true_and, Bool.and_false, Bool.false_and, Bool.or_true, Bool.or_false, Bool.true_or, Bool.false_or, Bool.not_true, Bool.not_false, cond_true, cond_false, Bool.and_self, Bool.or_self] at hx
                  exact ⟨by rw [hx]; rfl, HB.out⟩
              · rcases kz with _ | _
                rotate_left; rcases k3 with _ | _
                all_goals
                  clear ca ca1 ca2 cy cs1 cs2 cs1a cs2a
                  try simp only [Bool.not_true, Bool.not_false] at cz cz1 cz2 cz3 c3
                  obtain ⟨r1_, r2_, r6_, r9_, r10_, r11_, r12_, r13_, r14_, r15_, r16_, r17_⟩ := recFacts BA.out
                  go_wp2_with (first
                    | go_big_skip
                    | ((go_at_call 18; (first | (with_reducible refine (F8.out _ HB.out).mono ?_))); rintro e wn ⟨rfl, hb⟩; have n0_ := Aside0.mk (below_step HB.out hb); have n1_ := Aside0.mk (blk_below BA.out hb); clear HB BA; have HB := n0_; have BA := n1_; clear n0_ n1_; clear hb; clear r1_ r2_ r6_ r9_ r10_ r11_ r12_ r13_ r14_ r15_ r16_ r17_; obtain ⟨r1_, r2_, r6_, r9_, r10_, r11_, r12_, r13_, r14_, r15_, r16_, r17_⟩ := recFacts BA.out))
                  go_ret
                  have hx := HV.out
                  simp only [implTail, Bool.and_true, Bool.true_and, Bool.and_false, Bool.false_and, Bool.or_true, Bool.or_false, Bool.true_or, Bool.false_or, Bool.not_true, Bool.not_false, cond_true, cond_false, Bool.and_self, Bool.or_self] at hx
                  exact ⟨by rw [hx]; rfl, HB.out⟩
              · rcases k8 with _ | _
                rotate_left; rcases kA with _ | _
                all_goals
                  clear cy cz cz1 cz2 cz3 c3 cs1 cs2 cs1a cs2a
                  try simp only [Bool.not_true, Bool.not_false] at ca ca1 ca2
                  obtain ⟨r1_, r2_, r6_, r9_, r10_, r11_, r12_, r13_, r14_, r15_, r16_, r17_⟩ := recFacts BA.out
                  go_wp2_with (first
                    | go_big_skip
                    | ((go_at_call 18; (first | (with_reducible refine (F8.out _ HB.out).mono ?_))); rintro e wn ⟨rfl, hb⟩; have n0_ := Aside0.mk (below_step HB.out hb); have n1_ := Aside0.mk (blk_below BA.out hb); clear HB BA; have HB := n0_; have BA := n1_; clear n0_ n1_; clear hb; clear r1_ r2_ r6_ r9_ r10_ r11_ r12_ r13_ r14_ r15_ r16_ r17_; obtain ⟨r1_, r2_, r6_, r9_, r10_, r11_, r12_, r13_, r14_, r15_, r16_, r17_⟩ := recFacts BA.out))
                  go_ret
                  have hx := HV.out
                  simp only [implTail, Bool.and_true, Bool.true_and, Bool.and_false, Bool.false_and, Bool.or_true, Bool.or_false, Bool.true_or, Bool.false_or, Bool.not_true, Bool.not_false, cond_true, cond_false, Bool.and_self, Bool.or_self] at hx
                  exact ⟨by rw [hx]; rfl, HB.out⟩
              · rcases k8 with _ | _
                rotate_left; rcases kA with _ | _
                all_goals
                  clear cy cz cz1 cz2 cz3 c3 cs1 cs2 cs1a cs2a
                  try simp only [Bool.not_true, Bool.not_false] at ca ca1 ca2
                  obtain ⟨r1_, r2_, r6_, r9_, r10_, r11_, r12_, r13_, r14_, r15_, r16_, r17_⟩ := recFacts BA.out
                  go_wp2_with (first
                    | go_big_skip
                    | ((go_at_call 18; (first | (with_reducible refine (F8.out _ HB.out).mono ?_))); rintro e wn ⟨rfl, hb⟩; have n0_ := Aside0.mk (below_step HB.out hb); have n1_ := Aside0.mk (blk_below BA.out hb); clear HB BA; have HB := n0_; have BA := n1_; clear n0_ n1_; clear hb; clear r1_ r2_ r6_ r9_ r10_ r11_ r12_ r13_ r14_ r15_ r16_ r17_; obtain ⟨r1_, r2_, r6_, r9_, r10_, r11_, r12_, r13_, r14_, r15_, r16_, r17_⟩ := recFacts BA.out))
                  go_ret
                  have hx := HV.out
                  simp only [implTail, Bool.and_true, Bool.true_and, Bool.and_false, Bool.false_and, Bool.or_true, Bool.or_false, Bool.true_or, Bool.false_or, Bool.not_true, Bool.not_false, cond_true, cond_false, Bool.and_self, Bool.or_self] at hx
                  exact ⟨by rw [hx]; rfl, HB.out⟩
              · rcases k8 with _ | _
                rotate_left; rcases kY with _ | _
                all_goals
                  clear ca ca1 ca2 cz cz1 cz2 cz3 c3 cs1 cs2 cs1a cs2a
                  try simp only [Bool.not_true, Bool.not_false] at cy
                  obtain ⟨r1_, r2_, r6_, r9_, r10_, r11_, r12_, r13_, r14_, r15_, r16_, r17_⟩ := recFacts BA.out
                  go_wp2_with (first
                    | go_big_skip
                    | ((go_at_call 18; (first | (with_reducible refine (F8.out _ HB.out).mono ?_))); rintro e wn ⟨rfl, hb⟩; have n0_ := Aside0.mk (below_step HB.out hb); have n1_ := Aside0.mk (blk_below BA.out hb); clear HB BA; have HB := n0_; have BA := n1_; clear n0_ n1_; clear hb; clear r1_ r2_ r6_ r9_ r10_ r11_ r12_ r13_ r14_ r15_ r16_ r17_; obtain ⟨r1_, r2_, r6_, r9_, r10_, r11_, r12_, r13_, r14_, r15_, r16_, r17_⟩ := recFacts BA.out))
                  go_ret
                  have hx := HV.out
                  simp only [implTail, Bool.and_true, Bool.true_and, Bool.and_false, Bool.false_and, Bool.or_true, Bool.or_false, Bool.true_or, Bool.false_or, Bool.not_true, Bool.not_false, cond_true, cond_false, Bool.and_self, Bool.or_self] at hx
                  exact ⟨by rw [hx]; rfl, HB.out⟩
              · rcases k8 with _ | _
                rotate_left; rcases kY with _ | _
                all_goals
                  clear ca ca1 ca2 cz cz1 cz2 cz3 c3 cs1 cs2 cs1a cs2a
                  try simp only [Bool.not_true, Bool.not_false] at cy
                  obtain ⟨r1_, r2_, r6_, r9_, r10_, r11_, r12_, r13_, r14_, r15_, r16_, r17_⟩ := recFacts BA.out
                  go_wp2_with (first
                    | go_big_skip
                    | ((go_at_call 18; (first | (with_reducible refine (F8.out _ HB.out).mono ?_))); rintro e wn ⟨rfl, hb⟩; have n0_ := Aside0.mk (below_step HB.out hb); have n1_ := Aside0.mk (blk_below BA.out hb); clear HB BA; have HB := n0_; have BA := n1_; clear n0_ n1_; clear hb; clear r1_ r2_ r6_ r9_ r10_ r11_ r12_ r13_ r14_ r15_ r16_ r17_; obtain ⟨r1_, r2_, r6_, r9_, r10_, r11_, r12_, r13_, r14_, r15_, r16_, r17_⟩ := recFacts BA.out))
                  go_ret
                  have hx := HV.out
                  simp only [implTail, Bool.and_true, Bool.true_and, Bool.and_false, Bool.false_and, Bool.or_true, Bool.or_false, Bool.true_or, Bool.false_or, Bool.not_true, Bool.not_false, cond_true, cond_false, Bool.and_self, Bool.or_self] at hx
                  exact ⟨by rw [hx]; rfl, HB.out⟩
              · skip
                clear ca ca1 ca2 cy cz cz1 cz2 cz3 c3 cs1 cs2 cs1a cs2a
                obtain ⟨r1_, r2_, r6_, r9_, r10_, r11_, r12_, r13_, r14_, r15_, r16_, r17_⟩ := recFacts BA.out
                go_wp2_with (first
                  | go_big_skip
                  | ((go_at_call 18; (first | (with_reducible refine (F8.out _ HB.out).mono ?_))); rintro e wn ⟨rfl, hb⟩; have n0_ := Aside0.mk (below_step HB.out hb); have n1_ := Aside0.mk (blk_below BA.out hb); clear HB BA; have HB := n0_; have BA := n1_; clear n0_ n1_; clear hb; clear r1_ r2_ r6_ r9_ r10_ r11_ r12_ r13_ r14_ r15_ r16_ r17_; obtain ⟨r1_, r2_, r6_, r9_, r10_, r11_, r12_, r13_, r14_, r15_, r16_, r17_⟩ := recFacts BA.out))
                go_ret
                have hx := HV.out
                simp only [implTail, Bool.and_true, Bool.true_and, Bool.and_false, Bool.false_and, Bool.or_true, Bool.or_false, Bool.true_or, Bool.false_or, Bool.not_true, Bool.not_false, cond_true, cond_false, Bool.and_self, Bool.or_self] at hx
                exact ⟨by rw [hx]; rfl, HB.out⟩
              · skip
                clear ca ca1 ca2 cy cz cz1 cz2 cz3 c3 cs1 cs2 cs1a cs2a
                obtain ⟨r1_, r2_, r6_, r9_, r10_, r11_, r12_, r13_, r14_, r15_, r16_, r17_⟩ := recFacts BA.out
                go_wp2_with (first
                  | go_big_skip
                  | ((go_at_call 18; (first | (with_reducible refine (F8.out _ HB.out).mono ?_))); rintro e wn ⟨rfl, hb⟩; have n0_ := Aside0.mk (below_step HB.out hb); have n1_ := Aside0.mk (blk_below BA.out hb); clear HB BA; have HB := n0_; have BA := n1_; clear n0_ n1_; clear hb; clear r1_ r2_ r6_ r9_ r10_ r11_ r12_ r13_ r14_ r15_ r16_ r17_; obtain ⟨r1_, r2_, r6_, r9_, r10_, r11_, r12_, r13_, r14_, r15_, r16_, r17_⟩ := recFacts BA.out))
                go_ret
                have hx := HV.out
                simp only [implTail, Bool.and_true, Bool.true_and, Bool.and_false, Bool.false_and, Bool.or_true, Bool.or_false, Bool.true_or, Bool.false_or, Bool.not_true, Bool.not_false, cond_true, cond_false, Bool.and_self, Bool.or_self] at hx
                exact ⟨by rw [hx]; rfl, HB.out⟩

end Go.Proofs.Ytjkhlhopfaapmaa.QFnExactRecWorldOk
