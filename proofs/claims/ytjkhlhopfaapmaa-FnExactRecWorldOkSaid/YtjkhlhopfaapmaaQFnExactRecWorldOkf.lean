/- The program's RecWorldOk walked; conditions: its callees' contracts, named in each theorem. -/
import Derived.Test.YtjkhlhopfaapmaaQFnExactRecWorldOke
namespace Go.Proofs.Ytjkhlhopfaapmaa.QFnExactRecWorldOk
open Go.RowKit Go.Proofs.Ytjkhlhopfaapmaa.PFnExactRecWorldOk Go.Proofs.YtjkhlhopfaapmaaW.PrintWords Go.Proofs.YtjkhlhopfaapmaaW.PrintLast Go.Proofs.YtjkhlhopfaapmaaW.PrintMore Go.Proofs.Ytjkhlhopfaapmaa.Pb Go.Proofs.Ytjkhlhopfaapmaa.Op Go.Proofs.Ytjkhlhopfaapmaa.Wk
set_option linter.unusedSimpArgs false
set_option linter.unusedVariables false
def wfix.r19.T : Bool × List (List Nat × List Nat) := (true, [([], []), ([0], [0]), ([1], [1]), ([2], [2]), ([3, 2], [3]), ([4], [4]), ([5, 4], [4, 5]), ([6, 4], [4, 6]), ([7, 4], [4, 7]), ([4, 8], [4, 8]), ([9, 4], [9]), ([10], [10]), ([11, 10], [10, 11]), ([12, 10, 10], [10, 12]), ([13], [13]), ([14, 13], [13, 14]), ([13], [13]), ([16, 13], [13, 16]), ([13], [13]), ([18, 13], [13, 18]), ([17, 19, 13], [13, 17, 19]), ([20, 13], [13, 20]), ([21, 13], [13, 21]), ([15, 22, 13], [13, 15, 22]), ([13, 23, 10], [10, 13, 23]), ([10, 24], [10, 24])])
def wfix.r19.B : List Nat := [0, 1, 3, 7, 15, 31, 63, 127, 255, 511, 1023, 2047, 4095, 8191, 16383, 32767, 16383, 81919, 16383, 278527, 999423, 2047999, 4145151, 8388607, 16777215, 33554431]
theorem wfix.r19.tab : rtab .any (opsOf Try.f7 19) = wfix.r19.T := by kernel_rfl
theorem wfix.r19.bits : waitsOk wfix.r19.T.2 wfix.r19.B = true := by kernel_rfl
set_option maxHeartbeats 16000000 in
set_option maxRecDepth 100000 in
theorem implWok (xs : List RecI) (ms : List S52) (fs : List S54) (A B C : Option Addr) (c d e : Nat) (w : World) (h1 : Kd.C kI w A xs.length xs) (h2 : Kd.C k52 w B ms.length ms) (h3 : Kd.C k54 w C fs.length fs) (vq : RecI → Bool) (q : S52 → Bool)
    (C1 : QC w 18 #[.int .i64 (xs.length : Int), .int .i64 1, .int .i64 5] true) (hl2 : ms.length ≤ 600) (CV : VC w 19 xs vq) (CM : MC w 20 (xs.length : Int) q) (CK : ∀ (x : Int) (W : World), Below w.heap.size w W → Calls Try.prog 18 #[.int .i64 x, .int .i64 1, .int .i64 60] W fun e w' => e = .returned (.bool (decide (1 ≤ x ∧ x ≤ 60))) ∧ Below W.heap.size W w')
    (V : Bool) (hV : V = (allFrom (recAt vq xs) xs.length 0 && (allFrom (flyAt q ms) ms.length 0 && (allFrom (fixAt fs) fs.length 0 && true)))) :
    Calls Try.prog 7 #[.agg #[.slice A xs.length c, .slice B ms.length d, .slice C fs.length e]] w fun e w' => e = .returned (.bool V) ∧ Below w.heap.size w w' := by
  have hu1 := Try.underlying33
  have hu2 := Try.underlying49
  have hu3 := Try.underlying52
  have hu4 := Try.underlying54
  have hl6 : decide ((600 : Int) < (ms.length : Int)) = false := decide_eq_false (by omega)
  have HL1 := Aside0.mk (And.intro h1.2.1 (And.intro h2.2.1 h3.2.1))
  have HR := Aside0.mk h1
  have HM := Aside0.mk h2
  have HF := Aside0.mk h3
  have D1 := Aside0.mk C1
  have DV := Aside0.mk CV
  have DM := Aside0.mk CM
  have DK := Aside0.mk CK
  have HV := Aside0.mk hV
  clear h1 h2 h3 C1 hl2 CV CM CK hV
  have HB := Aside0.mk (Below.refl w.heap.size w)
  go_enter Try.func7, Try.ntmps7
  go_wp2_with (first
    | go_big_skip
    | ((with_reducible refine gate_dst (N := 1) rfl ?_); refine box_event ?hg (N := 1) ?hd (cs := #[.slice A xs.length c, .slice B ms.length d, .slice C fs.length e]) (t := 33) ?hr ?_; (case hd => rfl); (case hg => rfl); (case hr => first | (go_simp; done) | (go_simp; rfl)); intro ga _hg w1 hbox hb; have n0_ := Aside0.mk (below_step HB.out hb); clear HB; have HB := n0_; clear n0_; have BA := Aside0.mk hbox; clear hb hbox _hg; have ra := blk_cell BA.out)
    | ((go_at_call 18; (first | (with_reducible refine (D1.out _ HB.out).mono ?_))); rintro e_ wn ⟨rfl, hb⟩; have n0_ := Aside0.mk (below_step HB.out hb); have n1_ := Aside0.mk (blk_below BA.out hb); clear HB BA; have HB := n0_; have BA := n1_; clear n0_ n1_ ra; clear hb; have ra := blk_cell BA.out))
  go_loopg [25] xs.length (fun kr v3 w' => ∃ (i : Int), v3 = .int .i64 i ∧ Aside0 (V = (allFrom (recAt vq xs) xs.length i.toNat && (allFrom (flyAt q ms) ms.length 0 && (allFrom (fixAt fs) fs.length 0 && true)))) ∧ Aside0 (0 ≤ i ∧ i + kr = xs.length) ∧ Aside0 (Below w.heap.size w w') ∧ Aside0 (w'.heap[ga]? = some (.cells #[.slice A xs.length c, .slice B ms.length d, .slice C fs.length e] 33 (0, 0))))
  case atStart => exact ⟨0, rfl, HV, ⟨⟨Int.le_refl _, by omega⟩⟩, HB, BA⟩
  case round =>
    clear HB BA HV
    try clear ra
    obtain ⟨i, rfl, HV, HI, HB, BA⟩ := hrel
    have ra := blk_cell BA.out
    by_cases hi : i < (xs.length : Int)
    · rcases gk with _ | gk1
      · exact absurd HI.out.2 (by omega)
      have hc : decide (i < (xs.length : Int)) = true := decide_eq_true hi
      have hc0 : decide (0 ≤ i) = true := decide_eq_true HI.out.1
      have HI' := Aside0.mk hi
      have p0 := HI.out.1
      have p1 := hi
      clear hi
      have HWa := Aside0.mk (show recAt vq xs i.toNat = (vq (rdRecI xs i) && (decide ((rdRecI xs i).f0 = i + 1) && decide ((rdRecI xs i).f1 = (xs.length : Int)))) by rw [recAt_eq, Int.toNat_of_nonneg p0])
      have hin : (rdRecI xs i) ∈ xs := by
        have hlt : i.toNat < xs.length := by omega
        unfold rdRecI
        rw [List.getD_eq_getElem?_getD, List.getElem?_eq_getElem hlt]
        exact List.getElem_mem hlt
      obtain ⟨ad, A5, A8, A9, A10, A14, A15, A16, c5, c8, c9, c10, c14, c15, c16, e_, hr, hs, hx⟩ := atRecI HR.out i p0 p1
      subst e_
      have HC := Aside0.mk (DV.out _ hin _ _ _ _ _ _ _ _ _ _ _ _ _ _ hx)
      replace hr := range_below hr HB.out
      have HRg := Aside0.mk hr
      have HSp := Aside0.mk hs
      have hw1 : wrap64 (i + 1) = i + 1 := by have := HL1.out; exact wrapIn (by omega) (by omega)
      clear hin hx hr hs
      cases hq : vq (rdRecI xs i)
      · have HZ := Aside0.mk (loopFalse HV.out p0 p1 HL1.out.1 (by rw [HWa.out, hq]; rfl))
        simp only [hq] at HC
        clear HV hq HWa
        go_wp2_with (first
          | go_big_skip
          | ((with_reducible refine gate_load (t := 49) (p := 28) rfl ?_); refine load_range (ty := 49) (x := .tmp 28) (q := ad.add (i.toNat * 18)) (cs := [.int .i64 (rdRecI xs i).f0, .int .i64 (rdRecI xs i).f1, .bool (rdRecI xs i).f2, .int .i64 (rdRecI xs i).f3, .int .i64 (rdRecI xs i).f4, .slice A5 (rdRecI xs i).f5.length c5, .int .i64 (rdRecI xs i).f6, .int .i64 (rdRecI xs i).f7, .slice A8 (rdRecI xs i).f8.length c8, .slice A9 (rdRecI xs i).f9.length c9, .slice A10 (rdRecI xs i).f10.length c10, .bool (rdRecI xs i).f11, .bool (rdRecI xs i).f12, .int .i64 (rdRecI xs i).f13, .slice A14 (rdRecI xs i).f14.length c14, .slice A15 (rdRecI xs i).f15.length c15, .slice A16 (rdRecI xs i).f16.length c16, .int .i64 (rdRecI xs i).f17]) rfl rfl rfl HSp.out HRg.out Try.underlying49 rfl (by kernel_rfl) ?_)
          | ((with_reducible refine gate_dst (N := 5) rfl ?_); refine box_event ?hg (N := 5) ?hd (cs := #[.int .i64 0, .int .i64 0, .bool false, .int .i64 0, .int .i64 0, .slice none 0 0, .int .i64 0, .int .i64 0, .slice none 0 0, .slice none 0 0, .slice none 0 0, .bool false, .bool false, .int .i64 0, .slice none 0 0, .slice none 0 0, .slice none 0 0, .int .i64 0]) (t := 49) ?hr ?_; (case hd => rfl); (case hg => rfl); (case hr => first | (go_simp; done) | (go_simp; rfl)); intro gK hgK wK hbox hb; have GEK := Aside0.mk (Nat.le_trans (below_size HB.out) (Nat.le_of_eq hgK.symm)); have neAK := Aside0.mk (Nat.ne_of_lt (Nat.lt_of_lt_of_le (blk_lt BA.out) (Nat.le_of_eq hgK.symm))); have n0_ := Aside0.mk (below_step HB.out hb); have n1_ := Aside0.mk (blk_below BA.out hb); clear HB BA; have HB := n0_; have BA := n1_; clear n0_ n1_ ra; have ra := blk_cell BA.out; have BK := Aside0.mk hbox; clear hb hbox hgK)
          | ((with_reducible refine gate_store (t := 49) (p := 5) (v := .tmp 29) rfl ?_); refine store_row (ty := 49) (t := 49) (g := gK) (cells := #[.int .i64 (rdRecI xs i).f0, .int .i64 (rdRecI xs i).f1, .bool (rdRecI xs i).f2, .int .i64 (rdRecI xs i).f3, .int .i64 (rdRecI xs i).f4, .slice A5 (rdRecI xs i).f5.length c5, .int .i64 (rdRecI xs i).f6, .int .i64 (rdRecI xs i).f7, .slice A8 (rdRecI xs i).f8.length c8, .slice A9 (rdRecI xs i).f9.length c9, .slice A10 (rdRecI xs i).f10.length c10, .bool (rdRecI xs i).f11, .bool (rdRecI xs i).f12, .int .i64 (rdRecI xs i).f13, .slice A14 (rdRecI xs i).f14.length c14, .slice A15 (rdRecI xs i).f15.length c15, .slice A16 (rdRecI xs i).f16.length c16, .int .i64 (rdRecI xs i).f17]) (old := #[.int .i64 0, .int .i64 0, .bool false, .int .i64 0, .int .i64 0, .slice none 0 0, .int .i64 0, .int .i64 0, .slice none 0 0, .slice none 0 0, .slice none 0 0, .bool false, .bool false, .int .i64 0, .slice none 0 0, .slice none 0 0, .slice none 0 0, .int .i64 0]) rfl rfl rfl rfl rfl BK.out (by kernel_rfl) rfl rfl ?_; intro w9 hbox hg; have n0_ := Aside0.mk (below_grow HB.out hg GEK.out); have n1_ := Aside0.mk (blk_grown BA.out hg (fun e_ => neAK.out (Option.some.inj e_))); clear HB BA BK ra; have HB := n0_; have BA := n1_; clear n0_ n1_; have BK := Aside0.mk hbox; clear hbox hg; have ra := blk_cell BA.out; have k0_ : World.cell? w9 ⟨gK, 0, none⟩ = some (.int .i64 (rdRecI xs i).f0) := blk_cell BK.out 0; have k1_ : World.cell? w9 ⟨gK, 1, none⟩ = some (.int .i64 (rdRecI xs i).f1) := blk_cell BK.out 1)
          | (((with_reducible refine gate_load (t := 49) (p := 5) rfl ?_); refine load_row (ty := 49) (t := 49) (g := gK) (cs := #[.int .i64 (rdRecI xs i).f0, .int .i64 (rdRecI xs i).f1, .bool (rdRecI xs i).f2, .int .i64 (rdRecI xs i).f3, .int .i64 (rdRecI xs i).f4, .slice A5 (rdRecI xs i).f5.length c5, .int .i64 (rdRecI xs i).f6, .int .i64 (rdRecI xs i).f7, .slice A8 (rdRecI xs i).f8.length c8, .slice A9 (rdRecI xs i).f9.length c9, .slice A10 (rdRecI xs i).f10.length c10, .bool (rdRecI xs i).f11, .bool (rdRecI xs i).f12, .int .i64 (rdRecI xs i).f13, .slice A14 (rdRecI xs i).f14.length c14, .slice A15 (rdRecI xs i).f15.length c15, .slice A16 (rdRecI xs i).f16.length c16, .int .i64 (rdRecI xs i).f17]) rfl rfl rfl BK.out Try.underlying49 rfl (by kernel_rfl) ?_))
          | (go_at_call 19; (with_reducible refine (HC.out _ HB.out).mono ?_); rintro e_ wn ⟨rfl, hb⟩; have n0_ := Aside0.mk (below_step HB.out hb); have n1_ := Aside0.mk (blk_below BA.out hb); have n2_ := Aside0.mk (blk_below BK.out hb); clear HB BA BK; have HB := n0_; have BA := n1_; have BK := n2_; clear n0_ n1_ n2_ ra k0_ k1_; clear hb; have ra := blk_cell BA.out; have k0_ : World.cell? wn ⟨gK, 0, none⟩ = some (.int .i64 (rdRecI xs i).f0) := blk_cell BK.out 0; have k1_ : World.cell? wn ⟨gK, 1, none⟩ = some (.int .i64 (rdRecI xs i).f1) := blk_cell BK.out 1))
        go_ret
        exact ⟨by rw [HZ.out]; rfl, HB.out⟩
      simp only [hq] at HC
      by_cases hn : (rdRecI xs i).f0 = i + 1
      rotate_left
      · have HZ := Aside0.mk (loopFalse HV.out p0 p1 HL1.out.1 (by rw [HWa.out, hq, decide_eq_false hn]; rfl))
        have na : decide ((rdRecI xs i).f0 = (i + 1)) = false := decide_eq_false hn
        have nb : ((rdRecI xs i).f0 == (i + 1)) = false := by simpa using hn
        have nc : ((rdRecI xs i).f0 != (i + 1)) = true := by simpa using hn
        have nd : decide ((rdRecI xs i).f0 ≠ (i + 1)) = true := by simpa using hn
        clear HV hq HWa hn
        go_wp2_with (first
          | go_big_skip
          | ((with_reducible refine gate_load (t := 49) (p := 28) rfl ?_); refine load_range (ty := 49) (x := .tmp 28) (q := ad.add (i.toNat * 18)) (cs := [.int .i64 (rdRecI xs i).f0, .int .i64 (rdRecI xs i).f1, .bool (rdRecI xs i).f2, .int .i64 (rdRecI xs i).f3, .int .i64 (rdRecI xs i).f4, .slice A5 (rdRecI xs i).f5.length c5, .int .i64 (rdRecI xs i).f6, .int .i64 (rdRecI xs i).f7, .slice A8 (rdRecI xs i).f8.length c8, .slice A9 (rdRecI xs i).f9.length c9, .slice A10 (rdRecI xs i).f10.length c10, .bool (rdRecI xs i).f11, .bool (rdRecI xs i).f12, .int .i64 (rdRecI xs i).f13, .slice A14 (rdRecI xs i).f14.length c14, .slice A15 (rdRecI xs i).f15.length c15, .slice A16 (rdRecI xs i).f16.length c16, .int .i64 (rdRecI xs i).f17]) rfl rfl rfl HSp.out HRg.out Try.underlying49 rfl (by kernel_rfl) ?_)
          | ((with_reducible refine gate_dst (N := 5) rfl ?_); refine box_event ?hg (N := 5) ?hd (cs := #[.int .i64 0, .int .i64 0, .bool false, .int .i64 0, .int .i64 0, .slice none 0 0, .int .i64 0, .int .i64 0, .slice none 0 0, .slice none 0 0, .slice none 0 0, .bool false, .bool false, .int .i64 0, .slice none 0 0, .slice none 0 0, .slice none 0 0, .int .i64 0]) (t := 49) ?hr ?_; (case hd => rfl); (case hg => rfl); (case hr => first | (go_simp; done) | (go_simp; rfl)); intro gK hgK wK hbox hb; have GEK := Aside0.mk (Nat.le_trans (below_size HB.out) (Nat.le_of_eq hgK.symm)); have neAK := Aside0.mk (Nat.ne_of_lt (Nat.lt_of_lt_of_le (blk_lt BA.out) (Nat.le_of_eq hgK.symm))); have n0_ := Aside0.mk (below_step HB.out hb); have n1_ := Aside0.mk (blk_below BA.out hb); clear HB BA; have HB := n0_; have BA := n1_; clear n0_ n1_ ra; have ra := blk_cell BA.out; have BK := Aside0.mk hbox; clear hb hbox hgK)
          | ((with_reducible refine gate_store (t := 49) (p := 5) (v := .tmp 29) rfl ?_); refine store_row (ty := 49) (t := 49) (g := gK) (cells := #[.int .i64 (rdRecI xs i).f0, .int .i64 (rdRecI xs i).f1, .bool (rdRecI xs i).f2, .int .i64 (rdRecI xs i).f3, .int .i64 (rdRecI xs i).f4, .slice A5 (rdRecI xs i).f5.length c5, .int .i64 (rdRecI xs i).f6, .int .i64 (rdRecI xs i).f7, .slice A8 (rdRecI xs i).f8.length c8, .slice A9 (rdRecI xs i).f9.length c9, .slice A10 (rdRecI xs i).f10.length c10, .bool (rdRecI xs i).f11, .bool (rdRecI xs i).f12, .int .i64 (rdRecI xs i).f13, .slice A14 (rdRecI xs i).f14.length c14, .slice A15 (rdRecI xs i).f15.length c15, .slice A16 (rdRecI xs i).f16.length c16, .int .i64 (rdRecI xs i).f17]) (old := #[.int .i64 0, .int .i64 0, .bool false, .int .i64 0, .int .i64 0, .slice none 0 0, .int .i64 0, .int .i64 0, .slice none 0 0, .slice none 0 0, .slice none 0 0, .bool false, .bool false, .int .i64 0, .slice none 0 0, .slice none 0 0, .slice none 0 0, .int .i64 0]) rfl rfl rfl rfl rfl BK.out (by kernel_rfl) rfl rfl ?_; intro w9 hbox hg; have n0_ := Aside0.mk (below_grow HB.out hg GEK.out); have n1_ := Aside0.mk (blk_grown BA.out hg (fun e_ => neAK.out (Option.some.inj e_))); clear HB BA BK ra; have HB := n0_; have BA := n1_; clear n0_ n1_; have BK := Aside0.mk hbox; clear hbox hg; have ra := blk_cell BA.out; have k0_ : World.cell? w9 ⟨gK, 0, none⟩ = some (.int .i64 (rdRecI xs i).f0) := blk_cell BK.out 0; have k1_ : World.cell? w9 ⟨gK, 1, none⟩ = some (.int .i64 (rdRecI xs i).f1) := blk_cell BK.out 1)
          | (((with_reducible refine gate_load (t := 49) (p := 5) rfl ?_); refine load_row (ty := 49) (t := 49) (g := gK) (cs := #[.int .i64 (rdRecI xs i).f0, .int .i64 (rdRecI xs i).f1, .bool (rdRecI xs i).f2, .int .i64 (rdRecI xs i).f3, .int .i64 (rdRecI xs i).f4, .slice A5 (rdRecI xs i).f5.length c5, .int .i64 (rdRecI xs i).f6, .int .i64 (rdRecI xs i).f7, .slice A8 (rdRecI xs i).f8.length c8, .slice A9 (rdRecI xs i).f9.length c9, .slice A10 (rdRecI xs i).f10.length c10, .bool (rdRecI xs i).f11, .bool (rdRecI xs i).f12, .int .i64 (rdRecI xs i).f13, .slice A14 (rdRecI xs i).f14.length c14, .slice A15 (rdRecI xs i).f15.length c15, .slice A16 (rdRecI xs i).f16.length c16, .int .i64 (rdRecI xs i).f17]) rfl rfl rfl BK.out Try.underlying49 rfl (by kernel_rfl) ?_))
          | (go_at_call 19; (with_reducible refine (HC.out _ HB.out).mono ?_); rintro e_ wn ⟨rfl, hb⟩; have n0_ := Aside0.mk (below_step HB.out hb); have n1_ := Aside0.mk (blk_below BA.out hb); have n2_ := Aside0.mk (blk_below BK.out hb); clear HB BA BK; have HB := n0_; have BA := n1_; have BK := n2_; clear n0_ n1_ n2_ ra k0_ k1_; clear hb; have ra := blk_cell BA.out; have k0_ : World.cell? wn ⟨gK, 0, none⟩ = some (.int .i64 (rdRecI xs i).f0) := blk_cell BK.out 0; have k1_ : World.cell? wn ⟨gK, 1, none⟩ = some (.int .i64 (rdRecI xs i).f1) := blk_cell BK.out 1))
        go_ret
        exact ⟨by rw [HZ.out]; rfl, HB.out⟩
      have na : decide ((rdRecI xs i).f0 = (i + 1)) = true := decide_eq_true hn
      have nb : ((rdRecI xs i).f0 == (i + 1)) = true := by simpa using hn
      have nc : ((rdRecI xs i).f0 != (i + 1)) = false := by simpa using hn
      have nd : decide ((rdRecI xs i).f0 ≠ (i + 1)) = false := by simpa using hn
      by_cases ho : (rdRecI xs i).f1 = (xs.length : Int)
      · have HZ := Aside0.mk (loopTrue HV.out p0 p1 HL1.out.1 (by rw [HWa.out, hq, na, decide_eq_true ho]; rfl))
        have oa : decide ((rdRecI xs i).f1 = (xs.length : Int)) = true := decide_eq_true ho
        have ob : ((rdRecI xs i).f1 == (xs.length : Int)) = true := by simpa using ho
        have oc : ((rdRecI xs i).f1 != (xs.length : Int)) = false := by simpa using ho
        have od : decide ((rdRecI xs i).f1 ≠ (xs.length : Int)) = false := by simpa using ho
        clear HV hq HWa hn ho
        go_wp2_with (first
          | go_big_skip
          | ((with_reducible refine gate_load (t := 49) (p := 28) rfl ?_); refine load_range (ty := 49) (x := .tmp 28) (q := ad.add (i.toNat * 18)) (cs := [.int .i64 (rdRecI xs i).f0, .int .i64 (rdRecI xs i).f1, .bool (rdRecI xs i).f2, .int .i64 (rdRecI xs i).f3, .int .i64 (rdRecI xs i).f4, .slice A5 (rdRecI xs i).f5.length c5, .int .i64 (rdRecI xs i).f6, .int .i64 (rdRecI xs i).f7, .slice A8 (rdRecI xs i).f8.length c8, .slice A9 (rdRecI xs i).f9.length c9, .slice A10 (rdRecI xs i).f10.length c10, .bool (rdRecI xs i).f11, .bool (rdRecI xs i).f12, .int .i64 (rdRecI xs i).f13, .slice A14 (rdRecI xs i).f14.length c14, .slice A15 (rdRecI xs i).f15.length c15, .slice A16 (rdRecI xs i).f16.length c16, .int .i64 (rdRecI xs i).f17]) rfl rfl rfl HSp.out HRg.out Try.underlying49 rfl (by kernel_rfl) ?_)
          | ((with_reducible refine gate_dst (N := 5) rfl ?_); refine box_event ?hg (N := 5) ?hd (cs := #[.int .i64 0, .int .i64 0, .bool false, .int .i64 0, .int .i64 0, .slice none 0 0, .int .i64 0, .int .i64 0, .slice none 0 0, .slice none 0 0, .slice none 0 0, .bool false, .bool false, .int .i64 0, .slice none 0 0, .slice none 0 0, .slice none 0 0, .int .i64 0]) (t := 49) ?hr ?_; (case hd => rfl); (case hg => rfl); (case hr => first | (go_simp; done) | (go_simp; rfl)); intro gK hgK wK hbox hb; have GEK := Aside0.mk (Nat.le_trans (below_size HB.out) (Nat.le_of_eq hgK.symm)); have neAK := Aside0.mk (Nat.ne_of_lt (Nat.lt_of_lt_of_le (blk_lt BA.out) (Nat.le_of_eq hgK.symm))); have n0_ := Aside0.mk (below_step HB.out hb); have n1_ := Aside0.mk (blk_below BA.out hb); clear HB BA; have HB := n0_; have BA := n1_; clear n0_ n1_ ra; have ra := blk_cell BA.out; have BK := Aside0.mk hbox; clear hb hbox hgK)
          | ((with_reducible refine gate_store (t := 49) (p := 5) (v := .tmp 29) rfl ?_); refine store_row (ty := 49) (t := 49) (g := gK) (cells := #[.int .i64 (rdRecI xs i).f0, .int .i64 (rdRecI xs i).f1, .bool (rdRecI xs i).f2, .int .i64 (rdRecI xs i).f3, .int .i64 (rdRecI xs i).f4, .slice A5 (rdRecI xs i).f5.length c5, .int .i64 (rdRecI xs i).f6, .int .i64 (rdRecI xs i).f7, .slice A8 (rdRecI xs i).f8.length c8, .slice A9 (rdRecI xs i).f9.length c9, .slice A10 (rdRecI xs i).f10.length c10, .bool (rdRecI xs i).f11, .bool (rdRecI xs i).f12, .int .i64 (rdRecI xs i).f13, .slice A14 (rdRecI xs i).f14.length c14, .slice A15 (rdRecI xs i).f15.length c15, .slice A16 (rdRecI xs i).f16.length c16, .int .i64 (rdRecI xs i).f17]) (old := #[.int .i64 0, .int .i64 0, .bool false, .int .i64 0, .int .i64 0, .slice none 0 0, .int .i64 0, .int .i64 0, .slice none 0 0, .slice none 0 0, .slice none 0 0, .bool false, .bool false, .int .i64 0, .slice none 0 0, .slice none 0 0, .slice none 0 0, .int .i64 0]) rfl rfl rfl rfl rfl BK.out (by kernel_rfl) rfl rfl ?_; intro w9 hbox hg; have n0_ := Aside0.mk (below_grow HB.out hg GEK.out); have n1_ := Aside0.mk (blk_grown BA.out hg (fun e_ => neAK.out (Option.some.inj e_))); clear HB BA BK ra; have HB := n0_; have BA := n1_; clear n0_ n1_; have BK := Aside0.mk hbox; clear hbox hg; have ra := blk_cell BA.out; have k0_ : World.cell? w9 ⟨gK, 0, none⟩ = some (.int .i64 (rdRecI xs i).f0) := blk_cell BK.out 0; have k1_ : World.cell? w9 ⟨gK, 1, none⟩ = some (.int .i64 (rdRecI xs i).f1) := blk_cell BK.out 1)
          | (((with_reducible refine gate_load (t := 49) (p := 5) rfl ?_); refine load_row (ty := 49) (t := 49) (g := gK) (cs := #[.int .i64 (rdRecI xs i).f0, .int .i64 (rdRecI xs i).f1, .bool (rdRecI xs i).f2, .int .i64 (rdRecI xs i).f3, .int .i64 (rdRecI xs i).f4, .slice A5 (rdRecI xs i).f5.length c5, .int .i64 (rdRecI xs i).f6, .int .i64 (rdRecI xs i).f7, .slice A8 (rdRecI xs i).f8.length c8, .slice A9 (rdRecI xs i).f9.length c9, .slice A10 (rdRecI xs i).f10.length c10, .bool (rdRecI xs i).f11, .bool (rdRecI xs i).f12, .int .i64 (rdRecI xs i).f13, .slice A14 (rdRecI xs i).f14.length c14, .slice A15 (rdRecI xs i).f15.length c15, .slice A16 (rdRecI xs i).f16.length c16, .int .i64 (rdRecI xs i).f17]) rfl rfl rfl BK.out Try.underlying49 rfl (by kernel_rfl) ?_))
          | (go_at_call 19; (with_reducible refine (HC.out _ HB.out).mono ?_); rintro e_ wn ⟨rfl, hb⟩; have n0_ := Aside0.mk (below_step HB.out hb); have n1_ := Aside0.mk (blk_below BA.out hb); have n2_ := Aside0.mk (blk_below BK.out hb); clear HB BA BK; have HB := n0_; have BA := n1_; have BK := n2_; clear n0_ n1_ n2_ ra k0_ k1_; clear hb; have ra := blk_cell BA.out; have k0_ : World.cell? wn ⟨gK, 0, none⟩ = some (.int .i64 (rdRecI xs i).f0) := blk_cell BK.out 0; have k1_ : World.cell? wn ⟨gK, 1, none⟩ = some (.int .i64 (rdRecI xs i).f1) := blk_cell BK.out 1))
        go_roundg gk1
        case measure => omega
        case rel => first | exact ⟨wrap64 (i + 1), rfl, HZ, ⟨by have := HI.out; have := HL1.out; have := HI'.out; rw [wrapIn (by omega) (by omega)]; omega⟩, HB, BA⟩ | exact ⟨i + 1, rfl, by have h_ := HZ; rw [wrapIn (by have := HI.out; omega) (by have := HI.out; have := HL1.out; have := HI'.out; omega)] at h_; exact h_, ⟨by have := HI.out; have := HI'.out; omega⟩, HB, BA⟩
      · have HZ := Aside0.mk (loopFalse HV.out p0 p1 HL1.out.1 (by rw [HWa.out, hq, na, decide_eq_false ho]; rfl))
        have oa : decide ((rdRecI xs i).f1 = (xs.length : Int)) = false := decide_eq_false ho
        have ob : ((rdRecI xs i).f1 == (xs.length : Int)) = false := by simpa using ho
        have oc : ((rdRecI xs i).f1 != (xs.length : Int)) = true := by simpa using ho
        have od : decide ((rdRecI xs i).f1 ≠ (xs.length : Int)) = true := by simpa using ho
        clear HV hq HWa hn ho
        go_wp2_with (first
          | go_big_skip
          | ((with_reducible refine gate_load (t := 49) (p := 28) rfl ?_); refine load_range (ty := 49) (x := .tmp 28) (q := ad.add (i.toNat * 18)) (cs := [.int .i64 (rdRecI xs i).f0, .int .i64 (rdRecI xs i).f1, .bool (rdRecI xs i).f2, .int .i64 (rdRecI xs i).f3, .int .i64 (rdRecI xs i).f4, .slice A5 (rdRecI xs i).f5.length c5, .int .i64 (rdRecI xs i).f6, .int .i64 (rdRecI xs i).f7, .slice A8 (rdRecI xs i).f8.length c8, .slice A9 (rdRecI xs i).f9.length c9, .slice A10 (rdRecI xs i).f10.length c10, .bool (rdRecI xs i).f11, .bool (rdRecI xs i).f12, .int .i64 (rdRecI xs i).f13, .slice A14 (rdRecI xs i).f14.length c14, .slice A15 (rdRecI xs i).f15.length c15, .slice A16 (rdRecI xs i).f16.length c16, .int .i64 (rdRecI xs i).f17]) rfl rfl rfl HSp.out HRg.out Try.underlying49 rfl (by kernel_rfl) ?_)
          | ((with_reducible refine gate_dst (N := 5) rfl ?_); refine box_event ?hg (N := 5) ?hd (cs := #[.int .i64 0, .int .i64 0, .bool false, .int .i64 0, .int .i64 0, .slice none 0 0, .int .i64 0, .int .i64 0, .slice none 0 0, .slice none 0 0, .slice none 0 0, .bool false, .bool false, .int .i64 0, .slice none 0 0, .slice none 0 0, .slice none 0 0, .int .i64 0]) (t := 49) ?hr ?_; (case hd => rfl); (case hg => rfl); (case hr => first | (go_simp; done) | (go_simp; rfl)); intro gK hgK wK hbox hb; have GEK := Aside0.mk (Nat.le_trans (below_size HB.out) (Nat.le_of_eq hgK.symm)); have neAK := Aside0.mk (Nat.ne_of_lt (Nat.lt_of_lt_of_le (blk_lt BA.out) (Nat.le_of_eq hgK.symm))); have n0_ := Aside0.mk (below_step HB.out hb); have n1_ := Aside0.mk (blk_below BA.out hb); clear HB BA; have HB := n0_; have BA := n1_; clear n0_ n1_ ra; have ra := blk_cell BA.out; have BK := Aside0.mk hbox; clear hb hbox hgK)
          | ((with_reducible refine gate_store (t := 49) (p := 5) (v := .tmp 29) rfl ?_); refine store_row (ty := 49) (t := 49) (g := gK) (cells := #[.int .i64 (rdRecI xs i).f0, .int .i64 (rdRecI xs i).f1, .bool (rdRecI xs i).f2, .int .i64 (rdRecI xs i).f3, .int .i64 (rdRecI xs i).f4, .slice A5 (rdRecI xs i).f5.length c5, .int .i64 (rdRecI xs i).f6, .int .i64 (rdRecI xs i).f7, .slice A8 (rdRecI xs i).f8.length c8, .slice A9 (rdRecI xs i).f9.length c9, .slice A10 (rdRecI xs i).f10.length c10, .bool (rdRecI xs i).f11, .bool (rdRecI xs i).f12, .int .i64 (rdRecI xs i).f13, .slice A14 (rdRecI xs i).f14.length c14, .slice A15 (rdRecI xs i).f15.length c15, .slice A16 (rdRecI xs i).f16.length c16, .int .i64 (rdRecI xs i).f17]) (old := #[.int .i64 0, .int .i64 0, .bool false, .int .i64 0, .int .i64 0, .slice none 0 0, .int .i64 0, .int .i64 0, .slice none 0 0, .slice none 0 0, .slice none 0 0, .bool false, .bool false, .int .i64 0, .slice none 0 0, .slice none 0 0, .slice none 0 0, .int .i64 0]) rfl rfl rfl rfl rfl BK.out (by kernel_rfl) rfl rfl ?_; intro w9 hbox hg; have n0_ := Aside0.mk (below_grow HB.out hg GEK.out); have n1_ := Aside0.mk (blk_grown BA.out hg (fun e_ => neAK.out (Option.some.inj e_))); clear HB BA BK ra; have HB := n0_; have BA := n1_; clear n0_ n1_; have BK := Aside0.mk hbox; clear hbox hg; have ra := blk_cell BA.out; have k0_ : World.cell? w9 ⟨gK, 0, none⟩ = some (.int .i64 (rdRecI xs i).f0) := blk_cell BK.out 0; have k1_ : World.cell? w9 ⟨gK, 1, none⟩ = some (.int .i64 (rdRecI xs i).f1) := blk_cell BK.out 1)
          | (((with_reducible refine gate_load (t := 49) (p := 5) rfl ?_); refine load_row (ty := 49) (t := 49) (g := gK) (cs := #[.int .i64 (rdRecI xs i).f0, .int .i64 (rdRecI xs i).f1, .bool (rdRecI xs i).f2, .int .i64 (rdRecI xs i).f3, .int .i64 (rdRecI xs i).f4, .slice A5 (rdRecI xs i).f5.length c5, .int .i64 (rdRecI xs i).f6, .int .i64 (rdRecI xs i).f7, .slice A8 (rdRecI xs i).f8.length c8, .slice A9 (rdRecI xs i).f9.length c9, .slice A10 (rdRecI xs i).f10.length c10, .bool (rdRecI xs i).f11, .bool (rdRecI xs i).f12, .int .i64 (rdRecI xs i).f13, .slice A14 (rdRecI xs i).f14.length c14, .slice A15 (rdRecI xs i).f15.length c15, .slice A16 (rdRecI xs i).f16.length c16, .int .i64 (rdRecI xs i).f17]) rfl rfl rfl BK.out Try.underlying49 rfl (by kernel_rfl) ?_))
          | (go_at_call 19; (with_reducible refine (HC.out _ HB.out).mono ?_); rintro e_ wn ⟨rfl, hb⟩; have n0_ := Aside0.mk (below_step HB.out hb); have n1_ := Aside0.mk (blk_below BA.out hb); have n2_ := Aside0.mk (blk_below BK.out hb); clear HB BA BK; have HB := n0_; have BA := n1_; have BK := n2_; clear n0_ n1_ n2_ ra k0_ k1_; clear hb; have ra := blk_cell BA.out; have k0_ : World.cell? wn ⟨gK, 0, none⟩ = some (.int .i64 (rdRecI xs i).f0) := blk_cell BK.out 0; have k1_ : World.cell? wn ⟨gK, 1, none⟩ = some (.int .i64 (rdRecI xs i).f1) := blk_cell BK.out 1))
        go_ret
        exact ⟨by rw [HZ.out]; rfl, HB.out⟩
    · have hc : decide (i < (xs.length : Int)) = false := decide_eq_false hi
      have HV' := Aside0.mk (HV.out.trans (by rw [show i.toNat = xs.length by have := HI.out; omega, allFrom_end, Bool.true_and]))
      clear HV
      have HV := HV'
      clear HV' hi HI
      go_wp2
      go_loopg [50] ms.length (fun kr v3 w' => ∃ (i : Int), v3 = .int .i64 i ∧ Aside0 (V = (allFrom (flyAt q ms) ms.length i.toNat && (allFrom (fixAt fs) fs.length 0 && true))) ∧ Aside0 (0 ≤ i ∧ i + kr = ms.length) ∧ Aside0 (Below w.heap.size w w') ∧ Aside0 (w'.heap[ga]? = some (.cells #[.slice A xs.length c, .slice B ms.length d, .slice C fs.length e] 33 (0, 0))))
      case atStart => exact ⟨0, rfl, HV, ⟨⟨Int.le_refl _, by omega⟩⟩, HB, BA⟩
      case round =>
        clear HB BA HV
        try clear ra
        obtain ⟨i, rfl, HV, HI, HB, BA⟩ := hrel
        have ra := blk_cell BA.out
        by_cases hi : i < (ms.length : Int)
        · rcases gk with _ | gk1
          · exact absurd HI.out.2 (by omega)
          have hc : decide (i < (ms.length : Int)) = true := decide_eq_true hi
          have hc0 : decide (0 ≤ i) = true := decide_eq_true HI.out.1
          have HI' := Aside0.mk hi
          have p0 := HI.out.1
          have p1 := hi
          clear hi
          obtain ⟨ad, A7, c7, e_, h0, h1, h2, h3, h4, h5, h6, h7, hl7, hi7⟩ := at_T52 HM.out i p0 p1
          subst e_
          replace h0 := (HB.out.cell (World.block_lt_of_cell? w _ h0)).trans h0
          replace h1 := (HB.out.cell (World.block_lt_of_cell? w _ h1)).trans h1
          replace h2 := (HB.out.cell (World.block_lt_of_cell? w _ h2)).trans h2
          replace h3 := (HB.out.cell (World.block_lt_of_cell? w _ h3)).trans h3
          replace h4 := (HB.out.cell (World.block_lt_of_cell? w _ h4)).trans h4
          replace h5 := (HB.out.cell (World.block_lt_of_cell? w _ h5)).trans h5
          replace h6 := (HB.out.cell (World.block_lt_of_cell? w _ h6)).trans h6
          replace h7 := (HB.out.cell (World.block_lt_of_cell? w _ h7)).trans h7
          have HC := Aside0.mk (fun (W : World) (hb : Below w.heap.size w W) => DM.out (rd_T52 ms i) A7 c7 W hb (Kd.C_below hi7 hb) hl7)
          clear hl7 hi7
          cases hq : q (rd_T52 ms i)
          · have HZ := Aside0.mk (loopFalse HV.out p0 p1 HL1.out.2.1 (by show q (rd_T52 ms ((i.toNat : Nat) : Int)) = false; rw [Int.toNat_of_nonneg p0, hq]))
            simp only [hq] at HC
            clear HV hq
            go_wp2_with (first
              | ((with_reducible refine gate_dst (N := 7) rfl ?_); refine box_event ?hg (N := 7) ?hd (cs := #[.int .i64 0, .int .i64 0, .int .i64 0, .int .i64 0, .int .i64 0, .int .i64 0, .string ⟨#[]⟩, .slice none 0 0]) (t := 52) ?hr ?_; (case hd => rfl); (case hg => rfl); (case hr => first | (go_simp; done) | (go_simp; rfl)); intro gK hgK wK hbox hb; have GEK := Aside0.mk (Nat.le_trans (below_size HB.out) (Nat.le_of_eq hgK.symm)); have neAK := Aside0.mk (Nat.ne_of_lt (Nat.lt_of_lt_of_le (blk_lt BA.out) (Nat.le_of_eq hgK.symm))); have n0_ := Aside0.mk (below_step HB.out hb); have n1_ := Aside0.mk (blk_below BA.out hb); clear HB BA; have HB := n0_; have BA := n1_; clear n0_ n1_ ra; have ra := blk_cell BA.out; have BK := Aside0.mk hbox; clear hb hbox hgK)
              | ((with_reducible refine gate_store (t := 52) (p := 7) (v := .tmp 53) rfl ?_); refine store_row (ty := 52) (t := 52) (g := gK) (cells := #[.int .i64 (rd_T52 ms i).f0, .int .i64 (rd_T52 ms i).f1, .int .i64 (rd_T52 ms i).f2, .int .i64 (rd_T52 ms i).f3, .int .i64 (rd_T52 ms i).f4, .int .i64 (rd_T52 ms i).f5, .string (rd_T52 ms i).f6, .slice A7 (rd_T52 ms i).f7.length c7]) (old := #[.int .i64 0, .int .i64 0, .int .i64 0, .int .i64 0, .int .i64 0, .int .i64 0, .string ⟨#[]⟩, .slice none 0 0]) rfl rfl rfl rfl rfl BK.out (by kernel_rfl) rfl rfl ?_; intro w9 hbox hg; have n0_ := Aside0.mk (below_grow HB.out hg GEK.out); have n1_ := Aside0.mk (blk_grown BA.out hg (fun e_ => neAK.out (Option.some.inj e_))); clear HB BA BK ra; have HB := n0_; have BA := n1_; clear n0_ n1_; have BK := Aside0.mk hbox; clear hbox hg; have ra := blk_cell BA.out)
              | (((with_reducible refine gate_load (t := 52) (p := 7) rfl ?_); refine load_row (ty := 52) (t := 52) (g := gK) (cs := #[.int .i64 (rd_T52 ms i).f0, .int .i64 (rd_T52 ms i).f1, .int .i64 (rd_T52 ms i).f2, .int .i64 (rd_T52 ms i).f3, .int .i64 (rd_T52 ms i).f4, .int .i64 (rd_T52 ms i).f5, .string (rd_T52 ms i).f6, .slice A7 (rd_T52 ms i).f7.length c7]) rfl rfl rfl BK.out Try.underlying52 rfl (by kernel_rfl) ?_))
              | (go_at_call 20; (with_reducible refine (HC.out _ HB.out).mono ?_); rintro e_ wn ⟨rfl, hb⟩; have n0_ := Aside0.mk (below_step HB.out hb); have n1_ := Aside0.mk (blk_below BA.out hb); clear HB BA; have HB := n0_; have BA := n1_; clear n0_ n1_ ra; clear hb; have ra := blk_cell BA.out))
            go_ret
            exact ⟨by rw [HZ.out]; rfl, HB.out⟩
          · have HZ := Aside0.mk (loopTrue HV.out p0 p1 HL1.out.2.1 (by show q (rd_T52 ms ((i.toNat : Nat) : Int)) = true; rw [Int.toNat_of_nonneg p0, hq]))
            simp only [hq] at HC
            clear HV hq
            go_wp2_with (first
              | ((with_reducible refine gate_dst (N := 7) rfl ?_); refine box_event ?hg (N := 7) ?hd (cs := #[.int .i64 0, .int .i64 0, .int .i64 0, .int .i64 0, .int .i64 0, .int .i64 0, .string ⟨#[]⟩, .slice none 0 0]) (t := 52) ?hr ?_; (case hd => rfl); (case hg => rfl); (case hr => first | (go_simp; done) | (go_simp; rfl)); intro gK hgK wK hbox hb; have GEK := Aside0.mk (Nat.le_trans (below_size HB.out) (Nat.le_of_eq hgK.symm)); have neAK := Aside0.mk (Nat.ne_of_lt (Nat.lt_of_lt_of_le (blk_lt BA.out) (Nat.le_of_eq hgK.symm))); have n0_ := Aside0.mk (below_step HB.out hb); have n1_ := Aside0.mk (blk_below BA.out hb); clear HB BA; have HB := n0_; have BA := n1_; clear n0_ n1_ ra; have ra := blk_cell BA.out; have BK := Aside0.mk hbox; clear hb hbox hgK)
              | ((with_reducible refine gate_store (t := 52) (p := 7) (v := .tmp 53) rfl ?_); refine store_row (ty := 52) (t := 52) (g := gK) (cells := #[.int .i64 (rd_T52 ms i).f0, .int .i64 (rd_T52 ms i).f1, .int .i64 (rd_T52 ms i).f2, .int .i64 (rd_T52 ms i).f3, .int .i64 (rd_T52 ms i).f4, .int .i64 (rd_T52 ms i).f5, .string (rd_T52 ms i).f6, .slice A7 (rd_T52 ms i).f7.length c7]) (old := #[.int .i64 0, .int .i64 0, .int .i64 0, .int .i64 0, .int .i64 0, .int .i64 0, .string ⟨#[]⟩, .slice none 0 0]) rfl rfl rfl rfl rfl BK.out (by kernel_rfl) rfl rfl ?_; intro w9 hbox hg; have n0_ := Aside0.mk (below_grow HB.out hg GEK.out); have n1_ := Aside0.mk (blk_grown BA.out hg (fun e_ => neAK.out (Option.some.inj e_))); clear HB BA BK ra; have HB := n0_; have BA := n1_; clear n0_ n1_; have BK := Aside0.mk hbox; clear hbox hg; have ra := blk_cell BA.out)
              | (((with_reducible refine gate_load (t := 52) (p := 7) rfl ?_); refine load_row (ty := 52) (t := 52) (g := gK) (cs := #[.int .i64 (rd_T52 ms i).f0, .int .i64 (rd_T52 ms i).f1, .int .i64 (rd_T52 ms i).f2, .int .i64 (rd_T52 ms i).f3, .int .i64 (rd_T52 ms i).f4, .int .i64 (rd_T52 ms i).f5, .string (rd_T52 ms i).f6, .slice A7 (rd_T52 ms i).f7.length c7]) rfl rfl rfl BK.out Try.underlying52 rfl (by kernel_rfl) ?_))
              | (go_at_call 20; (with_reducible refine (HC.out _ HB.out).mono ?_); rintro e_ wn ⟨rfl, hb⟩; have n0_ := Aside0.mk (below_step HB.out hb); have n1_ := Aside0.mk (blk_below BA.out hb); clear HB BA; have HB := n0_; have BA := n1_; clear n0_ n1_ ra; clear hb; have ra := blk_cell BA.out))
            go_roundg gk1
            case measure => omega
            case rel => first | exact ⟨wrap64 (i + 1), rfl, HZ, ⟨by have := HI.out; have := HL1.out; have := HI'.out; rw [wrapIn (by omega) (by omega)]; omega⟩, HB, BA⟩ | exact ⟨i + 1, rfl, by have h_ := HZ; rw [wrapIn (by have := HI.out; omega) (by have := HI.out; have := HL1.out; have := HI'.out; omega)] at h_; exact h_, ⟨by have := HI.out; have := HI'.out; omega⟩, HB, BA⟩
        · have hc : decide (i < (ms.length : Int)) = false := decide_eq_false hi
          have HV' := Aside0.mk (HV.out.trans (by rw [show i.toNat = ms.length by have := HI.out; omega, allFrom_end, Bool.true_and]))
          clear HV
          have HV := HV'
          clear HV' hi HI
          go_wp2
          go_loopg [62] fs.length (fun kr v3 w' => ∃ (i : Int), v3 = .int .i64 i ∧ Aside0 (V = (allFrom (fixAt fs) fs.length i.toNat && true)) ∧ Aside0 (0 ≤ i ∧ i + kr = fs.length) ∧ Aside0 (Below w.heap.size w w') ∧ Aside0 (w'.heap[ga]? = some (.cells #[.slice A xs.length c, .slice B ms.length d, .slice C fs.length e] 33 (0, 0))))
          case atStart => exact ⟨0, rfl, HV, ⟨⟨Int.le_refl _, by omega⟩⟩, HB, BA⟩
          case round =>
            clear HB BA HV
            try clear ra
            obtain ⟨i, rfl, HV, HI, HB, BA⟩ := hrel
            have ra := blk_cell BA.out
            by_cases hi : i < (fs.length : Int)
            · rcases gk with _ | gk1
              · exact absurd HI.out.2 (by omega)
              have hc : decide (i < (fs.length : Int)) = true := decide_eq_true hi
              have hc0 : decide (0 ≤ i) = true := decide_eq_true HI.out.1
              have HI' := Aside0.mk hi
              have p0 := HI.out.1
              have p1 := hi
              clear hi
              have HWa := Aside0.mk (show fixAt fs i.toNat = (decide (1 ≤ (rd_T54 fs i).f0 ∧ (rd_T54 fs i).f0 ≤ 60) && (decide (((rd_T54 fs i).f1.size : Int) ≤ 100) && (decide (i.toNat = 0) || decide ((rd_T54 fs ((i.toNat - 1 : Nat) : Int)).f0 < (rd_T54 fs i).f0)))) by rw [fixAt_eq, Int.toNat_of_nonneg p0])
              obtain ⟨ad, e_, h0_, h1_⟩ := at_T54 HF.out i p0 p1
              subst e_
              replace h0_ := (HB.out.cell (World.block_lt_of_cell? w _ h0_)).trans h0_
              replace h1_ := (HB.out.cell (World.block_lt_of_cell? w _ h1_)).trans h1_
              have HC := Aside0.mk (fun (W : World) (hb : Below w.heap.size w W) => DK.out (rd_T54 fs i).f0 W hb)
              go_upto_region 19 with (first
                | ((with_reducible refine gate_dst (N := 9) rfl ?_); refine box_event ?hg (N := 9) ?hd (cs := #[.int .i64 0, .string ⟨#[]⟩]) (t := 54) ?hr ?_; (case hd => rfl); (case hg => rfl); (case hr => first | (go_simp; done) | (go_simp; rfl)); intro gK hgK wK hbox hb; have GEK := Aside0.mk (Nat.le_trans (below_size HB.out) (Nat.le_of_eq hgK.symm)); have neAK := Aside0.mk (Nat.ne_of_lt (Nat.lt_of_lt_of_le (blk_lt BA.out) (Nat.le_of_eq hgK.symm))); have n0_ := Aside0.mk (below_step HB.out hb); have n1_ := Aside0.mk (blk_below BA.out hb); clear HB BA; have HB := n0_; have BA := n1_; clear n0_ n1_ ra; have ra := blk_cell BA.out; have BK := Aside0.mk hbox; clear hb hbox hgK)
                | ((with_reducible refine gate_store (t := 54) (p := 9) (v := .tmp 66) rfl ?_); refine store_row (ty := 54) (t := 54) (g := gK) (cells := #[.int .i64 (rd_T54 fs i).f0, .string (rd_T54 fs i).f1]) (old := #[.int .i64 0, .string ⟨#[]⟩]) rfl rfl rfl rfl rfl BK.out (by kernel_rfl) rfl rfl ?_; intro w9 hbox hg; have n0_ := Aside0.mk (below_grow HB.out hg GEK.out); have n1_ := Aside0.mk (blk_grown BA.out hg (fun e_ => neAK.out (Option.some.inj e_))); clear HB BA BK ra; have HB := n0_; have BA := n1_; clear n0_ n1_; have BK := Aside0.mk hbox; clear hbox hg; have ra := blk_cell BA.out))
              clear h0_ h1_
              have r2_ : World.cell? w9 ⟨ga, 2, none⟩ = some (.slice (some ad) fs.length e) := blk_cell BA.out 2
              have k0_ : World.cell? w9 ⟨gK, 0, none⟩ = some (.int .i64 (rd_T54 fs i).f0) := blk_cell BK.out 0
              have k1_ : World.cell? w9 ⟨gK, 1, none⟩ = some (.string (rd_T54 fs i).f1) := blk_cell BK.out 1
              clear ra
              have hbd : Below w9.heap.size w9 w9.drew := below_drew1 (Below.refl _ w9)
              cases hw : decide (1 ≤ (rd_T54 fs i).f0 ∧ (rd_T54 fs i).f0 ≤ 60)
              · have HZ := Aside0.mk (loopFalse HV.out p0 p1 HL1.out.2.2 (by rw [HWa.out, hw]; rfl))
                simp only [hw] at HC
                clear HV hw HWa
                have dr2_ := (hbd.cell (World.block_lt_of_cell? w9 _ r2_)).trans r2_; have dk0_ := (hbd.cell (World.block_lt_of_cell? w9 _ k0_)).trans k0_; have dk1_ := (hbd.cell (World.block_lt_of_cell? w9 _ k1_)).trans k1_
                refine start_ (n := 26) (S := (fun w' => w'.cell? ⟨ga, 2, none⟩ = some (.slice (some ad) fs.length e) ∧ w'.cell? ⟨gK, 0, none⟩ = some (.int .i64 (rd_T54 fs i).f0) ∧ w'.cell? ⟨gK, 1, none⟩ = some (.string (rd_T54 fs i).f1))) (ds := []) #[O,O,O,O,O,O,O,O,O,O,O,O,O,O,O,O,O,O,O,O,O,O,O,O,O,O] (by kernel_rfl) rfl rfl ⟨dr2_, dk0_, dk1_⟩ (fun hHeld => ?_); refine with_tabW wfix.r19.tab wfix.r19.bits (fun HT_ HW_ => ?_)
                refine pure_ (i := 0) (N := some 67) (v := ?_) (a' := ?_) #[I,O,O,O,O,O,O,O,O,O,O,O,O,O,O,O,O,O,O,O,O,O,O,O,O,O] rfl rfl (any_of HT_.out (by kernel_rfl)) (fun _ _ _ h => h) (Or.inl ⟨by rfl, ?_⟩) ?_ ?_
                rotate_left; intro w'; go_simp; with_reducible rfl; rotate_left; simp only [Act.put, List.setIfInBounds_toArray, List.set_cons_zero, List.set_cons_succ, i64_w, i32_w]; rfl
                refine take_ (i := 1) (N := some 68) (v := ?_) (a' := ?_) #[I,I,O,O,O,O,O,O,O,O,O,O,O,O,O,O,O,O,O,O,O,O,O,O,O,O] rfl rfl (take_ofW HT_.out HW_.out (by kernel_rfl)) (fun _ _ _ h => h) (Or.inl ⟨by rfl, ?_⟩) hHeld ?_ ?_
                rotate_left; rintro w' ⟨s0, s1, s2⟩; go_simp; with_reducible rfl; rotate_left; simp only [Act.put, List.setIfInBounds_toArray, List.set_cons_zero, List.set_cons_succ, i64_w, i32_w]; rfl
                refine one_ (i := 2) (N := some 69) #[I,I,I,O,O,O,O,O,O,O,O,O,O,O,O,O,O,O,O,O,O,O,O,O,O,O] rfl rfl (one_of HT_.out (by kernel_rfl)) (by decide) (fun K hK => ?_)
                refine goes_ Try.func18 (by kernel_rfl) rfl #[.int .i64 (rd_T54 fs i).f0, .int .i64 1, .int .i64 60] (by rfl) rfl rfl (by (try simp only [List.map_toArray, List.map_cons, List.map_nil]); first | done | rfl) ?_
                with_reducible refine (HC.out _ (below_step HB.out hbd)).mono ?_
                rintro e_ wn ⟨rfl, hb⟩
                have hb2 := below_step hbd hb
                have lr2_ := (hb2.cell (World.block_lt_of_cell? w9 _ r2_)).trans r2_; have lk0_ := (hb2.cell (World.block_lt_of_cell? w9 _ k0_)).trans k0_; have lk1_ := (hb2.cell (World.block_lt_of_cell? w9 _ k1_)).trans k1_
                refine ⟨_, rfl, ?_⟩
                refine hK.out _ _ ⟨lr2_, lk0_, lk1_⟩ (fun hHeld => ?_)
                clear hK K
                refine norm_ (a' := ?_) ?_ ?_
                rotate_left
                · show Act.put _ (some 69) _ = _
                  simp only [Act.put, List.setIfInBounds_toArray, List.set_cons_zero, List.set_cons_succ, i64_w, i32_w]
                  rfl
                refine pure_ (i := 3) (N := some 70) (v := ?_) (a' := ?_) #[I,I,I,I,O,O,O,O,O,O,O,O,O,O,O,O,O,O,O,O,O,O,O,O,O,O] rfl rfl (any_of HT_.out (by kernel_rfl)) (fun _ _ _ h => h) (Or.inl ⟨by rfl, ?_⟩) ?_ ?_
                rotate_left; intro w'; go_simp; with_reducible rfl; rotate_left; simp only [Act.put, List.setIfInBounds_toArray, List.set_cons_zero, List.set_cons_succ, i64_w, i32_w]; rfl
                refine pure_ (i := 4) (N := some 71) (v := ?_) (a' := ?_) #[I,I,I,I,I,O,O,O,O,O,O,O,O,O,O,O,O,O,O,O,O,O,O,O,O,O] rfl rfl (any_of HT_.out (by kernel_rfl)) (fun _ _ _ h => h) (Or.inl ⟨by rfl, ?_⟩) ?_ ?_
                rotate_left; intro w'; go_simp; with_reducible rfl; rotate_left; simp only [Act.put, List.setIfInBounds_toArray, List.set_cons_zero, List.set_cons_succ, i64_w, i32_w]; rfl
                refine pure_ (i := 5) (N := some 72) (v := undef) (a' := ?_) #[I,I,I,I,I,I,O,O,O,O,O,O,O,O,O,O,O,O,O,O,O,O,O,O,O,O] rfl rfl (any_of HT_.out (by kernel_rfl)) (fun _ _ _ h => h) (Or.inr ⟨by rfl, rfl⟩) ?_ ?_
                rotate_left; simp only [Act.put, List.setIfInBounds_toArray, List.set_cons_zero, List.set_cons_succ, i64_w, i32_w]; rfl
                refine pure_ (i := 6) (N := some 73) (v := undef) (a' := ?_) #[I,I,I,I,I,I,I,O,O,O,O,O,O,O,O,O,O,O,O,O,O,O,O,O,O,O] rfl rfl (any_of HT_.out (by kernel_rfl)) (fun _ _ _ h => h) (Or.inr ⟨by rfl, rfl⟩) ?_ ?_
                rotate_left; simp only [Act.put, List.setIfInBounds_toArray, List.set_cons_zero, List.set_cons_succ, i64_w, i32_w]; rfl
                refine pure_ (i := 7) (N := some 74) (v := undef) (a' := ?_) #[I,I,I,I,I,I,I,I,O,O,O,O,O,O,O,O,O,O,O,O,O,O,O,O,O,O] rfl rfl (any_of HT_.out (by kernel_rfl)) (fun _ _ _ h => h) (Or.inr ⟨by rfl, rfl⟩) ?_ ?_
                rotate_left; simp only [Act.put, List.setIfInBounds_toArray, List.set_cons_zero, List.set_cons_succ, i64_w, i32_w]; rfl
                refine pure_ (i := 8) (N := some 75) (v := undef) (a' := ?_) #[I,I,I,I,I,I,I,I,I,O,O,O,O,O,O,O,O,O,O,O,O,O,O,O,O,O] rfl rfl (any_of HT_.out (by kernel_rfl)) (fun _ _ _ h => h) (Or.inr ⟨by rfl, rfl⟩) ?_ ?_
                rotate_left; simp only [Act.put, List.setIfInBounds_toArray, List.set_cons_zero, List.set_cons_succ, i64_w, i32_w]; rfl
                refine pure_ (i := 9) (N := some 76) (v := ?_) (a' := ?_) #[I,I,I,I,I,I,I,I,I,I,O,O,O,O,O,O,O,O,O,O,O,O,O,O,O,O] rfl rfl (any_of HT_.out (by kernel_rfl)) (fun _ _ _ h => h) (Or.inl ⟨by rfl, ?_⟩) ?_ ?_
                rotate_left; intro w'; go_simp; with_reducible rfl; rotate_left; simp only [Act.put, List.setIfInBounds_toArray, List.set_cons_zero, List.set_cons_succ, i64_w, i32_w]; rfl
                refine pure_ (i := 10) (N := some 77) (v := ?_) (a' := ?_) #[I,I,I,I,I,I,I,I,I,I,I,O,O,O,O,O,O,O,O,O,O,O,O,O,O,O] rfl rfl (any_of HT_.out (by kernel_rfl)) (fun _ _ _ h => h) (Or.inl ⟨by rfl, ?_⟩) ?_ ?_
                rotate_left; intro w'; go_simp; with_reducible rfl; rotate_left; simp only [Act.put, List.setIfInBounds_toArray, List.set_cons_zero, List.set_cons_succ, i64_w, i32_w]; rfl
                refine pure_ (i := 11) (N := some 78) (v := undef) (a' := ?_) #[I,I,I,I,I,I,I,I,I,I,I,I,O,O,O,O,O,O,O,O,O,O,O,O,O,O] rfl rfl (any_of HT_.out (by kernel_rfl)) (fun _ _ _ h => h) (Or.inr ⟨by rfl, rfl⟩) ?_ ?_
                rotate_left; simp only [Act.put, List.setIfInBounds_toArray, List.set_cons_zero, List.set_cons_succ, i64_w, i32_w]; rfl
                refine pure_ (i := 12) (N := some 79) (v := undef) (a' := ?_) #[I,I,I,I,I,I,I,I,I,I,I,I,I,O,O,O,O,O,O,O,O,O,O,O,O,O] rfl rfl (any_of HT_.out (by kernel_rfl)) (fun _ _ _ h => h) (Or.inr ⟨by rfl, rfl⟩) ?_ ?_
                rotate_left; simp only [Act.put, List.setIfInBounds_toArray, List.set_cons_zero, List.set_cons_succ, i64_w, i32_w]; rfl
                refine pure_ (i := 13) (N := some 80) (v := undef) (a' := ?_) #[I,I,I,I,I,I,I,I,I,I,I,I,I,I,O,O,O,O,O,O,O,O,O,O,O,O] rfl rfl (any_of HT_.out (by kernel_rfl)) (fun _ _ _ h => h) (Or.inr ⟨by rfl, rfl⟩) ?_ ?_
                rotate_left; simp only [Act.put, List.setIfInBounds_toArray, List.set_cons_zero, List.set_cons_succ, i64_w, i32_w]; rfl
                refine pure_ (i := 14) (N := some 81) (v := undef) (a' := ?_) #[I,I,I,I,I,I,I,I,I,I,I,I,I,I,I,O,O,O,O,O,O,O,O,O,O,O] rfl rfl (any_of HT_.out (by kernel_rfl)) (fun _ _ _ h => h) (Or.inr ⟨by rfl, rfl⟩) ?_ ?_
                rotate_left; simp only [Act.put, List.setIfInBounds_toArray, List.set_cons_zero, List.set_cons_succ, i64_w, i32_w]; rfl
                refine pure_ (i := 15) (N := some 82) (v := undef) (a' := ?_) #[I,I,I,I,I,I,I,I,I,I,I,I,I,I,I,I,O,O,O,O,O,O,O,O,O,O] rfl rfl (any_of HT_.out (by kernel_rfl)) (fun _ _ _ h => h) (Or.inr ⟨by rfl, rfl⟩) ?_ ?_
                rotate_left; simp only [Act.put, List.setIfInBounds_toArray, List.set_cons_zero, List.set_cons_succ, i64_w, i32_w]; rfl
                refine pure_ (i := 16) (N := some 83) (v := undef) (a' := ?_) #[I,I,I,I,I,I,I,I,I,I,I,I,I,I,I,I,I,O,O,O,O,O,O,O,O,O] rfl rfl (any_of HT_.out (by kernel_rfl)) (fun _ _ _ h => h) (Or.inr ⟨by rfl, rfl⟩) ?_ ?_
                rotate_left; simp only [Act.put, List.setIfInBounds_toArray, List.set_cons_zero, List.set_cons_succ, i64_w, i32_w]; rfl
                refine pure_ (i := 17) (N := some 84) (v := undef) (a' := ?_) #[I,I,I,I,I,I,I,I,I,I,I,I,I,I,I,I,I,I,O,O,O,O,O,O,O,O] rfl rfl (any_of HT_.out (by kernel_rfl)) (fun _ _ _ h => h) (Or.inr ⟨by rfl, rfl⟩) ?_ ?_
                rotate_left; simp only [Act.put, List.setIfInBounds_toArray, List.set_cons_zero, List.set_cons_succ, i64_w, i32_w]; rfl
                refine pure_ (i := 18) (N := some 85) (v := undef) (a' := ?_) #[I,I,I,I,I,I,I,I,I,I,I,I,I,I,I,I,I,I,I,O,O,O,O,O,O,O] rfl rfl (any_of HT_.out (by kernel_rfl)) (fun _ _ _ h => h) (Or.inr ⟨by rfl, rfl⟩) ?_ ?_
                rotate_left; simp only [Act.put, List.setIfInBounds_toArray, List.set_cons_zero, List.set_cons_succ, i64_w, i32_w]; rfl
                refine pure_ (i := 19) (N := some 86) (v := undef) (a' := ?_) #[I,I,I,I,I,I,I,I,I,I,I,I,I,I,I,I,I,I,I,I,O,O,O,O,O,O] rfl rfl (any_of HT_.out (by kernel_rfl)) (fun _ _ _ h => h) (Or.inr ⟨by rfl, rfl⟩) ?_ ?_
                rotate_left; simp only [Act.put, List.setIfInBounds_toArray, List.set_cons_zero, List.set_cons_succ, i64_w, i32_w]; rfl
                refine pure_ (i := 20) (N := some 87) (v := undef) (a' := ?_) #[I,I,I,I,I,I,I,I,I,I,I,I,I,I,I,I,I,I,I,I,I,O,O,O,O,O] rfl rfl (any_of HT_.out (by kernel_rfl)) (fun _ _ _ h => h) (Or.inr ⟨by rfl, rfl⟩) ?_ ?_
                rotate_left; simp only [Act.put, List.setIfInBounds_toArray, List.set_cons_zero, List.set_cons_succ, i64_w, i32_w]; rfl
                refine pure_ (i := 21) (N := some 88) (v := undef) (a' := ?_) #[I,I,I,I,I,I,I,I,I,I,I,I,I,I,I,I,I,I,I,I,I,I,O,O,O,O] rfl rfl (any_of HT_.out (by kernel_rfl)) (fun _ _ _ h => h) (Or.inr ⟨by rfl, rfl⟩) ?_ ?_
                rotate_left; simp only [Act.put, List.setIfInBounds_toArray, List.set_cons_zero, List.set_cons_succ, i64_w, i32_w]; rfl
                refine pure_ (i := 22) (N := some 89) (v := undef) (a' := ?_) #[I,I,I,I,I,I,I,I,I,I,I,I,I,I,I,I,I,I,I,I,I,I,I,O,O,O] rfl rfl (any_of HT_.out (by kernel_rfl)) (fun _ _ _ h => h) (Or.inr ⟨by rfl, rfl⟩) ?_ ?_
                rotate_left; simp only [Act.put, List.setIfInBounds_toArray, List.set_cons_zero, List.set_cons_succ, i64_w, i32_w]; rfl
                refine pure_ (i := 23) (N := some 90) (v := undef) (a' := ?_) #[I,I,I,I,I,I,I,I,I,I,I,I,I,I,I,I,I,I,I,I,I,I,I,I,O,O] rfl rfl (any_of HT_.out (by kernel_rfl)) (fun _ _ _ h => h) (Or.inr ⟨by rfl, rfl⟩) ?_ ?_
                rotate_left; simp only [Act.put, List.setIfInBounds_toArray, List.set_cons_zero, List.set_cons_succ, i64_w, i32_w]; rfl
                refine pure_ (i := 24) (N := some 91) (v := undef) (a' := ?_) #[I,I,I,I,I,I,I,I,I,I,I,I,I,I,I,I,I,I,I,I,I,I,I,I,I,O] rfl rfl (any_of HT_.out (by kernel_rfl)) (fun _ _ _ h => h) (Or.inr ⟨by rfl, rfl⟩) ?_ ?_
                rotate_left; simp only [Act.put, List.setIfInBounds_toArray, List.set_cons_zero, List.set_cons_succ, i64_w, i32_w]; rfl
                refine pure_ (i := 25) (N := some 92) (v := ?_) (a' := ?_) #[I,I,I,I,I,I,I,I,I,I,I,I,I,I,I,I,I,I,I,I,I,I,I,I,I,I] rfl rfl (any_of HT_.out (by kernel_rfl)) (fun _ _ _ h => h) (Or.inl ⟨by rfl, ?_⟩) ?_ ?_
                rotate_left; intro w'; go_simp; with_reducible rfl; rotate_left; simp only [Act.put, List.setIfInBounds_toArray, List.set_cons_zero, List.set_cons_succ, i64_w, i32_w]; rfl
                refine done_ (done_of HT_.out (by kernel_rfl)) ?_
                go_wp2
                have n0_ := Aside0.mk (below_step HB.out hb2)
                have n1_ := Aside0.mk (blk_below BA.out hb2)
                clear HB BA
                have HB := n0_
                have BA := n1_
                go_ret
                exact ⟨by rw [HZ.out]; rfl, HB.out⟩
              simp only [hw] at HC
              by_cases hz : ((rd_T54 fs i).f1.size : Int) ≤ 100
              rotate_left
              · have HZ := Aside0.mk (loopFalse HV.out p0 p1 HL1.out.2.2 (by rw [HWa.out, hw, decide_eq_false hz]; rfl))
                have hz1 : decide ((100 : Int) < ((rd_T54 fs i).f1.size : Int)) = true := decide_eq_true (by omega)
                clear HV hw HWa hz
                have dr2_ := (hbd.cell (World.block_lt_of_cell? w9 _ r2_)).trans r2_; have dk0_ := (hbd.cell (World.block_lt_of_cell? w9 _ k0_)).trans k0_; have dk1_ := (hbd.cell (World.block_lt_of_cell? w9 _ k1_)).trans k1_
                refine start_ (n := 26) (S := (fun w' => w'.cell? ⟨ga, 2, none⟩ = some (.slice (some ad) fs.length e) ∧ w'.cell? ⟨gK, 0, none⟩ = some (.int .i64 (rd_T54 fs i).f0) ∧ w'.cell? ⟨gK, 1, none⟩ = some (.string (rd_T54 fs i).f1))) (ds := []) #[O,O,O,O,O,O,O,O,O,O,O,O,O,O,O,O,O,O,O,O,O,O,O,O,O,O] (by kernel_rfl) rfl rfl ⟨dr2_, dk0_, dk1_⟩ (fun hHeld => ?_); refine with_tabW wfix.r19.tab wfix.r19.bits (fun HT_ HW_ => ?_)
                refine pure_ (i := 0) (N := some 67) (v := ?_) (a' := ?_) #[I,O,O,O,O,O,O,O,O,O,O,O,O,O,O,O,O,O,O,O,O,O,O,O,O,O] rfl rfl (any_of HT_.out (by kernel_rfl)) (fun _ _ _ h => h) (Or.inl ⟨by rfl, ?_⟩) ?_ ?_
                rotate_left; intro w'; go_simp; with_reducible rfl; rotate_left; simp only [Act.put, List.setIfInBounds_toArray, List.set_cons_zero, List.set_cons_succ, i64_w, i32_w]; rfl
                refine take_ (i := 1) (N := some 68) (v := ?_) (a' := ?_) #[I,I,O,O,O,O,O,O,O,O,O,O,O,O,O,O,O,O,O,O,O,O,O,O,O,O] rfl rfl (take_ofW HT_.out HW_.out (by kernel_rfl)) (fun _ _ _ h => h) (Or.inl ⟨by rfl, ?_⟩) hHeld ?_ ?_
                rotate_left; rintro w' ⟨s0, s1, s2⟩; go_simp; with_reducible rfl; rotate_left; simp only [Act.put, List.setIfInBounds_toArray, List.set_cons_zero, List.set_cons_succ, i64_w, i32_w]; rfl
                refine one_ (i := 2) (N := some 69) #[I,I,I,O,O,O,O,O,O,O,O,O,O,O,O,O,O,O,O,O,O,O,O,O,O,O] rfl rfl (one_of HT_.out (by kernel_rfl)) (by decide) (fun K hK => ?_)
                refine goes_ Try.func18 (by kernel_rfl) rfl #[.int .i64 (rd_T54 fs i).f0, .int .i64 1, .int .i64 60] (by rfl) rfl rfl (by (try simp only [List.map_toArray, List.map_cons, List.map_nil]); first | done | rfl) ?_
                with_reducible refine (HC.out _ (below_step HB.out hbd)).mono ?_
                rintro e_ wn ⟨rfl, hb⟩
                have hb2 := below_step hbd hb
                have lr2_ := (hb2.cell (World.block_lt_of_cell? w9 _ r2_)).trans r2_; have lk0_ := (hb2.cell (World.block_lt_of_cell? w9 _ k0_)).trans k0_; have lk1_ := (hb2.cell (World.block_lt_of_cell? w9 _ k1_)).trans k1_
                refine ⟨_, rfl, ?_⟩
                refine hK.out _ _ ⟨lr2_, lk0_, lk1_⟩ (fun hHeld => ?_)
                clear hK K
                refine norm_ (a' := ?_) ?_ ?_
                rotate_left
                · show Act.put _ (some 69) _ = _
                  simp only [Act.put, List.setIfInBounds_toArray, List.set_cons_zero, List.set_cons_succ, i64_w, i32_w]
                  rfl
                refine pure_ (i := 3) (N := some 70) (v := ?_) (a' := ?_) #[I,I,I,I,O,O,O,O,O,O,O,O,O,O,O,O,O,O,O,O,O,O,O,O,O,O] rfl rfl (any_of HT_.out (by kernel_rfl)) (fun _ _ _ h => h) (Or.inl ⟨by rfl, ?_⟩) ?_ ?_
                rotate_left; intro w'; go_simp; with_reducible rfl; rotate_left; simp only [Act.put, List.setIfInBounds_toArray, List.set_cons_zero, List.set_cons_succ, i64_w, i32_w]; rfl
                refine pure_ (i := 4) (N := some 71) (v := ?_) (a' := ?_) #[I,I,I,I,I,O,O,O,O,O,O,O,O,O,O,O,O,O,O,O,O,O,O,O,O,O] rfl rfl (any_of HT_.out (by kernel_rfl)) (fun _ _ _ h => h) (Or.inl ⟨by rfl, ?_⟩) ?_ ?_
                rotate_left; intro w'; go_simp; with_reducible rfl; rotate_left; simp only [Act.put, List.setIfInBounds_toArray, List.set_cons_zero, List.set_cons_succ, i64_w, i32_w]; rfl
                refine pure_ (i := 5) (N := some 72) (v := ?_) (a' := ?_) #[I,I,I,I,I,I,O,O,O,O,O,O,O,O,O,O,O,O,O,O,O,O,O,O,O,O] rfl rfl (any_of HT_.out (by kernel_rfl)) (fun _ _ _ h => h) (Or.inl ⟨by rfl, ?_⟩) ?_ ?_
                rotate_left; intro w'; go_simp; with_reducible rfl; rotate_left; simp only [Act.put, List.setIfInBounds_toArray, List.set_cons_zero, List.set_cons_succ, i64_w, i32_w]; rfl
                refine take_ (i := 6) (N := some 73) (v := ?_) (a' := ?_) #[I,I,I,I,I,I,I,O,O,O,O,O,O,O,O,O,O,O,O,O,O,O,O,O,O,O] rfl rfl (take_ofW HT_.out HW_.out (by kernel_rfl)) (fun _ _ _ h => h) (Or.inl ⟨by rfl, ?_⟩) hHeld ?_ ?_
                rotate_left; rintro w' ⟨s0, s1, s2⟩; go_simp; with_reducible rfl; rotate_left; simp only [Act.put, List.setIfInBounds_toArray, List.set_cons_zero, List.set_cons_succ, i64_w, i32_w]; rfl
                refine pure_ (i := 7) (N := some 74) (v := ?_) (a' := ?_) #[I,I,I,I,I,I,I,I,O,O,O,O,O,O,O,O,O,O,O,O,O,O,O,O,O,O] rfl rfl (any_of HT_.out (by kernel_rfl)) (fun _ _ _ h => h) (Or.inl ⟨by rfl, ?_⟩) ?_ ?_
                rotate_left; intro w'; go_simp; with_reducible rfl; rotate_left; simp only [Act.put, List.setIfInBounds_toArray, List.set_cons_zero, List.set_cons_succ, i64_w, i32_w]; rfl
                refine pure_ (i := 8) (N := some 75) (v := ?_) (a' := ?_) #[I,I,I,I,I,I,I,I,I,O,O,O,O,O,O,O,O,O,O,O,O,O,O,O,O,O] rfl rfl (any_of HT_.out (by kernel_rfl)) (fun _ _ _ h => h) (Or.inl ⟨by rfl, ?_⟩) ?_ ?_
                rotate_left; intro w'; go_simp; with_reducible rfl; rotate_left; simp only [Act.put, List.setIfInBounds_toArray, List.set_cons_zero, List.set_cons_succ, i64_w, i32_w]; rfl
                refine pure_ (i := 9) (N := some 76) (v := ?_) (a' := ?_) #[I,I,I,I,I,I,I,I,I,I,O,O,O,O,O,O,O,O,O,O,O,O,O,O,O,O] rfl rfl (any_of HT_.out (by kernel_rfl)) (fun _ _ _ h => h) (Or.inl ⟨by rfl, ?_⟩) ?_ ?_
                rotate_left; intro w'; go_simp; with_reducible rfl; rotate_left; simp only [Act.put, List.setIfInBounds_toArray, List.set_cons_zero, List.set_cons_succ, i64_w, i32_w]; rfl
                refine pure_ (i := 10) (N := some 77) (v := ?_) (a' := ?_) #[I,I,I,I,I,I,I,I,I,I,I,O,O,O,O,O,O,O,O,O,O,O,O,O,O,O] rfl rfl (any_of HT_.out (by kernel_rfl)) (fun _ _ _ h => h) (Or.inl ⟨by rfl, ?_⟩) ?_ ?_
                rotate_left; intro w'; go_simp; with_reducible rfl; rotate_left; simp only [Act.put, List.setIfInBounds_toArray, List.set_cons_zero, List.set_cons_succ, i64_w, i32_w]; rfl
                refine pure_ (i := 11) (N := some 78) (v := undef) (a' := ?_) #[I,I,I,I,I,I,I,I,I,I,I,I,O,O,O,O,O,O,O,O,O,O,O,O,O,O] rfl rfl (any_of HT_.out (by kernel_rfl)) (fun _ _ _ h => h) (Or.inr ⟨by rfl, rfl⟩) ?_ ?_
                rotate_left; simp only [Act.put, List.setIfInBounds_toArray, List.set_cons_zero, List.set_cons_succ, i64_w, i32_w]; rfl
                refine pure_ (i := 12) (N := some 79) (v := undef) (a' := ?_) #[I,I,I,I,I,I,I,I,I,I,I,I,I,O,O,O,O,O,O,O,O,O,O,O,O,O] rfl rfl (any_of HT_.out (by kernel_rfl)) (fun _ _ _ h => h) (Or.inr ⟨by rfl, rfl⟩) ?_ ?_
                rotate_left; simp only [Act.put, List.setIfInBounds_toArray, List.set_cons_zero, List.set_cons_succ, i64_w, i32_w]; rfl
                refine pure_ (i := 13) (N := some 80) (v := undef) (a' := ?_) #[I,I,I,I,I,I,I,I,I,I,I,I,I,I,O,O,O,O,O,O,O,O,O,O,O,O] rfl rfl (any_of HT_.out (by kernel_rfl)) (fun _ _ _ h => h) (Or.inr ⟨by rfl, rfl⟩) ?_ ?_
                rotate_left; simp only [Act.put, List.setIfInBounds_toArray, List.set_cons_zero, List.set_cons_succ, i64_w, i32_w]; rfl
                refine pure_ (i := 14) (N := some 81) (v := undef) (a' := ?_) #[I,I,I,I,I,I,I,I,I,I,I,I,I,I,I,O,O,O,O,O,O,O,O,O,O,O] rfl rfl (any_of HT_.out (by kernel_rfl)) (fun _ _ _ h => h) (Or.inr ⟨by rfl, rfl⟩) ?_ ?_
                rotate_left; simp only [Act.put, List.setIfInBounds_toArray, List.set_cons_zero, List.set_cons_succ, i64_w, i32_w]; rfl
                refine pure_ (i := 15) (N := some 82) (v := undef) (a' := ?_) #[I,I,I,I,I,I,I,I,I,I,I,I,I,I,I,I,O,O,O,O,O,O,O,O,O,O] rfl rfl (any_of HT_.out (by kernel_rfl)) (fun _ _ _ h => h) (Or.inr ⟨by rfl, rfl⟩) ?_ ?_
                rotate_left; simp only [Act.put, List.setIfInBounds_toArray, List.set_cons_zero, List.set_cons_succ, i64_w, i32_w]; rfl
                refine pure_ (i := 16) (N := some 83) (v := undef) (a' := ?_) #[I,I,I,I,I,I,I,I,I,I,I,I,I,I,I,I,I,O,O,O,O,O,O,O,O,O] rfl rfl (any_of HT_.out (by kernel_rfl)) (fun _ _ _ h => h) (Or.inr ⟨by rfl, rfl⟩) ?_ ?_
                rotate_left; simp only [Act.put, List.setIfInBounds_toArray, List.set_cons_zero, List.set_cons_succ, i64_w, i32_w]; rfl
                refine pure_ (i := 17) (N := some 84) (v := undef) (a' := ?_) #[I,I,I,I,I,I,I,I,I,I,I,I,I,I,I,I,I,I,O,O,O,O,O,O,O,O] rfl rfl (any_of HT_.out (by kernel_rfl)) (fun _ _ _ h => h) (Or.inr ⟨by rfl, rfl⟩) ?_ ?_
                rotate_left; simp only [Act.put, List.setIfInBounds_toArray, List.set_cons_zero, List.set_cons_succ, i64_w, i32_w]; rfl
                refine pure_ (i := 18) (N := some 85) (v := undef) (a' := ?_) #[I,I,I,I,I,I,I,I,I,I,I,I,I,I,I,I,I,I,I,O,O,O,O,O,O,O] rfl rfl (any_of HT_.out (by kernel_rfl)) (fun _ _ _ h => h) (Or.inr ⟨by rfl, rfl⟩) ?_ ?_
                rotate_left; simp only [Act.put, List.setIfInBounds_toArray, List.set_cons_zero, List.set_cons_succ, i64_w, i32_w]; rfl
                refine pure_ (i := 19) (N := some 86) (v := undef) (a' := ?_) #[I,I,I,I,I,I,I,I,I,I,I,I,I,I,I,I,I,I,I,I,O,O,O,O,O,O] rfl rfl (any_of HT_.out (by kernel_rfl)) (fun _ _ _ h => h) (Or.inr ⟨by rfl, rfl⟩) ?_ ?_
                rotate_left; simp only [Act.put, List.setIfInBounds_toArray, List.set_cons_zero, List.set_cons_succ, i64_w, i32_w]; rfl
                refine pure_ (i := 20) (N := some 87) (v := undef) (a' := ?_) #[I,I,I,I,I,I,I,I,I,I,I,I,I,I,I,I,I,I,I,I,I,O,O,O,O,O] rfl rfl (any_of HT_.out (by kernel_rfl)) (fun _ _ _ h => h) (Or.inr ⟨by rfl, rfl⟩) ?_ ?_
                rotate_left; simp only [Act.put, List.setIfInBounds_toArray, List.set_cons_zero, List.set_cons_succ, i64_w, i32_w]; rfl
                refine pure_ (i := 21) (N := some 88) (v := undef) (a' := ?_) #[I,I,I,I,I,I,I,I,I,I,I,I,I,I,I,I,I,I,I,I,I,I,O,O,O,O] rfl rfl (any_of HT_.out (by kernel_rfl)) (fun _ _ _ h => h) (Or.inr ⟨by rfl, rfl⟩) ?_ ?_
                rotate_left; simp only [Act.put, List.setIfInBounds_toArray, List.set_cons_zero, List.set_cons_succ, i64_w, i32_w]; rfl
                refine pure_ (i := 22) (N := some 89) (v := undef) (a' := ?_) #[I,I,I,I,I,I,I,I,I,I,I,I,I,I,I,I,I,I,I,I,I,I,I,O,O,O] rfl rfl (any_of HT_.out (by kernel_rfl)) (fun _ _ _ h => h) (Or.inr ⟨by rfl, rfl⟩) ?_ ?_
                rotate_left; simp only [Act.put, List.setIfInBounds_toArray, List.set_cons_zero, List.set_cons_succ, i64_w, i32_w]; rfl
                refine pure_ (i := 23) (N := some 90) (v := undef) (a' := ?_) #[I,I,I,I,I,I,I,I,I,I,I,I,I,I,I,I,I,I,I,I,I,I,I,I,O,O] rfl rfl (any_of HT_.out (by kernel_rfl)) (fun _ _ _ h => h) (Or.inr ⟨by rfl, rfl⟩) ?_ ?_
                rotate_left; simp only [Act.put, List.setIfInBounds_toArray, List.set_cons_zero, List.set_cons_succ, i64_w, i32_w]; rfl
                refine pure_ (i := 24) (N := some 91) (v := undef) (a' := ?_) #[I,I,I,I,I,I,I,I,I,I,I,I,I,I,I,I,I,I,I,I,I,I,I,I,I,O] rfl rfl (any_of HT_.out (by kernel_rfl)) (fun _ _ _ h => h) (Or.inr ⟨by rfl, rfl⟩) ?_ ?_
                rotate_left; simp only [Act.put, List.setIfInBounds_toArray, List.set_cons_zero, List.set_cons_succ, i64_w, i32_w]; rfl
                refine pure_ (i := 25) (N := some 92) (v := ?_) (a' := ?_) #[I,I,I,I,I,I,I,I,I,I,I,I,I,I,I,I,I,I,I,I,I,I,I,I,I,I] rfl rfl (any_of HT_.out (by kernel_rfl)) (fun _ _ _ h => h) (Or.inl ⟨by rfl, ?_⟩) ?_ ?_
                rotate_left; intro w'; go_simp; with_reducible rfl; rotate_left; simp only [Act.put, List.setIfInBounds_toArray, List.set_cons_zero, List.set_cons_succ, i64_w, i32_w]; rfl
                refine done_ (done_of HT_.out (by kernel_rfl)) ?_
                go_wp2
                have n0_ := Aside0.mk (below_step HB.out hb2)
                have n1_ := Aside0.mk (blk_below BA.out hb2)
                clear HB BA
                have HB := n0_
                have BA := n1_
                go_ret
                exact ⟨by rw [HZ.out]; rfl, HB.out⟩
              have hz1 : decide ((100 : Int) < ((rd_T54 fs i).f1.size : Int)) = false := decide_eq_false (by omega)
              by_cases h00 : i = 0
              · have HZ := Aside0.mk (loopTrue HV.out p0 p1 HL1.out.2.2 (by rw [HWa.out, hw, decide_eq_true hz, decide_eq_true (show i.toNat = 0 by omega)]; rfl))
                have hgt : decide (0 < i) = false := decide_eq_false (by omega)
                clear HV hw HWa hz h00
                have dr2_ := (hbd.cell (World.block_lt_of_cell? w9 _ r2_)).trans r2_; have dk0_ := (hbd.cell (World.block_lt_of_cell? w9 _ k0_)).trans k0_; have dk1_ := (hbd.cell (World.block_lt_of_cell? w9 _ k1_)).trans k1_
                refine start_ (n := 26) (S := (fun w' => w'.cell? ⟨ga, 2, none⟩ = some (.slice (some ad) fs.length e) ∧ w'.cell? ⟨gK, 0, none⟩ = some (.int .i64 (rd_T54 fs i).f0) ∧ w'.cell? ⟨gK, 1, none⟩ = some (.string (rd_T54 fs i).f1))) (ds := []) #[O,O,O,O,O,O,O,O,O,O,O,O,O,O,O,O,O,O,O,O,O,O,O,O,O,O] (by kernel_rfl) rfl rfl ⟨dr2_, dk0_, dk1_⟩ (fun hHeld => ?_); refine with_tabW wfix.r19.tab wfix.r19.bits (fun HT_ HW_ => ?_)
                refine pure_ (i := 0) (N := some 67) (v := ?_) (a' := ?_) #[I,O,O,O,O,O,O,O,O,O,O,O,O,O,O,O,O,O,O,O,O,O,O,O,O,O] rfl rfl (any_of HT_.out (by kernel_rfl)) (fun _ _ _ h => h) (Or.inl ⟨by rfl, ?_⟩) ?_ ?_
                rotate_left; intro w'; go_simp; with_reducible rfl; rotate_left; simp only [Act.put, List.setIfInBounds_toArray, List.set_cons_zero, List.set_cons_succ, i64_w, i32_w]; rfl
                refine take_ (i := 1) (N := some 68) (v := ?_) (a' := ?_) #[I,I,O,O,O,O,O,O,O,O,O,O,O,O,O,O,O,O,O,O,O,O,O,O,O,O] rfl rfl (take_ofW HT_.out HW_.out (by kernel_rfl)) (fun _ _ _ h => h) (Or.inl ⟨by rfl, ?_⟩) hHeld ?_ ?_
                rotate_left; rintro w' ⟨s0, s1, s2⟩; go_simp; with_reducible rfl; rotate_left; simp only [Act.put, List.setIfInBounds_toArray, List.set_cons_zero, List.set_cons_succ, i64_w, i32_w]; rfl
                refine one_ (i := 2) (N := some 69) #[I,I,I,O,O,O,O,O,O,O,O,O,O,O,O,O,O,O,O,O,O,O,O,O,O,O] rfl rfl (one_of HT_.out (by kernel_rfl)) (by decide) (fun K hK => ?_)
                refine goes_ Try.func18 (by kernel_rfl) rfl #[.int .i64 (rd_T54 fs i).f0, .int .i64 1, .int .i64 60] (by rfl) rfl rfl (by (try simp only [List.map_toArray, List.map_cons, List.map_nil]); first | done | rfl) ?_
                with_reducible refine (HC.out _ (below_step HB.out hbd)).mono ?_
                rintro e_ wn ⟨rfl, hb⟩
                have hb2 := below_step hbd hb
                have lr2_ := (hb2.cell (World.block_lt_of_cell? w9 _ r2_)).trans r2_; have lk0_ := (hb2.cell (World.block_lt_of_cell? w9 _ k0_)).trans k0_; have lk1_ := (hb2.cell (World.block_lt_of_cell? w9 _ k1_)).trans k1_
                refine ⟨_, rfl, ?_⟩
                refine hK.out _ _ ⟨lr2_, lk0_, lk1_⟩ (fun hHeld => ?_)
                clear hK K
                refine norm_ (a' := ?_) ?_ ?_
                rotate_left
                · show Act.put _ (some 69) _ = _
                  simp only [Act.put, List.setIfInBounds_toArray, List.set_cons_zero, List.set_cons_succ, i64_w, i32_w]
                  rfl
                refine pure_ (i := 3) (N := some 70) (v := ?_) (a' := ?_) #[I,I,I,I,O,O,O,O,O,O,O,O,O,O,O,O,O,O,O,O,O,O,O,O,O,O] rfl rfl (any_of HT_.out (by kernel_rfl)) (fun _ _ _ h => h) (Or.inl ⟨by rfl, ?_⟩) ?_ ?_
                rotate_left; intro w'; go_simp; with_reducible rfl; rotate_left; simp only [Act.put, List.setIfInBounds_toArray, List.set_cons_zero, List.set_cons_succ, i64_w, i32_w]; rfl
                refine pure_ (i := 4) (N := some 71) (v := ?_) (a' := ?_) #[I,I,I,I,I,O,O,O,O,O,O,O,O,O,O,O,O,O,O,O,O,O,O,O,O,O] rfl rfl (any_of HT_.out (by kernel_rfl)) (fun _ _ _ h => h) (Or.inl ⟨by rfl, ?_⟩) ?_ ?_
                rotate_left; intro w'; go_simp; with_reducible rfl; rotate_left; simp only [Act.put, List.setIfInBounds_toArray, List.set_cons_zero, List.set_cons_succ, i64_w, i32_w]; rfl
                refine pure_ (i := 5) (N := some 72) (v := ?_) (a' := ?_) #[I,I,I,I,I,I,O,O,O,O,O,O,O,O,O,O,O,O,O,O,O,O,O,O,O,O] rfl rfl (any_of HT_.out (by kernel_rfl)) (fun _ _ _ h => h) (Or.inl ⟨by rfl, ?_⟩) ?_ ?_
                rotate_left; intro w'; go_simp; with_reducible rfl; rotate_left; simp only [Act.put, List.setIfInBounds_toArray, List.set_cons_zero, List.set_cons_succ, i64_w, i32_w]; rfl
                refine take_ (i := 6) (N := some 73) (v := ?_) (a' := ?_) #[I,I,I,I,I,I,I,O,O,O,O,O,O,O,O,O,O,O,O,O,O,O,O,O,O,O] rfl rfl (take_ofW HT_.out HW_.out (by kernel_rfl)) (fun _ _ _ h => h) (Or.inl ⟨by rfl, ?_⟩) hHeld ?_ ?_
                rotate_left; rintro w' ⟨s0, s1, s2⟩; go_simp; with_reducible rfl; rotate_left; simp only [Act.put, List.setIfInBounds_toArray, List.set_cons_zero, List.set_cons_succ, i64_w, i32_w]; rfl
                refine pure_ (i := 7) (N := some 74) (v := ?_) (a' := ?_) #[I,I,I,I,I,I,I,I,O,O,O,O,O,O,O,O,O,O,O,O,O,O,O,O,O,O] rfl rfl (any_of HT_.out (by kernel_rfl)) (fun _ _ _ h => h) (Or.inl ⟨by rfl, ?_⟩) ?_ ?_
                rotate_left; intro w'; go_simp; with_reducible rfl; rotate_left; simp only [Act.put, List.setIfInBounds_toArray, List.set_cons_zero, List.set_cons_succ, i64_w, i32_w]; rfl
                refine pure_ (i := 8) (N := some 75) (v := ?_) (a' := ?_) #[I,I,I,I,I,I,I,I,I,O,O,O,O,O,O,O,O,O,O,O,O,O,O,O,O,O] rfl rfl (any_of HT_.out (by kernel_rfl)) (fun _ _ _ h => h) (Or.inl ⟨by rfl, ?_⟩) ?_ ?_
                rotate_left; intro w'; go_simp; with_reducible rfl; rotate_left; simp only [Act.put, List.setIfInBounds_toArray, List.set_cons_zero, List.set_cons_succ, i64_w, i32_w]; rfl
                refine pure_ (i := 9) (N := some 76) (v := ?_) (a' := ?_) #[I,I,I,I,I,I,I,I,I,I,O,O,O,O,O,O,O,O,O,O,O,O,O,O,O,O] rfl rfl (any_of HT_.out (by kernel_rfl)) (fun _ _ _ h => h) (Or.inl ⟨by rfl, ?_⟩) ?_ ?_
                rotate_left; intro w'; go_simp; with_reducible rfl; rotate_left; simp only [Act.put, List.setIfInBounds_toArray, List.set_cons_zero, List.set_cons_succ, i64_w, i32_w]; rfl
                refine pure_ (i := 10) (N := some 77) (v := ?_) (a' := ?_) #[I,I,I,I,I,I,I,I,I,I,I,O,O,O,O,O,O,O,O,O,O,O,O,O,O,O] rfl rfl (any_of HT_.out (by kernel_rfl)) (fun _ _ _ h => h) (Or.inl ⟨by rfl, ?_⟩) ?_ ?_
                rotate_left; intro w'; go_simp; with_reducible rfl; rotate_left; simp only [Act.put, List.setIfInBounds_toArray, List.set_cons_zero, List.set_cons_succ, i64_w, i32_w]; rfl
                refine pure_ (i := 11) (N := some 78) (v := ?_) (a' := ?_) #[I,I,I,I,I,I,I,I,I,I,I,I,O,O,O,O,O,O,O,O,O,O,O,O,O,O] rfl rfl (any_of HT_.out (by kernel_rfl)) (fun _ _ _ h => h) (Or.inl ⟨by rfl, ?_⟩) ?_ ?_
                rotate_left; intro w'; go_simp; with_reducible rfl; rotate_left; simp only [Act.put, List.setIfInBounds_toArray, List.set_cons_zero, List.set_cons_succ, i64_w, i32_w]; rfl
                refine pure_ (i := 12) (N := some 79) (v := ?_) (a' := ?_) #[I,I,I,I,I,I,I,I,I,I,I,I,I,O,O,O,O,O,O,O,O,O,O,O,O,O] rfl rfl (any_of HT_.out (by kernel_rfl)) (fun _ _ _ h => h) (Or.inl ⟨by rfl, ?_⟩) ?_ ?_
                rotate_left; intro w'; go_simp; with_reducible rfl; rotate_left; simp only [Act.put, List.setIfInBounds_toArray, List.set_cons_zero, List.set_cons_succ, i64_w, i32_w]; rfl
                refine pure_ (i := 13) (N := some 80) (v := ?_) (a' := ?_) #[I,I,I,I,I,I,I,I,I,I,I,I,I,I,O,O,O,O,O,O,O,O,O,O,O,O] rfl rfl (any_of HT_.out (by kernel_rfl)) (fun _ _ _ h => h) (Or.inl ⟨by rfl, ?_⟩) ?_ ?_
                rotate_left; intro w'; go_simp; with_reducible rfl; rotate_left; simp only [Act.put, List.setIfInBounds_toArray, List.set_cons_zero, List.set_cons_succ, i64_w, i32_w]; rfl
                refine pure_ (i := 14) (N := some 81) (v := undef) (a' := ?_) #[I,I,I,I,I,I,I,I,I,I,I,I,I,I,I,O,O,O,O,O,O,O,O,O,O,O] rfl rfl (any_of HT_.out (by kernel_rfl)) (fun _ _ _ h => h) (Or.inr ⟨by rfl, rfl⟩) ?_ ?_
                rotate_left; simp only [Act.put, List.setIfInBounds_toArray, List.set_cons_zero, List.set_cons_succ, i64_w, i32_w]; rfl
                refine pure_ (i := 15) (N := some 82) (v := undef) (a' := ?_) #[I,I,I,I,I,I,I,I,I,I,I,I,I,I,I,I,O,O,O,O,O,O,O,O,O,O] rfl rfl (any_of HT_.out (by kernel_rfl)) (fun _ _ _ h => h) (Or.inr ⟨by rfl, rfl⟩) ?_ ?_
                rotate_left; simp only [Act.put, List.setIfInBounds_toArray, List.set_cons_zero, List.set_cons_succ, i64_w, i32_w]; rfl
                refine pure_ (i := 16) (N := some 83) (v := undef) (a' := ?_) #[I,I,I,I,I,I,I,I,I,I,I,I,I,I,I,I,I,O,O,O,O,O,O,O,O,O] rfl rfl (any_of HT_.out (by kernel_rfl)) (fun _ _ _ h => h) (Or.inr ⟨by rfl, rfl⟩) ?_ ?_
                rotate_left; simp only [Act.put, List.setIfInBounds_toArray, List.set_cons_zero, List.set_cons_succ, i64_w, i32_w]; rfl
                refine pure_ (i := 17) (N := some 84) (v := undef) (a' := ?_) #[I,I,I,I,I,I,I,I,I,I,I,I,I,I,I,I,I,I,O,O,O,O,O,O,O,O] rfl rfl (any_of HT_.out (by kernel_rfl)) (fun _ _ _ h => h) (Or.inr ⟨by rfl, rfl⟩) ?_ ?_
                rotate_left; simp only [Act.put, List.setIfInBounds_toArray, List.set_cons_zero, List.set_cons_succ, i64_w, i32_w]; rfl
                refine pure_ (i := 18) (N := some 85) (v := undef) (a' := ?_) #[I,I,I,I,I,I,I,I,I,I,I,I,I,I,I,I,I,I,I,O,O,O,O,O,O,O] rfl rfl (any_of HT_.out (by kernel_rfl)) (fun _ _ _ h => h) (Or.inr ⟨by rfl, rfl⟩) ?_ ?_
                rotate_left; simp only [Act.put, List.setIfInBounds_toArray, List.set_cons_zero, List.set_cons_succ, i64_w, i32_w]; rfl
                refine pure_ (i := 19) (N := some 86) (v := undef) (a' := ?_) #[I,I,I,I,I,I,I,I,I,I,I,I,I,I,I,I,I,I,I,I,O,O,O,O,O,O] rfl rfl (any_of HT_.out (by kernel_rfl)) (fun _ _ _ h => h) (Or.inr ⟨by rfl, rfl⟩) ?_ ?_
                rotate_left; simp only [Act.put, List.setIfInBounds_toArray, List.set_cons_zero, List.set_cons_succ, i64_w, i32_w]; rfl
                refine pure_ (i := 20) (N := some 87) (v := undef) (a' := ?_) #[I,I,I,I,I,I,I,I,I,I,I,I,I,I,I,I,I,I,I,I,I,O,O,O,O,O] rfl rfl (any_of HT_.out (by kernel_rfl)) (fun _ _ _ h => h) (Or.inr ⟨by rfl, rfl⟩) ?_ ?_
                rotate_left; simp only [Act.put, List.setIfInBounds_toArray, List.set_cons_zero, List.set_cons_succ, i64_w, i32_w]; rfl
                refine pure_ (i := 21) (N := some 88) (v := undef) (a' := ?_) #[I,I,I,I,I,I,I,I,I,I,I,I,I,I,I,I,I,I,I,I,I,I,O,O,O,O] rfl rfl (any_of HT_.out (by kernel_rfl)) (fun _ _ _ h => h) (Or.inr ⟨by rfl, rfl⟩) ?_ ?_
                rotate_left; simp only [Act.put, List.setIfInBounds_toArray, List.set_cons_zero, List.set_cons_succ, i64_w, i32_w]; rfl
                refine pure_ (i := 22) (N := some 89) (v := undef) (a' := ?_) #[I,I,I,I,I,I,I,I,I,I,I,I,I,I,I,I,I,I,I,I,I,I,I,O,O,O] rfl rfl (any_of HT_.out (by kernel_rfl)) (fun _ _ _ h => h) (Or.inr ⟨by rfl, rfl⟩) ?_ ?_
                rotate_left; simp only [Act.put, List.setIfInBounds_toArray, List.set_cons_zero, List.set_cons_succ, i64_w, i32_w]; rfl
                refine pure_ (i := 23) (N := some 90) (v := undef) (a' := ?_) #[I,I,I,I,I,I,I,I,I,I,I,I,I,I,I,I,I,I,I,I,I,I,I,I,O,O] rfl rfl (any_of HT_.out (by kernel_rfl)) (fun _ _ _ h => h) (Or.inr ⟨by rfl, rfl⟩) ?_ ?_
                rotate_left; simp only [Act.put, List.setIfInBounds_toArray, List.set_cons_zero, List.set_cons_succ, i64_w, i32_w]; rfl
                refine pure_ (i := 24) (N := some 91) (v := ?_) (a' := ?_) #[I,I,I,I,I,I,I,I,I,I,I,I,I,I,I,I,I,I,I,I,I,I,I,I,I,O] rfl rfl (any_of HT_.out (by kernel_rfl)) (fun _ _ _ h => h) (Or.inl ⟨by rfl, ?_⟩) ?_ ?_
                rotate_left; intro w'; go_simp; with_reducible rfl; rotate_left; simp only [Act.put, List.setIfInBounds_toArray, List.set_cons_zero, List.set_cons_succ, i64_w, i32_w]; rfl
                refine pure_ (i := 25) (N := some 92) (v := ?_) (a' := ?_) #[I,I,I,I,I,I,I,I,I,I,I,I,I,I,I,I,I,I,I,I,I,I,I,I,I,I] rfl rfl (any_of HT_.out (by kernel_rfl)) (fun _ _ _ h => h) (Or.inl ⟨by rfl, ?_⟩) ?_ ?_
                rotate_left; intro w'; go_simp; with_reducible rfl; rotate_left; simp only [Act.put, List.setIfInBounds_toArray, List.set_cons_zero, List.set_cons_succ, i64_w, i32_w]; rfl
                refine done_ (done_of HT_.out (by kernel_rfl)) ?_
                go_wp2
                have n0_ := Aside0.mk (below_step HB.out hb2)
                have n1_ := Aside0.mk (blk_below BA.out hb2)
                clear HB BA
                have HB := n0_
                have BA := n1_
                go_roundg gk1
                case measure => omega
                case rel => first | exact ⟨wrap64 (i + 1), rfl, HZ, ⟨by have := HI.out; have := HL1.out; have := HI'.out; rw [wrapIn (by omega) (by omega)]; omega⟩, HB, BA⟩ | exact ⟨i + 1, rfl, by have h_ := HZ; rw [wrapIn (by have := HI.out; omega) (by have := HI.out; have := HL1.out; have := HI'.out; omega)] at h_; exact h_, ⟨by have := HI.out; have := HI'.out; omega⟩, HB, BA⟩
              have hgt : decide (0 < i) = true := decide_eq_true (by omega)
              have hw1 : wrap64 (i - 1) = i - 1 := by have := HL1.out.2.2; exact wrapIn (by omega) (by omega)
              have p2 : 0 ≤ i - 1 := by omega
              have p3 : i - 1 < (fs.length : Int) := by omega
              have p4 : 1 ≤ i := by omega
              obtain ⟨ad2, e2, g0_, _⟩ := at_T54 HF.out (i - 1) p2 p3
              obtain rfl := Option.some.inj e2
              rw [show (i - 1).toNat = i.toNat - 1 by omega] at g0_
              replace g0_ := (HB.out.cell (World.block_lt_of_cell? w _ g0_)).trans g0_
              by_cases hle : (rd_T54 fs i).f0 ≤ (rd_T54 fs (i - 1)).f0
              · have hle1 : decide ((rd_T54 fs i).f0 ≤ (rd_T54 fs (i - 1)).f0) = true := decide_eq_true hle
                have HZ := Aside0.mk (loopFalse HV.out p0 p1 HL1.out.2.2 (by rw [HWa.out, hw, decide_eq_true hz, decide_eq_false (show ¬ i.toNat = 0 by omega), show ((i.toNat - 1 : Nat) : Int) = i - 1 by omega, decide_eq_false (show ¬ (rd_T54 fs (i - 1)).f0 < (rd_T54 fs i).f0 by omega)]; rfl))
                clear HV hw HWa hz h00 hle
                have dr2_ := (hbd.cell (World.block_lt_of_cell? w9 _ r2_)).trans r2_; have dk0_ := (hbd.cell (World.block_lt_of_cell? w9 _ k0_)).trans k0_; have dk1_ := (hbd.cell (World.block_lt_of_cell? w9 _ k1_)).trans k1_; have dg0_ := (hbd.cell (World.block_lt_of_cell? w9 _ g0_)).trans g0_
                refine start_ (n := 26) (S := (fun w' => w'.cell? ⟨ga, 2, none⟩ = some (.slice (some ad) fs.length e) ∧ w'.cell? ⟨gK, 0, none⟩ = some (.int .i64 (rd_T54 fs i).f0) ∧ w'.cell? ⟨gK, 1, none⟩ = some (.string (rd_T54 fs i).f1) ∧ w'.cell? (ad.add ((i.toNat - 1) * 2)) = some (.int .i64 (rd_T54 fs (i - 1)).f0))) (ds := []) #[O,O,O,O,O,O,O,O,O,O,O,O,O,O,O,O,O,O,O,O,O,O,O,O,O,O] (by kernel_rfl) rfl rfl ⟨dr2_, dk0_, dk1_, dg0_⟩ (fun hHeld => ?_); refine with_tabW wfix.r19.tab wfix.r19.bits (fun HT_ HW_ => ?_)
                refine pure_ (i := 0) (N := some 67) (v := ?_) (a' := ?_) #[I,O,O,O,O,O,O,O,O,O,O,O,O,O,O,O,O,O,O,O,O,O,O,O,O,O] rfl rfl (any_of HT_.out (by kernel_rfl)) (fun _ _ _ h => h) (Or.inl ⟨by rfl, ?_⟩) ?_ ?_
                rotate_left; intro w'; go_simp; with_reducible rfl; rotate_left; simp only [Act.put, List.setIfInBounds_toArray, List.set_cons_zero, List.set_cons_succ, i64_w, i32_w]; rfl
                refine take_ (i := 1) (N := some 68) (v := ?_) (a' := ?_) #[I,I,O,O,O,O,O,O,O,O,O,O,O,O,O,O,O,O,O,O,O,O,O,O,O,O] rfl rfl (take_ofW HT_.out HW_.out (by kernel_rfl)) (fun _ _ _ h => h) (Or.inl ⟨by rfl, ?_⟩) hHeld ?_ ?_
                rotate_left; rintro w' ⟨s0, s1, s2, s3⟩; go_simp; with_reducible rfl; rotate_left; simp only [Act.put, List.setIfInBounds_toArray, List.set_cons_zero, List.set_cons_succ, i64_w, i32_w]; rfl
                refine one_ (i := 2) (N := some 69) #[I,I,I,O,O,O,O,O,O,O,O,O,O,O,O,O,O,O,O,O,O,O,O,O,O,O] rfl rfl (one_of HT_.out (by kernel_rfl)) (by decide) (fun K hK => ?_)
                refine goes_ Try.func18 (by kernel_rfl) rfl #[.int .i64 (rd_T54 fs i).f0, .int .i64 1, .int .i64 60] (by rfl) rfl rfl (by (try simp only [List.map_toArray, List.map_cons, List.map_nil]); first | done | rfl) ?_
                with_reducible refine (HC.out _ (below_step HB.out hbd)).mono ?_
                rintro e_ wn ⟨rfl, hb⟩
                have hb2 := below_step hbd hb
                have lr2_ := (hb2.cell (World.block_lt_of_cell? w9 _ r2_)).trans r2_; have lk0_ := (hb2.cell (World.block_lt_of_cell? w9 _ k0_)).trans k0_; have lk1_ := (hb2.cell (World.block_lt_of_cell? w9 _ k1_)).trans k1_; have lg0_ := (hb2.cell (World.block_lt_of_cell? w9 _ g0_)).trans g0_
                refine ⟨_, rfl, ?_⟩
                refine hK.out _ _ ⟨lr2_, lk0_, lk1_, lg0_⟩ (fun hHeld => ?_)
                clear hK K
                refine norm_ (a' := ?_) ?_ ?_
                rotate_left
                · show Act.put _ (some 69) _ = _
                  simp only [Act.put, List.setIfInBounds_toArray, List.set_cons_zero, List.set_cons_succ, i64_w, i32_w]
                  rfl
                refine pure_ (i := 3) (N := some 70) (v := ?_) (a' := ?_) #[I,I,I,I,O,O,O,O,O,O,O,O,O,O,O,O,O,O,O,O,O,O,O,O,O,O] rfl rfl (any_of HT_.out (by kernel_rfl)) (fun _ _ _ h => h) (Or.inl ⟨by rfl, ?_⟩) ?_ ?_
                rotate_left; intro w'; go_simp; with_reducible rfl; rotate_left; simp only [Act.put, List.setIfInBounds_toArray, List.set_cons_zero, List.set_cons_succ, i64_w, i32_w]; rfl
                refine pure_ (i := 4) (N := some 71) (v := ?_) (a' := ?_) #[I,I,I,I,I,O,O,O,O,O,O,O,O,O,O,O,O,O,O,O,O,O,O,O,O,O] rfl rfl (any_of HT_.out (by kernel_rfl)) (fun _ _ _ h => h) (Or.inl ⟨by rfl, ?_⟩) ?_ ?_
                rotate_left; intro w'; go_simp; with_reducible rfl; rotate_left; simp only [Act.put, List.setIfInBounds_toArray, List.set_cons_zero, List.set_cons_succ, i64_w, i32_w]; rfl
                refine pure_ (i := 5) (N := some 72) (v := ?_) (a' := ?_) #[I,I,I,I,I,I,O,O,O,O,O,O,O,O,O,O,O,O,O,O,O,O,O,O,O,O] rfl rfl (any_of HT_.out (by kernel_rfl)) (fun _ _ _ h => h) (Or.inl ⟨by rfl, ?_⟩) ?_ ?_
                rotate_left; intro w'; go_simp; with_reducible rfl; rotate_left; simp only [Act.put, List.setIfInBounds_toArray, List.set_cons_zero, List.set_cons_succ, i64_w, i32_w]; rfl
                refine take_ (i := 6) (N := some 73) (v := ?_) (a' := ?_) #[I,I,I,I,I,I,I,O,O,O,O,O,O,O,O,O,O,O,O,O,O,O,O,O,O,O] rfl rfl (take_ofW HT_.out HW_.out (by kernel_rfl)) (fun _ _ _ h => h) (Or.inl ⟨by rfl, ?_⟩) hHeld ?_ ?_
                rotate_left; rintro w' ⟨s0, s1, s2, s3⟩; go_simp; with_reducible rfl; rotate_left; simp only [Act.put, List.setIfInBounds_toArray, List.set_cons_zero, List.set_cons_succ, i64_w, i32_w]; rfl
                refine pure_ (i := 7) (N := some 74) (v := ?_) (a' := ?_) #[I,I,I,I,I,I,I,I,O,O,O,O,O,O,O,O,O,O,O,O,O,O,O,O,O,O] rfl rfl (any_of HT_.out (by kernel_rfl)) (fun _ _ _ h => h) (Or.inl ⟨by rfl, ?_⟩) ?_ ?_
                rotate_left; intro w'; go_simp; with_reducible rfl; rotate_left; simp only [Act.put, List.setIfInBounds_toArray, List.set_cons_zero, List.set_cons_succ, i64_w, i32_w]; rfl
                refine pure_ (i := 8) (N := some 75) (v := ?_) (a' := ?_) #[I,I,I,I,I,I,I,I,I,O,O,O,O,O,O,O,O,O,O,O,O,O,O,O,O,O] rfl rfl (any_of HT_.out (by kernel_rfl)) (fun _ _ _ h => h) (Or.inl ⟨by rfl, ?_⟩) ?_ ?_
                rotate_left; intro w'; go_simp; with_reducible rfl; rotate_left; simp only [Act.put, List.setIfInBounds_toArray, List.set_cons_zero, List.set_cons_succ, i64_w, i32_w]; rfl
                refine pure_ (i := 9) (N := some 76) (v := ?_) (a' := ?_) #[I,I,I,I,I,I,I,I,I,I,O,O,O,O,O,O,O,O,O,O,O,O,O,O,O,O] rfl rfl (any_of HT_.out (by kernel_rfl)) (fun _ _ _ h => h) (Or.inl ⟨by rfl, ?_⟩) ?_ ?_
                rotate_left; intro w'; go_simp; with_reducible rfl; rotate_left; simp only [Act.put, List.setIfInBounds_toArray, List.set_cons_zero, List.set_cons_succ, i64_w, i32_w]; rfl
                refine pure_ (i := 10) (N := some 77) (v := ?_) (a' := ?_) #[I,I,I,I,I,I,I,I,I,I,I,O,O,O,O,O,O,O,O,O,O,O,O,O,O,O] rfl rfl (any_of HT_.out (by kernel_rfl)) (fun _ _ _ h => h) (Or.inl ⟨by rfl, ?_⟩) ?_ ?_
                rotate_left; intro w'; go_simp; with_reducible rfl; rotate_left; simp only [Act.put, List.setIfInBounds_toArray, List.set_cons_zero, List.set_cons_succ, i64_w, i32_w]; rfl
                refine pure_ (i := 11) (N := some 78) (v := ?_) (a' := ?_) #[I,I,I,I,I,I,I,I,I,I,I,I,O,O,O,O,O,O,O,O,O,O,O,O,O,O] rfl rfl (any_of HT_.out (by kernel_rfl)) (fun _ _ _ h => h) (Or.inl ⟨by rfl, ?_⟩) ?_ ?_
                rotate_left; intro w'; go_simp; with_reducible rfl; rotate_left; simp only [Act.put, List.setIfInBounds_toArray, List.set_cons_zero, List.set_cons_succ, i64_w, i32_w]; rfl
                refine pure_ (i := 12) (N := some 79) (v := ?_) (a' := ?_) #[I,I,I,I,I,I,I,I,I,I,I,I,I,O,O,O,O,O,O,O,O,O,O,O,O,O] rfl rfl (any_of HT_.out (by kernel_rfl)) (fun _ _ _ h => h) (Or.inl ⟨by rfl, ?_⟩) ?_ ?_
                rotate_left; intro w'; go_simp; with_reducible rfl; rotate_left; simp only [Act.put, List.setIfInBounds_toArray, List.set_cons_zero, List.set_cons_succ, i64_w, i32_w]; rfl
                refine pure_ (i := 13) (N := some 80) (v := ?_) (a' := ?_) #[I,I,I,I,I,I,I,I,I,I,I,I,I,I,O,O,O,O,O,O,O,O,O,O,O,O] rfl rfl (any_of HT_.out (by kernel_rfl)) (fun _ _ _ h => h) (Or.inl ⟨by rfl, ?_⟩) ?_ ?_
                rotate_left; intro w'; go_simp; with_reducible rfl; rotate_left; simp only [Act.put, List.setIfInBounds_toArray, List.set_cons_zero, List.set_cons_succ, i64_w, i32_w]; rfl
                refine pure_ (i := 14) (N := some 81) (v := ?_) (a' := ?_) #[I,I,I,I,I,I,I,I,I,I,I,I,I,I,I,O,O,O,O,O,O,O,O,O,O,O] rfl rfl (any_of HT_.out (by kernel_rfl)) (fun _ _ _ h => h) (Or.inl ⟨by rfl, ?_⟩) ?_ ?_
                rotate_left; intro w'; go_simp; with_reducible rfl; rotate_left; simp only [Act.put, List.setIfInBounds_toArray, List.set_cons_zero, List.set_cons_succ, i64_w, i32_w]; rfl
                refine take_ (i := 15) (N := some 82) (v := ?_) (a' := ?_) #[I,I,I,I,I,I,I,I,I,I,I,I,I,I,I,I,O,O,O,O,O,O,O,O,O,O] rfl rfl (take_ofW HT_.out HW_.out (by kernel_rfl)) (fun _ _ _ h => h) (Or.inl ⟨by rfl, ?_⟩) hHeld ?_ ?_
                rotate_left; rintro w' ⟨s0, s1, s2, s3⟩; go_simp; with_reducible rfl; rotate_left; simp only [Act.put, List.setIfInBounds_toArray, List.set_cons_zero, List.set_cons_succ, i64_w, i32_w]; rfl
                refine pure_ (i := 16) (N := some 83) (v := ?_) (a' := ?_) #[I,I,I,I,I,I,I,I,I,I,I,I,I,I,I,I,I,O,O,O,O,O,O,O,O,O] rfl rfl (any_of HT_.out (by kernel_rfl)) (fun _ _ _ h => h) (Or.inl ⟨by rfl, ?_⟩) ?_ ?_
                rotate_left; intro w'; go_simp; with_reducible rfl; rotate_left; simp only [Act.put, List.setIfInBounds_toArray, List.set_cons_zero, List.set_cons_succ, i64_w, i32_w]; rfl
                refine take_ (i := 17) (N := some 84) (v := ?_) (a' := ?_) #[I,I,I,I,I,I,I,I,I,I,I,I,I,I,I,I,I,I,O,O,O,O,O,O,O,O] rfl rfl (take_ofW HT_.out HW_.out (by kernel_rfl)) (fun _ _ _ h => h) (Or.inl ⟨by rfl, ?_⟩) hHeld ?_ ?_
                rotate_left; rintro w' ⟨s0, s1, s2, s3⟩; go_simp; with_reducible rfl; rotate_left; simp only [Act.put, List.setIfInBounds_toArray, List.set_cons_zero, List.set_cons_succ, i64_w, i32_w]; rfl
                refine pure_ (i := 18) (N := some 85) (v := ?_) (a' := ?_) #[I,I,I,I,I,I,I,I,I,I,I,I,I,I,I,I,I,I,I,O,O,O,O,O,O,O] rfl rfl (any_of HT_.out (by kernel_rfl)) (fun _ _ _ h => h) (Or.inl ⟨by rfl, ?_⟩) ?_ ?_
                rotate_left; intro w'; go_simp; with_reducible rfl; rotate_left; simp only [Act.put, List.setIfInBounds_toArray, List.set_cons_zero, List.set_cons_succ, i64_w, i32_w]; rfl
                refine pure_ (i := 19) (N := some 86) (v := ?_) (a' := ?_) #[I,I,I,I,I,I,I,I,I,I,I,I,I,I,I,I,I,I,I,I,O,O,O,O,O,O] rfl rfl (any_of HT_.out (by kernel_rfl)) (fun _ _ _ h => h) (Or.inl ⟨by rfl, ?_⟩) ?_ ?_
                rotate_left; intro w'; go_simp; with_reducible rfl; rotate_left; simp only [Act.put, List.setIfInBounds_toArray, List.set_cons_zero, List.set_cons_succ, i64_w, i32_w]; rfl
                refine pure_ (i := 20) (N := some 87) (v := ?_) (a' := ?_) #[I,I,I,I,I,I,I,I,I,I,I,I,I,I,I,I,I,I,I,I,I,O,O,O,O,O] rfl rfl (any_of HT_.out (by kernel_rfl)) (fun _ _ _ h => h) (Or.inl ⟨by rfl, ?_⟩) ?_ ?_
                rotate_left; intro w'; go_simp; with_reducible rfl; rotate_left; simp only [Act.put, List.setIfInBounds_toArray, List.set_cons_zero, List.set_cons_succ, i64_w, i32_w]; rfl
                refine pure_ (i := 21) (N := some 88) (v := ?_) (a' := ?_) #[I,I,I,I,I,I,I,I,I,I,I,I,I,I,I,I,I,I,I,I,I,I,O,O,O,O] rfl rfl (any_of HT_.out (by kernel_rfl)) (fun _ _ _ h => h) (Or.inl ⟨by rfl, ?_⟩) ?_ ?_
                rotate_left; intro w'; go_simp; with_reducible rfl; rotate_left; simp only [Act.put, List.setIfInBounds_toArray, List.set_cons_zero, List.set_cons_succ, i64_w, i32_w]; rfl
                refine take_ (i := 22) (N := some 89) (v := ?_) (a' := ?_) #[I,I,I,I,I,I,I,I,I,I,I,I,I,I,I,I,I,I,I,I,I,I,I,O,O,O] rfl rfl (take_ofW HT_.out HW_.out (by kernel_rfl)) (fun _ _ _ h => h) (Or.inl ⟨by rfl, ?_⟩) hHeld ?_ ?_
                rotate_left; rintro w' ⟨s0, s1, s2, s3⟩; go_simp; with_reducible rfl; rotate_left; simp only [Act.put, List.setIfInBounds_toArray, List.set_cons_zero, List.set_cons_succ, i64_w, i32_w]; rfl
                refine pure_ (i := 23) (N := some 90) (v := ?_) (a' := ?_) #[I,I,I,I,I,I,I,I,I,I,I,I,I,I,I,I,I,I,I,I,I,I,I,I,O,O] rfl rfl (any_of HT_.out (by kernel_rfl)) (fun _ _ _ h => h) (Or.inl ⟨by rfl, ?_⟩) ?_ ?_
                rotate_left; intro w'; go_simp; with_reducible rfl; rotate_left; simp only [Act.put, List.setIfInBounds_toArray, List.set_cons_zero, List.set_cons_succ, i64_w, i32_w]; rfl
                refine pure_ (i := 24) (N := some 91) (v := ?_) (a' := ?_) #[I,I,I,I,I,I,I,I,I,I,I,I,I,I,I,I,I,I,I,I,I,I,I,I,I,O] rfl rfl (any_of HT_.out (by kernel_rfl)) (fun _ _ _ h => h) (Or.inl ⟨by rfl, ?_⟩) ?_ ?_
                rotate_left; intro w'; go_simp; with_reducible rfl; rotate_left; simp only [Act.put, List.setIfInBounds_toArray, List.set_cons_zero, List.set_cons_succ, i64_w, i32_w]; rfl
                refine pure_ (i := 25) (N := some 92) (v := ?_) (a' := ?_) #[I,I,I,I,I,I,I,I,I,I,I,I,I,I,I,I,I,I,I,I,I,I,I,I,I,I] rfl rfl (any_of HT_.out (by kernel_rfl)) (fun _ _ _ h => h) (Or.inl ⟨by rfl, ?_⟩) ?_ ?_
                rotate_left; intro w'; go_simp; with_reducible rfl; rotate_left; simp only [Act.put, List.setIfInBounds_toArray, List.set_cons_zero, List.set_cons_succ, i64_w, i32_w]; rfl
                refine done_ (done_of HT_.out (by kernel_rfl)) ?_
                go_wp2
                have n0_ := Aside0.mk (below_step HB.out hb2)
                have n1_ := Aside0.mk (blk_below BA.out hb2)
                clear HB BA
                have HB := n0_
                have BA := n1_
                go_ret
                exact ⟨by rw [HZ.out]; rfl, HB.out⟩
              · have hle1 : decide ((rd_T54 fs i).f0 ≤ (rd_T54 fs (i - 1)).f0) = false := decide_eq_false hle
                have HZ := Aside0.mk (loopTrue HV.out p0 p1 HL1.out.2.2 (by rw [HWa.out, hw, decide_eq_true hz, decide_eq_false (show ¬ i.toNat = 0 by omega), show ((i.toNat - 1 : Nat) : Int) = i - 1 by omega, decide_eq_true (show  (rd_T54 fs (i - 1)).f0 < (rd_T54 fs i).f0 by omega)]; rfl))
                clear HV hw HWa hz h00 hle
                have dr2_ := (hbd.cell (World.block_lt_of_cell? w9 _ r2_)).trans r2_; have dk0_ := (hbd.cell (World.block_lt_of_cell? w9 _ k0_)).trans k0_; have dk1_ := (hbd.cell (World.block_lt_of_cell? w9 _ k1_)).trans k1_; have dg0_ := (hbd.cell (World.block_lt_of_cell? w9 _ g0_)).trans g0_
                refine start_ (n := 26) (S := (fun w' => w'.cell? ⟨ga, 2, none⟩ = some (.slice (some ad) fs.length e) ∧ w'.cell? ⟨gK, 0, none⟩ = some (.int .i64 (rd_T54 fs i).f0) ∧ w'.cell? ⟨gK, 1, none⟩ = some (.string (rd_T54 fs i).f1) ∧ w'.cell? (ad.add ((i.toNat - 1) * 2)) = some (.int .i64 (rd_T54 fs (i - 1)).f0))) (ds := []) #[O,O,O,O,O,O,O,O,O,O,O,O,O,O,O,O,O,O,O,O,O,O,O,O,O,O] (by kernel_rfl) rfl rfl ⟨dr2_, dk0_, dk1_, dg0_⟩ (fun hHeld => ?_); refine with_tabW wfix.r19.tab wfix.r19.bits (fun HT_ HW_ => ?_)
                refine pure_ (i := 0) (N := some 67) (v := ?_) (a' := ?_) #[I,O,O,O,O,O,O,O,O,O,O,O,O,O,O,O,O,O,O,O,O,O,O,O,O,O] rfl rfl (any_of HT_.out (by kernel_rfl)) (fun _ _ _ h => h) (Or.inl ⟨by rfl, ?_⟩) ?_ ?_
                rotate_left; intro w'; go_simp; with_reducible rfl; rotate_left; simp only [Act.put, List.setIfInBounds_toArray, List.set_cons_zero, List.set_cons_succ, i64_w, i32_w]; rfl
                refine take_ (i := 1) (N := some 68) (v := ?_) (a' := ?_) #[I,I,O,O,O,O,O,O,O,O,O,O,O,O,O,O,O,O,O,O,O,O,O,O,O,O] rfl rfl (take_ofW HT_.out HW_.out (by kernel_rfl)) (fun _ _ _ h => h) (Or.inl ⟨by rfl, ?_⟩) hHeld ?_ ?_
                rotate_left; rintro w' ⟨s0, s1, s2, s3⟩; go_simp; with_reducible rfl; rotate_left; simp only [Act.put, List.setIfInBounds_toArray, List.set_cons_zero, List.set_cons_succ, i64_w, i32_w]; rfl
                refine one_ (i := 2) (N := some 69) #[I,I,I,O,O,O,O,O,O,O,O,O,O,O,O,O,O,O,O,O,O,O,O,O,O,O] rfl rfl (one_of HT_.out (by kernel_rfl)) (by decide) (fun K hK => ?_)
                refine goes_ Try.func18 (by kernel_rfl) rfl #[.int .i64 (rd_T54 fs i).f0, .int .i64 1, .int .i64 60] (by rfl) rfl rfl (by (try simp only [List.map_toArray, List.map_cons, List.map_nil]); first | done | rfl) ?_
                with_reducible refine (HC.out _ (below_step HB.out hbd)).mono ?_
                rintro e_ wn ⟨rfl, hb⟩
                have hb2 := below_step hbd hb
                have lr2_ := (hb2.cell (World.block_lt_of_cell? w9 _ r2_)).trans r2_; have lk0_ := (hb2.cell (World.block_lt_of_cell? w9 _ k0_)).trans k0_; have lk1_ := (hb2.cell (World.block_lt_of_cell? w9 _ k1_)).trans k1_; have lg0_ := (hb2.cell (World.block_lt_of_cell? w9 _ g0_)).trans g0_
                refine ⟨_, rfl, ?_⟩
                refine hK.out _ _ ⟨lr2_, lk0_, lk1_, lg0_⟩ (fun hHeld => ?_)
                clear hK K
                refine norm_ (a' := ?_) ?_ ?_
                rotate_left
                · show Act.put _ (some 69) _ = _
                  simp only [Act.put, List.setIfInBounds_toArray, List.set_cons_zero, List.set_cons_succ, i64_w, i32_w]
                  rfl
                refine pure_ (i := 3) (N := some 70) (v := ?_) (a' := ?_) #[I,I,I,I,O,O,O,O,O,O,O,O,O,O,O,O,O,O,O,O,O,O,O,O,O,O] rfl rfl (any_of HT_.out (by kernel_rfl)) (fun _ _ _ h => h) (Or.inl ⟨by rfl, ?_⟩) ?_ ?_
                rotate_left; intro w'; go_simp; with_reducible rfl; rotate_left; simp only [Act.put, List.setIfInBounds_toArray, List.set_cons_zero, List.set_cons_succ, i64_w, i32_w]; rfl
                refine pure_ (i := 4) (N := some 71) (v := ?_) (a' := ?_) #[I,I,I,I,I,O,O,O,O,O,O,O,O,O,O,O,O,O,O,O,O,O,O,O,O,O] rfl rfl (any_of HT_.out (by kernel_rfl)) (fun _ _ _ h => h) (Or.inl ⟨by rfl, ?_⟩) ?_ ?_
                rotate_left; intro w'; go_simp; with_reducible rfl; rotate_left; simp only [Act.put, List.setIfInBounds_toArray, List.set_cons_zero, List.set_cons_succ, i64_w, i32_w]; rfl
                refine pure_ (i := 5) (N := some 72) (v := ?_) (a' := ?_) #[I,I,I,I,I,I,O,O,O,O,O,O,O,O,O,O,O,O,O,O,O,O,O,O,O,O] rfl rfl (any_of HT_.out (by kernel_rfl)) (fun _ _ _ h => h) (Or.inl ⟨by rfl, ?_⟩) ?_ ?_
                rotate_left; intro w'; go_simp; with_reducible rfl; rotate_left; simp only [Act.put, List.setIfInBounds_toArray, List.set_cons_zero, List.set_cons_succ, i64_w, i32_w]; rfl
                refine take_ (i := 6) (N := some 73) (v := ?_) (a' := ?_) #[I,I,I,I,I,I,I,O,O,O,O,O,O,O,O,O,O,O,O,O,O,O,O,O,O,O] rfl rfl (take_ofW HT_.out HW_.out (by kernel_rfl)) (fun _ _ _ h => h) (Or.inl ⟨by rfl, ?_⟩) hHeld ?_ ?_
                rotate_left; rintro w' ⟨s0, s1, s2, s3⟩; go_simp; with_reducible rfl; rotate_left; simp only [Act.put, List.setIfInBounds_toArray, List.set_cons_zero, List.set_cons_succ, i64_w, i32_w]; rfl
                refine pure_ (i := 7) (N := some 74) (v := ?_) (a' := ?_) #[I,I,I,I,I,I,I,I,O,O,O,O,O,O,O,O,O,O,O,O,O,O,O,O,O,O] rfl rfl (any_of HT_.out (by kernel_rfl)) (fun _ _ _ h => h) (Or.inl ⟨by rfl, ?_⟩) ?_ ?_
                rotate_left; intro w'; go_simp; with_reducible rfl; rotate_left; simp only [Act.put, List.setIfInBounds_toArray, List.set_cons_zero, List.set_cons_succ, i64_w, i32_w]; rfl
                refine pure_ (i := 8) (N := some 75) (v := ?_) (a' := ?_) #[I,I,I,I,I,I,I,I,I,O,O,O,O,O,O,O,O,O,O,O,O,O,O,O,O,O] rfl rfl (any_of HT_.out (by kernel_rfl)) (fun _ _ _ h => h) (Or.inl ⟨by rfl, ?_⟩) ?_ ?_
                rotate_left; intro w'; go_simp; with_reducible rfl; rotate_left; simp only [Act.put, List.setIfInBounds_toArray, List.set_cons_zero, List.set_cons_succ, i64_w, i32_w]; rfl
                refine pure_ (i := 9) (N := some 76) (v := ?_) (a' := ?_) #[I,I,I,I,I,I,I,I,I,I,O,O,O,O,O,O,O,O,O,O,O,O,O,O,O,O] rfl rfl (any_of HT_.out (by kernel_rfl)) (fun _ _ _ h => h) (Or.inl ⟨by rfl, ?_⟩) ?_ ?_
                rotate_left; intro w'; go_simp; with_reducible rfl; rotate_left; simp only [Act.put, List.setIfInBounds_toArray, List.set_cons_zero, List.set_cons_succ, i64_w, i32_w]; rfl
                refine pure_ (i := 10) (N := some 77) (v := ?_) (a' := ?_) #[I,I,I,I,I,I,I,I,I,I,I,O,O,O,O,O,O,O,O,O,O,O,O,O,O,O] rfl rfl (any_of HT_.out (by kernel_rfl)) (fun _ _ _ h => h) (Or.inl ⟨by rfl, ?_⟩) ?_ ?_
                rotate_left; intro w'; go_simp; with_reducible rfl; rotate_left; simp only [Act.put, List.setIfInBounds_toArray, List.set_cons_zero, List.set_cons_succ, i64_w, i32_w]; rfl
                refine pure_ (i := 11) (N := some 78) (v := ?_) (a' := ?_) #[I,I,I,I,I,I,I,I,I,I,I,I,O,O,O,O,O,O,O,O,O,O,O,O,O,O] rfl rfl (any_of HT_.out (by kernel_rfl)) (fun _ _ _ h => h) (Or.inl ⟨by rfl, ?_⟩) ?_ ?_
                rotate_left; intro w'; go_simp; with_reducible rfl; rotate_left; simp only [Act.put, List.setIfInBounds_toArray, List.set_cons_zero, List.set_cons_succ, i64_w, i32_w]; rfl
                refine pure_ (i := 12) (N := some 79) (v := ?_) (a' := ?_) #[I,I,I,I,I,I,I,I,I,I,I,I,I,O,O,O,O,O,O,O,O,O,O,O,O,O] rfl rfl (any_of HT_.out (by kernel_rfl)) (fun _ _ _ h => h) (Or.inl ⟨by rfl, ?_⟩) ?_ ?_
                rotate_left; intro w'; go_simp; with_reducible rfl; rotate_left; simp only [Act.put, List.setIfInBounds_toArray, List.set_cons_zero, List.set_cons_succ, i64_w, i32_w]; rfl
                refine pure_ (i := 13) (N := some 80) (v := ?_) (a' := ?_) #[I,I,I,I,I,I,I,I,I,I,I,I,I,I,O,O,O,O,O,O,O,O,O,O,O,O] rfl rfl (any_of HT_.out (by kernel_rfl)) (fun _ _ _ h => h) (Or.inl ⟨by rfl, ?_⟩) ?_ ?_
                rotate_left; intro w'; go_simp; with_reducible rfl; rotate_left; simp only [Act.put, List.setIfInBounds_toArray, List.set_cons_zero, List.set_cons_succ, i64_w, i32_w]; rfl
                refine pure_ (i := 14) (N := some 81) (v := ?_) (a' := ?_) #[I,I,I,I,I,I,I,I,I,I,I,I,I,I,I,O,O,O,O,O,O,O,O,O,O,O] rfl rfl (any_of HT_.out (by kernel_rfl)) (fun _ _ _ h => h) (Or.inl ⟨by rfl, ?_⟩) ?_ ?_
                rotate_left; intro w'; go_simp; with_reducible rfl; rotate_left; simp only [Act.put, List.setIfInBounds_toArray, List.set_cons_zero, List.set_cons_succ, i64_w, i32_w]; rfl
                refine take_ (i := 15) (N := some 82) (v := ?_) (a' := ?_) #[I,I,I,I,I,I,I,I,I,I,I,I,I,I,I,I,O,O,O,O,O,O,O,O,O,O] rfl rfl (take_ofW HT_.out HW_.out (by kernel_rfl)) (fun _ _ _ h => h) (Or.inl ⟨by rfl, ?_⟩) hHeld ?_ ?_
                rotate_left; rintro w' ⟨s0, s1, s2, s3⟩; go_simp; with_reducible rfl; rotate_left; simp only [Act.put, List.setIfInBounds_toArray, List.set_cons_zero, List.set_cons_succ, i64_w, i32_w]; rfl
                refine pure_ (i := 16) (N := some 83) (v := ?_) (a' := ?_) #[I,I,I,I,I,I,I,I,I,I,I,I,I,I,I,I,I,O,O,O,O,O,O,O,O,O] rfl rfl (any_of HT_.out (by kernel_rfl)) (fun _ _ _ h => h) (Or.inl ⟨by rfl, ?_⟩) ?_ ?_
                rotate_left; intro w'; go_simp; with_reducible rfl; rotate_left; simp only [Act.put, List.setIfInBounds_toArray, List.set_cons_zero, List.set_cons_succ, i64_w, i32_w]; rfl
                refine take_ (i := 17) (N := some 84) (v := ?_) (a' := ?_) #[I,I,I,I,I,I,I,I,I,I,I,I,I,I,I,I,I,I,O,O,O,O,O,O,O,O] rfl rfl (take_ofW HT_.out HW_.out (by kernel_rfl)) (fun _ _ _ h => h) (Or.inl ⟨by rfl, ?_⟩) hHeld ?_ ?_
                rotate_left; rintro w' ⟨s0, s1, s2, s3⟩; go_simp; with_reducible rfl; rotate_left; simp only [Act.put, List.setIfInBounds_toArray, List.set_cons_zero, List.set_cons_succ, i64_w, i32_w]; rfl
                refine pure_ (i := 18) (N := some 85) (v := ?_) (a' := ?_) #[I,I,I,I,I,I,I,I,I,I,I,I,I,I,I,I,I,I,I,O,O,O,O,O,O,O] rfl rfl (any_of HT_.out (by kernel_rfl)) (fun _ _ _ h => h) (Or.inl ⟨by rfl, ?_⟩) ?_ ?_
                rotate_left; intro w'; go_simp; with_reducible rfl; rotate_left; simp only [Act.put, List.setIfInBounds_toArray, List.set_cons_zero, List.set_cons_succ, i64_w, i32_w]; rfl
                refine pure_ (i := 19) (N := some 86) (v := ?_) (a' := ?_) #[I,I,I,I,I,I,I,I,I,I,I,I,I,I,I,I,I,I,I,I,O,O,O,O,O,O] rfl rfl (any_of HT_.out (by kernel_rfl)) (fun _ _ _ h => h) (Or.inl ⟨by rfl, ?_⟩) ?_ ?_
                rotate_left; intro w'; go_simp; with_reducible rfl; rotate_left; simp only [Act.put, List.setIfInBounds_toArray, List.set_cons_zero, List.set_cons_succ, i64_w, i32_w]; rfl
                refine pure_ (i := 20) (N := some 87) (v := ?_) (a' := ?_) #[I,I,I,I,I,I,I,I,I,I,I,I,I,I,I,I,I,I,I,I,I,O,O,O,O,O] rfl rfl (any_of HT_.out (by kernel_rfl)) (fun _ _ _ h => h) (Or.inl ⟨by rfl, ?_⟩) ?_ ?_
                rotate_left; intro w'; go_simp; with_reducible rfl; rotate_left; simp only [Act.put, List.setIfInBounds_toArray, List.set_cons_zero, List.set_cons_succ, i64_w, i32_w]; rfl
                refine pure_ (i := 21) (N := some 88) (v := ?_) (a' := ?_) #[I,I,I,I,I,I,I,I,I,I,I,I,I,I,I,I,I,I,I,I,I,I,O,O,O,O] rfl rfl (any_of HT_.out (by kernel_rfl)) (fun _ _ _ h => h) (Or.inl ⟨by rfl, ?_⟩) ?_ ?_
                rotate_left; intro w'; go_simp; with_reducible rfl; rotate_left; simp only [Act.put, List.setIfInBounds_toArray, List.set_cons_zero, List.set_cons_succ, i64_w, i32_w]; rfl
                refine take_ (i := 22) (N := some 89) (v := ?_) (a' := ?_) #[I,I,I,I,I,I,I,I,I,I,I,I,I,I,I,I,I,I,I,I,I,I,I,O,O,O] rfl rfl (take_ofW HT_.out HW_.out (by kernel_rfl)) (fun _ _ _ h => h) (Or.inl ⟨by rfl, ?_⟩) hHeld ?_ ?_
                rotate_left; rintro w' ⟨s0, s1, s2, s3⟩; go_simp; with_reducible rfl; rotate_left; simp only [Act.put, List.setIfInBounds_toArray, List.set_cons_zero, List.set_cons_succ, i64_w, i32_w]; rfl
                refine pure_ (i := 23) (N := some 90) (v := ?_) (a' := ?_) #[I,I,I,I,I,I,I,I,I,I,I,I,I,I,I,I,I,I,I,I,I,I,I,I,O,O] rfl rfl (any_of HT_.out (by kernel_rfl)) (fun _ _ _ h => h) (Or.inl ⟨by rfl, ?_⟩) ?_ ?_
                rotate_left; intro w'; go_simp; with_reducible rfl; rotate_left; simp only [Act.put, List.setIfInBounds_toArray, List.set_cons_zero, List.set_cons_succ, i64_w, i32_w]; rfl
                refine pure_ (i := 24) (N := some 91) (v := ?_) (a' := ?_) #[I,I,I,I,I,I,I,I,I,I,I,I,I,I,I,I,I,I,I,I,I,I,I,I,I,O] rfl rfl (any_of HT_.out (by kernel_rfl)) (fun _ _ _ h => h) (Or.inl ⟨by rfl, ?_⟩) ?_ ?_
                rotate_left; intro w'; go_simp; with_reducible rfl; rotate_left; simp only [Act.put, List.setIfInBounds_toArray, List.set_cons_zero, List.set_cons_succ, i64_w, i32_w]; rfl
                refine pure_ (i := 25) (N := some 92) (v := ?_) (a' := ?_) #[I,I,I,I,I,I,I,I,I,I,I,I,I,I,I,I,I,I,I,I,I,I,I,I,I,I] rfl rfl (any_of HT_.out (by kernel_rfl)) (fun _ _ _ h => h) (Or.inl ⟨by rfl, ?_⟩) ?_ ?_
                rotate_left; intro w'; go_simp; with_reducible rfl; rotate_left; simp only [Act.put, List.setIfInBounds_toArray, List.set_cons_zero, List.set_cons_succ, i64_w, i32_w]; rfl
                refine done_ (done_of HT_.out (by kernel_rfl)) ?_
                go_wp2
                have n0_ := Aside0.mk (below_step HB.out hb2)
                have n1_ := Aside0.mk (blk_below BA.out hb2)
                clear HB BA
                have HB := n0_
                have BA := n1_
                go_roundg gk1
                case measure => omega
                case rel => first | exact ⟨wrap64 (i + 1), rfl, HZ, ⟨by have := HI.out; have := HL1.out; have := HI'.out; rw [wrapIn (by omega) (by omega)]; omega⟩, HB, BA⟩ | exact ⟨i + 1, rfl, by have h_ := HZ; rw [wrapIn (by have := HI.out; omega) (by have := HI.out; have := HL1.out; have := HI'.out; omega)] at h_; exact h_, ⟨by have := HI.out; have := HI'.out; omega⟩, HB, BA⟩
            · have hc : decide (i < (fs.length : Int)) = false := decide_eq_false hi
              have HV' := Aside0.mk (HV.out.trans (by rw [show i.toNat = fs.length by have := HI.out; omega, allFrom_end, Bool.true_and]))
              clear HV
              have HV := HV'
              clear HV' hi HI
              go_wp2
              go_ret
              exact ⟨by rw [HV.out]; rfl, HB.out⟩

end Go.Proofs.Ytjkhlhopfaapmaa.QFnExactRecWorldOk
