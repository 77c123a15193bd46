/- The law on RecBook. No condition. -/
import Derived.Test.Ythadgbaoimbaoaabook2
import Derived.Test.Ythadgbaoimbaoaato
import Derived.Test.Ythadgbaoimbaoaaeqs
import Derived.Test.Ythadgbaoimbaoaamark
import Derived.Test.YthadgbaoimbaoaaSpLaw
namespace Go.Proofs.Ythadgbaoimbaoaa.Sp
open Go Go.RowKit
set_option linter.unusedVariables false
set_option linter.unusedSimpArgs false
set_option maxRecDepth 10000
set_option maxHeartbeats 4000000
theorem bookL_len (x : Rcd) : (bookL x).length ≤ 1048576 := by
  unfold bookL
  split
  · rename_i h; have := disk_of_valid h; simp; omega
  · simp
theorem heldStr2 {w0 W : World} {L : List Asn} {A : Option Addr} {c n : Nat} {xs : List ByteArray} (hl : xs.length = n) (hn : n ≤ 1048576) (hy : ∀ j : Nat, j < n → rd tStr xs j = mt (1 + (j : Int)).toNat) (HM : Mem w0 W (own tStr 9 A c xs :: L)) :
    Calls Try.prog 12 #[.slice A n c, .int .i64 1] W fun e W' => e = .returned (.int .i64 (1 + n)) ∧ Mem w0 W' (own tStr 9 A c xs :: L) := by
  subst hl
  exact heldStrS 1 (by omega) (by omega) hn hy HM
theorem law (x : Rcd) (i : AtRcd) (w : World) (h : RoRcd true w x i) : Calls Try.prog 3 #[.agg (encRcd x i).toArray] w fun e w' => e = .returned (.bool true) ∧ Below w.heap.size w w' := by
  refine enter Try.func3 rfl Try.ntmps3 [(0, .agg (encRcd x i).toArray)] rfl ⟨rfl, trivial⟩ ?_
  have HM := Mem.start w
  unfold encRcd
  repeat (first | (refine gGP ?_; first | refine gp (p_move rfl) ?_ | refine gp (p_assign rfl) ?_ | (refine gGB ?_; refine gp (p_lss rfl rfl) ?_)) | (refine gGV ?_; refine gv (p_loads rfl) ?_) | (refine gL ?_; first | refine s_gp rfl rfl ?_ | refine s_gv HM rfl ?_ | (refine gCall ?_; (refine s_fn rfl rfl ?_; (go_at_call 4; refine (szRec x i h 1048576 (by omega) (by omega) HM).mono ?_; rintro e W1 ⟨r, rfl, hr, HM1⟩; refine ⟨_, rfl, ?_⟩; clear HM; have HM := HM1; clear HM1))) | (refine s_box HM rfl rfl ?_; intro g W1 HM1; clear HM; have HM := HM1; clear HM1) | refine l_nil ?_) | (refine gC ?_; first | refine c_seq ?_ | refine c_region ?_) | (refine gN ?_; refine n_then ?_))
  by_cases hz : r < 0
  · repeat (first | (refine gGP ?_; refine gp (p_assign rfl) ?_) | (refine gL ?_; first | refine s_gp rfl rfl ?_ | refine l_nil ?_) | (refine gC ?_; first | refine c_seq ?_ | refine c_region ?_ | refine c_ret ?_ | refine c_yes rfl (by (simp; omega)) ?_) | (refine gN ?_; first | refine n_then ?_ | refine r_then ?_))
    exact ret_tmp rfl rfl ⟨rfl, HM.below⟩
  have hn := hr (by omega)
  repeat (first | (refine gR ?_; refine d_start [] [(1, 0), (1, 1), (2, 2), (2, 3), (0, 4)] HM (by kernel_rfl) (by kernel_rfl) (by repeat (first | exact qp_body | refine qp_then ?_ | refine qp_block ?_)) (by kernel_rfl) rfl ?_; intro HQ HS W1 HM1; clear HM; have HM := HM1; clear HM1) | (refine gGP ?_; first | refine gp (p_move rfl) ?_ | refine gp (p_assign rfl) ?_ | (refine gGB ?_; first | refine gp (p_lss rfl rfl) ?_ | refine gp (p_neq rfl rfl) ?_) | refine gp (p_not rfl) ?_ | refine gp (p_pick0 rfl (by (simp; omega)) rfl) ?_) | (refine gGV ?_; refine gv (p_loads rfl) ?_) | (refine gL ?_; first | refine s_gp rfl rfl ?_ | refine s_gv HM rfl ?_ | (refine gStore ?_; (refine s_store HM rfl rfl rfl rfl ?_; intro W1 HM1; clear HM; have HM := HM1; clear HM1)) | (refine gCall ?_; (refine s_fn rfl rfl ?_; first | (go_at_call 6; refine (toRec x i h hn HM).mono ?_; rintro e W1 ⟨j, rfl, HM1⟩; refine ⟨_, rfl, ?_⟩; clear HM; have HM := HM1; clear HM1; simp only [partRcd, List.cons_append, List.nil_append] at HM; simp only [encRcd]) | (go_at_call 5; have ⟨hro, hcd, hcw⟩ := ro_rec (eS := 53) (eM := 84) (eT := 9) (eI := 3) (eA := 90) (x := x) (i := j) HM.sb; refine (specBook x j hro hn (Mem.start _)).mono ?_; rintro e W1 ⟨A0, c0, rfl, HM1⟩; refine ⟨_, rfl, ?_⟩; replace HM := HM.join HM1; clear HM1; simp only [List.cons_append, List.nil_append] at HM) | (go_at_call 7; have ⟨hro, hcd, hcw⟩ := ro_rec (eS := 53) (eM := 84) (eT := 9) (eI := 3) (eA := 90) (x := x) (i := j) HM.sb; refine (implBook x j hro hcw hcd hn (Mem.start _)).mono ?_; rintro e W1 ⟨A1, c1, rfl, HM1⟩; refine ⟨_, rfl, ?_⟩; replace HM := HM.join HM1; clear HM1; simp only [List.cons_append, List.nil_append] at HM) | (go_at_call 8; obtain ⟨F0, hF0⟩ := HM.own (A := A0); obtain ⟨F1, hF1⟩ := HM.own (A := A1); refine (eqStrS (ro_strs hF1) (ro_strs hF0) (Mem.start _)).mono ?_; clear hF0 hF1; rintro e W1 ⟨rfl, HM1⟩; refine ⟨_, rfl, ?_⟩; have HM2 := HM.step HM1.below; clear HM HM1; have HM := HM2; clear HM2) | (go_at_call 9; refine (eqRcd (b := false) x _ _ (by exact ro_rec1 (eS := 53) (eM := 84) (eT := 9) (eI := 3) (eA := 90) HM) (by exact ro_rec1 (eS := 53) (eM := 84) (eT := 9) (eI := 3) (eA := 90) HM) (Mem.start _)).mono ?_; rintro e W1 ⟨rfl, HM1⟩; refine ⟨_, rfl, ?_⟩; have HM2 := HM.step HM1.below; clear HM HM1; have HM := HM2; clear HM2) | (go_at_call 10; refine (markRec x _ 1 (by omega) (by omega) hn (by exact pk_rec HM)).mono ?_; rintro e W1 ⟨mk, rfl, mk0, HM1⟩; refine ⟨_, rfl, ?_⟩; clear HM; have HM := HM1; clear HM1) | (go_at_call 11; refine (markStrS 1 (by omega) (by omega) (bookL_len x) HM.pk).mono ?_; rintro e W1 ⟨ys, rfl, hyl, hyv, HM1⟩; refine ⟨_, rfl, ?_⟩; clear HM; have HM := HM1; clear HM1) | (go_at_call 12; refine (heldStr2 hyl (bookL_len x) hyv HM.pk).mono ?_; rintro e W1 ⟨rfl, HM1⟩; refine ⟨_, rfl, ?_⟩; clear HM; have HM := HM1; clear HM1))) | (refine s_alloc HM rfl ?_; intro g W1 HM1; clear HM; have HM := HM1; clear HM1) | refine l_nil ?_ | refine s_guard_on rfl rfl rfl rfl (by (simp; omega)) ?_) | (refine gC ?_; first | refine c_seq ?_ | refine c_region ?_ | refine c_skip ?_ | refine c_ret ?_ | refine c_no rfl (by first | rfl | (simp; done) | (simp; omega)) ?_) | (refine gN ?_; first | refine n_then ?_ | refine d_back (by (show Mem _ _ _; exact HM.sb)) ?_) | (refine gD ?_; first | refine d_next rfl ?_ | refine d_done ?_) | (refine gO ?_; first | refine d_gp HQ HS rfl ?_ | refine d_gv HQ HS rfl ?_ | refine d_one ?_))
  exact ret_tmp rfl rfl ⟨rfl, HM.below⟩
end Go.Proofs.Ythadgbaoimbaoaa.Sp
