/- The law on RecAgree. No condition. -/
import Derived.Test.Ytjeijflpejhkhaaagr2
import Derived.Test.Ytjeijflpejhkhaawsz
import Derived.Test.Ytjeijflpejhkhaawto
import Derived.Test.Ytjeijflpejhkhaaweq
import Derived.Test.Ytjeijflpejhkhaawlaw
namespace Go.Proofs.Ytjeijflpejhkhaa.Sp
open Go Go.RowKit
set_option linter.unusedVariables false
set_option linter.unusedSimpArgs false
set_option maxRecDepth 10000
set_option maxHeartbeats 1000000
theorem law (x : Wld) (i : AtW) (w : World) (h : RoW true w x i) : Calls Try.prog 4 #[.agg (encW x i).toArray] w fun e w' => e = .returned (.bool true) ∧ Below w.heap.size w w' := by
  refine enter Try.func4 rfl Try.ntmps4 [(0, .agg (encW x i).toArray)] rfl ⟨rfl, trivial⟩ ?_
  have HM := Mem.start w
  unfold encW
  repeat (first | (refine gGP ?_; first | refine gp (p_move rfl) ?_ | refine gp (p_assign rfl) ?_ | (refine gGB ?_; refine gp (p_lss rfl rfl) ?_)) | (refine gGV ?_; refine gv (p_loads rfl) ?_) | (refine gL ?_; first | refine s_gp rfl rfl ?_ | refine s_gv HM rfl ?_ | (refine gCall ?_; (refine s_fn rfl rfl ?_; (go_at_call 5; refine (szW x i h 1048576 (by omega) (by omega) HM).mono ?_; rintro e W1 ⟨r, rfl, hr, HM1⟩; refine ⟨_, rfl, ?_⟩; clear HM; have HM := HM1; clear HM1))) | (refine s_box HM rfl rfl ?_; intro g W1 HM1; clear HM; have HM := HM1; clear HM1) | refine l_nil ?_) | (refine gC ?_; first | refine c_seq ?_ | refine c_region ?_) | (refine gN ?_; refine n_then ?_))
  by_cases hz : r < 0
  · repeat (first | (refine gGP ?_; refine gp (p_assign rfl) ?_) | (refine gL ?_; first | refine s_gp rfl rfl ?_ | refine l_nil ?_) | (refine gC ?_; first | refine c_seq ?_ | refine c_region ?_ | refine c_ret ?_ | refine c_yes rfl (by (simp; omega)) ?_) | (refine gN ?_; first | refine n_then ?_ | refine r_then ?_))
    exact ret_tmp rfl rfl ⟨rfl, HM.below⟩
  have hn := hr (by omega)
  repeat (first | (refine gR ?_; refine d_start [] [(1, 0), (1, 1), (2, 2), (2, 3), (0, 4)] HM (by kernel_rfl) (by kernel_rfl) (by repeat (first | exact qp_body | refine qp_then ?_ | refine qp_block ?_)) (by kernel_rfl) rfl ?_; intro HQ HS W1 HM1; clear HM; have HM := HM1; clear HM1) | (refine gGP ?_; first | refine gp (p_move rfl) ?_ | refine gp (p_assign rfl) ?_ | (refine gGB ?_; refine gp (p_bneq rfl rfl) ?_) | refine gp (p_not rfl) ?_) | (refine gGV ?_; refine gv (p_loads rfl) ?_) | (refine gL ?_; first | refine s_gp rfl rfl ?_ | refine s_gv HM rfl ?_ | (refine gStore ?_; (refine s_store HM rfl rfl rfl rfl ?_; intro W1 HM1; clear HM; have HM := HM1; clear HM1)) | (refine gCall ?_; (refine s_fn rfl rfl ?_; first | (go_at_call 7; refine (toW x i h hn HM).mono ?_; rintro e W1 ⟨j, rfl, HM1⟩; refine ⟨_, rfl, ?_⟩; clear HM; have HM := HM1; clear HM1; simp only [partW, List.cons_append, List.nil_append] at HM; simp only [encW]) | (go_at_call 10; refine (specAgree x _ (by exact ro_w1 (eS := 80) (eM := 77) (eT := 9) (eI := 3) (eA := 107) (eR := 58) (eF := 78) HM) hn (Mem.start _)).mono ?_; rintro e W1 ⟨b1, rfl, hm1, HM1⟩; refine ⟨_, rfl, ?_⟩; have HM2 := HM.step HM1.below; clear HM HM1; have HM := HM2; clear HM2) | (go_at_call 11; refine (implAgree x _ (by exact ro_w1 (eS := 80) (eM := 77) (eT := 9) (eI := 3) (eA := 107) (eR := 58) (eF := 78) HM) hn (Mem.start _)).mono ?_; rintro e W1 ⟨b2, rfl, hm2, HM1⟩; obtain rfl : b2 = b1 := Bool.eq_iff_iff.2 (hm2.trans hm1.symm); refine ⟨_, rfl, ?_⟩; have HM2 := HM.step HM1.below; clear HM HM1; have HM := HM2; clear HM2) | (go_at_call 9; refine (eqW (b := false) x _ _ (by exact ro_w1 (eS := 80) (eM := 77) (eT := 9) (eI := 3) (eA := 107) (eR := 58) (eF := 78) HM) (by exact ro_w1 (eS := 80) (eM := 77) (eT := 9) (eI := 3) (eA := 107) (eR := 58) (eF := 78) HM) (Mem.start _)).mono ?_; rintro e W1 ⟨rfl, HM1⟩; refine ⟨_, rfl, ?_⟩; have HM2 := HM.step HM1.below; clear HM HM1; have HM := HM2; clear HM2))) | (refine s_alloc HM rfl ?_; intro g W1 HM1; clear HM; have HM := HM1; clear HM1) | refine l_nil ?_) | (refine gC ?_; first | refine c_seq ?_ | refine c_region ?_ | refine c_skip ?_ | refine c_ret ?_ | refine c_no rfl (by first | rfl | (simp; done) | (simp; omega)) ?_) | (refine gN ?_; first | refine n_then ?_ | refine d_back (by (show Mem _ _ _; exact HM.sb)) ?_) | (refine gD ?_; first | refine d_next rfl ?_ | refine d_done ?_) | (refine gO ?_; first | refine d_gp HQ HS rfl ?_ | refine d_gv HQ HS rfl ?_ | refine d_one ?_))
  exact ret_tmp rfl rfl ⟨rfl, HM.below⟩
end Go.Proofs.Ytjeijflpejhkhaa.Sp
