/- eq of worlds. No condition. -/
import Derived.Test.Ytjeijflpejhkhaawd
import Derived.Test.Ytjeijflpejhkhaato
import Derived.Test.Ytjeijflpejhkhaaeqs
namespace Go.Proofs.Ytjeijflpejhkhaa.Sp
open Go Go.RowKit
set_option linter.unusedVariables false
set_option linter.unusedSimpArgs false
set_option maxRecDepth 10000
set_option maxHeartbeats 1000000
variable {w0 W : World} {L : List Asn} {A B : Option Addr} {c c' : Nat} {b : Bool}
theorem eqFix (x : Fix)  (HM : Mem w0 W L) : Calls Try.prog 42 #[.agg (encFix x ()).toArray, .agg (encFix x ()).toArray] W fun e W' => e = .returned (.bool true) ∧ Mem w0 W' L := by
  refine enter Try.func42 rfl Try.ntmps42 [(0, .agg (encFix x ()).toArray), (1, .agg (encFix x ()).toArray)] rfl ⟨rfl, rfl, trivial⟩ ?_
  unfold encFix
  repeat (first | (refine gGP ?_; first | refine gp (p_assign rfl) ?_ | (refine gGB ?_; first | refine gp (p_neq rfl rfl) ?_ | refine gp (p_sneq rfl rfl) ?_) | refine gp (p_field rfl (by simp only [Nat.reduceAdd]; rfl)) ?_) | (refine gGV ?_; refine gv (p_load rfl) ?_) | (refine gL ?_; first | refine s_gp rfl rfl ?_ | refine s_gv HM rfl ?_ | (refine s_box HM rfl rfl ?_; intro g W1 HM1; clear HM; have HM := HM1; clear HM1) | refine l_nil ?_) | (refine gC ?_; first | refine c_seq ?_ | refine c_region ?_ | refine c_skip ?_ | refine c_ret ?_ | refine c_no rfl (by first | (simp; done) | fail) ?_) | (refine gN ?_; refine n_then ?_))
  exact ret_tmp rfl rfl ⟨rfl, HM.sb⟩

theorem eqFixS {xs : List Fix} (h1 : RoRow (rFix b) w0 A xs) (h2 : RoRow (rFix b) w0 B xs) (HM : Mem w0 W L) : Calls Try.prog 24 #[.slice A xs.length c, .slice B xs.length c'] W fun e W' => e = .returned (.bool true) ∧ Mem w0 W' L := by
  refine enter Try.func24 rfl Try.ntmps24 [(0, _), (1, _)] rfl ⟨rfl, rfl, trivial⟩ ?_
  have hmax := h1.max
  replace HM := (HM.pur h1).pur h2
  repeat (first | (refine gGP ?_; first | refine gp (p_move rfl) ?_ | refine gp (p_assign rfl) ?_ | (refine gGB ?_; refine gp (p_neq rfl rfl) ?_) | refine gp (p_len rfl) ?_) | (refine gL ?_; first | refine s_gp rfl rfl ?_ | refine l_nil ?_) | (refine gC ?_; first | refine c_seq ?_ | refine c_region ?_ | refine c_block ?_ | refine c_skip ?_ | refine c_no rfl (by first | rfl | (simp; done) | fail) ?_) | (refine gN ?_; refine n_then ?_))
  refine c_loop (σ := Nat) (fun i => [(0, .slice A xs.length c), (1, .slice B xs.length c'), (5, .int .i64 i)]) (fun i W1 => i ≤ xs.length ∧ Mem w0 W1 (ro (rFix b) w0 B xs :: ro (rFix b) w0 A xs :: L)) (fun i => xs.length - i) 0 (by repeat (first | exact trivial | refine And.intro (by first | rfl | exact look_int rfl (by omega)) ?_)) ⟨Nat.zero_le _, HM⟩ ?_
  clear HM
  rintro i W1 ⟨hi, HM⟩
  by_cases hlt : i < xs.length
  · obtain ⟨cc, ⟨j1, rfl, g1⟩, HM⟩ := HM.roOpen (A := A) i hlt
    obtain ⟨cc, ⟨j2, rfl, g2⟩, HM⟩ := HM.roOpen (A := B) i hlt
    repeat (first | (refine gR ?_; refine d_start [] [(0, 0), (0, 1), (0, 2), (0, 4), (0, 5), (0, 6), (1, 3), (1, 7), (2, 8), (0, 9)] HM (by kernel_rfl) (by kernel_rfl) (by repeat (first | exact qp_body | refine qp_then ?_ | refine qp_block ?_)) (by kernel_rfl) rfl ?_; intro HQ HS W1 HM1; clear HM; have HM := HM1; clear HM1) | (refine gGP ?_; first | refine gp (p_move rfl) ?_ | refine gp (p_assign rfl) ?_ | (refine gGB ?_; first | refine gp (p_lss rfl rfl) ?_ | refine gp (p_add rfl rfl (by exact wr (by omega) (by omega))) ?_) | refine gp (p_indexr HM rfl (by first | with_reducible rfl | omega) rfl (by omega) (by omega)) ?_ | refine gp (p_len rfl) ?_ | refine gp (p_not rfl) ?_) | (refine gGV ?_; refine gv (p_loadwr rfl rfl rfl) ?_) | (refine gL ?_; first | refine s_gp rfl rfl ?_ | (refine gCall ?_; (refine s_fn rfl rfl ?_; (go_at_call 42; refine (eqFix _ HM).mono ?_; rintro e W1 ⟨rfl, HM1⟩; refine ⟨_, rfl, ?_⟩; clear HM; have HM := HM1; clear HM1))) | refine l_nil ?_) | (refine gC ?_; first | refine c_seq ?_ | refine c_region ?_ | refine c_block ?_ | refine c_skip ?_ | refine c_yes rfl (by (simp; omega)) ?_ | refine c_no rfl (by rfl) ?_) | (refine gN ?_; first | refine n_then ?_ | refine n_block ?_ | refine d_back (by exact HM) ?_) | (refine gD ?_; first | refine d_next rfl ?_ | refine d_done ?_) | (refine gO ?_; first | refine d_gp HQ HS rfl ?_ | refine d_gv HQ HS rfl ?_ | refine d_one ?_))
    exact n_round (i + 1) (by repeat (first | exact trivial | refine And.intro (by first | rfl | exact look_int rfl (by omega)) ?_)) ⟨by omega, HM.sb⟩ (by omega)
  · repeat (first | (refine gGP ?_; first | refine gp (p_move rfl) ?_ | refine gp (p_assign rfl) ?_ | (refine gGB ?_; refine gp (p_lss rfl rfl) ?_) | refine gp (p_len rfl) ?_) | (refine gL ?_; first | refine s_gp rfl rfl ?_ | refine l_nil ?_) | (refine gC ?_; first | refine c_seq ?_ | refine c_region ?_ | refine c_exit ?_ | refine c_ret ?_ | refine c_no rfl (by (simp; omega)) ?_) | (refine gN ?_; first | refine n_then ?_ | refine x_then ?_ | refine x_here ?_))
    exact ret_tmp rfl rfl ⟨rfl, HM.sb⟩

theorem eqRcdS {xs : List Rcd} (h1 : RoRow (rRcw b) w0 A xs) (h2 : RoRow (rRcw b) w0 B xs) (HM : Mem w0 W L) : Calls Try.prog 22 #[.slice A xs.length c, .slice B xs.length c'] W fun e W' => e = .returned (.bool true) ∧ Mem w0 W' L := by
  refine enter Try.func22 rfl Try.ntmps22 [(0, _), (1, _)] rfl ⟨rfl, rfl, trivial⟩ ?_
  have hmax := h1.max
  replace HM := (HM.pur h1).pur h2
  repeat (first | (refine gGP ?_; first | refine gp (p_move rfl) ?_ | refine gp (p_assign rfl) ?_ | (refine gGB ?_; refine gp (p_neq rfl rfl) ?_) | refine gp (p_len rfl) ?_) | (refine gL ?_; first | refine s_gp rfl rfl ?_ | refine l_nil ?_) | (refine gC ?_; first | refine c_seq ?_ | refine c_region ?_ | refine c_block ?_ | refine c_skip ?_ | refine c_no rfl (by first | rfl | (simp; done) | fail) ?_) | (refine gN ?_; refine n_then ?_))
  refine c_loop (σ := Nat) (fun i => [(0, .slice A xs.length c), (1, .slice B xs.length c'), (5, .int .i64 i)]) (fun i W1 => i ≤ xs.length ∧ Mem w0 W1 (ro (rRcw b) w0 B xs :: ro (rRcw b) w0 A xs :: L)) (fun i => xs.length - i) 0 (by repeat (first | exact trivial | refine And.intro (by first | rfl | exact look_int rfl (by omega)) ?_)) ⟨Nat.zero_le _, HM⟩ ?_
  clear HM
  rintro i W1 ⟨hi, HM⟩
  by_cases hlt : i < xs.length
  · obtain ⟨cc, ⟨j1, rfl, g1⟩, HM⟩ := HM.roOpen (A := A) i hlt
    obtain ⟨cc, ⟨j2, rfl, g2⟩, HM⟩ := HM.roOpen (A := B) i hlt
    repeat (first | (refine gR ?_; refine d_start [] [(0, 0), (0, 1), (0, 2), (0, 4), (0, 5), (0, 6), (1, 3), (1, 7), (2, 8), (0, 9)] HM (by kernel_rfl) (by kernel_rfl) (by repeat (first | exact qp_body | refine qp_then ?_ | refine qp_block ?_)) (by kernel_rfl) rfl ?_; intro HQ HS W1 HM1; clear HM; have HM := HM1; clear HM1) | (refine gGP ?_; first | refine gp (p_move rfl) ?_ | refine gp (p_assign rfl) ?_ | (refine gGB ?_; first | refine gp (p_lss rfl rfl) ?_ | refine gp (p_add rfl rfl (by exact wr (by omega) (by omega))) ?_) | refine gp (p_indexr HM rfl (by first | with_reducible rfl | omega) rfl (by omega) (by omega)) ?_ | refine gp (p_len rfl) ?_ | refine gp (p_not rfl) ?_) | (refine gGV ?_; refine gv (p_loadwr rfl rfl rfl) ?_) | (refine gL ?_; first | refine s_gp rfl rfl ?_ | (refine gCall ?_; (refine s_fn rfl rfl ?_; (go_at_call 40; refine (eqRcd _ _ _ g1.ro g2.ro HM).mono ?_; rintro e W1 ⟨rfl, HM1⟩; refine ⟨_, rfl, ?_⟩; clear HM; have HM := HM1; clear HM1))) | refine l_nil ?_) | (refine gC ?_; first | refine c_seq ?_ | refine c_region ?_ | refine c_block ?_ | refine c_skip ?_ | refine c_yes rfl (by (simp; omega)) ?_ | refine c_no rfl (by rfl) ?_) | (refine gN ?_; first | refine n_then ?_ | refine n_block ?_ | refine d_back (by exact HM) ?_) | (refine gD ?_; first | refine d_next rfl ?_ | refine d_done ?_) | (refine gO ?_; first | refine d_gp HQ HS rfl ?_ | refine d_gv HQ HS rfl ?_ | refine d_one ?_))
    exact n_round (i + 1) (by repeat (first | exact trivial | refine And.intro (by first | rfl | exact look_int rfl (by omega)) ?_)) ⟨by omega, HM.sb⟩ (by omega)
  · repeat (first | (refine gGP ?_; first | refine gp (p_move rfl) ?_ | refine gp (p_assign rfl) ?_ | (refine gGB ?_; refine gp (p_lss rfl rfl) ?_) | refine gp (p_len rfl) ?_) | (refine gL ?_; first | refine s_gp rfl rfl ?_ | refine l_nil ?_) | (refine gC ?_; first | refine c_seq ?_ | refine c_region ?_ | refine c_exit ?_ | refine c_ret ?_ | refine c_no rfl (by (simp; omega)) ?_) | (refine gN ?_; first | refine n_then ?_ | refine x_then ?_ | refine x_here ?_))
    exact ret_tmp rfl rfl ⟨rfl, HM.sb⟩

theorem eqW (x : Wld) (i j : AtW) (h1 : RoW b w0 x i) (h2 : RoW b w0 x j) (HM : Mem w0 W L) : Calls Try.prog 9 #[.agg (encW x i).toArray, .agg (encW x j).toArray] W fun e W' => e = .returned (.bool true) ∧ Mem w0 W' L := by
  refine enter Try.func9 rfl Try.ntmps9 [(0, .agg (encW x i).toArray), (1, .agg (encW x j).toArray)] rfl ⟨rfl, rfl, trivial⟩ ?_
  unfold encW
  repeat (first | (refine gGP ?_; first | refine gp (p_assign rfl) ?_ | refine gp (p_field rfl (by simp only [Nat.reduceAdd]; rfl)) ?_ | refine gp (p_not rfl) ?_) | (refine gGV ?_; refine gv (p_load rfl) ?_) | (refine gL ?_; first | refine s_gp rfl rfl ?_ | refine s_gv HM rfl ?_ | (refine gCall ?_; (refine s_fn rfl rfl ?_; first | (go_at_call 22; refine (eqRcdS h1.recs h2.recs HM).mono ?_; rintro e W1 ⟨rfl, HM1⟩; refine ⟨_, rfl, ?_⟩; clear HM; have HM := HM1; clear HM1) | (go_at_call 23; refine (eqMsgS h1.flight h2.flight HM).mono ?_; rintro e W1 ⟨rfl, HM1⟩; refine ⟨_, rfl, ?_⟩; clear HM; have HM := HM1; clear HM1) | (go_at_call 24; refine (eqFixS h1.fixed h2.fixed HM).mono ?_; rintro e W1 ⟨rfl, HM1⟩; refine ⟨_, rfl, ?_⟩; clear HM; have HM := HM1; clear HM1))) | (refine s_box HM rfl rfl ?_; intro g W1 HM1; clear HM; have HM := HM1; clear HM1) | refine l_nil ?_) | (refine gC ?_; first | refine c_seq ?_ | refine c_region ?_ | refine c_skip ?_ | refine c_ret ?_ | refine c_no rfl (by rfl) ?_) | (refine gN ?_; refine n_then ?_))
  exact ret_tmp rfl rfl ⟨rfl, HM.sb⟩
end Go.Proofs.Ytjeijflpejhkhaa.Sp
