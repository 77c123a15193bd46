/- RecBook of both sides. No condition. -/
import Derived.Test.Ytjeijflpejhkhaaval4
import Derived.Test.YtjeijflpejhkhaaSpLit
namespace Go.Proofs.Ytjeijflpejhkhaa.Sp
open Go Go.RowKit
set_option linter.unusedVariables false
set_option linter.unusedSimpArgs false
set_option maxRecDepth 10000
set_option maxHeartbeats 4000000
variable {w0 W : World} {L : List Asn}
def bookL (x : Rcd) : List ByteArray := if validB x = true then (x.ds.take x.dk.toNat).map (fun s => s.text) else []
theorem disk_of_valid {x : Rcd} (h : validB x = true) : (0 ≤ x.dk ∧ x.dk ≤ x.ds.length) ∧ x.ds.length ≤ 60 := by
  simp only [validB, headB, diskB, slotsB, Bool.and_eq_true, decide_eq_true_eq] at h
  omega
theorem specBook (x : Rcd) (i : AtRcd) (h : RoRcd false w0 x i) (hn : SmallR x) (HM : Mem w0 W L) : Calls Try.prog 25 #[.agg (encRcd x i).toArray] W fun e W' => ∃ A c, e = .returned (.slice A (bookL x).length c) ∧ Mem w0 W' (own tStr 9 A c (bookL x) :: L) := by
  refine enter Try.func25 rfl Try.ntmps25 [(0, .agg (encRcd x i).toArray)] rfl ⟨rfl, trivial⟩ ?_
  have h0 := h
  unfold encRcd
  replace HM := HM.pur h.ds
  by_cases hv : validB x = true
  rotate_left
  · simp only [Bool.not_eq_true] at hv
    repeat (first | (refine s_lit0 tStr HM rfl rfl ?_; intro A1 W1 HM1; clear HM; have HM := HM1; clear HM1) | (refine gGP ?_; first | refine gp (p_move rfl) ?_ | refine gp (p_assign rfl) ?_ | refine gp (p_not rfl) ?_) | (refine gGV ?_; refine gv (p_loads rfl) ?_) | (refine gL ?_; first | refine s_gp rfl rfl ?_ | refine s_gv HM rfl ?_ | (refine gCall ?_; (refine s_fn rfl rfl ?_; (go_at_call 32; refine (specValid x i h0 hn HM).mono ?_; rintro e W1 ⟨rfl, HM1⟩; refine ⟨_, rfl, ?_⟩; clear HM; have HM := HM1; clear HM1))) | (refine s_box HM rfl rfl ?_; intro g W1 HM1; clear HM; have HM := HM1; clear HM1) | refine l_nil ?_) | (refine gC ?_; first | refine c_seq ?_ | refine c_region ?_ | refine c_ret ?_ | refine c_yes rfl (by (simp; omega)) ?_) | (refine gN ?_; first | refine n_then ?_ | refine r_then ?_))
    have e : bookL x = [] := by simp [bookL, hv]
    exact ret_tmp rfl rfl ⟨A1, 0, by rw [e]; rfl, by rw [e]; exact HM.sb⟩
  obtain ⟨⟨hk0, hk1⟩, hd⟩ := disk_of_valid hv
  repeat (first | (refine s_lit0 tStr HM rfl rfl ?_; intro A1 W1 HM1; clear HM; have HM := HM1; clear HM1) | (refine gGP ?_; first | refine gp (p_assign rfl) ?_ | refine gp (p_not rfl) ?_) | (refine gGV ?_; refine gv (p_loads rfl) ?_) | (refine gL ?_; first | refine s_gp rfl rfl ?_ | refine s_gv HM rfl ?_ | (refine gCall ?_; (refine s_fn rfl rfl ?_; (go_at_call 32; refine (specValid x i h0 hn HM).mono ?_; rintro e W1 ⟨rfl, HM1⟩; refine ⟨_, rfl, ?_⟩; clear HM; have HM := HM1; clear HM1))) | (refine s_box HM rfl rfl ?_; intro g W1 HM1; clear HM; have HM := HM1; clear HM1) | refine l_nil ?_) | (refine gC ?_; first | refine c_seq ?_ | refine c_region ?_ | refine c_block ?_ | refine c_skip ?_ | refine c_no rfl (by first | rfl | (simp; omega)) ?_) | (refine gN ?_; refine n_then ?_))
  refine c_loop2 (σ := Nat) (fun k A c => [(1, .pointer (some ⟨g, 0, none⟩)), (3, .slice A k c), (4, .int .i64 k)]) (fun k A c W => k ≤ x.dk.toNat ∧ ∃ ys : List ByteArray, ys.length = k ∧ ys = (x.ds.take k).map (fun s => s.text) ∧ Mem w0 W (own tStr 9 A c ys :: box g 58 [.int .i64 x.number, .int .i64 x.of, .bool x.up, .int .i64 x.sp, .int .i64 x.sk, .slice i.a0.1 x.ss.length i.a0.2, .int .i64 x.dp, .int .i64 x.dk, .slice i.a1.1 x.ds.length i.a1.2, .slice i.a2.1 x.held.length i.a2.2, .slice i.a3.1 x.wishes.length i.a3.2, .bool x.lead, .bool x.trying, .int .i64 x.ballot, .slice i.a4.1 x.yes.length i.a4.2, .slice i.a5.1 x.best.length i.a5.2, .slice i.a6.1 x.acks.length i.a6.2, .int .i64 x.heard] :: ro (rSlot false) w0 i.a1.1 x.ds :: L)) (fun k => x.dk.toNat - k) 0 A1 0 (by repeat (first | exact trivial | refine And.intro (by first | rfl | exact look_int rfl (by omega)) ?_)) ⟨Nat.zero_le _, [], rfl, rfl, HM⟩ ?_
  clear HM
  rintro k A c W ⟨hk, ys, hl, hy, HM⟩
  by_cases hlt : k < x.dk.toNat
  · have hlt2 : (k : Int) < x.dk := by omega
    repeat (first | (refine gGP ?_; first | refine gp (p_move rfl) ?_ | refine gp (p_assign rfl) ?_ | (refine gGB ?_; first | refine gp (p_lss rfl rfl) ?_ | refine gp (p_add rfl rfl (by exact wr (by omega) (by omega))) ?_) | refine gp (p_field rfl (by simp only [Nat.reduceAdd]; rfl)) ?_ | refine gp (p_fieldo rfl (by simp only [Nat.reduceAdd]; rfl)) ?_ | refine gp (p_indexr HM rfl (by first | with_reducible rfl | omega) rfl (by omega) (by omega)) ?_) | (refine gGV ?_; first | refine gv (p_load rfl) ?_ | refine gv (p_loadr rfl rfl (by omega) (by omega) rfl) ?_) | (refine gL ?_; first | refine s_gp rfl rfl ?_ | refine s_gv HM rfl ?_ | (refine gCall ?_; (refine s_append1 HM rfl rfl (by omega) rfl rfl (by omega) rfl ?_; intro A1 c1 W1 HM1; clear HM; have HM := HM1; clear HM1)) | (refine s_lit1 HM rfl rfl rfl ?_; intro g W1 HM1; clear HM; have HM := HM1; clear HM1) | refine l_nil ?_) | (refine gC ?_; first | refine c_seq ?_ | refine c_region ?_ | refine c_block ?_ | refine c_skip ?_ | refine c_yes rfl (by (simp; omega)) ?_) | (refine gN ?_; first | refine n_then ?_ | refine n_block ?_))
    have e1 : (ys ++ [(rdR (rSlot false) x.ds k).text]).length = k + 1 := by simp [hl]
    rw [e1]
    exact n_round2 (k + 1) A1 c1 (by repeat (first | exact trivial | refine And.intro (by first | rfl | exact look_int rfl (by omega)) ?_)) ⟨by omega, _, e1, by rw [hy, rdR_at (by omega), List.take_succ_eq_append_getElem (by omega), List.map_append]; rfl, HM.sb⟩ (by omega)
  · have hlt2 : ¬ (k : Int) < x.dk := by omega
    repeat (first | (refine gGP ?_; first | refine gp (p_move rfl) ?_ | refine gp (p_assign rfl) ?_ | (refine gGB ?_; refine gp (p_lss rfl rfl) ?_) | refine gp (p_field rfl (by simp only [Nat.reduceAdd]; rfl)) ?_) | (refine gGV ?_; refine gv (p_load rfl) ?_) | (refine gL ?_; first | refine s_gp rfl rfl ?_ | refine s_gv HM rfl ?_ | refine l_nil ?_) | (refine gC ?_; first | refine c_seq ?_ | refine c_region ?_ | refine c_exit ?_ | refine c_ret ?_ | refine c_no rfl (by (simp; omega)) ?_) | (refine gN ?_; first | refine n_then ?_ | refine x_then ?_ | refine x_here ?_))
    obtain rfl : k = x.dk.toNat := by omega
    have e1 : bookL x = ys := by rw [bookL, if_pos hv, hy]
    exact ret_tmp rfl rfl ⟨A, c, by rw [e1, hl], by rw [e1]; exact HM.sb⟩
end Go.Proofs.Ytjeijflpejhkhaa.Sp
