/- book of a recorder that lies in a row. No condition. -/
import Derived.Test.Ytjeijflpejhkhaabook
import Derived.Test.YtjeijflpejhkhaaSpAuto
namespace Go.Proofs.Ytjeijflpejhkhaa.Sp
open Go Go.RowKit
set_option linter.unusedVariables false
set_option linter.unusedSimpArgs false
set_option maxRecDepth 10000
set_option maxHeartbeats 1000000
variable {w0 W : World} {L : List Asn}
theorem bookE (x : Rcd) (i : AtRcd) (A : Option Addr) (q : Nat) (hA : A = some (adr A) ∧ (encRcd x i).length = 18 ∧ ∀ j v, (encRcd x i)[j]? = some v → w0.cell? ((adr A).add (q * 18 + j)) = some v) (h : RoRow (rSlot false) w0 i.a1.1 x.ds) (hc : x.ds.length ≤ i.a1.2) (hv : validB x = true) (HM : Mem w0 W L) : Calls Try.prog 43 #[.pointer (some (rp A q 18 0))] W fun e W' => ∃ A c, e = .returned (.slice A (bookL x).length c) ∧ Mem w0 W' (own tStr 9 A c (bookL x) :: L) := by
  refine enter Try.func43 rfl Try.ntmps43 [(0, _)] rfl ⟨rfl, trivial⟩ ?_
  obtain ⟨⟨hk0, hk1⟩, hd⟩ := disk_of_valid hv
  have hz : (x.ds.take x.dk.toNat).length = x.dk.toNat := by simp; omega
  have hb : bookL x = (x.ds.take x.dk.toNat).map (fun s => s.text) := by rw [bookL, if_pos hv]
  have h1 := ro_take h x.dk.toNat
  rw [hb]
  clear hb
  generalize x.ds.take x.dk.toNat = zs at hz h1 ⊢
  have HM2 : Mem w0 W (roC w0 A q 18 (encRcd x i) :: L) := HM.pur hA
  clear HM
  have HM := ((HM2.rod h1).nil tStr 9)
  clear HM2
  unfold encRcd at HM
  repeat (first | (refine gR ?_; refine d_start [] [(0, 0), (0, 1), (0, 2), (0, 3), (0, 5), (0, 6), (0, 7), (0, 8), (0, 12), (1, 4), (1, 9), (0, 10), (0, 11)] HM (by kernel_rfl) (by kernel_rfl) (by repeat (first | exact qp_body | refine qp_then ?_ | refine qp_block ?_)) (by kernel_rfl) rfl ?_; intro HQ HS W1 HM1; clear HM; have HM := HM1; clear HM1) | (refine gGP ?_; first | refine gp (p_move rfl) ?_ | refine gp (p_assign rfl) ?_ | refine gp (p_fieldo rfl (by simp only [Nat.reduceAdd]; rfl)) ?_ | refine gp (p_sliceto rfl rfl (by omega) (by omega)) ?_ | refine gp (p_len rfl) ?_ | refine gp (p_nil rfl) ?_) | (refine gGV ?_; refine gv (p_loadrc rfl rfl) ?_) | (refine gL ?_; first | refine s_gp rfl rfl ?_ | refine l_nil ?_) | (refine gC ?_; first | refine c_seq ?_ | refine c_region ?_ | refine c_block ?_) | (refine gN ?_; refine n_then ?_) | (refine gD ?_; first | refine d_next rfl ?_ | refine d_done ?_) | (refine gO ?_; first | refine d_gp HQ HS rfl ?_ | refine d_gv HQ HS rfl ?_))
  refine c_loop2 (σ := Nat) (fun k A c => [(3, .slice A k c), (16, .slice i.a1.1 x.dk.toNat i.a1.2), (17, .int .i64 x.dk.toNat), (18, .int .i64 k)]) (fun k A c W => k ≤ zs.length ∧ ∃ ys : List ByteArray, ys.length = k ∧ ys = (zs.take k).map (fun s => s.text) ∧ Mem w0 W (own tStr 9 A c ys :: ro (rSlot false) w0 i.a1.1 zs :: L)) (fun k => zs.length - k) 0 none 0 (by repeat (first | exact trivial | refine And.intro (by first | rfl | exact look_int rfl (by omega)) ?_)) ⟨Nat.zero_le _, [], rfl, rfl, HM.sb⟩ ?_
  clear HM
  rintro k A c W ⟨hk, ys, hl, hy, HM⟩
  by_cases hlt : k < zs.length
  · have hlt2 : k < x.dk.toNat := by omega
    have e0 := rdR_at (D := rSlot false) hlt
    obtain ⟨cc, ⟨j, rfl, _⟩, HM⟩ := HM.roOpen (A := i.a1.1) k hlt
    unfold encSlot at HM
    repeat (first | (refine gGP ?_; first | refine gp (p_move rfl) ?_ | refine gp (p_assign rfl) ?_ | (refine gGB ?_; first | refine gp (p_lss rfl rfl) ?_ | refine gp (p_add rfl rfl (by exact wr (by omega) (by omega))) ?_) | refine gp (p_field rfl (by simp only [Nat.reduceAdd]; rfl)) ?_ | refine gp (p_indexr HM rfl (by omega) rfl (by omega) (by omega)) ?_) | (refine gGV ?_; first | refine gv (p_load rfl) ?_ | refine gv (p_loadwr rfl rfl rfl) ?_) | (refine gL ?_; first | refine s_gp rfl rfl ?_ | refine s_gv HM rfl ?_ | (refine gStore ?_; (refine s_store HM rfl rfl rfl rfl ?_; intro W1 HM1; clear HM; have HM := HM1; clear HM1)) | (refine gCall ?_; (refine s_append1 HM rfl rfl (by omega) rfl rfl (by omega) rfl ?_; intro A1 c1 W1 HM1; clear HM; have HM := HM1; clear HM1)) | (refine s_alloc HM rfl ?_; intro g W1 HM1; clear HM; have HM := HM1; clear HM1) | (refine s_lit1 HM rfl rfl rfl ?_; intro g W1 HM1; clear HM; have HM := HM1; clear HM1) | refine l_nil ?_) | (refine gC ?_; first | refine c_seq ?_ | refine c_region ?_ | refine c_block ?_ | refine c_skip ?_ | refine c_yes rfl (by (simp; omega)) ?_) | (refine gN ?_; first | refine n_then ?_ | refine n_block ?_))
    have e1 : (ys ++ [zs[k].text]).length = k + 1 := by simp [hl]
    rw [e1]
    exact n_round2 (k + 1) A1 c1 (by repeat (first | exact trivial | refine And.intro (by first | rfl | exact look_int rfl (by omega)) ?_)) ⟨by omega, _, e1, by rw [hy, List.take_succ_eq_append_getElem (by omega), List.map_append]; rfl, HM.sb⟩ (by omega)
  · have hlt2 : ¬ k < x.dk.toNat := by omega
    repeat (first | (refine gGP ?_; first | refine gp (p_move rfl) ?_ | refine gp (p_assign rfl) ?_ | (refine gGB ?_; refine gp (p_lss rfl rfl) ?_)) | (refine gL ?_; first | refine s_gp rfl rfl ?_ | refine l_nil ?_) | (refine gC ?_; first | refine c_seq ?_ | refine c_region ?_ | refine c_exit ?_ | refine c_ret ?_ | refine c_no rfl (by (simp; omega)) ?_) | (refine gN ?_; first | refine n_then ?_ | refine x_then ?_ | refine x_here ?_))
    obtain rfl : k = zs.length := by omega
    have e1 : zs.map (fun s => s.text) = ys := by rw [hy, List.take_length]
    exact ret_tmp rfl rfl ⟨A, c, by rw [e1, hl], by rw [e1]; exact HM.sb⟩
end Go.Proofs.Ytjeijflpejhkhaa.Sp
