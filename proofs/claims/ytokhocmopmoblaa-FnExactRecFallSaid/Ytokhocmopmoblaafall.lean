/- RecFall of both sides. No condition. -/
import Derived.Test.Ytokhocmopmoblaaval4
import Derived.Test.Ytokhocmopmoblaaclone
import Derived.Test.Ytokhocmopmoblaacopy
namespace Go.Proofs.Ytokhocmopmoblaa.Sp
open Go Go.RowKit
set_option linter.unusedVariables false
set_option linter.unusedSimpArgs false
set_option maxRecDepth 10000
set_option maxHeartbeats 1000000
variable {w0 W : World} {L : List Asn}
def fallL (x : Rcd) : Rcd := if validB x = true then ⟨x.number, x.of, false, x.sp, x.sk, x.ss, x.sp, x.sk, x.ss, [], [], false, false, 0, [], [], [], 0⟩ else zeroR
theorem small_zero : SmallR zeroR := by constructor <;> simp [zeroR]
theorem small_fall (x : Rcd) (hn : SmallR x) : SmallR (fallL x) := by
  unfold fallL
  split
  · have := hn.ss
    constructor <;> simp [this]
  · exact small_zero
theorem specRecFall (x : Rcd) (i : AtRcd) (h : RoRcd false w0 x i) (hn : SmallR x) (HM : Mem w0 W L) : Calls Try.prog 7 #[.agg (encRcd x i).toArray] W fun e W' => ∃ j, e = .returned (.agg (encRcd (fallL x) j).toArray) ∧ Mem w0 W' (partRcd 91 85 9 3 93 (fallL x) j ++ L) := by
  refine enter Try.func7 rfl Try.ntmps7 [(0, .agg (encRcd x i).toArray)] rfl ⟨rfl, trivial⟩ ?_
  have h0 := h
  unfold encRcd
  by_cases hv : validB x = true
  rotate_left
  · simp only [Bool.not_eq_true] at hv
    repeat (first | (refine gGP ?_; first | refine gp (p_not rfl) ?_ | refine gp (p_build rfl) ?_) | (refine gGV ?_; refine gv (p_loads rfl) ?_) | (refine gL ?_; first | refine s_gp rfl rfl ?_ | refine s_gv HM rfl ?_ | (refine gStore ?_; (refine s_store HM rfl rfl rfl rfl ?_; intro W1 HM1; clear HM; have HM := HM1; clear HM1)) | (refine gCall ?_; (refine s_fn rfl rfl ?_; (go_at_call 23; refine (specValid x i h0 hn HM).mono ?_; rintro e W1 ⟨rfl, HM1⟩; refine ⟨_, rfl, ?_⟩; clear HM; have HM := HM1; clear HM1))) | (refine s_box HM rfl rfl ?_; intro g W1 HM1; clear HM; have HM := HM1; clear HM1) | (refine s_alloc HM rfl ?_; intro g W1 HM1; clear HM; have HM := HM1; clear HM1) | refine l_nil ?_) | (refine gC ?_; first | refine c_seq ?_ | refine c_region ?_ | refine c_ret ?_ | refine c_yes rfl (by (simp; omega)) ?_) | (refine gN ?_; first | refine n_then ?_ | refine r_then ?_))
    have HM2 := HM.zeroR 91 85 9 3 93
    simp only [partRcd, zeroR, atZ, List.cons_append, List.nil_append] at HM2
    have e : fallL x = zeroR := by simp [fallL, hv]
    rw [e]
    exact ret_cell HM2 rfl rfl rfl ⟨atZ, rfl, by simp only [partRcd, zeroR, atZ, List.cons_append, List.nil_append]; exact HM2.sb⟩
  repeat (first | (refine gR ?_; refine d_start [11] [(0, 0), (0, 2), (0, 4), (0, 7), (1, 1), (1, 3), (1, 5), (1, 8), (2, 6), (2, 9), (2, 10), (3, 11)] HM (by kernel_rfl) (by kernel_rfl) (by repeat (first | exact qp_body | refine qp_then ?_ | refine qp_block ?_)) (by kernel_rfl) rfl ?_; intro HQ HS W1 HM1; clear HM; have HM := HM1; clear HM1) | (refine gGP ?_; first | refine gp (p_field rfl (by simp only [Nat.reduceAdd]; rfl)) ?_ | refine gp (p_not rfl) ?_ | refine gp (p_build rfl) ?_) | (refine gGV ?_; first | refine gv (p_load rfl) ?_ | refine gv (p_loads rfl) ?_) | (refine gL ?_; first | refine s_gp rfl rfl ?_ | refine s_gv HM rfl ?_ | (refine gStore ?_; (refine s_store HM rfl rfl rfl rfl ?_; intro W1 HM1; clear HM; have HM := HM1; clear HM1)) | (refine gCall ?_; (refine s_fn rfl rfl ?_; first | (go_at_call 23; refine (specValid x i h0 hn HM).mono ?_; rintro e W1 ⟨rfl, HM1⟩; refine ⟨_, rfl, ?_⟩; clear HM; have HM := HM1; clear HM1) | (go_at_call 24; refine (l1Disk_c _ _ h0.ss hn.ss HM).mono ?_; rintro e W1 ⟨Ad, cd, rfl, HM1⟩; refine ⟨_, rfl, ?_⟩; clear HM; have HM := HM1; clear HM1))) | (refine s_box HM rfl rfl ?_; intro g W1 HM1; clear HM; have HM := HM1; clear HM1) | (refine s_alloc HM rfl ?_; intro g W1 HM1; clear HM; have HM := HM1; clear HM1) | refine l_nil ?_) | (refine gC ?_; first | refine c_seq ?_ | refine c_region ?_ | refine c_skip ?_ | refine c_ret ?_ | refine c_no rfl (by (simp; omega)) ?_) | (refine gN ?_; first | refine n_then ?_ | refine d_back (by first | exact HM.drop | exact HM.drop.drop) ?_ | refine d_backT ?_) | (refine gD ?_; refine d_next rfl ?_) | (refine gO ?_; first | refine d_gp HQ HS rfl ?_ | refine d_gv HQ HS rfl ?_ | refine d_one ?_ | refine d_last ?_) | (refine gT ?_; refine d_doneT ?_))
  have HM2 := HM.zeroR 91 85 9 3 93
  simp only [partRcd, zeroR, atZ, List.cons_append, List.nil_append] at HM2
  have e : fallL x = _ := if_pos hv
  rw [e]
  exact ret_cell HM2 rfl rfl rfl ⟨⟨(_, _), (_, _), (_, _), (_, _), (_, _), (_, _), (_, _)⟩, rfl, by simp only [partRcd, List.cons_append, List.nil_append]; exact HM2.sb⟩
theorem fallM (x : Rcd) (i : AtRcd) (g : Nat) (hn : SmallR x) (HM : Mem w0 W (boxR 91 85 9 3 93 38 g x i ++ L)) : Calls Try.prog 33 #[.pointer (some ⟨g, 0, none⟩)] W fun e W' => ∃ j, e = .returned (.tuple #[]) ∧ Mem w0 W' (boxR 91 85 9 3 93 38 g ⟨x.number, x.of, false, x.sp, x.sk, x.ss, x.sp, x.sk, x.ss, [], [], false, false, 0, [], [], [], 0⟩ j ++ L) := by
  refine enter Try.func33 rfl Try.ntmps33 [(0, _)] rfl ⟨rfl, trivial⟩ ?_
  have s1 := hn.ss
  simp only [boxR, partRcd, List.cons_append, List.nil_append] at HM
  repeat (first | (refine gR ?_; refine d_start [20] [(0, 0), (0, 1), (0, 2), (0, 3), (0, 5), (0, 6), (0, 7), (0, 9), (0, 10), (0, 11), (0, 13), (0, 14), (0, 15), (1, 4), (1, 8), (1, 12), (1, 16), (2, 17), (2, 18), (0, 19), (3, 20)] HM (by kernel_rfl) (by kernel_rfl) (by repeat (first | exact qp_body | refine qp_then ?_ | refine qp_block ?_)) (by kernel_rfl) rfl ?_; intro HQ HS W1 HM1; clear HM; have HM := HM1; clear HM1) | (refine gGP ?_; first | refine gp (p_move rfl) ?_ | refine gp (p_field rfl (by simp only [Nat.reduceAdd]; rfl)) ?_ | refine gp (p_build rfl) ?_ | refine gp (p_nil rfl) ?_) | (refine gGV ?_; first | refine gv (p_load rfl) ?_ | refine gv (p_loads rfl) ?_) | (refine gL ?_; first | refine s_gp rfl rfl ?_ | (refine gStore ?_; (refine s_store HM rfl rfl rfl rfl ?_; intro W1 HM1; clear HM; have HM := HM1; clear HM1)) | (refine gCall ?_; (refine s_fn rfl rfl ?_; (go_at_call 76; obtain ⟨F1, hF1⟩ := HM.own (A := i.a0.1); refine (cloneDisk_c _ _ (ro_slots hF1) s1 (Mem.start _)).mono ?_; clear hF1; rintro e W1 ⟨Ad, cd, rfl, HM1⟩; refine ⟨_, rfl, ?_⟩; replace HM := HM.join HM1; clear HM1; simp only [List.cons_append, List.nil_append] at HM))) | refine l_nil ?_) | (refine gN ?_; first | refine d_back (by exact HM.drop) ?_ | refine d_backT ?_) | (refine gD ?_; refine d_next rfl ?_) | (refine gO ?_; first | refine d_gp HQ HS rfl ?_ | refine d_gv HQ HS rfl ?_ | refine d_one ?_ | refine d_last ?_) | (refine gT ?_; refine d_doneT ?_))
  have HM2 := HM.zeroR 91 85 9 3 93
  simp only [partRcd, zeroR, atZ, List.cons_append, List.nil_append] at HM2
  exact end_none rfl ⟨⟨i.a0, (Ad, cd), (none, 0), (none, 0), (none, 0), (none, 0), (none, 0)⟩, rfl, by simp only [boxR, partRcd, List.cons_append, List.nil_append]; exact HM2.sb⟩
theorem implRecFall (x : Rcd) (i : AtRcd) (h : RoRcd false w0 x i) (hc : x.ds.length ≤ i.a1.2 ∧ x.wishes.length ≤ i.a3.2) (hn : SmallR x) (HM : Mem w0 W L) : Calls Try.prog 9 #[.agg (encRcd x i).toArray] W fun e W' => ∃ j, e = .returned (.agg (encRcd (fallL x) j).toArray) ∧ Mem w0 W' (partRcd 91 85 9 3 93 (fallL x) j ++ L) := by
  refine enter Try.func9 rfl Try.ntmps9 [(0, .agg (encRcd x i).toArray)] rfl ⟨rfl, trivial⟩ ?_
  have h0 := h
  have hw := hc.2
  unfold encRcd
  by_cases hv : validB x = true
  rotate_left
  · simp only [Bool.not_eq_true] at hv
    repeat (first | (refine gGP ?_; first | refine gp (p_not rfl) ?_ | refine gp (p_build rfl) ?_) | (refine gGV ?_; refine gv (p_loads rfl) ?_) | (refine gL ?_; first | refine s_gp rfl rfl ?_ | refine s_gv HM rfl ?_ | (refine gStore ?_; (refine s_store HM rfl rfl rfl rfl ?_; intro W1 HM1; clear HM; have HM := HM1; clear HM1)) | (refine gCall ?_; (refine s_fn rfl rfl ?_; (go_at_call 31; refine (implValid x i h0 hw hn HM).mono ?_; rintro e W1 ⟨rfl, HM1⟩; refine ⟨_, rfl, ?_⟩; clear HM; have HM := HM1; clear HM1))) | (refine s_box HM rfl rfl ?_; intro g W1 HM1; clear HM; have HM := HM1; clear HM1) | (refine s_alloc HM rfl ?_; intro g W1 HM1; clear HM; have HM := HM1; clear HM1) | refine l_nil ?_) | (refine gC ?_; first | refine c_seq ?_ | refine c_region ?_ | refine c_ret ?_ | refine c_yes rfl (by (simp; omega)) ?_) | (refine gN ?_; first | refine n_then ?_ | refine r_then ?_))
    have HM2 := HM.zeroR 91 85 9 3 93
    simp only [partRcd, zeroR, atZ, List.cons_append, List.nil_append] at HM2
    have e : fallL x = zeroR := by simp [fallL, hv]
    rw [e]
    exact ret_cell HM2 rfl rfl rfl ⟨atZ, rfl, by simp only [partRcd, zeroR, atZ, List.cons_append, List.nil_append]; exact HM2.sb⟩
  repeat (first | (refine gGP ?_; refine gp (p_not rfl) ?_) | (refine gGV ?_; refine gv (p_loads rfl) ?_) | (refine gL ?_; first | refine s_gp rfl rfl ?_ | refine s_gv HM rfl ?_ | (refine gStore ?_; (refine s_store HM rfl rfl rfl rfl ?_; intro W1 HM1; clear HM; have HM := HM1; clear HM1)) | (refine gCall ?_; (refine s_fn rfl rfl ?_; first | (go_at_call 31; refine (implValid x i h0 hw hn HM).mono ?_; rintro e W1 ⟨rfl, HM1⟩; refine ⟨_, rfl, ?_⟩; clear HM; have HM := HM1; clear HM1) | (go_at_call 32; refine (clone_c x _ h0 hn HM).mono ?_; rintro e W1 ⟨j, rfl, HM1⟩; refine ⟨_, rfl, ?_⟩; clear HM; have HM := HM1; clear HM1; simp only [partRcd, List.cons_append, List.nil_append] at HM; simp only [encRcd]) | (go_at_call 33; refine (fallM x j _ hn (by exact pk_boxr HM)).mono ?_; rintro e W1 ⟨j2, rfl, HM1⟩; refine ⟨_, rfl, ?_⟩; clear HM; have HM := HM1; clear HM1; simp only [boxR, partRcd, List.cons_append, List.nil_append] at HM))) | (refine s_box HM rfl rfl ?_; intro g W1 HM1; clear HM; have HM := HM1; clear HM1) | (refine s_alloc HM rfl ?_; intro g W1 HM1; clear HM; have HM := HM1; clear HM1) | refine l_nil ?_) | (refine gC ?_; first | refine c_seq ?_ | refine c_region ?_ | refine c_skip ?_ | refine c_ret ?_ | refine c_no rfl (by (simp; omega)) ?_) | (refine gN ?_; refine n_then ?_))
  have e : fallL x = _ := if_pos hv
  rw [e]
  exact ret_cell HM rfl rfl rfl ⟨⟨(_, _), (_, _), (_, _), (_, _), (_, _), (_, _), (_, _)⟩, rfl, by simp only [partRcd, List.cons_append, List.nil_append]; exact HM.sb⟩
end Go.Proofs.Ytokhocmopmoblaa.Sp
