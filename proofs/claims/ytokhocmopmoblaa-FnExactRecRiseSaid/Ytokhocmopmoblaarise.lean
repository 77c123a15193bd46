/- RecRise of both sides. No condition. -/
import Derived.Test.Ytokhocmopmoblaaval4
import Derived.Test.Ytokhocmopmoblaaclone
import Derived.Test.Ytokhocmopmoblaacopy
namespace Go.Proofs.Ytokhocmopmoblaa.Sp
open Go Go.RowKit
set_option linter.unusedVariables false
set_option linter.unusedSimpArgs false
set_option maxRecDepth 10000
set_option maxHeartbeats 1000000
variable {w0 W : World} {L : List Asn}
def riseL (x : Rcd) : Rcd := if validB x = true then { x with up := true } else zeroR
theorem small_rise (x : Rcd) (hn : SmallR x) : SmallR (riseL x) := by
  unfold riseL
  split
  · obtain ⟨_, _, _, _, _, _, _, _, _⟩ := hn
    constructor <;> assumption
  · constructor <;> simp [zeroR]
theorem specRecRise (x : Rcd) (i : AtRcd) (h : RoRcd false w0 x i) (hn : SmallR x) (HM : Mem w0 W L) : Calls Try.prog 13 #[.agg (encRcd x i).toArray] W fun e W' => ∃ j, e = .returned (.agg (encRcd (riseL x) j).toArray) ∧ Mem w0 W' (partRcd 91 85 9 3 93 (riseL x) j ++ L) := by
  refine enter Try.func13 rfl Try.ntmps13 [(0, .agg (encRcd x i).toArray)] rfl ⟨rfl, trivial⟩ ?_
  have h0 := h
  unfold encRcd
  by_cases hv : validB x = true
  rotate_left
  · simp only [Bool.not_eq_true] at hv
    repeat (first | (refine gGP ?_; first | refine gp (p_not rfl) ?_ | refine gp (p_build rfl) ?_) | (refine gGV ?_; refine gv (p_loads rfl) ?_) | (refine gL ?_; first | refine s_gp rfl rfl ?_ | refine s_gv HM rfl ?_ | (refine gStore ?_; (refine s_store HM rfl rfl rfl rfl ?_; intro W1 HM1; clear HM; have HM := HM1; clear HM1)) | (refine gCall ?_; (refine s_fn rfl rfl ?_; (go_at_call 23; refine (specValid x i h0 hn HM).mono ?_; rintro e W1 ⟨rfl, HM1⟩; refine ⟨_, rfl, ?_⟩; clear HM; have HM := HM1; clear HM1))) | (refine s_box HM rfl rfl ?_; intro g W1 HM1; clear HM; have HM := HM1; clear HM1) | (refine s_alloc HM rfl ?_; intro g W1 HM1; clear HM; have HM := HM1; clear HM1) | refine l_nil ?_) | (refine gC ?_; first | refine c_seq ?_ | refine c_region ?_ | refine c_ret ?_ | refine c_yes rfl (by (simp; omega)) ?_) | (refine gN ?_; first | refine n_then ?_ | refine r_then ?_))
    have HM2 := HM.zeroR 91 85 9 3 93
    simp only [partRcd, zeroR, atZ, List.cons_append, List.nil_append] at HM2
    have e : riseL x = zeroR := by simp [riseL, hv]
    rw [e]
    exact ret_cell HM2 rfl rfl rfl ⟨atZ, rfl, by simp only [partRcd, zeroR, atZ, List.cons_append, List.nil_append]; exact HM2.sb⟩
  repeat (first | (refine gGP ?_; first | refine gp (p_field rfl (by simp only [Nat.reduceAdd]; rfl)) ?_ | refine gp (p_not rfl) ?_) | (refine gGV ?_; refine gv (p_loads rfl) ?_) | (refine gL ?_; first | refine s_gp rfl rfl ?_ | refine s_gv HM rfl ?_ | (refine gStore ?_; (refine s_store HM rfl rfl rfl rfl ?_; intro W1 HM1; clear HM; have HM := HM1; clear HM1)) | (refine gCall ?_; (refine s_fn rfl rfl ?_; first | (go_at_call 23; refine (specValid x i h0 hn HM).mono ?_; rintro e W1 ⟨rfl, HM1⟩; refine ⟨_, rfl, ?_⟩; clear HM; have HM := HM1; clear HM1) | (go_at_call 52; refine (l2Copy_c x _ h0 hn HM).mono ?_; rintro e W1 ⟨j, rfl, HM1⟩; refine ⟨_, rfl, ?_⟩; clear HM; have HM := HM1; clear HM1; simp only [partRcd, List.cons_append, List.nil_append] at HM; simp only [encRcd]))) | (refine s_box HM rfl rfl ?_; intro g W1 HM1; clear HM; have HM := HM1; clear HM1) | (refine s_alloc HM rfl ?_; intro g W1 HM1; clear HM; have HM := HM1; clear HM1) | refine l_nil ?_) | (refine gC ?_; first | refine c_seq ?_ | refine c_region ?_ | refine c_skip ?_ | refine c_ret ?_ | refine c_no rfl (by (simp; omega)) ?_) | (refine gN ?_; refine n_then ?_))
  have e : riseL x = _ := if_pos hv
  rw [e]
  exact ret_cell HM rfl rfl rfl ⟨⟨(_, _), (_, _), (_, _), (_, _), (_, _), (_, _), (_, _)⟩, rfl, by simp only [partRcd, List.cons_append, List.nil_append]; exact HM.sb⟩
theorem implRecRise (x : Rcd) (i : AtRcd) (h : RoRcd false w0 x i) (hc : x.ds.length ≤ i.a1.2 ∧ x.wishes.length ≤ i.a3.2) (hn : SmallR x) (HM : Mem w0 W L) : Calls Try.prog 14 #[.agg (encRcd x i).toArray] W fun e W' => ∃ j, e = .returned (.agg (encRcd (riseL x) j).toArray) ∧ Mem w0 W' (partRcd 91 85 9 3 93 (riseL x) j ++ L) := by
  refine enter Try.func14 rfl Try.ntmps14 [(0, .agg (encRcd x i).toArray)] rfl ⟨rfl, trivial⟩ ?_
  have h0 := h
  unfold encRcd
  by_cases hv : validB x = true
  rotate_left
  · simp only [Bool.not_eq_true] at hv
    repeat (first | (refine gGP ?_; first | refine gp (p_not rfl) ?_ | refine gp (p_build rfl) ?_) | (refine gGV ?_; refine gv (p_loads rfl) ?_) | (refine gL ?_; first | refine s_gp rfl rfl ?_ | refine s_gv HM rfl ?_ | (refine gStore ?_; (refine s_store HM rfl rfl rfl rfl ?_; intro W1 HM1; clear HM; have HM := HM1; clear HM1)) | (refine gCall ?_; (refine s_fn rfl rfl ?_; (go_at_call 31; refine (implValid x i h0 hc.2 hn HM).mono ?_; rintro e W1 ⟨rfl, HM1⟩; refine ⟨_, rfl, ?_⟩; clear HM; have HM := HM1; clear HM1))) | (refine s_box HM rfl rfl ?_; intro g W1 HM1; clear HM; have HM := HM1; clear HM1) | (refine s_alloc HM rfl ?_; intro g W1 HM1; clear HM; have HM := HM1; clear HM1) | refine l_nil ?_) | (refine gC ?_; first | refine c_seq ?_ | refine c_region ?_ | refine c_ret ?_ | refine c_yes rfl (by (simp; omega)) ?_) | (refine gN ?_; first | refine n_then ?_ | refine r_then ?_))
    have HM2 := HM.zeroR 91 85 9 3 93
    simp only [partRcd, zeroR, atZ, List.cons_append, List.nil_append] at HM2
    have e : riseL x = zeroR := by simp [riseL, hv]
    rw [e]
    exact ret_cell HM2 rfl rfl rfl ⟨atZ, rfl, by simp only [partRcd, zeroR, atZ, List.cons_append, List.nil_append]; exact HM2.sb⟩
  repeat (first | (refine gGP ?_; first | refine gp (p_field rfl (by simp only [Nat.reduceAdd]; rfl)) ?_ | refine gp (p_not rfl) ?_) | (refine gGV ?_; refine gv (p_loads rfl) ?_) | (refine gL ?_; first | refine s_gp rfl rfl ?_ | refine s_gv HM rfl ?_ | (refine gStore ?_; (refine s_store HM rfl rfl rfl rfl ?_; intro W1 HM1; clear HM; have HM := HM1; clear HM1)) | (refine gCall ?_; (refine s_fn rfl rfl ?_; first | (go_at_call 31; refine (implValid x i h0 hc.2 hn HM).mono ?_; rintro e W1 ⟨rfl, HM1⟩; refine ⟨_, rfl, ?_⟩; clear HM; have HM := HM1; clear HM1) | (go_at_call 32; refine (clone_c x _ h0 hn HM).mono ?_; rintro e W1 ⟨j, rfl, HM1⟩; refine ⟨_, rfl, ?_⟩; clear HM; have HM := HM1; clear HM1; simp only [partRcd, List.cons_append, List.nil_append] at HM; simp only [encRcd]))) | (refine s_box HM rfl rfl ?_; intro g W1 HM1; clear HM; have HM := HM1; clear HM1) | (refine s_alloc HM rfl ?_; intro g W1 HM1; clear HM; have HM := HM1; clear HM1) | refine l_nil ?_) | (refine gC ?_; first | refine c_seq ?_ | refine c_region ?_ | refine c_skip ?_ | refine c_ret ?_ | refine c_no rfl (by (simp; omega)) ?_) | (refine gN ?_; refine n_then ?_))
  have e : riseL x = _ := if_pos hv
  rw [e]
  exact ret_cell HM rfl rfl rfl ⟨⟨(_, _), (_, _), (_, _), (_, _), (_, _), (_, _), (_, _)⟩, rfl, by simp only [partRcd, List.cons_append, List.nil_append]; exact HM.sb⟩
end Go.Proofs.Ytokhocmopmoblaa.Sp
