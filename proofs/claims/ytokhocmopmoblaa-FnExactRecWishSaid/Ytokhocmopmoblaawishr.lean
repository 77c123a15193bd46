/- RecWish of both sides: the calls. No condition. -/
import Derived.Test.Ytokhocmopmoblaawish
import Derived.Test.Ytokhocmopmoblaawishm
namespace Go.Proofs.Ytokhocmopmoblaa.Sp
open Go Go.RowKit
set_option linter.unusedVariables false
set_option linter.unusedSimpArgs false
set_option maxRecDepth 10000
set_option maxHeartbeats 1000000
variable {w0 W : World} {L : List Asn}
theorem specRecWish (x : Rcd) (i : AtRcd) (t : ByteArray) (h : RoRcd false w0 x i) (hn : SmallR x) (ht : t.size ≤ 1048576) (HM : Mem w0 W L) : Calls Try.prog 15 #[.agg (encRcd x i).toArray, .string t] W fun e W' => ∃ j, e = .returned (.agg (encRcd (wishL x t) j).toArray) ∧ Mem w0 W' (partRcd 91 85 9 3 93 (wishL x t) j ++ L) := by
  refine enter Try.func15 rfl Try.ntmps15 [(0, .agg (encRcd x i).toArray), (1, _)] rfl ⟨rfl, rfl, trivial⟩ ?_
  have h0 := h
  unfold encRcd
  by_cases hv : validB x = true
  rotate_left
  · simp only [Bool.not_eq_true] at hv
    repeat (first | (refine gGP ?_; first | refine gp (p_not rfl) ?_ | refine gp (p_build rfl) ?_) | (refine gGV ?_; refine gv (p_loads rfl) ?_) | (refine gL ?_; first | refine s_gp rfl rfl ?_ | refine s_gv HM rfl ?_ | (refine gStore ?_; (refine s_store HM rfl rfl rfl rfl ?_; intro W1 HM1; clear HM; have HM := HM1; clear HM1)) | (refine gCall ?_; (refine s_fn rfl rfl ?_; (go_at_call 23; refine (specValid x i h0 hn HM).mono ?_; rintro e W1 ⟨rfl, HM1⟩; refine ⟨_, rfl, ?_⟩; clear HM; have HM := HM1; clear HM1))) | (refine s_box HM rfl rfl ?_; intro g W1 HM1; clear HM; have HM := HM1; clear HM1) | (refine s_alloc HM rfl ?_; intro g W1 HM1; clear HM; have HM := HM1; clear HM1) | refine l_nil ?_) | (refine gC ?_; first | refine c_seq ?_ | refine c_region ?_ | refine c_ret ?_ | refine c_yes rfl (by (simp; omega)) ?_) | (refine gN ?_; first | refine n_then ?_ | refine r_then ?_))
    have HM2 := HM.zeroR 91 85 9 3 93
    simp only [partRcd, zeroR, atZ, List.cons_append, List.nil_append] at HM2
    have e : wishL x t = zeroR := by simp [wishL, hv]
    rw [e]
    exact ret_cell HM2 rfl rfl rfl ⟨atZ, rfl, by simp only [partRcd, zeroR, atZ, List.cons_append, List.nil_append]; exact HM2.sb⟩
  by_cases hu : x.up = true
  rotate_left
  · simp only [Bool.not_eq_true] at hu
    repeat (first | (refine gGP ?_; first | refine gp (p_field rfl (by simp only [Nat.reduceAdd]; rfl)) ?_ | refine gp (p_not rfl) ?_) | (refine gGV ?_; first | refine gv (p_load rfl) ?_ | refine gv (p_loads rfl) ?_) | (refine gL ?_; first | refine s_gp rfl rfl ?_ | refine s_gv HM rfl ?_ | (refine gStore ?_; (refine s_store HM rfl rfl rfl rfl ?_; intro W1 HM1; clear HM; have HM := HM1; clear HM1)) | (refine gCall ?_; (refine s_fn rfl rfl ?_; first | (go_at_call 23; refine (specValid x i h0 hn HM).mono ?_; rintro e W1 ⟨rfl, HM1⟩; refine ⟨_, rfl, ?_⟩; clear HM; have HM := HM1; clear HM1) | (go_at_call 52; refine (l2Copy_c x _ h0 hn HM).mono ?_; rintro e W1 ⟨j, rfl, HM1⟩; refine ⟨_, rfl, ?_⟩; clear HM; have HM := HM1; clear HM1; simp only [partRcd, List.cons_append, List.nil_append] at HM; simp only [encRcd]))) | (refine s_box HM rfl rfl ?_; intro g W1 HM1; clear HM; have HM := HM1; clear HM1) | (refine s_alloc HM rfl ?_; intro g W1 HM1; clear HM; have HM := HM1; clear HM1) | refine l_nil ?_) | (refine gC ?_; first | refine c_seq ?_ | refine c_region ?_ | refine c_skip ?_ | refine c_ret ?_ | refine c_yes rfl (by (simp; omega)) ?_ | refine c_no rfl (by (simp; omega)) ?_) | (refine gN ?_; first | refine n_then ?_ | refine r_then ?_))
    have e : wishL x t = x := by simp [wishL, hv, hu]
    rw [e]
    exact ret_cell HM rfl rfl rfl ⟨⟨(_, _), (_, _), (_, _), (_, _), (_, _), (_, _), (_, _)⟩, rfl, by simp only [partRcd, List.cons_append, List.nil_append]; exact HM.sb⟩
  have hn1 := small_wish1 x t hn
  repeat (first | (refine gGP ?_; first | refine gp (p_move rfl) ?_ | refine gp (p_field rfl (by simp only [Nat.reduceAdd]; rfl)) ?_ | refine gp (p_not rfl) ?_) | (refine gGV ?_; first | refine gv (p_load rfl) ?_ | refine gv (p_loads rfl) ?_) | (refine gL ?_; first | refine s_gp rfl rfl ?_ | refine s_gv HM rfl ?_ | (refine gCall ?_; (refine s_fn rfl rfl ?_; first | (go_at_call 23; refine (specValid x i h0 hn HM).mono ?_; rintro e W1 ⟨rfl, HM1⟩; refine ⟨_, rfl, ?_⟩; clear HM; have HM := HM1; clear HM1) | (go_at_call 52; (with_reducible refine (l2Copy_l x _ h0 hn HM).mono ?_); rintro e W1 ⟨j, rfl, HM1⟩; refine ⟨_, rfl, ?_⟩; clear HM; have HM := HM1; clear HM1; simp only [encRcd]) | (go_at_call 53; refine (l3Wish_c x j t hv hn ht HM).mono ?_; rintro e W1 ⟨j2, rfl, HM1⟩; refine ⟨_, rfl, ?_⟩; clear HM; have HM := HM1; clear HM1))) | (refine s_box HM rfl rfl ?_; intro g W1 HM1; clear HM; have HM := HM1; clear HM1) | (refine s_alloc HM rfl ?_; intro g W1 HM1; clear HM; have HM := HM1; clear HM1) | refine l_nil ?_) | (refine gC ?_; first | refine c_seq ?_ | refine c_region ?_ | refine c_skip ?_ | refine c_no rfl (by (simp; omega)) ?_) | (refine gN ?_; refine n_then ?_))
  have hro := ro_parts HM
  repeat (first | (refine gL ?_; first | (refine gStore ?_; (refine s_store HM rfl rfl rfl rfl ?_; intro W1 HM1; clear HM; have HM := HM1; clear HM1)) | (refine gCall ?_; (refine s_fn rfl rfl ?_; (go_at_call 52; refine (l2Copy_c (wish1 x t) _ hro hn1 (Mem.start _)).mono ?_; rintro e W1 ⟨j3, rfl, HM1⟩; refine ⟨_, rfl, ?_⟩; replace HM := HM.join HM1; clear HM1; simp only [partRcd, List.cons_append, List.nil_append] at HM; simp only [encRcd]))) | refine l_nil ?_) | (refine gC ?_; refine c_ret ?_) | (refine gN ?_; refine n_then ?_))
  have e : wishL x t = wish1 x t := by simp [wishL, hv, hu]
  rw [e]
  exact ret_cell HM rfl rfl rfl ⟨⟨(_, _), (_, _), (_, _), (_, _), (_, _), (_, _), (_, _)⟩, rfl, by simp only [partRcd, List.cons_append, List.nil_append]; exact HM.sb⟩
theorem implRecWish (x : Rcd) (i : AtRcd) (t : ByteArray) (h : RoRcd false w0 x i) (hc : x.ds.length ≤ i.a1.2 ∧ x.wishes.length ≤ i.a3.2) (hn : SmallR x) (ht : t.size ≤ 1048576) (HM : Mem w0 W L) : Calls Try.prog 16 #[.agg (encRcd x i).toArray, .string t] W fun e W' => ∃ j, e = .returned (.agg (encRcd (wishL x t) j).toArray) ∧ Mem w0 W' (partRcd 91 85 9 3 93 (wishL x t) j ++ L) := by
  refine enter Try.func16 rfl Try.ntmps16 [(0, .agg (encRcd x i).toArray), (1, _)] rfl ⟨rfl, rfl, trivial⟩ ?_
  have h0 := h
  have hw := hc.2
  unfold encRcd
  by_cases hv : validB x = true
  rotate_left
  · simp only [Bool.not_eq_true] at hv
    repeat (first | (refine gGP ?_; first | refine gp (p_not rfl) ?_ | refine gp (p_build rfl) ?_) | (refine gGV ?_; refine gv (p_loads rfl) ?_) | (refine gL ?_; first | refine s_gp rfl rfl ?_ | refine s_gv HM rfl ?_ | (refine gStore ?_; (refine s_store HM rfl rfl rfl rfl ?_; intro W1 HM1; clear HM; have HM := HM1; clear HM1)) | (refine gCall ?_; (refine s_fn rfl rfl ?_; (go_at_call 31; refine (implValid x i h0 hw hn HM).mono ?_; rintro e W1 ⟨rfl, HM1⟩; refine ⟨_, rfl, ?_⟩; clear HM; have HM := HM1; clear HM1))) | (refine s_box HM rfl rfl ?_; intro g W1 HM1; clear HM; have HM := HM1; clear HM1) | (refine s_alloc HM rfl ?_; intro g W1 HM1; clear HM; have HM := HM1; clear HM1) | refine l_nil ?_) | (refine gC ?_; first | refine c_seq ?_ | refine c_region ?_ | refine c_ret ?_ | refine c_yes rfl (by (simp; omega)) ?_) | (refine gN ?_; first | refine n_then ?_ | refine r_then ?_))
    have HM2 := HM.zeroR 91 85 9 3 93
    simp only [partRcd, zeroR, atZ, List.cons_append, List.nil_append] at HM2
    have e : wishL x t = zeroR := by simp [wishL, hv]
    rw [e]
    exact ret_cell HM2 rfl rfl rfl ⟨atZ, rfl, by simp only [partRcd, zeroR, atZ, List.cons_append, List.nil_append]; exact HM2.sb⟩
  by_cases hu : x.up = true
  rotate_left
  · simp only [Bool.not_eq_true] at hu
    repeat (first | (refine gGP ?_; first | refine gp (p_field rfl (by simp only [Nat.reduceAdd]; rfl)) ?_ | refine gp (p_not rfl) ?_) | (refine gGV ?_; first | refine gv (p_load rfl) ?_ | refine gv (p_loads rfl) ?_) | (refine gL ?_; first | refine s_gp rfl rfl ?_ | refine s_gv HM rfl ?_ | (refine gStore ?_; (refine s_store HM rfl rfl rfl rfl ?_; intro W1 HM1; clear HM; have HM := HM1; clear HM1)) | (refine gCall ?_; (refine s_fn rfl rfl ?_; first | (go_at_call 31; refine (implValid x i h0 hw hn HM).mono ?_; rintro e W1 ⟨rfl, HM1⟩; refine ⟨_, rfl, ?_⟩; clear HM; have HM := HM1; clear HM1) | (go_at_call 32; refine (clone_c x _ h0 hn HM).mono ?_; rintro e W1 ⟨j, rfl, HM1⟩; refine ⟨_, rfl, ?_⟩; clear HM; have HM := HM1; clear HM1; simp only [partRcd, List.cons_append, List.nil_append] at HM; simp only [encRcd]))) | (refine s_box HM rfl rfl ?_; intro g W1 HM1; clear HM; have HM := HM1; clear HM1) | (refine s_alloc HM rfl ?_; intro g W1 HM1; clear HM; have HM := HM1; clear HM1) | refine l_nil ?_) | (refine gC ?_; first | refine c_seq ?_ | refine c_region ?_ | refine c_skip ?_ | refine c_ret ?_ | refine c_no rfl (by first | assumption | (simp; omega)) ?_) | (refine gN ?_; refine n_then ?_))
    have e : wishL x t = x := by simp [wishL, hv, hu]
    rw [e]
    exact ret_cell HM rfl rfl rfl ⟨⟨(_, _), (_, _), (_, _), (_, _), (_, _), (_, _), (_, _)⟩, rfl, by simp only [partRcd, List.cons_append, List.nil_append]; exact HM.sb⟩
  repeat (first | (refine gGP ?_; first | refine gp (p_move rfl) ?_ | refine gp (p_field rfl (by simp only [Nat.reduceAdd]; rfl)) ?_ | refine gp (p_not rfl) ?_) | (refine gGV ?_; first | refine gv (p_load rfl) ?_ | refine gv (p_loads rfl) ?_) | (refine gL ?_; first | refine s_gp rfl rfl ?_ | refine s_gv HM rfl ?_ | (refine gStore ?_; (refine s_store HM rfl rfl rfl rfl ?_; intro W1 HM1; clear HM; have HM := HM1; clear HM1)) | (refine gCall ?_; (refine s_fn rfl rfl ?_; first | (go_at_call 31; refine (implValid x i h0 hw hn HM).mono ?_; rintro e W1 ⟨rfl, HM1⟩; refine ⟨_, rfl, ?_⟩; clear HM; have HM := HM1; clear HM1) | (go_at_call 32; refine (clone_c x _ h0 hn HM).mono ?_; rintro e W1 ⟨j, rfl, HM1⟩; refine ⟨_, rfl, ?_⟩; clear HM; have HM := HM1; clear HM1; simp only [partRcd, List.cons_append, List.nil_append] at HM; simp only [encRcd]) | (go_at_call 54; refine (wishM x j _ t hv hn ht (by exact pk_boxr HM)).mono ?_; rintro e W1 ⟨j2, rfl, HM1⟩; refine ⟨_, rfl, ?_⟩; clear HM; have HM := HM1; clear HM1; simp only [boxR, partRcd, List.cons_append, List.nil_append] at HM))) | (refine s_box HM rfl rfl ?_; intro g W1 HM1; clear HM; have HM := HM1; clear HM1) | (refine s_alloc HM rfl ?_; intro g W1 HM1; clear HM; have HM := HM1; clear HM1) | refine l_nil ?_) | (refine gC ?_; first | refine c_seq ?_ | refine c_region ?_ | refine c_skip ?_ | refine c_ret ?_ | refine c_yes rfl (by assumption) ?_ | refine c_no rfl (by (simp; omega)) ?_) | (refine gN ?_; refine n_then ?_))
  have e : wishL x t = wish1 x t := by simp [wishL, hv, hu]
  rw [e]
  exact ret_cell HM rfl rfl rfl ⟨⟨(_, _), (_, _), (_, _), (_, _), (_, _), (_, _), (_, _)⟩, rfl, by simp only [partRcd, List.cons_append, List.nil_append]; exact HM.sb⟩
end Go.Proofs.Ytokhocmopmoblaa.Sp
