/- wish of the program. No condition. -/
import Derived.Test.Ytokhocmopmoblaawish
namespace Go.Proofs.Ytokhocmopmoblaa.Sp
open Go Go.RowKit
set_option linter.unusedVariables false
set_option linter.unusedSimpArgs false
set_option maxRecDepth 10000
set_option maxHeartbeats 1000000
variable {w0 W : World} {L : List Asn}
theorem wishM (x : Rcd) (i : AtRcd) (g : Nat) (t : ByteArray) (hv : validB x = true) (hn : SmallR x) (ht : t.size ≤ 1048576) (HM : Mem w0 W (boxR 91 85 9 3 93 38 g x i ++ L)) : Calls Try.prog 54 #[.pointer (some ⟨g, 0, none⟩), .string t] W fun e W' => ∃ j, e = .returned (.tuple #[]) ∧ Mem w0 W' (boxR 91 85 9 3 93 38 g (wish1 x t) j ++ L) := by
  refine enter Try.func54 rfl Try.ntmps54 [(0, _), (1, _)] rfl ⟨rfl, rfl, trivial⟩ ?_
  obtain ⟨⟨hk0, hk1⟩, hd⟩ := disk_of_valid2 hv
  have hw := hn.wishes
  simp only [boxR, partRcd, List.cons_append, List.nil_append] at HM
  have hcd : x.ds.length ≤ i.a1.2 := by obtain ⟨F1, hF1⟩ := HM.own (A := i.a1.1); exact (own_max hF1).2
  by_cases c1 : 1 ≤ (t.size : Int) ∧ (t.size : Int) ≤ 100
  rotate_left
  · have e : wish1 x t = x := if_neg (by simp only [wishOk, Bool.and_eq_true, decide_eq_true_eq]; omega)
    repeat (first | (refine gGP ?_; first | refine gp (p_move rfl) ?_ | refine gp (p_slen rfl) ?_ | refine gp (p_pick0 rfl (by first | rfl | (simp; omega)) rfl) ?_) | (refine gL ?_; first | refine s_gp rfl rfl ?_ | (refine gCall ?_; (refine s_fn rfl rfl ?_; (go_at_call 70; refine (within_c _ _ _ _).mono ?_; rintro e W1 ⟨rfl, rfl⟩; refine ⟨_, rfl, ?_⟩))) | refine l_nil ?_ | refine s_guard_off rfl rfl rfl rfl (by first | rfl | (simp; omega)) rfl rfl ?_) | (refine gC ?_; first | refine c_seq ?_ | refine c_region ?_ | refine c_skip ?_ | refine c_no rfl (by rfl) ?_) | (refine gN ?_; refine n_then ?_))
    rw [e]
    exact end_none rfl ⟨i, rfl, by simp only [boxR, partRcd, List.cons_append, List.nil_append]; exact HM.sb⟩
  by_cases c2 : newB x.wishes x.wishes.length t = true
  rotate_left
  · have e : wish1 x t = x := if_neg (by simp [wishOk, c2])
    simp only [Bool.not_eq_true] at c2
    repeat (first | (refine gGP ?_; first | refine gp (p_move rfl) ?_ | refine gp (p_field rfl (by simp only [Nat.reduceAdd]; rfl)) ?_ | refine gp (p_slen rfl) ?_ | refine gp (p_not rfl) ?_ | refine gp (p_pick1 rfl (by (simp; omega)) rfl) ?_ | refine gp (p_pick0 rfl (by first | rfl | (simp; omega)) rfl) ?_) | (refine gGV ?_; refine gv (p_load rfl) ?_) | (refine gL ?_; first | refine s_gp rfl rfl ?_ | refine s_gv HM rfl ?_ | refine s_pv (p_nil rfl) rfl ?_ | (refine gCall ?_; (refine s_fn rfl rfl ?_; first | (go_at_call 70; refine (within_c _ _ _ _).mono ?_; rintro e W1 ⟨rfl, rfl⟩; refine ⟨_, rfl, ?_⟩) | (go_at_call 75; obtain ⟨F1, hF1⟩ := HM.own (A := i.a3.1); refine (has_c rfl t (ro_strs hF1) (Mem.start _)).mono ?_; clear hF1; rintro e W1 ⟨rfl, HM1⟩; refine ⟨_, rfl, ?_⟩; have HM2 := HM.step HM1.below; clear HM HM1; have HM := HM2; clear HM2))) | refine l_nil ?_ | refine s_guard_on rfl rfl rfl rfl (by (simp; omega)) ?_ | refine s_guard_off rfl rfl rfl rfl (by first | rfl | (simp; omega)) rfl rfl ?_) | (refine gC ?_; first | refine c_seq ?_ | refine c_region ?_ | refine c_skip ?_ | refine c_no rfl (by rfl) ?_) | (refine gN ?_; refine n_then ?_))
    rw [e]
    exact end_none rfl ⟨i, rfl, by simp only [boxR, partRcd, List.cons_append, List.nil_append]; exact HM.sb⟩
  by_cases c3 : (x.wishes.length : Int) < 20
  rotate_left
  · have e : wish1 x t = x := if_neg (by simp only [wishOk, Bool.and_eq_true, decide_eq_true_eq]; omega)
    repeat (first | (refine gGP ?_; first | refine gp (p_move rfl) ?_ | (refine gGB ?_; refine gp (p_lss rfl rfl) ?_) | refine gp (p_field rfl (by simp only [Nat.reduceAdd]; rfl)) ?_ | refine gp (p_len rfl) ?_ | refine gp (p_slen rfl) ?_ | refine gp (p_not rfl) ?_ | refine gp (p_pick1 rfl (by (simp; omega)) rfl) ?_ | refine gp (p_pick0 rfl (by (simp; omega)) rfl) ?_) | (refine gGV ?_; refine gv (p_load rfl) ?_) | (refine gL ?_; first | refine s_gp rfl rfl ?_ | refine s_gv HM rfl ?_ | refine s_pv (p_nil rfl) rfl ?_ | (refine gCall ?_; (refine s_fn rfl rfl ?_; first | (go_at_call 70; refine (within_c _ _ _ _).mono ?_; rintro e W1 ⟨rfl, rfl⟩; refine ⟨_, rfl, ?_⟩) | (go_at_call 75; obtain ⟨F1, hF1⟩ := HM.own (A := i.a3.1); refine (has_c rfl t (ro_strs hF1) (Mem.start _)).mono ?_; clear hF1; rintro e W1 ⟨rfl, HM1⟩; refine ⟨_, rfl, ?_⟩; have HM2 := HM.step HM1.below; clear HM HM1; have HM := HM2; clear HM2))) | refine l_nil ?_ | refine s_guard_on rfl rfl rfl rfl (by (simp; omega)) ?_ | refine s_guard_off rfl rfl rfl rfl (by (simp; omega)) rfl rfl ?_) | (refine gC ?_; first | refine c_seq ?_ | refine c_region ?_ | refine c_skip ?_ | refine c_no rfl (by rfl) ?_) | (refine gN ?_; refine n_then ?_))
    rw [e]
    exact end_none rfl ⟨i, rfl, by simp only [boxR, partRcd, List.cons_append, List.nil_append]; exact HM.sb⟩
  by_cases c4 : knownB (x.ds.take x.dk.toNat) t = true
  · have e : wish1 x t = x := if_neg (by simp [wishOk, c4])
    repeat (first | (refine gGP ?_; first | refine gp (p_move rfl) ?_ | (refine gGB ?_; refine gp (p_lss rfl rfl) ?_) | refine gp (p_field rfl (by simp only [Nat.reduceAdd]; rfl)) ?_ | refine gp (p_len rfl) ?_ | refine gp (p_slen rfl) ?_ | refine gp (p_not rfl) ?_ | refine gp (p_pick1 rfl (by (simp; omega)) rfl) ?_) | (refine gGV ?_; refine gv (p_load rfl) ?_) | (refine gL ?_; first | refine s_gp rfl rfl ?_ | refine s_gv HM rfl ?_ | refine s_pv (p_nil rfl) rfl ?_ | (refine gCall ?_; (refine s_fn rfl rfl ?_; first | (go_at_call 70; refine (within_c _ _ _ _).mono ?_; rintro e W1 ⟨rfl, rfl⟩; refine ⟨_, rfl, ?_⟩) | (go_at_call 75; obtain ⟨F1, hF1⟩ := HM.own (A := i.a3.1); refine (has_c rfl t (ro_strs hF1) (Mem.start _)).mono ?_; clear hF1; rintro e W1 ⟨rfl, HM1⟩; refine ⟨_, rfl, ?_⟩; have HM2 := HM.step HM1.below; clear HM HM1; have HM := HM2; clear HM2) | (go_at_call 85; obtain ⟨F1, hF1⟩ := HM.own (A := i.a1.1); refine (knownM x i _ t hk0 hk1 hcd (ro_slots hF1) HM.heap (Mem.start _)).mono ?_; clear hF1; rintro e W1 ⟨rfl, HM1⟩; refine ⟨_, rfl, ?_⟩; have HM2 := HM.step HM1.below; clear HM HM1; have HM := HM2; clear HM2))) | refine l_nil ?_ | refine s_guard_on rfl rfl rfl rfl (by (simp; omega)) ?_) | (refine gC ?_; first | refine c_seq ?_ | refine c_region ?_ | refine c_skip ?_ | refine c_no rfl (by (simp; omega)) ?_) | (refine gN ?_; refine n_then ?_))
    rw [e]
    exact end_none rfl ⟨i, rfl, by simp only [boxR, partRcd, List.cons_append, List.nil_append]; exact HM.sb⟩
  have e : wish1 x t = { x with wishes := x.wishes ++ [t] } := if_pos (by simp only [wishOk, c2, Bool.and_eq_true, decide_eq_true_eq, Bool.not_eq_true']; simp only [Bool.not_eq_true] at c4; exact ⟨⟨⟨c1, trivial⟩, c3⟩, c4⟩)
  simp only [Bool.not_eq_true] at c4
  repeat (first | (refine gGP ?_; first | refine gp (p_move rfl) ?_ | (refine gGB ?_; refine gp (p_lss rfl rfl) ?_) | refine gp (p_field rfl (by simp only [Nat.reduceAdd]; rfl)) ?_ | refine gp (p_len rfl) ?_ | refine gp (p_slen rfl) ?_ | refine gp (p_not rfl) ?_ | refine gp (p_pick1 rfl (by (simp; omega)) rfl) ?_) | (refine gGV ?_; refine gv (p_load rfl) ?_) | (refine gL ?_; first | refine s_gp rfl rfl ?_ | refine s_gv HM rfl ?_ | refine s_pv (p_nil rfl) rfl ?_ | (refine gStore ?_; (refine s_store HM rfl rfl rfl rfl ?_; intro W1 HM1; clear HM; have HM := HM1; clear HM1)) | (refine gCall ?_; first | (refine s_fn rfl rfl ?_; first | (go_at_call 70; refine (within_c _ _ _ _).mono ?_; rintro e W1 ⟨rfl, rfl⟩; refine ⟨_, rfl, ?_⟩) | (go_at_call 75; obtain ⟨F1, hF1⟩ := HM.own (A := i.a3.1); refine (has_c rfl t (ro_strs hF1) (Mem.start _)).mono ?_; clear hF1; rintro e W1 ⟨rfl, HM1⟩; refine ⟨_, rfl, ?_⟩; have HM2 := HM.step HM1.below; clear HM HM1; have HM := HM2; clear HM2) | (go_at_call 85; obtain ⟨F1, hF1⟩ := HM.own (A := i.a1.1); refine (knownM x i _ t hk0 hk1 hcd (ro_slots hF1) HM.heap (Mem.start _)).mono ?_; clear hF1; rintro e W1 ⟨rfl, HM1⟩; refine ⟨_, rfl, ?_⟩; have HM2 := HM.step HM1.below; clear HM HM1; have HM := HM2; clear HM2)) | (refine s_append1 HM rfl rfl (by first | with_reducible rfl | omega) rfl rfl (by omega) rfl ?_; intro A1 c1 W1 HM1; clear HM; have HM := HM1; clear HM1)) | (refine s_lit1 HM rfl rfl rfl ?_; intro g W1 HM1; clear HM; have HM := HM1; clear HM1) | refine l_nil ?_ | refine s_guard_on rfl rfl rfl rfl (by (simp; omega)) ?_) | (refine gC ?_; first | refine c_seq ?_ | refine c_region ?_ | refine c_yes rfl (by (simp; omega)) ?_) | (refine gN ?_; refine n_then ?_))
  rw [e]
  exact end_none rfl ⟨⟨i.a0, i.a1, i.a2, (A1, c1), i.a4, i.a5, i.a6⟩, rfl, by simp only [boxR, partRcd, List.cons_append, List.nil_append]; exact HM.sb⟩
end Go.Proofs.Ytokhocmopmoblaa.Sp
