/- RecMajor of both sides. No condition. -/
import Derived.Test.Ytjeijflpejhkhaamaj2
import Derived.Test.Ytjeijflpejhkhaawok2
import Derived.Test.YtjeijflpejhkhaaSpNow
namespace Go.Proofs.Ytjeijflpejhkhaa.Sp
open Go Go.RowKit
set_option linter.unusedVariables false
set_option linter.unusedSimpArgs false
set_option maxRecDepth 10000
set_option maxHeartbeats 1000000
variable {w0 W : World} {L : List Asn}
/-- What RecMajor answers. -/
structure IsRM (x : Wld) (ix : Int) (t : ByteArray) (b : Bool) : Prop where
  ok : worldB x = true → IsMaj x ix t b
  bad : worldB x = false → t = ⟨#[]⟩ ∧ b = false
theorem IsRM.one {x : Wld} {ix : Int} {t t' : ByteArray} {b b' : Bool} (h : IsRM x ix t b) (h' : IsRM x ix t' b') : t = t' ∧ b = b' := by
  cases hw : worldB x
  · exact ⟨(h.bad hw).1.trans (h'.bad hw).1.symm, (h.bad hw).2.trans (h'.bad hw).2.symm⟩
  · exact (h.ok hw).one (h'.ok hw)
theorem safe_of {x : Wld} (h : worldB x = true) : SafeP x := by
  simp only [worldB, Bool.and_eq_true] at h
  have h1 := allN_iff.1 h.1.1.2
  intro r hr s hs
  obtain ⟨k, hk, rfl⟩ := List.getElem_of_mem hr
  have h2 := h1 k hk
  rw [recB_at hk, Bool.and_eq_true, Bool.and_eq_true] at h2
  exact (validB_iff.1 h2.1.1).safe.slots.2 s hs
theorem specMajor (x : Wld) (i : AtW) (ix : Int) (h : RoW false w0 x i) (hn : SmallW x) (HM : Mem w0 W L) : Calls Try.prog 6 #[.agg (encW x i).toArray, .int .i64 ix] W fun e W' => ∃ t b, e = .returned (.tuple #[.string t, .bool b]) ∧ IsRM x ix t b ∧ Mem w0 W' L := by
  refine enter Try.func6 rfl Try.ntmps6 [(0, .agg (encW x i).toArray), (1, _)] rfl ⟨rfl, rfl, trivial⟩ ?_
  have h0 := h
  unfold encW
  by_cases hv : worldB x = true
  · repeat (first | (refine gGP ?_; first | refine gp (p_move rfl) ?_ | refine gp (p_assign rfl) ?_ | refine gp (p_not rfl) ?_ | refine gp (p_extract rfl rfl) ?_) | (refine gGV ?_; refine gv (p_loads rfl) ?_) | (refine gL ?_; first | refine s_gp rfl rfl ?_ | refine s_gv HM rfl ?_ | (refine gCall ?_; (refine s_fn rfl rfl ?_; first | (go_at_call 15; refine (specWorldOk x i h0 hn HM).mono ?_; rintro e W1 ⟨rfl, HM1⟩; refine ⟨_, rfl, ?_⟩; clear HM; have HM := HM1; clear HM1) | (go_at_call 16; refine (specMaj x i ix h0 hn.recs (safe_of hv) HM).mono ?_; rintro e W1 ⟨t, b, rfl, hm, HM1⟩; refine ⟨_, rfl, ?_⟩; clear HM; have HM := HM1; clear HM1))) | (refine s_box HM rfl rfl ?_; intro g W1 HM1; clear HM; have HM := HM1; clear HM1) | refine l_nil ?_) | (refine gC ?_; first | refine c_seq ?_ | refine c_region ?_ | refine c_skip ?_ | refine c_ret ?_ | refine c_no rfl (by (simp; omega)) ?_) | (refine gN ?_; refine n_then ?_))
    exact ret_two rfl rfl rfl ⟨_, _, rfl, ⟨(fun _ => hm), fun h => by rw [hv] at h; cases h⟩, HM.sb⟩
  · simp only [Bool.not_eq_true] at hv
    repeat (first | (refine gGP ?_; first | refine gp (p_assign rfl) ?_ | refine gp (p_not rfl) ?_) | (refine gGV ?_; refine gv (p_loads rfl) ?_) | (refine gL ?_; first | refine s_gp rfl rfl ?_ | refine s_gv HM rfl ?_ | (refine gCall ?_; (refine s_fn rfl rfl ?_; (go_at_call 15; refine (specWorldOk x i h0 hn HM).mono ?_; rintro e W1 ⟨rfl, HM1⟩; refine ⟨_, rfl, ?_⟩; clear HM; have HM := HM1; clear HM1))) | (refine s_box HM rfl rfl ?_; intro g W1 HM1; clear HM; have HM := HM1; clear HM1) | refine l_nil ?_) | (refine gC ?_; first | refine c_seq ?_ | refine c_region ?_ | refine c_ret ?_ | refine c_yes rfl (by (simp; omega)) ?_) | (refine gN ?_; first | refine n_then ?_ | refine r_then ?_))
    exact ret_two rfl rfl rfl ⟨_, _, rfl, ⟨(fun h => by rw [hv] at h; cases h), fun _ => ⟨rfl, rfl⟩⟩, HM.sb⟩
theorem implMajor (x : Wld) (i : AtW) (ix : Int) (h : RoW false w0 x i) (hn : SmallW x) (HM : Mem w0 W L) : Calls Try.prog 8 #[.agg (encW x i).toArray, .int .i64 ix] W fun e W' => ∃ t b, e = .returned (.tuple #[.string t, .bool b]) ∧ IsRM x ix t b ∧ Mem w0 W' L := by
  refine enter Try.func8 rfl Try.ntmps8 [(0, .agg (encW x i).toArray), (1, _)] rfl ⟨rfl, rfl, trivial⟩ ?_
  have h0 := h
  unfold encW
  by_cases hv : worldB x = true
  · repeat (first | (refine gGP ?_; first | refine gp (p_move rfl) ?_ | refine gp (p_assign rfl) ?_ | refine gp (p_not rfl) ?_) | (refine gGV ?_; refine gv (p_loads rfl) ?_) | (refine gL ?_; first | refine s_gp rfl rfl ?_ | refine s_gv HM rfl ?_ | (refine gCall ?_; (refine s_fn rfl rfl ?_; (go_at_call 20; refine (implWorldOk x i h0 hn HM).mono ?_; rintro e W1 ⟨rfl, HM1⟩; refine ⟨_, rfl, ?_⟩; clear HM; have HM := HM1; clear HM1))) | (refine s_box HM rfl rfl ?_; intro g W1 HM1; clear HM; have HM := HM1; clear HM1) | refine l_nil ?_) | (refine gC ?_; first | refine c_seq ?_ | refine c_region ?_ | refine c_skip ?_ | refine c_no rfl (by (simp; omega)) ?_) | (refine gN ?_; refine n_then ?_))
    refine s_fn rfl rfl ?_
    refine (implMaj (w0 := W1) x i g ix (roW_now HM h0) HM.heap hn.recs (safe_of hv) (Mem.start _)).mono ?_
    rintro e W2 ⟨t, b, rfl, hm, HM1⟩
    refine ⟨_, rfl, ?_⟩
    have HM2 := HM.step HM1.below
    clear HM HM1
    have HM := HM2
    clear HM2
    repeat (first | (refine gGP ?_; first | refine gp (p_assign rfl) ?_ | refine gp (p_extract rfl rfl) ?_) | (refine gL ?_; first | refine s_gp rfl rfl ?_ | refine l_nil ?_) | (refine gC ?_; refine c_ret ?_) | (refine gN ?_; refine n_then ?_))
    exact ret_two rfl rfl rfl ⟨_, _, rfl, ⟨(fun _ => hm), fun h => by rw [hv] at h; cases h⟩, HM.sb⟩
  · simp only [Bool.not_eq_true] at hv
    repeat (first | (refine gGP ?_; first | refine gp (p_assign rfl) ?_ | refine gp (p_not rfl) ?_) | (refine gGV ?_; refine gv (p_loads rfl) ?_) | (refine gL ?_; first | refine s_gp rfl rfl ?_ | refine s_gv HM rfl ?_ | (refine gCall ?_; (refine s_fn rfl rfl ?_; (go_at_call 20; refine (implWorldOk x i h0 hn HM).mono ?_; rintro e W1 ⟨rfl, HM1⟩; refine ⟨_, rfl, ?_⟩; clear HM; have HM := HM1; clear HM1))) | (refine s_box HM rfl rfl ?_; intro g W1 HM1; clear HM; have HM := HM1; clear HM1) | refine l_nil ?_) | (refine gC ?_; first | refine c_seq ?_ | refine c_region ?_ | refine c_ret ?_ | refine c_yes rfl (by (simp; omega)) ?_) | (refine gN ?_; first | refine n_then ?_ | refine r_then ?_))
    exact ret_two rfl rfl rfl ⟨_, _, rfl, ⟨(fun h => by rw [hv] at h; cases h), fun _ => ⟨rfl, rfl⟩⟩, HM.sb⟩
end Go.Proofs.Ytjeijflpejhkhaa.Sp
