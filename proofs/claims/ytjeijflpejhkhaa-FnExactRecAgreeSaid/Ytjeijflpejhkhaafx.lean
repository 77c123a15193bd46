/- What is fixed for a place, of both sides. No condition. -/
import Derived.Test.Ytjeijflpejhkhaamaj2
import Derived.Test.Ytjeijflpejhkhaawok2
import Derived.Test.YtjeijflpejhkhaaSpNow
namespace Go.Proofs.Ytjeijflpejhkhaa.Sp
open Go Go.RowKit
set_option linter.unusedVariables false
set_option linter.unusedSimpArgs false
set_option maxRecDepth 10000
set_option maxHeartbeats 1000000
variable {w0 W : World} {L : List Asn}
def fixA (x : Wld) (ix : Int) : ByteArray × Bool := match x.fixed.find? (fun f => decide (f.index = ix)) with | some f => (f.text, true) | none => (⟨#[]⟩, false)
theorem fixA_hit {x : Wld} {ix : Int} {k : Nat} (hk : k < x.fixed.length) (h0 : ∀ j (h : j < x.fixed.length), j < k → x.fixed[j].index ≠ ix) (h : x.fixed[k].index = ix) : fixA x ix = (x.fixed[k].text, true) := by
  have : x.fixed.find? (fun f => decide (f.index = ix)) = some x.fixed[k] := by
    rw [List.find?_eq_some_iff_getElem]
    exact ⟨by simp [h], k, hk, rfl, fun j hj => by simp [h0 j (by omega) hj]⟩
  rw [fixA, this]
theorem fixA_none {x : Wld} {ix : Int} (h0 : ∀ j (h : j < x.fixed.length), x.fixed[j].index ≠ ix) : fixA x ix = (⟨#[]⟩, false) := by
  have : x.fixed.find? (fun f => decide (f.index = ix)) = none := by
    rw [List.find?_eq_none]
    intro f hf
    obtain ⟨j, hj, rfl⟩ := List.getElem_of_mem hf
    simp [h0 j hj]
  rw [fixA, this]
theorem specFixed (x : Wld) (i : AtW) (ix : Int) (h : RoW false w0 x i) (hn : x.fixed.length ≤ 1048576) (HM : Mem w0 W L) : Calls Try.prog 26 #[.agg (encW x i).toArray, .int .i64 ix] W fun e W' => e = .returned (.tuple #[.string (fixA x ix).1, .bool (fixA x ix).2]) ∧ Mem w0 W' L := by
  refine enter Try.func26 rfl Try.ntmps26 [(0, .agg (encW x i).toArray), (1, _)] rfl ⟨rfl, rfl, trivial⟩ ?_
  have hx := h.fixed
  unfold encW
  replace HM := HM.rod hx
  repeat (first | (refine gGP ?_; refine gp (p_assign rfl) ?_) | (refine gL ?_; first | refine s_gp rfl rfl ?_ | (refine s_box HM rfl rfl ?_; intro g W1 HM1; clear HM; have HM := HM1; clear HM1) | refine l_nil ?_) | (refine gC ?_; first | refine c_seq ?_ | refine c_region ?_ | refine c_block ?_) | (refine gN ?_; refine n_then ?_))
  refine c_loop (σ := Nat) (fun k => [(1, .int .i64 ix), (2, .pointer (some ⟨g, 0, none⟩)), (6, .int .i64 k)]) (fun k W1 => k ≤ x.fixed.length ∧ (∀ j (h : j < x.fixed.length), j < k → x.fixed[j].index ≠ ix) ∧ Mem w0 W1 _) (fun k => x.fixed.length - k) 0 (by repeat (first | exact trivial | refine And.intro (by first | rfl | exact look_int rfl (by omega)) ?_)) ⟨Nat.zero_le _, fun j h hj => by omega, HM⟩ ?_
  clear HM
  rintro k W1 ⟨hk, hp, HM⟩
  by_cases hlt : k < x.fixed.length
  · obtain ⟨cc, ⟨j, rfl, _⟩, HM⟩ := HM.roOpen (A := i.b2.1) k hlt
    unfold encFix at HM
    by_cases c1 : x.fixed[k].index = ix
    · have e := fixA_hit hlt hp c1
      repeat (first | (refine gGV ?_; refine gv (p_loadrc rfl rfl) ?_) | (refine gGP ?_; first | refine gp (p_move rfl) ?_ | refine gp (p_assign rfl) ?_ | (refine gGB ?_; first | refine gp (p_lss rfl rfl) ?_ | refine gp (p_eql rfl rfl) ?_) | refine gp (p_field rfl (by simp only [Nat.reduceAdd]; rfl)) ?_ | refine gp (p_fieldo rfl (by simp only [Nat.reduceAdd]; rfl)) ?_ | refine gp (p_indexr HM rfl (by first | with_reducible rfl | omega) rfl (by omega) (by omega)) ?_ | refine gp (p_len rfl) ?_) | (refine gGV ?_; refine gv (p_load rfl) ?_) | (refine gL ?_; first | refine s_gp rfl rfl ?_ | refine s_gv HM rfl ?_ | refine l_nil ?_) | (refine gC ?_; first | refine c_seq ?_ | refine c_region ?_ | refine c_block ?_ | refine c_skip ?_ | refine c_ret ?_ | refine c_yes rfl (by (simp; omega)) ?_) | (refine gN ?_; first | refine n_then ?_ | refine r_then ?_ | refine r_block ?_))
      rw [e]
      exact ret_two rfl rfl rfl ⟨rfl, HM.sb⟩
    · repeat (first | (refine gGV ?_; refine gv (p_loadrc rfl rfl) ?_) | (refine gGP ?_; first | refine gp (p_move rfl) ?_ | refine gp (p_assign rfl) ?_ | (refine gGB ?_; first | refine gp (p_lss rfl rfl) ?_ | refine gp (p_eql rfl rfl) ?_ | refine gp (p_add rfl rfl (by exact wr (by omega) (by omega))) ?_) | refine gp (p_field rfl (by simp only [Nat.reduceAdd]; rfl)) ?_ | refine gp (p_fieldo rfl (by simp only [Nat.reduceAdd]; rfl)) ?_ | refine gp (p_indexr HM rfl (by first | with_reducible rfl | omega) rfl (by omega) (by omega)) ?_ | refine gp (p_len rfl) ?_) | (refine gGV ?_; refine gv (p_load rfl) ?_) | (refine gL ?_; first | refine s_gp rfl rfl ?_ | refine s_gv HM rfl ?_ | refine l_nil ?_) | (refine gC ?_; first | refine c_seq ?_ | refine c_region ?_ | refine c_block ?_ | refine c_skip ?_ | refine c_yes rfl (by (simp; omega)) ?_ | refine c_no rfl (by (simp; omega)) ?_) | (refine gN ?_; first | refine n_then ?_ | refine n_block ?_))
      exact n_round (k + 1) (by repeat (first | exact trivial | refine And.intro (by first | rfl | exact look_int rfl (by omega)) ?_)) ⟨by omega, fun j h hj => by
        by_cases e : j = k
        · subst e; exact c1
        · exact hp j h (by omega), HM.sb⟩ (by omega)
  · repeat (first | (refine gGP ?_; first | refine gp (p_move rfl) ?_ | refine gp (p_assign rfl) ?_ | (refine gGB ?_; refine gp (p_lss rfl rfl) ?_) | refine gp (p_field rfl (by simp only [Nat.reduceAdd]; rfl)) ?_ | refine gp (p_len rfl) ?_) | (refine gGV ?_; refine gv (p_load rfl) ?_) | (refine gL ?_; first | refine s_gp rfl rfl ?_ | refine s_gv HM rfl ?_ | refine l_nil ?_) | (refine gC ?_; first | refine c_seq ?_ | refine c_region ?_ | refine c_exit ?_ | refine c_ret ?_ | refine c_no rfl (by (simp; omega)) ?_) | (refine gN ?_; first | refine n_then ?_ | refine x_then ?_ | refine x_here ?_))
    obtain rfl : k = x.fixed.length := by omega
    have e := fixA_none (x := x) (ix := ix) (fun j h => hp j h h)
    rw [e]
    exact ret_two rfl rfl rfl ⟨rfl, HM.sb⟩
theorem implFixed (x : Wld) (i : AtW) (g : Nat) (hb : w0.heap[g]? = some (.cells (CW x i).toArray 34 (0, 0))) (ix : Int) (h : RoW false w0 x i) (hn : x.fixed.length ≤ 1048576) (HM : Mem w0 W L) : Calls Try.prog 44 #[.pointer (some ⟨g, 0, none⟩), .int .i64 ix] W fun e W' => e = .returned (.tuple #[.string (fixA x ix).1, .bool (fixA x ix).2]) ∧ Mem w0 W' L := by
  refine enter Try.func44 rfl Try.ntmps44 [(0, _), (1, _)] rfl ⟨rfl, rfl, trivial⟩ ?_
  have hx := h.fixed
  unfold CW at hb
  replace HM := (HM.rod hx).robox hb
  repeat (first | (refine gGP ?_; first | refine gp (p_move rfl) ?_ | refine gp (p_assign rfl) ?_ | refine gp (p_field rfl (by simp only [Nat.reduceAdd]; rfl)) ?_ | refine gp (p_len rfl) ?_) | (refine gGV ?_; refine gv (p_loadrb rfl) ?_) | (refine gL ?_; first | refine s_gp rfl rfl ?_ | refine s_gv HM rfl ?_ | refine s_pv (p_nil rfl) rfl ?_ | refine l_nil ?_) | (refine gC ?_; first | refine c_seq ?_ | refine c_region ?_ | refine c_block ?_) | (refine gN ?_; refine n_then ?_))
  refine c_loop (σ := Nat) (fun k => [(1, .int .i64 ix), (11, .slice i.b2.1 x.fixed.length i.b2.2), (12, .int .i64 x.fixed.length), (13, .int .i64 k)]) (fun k W1 => k ≤ x.fixed.length ∧ (∀ j (h : j < x.fixed.length), j < k → x.fixed[j].index ≠ ix) ∧ Mem w0 W1 _) (fun k => x.fixed.length - k) 0 (by repeat (first | exact trivial | refine And.intro (by first | rfl | exact look_int rfl (by omega)) ?_)) ⟨Nat.zero_le _, fun j h hj => by omega, HM⟩ ?_
  clear HM
  rintro k W1 ⟨hk, hp, HM⟩
  by_cases hlt : k < x.fixed.length
  · obtain ⟨cc, ⟨j, rfl, _⟩, HM⟩ := HM.roOpen (A := i.b2.1) k hlt
    unfold encFix at HM
    by_cases c1 : x.fixed[k].index = ix
    · have e := fixA_hit hlt hp c1
      repeat (first | (refine gGP ?_; first | refine gp (p_move rfl) ?_ | refine gp (p_assign rfl) ?_ | (refine gGB ?_; first | refine gp (p_lss rfl rfl) ?_ | refine gp (p_eql rfl rfl) ?_) | refine gp (p_field rfl (by simp only [Nat.reduceAdd]; rfl)) ?_ | refine gp (p_indexr HM rfl (by first | with_reducible rfl | omega) rfl (by omega) (by omega)) ?_) | (refine gGV ?_; first | refine gv (p_load rfl) ?_ | refine gv (p_loadwr rfl rfl rfl) ?_) | (refine gL ?_; first | refine s_gp rfl rfl ?_ | refine s_gv HM rfl ?_ | (refine gStore ?_; (refine s_store HM rfl rfl rfl rfl ?_; intro W1 HM1; clear HM; have HM := HM1; clear HM1)) | (refine s_alloc HM rfl ?_; intro g W1 HM1; clear HM; have HM := HM1; clear HM1) | refine l_nil ?_) | (refine gC ?_; first | refine c_seq ?_ | refine c_region ?_ | refine c_block ?_ | refine c_skip ?_ | refine c_ret ?_ | refine c_yes rfl (by (simp; omega)) ?_) | (refine gN ?_; first | refine n_then ?_ | refine r_then ?_ | refine r_block ?_))
      rw [e]
      exact ret_two rfl rfl rfl ⟨rfl, HM.sb⟩
    · repeat (first | (refine gGP ?_; first | refine gp (p_move rfl) ?_ | (refine gGB ?_; first | refine gp (p_lss rfl rfl) ?_ | refine gp (p_eql rfl rfl) ?_ | refine gp (p_add rfl rfl (by exact wr (by omega) (by omega))) ?_) | refine gp (p_field rfl (by simp only [Nat.reduceAdd]; rfl)) ?_ | refine gp (p_indexr HM rfl (by first | with_reducible rfl | omega) rfl (by omega) (by omega)) ?_) | (refine gGV ?_; first | refine gv (p_load rfl) ?_ | refine gv (p_loadwr rfl rfl rfl) ?_) | (refine gL ?_; first | refine s_gp rfl rfl ?_ | refine s_gv HM rfl ?_ | (refine gStore ?_; (refine s_store HM rfl rfl rfl rfl ?_; intro W1 HM1; clear HM; have HM := HM1; clear HM1)) | (refine s_alloc HM rfl ?_; intro g W1 HM1; clear HM; have HM := HM1; clear HM1) | refine l_nil ?_) | (refine gC ?_; first | refine c_seq ?_ | refine c_region ?_ | refine c_block ?_ | refine c_skip ?_ | refine c_yes rfl (by (simp; omega)) ?_ | refine c_no rfl (by (simp; omega)) ?_) | (refine gN ?_; first | refine n_then ?_ | refine n_block ?_))
      exact n_round (k + 1) (by repeat (first | exact trivial | refine And.intro (by first | rfl | exact look_int rfl (by omega)) ?_)) ⟨by omega, fun j h hj => by
        by_cases e : j = k
        · subst e; exact c1
        · exact hp j h (by omega), HM.sb⟩ (by omega)
  · repeat (first | (refine gGP ?_; first | refine gp (p_assign rfl) ?_ | (refine gGB ?_; refine gp (p_lss rfl rfl) ?_)) | (refine gL ?_; first | refine s_gp rfl rfl ?_ | refine l_nil ?_) | (refine gC ?_; first | refine c_seq ?_ | refine c_region ?_ | refine c_exit ?_ | refine c_ret ?_ | refine c_no rfl (by (simp; omega)) ?_) | (refine gN ?_; first | refine n_then ?_ | refine x_then ?_ | refine x_here ?_))
    obtain rfl : k = x.fixed.length := by omega
    have e := fixA_none (x := x) (ix := ix) (fun j h => hp j h h)
    rw [e]
    exact ret_two rfl rfl rfl ⟨rfl, HM.sb⟩
end Go.Proofs.Ytjeijflpejhkhaa.Sp
