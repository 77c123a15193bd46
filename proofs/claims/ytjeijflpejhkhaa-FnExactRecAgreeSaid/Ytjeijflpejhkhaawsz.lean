/- sz, to and eq of worlds. No condition. -/
import Derived.Test.Ytjeijflpejhkhaawd
import Derived.Test.Ytjeijflpejhkhaato
import Derived.Test.Ytjeijflpejhkhaaeqs
namespace Go.Proofs.Ytjeijflpejhkhaa.Sp
open Go Go.RowKit
set_option linter.unusedVariables false
set_option linter.unusedSimpArgs false
set_option maxRecDepth 10000
set_option maxHeartbeats 1000000
variable {w0 W : World} {L : List Asn} {A B : Option Addr} {c c' : Nat} {b : Bool}
theorem szRec2 (x : Rcd) (i : AtRcd) (h : RoRcd true w0 x i) (k : Int) (k0 : 0 ≤ k) (k1 : k ≤ 1048576) (HM : Mem w0 W L) : Calls Try.prog 28 #[.agg (encRcd x i).toArray, .int .i64 k] W fun e W' => ∃ r, e = .returned (.int .i64 r) ∧ r ≤ k ∧ (0 ≤ r → SmallR x) ∧ Mem w0 W' L := by
  refine enter Try.func28 rfl Try.ntmps28 [(0, .agg (encRcd x i).toArray), (1, _)] rfl ⟨rfl, rfl, trivial⟩ ?_
  unfold encRcd
  repeat (first | (refine gGP ?_; first | refine gp (p_move rfl) ?_ | refine gp (p_assign rfl) ?_ | (refine gGB ?_; refine gp (p_lss rfl rfl) ?_) | refine gp (p_field rfl (by simp only [Nat.reduceAdd]; rfl)) ?_) | (refine gGV ?_; refine gv (p_loads rfl) ?_) | (refine gL ?_; first | refine s_gp rfl rfl ?_ | refine s_gv HM rfl ?_ | (refine gCall ?_; (refine s_fn rfl rfl ?_; (go_at_call 45; refine (szDisk _ _ h.ss k k0 k1 HM).mono ?_; rintro e W1 ⟨r1, rfl, hr1, hp1, HM1⟩; refine ⟨_, rfl, ?_⟩; clear HM; have HM := HM1; clear HM1))) | (refine s_box HM rfl rfl ?_; intro g W1 HM1; clear HM; have HM := HM1; clear HM1) | refine l_nil ?_) | (refine gC ?_; first | refine c_seq ?_ | refine c_region ?_) | (refine gN ?_; refine n_then ?_))
  by_cases n1 : r1 < 0
  · repeat (first | (refine gGP ?_; refine gp (p_assign rfl) ?_) | (refine gL ?_; first | refine s_gp rfl rfl ?_ | refine l_nil ?_) | (refine gC ?_; first | refine c_seq ?_ | refine c_region ?_ | refine c_ret ?_ | refine c_yes rfl (by (simp; omega)) ?_) | (refine gN ?_; first | refine n_then ?_ | refine r_then ?_))
    exact ret_tmp rfl rfl ⟨_, rfl, by omega, fun h => by omega, HM.drop⟩
  repeat (first | (refine gGP ?_; first | refine gp (p_move rfl) ?_ | refine gp (p_assign rfl) ?_ | (refine gGB ?_; refine gp (p_lss rfl rfl) ?_) | refine gp (p_field rfl (by simp only [Nat.reduceAdd]; rfl)) ?_) | (refine gGV ?_; refine gv (p_loads rfl) ?_) | (refine gL ?_; first | refine s_gp rfl rfl ?_ | refine s_gv HM rfl ?_ | (refine gCall ?_; (refine s_fn rfl rfl ?_; (go_at_call 45; refine (szDisk _ _ h.ds r1 (by omega) (by omega) HM).mono ?_; rintro e W1 ⟨r2, rfl, hr2, hp2, HM1⟩; refine ⟨_, rfl, ?_⟩; clear HM; have HM := HM1; clear HM1))) | refine l_nil ?_) | (refine gC ?_; first | refine c_seq ?_ | refine c_region ?_ | refine c_skip ?_ | refine c_no rfl (by (simp; omega)) ?_) | (refine gN ?_; refine n_then ?_))

  by_cases n2 : r2 < 0
  · repeat (first | (refine gGP ?_; refine gp (p_assign rfl) ?_) | (refine gL ?_; first | refine s_gp rfl rfl ?_ | refine l_nil ?_) | (refine gC ?_; first | refine c_seq ?_ | refine c_region ?_ | refine c_ret ?_ | refine c_yes rfl (by (simp; omega)) ?_) | (refine gN ?_; first | refine n_then ?_ | refine r_then ?_))
    exact ret_tmp rfl rfl ⟨_, rfl, by omega, fun h => by omega, HM.drop⟩
  repeat (first | (refine gGP ?_; first | refine gp (p_move rfl) ?_ | refine gp (p_assign rfl) ?_ | (refine gGB ?_; refine gp (p_lss rfl rfl) ?_) | refine gp (p_field rfl (by simp only [Nat.reduceAdd]; rfl)) ?_) | (refine gGV ?_; refine gv (p_load rfl) ?_) | (refine gL ?_; first | refine s_gp rfl rfl ?_ | refine s_gv HM rfl ?_ | (refine gCall ?_; (refine s_fn rfl rfl ?_; (go_at_call 13; refine (szMsgS h.held r2 (by omega) (by omega) HM).mono ?_; rintro e W1 ⟨r3, rfl, hr3, hp3, HM1⟩; refine ⟨_, rfl, ?_⟩; clear HM; have HM := HM1; clear HM1))) | refine l_nil ?_) | (refine gC ?_; first | refine c_seq ?_ | refine c_region ?_ | refine c_skip ?_ | refine c_no rfl (by (simp; omega)) ?_) | (refine gN ?_; refine n_then ?_))

  by_cases n3 : r3 < 0
  · repeat (first | (refine gGP ?_; refine gp (p_assign rfl) ?_) | (refine gL ?_; first | refine s_gp rfl rfl ?_ | refine l_nil ?_) | (refine gC ?_; first | refine c_seq ?_ | refine c_region ?_ | refine c_ret ?_ | refine c_yes rfl (by (simp; omega)) ?_) | (refine gN ?_; first | refine n_then ?_ | refine r_then ?_))
    exact ret_tmp rfl rfl ⟨_, rfl, by omega, fun h => by omega, HM.drop⟩
  repeat (first | (refine gGP ?_; first | refine gp (p_move rfl) ?_ | refine gp (p_assign rfl) ?_ | (refine gGB ?_; refine gp (p_lss rfl rfl) ?_) | refine gp (p_field rfl (by simp only [Nat.reduceAdd]; rfl)) ?_) | (refine gGV ?_; refine gv (p_load rfl) ?_) | (refine gL ?_; first | refine s_gp rfl rfl ?_ | refine s_gv HM rfl ?_ | (refine gCall ?_; (refine s_fn rfl rfl ?_; (go_at_call 46; refine (szStrS h.wishes r3 (by omega) (by omega) HM).mono ?_; rintro e W1 ⟨r4, rfl, hr4, hp4, HM1⟩; refine ⟨_, rfl, ?_⟩; clear HM; have HM := HM1; clear HM1))) | refine l_nil ?_) | (refine gC ?_; first | refine c_seq ?_ | refine c_region ?_ | refine c_skip ?_ | refine c_no rfl (by (simp; omega)) ?_) | (refine gN ?_; refine n_then ?_))

  by_cases n4 : r4 < 0
  · repeat (first | (refine gGP ?_; refine gp (p_assign rfl) ?_) | (refine gL ?_; first | refine s_gp rfl rfl ?_ | refine l_nil ?_) | (refine gC ?_; first | refine c_seq ?_ | refine c_region ?_ | refine c_ret ?_ | refine c_yes rfl (by (simp; omega)) ?_) | (refine gN ?_; first | refine n_then ?_ | refine r_then ?_))
    exact ret_tmp rfl rfl ⟨_, rfl, by omega, fun h => by omega, HM.drop⟩
  repeat (first | (refine gGP ?_; first | refine gp (p_move rfl) ?_ | refine gp (p_assign rfl) ?_ | (refine gGB ?_; refine gp (p_lss rfl rfl) ?_) | refine gp (p_field rfl (by simp only [Nat.reduceAdd]; rfl)) ?_) | (refine gGV ?_; refine gv (p_load rfl) ?_) | (refine gL ?_; first | refine s_gp rfl rfl ?_ | refine s_gv HM rfl ?_ | (refine gCall ?_; (refine s_fn rfl rfl ?_; (go_at_call 47; refine (szIntS h.yes r4 (by omega) (by omega) HM).mono ?_; rintro e W1 ⟨r5, rfl, hr5, hp5, HM1⟩; refine ⟨_, rfl, ?_⟩; clear HM; have HM := HM1; clear HM1))) | refine l_nil ?_) | (refine gC ?_; first | refine c_seq ?_ | refine c_region ?_ | refine c_skip ?_ | refine c_no rfl (by (simp; omega)) ?_) | (refine gN ?_; refine n_then ?_))

  by_cases n5 : r5 < 0
  · repeat (first | (refine gGP ?_; refine gp (p_assign rfl) ?_) | (refine gL ?_; first | refine s_gp rfl rfl ?_ | refine l_nil ?_) | (refine gC ?_; first | refine c_seq ?_ | refine c_region ?_ | refine c_ret ?_ | refine c_yes rfl (by (simp; omega)) ?_) | (refine gN ?_; first | refine n_then ?_ | refine r_then ?_))
    exact ret_tmp rfl rfl ⟨_, rfl, by omega, fun h => by omega, HM.drop⟩
  repeat (first | (refine gGP ?_; first | refine gp (p_move rfl) ?_ | refine gp (p_assign rfl) ?_ | (refine gGB ?_; refine gp (p_lss rfl rfl) ?_) | refine gp (p_field rfl (by simp only [Nat.reduceAdd]; rfl)) ?_) | (refine gGV ?_; refine gv (p_load rfl) ?_) | (refine gL ?_; first | refine s_gp rfl rfl ?_ | refine s_gv HM rfl ?_ | (refine gCall ?_; (refine s_fn rfl rfl ?_; (go_at_call 48; refine (szSlotS h.best r5 (by omega) (by omega) HM).mono ?_; rintro e W1 ⟨r6, rfl, hr6, hp6, HM1⟩; refine ⟨_, rfl, ?_⟩; clear HM; have HM := HM1; clear HM1))) | refine l_nil ?_) | (refine gC ?_; first | refine c_seq ?_ | refine c_region ?_ | refine c_skip ?_ | refine c_no rfl (by (simp; omega)) ?_) | (refine gN ?_; refine n_then ?_))

  by_cases n6 : r6 < 0
  · repeat (first | (refine gGP ?_; refine gp (p_assign rfl) ?_) | (refine gL ?_; first | refine s_gp rfl rfl ?_ | refine l_nil ?_) | (refine gC ?_; first | refine c_seq ?_ | refine c_region ?_ | refine c_ret ?_ | refine c_yes rfl (by (simp; omega)) ?_) | (refine gN ?_; first | refine n_then ?_ | refine r_then ?_))
    exact ret_tmp rfl rfl ⟨_, rfl, by omega, fun h => by omega, HM.drop⟩
  repeat (first | (refine gGP ?_; first | refine gp (p_move rfl) ?_ | refine gp (p_assign rfl) ?_ | (refine gGB ?_; refine gp (p_lss rfl rfl) ?_) | refine gp (p_field rfl (by simp only [Nat.reduceAdd]; rfl)) ?_) | (refine gGV ?_; refine gv (p_load rfl) ?_) | (refine gL ?_; first | refine s_gp rfl rfl ?_ | refine s_gv HM rfl ?_ | (refine gCall ?_; (refine s_fn rfl rfl ?_; (go_at_call 49; refine (szAckS h.acks r6 (by omega) (by omega) HM).mono ?_; rintro e W1 ⟨r7, rfl, hr7, hp7, HM1⟩; refine ⟨_, rfl, ?_⟩; clear HM; have HM := HM1; clear HM1))) | refine l_nil ?_) | (refine gC ?_; first | refine c_seq ?_ | refine c_region ?_ | refine c_skip ?_ | refine c_no rfl (by (simp; omega)) ?_) | (refine gN ?_; refine n_then ?_))

  by_cases n7 : r7 < 0
  · repeat (first | (refine gGP ?_; refine gp (p_assign rfl) ?_) | (refine gL ?_; first | refine s_gp rfl rfl ?_ | refine l_nil ?_) | (refine gC ?_; first | refine c_seq ?_ | refine c_region ?_ | refine c_ret ?_ | refine c_yes rfl (by (simp; omega)) ?_) | (refine gN ?_; first | refine n_then ?_ | refine r_then ?_))
    exact ret_tmp rfl rfl ⟨_, rfl, by omega, fun h => by omega, HM.drop⟩
  repeat (first | (refine gGP ?_; first | refine gp (p_move rfl) ?_ | refine gp (p_assign rfl) ?_) | (refine gL ?_; first | refine s_gp rfl rfl ?_ | refine l_nil ?_) | (refine gC ?_; first | refine c_seq ?_ | refine c_region ?_ | refine c_skip ?_ | refine c_ret ?_ | refine c_no rfl (by (simp; omega)) ?_) | (refine gN ?_; refine n_then ?_))
  exact ret_tmp rfl rfl ⟨_, rfl, by omega, fun h => ⟨hp1 (by omega), hp2 (by omega), (hp3 (by omega)).1, (hp3 (by omega)).2, (hp4 (by omega)).1, hp5 (by omega), (hp6 (by omega)).1, (hp7 h).1, (hp7 h).2⟩, HM.drop⟩
theorem szRcdS {xs : List Rcd} (h : RoRow (rRcw true) w0 A xs) (k : Int) (k0 : 0 ≤ k) (k1 : k ≤ 1048576) (HM : Mem w0 W L) : Calls Try.prog 12 #[.slice A xs.length c, .int .i64 k] W fun e W' => ∃ r, e = .returned (.int .i64 r) ∧ r ≤ k ∧ (0 ≤ r → xs.length ≤ 1048576 ∧ ∀ x ∈ xs, SmallR x) ∧ Mem w0 W' L := by
  refine enter Try.func12 rfl Try.ntmps12 [(0, _), (1, _)] rfl ⟨rfl, rfl, trivial⟩ ?_
  have hmax := h.max
  replace HM := HM.pur h
  by_cases hn : k - xs.length < 0
  · repeat (first | (refine gGP ?_; first | refine gp (p_move rfl) ?_ | refine gp (p_assign rfl) ?_ | (refine gGB ?_; first | refine gp (p_lss rfl rfl) ?_ | refine gp (p_sub rfl rfl (by exact wr (by omega) (by omega))) ?_) | refine gp (p_len rfl) ?_) | (refine gL ?_; first | refine s_gp rfl rfl ?_ | refine l_nil ?_) | (refine gC ?_; first | refine c_seq ?_ | refine c_region ?_ | refine c_ret ?_ | refine c_yes rfl (by (simp; omega)) ?_) | (refine gN ?_; first | refine n_then ?_ | refine r_then ?_))
    exact ret_tmp rfl rfl ⟨_, rfl, by omega, fun h => by omega, HM.drop⟩
  · repeat (first | (refine gGP ?_; first | refine gp (p_move rfl) ?_ | refine gp (p_assign rfl) ?_ | (refine gGB ?_; first | refine gp (p_lss rfl rfl) ?_ | refine gp (p_sub rfl rfl (by exact wr (by omega) (by omega))) ?_) | refine gp (p_len rfl) ?_) | (refine gL ?_; first | refine s_gp rfl rfl ?_ | refine l_nil ?_) | (refine gC ?_; first | refine c_seq ?_ | refine c_region ?_ | refine c_block ?_ | refine c_skip ?_ | refine c_no rfl (by first | rfl | (simp; omega)) ?_) | (refine gN ?_; refine n_then ?_))
    refine c_loop (σ := Nat × Int) (fun s => [(0, .slice A xs.length c), (1, .int .i64 s.2), (5, .int .i64 s.1)]) (fun s W1 => s.1 ≤ xs.length ∧ 0 ≤ s.2 ∧ s.2 ≤ k ∧ (∀ j (hj : j < xs.length), j < s.1 → (fun x => SmallR x) xs[j]) ∧ Mem w0 W1 (ro (rRcw true) w0 A xs :: L)) (fun s => xs.length - s.1) (0, k - xs.length) (by repeat (first | exact trivial | refine And.intro (by first | rfl | exact look_int rfl (by omega)) ?_)) ⟨Nat.zero_le _, by omega, by omega, fun j _ hj => by omega, HM⟩ ?_
    clear HM
    rintro ⟨i, r⟩ W1 ⟨hi, r0, r1, hp, HM⟩
    dsimp only at hi r0 r1 hp HM ⊢
    by_cases hlt : i < xs.length
    · obtain ⟨cc, ⟨j, rfl, hs⟩, HM⟩ := HM.roOpen (A := A) i hlt
      repeat' (first | (refine gGP ?_; first | refine gp (p_move rfl) ?_ | refine gp (p_assign rfl) ?_ | (refine gGB ?_; first | refine gp (p_lss rfl rfl) ?_ | refine gp (p_add rfl rfl (by exact wr (by omega) (by omega))) ?_) | refine gp (p_indexr HM rfl (by first | with_reducible rfl | omega) rfl (by omega) (by omega)) ?_ | refine gp (p_len rfl) ?_) | (refine gGV ?_; refine gv (p_loadwr rfl rfl rfl) ?_) | (refine gL ?_; first | refine s_gp rfl rfl ?_ | refine s_gv HM rfl ?_ | (refine gCall ?_; (refine s_fn rfl rfl ?_; (go_at_call 28; refine (szRec2 _ _ hs.ro r r0 (by omega) HM).mono ?_; rintro e W1 ⟨r', rfl, hr1, hr2, HM1⟩; refine ⟨_, rfl, ?_⟩; clear HM; have HM := HM1; clear HM1))) | refine l_nil ?_) | (refine gC ?_; first | refine c_seq ?_ | refine c_region ?_ | refine c_block ?_ | refine c_skip ?_ | refine c_ret ?_ | refine c_yes rfl (by (simp; omega)) ?_) | (refine gN ?_; first | refine n_then ?_ | refine n_block ?_ | refine r_then ?_ | refine r_block ?_) | refine c_cond rfl (fun h => ?_) (fun h => ?_))
      · exact ret_tmp rfl rfl ⟨_, rfl, by omega, fun h => by omega, HM.sb⟩
      · have hz := h
        simp at hz
        exact n_round (i + 1, _) (by repeat (first | exact trivial | refine And.intro (by first | rfl | exact look_int rfl (by omega)) ?_)) ⟨by simp only; omega, by first | assumption | (simp only; omega), by simp only; omega, fun j hj hj2 => by
          by_cases e : j = i
          · subst e
            exact hr2 hz
          · exact hp j hj (by simp only at hj2; omega), HM.sb⟩ (by simp only; omega)
    · repeat (first | (refine gGP ?_; first | refine gp (p_move rfl) ?_ | refine gp (p_assign rfl) ?_ | (refine gGB ?_; refine gp (p_lss rfl rfl) ?_) | refine gp (p_len rfl) ?_) | (refine gL ?_; first | refine s_gp rfl rfl ?_ | refine l_nil ?_) | (refine gC ?_; first | refine c_seq ?_ | refine c_region ?_ | refine c_exit ?_ | refine c_ret ?_ | refine c_no rfl (by (simp; omega)) ?_) | (refine gN ?_; first | refine n_then ?_ | refine x_then ?_ | refine x_here ?_))
      exact ret_tmp rfl rfl ⟨_, rfl, by omega, fun _ => ⟨by omega, fun x hx => by
        obtain ⟨j, hj, rfl⟩ := List.getElem_of_mem hx
        exact hp j hj (by omega)⟩, HM.drop⟩

theorem szFix (x : Fix) (hs : x.text.size ≤ maxLen) (k : Int) (k0 : 0 ≤ k) (k1 : k ≤ 1048576) (HM : Mem w0 W L) : Calls Try.prog 30 #[.agg (encFix x ()).toArray, .int .i64 k] W fun e W' => ∃ r, e = .returned (.int .i64 r) ∧ r ≤ k ∧ (0 ≤ r → True) ∧ Mem w0 W' L := by
  refine enter Try.func30 rfl Try.ntmps30 [(0, .agg (encFix x ()).toArray), (1, _)] rfl ⟨rfl, rfl, trivial⟩ ?_
  unfold encFix
  unfold maxLen at hs
  repeat' (first | (refine gGP ?_; first | refine gp (p_move rfl) ?_ | refine gp (p_assign rfl) ?_ | (refine gGB ?_; first | refine gp (p_lss rfl rfl) ?_ | refine gp (p_sub rfl rfl (by exact wr (by omega) (by omega))) ?_) | refine gp (p_field rfl (by simp only [Nat.reduceAdd]; rfl)) ?_ | refine gp (p_slen rfl) ?_) | (refine gGV ?_; refine gv (p_load rfl) ?_) | (refine gL ?_; first | refine s_gp rfl rfl ?_ | refine s_gv HM rfl ?_ | (refine s_box HM rfl rfl ?_; intro g W1 HM1; clear HM; have HM := HM1; clear HM1) | refine l_nil ?_) | (refine gC ?_; first | refine c_seq ?_ | refine c_region ?_ | refine c_skip ?_ | refine c_ret ?_) | (refine gN ?_; first | refine n_then ?_ | refine r_then ?_) | refine c_cond rfl (fun h => ?_) (fun h => ?_))
  · exact ret_tmp rfl rfl ⟨_, rfl, by omega, fun h => trivial, HM.drop⟩
  · exact ret_tmp rfl rfl ⟨_, rfl, by omega, fun h => trivial, HM.drop⟩

theorem szFixS {xs : List Fix} (h : RoRow (rFix true) w0 A xs) (k : Int) (k0 : 0 ≤ k) (k1 : k ≤ 1048576) (HM : Mem w0 W L) : Calls Try.prog 14 #[.slice A xs.length c, .int .i64 k] W fun e W' => ∃ r, e = .returned (.int .i64 r) ∧ r ≤ k ∧ (0 ≤ r → xs.length ≤ 1048576 ∧ ∀ x ∈ xs, True) ∧ Mem w0 W' L := by
  refine enter Try.func14 rfl Try.ntmps14 [(0, _), (1, _)] rfl ⟨rfl, rfl, trivial⟩ ?_
  have hmax := h.max
  replace HM := HM.pur h
  by_cases hn : k - xs.length < 0
  · repeat (first | (refine gGP ?_; first | refine gp (p_move rfl) ?_ | refine gp (p_assign rfl) ?_ | (refine gGB ?_; first | refine gp (p_lss rfl rfl) ?_ | refine gp (p_sub rfl rfl (by exact wr (by omega) (by omega))) ?_) | refine gp (p_len rfl) ?_) | (refine gL ?_; first | refine s_gp rfl rfl ?_ | refine l_nil ?_) | (refine gC ?_; first | refine c_seq ?_ | refine c_region ?_ | refine c_ret ?_ | refine c_yes rfl (by (simp; omega)) ?_) | (refine gN ?_; first | refine n_then ?_ | refine r_then ?_))
    exact ret_tmp rfl rfl ⟨_, rfl, by omega, fun h => by omega, HM.drop⟩
  · repeat (first | (refine gGP ?_; first | refine gp (p_move rfl) ?_ | refine gp (p_assign rfl) ?_ | (refine gGB ?_; first | refine gp (p_lss rfl rfl) ?_ | refine gp (p_sub rfl rfl (by exact wr (by omega) (by omega))) ?_) | refine gp (p_len rfl) ?_) | (refine gL ?_; first | refine s_gp rfl rfl ?_ | refine l_nil ?_) | (refine gC ?_; first | refine c_seq ?_ | refine c_region ?_ | refine c_block ?_ | refine c_skip ?_ | refine c_no rfl (by first | rfl | (simp; omega)) ?_) | (refine gN ?_; refine n_then ?_))
    refine c_loop (σ := Nat × Int) (fun s => [(0, .slice A xs.length c), (1, .int .i64 s.2), (5, .int .i64 s.1)]) (fun s W1 => s.1 ≤ xs.length ∧ 0 ≤ s.2 ∧ s.2 ≤ k ∧ (∀ j (hj : j < xs.length), j < s.1 → (fun x => True) xs[j]) ∧ Mem w0 W1 (ro (rFix true) w0 A xs :: L)) (fun s => xs.length - s.1) (0, k - xs.length) (by repeat (first | exact trivial | refine And.intro (by first | rfl | exact look_int rfl (by omega)) ?_)) ⟨Nat.zero_le _, by omega, by omega, fun j _ hj => by omega, HM⟩ ?_
    clear HM
    rintro ⟨i, r⟩ W1 ⟨hi, r0, r1, hp, HM⟩
    dsimp only at hi r0 r1 hp HM ⊢
    by_cases hlt : i < xs.length
    · obtain ⟨cc, ⟨j, rfl, hs⟩, HM⟩ := HM.roOpen (A := A) i hlt
      repeat' (first | (refine gGP ?_; first | refine gp (p_move rfl) ?_ | refine gp (p_assign rfl) ?_ | (refine gGB ?_; first | refine gp (p_lss rfl rfl) ?_ | refine gp (p_add rfl rfl (by exact wr (by omega) (by omega))) ?_) | refine gp (p_indexr HM rfl (by first | with_reducible rfl | omega) rfl (by omega) (by omega)) ?_ | refine gp (p_len rfl) ?_) | (refine gGV ?_; refine gv (p_loadwr rfl rfl rfl) ?_) | (refine gL ?_; first | refine s_gp rfl rfl ?_ | refine s_gv HM rfl ?_ | (refine gCall ?_; (refine s_fn rfl rfl ?_; (go_at_call 30; refine (szFix _ (hs rfl) r r0 (by omega) HM).mono ?_; rintro e W1 ⟨r', rfl, hr1, hr2, HM1⟩; refine ⟨_, rfl, ?_⟩; clear HM; have HM := HM1; clear HM1))) | refine l_nil ?_) | (refine gC ?_; first | refine c_seq ?_ | refine c_region ?_ | refine c_block ?_ | refine c_skip ?_ | refine c_ret ?_ | refine c_yes rfl (by (simp; omega)) ?_) | (refine gN ?_; first | refine n_then ?_ | refine n_block ?_ | refine r_then ?_ | refine r_block ?_) | refine c_cond rfl (fun h => ?_) (fun h => ?_))
      · exact ret_tmp rfl rfl ⟨_, rfl, by omega, fun h => by omega, HM.sb⟩
      · have hz := h
        simp at hz
        exact n_round (i + 1, _) (by repeat (first | exact trivial | refine And.intro (by first | rfl | exact look_int rfl (by omega)) ?_)) ⟨by simp only; omega, by first | assumption | (simp only; omega), by simp only; omega, fun j hj hj2 => by
          by_cases e : j = i
          · subst e
            trivial
          · exact hp j hj (by simp only at hj2; omega), HM.sb⟩ (by simp only; omega)
    · repeat (first | (refine gGP ?_; first | refine gp (p_move rfl) ?_ | refine gp (p_assign rfl) ?_ | (refine gGB ?_; refine gp (p_lss rfl rfl) ?_) | refine gp (p_len rfl) ?_) | (refine gL ?_; first | refine s_gp rfl rfl ?_ | refine l_nil ?_) | (refine gC ?_; first | refine c_seq ?_ | refine c_region ?_ | refine c_exit ?_ | refine c_ret ?_ | refine c_no rfl (by (simp; omega)) ?_) | (refine gN ?_; first | refine n_then ?_ | refine x_then ?_ | refine x_here ?_))
      exact ret_tmp rfl rfl ⟨_, rfl, by omega, fun _ => ⟨by omega, fun x hx => by
        obtain ⟨j, hj, rfl⟩ := List.getElem_of_mem hx
        exact hp j hj (by omega)⟩, HM.drop⟩

theorem szW (x : Wld) (i : AtW) (h : RoW true w0 x i) (k : Int) (k0 : 0 ≤ k) (k1 : k ≤ 1048576) (HM : Mem w0 W L) : Calls Try.prog 5 #[.agg (encW x i).toArray, .int .i64 k] W fun e W' => ∃ r, e = .returned (.int .i64 r) ∧ (0 ≤ r → SmallW x) ∧ Mem w0 W' L := by
  refine enter Try.func5 rfl Try.ntmps5 [(0, .agg (encW x i).toArray), (1, _)] rfl ⟨rfl, rfl, trivial⟩ ?_
  unfold encW
  repeat (first | (refine gGP ?_; first | refine gp (p_move rfl) ?_ | refine gp (p_assign rfl) ?_ | (refine gGB ?_; refine gp (p_lss rfl rfl) ?_) | refine gp (p_field rfl (by simp only [Nat.reduceAdd]; rfl)) ?_) | (refine gGV ?_; refine gv (p_load rfl) ?_) | (refine gL ?_; first | refine s_gp rfl rfl ?_ | refine s_gv HM rfl ?_ | (refine gCall ?_; (refine s_fn rfl rfl ?_; (go_at_call 12; refine (szRcdS h.recs k k0 k1 HM).mono ?_; rintro e W1 ⟨r1, rfl, hr1, hp1, HM1⟩; refine ⟨_, rfl, ?_⟩; clear HM; have HM := HM1; clear HM1))) | (refine s_box HM rfl rfl ?_; intro g W1 HM1; clear HM; have HM := HM1; clear HM1) | refine l_nil ?_) | (refine gC ?_; first | refine c_seq ?_ | refine c_region ?_) | (refine gN ?_; refine n_then ?_))
  by_cases n1 : r1 < 0
  · repeat (first | (refine gGP ?_; refine gp (p_assign rfl) ?_) | (refine gL ?_; first | refine s_gp rfl rfl ?_ | refine l_nil ?_) | (refine gC ?_; first | refine c_seq ?_ | refine c_region ?_ | refine c_ret ?_ | refine c_yes rfl (by (simp; omega)) ?_) | (refine gN ?_; first | refine n_then ?_ | refine r_then ?_))
    exact ret_tmp rfl rfl ⟨_, rfl, fun h => by omega, HM.drop⟩
  repeat (first | (refine gGP ?_; first | refine gp (p_move rfl) ?_ | refine gp (p_assign rfl) ?_ | (refine gGB ?_; refine gp (p_lss rfl rfl) ?_) | refine gp (p_field rfl (by simp only [Nat.reduceAdd]; rfl)) ?_) | (refine gGV ?_; refine gv (p_load rfl) ?_) | (refine gL ?_; first | refine s_gp rfl rfl ?_ | refine s_gv HM rfl ?_ | (refine gCall ?_; (refine s_fn rfl rfl ?_; (go_at_call 13; refine (szMsgS h.flight r1 (by omega) (by omega) HM).mono ?_; rintro e W1 ⟨r2, rfl, hr2, hp2, HM1⟩; refine ⟨_, rfl, ?_⟩; clear HM; have HM := HM1; clear HM1))) | refine l_nil ?_) | (refine gC ?_; first | refine c_seq ?_ | refine c_region ?_ | refine c_skip ?_ | refine c_no rfl (by (simp; omega)) ?_) | (refine gN ?_; refine n_then ?_))
  by_cases n2 : r2 < 0
  · repeat (first | (refine gGP ?_; refine gp (p_assign rfl) ?_) | (refine gL ?_; first | refine s_gp rfl rfl ?_ | refine l_nil ?_) | (refine gC ?_; first | refine c_seq ?_ | refine c_region ?_ | refine c_ret ?_ | refine c_yes rfl (by (simp; omega)) ?_) | (refine gN ?_; first | refine n_then ?_ | refine r_then ?_))
    exact ret_tmp rfl rfl ⟨_, rfl, fun h => by omega, HM.drop⟩
  repeat (first | (refine gGP ?_; first | refine gp (p_move rfl) ?_ | refine gp (p_assign rfl) ?_ | (refine gGB ?_; refine gp (p_lss rfl rfl) ?_) | refine gp (p_field rfl (by simp only [Nat.reduceAdd]; rfl)) ?_) | (refine gGV ?_; refine gv (p_load rfl) ?_) | (refine gL ?_; first | refine s_gp rfl rfl ?_ | refine s_gv HM rfl ?_ | (refine gCall ?_; (refine s_fn rfl rfl ?_; (go_at_call 14; refine (szFixS h.fixed r2 (by omega) (by omega) HM).mono ?_; rintro e W1 ⟨r3, rfl, hr3, hp3, HM1⟩; refine ⟨_, rfl, ?_⟩; clear HM; have HM := HM1; clear HM1))) | refine l_nil ?_) | (refine gC ?_; first | refine c_seq ?_ | refine c_region ?_ | refine c_skip ?_ | refine c_no rfl (by (simp; omega)) ?_) | (refine gN ?_; refine n_then ?_))
  by_cases n3 : r3 < 0
  · repeat (first | (refine gGP ?_; refine gp (p_assign rfl) ?_) | (refine gL ?_; first | refine s_gp rfl rfl ?_ | refine l_nil ?_) | (refine gC ?_; first | refine c_seq ?_ | refine c_region ?_ | refine c_ret ?_ | refine c_yes rfl (by (simp; omega)) ?_) | (refine gN ?_; first | refine n_then ?_ | refine r_then ?_))
    exact ret_tmp rfl rfl ⟨_, rfl, fun h => by omega, HM.drop⟩
  repeat (first | (refine gGP ?_; first | refine gp (p_move rfl) ?_ | refine gp (p_assign rfl) ?_) | (refine gL ?_; first | refine s_gp rfl rfl ?_ | refine l_nil ?_) | (refine gC ?_; first | refine c_seq ?_ | refine c_region ?_ | refine c_skip ?_ | refine c_ret ?_ | refine c_no rfl (by (simp; omega)) ?_) | (refine gN ?_; refine n_then ?_))
  exact ret_tmp rfl rfl ⟨_, rfl, fun h => ⟨(hp1 (by omega)).1, (hp1 (by omega)).2, (hp2 (by omega)).1, (hp2 (by omega)).2, (hp3 h).1⟩, HM.drop⟩
end Go.Proofs.Ytjeijflpejhkhaa.Sp
