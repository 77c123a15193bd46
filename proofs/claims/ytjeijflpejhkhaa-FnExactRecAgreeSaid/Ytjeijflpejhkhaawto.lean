/- to of worlds. No condition. -/
import Derived.Test.Ytjeijflpejhkhaawd
import Derived.Test.Ytjeijflpejhkhaato
import Derived.Test.Ytjeijflpejhkhaaeqs
namespace Go.Proofs.Ytjeijflpejhkhaa.Sp
open Go Go.RowKit
set_option linter.unusedVariables false
set_option linter.unusedSimpArgs false
set_option maxRecDepth 10000
set_option maxHeartbeats 1000000
variable {w0 W : World} {L : List Asn} {A B : Option Addr} {c c' : Nat} {b : Bool}
theorem toFix (x : Fix) (HM : Mem w0 W L) : Calls Try.prog 36 #[.agg (encFix x ()).toArray] W fun e W' => e = .returned (.agg (encFix x ()).toArray) ∧ Mem w0 W' L := by
  refine enter Try.func36 rfl Try.ntmps36 [(0, .agg (encFix x ()).toArray)] rfl ⟨rfl, trivial⟩ ?_
  unfold encFix
  repeat (first | (refine gGP ?_; refine gp (p_field rfl (by simp only [Nat.reduceAdd]; rfl)) ?_) | (refine gGV ?_; first | refine gv (p_load rfl) ?_ | refine gv (p_loads rfl) ?_) | (refine gL ?_; first | refine s_gp rfl rfl ?_ | refine s_gv HM rfl ?_ | (refine gStore ?_; (refine s_store HM rfl rfl rfl rfl ?_; intro W1 HM1; clear HM; have HM := HM1; clear HM1)) | (refine s_box HM rfl rfl ?_; intro g W1 HM1; clear HM; have HM := HM1; clear HM1) | (refine s_alloc HM rfl ?_; intro g W1 HM1; clear HM; have HM := HM1; clear HM1) | refine l_nil ?_) | (refine gC ?_; first | refine c_seq ?_ | refine c_region ?_ | refine c_ret ?_) | (refine gN ?_; refine n_then ?_))
  exact ret_cell HM rfl rfl rfl ⟨rfl, HM.sb⟩

theorem toFixS {xs : List Fix} (h : RoRow (rFix b) w0 A xs) (hn : xs.length ≤ 1048576) (HM : Mem w0 W L) : Calls Try.prog 19 #[.slice A xs.length c] W fun e W' => ∃ A' c', e = .returned (.slice A' xs.length c') ∧ Mem w0 W' (own tFix 78 A' c' xs :: L) := by
  refine enter Try.func19 rfl Try.ntmps19 [(0, _)] rfl ⟨rfl, trivial⟩ ?_
  replace HM := HM.pur h
  repeat (first | (refine s_make (tFix) HM rfl rfl rfl (by omega) rfl ?_; intro A1 W1 HM1; clear HM; have HM := HM1; clear HM1) | (refine gGP ?_; first | refine gp (p_move rfl) ?_ | refine gp (p_assign rfl) ?_ | refine gp (p_len rfl) ?_) | (refine gL ?_; first | refine s_gp rfl rfl ?_ | refine l_nil ?_) | (refine gC ?_; first | refine c_seq ?_ | refine c_region ?_ | refine c_block ?_) | (refine gN ?_; refine n_then ?_))
  refine c_loop (σ := Nat) (fun i => [(0, .slice A xs.length c), (3, .slice A1 xs.length xs.length), (4, .int .i64 i)]) (fun i W1 => i ≤ xs.length ∧ ∃ ys, ys.length = xs.length ∧ (∀ j, j < i → ys[j]? = xs[j]?) ∧ Mem w0 W1 (own tFix 78 A1 xs.length ys :: ro (rFix b) w0 A xs :: L)) (fun i => xs.length - i) 0 (by repeat (first | exact trivial | refine And.intro (by first | rfl | exact look_int rfl (by omega)) ?_)) ⟨Nat.zero_le _, _, List.length_replicate .., fun j hj => by omega, HM⟩ ?_
  clear HM
  rintro i W1 ⟨hi, ys, hl, hy, HM⟩
  by_cases hlt : i < xs.length
  · obtain ⟨cc, ⟨j, rfl, hs⟩, HM⟩ := HM.roOpen (A := A) i hlt
    repeat (first | (refine gGP ?_; first | refine gp (p_move rfl) ?_ | refine gp (p_assign rfl) ?_ | (refine gGB ?_; first | refine gp (p_lss rfl rfl) ?_ | refine gp (p_add rfl rfl (by exact wr (by omega) (by omega))) ?_) | refine gp (p_indexo HM rfl (by first | with_reducible rfl | omega) rfl (by omega) (by omega)) ?_ | refine gp (p_indexr HM rfl (by first | with_reducible rfl | omega) rfl (by omega) (by omega)) ?_ | refine gp (p_len rfl) ?_) | (refine gGV ?_; refine gv (p_loadwr rfl rfl rfl) ?_) | (refine gL ?_; first | refine s_gp rfl rfl ?_ | refine s_gv HM rfl ?_ | (refine gStore ?_; (refine s_storew HM rfl rfl rfl (by omega) (by omega) rfl ?_; intro W1 HM1; clear HM; have HM := HM1; clear HM1)) | (refine gCall ?_; (refine s_fn rfl rfl ?_; (go_at_call 36; refine (toFix _ HM).mono ?_; rintro e W1 ⟨rfl, HM1⟩; refine ⟨_, rfl, ?_⟩; clear HM; have HM := HM1; clear HM1))) | refine l_nil ?_) | (refine gC ?_; first | refine c_seq ?_ | refine c_region ?_ | refine c_block ?_ | refine c_skip ?_ | refine c_yes rfl (by (simp; omega)) ?_) | (refine gN ?_; first | refine n_then ?_ | refine n_block ?_))
    rw [Int.toNat_natCast] at HM
    exact n_round (i + 1) (by repeat (first | exact trivial | refine And.intro (by first | rfl | exact look_int rfl (by omega)) ?_)) ⟨by omega, _, by rw [List.length_set]; exact hl, fill_set hl hy hlt rfl, HM.sb⟩ (by omega)
  · repeat (first | (refine gGP ?_; first | refine gp (p_move rfl) ?_ | refine gp (p_assign rfl) ?_ | (refine gGB ?_; refine gp (p_lss rfl rfl) ?_) | refine gp (p_len rfl) ?_) | (refine gL ?_; first | refine s_gp rfl rfl ?_ | refine l_nil ?_) | (refine gC ?_; first | refine c_seq ?_ | refine c_region ?_ | refine c_exit ?_ | refine c_ret ?_ | refine c_no rfl (by (simp; omega)) ?_) | (refine gN ?_; first | refine n_then ?_ | refine x_then ?_ | refine x_here ?_))
    obtain rfl : i = xs.length := by omega
    obtain rfl := fill_end hl hy
    exact ret_tmp rfl rfl ⟨A1, _, rfl, HM.sb⟩

theorem toRcdS {xs : List Rcd} (h : RoRow (rRcw b) w0 A xs) (hn : xs.length ≤ 1048576) (hm : ∀ y ∈ xs, SmallR y) (HM : Mem w0 W L) : Calls Try.prog 17 #[.slice A xs.length c] W fun e W' => ∃ A' c', e = .returned (.slice A' xs.length c') ∧ Mem w0 W' (own (tRec 80 77 9 3 107) 58 A' c' xs :: L) := by
  refine enter Try.func17 rfl Try.ntmps17 [(0, _)] rfl ⟨rfl, trivial⟩ ?_
  replace HM := HM.pur h
  repeat (first | (refine s_make ((tRec 80 77 9 3 107)) HM rfl rfl rfl (by omega) rfl ?_; intro A1 W1 HM1; clear HM; have HM := HM1; clear HM1) | (refine gGP ?_; first | refine gp (p_move rfl) ?_ | refine gp (p_assign rfl) ?_ | refine gp (p_len rfl) ?_) | (refine gL ?_; first | refine s_gp rfl rfl ?_ | refine l_nil ?_) | (refine gC ?_; first | refine c_seq ?_ | refine c_region ?_ | refine c_block ?_) | (refine gN ?_; refine n_then ?_))
  refine c_loop (σ := Nat) (fun i => [(0, .slice A xs.length c), (3, .slice A1 xs.length xs.length), (4, .int .i64 i)]) (fun i W1 => i ≤ xs.length ∧ ∃ ys, ys.length = xs.length ∧ (∀ j, j < i → ys[j]? = xs[j]?) ∧ Mem w0 W1 (own (tRec 80 77 9 3 107) 58 A1 xs.length ys :: ro (rRcw b) w0 A xs :: L)) (fun i => xs.length - i) 0 (by repeat (first | exact trivial | refine And.intro (by first | rfl | exact look_int rfl (by omega)) ?_)) ⟨Nat.zero_le _, _, List.length_replicate .., fun j hj => by omega, HM⟩ ?_
  clear HM
  rintro i W1 ⟨hi, ys, hl, hy, HM⟩
  by_cases hlt : i < xs.length
  · obtain ⟨cc, ⟨j, rfl, hs⟩, HM⟩ := HM.roOpen (A := A) i hlt
    have hmi := hm _ (List.getElem_mem hlt)
    repeat (first | (refine gGP ?_; first | refine gp (p_move rfl) ?_ | refine gp (p_assign rfl) ?_ | (refine gGB ?_; first | refine gp (p_lss rfl rfl) ?_ | refine gp (p_add rfl rfl (by exact wr (by omega) (by omega))) ?_) | refine gp (p_indexo HM rfl (by first | with_reducible rfl | omega) rfl (by omega) (by omega)) ?_ | refine gp (p_indexr HM rfl (by first | with_reducible rfl | omega) rfl (by omega) (by omega)) ?_ | refine gp (p_len rfl) ?_) | (refine gGV ?_; refine gv (p_loadwr rfl rfl rfl) ?_) | (refine gL ?_; first | refine s_gp rfl rfl ?_ | refine s_gv HM rfl ?_ | (refine gStore ?_; (refine s_storew HM rfl rfl rfl (by omega) (by omega) rfl ?_; intro W1 HM1; clear HM; have HM := HM1; clear HM1)) | (refine gCall ?_; (refine s_fn rfl rfl ?_; (go_at_call 34; refine (toRec _ _ hs.ro hmi HM).mono ?_; rintro e W1 ⟨j2, rfl, HM1⟩; refine ⟨_, rfl, ?_⟩; clear HM; have HM := HM1; clear HM1; simp only [partRcd, List.cons_append, List.nil_append] at HM; simp only [encRcd]))) | refine l_nil ?_) | (refine gC ?_; first | refine c_seq ?_ | refine c_region ?_ | refine c_block ?_ | refine c_skip ?_ | refine c_yes rfl (by (simp; omega)) ?_) | (refine gN ?_; first | refine n_then ?_ | refine n_block ?_))
    rw [Int.toNat_natCast] at HM
    exact n_round (i + 1) (by repeat (first | exact trivial | refine And.intro (by first | rfl | exact look_int rfl (by omega)) ?_)) ⟨by omega, _, by rw [List.length_set]; exact hl, fill_set hl hy hlt rfl, HM.sb⟩ (by omega)
  · repeat (first | (refine gGP ?_; first | refine gp (p_move rfl) ?_ | refine gp (p_assign rfl) ?_ | (refine gGB ?_; refine gp (p_lss rfl rfl) ?_) | refine gp (p_len rfl) ?_) | (refine gL ?_; first | refine s_gp rfl rfl ?_ | refine l_nil ?_) | (refine gC ?_; first | refine c_seq ?_ | refine c_region ?_ | refine c_exit ?_ | refine c_ret ?_ | refine c_no rfl (by (simp; omega)) ?_) | (refine gN ?_; first | refine n_then ?_ | refine x_then ?_ | refine x_here ?_))
    obtain rfl : i = xs.length := by omega
    obtain rfl := fill_end hl hy
    exact ret_tmp rfl rfl ⟨A1, _, rfl, HM.sb⟩

theorem toW (x : Wld) (i : AtW) (h : RoW b w0 x i) (hn : SmallW x) (HM : Mem w0 W L) : Calls Try.prog 7 #[.agg (encW x i).toArray] W fun e W' => ∃ j, e = .returned (.agg (encW x j).toArray) ∧ Mem w0 W' (partW 80 77 9 3 107 58 78 x j ++ L) := by
  refine enter Try.func7 rfl Try.ntmps7 [(0, .agg (encW x i).toArray)] rfl ⟨rfl, trivial⟩ ?_
  unfold encW
  repeat (first | (refine gGP ?_; refine gp (p_field rfl (by simp only [Nat.reduceAdd]; rfl)) ?_) | (refine gGV ?_; first | refine gv (p_load rfl) ?_ | refine gv (p_loads rfl) ?_) | (refine gL ?_; first | refine s_gp rfl rfl ?_ | refine s_gv HM rfl ?_ | (refine gStore ?_; (refine s_store HM rfl rfl rfl rfl ?_; intro W1 HM1; clear HM; have HM := HM1; clear HM1)) | (refine gCall ?_; (refine s_fn rfl rfl ?_; first | (go_at_call 17; refine (toRcdS h.recs hn.recs hn.recss HM).mono ?_; rintro e W1 ⟨A0, c0, rfl, HM1⟩; refine ⟨_, rfl, ?_⟩; clear HM; have HM := HM1; clear HM1) | (go_at_call 18; refine (toMsgS h.flight hn.flight hn.flights HM).mono ?_; rintro e W1 ⟨A1, c1, rfl, HM1⟩; refine ⟨_, rfl, ?_⟩; clear HM; have HM := HM1; clear HM1) | (go_at_call 19; refine (toFixS h.fixed hn.fixed HM).mono ?_; rintro e W1 ⟨A2, c2, rfl, HM1⟩; refine ⟨_, rfl, ?_⟩; clear HM; have HM := HM1; clear HM1))) | (refine s_box HM rfl rfl ?_; intro g W1 HM1; clear HM; have HM := HM1; clear HM1) | (refine s_alloc HM rfl ?_; intro g W1 HM1; clear HM; have HM := HM1; clear HM1) | refine l_nil ?_) | (refine gC ?_; first | refine c_seq ?_ | refine c_region ?_ | refine c_ret ?_) | (refine gN ?_; refine n_then ?_))
  refine ret_cell HM rfl rfl rfl ⟨⟨(A0, c0), (A1, c1), (A2, c2)⟩, rfl, ?_⟩
  simp only [partW, List.cons_append, List.nil_append]
  exact HM.sb
end Go.Proofs.Ytjeijflpejhkhaa.Sp
