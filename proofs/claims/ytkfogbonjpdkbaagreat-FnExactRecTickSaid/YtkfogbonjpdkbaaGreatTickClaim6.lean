/- The to functions of the laws: rows of the call's own, filled with what came in. No condition. -/
import Derived.Test.YtkfogbonjpdkbaaGreatTickClaim2
import Derived.Test.YtkfogbonjpdkbaaGreatTickClaim1
import Derived.Test.YtkfogbonjpdkbaaGreatTickClaim3
import Derived.Test.YtkfogbonjpdkbaaGreatTickClaim5
import Derived.KernelRfl
namespace Go.Proofs.YtkfogbonjpdkbaaGreat.Sp
open Go Go.RowKit
set_option linter.unusedVariables false
set_option linter.unusedSimpArgs false
set_option maxRecDepth 10000
set_option maxHeartbeats 4000000
variable {w0 W : World} {L : List Asn} {A : Option Addr} {c : Nat} {b : Bool}

theorem toIntS {xs : List Int} (h : RoRow rInt w0 A xs) (hn : xs.length ≤ 1048576) (HM : Mem w0 W L) : Calls Tryz.prog 41 #[.slice A xs.length c] W fun e W' => ∃ A' c', e = .returned (.slice A' xs.length c') ∧ Mem w0 W' (own tInt 3 A' c' xs :: L) := by
  refine enter Tryz.func41 rfl Tryz.ntmps41 [(0, _)] rfl ⟨rfl, trivial⟩ ?_
  replace HM := HM.pur h
  repeat (first | (refine s_make (tInt) HM rfl rfl rfl (by omega) rfl ?_; intro A1 W1 HM1; clear HM; have HM := HM1; clear HM1) | (refine gGP ?_; first | refine gp (p_move rfl) ?_ | refine gp (p_assign rfl) ?_ | refine gp (p_len rfl) ?_) | (refine gL ?_; first | refine s_gp rfl rfl ?_ | refine l_nil ?_) | (refine gC ?_; first | refine c_seq ?_ | refine c_region ?_ | refine c_block ?_) | (refine gN ?_; refine n_then ?_))
  refine c_loop (σ := Nat) (fun i => [(0, .slice A xs.length c), (3, .slice A1 xs.length xs.length), (4, .int .i64 i)]) (fun i W1 => i ≤ xs.length ∧ ∃ ys, ys.length = xs.length ∧ (∀ j, j < i → ys[j]? = xs[j]?) ∧ Mem w0 W1 (own tInt 3 A1 xs.length ys :: ro rInt w0 A xs :: L)) (fun i => xs.length - i) 0 (by repeat (first | exact trivial | refine And.intro (by first | rfl | exact look_int rfl (by omega)) ?_)) ⟨Nat.zero_le _, _, List.length_replicate .., fun j hj => by omega, HM⟩ ?_
  clear HM
  rintro i W1 ⟨hi, ys, hl, hy, HM⟩
  by_cases hlt : i < xs.length
  · repeat (first | (refine gGP ?_; first | refine gp (p_move rfl) ?_ | refine gp (p_assign rfl) ?_ | (refine gGB ?_; first | refine gp (p_lss rfl rfl) ?_ | refine gp (p_add rfl rfl (by exact wr (by omega) (by omega))) ?_) | refine gp (p_indexo HM rfl (by first | with_reducible rfl | omega) rfl (by omega) (by omega)) ?_ | refine gp (p_indexr HM rfl (by first | with_reducible rfl | omega) rfl (by omega) (by omega)) ?_ | refine gp (p_len rfl) ?_) | (refine gGV ?_; refine gv (p_loadr rfl rfl (by omega) (by omega) rfl) ?_) | (refine gL ?_; first | refine s_gp rfl rfl ?_ | refine s_gv HM rfl ?_ | (refine gStore ?_; (refine s_storeo HM rfl rfl rfl (by omega) (by omega) rfl ?_; intro W1 HM1; clear HM; have HM := HM1; clear HM1; (try dsimp only at HM))) | refine l_nil ?_) | (refine gC ?_; first | refine c_seq ?_ | refine c_region ?_ | refine c_block ?_ | refine c_skip ?_ | refine c_yes rfl (by (simp; omega)) ?_) | (refine gN ?_; first | refine n_then ?_ | refine n_block ?_))
    rw [Int.toNat_natCast] at HM
    exact n_round (i + 1) (by repeat (first | exact trivial | refine And.intro (by first | rfl | exact look_int rfl (by omega)) ?_)) ⟨by omega, _, by rw [List.length_set]; exact hl, fill_set hl hy hlt (rdR_at (D := rInt) hlt), HM.sb⟩ (by omega)
  · repeat (first | (refine gGP ?_; first | refine gp (p_move rfl) ?_ | refine gp (p_assign rfl) ?_ | (refine gGB ?_; refine gp (p_lss rfl rfl) ?_) | refine gp (p_len rfl) ?_) | (refine gL ?_; first | refine s_gp rfl rfl ?_ | refine l_nil ?_) | (refine gC ?_; first | refine c_seq ?_ | refine c_region ?_ | refine c_exit ?_ | refine c_ret ?_ | refine c_no rfl (by (simp; omega)) ?_) | (refine gN ?_; first | refine n_then ?_ | refine x_then ?_ | refine x_here ?_))
    obtain rfl : i = xs.length := by omega
    obtain rfl := fill_end hl hy
    exact ret_tmp rfl rfl ⟨A1, _, rfl, HM.sb⟩

theorem toStrS {xs : List ByteArray} (h : RoRow (rStr b) w0 A xs) (hn : xs.length ≤ 1048576) (HM : Mem w0 W L) : Calls Tryz.prog 40 #[.slice A xs.length c] W fun e W' => ∃ A' c', e = .returned (.slice A' xs.length c') ∧ Mem w0 W' (own tStr 9 A' c' xs :: L) := by
  refine enter Tryz.func40 rfl Tryz.ntmps40 [(0, _)] rfl ⟨rfl, trivial⟩ ?_
  replace HM := HM.pur h
  repeat (first | (refine s_make (tStr) HM rfl rfl rfl (by omega) rfl ?_; intro A1 W1 HM1; clear HM; have HM := HM1; clear HM1) | (refine gGP ?_; first | refine gp (p_move rfl) ?_ | refine gp (p_assign rfl) ?_ | refine gp (p_len rfl) ?_) | (refine gL ?_; first | refine s_gp rfl rfl ?_ | refine l_nil ?_) | (refine gC ?_; first | refine c_seq ?_ | refine c_region ?_ | refine c_block ?_) | (refine gN ?_; refine n_then ?_))
  refine c_loop (σ := Nat) (fun i => [(0, .slice A xs.length c), (3, .slice A1 xs.length xs.length), (4, .int .i64 i)]) (fun i W1 => i ≤ xs.length ∧ ∃ ys, ys.length = xs.length ∧ (∀ j, j < i → ys[j]? = xs[j]?) ∧ Mem w0 W1 (own tStr 9 A1 xs.length ys :: ro (rStr b) w0 A xs :: L)) (fun i => xs.length - i) 0 (by repeat (first | exact trivial | refine And.intro (by first | rfl | exact look_int rfl (by omega)) ?_)) ⟨Nat.zero_le _, _, List.length_replicate .., fun j hj => by omega, HM⟩ ?_
  clear HM
  rintro i W1 ⟨hi, ys, hl, hy, HM⟩
  by_cases hlt : i < xs.length
  · repeat (first | (refine gGP ?_; first | refine gp (p_move rfl) ?_ | refine gp (p_assign rfl) ?_ | (refine gGB ?_; first | refine gp (p_lss rfl rfl) ?_ | refine gp (p_add rfl rfl (by exact wr (by omega) (by omega))) ?_) | refine gp (p_indexo HM rfl (by first | with_reducible rfl | omega) rfl (by omega) (by omega)) ?_ | refine gp (p_indexr HM rfl (by first | with_reducible rfl | omega) rfl (by omega) (by omega)) ?_ | refine gp (p_len rfl) ?_) | (refine gGV ?_; refine gv (p_loadr rfl rfl (by omega) (by omega) rfl) ?_) | (refine gL ?_; first | refine s_gp rfl rfl ?_ | refine s_gv HM rfl ?_ | (refine gStore ?_; (refine s_storeo HM rfl rfl rfl (by omega) (by omega) rfl ?_; intro W1 HM1; clear HM; have HM := HM1; clear HM1; (try dsimp only at HM))) | refine l_nil ?_) | (refine gC ?_; first | refine c_seq ?_ | refine c_region ?_ | refine c_block ?_ | refine c_skip ?_ | refine c_yes rfl (by (simp; omega)) ?_) | (refine gN ?_; first | refine n_then ?_ | refine n_block ?_))
    rw [Int.toNat_natCast] at HM
    exact n_round (i + 1) (by repeat (first | exact trivial | refine And.intro (by first | rfl | exact look_int rfl (by omega)) ?_)) ⟨by omega, _, by rw [List.length_set]; exact hl, fill_set hl hy hlt (rdR_at (D := rStr b) hlt), HM.sb⟩ (by omega)
  · repeat (first | (refine gGP ?_; first | refine gp (p_move rfl) ?_ | refine gp (p_assign rfl) ?_ | (refine gGB ?_; refine gp (p_lss rfl rfl) ?_) | refine gp (p_len rfl) ?_) | (refine gL ?_; first | refine s_gp rfl rfl ?_ | refine l_nil ?_) | (refine gC ?_; first | refine c_seq ?_ | refine c_region ?_ | refine c_exit ?_ | refine c_ret ?_ | refine c_no rfl (by (simp; omega)) ?_) | (refine gN ?_; first | refine n_then ?_ | refine x_then ?_ | refine x_here ?_))
    obtain rfl : i = xs.length := by omega
    obtain rfl := fill_end hl hy
    exact ret_tmp rfl rfl ⟨A1, _, rfl, HM.sb⟩

theorem toSlot (x : Slot) (HM : Mem w0 W L) : Calls Tryz.prog 83 #[.agg (encSlot x ()).toArray] W fun e W' => e = .returned (.agg (encSlot x ()).toArray) ∧ Mem w0 W' L := by
  refine enter Tryz.func83 rfl Tryz.ntmps83 [(0, .agg (encSlot x ()).toArray)] rfl ⟨rfl, trivial⟩ ?_
  unfold encSlot
  repeat (first | (refine gGP ?_; refine gp (p_field rfl (by simp only [Nat.reduceAdd]; rfl)) ?_) | (refine gGV ?_; first | refine gv (p_load rfl) ?_ | refine gv (p_loads rfl) ?_) | (refine gL ?_; first | refine s_gp rfl rfl ?_ | refine s_gv HM rfl ?_ | (refine gStore ?_; (refine s_store HM rfl rfl rfl rfl ?_; intro W1 HM1; clear HM; have HM := HM1; clear HM1)) | (refine s_box HM rfl rfl ?_; intro g W1 HM1; clear HM; have HM := HM1; clear HM1) | (refine s_alloc HM rfl ?_; intro g W1 HM1; clear HM; have HM := HM1; clear HM1) | refine l_nil ?_) | (refine gC ?_; first | refine c_seq ?_ | refine c_region ?_ | refine c_ret ?_) | (refine gN ?_; refine n_then ?_))
  exact ret_cell HM rfl rfl rfl ⟨rfl, HM.sb⟩

theorem toSlotS {xs : List Slot} (h : RoRow (rSlot b) w0 A xs) (hn : xs.length ≤ 1048576) (HM : Mem w0 W L) : Calls Tryz.prog 42 #[.slice A xs.length c] W fun e W' => ∃ A' c', e = .returned (.slice A' xs.length c') ∧ Mem w0 W' (own tSlot 105 A' c' xs :: L) := by
  refine enter Tryz.func42 rfl Tryz.ntmps42 [(0, _)] rfl ⟨rfl, trivial⟩ ?_
  replace HM := HM.pur h
  repeat (first | (refine s_make (tSlot) HM rfl rfl rfl (by omega) rfl ?_; intro A1 W1 HM1; clear HM; have HM := HM1; clear HM1) | (refine gGP ?_; first | refine gp (p_move rfl) ?_ | refine gp (p_assign rfl) ?_ | refine gp (p_len rfl) ?_) | (refine gL ?_; first | refine s_gp rfl rfl ?_ | refine l_nil ?_) | (refine gC ?_; first | refine c_seq ?_ | refine c_region ?_ | refine c_block ?_) | (refine gN ?_; refine n_then ?_))
  refine c_loop (σ := Nat) (fun i => [(0, .slice A xs.length c), (3, .slice A1 xs.length xs.length), (4, .int .i64 i)]) (fun i W1 => i ≤ xs.length ∧ ∃ ys, ys.length = xs.length ∧ (∀ j, j < i → ys[j]? = xs[j]?) ∧ Mem w0 W1 (own tSlot 105 A1 xs.length ys :: ro (rSlot b) w0 A xs :: L)) (fun i => xs.length - i) 0 (by repeat (first | exact trivial | refine And.intro (by first | rfl | exact look_int rfl (by omega)) ?_)) ⟨Nat.zero_le _, _, List.length_replicate .., fun j hj => by omega, HM⟩ ?_
  clear HM
  rintro i W1 ⟨hi, ys, hl, hy, HM⟩
  by_cases hlt : i < xs.length
  · obtain ⟨cc, ⟨j, rfl, hs⟩, HM⟩ := HM.roOpen (A := A) i hlt
    repeat (first | (refine gGP ?_; first | refine gp (p_move rfl) ?_ | refine gp (p_assign rfl) ?_ | (refine gGB ?_; first | refine gp (p_lss rfl rfl) ?_ | refine gp (p_add rfl rfl (by exact wr (by omega) (by omega))) ?_) | refine gp (p_indexo HM rfl (by first | with_reducible rfl | omega) rfl (by omega) (by omega)) ?_ | refine gp (p_indexr HM rfl (by first | with_reducible rfl | omega) rfl (by omega) (by omega)) ?_ | refine gp (p_len rfl) ?_) | (refine gGV ?_; refine gv (p_loadwr rfl rfl rfl) ?_) | (refine gL ?_; first | refine s_gp rfl rfl ?_ | refine s_gv HM rfl ?_ | (refine gStore ?_; (refine s_storew HM rfl rfl rfl (by omega) (by omega) rfl ?_; intro W1 HM1; clear HM; have HM := HM1; clear HM1)) | (refine gCall ?_; (refine s_fn rfl rfl ?_; (go_at_call 83; refine (toSlot _ HM).mono ?_; rintro e W1 ⟨rfl, HM1⟩; refine ⟨_, rfl, ?_⟩; clear HM; have HM := HM1; clear HM1))) | refine l_nil ?_) | (refine gC ?_; first | refine c_seq ?_ | refine c_region ?_ | refine c_block ?_ | refine c_skip ?_ | refine c_yes rfl (by (simp; omega)) ?_) | (refine gN ?_; first | refine n_then ?_ | refine n_block ?_))
    rw [Int.toNat_natCast] at HM
    exact n_round (i + 1) (by repeat (first | exact trivial | refine And.intro (by first | rfl | exact look_int rfl (by omega)) ?_)) ⟨by omega, _, by rw [List.length_set]; exact hl, fill_set hl hy hlt rfl, HM.sb⟩ (by omega)
  · repeat (first | (refine gGP ?_; first | refine gp (p_move rfl) ?_ | refine gp (p_assign rfl) ?_ | (refine gGB ?_; refine gp (p_lss rfl rfl) ?_) | refine gp (p_len rfl) ?_) | (refine gL ?_; first | refine s_gp rfl rfl ?_ | refine l_nil ?_) | (refine gC ?_; first | refine c_seq ?_ | refine c_region ?_ | refine c_exit ?_ | refine c_ret ?_ | refine c_no rfl (by (simp; omega)) ?_) | (refine gN ?_; first | refine n_then ?_ | refine x_then ?_ | refine x_here ?_))
    obtain rfl : i = xs.length := by omega
    obtain rfl := fill_end hl hy
    exact ret_tmp rfl rfl ⟨A1, _, rfl, HM.sb⟩

theorem toMsg (x : Msg) (i : At) (h : RoRow (rSlot b) w0 i.1 x.slots) (hn : x.slots.length ≤ 1048576) (HM : Mem w0 W L) : Calls Tryz.prog 17 #[.agg (encMsg x i).toArray] W fun e W' => ∃ j, e = .returned (.agg (encMsg x j).toArray) ∧ Mem w0 W' (own tSlot 105 j.1 j.2 x.slots :: L) := by
  refine enter Tryz.func17 rfl Tryz.ntmps17 [(0, .agg (encMsg x i).toArray)] rfl ⟨rfl, trivial⟩ ?_
  unfold encMsg
  repeat (first | (refine gGP ?_; refine gp (p_field rfl (by simp only [Nat.reduceAdd]; rfl)) ?_) | (refine gGV ?_; first | refine gv (p_load rfl) ?_ | refine gv (p_loads rfl) ?_) | (refine gL ?_; first | refine s_gp rfl rfl ?_ | refine s_gv HM rfl ?_ | (refine gStore ?_; (refine s_store HM rfl rfl rfl rfl ?_; intro W1 HM1; clear HM; have HM := HM1; clear HM1)) | (refine gCall ?_; (refine s_fn rfl rfl ?_; (go_at_call 42; refine (toSlotS h hn HM).mono ?_; rintro e W1 ⟨A2, c2, rfl, HM1⟩; refine ⟨_, rfl, ?_⟩; clear HM; have HM := HM1; clear HM1))) | (refine s_box HM rfl rfl ?_; intro g W1 HM1; clear HM; have HM := HM1; clear HM1) | (refine s_alloc HM rfl ?_; intro g W1 HM1; clear HM; have HM := HM1; clear HM1) | refine l_nil ?_) | (refine gC ?_; first | refine c_seq ?_ | refine c_region ?_ | refine c_ret ?_) | (refine gN ?_; refine n_then ?_))
  exact ret_cell HM rfl rfl rfl ⟨(A2, c2), rfl, HM.sb⟩
theorem toAck (x : Ack) (i : At) (h : RoRow rInt w0 i.1 x.frm) (hn : x.frm.length ≤ 1048576) (HM : Mem w0 W L) : Calls Tryz.prog 84 #[.agg (encAck x i).toArray] W fun e W' => ∃ j, e = .returned (.agg (encAck x j).toArray) ∧ Mem w0 W' (own tInt 3 j.1 j.2 x.frm :: L) := by
  refine enter Tryz.func84 rfl Tryz.ntmps84 [(0, .agg (encAck x i).toArray)] rfl ⟨rfl, trivial⟩ ?_
  unfold encAck
  repeat (first | (refine gGP ?_; refine gp (p_field rfl (by simp only [Nat.reduceAdd]; rfl)) ?_) | (refine gGV ?_; first | refine gv (p_load rfl) ?_ | refine gv (p_loads rfl) ?_) | (refine gL ?_; first | refine s_gp rfl rfl ?_ | refine s_gv HM rfl ?_ | (refine gStore ?_; (refine s_store HM rfl rfl rfl rfl ?_; intro W1 HM1; clear HM; have HM := HM1; clear HM1)) | (refine gCall ?_; (refine s_fn rfl rfl ?_; (go_at_call 41; refine (toIntS h hn HM).mono ?_; rintro e W1 ⟨A2, c2, rfl, HM1⟩; refine ⟨_, rfl, ?_⟩; clear HM; have HM := HM1; clear HM1))) | (refine s_box HM rfl rfl ?_; intro g W1 HM1; clear HM; have HM := HM1; clear HM1) | (refine s_alloc HM rfl ?_; intro g W1 HM1; clear HM; have HM := HM1; clear HM1) | refine l_nil ?_) | (refine gC ?_; first | refine c_seq ?_ | refine c_region ?_ | refine c_ret ?_) | (refine gN ?_; refine n_then ?_))
  exact ret_cell HM rfl rfl rfl ⟨(A2, c2), rfl, HM.sb⟩
theorem toDisk (p q : Int) {xs : List Slot} (h : RoRow (rSlot b) w0 A xs) (hn : xs.length ≤ 1048576) (HM : Mem w0 W L) : Calls Tryz.prog 38 #[.agg #[.int .i64 p, .int .i64 q, .slice A xs.length c]] W fun e W' => ∃ j : At, e = .returned (.agg #[.int .i64 p, .int .i64 q, .slice j.1 xs.length j.2]) ∧ Mem w0 W' (own tSlot 105 j.1 j.2 xs :: L) := by
  refine enter Tryz.func38 rfl Tryz.ntmps38 [(0, .agg #[.int .i64 p, .int .i64 q, .slice A xs.length c])] rfl ⟨rfl, trivial⟩ ?_
  repeat (first | (refine gGP ?_; refine gp (p_field rfl (by simp only [Nat.reduceAdd]; rfl)) ?_) | (refine gGV ?_; first | refine gv (p_load rfl) ?_ | refine gv (p_loads rfl) ?_) | (refine gL ?_; first | refine s_gp rfl rfl ?_ | refine s_gv HM rfl ?_ | (refine gStore ?_; (refine s_store HM rfl rfl rfl rfl ?_; intro W1 HM1; clear HM; have HM := HM1; clear HM1)) | (refine gCall ?_; (refine s_fn rfl rfl ?_; (go_at_call 42; refine (toSlotS h hn HM).mono ?_; rintro e W1 ⟨A2, c2, rfl, HM1⟩; refine ⟨_, rfl, ?_⟩; clear HM; have HM := HM1; clear HM1))) | (refine s_box HM rfl rfl ?_; intro g W1 HM1; clear HM; have HM := HM1; clear HM1) | (refine s_alloc HM rfl ?_; intro g W1 HM1; clear HM; have HM := HM1; clear HM1) | refine l_nil ?_) | (refine gC ?_; first | refine c_seq ?_ | refine c_region ?_ | refine c_ret ?_) | (refine gN ?_; refine n_then ?_))
  exact ret_cell HM rfl rfl rfl ⟨(A2, c2), rfl, HM.sb⟩

theorem toMsgS {xs : List Msg} (h : RoRow (rMsg b) w0 A xs) (hn : xs.length ≤ 1048576) (hm : ∀ y ∈ xs, y.slots.length ≤ 1048576) (HM : Mem w0 W L) : Calls Tryz.prog 39 #[.slice A xs.length c] W fun e W' => ∃ A' c', e = .returned (.slice A' xs.length c') ∧ Mem w0 W' (own (tMsg 105) 52 A' c' xs :: L) := by
  refine enter Tryz.func39 rfl Tryz.ntmps39 [(0, _)] rfl ⟨rfl, trivial⟩ ?_
  replace HM := HM.pur h
  repeat (first | (refine s_make ((tMsg 105)) HM rfl rfl rfl (by omega) rfl ?_; intro A1 W1 HM1; clear HM; have HM := HM1; clear HM1) | (refine gGP ?_; first | refine gp (p_move rfl) ?_ | refine gp (p_assign rfl) ?_ | refine gp (p_len rfl) ?_) | (refine gL ?_; first | refine s_gp rfl rfl ?_ | refine l_nil ?_) | (refine gC ?_; first | refine c_seq ?_ | refine c_region ?_ | refine c_block ?_) | (refine gN ?_; refine n_then ?_))
  refine c_loop (σ := Nat) (fun i => [(0, .slice A xs.length c), (3, .slice A1 xs.length xs.length), (4, .int .i64 i)]) (fun i W1 => i ≤ xs.length ∧ ∃ ys, ys.length = xs.length ∧ (∀ j, j < i → ys[j]? = xs[j]?) ∧ Mem w0 W1 (own (tMsg 105) 52 A1 xs.length ys :: ro (rMsg b) w0 A xs :: L)) (fun i => xs.length - i) 0 (by repeat (first | exact trivial | refine And.intro (by first | rfl | exact look_int rfl (by omega)) ?_)) ⟨Nat.zero_le _, _, List.length_replicate .., fun j hj => by omega, HM⟩ ?_
  clear HM
  rintro i W1 ⟨hi, ys, hl, hy, HM⟩
  by_cases hlt : i < xs.length
  · obtain ⟨cc, ⟨j, rfl, ht, hs⟩, HM⟩ := HM.roOpen (A := A) i hlt
    have hmi := hm _ (List.getElem_mem hlt)
    repeat (first | (refine gGP ?_; first | refine gp (p_move rfl) ?_ | refine gp (p_assign rfl) ?_ | (refine gGB ?_; first | refine gp (p_lss rfl rfl) ?_ | refine gp (p_add rfl rfl (by exact wr (by omega) (by omega))) ?_) | refine gp (p_indexo HM rfl (by first | with_reducible rfl | omega) rfl (by omega) (by omega)) ?_ | refine gp (p_indexr HM rfl (by first | with_reducible rfl | omega) rfl (by omega) (by omega)) ?_ | refine gp (p_len rfl) ?_) | (refine gGV ?_; refine gv (p_loadwr rfl rfl rfl) ?_) | (refine gL ?_; first | refine s_gp rfl rfl ?_ | refine s_gv HM rfl ?_ | (refine gStore ?_; (refine s_storew HM rfl rfl rfl (by omega) (by omega) rfl ?_; intro W1 HM1; clear HM; have HM := HM1; clear HM1)) | (refine gCall ?_; (refine s_fn rfl rfl ?_; (go_at_call 17; refine (toMsg _ _ hs hmi HM).mono ?_; rintro e W1 ⟨j2, rfl, HM1⟩; refine ⟨_, rfl, ?_⟩; clear HM; have HM := HM1; clear HM1))) | refine l_nil ?_) | (refine gC ?_; first | refine c_seq ?_ | refine c_region ?_ | refine c_block ?_ | refine c_skip ?_ | refine c_yes rfl (by (simp; omega)) ?_) | (refine gN ?_; first | refine n_then ?_ | refine n_block ?_))
    rw [Int.toNat_natCast] at HM
    exact n_round (i + 1) (by repeat (first | exact trivial | refine And.intro (by first | rfl | exact look_int rfl (by omega)) ?_)) ⟨by omega, _, by rw [List.length_set]; exact hl, fill_set hl hy hlt rfl, HM.sb⟩ (by omega)
  · repeat (first | (refine gGP ?_; first | refine gp (p_move rfl) ?_ | refine gp (p_assign rfl) ?_ | (refine gGB ?_; refine gp (p_lss rfl rfl) ?_) | refine gp (p_len rfl) ?_) | (refine gL ?_; first | refine s_gp rfl rfl ?_ | refine l_nil ?_) | (refine gC ?_; first | refine c_seq ?_ | refine c_region ?_ | refine c_exit ?_ | refine c_ret ?_ | refine c_no rfl (by (simp; omega)) ?_) | (refine gN ?_; first | refine n_then ?_ | refine x_then ?_ | refine x_here ?_))
    obtain rfl : i = xs.length := by omega
    obtain rfl := fill_end hl hy
    exact ret_tmp rfl rfl ⟨A1, _, rfl, HM.sb⟩

theorem toAckS {xs : List Ack} (h : RoRow rAck w0 A xs) (hn : xs.length ≤ 1048576) (hm : ∀ y ∈ xs, y.frm.length ≤ 1048576) (HM : Mem w0 W L) : Calls Tryz.prog 43 #[.slice A xs.length c] W fun e W' => ∃ A' c', e = .returned (.slice A' xs.length c') ∧ Mem w0 W' (own (tAck 3) 104 A' c' xs :: L) := by
  refine enter Tryz.func43 rfl Tryz.ntmps43 [(0, _)] rfl ⟨rfl, trivial⟩ ?_
  replace HM := HM.pur h
  repeat (first | (refine s_make ((tAck 3)) HM rfl rfl rfl (by omega) rfl ?_; intro A1 W1 HM1; clear HM; have HM := HM1; clear HM1) | (refine gGP ?_; first | refine gp (p_move rfl) ?_ | refine gp (p_assign rfl) ?_ | refine gp (p_len rfl) ?_) | (refine gL ?_; first | refine s_gp rfl rfl ?_ | refine l_nil ?_) | (refine gC ?_; first | refine c_seq ?_ | refine c_region ?_ | refine c_block ?_) | (refine gN ?_; refine n_then ?_))
  refine c_loop (σ := Nat) (fun i => [(0, .slice A xs.length c), (3, .slice A1 xs.length xs.length), (4, .int .i64 i)]) (fun i W1 => i ≤ xs.length ∧ ∃ ys, ys.length = xs.length ∧ (∀ j, j < i → ys[j]? = xs[j]?) ∧ Mem w0 W1 (own (tAck 3) 104 A1 xs.length ys :: ro rAck w0 A xs :: L)) (fun i => xs.length - i) 0 (by repeat (first | exact trivial | refine And.intro (by first | rfl | exact look_int rfl (by omega)) ?_)) ⟨Nat.zero_le _, _, List.length_replicate .., fun j hj => by omega, HM⟩ ?_
  clear HM
  rintro i W1 ⟨hi, ys, hl, hy, HM⟩
  by_cases hlt : i < xs.length
  · obtain ⟨cc, ⟨j, rfl, hs⟩, HM⟩ := HM.roOpen (A := A) i hlt
    have hmi := hm _ (List.getElem_mem hlt)
    repeat (first | (refine gGP ?_; first | refine gp (p_move rfl) ?_ | refine gp (p_assign rfl) ?_ | (refine gGB ?_; first | refine gp (p_lss rfl rfl) ?_ | refine gp (p_add rfl rfl (by exact wr (by omega) (by omega))) ?_) | refine gp (p_indexo HM rfl (by first | with_reducible rfl | omega) rfl (by omega) (by omega)) ?_ | refine gp (p_indexr HM rfl (by first | with_reducible rfl | omega) rfl (by omega) (by omega)) ?_ | refine gp (p_len rfl) ?_) | (refine gGV ?_; refine gv (p_loadwr rfl rfl rfl) ?_) | (refine gL ?_; first | refine s_gp rfl rfl ?_ | refine s_gv HM rfl ?_ | (refine gStore ?_; (refine s_storew HM rfl rfl rfl (by omega) (by omega) rfl ?_; intro W1 HM1; clear HM; have HM := HM1; clear HM1)) | (refine gCall ?_; (refine s_fn rfl rfl ?_; (go_at_call 84; refine (toAck _ _ hs hmi HM).mono ?_; rintro e W1 ⟨j2, rfl, HM1⟩; refine ⟨_, rfl, ?_⟩; clear HM; have HM := HM1; clear HM1))) | refine l_nil ?_) | (refine gC ?_; first | refine c_seq ?_ | refine c_region ?_ | refine c_block ?_ | refine c_skip ?_ | refine c_yes rfl (by (simp; omega)) ?_) | (refine gN ?_; first | refine n_then ?_ | refine n_block ?_))
    rw [Int.toNat_natCast] at HM
    exact n_round (i + 1) (by repeat (first | exact trivial | refine And.intro (by first | rfl | exact look_int rfl (by omega)) ?_)) ⟨by omega, _, by rw [List.length_set]; exact hl, fill_set hl hy hlt rfl, HM.sb⟩ (by omega)
  · repeat (first | (refine gGP ?_; first | refine gp (p_move rfl) ?_ | refine gp (p_assign rfl) ?_ | (refine gGB ?_; refine gp (p_lss rfl rfl) ?_) | refine gp (p_len rfl) ?_) | (refine gL ?_; first | refine s_gp rfl rfl ?_ | refine l_nil ?_) | (refine gC ?_; first | refine c_seq ?_ | refine c_region ?_ | refine c_exit ?_ | refine c_ret ?_ | refine c_no rfl (by (simp; omega)) ?_) | (refine gN ?_; first | refine n_then ?_ | refine x_then ?_ | refine x_here ?_))
    obtain rfl : i = xs.length := by omega
    obtain rfl := fill_end hl hy
    exact ret_tmp rfl rfl ⟨A1, _, rfl, HM.sb⟩

theorem toRec (x : Rcd) (i : AtRcd) (h : RoRcd b w0 x i) (hn : SmallR x) (HM : Mem w0 W L) : Calls Tryz.prog 7 #[.agg (encRcd x i).toArray] W fun e W' => ∃ j, e = .returned (.agg (encRcd x j).toArray) ∧ Mem w0 W' (partRcd 105 52 9 3 104 x j ++ L) := by
  refine enter Tryz.func7 rfl Tryz.ntmps7 [(0, .agg (encRcd x i).toArray)] rfl ⟨rfl, trivial⟩ ?_
  unfold encRcd
  repeat (first | (refine gGP ?_; refine gp (p_field rfl (by simp only [Nat.reduceAdd]; rfl)) ?_) | (refine gGV ?_; first | refine gv (p_load rfl) ?_ | refine gv (p_loads rfl) ?_) | (refine gL ?_; first | refine s_gp rfl rfl ?_ | refine s_gv HM rfl ?_ | (refine gStore ?_; (refine s_store HM rfl rfl rfl rfl ?_; intro W1 HM1; clear HM; have HM := HM1; clear HM1)) | (refine gCall ?_; (refine s_fn rfl rfl ?_; first | (go_at_call 38; refine (toDisk _ _ (by first | with_reducible exact h.ss | with_reducible exact h.ds) (by first | with_reducible exact hn.ss | with_reducible exact hn.ds) HM).mono ?_; rintro e W1 ⟨j1, rfl, HM1⟩; refine ⟨_, rfl, ?_⟩; clear HM; have HM := HM1; clear HM1) | (go_at_call 39; refine (toMsgS h.held hn.held hn.helds HM).mono ?_; rintro e W1 ⟨A2, c2, rfl, HM1⟩; refine ⟨_, rfl, ?_⟩; clear HM; have HM := HM1; clear HM1) | (go_at_call 40; refine (toStrS h.wishes hn.wishes HM).mono ?_; rintro e W1 ⟨A3, c3, rfl, HM1⟩; refine ⟨_, rfl, ?_⟩; clear HM; have HM := HM1; clear HM1) | (go_at_call 41; refine (toIntS h.yes hn.yes HM).mono ?_; rintro e W1 ⟨A4, c4, rfl, HM1⟩; refine ⟨_, rfl, ?_⟩; clear HM; have HM := HM1; clear HM1) | (go_at_call 42; refine (toSlotS h.best hn.best HM).mono ?_; rintro e W1 ⟨A5, c5, rfl, HM1⟩; refine ⟨_, rfl, ?_⟩; clear HM; have HM := HM1; clear HM1) | (go_at_call 43; refine (toAckS h.acks hn.acks hn.ackss HM).mono ?_; rintro e W1 ⟨A6, c6, rfl, HM1⟩; refine ⟨_, rfl, ?_⟩; clear HM; have HM := HM1; clear HM1))) | (refine s_box HM rfl rfl ?_; intro g W1 HM1; clear HM; have HM := HM1; clear HM1) | (refine s_alloc HM rfl ?_; intro g W1 HM1; clear HM; have HM := HM1; clear HM1) | refine l_nil ?_) | (refine gC ?_; first | refine c_seq ?_ | refine c_region ?_ | refine c_ret ?_) | (refine gN ?_; refine n_then ?_))
  refine ret_cell HM rfl rfl rfl ⟨⟨_, _, (A2, c2), (A3, c3), (A4, c4), (A5, c5), (A6, c6)⟩, rfl, ?_⟩
  simp only [partRcd, List.cons_append, List.nil_append]
  exact HM.sb
end Go.Proofs.YtkfogbonjpdkbaaGreat.Sp
namespace Go.Proofs.YtkfogbonjpdkbaaGreat.Sp
open Go Go.RowKit
set_option linter.unusedVariables false
set_option linter.unusedSimpArgs false
set_option maxRecDepth 10000
set_option maxHeartbeats 4000000
variable {w0 W : World} {L : List Asn} {A B : Option Addr} {c c' : Nat} {b : Bool}

theorem eqIntS {xs : List Int} (h1 : RoRow rInt w0 A xs) (h2 : RoRow rInt w0 B xs) (HM : Mem w0 W L) : Calls Tryz.prog 50 #[.slice A xs.length c, .slice B xs.length c'] W fun e W' => e = .returned (.bool true) ∧ Mem w0 W' L := by
  refine enter Tryz.func50 rfl Tryz.ntmps50 [(0, _), (1, _)] rfl ⟨rfl, rfl, trivial⟩ ?_
  have hmax := h1.max
  replace HM := (HM.pur h1).pur h2
  repeat (first | (refine gGP ?_; first | refine gp (p_move rfl) ?_ | refine gp (p_assign rfl) ?_ | (refine gGB ?_; refine gp (p_neq rfl rfl) ?_) | refine gp (p_len rfl) ?_) | (refine gL ?_; first | refine s_gp rfl rfl ?_ | refine l_nil ?_) | (refine gC ?_; first | refine c_seq ?_ | refine c_region ?_ | refine c_block ?_ | refine c_skip ?_ | refine c_no rfl (by first | rfl | (simp; done) | fail) ?_) | (refine gN ?_; refine n_then ?_))
  refine c_loop (σ := Nat) (fun i => [(0, .slice A xs.length c), (1, .slice B xs.length c'), (5, .int .i64 i)]) (fun i W1 => i ≤ xs.length ∧ Mem w0 W1 (ro rInt w0 B xs :: ro rInt w0 A xs :: L)) (fun i => xs.length - i) 0 (by repeat (first | exact trivial | refine And.intro (by first | rfl | exact look_int rfl (by omega)) ?_)) ⟨Nat.zero_le _, HM⟩ ?_
  clear HM
  rintro i W1 ⟨hi, HM⟩
  by_cases hlt : i < xs.length
  · repeat (first | (refine gR ?_; refine d_start [] [(0, 0), (0, 1), (0, 2), (0, 4), (0, 5), (0, 6), (1, 3), (1, 7), (0, 8)] HM (by kernel_rfl) (by kernel_rfl) (by repeat (first | exact qp_body | refine qp_then ?_ | refine qp_block ?_)) (by kernel_rfl) rfl ?_; intro HQ HS W1 HM1; clear HM; have HM := HM1; clear HM1) | (refine gGP ?_; first | refine gp (p_move rfl) ?_ | refine gp (p_assign rfl) ?_ | (refine gGB ?_; first | refine gp (p_lss rfl rfl) ?_ | refine gp (p_neq rfl rfl) ?_ | refine gp (p_add rfl rfl (by exact wr (by omega) (by omega))) ?_) | refine gp (p_indexr HM rfl (by first | with_reducible rfl | omega) rfl (by omega) (by omega)) ?_ | refine gp (p_len rfl) ?_) | (refine gGV ?_; refine gv (p_loadr rfl rfl (by omega) (by omega) rfl) ?_) | (refine gL ?_; first | refine s_gp rfl rfl ?_ | refine l_nil ?_) | (refine gC ?_; first | refine c_seq ?_ | refine c_region ?_ | refine c_block ?_ | refine c_skip ?_ | refine c_yes rfl (by (simp; omega)) ?_ | refine c_no rfl (by first | (simp; done) | fail) ?_) | (refine gN ?_; first | refine n_then ?_ | refine n_block ?_) | (refine gD ?_; first | refine d_next rfl ?_ | refine d_done ?_) | (refine gO ?_; first | refine d_gp HQ HS rfl ?_ | refine d_gv HQ HS rfl ?_))
    exact n_round (i + 1) (by repeat (first | exact trivial | refine And.intro (by first | rfl | exact look_int rfl (by omega)) ?_)) ⟨by omega, HM.sb⟩ (by omega)
  · repeat (first | (refine gGP ?_; first | refine gp (p_move rfl) ?_ | refine gp (p_assign rfl) ?_ | (refine gGB ?_; refine gp (p_lss rfl rfl) ?_) | refine gp (p_len rfl) ?_) | (refine gL ?_; first | refine s_gp rfl rfl ?_ | refine l_nil ?_) | (refine gC ?_; first | refine c_seq ?_ | refine c_region ?_ | refine c_exit ?_ | refine c_ret ?_ | refine c_no rfl (by (simp; omega)) ?_) | (refine gN ?_; first | refine n_then ?_ | refine x_then ?_ | refine x_here ?_))
    exact ret_tmp rfl rfl ⟨rfl, HM.sb⟩

theorem eqStrS {xs : List ByteArray} (h1 : RoRow (rStr b) w0 A xs) (h2 : RoRow (rStr b) w0 B xs) (HM : Mem w0 W L) : Calls Tryz.prog 49 #[.slice A xs.length c, .slice B xs.length c'] W fun e W' => e = .returned (.bool true) ∧ Mem w0 W' L := by
  refine enter Tryz.func49 rfl Tryz.ntmps49 [(0, _), (1, _)] rfl ⟨rfl, rfl, trivial⟩ ?_
  have hmax := h1.max
  replace HM := (HM.pur h1).pur h2
  repeat (first | (refine gGP ?_; first | refine gp (p_move rfl) ?_ | refine gp (p_assign rfl) ?_ | (refine gGB ?_; refine gp (p_neq rfl rfl) ?_) | refine gp (p_len rfl) ?_) | (refine gL ?_; first | refine s_gp rfl rfl ?_ | refine l_nil ?_) | (refine gC ?_; first | refine c_seq ?_ | refine c_region ?_ | refine c_block ?_ | refine c_skip ?_ | refine c_no rfl (by first | rfl | (simp; done) | fail) ?_) | (refine gN ?_; refine n_then ?_))
  refine c_loop (σ := Nat) (fun i => [(0, .slice A xs.length c), (1, .slice B xs.length c'), (5, .int .i64 i)]) (fun i W1 => i ≤ xs.length ∧ Mem w0 W1 (ro (rStr b) w0 B xs :: ro (rStr b) w0 A xs :: L)) (fun i => xs.length - i) 0 (by repeat (first | exact trivial | refine And.intro (by first | rfl | exact look_int rfl (by omega)) ?_)) ⟨Nat.zero_le _, HM⟩ ?_
  clear HM
  rintro i W1 ⟨hi, HM⟩
  by_cases hlt : i < xs.length
  · repeat (first | (refine gR ?_; refine d_start [] [(0, 0), (0, 1), (0, 2), (0, 4), (0, 5), (0, 6), (1, 3), (1, 7), (0, 8)] HM (by kernel_rfl) (by kernel_rfl) (by repeat (first | exact qp_body | refine qp_then ?_ | refine qp_block ?_)) (by kernel_rfl) rfl ?_; intro HQ HS W1 HM1; clear HM; have HM := HM1; clear HM1) | (refine gGP ?_; first | refine gp (p_move rfl) ?_ | refine gp (p_assign rfl) ?_ | (refine gGB ?_; first | refine gp (p_lss rfl rfl) ?_ | refine gp (p_sneq rfl rfl) ?_ | refine gp (p_add rfl rfl (by exact wr (by omega) (by omega))) ?_) | refine gp (p_indexr HM rfl (by first | with_reducible rfl | omega) rfl (by omega) (by omega)) ?_ | refine gp (p_len rfl) ?_) | (refine gGV ?_; refine gv (p_loadr rfl rfl (by omega) (by omega) rfl) ?_) | (refine gL ?_; first | refine s_gp rfl rfl ?_ | refine l_nil ?_) | (refine gC ?_; first | refine c_seq ?_ | refine c_region ?_ | refine c_block ?_ | refine c_skip ?_ | refine c_yes rfl (by (simp; omega)) ?_ | refine c_no rfl (by first | (simp; done) | fail) ?_) | (refine gN ?_; first | refine n_then ?_ | refine n_block ?_) | (refine gD ?_; first | refine d_next rfl ?_ | refine d_done ?_) | (refine gO ?_; first | refine d_gp HQ HS rfl ?_ | refine d_gv HQ HS rfl ?_))
    exact n_round (i + 1) (by repeat (first | exact trivial | refine And.intro (by first | rfl | exact look_int rfl (by omega)) ?_)) ⟨by omega, HM.sb⟩ (by omega)
  · repeat (first | (refine gGP ?_; first | refine gp (p_move rfl) ?_ | refine gp (p_assign rfl) ?_ | (refine gGB ?_; refine gp (p_lss rfl rfl) ?_) | refine gp (p_len rfl) ?_) | (refine gL ?_; first | refine s_gp rfl rfl ?_ | refine l_nil ?_) | (refine gC ?_; first | refine c_seq ?_ | refine c_region ?_ | refine c_exit ?_ | refine c_ret ?_ | refine c_no rfl (by (simp; omega)) ?_) | (refine gN ?_; first | refine n_then ?_ | refine x_then ?_ | refine x_here ?_))
    exact ret_tmp rfl rfl ⟨rfl, HM.sb⟩

theorem eqSlot (x : Slot)  (HM : Mem w0 W L) : Calls Tryz.prog 105 #[.agg (encSlot x ()).toArray, .agg (encSlot x ()).toArray] W fun e W' => e = .returned (.bool true) ∧ Mem w0 W' L := by
  refine enter Tryz.func105 rfl Tryz.ntmps105 [(0, .agg (encSlot x ()).toArray), (1, .agg (encSlot x ()).toArray)] rfl ⟨rfl, rfl, trivial⟩ ?_
  unfold encSlot
  repeat (first | (refine gGP ?_; first | refine gp (p_assign rfl) ?_ | (refine gGB ?_; first | refine gp (p_neq rfl rfl) ?_ | refine gp (p_sneq rfl rfl) ?_) | refine gp (p_field rfl (by simp only [Nat.reduceAdd]; rfl)) ?_) | (refine gGV ?_; refine gv (p_load rfl) ?_) | (refine gL ?_; first | refine s_gp rfl rfl ?_ | refine s_gv HM rfl ?_ | (refine s_box HM rfl rfl ?_; intro g W1 HM1; clear HM; have HM := HM1; clear HM1) | refine l_nil ?_) | (refine gC ?_; first | refine c_seq ?_ | refine c_region ?_ | refine c_skip ?_ | refine c_ret ?_ | refine c_no rfl (by first | (simp; done) | fail) ?_) | (refine gN ?_; refine n_then ?_))
  exact ret_tmp rfl rfl ⟨rfl, HM.sb⟩

theorem eqSlotS {xs : List Slot} (h1 : RoRow (rSlot b) w0 A xs) (h2 : RoRow (rSlot b) w0 B xs) (HM : Mem w0 W L) : Calls Tryz.prog 51 #[.slice A xs.length c, .slice B xs.length c'] W fun e W' => e = .returned (.bool true) ∧ Mem w0 W' L := by
  refine enter Tryz.func51 rfl Tryz.ntmps51 [(0, _), (1, _)] rfl ⟨rfl, rfl, trivial⟩ ?_
  have hmax := h1.max
  replace HM := (HM.pur h1).pur h2
  repeat (first | (refine gGP ?_; first | refine gp (p_move rfl) ?_ | refine gp (p_assign rfl) ?_ | (refine gGB ?_; refine gp (p_neq rfl rfl) ?_) | refine gp (p_len rfl) ?_) | (refine gL ?_; first | refine s_gp rfl rfl ?_ | refine l_nil ?_) | (refine gC ?_; first | refine c_seq ?_ | refine c_region ?_ | refine c_block ?_ | refine c_skip ?_ | refine c_no rfl (by first | rfl | (simp; done) | fail) ?_) | (refine gN ?_; refine n_then ?_))
  refine c_loop (σ := Nat) (fun i => [(0, .slice A xs.length c), (1, .slice B xs.length c'), (5, .int .i64 i)]) (fun i W1 => i ≤ xs.length ∧ Mem w0 W1 (ro (rSlot b) w0 B xs :: ro (rSlot b) w0 A xs :: L)) (fun i => xs.length - i) 0 (by repeat (first | exact trivial | refine And.intro (by first | rfl | exact look_int rfl (by omega)) ?_)) ⟨Nat.zero_le _, HM⟩ ?_
  clear HM
  rintro i W1 ⟨hi, HM⟩
  by_cases hlt : i < xs.length
  · obtain ⟨cc, ⟨j1, rfl, g1⟩, HM⟩ := HM.roOpen (A := A) i hlt
    obtain ⟨cc, ⟨j2, rfl, g2⟩, HM⟩ := HM.roOpen (A := B) i hlt
    repeat (first | (refine gR ?_; refine d_start [] [(0, 0), (0, 1), (0, 2), (0, 4), (0, 5), (0, 6), (1, 3), (1, 7), (2, 8), (0, 9)] HM (by kernel_rfl) (by kernel_rfl) (by repeat (first | exact qp_body | refine qp_then ?_ | refine qp_block ?_)) (by kernel_rfl) rfl ?_; intro HQ HS W1 HM1; clear HM; have HM := HM1; clear HM1) | (refine gGP ?_; first | refine gp (p_move rfl) ?_ | refine gp (p_assign rfl) ?_ | (refine gGB ?_; first | refine gp (p_lss rfl rfl) ?_ | refine gp (p_add rfl rfl (by exact wr (by omega) (by omega))) ?_) | refine gp (p_indexr HM rfl (by first | with_reducible rfl | omega) rfl (by omega) (by omega)) ?_ | refine gp (p_len rfl) ?_ | refine gp (p_not rfl) ?_) | (refine gGV ?_; refine gv (p_loadwr rfl rfl rfl) ?_) | (refine gL ?_; first | refine s_gp rfl rfl ?_ | (refine gCall ?_; (refine s_fn rfl rfl ?_; (go_at_call 105; refine (eqSlot _ HM).mono ?_; rintro e W1 ⟨rfl, HM1⟩; refine ⟨_, rfl, ?_⟩; clear HM; have HM := HM1; clear HM1))) | refine l_nil ?_) | (refine gC ?_; first | refine c_seq ?_ | refine c_region ?_ | refine c_block ?_ | refine c_skip ?_ | refine c_yes rfl (by (simp; omega)) ?_ | refine c_no rfl (by rfl) ?_) | (refine gN ?_; first | refine n_then ?_ | refine n_block ?_ | refine d_back (by exact HM) ?_) | (refine gD ?_; first | refine d_next rfl ?_ | refine d_done ?_) | (refine gO ?_; first | refine d_gp HQ HS rfl ?_ | refine d_gv HQ HS rfl ?_ | refine d_one ?_))
    exact n_round (i + 1) (by repeat (first | exact trivial | refine And.intro (by first | rfl | exact look_int rfl (by omega)) ?_)) ⟨by omega, HM.sb⟩ (by omega)
  · repeat (first | (refine gGP ?_; first | refine gp (p_move rfl) ?_ | refine gp (p_assign rfl) ?_ | (refine gGB ?_; refine gp (p_lss rfl rfl) ?_) | refine gp (p_len rfl) ?_) | (refine gL ?_; first | refine s_gp rfl rfl ?_ | refine l_nil ?_) | (refine gC ?_; first | refine c_seq ?_ | refine c_region ?_ | refine c_exit ?_ | refine c_ret ?_ | refine c_no rfl (by (simp; omega)) ?_) | (refine gN ?_; first | refine n_then ?_ | refine x_then ?_ | refine x_here ?_))
    exact ret_tmp rfl rfl ⟨rfl, HM.sb⟩

theorem eqAck (x : Ack) (i j : At) (h1 : RoRow rInt w0 i.1 x.frm) (h2 : RoRow rInt w0 j.1 x.frm) (HM : Mem w0 W L) : Calls Tryz.prog 106 #[.agg (encAck x i).toArray, .agg (encAck x j).toArray] W fun e W' => e = .returned (.bool true) ∧ Mem w0 W' L := by
  refine enter Tryz.func106 rfl Tryz.ntmps106 [(0, .agg (encAck x i).toArray), (1, .agg (encAck x j).toArray)] rfl ⟨rfl, rfl, trivial⟩ ?_
  unfold encAck
  repeat (first | (refine gGP ?_; first | refine gp (p_assign rfl) ?_ | (refine gGB ?_; refine gp (p_neq rfl rfl) ?_) | refine gp (p_field rfl (by simp only [Nat.reduceAdd]; rfl)) ?_ | refine gp (p_not rfl) ?_) | (refine gGV ?_; refine gv (p_load rfl) ?_) | (refine gL ?_; first | refine s_gp rfl rfl ?_ | refine s_gv HM rfl ?_ | (refine gCall ?_; (refine s_fn rfl rfl ?_; (go_at_call 50; refine (eqIntS h1 h2 HM).mono ?_; rintro e W1 ⟨rfl, HM1⟩; refine ⟨_, rfl, ?_⟩; clear HM; have HM := HM1; clear HM1))) | (refine s_box HM rfl rfl ?_; intro g W1 HM1; clear HM; have HM := HM1; clear HM1) | refine l_nil ?_) | (refine gC ?_; first | refine c_seq ?_ | refine c_region ?_ | refine c_skip ?_ | refine c_ret ?_ | refine c_no rfl (by first | rfl | (simp; done) | fail) ?_) | (refine gN ?_; refine n_then ?_))
  exact ret_tmp rfl rfl ⟨rfl, HM.sb⟩

theorem eqAckS {xs : List Ack} (h1 : RoRow rAck w0 A xs) (h2 : RoRow rAck w0 B xs) (HM : Mem w0 W L) : Calls Tryz.prog 52 #[.slice A xs.length c, .slice B xs.length c'] W fun e W' => e = .returned (.bool true) ∧ Mem w0 W' L := by
  refine enter Tryz.func52 rfl Tryz.ntmps52 [(0, _), (1, _)] rfl ⟨rfl, rfl, trivial⟩ ?_
  have hmax := h1.max
  replace HM := (HM.pur h1).pur h2
  repeat (first | (refine gGP ?_; first | refine gp (p_move rfl) ?_ | refine gp (p_assign rfl) ?_ | (refine gGB ?_; refine gp (p_neq rfl rfl) ?_) | refine gp (p_len rfl) ?_) | (refine gL ?_; first | refine s_gp rfl rfl ?_ | refine l_nil ?_) | (refine gC ?_; first | refine c_seq ?_ | refine c_region ?_ | refine c_block ?_ | refine c_skip ?_ | refine c_no rfl (by first | rfl | (simp; done) | fail) ?_) | (refine gN ?_; refine n_then ?_))
  refine c_loop (σ := Nat) (fun i => [(0, .slice A xs.length c), (1, .slice B xs.length c'), (5, .int .i64 i)]) (fun i W1 => i ≤ xs.length ∧ Mem w0 W1 (ro rAck w0 B xs :: ro rAck w0 A xs :: L)) (fun i => xs.length - i) 0 (by repeat (first | exact trivial | refine And.intro (by first | rfl | exact look_int rfl (by omega)) ?_)) ⟨Nat.zero_le _, HM⟩ ?_
  clear HM
  rintro i W1 ⟨hi, HM⟩
  by_cases hlt : i < xs.length
  · obtain ⟨cc, ⟨j1, rfl, g1⟩, HM⟩ := HM.roOpen (A := A) i hlt
    obtain ⟨cc, ⟨j2, rfl, g2⟩, HM⟩ := HM.roOpen (A := B) i hlt
    repeat (first | (refine gR ?_; refine d_start [] [(0, 0), (0, 1), (0, 2), (0, 4), (0, 5), (0, 6), (1, 3), (1, 7), (2, 8), (0, 9)] HM (by kernel_rfl) (by kernel_rfl) (by repeat (first | exact qp_body | refine qp_then ?_ | refine qp_block ?_)) (by kernel_rfl) rfl ?_; intro HQ HS W1 HM1; clear HM; have HM := HM1; clear HM1) | (refine gGP ?_; first | refine gp (p_move rfl) ?_ | refine gp (p_assign rfl) ?_ | (refine gGB ?_; first | refine gp (p_lss rfl rfl) ?_ | refine gp (p_add rfl rfl (by exact wr (by omega) (by omega))) ?_) | refine gp (p_indexr HM rfl (by first | with_reducible rfl | omega) rfl (by omega) (by omega)) ?_ | refine gp (p_len rfl) ?_ | refine gp (p_not rfl) ?_) | (refine gGV ?_; refine gv (p_loadwr rfl rfl rfl) ?_) | (refine gL ?_; first | refine s_gp rfl rfl ?_ | (refine gCall ?_; (refine s_fn rfl rfl ?_; (go_at_call 106; refine (eqAck _ _ _ g1 g2 HM).mono ?_; rintro e W1 ⟨rfl, HM1⟩; refine ⟨_, rfl, ?_⟩; clear HM; have HM := HM1; clear HM1))) | refine l_nil ?_) | (refine gC ?_; first | refine c_seq ?_ | refine c_region ?_ | refine c_block ?_ | refine c_skip ?_ | refine c_yes rfl (by (simp; omega)) ?_ | refine c_no rfl (by rfl) ?_) | (refine gN ?_; first | refine n_then ?_ | refine n_block ?_ | refine d_back (by exact HM) ?_) | (refine gD ?_; first | refine d_next rfl ?_ | refine d_done ?_) | (refine gO ?_; first | refine d_gp HQ HS rfl ?_ | refine d_gv HQ HS rfl ?_ | refine d_one ?_))
    exact n_round (i + 1) (by repeat (first | exact trivial | refine And.intro (by first | rfl | exact look_int rfl (by omega)) ?_)) ⟨by omega, HM.sb⟩ (by omega)
  · repeat (first | (refine gGP ?_; first | refine gp (p_move rfl) ?_ | refine gp (p_assign rfl) ?_ | (refine gGB ?_; refine gp (p_lss rfl rfl) ?_) | refine gp (p_len rfl) ?_) | (refine gL ?_; first | refine s_gp rfl rfl ?_ | refine l_nil ?_) | (refine gC ?_; first | refine c_seq ?_ | refine c_region ?_ | refine c_exit ?_ | refine c_ret ?_ | refine c_no rfl (by (simp; omega)) ?_) | (refine gN ?_; first | refine n_then ?_ | refine x_then ?_ | refine x_here ?_))
    exact ret_tmp rfl rfl ⟨rfl, HM.sb⟩

theorem eqMsg (x : Msg) (i j : At) (h1 : RoRow (rSlot b) w0 i.1 x.slots) (h2 : RoRow (rSlot b) w0 j.1 x.slots) (HM : Mem w0 W L) : Calls Tryz.prog 19 #[.agg (encMsg x i).toArray, .agg (encMsg x j).toArray] W fun e W' => e = .returned (.bool true) ∧ Mem w0 W' L := by
  refine enter Tryz.func19 rfl Tryz.ntmps19 [(0, .agg (encMsg x i).toArray), (1, .agg (encMsg x j).toArray)] rfl ⟨rfl, rfl, trivial⟩ ?_
  unfold encMsg
  repeat (first | (refine gGP ?_; first | refine gp (p_assign rfl) ?_ | (refine gGB ?_; first | refine gp (p_neq rfl rfl) ?_ | refine gp (p_sneq rfl rfl) ?_) | refine gp (p_field rfl (by simp only [Nat.reduceAdd]; rfl)) ?_ | refine gp (p_not rfl) ?_) | (refine gGV ?_; refine gv (p_load rfl) ?_) | (refine gL ?_; first | refine s_gp rfl rfl ?_ | refine s_gv HM rfl ?_ | (refine gCall ?_; (refine s_fn rfl rfl ?_; (go_at_call 51; refine (eqSlotS h1 h2 HM).mono ?_; rintro e W1 ⟨rfl, HM1⟩; refine ⟨_, rfl, ?_⟩; clear HM; have HM := HM1; clear HM1))) | (refine s_box HM rfl rfl ?_; intro g W1 HM1; clear HM; have HM := HM1; clear HM1) | refine l_nil ?_) | (refine gC ?_; first | refine c_seq ?_ | refine c_region ?_ | refine c_skip ?_ | refine c_ret ?_ | refine c_no rfl (by first | rfl | (simp; done) | fail) ?_) | (refine gN ?_; refine n_then ?_))
  exact ret_tmp rfl rfl ⟨rfl, HM.sb⟩

theorem eqMsgS {xs : List Msg} (h1 : RoRow (rMsg b) w0 A xs) (h2 : RoRow (rMsg b) w0 B xs) (HM : Mem w0 W L) : Calls Tryz.prog 10 #[.slice A xs.length c, .slice B xs.length c'] W fun e W' => e = .returned (.bool true) ∧ Mem w0 W' L := by
  refine enter Tryz.func10 rfl Tryz.ntmps10 [(0, _), (1, _)] rfl ⟨rfl, rfl, trivial⟩ ?_
  have hmax := h1.max
  replace HM := (HM.pur h1).pur h2
  repeat (first | (refine gGP ?_; first | refine gp (p_move rfl) ?_ | refine gp (p_assign rfl) ?_ | (refine gGB ?_; refine gp (p_neq rfl rfl) ?_) | refine gp (p_len rfl) ?_) | (refine gL ?_; first | refine s_gp rfl rfl ?_ | refine l_nil ?_) | (refine gC ?_; first | refine c_seq ?_ | refine c_region ?_ | refine c_block ?_ | refine c_skip ?_ | refine c_no rfl (by first | rfl | (simp; done) | fail) ?_) | (refine gN ?_; refine n_then ?_))
  refine c_loop (σ := Nat) (fun i => [(0, .slice A xs.length c), (1, .slice B xs.length c'), (5, .int .i64 i)]) (fun i W1 => i ≤ xs.length ∧ Mem w0 W1 (ro (rMsg b) w0 B xs :: ro (rMsg b) w0 A xs :: L)) (fun i => xs.length - i) 0 (by repeat (first | exact trivial | refine And.intro (by first | rfl | exact look_int rfl (by omega)) ?_)) ⟨Nat.zero_le _, HM⟩ ?_
  clear HM
  rintro i W1 ⟨hi, HM⟩
  by_cases hlt : i < xs.length
  · obtain ⟨cc, ⟨j1, rfl, _, g1⟩, HM⟩ := HM.roOpen (A := A) i hlt
    obtain ⟨cc, ⟨j2, rfl, _, g2⟩, HM⟩ := HM.roOpen (A := B) i hlt
    repeat (first | (refine gR ?_; refine d_start [] [(0, 0), (0, 1), (0, 2), (0, 4), (0, 5), (0, 6), (1, 3), (1, 7), (2, 8), (0, 9)] HM (by kernel_rfl) (by kernel_rfl) (by repeat (first | exact qp_body | refine qp_then ?_ | refine qp_block ?_)) (by kernel_rfl) rfl ?_; intro HQ HS W1 HM1; clear HM; have HM := HM1; clear HM1) | (refine gGP ?_; first | refine gp (p_move rfl) ?_ | refine gp (p_assign rfl) ?_ | (refine gGB ?_; first | refine gp (p_lss rfl rfl) ?_ | refine gp (p_add rfl rfl (by exact wr (by omega) (by omega))) ?_) | refine gp (p_indexr HM rfl (by first | with_reducible rfl | omega) rfl (by omega) (by omega)) ?_ | refine gp (p_len rfl) ?_ | refine gp (p_not rfl) ?_) | (refine gGV ?_; refine gv (p_loadwr rfl rfl rfl) ?_) | (refine gL ?_; first | refine s_gp rfl rfl ?_ | (refine gCall ?_; (refine s_fn rfl rfl ?_; (go_at_call 19; refine (eqMsg _ _ _ g1 g2 HM).mono ?_; rintro e W1 ⟨rfl, HM1⟩; refine ⟨_, rfl, ?_⟩; clear HM; have HM := HM1; clear HM1))) | refine l_nil ?_) | (refine gC ?_; first | refine c_seq ?_ | refine c_region ?_ | refine c_block ?_ | refine c_skip ?_ | refine c_yes rfl (by (simp; omega)) ?_ | refine c_no rfl (by rfl) ?_) | (refine gN ?_; first | refine n_then ?_ | refine n_block ?_ | refine d_back (by exact HM) ?_) | (refine gD ?_; first | refine d_next rfl ?_ | refine d_done ?_) | (refine gO ?_; first | refine d_gp HQ HS rfl ?_ | refine d_gv HQ HS rfl ?_ | refine d_one ?_))
    exact n_round (i + 1) (by repeat (first | exact trivial | refine And.intro (by first | rfl | exact look_int rfl (by omega)) ?_)) ⟨by omega, HM.sb⟩ (by omega)
  · repeat (first | (refine gGP ?_; first | refine gp (p_move rfl) ?_ | refine gp (p_assign rfl) ?_ | (refine gGB ?_; refine gp (p_lss rfl rfl) ?_) | refine gp (p_len rfl) ?_) | (refine gL ?_; first | refine s_gp rfl rfl ?_ | refine l_nil ?_) | (refine gC ?_; first | refine c_seq ?_ | refine c_region ?_ | refine c_exit ?_ | refine c_ret ?_ | refine c_no rfl (by (simp; omega)) ?_) | (refine gN ?_; first | refine n_then ?_ | refine x_then ?_ | refine x_here ?_))
    exact ret_tmp rfl rfl ⟨rfl, HM.sb⟩

theorem eqDisk (p q : Int) {xs : List Slot} (h1 : RoRow (rSlot b) w0 A xs) (h2 : RoRow (rSlot b) w0 B xs) (HM : Mem w0 W L) : Calls Tryz.prog 48 #[.agg #[.int .i64 p, .int .i64 q, .slice A xs.length c], .agg #[.int .i64 p, .int .i64 q, .slice B xs.length c']] W fun e W' => e = .returned (.bool true) ∧ Mem w0 W' L := by
  refine enter Tryz.func48 rfl Tryz.ntmps48 [(0, .agg #[.int .i64 p, .int .i64 q, .slice A xs.length c]), (1, .agg #[.int .i64 p, .int .i64 q, .slice B xs.length c'])] rfl ⟨rfl, rfl, trivial⟩ ?_
  repeat (first | (refine gGP ?_; first | refine gp (p_assign rfl) ?_ | (refine gGB ?_; refine gp (p_neq rfl rfl) ?_) | refine gp (p_field rfl (by simp only [Nat.reduceAdd]; rfl)) ?_ | refine gp (p_not rfl) ?_) | (refine gGV ?_; refine gv (p_load rfl) ?_) | (refine gL ?_; first | refine s_gp rfl rfl ?_ | refine s_gv HM rfl ?_ | (refine gCall ?_; (refine s_fn rfl rfl ?_; (go_at_call 51; refine (eqSlotS h1 h2 HM).mono ?_; rintro e W1 ⟨rfl, HM1⟩; refine ⟨_, rfl, ?_⟩; clear HM; have HM := HM1; clear HM1))) | (refine s_box HM rfl rfl ?_; intro g W1 HM1; clear HM; have HM := HM1; clear HM1) | refine l_nil ?_) | (refine gC ?_; first | refine c_seq ?_ | refine c_region ?_ | refine c_skip ?_ | refine c_ret ?_ | refine c_no rfl (by first | rfl | (simp; done) | fail) ?_) | (refine gN ?_; refine n_then ?_))
  exact ret_tmp rfl rfl ⟨rfl, HM.sb⟩

theorem eqRcd (x : Rcd) (i j : AtRcd) (h1 : RoRcd b w0 x i) (h2 : RoRcd b w0 x j) (HM : Mem w0 W L) : Calls Tryz.prog 9 #[.agg (encRcd x i).toArray, .agg (encRcd x j).toArray] W fun e W' => e = .returned (.bool true) ∧ Mem w0 W' L := by
  refine enter Tryz.func9 rfl Tryz.ntmps9 [(0, .agg (encRcd x i).toArray), (1, .agg (encRcd x j).toArray)] rfl ⟨rfl, rfl, trivial⟩ ?_
  unfold encRcd
  repeat (first | (refine gGP ?_; first | refine gp (p_assign rfl) ?_ | (refine gGB ?_; first | refine gp (p_neq rfl rfl) ?_ | refine gp (p_bneq rfl rfl) ?_) | refine gp (p_field rfl (by simp only [Nat.reduceAdd]; rfl)) ?_ | refine gp (p_not rfl) ?_) | (refine gGV ?_; first | refine gv (p_load rfl) ?_ | refine gv (p_loads rfl) ?_) | (refine gL ?_; first | refine s_gp rfl rfl ?_ | refine s_gv HM rfl ?_ | (refine gCall ?_; (refine s_fn rfl rfl ?_; first | (go_at_call 48; refine (eqDisk _ _ (by first | with_reducible exact h1.ss | with_reducible exact h1.ds) (by first | with_reducible exact h2.ss | with_reducible exact h2.ds) HM).mono ?_; rintro e W1 ⟨rfl, HM1⟩; refine ⟨_, rfl, ?_⟩; clear HM; have HM := HM1; clear HM1) | (go_at_call 10; refine (eqMsgS h1.held h2.held HM).mono ?_; rintro e W1 ⟨rfl, HM1⟩; refine ⟨_, rfl, ?_⟩; clear HM; have HM := HM1; clear HM1) | (go_at_call 49; refine (eqStrS h1.wishes h2.wishes HM).mono ?_; rintro e W1 ⟨rfl, HM1⟩; refine ⟨_, rfl, ?_⟩; clear HM; have HM := HM1; clear HM1) | (go_at_call 50; refine (eqIntS h1.yes h2.yes HM).mono ?_; rintro e W1 ⟨rfl, HM1⟩; refine ⟨_, rfl, ?_⟩; clear HM; have HM := HM1; clear HM1) | (go_at_call 51; refine (eqSlotS h1.best h2.best HM).mono ?_; rintro e W1 ⟨rfl, HM1⟩; refine ⟨_, rfl, ?_⟩; clear HM; have HM := HM1; clear HM1) | (go_at_call 52; refine (eqAckS h1.acks h2.acks HM).mono ?_; rintro e W1 ⟨rfl, HM1⟩; refine ⟨_, rfl, ?_⟩; clear HM; have HM := HM1; clear HM1))) | (refine s_box HM rfl rfl ?_; intro g W1 HM1; clear HM; have HM := HM1; clear HM1) | refine l_nil ?_) | (refine gC ?_; first | refine c_seq ?_ | refine c_region ?_ | refine c_skip ?_ | refine c_ret ?_ | refine c_no rfl (by first | rfl | (simp; done) | fail) ?_) | (refine gN ?_; refine n_then ?_))
  exact ret_tmp rfl rfl ⟨rfl, HM.sb⟩

end Go.Proofs.YtkfogbonjpdkbaaGreat.Sp
namespace Go.Proofs.YtkfogbonjpdkbaaGreat.Sp
open Go Go.RowKit
set_option linter.unusedVariables false
set_option linter.unusedSimpArgs false
set_option maxRecDepth 10000
set_option maxHeartbeats 4000000
variable {w0 W : World} {L : List Asn} {A : Option Addr} {c : Nat}
def SlotsAt (k : Int) (ys : List Slot) : Prop := ∀ j : Nat, j < ys.length → rd tSlot ys j = ⟨k + 2 * j, mt (k + 2 * j + 1).toNat⟩
def IntsAt (k : Int) (ys : List Int) : Prop := ∀ j : Nat, j < ys.length → rd tInt ys j = k + j
def StrsAt (k : Int) (ys : List ByteArray) : Prop := ∀ j : Nat, j < ys.length → rd tStr ys j = mt (k + j).toNat
structure MsgAt (p : Int) (l : Nat) (m : Msg) : Prop where
  kind : m.kind = p
  frm : m.frm = p + 1
  to : m.to = p + 1 + 1
  ballot : m.ballot = p + 1 + 1 + 1
  index : m.index = p + 1 + 1 + 1 + 1
  known : m.known = p + 1 + 1 + 1 + 1 + 1
  text : m.text = mt (p + 1 + 1 + 1 + 1 + 1 + 1).toNat
  len : m.slots.length = l
  slots : SlotsAt (p + 1 + 1 + 1 + 1 + 1 + 1 + 1) m.slots
structure AckAt (p : Int) (l : Nat) (m : Ack) : Prop where
  index : m.index = p
  len : m.frm.length = l
  frm : IntsAt (p + 1) m.frm
def su (ls : List Nat) (j : Nat) : Nat := (ls.take j).sum
theorem su_zero (ls : List Nat) : su ls 0 = 0 := rfl
theorem su_succ {ls : List Nat} {j : Nat} (h : j < ls.length) : su ls (j + 1) = su ls j + ls[j] := by
  unfold su; rw [List.take_succ_eq_append_getElem h, List.sum_append]; simp
theorem su_le {ls : List Nat} {B : Nat} (h : ∀ l ∈ ls, l ≤ B) : ∀ j, su ls j ≤ B * j
  | 0 => by simp [su_zero]
  | j + 1 => by
    have ih := su_le h j
    by_cases hj : j < ls.length
    · rw [su_succ hj]; have := h _ (List.getElem_mem hj); rw [Nat.mul_add]; omega
    · have : su ls (j + 1) = su ls j := by unfold su; rw [List.take_of_length_le (by omega), List.take_of_length_le (by omega)]
      rw [this, Nat.mul_add]; omega
def lsM (xs : List Msg) : List Nat := xs.map (fun m => m.slots.length)
def lsA (xs : List Ack) : List Nat := xs.map (fun m => m.frm.length)
def MsgsAt (k : Int) (ls : List Nat) (ys : List Msg) : Prop := ys.length = ls.length ∧ ∀ j (h : j < ys.length) (h2 : j < ls.length), MsgAt (k + 7 * j + 2 * su ls j) ls[j] ys[j]
def AcksAt (k : Int) (ls : List Nat) (ys : List Ack) : Prop := ys.length = ls.length ∧ ∀ j (h : j < ys.length) (h2 : j < ls.length), AckAt (k + j + su ls j) ls[j] ys[j]
theorem mkIntS {xs : List Int} (k : Int) (h0 : 0 < k) (h1 : k ≤ 1125899906842624) (hn : xs.length ≤ 1048576) (HM : Mem w0 W (own tInt 3 A c xs :: L)) :
    Calls Tryz.prog 55 #[.slice A xs.length c, .int .i64 k] W fun e W' => ∃ ys, e = .returned (.int .i64 (k + xs.length)) ∧ ys.length = xs.length ∧ IntsAt k ys ∧ Mem w0 W' (own tInt 3 A c ys :: L) := by
  refine enter Tryz.func55 rfl Tryz.ntmps55 [(0, _), (1, _)] rfl ⟨rfl, rfl, trivial⟩ ?_
  repeat (first | (refine gGP ?_; refine gp (p_assign rfl) ?_) | (refine gL ?_; first | refine s_gp rfl rfl ?_ | refine l_nil ?_) | (refine gC ?_; first | refine c_seq ?_ | refine c_region ?_ | refine c_block ?_) | (refine gN ?_; refine n_then ?_))
  refine c_loop (σ := Nat) (fun i => [(0, .slice A xs.length c), (1, .int .i64 (k + i)), (5, .int .i64 i)]) (fun i W1 => i ≤ xs.length ∧ ∃ ys, ys.length = xs.length ∧ (∀ j : Nat, j < i → rd tInt ys j = k + j) ∧ Mem w0 W1 (own tInt 3 A c ys :: L)) (fun i => xs.length - i) 0 (by repeat (first | exact trivial | refine And.intro (by first | rfl | exact look_int rfl (by omega)) ?_)) ⟨Nat.zero_le _, xs, rfl, fun j hj => by omega, HM⟩ ?_
  clear HM
  rintro i W1 ⟨hi, ys, hl, hy, HM⟩
  by_cases hlt : i < xs.length
  · repeat (first | (refine gGP ?_; first | refine gp (p_move rfl) ?_ | refine gp (p_assign rfl) ?_ | (refine gGB ?_; first | refine gp (p_lss rfl rfl) ?_ | refine gp (p_add rfl rfl (by exact wr (by omega) (by omega))) ?_) | refine gp (p_indexo HM rfl (by first | with_reducible rfl | omega) rfl (by omega) (by omega)) ?_ | refine gp (p_len rfl) ?_) | (refine gL ?_; first | refine s_gp rfl rfl ?_ | (refine gStore ?_; (refine s_storeo HM rfl rfl rfl (by omega) (by omega) rfl ?_; intro W1 HM1; clear HM; have HM := HM1; clear HM1; (try dsimp only at HM))) | refine l_nil ?_) | (refine gC ?_; first | refine c_seq ?_ | refine c_region ?_ | refine c_block ?_ | refine c_skip ?_ | refine c_yes rfl (by (simp; omega)) ?_) | (refine gN ?_; first | refine n_then ?_ | refine n_block ?_))
    refine n_round (i + 1) (by repeat (first | exact trivial | refine And.intro (by first | rfl | exact look_int rfl (by omega)) ?_)) ⟨by omega, _, by rw [List.length_set]; exact hl, fun j hj => ?_, HM⟩ (by omega)
    by_cases e : j = i
    · subst e
      exact rd_set (d := tInt) (xs := ys) (i := (j : Int)) (by omega) (by omega) _
    · rw [Int.toNat_natCast, rd_set_ne (fun h => e h.symm)]
      exact hy j (by omega)
  · repeat (first | (refine gGP ?_; first | refine gp (p_move rfl) ?_ | refine gp (p_assign rfl) ?_ | (refine gGB ?_; refine gp (p_lss rfl rfl) ?_) | refine gp (p_len rfl) ?_) | (refine gL ?_; first | refine s_gp rfl rfl ?_ | refine l_nil ?_) | (refine gC ?_; first | refine c_seq ?_ | refine c_region ?_ | refine c_exit ?_ | refine c_ret ?_ | refine c_no rfl (by (simp; omega)) ?_) | (refine gN ?_; first | refine n_then ?_ | refine x_then ?_ | refine x_here ?_))
    obtain rfl : i = xs.length := by omega
    exact ret_tmp rfl rfl ⟨ys, rfl, hl, fun j hj => hy j (by omega), HM⟩
theorem mkSlotS {xs : List Slot} (k : Int) (h0 : 0 < k) (h1 : k ≤ 1125899906842624) (hn : xs.length ≤ 1048576) (HM : Mem w0 W (own tSlot 105 A c xs :: L)) :
    Calls Tryz.prog 56 #[.slice A xs.length c, .int .i64 k] W fun e W' => ∃ ys, e = .returned (.int .i64 (k + 2 * xs.length)) ∧ ys.length = xs.length ∧ SlotsAt k ys ∧ Mem w0 W' (own tSlot 105 A c ys :: L) := by
  refine enter Tryz.func56 rfl Tryz.ntmps56 [(0, _), (1, _)] rfl ⟨rfl, rfl, trivial⟩ ?_
  repeat (first | (refine gGP ?_; refine gp (p_assign rfl) ?_) | (refine gL ?_; first | refine s_gp rfl rfl ?_ | refine l_nil ?_) | (refine gC ?_; first | refine c_seq ?_ | refine c_region ?_ | refine c_block ?_) | (refine gN ?_; refine n_then ?_))
  refine c_loop (σ := Nat) (fun i => [(0, .slice A xs.length c), (1, .int .i64 (k + 2 * i)), (5, .int .i64 i)]) (fun i W1 => i ≤ xs.length ∧ ∃ ys, ys.length = xs.length ∧ (∀ j : Nat, j < i → rd tSlot ys j = ⟨k + 2 * j, mt (k + 2 * j + 1).toNat⟩) ∧ Mem w0 W1 (own tSlot 105 A c ys :: L)) (fun i => xs.length - i) 0 (by repeat (first | exact trivial | refine And.intro (by first | rfl | exact look_int rfl (by omega)) ?_)) ⟨Nat.zero_le _, xs, rfl, fun j hj => by omega, HM⟩ ?_
  clear HM
  rintro i W1 ⟨hi, ys, hl, hy, HM⟩
  by_cases hlt : i < xs.length
  · repeat (first | (refine gGP ?_; first | refine gp (p_move rfl) ?_ | refine gp (p_assign rfl) ?_ | (refine gGB ?_; first | refine gp (p_lss rfl rfl) ?_ | refine gp (p_add rfl rfl (by exact wr (by omega) (by omega))) ?_) | refine gp (p_fieldo rfl (by simp only [Nat.reduceAdd]; rfl)) ?_ | refine gp (p_indexo HM rfl (by first | with_reducible rfl | (simp only [List.length_set, List.length_append, List.length_cons, List.length_nil]; omega) | omega) rfl (by omega) (by first | (simp only [List.length_set, List.length_append, List.length_cons, List.length_nil]; omega) | omega)) ?_ | refine gp (p_len rfl) ?_) | (refine gL ?_; first | refine s_gp rfl rfl ?_ | (refine gStore ?_; first | (refine s_storeo2 HM rfl rfl rfl rfl (by omega) (by omega) rfl ?_; intro W1 HM1; clear HM; have HM := HM1; clear HM1; (try dsimp only at HM)) | (refine s_storeo HM rfl rfl rfl (by omega) (by omega) rfl ?_; intro W1 HM1; clear HM; have HM := HM1; clear HM1; (try dsimp only at HM))) | (refine gCall ?_; (refine s_fn rfl rfl ?_; (go_at_call 58; refine (markText_i _ (by omega) (by omega) HM).mono ?_; rintro e W1 ⟨rfl, HM1⟩; refine ⟨_, rfl, ?_⟩; clear HM; have HM := HM1; clear HM1))) | refine l_nil ?_) | (refine gC ?_; first | refine c_seq ?_ | refine c_region ?_ | refine c_block ?_ | refine c_skip ?_ | refine c_yes rfl (by (simp; omega)) ?_) | (refine gN ?_; first | refine n_then ?_ | refine n_block ?_))
    refine n_round (i + 1) (by repeat (first | exact trivial | refine And.intro (by first | rfl | exact look_int rfl (by omega)) ?_)) ⟨by omega, _, by rw [List.length_set]; exact hl, fun j hj => ?_, HM⟩ (by omega)
    by_cases e : j = i
    · subst e
      exact rd_set (d := tSlot) (xs := ys) (i := (j : Int)) (by omega) (by omega) _
    · rw [Int.toNat_natCast, rd_set_ne (fun h => e h.symm)]
      exact hy j (by omega)
  · repeat (first | (refine gGP ?_; first | refine gp (p_move rfl) ?_ | refine gp (p_assign rfl) ?_ | (refine gGB ?_; refine gp (p_lss rfl rfl) ?_) | refine gp (p_len rfl) ?_) | (refine gL ?_; first | refine s_gp rfl rfl ?_ | refine l_nil ?_) | (refine gC ?_; first | refine c_seq ?_ | refine c_region ?_ | refine c_exit ?_ | refine c_ret ?_ | refine c_no rfl (by (simp; omega)) ?_) | (refine gN ?_; first | refine n_then ?_ | refine x_then ?_ | refine x_here ?_))
    obtain rfl : i = xs.length := by omega
    exact ret_tmp rfl rfl ⟨ys, rfl, hl, fun j hj => hy j (by omega), HM⟩
theorem hdIntS {xs : List Int} {n : Nat} (hnx : xs.length = n) (k : Int) (h0 : 0 < k) (h1 : k ≤ 1125899906842624) (hn : n ≤ 1048576) (hy : IntsAt k xs) (HM : Mem w0 W (own tInt 3 A c xs :: L)) :
    Calls Tryz.prog 61 #[.slice A n c, .int .i64 k] W fun e W' => e = .returned (.int .i64 (k + n)) ∧ Mem w0 W' (own tInt 3 A c xs :: L) := by
  subst hnx
  refine enter Tryz.func61 rfl Tryz.ntmps61 [(0, _), (1, _)] rfl ⟨rfl, rfl, trivial⟩ ?_
  repeat (first | (refine gGP ?_; refine gp (p_assign rfl) ?_) | (refine gL ?_; first | refine s_gp rfl rfl ?_ | refine l_nil ?_) | (refine gC ?_; first | refine c_seq ?_ | refine c_region ?_ | refine c_block ?_) | (refine gN ?_; refine n_then ?_))
  refine c_loop (σ := Nat) (fun i => [(0, .slice A xs.length c), (1, .int .i64 (k + i)), (5, .int .i64 i)]) (fun i W1 => i ≤ xs.length ∧ Mem w0 W1 (own tInt 3 A c xs :: L)) (fun i => xs.length - i) 0 (by repeat (first | exact trivial | refine And.intro (by first | rfl | exact look_int rfl (by omega)) ?_)) ⟨Nat.zero_le _, HM⟩ ?_
  clear HM
  rintro i W1 ⟨hi, HM⟩
  by_cases hlt : i < xs.length
  · have e := hy i hlt
    repeat (first | (refine gGP ?_; first | refine gp (p_move rfl) ?_ | refine gp (p_assign rfl) ?_ | (refine gGB ?_; first | refine gp (p_lss rfl rfl) ?_ | refine gp (p_neq rfl rfl) ?_ | refine gp (p_add rfl rfl (by exact wr (by omega) (by omega))) ?_) | refine gp (p_indexo HM rfl (by first | with_reducible rfl | omega) rfl (by omega) (by omega)) ?_ | refine gp (p_len rfl) ?_) | (refine gGV ?_; refine gv (p_loado rfl rfl (by omega) (by omega) rfl) ?_) | (refine gL ?_; first | refine s_gp rfl rfl ?_ | refine s_gv HM rfl ?_ | refine l_nil ?_) | (refine gC ?_; first | refine c_seq ?_ | refine c_region ?_ | refine c_block ?_ | refine c_skip ?_ | refine c_yes rfl (by (simp; omega)) ?_ | refine c_no rfl (by (simp; omega)) ?_) | (refine gN ?_; first | refine n_then ?_ | refine n_block ?_))
    exact n_round (i + 1) (by repeat (first | exact trivial | refine And.intro (by first | rfl | exact look_int rfl (by omega)) ?_)) ⟨by omega, HM⟩ (by omega)
  · repeat (first | (refine gGP ?_; first | refine gp (p_move rfl) ?_ | refine gp (p_assign rfl) ?_ | (refine gGB ?_; refine gp (p_lss rfl rfl) ?_) | refine gp (p_len rfl) ?_) | (refine gL ?_; first | refine s_gp rfl rfl ?_ | refine l_nil ?_) | (refine gC ?_; first | refine c_seq ?_ | refine c_region ?_ | refine c_exit ?_ | refine c_ret ?_ | refine c_no rfl (by (simp; omega)) ?_) | (refine gN ?_; first | refine n_then ?_ | refine x_then ?_ | refine x_here ?_))
    obtain rfl : i = xs.length := by omega
    exact ret_tmp rfl rfl ⟨rfl, HM⟩
theorem hdStrS {xs : List ByteArray} {n : Nat} (hnx : xs.length = n) (k : Int) (h0 : 0 < k) (h1 : k ≤ 1125899906842624) (hn : n ≤ 1048576) (hy : StrsAt k xs) (HM : Mem w0 W (own tStr 9 A c xs :: L)) :
    Calls Tryz.prog 60 #[.slice A n c, .int .i64 k] W fun e W' => e = .returned (.int .i64 (k + n)) ∧ Mem w0 W' (own tStr 9 A c xs :: L) := by
  subst hnx
  refine enter Tryz.func60 rfl Tryz.ntmps60 [(0, _), (1, _)] rfl ⟨rfl, rfl, trivial⟩ ?_
  repeat (first | (refine gGP ?_; refine gp (p_assign rfl) ?_) | (refine gL ?_; first | refine s_gp rfl rfl ?_ | refine l_nil ?_) | (refine gC ?_; first | refine c_seq ?_ | refine c_region ?_ | refine c_block ?_) | (refine gN ?_; refine n_then ?_))
  refine c_loop (σ := Nat) (fun i => [(0, .slice A xs.length c), (1, .int .i64 (k + i)), (5, .int .i64 i)]) (fun i W1 => i ≤ xs.length ∧ Mem w0 W1 (own tStr 9 A c xs :: L)) (fun i => xs.length - i) 0 (by repeat (first | exact trivial | refine And.intro (by first | rfl | exact look_int rfl (by omega)) ?_)) ⟨Nat.zero_le _, HM⟩ ?_
  clear HM
  rintro i W1 ⟨hi, HM⟩
  by_cases hlt : i < xs.length
  · have e := hy i hlt
    repeat (first | (refine gR ?_; refine d_start [] [(0, 0), (0, 1), (0, 2), (0, 4), (1, 3), (2, 5), (0, 6)] HM (by kernel_rfl) (by kernel_rfl) (by repeat (first | exact qp_body | refine qp_then ?_ | refine qp_block ?_)) (by kernel_rfl) rfl ?_; intro HQ HS W1 HM1; clear HM; have HM := HM1; clear HM1) | (refine gGP ?_; first | refine gp (p_move rfl) ?_ | refine gp (p_assign rfl) ?_ | (refine gGB ?_; first | refine gp (p_lss rfl rfl) ?_ | refine gp (p_sneq rfl rfl) ?_ | refine gp (p_add rfl rfl (by exact wr (by omega) (by omega))) ?_) | refine gp (p_indexo HM rfl (by first | with_reducible rfl | omega) rfl (by omega) (by omega)) ?_ | refine gp (p_len rfl) ?_) | (refine gGV ?_; refine gv (p_loado rfl rfl (by omega) (by omega) rfl) ?_) | (refine gL ?_; first | refine s_gp rfl rfl ?_ | (refine gCall ?_; (refine s_fn rfl rfl ?_; (go_at_call 58; refine (markText_i _ (by omega) (by omega) HM).mono ?_; rintro e W1 ⟨rfl, HM1⟩; refine ⟨_, rfl, ?_⟩; clear HM; have HM := HM1; clear HM1))) | refine l_nil ?_) | (refine gC ?_; first | refine c_seq ?_ | refine c_region ?_ | refine c_block ?_ | refine c_skip ?_ | refine c_yes rfl (by (simp; omega)) ?_ | refine c_no rfl (by (simp; omega)) ?_) | (refine gN ?_; first | refine n_then ?_ | refine n_block ?_ | refine d_back (by exact HM) ?_) | (refine gD ?_; first | refine d_next rfl ?_ | refine d_done ?_) | (refine gO ?_; first | refine d_gp HQ HS rfl ?_ | refine d_gv HQ HS rfl ?_ | refine d_one ?_))
    exact n_round (i + 1) (by repeat (first | exact trivial | refine And.intro (by first | rfl | exact look_int rfl (by omega)) ?_)) ⟨by omega, HM⟩ (by omega)
  · repeat (first | (refine gGP ?_; first | refine gp (p_move rfl) ?_ | refine gp (p_assign rfl) ?_ | (refine gGB ?_; refine gp (p_lss rfl rfl) ?_) | refine gp (p_len rfl) ?_) | (refine gL ?_; first | refine s_gp rfl rfl ?_ | refine l_nil ?_) | (refine gC ?_; first | refine c_seq ?_ | refine c_region ?_ | refine c_exit ?_ | refine c_ret ?_ | refine c_no rfl (by (simp; omega)) ?_) | (refine gN ?_; first | refine n_then ?_ | refine x_then ?_ | refine x_here ?_))
    obtain rfl : i = xs.length := by omega
    exact ret_tmp rfl rfl ⟨rfl, HM⟩
theorem hdSlotS {xs : List Slot} {n : Nat} (hnx : xs.length = n) (k : Int) (h0 : 0 < k) (h1 : k ≤ 1125899906842624) (hn : n ≤ 1048576) (hy : SlotsAt k xs) (HM : Mem w0 W (own tSlot 105 A c xs :: L)) :
    Calls Tryz.prog 62 #[.slice A n c, .int .i64 k] W fun e W' => e = .returned (.int .i64 (k + 2 * n)) ∧ Mem w0 W' (own tSlot 105 A c xs :: L) := by
  subst hnx
  refine enter Tryz.func62 rfl Tryz.ntmps62 [(0, _), (1, _)] rfl ⟨rfl, rfl, trivial⟩ ?_
  repeat (first | (refine gGP ?_; refine gp (p_assign rfl) ?_) | (refine gL ?_; first | refine s_gp rfl rfl ?_ | refine l_nil ?_) | (refine gC ?_; first | refine c_seq ?_ | refine c_region ?_ | refine c_block ?_) | (refine gN ?_; refine n_then ?_))
  refine c_loop (σ := Nat) (fun i => [(0, .slice A xs.length c), (1, .int .i64 (k + 2 * i)), (5, .int .i64 i)]) (fun i W1 => i ≤ xs.length ∧ Mem w0 W1 (own tSlot 105 A c xs :: L)) (fun i => xs.length - i) 0 (by repeat (first | exact trivial | refine And.intro (by first | rfl | exact look_int rfl (by omega)) ?_)) ⟨Nat.zero_le _, HM⟩ ?_
  clear HM
  rintro i W1 ⟨hi, HM⟩
  by_cases hlt : i < xs.length
  · have e := hy i hlt
    have e1 : (rd tSlot xs i).ballot = k + 2 * i := by rw [e]
    have e2 : (rd tSlot xs i).text = mt (k + 2 * i + 1).toNat := by rw [e]
    repeat (first | (refine gR ?_; refine d_start [] [(0, 0), (0, 1), (0, 2), (0, 3), (0, 5), (1, 4), (2, 6), (0, 7)] HM (by kernel_rfl) (by kernel_rfl) (by repeat (first | exact qp_body | refine qp_then ?_ | refine qp_block ?_)) (by kernel_rfl) rfl ?_; intro HQ HS W1 HM1; clear HM; have HM := HM1; clear HM1) | (refine gGP ?_; first | refine gp (p_move rfl) ?_ | refine gp (p_assign rfl) ?_ | (refine gGB ?_; first | refine gp (p_lss rfl rfl) ?_ | refine gp (p_neq rfl rfl) ?_ | refine gp (p_sneq rfl rfl) ?_ | refine gp (p_add rfl rfl (by exact wr (by omega) (by omega))) ?_) | refine gp (p_fieldo rfl (by simp only [Nat.reduceAdd]; rfl)) ?_ | refine gp (p_indexo HM rfl (by first | with_reducible rfl | omega) rfl (by omega) (by omega)) ?_ | refine gp (p_len rfl) ?_) | (refine gGV ?_; refine gv (p_loado rfl rfl (by omega) (by omega) rfl) ?_) | (refine gL ?_; first | refine s_gp rfl rfl ?_ | refine s_gv HM rfl ?_ | (refine gCall ?_; (refine s_fn rfl rfl ?_; (go_at_call 58; refine (markText_i _ (by omega) (by omega) HM).mono ?_; rintro e W1 ⟨rfl, HM1⟩; refine ⟨_, rfl, ?_⟩; clear HM; have HM := HM1; clear HM1))) | refine l_nil ?_) | (refine gC ?_; first | refine c_seq ?_ | refine c_region ?_ | refine c_block ?_ | refine c_skip ?_ | refine c_yes rfl (by (simp; omega)) ?_ | refine c_no rfl (by (simp; omega)) ?_) | (refine gN ?_; first | refine n_then ?_ | refine n_block ?_ | refine d_back (by exact HM) ?_) | (refine gD ?_; first | refine d_next rfl ?_ | refine d_done ?_) | (refine gO ?_; first | refine d_gp HQ HS rfl ?_ | refine d_gv HQ HS rfl ?_ | refine d_one ?_))
    exact n_round (i + 1) (by repeat (first | exact trivial | refine And.intro (by first | rfl | exact look_int rfl (by omega)) ?_)) ⟨by omega, HM⟩ (by omega)
  · repeat (first | (refine gGP ?_; first | refine gp (p_move rfl) ?_ | refine gp (p_assign rfl) ?_ | (refine gGB ?_; refine gp (p_lss rfl rfl) ?_) | refine gp (p_len rfl) ?_) | (refine gL ?_; first | refine s_gp rfl rfl ?_ | refine l_nil ?_) | (refine gC ?_; first | refine c_seq ?_ | refine c_region ?_ | refine c_exit ?_ | refine c_ret ?_ | refine c_no rfl (by (simp; omega)) ?_) | (refine gN ?_; first | refine n_then ?_ | refine x_then ?_ | refine x_here ?_))
    obtain rfl : i = xs.length := by omega
    exact ret_tmp rfl rfl ⟨rfl, HM⟩
theorem mkMsgS {xs : List Msg} (k : Int) (h0 : 0 < k) (h1 : k ≤ 35184372088832) (hn : xs.length ≤ 1048576) (hm : ∀ x ∈ xs, x.slots.length ≤ 1048576) (HM : Mem w0 W (own (tMsg 105) 52 A c xs :: L)) :
    Calls Tryz.prog 12 #[.slice A xs.length c, .int .i64 k] W fun e W' => ∃ ys, e = .returned (.int .i64 (k + 7 * xs.length + 2 * su (lsM xs) xs.length)) ∧ MsgsAt k (lsM xs) ys ∧ Mem w0 W' (own (tMsg 105) 52 A c ys :: L) := by
  refine enter Tryz.func12 rfl Tryz.ntmps12 [(0, _), (1, _)] rfl ⟨rfl, rfl, trivial⟩ ?_
  have hz0 := su_zero (lsM xs)
  have hls : (lsM xs).length = xs.length := by simp [lsM]
  have hsu := su_le (ls := lsM xs) (B := 1048576) (by simpa [lsM] using hm)
  repeat (first | (refine gGP ?_; refine gp (p_assign rfl) ?_) | (refine gL ?_; first | refine s_gp rfl rfl ?_ | refine l_nil ?_) | (refine gC ?_; first | refine c_seq ?_ | refine c_region ?_ | refine c_block ?_) | (refine gN ?_; refine n_then ?_))
  refine c_loop (σ := Nat) (fun i => [(0, .slice A xs.length c), (1, .int .i64 (k + 7 * i + 2 * su (lsM xs) i)), (5, .int .i64 i)]) (fun i W1 => i ≤ xs.length ∧ ∃ ys : List Msg, ys.length = xs.length ∧ (∀ j (h : j < ys.length) (h2 : j < (lsM xs).length), j < i → MsgAt (k + 7 * j + 2 * su (lsM xs) j) (lsM xs)[j] ys[j]) ∧ (∀ j (h : j < ys.length) (h2 : j < xs.length), i ≤ j → ys[j] = xs[j]) ∧ Mem w0 W1 (own (tMsg 105) 52 A c ys :: L)) (fun i => xs.length - i) 0 (by repeat (first | exact trivial | refine And.intro (by first | rfl | exact look_int rfl (by omega)) ?_)) ⟨Nat.zero_le _, xs, rfl, fun j _ _ hj => by omega, fun j h h2 hj => rfl, HM⟩ ?_
  clear HM
  rintro i W1 ⟨hi, ys, hl, hy, hz, HM⟩
  by_cases hlt : i < xs.length
  · have hlt2 : i < ys.length := by omega
    have hx := hz i hlt2 hlt (Nat.le_refl _)
    have hsl := hm xs[i] (List.getElem_mem hlt)
    have hsi := hsu i
    have hss := su_succ (ls := lsM xs) (j := i) (by omega)
    have hli : (lsM xs)[i]'(by omega) = xs[i].slots.length := by simp [lsM]
    rw [hli] at hss
    obtain ⟨j, HM⟩ := opn_nest HM i hlt2
    rw [hx] at HM
    replace HM : Mem w0 W1 (hol (tMsg 105) 52 A c ys i (encMsg xs[i] j) :: own tSlot 105 j.1 j.2 xs[i].slots :: L) := HM
    unfold encMsg at HM
    generalize hp : k + 7 * (i : Int) + 2 * (su (lsM xs) i : Int) = p at *
    have hp0 : 0 < p := by omega
    have hp1 : p ≤ 1125899906842000 := by omega
    repeat (first | (refine gGP ?_; first | refine gp (p_move rfl) ?_ | refine gp (p_assign rfl) ?_ | (refine gGB ?_; first | refine gp (p_lss rfl rfl) ?_ | refine gp (p_add rfl rfl (by exact wr (by omega) (by omega))) ?_) | refine gp (p_fieldo rfl (by simp only [Nat.reduceAdd]; rfl)) ?_ | refine gp (p_indexh HM rfl (by first | with_reducible rfl | omega) rfl (by omega) (by omega)) ?_ | refine gp (p_len rfl) ?_) | (refine gGV ?_; refine gv (p_loadh rfl rfl rfl) ?_) | (refine gL ?_; first | refine s_gp rfl rfl ?_ | refine s_gv HM rfl ?_ | (refine gStore ?_; (refine s_storeh HM rfl rfl rfl rfl rfl rfl ?_; intro W1 HM1; clear HM; have HM := HM1; clear HM1; (try dsimp only at HM))) | (refine gCall ?_; (refine s_fn rfl rfl ?_; first | (go_at_call 58; refine (markText_i _ (by omega) (by omega) HM).mono ?_; rintro e W1 ⟨rfl, HM1⟩; refine ⟨_, rfl, ?_⟩; clear HM; have HM := HM1; clear HM1) | (go_at_call 56; refine (mkSlotS _ (by omega) (by omega) hsl HM.pk).mono ?_; rintro e W1 ⟨zs, rfl, hzl, hzs, HM1⟩; refine ⟨_, rfl, ?_⟩; clear HM; have HM := HM1; clear HM1))) | refine l_nil ?_) | (refine gC ?_; first | refine c_seq ?_ | refine c_region ?_ | refine c_block ?_ | refine c_skip ?_ | refine c_yes rfl (by (simp; omega)) ?_) | (refine gN ?_; first | refine n_then ?_ | refine n_block ?_))
    rw [← hzl] at HM
    have HM2 := cls_nest (x := (⟨_, _, _, _, _, _, _, zs⟩ : Msg)) (j := j) (HM.perm (List.Perm.swap ..))
    refine n_round (i + 1) (by repeat (first | exact trivial | refine And.intro (by first | rfl | exact look_int rfl (by omega)) ?_)) ⟨by omega, _, by rw [List.length_set]; exact hl, fun q hq hq2 hqi => ?_, fun q hq hq2 hqi => ?_, HM2⟩ (by omega)
    · by_cases e : q = i
      · subst e
        rw [List.getElem_set_self, hp]
        exact ⟨rfl, rfl, rfl, rfl, rfl, rfl, rfl, by rw [hli]; exact hzl, hzs⟩
      · rw [List.getElem_set_ne (fun h => e h.symm)]
        exact hy q (by simpa using hq) hq2 (by omega)
    · rw [List.getElem_set_ne (by omega)]
      exact hz q (by simpa using hq) hq2 (by omega)
  · repeat (first | (refine gGP ?_; first | refine gp (p_move rfl) ?_ | refine gp (p_assign rfl) ?_ | (refine gGB ?_; refine gp (p_lss rfl rfl) ?_) | refine gp (p_len rfl) ?_) | (refine gL ?_; first | refine s_gp rfl rfl ?_ | refine l_nil ?_) | (refine gC ?_; first | refine c_seq ?_ | refine c_region ?_ | refine c_exit ?_ | refine c_ret ?_ | refine c_no rfl (by (simp; omega)) ?_) | (refine gN ?_; first | refine n_then ?_ | refine x_then ?_ | refine x_here ?_))
    obtain rfl : i = xs.length := by omega
    exact ret_tmp rfl rfl ⟨ys, rfl, ⟨by omega, fun j h h2 => hy j h h2 (by omega)⟩, HM⟩
theorem hdMsgS {xs : List Msg} {n : Nat} {ls : List Nat} (hnl : ls.length = n) (hms : ∀ l ∈ ls, l ≤ 1048576) (k : Int) (h0 : 0 < k) (h1 : k ≤ 35184372088832) (hn : n ≤ 1048576) (hy : MsgsAt k ls xs) (HM : Mem w0 W (own (tMsg 105) 52 A c xs :: L)) :
    Calls Tryz.prog 14 #[.slice A n c, .int .i64 k] W fun e W' => e = .returned (.int .i64 (k + 7 * n + 2 * su ls n)) ∧ Mem w0 W' (own (tMsg 105) 52 A c xs :: L) := by
  obtain ⟨hl, hy⟩ := hy
  obtain rfl : xs.length = n := by omega
  refine enter Tryz.func14 rfl Tryz.ntmps14 [(0, _), (1, _)] rfl ⟨rfl, rfl, trivial⟩ ?_
  have hsu := su_le hms
  have hz0 := su_zero ls
  repeat (first | (refine gGP ?_; refine gp (p_assign rfl) ?_) | (refine gL ?_; first | refine s_gp rfl rfl ?_ | refine l_nil ?_) | (refine gC ?_; first | refine c_seq ?_ | refine c_region ?_ | refine c_block ?_) | (refine gN ?_; refine n_then ?_))
  refine c_loop (σ := Nat) (fun i => [(0, .slice A xs.length c), (1, .int .i64 (k + 7 * i + 2 * su ls i)), (5, .int .i64 i)]) (fun i W1 => i ≤ xs.length ∧ Mem w0 W1 (own (tMsg 105) 52 A c xs :: L)) (fun i => xs.length - i) 0 (by repeat (first | exact trivial | refine And.intro (by first | rfl | exact look_int rfl (by omega)) ?_)) ⟨Nat.zero_le _, HM⟩ ?_
  clear HM
  rintro i W1 ⟨hi, HM⟩
  by_cases hlt : i < xs.length
  · have hx := hy i hlt (by omega)
    have hsl := hms _ (List.getElem_mem (show i < ls.length by omega))
    have hsi := hsu i
    have hss := su_succ (ls := ls) (j := i) (by omega)
    obtain ⟨j, HM⟩ := opn_nest HM i hlt
    replace HM : Mem w0 W1 (hol (tMsg 105) 52 A c xs i (encMsg xs[i] j) :: own tSlot 105 j.1 j.2 xs[i].slots :: L) := HM
    generalize hp : k + 7 * (i : Int) + 2 * (su ls i : Int) = p at *
    have hp0 : 0 < p := by omega
    have hp1 : p ≤ 1125899906842000 := by omega
    obtain ⟨e0, e1, e2, e3, e4, e5, e6, e7, e8⟩ := hx
    have e7' := e7
    have hen : encMsg xs[i] j = [.int .i64 p, .int .i64 (p + 1), .int .i64 (p + 1 + 1), .int .i64 (p + 1 + 1 + 1), .int .i64 (p + 1 + 1 + 1 + 1), .int .i64 (p + 1 + 1 + 1 + 1 + 1), .string (mt (p + 1 + 1 + 1 + 1 + 1 + 1).toNat), .slice j.1 (ls[i]'(by omega)) j.2] := by simp only [encMsg, e0, e1, e2, e3, e4, e5, e6, e7]
    rw [hen] at HM
    repeat (first | (refine gR ?_; refine d_start [] [(0, 0), (0, 1), (0, 2), (0, 3), (0, 5), (1, 4), (2, 6), (0, 7)] HM (by kernel_rfl) (by kernel_rfl) (by repeat (first | exact qp_body | refine qp_then ?_ | refine qp_block ?_)) (by kernel_rfl) rfl ?_; intro HQ HS W1 HM1; clear HM; have HM := HM1; clear HM1) | (refine gGP ?_; first | refine gp (p_move rfl) ?_ | refine gp (p_assign rfl) ?_ | (refine gGB ?_; first | refine gp (p_lss rfl rfl) ?_ | refine gp (p_neq rfl rfl) ?_ | refine gp (p_sneq rfl rfl) ?_ | refine gp (p_add rfl rfl (by exact wr (by omega) (by omega))) ?_) | refine gp (p_fieldo rfl (by simp only [Nat.reduceAdd]; rfl)) ?_ | refine gp (p_indexh HM rfl (by first | with_reducible rfl | omega) rfl (by omega) (by omega)) ?_ | refine gp (p_len rfl) ?_) | (refine gGV ?_; refine gv (p_loadh rfl rfl rfl) ?_) | (refine gL ?_; first | refine s_gp rfl rfl ?_ | refine s_gv HM rfl ?_ | (refine gCall ?_; (refine s_fn rfl rfl ?_; first | (go_at_call 58; refine (markText_i _ (by omega) (by omega) HM).mono ?_; rintro e W1 ⟨rfl, HM1⟩; refine ⟨_, rfl, ?_⟩; clear HM; have HM := HM1; clear HM1) | (go_at_call 62; refine (hdSlotS e7' _ (by omega) (by omega) hsl e8 HM.pk).mono ?_; rintro e W1 ⟨rfl, HM1⟩; refine ⟨_, rfl, ?_⟩; clear HM; have HM := HM1; clear HM1))) | refine l_nil ?_) | (refine gC ?_; first | refine c_seq ?_ | refine c_region ?_ | refine c_block ?_ | refine c_skip ?_ | refine c_yes rfl (by (simp; omega)) ?_ | refine c_no rfl (by first | (simp; done) | (simp; omega)) ?_) | (refine gN ?_; first | refine n_then ?_ | refine n_block ?_ | refine d_back (by exact HM) ?_) | (refine gD ?_; first | refine d_next rfl ?_ | refine d_done ?_) | (refine gO ?_; first | refine d_gp HQ HS rfl ?_ | refine d_gv HQ HS rfl ?_ | refine d_one ?_))
    rw [← hen] at HM
    have HM2 := cls_nest (x := xs[i]) (j := j) (HM.perm (List.Perm.swap ..))
    rw [List.set_getElem_self] at HM2
    exact n_round (i + 1) (by repeat (first | exact trivial | refine And.intro (by first | rfl | exact look_int rfl (by omega)) ?_)) ⟨by omega, HM2⟩ (by omega)
  · repeat (first | (refine gGP ?_; first | refine gp (p_move rfl) ?_ | refine gp (p_assign rfl) ?_ | (refine gGB ?_; refine gp (p_lss rfl rfl) ?_) | refine gp (p_len rfl) ?_) | (refine gL ?_; first | refine s_gp rfl rfl ?_ | refine l_nil ?_) | (refine gC ?_; first | refine c_seq ?_ | refine c_region ?_ | refine c_exit ?_ | refine c_ret ?_ | refine c_no rfl (by (simp; omega)) ?_) | (refine gN ?_; first | refine n_then ?_ | refine x_then ?_ | refine x_here ?_))
    obtain rfl : i = xs.length := by omega
    exact ret_tmp rfl rfl ⟨rfl, HM⟩
theorem mkAckS {xs : List Ack} (k : Int) (h0 : 0 < k) (h1 : k ≤ 35184372088832) (hn : xs.length ≤ 1048576) (hm : ∀ x ∈ xs, x.frm.length ≤ 1048576) (HM : Mem w0 W (own (tAck 3) 104 A c xs :: L)) :
    Calls Tryz.prog 57 #[.slice A xs.length c, .int .i64 k] W fun e W' => ∃ ys, e = .returned (.int .i64 (k + xs.length + su (lsA xs) xs.length)) ∧ AcksAt k (lsA xs) ys ∧ Mem w0 W' (own (tAck 3) 104 A c ys :: L) := by
  refine enter Tryz.func57 rfl Tryz.ntmps57 [(0, _), (1, _)] rfl ⟨rfl, rfl, trivial⟩ ?_
  have hz0 := su_zero (lsA xs)
  have hls : (lsA xs).length = xs.length := by simp [lsA]
  have hsu := su_le (ls := lsA xs) (B := 1048576) (by simpa [lsA] using hm)
  repeat (first | (refine gGP ?_; refine gp (p_assign rfl) ?_) | (refine gL ?_; first | refine s_gp rfl rfl ?_ | refine l_nil ?_) | (refine gC ?_; first | refine c_seq ?_ | refine c_region ?_ | refine c_block ?_) | (refine gN ?_; refine n_then ?_))
  refine c_loop (σ := Nat) (fun i => [(0, .slice A xs.length c), (1, .int .i64 (k + i + su (lsA xs) i)), (5, .int .i64 i)]) (fun i W1 => i ≤ xs.length ∧ ∃ ys : List Ack, ys.length = xs.length ∧ (∀ j (h : j < ys.length) (h2 : j < (lsA xs).length), j < i → AckAt (k + j + su (lsA xs) j) (lsA xs)[j] ys[j]) ∧ (∀ j (h : j < ys.length) (h2 : j < xs.length), i ≤ j → ys[j] = xs[j]) ∧ Mem w0 W1 (own (tAck 3) 104 A c ys :: L)) (fun i => xs.length - i) 0 (by repeat (first | exact trivial | refine And.intro (by first | rfl | exact look_int rfl (by omega)) ?_)) ⟨Nat.zero_le _, xs, rfl, fun j _ _ hj => by omega, fun j h h2 hj => rfl, HM⟩ ?_
  clear HM
  rintro i W1 ⟨hi, ys, hl, hy, hz, HM⟩
  by_cases hlt : i < xs.length
  · have hlt2 : i < ys.length := by omega
    have hx := hz i hlt2 hlt (Nat.le_refl _)
    have hsl := hm xs[i] (List.getElem_mem hlt)
    have hsi := hsu i
    have hss := su_succ (ls := lsA xs) (j := i) (by omega)
    have hli : (lsA xs)[i]'(by omega) = xs[i].frm.length := by simp [lsA]
    rw [hli] at hss
    obtain ⟨j, HM⟩ := opn_nest HM i hlt2
    rw [hx] at HM
    replace HM : Mem w0 W1 (hol (tAck 3) 104 A c ys i (encAck xs[i] j) :: own tInt 3 j.1 j.2 xs[i].frm :: L) := HM
    unfold encAck at HM
    generalize hp : k + (i : Int) + (su (lsA xs) i : Int) = p at *
    have hp0 : 0 < p := by omega
    have hp1 : p ≤ 1125899906842000 := by omega
    repeat (first | (refine gGP ?_; first | refine gp (p_move rfl) ?_ | refine gp (p_assign rfl) ?_ | (refine gGB ?_; first | refine gp (p_lss rfl rfl) ?_ | refine gp (p_add rfl rfl (by exact wr (by omega) (by omega))) ?_) | refine gp (p_fieldo rfl (by simp only [Nat.reduceAdd]; rfl)) ?_ | refine gp (p_indexh HM rfl (by first | with_reducible rfl | omega) rfl (by omega) (by omega)) ?_ | refine gp (p_len rfl) ?_) | (refine gGV ?_; refine gv (p_loadh rfl rfl rfl) ?_) | (refine gL ?_; first | refine s_gp rfl rfl ?_ | refine s_gv HM rfl ?_ | (refine gStore ?_; (refine s_storeh HM rfl rfl rfl rfl rfl rfl ?_; intro W1 HM1; clear HM; have HM := HM1; clear HM1; (try dsimp only at HM))) | (refine gCall ?_; (refine s_fn rfl rfl ?_; (go_at_call 55; refine (mkIntS _ (by omega) (by omega) hsl HM.pk).mono ?_; rintro e W1 ⟨zs, rfl, hzl, hzs, HM1⟩; refine ⟨_, rfl, ?_⟩; clear HM; have HM := HM1; clear HM1))) | refine l_nil ?_) | (refine gC ?_; first | refine c_seq ?_ | refine c_region ?_ | refine c_block ?_ | refine c_skip ?_ | refine c_yes rfl (by (simp; omega)) ?_) | (refine gN ?_; first | refine n_then ?_ | refine n_block ?_))
    rw [← hzl] at HM
    have HM2 := cls_nest (x := (⟨_, zs⟩ : Ack)) (j := j) (HM.perm (List.Perm.swap ..))
    refine n_round (i + 1) (by repeat (first | exact trivial | refine And.intro (by first | rfl | exact look_int rfl (by omega)) ?_)) ⟨by omega, _, by rw [List.length_set]; exact hl, fun q hq hq2 hqi => ?_, fun q hq hq2 hqi => ?_, HM2⟩ (by omega)
    · by_cases e : q = i
      · subst e
        rw [List.getElem_set_self, hp]
        exact ⟨rfl, by rw [hli]; exact hzl, hzs⟩
      · rw [List.getElem_set_ne (fun h => e h.symm)]
        exact hy q (by simpa using hq) hq2 (by omega)
    · rw [List.getElem_set_ne (by omega)]
      exact hz q (by simpa using hq) hq2 (by omega)
  · repeat (first | (refine gGP ?_; first | refine gp (p_move rfl) ?_ | refine gp (p_assign rfl) ?_ | (refine gGB ?_; refine gp (p_lss rfl rfl) ?_) | refine gp (p_len rfl) ?_) | (refine gL ?_; first | refine s_gp rfl rfl ?_ | refine l_nil ?_) | (refine gC ?_; first | refine c_seq ?_ | refine c_region ?_ | refine c_exit ?_ | refine c_ret ?_ | refine c_no rfl (by (simp; omega)) ?_) | (refine gN ?_; first | refine n_then ?_ | refine x_then ?_ | refine x_here ?_))
    obtain rfl : i = xs.length := by omega
    exact ret_tmp rfl rfl ⟨ys, rfl, ⟨by omega, fun j h h2 => hy j h h2 (by omega)⟩, HM⟩
theorem hdAckS {xs : List Ack} {n : Nat} {ls : List Nat} (hnl : ls.length = n) (hms : ∀ l ∈ ls, l ≤ 1048576) (k : Int) (h0 : 0 < k) (h1 : k ≤ 35184372088832) (hn : n ≤ 1048576) (hy : AcksAt k ls xs) (HM : Mem w0 W (own (tAck 3) 104 A c xs :: L)) :
    Calls Tryz.prog 63 #[.slice A n c, .int .i64 k] W fun e W' => e = .returned (.int .i64 (k + n + su ls n)) ∧ Mem w0 W' (own (tAck 3) 104 A c xs :: L) := by
  obtain ⟨hl, hy⟩ := hy
  obtain rfl : xs.length = n := by omega
  refine enter Tryz.func63 rfl Tryz.ntmps63 [(0, _), (1, _)] rfl ⟨rfl, rfl, trivial⟩ ?_
  have hsu := su_le hms
  have hz0 := su_zero ls
  repeat (first | (refine gGP ?_; refine gp (p_assign rfl) ?_) | (refine gL ?_; first | refine s_gp rfl rfl ?_ | refine l_nil ?_) | (refine gC ?_; first | refine c_seq ?_ | refine c_region ?_ | refine c_block ?_) | (refine gN ?_; refine n_then ?_))
  refine c_loop (σ := Nat) (fun i => [(0, .slice A xs.length c), (1, .int .i64 (k + i + su ls i)), (5, .int .i64 i)]) (fun i W1 => i ≤ xs.length ∧ Mem w0 W1 (own (tAck 3) 104 A c xs :: L)) (fun i => xs.length - i) 0 (by repeat (first | exact trivial | refine And.intro (by first | rfl | exact look_int rfl (by omega)) ?_)) ⟨Nat.zero_le _, HM⟩ ?_
  clear HM
  rintro i W1 ⟨hi, HM⟩
  by_cases hlt : i < xs.length
  · have hx := hy i hlt (by omega)
    have hsl := hms _ (List.getElem_mem (show i < ls.length by omega))
    have hsi := hsu i
    have hss := su_succ (ls := ls) (j := i) (by omega)
    obtain ⟨j, HM⟩ := opn_nest HM i hlt
    replace HM : Mem w0 W1 (hol (tAck 3) 104 A c xs i (encAck xs[i] j) :: own tInt 3 j.1 j.2 xs[i].frm :: L) := HM
    generalize hp : k + (i : Int) + (su ls i : Int) = p at *
    have hp0 : 0 < p := by omega
    have hp1 : p ≤ 1125899906842000 := by omega
    obtain ⟨e0, e7, e8⟩ := hx
    have e7' := e7
    have hen : encAck xs[i] j = [.int .i64 p, .slice j.1 (ls[i]'(by omega)) j.2] := by simp only [encAck, e0, e7]
    rw [hen] at HM
    repeat (first | (refine gGP ?_; first | refine gp (p_move rfl) ?_ | refine gp (p_assign rfl) ?_ | (refine gGB ?_; first | refine gp (p_lss rfl rfl) ?_ | refine gp (p_neq rfl rfl) ?_ | refine gp (p_add rfl rfl (by exact wr (by omega) (by omega))) ?_) | refine gp (p_fieldo rfl (by simp only [Nat.reduceAdd]; rfl)) ?_ | refine gp (p_indexh HM rfl (by first | with_reducible rfl | omega) rfl (by omega) (by omega)) ?_ | refine gp (p_len rfl) ?_) | (refine gGV ?_; refine gv (p_loadh rfl rfl rfl) ?_) | (refine gL ?_; first | refine s_gp rfl rfl ?_ | refine s_gv HM rfl ?_ | (refine gCall ?_; (refine s_fn rfl rfl ?_; (go_at_call 61; refine (hdIntS e7' _ (by omega) (by omega) hsl e8 HM.pk).mono ?_; rintro e W1 ⟨rfl, HM1⟩; refine ⟨_, rfl, ?_⟩; clear HM; have HM := HM1; clear HM1))) | refine l_nil ?_) | (refine gC ?_; first | refine c_seq ?_ | refine c_region ?_ | refine c_block ?_ | refine c_skip ?_ | refine c_yes rfl (by (simp; omega)) ?_ | refine c_no rfl (by first | (simp; done) | (simp; omega)) ?_) | (refine gN ?_; first | refine n_then ?_ | refine n_block ?_))
    rw [← hen] at HM
    have HM2 := cls_nest (x := xs[i]) (j := j) (HM.perm (List.Perm.swap ..))
    rw [List.set_getElem_self] at HM2
    exact n_round (i + 1) (by repeat (first | exact trivial | refine And.intro (by first | rfl | exact look_int rfl (by omega)) ?_)) ⟨by omega, HM2⟩ (by omega)
  · repeat (first | (refine gGP ?_; first | refine gp (p_move rfl) ?_ | refine gp (p_assign rfl) ?_ | (refine gGB ?_; refine gp (p_lss rfl rfl) ?_) | refine gp (p_len rfl) ?_) | (refine gL ?_; first | refine s_gp rfl rfl ?_ | refine l_nil ?_) | (refine gC ?_; first | refine c_seq ?_ | refine c_region ?_ | refine c_exit ?_ | refine c_ret ?_ | refine c_no rfl (by (simp; omega)) ?_) | (refine gN ?_; first | refine n_then ?_ | refine x_then ?_ | refine x_here ?_))
    obtain rfl : i = xs.length := by omega
    exact ret_tmp rfl rfl ⟨rfl, HM⟩
theorem mkDisk (p q : Int) {xs : List Slot} (k : Int) (h0 : 0 < k) (h1 : k ≤ 1125899906842624) (hn : xs.length ≤ 1048576) (HM : Mem w0 W (own tSlot 105 A c xs :: L)) :
    Calls Tryz.prog 53 #[.agg #[.int .i64 p, .int .i64 q, .slice A xs.length c], .int .i64 k] W fun e W' => ∃ ys, e = .returned (.int .i64 (k + 2 * xs.length)) ∧ ys.length = xs.length ∧ SlotsAt k ys ∧ Mem w0 W' (own tSlot 105 A c ys :: L) := by
  refine enter Tryz.func53 rfl Tryz.ntmps53 [(0, .agg #[.int .i64 p, .int .i64 q, .slice A xs.length c]), (1, _)] rfl ⟨rfl, rfl, trivial⟩ ?_
  repeat (first | (refine gGP ?_; first | refine gp (p_move rfl) ?_ | refine gp (p_assign rfl) ?_ | refine gp (p_field rfl (by simp only [Nat.reduceAdd]; rfl)) ?_) | (refine gGV ?_; refine gv (p_load rfl) ?_) | (refine gL ?_; first | refine s_gp rfl rfl ?_ | refine s_gv HM rfl ?_ | (refine gCall ?_; (refine s_fn rfl rfl ?_; (go_at_call 56; refine (mkSlotS k h0 h1 hn HM.pk).mono ?_; rintro e W1 ⟨zs, rfl, hz, hz2, HM1⟩; refine ⟨_, rfl, ?_⟩; clear HM; have HM := HM1; clear HM1))) | (refine s_box HM rfl rfl ?_; intro g W1 HM1; clear HM; have HM := HM1; clear HM1) | refine l_nil ?_) | (refine gC ?_; first | refine c_seq ?_ | refine c_region ?_ | refine c_ret ?_) | (refine gN ?_; refine n_then ?_))
  exact ret_tmp rfl rfl ⟨zs, rfl, hz, hz2, HM.sb⟩
theorem hdDisk (p q : Int) {xs : List Slot} {n : Nat} (hnx : xs.length = n) (k : Int) (h0 : 0 < k) (h1 : k ≤ 1125899906842624) (hn : n ≤ 1048576) (hy : SlotsAt k xs) (HM : Mem w0 W (own tSlot 105 A c xs :: L)) :
    Calls Tryz.prog 59 #[.agg #[.int .i64 p, .int .i64 q, .slice A n c], .int .i64 k] W fun e W' => e = .returned (.int .i64 (k + 2 * n)) ∧ Mem w0 W' (own tSlot 105 A c xs :: L) := by
  refine enter Tryz.func59 rfl Tryz.ntmps59 [(0, .agg #[.int .i64 p, .int .i64 q, .slice A n c]), (1, _)] rfl ⟨rfl, rfl, trivial⟩ ?_
  repeat (first | (refine gGP ?_; first | refine gp (p_move rfl) ?_ | refine gp (p_assign rfl) ?_ | (refine gGB ?_; refine gp (p_lss rfl rfl) ?_) | refine gp (p_field rfl (by simp only [Nat.reduceAdd]; rfl)) ?_) | (refine gGV ?_; refine gv (p_load rfl) ?_) | (refine gL ?_; first | refine s_gp rfl rfl ?_ | refine s_gv HM rfl ?_ | (refine gCall ?_; (refine s_fn rfl rfl ?_; (go_at_call 62; refine (hdSlotS hnx k h0 h1 hn hy HM.pk).mono ?_; rintro e W1 ⟨rfl, HM1⟩; refine ⟨_, rfl, ?_⟩; clear HM; have HM := HM1; clear HM1))) | (refine s_box HM rfl rfl ?_; intro g W1 HM1; clear HM; have HM := HM1; clear HM1) | refine l_nil ?_) | (refine gC ?_; first | refine c_seq ?_ | refine c_region ?_ | refine c_skip ?_ | refine c_ret ?_ | refine c_no rfl (by (simp; omega)) ?_) | (refine gN ?_; refine n_then ?_))
  have hlt : ¬ (k + 2 * (n : Int) < 0) := by omega
  skip
  exact ret_tmp rfl rfl ⟨rfl, HM.sb⟩
/-- A recorder's rows with marks from k on. -/
def pH (x : Rcd) (k : Int) : Int := k + 2 * x.ss.length + 2 * x.ds.length
def pW (x : Rcd) (k : Int) : Int := pH x k + 7 * x.held.length + 2 * su (lsM x.held) x.held.length
def pB (x : Rcd) (k : Int) : Int := pW x k + x.wishes.length + x.yes.length
def pA (x : Rcd) (k : Int) : Int := pB x k + 2 * x.best.length
def pE (x : Rcd) (k : Int) : Int := pA x k + x.acks.length + su (lsA x.acks) x.acks.length
structure RcdAt (x : Rcd) (k r : Int) (y : Rcd) : Prop where
  e : r = pE x k
  pos : 0 < r
  sc : ∀ i, encRcd y i = encRcd x i
  ss : y.ss.length = x.ss.length
  ds : y.ds.length = x.ds.length
  wi : y.wishes.length = x.wishes.length
  ye : y.yes.length = x.yes.length
  be : y.best.length = x.best.length
  ssAt : SlotsAt k y.ss
  dsAt : SlotsAt (k + 2 * x.ss.length) y.ds
  held : MsgsAt (pH x k) (lsM x.held) y.held
  wiAt : StrsAt (pW x k) y.wishes
  yeAt : IntsAt (pW x k + x.wishes.length) y.yes
  beAt : SlotsAt (pB x k) y.best
  acks : AcksAt (pA x k) (lsA x.acks) y.acks
theorem rcd_pos (x : Rcd) (k : Int) (hn : SmallR x) : su (lsM x.held) x.held.length ≤ 1048576 * x.held.length ∧ su (lsA x.acks) x.acks.length ≤ 1048576 * x.acks.length :=
  ⟨su_le (by simpa [lsM] using hn.helds) _, su_le (by simpa [lsA] using hn.ackss) _⟩
theorem mkRec (x : Rcd) (i : AtRcd) (k : Int) (h0 : 0 < k) (h1 : k ≤ 8796093022208) (hn : SmallR x) (HM : Mem w0 W (partRcd 105 52 9 3 104 x i ++ L)) :
    Calls Tryz.prog 11 #[.agg (encRcd x i).toArray, .int .i64 k] W fun e W' => ∃ r y, e = .returned (.int .i64 r) ∧ RcdAt x k r y ∧ Mem w0 W' (partRcd 105 52 9 3 104 y i ++ L) := by
  refine enter Tryz.func11 rfl Tryz.ntmps11 [(0, .agg (encRcd x i).toArray), (1, _)] rfl ⟨rfl, rfl, trivial⟩ ?_
  have s1 := hn.ss
  have s2 := hn.ds
  have s3 := hn.held
  have s4 := hn.wishes
  have s5 := hn.yes
  have s6 := hn.best
  have s7 := hn.acks
  obtain ⟨u1, u2⟩ := rcd_pos x k hn
  unfold encRcd
  simp only [partRcd, List.cons_append, List.nil_append] at HM
  repeat (first | (refine gGP ?_; first | refine gp (p_move rfl) ?_ | refine gp (p_assign rfl) ?_ | refine gp (p_field rfl (by simp only [Nat.reduceAdd]; rfl)) ?_) | (refine gGV ?_; first | refine gv (p_load rfl) ?_ | refine gv (p_loads rfl) ?_) | (refine gL ?_; first | refine s_gp rfl rfl ?_ | refine s_gv HM rfl ?_ | (refine gCall ?_; (refine s_fn rfl rfl ?_; first | (go_at_call 53; first | (refine (mkDisk _ _ _ (by omega) (by omega) (by with_reducible exact s1) HM.pk).mono ?_; rintro e W1 ⟨z1, rfl, hz1, hza1, HM1⟩; refine ⟨_, rfl, ?_⟩; clear HM; have HM := HM1; clear HM1) | (refine (mkDisk _ _ _ (by omega) (by omega) (by with_reducible exact s2) HM.pk).mono ?_; rintro e W1 ⟨z2, rfl, hz2, hza2, HM1⟩; refine ⟨_, rfl, ?_⟩; clear HM; have HM := HM1; clear HM1)) | (go_at_call 12; refine (mkMsgS _ (by omega) (by omega) s3 hn.helds HM.pk).mono ?_; rintro e W1 ⟨zh, rfl, hh, HM1⟩; refine ⟨_, rfl, ?_⟩; clear HM; have HM := HM1; clear HM1) | (go_at_call 54; refine (markStrS _ (by omega) (by omega) s4 HM.pk).mono ?_; rintro e W1 ⟨zw, rfl, hw, hwa, HM1⟩; refine ⟨_, rfl, ?_⟩; clear HM; have HM := HM1; clear HM1) | (go_at_call 55; refine (mkIntS _ (by omega) (by omega) s5 HM.pk).mono ?_; rintro e W1 ⟨zy, rfl, hy, hya, HM1⟩; refine ⟨_, rfl, ?_⟩; clear HM; have HM := HM1; clear HM1) | (go_at_call 56; refine (mkSlotS _ (by omega) (by omega) s6 HM.pk).mono ?_; rintro e W1 ⟨zb, rfl, hb, hba, HM1⟩; refine ⟨_, rfl, ?_⟩; clear HM; have HM := HM1; clear HM1) | (go_at_call 57; refine (mkAckS _ (by omega) (by omega) s7 hn.ackss HM.pk).mono ?_; rintro e W1 ⟨za, rfl, ha, HM1⟩; refine ⟨_, rfl, ?_⟩; clear HM; have HM := HM1; clear HM1))) | (refine s_box HM rfl rfl ?_; intro g W1 HM1; clear HM; have HM := HM1; clear HM1) | refine l_nil ?_) | (refine gC ?_; first | refine c_seq ?_ | refine c_region ?_ | refine c_ret ?_) | (refine gN ?_; refine n_then ?_))
  have lh : zh.length = x.held.length := by rw [hh.1]; simp [lsM]
  have la : za.length = x.acks.length := by rw [ha.1]; simp [lsA]
  exact ret_tmp rfl rfl ⟨_, { x with ss := z1, ds := z2, held := zh, wishes := zw, yes := zy, best := zb, acks := za }, rfl, ⟨rfl, by omega, fun i => by simp only [encRcd, hz1, hz2, hw, hy, hb, lh, la], hz1, hz2, hw, hy, hb, hza1, hza2, hh, fun j hj => hwa j (by simp only at hj; omega), hya, hba, ha⟩, by simp only [partRcd, List.cons_append, List.nil_append]; exact HM.sb⟩
theorem hdRec (x : Rcd) (i : AtRcd) {y : Rcd} {r : Int} (k : Int) (h0 : 0 < k) (h1 : k ≤ 8796093022208) (hn : SmallR x) (hy : RcdAt x k r y) (HM : Mem w0 W (partRcd 105 52 9 3 104 y i ++ L)) :
    Calls Tryz.prog 13 #[.agg (encRcd x i).toArray, .int .i64 k] W fun e W' => e = .returned (.int .i64 r) ∧ Mem w0 W' (partRcd 105 52 9 3 104 y i ++ L) := by
  refine enter Tryz.func13 rfl Tryz.ntmps13 [(0, .agg (encRcd x i).toArray), (1, _)] rfl ⟨rfl, rfl, trivial⟩ ?_
  obtain ⟨q0, q1, qs, l1, l2, l4, l5, l6, a1, a2, a3, a4, a5, a6, a7⟩ := hy
  have s1 := hn.ss
  have s2 := hn.ds
  have s3 := hn.held
  have s4 := hn.wishes
  have s5 := hn.yes
  have s6 := hn.best
  have s7 := hn.acks
  obtain ⟨u1, u2⟩ := rcd_pos x k hn
  have hM : (lsM x.held).length = x.held.length := by simp [lsM]
  have hA : (lsA x.acks).length = x.acks.length := by simp [lsA]
  have hMs : ∀ l ∈ lsM x.held, l ≤ 1048576 := by simpa [lsM] using hn.helds
  have hAs : ∀ l ∈ lsA x.acks, l ≤ 1048576 := by simpa [lsA] using hn.ackss
  subst q0
  simp only [pE, pA, pB, pW, pH] at *
  unfold encRcd
  simp only [partRcd, List.cons_append, List.nil_append] at HM
  repeat (first | (refine gGP ?_; first | refine gp (p_move rfl) ?_ | refine gp (p_assign rfl) ?_ | (refine gGB ?_; refine gp (p_lss rfl rfl) ?_) | refine gp (p_field rfl (by simp only [Nat.reduceAdd]; rfl)) ?_) | (refine gGV ?_; first | refine gv (p_load rfl) ?_ | refine gv (p_loads rfl) ?_) | (refine gL ?_; first | refine s_gp rfl rfl ?_ | refine s_gv HM rfl ?_ | (refine gCall ?_; (refine s_fn rfl rfl ?_; first | (go_at_call 59; refine (hdDisk _ _ (by first | with_reducible exact l1 | with_reducible exact l2) _ (by omega) (by omega) (by first | with_reducible exact s1 | with_reducible exact s2) (by first | exact a1 | exact a2) (by exact HM.pk)).mono ?_; rintro e W1 ⟨rfl, HM1⟩; refine ⟨_, rfl, ?_⟩; clear HM; have HM := HM1; clear HM1) | (go_at_call 14; refine (hdMsgS hM hMs _ (by omega) (by omega) s3 a3 HM.pk).mono ?_; rintro e W1 ⟨rfl, HM1⟩; refine ⟨_, rfl, ?_⟩; clear HM; have HM := HM1; clear HM1) | (go_at_call 60; refine (hdStrS l4 _ (by omega) (by omega) s4 a4 HM.pk).mono ?_; rintro e W1 ⟨rfl, HM1⟩; refine ⟨_, rfl, ?_⟩; clear HM; have HM := HM1; clear HM1) | (go_at_call 61; refine (hdIntS l5 _ (by omega) (by omega) s5 a5 HM.pk).mono ?_; rintro e W1 ⟨rfl, HM1⟩; refine ⟨_, rfl, ?_⟩; clear HM; have HM := HM1; clear HM1) | (go_at_call 62; refine (hdSlotS l6 _ (by omega) (by omega) s6 a6 HM.pk).mono ?_; rintro e W1 ⟨rfl, HM1⟩; refine ⟨_, rfl, ?_⟩; clear HM; have HM := HM1; clear HM1) | (go_at_call 63; refine (hdAckS hA hAs _ (by omega) (by omega) s7 a7 HM.pk).mono ?_; rintro e W1 ⟨rfl, HM1⟩; refine ⟨_, rfl, ?_⟩; clear HM; have HM := HM1; clear HM1))) | (refine s_box HM rfl rfl ?_; intro g W1 HM1; clear HM; have HM := HM1; clear HM1) | refine l_nil ?_) | (refine gC ?_; first | refine c_seq ?_ | refine c_region ?_ | refine c_skip ?_ | refine c_ret ?_ | refine c_no rfl (by (simp; omega)) ?_) | (refine gN ?_; refine n_then ?_))
  exact ret_tmp rfl rfl ⟨rfl, by simp only [partRcd, List.cons_append, List.nil_append]; exact HM.sb⟩
end Go.Proofs.YtkfogbonjpdkbaaGreat.Sp
namespace Go.Proofs.YtkfogbonjpdkbaaGreat.Sp
open Go Go.RowKit
set_option linter.unusedVariables false
variable {w0 W : World} {L : List Asn}
theorem eqRcd_l (x : Rcd) (i j : AtRcd) (h1 : RoRcd false w0 x i) (h2 : RoRcd false w0 x j) (HM : Mem w0 W L) : Calls Tryz.prog 9 #[.agg ([.int .i64 x.number, .int .i64 x.of, .bool x.up, .int .i64 x.sp, .int .i64 x.sk, .slice i.a0.1 x.ss.length i.a0.2, .int .i64 x.dp, .int .i64 x.dk, .slice i.a1.1 x.ds.length i.a1.2, .slice i.a2.1 x.held.length i.a2.2, .slice i.a3.1 x.wishes.length i.a3.2, .bool x.lead, .bool x.trying, .int .i64 x.ballot, .slice i.a4.1 x.yes.length i.a4.2, .slice i.a5.1 x.best.length i.a5.2, .slice i.a6.1 x.acks.length i.a6.2, .int .i64 x.heard]).toArray, .agg ([.int .i64 x.number, .int .i64 x.of, .bool x.up, .int .i64 x.sp, .int .i64 x.sk, .slice j.a0.1 x.ss.length j.a0.2, .int .i64 x.dp, .int .i64 x.dk, .slice j.a1.1 x.ds.length j.a1.2, .slice j.a2.1 x.held.length j.a2.2, .slice j.a3.1 x.wishes.length j.a3.2, .bool x.lead, .bool x.trying, .int .i64 x.ballot, .slice j.a4.1 x.yes.length j.a4.2, .slice j.a5.1 x.best.length j.a5.2, .slice j.a6.1 x.acks.length j.a6.2, .int .i64 x.heard]).toArray] W fun e W' => e = .returned (.bool true) ∧ Mem w0 W' L := eqRcd x i j h1 h2 HM
theorem mkRec_l (x : Rcd) (i : AtRcd) (hn : SmallR x) (HM : Mem w0 W (partRcd 105 52 9 3 104 x i ++ L)) :
    Calls Tryz.prog 11 #[.agg ([.int .i64 x.number, .int .i64 x.of, .bool x.up, .int .i64 x.sp, .int .i64 x.sk, .slice i.a0.1 x.ss.length i.a0.2, .int .i64 x.dp, .int .i64 x.dk, .slice i.a1.1 x.ds.length i.a1.2, .slice i.a2.1 x.held.length i.a2.2, .slice i.a3.1 x.wishes.length i.a3.2, .bool x.lead, .bool x.trying, .int .i64 x.ballot, .slice i.a4.1 x.yes.length i.a4.2, .slice i.a5.1 x.best.length i.a5.2, .slice i.a6.1 x.acks.length i.a6.2, .int .i64 x.heard]).toArray, .int .i64 1] W fun e W' => ∃ r y, e = .returned (.int .i64 r) ∧ RcdAt x 1 r y ∧ Mem w0 W' (partRcd 105 52 9 3 104 y i ++ L) := mkRec x i 1 (by omega) (by omega) hn HM
theorem hdRec_l (x : Rcd) (i : AtRcd) {y : Rcd} {r : Int} (hn : SmallR x) (hy : RcdAt x 1 r y) (HM : Mem w0 W (partRcd 105 52 9 3 104 y i ++ L)) :
    Calls Tryz.prog 13 #[.agg ([.int .i64 x.number, .int .i64 x.of, .bool x.up, .int .i64 x.sp, .int .i64 x.sk, .slice i.a0.1 x.ss.length i.a0.2, .int .i64 x.dp, .int .i64 x.dk, .slice i.a1.1 x.ds.length i.a1.2, .slice i.a2.1 x.held.length i.a2.2, .slice i.a3.1 x.wishes.length i.a3.2, .bool x.lead, .bool x.trying, .int .i64 x.ballot, .slice i.a4.1 x.yes.length i.a4.2, .slice i.a5.1 x.best.length i.a5.2, .slice i.a6.1 x.acks.length i.a6.2, .int .i64 x.heard]).toArray, .int .i64 1] W fun e W' => e = .returned (.int .i64 r) ∧ Mem w0 W' (partRcd 105 52 9 3 104 y i ++ L) := hdRec x i 1 (by omega) (by omega) hn hy HM
end Go.Proofs.YtkfogbonjpdkbaaGreat.Sp
namespace Go.Proofs.YtkfogbonjpdkbaaGreat.Sp
open Go Go.RowKit
set_option linter.unusedVariables false
set_option linter.unusedSimpArgs false
set_option maxRecDepth 10000
set_option maxHeartbeats 1000000
variable {w0 W : World} {L : List Asn}
theorem szRec2 (x : Rcd) (i : AtRcd) (h : RoRcd true w0 x i) (k : Int) (k0 : 0 ≤ k) (k1 : k ≤ 1048576) (HM : Mem w0 W L) : Calls Tryz.prog 5 #[.agg (encRcd x i).toArray, .int .i64 k] W fun e W' => ∃ r, e = .returned (.int .i64 r) ∧ r ≤ k ∧ (0 ≤ r → SmallR x) ∧ Mem w0 W' L := by
  refine enter Tryz.func5 rfl Tryz.ntmps5 [(0, .agg (encRcd x i).toArray), (1, _)] rfl ⟨rfl, rfl, trivial⟩ ?_
  unfold encRcd
  repeat (first | (refine gGP ?_; first | refine gp (p_move rfl) ?_ | refine gp (p_assign rfl) ?_ | (refine gGB ?_; refine gp (p_lss rfl rfl) ?_) | refine gp (p_field rfl (by simp only [Nat.reduceAdd]; rfl)) ?_) | (refine gGV ?_; refine gv (p_loads rfl) ?_) | (refine gL ?_; first | refine s_gp rfl rfl ?_ | refine s_gv HM rfl ?_ | (refine gCall ?_; (refine s_fn rfl rfl ?_; (go_at_call 21; refine (szDisk _ _ h.ss k k0 k1 HM).mono ?_; rintro e W1 ⟨r1, rfl, hr1, hp1, HM1⟩; refine ⟨_, rfl, ?_⟩; clear HM; have HM := HM1; clear HM1))) | (refine s_box HM rfl rfl ?_; intro g W1 HM1; clear HM; have HM := HM1; clear HM1) | refine l_nil ?_) | (refine gC ?_; first | refine c_seq ?_ | refine c_region ?_) | (refine gN ?_; refine n_then ?_))
  by_cases n1 : r1 < 0
  · repeat (first | (refine gGP ?_; refine gp (p_assign rfl) ?_) | (refine gL ?_; first | refine s_gp rfl rfl ?_ | refine l_nil ?_) | (refine gC ?_; first | refine c_seq ?_ | refine c_region ?_ | refine c_ret ?_ | refine c_yes rfl (by (simp; omega)) ?_) | (refine gN ?_; first | refine n_then ?_ | refine r_then ?_))
    exact ret_tmp rfl rfl ⟨_, rfl, by omega, fun h => by omega, HM.drop⟩
  repeat (first | (refine gGP ?_; first | refine gp (p_move rfl) ?_ | refine gp (p_assign rfl) ?_ | (refine gGB ?_; refine gp (p_lss rfl rfl) ?_) | refine gp (p_field rfl (by simp only [Nat.reduceAdd]; rfl)) ?_) | (refine gGV ?_; refine gv (p_loads rfl) ?_) | (refine gL ?_; first | refine s_gp rfl rfl ?_ | refine s_gv HM rfl ?_ | (refine gCall ?_; (refine s_fn rfl rfl ?_; (go_at_call 21; refine (szDisk _ _ h.ds r1 (by omega) (by omega) HM).mono ?_; rintro e W1 ⟨r2, rfl, hr2, hp2, HM1⟩; refine ⟨_, rfl, ?_⟩; clear HM; have HM := HM1; clear HM1))) | refine l_nil ?_) | (refine gC ?_; first | refine c_seq ?_ | refine c_region ?_ | refine c_skip ?_ | refine c_no rfl (by (simp; omega)) ?_) | (refine gN ?_; refine n_then ?_))

  by_cases n2 : r2 < 0
  · repeat (first | (refine gGP ?_; refine gp (p_assign rfl) ?_) | (refine gL ?_; first | refine s_gp rfl rfl ?_ | refine l_nil ?_) | (refine gC ?_; first | refine c_seq ?_ | refine c_region ?_ | refine c_ret ?_ | refine c_yes rfl (by (simp; omega)) ?_) | (refine gN ?_; first | refine n_then ?_ | refine r_then ?_))
    exact ret_tmp rfl rfl ⟨_, rfl, by omega, fun h => by omega, HM.drop⟩
  repeat (first | (refine gGP ?_; first | refine gp (p_move rfl) ?_ | refine gp (p_assign rfl) ?_ | (refine gGB ?_; refine gp (p_lss rfl rfl) ?_) | refine gp (p_field rfl (by simp only [Nat.reduceAdd]; rfl)) ?_) | (refine gGV ?_; refine gv (p_load rfl) ?_) | (refine gL ?_; first | refine s_gp rfl rfl ?_ | refine s_gv HM rfl ?_ | (refine gCall ?_; (refine s_fn rfl rfl ?_; (go_at_call 22; refine (szMsgS h.held r2 (by omega) (by omega) HM).mono ?_; rintro e W1 ⟨r3, rfl, hr3, hp3, HM1⟩; refine ⟨_, rfl, ?_⟩; clear HM; have HM := HM1; clear HM1))) | refine l_nil ?_) | (refine gC ?_; first | refine c_seq ?_ | refine c_region ?_ | refine c_skip ?_ | refine c_no rfl (by (simp; omega)) ?_) | (refine gN ?_; refine n_then ?_))

  by_cases n3 : r3 < 0
  · repeat (first | (refine gGP ?_; refine gp (p_assign rfl) ?_) | (refine gL ?_; first | refine s_gp rfl rfl ?_ | refine l_nil ?_) | (refine gC ?_; first | refine c_seq ?_ | refine c_region ?_ | refine c_ret ?_ | refine c_yes rfl (by (simp; omega)) ?_) | (refine gN ?_; first | refine n_then ?_ | refine r_then ?_))
    exact ret_tmp rfl rfl ⟨_, rfl, by omega, fun h => by omega, HM.drop⟩
  repeat (first | (refine gGP ?_; first | refine gp (p_move rfl) ?_ | refine gp (p_assign rfl) ?_ | (refine gGB ?_; refine gp (p_lss rfl rfl) ?_) | refine gp (p_field rfl (by simp only [Nat.reduceAdd]; rfl)) ?_) | (refine gGV ?_; refine gv (p_load rfl) ?_) | (refine gL ?_; first | refine s_gp rfl rfl ?_ | refine s_gv HM rfl ?_ | (refine gCall ?_; (refine s_fn rfl rfl ?_; (go_at_call 23; refine (szStrS h.wishes r3 (by omega) (by omega) HM).mono ?_; rintro e W1 ⟨r4, rfl, hr4, hp4, HM1⟩; refine ⟨_, rfl, ?_⟩; clear HM; have HM := HM1; clear HM1))) | refine l_nil ?_) | (refine gC ?_; first | refine c_seq ?_ | refine c_region ?_ | refine c_skip ?_ | refine c_no rfl (by (simp; omega)) ?_) | (refine gN ?_; refine n_then ?_))

  by_cases n4 : r4 < 0
  · repeat (first | (refine gGP ?_; refine gp (p_assign rfl) ?_) | (refine gL ?_; first | refine s_gp rfl rfl ?_ | refine l_nil ?_) | (refine gC ?_; first | refine c_seq ?_ | refine c_region ?_ | refine c_ret ?_ | refine c_yes rfl (by (simp; omega)) ?_) | (refine gN ?_; first | refine n_then ?_ | refine r_then ?_))
    exact ret_tmp rfl rfl ⟨_, rfl, by omega, fun h => by omega, HM.drop⟩
  repeat (first | (refine gGP ?_; first | refine gp (p_move rfl) ?_ | refine gp (p_assign rfl) ?_ | (refine gGB ?_; refine gp (p_lss rfl rfl) ?_) | refine gp (p_field rfl (by simp only [Nat.reduceAdd]; rfl)) ?_) | (refine gGV ?_; refine gv (p_load rfl) ?_) | (refine gL ?_; first | refine s_gp rfl rfl ?_ | refine s_gv HM rfl ?_ | (refine gCall ?_; (refine s_fn rfl rfl ?_; (go_at_call 24; refine (szIntS h.yes r4 (by omega) (by omega) HM).mono ?_; rintro e W1 ⟨r5, rfl, hr5, hp5, HM1⟩; refine ⟨_, rfl, ?_⟩; clear HM; have HM := HM1; clear HM1))) | refine l_nil ?_) | (refine gC ?_; first | refine c_seq ?_ | refine c_region ?_ | refine c_skip ?_ | refine c_no rfl (by (simp; omega)) ?_) | (refine gN ?_; refine n_then ?_))

  by_cases n5 : r5 < 0
  · repeat (first | (refine gGP ?_; refine gp (p_assign rfl) ?_) | (refine gL ?_; first | refine s_gp rfl rfl ?_ | refine l_nil ?_) | (refine gC ?_; first | refine c_seq ?_ | refine c_region ?_ | refine c_ret ?_ | refine c_yes rfl (by (simp; omega)) ?_) | (refine gN ?_; first | refine n_then ?_ | refine r_then ?_))
    exact ret_tmp rfl rfl ⟨_, rfl, by omega, fun h => by omega, HM.drop⟩
  repeat (first | (refine gGP ?_; first | refine gp (p_move rfl) ?_ | refine gp (p_assign rfl) ?_ | (refine gGB ?_; refine gp (p_lss rfl rfl) ?_) | refine gp (p_field rfl (by simp only [Nat.reduceAdd]; rfl)) ?_) | (refine gGV ?_; refine gv (p_load rfl) ?_) | (refine gL ?_; first | refine s_gp rfl rfl ?_ | refine s_gv HM rfl ?_ | (refine gCall ?_; (refine s_fn rfl rfl ?_; (go_at_call 25; refine (szSlotS h.best r5 (by omega) (by omega) HM).mono ?_; rintro e W1 ⟨r6, rfl, hr6, hp6, HM1⟩; refine ⟨_, rfl, ?_⟩; clear HM; have HM := HM1; clear HM1))) | refine l_nil ?_) | (refine gC ?_; first | refine c_seq ?_ | refine c_region ?_ | refine c_skip ?_ | refine c_no rfl (by (simp; omega)) ?_) | (refine gN ?_; refine n_then ?_))

  by_cases n6 : r6 < 0
  · repeat (first | (refine gGP ?_; refine gp (p_assign rfl) ?_) | (refine gL ?_; first | refine s_gp rfl rfl ?_ | refine l_nil ?_) | (refine gC ?_; first | refine c_seq ?_ | refine c_region ?_ | refine c_ret ?_ | refine c_yes rfl (by (simp; omega)) ?_) | (refine gN ?_; first | refine n_then ?_ | refine r_then ?_))
    exact ret_tmp rfl rfl ⟨_, rfl, by omega, fun h => by omega, HM.drop⟩
  repeat (first | (refine gGP ?_; first | refine gp (p_move rfl) ?_ | refine gp (p_assign rfl) ?_ | (refine gGB ?_; refine gp (p_lss rfl rfl) ?_) | refine gp (p_field rfl (by simp only [Nat.reduceAdd]; rfl)) ?_) | (refine gGV ?_; refine gv (p_load rfl) ?_) | (refine gL ?_; first | refine s_gp rfl rfl ?_ | refine s_gv HM rfl ?_ | (refine gCall ?_; (refine s_fn rfl rfl ?_; (go_at_call 26; refine (szAckS h.acks r6 (by omega) (by omega) HM).mono ?_; rintro e W1 ⟨r7, rfl, hr7, hp7, HM1⟩; refine ⟨_, rfl, ?_⟩; clear HM; have HM := HM1; clear HM1))) | refine l_nil ?_) | (refine gC ?_; first | refine c_seq ?_ | refine c_region ?_ | refine c_skip ?_ | refine c_no rfl (by (simp; omega)) ?_) | (refine gN ?_; refine n_then ?_))

  by_cases n7 : r7 < 0
  · repeat (first | (refine gGP ?_; refine gp (p_assign rfl) ?_) | (refine gL ?_; first | refine s_gp rfl rfl ?_ | refine l_nil ?_) | (refine gC ?_; first | refine c_seq ?_ | refine c_region ?_ | refine c_ret ?_ | refine c_yes rfl (by (simp; omega)) ?_) | (refine gN ?_; first | refine n_then ?_ | refine r_then ?_))
    exact ret_tmp rfl rfl ⟨_, rfl, by omega, fun h => by omega, HM.drop⟩
  repeat (first | (refine gGP ?_; first | refine gp (p_move rfl) ?_ | refine gp (p_assign rfl) ?_) | (refine gL ?_; first | refine s_gp rfl rfl ?_ | refine l_nil ?_) | (refine gC ?_; first | refine c_seq ?_ | refine c_region ?_ | refine c_skip ?_ | refine c_ret ?_ | refine c_no rfl (by (simp; omega)) ?_) | (refine gN ?_; refine n_then ?_))
  exact ret_tmp rfl rfl ⟨_, rfl, by omega, fun h => ⟨hp1 (by omega), hp2 (by omega), (hp3 (by omega)).1, (hp3 (by omega)).2, (hp4 (by omega)).1, hp5 (by omega), (hp6 (by omega)).1, (hp7 h).1, (hp7 h).2⟩, HM.drop⟩
theorem mkMsg (m : Msg) (j : At) (k : Int) (h0 : 0 < k) (h1 : k ≤ 1125899906842624) (hn : m.slots.length ≤ 1048576) (HM : Mem w0 W (own tSlot 105 j.1 j.2 m.slots :: L)) :
    Calls Tryz.prog 20 #[.agg (encMsg m j).toArray, .int .i64 k] W fun e W' => ∃ ys, e = .returned (.int .i64 (k + 2 * m.slots.length)) ∧ ys.length = m.slots.length ∧ Mem w0 W' (own tSlot 105 j.1 j.2 ys :: L) := by
  refine enter Tryz.func20 rfl Tryz.ntmps20 [(0, .agg (encMsg m j).toArray), (1, _)] rfl ⟨rfl, rfl, trivial⟩ ?_
  unfold encMsg
  repeat (first | (refine gGP ?_; first | refine gp (p_move rfl) ?_ | refine gp (p_assign rfl) ?_ | refine gp (p_field rfl (by simp only [Nat.reduceAdd]; rfl)) ?_) | (refine gGV ?_; refine gv (p_load rfl) ?_) | (refine gL ?_; first | refine s_gp rfl rfl ?_ | refine s_gv HM rfl ?_ | (refine gCall ?_; (refine s_fn rfl rfl ?_; (go_at_call 56; refine (mkSlotS _ h0 h1 hn HM.pk).mono ?_; rintro e W1 ⟨z1, rfl, hz1, hza1, HM1⟩; refine ⟨_, rfl, ?_⟩; clear HM; have HM := HM1; clear HM1))) | (refine s_box HM rfl rfl ?_; intro g W1 HM1; clear HM; have HM := HM1; clear HM1) | refine l_nil ?_) | (refine gC ?_; first | refine c_seq ?_ | refine c_region ?_ | refine c_ret ?_) | (refine gN ?_; refine n_then ?_))
  exact ret_tmp rfl rfl ⟨z1, rfl, hz1, HM.sb⟩
theorem rcd_r {x y : Rcd} {r : Int} (hn : SmallR x) (hy : RcdAt x 1 r y) : 0 < r ∧ r ≤ 1125899906842624 := by
  obtain ⟨u1, u2⟩ := rcd_pos x 1 hn
  have s1 := hn.ss
  have s2 := hn.ds
  have s3 := hn.held
  have s4 := hn.wishes
  have s5 := hn.yes
  have s6 := hn.best
  have s7 := hn.acks
  have := hy.e
  refine ⟨hy.pos, ?_⟩
  rw [this]
  unfold pE pA pB pW pH
  omega
end Go.Proofs.YtkfogbonjpdkbaaGreat.Sp
namespace Go.Proofs.YtkfogbonjpdkbaaGreat.Sp
open Go Go.RowKit
set_option linter.unusedVariables false
set_option linter.unusedSimpArgs false
set_option maxRecDepth 10000
set_option maxHeartbeats 4000000
theorem ro_msg_at {w0 W : World} {L : List Asn} {A : Option Addr} {c e eS : Nat} {xs : List Msg} [h : OwnAt L A c Msg (tMsg eS) e xs] (hm : Mem w0 W L) : RoRow (rMsg false) W A xs := by
  obtain ⟨F, hF⟩ := hm.own (A := A)
  exact ro_msgs hF
theorem rcd_r2 {x y : Rcd} {r : Int} (hn : SmallR x) (hy : RcdAt x 1 r y) : 0 < r ∧ r ≤ 35184372088832 := by
  obtain ⟨u1, u2⟩ := rcd_pos x 1 hn
  have s1 := hn.ss
  have s2 := hn.ds
  have s3 := hn.held
  have s4 := hn.wishes
  have s5 := hn.yes
  have s6 := hn.best
  have s7 := hn.acks
  have := hy.e
  refine ⟨hy.pos, ?_⟩
  rw [this]
  unfold pE pA pB pW pH
  omega
theorem small_recTick (x : Rcd) (hn : SmallR x) : SmallR (recTickL x) ∧ (recTickO x).length ≤ 1048576 ∧ ∀ m ∈ recTickO x, m.slots.length ≤ 1048576 := by
  by_cases h : validB x = true
  · obtain ⟨a, b, c⟩ := vr_recTick h
    exact ⟨vr_small a, recTickO_len h, fun m hm => by have := (c m hm).1.slots.1; omega⟩
  · rw [recTickL, recTickO, if_neg h, if_neg h]
    exact ⟨by constructor <;> simp [zeroR], by simp, by simp⟩
theorem law (x : Rcd) (i : AtRcd) (w : World) (h : RoRcd true w x i) : Calls Tryz.prog 3 #[.agg (encRcd x i).toArray] w fun e w' => e = .returned (.bool true) ∧ Below w.heap.size w w' := by
  refine enter Tryz.func3 rfl Tryz.ntmps3 [(0, .agg (encRcd x i).toArray)] rfl ⟨rfl, trivial⟩ ?_
  have HM := Mem.start w
  unfold encRcd
  repeat (first | (refine gGP ?_; first | refine gp (p_move rfl) ?_ | refine gp (p_assign rfl) ?_ | (refine gGB ?_; refine gp (p_lss rfl rfl) ?_)) | (refine gGV ?_; refine gv (p_loads rfl) ?_) | (refine gL ?_; first | refine s_gp rfl rfl ?_ | refine s_gv HM rfl ?_ | (refine gCall ?_; (refine s_fn rfl rfl ?_; (go_at_call 5; refine (szRec x i h 1048576 (by omega) (by omega) HM).mono ?_; rintro e W1 ⟨r, rfl, hr, HM1⟩; refine ⟨_, rfl, ?_⟩; clear HM; have HM := HM1; clear HM1))) | (refine s_box HM rfl rfl ?_; intro g W1 HM1; clear HM; have HM := HM1; clear HM1) | refine l_nil ?_) | (refine gC ?_; first | refine c_seq ?_ | refine c_region ?_) | (refine gN ?_; refine n_then ?_))
  by_cases hz : r < 0
  · repeat (first | (refine gGP ?_; refine gp (p_assign rfl) ?_) | (refine gL ?_; first | refine s_gp rfl rfl ?_ | refine l_nil ?_) | (refine gC ?_; first | refine c_seq ?_ | refine c_region ?_ | refine c_ret ?_ | refine c_yes rfl (by (simp; omega)) ?_) | (refine gN ?_; first | refine n_then ?_ | refine r_then ?_))
    exact ret_tmp rfl rfl ⟨rfl, HM.below⟩
  have hn := hr (by omega)
  obtain ⟨hn2, hol, hos⟩ := small_recTick x hn
  have hls : ∀ l ∈ lsM (recTickO x), l ≤ 1048576 := by simpa [lsM] using hos
  repeat (first | (refine gN ?_; refine d_back (by exact HM.drop.drop.drop.drop.drop.drop.drop) ?_) | (refine gR ?_; refine d_start [] [(1, 0), (1, 1), (2, 2), (2, 3), (0, 4)] HM (by kernel_rfl) (by kernel_rfl) (by repeat (first | exact qp_body | refine qp_then ?_ | refine qp_block ?_)) (by kernel_rfl) rfl ?_; intro HQ HS W1 HM1; clear HM; have HM := HM1; clear HM1) | (refine gGP ?_; first | refine gp (p_move rfl) ?_ | refine gp (p_assign rfl) ?_ | (refine gGB ?_; first | refine gp (p_lss rfl rfl) ?_ | refine gp (p_neq rfl rfl) ?_) | refine gp (p_not rfl) ?_ | refine gp (p_extract rfl rfl) ?_ | refine gp (p_pick0 rfl (by first | rfl | (simp; omega)) rfl) ?_) | (refine gGV ?_; refine gv (p_loads rfl) ?_) | (refine gL ?_; first | refine s_gp rfl rfl ?_ | refine s_gv HM rfl ?_ | (refine gStore ?_; (refine s_store HM rfl rfl rfl rfl ?_; intro W1 HM1; clear HM; have HM := HM1; clear HM1)) | (refine gCall ?_; (refine s_fn rfl rfl ?_; first | (go_at_call 7; refine (toRec x i h hn HM).mono ?_; rintro e W1 ⟨jx, rfl, HM1⟩; refine ⟨_, rfl, ?_⟩; clear HM; have HM := HM1; clear HM1; simp only [partRcd, List.cons_append, List.nil_append] at HM; simp only [encRcd]) | (go_at_call 6; refine (specRecTick x jx (by exact ro_rec1 (eS := 105) (eM := 52) (eT := 9) (eI := 3) (eA := 104) HM) hn (Mem.start _)).mono ?_; rintro e W1 ⟨jw, Aw, cw, rfl, HM1⟩; refine ⟨_, rfl, ?_⟩; replace HM := HM.join HM1; clear HM1; simp only [partRcd, List.cons_append, List.nil_append] at HM; simp only [encRcd]) | (go_at_call 8; refine (implRecTick x jx (by exact ro_rec1 (eS := 105) (eM := 52) (eT := 9) (eI := 3) (eA := 104) HM) (by exact ro_cap1 (eS := 105) (eM := 52) (eT := 9) (eI := 3) (eA := 104) HM) hn (Mem.start _)).mono ?_; rintro e W1 ⟨jg, Ag, cg, rfl, HM1⟩; refine ⟨_, rfl, ?_⟩; replace HM := HM.join HM1; clear HM1; simp only [partRcd, List.cons_append, List.nil_append] at HM; simp only [encRcd]) | (go_at_call 9; first | ((with_reducible refine (eqRcd_l x _ _ ?_ ?_ (Mem.start _)).mono ?_); exact ro_rec1 (eS := 105) (eM := 52) (eT := 9) (eI := 3) (eA := 104) HM; exact ro_rec1 (eS := 105) (eM := 52) (eT := 9) (eI := 3) (eA := 104) HM; rintro e W1 ⟨rfl, HM1⟩; refine ⟨_, rfl, ?_⟩; have HM2 := HM.step HM1.below; clear HM HM1; have HM := HM2; clear HM2) | ((with_reducible refine (eqRcd_l (recTickL x) _ _ ?_ ?_ (Mem.start _)).mono ?_); exact ro_rec1 (eS := 105) (eM := 52) (eT := 9) (eI := 3) (eA := 104) HM; exact ro_rec1 (eS := 105) (eM := 52) (eT := 9) (eI := 3) (eA := 104) HM; rintro e W1 ⟨rfl, HM1⟩; refine ⟨_, rfl, ?_⟩; have HM2 := HM.step HM1.below; clear HM HM1; have HM := HM2; clear HM2)) | (go_at_call 10; refine (eqMsgS (b := false) (xs := recTickO x) ?_ ?_ (Mem.start _)).mono ?_; exact ro_msg_at HM; exact ro_msg_at HM; rintro e W1 ⟨rfl, HM1⟩; refine ⟨_, rfl, ?_⟩; have HM2 := HM.step HM1.below; clear HM HM1; have HM := HM2; clear HM2) | (go_at_call 11; first | ((with_reducible refine (mkRec_l x _ hn (by exact pk_rec HM)).mono ?_); rintro e W1 ⟨mr, my, rfl, hmy, HM1⟩; refine ⟨_, rfl, ?_⟩; clear HM; have HM := HM1; clear HM1; simp only [partRcd, List.cons_append, List.nil_append] at HM; have hmp := rcd_r2 hn hmy) | ((with_reducible refine (mkRec_l (recTickL x) _ hn2 (by exact pk_rec HM)).mono ?_); rintro e W1 ⟨mr, my, rfl, hmy, HM1⟩; refine ⟨_, rfl, ?_⟩; clear HM; have HM := HM1; clear HM1; simp only [partRcd, List.cons_append, List.nil_append] at HM; have hmp := rcd_r2 hn2 hmy)) | (go_at_call 12; refine (mkMsgS (xs := recTickO x) mr hmp.1 hmp.2 hol hos (by exact HM.pk)).mono ?_; rintro e W1 ⟨zs, rfl, hzs, HM1⟩; refine ⟨_, rfl, ?_⟩; clear HM; have HM := HM1; clear HM1) | (go_at_call 13; (with_reducible refine (hdRec_l (recTickL x) _ hn2 hmy (by exact pk_rec HM)).mono ?_); rintro e W1 ⟨rfl, HM1⟩; refine ⟨_, rfl, ?_⟩; clear HM; have HM := HM1; clear HM1; simp only [partRcd, List.cons_append, List.nil_append] at HM) | (go_at_call 14; refine (hdMsgS (xs := zs) (n := (recTickO x).length) (ls := lsM (recTickO x)) (by simp [lsM]) hls mr hmp.1 hmp.2 hol hzs (by exact HM.pk)).mono ?_; rintro e W1 ⟨rfl, HM1⟩; refine ⟨_, rfl, ?_⟩; clear HM; have HM := HM1; clear HM1))) | (refine s_alloc HM rfl ?_; intro g W1 HM1; clear HM; have HM := HM1; clear HM1) | refine l_nil ?_ | refine s_guard_on rfl rfl rfl rfl (by first | rfl | (simp; omega)) ?_) | (refine gC ?_; first | refine c_seq ?_ | refine c_region ?_ | refine c_skip ?_ | refine c_ret ?_ | refine c_no rfl (by first | rfl | (simp; done) | (simp; omega)) ?_) | (refine gN ?_; refine n_then ?_) | (refine gD ?_; first | refine d_next rfl ?_ | refine d_done ?_) | (refine gO ?_; first | refine d_gp HQ HS rfl ?_ | refine d_gv HQ HS rfl ?_ | refine d_one ?_))
  exact ret_tmp rfl rfl ⟨rfl, HM.below⟩
end Go.Proofs.YtkfogbonjpdkbaaGreat.Sp
namespace Go.Proofs.YtkfogbonjpdkbaaGreat.Sp
open Go Go.RowKit Go.ChangeShapes Go.WideShapes
set_option linter.unusedVariables false
set_option linter.unusedSimpArgs false
structure OpP (P : Program) (t sz : Nat) (R : World → List Value → Prop) : Prop where
  out : ∀ {H : Type} (enc : TypeId × Value → H) (w : World) (fuel : Nat) (cs : List Value) (x : DataW H × List MemPlace), DataW.trod enc P w 0 (fun _ => true) true fuel t cs = some x → R w cs
theorem OpP.imp {P : Program} {t sz : Nat} {R R' : World → List Value → Prop} (h : OpP P t sz R) (hi : ∀ w cs, R w cs → R' w cs) : OpP P t sz R' := ⟨fun enc w fuel cs x hx => hi _ _ (h.out enc w fuel cs x hx)⟩
theorem opInt {P : Program} {t : Nat} (ht : P.underlying t = some (.int .i64)) : OpP P t 1 (fun _ cs => ∃ n : Int, cs = [.int .i64 n]) := ⟨fun enc w fuel cs x hx => by
  obtain ⟨n, rfl, _, hw⟩ := DataW.trod_int ht hx
  exact ⟨n, rfl⟩⟩
theorem opBool {P : Program} {t : Nat} (ht : P.underlying t = some .bool) : OpP P t 1 (fun _ cs => ∃ b : Bool, cs = [.bool b]) := ⟨fun enc w fuel cs x hx => by
  obtain ⟨n, rfl, _⟩ := DataW.trod_bool ht hx
  exact ⟨n, rfl⟩⟩
theorem opStr {P : Program} {t : Nat} (ht : P.underlying t = some .string) : OpP P t 1 (fun _ cs => ∃ s : ByteArray, cs = [.string s] ∧ s.size ≤ maxLen) := ⟨fun enc w fuel cs x hx => by
  obtain ⟨n, rfl, _, hl⟩ := DataW.trod_string ht hx
  exact ⟨n, rfl, hl⟩⟩
theorem choose_list {α : Type} {P : Nat → α → Prop} : ∀ n, (∀ i, i < n → ∃ y, P i y) → ∃ ys : List α, ys.length = n ∧ ∀ i (h : i < ys.length), P i ys[i]
  | 0, _ => ⟨[], rfl, fun i h => by simp at h⟩
  | n + 1, h => by
    obtain ⟨ys, hl, hp⟩ := choose_list n (fun i hi => h i (by omega))
    obtain ⟨y, hy⟩ := h n (by omega)
    refine ⟨ys ++ [y], by simp [hl], fun i hi => ?_⟩
    rcases Nat.lt_or_ge i n with h1 | h1
    · rw [List.getElem_append_left (by omega)]; exact hp i (by omega)
    · have : i = n := by simp at hi; omega
      subst this
      rw [List.getElem_append_right (by omega)]
      simpa [hl] using hy
theorem opSlice {α : Type} {P : Program} {t e : Nat} {D : TyR α} (ht : P.underlying t = some (.slice e)) (hc : P.cellsOf e = D.sz) (he : OpP P e D.sz (fun w cs => ∃ x, D.R w x cs)) :
    OpP P t 1 (fun w cs => ∃ (xs : List α) (A : Option Addr) (c : Nat), cs = [.slice A xs.length c] ∧ RoRow D w A xs) := ⟨fun enc w fuel cs x hx => by
  rcases DataW.trod_slice ht hx with ⟨rfl, _⟩ | ⟨a, len, cap, elems, rest, n, _, rfl, _, _, hlc, hcm, hlen, hel, _, _⟩
  · exact ⟨[], none, 0, rfl, by simp, fun h => by simp at h, fun i h => by simp at h⟩
  · obtain ⟨ys, hyl, hys⟩ := choose_list (P := fun i y => ∃ c, w.cells? 0 (a.add (i * P.cellsOf e)) (P.cellsOf e) = some c ∧ D.R w y c) len (fun i hi => by
      have h1 := hel i hi
      rw [List.getElem?_eq_getElem (by omega : i < elems.length)] at h1
      obtain ⟨c, hc1, hc2⟩ := Option.bind_eq_some_iff.1 h1
      obtain ⟨y, hy1⟩ := he.out enc w n c _ hc2
      exact ⟨y, c, hc1, hy1⟩)
    have hml : len ≤ maxLen := Nat.le_trans hlc hcm
    refine ⟨ys, some a, cap, by rw [hyl], by unfold maxLen at hml; omega, fun _ => rfl, fun i hi => ?_⟩
    obtain ⟨c, hc1, hR⟩ := hys i hi
    obtain ⟨_, hcl, hcell⟩ := World.cells?_some hc1
    refine ⟨c, hR, fun j v hv => ?_⟩
    have hjl : j < P.cellsOf e := by rw [← hcl]; exact (List.getElem?_eq_some_iff.1 hv).1
    show w.cell? (a.add (i * D.sz + j)) = some v
    rw [← hc, ← addr_add_add, hcell j hjl]
    exact hv⟩
structure OpFs (P : Program) (fs : List Field) (off sz : Nat) (R : World → List Value → Prop) : Prop where
  out : ∀ {H : Type} (enc : TypeId × Value → H) (w : World) (n : Nat) (cs : List Value), cs.length = sz →
    (∀ (i : Nat) (f : Field), fs[i]? = some f → ∃ x, DataW.trod enc P w 0 (fun _ => true) true n f.type ((cs.drop (f.offset - off)).take (P.cellsOf f.type)) = some x) → R w cs
theorem opOne {P : Program} {f : Field} {off sz : Nat} {R : World → List Value → Prop} (ho : f.offset = off) (hc : P.cellsOf f.type = sz) (h : OpP P f.type sz R) : OpFs P [f] off sz R := ⟨fun enc w n cs hl hf => by
  obtain ⟨x, hx⟩ := hf 0 f rfl
  rw [ho, Nat.sub_self, List.drop_zero, hc, List.take_of_length_le (by omega)] at hx
  exact h.out enc w n cs x hx⟩
theorem opCons {P : Program} {f : Field} {fs : List Field} {off s1 s2 : Nat} {R1 R2 : World → List Value → Prop} (ho : f.offset = off) (hc : P.cellsOf f.type = s1) (h : OpP P f.type s1 R1) (hfs : fs.all (fun g => decide (off + s1 ≤ g.offset)) = true) (h2 : OpFs P fs (off + s1) s2 R2) :
    OpFs P (f :: fs) off (s1 + s2) (fun w cs => ∃ c1 c2, cs = c1 ++ c2 ∧ R1 w c1 ∧ R2 w c2) := ⟨fun enc w n cs hl hf => by
  obtain ⟨x, hx⟩ := hf 0 f rfl
  rw [ho, Nat.sub_self, List.drop_zero, hc] at hx
  refine ⟨cs.take s1, cs.drop s1, (List.take_append_drop _ _).symm, h.out enc w n _ x hx, h2.out enc w n (cs.drop s1) (by rw [List.length_drop]; omega) (fun i g hg => ?_)⟩
  obtain ⟨x, hx⟩ := hf (i + 1) g (by simpa using hg)
  have hge : off + s1 ≤ g.offset := of_decide_eq_true (List.all_eq_true.1 hfs g (List.mem_of_getElem? hg))
  refine ⟨x, ?_⟩
  rw [List.drop_drop]
  have : s1 + (g.offset - (off + s1)) = g.offset - off := by omega
  rw [this]
  exact hx⟩
theorem opStruct {P : Program} {t sz : Nat} {fs : Array Field} {R : World → List Value → Prop} (ht : P.underlying t = some (.struct fs)) (hc : P.cellsOf t = sz) (h : OpFs P fs.toList 0 sz R) : OpP P t sz R := ⟨fun enc w fuel cs x hx => by
  obtain ⟨xs, n, _, _, hcl, hxl, hf⟩ := DataW.trod_struct ht hx
  refine h.out enc w n cs (by omega) (fun i f hi => ?_)
  have hi' : fs[i]? = some f := by simpa using hi
  have hlt : i < xs.length := by rw [hxl]; exact (Array.getElem?_eq_some_iff.1 hi').1
  have h1 := hf i f hi'
  rw [List.getElem?_eq_getElem hlt] at h1
  exact ⟨xs[i], by rw [Nat.sub_zero]; exact h1⟩⟩
/-- A struct's value is its cells. -/
theorem agg_of {P : Program} {W : World} {r : Reach} {base : Nat} {t : TypeId} {fs : Array Field} {v : Value} (ht : P.underlying t = some (.struct fs)) (h : Value.okWide P W r base t v) {l : List Value} (hl : v.cells.toList = l) : v = .agg l.toArray := by
  unfold Value.okWide at h
  rw [ht] at h
  obtain ⟨cs, rfl, _⟩ := h
  subst hl
  simp [Value.cells]
end Go.Proofs.YtkfogbonjpdkbaaGreat.Sp
namespace Go.Proofs.YtkfogbonjpdkbaaGreat.Sp
open Go Go.RowKit Go.ChangeShapes Go.WideShapes
set_option linter.unusedVariables false
theorem oInt : OpP Tryz.prog 3 1 (fun _ cs => ∃ n : Int, cs = [.int .i64 n]) := opInt Tryz.underlying3
theorem oBool : OpP Tryz.prog 4 1 (fun _ cs => ∃ b : Bool, cs = [.bool b]) := opBool Tryz.underlying4
theorem oStr : OpP Tryz.prog 9 1 (fun _ cs => ∃ s : ByteArray, cs = [.string s] ∧ s.size ≤ maxLen) := opStr Tryz.underlying9
theorem oSlot : OpP Tryz.prog 93 2 (fun w cs => ∃ x, (rSlot true).R w x cs) :=
  (opStruct Tryz.underlying93 (by kernel_rfl) (opCons rfl (by kernel_rfl) oInt (by decide) (opOne rfl (by kernel_rfl) oStr))).imp
    (by rintro w cs ⟨_, _, rfl, ⟨n, rfl⟩, s, rfl, hs⟩; exact ⟨⟨n, s⟩, (), rfl, fun _ => hs⟩)
theorem oSlots : OpP Tryz.prog 22 1 (fun w cs => ∃ (xs : List Slot) (A : Option Addr) (c : Nat), cs = [.slice A xs.length c] ∧ RoRow (rSlot true) w A xs) := opSlice Tryz.underlying22 (by kernel_rfl) oSlot
theorem oInts : OpP Tryz.prog 27 1 (fun w cs => ∃ (xs : List Int) (A : Option Addr) (c : Nat), cs = [.slice A xs.length c] ∧ RoRow rInt w A xs) := opSlice Tryz.underlying27 (by kernel_rfl) (oInt.imp (by rintro w cs ⟨n, rfl⟩; exact ⟨n, (), rfl, trivial⟩))
theorem oStrs : OpP Tryz.prog 26 1 (fun w cs => ∃ (xs : List ByteArray) (A : Option Addr) (c : Nat), cs = [.slice A xs.length c] ∧ RoRow (rStr true) w A xs) := opSlice Tryz.underlying26 (by kernel_rfl) (oStr.imp (by rintro w cs ⟨n, rfl, hs⟩; exact ⟨n, (), rfl, fun _ => hs⟩))
theorem oMsg : OpP Tryz.prog 48 8 (fun w cs => ∃ x, (rMsg true).R w x cs) :=
  (opStruct Tryz.underlying48 (by kernel_rfl) (opCons rfl (by kernel_rfl) oInt (by decide) (opCons rfl (by kernel_rfl) oInt (by decide) (opCons rfl (by kernel_rfl) oInt (by decide) (opCons rfl (by kernel_rfl) oInt (by decide) (opCons rfl (by kernel_rfl) oInt (by decide) (opCons rfl (by kernel_rfl) oInt (by decide) (opCons rfl (by kernel_rfl) oStr (by decide) (opOne rfl (by kernel_rfl) oSlots))))))))).imp
    (by
      rintro w cs ⟨_, _, rfl, ⟨n0, rfl⟩, _, _, rfl, ⟨n1, rfl⟩, _, _, rfl, ⟨n2, rfl⟩, _, _, rfl, ⟨n3, rfl⟩, _, _, rfl, ⟨n4, rfl⟩, _, _, rfl, ⟨n5, rfl⟩, _, _, rfl, ⟨s, rfl, hs⟩, xs, A, c, rfl, h⟩
      exact ⟨⟨n0, n1, n2, n3, n4, n5, s, xs⟩, (A, c), rfl, fun _ => hs, h⟩)
theorem oMsgs : OpP Tryz.prog 25 1 (fun w cs => ∃ (xs : List Msg) (A : Option Addr) (c : Nat), cs = [.slice A xs.length c] ∧ RoRow (rMsg true) w A xs) := opSlice Tryz.underlying25 (by kernel_rfl) oMsg
theorem oAck : OpP Tryz.prog 96 2 (fun w cs => ∃ x, rAck.R w x cs) :=
  (opStruct Tryz.underlying96 (by kernel_rfl) (opCons rfl (by kernel_rfl) oInt (by decide) (opOne rfl (by kernel_rfl) oInts))).imp
    (by rintro w cs ⟨_, _, rfl, ⟨n, rfl⟩, xs, A, c, rfl, h⟩; exact ⟨⟨n, xs⟩, (A, c), rfl, h⟩)
theorem oAcks : OpP Tryz.prog 28 1 (fun w cs => ∃ (xs : List Ack) (A : Option Addr) (c : Nat), cs = [.slice A xs.length c] ∧ RoRow rAck w A xs) := opSlice Tryz.underlying28 (by kernel_rfl) oAck
theorem oDisk : OpP Tryz.prog 24 3 (fun w cs => ∃ (p k : Int) (xs : List Slot) (A : Option Addr) (c : Nat), cs = [.int .i64 p, .int .i64 k, .slice A xs.length c] ∧ RoRow (rSlot true) w A xs) :=
  (opStruct Tryz.underlying24 (by kernel_rfl) (opCons rfl (by kernel_rfl) oInt (by decide) (opCons rfl (by kernel_rfl) oInt (by decide) (opOne rfl (by kernel_rfl) oSlots)))).imp
    (by rintro w cs ⟨_, _, rfl, ⟨n, rfl⟩, _, _, rfl, ⟨k, rfl⟩, xs, A, c, rfl, h⟩; exact ⟨n, k, xs, A, c, rfl, h⟩)
theorem oRcd : OpP Tryz.prog 30 18 (fun w cs => ∃ x i, cs = encRcd x i ∧ RoRcd true w x i) :=
  (opStruct Tryz.underlying30 (by kernel_rfl) (opCons rfl (by kernel_rfl) oInt (by decide) (opCons rfl (by kernel_rfl) oInt (by decide) (opCons rfl (by kernel_rfl) oBool (by decide) (opCons rfl (by kernel_rfl) oDisk (by decide) (opCons rfl (by kernel_rfl) oDisk (by decide) (opCons rfl (by kernel_rfl) oMsgs (by decide) (opCons rfl (by kernel_rfl) oStrs (by decide) (opCons rfl (by kernel_rfl) oBool (by decide) (opCons rfl (by kernel_rfl) oBool (by decide) (opCons rfl (by kernel_rfl) oInt (by decide) (opCons rfl (by kernel_rfl) oInts (by decide) (opCons rfl (by kernel_rfl) oSlots (by decide) (opCons rfl (by kernel_rfl) oAcks (by decide) (opOne rfl (by kernel_rfl) oInt))))))))))))))).imp
    (by
      rintro w cs ⟨_, _, rfl, ⟨n0, rfl⟩, _, _, rfl, ⟨n1, rfl⟩, _, _, rfl, ⟨b2, rfl⟩, _, _, rfl, ⟨n3, n4, x5, A5, c5, rfl, h5⟩, _, _, rfl, ⟨n6, n7, x8, A8, c8, rfl, h8⟩, _, _, rfl, ⟨x9, A9, c9, rfl, h9⟩, _, _, rfl, ⟨x10, A10, c10, rfl, h10⟩, _, _, rfl, ⟨b11, rfl⟩, _, _, rfl, ⟨b12, rfl⟩, _, _, rfl, ⟨n13, rfl⟩, _, _, rfl, ⟨x14, A14, c14, rfl, h14⟩, _, _, rfl, ⟨x15, A15, c15, rfl, h15⟩, _, _, rfl, ⟨x16, A16, c16, rfl, h16⟩, n17, rfl⟩
      exact ⟨⟨n0, n1, b2, n3, n4, x5, n6, n7, x8, x9, x10, b11, b12, n13, x14, x15, x16, n17⟩, ⟨(A5, c5), (A8, c8), (A9, c9), (A10, c10), (A14, c14), (A15, c15), (A16, c16)⟩, rfl, ⟨h5, h8, h9, h10, h14, h15, h16⟩⟩)
end Go.Proofs.YtkfogbonjpdkbaaGreat.Sp
