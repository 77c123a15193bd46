/- The to functions of the laws: rows of the call's own, filled with what came in. No condition. -/
import Derived.Test.Ytjeijflpejhkhaasz
namespace Go.Proofs.Ytjeijflpejhkhaa.Sp
open Go Go.RowKit
set_option linter.unusedVariables false
set_option linter.unusedSimpArgs false
set_option maxRecDepth 10000
set_option maxHeartbeats 4000000
variable {w0 W : World} {L : List Asn} {A : Option Addr} {c : Nat} {b : Bool}

theorem toIntS {xs : List Int} (h : RoRow rInt w0 A xs) (hn : xs.length ≤ 1048576) (HM : Mem w0 W L) : Calls Try.prog 58 #[.slice A xs.length c] W fun e W' => ∃ A' c', e = .returned (.slice A' xs.length c') ∧ Mem w0 W' (own tInt 3 A' c' xs :: L) := by
  refine enter Try.func58 rfl Try.ntmps58 [(0, _)] rfl ⟨rfl, trivial⟩ ?_
  replace HM := HM.pur h
  repeat (first | (refine s_make (tInt) HM rfl rfl rfl (by omega) rfl ?_; intro A1 W1 HM1; clear HM; have HM := HM1; clear HM1) | (refine gGP ?_; first | refine gp (p_move rfl) ?_ | refine gp (p_assign rfl) ?_ | refine gp (p_len rfl) ?_) | (refine gL ?_; first | refine s_gp rfl rfl ?_ | refine l_nil ?_) | (refine gC ?_; first | refine c_seq ?_ | refine c_region ?_ | refine c_block ?_) | (refine gN ?_; refine n_then ?_))
  refine c_loop (σ := Nat) (fun i => [(0, .slice A xs.length c), (3, .slice A1 xs.length xs.length), (4, .int .i64 i)]) (fun i W1 => i ≤ xs.length ∧ ∃ ys, ys.length = xs.length ∧ (∀ j, j < i → ys[j]? = xs[j]?) ∧ Mem w0 W1 (own tInt 3 A1 xs.length ys :: ro rInt w0 A xs :: L)) (fun i => xs.length - i) 0 (by repeat (first | exact trivial | refine And.intro (by first | rfl | exact look_int rfl (by omega)) ?_)) ⟨Nat.zero_le _, _, List.length_replicate .., fun j hj => by omega, HM⟩ ?_
  clear HM
  rintro i W1 ⟨hi, ys, hl, hy, HM⟩
  by_cases hlt : i < xs.length
  · repeat (first | (refine gGP ?_; first | refine gp (p_move rfl) ?_ | refine gp (p_assign rfl) ?_ | (refine gGB ?_; first | refine gp (p_lss rfl rfl) ?_ | refine gp (p_add rfl rfl (by exact wr (by omega) (by omega))) ?_) | refine gp (p_indexo HM rfl (by first | with_reducible rfl | omega) rfl (by omega) (by omega)) ?_ | refine gp (p_indexr HM rfl (by first | with_reducible rfl | omega) rfl (by omega) (by omega)) ?_ | refine gp (p_len rfl) ?_) | (refine gGV ?_; refine gv (p_loadr rfl rfl (by omega) (by omega) rfl) ?_) | (refine gL ?_; first | refine s_gp rfl rfl ?_ | refine s_gv HM rfl ?_ | (refine gStore ?_; (refine s_storeo HM rfl rfl rfl (by omega) (by omega) rfl ?_; intro W1 HM1; clear HM; have HM := HM1; clear HM1; (try dsimp only at HM))) | refine l_nil ?_) | (refine gC ?_; first | refine c_seq ?_ | refine c_region ?_ | refine c_block ?_ | refine c_skip ?_ | refine c_yes rfl (by (simp; omega)) ?_) | (refine gN ?_; first | refine n_then ?_ | refine n_block ?_))
    rw [Int.toNat_natCast] at HM
    exact n_round (i + 1) (by repeat (first | exact trivial | refine And.intro (by first | rfl | exact look_int rfl (by omega)) ?_)) ⟨by omega, _, by rw [List.length_set]; exact hl, fill_set hl hy hlt (rdR_at (D := rInt) hlt), HM.sb⟩ (by omega)
  · repeat (first | (refine gGP ?_; first | refine gp (p_move rfl) ?_ | refine gp (p_assign rfl) ?_ | (refine gGB ?_; refine gp (p_lss rfl rfl) ?_) | refine gp (p_len rfl) ?_) | (refine gL ?_; first | refine s_gp rfl rfl ?_ | refine l_nil ?_) | (refine gC ?_; first | refine c_seq ?_ | refine c_region ?_ | refine c_exit ?_ | refine c_ret ?_ | refine c_no rfl (by (simp; omega)) ?_) | (refine gN ?_; first | refine n_then ?_ | refine x_then ?_ | refine x_here ?_))
    obtain rfl : i = xs.length := by omega
    obtain rfl := fill_end hl hy
    exact ret_tmp rfl rfl ⟨A1, _, rfl, HM.sb⟩

theorem toStrS {xs : List ByteArray} (h : RoRow (rStr b) w0 A xs) (hn : xs.length ≤ 1048576) (HM : Mem w0 W L) : Calls Try.prog 57 #[.slice A xs.length c] W fun e W' => ∃ A' c', e = .returned (.slice A' xs.length c') ∧ Mem w0 W' (own tStr 9 A' c' xs :: L) := by
  refine enter Try.func57 rfl Try.ntmps57 [(0, _)] rfl ⟨rfl, trivial⟩ ?_
  replace HM := HM.pur h
  repeat (first | (refine s_make (tStr) HM rfl rfl rfl (by omega) rfl ?_; intro A1 W1 HM1; clear HM; have HM := HM1; clear HM1) | (refine gGP ?_; first | refine gp (p_move rfl) ?_ | refine gp (p_assign rfl) ?_ | refine gp (p_len rfl) ?_) | (refine gL ?_; first | refine s_gp rfl rfl ?_ | refine l_nil ?_) | (refine gC ?_; first | refine c_seq ?_ | refine c_region ?_ | refine c_block ?_) | (refine gN ?_; refine n_then ?_))
  refine c_loop (σ := Nat) (fun i => [(0, .slice A xs.length c), (3, .slice A1 xs.length xs.length), (4, .int .i64 i)]) (fun i W1 => i ≤ xs.length ∧ ∃ ys, ys.length = xs.length ∧ (∀ j, j < i → ys[j]? = xs[j]?) ∧ Mem w0 W1 (own tStr 9 A1 xs.length ys :: ro (rStr b) w0 A xs :: L)) (fun i => xs.length - i) 0 (by repeat (first | exact trivial | refine And.intro (by first | rfl | exact look_int rfl (by omega)) ?_)) ⟨Nat.zero_le _, _, List.length_replicate .., fun j hj => by omega, HM⟩ ?_
  clear HM
  rintro i W1 ⟨hi, ys, hl, hy, HM⟩
  by_cases hlt : i < xs.length
  · repeat (first | (refine gGP ?_; first | refine gp (p_move rfl) ?_ | refine gp (p_assign rfl) ?_ | (refine gGB ?_; first | refine gp (p_lss rfl rfl) ?_ | refine gp (p_add rfl rfl (by exact wr (by omega) (by omega))) ?_) | refine gp (p_indexo HM rfl (by first | with_reducible rfl | omega) rfl (by omega) (by omega)) ?_ | refine gp (p_indexr HM rfl (by first | with_reducible rfl | omega) rfl (by omega) (by omega)) ?_ | refine gp (p_len rfl) ?_) | (refine gGV ?_; refine gv (p_loadr rfl rfl (by omega) (by omega) rfl) ?_) | (refine gL ?_; first | refine s_gp rfl rfl ?_ | refine s_gv HM rfl ?_ | (refine gStore ?_; (refine s_storeo HM rfl rfl rfl (by omega) (by omega) rfl ?_; intro W1 HM1; clear HM; have HM := HM1; clear HM1; (try dsimp only at HM))) | refine l_nil ?_) | (refine gC ?_; first | refine c_seq ?_ | refine c_region ?_ | refine c_block ?_ | refine c_skip ?_ | refine c_yes rfl (by (simp; omega)) ?_) | (refine gN ?_; first | refine n_then ?_ | refine n_block ?_))
    rw [Int.toNat_natCast] at HM
    exact n_round (i + 1) (by repeat (first | exact trivial | refine And.intro (by first | rfl | exact look_int rfl (by omega)) ?_)) ⟨by omega, _, by rw [List.length_set]; exact hl, fill_set hl hy hlt (rdR_at (D := rStr b) hlt), HM.sb⟩ (by omega)
  · repeat (first | (refine gGP ?_; first | refine gp (p_move rfl) ?_ | refine gp (p_assign rfl) ?_ | (refine gGB ?_; refine gp (p_lss rfl rfl) ?_) | refine gp (p_len rfl) ?_) | (refine gL ?_; first | refine s_gp rfl rfl ?_ | refine l_nil ?_) | (refine gC ?_; first | refine c_seq ?_ | refine c_region ?_ | refine c_exit ?_ | refine c_ret ?_ | refine c_no rfl (by (simp; omega)) ?_) | (refine gN ?_; first | refine n_then ?_ | refine x_then ?_ | refine x_here ?_))
    obtain rfl : i = xs.length := by omega
    obtain rfl := fill_end hl hy
    exact ret_tmp rfl rfl ⟨A1, _, rfl, HM.sb⟩

theorem toSlot (x : Slot) (HM : Mem w0 W L) : Calls Try.prog 72 #[.agg (encSlot x ()).toArray] W fun e W' => e = .returned (.agg (encSlot x ()).toArray) ∧ Mem w0 W' L := by
  refine enter Try.func72 rfl Try.ntmps72 [(0, .agg (encSlot x ()).toArray)] rfl ⟨rfl, trivial⟩ ?_
  unfold encSlot
  repeat (first | (refine gGP ?_; refine gp (p_field rfl (by simp only [Nat.reduceAdd]; rfl)) ?_) | (refine gGV ?_; first | refine gv (p_load rfl) ?_ | refine gv (p_loads rfl) ?_) | (refine gL ?_; first | refine s_gp rfl rfl ?_ | refine s_gv HM rfl ?_ | (refine gStore ?_; (refine s_store HM rfl rfl rfl rfl ?_; intro W1 HM1; clear HM; have HM := HM1; clear HM1)) | (refine s_box HM rfl rfl ?_; intro g W1 HM1; clear HM; have HM := HM1; clear HM1) | (refine s_alloc HM rfl ?_; intro g W1 HM1; clear HM; have HM := HM1; clear HM1) | refine l_nil ?_) | (refine gC ?_; first | refine c_seq ?_ | refine c_region ?_ | refine c_ret ?_) | (refine gN ?_; refine n_then ?_))
  exact ret_cell HM rfl rfl rfl ⟨rfl, HM.sb⟩

theorem toSlotS {xs : List Slot} (h : RoRow (rSlot b) w0 A xs) (hn : xs.length ≤ 1048576) (HM : Mem w0 W L) : Calls Try.prog 59 #[.slice A xs.length c] W fun e W' => ∃ A' c', e = .returned (.slice A' xs.length c') ∧ Mem w0 W' (own tSlot 80 A' c' xs :: L) := by
  refine enter Try.func59 rfl Try.ntmps59 [(0, _)] rfl ⟨rfl, trivial⟩ ?_
  replace HM := HM.pur h
  repeat (first | (refine s_make (tSlot) HM rfl rfl rfl (by omega) rfl ?_; intro A1 W1 HM1; clear HM; have HM := HM1; clear HM1) | (refine gGP ?_; first | refine gp (p_move rfl) ?_ | refine gp (p_assign rfl) ?_ | refine gp (p_len rfl) ?_) | (refine gL ?_; first | refine s_gp rfl rfl ?_ | refine l_nil ?_) | (refine gC ?_; first | refine c_seq ?_ | refine c_region ?_ | refine c_block ?_) | (refine gN ?_; refine n_then ?_))
  refine c_loop (σ := Nat) (fun i => [(0, .slice A xs.length c), (3, .slice A1 xs.length xs.length), (4, .int .i64 i)]) (fun i W1 => i ≤ xs.length ∧ ∃ ys, ys.length = xs.length ∧ (∀ j, j < i → ys[j]? = xs[j]?) ∧ Mem w0 W1 (own tSlot 80 A1 xs.length ys :: ro (rSlot b) w0 A xs :: L)) (fun i => xs.length - i) 0 (by repeat (first | exact trivial | refine And.intro (by first | rfl | exact look_int rfl (by omega)) ?_)) ⟨Nat.zero_le _, _, List.length_replicate .., fun j hj => by omega, HM⟩ ?_
  clear HM
  rintro i W1 ⟨hi, ys, hl, hy, HM⟩
  by_cases hlt : i < xs.length
  · obtain ⟨cc, ⟨j, rfl, hs⟩, HM⟩ := HM.roOpen (A := A) i hlt
    repeat (first | (refine gGP ?_; first | refine gp (p_move rfl) ?_ | refine gp (p_assign rfl) ?_ | (refine gGB ?_; first | refine gp (p_lss rfl rfl) ?_ | refine gp (p_add rfl rfl (by exact wr (by omega) (by omega))) ?_) | refine gp (p_indexo HM rfl (by first | with_reducible rfl | omega) rfl (by omega) (by omega)) ?_ | refine gp (p_indexr HM rfl (by first | with_reducible rfl | omega) rfl (by omega) (by omega)) ?_ | refine gp (p_len rfl) ?_) | (refine gGV ?_; refine gv (p_loadwr rfl rfl rfl) ?_) | (refine gL ?_; first | refine s_gp rfl rfl ?_ | refine s_gv HM rfl ?_ | (refine gStore ?_; (refine s_storew HM rfl rfl rfl (by omega) (by omega) rfl ?_; intro W1 HM1; clear HM; have HM := HM1; clear HM1)) | (refine gCall ?_; (refine s_fn rfl rfl ?_; (go_at_call 72; refine (toSlot _ HM).mono ?_; rintro e W1 ⟨rfl, HM1⟩; refine ⟨_, rfl, ?_⟩; clear HM; have HM := HM1; clear HM1))) | refine l_nil ?_) | (refine gC ?_; first | refine c_seq ?_ | refine c_region ?_ | refine c_block ?_ | refine c_skip ?_ | refine c_yes rfl (by (simp; omega)) ?_) | (refine gN ?_; first | refine n_then ?_ | refine n_block ?_))
    rw [Int.toNat_natCast] at HM
    exact n_round (i + 1) (by repeat (first | exact trivial | refine And.intro (by first | rfl | exact look_int rfl (by omega)) ?_)) ⟨by omega, _, by rw [List.length_set]; exact hl, fill_set hl hy hlt rfl, HM.sb⟩ (by omega)
  · repeat (first | (refine gGP ?_; first | refine gp (p_move rfl) ?_ | refine gp (p_assign rfl) ?_ | (refine gGB ?_; refine gp (p_lss rfl rfl) ?_) | refine gp (p_len rfl) ?_) | (refine gL ?_; first | refine s_gp rfl rfl ?_ | refine l_nil ?_) | (refine gC ?_; first | refine c_seq ?_ | refine c_region ?_ | refine c_exit ?_ | refine c_ret ?_ | refine c_no rfl (by (simp; omega)) ?_) | (refine gN ?_; first | refine n_then ?_ | refine x_then ?_ | refine x_here ?_))
    obtain rfl : i = xs.length := by omega
    obtain rfl := fill_end hl hy
    exact ret_tmp rfl rfl ⟨A1, _, rfl, HM.sb⟩

theorem toMsg (x : Msg) (i : At) (h : RoRow (rSlot b) w0 i.1 x.slots) (hn : x.slots.length ≤ 1048576) (HM : Mem w0 W L) : Calls Try.prog 35 #[.agg (encMsg x i).toArray] W fun e W' => ∃ j, e = .returned (.agg (encMsg x j).toArray) ∧ Mem w0 W' (own tSlot 80 j.1 j.2 x.slots :: L) := by
  refine enter Try.func35 rfl Try.ntmps35 [(0, .agg (encMsg x i).toArray)] rfl ⟨rfl, trivial⟩ ?_
  unfold encMsg
  repeat (first | (refine gGP ?_; refine gp (p_field rfl (by simp only [Nat.reduceAdd]; rfl)) ?_) | (refine gGV ?_; first | refine gv (p_load rfl) ?_ | refine gv (p_loads rfl) ?_) | (refine gL ?_; first | refine s_gp rfl rfl ?_ | refine s_gv HM rfl ?_ | (refine gStore ?_; (refine s_store HM rfl rfl rfl rfl ?_; intro W1 HM1; clear HM; have HM := HM1; clear HM1)) | (refine gCall ?_; (refine s_fn rfl rfl ?_; (go_at_call 59; refine (toSlotS h hn HM).mono ?_; rintro e W1 ⟨A2, c2, rfl, HM1⟩; refine ⟨_, rfl, ?_⟩; clear HM; have HM := HM1; clear HM1))) | (refine s_box HM rfl rfl ?_; intro g W1 HM1; clear HM; have HM := HM1; clear HM1) | (refine s_alloc HM rfl ?_; intro g W1 HM1; clear HM; have HM := HM1; clear HM1) | refine l_nil ?_) | (refine gC ?_; first | refine c_seq ?_ | refine c_region ?_ | refine c_ret ?_) | (refine gN ?_; refine n_then ?_))
  exact ret_cell HM rfl rfl rfl ⟨(A2, c2), rfl, HM.sb⟩
theorem toAck (x : Ack) (i : At) (h : RoRow rInt w0 i.1 x.frm) (hn : x.frm.length ≤ 1048576) (HM : Mem w0 W L) : Calls Try.prog 73 #[.agg (encAck x i).toArray] W fun e W' => ∃ j, e = .returned (.agg (encAck x j).toArray) ∧ Mem w0 W' (own tInt 3 j.1 j.2 x.frm :: L) := by
  refine enter Try.func73 rfl Try.ntmps73 [(0, .agg (encAck x i).toArray)] rfl ⟨rfl, trivial⟩ ?_
  unfold encAck
  repeat (first | (refine gGP ?_; refine gp (p_field rfl (by simp only [Nat.reduceAdd]; rfl)) ?_) | (refine gGV ?_; first | refine gv (p_load rfl) ?_ | refine gv (p_loads rfl) ?_) | (refine gL ?_; first | refine s_gp rfl rfl ?_ | refine s_gv HM rfl ?_ | (refine gStore ?_; (refine s_store HM rfl rfl rfl rfl ?_; intro W1 HM1; clear HM; have HM := HM1; clear HM1)) | (refine gCall ?_; (refine s_fn rfl rfl ?_; (go_at_call 58; refine (toIntS h hn HM).mono ?_; rintro e W1 ⟨A2, c2, rfl, HM1⟩; refine ⟨_, rfl, ?_⟩; clear HM; have HM := HM1; clear HM1))) | (refine s_box HM rfl rfl ?_; intro g W1 HM1; clear HM; have HM := HM1; clear HM1) | (refine s_alloc HM rfl ?_; intro g W1 HM1; clear HM; have HM := HM1; clear HM1) | refine l_nil ?_) | (refine gC ?_; first | refine c_seq ?_ | refine c_region ?_ | refine c_ret ?_) | (refine gN ?_; refine n_then ?_))
  exact ret_cell HM rfl rfl rfl ⟨(A2, c2), rfl, HM.sb⟩
theorem toDisk (p q : Int) {xs : List Slot} (h : RoRow (rSlot b) w0 A xs) (hn : xs.length ≤ 1048576) (HM : Mem w0 W L) : Calls Try.prog 56 #[.agg #[.int .i64 p, .int .i64 q, .slice A xs.length c]] W fun e W' => ∃ j : At, e = .returned (.agg #[.int .i64 p, .int .i64 q, .slice j.1 xs.length j.2]) ∧ Mem w0 W' (own tSlot 80 j.1 j.2 xs :: L) := by
  refine enter Try.func56 rfl Try.ntmps56 [(0, .agg #[.int .i64 p, .int .i64 q, .slice A xs.length c])] rfl ⟨rfl, trivial⟩ ?_
  repeat (first | (refine gGP ?_; refine gp (p_field rfl (by simp only [Nat.reduceAdd]; rfl)) ?_) | (refine gGV ?_; first | refine gv (p_load rfl) ?_ | refine gv (p_loads rfl) ?_) | (refine gL ?_; first | refine s_gp rfl rfl ?_ | refine s_gv HM rfl ?_ | (refine gStore ?_; (refine s_store HM rfl rfl rfl rfl ?_; intro W1 HM1; clear HM; have HM := HM1; clear HM1)) | (refine gCall ?_; (refine s_fn rfl rfl ?_; (go_at_call 59; refine (toSlotS h hn HM).mono ?_; rintro e W1 ⟨A2, c2, rfl, HM1⟩; refine ⟨_, rfl, ?_⟩; clear HM; have HM := HM1; clear HM1))) | (refine s_box HM rfl rfl ?_; intro g W1 HM1; clear HM; have HM := HM1; clear HM1) | (refine s_alloc HM rfl ?_; intro g W1 HM1; clear HM; have HM := HM1; clear HM1) | refine l_nil ?_) | (refine gC ?_; first | refine c_seq ?_ | refine c_region ?_ | refine c_ret ?_) | (refine gN ?_; refine n_then ?_))
  exact ret_cell HM rfl rfl rfl ⟨(A2, c2), rfl, HM.sb⟩

theorem toMsgS {xs : List Msg} (h : RoRow (rMsg b) w0 A xs) (hn : xs.length ≤ 1048576) (hm : ∀ y ∈ xs, y.slots.length ≤ 1048576) (HM : Mem w0 W L) : Calls Try.prog 18 #[.slice A xs.length c] W fun e W' => ∃ A' c', e = .returned (.slice A' xs.length c') ∧ Mem w0 W' (own (tMsg 80) 77 A' c' xs :: L) := by
  refine enter Try.func18 rfl Try.ntmps18 [(0, _)] rfl ⟨rfl, trivial⟩ ?_
  replace HM := HM.pur h
  repeat (first | (refine s_make ((tMsg 80)) HM rfl rfl rfl (by omega) rfl ?_; intro A1 W1 HM1; clear HM; have HM := HM1; clear HM1) | (refine gGP ?_; first | refine gp (p_move rfl) ?_ | refine gp (p_assign rfl) ?_ | refine gp (p_len rfl) ?_) | (refine gL ?_; first | refine s_gp rfl rfl ?_ | refine l_nil ?_) | (refine gC ?_; first | refine c_seq ?_ | refine c_region ?_ | refine c_block ?_) | (refine gN ?_; refine n_then ?_))
  refine c_loop (σ := Nat) (fun i => [(0, .slice A xs.length c), (3, .slice A1 xs.length xs.length), (4, .int .i64 i)]) (fun i W1 => i ≤ xs.length ∧ ∃ ys, ys.length = xs.length ∧ (∀ j, j < i → ys[j]? = xs[j]?) ∧ Mem w0 W1 (own (tMsg 80) 77 A1 xs.length ys :: ro (rMsg b) w0 A xs :: L)) (fun i => xs.length - i) 0 (by repeat (first | exact trivial | refine And.intro (by first | rfl | exact look_int rfl (by omega)) ?_)) ⟨Nat.zero_le _, _, List.length_replicate .., fun j hj => by omega, HM⟩ ?_
  clear HM
  rintro i W1 ⟨hi, ys, hl, hy, HM⟩
  by_cases hlt : i < xs.length
  · obtain ⟨cc, ⟨j, rfl, ht, hs⟩, HM⟩ := HM.roOpen (A := A) i hlt
    have hmi := hm _ (List.getElem_mem hlt)
    repeat (first | (refine gGP ?_; first | refine gp (p_move rfl) ?_ | refine gp (p_assign rfl) ?_ | (refine gGB ?_; first | refine gp (p_lss rfl rfl) ?_ | refine gp (p_add rfl rfl (by exact wr (by omega) (by omega))) ?_) | refine gp (p_indexo HM rfl (by first | with_reducible rfl | omega) rfl (by omega) (by omega)) ?_ | refine gp (p_indexr HM rfl (by first | with_reducible rfl | omega) rfl (by omega) (by omega)) ?_ | refine gp (p_len rfl) ?_) | (refine gGV ?_; refine gv (p_loadwr rfl rfl rfl) ?_) | (refine gL ?_; first | refine s_gp rfl rfl ?_ | refine s_gv HM rfl ?_ | (refine gStore ?_; (refine s_storew HM rfl rfl rfl (by omega) (by omega) rfl ?_; intro W1 HM1; clear HM; have HM := HM1; clear HM1)) | (refine gCall ?_; (refine s_fn rfl rfl ?_; (go_at_call 35; refine (toMsg _ _ hs hmi HM).mono ?_; rintro e W1 ⟨j2, rfl, HM1⟩; refine ⟨_, rfl, ?_⟩; clear HM; have HM := HM1; clear HM1))) | refine l_nil ?_) | (refine gC ?_; first | refine c_seq ?_ | refine c_region ?_ | refine c_block ?_ | refine c_skip ?_ | refine c_yes rfl (by (simp; omega)) ?_) | (refine gN ?_; first | refine n_then ?_ | refine n_block ?_))
    rw [Int.toNat_natCast] at HM
    exact n_round (i + 1) (by repeat (first | exact trivial | refine And.intro (by first | rfl | exact look_int rfl (by omega)) ?_)) ⟨by omega, _, by rw [List.length_set]; exact hl, fill_set hl hy hlt rfl, HM.sb⟩ (by omega)
  · repeat (first | (refine gGP ?_; first | refine gp (p_move rfl) ?_ | refine gp (p_assign rfl) ?_ | (refine gGB ?_; refine gp (p_lss rfl rfl) ?_) | refine gp (p_len rfl) ?_) | (refine gL ?_; first | refine s_gp rfl rfl ?_ | refine l_nil ?_) | (refine gC ?_; first | refine c_seq ?_ | refine c_region ?_ | refine c_exit ?_ | refine c_ret ?_ | refine c_no rfl (by (simp; omega)) ?_) | (refine gN ?_; first | refine n_then ?_ | refine x_then ?_ | refine x_here ?_))
    obtain rfl : i = xs.length := by omega
    obtain rfl := fill_end hl hy
    exact ret_tmp rfl rfl ⟨A1, _, rfl, HM.sb⟩

theorem toAckS {xs : List Ack} (h : RoRow rAck w0 A xs) (hn : xs.length ≤ 1048576) (hm : ∀ y ∈ xs, y.frm.length ≤ 1048576) (HM : Mem w0 W L) : Calls Try.prog 60 #[.slice A xs.length c] W fun e W' => ∃ A' c', e = .returned (.slice A' xs.length c') ∧ Mem w0 W' (own (tAck 3) 107 A' c' xs :: L) := by
  refine enter Try.func60 rfl Try.ntmps60 [(0, _)] rfl ⟨rfl, trivial⟩ ?_
  replace HM := HM.pur h
  repeat (first | (refine s_make ((tAck 3)) HM rfl rfl rfl (by omega) rfl ?_; intro A1 W1 HM1; clear HM; have HM := HM1; clear HM1) | (refine gGP ?_; first | refine gp (p_move rfl) ?_ | refine gp (p_assign rfl) ?_ | refine gp (p_len rfl) ?_) | (refine gL ?_; first | refine s_gp rfl rfl ?_ | refine l_nil ?_) | (refine gC ?_; first | refine c_seq ?_ | refine c_region ?_ | refine c_block ?_) | (refine gN ?_; refine n_then ?_))
  refine c_loop (σ := Nat) (fun i => [(0, .slice A xs.length c), (3, .slice A1 xs.length xs.length), (4, .int .i64 i)]) (fun i W1 => i ≤ xs.length ∧ ∃ ys, ys.length = xs.length ∧ (∀ j, j < i → ys[j]? = xs[j]?) ∧ Mem w0 W1 (own (tAck 3) 107 A1 xs.length ys :: ro rAck w0 A xs :: L)) (fun i => xs.length - i) 0 (by repeat (first | exact trivial | refine And.intro (by first | rfl | exact look_int rfl (by omega)) ?_)) ⟨Nat.zero_le _, _, List.length_replicate .., fun j hj => by omega, HM⟩ ?_
  clear HM
  rintro i W1 ⟨hi, ys, hl, hy, HM⟩
  by_cases hlt : i < xs.length
  · obtain ⟨cc, ⟨j, rfl, hs⟩, HM⟩ := HM.roOpen (A := A) i hlt
    have hmi := hm _ (List.getElem_mem hlt)
    repeat (first | (refine gGP ?_; first | refine gp (p_move rfl) ?_ | refine gp (p_assign rfl) ?_ | (refine gGB ?_; first | refine gp (p_lss rfl rfl) ?_ | refine gp (p_add rfl rfl (by exact wr (by omega) (by omega))) ?_) | refine gp (p_indexo HM rfl (by first | with_reducible rfl | omega) rfl (by omega) (by omega)) ?_ | refine gp (p_indexr HM rfl (by first | with_reducible rfl | omega) rfl (by omega) (by omega)) ?_ | refine gp (p_len rfl) ?_) | (refine gGV ?_; refine gv (p_loadwr rfl rfl rfl) ?_) | (refine gL ?_; first | refine s_gp rfl rfl ?_ | refine s_gv HM rfl ?_ | (refine gStore ?_; (refine s_storew HM rfl rfl rfl (by omega) (by omega) rfl ?_; intro W1 HM1; clear HM; have HM := HM1; clear HM1)) | (refine gCall ?_; (refine s_fn rfl rfl ?_; (go_at_call 73; refine (toAck _ _ hs hmi HM).mono ?_; rintro e W1 ⟨j2, rfl, HM1⟩; refine ⟨_, rfl, ?_⟩; clear HM; have HM := HM1; clear HM1))) | refine l_nil ?_) | (refine gC ?_; first | refine c_seq ?_ | refine c_region ?_ | refine c_block ?_ | refine c_skip ?_ | refine c_yes rfl (by (simp; omega)) ?_) | (refine gN ?_; first | refine n_then ?_ | refine n_block ?_))
    rw [Int.toNat_natCast] at HM
    exact n_round (i + 1) (by repeat (first | exact trivial | refine And.intro (by first | rfl | exact look_int rfl (by omega)) ?_)) ⟨by omega, _, by rw [List.length_set]; exact hl, fill_set hl hy hlt rfl, HM.sb⟩ (by omega)
  · repeat (first | (refine gGP ?_; first | refine gp (p_move rfl) ?_ | refine gp (p_assign rfl) ?_ | (refine gGB ?_; refine gp (p_lss rfl rfl) ?_) | refine gp (p_len rfl) ?_) | (refine gL ?_; first | refine s_gp rfl rfl ?_ | refine l_nil ?_) | (refine gC ?_; first | refine c_seq ?_ | refine c_region ?_ | refine c_exit ?_ | refine c_ret ?_ | refine c_no rfl (by (simp; omega)) ?_) | (refine gN ?_; first | refine n_then ?_ | refine x_then ?_ | refine x_here ?_))
    obtain rfl : i = xs.length := by omega
    obtain rfl := fill_end hl hy
    exact ret_tmp rfl rfl ⟨A1, _, rfl, HM.sb⟩

theorem toRec (x : Rcd) (i : AtRcd) (h : RoRcd b w0 x i) (hn : SmallR x) (HM : Mem w0 W L) : Calls Try.prog 34 #[.agg (encRcd x i).toArray] W fun e W' => ∃ j, e = .returned (.agg (encRcd x j).toArray) ∧ Mem w0 W' (partRcd 80 77 9 3 107 x j ++ L) := by
  refine enter Try.func34 rfl Try.ntmps34 [(0, .agg (encRcd x i).toArray)] rfl ⟨rfl, trivial⟩ ?_
  unfold encRcd
  repeat (first | (refine gGP ?_; refine gp (p_field rfl (by simp only [Nat.reduceAdd]; rfl)) ?_) | (refine gGV ?_; first | refine gv (p_load rfl) ?_ | refine gv (p_loads rfl) ?_) | (refine gL ?_; first | refine s_gp rfl rfl ?_ | refine s_gv HM rfl ?_ | (refine gStore ?_; (refine s_store HM rfl rfl rfl rfl ?_; intro W1 HM1; clear HM; have HM := HM1; clear HM1)) | (refine gCall ?_; (refine s_fn rfl rfl ?_; first | (go_at_call 56; refine (toDisk _ _ (by first | with_reducible exact h.ss | with_reducible exact h.ds) (by first | with_reducible exact hn.ss | with_reducible exact hn.ds) HM).mono ?_; rintro e W1 ⟨j1, rfl, HM1⟩; refine ⟨_, rfl, ?_⟩; clear HM; have HM := HM1; clear HM1) | (go_at_call 18; refine (toMsgS h.held hn.held hn.helds HM).mono ?_; rintro e W1 ⟨A2, c2, rfl, HM1⟩; refine ⟨_, rfl, ?_⟩; clear HM; have HM := HM1; clear HM1) | (go_at_call 57; refine (toStrS h.wishes hn.wishes HM).mono ?_; rintro e W1 ⟨A3, c3, rfl, HM1⟩; refine ⟨_, rfl, ?_⟩; clear HM; have HM := HM1; clear HM1) | (go_at_call 58; refine (toIntS h.yes hn.yes HM).mono ?_; rintro e W1 ⟨A4, c4, rfl, HM1⟩; refine ⟨_, rfl, ?_⟩; clear HM; have HM := HM1; clear HM1) | (go_at_call 59; refine (toSlotS h.best hn.best HM).mono ?_; rintro e W1 ⟨A5, c5, rfl, HM1⟩; refine ⟨_, rfl, ?_⟩; clear HM; have HM := HM1; clear HM1) | (go_at_call 60; refine (toAckS h.acks hn.acks hn.ackss HM).mono ?_; rintro e W1 ⟨A6, c6, rfl, HM1⟩; refine ⟨_, rfl, ?_⟩; clear HM; have HM := HM1; clear HM1))) | (refine s_box HM rfl rfl ?_; intro g W1 HM1; clear HM; have HM := HM1; clear HM1) | (refine s_alloc HM rfl ?_; intro g W1 HM1; clear HM; have HM := HM1; clear HM1) | refine l_nil ?_) | (refine gC ?_; first | refine c_seq ?_ | refine c_region ?_ | refine c_ret ?_) | (refine gN ?_; refine n_then ?_))
  refine ret_cell HM rfl rfl rfl ⟨⟨_, _, (A2, c2), (A3, c3), (A4, c4), (A5, c5), (A6, c6)⟩, rfl, ?_⟩
  simp only [partRcd, List.cons_append, List.nil_append]
  exact HM.sb
end Go.Proofs.Ytjeijflpejhkhaa.Sp
