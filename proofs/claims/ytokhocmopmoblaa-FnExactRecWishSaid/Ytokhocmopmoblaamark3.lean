/- mark and held of a recorder's rows, with what they hold. No condition. -/
import Derived.Test.Ytokhocmopmoblaamark
namespace Go.Proofs.Ytokhocmopmoblaa.Sp
open Go Go.RowKit
set_option linter.unusedVariables false
set_option linter.unusedSimpArgs false
set_option maxRecDepth 10000
set_option maxHeartbeats 4000000
variable {w0 W : World} {L : List Asn} {A : Option Addr} {c : Nat}
def SlotsAt (k : Int) (ys : List Slot) : Prop := ∀ j : Nat, j < ys.length → rd tSlot ys j = ⟨k + 2 * j, mt (k + 2 * j + 1).toNat⟩
def IntsAt (k : Int) (ys : List Int) : Prop := ∀ j : Nat, j < ys.length → rd tInt ys j = k + j
def StrsAt (k : Int) (ys : List ByteArray) : Prop := ∀ j : Nat, j < ys.length → rd tStr ys j = mt (k + j).toNat
structure MsgAt (p : Int) (l : Nat) (m : Msg) : Prop where
  kind : m.kind = p
  frm : m.frm = p + 1
  to : m.to = p + 1 + 1
  ballot : m.ballot = p + 1 + 1 + 1
  index : m.index = p + 1 + 1 + 1 + 1
  known : m.known = p + 1 + 1 + 1 + 1 + 1
  text : m.text = mt (p + 1 + 1 + 1 + 1 + 1 + 1).toNat
  len : m.slots.length = l
  slots : SlotsAt (p + 1 + 1 + 1 + 1 + 1 + 1 + 1) m.slots
structure AckAt (p : Int) (l : Nat) (m : Ack) : Prop where
  index : m.index = p
  len : m.frm.length = l
  frm : IntsAt (p + 1) m.frm
def su (ls : List Nat) (j : Nat) : Nat := (ls.take j).sum
theorem su_zero (ls : List Nat) : su ls 0 = 0 := rfl
theorem su_succ {ls : List Nat} {j : Nat} (h : j < ls.length) : su ls (j + 1) = su ls j + ls[j] := by
  unfold su; rw [List.take_succ_eq_append_getElem h, List.sum_append]; simp
theorem su_le {ls : List Nat} {B : Nat} (h : ∀ l ∈ ls, l ≤ B) : ∀ j, su ls j ≤ B * j
  | 0 => by simp [su_zero]
  | j + 1 => by
    have ih := su_le h j
    by_cases hj : j < ls.length
    · rw [su_succ hj]; have := h _ (List.getElem_mem hj); rw [Nat.mul_add]; omega
    · have : su ls (j + 1) = su ls j := by unfold su; rw [List.take_of_length_le (by omega), List.take_of_length_le (by omega)]
      rw [this, Nat.mul_add]; omega
def lsM (xs : List Msg) : List Nat := xs.map (fun m => m.slots.length)
def lsA (xs : List Ack) : List Nat := xs.map (fun m => m.frm.length)
def MsgsAt (k : Int) (ls : List Nat) (ys : List Msg) : Prop := ys.length = ls.length ∧ ∀ j (h : j < ys.length) (h2 : j < ls.length), MsgAt (k + 7 * j + 2 * su ls j) ls[j] ys[j]
def AcksAt (k : Int) (ls : List Nat) (ys : List Ack) : Prop := ys.length = ls.length ∧ ∀ j (h : j < ys.length) (h2 : j < ls.length), AckAt (k + j + su ls j) ls[j] ys[j]
theorem mkIntS {xs : List Int} (k : Int) (h0 : 0 < k) (h1 : k ≤ 1125899906842624) (hn : xs.length ≤ 1048576) (HM : Mem w0 W (own tInt 3 A c xs :: L)) :
    Calls Try.prog 43 #[.slice A xs.length c, .int .i64 k] W fun e W' => ∃ ys, e = .returned (.int .i64 (k + xs.length)) ∧ ys.length = xs.length ∧ IntsAt k ys ∧ Mem w0 W' (own tInt 3 A c ys :: L) := by
  refine enter Try.func43 rfl Try.ntmps43 [(0, _), (1, _)] rfl ⟨rfl, rfl, trivial⟩ ?_
  repeat (first | (refine gGP ?_; refine gp (p_assign rfl) ?_) | (refine gL ?_; first | refine s_gp rfl rfl ?_ | refine l_nil ?_) | (refine gC ?_; first | refine c_seq ?_ | refine c_region ?_ | refine c_block ?_) | (refine gN ?_; refine n_then ?_))
  refine c_loop (σ := Nat) (fun i => [(0, .slice A xs.length c), (1, .int .i64 (k + i)), (5, .int .i64 i)]) (fun i W1 => i ≤ xs.length ∧ ∃ ys, ys.length = xs.length ∧ (∀ j : Nat, j < i → rd tInt ys j = k + j) ∧ Mem w0 W1 (own tInt 3 A c ys :: L)) (fun i => xs.length - i) 0 (by repeat (first | exact trivial | refine And.intro (by first | rfl | exact look_int rfl (by omega)) ?_)) ⟨Nat.zero_le _, xs, rfl, fun j hj => by omega, HM⟩ ?_
  clear HM
  rintro i W1 ⟨hi, ys, hl, hy, HM⟩
  by_cases hlt : i < xs.length
  · repeat (first | (refine gGP ?_; first | refine gp (p_move rfl) ?_ | refine gp (p_assign rfl) ?_ | (refine gGB ?_; first | refine gp (p_lss rfl rfl) ?_ | refine gp (p_add rfl rfl (by exact wr (by omega) (by omega))) ?_) | refine gp (p_indexo HM rfl (by first | with_reducible rfl | omega) rfl (by omega) (by omega)) ?_ | refine gp (p_len rfl) ?_) | (refine gL ?_; first | refine s_gp rfl rfl ?_ | (refine gStore ?_; (refine s_storeo HM rfl rfl rfl (by omega) (by omega) rfl ?_; intro W1 HM1; clear HM; have HM := HM1; clear HM1; (try dsimp only at HM))) | refine l_nil ?_) | (refine gC ?_; first | refine c_seq ?_ | refine c_region ?_ | refine c_block ?_ | refine c_skip ?_ | refine c_yes rfl (by (simp; omega)) ?_) | (refine gN ?_; first | refine n_then ?_ | refine n_block ?_))
    refine n_round (i + 1) (by repeat (first | exact trivial | refine And.intro (by first | rfl | exact look_int rfl (by omega)) ?_)) ⟨by omega, _, by rw [List.length_set]; exact hl, fun j hj => ?_, HM⟩ (by omega)
    by_cases e : j = i
    · subst e
      exact rd_set (d := tInt) (xs := ys) (i := (j : Int)) (by omega) (by omega) _
    · rw [Int.toNat_natCast, rd_set_ne (fun h => e h.symm)]
      exact hy j (by omega)
  · repeat (first | (refine gGP ?_; first | refine gp (p_move rfl) ?_ | refine gp (p_assign rfl) ?_ | (refine gGB ?_; refine gp (p_lss rfl rfl) ?_) | refine gp (p_len rfl) ?_) | (refine gL ?_; first | refine s_gp rfl rfl ?_ | refine l_nil ?_) | (refine gC ?_; first | refine c_seq ?_ | refine c_region ?_ | refine c_exit ?_ | refine c_ret ?_ | refine c_no rfl (by (simp; omega)) ?_) | (refine gN ?_; first | refine n_then ?_ | refine x_then ?_ | refine x_here ?_))
    obtain rfl : i = xs.length := by omega
    exact ret_tmp rfl rfl ⟨ys, rfl, hl, fun j hj => hy j (by omega), HM⟩
theorem mkSlotS {xs : List Slot} (k : Int) (h0 : 0 < k) (h1 : k ≤ 1125899906842624) (hn : xs.length ≤ 1048576) (HM : Mem w0 W (own tSlot 91 A c xs :: L)) :
    Calls Try.prog 44 #[.slice A xs.length c, .int .i64 k] W fun e W' => ∃ ys, e = .returned (.int .i64 (k + 2 * xs.length)) ∧ ys.length = xs.length ∧ SlotsAt k ys ∧ Mem w0 W' (own tSlot 91 A c ys :: L) := by
  refine enter Try.func44 rfl Try.ntmps44 [(0, _), (1, _)] rfl ⟨rfl, rfl, trivial⟩ ?_
  repeat (first | (refine gGP ?_; refine gp (p_assign rfl) ?_) | (refine gL ?_; first | refine s_gp rfl rfl ?_ | refine l_nil ?_) | (refine gC ?_; first | refine c_seq ?_ | refine c_region ?_ | refine c_block ?_) | (refine gN ?_; refine n_then ?_))
  refine c_loop (σ := Nat) (fun i => [(0, .slice A xs.length c), (1, .int .i64 (k + 2 * i)), (5, .int .i64 i)]) (fun i W1 => i ≤ xs.length ∧ ∃ ys, ys.length = xs.length ∧ (∀ j : Nat, j < i → rd tSlot ys j = ⟨k + 2 * j, mt (k + 2 * j + 1).toNat⟩) ∧ Mem w0 W1 (own tSlot 91 A c ys :: L)) (fun i => xs.length - i) 0 (by repeat (first | exact trivial | refine And.intro (by first | rfl | exact look_int rfl (by omega)) ?_)) ⟨Nat.zero_le _, xs, rfl, fun j hj => by omega, HM⟩ ?_
  clear HM
  rintro i W1 ⟨hi, ys, hl, hy, HM⟩
  by_cases hlt : i < xs.length
  · repeat (first | (refine gGP ?_; first | refine gp (p_move rfl) ?_ | refine gp (p_assign rfl) ?_ | (refine gGB ?_; first | refine gp (p_lss rfl rfl) ?_ | refine gp (p_add rfl rfl (by exact wr (by omega) (by omega))) ?_) | refine gp (p_fieldo rfl (by simp only [Nat.reduceAdd]; rfl)) ?_ | refine gp (p_indexo HM rfl (by first | with_reducible rfl | (simp only [List.length_set, List.length_append, List.length_cons, List.length_nil]; omega) | omega) rfl (by omega) (by first | (simp only [List.length_set, List.length_append, List.length_cons, List.length_nil]; omega) | omega)) ?_ | refine gp (p_len rfl) ?_) | (refine gL ?_; first | refine s_gp rfl rfl ?_ | (refine gStore ?_; first | (refine s_storeo2 HM rfl rfl rfl rfl (by omega) (by omega) rfl ?_; intro W1 HM1; clear HM; have HM := HM1; clear HM1; (try dsimp only at HM)) | (refine s_storeo HM rfl rfl rfl (by omega) (by omega) rfl ?_; intro W1 HM1; clear HM; have HM := HM1; clear HM1; (try dsimp only at HM))) | (refine gCall ?_; (refine s_fn rfl rfl ?_; (go_at_call 82; refine (markText_i _ (by omega) (by omega) HM).mono ?_; rintro e W1 ⟨rfl, HM1⟩; refine ⟨_, rfl, ?_⟩; clear HM; have HM := HM1; clear HM1))) | refine l_nil ?_) | (refine gC ?_; first | refine c_seq ?_ | refine c_region ?_ | refine c_block ?_ | refine c_skip ?_ | refine c_yes rfl (by (simp; omega)) ?_) | (refine gN ?_; first | refine n_then ?_ | refine n_block ?_))
    refine n_round (i + 1) (by repeat (first | exact trivial | refine And.intro (by first | rfl | exact look_int rfl (by omega)) ?_)) ⟨by omega, _, by rw [List.length_set]; exact hl, fun j hj => ?_, HM⟩ (by omega)
    by_cases e : j = i
    · subst e
      exact rd_set (d := tSlot) (xs := ys) (i := (j : Int)) (by omega) (by omega) _
    · rw [Int.toNat_natCast, rd_set_ne (fun h => e h.symm)]
      exact hy j (by omega)
  · repeat (first | (refine gGP ?_; first | refine gp (p_move rfl) ?_ | refine gp (p_assign rfl) ?_ | (refine gGB ?_; refine gp (p_lss rfl rfl) ?_) | refine gp (p_len rfl) ?_) | (refine gL ?_; first | refine s_gp rfl rfl ?_ | refine l_nil ?_) | (refine gC ?_; first | refine c_seq ?_ | refine c_region ?_ | refine c_exit ?_ | refine c_ret ?_ | refine c_no rfl (by (simp; omega)) ?_) | (refine gN ?_; first | refine n_then ?_ | refine x_then ?_ | refine x_here ?_))
    obtain rfl : i = xs.length := by omega
    exact ret_tmp rfl rfl ⟨ys, rfl, hl, fun j hj => hy j (by omega), HM⟩
theorem hdIntS {xs : List Int} {n : Nat} (hnx : xs.length = n) (k : Int) (h0 : 0 < k) (h1 : k ≤ 1125899906842624) (hn : n ≤ 1048576) (hy : IntsAt k xs) (HM : Mem w0 W (own tInt 3 A c xs :: L)) :
    Calls Try.prog 49 #[.slice A n c, .int .i64 k] W fun e W' => e = .returned (.int .i64 (k + n)) ∧ Mem w0 W' (own tInt 3 A c xs :: L) := by
  subst hnx
  refine enter Try.func49 rfl Try.ntmps49 [(0, _), (1, _)] rfl ⟨rfl, rfl, trivial⟩ ?_
  repeat (first | (refine gGP ?_; refine gp (p_assign rfl) ?_) | (refine gL ?_; first | refine s_gp rfl rfl ?_ | refine l_nil ?_) | (refine gC ?_; first | refine c_seq ?_ | refine c_region ?_ | refine c_block ?_) | (refine gN ?_; refine n_then ?_))
  refine c_loop (σ := Nat) (fun i => [(0, .slice A xs.length c), (1, .int .i64 (k + i)), (5, .int .i64 i)]) (fun i W1 => i ≤ xs.length ∧ Mem w0 W1 (own tInt 3 A c xs :: L)) (fun i => xs.length - i) 0 (by repeat (first | exact trivial | refine And.intro (by first | rfl | exact look_int rfl (by omega)) ?_)) ⟨Nat.zero_le _, HM⟩ ?_
  clear HM
  rintro i W1 ⟨hi, HM⟩
  by_cases hlt : i < xs.length
  · have e := hy i hlt
    repeat (first | (refine gGP ?_; first | refine gp (p_move rfl) ?_ | refine gp (p_assign rfl) ?_ | (refine gGB ?_; first | refine gp (p_lss rfl rfl) ?_ | refine gp (p_neq rfl rfl) ?_ | refine gp (p_add rfl rfl (by exact wr (by omega) (by omega))) ?_) | refine gp (p_indexo HM rfl (by first | with_reducible rfl | omega) rfl (by omega) (by omega)) ?_ | refine gp (p_len rfl) ?_) | (refine gGV ?_; refine gv (p_loado rfl rfl (by omega) (by omega) rfl) ?_) | (refine gL ?_; first | refine s_gp rfl rfl ?_ | refine s_gv HM rfl ?_ | refine l_nil ?_) | (refine gC ?_; first | refine c_seq ?_ | refine c_region ?_ | refine c_block ?_ | refine c_skip ?_ | refine c_yes rfl (by (simp; omega)) ?_ | refine c_no rfl (by (simp; omega)) ?_) | (refine gN ?_; first | refine n_then ?_ | refine n_block ?_))
    exact n_round (i + 1) (by repeat (first | exact trivial | refine And.intro (by first | rfl | exact look_int rfl (by omega)) ?_)) ⟨by omega, HM⟩ (by omega)
  · repeat (first | (refine gGP ?_; first | refine gp (p_move rfl) ?_ | refine gp (p_assign rfl) ?_ | (refine gGB ?_; refine gp (p_lss rfl rfl) ?_) | refine gp (p_len rfl) ?_) | (refine gL ?_; first | refine s_gp rfl rfl ?_ | refine l_nil ?_) | (refine gC ?_; first | refine c_seq ?_ | refine c_region ?_ | refine c_exit ?_ | refine c_ret ?_ | refine c_no rfl (by (simp; omega)) ?_) | (refine gN ?_; first | refine n_then ?_ | refine x_then ?_ | refine x_here ?_))
    obtain rfl : i = xs.length := by omega
    exact ret_tmp rfl rfl ⟨rfl, HM⟩
theorem hdStrS {xs : List ByteArray} {n : Nat} (hnx : xs.length = n) (k : Int) (h0 : 0 < k) (h1 : k ≤ 1125899906842624) (hn : n ≤ 1048576) (hy : StrsAt k xs) (HM : Mem w0 W (own tStr 9 A c xs :: L)) :
    Calls Try.prog 48 #[.slice A n c, .int .i64 k] W fun e W' => e = .returned (.int .i64 (k + n)) ∧ Mem w0 W' (own tStr 9 A c xs :: L) := by
  subst hnx
  refine enter Try.func48 rfl Try.ntmps48 [(0, _), (1, _)] rfl ⟨rfl, rfl, trivial⟩ ?_
  repeat (first | (refine gGP ?_; refine gp (p_assign rfl) ?_) | (refine gL ?_; first | refine s_gp rfl rfl ?_ | refine l_nil ?_) | (refine gC ?_; first | refine c_seq ?_ | refine c_region ?_ | refine c_block ?_) | (refine gN ?_; refine n_then ?_))
  refine c_loop (σ := Nat) (fun i => [(0, .slice A xs.length c), (1, .int .i64 (k + i)), (5, .int .i64 i)]) (fun i W1 => i ≤ xs.length ∧ Mem w0 W1 (own tStr 9 A c xs :: L)) (fun i => xs.length - i) 0 (by repeat (first | exact trivial | refine And.intro (by first | rfl | exact look_int rfl (by omega)) ?_)) ⟨Nat.zero_le _, HM⟩ ?_
  clear HM
  rintro i W1 ⟨hi, HM⟩
  by_cases hlt : i < xs.length
  · have e := hy i hlt
    repeat (first | (refine gR ?_; refine d_start [] [(0, 0), (0, 1), (0, 2), (0, 4), (1, 3), (2, 5), (0, 6)] HM (by kernel_rfl) (by kernel_rfl) (by repeat (first | exact qp_body | refine qp_then ?_ | refine qp_block ?_)) (by kernel_rfl) rfl ?_; intro HQ HS W1 HM1; clear HM; have HM := HM1; clear HM1) | (refine gGP ?_; first | refine gp (p_move rfl) ?_ | refine gp (p_assign rfl) ?_ | (refine gGB ?_; first | refine gp (p_lss rfl rfl) ?_ | refine gp (p_sneq rfl rfl) ?_ | refine gp (p_add rfl rfl (by exact wr (by omega) (by omega))) ?_) | refine gp (p_indexo HM rfl (by first | with_reducible rfl | omega) rfl (by omega) (by omega)) ?_ | refine gp (p_len rfl) ?_) | (refine gGV ?_; refine gv (p_loado rfl rfl (by omega) (by omega) rfl) ?_) | (refine gL ?_; first | refine s_gp rfl rfl ?_ | (refine gCall ?_; (refine s_fn rfl rfl ?_; (go_at_call 82; refine (markText_i _ (by omega) (by omega) HM).mono ?_; rintro e W1 ⟨rfl, HM1⟩; refine ⟨_, rfl, ?_⟩; clear HM; have HM := HM1; clear HM1))) | refine l_nil ?_) | (refine gC ?_; first | refine c_seq ?_ | refine c_region ?_ | refine c_block ?_ | refine c_skip ?_ | refine c_yes rfl (by (simp; omega)) ?_ | refine c_no rfl (by (simp; omega)) ?_) | (refine gN ?_; first | refine n_then ?_ | refine n_block ?_ | refine d_back (by exact HM) ?_) | (refine gD ?_; first | refine d_next rfl ?_ | refine d_done ?_) | (refine gO ?_; first | refine d_gp HQ HS rfl ?_ | refine d_gv HQ HS rfl ?_ | refine d_one ?_))
    exact n_round (i + 1) (by repeat (first | exact trivial | refine And.intro (by first | rfl | exact look_int rfl (by omega)) ?_)) ⟨by omega, HM⟩ (by omega)
  · repeat (first | (refine gGP ?_; first | refine gp (p_move rfl) ?_ | refine gp (p_assign rfl) ?_ | (refine gGB ?_; refine gp (p_lss rfl rfl) ?_) | refine gp (p_len rfl) ?_) | (refine gL ?_; first | refine s_gp rfl rfl ?_ | refine l_nil ?_) | (refine gC ?_; first | refine c_seq ?_ | refine c_region ?_ | refine c_exit ?_ | refine c_ret ?_ | refine c_no rfl (by (simp; omega)) ?_) | (refine gN ?_; first | refine n_then ?_ | refine x_then ?_ | refine x_here ?_))
    obtain rfl : i = xs.length := by omega
    exact ret_tmp rfl rfl ⟨rfl, HM⟩
theorem hdSlotS {xs : List Slot} {n : Nat} (hnx : xs.length = n) (k : Int) (h0 : 0 < k) (h1 : k ≤ 1125899906842624) (hn : n ≤ 1048576) (hy : SlotsAt k xs) (HM : Mem w0 W (own tSlot 91 A c xs :: L)) :
    Calls Try.prog 50 #[.slice A n c, .int .i64 k] W fun e W' => e = .returned (.int .i64 (k + 2 * n)) ∧ Mem w0 W' (own tSlot 91 A c xs :: L) := by
  subst hnx
  refine enter Try.func50 rfl Try.ntmps50 [(0, _), (1, _)] rfl ⟨rfl, rfl, trivial⟩ ?_
  repeat (first | (refine gGP ?_; refine gp (p_assign rfl) ?_) | (refine gL ?_; first | refine s_gp rfl rfl ?_ | refine l_nil ?_) | (refine gC ?_; first | refine c_seq ?_ | refine c_region ?_ | refine c_block ?_) | (refine gN ?_; refine n_then ?_))
  refine c_loop (σ := Nat) (fun i => [(0, .slice A xs.length c), (1, .int .i64 (k + 2 * i)), (5, .int .i64 i)]) (fun i W1 => i ≤ xs.length ∧ Mem w0 W1 (own tSlot 91 A c xs :: L)) (fun i => xs.length - i) 0 (by repeat (first | exact trivial | refine And.intro (by first | rfl | exact look_int rfl (by omega)) ?_)) ⟨Nat.zero_le _, HM⟩ ?_
  clear HM
  rintro i W1 ⟨hi, HM⟩
  by_cases hlt : i < xs.length
  · have e := hy i hlt
    have e1 : (rd tSlot xs i).ballot = k + 2 * i := by rw [e]
    have e2 : (rd tSlot xs i).text = mt (k + 2 * i + 1).toNat := by rw [e]
    repeat (first | (refine gR ?_; refine d_start [] [(0, 0), (0, 1), (0, 2), (0, 3), (0, 5), (1, 4), (2, 6), (0, 7)] HM (by kernel_rfl) (by kernel_rfl) (by repeat (first | exact qp_body | refine qp_then ?_ | refine qp_block ?_)) (by kernel_rfl) rfl ?_; intro HQ HS W1 HM1; clear HM; have HM := HM1; clear HM1) | (refine gGP ?_; first | refine gp (p_move rfl) ?_ | refine gp (p_assign rfl) ?_ | (refine gGB ?_; first | refine gp (p_lss rfl rfl) ?_ | refine gp (p_neq rfl rfl) ?_ | refine gp (p_sneq rfl rfl) ?_ | refine gp (p_add rfl rfl (by exact wr (by omega) (by omega))) ?_) | refine gp (p_fieldo rfl (by simp only [Nat.reduceAdd]; rfl)) ?_ | refine gp (p_indexo HM rfl (by first | with_reducible rfl | omega) rfl (by omega) (by omega)) ?_ | refine gp (p_len rfl) ?_) | (refine gGV ?_; refine gv (p_loado rfl rfl (by omega) (by omega) rfl) ?_) | (refine gL ?_; first | refine s_gp rfl rfl ?_ | refine s_gv HM rfl ?_ | (refine gCall ?_; (refine s_fn rfl rfl ?_; (go_at_call 82; refine (markText_i _ (by omega) (by omega) HM).mono ?_; rintro e W1 ⟨rfl, HM1⟩; refine ⟨_, rfl, ?_⟩; clear HM; have HM := HM1; clear HM1))) | refine l_nil ?_) | (refine gC ?_; first | refine c_seq ?_ | refine c_region ?_ | refine c_block ?_ | refine c_skip ?_ | refine c_yes rfl (by (simp; omega)) ?_ | refine c_no rfl (by (simp; omega)) ?_) | (refine gN ?_; first | refine n_then ?_ | refine n_block ?_ | refine d_back (by exact HM) ?_) | (refine gD ?_; first | refine d_next rfl ?_ | refine d_done ?_) | (refine gO ?_; first | refine d_gp HQ HS rfl ?_ | refine d_gv HQ HS rfl ?_ | refine d_one ?_))
    exact n_round (i + 1) (by repeat (first | exact trivial | refine And.intro (by first | rfl | exact look_int rfl (by omega)) ?_)) ⟨by omega, HM⟩ (by omega)
  · repeat (first | (refine gGP ?_; first | refine gp (p_move rfl) ?_ | refine gp (p_assign rfl) ?_ | (refine gGB ?_; refine gp (p_lss rfl rfl) ?_) | refine gp (p_len rfl) ?_) | (refine gL ?_; first | refine s_gp rfl rfl ?_ | refine l_nil ?_) | (refine gC ?_; first | refine c_seq ?_ | refine c_region ?_ | refine c_exit ?_ | refine c_ret ?_ | refine c_no rfl (by (simp; omega)) ?_) | (refine gN ?_; first | refine n_then ?_ | refine x_then ?_ | refine x_here ?_))
    obtain rfl : i = xs.length := by omega
    exact ret_tmp rfl rfl ⟨rfl, HM⟩
theorem mkMsgS {xs : List Msg} (k : Int) (h0 : 0 < k) (h1 : k ≤ 35184372088832) (hn : xs.length ≤ 1048576) (hm : ∀ x ∈ xs, x.slots.length ≤ 1048576) (HM : Mem w0 W (own (tMsg 91) 85 A c xs :: L)) :
    Calls Try.prog 41 #[.slice A xs.length c, .int .i64 k] W fun e W' => ∃ ys, e = .returned (.int .i64 (k + 7 * xs.length + 2 * su (lsM xs) xs.length)) ∧ MsgsAt k (lsM xs) ys ∧ Mem w0 W' (own (tMsg 91) 85 A c ys :: L) := by
  refine enter Try.func41 rfl Try.ntmps41 [(0, _), (1, _)] rfl ⟨rfl, rfl, trivial⟩ ?_
  have hz0 := su_zero (lsM xs)
  have hls : (lsM xs).length = xs.length := by simp [lsM]
  have hsu := su_le (ls := lsM xs) (B := 1048576) (by simpa [lsM] using hm)
  repeat (first | (refine gGP ?_; refine gp (p_assign rfl) ?_) | (refine gL ?_; first | refine s_gp rfl rfl ?_ | refine l_nil ?_) | (refine gC ?_; first | refine c_seq ?_ | refine c_region ?_ | refine c_block ?_) | (refine gN ?_; refine n_then ?_))
  refine c_loop (σ := Nat) (fun i => [(0, .slice A xs.length c), (1, .int .i64 (k + 7 * i + 2 * su (lsM xs) i)), (5, .int .i64 i)]) (fun i W1 => i ≤ xs.length ∧ ∃ ys : List Msg, ys.length = xs.length ∧ (∀ j (h : j < ys.length) (h2 : j < (lsM xs).length), j < i → MsgAt (k + 7 * j + 2 * su (lsM xs) j) (lsM xs)[j] ys[j]) ∧ (∀ j (h : j < ys.length) (h2 : j < xs.length), i ≤ j → ys[j] = xs[j]) ∧ Mem w0 W1 (own (tMsg 91) 85 A c ys :: L)) (fun i => xs.length - i) 0 (by repeat (first | exact trivial | refine And.intro (by first | rfl | exact look_int rfl (by omega)) ?_)) ⟨Nat.zero_le _, xs, rfl, fun j _ _ hj => by omega, fun j h h2 hj => rfl, HM⟩ ?_
  clear HM
  rintro i W1 ⟨hi, ys, hl, hy, hz, HM⟩
  by_cases hlt : i < xs.length
  · have hlt2 : i < ys.length := by omega
    have hx := hz i hlt2 hlt (Nat.le_refl _)
    have hsl := hm xs[i] (List.getElem_mem hlt)
    have hsi := hsu i
    have hss := su_succ (ls := lsM xs) (j := i) (by omega)
    have hli : (lsM xs)[i]'(by omega) = xs[i].slots.length := by simp [lsM]
    rw [hli] at hss
    obtain ⟨j, HM⟩ := opn_nest HM i hlt2
    rw [hx] at HM
    replace HM : Mem w0 W1 (hol (tMsg 91) 85 A c ys i (encMsg xs[i] j) :: own tSlot 91 j.1 j.2 xs[i].slots :: L) := HM
    unfold encMsg at HM
    generalize hp : k + 7 * (i : Int) + 2 * (su (lsM xs) i : Int) = p at *
    have hp0 : 0 < p := by omega
    have hp1 : p ≤ 1125899906842000 := by omega
    repeat (first | (refine gGP ?_; first | refine gp (p_move rfl) ?_ | refine gp (p_assign rfl) ?_ | (refine gGB ?_; first | refine gp (p_lss rfl rfl) ?_ | refine gp (p_add rfl rfl (by exact wr (by omega) (by omega))) ?_) | refine gp (p_fieldo rfl (by simp only [Nat.reduceAdd]; rfl)) ?_ | refine gp (p_indexh HM rfl (by first | with_reducible rfl | omega) rfl (by omega) (by omega)) ?_ | refine gp (p_len rfl) ?_) | (refine gGV ?_; refine gv (p_loadh rfl rfl rfl) ?_) | (refine gL ?_; first | refine s_gp rfl rfl ?_ | refine s_gv HM rfl ?_ | (refine gStore ?_; (refine s_storeh HM rfl rfl rfl rfl rfl rfl ?_; intro W1 HM1; clear HM; have HM := HM1; clear HM1; (try dsimp only at HM))) | (refine gCall ?_; (refine s_fn rfl rfl ?_; first | (go_at_call 82; refine (markText_i _ (by omega) (by omega) HM).mono ?_; rintro e W1 ⟨rfl, HM1⟩; refine ⟨_, rfl, ?_⟩; clear HM; have HM := HM1; clear HM1) | (go_at_call 44; refine (mkSlotS _ (by omega) (by omega) hsl HM.pk).mono ?_; rintro e W1 ⟨zs, rfl, hzl, hzs, HM1⟩; refine ⟨_, rfl, ?_⟩; clear HM; have HM := HM1; clear HM1))) | refine l_nil ?_) | (refine gC ?_; first | refine c_seq ?_ | refine c_region ?_ | refine c_block ?_ | refine c_skip ?_ | refine c_yes rfl (by (simp; omega)) ?_) | (refine gN ?_; first | refine n_then ?_ | refine n_block ?_))
    rw [← hzl] at HM
    have HM2 := cls_nest (x := (⟨_, _, _, _, _, _, _, zs⟩ : Msg)) (j := j) (HM.perm (List.Perm.swap ..))
    refine n_round (i + 1) (by repeat (first | exact trivial | refine And.intro (by first | rfl | exact look_int rfl (by omega)) ?_)) ⟨by omega, _, by rw [List.length_set]; exact hl, fun q hq hq2 hqi => ?_, fun q hq hq2 hqi => ?_, HM2⟩ (by omega)
    · by_cases e : q = i
      · subst e
        rw [List.getElem_set_self, hp]
        exact ⟨rfl, rfl, rfl, rfl, rfl, rfl, rfl, by rw [hli]; exact hzl, hzs⟩
      · rw [List.getElem_set_ne (fun h => e h.symm)]
        exact hy q (by simpa using hq) hq2 (by omega)
    · rw [List.getElem_set_ne (by omega)]
      exact hz q (by simpa using hq) hq2 (by omega)
  · repeat (first | (refine gGP ?_; first | refine gp (p_move rfl) ?_ | refine gp (p_assign rfl) ?_ | (refine gGB ?_; refine gp (p_lss rfl rfl) ?_) | refine gp (p_len rfl) ?_) | (refine gL ?_; first | refine s_gp rfl rfl ?_ | refine l_nil ?_) | (refine gC ?_; first | refine c_seq ?_ | refine c_region ?_ | refine c_exit ?_ | refine c_ret ?_ | refine c_no rfl (by (simp; omega)) ?_) | (refine gN ?_; first | refine n_then ?_ | refine x_then ?_ | refine x_here ?_))
    obtain rfl : i = xs.length := by omega
    exact ret_tmp rfl rfl ⟨ys, rfl, ⟨by omega, fun j h h2 => hy j h h2 (by omega)⟩, HM⟩
theorem hdMsgS {xs : List Msg} {n : Nat} {ls : List Nat} (hnl : ls.length = n) (hms : ∀ l ∈ ls, l ≤ 1048576) (k : Int) (h0 : 0 < k) (h1 : k ≤ 35184372088832) (hn : n ≤ 1048576) (hy : MsgsAt k ls xs) (HM : Mem w0 W (own (tMsg 91) 85 A c xs :: L)) :
    Calls Try.prog 47 #[.slice A n c, .int .i64 k] W fun e W' => e = .returned (.int .i64 (k + 7 * n + 2 * su ls n)) ∧ Mem w0 W' (own (tMsg 91) 85 A c xs :: L) := by
  obtain ⟨hl, hy⟩ := hy
  obtain rfl : xs.length = n := by omega
  refine enter Try.func47 rfl Try.ntmps47 [(0, _), (1, _)] rfl ⟨rfl, rfl, trivial⟩ ?_
  have hsu := su_le hms
  have hz0 := su_zero ls
  repeat (first | (refine gGP ?_; refine gp (p_assign rfl) ?_) | (refine gL ?_; first | refine s_gp rfl rfl ?_ | refine l_nil ?_) | (refine gC ?_; first | refine c_seq ?_ | refine c_region ?_ | refine c_block ?_) | (refine gN ?_; refine n_then ?_))
  refine c_loop (σ := Nat) (fun i => [(0, .slice A xs.length c), (1, .int .i64 (k + 7 * i + 2 * su ls i)), (5, .int .i64 i)]) (fun i W1 => i ≤ xs.length ∧ Mem w0 W1 (own (tMsg 91) 85 A c xs :: L)) (fun i => xs.length - i) 0 (by repeat (first | exact trivial | refine And.intro (by first | rfl | exact look_int rfl (by omega)) ?_)) ⟨Nat.zero_le _, HM⟩ ?_
  clear HM
  rintro i W1 ⟨hi, HM⟩
  by_cases hlt : i < xs.length
  · have hx := hy i hlt (by omega)
    have hsl := hms _ (List.getElem_mem (show i < ls.length by omega))
    have hsi := hsu i
    have hss := su_succ (ls := ls) (j := i) (by omega)
    obtain ⟨j, HM⟩ := opn_nest HM i hlt
    replace HM : Mem w0 W1 (hol (tMsg 91) 85 A c xs i (encMsg xs[i] j) :: own tSlot 91 j.1 j.2 xs[i].slots :: L) := HM
    generalize hp : k + 7 * (i : Int) + 2 * (su ls i : Int) = p at *
    have hp0 : 0 < p := by omega
    have hp1 : p ≤ 1125899906842000 := by omega
    obtain ⟨e0, e1, e2, e3, e4, e5, e6, e7, e8⟩ := hx
    have e7' := e7
    have hen : encMsg xs[i] j = [.int .i64 p, .int .i64 (p + 1), .int .i64 (p + 1 + 1), .int .i64 (p + 1 + 1 + 1), .int .i64 (p + 1 + 1 + 1 + 1), .int .i64 (p + 1 + 1 + 1 + 1 + 1), .string (mt (p + 1 + 1 + 1 + 1 + 1 + 1).toNat), .slice j.1 (ls[i]'(by omega)) j.2] := by simp only [encMsg, e0, e1, e2, e3, e4, e5, e6, e7]
    rw [hen] at HM
    repeat (first | (refine gR ?_; refine d_start [] [(0, 0), (0, 1), (0, 2), (0, 3), (0, 5), (1, 4), (2, 6), (0, 7)] HM (by kernel_rfl) (by kernel_rfl) (by repeat (first | exact qp_body | refine qp_then ?_ | refine qp_block ?_)) (by kernel_rfl) rfl ?_; intro HQ HS W1 HM1; clear HM; have HM := HM1; clear HM1) | (refine gGP ?_; first | refine gp (p_move rfl) ?_ | refine gp (p_assign rfl) ?_ | (refine gGB ?_; first | refine gp (p_lss rfl rfl) ?_ | refine gp (p_neq rfl rfl) ?_ | refine gp (p_sneq rfl rfl) ?_ | refine gp (p_add rfl rfl (by exact wr (by omega) (by omega))) ?_) | refine gp (p_fieldo rfl (by simp only [Nat.reduceAdd]; rfl)) ?_ | refine gp (p_indexh HM rfl (by first | with_reducible rfl | omega) rfl (by omega) (by omega)) ?_ | refine gp (p_len rfl) ?_) | (refine gGV ?_; refine gv (p_loadh rfl rfl rfl) ?_) | (refine gL ?_; first | refine s_gp rfl rfl ?_ | refine s_gv HM rfl ?_ | (refine gCall ?_; (refine s_fn rfl rfl ?_; first | (go_at_call 82; refine (markText_i _ (by omega) (by omega) HM).mono ?_; rintro e W1 ⟨rfl, HM1⟩; refine ⟨_, rfl, ?_⟩; clear HM; have HM := HM1; clear HM1) | (go_at_call 50; refine (hdSlotS e7' _ (by omega) (by omega) hsl e8 HM.pk).mono ?_; rintro e W1 ⟨rfl, HM1⟩; refine ⟨_, rfl, ?_⟩; clear HM; have HM := HM1; clear HM1))) | refine l_nil ?_) | (refine gC ?_; first | refine c_seq ?_ | refine c_region ?_ | refine c_block ?_ | refine c_skip ?_ | refine c_yes rfl (by (simp; omega)) ?_ | refine c_no rfl (by first | (simp; done) | (simp; omega)) ?_) | (refine gN ?_; first | refine n_then ?_ | refine n_block ?_ | refine d_back (by exact HM) ?_) | (refine gD ?_; first | refine d_next rfl ?_ | refine d_done ?_) | (refine gO ?_; first | refine d_gp HQ HS rfl ?_ | refine d_gv HQ HS rfl ?_ | refine d_one ?_))
    rw [← hen] at HM
    have HM2 := cls_nest (x := xs[i]) (j := j) (HM.perm (List.Perm.swap ..))
    rw [List.set_getElem_self] at HM2
    exact n_round (i + 1) (by repeat (first | exact trivial | refine And.intro (by first | rfl | exact look_int rfl (by omega)) ?_)) ⟨by omega, HM2⟩ (by omega)
  · repeat (first | (refine gGP ?_; first | refine gp (p_move rfl) ?_ | refine gp (p_assign rfl) ?_ | (refine gGB ?_; refine gp (p_lss rfl rfl) ?_) | refine gp (p_len rfl) ?_) | (refine gL ?_; first | refine s_gp rfl rfl ?_ | refine l_nil ?_) | (refine gC ?_; first | refine c_seq ?_ | refine c_region ?_ | refine c_exit ?_ | refine c_ret ?_ | refine c_no rfl (by (simp; omega)) ?_) | (refine gN ?_; first | refine n_then ?_ | refine x_then ?_ | refine x_here ?_))
    obtain rfl : i = xs.length := by omega
    exact ret_tmp rfl rfl ⟨rfl, HM⟩
theorem mkAckS {xs : List Ack} (k : Int) (h0 : 0 < k) (h1 : k ≤ 35184372088832) (hn : xs.length ≤ 1048576) (hm : ∀ x ∈ xs, x.frm.length ≤ 1048576) (HM : Mem w0 W (own (tAck 3) 93 A c xs :: L)) :
    Calls Try.prog 45 #[.slice A xs.length c, .int .i64 k] W fun e W' => ∃ ys, e = .returned (.int .i64 (k + xs.length + su (lsA xs) xs.length)) ∧ AcksAt k (lsA xs) ys ∧ Mem w0 W' (own (tAck 3) 93 A c ys :: L) := by
  refine enter Try.func45 rfl Try.ntmps45 [(0, _), (1, _)] rfl ⟨rfl, rfl, trivial⟩ ?_
  have hz0 := su_zero (lsA xs)
  have hls : (lsA xs).length = xs.length := by simp [lsA]
  have hsu := su_le (ls := lsA xs) (B := 1048576) (by simpa [lsA] using hm)
  repeat (first | (refine gGP ?_; refine gp (p_assign rfl) ?_) | (refine gL ?_; first | refine s_gp rfl rfl ?_ | refine l_nil ?_) | (refine gC ?_; first | refine c_seq ?_ | refine c_region ?_ | refine c_block ?_) | (refine gN ?_; refine n_then ?_))
  refine c_loop (σ := Nat) (fun i => [(0, .slice A xs.length c), (1, .int .i64 (k + i + su (lsA xs) i)), (5, .int .i64 i)]) (fun i W1 => i ≤ xs.length ∧ ∃ ys : List Ack, ys.length = xs.length ∧ (∀ j (h : j < ys.length) (h2 : j < (lsA xs).length), j < i → AckAt (k + j + su (lsA xs) j) (lsA xs)[j] ys[j]) ∧ (∀ j (h : j < ys.length) (h2 : j < xs.length), i ≤ j → ys[j] = xs[j]) ∧ Mem w0 W1 (own (tAck 3) 93 A c ys :: L)) (fun i => xs.length - i) 0 (by repeat (first | exact trivial | refine And.intro (by first | rfl | exact look_int rfl (by omega)) ?_)) ⟨Nat.zero_le _, xs, rfl, fun j _ _ hj => by omega, fun j h h2 hj => rfl, HM⟩ ?_
  clear HM
  rintro i W1 ⟨hi, ys, hl, hy, hz, HM⟩
  by_cases hlt : i < xs.length
  · have hlt2 : i < ys.length := by omega
    have hx := hz i hlt2 hlt (Nat.le_refl _)
    have hsl := hm xs[i] (List.getElem_mem hlt)
    have hsi := hsu i
    have hss := su_succ (ls := lsA xs) (j := i) (by omega)
    have hli : (lsA xs)[i]'(by omega) = xs[i].frm.length := by simp [lsA]
    rw [hli] at hss
    obtain ⟨j, HM⟩ := opn_nest HM i hlt2
    rw [hx] at HM
    replace HM : Mem w0 W1 (hol (tAck 3) 93 A c ys i (encAck xs[i] j) :: own tInt 3 j.1 j.2 xs[i].frm :: L) := HM
    unfold encAck at HM
    generalize hp : k + (i : Int) + (su (lsA xs) i : Int) = p at *
    have hp0 : 0 < p := by omega
    have hp1 : p ≤ 1125899906842000 := by omega
    repeat (first | (refine gGP ?_; first | refine gp (p_move rfl) ?_ | refine gp (p_assign rfl) ?_ | (refine gGB ?_; first | refine gp (p_lss rfl rfl) ?_ | refine gp (p_add rfl rfl (by exact wr (by omega) (by omega))) ?_) | refine gp (p_fieldo rfl (by simp only [Nat.reduceAdd]; rfl)) ?_ | refine gp (p_indexh HM rfl (by first | with_reducible rfl | omega) rfl (by omega) (by omega)) ?_ | refine gp (p_len rfl) ?_) | (refine gGV ?_; refine gv (p_loadh rfl rfl rfl) ?_) | (refine gL ?_; first | refine s_gp rfl rfl ?_ | refine s_gv HM rfl ?_ | (refine gStore ?_; (refine s_storeh HM rfl rfl rfl rfl rfl rfl ?_; intro W1 HM1; clear HM; have HM := HM1; clear HM1; (try dsimp only at HM))) | (refine gCall ?_; (refine s_fn rfl rfl ?_; (go_at_call 43; refine (mkIntS _ (by omega) (by omega) hsl HM.pk).mono ?_; rintro e W1 ⟨zs, rfl, hzl, hzs, HM1⟩; refine ⟨_, rfl, ?_⟩; clear HM; have HM := HM1; clear HM1))) | refine l_nil ?_) | (refine gC ?_; first | refine c_seq ?_ | refine c_region ?_ | refine c_block ?_ | refine c_skip ?_ | refine c_yes rfl (by (simp; omega)) ?_) | (refine gN ?_; first | refine n_then ?_ | refine n_block ?_))
    rw [← hzl] at HM
    have HM2 := cls_nest (x := (⟨_, zs⟩ : Ack)) (j := j) (HM.perm (List.Perm.swap ..))
    refine n_round (i + 1) (by repeat (first | exact trivial | refine And.intro (by first | rfl | exact look_int rfl (by omega)) ?_)) ⟨by omega, _, by rw [List.length_set]; exact hl, fun q hq hq2 hqi => ?_, fun q hq hq2 hqi => ?_, HM2⟩ (by omega)
    · by_cases e : q = i
      · subst e
        rw [List.getElem_set_self, hp]
        exact ⟨rfl, by rw [hli]; exact hzl, hzs⟩
      · rw [List.getElem_set_ne (fun h => e h.symm)]
        exact hy q (by simpa using hq) hq2 (by omega)
    · rw [List.getElem_set_ne (by omega)]
      exact hz q (by simpa using hq) hq2 (by omega)
  · repeat (first | (refine gGP ?_; first | refine gp (p_move rfl) ?_ | refine gp (p_assign rfl) ?_ | (refine gGB ?_; refine gp (p_lss rfl rfl) ?_) | refine gp (p_len rfl) ?_) | (refine gL ?_; first | refine s_gp rfl rfl ?_ | refine l_nil ?_) | (refine gC ?_; first | refine c_seq ?_ | refine c_region ?_ | refine c_exit ?_ | refine c_ret ?_ | refine c_no rfl (by (simp; omega)) ?_) | (refine gN ?_; first | refine n_then ?_ | refine x_then ?_ | refine x_here ?_))
    obtain rfl : i = xs.length := by omega
    exact ret_tmp rfl rfl ⟨ys, rfl, ⟨by omega, fun j h h2 => hy j h h2 (by omega)⟩, HM⟩
theorem hdAckS {xs : List Ack} {n : Nat} {ls : List Nat} (hnl : ls.length = n) (hms : ∀ l ∈ ls, l ≤ 1048576) (k : Int) (h0 : 0 < k) (h1 : k ≤ 35184372088832) (hn : n ≤ 1048576) (hy : AcksAt k ls xs) (HM : Mem w0 W (own (tAck 3) 93 A c xs :: L)) :
    Calls Try.prog 51 #[.slice A n c, .int .i64 k] W fun e W' => e = .returned (.int .i64 (k + n + su ls n)) ∧ Mem w0 W' (own (tAck 3) 93 A c xs :: L) := by
  obtain ⟨hl, hy⟩ := hy
  obtain rfl : xs.length = n := by omega
  refine enter Try.func51 rfl Try.ntmps51 [(0, _), (1, _)] rfl ⟨rfl, rfl, trivial⟩ ?_
  have hsu := su_le hms
  have hz0 := su_zero ls
  repeat (first | (refine gGP ?_; refine gp (p_assign rfl) ?_) | (refine gL ?_; first | refine s_gp rfl rfl ?_ | refine l_nil ?_) | (refine gC ?_; first | refine c_seq ?_ | refine c_region ?_ | refine c_block ?_) | (refine gN ?_; refine n_then ?_))
  refine c_loop (σ := Nat) (fun i => [(0, .slice A xs.length c), (1, .int .i64 (k + i + su ls i)), (5, .int .i64 i)]) (fun i W1 => i ≤ xs.length ∧ Mem w0 W1 (own (tAck 3) 93 A c xs :: L)) (fun i => xs.length - i) 0 (by repeat (first | exact trivial | refine And.intro (by first | rfl | exact look_int rfl (by omega)) ?_)) ⟨Nat.zero_le _, HM⟩ ?_
  clear HM
  rintro i W1 ⟨hi, HM⟩
  by_cases hlt : i < xs.length
  · have hx := hy i hlt (by omega)
    have hsl := hms _ (List.getElem_mem (show i < ls.length by omega))
    have hsi := hsu i
    have hss := su_succ (ls := ls) (j := i) (by omega)
    obtain ⟨j, HM⟩ := opn_nest HM i hlt
    replace HM : Mem w0 W1 (hol (tAck 3) 93 A c xs i (encAck xs[i] j) :: own tInt 3 j.1 j.2 xs[i].frm :: L) := HM
    generalize hp : k + (i : Int) + (su ls i : Int) = p at *
    have hp0 : 0 < p := by omega
    have hp1 : p ≤ 1125899906842000 := by omega
    obtain ⟨e0, e7, e8⟩ := hx
    have e7' := e7
    have hen : encAck xs[i] j = [.int .i64 p, .slice j.1 (ls[i]'(by omega)) j.2] := by simp only [encAck, e0, e7]
    rw [hen] at HM
    repeat (first | (refine gGP ?_; first | refine gp (p_move rfl) ?_ | refine gp (p_assign rfl) ?_ | (refine gGB ?_; first | refine gp (p_lss rfl rfl) ?_ | refine gp (p_neq rfl rfl) ?_ | refine gp (p_add rfl rfl (by exact wr (by omega) (by omega))) ?_) | refine gp (p_fieldo rfl (by simp only [Nat.reduceAdd]; rfl)) ?_ | refine gp (p_indexh HM rfl (by first | with_reducible rfl | omega) rfl (by omega) (by omega)) ?_ | refine gp (p_len rfl) ?_) | (refine gGV ?_; refine gv (p_loadh rfl rfl rfl) ?_) | (refine gL ?_; first | refine s_gp rfl rfl ?_ | refine s_gv HM rfl ?_ | (refine gCall ?_; (refine s_fn rfl rfl ?_; (go_at_call 49; refine (hdIntS e7' _ (by omega) (by omega) hsl e8 HM.pk).mono ?_; rintro e W1 ⟨rfl, HM1⟩; refine ⟨_, rfl, ?_⟩; clear HM; have HM := HM1; clear HM1))) | refine l_nil ?_) | (refine gC ?_; first | refine c_seq ?_ | refine c_region ?_ | refine c_block ?_ | refine c_skip ?_ | refine c_yes rfl (by (simp; omega)) ?_ | refine c_no rfl (by first | (simp; done) | (simp; omega)) ?_) | (refine gN ?_; first | refine n_then ?_ | refine n_block ?_))
    rw [← hen] at HM
    have HM2 := cls_nest (x := xs[i]) (j := j) (HM.perm (List.Perm.swap ..))
    rw [List.set_getElem_self] at HM2
    exact n_round (i + 1) (by repeat (first | exact trivial | refine And.intro (by first | rfl | exact look_int rfl (by omega)) ?_)) ⟨by omega, HM2⟩ (by omega)
  · repeat (first | (refine gGP ?_; first | refine gp (p_move rfl) ?_ | refine gp (p_assign rfl) ?_ | (refine gGB ?_; refine gp (p_lss rfl rfl) ?_) | refine gp (p_len rfl) ?_) | (refine gL ?_; first | refine s_gp rfl rfl ?_ | refine l_nil ?_) | (refine gC ?_; first | refine c_seq ?_ | refine c_region ?_ | refine c_exit ?_ | refine c_ret ?_ | refine c_no rfl (by (simp; omega)) ?_) | (refine gN ?_; first | refine n_then ?_ | refine x_then ?_ | refine x_here ?_))
    obtain rfl : i = xs.length := by omega
    exact ret_tmp rfl rfl ⟨rfl, HM⟩
theorem mkDisk (p q : Int) {xs : List Slot} (k : Int) (h0 : 0 < k) (h1 : k ≤ 1125899906842624) (hn : xs.length ≤ 1048576) (HM : Mem w0 W (own tSlot 91 A c xs :: L)) :
    Calls Try.prog 40 #[.agg #[.int .i64 p, .int .i64 q, .slice A xs.length c], .int .i64 k] W fun e W' => ∃ ys, e = .returned (.int .i64 (k + 2 * xs.length)) ∧ ys.length = xs.length ∧ SlotsAt k ys ∧ Mem w0 W' (own tSlot 91 A c ys :: L) := by
  refine enter Try.func40 rfl Try.ntmps40 [(0, .agg #[.int .i64 p, .int .i64 q, .slice A xs.length c]), (1, _)] rfl ⟨rfl, rfl, trivial⟩ ?_
  repeat (first | (refine gGP ?_; first | refine gp (p_move rfl) ?_ | refine gp (p_assign rfl) ?_ | refine gp (p_field rfl (by simp only [Nat.reduceAdd]; rfl)) ?_) | (refine gGV ?_; refine gv (p_load rfl) ?_) | (refine gL ?_; first | refine s_gp rfl rfl ?_ | refine s_gv HM rfl ?_ | (refine gCall ?_; (refine s_fn rfl rfl ?_; (go_at_call 44; refine (mkSlotS k h0 h1 hn HM.pk).mono ?_; rintro e W1 ⟨zs, rfl, hz, hz2, HM1⟩; refine ⟨_, rfl, ?_⟩; clear HM; have HM := HM1; clear HM1))) | (refine s_box HM rfl rfl ?_; intro g W1 HM1; clear HM; have HM := HM1; clear HM1) | refine l_nil ?_) | (refine gC ?_; first | refine c_seq ?_ | refine c_region ?_ | refine c_ret ?_) | (refine gN ?_; refine n_then ?_))
  exact ret_tmp rfl rfl ⟨zs, rfl, hz, hz2, HM.sb⟩
theorem hdDisk (p q : Int) {xs : List Slot} {n : Nat} (hnx : xs.length = n) (k : Int) (h0 : 0 < k) (h1 : k ≤ 1125899906842624) (hn : n ≤ 1048576) (hy : SlotsAt k xs) (HM : Mem w0 W (own tSlot 91 A c xs :: L)) :
    Calls Try.prog 46 #[.agg #[.int .i64 p, .int .i64 q, .slice A n c], .int .i64 k] W fun e W' => e = .returned (.int .i64 (k + 2 * n)) ∧ Mem w0 W' (own tSlot 91 A c xs :: L) := by
  refine enter Try.func46 rfl Try.ntmps46 [(0, .agg #[.int .i64 p, .int .i64 q, .slice A n c]), (1, _)] rfl ⟨rfl, rfl, trivial⟩ ?_
  repeat (first | (refine gGP ?_; first | refine gp (p_move rfl) ?_ | refine gp (p_assign rfl) ?_ | (refine gGB ?_; refine gp (p_lss rfl rfl) ?_) | refine gp (p_field rfl (by simp only [Nat.reduceAdd]; rfl)) ?_) | (refine gGV ?_; refine gv (p_load rfl) ?_) | (refine gL ?_; first | refine s_gp rfl rfl ?_ | refine s_gv HM rfl ?_ | (refine gCall ?_; (refine s_fn rfl rfl ?_; (go_at_call 50; refine (hdSlotS hnx k h0 h1 hn hy HM.pk).mono ?_; rintro e W1 ⟨rfl, HM1⟩; refine ⟨_, rfl, ?_⟩; clear HM; have HM := HM1; clear HM1))) | (refine s_box HM rfl rfl ?_; intro g W1 HM1; clear HM; have HM := HM1; clear HM1) | refine l_nil ?_) | (refine gC ?_; first | refine c_seq ?_ | refine c_region ?_ | refine c_skip ?_ | refine c_ret ?_ | refine c_no rfl (by (simp; omega)) ?_) | (refine gN ?_; refine n_then ?_))
  have hlt : ¬ (k + 2 * (n : Int) < 0) := by omega
  skip
  exact ret_tmp rfl rfl ⟨rfl, HM.sb⟩
/-- A recorder's rows with marks from k on. -/
def pH (x : Rcd) (k : Int) : Int := k + 2 * x.ss.length + 2 * x.ds.length
def pW (x : Rcd) (k : Int) : Int := pH x k + 7 * x.held.length + 2 * su (lsM x.held) x.held.length
def pB (x : Rcd) (k : Int) : Int := pW x k + x.wishes.length + x.yes.length
def pA (x : Rcd) (k : Int) : Int := pB x k + 2 * x.best.length
def pE (x : Rcd) (k : Int) : Int := pA x k + x.acks.length + su (lsA x.acks) x.acks.length
structure RcdAt (x : Rcd) (k r : Int) (y : Rcd) : Prop where
  e : r = pE x k
  pos : 0 < r
  sc : ∀ i, encRcd y i = encRcd x i
  ss : y.ss.length = x.ss.length
  ds : y.ds.length = x.ds.length
  wi : y.wishes.length = x.wishes.length
  ye : y.yes.length = x.yes.length
  be : y.best.length = x.best.length
  ssAt : SlotsAt k y.ss
  dsAt : SlotsAt (k + 2 * x.ss.length) y.ds
  held : MsgsAt (pH x k) (lsM x.held) y.held
  wiAt : StrsAt (pW x k) y.wishes
  yeAt : IntsAt (pW x k + x.wishes.length) y.yes
  beAt : SlotsAt (pB x k) y.best
  acks : AcksAt (pA x k) (lsA x.acks) y.acks
theorem rcd_pos (x : Rcd) (k : Int) (hn : SmallR x) : su (lsM x.held) x.held.length ≤ 1048576 * x.held.length ∧ su (lsA x.acks) x.acks.length ≤ 1048576 * x.acks.length :=
  ⟨su_le (by simpa [lsM] using hn.helds) _, su_le (by simpa [lsA] using hn.ackss) _⟩
theorem mkRec (x : Rcd) (i : AtRcd) (k : Int) (h0 : 0 < k) (h1 : k ≤ 8796093022208) (hn : SmallR x) (HM : Mem w0 W (partRcd 91 85 9 3 93 x i ++ L)) :
    Calls Try.prog 11 #[.agg (encRcd x i).toArray, .int .i64 k] W fun e W' => ∃ r y, e = .returned (.int .i64 r) ∧ RcdAt x k r y ∧ Mem w0 W' (partRcd 91 85 9 3 93 y i ++ L) := by
  refine enter Try.func11 rfl Try.ntmps11 [(0, .agg (encRcd x i).toArray), (1, _)] rfl ⟨rfl, rfl, trivial⟩ ?_
  have s1 := hn.ss
  have s2 := hn.ds
  have s3 := hn.held
  have s4 := hn.wishes
  have s5 := hn.yes
  have s6 := hn.best
  have s7 := hn.acks
  obtain ⟨u1, u2⟩ := rcd_pos x k hn
  unfold encRcd
  simp only [partRcd, List.cons_append, List.nil_append] at HM
  repeat (first | (refine gGP ?_; first | refine gp (p_move rfl) ?_ | refine gp (p_assign rfl) ?_ | refine gp (p_field rfl (by simp only [Nat.reduceAdd]; rfl)) ?_) | (refine gGV ?_; first | refine gv (p_load rfl) ?_ | refine gv (p_loads rfl) ?_) | (refine gL ?_; first | refine s_gp rfl rfl ?_ | refine s_gv HM rfl ?_ | (refine gCall ?_; (refine s_fn rfl rfl ?_; first | (go_at_call 40; first | (refine (mkDisk _ _ _ (by omega) (by omega) (by with_reducible exact s1) HM.pk).mono ?_; rintro e W1 ⟨z1, rfl, hz1, hza1, HM1⟩; refine ⟨_, rfl, ?_⟩; clear HM; have HM := HM1; clear HM1) | (refine (mkDisk _ _ _ (by omega) (by omega) (by with_reducible exact s2) HM.pk).mono ?_; rintro e W1 ⟨z2, rfl, hz2, hza2, HM1⟩; refine ⟨_, rfl, ?_⟩; clear HM; have HM := HM1; clear HM1)) | (go_at_call 41; refine (mkMsgS _ (by omega) (by omega) s3 hn.helds HM.pk).mono ?_; rintro e W1 ⟨zh, rfl, hh, HM1⟩; refine ⟨_, rfl, ?_⟩; clear HM; have HM := HM1; clear HM1) | (go_at_call 42; refine (markStrS _ (by omega) (by omega) s4 HM.pk).mono ?_; rintro e W1 ⟨zw, rfl, hw, hwa, HM1⟩; refine ⟨_, rfl, ?_⟩; clear HM; have HM := HM1; clear HM1) | (go_at_call 43; refine (mkIntS _ (by omega) (by omega) s5 HM.pk).mono ?_; rintro e W1 ⟨zy, rfl, hy, hya, HM1⟩; refine ⟨_, rfl, ?_⟩; clear HM; have HM := HM1; clear HM1) | (go_at_call 44; refine (mkSlotS _ (by omega) (by omega) s6 HM.pk).mono ?_; rintro e W1 ⟨zb, rfl, hb, hba, HM1⟩; refine ⟨_, rfl, ?_⟩; clear HM; have HM := HM1; clear HM1) | (go_at_call 45; refine (mkAckS _ (by omega) (by omega) s7 hn.ackss HM.pk).mono ?_; rintro e W1 ⟨za, rfl, ha, HM1⟩; refine ⟨_, rfl, ?_⟩; clear HM; have HM := HM1; clear HM1))) | (refine s_box HM rfl rfl ?_; intro g W1 HM1; clear HM; have HM := HM1; clear HM1) | refine l_nil ?_) | (refine gC ?_; first | refine c_seq ?_ | refine c_region ?_ | refine c_ret ?_) | (refine gN ?_; refine n_then ?_))
  have lh : zh.length = x.held.length := by rw [hh.1]; simp [lsM]
  have la : za.length = x.acks.length := by rw [ha.1]; simp [lsA]
  exact ret_tmp rfl rfl ⟨_, { x with ss := z1, ds := z2, held := zh, wishes := zw, yes := zy, best := zb, acks := za }, rfl, ⟨rfl, by omega, fun i => by simp only [encRcd, hz1, hz2, hw, hy, hb, lh, la], hz1, hz2, hw, hy, hb, hza1, hza2, hh, fun j hj => hwa j (by simp only at hj; omega), hya, hba, ha⟩, by simp only [partRcd, List.cons_append, List.nil_append]; exact HM.sb⟩
theorem hdRec (x : Rcd) (i : AtRcd) {y : Rcd} {r : Int} (k : Int) (h0 : 0 < k) (h1 : k ≤ 8796093022208) (hn : SmallR x) (hy : RcdAt x k r y) (HM : Mem w0 W (partRcd 91 85 9 3 93 y i ++ L)) :
    Calls Try.prog 12 #[.agg (encRcd x i).toArray, .int .i64 k] W fun e W' => e = .returned (.int .i64 r) ∧ Mem w0 W' (partRcd 91 85 9 3 93 y i ++ L) := by
  refine enter Try.func12 rfl Try.ntmps12 [(0, .agg (encRcd x i).toArray), (1, _)] rfl ⟨rfl, rfl, trivial⟩ ?_
  obtain ⟨q0, q1, qs, l1, l2, l4, l5, l6, a1, a2, a3, a4, a5, a6, a7⟩ := hy
  have s1 := hn.ss
  have s2 := hn.ds
  have s3 := hn.held
  have s4 := hn.wishes
  have s5 := hn.yes
  have s6 := hn.best
  have s7 := hn.acks
  obtain ⟨u1, u2⟩ := rcd_pos x k hn
  have hM : (lsM x.held).length = x.held.length := by simp [lsM]
  have hA : (lsA x.acks).length = x.acks.length := by simp [lsA]
  have hMs : ∀ l ∈ lsM x.held, l ≤ 1048576 := by simpa [lsM] using hn.helds
  have hAs : ∀ l ∈ lsA x.acks, l ≤ 1048576 := by simpa [lsA] using hn.ackss
  subst q0
  simp only [pE, pA, pB, pW, pH] at *
  unfold encRcd
  simp only [partRcd, List.cons_append, List.nil_append] at HM
  repeat (first | (refine gGP ?_; first | refine gp (p_move rfl) ?_ | refine gp (p_assign rfl) ?_ | (refine gGB ?_; refine gp (p_lss rfl rfl) ?_) | refine gp (p_field rfl (by simp only [Nat.reduceAdd]; rfl)) ?_) | (refine gGV ?_; first | refine gv (p_load rfl) ?_ | refine gv (p_loads rfl) ?_) | (refine gL ?_; first | refine s_gp rfl rfl ?_ | refine s_gv HM rfl ?_ | (refine gCall ?_; (refine s_fn rfl rfl ?_; first | (go_at_call 46; refine (hdDisk _ _ (by first | with_reducible exact l1 | with_reducible exact l2) _ (by omega) (by omega) (by first | with_reducible exact s1 | with_reducible exact s2) (by first | exact a1 | exact a2) (by exact HM.pk)).mono ?_; rintro e W1 ⟨rfl, HM1⟩; refine ⟨_, rfl, ?_⟩; clear HM; have HM := HM1; clear HM1) | (go_at_call 47; refine (hdMsgS hM hMs _ (by omega) (by omega) s3 a3 HM.pk).mono ?_; rintro e W1 ⟨rfl, HM1⟩; refine ⟨_, rfl, ?_⟩; clear HM; have HM := HM1; clear HM1) | (go_at_call 48; refine (hdStrS l4 _ (by omega) (by omega) s4 a4 HM.pk).mono ?_; rintro e W1 ⟨rfl, HM1⟩; refine ⟨_, rfl, ?_⟩; clear HM; have HM := HM1; clear HM1) | (go_at_call 49; refine (hdIntS l5 _ (by omega) (by omega) s5 a5 HM.pk).mono ?_; rintro e W1 ⟨rfl, HM1⟩; refine ⟨_, rfl, ?_⟩; clear HM; have HM := HM1; clear HM1) | (go_at_call 50; refine (hdSlotS l6 _ (by omega) (by omega) s6 a6 HM.pk).mono ?_; rintro e W1 ⟨rfl, HM1⟩; refine ⟨_, rfl, ?_⟩; clear HM; have HM := HM1; clear HM1) | (go_at_call 51; refine (hdAckS hA hAs _ (by omega) (by omega) s7 a7 HM.pk).mono ?_; rintro e W1 ⟨rfl, HM1⟩; refine ⟨_, rfl, ?_⟩; clear HM; have HM := HM1; clear HM1))) | (refine s_box HM rfl rfl ?_; intro g W1 HM1; clear HM; have HM := HM1; clear HM1) | refine l_nil ?_) | (refine gC ?_; first | refine c_seq ?_ | refine c_region ?_ | refine c_skip ?_ | refine c_ret ?_ | refine c_no rfl (by (simp; omega)) ?_) | (refine gN ?_; refine n_then ?_))
  exact ret_tmp rfl rfl ⟨rfl, by simp only [partRcd, List.cons_append, List.nil_append]; exact HM.sb⟩
end Go.Proofs.Ytokhocmopmoblaa.Sp
