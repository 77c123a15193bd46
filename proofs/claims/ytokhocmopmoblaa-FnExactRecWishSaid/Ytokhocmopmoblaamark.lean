/- mark and held functions of the laws, on rows of the call's own. No condition. -/
import Derived.Test.Ytokhocmopmoblaatext
import Derived.Test.Ytokhocmopmoblaasz
namespace Go.Proofs.Ytokhocmopmoblaa.Sp
open Go Go.RowKit
set_option linter.unusedVariables false
set_option linter.unusedSimpArgs false
set_option maxRecDepth 10000
set_option maxHeartbeats 4000000
variable {w0 W : World} {L : List Asn} {A : Option Addr} {c : Nat}
theorem markText_i (k : Int) (h0 : 0 < k) (h1 : k ≤ 9223372036854775000) (HM : Mem w0 W L) : Calls Try.prog 82 #[.int .i64 k] W fun e W' => e = .returned (.string (mt k.toNat)) ∧ Mem w0 W' L := by
  have := markText_c k.toNat (by omega) (by omega) HM
  rwa [Int.toNat_of_nonneg (by omega)] at this
theorem markIntS {xs : List Int} (k : Int) (h0 : 0 < k) (h1 : k ≤ 1125899906842624) (hn : xs.length ≤ 1048576) (HM : Mem w0 W (own tInt 3 A c xs :: L)) :
    Calls Try.prog 43 #[.slice A xs.length c, .int .i64 k] W fun e W' => ∃ ys, e = .returned (.int .i64 (k + xs.length)) ∧ ys.length = xs.length ∧ Mem w0 W' (own tInt 3 A c ys :: L) := by
  refine enter Try.func43 rfl Try.ntmps43 [(0, _), (1, _)] rfl ⟨rfl, rfl, trivial⟩ ?_
  repeat (first | (refine gGP ?_; refine gp (p_assign rfl) ?_) | (refine gL ?_; first | refine s_gp rfl rfl ?_ | refine l_nil ?_) | (refine gC ?_; first | refine c_seq ?_ | refine c_region ?_ | refine c_block ?_) | (refine gN ?_; refine n_then ?_))
  refine c_loop (σ := Nat) (fun i => [(0, .slice A xs.length c), (1, .int .i64 (k + i)), (5, .int .i64 i)]) (fun i W1 => i ≤ xs.length ∧ ∃ ys, ys.length = xs.length ∧ Mem w0 W1 (own tInt 3 A c ys :: L)) (fun i => xs.length - i) 0 (by repeat (first | exact trivial | refine And.intro (by first | rfl | exact look_int rfl (by omega)) ?_)) ⟨Nat.zero_le _, xs, rfl, HM⟩ ?_
  clear HM
  rintro i W1 ⟨hi, ys, hl, HM⟩
  by_cases hlt : i < xs.length
  · repeat (first | (refine gGP ?_; first | refine gp (p_move rfl) ?_ | refine gp (p_assign rfl) ?_ | (refine gGB ?_; first | refine gp (p_lss rfl rfl) ?_ | refine gp (p_add rfl rfl (by exact wr (by omega) (by omega))) ?_) | refine gp (p_indexo HM rfl (by first | with_reducible rfl | omega) rfl (by omega) (by omega)) ?_ | refine gp (p_len rfl) ?_) | (refine gL ?_; first | refine s_gp rfl rfl ?_ | (refine gStore ?_; (refine s_storeo HM rfl rfl rfl (by omega) (by omega) rfl ?_; intro W1 HM1; clear HM; have HM := HM1; clear HM1; (try dsimp only at HM))) | refine l_nil ?_) | (refine gC ?_; first | refine c_seq ?_ | refine c_region ?_ | refine c_block ?_ | refine c_skip ?_ | refine c_yes rfl (by (simp; omega)) ?_) | (refine gN ?_; first | refine n_then ?_ | refine n_block ?_))
    exact n_round (i + 1) (by repeat (first | exact trivial | refine And.intro (by first | rfl | exact look_int rfl (by omega)) ?_)) ⟨by omega, _, by rw [List.length_set]; exact hl, HM⟩ (by omega)
  · repeat (first | (refine gGP ?_; first | refine gp (p_move rfl) ?_ | refine gp (p_assign rfl) ?_ | (refine gGB ?_; refine gp (p_lss rfl rfl) ?_) | refine gp (p_len rfl) ?_) | (refine gL ?_; first | refine s_gp rfl rfl ?_ | refine l_nil ?_) | (refine gC ?_; first | refine c_seq ?_ | refine c_region ?_ | refine c_exit ?_ | refine c_ret ?_ | refine c_no rfl (by (simp; omega)) ?_) | (refine gN ?_; first | refine n_then ?_ | refine x_then ?_ | refine x_here ?_))
    obtain rfl : i = xs.length := by omega
    exact ret_tmp rfl rfl ⟨ys, rfl, hl, HM⟩
theorem markStrS {xs : List ByteArray} (k : Int) (h0 : 0 < k) (h1 : k ≤ 1125899906842624) (hn : xs.length ≤ 1048576) (HM : Mem w0 W (own tStr 9 A c xs :: L)) :
    Calls Try.prog 42 #[.slice A xs.length c, .int .i64 k] W fun e W' => ∃ ys, e = .returned (.int .i64 (k + xs.length)) ∧ ys.length = xs.length ∧ (∀ j : Nat, j < xs.length → rd tStr ys j = mt (k + j).toNat) ∧ Mem w0 W' (own tStr 9 A c ys :: L) := by
  refine enter Try.func42 rfl Try.ntmps42 [(0, _), (1, _)] rfl ⟨rfl, rfl, trivial⟩ ?_
  repeat (first | (refine gGP ?_; refine gp (p_assign rfl) ?_) | (refine gL ?_; first | refine s_gp rfl rfl ?_ | refine l_nil ?_) | (refine gC ?_; first | refine c_seq ?_ | refine c_region ?_ | refine c_block ?_) | (refine gN ?_; refine n_then ?_))
  refine c_loop (σ := Nat) (fun i => [(0, .slice A xs.length c), (1, .int .i64 (k + i)), (5, .int .i64 i)]) (fun i W1 => i ≤ xs.length ∧ ∃ ys, ys.length = xs.length ∧ (∀ j : Nat, j < i → rd tStr ys j = mt (k + j).toNat) ∧ Mem w0 W1 (own tStr 9 A c ys :: L)) (fun i => xs.length - i) 0 (by repeat (first | exact trivial | refine And.intro (by first | rfl | exact look_int rfl (by omega)) ?_)) ⟨Nat.zero_le _, xs, rfl, fun j hj => by omega, HM⟩ ?_
  clear HM
  rintro i W1 ⟨hi, ys, hl, hy, HM⟩
  by_cases hlt : i < xs.length
  · repeat (first | (refine gGP ?_; first | refine gp (p_move rfl) ?_ | refine gp (p_assign rfl) ?_ | (refine gGB ?_; first | refine gp (p_lss rfl rfl) ?_ | refine gp (p_add rfl rfl (by exact wr (by omega) (by omega))) ?_) | refine gp (p_indexo HM rfl (by first | with_reducible rfl | omega) rfl (by omega) (by omega)) ?_ | refine gp (p_len rfl) ?_) | (refine gL ?_; first | refine s_gp rfl rfl ?_ | (refine gStore ?_; (refine s_storeo HM rfl rfl rfl (by omega) (by omega) rfl ?_; intro W1 HM1; clear HM; have HM := HM1; clear HM1; (try dsimp only at HM))) | (refine gCall ?_; (refine s_fn rfl rfl ?_; (go_at_call 82; refine (markText_i _ (by omega) (by omega) HM).mono ?_; rintro e W1 ⟨rfl, HM1⟩; refine ⟨_, rfl, ?_⟩; clear HM; have HM := HM1; clear HM1))) | refine l_nil ?_) | (refine gC ?_; first | refine c_seq ?_ | refine c_region ?_ | refine c_block ?_ | refine c_skip ?_ | refine c_yes rfl (by (simp; omega)) ?_) | (refine gN ?_; first | refine n_then ?_ | refine n_block ?_))
    refine n_round (i + 1) (by repeat (first | exact trivial | refine And.intro (by first | rfl | exact look_int rfl (by omega)) ?_)) ⟨by omega, _, by rw [List.length_set]; exact hl, fun j hj => ?_, HM⟩ (by omega)
    by_cases e : j = i
    · subst e
      exact rd_set (d := tStr) (xs := ys) (i := (j : Int)) (by omega) (by omega) _
    · rw [Int.toNat_natCast, rd_set_ne (fun h => e h.symm)]
      exact hy j (by omega)
  · repeat (first | (refine gGP ?_; first | refine gp (p_move rfl) ?_ | refine gp (p_assign rfl) ?_ | (refine gGB ?_; refine gp (p_lss rfl rfl) ?_) | refine gp (p_len rfl) ?_) | (refine gL ?_; first | refine s_gp rfl rfl ?_ | refine l_nil ?_) | (refine gC ?_; first | refine c_seq ?_ | refine c_region ?_ | refine c_exit ?_ | refine c_ret ?_ | refine c_no rfl (by (simp; omega)) ?_) | (refine gN ?_; first | refine n_then ?_ | refine x_then ?_ | refine x_here ?_))
    obtain rfl : i = xs.length := by omega
    exact ret_tmp rfl rfl ⟨ys, rfl, hl, hy, HM⟩
theorem heldStrS {xs : List ByteArray} (k : Int) (h0 : 0 < k) (h1 : k ≤ 1125899906842624) (hn : xs.length ≤ 1048576) (hy : ∀ j : Nat, j < xs.length → rd tStr xs j = mt (k + j).toNat) (HM : Mem w0 W (own tStr 9 A c xs :: L)) :
    Calls Try.prog 48 #[.slice A xs.length c, .int .i64 k] W fun e W' => e = .returned (.int .i64 (k + xs.length)) ∧ Mem w0 W' (own tStr 9 A c xs :: L) := by
  refine enter Try.func48 rfl Try.ntmps48 [(0, _), (1, _)] rfl ⟨rfl, rfl, trivial⟩ ?_
  repeat (first | (refine gGP ?_; refine gp (p_assign rfl) ?_) | (refine gL ?_; first | refine s_gp rfl rfl ?_ | refine l_nil ?_) | (refine gC ?_; first | refine c_seq ?_ | refine c_region ?_ | refine c_block ?_) | (refine gN ?_; refine n_then ?_))
  refine c_loop (σ := Nat) (fun i => [(0, .slice A xs.length c), (1, .int .i64 (k + i)), (5, .int .i64 i)]) (fun i W1 => i ≤ xs.length ∧ Mem w0 W1 (own tStr 9 A c xs :: L)) (fun i => xs.length - i) 0 (by repeat (first | exact trivial | refine And.intro (by first | rfl | exact look_int rfl (by omega)) ?_)) ⟨Nat.zero_le _, HM⟩ ?_
  clear HM
  rintro i W1 ⟨hi, HM⟩
  by_cases hlt : i < xs.length
  · have e := hy i hlt
    repeat (first | (refine gR ?_; refine d_start [] [(0, 0), (0, 1), (0, 2), (0, 4), (1, 3), (2, 5), (0, 6)] HM (by kernel_rfl) (by kernel_rfl) (by repeat (first | exact qp_body | refine qp_then ?_ | refine qp_block ?_)) (by kernel_rfl) rfl ?_; intro HQ HS W1 HM1; clear HM; have HM := HM1; clear HM1) | (refine gGP ?_; first | refine gp (p_move rfl) ?_ | refine gp (p_assign rfl) ?_ | (refine gGB ?_; first | refine gp (p_lss rfl rfl) ?_ | refine gp (p_sneq rfl rfl) ?_ | refine gp (p_add rfl rfl (by exact wr (by omega) (by omega))) ?_) | refine gp (p_indexo HM rfl (by first | with_reducible rfl | omega) rfl (by omega) (by omega)) ?_ | refine gp (p_len rfl) ?_) | (refine gGV ?_; refine gv (p_loado rfl rfl (by omega) (by omega) rfl) ?_) | (refine gL ?_; first | refine s_gp rfl rfl ?_ | (refine gCall ?_; (refine s_fn rfl rfl ?_; (go_at_call 82; refine (markText_i _ (by omega) (by omega) HM).mono ?_; rintro e W1 ⟨rfl, HM1⟩; refine ⟨_, rfl, ?_⟩; clear HM; have HM := HM1; clear HM1))) | refine l_nil ?_) | (refine gC ?_; first | refine c_seq ?_ | refine c_region ?_ | refine c_block ?_ | refine c_skip ?_ | refine c_yes rfl (by (simp; omega)) ?_ | refine c_no rfl (by (simp; omega)) ?_) | (refine gN ?_; first | refine n_then ?_ | refine n_block ?_ | refine d_back (by exact HM) ?_) | (refine gD ?_; first | refine d_next rfl ?_ | refine d_done ?_) | (refine gO ?_; first | refine d_gp HQ HS rfl ?_ | refine d_gv HQ HS rfl ?_ | refine d_one ?_))
    exact n_round (i + 1) (by repeat (first | exact trivial | refine And.intro (by first | rfl | exact look_int rfl (by omega)) ?_)) ⟨by omega, HM⟩ (by omega)
  · repeat (first | (refine gGP ?_; first | refine gp (p_move rfl) ?_ | refine gp (p_assign rfl) ?_ | (refine gGB ?_; refine gp (p_lss rfl rfl) ?_) | refine gp (p_len rfl) ?_) | (refine gL ?_; first | refine s_gp rfl rfl ?_ | refine l_nil ?_) | (refine gC ?_; first | refine c_seq ?_ | refine c_region ?_ | refine c_exit ?_ | refine c_ret ?_ | refine c_no rfl (by (simp; omega)) ?_) | (refine gN ?_; first | refine n_then ?_ | refine x_then ?_ | refine x_here ?_))
    obtain rfl : i = xs.length := by omega
    exact ret_tmp rfl rfl ⟨rfl, HM⟩
theorem markSlotS {xs : List Slot} (k : Int) (h0 : 0 < k) (h1 : k ≤ 1125899906842624) (hn : xs.length ≤ 1048576) (HM : Mem w0 W (own tSlot 91 A c xs :: L)) :
    Calls Try.prog 44 #[.slice A xs.length c, .int .i64 k] W fun e W' => ∃ ys, e = .returned (.int .i64 (k + 2 * xs.length)) ∧ ys.length = xs.length ∧ Mem w0 W' (own tSlot 91 A c ys :: L) := by
  refine enter Try.func44 rfl Try.ntmps44 [(0, _), (1, _)] rfl ⟨rfl, rfl, trivial⟩ ?_
  repeat (first | (refine gGP ?_; refine gp (p_assign rfl) ?_) | (refine gL ?_; first | refine s_gp rfl rfl ?_ | refine l_nil ?_) | (refine gC ?_; first | refine c_seq ?_ | refine c_region ?_ | refine c_block ?_) | (refine gN ?_; refine n_then ?_))
  refine c_loop (σ := Nat) (fun i => [(0, .slice A xs.length c), (1, .int .i64 (k + 2 * i)), (5, .int .i64 i)]) (fun i W1 => i ≤ xs.length ∧ ∃ ys, ys.length = xs.length ∧ Mem w0 W1 (own tSlot 91 A c ys :: L)) (fun i => xs.length - i) 0 (by repeat (first | exact trivial | refine And.intro (by first | rfl | exact look_int rfl (by omega)) ?_)) ⟨Nat.zero_le _, xs, rfl, HM⟩ ?_
  clear HM
  rintro i W1 ⟨hi, ys, hl, HM⟩
  by_cases hlt : i < xs.length
  · repeat (first | (refine gGP ?_; first | refine gp (p_move rfl) ?_ | refine gp (p_assign rfl) ?_ | (refine gGB ?_; first | refine gp (p_lss rfl rfl) ?_ | refine gp (p_add rfl rfl (by exact wr (by omega) (by omega))) ?_) | refine gp (p_fieldo rfl (by simp only [Nat.reduceAdd]; rfl)) ?_ | refine gp (p_indexo HM rfl (by first | with_reducible rfl | (simp only [List.length_set, List.length_append, List.length_cons, List.length_nil]; omega) | omega) rfl (by omega) (by first | (simp only [List.length_set, List.length_append, List.length_cons, List.length_nil]; omega) | omega)) ?_ | refine gp (p_len rfl) ?_) | (refine gL ?_; first | refine s_gp rfl rfl ?_ | (refine gStore ?_; first | (refine s_storeo2 HM rfl rfl rfl rfl (by omega) (by omega) rfl ?_; intro W1 HM1; clear HM; have HM := HM1; clear HM1; (try dsimp only at HM)) | (refine s_storeo HM rfl rfl rfl (by omega) (by omega) rfl ?_; intro W1 HM1; clear HM; have HM := HM1; clear HM1; (try dsimp only at HM))) | (refine gCall ?_; (refine s_fn rfl rfl ?_; (go_at_call 82; refine (markText_i _ (by omega) (by omega) HM).mono ?_; rintro e W1 ⟨rfl, HM1⟩; refine ⟨_, rfl, ?_⟩; clear HM; have HM := HM1; clear HM1))) | refine l_nil ?_) | (refine gC ?_; first | refine c_seq ?_ | refine c_region ?_ | refine c_block ?_ | refine c_skip ?_ | refine c_yes rfl (by (simp; omega)) ?_) | (refine gN ?_; first | refine n_then ?_ | refine n_block ?_))
    exact n_round (i + 1) (by repeat (first | exact trivial | refine And.intro (by first | rfl | exact look_int rfl (by omega)) ?_)) ⟨by omega, _, by rw [List.length_set]; exact hl, HM⟩ (by omega)
  · repeat (first | (refine gGP ?_; first | refine gp (p_move rfl) ?_ | refine gp (p_assign rfl) ?_ | (refine gGB ?_; refine gp (p_lss rfl rfl) ?_) | refine gp (p_len rfl) ?_) | (refine gL ?_; first | refine s_gp rfl rfl ?_ | refine l_nil ?_) | (refine gC ?_; first | refine c_seq ?_ | refine c_region ?_ | refine c_exit ?_ | refine c_ret ?_ | refine c_no rfl (by (simp; omega)) ?_) | (refine gN ?_; first | refine n_then ?_ | refine x_then ?_ | refine x_here ?_))
    obtain rfl : i = xs.length := by omega
    exact ret_tmp rfl rfl ⟨ys, rfl, hl, HM⟩
/-! nested rows: an element laid open -/
section
variable {α ι : Type} {e : Nat} {xs : List α}
theorem opn_nest {sz : Nat} {z : α} {enc : α → ι → List Value} {parts : α → ι → List Asn} {get : α → Nat → Option Value} {set : α → Nat → Value → Option α} {hl h1 hg hs} (h : Mem w0 W (own (nest sz z enc parts get set hl h1 hg hs) e A c xs :: L)) (i : Nat) (hi : i < xs.length) :
    ∃ j, Mem w0 W (hol (nest sz z enc parts get set hl h1 hg hs) e A c xs i (enc xs[i] j) :: (parts xs[i] j ++ L)) := by
  obtain ⟨cs, h2⟩ := opn_ h i hi
  have h3 : Mem w0 W (exP (fun j => cs = enc xs[i] j) (parts xs[i]) :: hol (nest sz z enc parts get set hl h1 hg hs) e A c xs i cs :: L) := h2.perm (List.Perm.swap ..)
  obtain ⟨j, rfl, h4⟩ := h3.ex
  exact ⟨j, h4.perm List.perm_middle⟩
theorem cls_nest {sz : Nat} {z : α} {enc : α → ι → List Value} {parts : α → ι → List Asn} {get : α → Nat → Option Value} {set : α → Nat → Value → Option α} {hl h1 hg hs} {i : Nat} {x : α} {j : ι} (h : Mem w0 W (hol (nest sz z enc parts get set hl h1 hg hs) e A c xs i (enc x j) :: (parts x j ++ L))) :
    Mem w0 W (own (nest sz z enc parts get set hl h1 hg hs) e A c (xs.set i x) :: L) := by
  have h4 := h.perm (List.perm_middle (a := hol (nest sz z enc parts get set hl h1 hg hs) e A c xs i (enc x j)) (l₁ := parts x j) (l₂ := L)).symm
  have h3 : Mem w0 W (exP (fun k => enc x j = enc x k) (parts x) :: hol (nest sz z enc parts get set hl h1 hg hs) e A c xs i (enc x j) :: L) := Mem.mkx j rfl h4
  exact cls_ (h3.perm (List.Perm.swap ..))
end
theorem markMsgS {xs : List Msg} (k : Int) (h0 : 0 < k) (h1 : k ≤ 35184372088832) (hn : xs.length ≤ 1048576) (hm : ∀ x ∈ xs, x.slots.length ≤ 1048576) (HM : Mem w0 W (own (tMsg 91) 85 A c xs :: L)) :
    Calls Try.prog 41 #[.slice A xs.length c, .int .i64 k] W fun e W' => ∃ r ys, e = .returned (.int .i64 r) ∧ 0 < r ∧ r ≤ k + 2199030595584 ∧ ys.length = xs.length ∧ Mem w0 W' (own (tMsg 91) 85 A c ys :: L) := by
  refine enter Try.func41 rfl Try.ntmps41 [(0, _), (1, _)] rfl ⟨rfl, rfl, trivial⟩ ?_
  repeat (first | (refine gGP ?_; refine gp (p_assign rfl) ?_) | (refine gL ?_; first | refine s_gp rfl rfl ?_ | refine l_nil ?_) | (refine gC ?_; first | refine c_seq ?_ | refine c_region ?_ | refine c_block ?_) | (refine gN ?_; refine n_then ?_))
  refine c_loop (σ := Nat × Int) (fun s => [(0, .slice A xs.length c), (1, .int .i64 s.2), (5, .int .i64 s.1)]) (fun s W1 => s.1 ≤ xs.length ∧ 0 < s.2 ∧ s.2 ≤ k + 2097159 * s.1 ∧ ∃ ys : List Msg, ys.length = xs.length ∧ (∀ j (h : j < ys.length), s.1 ≤ j → ys[j].slots.length ≤ 1048576) ∧ Mem w0 W1 (own (tMsg 91) 85 A c ys :: L)) (fun s => xs.length - s.1) (0, k) (by repeat (first | exact trivial | refine And.intro (by first | rfl | exact look_int rfl (by omega)) ?_)) ⟨Nat.zero_le _, h0, by simp, xs, rfl, fun j hj _ => hm _ (List.getElem_mem hj), HM⟩ ?_
  clear HM
  rintro ⟨i, r⟩ W1 ⟨hi, r0, r1, ys, hl, hy, HM⟩
  dsimp only at hi r0 r1 hy HM ⊢
  by_cases hlt : i < xs.length
  · have hlt2 : i < ys.length := by omega
    have hsl := hy i hlt2 (Nat.le_refl _)
    obtain ⟨j, HM⟩ := opn_nest HM i hlt2
    replace HM : Mem w0 W1 (hol (tMsg 91) 85 A c ys i (encMsg ys[i] j) :: own tSlot 91 j.1 j.2 ys[i].slots :: L) := HM
    unfold encMsg at HM
    repeat (first | (refine gGP ?_; first | refine gp (p_move rfl) ?_ | refine gp (p_assign rfl) ?_ | (refine gGB ?_; first | refine gp (p_lss rfl rfl) ?_ | refine gp (p_add rfl rfl (by exact wr (by omega) (by omega))) ?_) | refine gp (p_fieldo rfl (by simp only [Nat.reduceAdd]; rfl)) ?_ | refine gp (p_indexh HM rfl (by first | with_reducible rfl | omega) rfl (by omega) (by omega)) ?_ | refine gp (p_len rfl) ?_) | (refine gGV ?_; refine gv (p_loadh rfl rfl rfl) ?_) | (refine gL ?_; first | refine s_gp rfl rfl ?_ | refine s_gv HM rfl ?_ | (refine gStore ?_; (refine s_storeh HM rfl rfl rfl rfl rfl rfl ?_; intro W1 HM1; clear HM; have HM := HM1; clear HM1; (try dsimp only at HM))) | (refine gCall ?_; (refine s_fn rfl rfl ?_; first | (go_at_call 82; refine (markText_i _ (by omega) (by omega) HM).mono ?_; rintro e W1 ⟨rfl, HM1⟩; refine ⟨_, rfl, ?_⟩; clear HM; have HM := HM1; clear HM1) | (go_at_call 44; refine (markSlotS _ (by omega) (by omega) hsl HM.pk).mono ?_; rintro e W1 ⟨zs, rfl, hz, HM1⟩; refine ⟨_, rfl, ?_⟩; clear HM; have HM := HM1; clear HM1))) | refine l_nil ?_) | (refine gC ?_; first | refine c_seq ?_ | refine c_region ?_ | refine c_block ?_ | refine c_skip ?_ | refine c_yes rfl (by (simp; omega)) ?_) | (refine gN ?_; first | refine n_then ?_ | refine n_block ?_))
    rw [← hz] at HM
    have HM2 := cls_nest (x := (⟨_, _, _, _, _, _, _, zs⟩ : Msg)) (j := j) (HM.perm (List.Perm.swap ..))
    refine n_round (i + 1, _) (by repeat (first | exact trivial | refine And.intro (by first | rfl | exact look_int rfl (by omega)) ?_)) ⟨by simp only; omega, by simp only; omega, by simp only; omega, _, by rw [List.length_set]; exact hl, fun q hq hq2 => ?_, HM2⟩ (by simp only; omega)
    simp only at hq2
    rw [List.getElem_set_ne (by omega)]
    exact hy q (by simpa using hq) (by omega)
  · repeat (first | (refine gGP ?_; first | refine gp (p_move rfl) ?_ | refine gp (p_assign rfl) ?_ | (refine gGB ?_; refine gp (p_lss rfl rfl) ?_) | refine gp (p_len rfl) ?_) | (refine gL ?_; first | refine s_gp rfl rfl ?_ | refine l_nil ?_) | (refine gC ?_; first | refine c_seq ?_ | refine c_region ?_ | refine c_exit ?_ | refine c_ret ?_ | refine c_no rfl (by (simp; omega)) ?_) | (refine gN ?_; first | refine n_then ?_ | refine x_then ?_ | refine x_here ?_))
    obtain rfl : i = xs.length := by omega
    exact ret_tmp rfl rfl ⟨_, ys, rfl, r0, by omega, hl, HM⟩
theorem markAckS {xs : List Ack} (k : Int) (h0 : 0 < k) (h1 : k ≤ 35184372088832) (hn : xs.length ≤ 1048576) (hm : ∀ x ∈ xs, x.frm.length ≤ 1048576) (HM : Mem w0 W (own (tAck 3) 93 A c xs :: L)) :
    Calls Try.prog 45 #[.slice A xs.length c, .int .i64 k] W fun e W' => ∃ r ys, e = .returned (.int .i64 r) ∧ 0 < r ∧ r ≤ k + 2199030595584 ∧ ys.length = xs.length ∧ Mem w0 W' (own (tAck 3) 93 A c ys :: L) := by
  refine enter Try.func45 rfl Try.ntmps45 [(0, _), (1, _)] rfl ⟨rfl, rfl, trivial⟩ ?_
  repeat (first | (refine gGP ?_; refine gp (p_assign rfl) ?_) | (refine gL ?_; first | refine s_gp rfl rfl ?_ | refine l_nil ?_) | (refine gC ?_; first | refine c_seq ?_ | refine c_region ?_ | refine c_block ?_) | (refine gN ?_; refine n_then ?_))
  refine c_loop (σ := Nat × Int) (fun s => [(0, .slice A xs.length c), (1, .int .i64 s.2), (5, .int .i64 s.1)]) (fun s W1 => s.1 ≤ xs.length ∧ 0 < s.2 ∧ s.2 ≤ k + 2097159 * s.1 ∧ ∃ ys : List Ack, ys.length = xs.length ∧ (∀ j (h : j < ys.length), s.1 ≤ j → ys[j].frm.length ≤ 1048576) ∧ Mem w0 W1 (own (tAck 3) 93 A c ys :: L)) (fun s => xs.length - s.1) (0, k) (by repeat (first | exact trivial | refine And.intro (by first | rfl | exact look_int rfl (by omega)) ?_)) ⟨Nat.zero_le _, h0, by simp, xs, rfl, fun j hj _ => hm _ (List.getElem_mem hj), HM⟩ ?_
  clear HM
  rintro ⟨i, r⟩ W1 ⟨hi, r0, r1, ys, hl, hy, HM⟩
  dsimp only at hi r0 r1 hy HM ⊢
  by_cases hlt : i < xs.length
  · have hlt2 : i < ys.length := by omega
    have hsl := hy i hlt2 (Nat.le_refl _)
    obtain ⟨j, HM⟩ := opn_nest HM i hlt2
    replace HM : Mem w0 W1 (hol (tAck 3) 93 A c ys i (encAck ys[i] j) :: own tInt 3 j.1 j.2 ys[i].frm :: L) := HM
    unfold encAck at HM
    repeat (first | (refine gGP ?_; first | refine gp (p_move rfl) ?_ | refine gp (p_assign rfl) ?_ | (refine gGB ?_; first | refine gp (p_lss rfl rfl) ?_ | refine gp (p_add rfl rfl (by exact wr (by omega) (by omega))) ?_) | refine gp (p_fieldo rfl (by simp only [Nat.reduceAdd]; rfl)) ?_ | refine gp (p_indexh HM rfl (by first | with_reducible rfl | omega) rfl (by omega) (by omega)) ?_ | refine gp (p_len rfl) ?_) | (refine gGV ?_; refine gv (p_loadh rfl rfl rfl) ?_) | (refine gL ?_; first | refine s_gp rfl rfl ?_ | refine s_gv HM rfl ?_ | (refine gStore ?_; (refine s_storeh HM rfl rfl rfl rfl rfl rfl ?_; intro W1 HM1; clear HM; have HM := HM1; clear HM1; (try dsimp only at HM))) | (refine gCall ?_; (refine s_fn rfl rfl ?_; (go_at_call 43; refine (markIntS _ (by omega) (by omega) hsl HM.pk).mono ?_; rintro e W1 ⟨zs, rfl, hz, HM1⟩; refine ⟨_, rfl, ?_⟩; clear HM; have HM := HM1; clear HM1))) | refine l_nil ?_) | (refine gC ?_; first | refine c_seq ?_ | refine c_region ?_ | refine c_block ?_ | refine c_skip ?_ | refine c_yes rfl (by (simp; omega)) ?_) | (refine gN ?_; first | refine n_then ?_ | refine n_block ?_))
    rw [← hz] at HM
    have HM2 := cls_nest (x := (⟨_, zs⟩ : Ack)) (j := j) (HM.perm (List.Perm.swap ..))
    refine n_round (i + 1, _) (by repeat (first | exact trivial | refine And.intro (by first | rfl | exact look_int rfl (by omega)) ?_)) ⟨by simp only; omega, by simp only; omega, by simp only; omega, _, by rw [List.length_set]; exact hl, fun q hq hq2 => ?_, HM2⟩ (by simp only; omega)
    simp only at hq2
    rw [List.getElem_set_ne (by omega)]
    exact hy q (by simpa using hq) (by omega)
  · repeat (first | (refine gGP ?_; first | refine gp (p_move rfl) ?_ | refine gp (p_assign rfl) ?_ | (refine gGB ?_; refine gp (p_lss rfl rfl) ?_) | refine gp (p_len rfl) ?_) | (refine gL ?_; first | refine s_gp rfl rfl ?_ | refine l_nil ?_) | (refine gC ?_; first | refine c_seq ?_ | refine c_region ?_ | refine c_exit ?_ | refine c_ret ?_ | refine c_no rfl (by (simp; omega)) ?_) | (refine gN ?_; first | refine n_then ?_ | refine x_then ?_ | refine x_here ?_))
    obtain rfl : i = xs.length := by omega
    exact ret_tmp rfl rfl ⟨_, ys, rfl, r0, by omega, hl, HM⟩
theorem markDisk (p q : Int) {xs : List Slot} (k : Int) (h0 : 0 < k) (h1 : k ≤ 1125899906842624) (hn : xs.length ≤ 1048576) (HM : Mem w0 W (own tSlot 91 A c xs :: L)) :
    Calls Try.prog 40 #[.agg #[.int .i64 p, .int .i64 q, .slice A xs.length c], .int .i64 k] W fun e W' => ∃ ys, e = .returned (.int .i64 (k + 2 * xs.length)) ∧ ys.length = xs.length ∧ Mem w0 W' (own tSlot 91 A c ys :: L) := by
  refine enter Try.func40 rfl Try.ntmps40 [(0, .agg #[.int .i64 p, .int .i64 q, .slice A xs.length c]), (1, _)] rfl ⟨rfl, rfl, trivial⟩ ?_
  repeat (first | (refine gGP ?_; first | refine gp (p_move rfl) ?_ | refine gp (p_assign rfl) ?_ | refine gp (p_field rfl (by simp only [Nat.reduceAdd]; rfl)) ?_) | (refine gGV ?_; refine gv (p_load rfl) ?_) | (refine gL ?_; first | refine s_gp rfl rfl ?_ | refine s_gv HM rfl ?_ | (refine gCall ?_; (refine s_fn rfl rfl ?_; (go_at_call 44; refine (markSlotS k h0 h1 hn HM.pk).mono ?_; rintro e W1 ⟨zs, rfl, hz, HM1⟩; refine ⟨_, rfl, ?_⟩; clear HM; have HM := HM1; clear HM1))) | (refine s_box HM rfl rfl ?_; intro g W1 HM1; clear HM; have HM := HM1; clear HM1) | refine l_nil ?_) | (refine gC ?_; first | refine c_seq ?_ | refine c_region ?_ | refine c_ret ?_) | (refine gN ?_; refine n_then ?_))
  exact ret_tmp rfl rfl ⟨zs, rfl, hz, HM.sb⟩
/-- A recorder's rows are marked: they stay rows of the call's own; nothing else is told of them. -/
theorem markRec (x : Rcd) (i : AtRcd) (k : Int) (h0 : 0 < k) (h1 : k ≤ 1000) (hn : SmallR x) (HM : Mem w0 W (partRcd 91 85 9 3 93 x i ++ L)) :
    Calls Try.prog 11 #[.agg (encRcd x i).toArray, .int .i64 k] W fun e W' => ∃ r, e = .returned (.int .i64 r) ∧ 0 < r ∧ Mem w0 W' L := by
  refine enter Try.func11 rfl Try.ntmps11 [(0, .agg (encRcd x i).toArray), (1, _)] rfl ⟨rfl, rfl, trivial⟩ ?_
  have s1 := hn.ss
  have s2 := hn.ds
  have s3 := hn.held
  have s4 := hn.wishes
  have s5 := hn.yes
  have s6 := hn.best
  have s7 := hn.acks
  unfold encRcd
  simp only [partRcd, List.cons_append, List.nil_append] at HM
  repeat (first | (refine gGP ?_; first | refine gp (p_move rfl) ?_ | refine gp (p_assign rfl) ?_ | refine gp (p_field rfl (by simp only [Nat.reduceAdd]; rfl)) ?_) | (refine gGV ?_; first | refine gv (p_load rfl) ?_ | refine gv (p_loads rfl) ?_) | (refine gL ?_; first | refine s_gp rfl rfl ?_ | refine s_gv HM rfl ?_ | (refine gCall ?_; (refine s_fn rfl rfl ?_; first | (go_at_call 40; refine (markDisk _ _ _ (by omega) (by omega) (by first | with_reducible exact s1 | with_reducible exact s2) HM.pk).mono ?_; rintro e W1 ⟨zs, rfl, hz, HM1⟩; refine ⟨_, rfl, ?_⟩; clear HM; have HM := HM1; clear HM1) | (go_at_call 41; refine (markMsgS _ (by omega) (by omega) s3 hn.helds HM.pk).mono ?_; rintro e W1 ⟨r1, zs, rfl, hr1, hr2, hz, HM1⟩; refine ⟨_, rfl, ?_⟩; clear HM; have HM := HM1; clear HM1) | (go_at_call 42; refine (markStrS _ (by omega) (by omega) s4 HM.pk).mono ?_; rintro e W1 ⟨zs, rfl, hz, _, HM1⟩; refine ⟨_, rfl, ?_⟩; clear HM; have HM := HM1; clear HM1) | (go_at_call 43; refine (markIntS _ (by omega) (by omega) s5 HM.pk).mono ?_; rintro e W1 ⟨zs, rfl, hz, HM1⟩; refine ⟨_, rfl, ?_⟩; clear HM; have HM := HM1; clear HM1) | (go_at_call 44; refine (markSlotS _ (by omega) (by omega) s6 HM.pk).mono ?_; rintro e W1 ⟨zs, rfl, hz, HM1⟩; refine ⟨_, rfl, ?_⟩; clear HM; have HM := HM1; clear HM1) | (go_at_call 45; refine (markAckS _ (by omega) (by omega) s7 hn.ackss HM.pk).mono ?_; rintro e W1 ⟨r2, zs, rfl, hr3, hr4, hz, HM1⟩; refine ⟨_, rfl, ?_⟩; clear HM; have HM := HM1; clear HM1))) | (refine s_box HM rfl rfl ?_; intro g W1 HM1; clear HM; have HM := HM1; clear HM1) | refine l_nil ?_) | (refine gC ?_; first | refine c_seq ?_ | refine c_region ?_ | refine c_ret ?_) | (refine gN ?_; refine n_then ?_))
  exact ret_tmp rfl rfl ⟨_, rfl, by omega, HM.sb⟩
end Go.Proofs.Ytokhocmopmoblaa.Sp
