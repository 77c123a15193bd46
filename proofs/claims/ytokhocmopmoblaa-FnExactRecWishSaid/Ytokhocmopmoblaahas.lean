/- Whether a text stands in slots. No condition. -/
import Derived.Test.Ytokhocmopmoblaaval4
import Derived.Test.YtokhocmopmoblaaSpAuto
namespace Go.Proofs.Ytokhocmopmoblaa.Sp
open Go Go.RowKit
set_option linter.unusedVariables false
set_option linter.unusedSimpArgs false
set_option maxRecDepth 10000
set_option maxHeartbeats 1000000
variable {w0 W : World} {L : List Asn} {A : Option Addr} {c : Nat} {b : Bool}
def hasB (zs : List Slot) (t : ByteArray) : Bool := zs.any (fun s => decide (0 < s.ballot) && decide (s.text = t))
def knownB (zs : List Slot) (t : ByteArray) : Bool := zs.any (fun s => decide (s.text = t))
theorem any_hit {α : Type} {p : α → Bool} {zs : List α} {k : Nat} (hk : k < zs.length) (h : p zs[k] = true) : zs.any p = true := List.any_eq_true.2 ⟨_, List.getElem_mem hk, h⟩
theorem any_succ {α : Type} {p : α → Bool} {zs : List α} {k : Nat} (hk : k < zs.length) (h0 : (zs.take k).any p = false) (h : p zs[k] = false) : (zs.take (k + 1)).any p = false := by
  rw [List.take_succ_eq_append_getElem hk, List.any_append, h0]; simp [h]
theorem has3_c {zs : List Slot} {l : Nat} (hl : l = zs.length) (t : ByteArray) (h : RoRow (rSlot b) w0 A zs) (HM : Mem w0 W L) : Calls Try.prog 84 #[.slice A l c, .string t] W fun e W' => e = .returned (.bool (hasB zs t)) ∧ Mem w0 W' L := by
  subst hl
  refine enter Try.func84 rfl Try.ntmps84 [(0, _), (1, _)] rfl ⟨rfl, rfl, trivial⟩ ?_
  have hmax := h.max
  replace HM := HM.rod h
  repeat (first | (refine gGP ?_; refine gp (p_assign rfl) ?_) | (refine gL ?_; first | refine s_gp rfl rfl ?_ | refine l_nil ?_) | (refine gC ?_; first | refine c_seq ?_ | refine c_region ?_ | refine c_block ?_) | (refine gN ?_; refine n_then ?_))
  refine c_loop (σ := Nat) (fun k => [(0, .slice A zs.length c), (1, .string t), (5, .int .i64 k)]) (fun k W1 => k ≤ zs.length ∧ hasB (zs.take k) t = false ∧ Mem w0 W1 (ro (rSlot b) w0 A zs :: L)) (fun k => zs.length - k) 0 (by repeat (first | exact trivial | refine And.intro (by first | rfl | exact look_int rfl (by omega)) ?_)) ⟨Nat.zero_le _, rfl, HM⟩ ?_
  clear HM
  rintro k W1 ⟨hk, hp, HM⟩
  by_cases hlt : k < zs.length
  · have e0 := rdR_at (D := rSlot b) hlt
    by_cases hb : 0 < (rdR (rSlot b) zs k).ballot
    · by_cases ht : (rdR (rSlot b) zs k).text = t
      · repeat (first | (refine gGP ?_; first | refine gp (p_move rfl) ?_ | refine gp (p_assign rfl) ?_ | (refine gGB ?_; first | refine gp (p_lss rfl rfl) ?_ | refine gp (p_gtr rfl rfl) ?_ | refine gp (p_seql rfl rfl) ?_) | refine gp (p_fieldo rfl (by simp only [Nat.reduceAdd]; rfl)) ?_ | refine gp (p_indexr HM rfl (by first | with_reducible rfl | omega) rfl (by omega) (by omega)) ?_ | refine gp (p_len rfl) ?_ | refine gp (p_pick1 rfl (by (simp; omega)) rfl) ?_) | (refine gGV ?_; refine gv (p_loadr rfl rfl (by omega) (by omega) rfl) ?_) | (refine gL ?_; first | refine s_gp rfl rfl ?_ | refine s_gv HM rfl ?_ | refine l_nil ?_ | refine s_guard_on rfl rfl rfl rfl (by (simp; omega)) ?_) | (refine gC ?_; first | refine c_seq ?_ | refine c_region ?_ | refine c_block ?_ | refine c_skip ?_ | refine c_ret ?_ | refine c_yes rfl (by (simp; omega)) ?_) | (refine gN ?_; first | refine n_then ?_ | refine r_then ?_ | refine r_block ?_))
        rw [e0] at hb ht
        exact ret_tmp rfl rfl ⟨by rw [hasB, any_hit hlt (by simp [hb, ht])], HM.sb⟩
      · repeat (first | (refine gGP ?_; first | refine gp (p_move rfl) ?_ | refine gp (p_assign rfl) ?_ | (refine gGB ?_; first | refine gp (p_lss rfl rfl) ?_ | refine gp (p_gtr rfl rfl) ?_ | refine gp (p_seql rfl rfl) ?_ | refine gp (p_add rfl rfl (by exact wr (by omega) (by omega))) ?_) | refine gp (p_fieldo rfl (by simp only [Nat.reduceAdd]; rfl)) ?_ | refine gp (p_indexr HM rfl (by first | with_reducible rfl | omega) rfl (by omega) (by omega)) ?_ | refine gp (p_len rfl) ?_ | refine gp (p_pick1 rfl (by (simp; omega)) rfl) ?_) | (refine gGV ?_; refine gv (p_loadr rfl rfl (by omega) (by omega) rfl) ?_) | (refine gL ?_; first | refine s_gp rfl rfl ?_ | refine s_gv HM rfl ?_ | refine l_nil ?_ | refine s_guard_on rfl rfl rfl rfl (by (simp; omega)) ?_) | (refine gC ?_; first | refine c_seq ?_ | refine c_region ?_ | refine c_block ?_ | refine c_skip ?_ | refine c_yes rfl (by (simp; omega)) ?_ | refine c_no rfl (by (simp; omega)) ?_) | (refine gN ?_; first | refine n_then ?_ | refine n_block ?_))
        rw [e0] at hb ht
        exact n_round (k + 1) (by repeat (first | exact trivial | refine And.intro (by first | rfl | exact look_int rfl (by omega)) ?_)) ⟨by omega, any_succ hlt hp (by simp [hb, ht]), HM.sb⟩ (by omega)
    · repeat (first | (refine gGP ?_; first | refine gp (p_move rfl) ?_ | refine gp (p_assign rfl) ?_ | (refine gGB ?_; first | refine gp (p_lss rfl rfl) ?_ | refine gp (p_gtr rfl rfl) ?_ | refine gp (p_add rfl rfl (by exact wr (by omega) (by omega))) ?_) | refine gp (p_fieldo rfl (by simp only [Nat.reduceAdd]; rfl)) ?_ | refine gp (p_indexr HM rfl (by first | with_reducible rfl | omega) rfl (by omega) (by omega)) ?_ | refine gp (p_len rfl) ?_ | refine gp (p_pick0 rfl (by (simp; omega)) rfl) ?_) | (refine gGV ?_; refine gv (p_loadr rfl rfl (by omega) (by omega) rfl) ?_) | (refine gL ?_; first | refine s_gp rfl rfl ?_ | refine s_gv HM rfl ?_ | refine l_nil ?_ | refine s_guard_off rfl rfl rfl rfl (by (simp; omega)) rfl rfl ?_) | (refine gC ?_; first | refine c_seq ?_ | refine c_region ?_ | refine c_block ?_ | refine c_skip ?_ | refine c_yes rfl (by (simp; omega)) ?_ | refine c_no rfl (by rfl) ?_) | (refine gN ?_; first | refine n_then ?_ | refine n_block ?_))
      rw [e0] at hb
      exact n_round (k + 1) (by repeat (first | exact trivial | refine And.intro (by first | rfl | exact look_int rfl (by omega)) ?_)) ⟨by omega, any_succ hlt hp (by simp [hb]), HM.sb⟩ (by omega)
  · repeat (first | (refine gGP ?_; first | refine gp (p_move rfl) ?_ | refine gp (p_assign rfl) ?_ | (refine gGB ?_; refine gp (p_lss rfl rfl) ?_) | refine gp (p_len rfl) ?_) | (refine gL ?_; first | refine s_gp rfl rfl ?_ | refine l_nil ?_) | (refine gC ?_; first | refine c_seq ?_ | refine c_region ?_ | refine c_exit ?_ | refine c_ret ?_ | refine c_no rfl (by (simp; omega)) ?_) | (refine gN ?_; first | refine n_then ?_ | refine x_then ?_ | refine x_here ?_))
    obtain rfl : k = zs.length := by omega
    rw [List.take_length] at hp
    exact ret_tmp rfl rfl ⟨by rw [hp], HM.sb⟩
theorem knownM (x : Rcd) (i : AtRcd) (g : Nat) (t : ByteArray) (hk0 : 0 ≤ x.dk) (hk1 : x.dk ≤ x.ds.length) (hc : x.ds.length ≤ i.a1.2) (h : RoRow (rSlot false) w0 i.a1.1 x.ds) (hb : w0.heap[g]? = some (.cells ([.int .i64 x.number, .int .i64 x.of, .bool x.up, .int .i64 x.sp, .int .i64 x.sk, .slice i.a0.1 x.ss.length i.a0.2, .int .i64 x.dp, .int .i64 x.dk, .slice i.a1.1 x.ds.length i.a1.2, .slice i.a2.1 x.held.length i.a2.2, .slice i.a3.1 x.wishes.length i.a3.2, .bool x.lead, .bool x.trying, .int .i64 x.ballot, .slice i.a4.1 x.yes.length i.a4.2, .slice i.a5.1 x.best.length i.a5.2, .slice i.a6.1 x.acks.length i.a6.2, .int .i64 x.heard]).toArray 38 (0, 0))) (HM : Mem w0 W L) : Calls Try.prog 85 #[.pointer (some ⟨g, 0, none⟩), .string t] W fun e W' => e = .returned (.bool (knownB (x.ds.take x.dk.toNat) t)) ∧ Mem w0 W' L := by
  refine enter Try.func85 rfl Try.ntmps85 [(0, _), (1, _)] rfl ⟨rfl, rfl, trivial⟩ ?_
  have hz : (x.ds.take x.dk.toNat).length = x.dk.toNat := by simp; omega
  have h1 := ro_take h x.dk.toNat
  have hmax := h.max
  generalize x.ds.take x.dk.toNat = zs at hz h1 ⊢
  replace HM := (HM.rod h1).robox hb
  repeat (first | (refine gR ?_; refine d_start [] [(0, 0), (0, 1), (0, 2), (0, 3), (0, 5), (0, 6), (0, 7), (0, 8), (0, 12), (1, 4), (1, 9), (0, 10), (0, 11)] HM (by kernel_rfl) (by kernel_rfl) (by repeat (first | exact qp_body | refine qp_then ?_ | refine qp_block ?_)) (by kernel_rfl) rfl ?_; intro HQ HS W1 HM1; clear HM; have HM := HM1; clear HM1) | (refine gGP ?_; first | refine gp (p_move rfl) ?_ | refine gp (p_assign rfl) ?_ | refine gp (p_field rfl (by simp only [Nat.reduceAdd]; rfl)) ?_ | refine gp (p_sliceto rfl rfl (by omega) (by omega)) ?_ | refine gp (p_len rfl) ?_ | refine gp (p_nil rfl) ?_) | (refine gGV ?_; refine gv (p_loadrb rfl) ?_) | (refine gL ?_; first | refine s_gp rfl rfl ?_ | refine l_nil ?_) | (refine gC ?_; first | refine c_seq ?_ | refine c_region ?_ | refine c_block ?_) | (refine gN ?_; refine n_then ?_) | (refine gD ?_; first | refine d_next rfl ?_ | refine d_done ?_) | (refine gO ?_; first | refine d_gp HQ HS rfl ?_ | refine d_gv HQ HS rfl ?_))
  refine c_loop (σ := Nat) (fun k => [(1, .string t), (17, .slice i.a1.1 x.dk.toNat i.a1.2), (18, .int .i64 x.dk.toNat), (19, .int .i64 k)]) (fun k W1 => k ≤ zs.length ∧ knownB (zs.take k) t = false ∧ Mem w0 W1 (ro (rSlot false) w0 i.a1.1 zs :: L)) (fun k => zs.length - k) 0 (by repeat (first | exact trivial | refine And.intro (by first | rfl | exact look_int rfl (by omega)) ?_)) ⟨Nat.zero_le _, rfl, HM.sb⟩ ?_
  clear HM
  rintro k W1 ⟨hk, hp, HM⟩
  by_cases hlt : k < zs.length
  · have hlt2 : k < x.dk.toNat := by omega
    obtain ⟨cc, ⟨j, rfl, _⟩, HM⟩ := HM.roOpen (A := i.a1.1) k hlt
    unfold encSlot at HM
    by_cases ht : zs[k].text = t
    · repeat (first | (refine gGP ?_; first | refine gp (p_move rfl) ?_ | refine gp (p_assign rfl) ?_ | (refine gGB ?_; first | refine gp (p_lss rfl rfl) ?_ | refine gp (p_seql rfl rfl) ?_) | refine gp (p_field rfl (by simp only [Nat.reduceAdd]; rfl)) ?_ | refine gp (p_indexr HM rfl (by omega) rfl (by omega) (by omega)) ?_) | (refine gGV ?_; first | refine gv (p_load rfl) ?_ | refine gv (p_loadwr rfl rfl rfl) ?_) | (refine gL ?_; first | refine s_gp rfl rfl ?_ | refine s_gv HM rfl ?_ | (refine gStore ?_; (refine s_store HM rfl rfl rfl rfl ?_; intro W1 HM1; clear HM; have HM := HM1; clear HM1)) | (refine s_alloc HM rfl ?_; intro g W1 HM1; clear HM; have HM := HM1; clear HM1) | refine l_nil ?_) | (refine gC ?_; first | refine c_seq ?_ | refine c_region ?_ | refine c_block ?_ | refine c_skip ?_ | refine c_ret ?_ | refine c_yes rfl (by (simp; omega)) ?_) | (refine gN ?_; first | refine n_then ?_ | refine r_then ?_ | refine r_block ?_))
      exact ret_tmp rfl rfl ⟨by rw [knownB, any_hit hlt (by simp [ht])], HM.sb⟩
    · repeat (first | (refine gGP ?_; first | refine gp (p_move rfl) ?_ | (refine gGB ?_; first | refine gp (p_lss rfl rfl) ?_ | refine gp (p_seql rfl rfl) ?_ | refine gp (p_add rfl rfl (by exact wr (by omega) (by omega))) ?_) | refine gp (p_field rfl (by simp only [Nat.reduceAdd]; rfl)) ?_ | refine gp (p_indexr HM rfl (by omega) rfl (by omega) (by omega)) ?_) | (refine gGV ?_; first | refine gv (p_load rfl) ?_ | refine gv (p_loadwr rfl rfl rfl) ?_) | (refine gL ?_; first | refine s_gp rfl rfl ?_ | refine s_gv HM rfl ?_ | (refine gStore ?_; (refine s_store HM rfl rfl rfl rfl ?_; intro W1 HM1; clear HM; have HM := HM1; clear HM1)) | (refine s_alloc HM rfl ?_; intro g W1 HM1; clear HM; have HM := HM1; clear HM1) | refine l_nil ?_) | (refine gC ?_; first | refine c_seq ?_ | refine c_region ?_ | refine c_block ?_ | refine c_skip ?_ | refine c_yes rfl (by (simp; omega)) ?_ | refine c_no rfl (by (simp; omega)) ?_) | (refine gN ?_; first | refine n_then ?_ | refine n_block ?_))
      exact n_round (k + 1) (by repeat (first | exact trivial | refine And.intro (by first | rfl | exact look_int rfl (by omega)) ?_)) ⟨by omega, any_succ hlt hp (by simp [ht]), HM.sb⟩ (by omega)
  · have hlt2 : ¬ k < x.dk.toNat := by omega
    repeat (first | (refine gGP ?_; first | refine gp (p_assign rfl) ?_ | (refine gGB ?_; refine gp (p_lss rfl rfl) ?_)) | (refine gL ?_; first | refine s_gp rfl rfl ?_ | refine l_nil ?_) | (refine gC ?_; first | refine c_seq ?_ | refine c_region ?_ | refine c_exit ?_ | refine c_ret ?_ | refine c_no rfl (by (simp; omega)) ?_) | (refine gN ?_; first | refine n_then ?_ | refine x_then ?_ | refine x_here ?_))
    obtain rfl : k = zs.length := by omega
    rw [List.take_length] at hp
    exact ret_tmp rfl rfl ⟨by rw [hp], HM.sb⟩
end Go.Proofs.Ytokhocmopmoblaa.Sp
