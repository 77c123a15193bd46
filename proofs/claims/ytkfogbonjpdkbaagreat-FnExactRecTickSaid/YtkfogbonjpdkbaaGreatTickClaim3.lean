/- advance of the reference. No condition. -/
import Derived.Test.YtkfogbonjpdkbaaGreatTickClaim2
import Derived.Test.YtkfogbonjpdkbaaGreatTickClaim1
import Derived.Laws.BytesArg
namespace Go.Proofs.YtkfogbonjpdkbaaGreat.Sp
open Go Go.RowKit
set_option linter.unusedVariables false
set_option linter.unusedSimpArgs false
set_option maxRecDepth 10000
set_option maxHeartbeats 1000000
variable {w0 W : World} {L : List Asn}
def advK (x : Rcd) (d : Int) (a : Ack) : Int := if a.index = d + 1 ∧ x.of < 2 * (a.frm.length : Int) ∧ a.index ≤ x.ds.length ∧ (rdR (rSlot false) x.ds (a.index - 1)).ballot = x.ballot then a.index else d
def advL (x : Rcd) : Rcd := { x with dk := x.acks.foldl (advK x) x.dk }
theorem advK_in {x : Rcd} {d : Int} {a : Ack} (h0 : 0 ≤ d) (h1 : d ≤ x.ds.length) : 0 ≤ advK x d a ∧ advK x d a ≤ x.ds.length := by
  unfold advK; split
  · rename_i h; exact ⟨by omega, h.2.2.1⟩
  · exact ⟨h0, h1⟩
theorem advS (x : Rcd) (i : AtRcd) (h0 : 0 ≤ x.dk) (h1 : x.dk ≤ x.ds.length) (hn : x.ds.length ≤ 1048576) (ha : x.acks.length ≤ 1048576) (has : ∀ a ∈ x.acks, a.frm.length ≤ 1048576) (HM : Mem w0 W (partRcd 105 52 9 3 104 x i ++ L)) : Calls Tryz.prog 114 #[.agg (encRcd x i).toArray] W fun e W' => ∃ j, e = .returned (.agg (encRcd (advL x) j).toArray) ∧ Mem w0 W' (partRcd 105 52 9 3 104 (advL x) j ++ L) := by
  refine enter Tryz.func114 rfl Tryz.ntmps114 [(0, .agg (encRcd x i).toArray)] rfl ⟨rfl, trivial⟩ ?_
  simp only [partRcd, List.cons_append, List.nil_append] at HM
  have HB := HM
  obtain ⟨F1, hF1⟩ := HM.own (A := i.a6.1)
  have ra := ro_acks hF1
  obtain ⟨F2, hF2⟩ := HM.own (A := i.a1.1)
  have rd := ro_slots hF2
  clear hF1 hF2
  replace HM := ((Mem.start W).rod ra).rod rd
  unfold encRcd
  repeat (first | (refine gGP ?_; refine gp (p_assign rfl) ?_) | (refine gL ?_; first | refine s_gp rfl rfl ?_ | (refine s_box HM rfl rfl ?_; intro g W1 HM1; clear HM; have HM := HM1; clear HM1) | (refine s_alloc HM rfl ?_; intro g W1 HM1; clear HM; have HM := HM1; clear HM1) | refine l_nil ?_) | (refine gC ?_; first | refine c_seq ?_ | refine c_region ?_ | refine c_block ?_) | (refine gN ?_; refine n_then ?_))
  rename_i gr _
  refine c_loop (σ := Nat × Int) (fun s => [(1, .pointer (some ⟨gr, 0, none⟩)), (2, .pointer (some ⟨g, 0, none⟩)), (3, .int .i64 s.1)]) (fun s W1 => s.1 ≤ x.acks.length ∧ s.2 = (x.acks.take s.1).foldl (advK x) x.dk ∧ 0 ≤ s.2 ∧ s.2 ≤ x.ds.length ∧ Mem W W1 (box gr 38 [.int .i64 x.number, .int .i64 x.of, .bool x.up, .int .i64 x.sp, .int .i64 x.sk, .slice i.a0.1 x.ss.length i.a0.2, .int .i64 x.dp, .int .i64 s.2, .slice i.a1.1 x.ds.length i.a1.2, .slice i.a2.1 x.held.length i.a2.2, .slice i.a3.1 x.wishes.length i.a3.2, .bool x.lead, .bool x.trying, .int .i64 x.ballot, .slice i.a4.1 x.yes.length i.a4.2, .slice i.a5.1 x.best.length i.a5.2, .slice i.a6.1 x.acks.length i.a6.2, .int .i64 x.heard] :: ro rAck W i.a6.1 x.acks :: ro (rSlot false) W i.a1.1 x.ds :: _)) (fun s => x.acks.length - s.1) (0, x.dk) (by repeat (first | exact trivial | refine And.intro (by first | rfl | exact look_int rfl (by omega)) ?_)) ⟨Nat.zero_le _, rfl, h0, h1, ((HM.pk (A := ro (rSlot false) W i.a1.1 x.ds)).pk (A := ro rAck W i.a6.1 x.acks)).pk (A := box gr 38 [.int .i64 x.number, .int .i64 x.of, .bool x.up, .int .i64 x.sp, .int .i64 x.sk, .slice i.a0.1 x.ss.length i.a0.2, .int .i64 x.dp, .int .i64 x.dk, .slice i.a1.1 x.ds.length i.a1.2, .slice i.a2.1 x.held.length i.a2.2, .slice i.a3.1 x.wishes.length i.a3.2, .bool x.lead, .bool x.trying, .int .i64 x.ballot, .slice i.a4.1 x.yes.length i.a4.2, .slice i.a5.1 x.best.length i.a5.2, .slice i.a6.1 x.acks.length i.a6.2, .int .i64 x.heard])⟩ ?_
  clear HM
  rintro ⟨k, d⟩ W1 ⟨hk, hd, hd0, hd1, HM⟩
  dsimp only at hk hd hd0 hd1 HM ⊢
  by_cases hlt : k < x.acks.length
  · have e0 := rdR_at (D := rAck) hlt
    have hs1 := has _ (List.getElem_mem hlt)
    have hstep : (x.acks.take (k + 1)).foldl (advK x) x.dk = advK x d x.acks[k] := by rw [List.take_succ_eq_append_getElem hlt, List.foldl_append, ← hd]; rfl
    obtain ⟨cc, ⟨j, rfl, hs⟩, HM⟩ := HM.roOpen (A := i.a6.1) k hlt
    unfold encAck at HM
    generalize x.acks[k] = a at *
    have hx := advK_in (x := x) (a := a) hd0 hd1
    by_cases t1 : a.index = d + 1
    rotate_left
    · rw [advK, if_neg (fun h => t1 h.1)] at hstep hx
      repeat (first | (refine gR ?_; refine d_start [] [(0, 0), (0, 2), (0, 3), (1, 1), (1, 4), (0, 5), (0, 6), (0, 7), (0, 8), (0, 12), (1, 9), (0, 10), (0, 11), (1, 13), (0, 14), (0, 15), (0, 16), (0, 17), (0, 19), (0, 20), (1, 18), (1, 21), (0, 22), (0, 23), (0, 24), (0, 25), (0, 26), (0, 27), (0, 29), (0, 35), (1, 28), (1, 30), (0, 31), (0, 32), (0, 33), (1, 34), (1, 36), (0, 37), (0, 38)] HM (by kernel_rfl) (by kernel_rfl) (by repeat (first | exact qp_body | refine qp_then ?_ | refine qp_block ?_)) (by kernel_rfl) rfl ?_; intro HQ HS W1 HM1; clear HM; have HM := HM1; clear HM1) | (refine gGP ?_; first | refine gp (p_move rfl) ?_ | refine gp (p_assign rfl) ?_ | (refine gGB ?_; first | refine gp (p_lss rfl rfl) ?_ | refine gp (p_eql rfl rfl) ?_ | refine gp (p_add rfl rfl (by exact wr (by omega) (by omega))) ?_) | refine gp (p_field rfl (by simp only [Nat.reduceAdd]; rfl)) ?_ | refine gp (p_indexr HM rfl (by first | with_reducible rfl | omega) rfl (by omega) (by omega)) ?_ | refine gp (p_len rfl) ?_ | refine gp (p_pick0 rfl (by first | rfl | (simp; omega)) rfl) ?_) | (refine gGV ?_; first | refine gv (p_load rfl) ?_ | refine gv (p_loadwr rfl rfl rfl) ?_) | (refine gL ?_; first | refine s_gp rfl rfl ?_ | refine s_gv HM rfl ?_ | (refine gStore ?_; (refine s_store HM rfl rfl rfl rfl ?_; intro W1 HM1; clear HM; have HM := HM1; clear HM1)) | (refine s_alloc HM rfl ?_; intro g W1 HM1; clear HM; have HM := HM1; clear HM1) | refine l_nil ?_) | (refine gC ?_; first | refine c_seq ?_ | refine c_region ?_ | refine c_block ?_ | refine c_skip ?_ | refine c_yes rfl (by (simp; omega)) ?_ | refine c_no rfl (by rfl) ?_) | (refine gN ?_; first | refine n_then ?_ | refine n_block ?_) | (refine gD ?_; first | refine d_next rfl ?_ | refine d_done ?_) | (refine gO ?_; first | refine d_gp HQ HS rfl ?_ | refine d_gv HQ HS rfl ?_ | refine d_off (.inl rfl) HQ HS rfl rfl rfl rfl (by first | rfl | (simp; omega)) rfl rfl ?_ | refine d_off (.inr rfl) HQ HS rfl rfl rfl rfl (by first | rfl | (simp; omega)) rfl rfl ?_))
      exact n_round (k + 1, d) (by repeat (first | exact trivial | refine And.intro (by first | rfl | exact look_int rfl (by omega)) ?_)) ⟨by dsimp only; omega, hstep.symm, hd0, hd1, HM.sb⟩ (by dsimp only; omega)
    by_cases t2 : x.of < 2 * (a.frm.length : Int)
    rotate_left
    · rw [advK, if_neg (fun h => t2 h.2.1)] at hstep hx
      repeat (first | (refine gR ?_; refine d_start [] [(0, 0), (0, 2), (0, 3), (1, 1), (1, 4), (0, 5), (0, 6), (0, 7), (0, 8), (0, 12), (1, 9), (0, 10), (0, 11), (1, 13), (0, 14), (0, 15), (0, 16), (0, 17), (0, 19), (0, 20), (1, 18), (1, 21), (0, 22), (0, 23), (0, 24), (0, 25), (0, 26), (0, 27), (0, 29), (0, 35), (1, 28), (1, 30), (0, 31), (0, 32), (0, 33), (1, 34), (1, 36), (0, 37), (0, 38)] HM (by kernel_rfl) (by kernel_rfl) (by repeat (first | exact qp_body | refine qp_then ?_ | refine qp_block ?_)) (by kernel_rfl) rfl ?_; intro HQ HS W1 HM1; clear HM; have HM := HM1; clear HM1) | (refine gGP ?_; first | refine gp (p_move rfl) ?_ | refine gp (p_assign rfl) ?_ | (refine gGB ?_; first | refine gp (p_lss rfl rfl) ?_ | refine gp (p_eql rfl rfl) ?_ | refine gp (p_gtr rfl rfl) ?_ | refine gp (p_add rfl rfl (by first | exact wr (by omega) (by omega) | rfl)) ?_ | refine gp (p_mul rfl rfl (by exact wr (by omega) (by omega))) ?_) | refine gp (p_field rfl (by simp only [Nat.reduceAdd]; rfl)) ?_ | refine gp (p_indexr HM rfl (by first | with_reducible rfl | omega) rfl (by omega) (by omega)) ?_ | refine gp (p_len rfl) ?_ | refine gp (p_pick1 rfl (by (simp; omega)) rfl) ?_ | refine gp (p_pick0 rfl (by first | rfl | (simp; omega)) rfl) ?_) | (refine gGV ?_; first | refine gv (p_load rfl) ?_ | refine gv (p_loadwr rfl rfl rfl) ?_) | (refine gL ?_; first | refine s_gp rfl rfl ?_ | refine s_gv HM rfl ?_ | (refine gStore ?_; (refine s_store HM rfl rfl rfl rfl ?_; intro W1 HM1; clear HM; have HM := HM1; clear HM1)) | (refine s_alloc HM rfl ?_; intro g W1 HM1; clear HM; have HM := HM1; clear HM1) | refine l_nil ?_) | (refine gC ?_; first | refine c_seq ?_ | refine c_region ?_ | refine c_block ?_ | refine c_skip ?_ | refine c_yes rfl (by (simp; omega)) ?_ | refine c_no rfl (by rfl) ?_) | (refine gN ?_; first | refine n_then ?_ | refine n_block ?_) | (refine gD ?_; first | refine d_next rfl ?_ | refine d_done ?_) | (refine gO ?_; first | refine d_gp HQ HS rfl ?_ | refine d_gv HQ HS rfl ?_ | refine d_gpg HQ HS rfl rfl rfl (by first | rfl | (simp; omega)) rfl ?_ | refine d_gvg HQ HS rfl rfl rfl (by first | rfl | (simp; omega)) rfl ?_ | refine d_off (.inl rfl) HQ HS rfl rfl rfl rfl (by first | rfl | (simp; omega)) rfl rfl ?_ | refine d_off (.inr rfl) HQ HS rfl rfl rfl rfl (by first | rfl | (simp; omega)) rfl rfl ?_))
      exact n_round (k + 1, d) (by repeat (first | exact trivial | refine And.intro (by first | rfl | exact look_int rfl (by omega)) ?_)) ⟨by dsimp only; omega, hstep.symm, hd0, hd1, HM.sb⟩ (by dsimp only; omega)
    by_cases t3 : a.index ≤ x.ds.length
    rotate_left
    · rw [advK, if_neg (fun h => t3 h.2.2.1)] at hstep hx
      repeat (first | (refine gR ?_; refine d_start [] [(0, 0), (0, 2), (0, 3), (1, 1), (1, 4), (0, 5), (0, 6), (0, 7), (0, 8), (0, 12), (1, 9), (0, 10), (0, 11), (1, 13), (0, 14), (0, 15), (0, 16), (0, 17), (0, 19), (0, 20), (1, 18), (1, 21), (0, 22), (0, 23), (0, 24), (0, 25), (0, 26), (0, 27), (0, 29), (0, 35), (1, 28), (1, 30), (0, 31), (0, 32), (0, 33), (1, 34), (1, 36), (0, 37), (0, 38)] HM (by kernel_rfl) (by kernel_rfl) (by repeat (first | exact qp_body | refine qp_then ?_ | refine qp_block ?_)) (by kernel_rfl) rfl ?_; intro HQ HS W1 HM1; clear HM; have HM := HM1; clear HM1) | (refine gGP ?_; first | refine gp (p_move rfl) ?_ | refine gp (p_assign rfl) ?_ | (refine gGB ?_; first | refine gp (p_lss rfl rfl) ?_ | refine gp (p_eql rfl rfl) ?_ | refine gp (p_leq rfl rfl) ?_ | refine gp (p_gtr rfl rfl) ?_ | refine gp (p_add rfl rfl (by first | exact wr (by omega) (by omega) | rfl)) ?_ | refine gp (p_mul rfl rfl (by exact wr (by omega) (by omega))) ?_) | refine gp (p_field rfl (by simp only [Nat.reduceAdd]; rfl)) ?_ | refine gp (p_indexr HM rfl (by first | with_reducible rfl | omega) rfl (by omega) (by omega)) ?_ | refine gp (p_len rfl) ?_ | refine gp (p_pick1 rfl (by (simp; omega)) rfl) ?_ | refine gp (p_pick0 rfl (by (simp; omega)) rfl) ?_) | (refine gGV ?_; first | refine gv (p_load rfl) ?_ | refine gv (p_loadwr rfl rfl rfl) ?_) | (refine gL ?_; first | refine s_gp rfl rfl ?_ | refine s_gv HM rfl ?_ | (refine gStore ?_; (refine s_store HM rfl rfl rfl rfl ?_; intro W1 HM1; clear HM; have HM := HM1; clear HM1)) | (refine s_alloc HM rfl ?_; intro g W1 HM1; clear HM; have HM := HM1; clear HM1) | refine l_nil ?_) | (refine gC ?_; first | refine c_seq ?_ | refine c_region ?_ | refine c_block ?_ | refine c_skip ?_ | refine c_yes rfl (by (simp; omega)) ?_ | refine c_no rfl (by rfl) ?_) | (refine gN ?_; first | refine n_then ?_ | refine n_block ?_) | (refine gD ?_; first | refine d_next rfl ?_ | refine d_done ?_) | (refine gO ?_; first | refine d_gp HQ HS rfl ?_ | refine d_gv HQ HS rfl ?_ | refine d_gpg HQ HS rfl rfl rfl (by first | rfl | (simp; omega)) rfl ?_ | refine d_gvg HQ HS rfl rfl rfl (by first | rfl | (simp; omega)) rfl ?_ | refine d_off (.inl rfl) HQ HS rfl rfl rfl rfl (by (simp; omega)) rfl rfl ?_ | refine d_off (.inr rfl) HQ HS rfl rfl rfl rfl (by (simp; omega)) rfl rfl ?_))
      exact n_round (k + 1, d) (by repeat (first | exact trivial | refine And.intro (by first | rfl | exact look_int rfl (by omega)) ?_)) ⟨by dsimp only; omega, hstep.symm, hd0, hd1, HM.sb⟩ (by dsimp only; omega)
    by_cases t4 : (rdR (rSlot false) x.ds (a.index - 1)).ballot = x.ballot
    rotate_left
    · rw [advK, if_neg (fun h => t4 h.2.2.2)] at hstep hx
      repeat (first | (refine gR ?_; refine d_start [] [(0, 0), (0, 2), (0, 3), (1, 1), (1, 4), (0, 5), (0, 6), (0, 7), (0, 8), (0, 12), (1, 9), (0, 10), (0, 11), (1, 13), (0, 14), (0, 15), (0, 16), (0, 17), (0, 19), (0, 20), (1, 18), (1, 21), (0, 22), (0, 23), (0, 24), (0, 25), (0, 26), (0, 27), (0, 29), (0, 35), (1, 28), (1, 30), (0, 31), (0, 32), (0, 33), (1, 34), (1, 36), (0, 37), (0, 38)] HM (by kernel_rfl) (by kernel_rfl) (by repeat (first | exact qp_body | refine qp_then ?_ | refine qp_block ?_)) (by kernel_rfl) rfl ?_; intro HQ HS W1 HM1; clear HM; have HM := HM1; clear HM1) | (refine gGP ?_; first | refine gp (p_move rfl) ?_ | refine gp (p_assign rfl) ?_ | (refine gGB ?_; first | refine gp (p_lss rfl rfl) ?_ | refine gp (p_eql rfl rfl) ?_ | refine gp (p_leq rfl rfl) ?_ | refine gp (p_gtr rfl rfl) ?_ | refine gp (p_add rfl rfl (by first | exact wr (by omega) (by omega) | rfl)) ?_ | refine gp (p_sub rfl rfl (by first | exact wr (by omega) (by omega) | rfl)) ?_ | refine gp (p_mul rfl rfl (by exact wr (by omega) (by omega))) ?_) | refine gp (p_field rfl (by simp only [Nat.reduceAdd]; rfl)) ?_ | refine gp (p_fieldo rfl (by simp only [Nat.reduceAdd]; rfl)) ?_ | refine gp (p_indexr HM rfl (by first | with_reducible rfl | omega) rfl (by omega) (by omega)) ?_ | refine gp (p_len rfl) ?_ | refine gp (p_pick1 rfl (by (simp; omega)) rfl) ?_) | (refine gGV ?_; first | refine gv (p_load rfl) ?_ | refine gv (p_loadr rfl rfl (by omega) (by omega) rfl) ?_ | refine gv (p_loadwr rfl rfl rfl) ?_) | (refine gL ?_; first | refine s_gp rfl rfl ?_ | refine s_gv HM rfl ?_ | (refine gStore ?_; (refine s_store HM rfl rfl rfl rfl ?_; intro W1 HM1; clear HM; have HM := HM1; clear HM1)) | (refine s_alloc HM rfl ?_; intro g W1 HM1; clear HM; have HM := HM1; clear HM1) | refine l_nil ?_) | (refine gC ?_; first | refine c_seq ?_ | refine c_region ?_ | refine c_block ?_ | refine c_skip ?_ | refine c_yes rfl (by (simp; omega)) ?_ | refine c_no rfl (by (simp; omega)) ?_) | (refine gN ?_; first | refine n_then ?_ | refine n_block ?_) | (refine gD ?_; first | refine d_next rfl ?_ | refine d_done ?_) | (refine gO ?_; first | refine d_gp HQ HS rfl ?_ | refine d_gv HQ HS rfl ?_ | refine d_gpg HQ HS rfl rfl rfl (by first | rfl | (simp; omega)) rfl ?_ | refine d_gvg HQ HS rfl rfl rfl (by (simp; omega)) rfl ?_))
      exact n_round (k + 1, d) (by repeat (first | exact trivial | refine And.intro (by first | rfl | exact look_int rfl (by omega)) ?_)) ⟨by dsimp only; omega, hstep.symm, hd0, hd1, HM.sb⟩ (by dsimp only; omega)
    · rw [advK, if_pos ⟨t1, t2, t3, t4⟩] at hstep hx
      repeat (first | (refine gR ?_; refine d_start [] [(0, 0), (0, 2), (0, 3), (1, 1), (1, 4), (0, 5), (0, 6), (0, 7), (0, 8), (0, 12), (1, 9), (0, 10), (0, 11), (1, 13), (0, 14), (0, 15), (0, 16), (0, 17), (0, 19), (0, 20), (1, 18), (1, 21), (0, 22), (0, 23), (0, 24), (0, 25), (0, 26), (0, 27), (0, 29), (0, 35), (1, 28), (1, 30), (0, 31), (0, 32), (0, 33), (1, 34), (1, 36), (0, 37), (0, 38)] HM (by kernel_rfl) (by kernel_rfl) (by repeat (first | exact qp_body | refine qp_then ?_ | refine qp_block ?_)) (by kernel_rfl) rfl ?_; intro HQ HS W1 HM1; clear HM; have HM := HM1; clear HM1) | (refine gGP ?_; first | refine gp (p_move rfl) ?_ | refine gp (p_assign rfl) ?_ | (refine gGB ?_; first | refine gp (p_lss rfl rfl) ?_ | refine gp (p_eql rfl rfl) ?_ | refine gp (p_leq rfl rfl) ?_ | refine gp (p_gtr rfl rfl) ?_ | refine gp (p_add rfl rfl (by first | exact wr (by omega) (by omega) | rfl)) ?_ | refine gp (p_sub rfl rfl (by first | exact wr (by omega) (by omega) | rfl)) ?_ | refine gp (p_mul rfl rfl (by exact wr (by omega) (by omega))) ?_) | refine gp (p_field rfl (by simp only [Nat.reduceAdd]; rfl)) ?_ | refine gp (p_fieldo rfl (by simp only [Nat.reduceAdd]; rfl)) ?_ | refine gp (p_indexr HM rfl (by first | with_reducible rfl | omega) rfl (by omega) (by omega)) ?_ | refine gp (p_len rfl) ?_ | refine gp (p_pick1 rfl (by (simp; omega)) rfl) ?_) | (refine gGV ?_; first | refine gv (p_load rfl) ?_ | refine gv (p_loadr rfl rfl (by omega) (by omega) rfl) ?_ | refine gv (p_loadwr rfl rfl rfl) ?_) | (refine gL ?_; first | refine s_gp rfl rfl ?_ | refine s_gv HM rfl ?_ | (refine gStore ?_; (refine s_store HM rfl rfl rfl rfl ?_; intro W1 HM1; clear HM; have HM := HM1; clear HM1)) | (refine s_alloc HM rfl ?_; intro g W1 HM1; clear HM; have HM := HM1; clear HM1) | refine l_nil ?_) | (refine gC ?_; first | refine c_seq ?_ | refine c_region ?_ | refine c_block ?_ | refine c_skip ?_ | refine c_yes rfl (by (simp; omega)) ?_) | (refine gN ?_; first | refine n_then ?_ | refine n_block ?_) | (refine gD ?_; first | refine d_next rfl ?_ | refine d_done ?_) | (refine gO ?_; first | refine d_gp HQ HS rfl ?_ | refine d_gv HQ HS rfl ?_ | refine d_gpg HQ HS rfl rfl rfl (by first | rfl | (simp; omega)) rfl ?_ | refine d_gvg HQ HS rfl rfl rfl (by (simp; omega)) rfl ?_))
      exact n_round (k + 1, a.index) (by repeat (first | exact trivial | refine And.intro (by first | rfl | exact look_int rfl (by omega)) ?_)) ⟨by dsimp only; omega, hstep.symm, hx.1, hx.2, HM.sb⟩ (by dsimp only; omega)
  · obtain rfl : k = x.acks.length := by omega
    rw [List.take_length] at hd
    repeat (first | (refine gGP ?_; first | refine gp (p_move rfl) ?_ | (refine gGB ?_; refine gp (p_lss rfl rfl) ?_) | refine gp (p_field rfl (by simp only [Nat.reduceAdd]; rfl)) ?_ | refine gp (p_len rfl) ?_) | (refine gGV ?_; first | refine gv (p_load rfl) ?_ | refine gv (p_loads rfl) ?_) | (refine gL ?_; first | refine s_gp rfl rfl ?_ | refine s_gv HM rfl ?_ | (refine gStore ?_; (refine s_store HM rfl rfl rfl rfl ?_; intro W1 HM1; clear HM; have HM := HM1; clear HM1)) | refine l_nil ?_) | (refine gC ?_; first | refine c_seq ?_ | refine c_region ?_ | refine c_exit ?_ | refine c_ret ?_ | refine c_no rfl (by first | (simp; done) | fail) ?_) | (refine gN ?_; first | refine n_then ?_ | refine x_then ?_ | refine x_here ?_))
    replace HM := HB.join HM
    simp only [List.cons_append, List.nil_append] at HM
    exact ret_cell HM rfl rfl rfl ⟨i, by rw [advL, ← hd], by simp only [advL, partRcd, List.cons_append, List.nil_append]; exact HM.sb⟩
end Go.Proofs.YtkfogbonjpdkbaaGreat.Sp
namespace Go.Proofs.YtkfogbonjpdkbaaGreat.Sp
open Go Go.RowKit
set_option linter.unusedVariables false
set_option linter.unusedSimpArgs false
variable {w0 W : World} {L : List Asn} {α : Type} {D : Ty α} {e c : Nat} {A : Option Addr} {xs : List α} {css : List (List Value)}
def tRaw (n : Nat) : Ty (List Value) where
  sz := n
  z := []
  A := fun x c => exP (fun _ : Unit => c = x ∧ c.length = n ∧ ∀ u ∈ c, u.oneCell' = true) (fun _ => [])
  get := fun _ _ => none
  set := fun _ _ _ => none
  len := fun ⟨_, h, _⟩ => h.2.1
  one := fun ⟨_, h, _⟩ => h.2.2
  get_ok := fun _ h => by cases h
  set_ok := fun _ h => by cases h
def rRaw (n : Nat) : TyR (List Value) where
  sz := n
  z := []
  R := fun _ x c => c = x ∧ c.length = n
  get := fun _ _ => none
  len := fun h => h.2
  get_ok := fun _ h => by cases h
instance {n : Nat} : FlatR (rRaw n) id := ⟨fun h => h.1⟩
theorem ro_raws {n : Nat} {F : Nat → Prop} (h : (own (tRaw n) e A c css).H W F) : RoRow (rRaw n) W A css := own_ro (D := tRaw n) (DR := rRaw n) rfl (fun ⟨_, h, _⟩ => ⟨h.1, h.2.1⟩) h
theorem els_raw {n : Nat} (W : World) : ∀ (css : List (List Value)) (ok : Nat → Prop), (∀ c ∈ css, c.length = n) → (∀ u ∈ css.flatten, u.oneCell' = true) → SepIn W ok (els (tRaw n) css css)
  | [], _, _, _ => trivial
  | y :: ys, ok, h1, h2 => ⟨fun _ => False, fun _ h => h.elim, ⟨(), ⟨rfl, h1 y (by simp), fun u hu => h2 u (by simp [hu])⟩, trivial⟩, (els_raw W ys ok (fun c hc => h1 c (by simp [hc])) (fun u hu => h2 u (by simp only [List.flatten_cons, List.mem_append]; exact .inr hu))).mono (fun k hk => ⟨hk, fun h => h⟩)⟩
theorem opn_raw (h : Mem w0 W (own D e A c xs :: L)) : ∃ css : List (List Value), css.length = xs.length ∧ Mem w0 W (own (tRaw D.sz) e A c css :: lels D xs css :: L) := by
  obtain ⟨css, hl, h⟩ := h.ex
  obtain ⟨h1, h2⟩ : (∀ c ∈ css, c.length = D.sz) ∧ (∀ u ∈ css.flatten, u.oneCell' = true) := by
    obtain ⟨F, _, _, h3⟩ := h.sep
    obtain ⟨G, _, h4, _⟩ := SepIn.append h3
    exact ⟨els_len hl h4, els_one hl h4⟩
  refine ⟨css, hl, ?_⟩
  have h3 : Mem w0 W (els D xs css ++ (row e D.sz A xs.length c css.flatten :: L)) := h.perm (List.perm_middle (a := row e D.sz A xs.length c css.flatten) (l₁ := els D xs css) (l₂ := L)).symm
  have h4 : Mem w0 W (lels D xs css :: row e D.sz A xs.length c css.flatten :: L) := Mem.mkx () hl h3
  have h5 : Mem w0 W (lels (tRaw D.sz) css css :: lels D xs css :: row e D.sz A xs.length c css.flatten :: L) := ⟨h4.below, fun _ => False, fun _ h => h.elim, ⟨(), rfl, els_raw W css _ h1 h2⟩, h4.sep.mono (fun k hk => ⟨hk, fun h => h⟩)⟩
  obtain ⟨_, _, h6⟩ := h5.ex
  refine Mem.mkx css rfl ?_
  rw [hl]
  refine h6.perm ?_
  refine (List.Perm.append_left _ (List.Perm.swap (row e D.sz A xs.length c css.flatten) (lels D xs css) L)).trans ?_
  exact List.perm_middle (a := row e D.sz A xs.length c css.flatten) (l₁ := els (tRaw D.sz) css css) (l₂ := lels D xs css :: L)
theorem lels_split (k : Nat) (h : Mem w0 W (lels D xs css :: L)) : Mem w0 W (lels D (xs.take k) (css.take k) :: lels D (xs.drop k) (css.drop k) :: L) := by
  obtain ⟨_, hl, h⟩ := h.ex
  rw [lels_take css xs k hl, List.append_assoc] at h
  have h1 : Mem w0 W (lels D (xs.take k) (css.take k) :: (els D (xs.drop k) (css.drop k) ++ L)) := Mem.mkx () (by simp; omega) h
  have h2 : Mem w0 W (lels D (xs.drop k) (css.drop k) :: lels D (xs.take k) (css.take k) :: L) := Mem.mkx () (by simp; omega) (h1.perm (List.perm_middle (a := lels D (xs.take k) (css.take k)) (l₁ := els D (xs.drop k) (css.drop k)) (l₂ := L)).symm)
  exact h2.perm (List.Perm.swap ..)
/-- A nested row taken apart at k. -/
theorem opn_at (k : Nat) (h : Mem w0 W (own D e A c xs :: L)) : ∃ css : List (List Value), css.length = xs.length ∧ Mem w0 W (lels D (xs.take k) (css.take k) :: lels D (xs.drop k) (css.drop k) :: own (tRaw D.sz) e A c css :: L) := by
  obtain ⟨css, hl, h⟩ := opn_raw h
  exact ⟨css, hl, lels_split k (h.perm (List.Perm.swap ..))⟩
theorem rdc_take {n : Nat} {F : Nat → Prop} (h : (own (tRaw n) e A c css).H W F) (k : Nat) : Rdc W n A (css.take k).length (css.take k).flatten := by
  have := ro_rdc (ro_take (ro_raws h) k)
  rwa [List.map_id] at this
theorem rdc_drop {n : Nat} {F : Nat → Prop} (h : (own (tRaw n) e A c css).H W F) {k : Nat} (hk : k ≤ css.length) (hc : css.length ≤ c) : Rdc W n (fromA A n c k) (css.drop k).length (css.drop k).flatten := by
  have := ro_rdc (ro_drop (ro_raws h) hk hc)
  rwa [List.map_id] at this
section
variable {P : Program} {n : Nat} {Q : Exit → Act → World → Prop} {E : Env}
theorem x_last {ll : List Oper} {S : World → Prop} {ds : List Nat} {fuel : Nat} {l l' : Array Bool} {o : Oper} (i : Nat) (hr : Region.ready .any ll.toArray l = [i]) (ho : nthO ll i = some o) (hl : l.setIfInBounds i true = l') (hd : Region.ready .any ll.toArray l' = []) (hds : ds.contains i = true) (h : WL P n ll.toArray (Exit.then (fun a w => Q .normal a w) Q) [o] E W) : WX P n ll.toArray Q S ds l (fuel + 1) E W := by
  have ho' : ll.toArray[i]? = some o := by rw [nthO_eq] at ho; simpa using ho
  refine ⟨fun a ha hS => ?_⟩
  refine Go.Proofs.YtkfogbonjpdkbaaGreatW.PrintLast.wpAnyLast_all hr (by simp) (fun q hq => ?_)
  obtain rfl : q = i := by simpa using hq
  rw [hl]
  refine wpOp_mono (fun a' w' hk => ⟨fun hn => absurd (by simpa using hds) hn, Go.Proofs.YtkfogbonjpdkbaaGreatW.PrintLast.wpAnyLast_done hd hk _⟩) (list_wpOp ho' (h.out a ha))
theorem x_backl (h : WN n .normal Q E W) : WN n .normal (Exit.then (fun a w => Q .normal a w) Q) E W := ⟨fun a ha => h.out a ha⟩
/-- A drawn region's start where the first part changes on the way. -/
theorem d_startd {id : Nat} {l : List Oper} {B : Asn} (ds : List Nat) (plan : List (Nat × Nat)) (hm : Mem w0 W (B :: L)) (hmix : P.follows .mixedOrders = true) (hsel : Region.noSelect l.toArray = true) (hq : QP Q)
    (hp : planB l.toArray ds (Array.replicate l.toArray.size false) plan = true) (hlen : plan.length = l.toArray.size) (h : QP Q → Region.noSelect l.toArray = true → ∀ W1, Mem w0 W1 (B :: L) → WD P n l.toArray Q (fun w => Mem w0 w L) ds plan E W1) : WC P n (.region id l.toArray true) Q E W := by
  refine ⟨fun a ha => ?_⟩
  refine Go.Proofs.YtkfogbonjpdkbaaGreatW.PrintLast.start_ (S := fun w => Mem w0 w L) (ds := ds) (n := plan.length) (Array.replicate l.toArray.size false) hmix hlen.symm (by rw [hlen]) (hm.drew.drop) (fun hS => ?_)
  exact (h hq hsel _ hm.drew).out _ hp a ha hS
end
end Go.Proofs.YtkfogbonjpdkbaaGreat.Sp
namespace Go.Proofs.YtkfogbonjpdkbaaGreat.Sp
open Go Go.RowKit
set_option linter.unusedVariables false
set_option linter.unusedSimpArgs false
set_option maxRecDepth 10000
set_option maxHeartbeats 4000000
section
variable {P : Program} {n : Nat} {ops : Array Oper} {Q : Exit → Act → World → Prop} {rest : List Oper} {E : Env} {w0 W : World} {L : List Asn} {d src dst e g t : Nat} {ty : TypeId} {pos : String} {after : Array Edge} {x y : Operand} {s s' : ByteArray} {xt yt : TypeId} {k k' : IntKind} {m : Int} {us : TypeDesc}
theorem p_concat (hx : ev E x = some (.string s)) (hy : ev E y = some (.string s')) (hl : (s.size : Int) + s'.size ≤ 9223372036854775807) : PV P E (.binOp .add xt x y yt) (.string (s ++ s')) := ⟨fun n a ha dst ty pos after gd W => by simp [execOp, ha.eval hx, ha.eval hy, eqGuard, binOp, Op.stringOp, hl]⟩
theorem p_convi [hs : Und P src us] [hd : Und P dst (.int k')] (hx : ev E x = some (.int k m)) : PV P E (.convert src dst x) (.int k' (k'.wrap m)) := ⟨fun n a ha dst ty pos after gd W => by
  simp [execOp, ha.eval hx, convert, underlying, hs.out, hd.out, Conv.intToInt]⟩
theorem s_convb [hs : Und P src (.slice e)] [he : Und P e (.int .u8)] [hd : Und P dst .string] [hB : BoxAt L g t [.int .u8 m]] (hm : Mem w0 W L) (hx : ev E x = some (.slice (some ⟨g, 0, none⟩) 1 1)) (hn : Nat.blt d n = true)
    (h : WL P n ops Q rest ((d, .string (strOfNums [m])) :: E) W) : WL P n ops Q (⟨some d, .convert src dst x, ty, pos, after, none⟩ :: rest) E W := by
  have hrun := run_convert_bytes_arg (P := P) W src e hs.out he.out g 0 1 1 [m] rfl (fun i hi => by
    obtain rfl : i = 0 := by omega
    rw [cell_of_row W g _ _ t (0, 0) hm.heap]; rfl) dst hd.out
  exact s_run rfl rfl hn (fun a ha => by simp [execOp, ha.eval hx, hrun]) h
end
def mtGo : Nat → Nat → ByteArray → ByteArray
  | 0, _, o => o
  | f + 1, k, o => if k = 0 then o else mtGo f (k / 10) (strOfNums [IntKind.u8.wrap (48 + ((k % 10 : Nat) : Int))] ++ o)
theorem mtGo_fuel : ∀ (f k : Nat) (o : ByteArray), k ≤ f → mtGo f k o = mtGo k k o
  | 0, k, o, h => by obtain rfl : k = 0 := by omega
                     rfl
  | f + 1, 0, o, h => by simp [mtGo]
  | f + 1, k + 1, o, h => by
    have h1 : (k + 1) / 10 ≤ f := by omega
    have h2 : (k + 1) / 10 ≤ k := by omega
    simp only [mtGo, Nat.add_eq_zero_iff, Nat.succ_ne_zero, and_false, if_false]
    rw [mtGo_fuel f _ _ h1, mtGo_fuel k _ _ h2]
termination_by f => f
def mt (k : Nat) : ByteArray := ⟨#[109]⟩ ++ mtGo k k ⟨#[]⟩
theorem markText_c (k : Nat) (h0 : 0 < k) (h1 : k ≤ 9223372036854775000) {w0 W : World} {L : List Asn} (HM : Mem w0 W L) : Calls Tryz.prog 58 #[.int .i64 k] W fun e W' => e = .returned (.string (mt k)) ∧ Mem w0 W' L := by
  refine enter Tryz.func58 rfl Tryz.ntmps58 [(0, _)] rfl ⟨rfl, trivial⟩ ?_
  repeat (first | (refine gGP ?_; first | refine gp (p_move rfl) ?_ | refine gp (p_assign rfl) ?_ | (refine gGB ?_; refine gp (p_leq rfl rfl) ?_)) | (refine gL ?_; first | refine s_gp rfl rfl ?_ | refine l_nil ?_) | (refine gC ?_; first | refine c_seq ?_ | refine c_region ?_ | refine c_block ?_ | refine c_skip ?_ | refine c_no rfl (by first | rfl | (simp; omega)) ?_) | (refine gN ?_; refine n_then ?_))
  refine c_loop (σ := Nat × ByteArray) (fun s => [(0, .int .i64 s.1), (3, .string s.2)]) (fun s W1 => s.1 ≤ k ∧ s.2.size ≤ k - s.1 ∧ mtGo s.1 s.1 s.2 = mtGo k k ⟨#[]⟩ ∧ Mem w0 W1 L) (fun s => s.1) (k, ⟨#[]⟩) (by repeat (first | exact trivial | refine And.intro (by first | rfl | exact look_int rfl (by omega)) ?_)) ⟨Nat.le_refl _, Nat.zero_le _, rfl, HM⟩ ?_
  clear HM
  rintro ⟨j, o⟩ W1 ⟨hj, hsz, he, HM⟩
  dsimp only at hj hsz he HM ⊢
  by_cases hz : 0 < j
  · have e1 : IntKind.i64.wrap ((j : Int).tdiv 10) = ((j / 10 : Nat) : Int) := by
      rw [show (10 : Int) = ((10 : Nat) : Int) from rfl, ← Int.ofNat_tdiv]
      exact wr (by omega) (by omega)
    have e2 : (j : Int).tmod 10 = ((j % 10 : Nat) : Int) := by
      rw [show (10 : Int) = ((10 : Nat) : Int) from rfl, ← Int.ofNat_tmod]
    have hs1 : ∀ m : Int, (strOfNums [m]).size = 1 := fun m => rfl
    repeat (first | (refine gGB ?_; first | refine gp (p_quo rfl rfl (by decide) e1) ?_ | refine gp (p_rem rfl rfl (by decide) e2) ?_ | refine gp (p_concat rfl rfl (by rw [hs1]; omega)) ?_) | refine s_pv (p_convi rfl) rfl ?_ | refine s_convb HM rfl rfl ?_ | (refine gGP ?_; first | refine gp (p_move rfl) ?_ | refine gp (p_assign rfl) ?_ | (refine gGB ?_; first | refine gp (p_gtr rfl rfl) ?_ | refine gp (p_add rfl rfl (by exact wr (by omega) (by omega))) ?_)) | (refine gL ?_; first | refine s_gp rfl rfl ?_ | (refine s_lit1 HM rfl rfl rfl ?_; intro g W1 HM1; clear HM; have HM := HM1; clear HM1) | refine l_nil ?_) | (refine gC ?_; first | refine c_seq ?_ | refine c_region ?_ | refine c_block ?_ | refine c_skip ?_ | refine c_yes rfl (by (simp; omega)) ?_) | (refine gN ?_; first | refine n_then ?_ | refine n_block ?_))
    refine n_round (j / 10, _) (by repeat (first | exact trivial | refine And.intro (by first | rfl | exact look_int rfl (by omega)) ?_)) ⟨by simp only; omega, by simp only [ByteArray.size_append, hs1]; omega, ?_, HM.sb⟩ (by simp only; omega)
    obtain ⟨i, rfl⟩ : ∃ i, j = i + 1 := ⟨j - 1, by omega⟩
    rw [← he, mtGo, if_neg (by omega)]
    exact (mtGo_fuel i _ _ (by omega)).symm
  · obtain rfl : j = 0 := by omega
    repeat (first | (refine gGB ?_; refine gp (p_concat rfl rfl (by rw [show ByteArray.size ⟨#[109]⟩ = 1 from rfl]; omega)) ?_) | (refine gGP ?_; first | refine gp (p_move rfl) ?_ | refine gp (p_assign rfl) ?_ | (refine gGB ?_; refine gp (p_gtr rfl rfl) ?_)) | (refine gL ?_; first | refine s_gp rfl rfl ?_ | refine l_nil ?_) | (refine gC ?_; first | refine c_seq ?_ | refine c_region ?_ | refine c_exit ?_ | refine c_ret ?_ | refine c_no rfl (by rfl) ?_) | (refine gN ?_; first | refine n_then ?_ | refine x_then ?_ | refine x_here ?_))
    exact ret_tmp rfl rfl ⟨by rw [mt, ← he]; rfl, HM⟩
end Go.Proofs.YtkfogbonjpdkbaaGreat.Sp
namespace Go.Proofs.YtkfogbonjpdkbaaGreat.Sp
open Go Go.RowKit
set_option linter.unusedVariables false
set_option linter.unusedSimpArgs false
set_option maxRecDepth 10000
set_option maxHeartbeats 4000000
variable {w0 W : World} {L : List Asn} {A : Option Addr} {c : Nat}
theorem markText_i (k : Int) (h0 : 0 < k) (h1 : k ≤ 9223372036854775000) (HM : Mem w0 W L) : Calls Tryz.prog 58 #[.int .i64 k] W fun e W' => e = .returned (.string (mt k.toNat)) ∧ Mem w0 W' L := by
  have := markText_c k.toNat (by omega) (by omega) HM
  rwa [Int.toNat_of_nonneg (by omega)] at this
theorem markIntS {xs : List Int} (k : Int) (h0 : 0 < k) (h1 : k ≤ 1125899906842624) (hn : xs.length ≤ 1048576) (HM : Mem w0 W (own tInt 3 A c xs :: L)) :
    Calls Tryz.prog 55 #[.slice A xs.length c, .int .i64 k] W fun e W' => ∃ ys, e = .returned (.int .i64 (k + xs.length)) ∧ ys.length = xs.length ∧ Mem w0 W' (own tInt 3 A c ys :: L) := by
  refine enter Tryz.func55 rfl Tryz.ntmps55 [(0, _), (1, _)] rfl ⟨rfl, rfl, trivial⟩ ?_
  repeat (first | (refine gGP ?_; refine gp (p_assign rfl) ?_) | (refine gL ?_; first | refine s_gp rfl rfl ?_ | refine l_nil ?_) | (refine gC ?_; first | refine c_seq ?_ | refine c_region ?_ | refine c_block ?_) | (refine gN ?_; refine n_then ?_))
  refine c_loop (σ := Nat) (fun i => [(0, .slice A xs.length c), (1, .int .i64 (k + i)), (5, .int .i64 i)]) (fun i W1 => i ≤ xs.length ∧ ∃ ys, ys.length = xs.length ∧ Mem w0 W1 (own tInt 3 A c ys :: L)) (fun i => xs.length - i) 0 (by repeat (first | exact trivial | refine And.intro (by first | rfl | exact look_int rfl (by omega)) ?_)) ⟨Nat.zero_le _, xs, rfl, HM⟩ ?_
  clear HM
  rintro i W1 ⟨hi, ys, hl, HM⟩
  by_cases hlt : i < xs.length
  · repeat (first | (refine gGP ?_; first | refine gp (p_move rfl) ?_ | refine gp (p_assign rfl) ?_ | (refine gGB ?_; first | refine gp (p_lss rfl rfl) ?_ | refine gp (p_add rfl rfl (by exact wr (by omega) (by omega))) ?_) | refine gp (p_indexo HM rfl (by first | with_reducible rfl | omega) rfl (by omega) (by omega)) ?_ | refine gp (p_len rfl) ?_) | (refine gL ?_; first | refine s_gp rfl rfl ?_ | (refine gStore ?_; (refine s_storeo HM rfl rfl rfl (by omega) (by omega) rfl ?_; intro W1 HM1; clear HM; have HM := HM1; clear HM1; (try dsimp only at HM))) | refine l_nil ?_) | (refine gC ?_; first | refine c_seq ?_ | refine c_region ?_ | refine c_block ?_ | refine c_skip ?_ | refine c_yes rfl (by (simp; omega)) ?_) | (refine gN ?_; first | refine n_then ?_ | refine n_block ?_))
    exact n_round (i + 1) (by repeat (first | exact trivial | refine And.intro (by first | rfl | exact look_int rfl (by omega)) ?_)) ⟨by omega, _, by rw [List.length_set]; exact hl, HM⟩ (by omega)
  · repeat (first | (refine gGP ?_; first | refine gp (p_move rfl) ?_ | refine gp (p_assign rfl) ?_ | (refine gGB ?_; refine gp (p_lss rfl rfl) ?_) | refine gp (p_len rfl) ?_) | (refine gL ?_; first | refine s_gp rfl rfl ?_ | refine l_nil ?_) | (refine gC ?_; first | refine c_seq ?_ | refine c_region ?_ | refine c_exit ?_ | refine c_ret ?_ | refine c_no rfl (by (simp; omega)) ?_) | (refine gN ?_; first | refine n_then ?_ | refine x_then ?_ | refine x_here ?_))
    obtain rfl : i = xs.length := by omega
    exact ret_tmp rfl rfl ⟨ys, rfl, hl, HM⟩
theorem markStrS {xs : List ByteArray} (k : Int) (h0 : 0 < k) (h1 : k ≤ 1125899906842624) (hn : xs.length ≤ 1048576) (HM : Mem w0 W (own tStr 9 A c xs :: L)) :
    Calls Tryz.prog 54 #[.slice A xs.length c, .int .i64 k] W fun e W' => ∃ ys, e = .returned (.int .i64 (k + xs.length)) ∧ ys.length = xs.length ∧ (∀ j : Nat, j < xs.length → rd tStr ys j = mt (k + j).toNat) ∧ Mem w0 W' (own tStr 9 A c ys :: L) := by
  refine enter Tryz.func54 rfl Tryz.ntmps54 [(0, _), (1, _)] rfl ⟨rfl, rfl, trivial⟩ ?_
  repeat (first | (refine gGP ?_; refine gp (p_assign rfl) ?_) | (refine gL ?_; first | refine s_gp rfl rfl ?_ | refine l_nil ?_) | (refine gC ?_; first | refine c_seq ?_ | refine c_region ?_ | refine c_block ?_) | (refine gN ?_; refine n_then ?_))
  refine c_loop (σ := Nat) (fun i => [(0, .slice A xs.length c), (1, .int .i64 (k + i)), (5, .int .i64 i)]) (fun i W1 => i ≤ xs.length ∧ ∃ ys, ys.length = xs.length ∧ (∀ j : Nat, j < i → rd tStr ys j = mt (k + j).toNat) ∧ Mem w0 W1 (own tStr 9 A c ys :: L)) (fun i => xs.length - i) 0 (by repeat (first | exact trivial | refine And.intro (by first | rfl | exact look_int rfl (by omega)) ?_)) ⟨Nat.zero_le _, xs, rfl, fun j hj => by omega, HM⟩ ?_
  clear HM
  rintro i W1 ⟨hi, ys, hl, hy, HM⟩
  by_cases hlt : i < xs.length
  · repeat (first | (refine gGP ?_; first | refine gp (p_move rfl) ?_ | refine gp (p_assign rfl) ?_ | (refine gGB ?_; first | refine gp (p_lss rfl rfl) ?_ | refine gp (p_add rfl rfl (by exact wr (by omega) (by omega))) ?_) | refine gp (p_indexo HM rfl (by first | with_reducible rfl | omega) rfl (by omega) (by omega)) ?_ | refine gp (p_len rfl) ?_) | (refine gL ?_; first | refine s_gp rfl rfl ?_ | (refine gStore ?_; (refine s_storeo HM rfl rfl rfl (by omega) (by omega) rfl ?_; intro W1 HM1; clear HM; have HM := HM1; clear HM1; (try dsimp only at HM))) | (refine gCall ?_; (refine s_fn rfl rfl ?_; (go_at_call 58; refine (markText_i _ (by omega) (by omega) HM).mono ?_; rintro e W1 ⟨rfl, HM1⟩; refine ⟨_, rfl, ?_⟩; clear HM; have HM := HM1; clear HM1))) | refine l_nil ?_) | (refine gC ?_; first | refine c_seq ?_ | refine c_region ?_ | refine c_block ?_ | refine c_skip ?_ | refine c_yes rfl (by (simp; omega)) ?_) | (refine gN ?_; first | refine n_then ?_ | refine n_block ?_))
    refine n_round (i + 1) (by repeat (first | exact trivial | refine And.intro (by first | rfl | exact look_int rfl (by omega)) ?_)) ⟨by omega, _, by rw [List.length_set]; exact hl, fun j hj => ?_, HM⟩ (by omega)
    by_cases e : j = i
    · subst e
      exact rd_set (d := tStr) (xs := ys) (i := (j : Int)) (by omega) (by omega) _
    · rw [Int.toNat_natCast, rd_set_ne (fun h => e h.symm)]
      exact hy j (by omega)
  · repeat (first | (refine gGP ?_; first | refine gp (p_move rfl) ?_ | refine gp (p_assign rfl) ?_ | (refine gGB ?_; refine gp (p_lss rfl rfl) ?_) | refine gp (p_len rfl) ?_) | (refine gL ?_; first | refine s_gp rfl rfl ?_ | refine l_nil ?_) | (refine gC ?_; first | refine c_seq ?_ | refine c_region ?_ | refine c_exit ?_ | refine c_ret ?_ | refine c_no rfl (by (simp; omega)) ?_) | (refine gN ?_; first | refine n_then ?_ | refine x_then ?_ | refine x_here ?_))
    obtain rfl : i = xs.length := by omega
    exact ret_tmp rfl rfl ⟨ys, rfl, hl, hy, HM⟩
theorem heldStrS {xs : List ByteArray} (k : Int) (h0 : 0 < k) (h1 : k ≤ 1125899906842624) (hn : xs.length ≤ 1048576) (hy : ∀ j : Nat, j < xs.length → rd tStr xs j = mt (k + j).toNat) (HM : Mem w0 W (own tStr 9 A c xs :: L)) :
    Calls Tryz.prog 60 #[.slice A xs.length c, .int .i64 k] W fun e W' => e = .returned (.int .i64 (k + xs.length)) ∧ Mem w0 W' (own tStr 9 A c xs :: L) := by
  refine enter Tryz.func60 rfl Tryz.ntmps60 [(0, _), (1, _)] rfl ⟨rfl, rfl, trivial⟩ ?_
  repeat (first | (refine gGP ?_; refine gp (p_assign rfl) ?_) | (refine gL ?_; first | refine s_gp rfl rfl ?_ | refine l_nil ?_) | (refine gC ?_; first | refine c_seq ?_ | refine c_region ?_ | refine c_block ?_) | (refine gN ?_; refine n_then ?_))
  refine c_loop (σ := Nat) (fun i => [(0, .slice A xs.length c), (1, .int .i64 (k + i)), (5, .int .i64 i)]) (fun i W1 => i ≤ xs.length ∧ Mem w0 W1 (own tStr 9 A c xs :: L)) (fun i => xs.length - i) 0 (by repeat (first | exact trivial | refine And.intro (by first | rfl | exact look_int rfl (by omega)) ?_)) ⟨Nat.zero_le _, HM⟩ ?_
  clear HM
  rintro i W1 ⟨hi, HM⟩
  by_cases hlt : i < xs.length
  · have e := hy i hlt
    repeat (first | (refine gR ?_; refine d_start [] [(0, 0), (0, 1), (0, 2), (0, 4), (1, 3), (2, 5), (0, 6)] HM (by kernel_rfl) (by kernel_rfl) (by repeat (first | exact qp_body | refine qp_then ?_ | refine qp_block ?_)) (by kernel_rfl) rfl ?_; intro HQ HS W1 HM1; clear HM; have HM := HM1; clear HM1) | (refine gGP ?_; first | refine gp (p_move rfl) ?_ | refine gp (p_assign rfl) ?_ | (refine gGB ?_; first | refine gp (p_lss rfl rfl) ?_ | refine gp (p_sneq rfl rfl) ?_ | refine gp (p_add rfl rfl (by exact wr (by omega) (by omega))) ?_) | refine gp (p_indexo HM rfl (by first | with_reducible rfl | omega) rfl (by omega) (by omega)) ?_ | refine gp (p_len rfl) ?_) | (refine gGV ?_; refine gv (p_loado rfl rfl (by omega) (by omega) rfl) ?_) | (refine gL ?_; first | refine s_gp rfl rfl ?_ | (refine gCall ?_; (refine s_fn rfl rfl ?_; (go_at_call 58; refine (markText_i _ (by omega) (by omega) HM).mono ?_; rintro e W1 ⟨rfl, HM1⟩; refine ⟨_, rfl, ?_⟩; clear HM; have HM := HM1; clear HM1))) | refine l_nil ?_) | (refine gC ?_; first | refine c_seq ?_ | refine c_region ?_ | refine c_block ?_ | refine c_skip ?_ | refine c_yes rfl (by (simp; omega)) ?_ | refine c_no rfl (by (simp; omega)) ?_) | (refine gN ?_; first | refine n_then ?_ | refine n_block ?_ | refine d_back (by exact HM) ?_) | (refine gD ?_; first | refine d_next rfl ?_ | refine d_done ?_) | (refine gO ?_; first | refine d_gp HQ HS rfl ?_ | refine d_gv HQ HS rfl ?_ | refine d_one ?_))
    exact n_round (i + 1) (by repeat (first | exact trivial | refine And.intro (by first | rfl | exact look_int rfl (by omega)) ?_)) ⟨by omega, HM⟩ (by omega)
  · repeat (first | (refine gGP ?_; first | refine gp (p_move rfl) ?_ | refine gp (p_assign rfl) ?_ | (refine gGB ?_; refine gp (p_lss rfl rfl) ?_) | refine gp (p_len rfl) ?_) | (refine gL ?_; first | refine s_gp rfl rfl ?_ | refine l_nil ?_) | (refine gC ?_; first | refine c_seq ?_ | refine c_region ?_ | refine c_exit ?_ | refine c_ret ?_ | refine c_no rfl (by (simp; omega)) ?_) | (refine gN ?_; first | refine n_then ?_ | refine x_then ?_ | refine x_here ?_))
    obtain rfl : i = xs.length := by omega
    exact ret_tmp rfl rfl ⟨rfl, HM⟩
theorem markSlotS {xs : List Slot} (k : Int) (h0 : 0 < k) (h1 : k ≤ 1125899906842624) (hn : xs.length ≤ 1048576) (HM : Mem w0 W (own tSlot 105 A c xs :: L)) :
    Calls Tryz.prog 56 #[.slice A xs.length c, .int .i64 k] W fun e W' => ∃ ys, e = .returned (.int .i64 (k + 2 * xs.length)) ∧ ys.length = xs.length ∧ Mem w0 W' (own tSlot 105 A c ys :: L) := by
  refine enter Tryz.func56 rfl Tryz.ntmps56 [(0, _), (1, _)] rfl ⟨rfl, rfl, trivial⟩ ?_
  repeat (first | (refine gGP ?_; refine gp (p_assign rfl) ?_) | (refine gL ?_; first | refine s_gp rfl rfl ?_ | refine l_nil ?_) | (refine gC ?_; first | refine c_seq ?_ | refine c_region ?_ | refine c_block ?_) | (refine gN ?_; refine n_then ?_))
  refine c_loop (σ := Nat) (fun i => [(0, .slice A xs.length c), (1, .int .i64 (k + 2 * i)), (5, .int .i64 i)]) (fun i W1 => i ≤ xs.length ∧ ∃ ys, ys.length = xs.length ∧ Mem w0 W1 (own tSlot 105 A c ys :: L)) (fun i => xs.length - i) 0 (by repeat (first | exact trivial | refine And.intro (by first | rfl | exact look_int rfl (by omega)) ?_)) ⟨Nat.zero_le _, xs, rfl, HM⟩ ?_
  clear HM
  rintro i W1 ⟨hi, ys, hl, HM⟩
  by_cases hlt : i < xs.length
  · repeat (first | (refine gGP ?_; first | refine gp (p_move rfl) ?_ | refine gp (p_assign rfl) ?_ | (refine gGB ?_; first | refine gp (p_lss rfl rfl) ?_ | refine gp (p_add rfl rfl (by exact wr (by omega) (by omega))) ?_) | refine gp (p_fieldo rfl (by simp only [Nat.reduceAdd]; rfl)) ?_ | refine gp (p_indexo HM rfl (by first | with_reducible rfl | (simp only [List.length_set, List.length_append, List.length_cons, List.length_nil]; omega) | omega) rfl (by omega) (by first | (simp only [List.length_set, List.length_append, List.length_cons, List.length_nil]; omega) | omega)) ?_ | refine gp (p_len rfl) ?_) | (refine gL ?_; first | refine s_gp rfl rfl ?_ | (refine gStore ?_; first | (refine s_storeo2 HM rfl rfl rfl rfl (by omega) (by omega) rfl ?_; intro W1 HM1; clear HM; have HM := HM1; clear HM1; (try dsimp only at HM)) | (refine s_storeo HM rfl rfl rfl (by omega) (by omega) rfl ?_; intro W1 HM1; clear HM; have HM := HM1; clear HM1; (try dsimp only at HM))) | (refine gCall ?_; (refine s_fn rfl rfl ?_; (go_at_call 58; refine (markText_i _ (by omega) (by omega) HM).mono ?_; rintro e W1 ⟨rfl, HM1⟩; refine ⟨_, rfl, ?_⟩; clear HM; have HM := HM1; clear HM1))) | refine l_nil ?_) | (refine gC ?_; first | refine c_seq ?_ | refine c_region ?_ | refine c_block ?_ | refine c_skip ?_ | refine c_yes rfl (by (simp; omega)) ?_) | (refine gN ?_; first | refine n_then ?_ | refine n_block ?_))
    exact n_round (i + 1) (by repeat (first | exact trivial | refine And.intro (by first | rfl | exact look_int rfl (by omega)) ?_)) ⟨by omega, _, by rw [List.length_set]; exact hl, HM⟩ (by omega)
  · repeat (first | (refine gGP ?_; first | refine gp (p_move rfl) ?_ | refine gp (p_assign rfl) ?_ | (refine gGB ?_; refine gp (p_lss rfl rfl) ?_) | refine gp (p_len rfl) ?_) | (refine gL ?_; first | refine s_gp rfl rfl ?_ | refine l_nil ?_) | (refine gC ?_; first | refine c_seq ?_ | refine c_region ?_ | refine c_exit ?_ | refine c_ret ?_ | refine c_no rfl (by (simp; omega)) ?_) | (refine gN ?_; first | refine n_then ?_ | refine x_then ?_ | refine x_here ?_))
    obtain rfl : i = xs.length := by omega
    exact ret_tmp rfl rfl ⟨ys, rfl, hl, HM⟩
/-! nested rows: an element laid open -/
section
variable {α ι : Type} {e : Nat} {xs : List α}
theorem opn_nest {sz : Nat} {z : α} {enc : α → ι → List Value} {parts : α → ι → List Asn} {get : α → Nat → Option Value} {set : α → Nat → Value → Option α} {hl h1 hg hs} (h : Mem w0 W (own (nest sz z enc parts get set hl h1 hg hs) e A c xs :: L)) (i : Nat) (hi : i < xs.length) :
    ∃ j, Mem w0 W (hol (nest sz z enc parts get set hl h1 hg hs) e A c xs i (enc xs[i] j) :: (parts xs[i] j ++ L)) := by
  obtain ⟨cs, h2⟩ := opn_ h i hi
  have h3 : Mem w0 W (exP (fun j => cs = enc xs[i] j) (parts xs[i]) :: hol (nest sz z enc parts get set hl h1 hg hs) e A c xs i cs :: L) := h2.perm (List.Perm.swap ..)
  obtain ⟨j, rfl, h4⟩ := h3.ex
  exact ⟨j, h4.perm List.perm_middle⟩
theorem cls_nest {sz : Nat} {z : α} {enc : α → ι → List Value} {parts : α → ι → List Asn} {get : α → Nat → Option Value} {set : α → Nat → Value → Option α} {hl h1 hg hs} {i : Nat} {x : α} {j : ι} (h : Mem w0 W (hol (nest sz z enc parts get set hl h1 hg hs) e A c xs i (enc x j) :: (parts x j ++ L))) :
    Mem w0 W (own (nest sz z enc parts get set hl h1 hg hs) e A c (xs.set i x) :: L) := by
  have h4 := h.perm (List.perm_middle (a := hol (nest sz z enc parts get set hl h1 hg hs) e A c xs i (enc x j)) (l₁ := parts x j) (l₂ := L)).symm
  have h3 : Mem w0 W (exP (fun k => enc x j = enc x k) (parts x) :: hol (nest sz z enc parts get set hl h1 hg hs) e A c xs i (enc x j) :: L) := Mem.mkx j rfl h4
  exact cls_ (h3.perm (List.Perm.swap ..))
end
theorem markMsgS {xs : List Msg} (k : Int) (h0 : 0 < k) (h1 : k ≤ 35184372088832) (hn : xs.length ≤ 1048576) (hm : ∀ x ∈ xs, x.slots.length ≤ 1048576) (HM : Mem w0 W (own (tMsg 105) 52 A c xs :: L)) :
    Calls Tryz.prog 12 #[.slice A xs.length c, .int .i64 k] W fun e W' => ∃ r ys, e = .returned (.int .i64 r) ∧ 0 < r ∧ r ≤ k + 2199030595584 ∧ ys.length = xs.length ∧ Mem w0 W' (own (tMsg 105) 52 A c ys :: L) := by
  refine enter Tryz.func12 rfl Tryz.ntmps12 [(0, _), (1, _)] rfl ⟨rfl, rfl, trivial⟩ ?_
  repeat (first | (refine gGP ?_; refine gp (p_assign rfl) ?_) | (refine gL ?_; first | refine s_gp rfl rfl ?_ | refine l_nil ?_) | (refine gC ?_; first | refine c_seq ?_ | refine c_region ?_ | refine c_block ?_) | (refine gN ?_; refine n_then ?_))
  refine c_loop (σ := Nat × Int) (fun s => [(0, .slice A xs.length c), (1, .int .i64 s.2), (5, .int .i64 s.1)]) (fun s W1 => s.1 ≤ xs.length ∧ 0 < s.2 ∧ s.2 ≤ k + 2097159 * s.1 ∧ ∃ ys : List Msg, ys.length = xs.length ∧ (∀ j (h : j < ys.length), s.1 ≤ j → ys[j].slots.length ≤ 1048576) ∧ Mem w0 W1 (own (tMsg 105) 52 A c ys :: L)) (fun s => xs.length - s.1) (0, k) (by repeat (first | exact trivial | refine And.intro (by first | rfl | exact look_int rfl (by omega)) ?_)) ⟨Nat.zero_le _, h0, by simp, xs, rfl, fun j hj _ => hm _ (List.getElem_mem hj), HM⟩ ?_
  clear HM
  rintro ⟨i, r⟩ W1 ⟨hi, r0, r1, ys, hl, hy, HM⟩
  dsimp only at hi r0 r1 hy HM ⊢
  by_cases hlt : i < xs.length
  · have hlt2 : i < ys.length := by omega
    have hsl := hy i hlt2 (Nat.le_refl _)
    obtain ⟨j, HM⟩ := opn_nest HM i hlt2
    replace HM : Mem w0 W1 (hol (tMsg 105) 52 A c ys i (encMsg ys[i] j) :: own tSlot 105 j.1 j.2 ys[i].slots :: L) := HM
    unfold encMsg at HM
    repeat (first | (refine gGP ?_; first | refine gp (p_move rfl) ?_ | refine gp (p_assign rfl) ?_ | (refine gGB ?_; first | refine gp (p_lss rfl rfl) ?_ | refine gp (p_add rfl rfl (by exact wr (by omega) (by omega))) ?_) | refine gp (p_fieldo rfl (by simp only [Nat.reduceAdd]; rfl)) ?_ | refine gp (p_indexh HM rfl (by first | with_reducible rfl | omega) rfl (by omega) (by omega)) ?_ | refine gp (p_len rfl) ?_) | (refine gGV ?_; refine gv (p_loadh rfl rfl rfl) ?_) | (refine gL ?_; first | refine s_gp rfl rfl ?_ | refine s_gv HM rfl ?_ | (refine gStore ?_; (refine s_storeh HM rfl rfl rfl rfl rfl rfl ?_; intro W1 HM1; clear HM; have HM := HM1; clear HM1; (try dsimp only at HM))) | (refine gCall ?_; (refine s_fn rfl rfl ?_; first | (go_at_call 58; refine (markText_i _ (by omega) (by omega) HM).mono ?_; rintro e W1 ⟨rfl, HM1⟩; refine ⟨_, rfl, ?_⟩; clear HM; have HM := HM1; clear HM1) | (go_at_call 56; refine (markSlotS _ (by omega) (by omega) hsl HM.pk).mono ?_; rintro e W1 ⟨zs, rfl, hz, HM1⟩; refine ⟨_, rfl, ?_⟩; clear HM; have HM := HM1; clear HM1))) | refine l_nil ?_) | (refine gC ?_; first | refine c_seq ?_ | refine c_region ?_ | refine c_block ?_ | refine c_skip ?_ | refine c_yes rfl (by (simp; omega)) ?_) | (refine gN ?_; first | refine n_then ?_ | refine n_block ?_))
    rw [← hz] at HM
    have HM2 := cls_nest (x := (⟨_, _, _, _, _, _, _, zs⟩ : Msg)) (j := j) (HM.perm (List.Perm.swap ..))
    refine n_round (i + 1, _) (by repeat (first | exact trivial | refine And.intro (by first | rfl | exact look_int rfl (by omega)) ?_)) ⟨by simp only; omega, by simp only; omega, by simp only; omega, _, by rw [List.length_set]; exact hl, fun q hq hq2 => ?_, HM2⟩ (by simp only; omega)
    simp only at hq2
    rw [List.getElem_set_ne (by omega)]
    exact hy q (by simpa using hq) (by omega)
  · repeat (first | (refine gGP ?_; first | refine gp (p_move rfl) ?_ | refine gp (p_assign rfl) ?_ | (refine gGB ?_; refine gp (p_lss rfl rfl) ?_) | refine gp (p_len rfl) ?_) | (refine gL ?_; first | refine s_gp rfl rfl ?_ | refine l_nil ?_) | (refine gC ?_; first | refine c_seq ?_ | refine c_region ?_ | refine c_exit ?_ | refine c_ret ?_ | refine c_no rfl (by (simp; omega)) ?_) | (refine gN ?_; first | refine n_then ?_ | refine x_then ?_ | refine x_here ?_))
    obtain rfl : i = xs.length := by omega
    exact ret_tmp rfl rfl ⟨_, ys, rfl, r0, by omega, hl, HM⟩
theorem markAckS {xs : List Ack} (k : Int) (h0 : 0 < k) (h1 : k ≤ 35184372088832) (hn : xs.length ≤ 1048576) (hm : ∀ x ∈ xs, x.frm.length ≤ 1048576) (HM : Mem w0 W (own (tAck 3) 104 A c xs :: L)) :
    Calls Tryz.prog 57 #[.slice A xs.length c, .int .i64 k] W fun e W' => ∃ r ys, e = .returned (.int .i64 r) ∧ 0 < r ∧ r ≤ k + 2199030595584 ∧ ys.length = xs.length ∧ Mem w0 W' (own (tAck 3) 104 A c ys :: L) := by
  refine enter Tryz.func57 rfl Tryz.ntmps57 [(0, _), (1, _)] rfl ⟨rfl, rfl, trivial⟩ ?_
  repeat (first | (refine gGP ?_; refine gp (p_assign rfl) ?_) | (refine gL ?_; first | refine s_gp rfl rfl ?_ | refine l_nil ?_) | (refine gC ?_; first | refine c_seq ?_ | refine c_region ?_ | refine c_block ?_) | (refine gN ?_; refine n_then ?_))
  refine c_loop (σ := Nat × Int) (fun s => [(0, .slice A xs.length c), (1, .int .i64 s.2), (5, .int .i64 s.1)]) (fun s W1 => s.1 ≤ xs.length ∧ 0 < s.2 ∧ s.2 ≤ k + 2097159 * s.1 ∧ ∃ ys : List Ack, ys.length = xs.length ∧ (∀ j (h : j < ys.length), s.1 ≤ j → ys[j].frm.length ≤ 1048576) ∧ Mem w0 W1 (own (tAck 3) 104 A c ys :: L)) (fun s => xs.length - s.1) (0, k) (by repeat (first | exact trivial | refine And.intro (by first | rfl | exact look_int rfl (by omega)) ?_)) ⟨Nat.zero_le _, h0, by simp, xs, rfl, fun j hj _ => hm _ (List.getElem_mem hj), HM⟩ ?_
  clear HM
  rintro ⟨i, r⟩ W1 ⟨hi, r0, r1, ys, hl, hy, HM⟩
  dsimp only at hi r0 r1 hy HM ⊢
  by_cases hlt : i < xs.length
  · have hlt2 : i < ys.length := by omega
    have hsl := hy i hlt2 (Nat.le_refl _)
    obtain ⟨j, HM⟩ := opn_nest HM i hlt2
    replace HM : Mem w0 W1 (hol (tAck 3) 104 A c ys i (encAck ys[i] j) :: own tInt 3 j.1 j.2 ys[i].frm :: L) := HM
    unfold encAck at HM
    repeat (first | (refine gGP ?_; first | refine gp (p_move rfl) ?_ | refine gp (p_assign rfl) ?_ | (refine gGB ?_; first | refine gp (p_lss rfl rfl) ?_ | refine gp (p_add rfl rfl (by exact wr (by omega) (by omega))) ?_) | refine gp (p_fieldo rfl (by simp only [Nat.reduceAdd]; rfl)) ?_ | refine gp (p_indexh HM rfl (by first | with_reducible rfl | omega) rfl (by omega) (by omega)) ?_ | refine gp (p_len rfl) ?_) | (refine gGV ?_; refine gv (p_loadh rfl rfl rfl) ?_) | (refine gL ?_; first | refine s_gp rfl rfl ?_ | refine s_gv HM rfl ?_ | (refine gStore ?_; (refine s_storeh HM rfl rfl rfl rfl rfl rfl ?_; intro W1 HM1; clear HM; have HM := HM1; clear HM1; (try dsimp only at HM))) | (refine gCall ?_; (refine s_fn rfl rfl ?_; (go_at_call 55; refine (markIntS _ (by omega) (by omega) hsl HM.pk).mono ?_; rintro e W1 ⟨zs, rfl, hz, HM1⟩; refine ⟨_, rfl, ?_⟩; clear HM; have HM := HM1; clear HM1))) | refine l_nil ?_) | (refine gC ?_; first | refine c_seq ?_ | refine c_region ?_ | refine c_block ?_ | refine c_skip ?_ | refine c_yes rfl (by (simp; omega)) ?_) | (refine gN ?_; first | refine n_then ?_ | refine n_block ?_))
    rw [← hz] at HM
    have HM2 := cls_nest (x := (⟨_, zs⟩ : Ack)) (j := j) (HM.perm (List.Perm.swap ..))
    refine n_round (i + 1, _) (by repeat (first | exact trivial | refine And.intro (by first | rfl | exact look_int rfl (by omega)) ?_)) ⟨by simp only; omega, by simp only; omega, by simp only; omega, _, by rw [List.length_set]; exact hl, fun q hq hq2 => ?_, HM2⟩ (by simp only; omega)
    simp only at hq2
    rw [List.getElem_set_ne (by omega)]
    exact hy q (by simpa using hq) (by omega)
  · repeat (first | (refine gGP ?_; first | refine gp (p_move rfl) ?_ | refine gp (p_assign rfl) ?_ | (refine gGB ?_; refine gp (p_lss rfl rfl) ?_) | refine gp (p_len rfl) ?_) | (refine gL ?_; first | refine s_gp rfl rfl ?_ | refine l_nil ?_) | (refine gC ?_; first | refine c_seq ?_ | refine c_region ?_ | refine c_exit ?_ | refine c_ret ?_ | refine c_no rfl (by (simp; omega)) ?_) | (refine gN ?_; first | refine n_then ?_ | refine x_then ?_ | refine x_here ?_))
    obtain rfl : i = xs.length := by omega
    exact ret_tmp rfl rfl ⟨_, ys, rfl, r0, by omega, hl, HM⟩
theorem markDisk (p q : Int) {xs : List Slot} (k : Int) (h0 : 0 < k) (h1 : k ≤ 1125899906842624) (hn : xs.length ≤ 1048576) (HM : Mem w0 W (own tSlot 105 A c xs :: L)) :
    Calls Tryz.prog 53 #[.agg #[.int .i64 p, .int .i64 q, .slice A xs.length c], .int .i64 k] W fun e W' => ∃ ys, e = .returned (.int .i64 (k + 2 * xs.length)) ∧ ys.length = xs.length ∧ Mem w0 W' (own tSlot 105 A c ys :: L) := by
  refine enter Tryz.func53 rfl Tryz.ntmps53 [(0, .agg #[.int .i64 p, .int .i64 q, .slice A xs.length c]), (1, _)] rfl ⟨rfl, rfl, trivial⟩ ?_
  repeat (first | (refine gGP ?_; first | refine gp (p_move rfl) ?_ | refine gp (p_assign rfl) ?_ | refine gp (p_field rfl (by simp only [Nat.reduceAdd]; rfl)) ?_) | (refine gGV ?_; refine gv (p_load rfl) ?_) | (refine gL ?_; first | refine s_gp rfl rfl ?_ | refine s_gv HM rfl ?_ | (refine gCall ?_; (refine s_fn rfl rfl ?_; (go_at_call 56; refine (markSlotS k h0 h1 hn HM.pk).mono ?_; rintro e W1 ⟨zs, rfl, hz, HM1⟩; refine ⟨_, rfl, ?_⟩; clear HM; have HM := HM1; clear HM1))) | (refine s_box HM rfl rfl ?_; intro g W1 HM1; clear HM; have HM := HM1; clear HM1) | refine l_nil ?_) | (refine gC ?_; first | refine c_seq ?_ | refine c_region ?_ | refine c_ret ?_) | (refine gN ?_; refine n_then ?_))
  exact ret_tmp rfl rfl ⟨zs, rfl, hz, HM.sb⟩
/-- A recorder's rows are marked: they stay rows of the call's own; nothing else is told of them. -/
theorem markRec (x : Rcd) (i : AtRcd) (k : Int) (h0 : 0 < k) (h1 : k ≤ 1000) (hn : SmallR x) (HM : Mem w0 W (partRcd 105 52 9 3 104 x i ++ L)) :
    Calls Tryz.prog 11 #[.agg (encRcd x i).toArray, .int .i64 k] W fun e W' => ∃ r, e = .returned (.int .i64 r) ∧ 0 < r ∧ Mem w0 W' L := by
  refine enter Tryz.func11 rfl Tryz.ntmps11 [(0, .agg (encRcd x i).toArray), (1, _)] rfl ⟨rfl, rfl, trivial⟩ ?_
  have s1 := hn.ss
  have s2 := hn.ds
  have s3 := hn.held
  have s4 := hn.wishes
  have s5 := hn.yes
  have s6 := hn.best
  have s7 := hn.acks
  unfold encRcd
  simp only [partRcd, List.cons_append, List.nil_append] at HM
  repeat (first | (refine gGP ?_; first | refine gp (p_move rfl) ?_ | refine gp (p_assign rfl) ?_ | refine gp (p_field rfl (by simp only [Nat.reduceAdd]; rfl)) ?_) | (refine gGV ?_; first | refine gv (p_load rfl) ?_ | refine gv (p_loads rfl) ?_) | (refine gL ?_; first | refine s_gp rfl rfl ?_ | refine s_gv HM rfl ?_ | (refine gCall ?_; (refine s_fn rfl rfl ?_; first | (go_at_call 53; refine (markDisk _ _ _ (by omega) (by omega) (by first | with_reducible exact s1 | with_reducible exact s2) HM.pk).mono ?_; rintro e W1 ⟨zs, rfl, hz, HM1⟩; refine ⟨_, rfl, ?_⟩; clear HM; have HM := HM1; clear HM1) | (go_at_call 12; refine (markMsgS _ (by omega) (by omega) s3 hn.helds HM.pk).mono ?_; rintro e W1 ⟨r1, zs, rfl, hr1, hr2, hz, HM1⟩; refine ⟨_, rfl, ?_⟩; clear HM; have HM := HM1; clear HM1) | (go_at_call 54; refine (markStrS _ (by omega) (by omega) s4 HM.pk).mono ?_; rintro e W1 ⟨zs, rfl, hz, _, HM1⟩; refine ⟨_, rfl, ?_⟩; clear HM; have HM := HM1; clear HM1) | (go_at_call 55; refine (markIntS _ (by omega) (by omega) s5 HM.pk).mono ?_; rintro e W1 ⟨zs, rfl, hz, HM1⟩; refine ⟨_, rfl, ?_⟩; clear HM; have HM := HM1; clear HM1) | (go_at_call 56; refine (markSlotS _ (by omega) (by omega) s6 HM.pk).mono ?_; rintro e W1 ⟨zs, rfl, hz, HM1⟩; refine ⟨_, rfl, ?_⟩; clear HM; have HM := HM1; clear HM1) | (go_at_call 57; refine (markAckS _ (by omega) (by omega) s7 hn.ackss HM.pk).mono ?_; rintro e W1 ⟨r2, zs, rfl, hr3, hr4, hz, HM1⟩; refine ⟨_, rfl, ?_⟩; clear HM; have HM := HM1; clear HM1))) | (refine s_box HM rfl rfl ?_; intro g W1 HM1; clear HM; have HM := HM1; clear HM1) | refine l_nil ?_) | (refine gC ?_; first | refine c_seq ?_ | refine c_region ?_ | refine c_ret ?_) | (refine gN ?_; refine n_then ?_))
  exact ret_tmp rfl rfl ⟨_, rfl, by omega, HM.sb⟩
end Go.Proofs.YtkfogbonjpdkbaaGreat.Sp
namespace Go.Proofs.YtkfogbonjpdkbaaGreat.Sp
open Go Go.RowKit
set_option linter.unusedVariables false
set_option linter.unusedSimpArgs false
set_option maxRecDepth 10000
set_option maxHeartbeats 8000000
variable {w0 W : World} {L : List Asn}
instance {L : List Asn} {eI : Nat} {index : Int} : MkIn L (tAck eI) [.int .i64 index, .slice none 0 0] ⟨index, []⟩ L :=
  mk_nest (M := [own tInt eI none 0 []]) (fun W ok hs => ⟨fun _ => False, fun _ h => h.elim, own_nil tInt eI, hs.mono (fun k hk => ⟨hk, fun h => h⟩)⟩) (fun W F hs => ⟨(none, 0), rfl, hs⟩)
theorem opn_ack {eI e c : Nat} {A : Option Addr} {xs : List Ack} (h : Mem w0 W (own (tAck eI) e A c xs :: L)) (i : Nat) (hi : i < xs.length) : ∃ j : At, Mem w0 W (hol (tAck eI) e A c xs i [.int .i64 xs[i].index, .slice j.1 xs[i].frm.length j.2] :: own tInt eI j.1 j.2 xs[i].frm :: L) := opn_nest h i hi
theorem cls_ack {eI e c i : Nat} {A : Option Addr} {xs : List Ack} {a : Int} {fs : List Int} {B : Option Addr} {d : Nat} (h : Mem w0 W (hol (tAck eI) e A c xs i [.int .i64 a, .slice B fs.length d] :: own tInt eI B d fs :: L)) : Mem w0 W (own (tAck eI) e A c (xs.set i ⟨a, fs⟩) :: L) := cls_nest (x := (⟨a, fs⟩ : Ack)) (j := (B, d)) h
def ackA : List Ack → Int → Int → List Ack
  | [], n, f => [⟨n, addL [] f⟩]
  | a :: r, n, f => if a.index < n then a :: ackA r n f else if a.index = n then ⟨a.index, addL a.frm f⟩ :: r else ⟨n, addL [] f⟩ :: a :: r
theorem ackA_in : ∀ {l : List Ack} {n f : Int} {k : Nat} (hk : k < l.length), (∀ j (h : j < l.length), j < k → l[j].index < n) → l[k].index = n → ackA l n f = l.set k ⟨l[k].index, addL l[k].frm f⟩
  | a :: r, n, f, 0, _, _, e => by simp at e; simp [ackA, e]
  | a :: r, n, f, k + 1, hk, h, e => by
    have h0 : a.index < n := h 0 (by simp) (by omega)
    rw [ackA, if_pos h0, ackA_in (k := k) (by simpa using hk) (fun j hj hjk => h (j + 1) (by simpa using hj) (by omega)) (by simpa using e)]
    simp
theorem ackA_new : ∀ {l : List Ack} {n f : Int} {k : Nat}, k ≤ l.length → (∀ j (h : j < l.length), j < k → l[j].index < n) → (∀ h : k < l.length, n < l[k].index) → ackA l n f = l.take k ++ [⟨n, addL [] f⟩] ++ l.drop k
  | [], n, f, k, _, _, _ => by simp [ackA]
  | a :: r, n, f, 0, _, _, e => by
    have := e (by simp)
    simp at this
    simp [ackA, show ¬ a.index < n by omega, show a.index ≠ n by omega]
  | a :: r, n, f, k + 1, hk, h, e => by
    have h0 : a.index < n := h 0 (by simp) (by omega)
    rw [ackA, if_pos h0, ackA_new (k := k) (by simpa using hk) (fun j hj hjk => h (j + 1) (by simpa using hj) (by omega)) (fun hk => by have h2 := e (Nat.succ_lt_succ hk); rwa [List.getElem_cons_succ] at h2)]
    simp
theorem ackA_len (l : List Ack) (n f : Int) : (ackA l n f).length ≤ l.length + 1 := by
  induction l with
  | nil => simp [ackA]
  | cons a r ih => rw [ackA]; split <;> (try split) <;> simp <;> omega
theorem ackA_frm (l : List Ack) (n f : Int) (q : Nat) (h : ∀ a ∈ l, a.frm.length ≤ q) : ∀ a ∈ ackA l n f, a.frm.length ≤ q + 1 := by
  induction l with
  | nil => intro a ha; simp [ackA] at ha; subst ha; have := addL_len [] f; simp at this ⊢; omega
  | cons b r ih =>
    intro a ha
    have hb := h b (by simp)
    have hr := fun a ha => h a (List.mem_cons_of_mem b ha)
    rw [ackA] at ha
    split at ha
    · rcases List.mem_cons.1 ha with e | e
      · subst e; omega
      · exact ih hr a e
    · split at ha
      · rcases List.mem_cons.1 ha with e | e
        · subst e; have := addL_len b.frm f; simp only; omega
        · have := hr a e; omega
      · rcases List.mem_cons.1 ha with e | e
        · subst e; have := addL_len [] f; simp at this ⊢; omega
        · have := h a e; omega
theorem ack_ins {l : List Ack} {k : Nat} (a : Ack) (hk : k ≤ l.length) {ys : List Ack} (hy : ys = [] ++ l.take k ++ [a] ++ l.drop k) : ys.length = l.length + 1 ∧ (∀ h : k < ys.length, ys[k] = a) ∧ ∀ a', ys.set k a' = l.take k ++ [a'] ++ l.drop k := by
  have hl : (l.take k).length = k := by simp; omega
  subst hy
  refine ⟨by simp; omega, fun h => ?_, fun a' => ?_⟩
  · simp [List.getElem_append, hl]
  · have h1 : k ≤ (l.take k).length := by omega
    rw [List.nil_append, List.append_assoc, List.append_assoc, List.set_append, if_neg (by omega), hl, Nat.sub_self]
    rfl
def ackL (x : Rcd) (ix f : Int) : Rcd := advL { x with acks := ackA x.acks ix f }
theorem ackS (x : Rcd) (i : AtRcd) (ix f : Int) (h0 : 0 ≤ x.dk) (h1 : x.dk ≤ x.ds.length) (hn : x.ds.length ≤ 1048576) (ha : x.acks.length ≤ 1000) (has : ∀ a ∈ x.acks, a.frm.length ≤ 1000) (HM : Mem w0 W (partRcd 105 52 9 3 104 x i ++ L)) : Calls Tryz.prog 82 #[.agg (encRcd x i).toArray, .int .i64 ix, .int .i64 f] W fun e W' => ∃ j, e = .returned (.agg (encRcd (ackL x ix f) j).toArray) ∧ Mem w0 W' (partRcd 105 52 9 3 104 (ackL x ix f) j ++ L) := by
  refine enter Tryz.func82 rfl Tryz.ntmps82 [(0, .agg (encRcd x i).toArray), (1, _), (2, _)] rfl ⟨rfl, rfl, rfl, trivial⟩ ?_
  unfold encRcd
  simp only [partRcd, List.cons_append, List.nil_append] at HM
  have hcap : x.acks.length ≤ i.a6.2 := by obtain ⟨F1, hF1⟩ := HM.own (A := i.a6.1); exact (own_max hF1).2
  repeat (first | (refine gGP ?_; refine gp (p_assign rfl) ?_) | (refine gL ?_; first | refine s_gp rfl rfl ?_ | (refine s_box HM rfl rfl ?_; intro g W1 HM1; clear HM; have HM := HM1; clear HM1) | (refine s_alloc HM rfl ?_; intro g W1 HM1; clear HM; have HM := HM1; clear HM1) | refine l_nil ?_) | (refine gC ?_; first | refine c_seq ?_ | refine c_region ?_ | refine c_block ?_) | (refine gN ?_; refine n_then ?_))
  rename_i gr _
  refine c_loop (σ := Nat) (fun k => [(1, .int .i64 ix), (2, .int .i64 f), (3, .pointer (some ⟨gr, 0, none⟩)), (6, .pointer (some ⟨g, 0, none⟩)), (7, .int .i64 k)]) (fun k W1 => k ≤ x.acks.length ∧ (∀ j (h : j < x.acks.length), j < k → x.acks[j].index < ix) ∧ Mem w0 W1 (box gr 38 [.int .i64 x.number, .int .i64 x.of, .bool x.up, .int .i64 x.sp, .int .i64 x.sk, .slice i.a0.1 x.ss.length i.a0.2, .int .i64 x.dp, .int .i64 x.dk, .slice i.a1.1 x.ds.length i.a1.2, .slice i.a2.1 x.held.length i.a2.2, .slice i.a3.1 x.wishes.length i.a3.2, .bool x.lead, .bool x.trying, .int .i64 x.ballot, .slice i.a4.1 x.yes.length i.a4.2, .slice i.a5.1 x.best.length i.a5.2, .slice i.a6.1 x.acks.length i.a6.2, .int .i64 x.heard] :: own (tAck 3) 104 i.a6.1 i.a6.2 x.acks :: _)) (fun k => x.acks.length - k) 0 (by repeat (first | exact trivial | refine And.intro (by first | rfl | exact look_int rfl (by omega)) ?_)) ⟨Nat.zero_le _, fun j h hj => by omega, (HM.pk (A := own (tAck 3) 104 i.a6.1 i.a6.2 x.acks)).pk (A := box gr 38 [.int .i64 x.number, .int .i64 x.of, .bool x.up, .int .i64 x.sp, .int .i64 x.sk, .slice i.a0.1 x.ss.length i.a0.2, .int .i64 x.dp, .int .i64 x.dk, .slice i.a1.1 x.ds.length i.a1.2, .slice i.a2.1 x.held.length i.a2.2, .slice i.a3.1 x.wishes.length i.a3.2, .bool x.lead, .bool x.trying, .int .i64 x.ballot, .slice i.a4.1 x.yes.length i.a4.2, .slice i.a5.1 x.best.length i.a5.2, .slice i.a6.1 x.acks.length i.a6.2, .int .i64 x.heard])⟩ ?_
  clear HM
  rintro k W1 ⟨hk, hp, HM⟩
  by_cases hlt : k < x.acks.length
  · have e0 := rd_at (d := tAck 3) hlt
    by_cases c1 : (rd (tAck 3) x.acks k).index < ix
    · repeat (first | (refine gGP ?_; first | refine gp (p_move rfl) ?_ | refine gp (p_assign rfl) ?_ | (refine gGB ?_; first | refine gp (p_lss rfl rfl) ?_ | refine gp (p_add rfl rfl (by exact wr (by omega) (by omega))) ?_) | refine gp (p_field rfl (by simp only [Nat.reduceAdd]; rfl)) ?_ | refine gp (p_fieldo rfl (by simp only [Nat.reduceAdd]; rfl)) ?_ | refine gp (p_indexo HM rfl (by first | with_reducible rfl | omega) rfl (by omega) (by omega)) ?_ | refine gp (p_len rfl) ?_ | refine gp (p_pick1 rfl (by (simp; omega)) rfl) ?_) | (refine gGV ?_; first | refine gv (p_load rfl) ?_ | refine gv (p_loado rfl rfl (by omega) (by omega) rfl) ?_) | (refine gL ?_; first | refine s_gp rfl rfl ?_ | refine s_gv HM rfl ?_ | refine l_nil ?_ | refine s_guard_on rfl rfl rfl rfl (by (simp; omega)) ?_) | (refine gC ?_; first | refine c_seq ?_ | refine c_region ?_ | refine c_block ?_ | refine c_skip ?_ | refine c_yes rfl (by (simp; omega)) ?_) | (refine gN ?_; first | refine n_then ?_ | refine n_block ?_))
      exact n_round (k + 1) (by repeat (first | exact trivial | refine And.intro (by first | rfl | exact look_int rfl (by omega)) ?_)) ⟨by omega, fun j h hj => by
        by_cases e : j = k
        · subst e; rw [← e0]; exact c1
        · exact hp j h (by omega), HM⟩ (by omega)
    by_cases c2 : (rd (tAck 3) x.acks k).index = ix
    · have e := ackA_in (f := f) hlt hp (by rw [← e0]; exact c2)
      repeat (first | (refine gGP ?_; first | refine gp (p_move rfl) ?_ | (refine gGB ?_; first | refine gp (p_lss rfl rfl) ?_ | refine gp (p_eql rfl rfl) ?_ | refine gp (p_neq rfl rfl) ?_) | refine gp (p_field rfl (by simp only [Nat.reduceAdd]; rfl)) ?_ | refine gp (p_fieldo rfl (by simp only [Nat.reduceAdd]; rfl)) ?_ | refine gp (p_indexo HM rfl (by first | with_reducible rfl | omega) rfl (by omega) (by omega)) ?_ | refine gp (p_len rfl) ?_ | refine gp (p_pick1 rfl (by (simp; omega)) rfl) ?_ | refine gp (p_pick0 rfl (by (simp; omega)) rfl) ?_) | (refine gGV ?_; first | refine gv (p_load rfl) ?_ | refine gv (p_loado rfl rfl (by omega) (by omega) rfl) ?_) | (refine gL ?_; first | refine s_gp rfl rfl ?_ | refine s_gv HM rfl ?_ | refine l_nil ?_ | refine s_guard_on rfl rfl rfl rfl (by (simp; omega)) ?_) | (refine gC ?_; first | refine c_seq ?_ | refine c_region ?_ | refine c_skip ?_ | refine c_exit ?_ | refine c_no rfl (by first | rfl | (simp; omega)) ?_) | (refine gN ?_; first | refine n_then ?_ | refine x_then ?_ | refine x_here ?_))
      have hfl := has _ (List.getElem_mem hlt)
      obtain ⟨j, HM⟩ := opn_ack (HM.pk (A := own (tAck 3) 104 i.a6.1 i.a6.2 x.acks)) k hlt
      replace HM := HM.perm (List.Perm.swap ..)
      repeat (first | (refine gR ?_; refine d_startd [13] [(0, 0), (0, 2), (0, 3), (0, 5), (0, 9), (1, 1), (1, 4), (0, 6), (0, 7), (1, 8), (2, 10), (0, 11), (0, 12), (3, 13)] HM (by kernel_rfl) (by kernel_rfl) (by repeat (first | exact qp_body | refine qp_then ?_ | refine qp_block ?_)) (by kernel_rfl) rfl ?_; intro HQ HS W1 HM1; clear HM; have HM := HM1; clear HM1) | (refine gGP ?_; first | refine gp (p_move rfl) ?_ | refine gp (p_field rfl (by simp only [Nat.reduceAdd]; rfl)) ?_ | refine gp (p_fieldo rfl (by simp only [Nat.reduceAdd]; rfl)) ?_ | refine gp (p_indexh HM rfl (by first | with_reducible rfl | omega) rfl (by omega) (by omega)) ?_) | (refine gGV ?_; first | refine gv (p_load rfl) ?_ | refine gv (p_loads rfl) ?_ | refine gv (p_loadh rfl rfl rfl) ?_) | (refine gL ?_; first | refine s_gv HM rfl ?_ | (refine gStore ?_; (refine s_storeh HM rfl rfl rfl rfl rfl rfl ?_; intro W1 HM1; clear HM; have HM := HM1; clear HM1; (try dsimp only at HM))) | (refine gCall ?_; (refine s_fn rfl rfl ?_; (go_at_call 79; refine (addS f (by omega) (by exact HM.pk)).mono ?_; rintro e2 W2 ⟨A2, c2, rfl, HM1⟩; refine ⟨_, rfl, ?_⟩; clear HM; have HM := HM1; clear HM1))) | refine l_nil ?_) | (refine gC ?_; first | refine c_seq ?_ | refine c_region ?_) | (refine gN ?_; first | refine n_then ?_ | refine d_back (by exact HM.drop) ?_ | refine d_backT ?_) | (refine gD ?_; refine d_next rfl ?_) | (refine gO ?_; first | refine d_gp HQ HS rfl ?_ | refine d_gv HQ HS rfl ?_ | refine d_one ?_ | refine d_last ?_) | (refine gT ?_; refine d_doneT ?_))
      have HM1 := cls_ack ((HM.pk (A := own tInt 3 A2 c2 (addL x.acks[k].frm f))).pk (A := hol (tAck 3) 104 i.a6.1 i.a6.2 x.acks k [.int .i64 x.acks[k].index, .slice A2 (addL x.acks[k].frm f).length c2]))
      clear HM; have HM := HM1; clear HM1
      rw [← e] at HM
      have el : x.acks.length = (ackA x.acks ix f).length := by rw [e, List.length_set]
      simp only [el] at HM ⊢
      have hl1 := ackA_len x.acks ix f
      have hl2 := ackA_frm x.acks ix f 1000 has
      rw [show ackL x ix f = advL { x with acks := ackA x.acks ix f } from rfl]
      obtain ⟨bs, hA⟩ : ∃ bs, bs = ackA x.acks ix f := ⟨_, rfl⟩
      rw [← hA] at HM hl1 hl2 ⊢
      clear e el hA
      repeat (first | (refine gL ?_; first | (refine gStore ?_; (refine s_store HM rfl rfl rfl rfl ?_; intro W1 HM1; clear HM; have HM := HM1; clear HM1)) | (refine gCall ?_; (refine s_fn rfl rfl ?_; (go_at_call 114; refine (advS { x with acks := bs } i h0 h1 hn (by simp only; omega) (fun a ha => Nat.le_trans (hl2 a ha) (by omega)) (by exact pk_rec HM)).mono ?_; rintro e2 W2 ⟨j2, rfl, HM1⟩; refine ⟨_, rfl, ?_⟩; clear HM; have HM := HM1; clear HM1; simp only [partRcd, List.cons_append, List.nil_append] at HM; simp only [encRcd]))) | refine l_nil ?_) | (refine gC ?_; refine c_ret ?_) | (refine gN ?_; refine n_then ?_))
      exact ret_cell HM rfl rfl rfl ⟨j2, rfl, by simp only [partRcd, List.cons_append, List.nil_append]; exact HM.sb⟩
    have e := ackA_new (f := f) hk hp (fun h => by rw [← e0]; omega)
    repeat (first | (refine gGP ?_; first | refine gp (p_move rfl) ?_ | (refine gGB ?_; first | refine gp (p_lss rfl rfl) ?_ | refine gp (p_eql rfl rfl) ?_ | refine gp (p_neq rfl rfl) ?_) | refine gp (p_field rfl (by simp only [Nat.reduceAdd]; rfl)) ?_ | refine gp (p_fieldo rfl (by simp only [Nat.reduceAdd]; rfl)) ?_ | refine gp (p_indexo HM rfl (by first | with_reducible rfl | omega) rfl (by omega) (by omega)) ?_ | refine gp (p_len rfl) ?_ | refine gp (p_pick1 rfl (by (simp; omega)) rfl) ?_ | refine gp (p_pick0 rfl (by (simp; omega)) rfl) ?_) | (refine gGV ?_; first | refine gv (p_load rfl) ?_ | refine gv (p_loado rfl rfl (by omega) (by omega) rfl) ?_) | (refine gL ?_; first | refine s_gp rfl rfl ?_ | refine s_gv HM rfl ?_ | refine l_nil ?_ | refine s_guard_on rfl rfl rfl rfl (by (simp; omega)) ?_) | (refine gC ?_; first | refine c_seq ?_ | refine c_region ?_ | refine c_exit ?_ | refine c_yes rfl (by first | rfl | (simp; omega)) ?_ | refine c_no rfl (by first | rfl | (simp; omega)) ?_) | (refine gN ?_; first | refine n_then ?_ | refine x_then ?_ | refine x_here ?_))
    obtain ⟨css, hcl, HM⟩ := opn_at k (HM.pk (A := own (tAck 3) 104 i.a6.1 i.a6.2 x.acks))
    have hr1 : (css.take k).length = (x.acks.take k).length := by simp only [List.length_take, hcl]
    have hr2 : (css.drop k).length = (x.acks.drop k).length := by simp only [List.length_drop, hcl]
    have htk : (x.acks.take k).length = k := by simp only [List.length_take]; omega
    refine gR ?_
    refine x_start (ds := [16]) HM (fun w hw => hw.drop.drop) (by kernel_rfl) (by kernel_rfl) (by repeat (first | exact qp_body | refine qp_then ?_ | refine qp_block ?_)) ?_
    intro HQ HS W1 HM1; clear HM; have HM := HM1; clear HM1
    refine x_pv HQ HS 1 rfl (by kernel_rfl) (by kernel_rfl) (l' := #[false, true, false, false, false, false, false, false, false, false, false, false, false, false, false, false, false]) (by kernel_rfl) rfl ?_
    refine gGP ?_; refine gp (p_field rfl (by simp only [Nat.reduceAdd]; rfl)) ?_
    refine x_pv HQ HS 3 rfl (by kernel_rfl) (by kernel_rfl) (l' := #[false, true, false, true, false, false, false, false, false, false, false, false, false, false, false, false, false]) (by kernel_rfl) rfl ?_
    refine gGP ?_; refine gp (p_move rfl) ?_
    refine x_pv HQ HS 6 rfl (by kernel_rfl) (by kernel_rfl) (l' := #[false, true, false, true, false, false, true, false, false, false, false, false, false, false, false, false, false]) (by kernel_rfl) rfl ?_
    refine gGP ?_; refine gp (p_move rfl) ?_
    refine x_pv HQ HS 10 rfl (by kernel_rfl) (by kernel_rfl) (l' := #[false, true, false, true, false, false, true, false, false, false, true, false, false, false, false, false, false]) (by kernel_rfl) rfl ?_
    refine gGP ?_; refine gp (p_field rfl (by simp only [Nat.reduceAdd]; rfl)) ?_
    refine x_pv HQ HS 12 rfl (by kernel_rfl) (by kernel_rfl) (l' := #[false, true, false, true, false, false, true, false, false, false, true, false, true, false, false, false, false]) (by kernel_rfl) rfl ?_
    refine gGP ?_; refine gp (p_move rfl) ?_
    refine x_ld HQ HS 2 rfl (by kernel_rfl) (by kernel_rfl) (by kernel_rfl) (by kernel_rfl) (l' := #[false, true, true, true, false, false, true, false, false, false, true, false, true, false, false, false, false]) (by kernel_rfl) rfl ?_
    refine gGV ?_; refine gv (p_load rfl) ?_
    refine x_pv HQ HS 4 rfl (by kernel_rfl) (by kernel_rfl) (l' := #[false, true, true, true, true, false, true, false, false, false, true, false, true, false, false, false, false]) (by kernel_rfl) rfl ?_
    refine gGP ?_; refine gp (p_sliceto rfl rfl (by omega) (by omega)) ?_
    refine x_ld HQ HS 11 rfl (by kernel_rfl) (by kernel_rfl) (by kernel_rfl) (by kernel_rfl) (l' := #[false, true, true, true, true, false, true, false, false, false, true, true, true, false, false, false, false]) (by kernel_rfl) rfl ?_
    refine gGV ?_; refine gv (p_load rfl) ?_
    refine x_pv HQ HS 13 rfl (by kernel_rfl) (by kernel_rfl) (l' := #[false, true, true, true, true, false, true, false, false, false, true, true, true, true, false, false, false]) (by kernel_rfl) rfl ?_
    refine gGP ?_; refine gp (p_slicefrom rfl rfl (by omega) (by omega)) ?_
    refine x_two 0 7 (by kernel_rfl) rfl rfl (l' := #[true, true, true, true, true, false, true, false, false, false, true, true, true, true, false, false, false]) (l'' := #[false, true, true, true, true, false, true, true, false, false, true, true, true, true, false, false, false]) (by kernel_rfl) (by kernel_rfl) (x_go ?_) (x_go ?_)
    · repeat (first | (refine gL ?_; first | (refine s_lit0a HM rfl rfl ?_; intro A1 W1 HM1; clear HM; have HM := HM1; clear HM1) | refine l_nil ?_) | (refine gN ?_; refine x_back (by (show Mem _ _ _; exact HM.sb)) ?_))
      refine x_two 5 7 (by kernel_rfl) rfl rfl (l' := #[true, true, true, true, true, true, true, false, false, false, true, true, true, true, false, false, false]) (l'' := #[true, true, true, true, true, false, true, true, false, false, true, true, true, true, false, false, false]) (by kernel_rfl) (by kernel_rfl) (x_go ?_) (x_go ?_)
      · repeat (first | (refine gL ?_; refine gCall ?_; obtain ⟨F1, hF1⟩ := HM.own (A := i.a6.1); (first | (have hd := rdc_take hF1 k; rw [hr1] at hd; refine s_appn (ys := x.acks.take k) (css := css.take k) HM rfl rfl rfl rfl hd (by simp only [List.length_take]; omega) (by simp only [List.length_take, List.length_drop, List.length_append, List.length_cons, List.length_nil]; omega) rfl ?_) | (have hd := rdc_drop (k := k) hF1 (by omega) (by omega); rw [hr2] at hd; refine s_appn (ys := x.acks.drop k) (css := css.drop k) HM rfl rfl (by first | with_reducible rfl | (simp only [List.length_append, List.length_take, List.length_cons, List.length_nil]; omega)) rfl hd (by simp only [List.length_drop]; omega) (by simp only [List.length_take, List.length_drop, List.length_append, List.length_cons, List.length_nil]; omega) rfl ?_)); clear hF1; intro A1 c1 W1 HM1; clear HM; have HM := HM1; clear HM1) | (refine gL ?_; refine l_nil ?_) | (refine gN ?_; refine x_back (by exact HM.drop.drop) ?_))
        refine x_one 7 (by kernel_rfl) rfl (l' := #[true, true, true, true, true, true, true, true, false, false, true, true, true, true, false, false, false]) (by kernel_rfl) (x_go ?_)
        repeat (first | (refine gGP ?_; refine gp (p_build rfl) ?_) | (refine gL ?_; first | refine s_gp rfl rfl ?_ | refine l_nil ?_) | (refine gN ?_; refine x_back (by exact HM.drop.drop) ?_))
        refine x_one 8 (by kernel_rfl) rfl (l' := #[true, true, true, true, true, true, true, true, true, false, true, true, true, true, false, false, false]) (by kernel_rfl) (x_go ?_)
        repeat (first | (refine gL ?_; first | (refine s_lit1 HM rfl rfl rfl ?_; intro g W1 HM1; clear HM; have HM := HM1; clear HM1) | refine l_nil ?_) | (refine gN ?_; refine x_back (by (show Mem _ _ _; exact HM.sb)) ?_))
        refine x_one 9 (by kernel_rfl) rfl (l' := #[true, true, true, true, true, true, true, true, true, true, true, true, true, true, false, false, false]) (by kernel_rfl) (x_go ?_)
        repeat (first | (refine gL ?_; first | (refine gCall ?_; (refine s_append1 HM rfl rfl (by first | with_reducible rfl | (simp only [List.length_set, List.length_append, List.length_cons, List.length_nil]; omega)) rfl rfl (by (simp only [List.length_set, List.length_append, List.length_cons, List.length_nil]; omega)) rfl ?_; intro A1 c1 W1 HM1; clear HM; have HM := HM1; clear HM1)) | refine l_nil ?_) | (refine gN ?_; refine x_back (by exact HM.drop.drop) ?_))
        refine x_one 14 (by kernel_rfl) rfl (l' := #[true, true, true, true, true, true, true, true, true, true, true, true, true, true, true, false, false]) (by kernel_rfl) (x_go ?_)
        repeat (first | (refine gL ?_; refine gCall ?_; obtain ⟨F1, hF1⟩ := HM.own (A := i.a6.1); (first | (have hd := rdc_take hF1 k; rw [hr1] at hd; refine s_appn (ys := x.acks.take k) (css := css.take k) HM rfl rfl rfl rfl hd (by simp only [List.length_take]; omega) (by simp only [List.length_take, List.length_drop, List.length_append, List.length_cons, List.length_nil]; omega) rfl ?_) | (have hd := rdc_drop (k := k) hF1 (by omega) (by omega); rw [hr2] at hd; refine s_appn (ys := x.acks.drop k) (css := css.drop k) HM rfl rfl (by first | with_reducible rfl | (simp only [List.length_append, List.length_take, List.length_cons, List.length_nil]; omega)) rfl hd (by simp only [List.length_drop]; omega) (by simp only [List.length_take, List.length_drop, List.length_append, List.length_cons, List.length_nil]; omega) rfl ?_)); clear hF1; intro A1 c1 W1 HM1; clear HM; have HM := HM1; clear HM1) | (refine gL ?_; refine l_nil ?_) | (refine gN ?_; refine x_back (by exact HM.drop) ?_))
        refine x_pv HQ HS 15 rfl (by kernel_rfl) (by kernel_rfl) (l' := #[true, true, true, true, true, true, true, true, true, true, true, true, true, true, true, true, false]) (by kernel_rfl) rfl ?_
        refine gGP ?_; refine gp (p_field rfl (by simp only [Nat.reduceAdd]; rfl)) ?_
        refine x_last 16 (by kernel_rfl) rfl (l' := #[true, true, true, true, true, true, true, true, true, true, true, true, true, true, true, true, true]) (by kernel_rfl) (by kernel_rfl) rfl ?_
        repeat (first | (refine gL ?_; first | (refine gStore ?_; (refine s_store HM rfl rfl rfl rfl ?_; intro W1 HM1; clear HM; have HM := HM1; clear HM1)) | refine l_nil ?_) | (refine gC ?_; refine c_seq ?_) | (refine gN ?_; refine n_then ?_))
        skip -- x_backl
        obtain ⟨ys, hy⟩ : ∃ ys : List Ack, ys = [] ++ x.acks.take k ++ [⟨ix, []⟩] ++ x.acks.drop k := ⟨_, rfl⟩
        rw [← hy] at HM
        obtain ⟨hyl, hya, hys⟩ := ack_ins ⟨ix, []⟩ hk hy
        have hlk : k < ys.length := by omega
        have hyk := hya hlk
        have hfl : ys[k].frm.length ≤ 1000 := by rw [hyk]; simp
        replace e : ackA x.acks ix f = ys.set k ⟨ys[k].index, addL ys[k].frm f⟩ := by rw [hys, hyk]; exact e
        clear hy hya hys hyk
        obtain ⟨j, HM⟩ := opn_ack (HM.pk (A := own (tAck 3) 104 A1 c1 ys)) k hlk
        replace HM := HM.perm (List.Perm.swap ..)
        repeat (first | (refine gR ?_; refine d_startd [13] [(0, 0), (0, 2), (0, 3), (0, 5), (0, 9), (1, 1), (1, 4), (0, 6), (0, 7), (1, 8), (2, 10), (0, 11), (0, 12), (3, 13)] HM (by kernel_rfl) (by kernel_rfl) (by repeat (first | exact qp_body | refine qp_then ?_ | refine qp_block ?_)) (by kernel_rfl) rfl ?_; intro HQ HS W1 HM1; clear HM; have HM := HM1; clear HM1) | (refine gGP ?_; first | refine gp (p_move rfl) ?_ | refine gp (p_field rfl (by simp only [Nat.reduceAdd]; rfl)) ?_ | refine gp (p_fieldo rfl (by simp only [Nat.reduceAdd]; rfl)) ?_ | refine gp (p_indexh HM rfl (by first | with_reducible rfl | omega) rfl (by omega) (by omega)) ?_) | (refine gGV ?_; first | refine gv (p_load rfl) ?_ | refine gv (p_loads rfl) ?_ | refine gv (p_loadh rfl rfl rfl) ?_) | (refine gL ?_; first | refine s_gv HM rfl ?_ | (refine gStore ?_; (refine s_storeh HM rfl rfl rfl rfl rfl rfl ?_; intro W1 HM1; clear HM; have HM := HM1; clear HM1; (try dsimp only at HM))) | (refine gCall ?_; (refine s_fn rfl rfl ?_; (go_at_call 79; refine (addS f (by omega) (by exact HM.pk)).mono ?_; rintro e2 W2 ⟨A2, c2, rfl, HM1⟩; refine ⟨_, rfl, ?_⟩; clear HM; have HM := HM1; clear HM1))) | refine l_nil ?_) | (refine gC ?_; first | refine c_seq ?_ | refine c_region ?_) | (refine gN ?_; first | refine n_then ?_ | refine d_back (by exact HM.drop) ?_ | refine d_backT ?_) | (refine gD ?_; refine d_next rfl ?_) | (refine gO ?_; first | refine d_gp HQ HS rfl ?_ | refine d_gv HQ HS rfl ?_ | refine d_one ?_ | refine d_last ?_) | (refine gT ?_; refine d_doneT ?_))
        have HM1 := cls_ack ((HM.pk (A := own tInt 3 A2 c2 (addL ys[k].frm f))).pk (A := hol (tAck 3) 104 A1 c1 ys k [.int .i64 ys[k].index, .slice A2 (addL ys[k].frm f).length c2]))
        clear HM; have HM := HM1; clear HM1
        rw [← e] at HM
        have el : ys.length = (ackA x.acks ix f).length := by rw [e, List.length_set]
        simp only [el] at HM ⊢
        have hl1 := ackA_len x.acks ix f
        have hl2 := ackA_frm x.acks ix f 1000 has
        rw [show ackL x ix f = advL { x with acks := ackA x.acks ix f } from rfl]
        obtain ⟨bs, hA⟩ : ∃ bs, bs = ackA x.acks ix f := ⟨_, rfl⟩
        rw [← hA] at HM hl1 hl2 ⊢
        clear e el hA
        repeat (first | (refine gL ?_; first | (refine gStore ?_; (refine s_store HM rfl rfl rfl rfl ?_; intro W1 HM1; clear HM; have HM := HM1; clear HM1)) | (refine gCall ?_; (refine s_fn rfl rfl ?_; (go_at_call 114; refine (advS { x with acks := bs } ⟨i.a0, i.a1, i.a2, i.a3, i.a4, i.a5, (A1, c1)⟩ h0 h1 hn (by simp only; omega) (fun a ha => Nat.le_trans (hl2 a ha) (by omega)) (by exact pk_rec HM)).mono ?_; rintro e2 W2 ⟨j2, rfl, HM1⟩; refine ⟨_, rfl, ?_⟩; clear HM; have HM := HM1; clear HM1; simp only [partRcd, List.cons_append, List.nil_append] at HM; simp only [encRcd]))) | refine l_nil ?_) | (refine gC ?_; refine c_ret ?_) | (refine gN ?_; refine n_then ?_))
        exact ret_cell HM rfl rfl rfl ⟨j2, rfl, by simp only [partRcd, List.cons_append, List.nil_append]; exact HM.sb⟩
      · repeat (first | (refine gGP ?_; refine gp (p_build rfl) ?_) | (refine gL ?_; first | refine s_gp rfl rfl ?_ | refine l_nil ?_) | (refine gN ?_; refine x_back (by (show Mem _ _ _; exact HM.sb)) ?_))
        refine x_two 5 8 (by kernel_rfl) rfl rfl (l' := #[true, true, true, true, true, true, true, true, false, false, true, true, true, true, false, false, false]) (l'' := #[true, true, true, true, true, false, true, true, true, false, true, true, true, true, false, false, false]) (by kernel_rfl) (by kernel_rfl) (x_go ?_) (x_go ?_)
        · repeat (first | (refine gL ?_; refine gCall ?_; obtain ⟨F1, hF1⟩ := HM.own (A := i.a6.1); (first | (have hd := rdc_take hF1 k; rw [hr1] at hd; refine s_appn (ys := x.acks.take k) (css := css.take k) HM rfl rfl rfl rfl hd (by simp only [List.length_take]; omega) (by simp only [List.length_take, List.length_drop, List.length_append, List.length_cons, List.length_nil]; omega) rfl ?_) | (have hd := rdc_drop (k := k) hF1 (by omega) (by omega); rw [hr2] at hd; refine s_appn (ys := x.acks.drop k) (css := css.drop k) HM rfl rfl (by first | with_reducible rfl | (simp only [List.length_append, List.length_take, List.length_cons, List.length_nil]; omega)) rfl hd (by simp only [List.length_drop]; omega) (by simp only [List.length_take, List.length_drop, List.length_append, List.length_cons, List.length_nil]; omega) rfl ?_)); clear hF1; intro A1 c1 W1 HM1; clear HM; have HM := HM1; clear HM1) | (refine gL ?_; refine l_nil ?_) | (refine gN ?_; refine x_back (by exact HM.drop.drop) ?_))
          refine x_one 8 (by kernel_rfl) rfl (l' := #[true, true, true, true, true, true, true, true, true, false, true, true, true, true, false, false, false]) (by kernel_rfl) (x_go ?_)
          repeat (first | (refine gL ?_; first | (refine s_lit1 HM rfl rfl rfl ?_; intro g W1 HM1; clear HM; have HM := HM1; clear HM1) | refine l_nil ?_) | (refine gN ?_; refine x_back (by (show Mem _ _ _; exact HM.sb)) ?_))
          refine x_one 9 (by kernel_rfl) rfl (l' := #[true, true, true, true, true, true, true, true, true, true, true, true, true, true, false, false, false]) (by kernel_rfl) (x_go ?_)
          repeat (first | (refine gL ?_; first | (refine gCall ?_; (refine s_append1 HM rfl rfl (by first | with_reducible rfl | (simp only [List.length_set, List.length_append, List.length_cons, List.length_nil]; omega)) rfl rfl (by (simp only [List.length_set, List.length_append, List.length_cons, List.length_nil]; omega)) rfl ?_; intro A1 c1 W1 HM1; clear HM; have HM := HM1; clear HM1)) | refine l_nil ?_) | (refine gN ?_; refine x_back (by exact HM.drop.drop) ?_))
          refine x_one 14 (by kernel_rfl) rfl (l' := #[true, true, true, true, true, true, true, true, true, true, true, true, true, true, true, false, false]) (by kernel_rfl) (x_go ?_)
          repeat (first | (refine gL ?_; refine gCall ?_; obtain ⟨F1, hF1⟩ := HM.own (A := i.a6.1); (first | (have hd := rdc_take hF1 k; rw [hr1] at hd; refine s_appn (ys := x.acks.take k) (css := css.take k) HM rfl rfl rfl rfl hd (by simp only [List.length_take]; omega) (by simp only [List.length_take, List.length_drop, List.length_append, List.length_cons, List.length_nil]; omega) rfl ?_) | (have hd := rdc_drop (k := k) hF1 (by omega) (by omega); rw [hr2] at hd; refine s_appn (ys := x.acks.drop k) (css := css.drop k) HM rfl rfl (by first | with_reducible rfl | (simp only [List.length_append, List.length_take, List.length_cons, List.length_nil]; omega)) rfl hd (by simp only [List.length_drop]; omega) (by simp only [List.length_take, List.length_drop, List.length_append, List.length_cons, List.length_nil]; omega) rfl ?_)); clear hF1; intro A1 c1 W1 HM1; clear HM; have HM := HM1; clear HM1) | (refine gL ?_; refine l_nil ?_) | (refine gN ?_; refine x_back (by exact HM.drop) ?_))
          refine x_pv HQ HS 15 rfl (by kernel_rfl) (by kernel_rfl) (l' := #[true, true, true, true, true, true, true, true, true, true, true, true, true, true, true, true, false]) (by kernel_rfl) rfl ?_
          refine gGP ?_; refine gp (p_field rfl (by simp only [Nat.reduceAdd]; rfl)) ?_
          refine x_last 16 (by kernel_rfl) rfl (l' := #[true, true, true, true, true, true, true, true, true, true, true, true, true, true, true, true, true]) (by kernel_rfl) (by kernel_rfl) rfl ?_
          repeat (first | (refine gL ?_; first | (refine gStore ?_; (refine s_store HM rfl rfl rfl rfl ?_; intro W1 HM1; clear HM; have HM := HM1; clear HM1)) | refine l_nil ?_) | (refine gC ?_; refine c_seq ?_) | (refine gN ?_; refine n_then ?_))
          skip -- x_backl
          obtain ⟨ys, hy⟩ : ∃ ys : List Ack, ys = [] ++ x.acks.take k ++ [⟨ix, []⟩] ++ x.acks.drop k := ⟨_, rfl⟩
          rw [← hy] at HM
          obtain ⟨hyl, hya, hys⟩ := ack_ins ⟨ix, []⟩ hk hy
          have hlk : k < ys.length := by omega
          have hyk := hya hlk
          have hfl : ys[k].frm.length ≤ 1000 := by rw [hyk]; simp
          replace e : ackA x.acks ix f = ys.set k ⟨ys[k].index, addL ys[k].frm f⟩ := by rw [hys, hyk]; exact e
          clear hy hya hys hyk
          obtain ⟨j, HM⟩ := opn_ack (HM.pk (A := own (tAck 3) 104 A1 c1 ys)) k hlk
          replace HM := HM.perm (List.Perm.swap ..)
          repeat (first | (refine gR ?_; refine d_startd [13] [(0, 0), (0, 2), (0, 3), (0, 5), (0, 9), (1, 1), (1, 4), (0, 6), (0, 7), (1, 8), (2, 10), (0, 11), (0, 12), (3, 13)] HM (by kernel_rfl) (by kernel_rfl) (by repeat (first | exact qp_body | refine qp_then ?_ | refine qp_block ?_)) (by kernel_rfl) rfl ?_; intro HQ HS W1 HM1; clear HM; have HM := HM1; clear HM1) | (refine gGP ?_; first | refine gp (p_move rfl) ?_ | refine gp (p_field rfl (by simp only [Nat.reduceAdd]; rfl)) ?_ | refine gp (p_fieldo rfl (by simp only [Nat.reduceAdd]; rfl)) ?_ | refine gp (p_indexh HM rfl (by first | with_reducible rfl | omega) rfl (by omega) (by omega)) ?_) | (refine gGV ?_; first | refine gv (p_load rfl) ?_ | refine gv (p_loads rfl) ?_ | refine gv (p_loadh rfl rfl rfl) ?_) | (refine gL ?_; first | refine s_gv HM rfl ?_ | (refine gStore ?_; (refine s_storeh HM rfl rfl rfl rfl rfl rfl ?_; intro W1 HM1; clear HM; have HM := HM1; clear HM1; (try dsimp only at HM))) | (refine gCall ?_; (refine s_fn rfl rfl ?_; (go_at_call 79; refine (addS f (by omega) (by exact HM.pk)).mono ?_; rintro e2 W2 ⟨A2, c2, rfl, HM1⟩; refine ⟨_, rfl, ?_⟩; clear HM; have HM := HM1; clear HM1))) | refine l_nil ?_) | (refine gC ?_; first | refine c_seq ?_ | refine c_region ?_) | (refine gN ?_; first | refine n_then ?_ | refine d_back (by exact HM.drop) ?_ | refine d_backT ?_) | (refine gD ?_; refine d_next rfl ?_) | (refine gO ?_; first | refine d_gp HQ HS rfl ?_ | refine d_gv HQ HS rfl ?_ | refine d_one ?_ | refine d_last ?_) | (refine gT ?_; refine d_doneT ?_))
          have HM1 := cls_ack ((HM.pk (A := own tInt 3 A2 c2 (addL ys[k].frm f))).pk (A := hol (tAck 3) 104 A1 c1 ys k [.int .i64 ys[k].index, .slice A2 (addL ys[k].frm f).length c2]))
          clear HM; have HM := HM1; clear HM1
          rw [← e] at HM
          have el : ys.length = (ackA x.acks ix f).length := by rw [e, List.length_set]
          simp only [el] at HM ⊢
          have hl1 := ackA_len x.acks ix f
          have hl2 := ackA_frm x.acks ix f 1000 has
          rw [show ackL x ix f = advL { x with acks := ackA x.acks ix f } from rfl]
          obtain ⟨bs, hA⟩ : ∃ bs, bs = ackA x.acks ix f := ⟨_, rfl⟩
          rw [← hA] at HM hl1 hl2 ⊢
          clear e el hA
          repeat (first | (refine gL ?_; first | (refine gStore ?_; (refine s_store HM rfl rfl rfl rfl ?_; intro W1 HM1; clear HM; have HM := HM1; clear HM1)) | (refine gCall ?_; (refine s_fn rfl rfl ?_; (go_at_call 114; refine (advS { x with acks := bs } ⟨i.a0, i.a1, i.a2, i.a3, i.a4, i.a5, (A1, c1)⟩ h0 h1 hn (by simp only; omega) (fun a ha => Nat.le_trans (hl2 a ha) (by omega)) (by exact pk_rec HM)).mono ?_; rintro e2 W2 ⟨j2, rfl, HM1⟩; refine ⟨_, rfl, ?_⟩; clear HM; have HM := HM1; clear HM1; simp only [partRcd, List.cons_append, List.nil_append] at HM; simp only [encRcd]))) | refine l_nil ?_) | (refine gC ?_; refine c_ret ?_) | (refine gN ?_; refine n_then ?_))
          exact ret_cell HM rfl rfl rfl ⟨j2, rfl, by simp only [partRcd, List.cons_append, List.nil_append]; exact HM.sb⟩
        · repeat (first | (refine gL ?_; first | (refine s_lit1 HM rfl rfl rfl ?_; intro g W1 HM1; clear HM; have HM := HM1; clear HM1) | refine l_nil ?_) | (refine gN ?_; refine x_back (by (show Mem _ _ _; exact HM.sb)) ?_))
          refine x_one 5 (by kernel_rfl) rfl (l' := #[true, true, true, true, true, true, true, true, true, false, true, true, true, true, false, false, false]) (by kernel_rfl) (x_go ?_)
          repeat (first | (refine gL ?_; refine gCall ?_; obtain ⟨F1, hF1⟩ := HM.own (A := i.a6.1); (first | (have hd := rdc_take hF1 k; rw [hr1] at hd; refine s_appn (ys := x.acks.take k) (css := css.take k) HM rfl rfl rfl rfl hd (by simp only [List.length_take]; omega) (by simp only [List.length_take, List.length_drop, List.length_append, List.length_cons, List.length_nil]; omega) rfl ?_) | (have hd := rdc_drop (k := k) hF1 (by omega) (by omega); rw [hr2] at hd; refine s_appn (ys := x.acks.drop k) (css := css.drop k) HM rfl rfl (by first | with_reducible rfl | (simp only [List.length_append, List.length_take, List.length_cons, List.length_nil]; omega)) rfl hd (by simp only [List.length_drop]; omega) (by simp only [List.length_take, List.length_drop, List.length_append, List.length_cons, List.length_nil]; omega) rfl ?_)); clear hF1; intro A1 c1 W1 HM1; clear HM; have HM := HM1; clear HM1) | (refine gL ?_; refine l_nil ?_) | (refine gN ?_; refine x_back (by (show Mem _ _ _; exact HM.sb)) ?_))
          refine x_one 9 (by kernel_rfl) rfl (l' := #[true, true, true, true, true, true, true, true, true, true, true, true, true, true, false, false, false]) (by kernel_rfl) (x_go ?_)
          repeat (first | (refine gL ?_; first | (refine gCall ?_; (refine s_append1 HM rfl rfl (by first | with_reducible rfl | (simp only [List.length_set, List.length_append, List.length_cons, List.length_nil]; omega)) rfl rfl (by (simp only [List.length_set, List.length_append, List.length_cons, List.length_nil]; omega)) rfl ?_; intro A1 c1 W1 HM1; clear HM; have HM := HM1; clear HM1)) | refine l_nil ?_) | (refine gN ?_; refine x_back (by exact HM.drop.drop) ?_))
          refine x_one 14 (by kernel_rfl) rfl (l' := #[true, true, true, true, true, true, true, true, true, true, true, true, true, true, true, false, false]) (by kernel_rfl) (x_go ?_)
          repeat (first | (refine gL ?_; refine gCall ?_; obtain ⟨F1, hF1⟩ := HM.own (A := i.a6.1); (first | (have hd := rdc_take hF1 k; rw [hr1] at hd; refine s_appn (ys := x.acks.take k) (css := css.take k) HM rfl rfl rfl rfl hd (by simp only [List.length_take]; omega) (by simp only [List.length_take, List.length_drop, List.length_append, List.length_cons, List.length_nil]; omega) rfl ?_) | (have hd := rdc_drop (k := k) hF1 (by omega) (by omega); rw [hr2] at hd; refine s_appn (ys := x.acks.drop k) (css := css.drop k) HM rfl rfl (by first | with_reducible rfl | (simp only [List.length_append, List.length_take, List.length_cons, List.length_nil]; omega)) rfl hd (by simp only [List.length_drop]; omega) (by simp only [List.length_take, List.length_drop, List.length_append, List.length_cons, List.length_nil]; omega) rfl ?_)); clear hF1; intro A1 c1 W1 HM1; clear HM; have HM := HM1; clear HM1) | (refine gL ?_; refine l_nil ?_) | (refine gN ?_; refine x_back (by exact HM.drop) ?_))
          refine x_pv HQ HS 15 rfl (by kernel_rfl) (by kernel_rfl) (l' := #[true, true, true, true, true, true, true, true, true, true, true, true, true, true, true, true, false]) (by kernel_rfl) rfl ?_
          refine gGP ?_; refine gp (p_field rfl (by simp only [Nat.reduceAdd]; rfl)) ?_
          refine x_last 16 (by kernel_rfl) rfl (l' := #[true, true, true, true, true, true, true, true, true, true, true, true, true, true, true, true, true]) (by kernel_rfl) (by kernel_rfl) rfl ?_
          repeat (first | (refine gL ?_; first | (refine gStore ?_; (refine s_store HM rfl rfl rfl rfl ?_; intro W1 HM1; clear HM; have HM := HM1; clear HM1)) | refine l_nil ?_) | (refine gC ?_; refine c_seq ?_) | (refine gN ?_; refine n_then ?_))
          skip -- x_backl
          obtain ⟨ys, hy⟩ : ∃ ys : List Ack, ys = [] ++ x.acks.take k ++ [⟨ix, []⟩] ++ x.acks.drop k := ⟨_, rfl⟩
          rw [← hy] at HM
          obtain ⟨hyl, hya, hys⟩ := ack_ins ⟨ix, []⟩ hk hy
          have hlk : k < ys.length := by omega
          have hyk := hya hlk
          have hfl : ys[k].frm.length ≤ 1000 := by rw [hyk]; simp
          replace e : ackA x.acks ix f = ys.set k ⟨ys[k].index, addL ys[k].frm f⟩ := by rw [hys, hyk]; exact e
          clear hy hya hys hyk
          obtain ⟨j, HM⟩ := opn_ack (HM.pk (A := own (tAck 3) 104 A1 c1 ys)) k hlk
          replace HM := HM.perm (List.Perm.swap ..)
          repeat (first | (refine gR ?_; refine d_startd [13] [(0, 0), (0, 2), (0, 3), (0, 5), (0, 9), (1, 1), (1, 4), (0, 6), (0, 7), (1, 8), (2, 10), (0, 11), (0, 12), (3, 13)] HM (by kernel_rfl) (by kernel_rfl) (by repeat (first | exact qp_body | refine qp_then ?_ | refine qp_block ?_)) (by kernel_rfl) rfl ?_; intro HQ HS W1 HM1; clear HM; have HM := HM1; clear HM1) | (refine gGP ?_; first | refine gp (p_move rfl) ?_ | refine gp (p_field rfl (by simp only [Nat.reduceAdd]; rfl)) ?_ | refine gp (p_fieldo rfl (by simp only [Nat.reduceAdd]; rfl)) ?_ | refine gp (p_indexh HM rfl (by first | with_reducible rfl | omega) rfl (by omega) (by omega)) ?_) | (refine gGV ?_; first | refine gv (p_load rfl) ?_ | refine gv (p_loads rfl) ?_ | refine gv (p_loadh rfl rfl rfl) ?_) | (refine gL ?_; first | refine s_gv HM rfl ?_ | (refine gStore ?_; (refine s_storeh HM rfl rfl rfl rfl rfl rfl ?_; intro W1 HM1; clear HM; have HM := HM1; clear HM1; (try dsimp only at HM))) | (refine gCall ?_; (refine s_fn rfl rfl ?_; (go_at_call 79; refine (addS f (by omega) (by exact HM.pk)).mono ?_; rintro e2 W2 ⟨A2, c2, rfl, HM1⟩; refine ⟨_, rfl, ?_⟩; clear HM; have HM := HM1; clear HM1))) | refine l_nil ?_) | (refine gC ?_; first | refine c_seq ?_ | refine c_region ?_) | (refine gN ?_; first | refine n_then ?_ | refine d_back (by exact HM.drop) ?_ | refine d_backT ?_) | (refine gD ?_; refine d_next rfl ?_) | (refine gO ?_; first | refine d_gp HQ HS rfl ?_ | refine d_gv HQ HS rfl ?_ | refine d_one ?_ | refine d_last ?_) | (refine gT ?_; refine d_doneT ?_))
          have HM1 := cls_ack ((HM.pk (A := own tInt 3 A2 c2 (addL ys[k].frm f))).pk (A := hol (tAck 3) 104 A1 c1 ys k [.int .i64 ys[k].index, .slice A2 (addL ys[k].frm f).length c2]))
          clear HM; have HM := HM1; clear HM1
          rw [← e] at HM
          have el : ys.length = (ackA x.acks ix f).length := by rw [e, List.length_set]
          simp only [el] at HM ⊢
          have hl1 := ackA_len x.acks ix f
          have hl2 := ackA_frm x.acks ix f 1000 has
          rw [show ackL x ix f = advL { x with acks := ackA x.acks ix f } from rfl]
          obtain ⟨bs, hA⟩ : ∃ bs, bs = ackA x.acks ix f := ⟨_, rfl⟩
          rw [← hA] at HM hl1 hl2 ⊢
          clear e el hA
          repeat (first | (refine gL ?_; first | (refine gStore ?_; (refine s_store HM rfl rfl rfl rfl ?_; intro W1 HM1; clear HM; have HM := HM1; clear HM1)) | (refine gCall ?_; (refine s_fn rfl rfl ?_; (go_at_call 114; refine (advS { x with acks := bs } ⟨i.a0, i.a1, i.a2, i.a3, i.a4, i.a5, (A1, c1)⟩ h0 h1 hn (by simp only; omega) (fun a ha => Nat.le_trans (hl2 a ha) (by omega)) (by exact pk_rec HM)).mono ?_; rintro e2 W2 ⟨j2, rfl, HM1⟩; refine ⟨_, rfl, ?_⟩; clear HM; have HM := HM1; clear HM1; simp only [partRcd, List.cons_append, List.nil_append] at HM; simp only [encRcd]))) | refine l_nil ?_) | (refine gC ?_; refine c_ret ?_) | (refine gN ?_; refine n_then ?_))
          exact ret_cell HM rfl rfl rfl ⟨j2, rfl, by simp only [partRcd, List.cons_append, List.nil_append]; exact HM.sb⟩
    · repeat (first | (refine gGP ?_; refine gp (p_build rfl) ?_) | (refine gL ?_; first | refine s_gp rfl rfl ?_ | refine l_nil ?_) | (refine gN ?_; refine x_back (by exact HM.drop.drop) ?_))
      refine x_two 0 8 (by kernel_rfl) rfl rfl (l' := #[true, true, true, true, true, false, true, true, false, false, true, true, true, true, false, false, false]) (l'' := #[false, true, true, true, true, false, true, true, true, false, true, true, true, true, false, false, false]) (by kernel_rfl) (by kernel_rfl) (x_go ?_) (x_go ?_)
      · repeat (first | (refine gL ?_; first | (refine s_lit0a HM rfl rfl ?_; intro A1 W1 HM1; clear HM; have HM := HM1; clear HM1) | refine l_nil ?_) | (refine gN ?_; refine x_back (by (show Mem _ _ _; exact HM.sb)) ?_))
        refine x_two 5 8 (by kernel_rfl) rfl rfl (l' := #[true, true, true, true, true, true, true, true, false, false, true, true, true, true, false, false, false]) (l'' := #[true, true, true, true, true, false, true, true, true, false, true, true, true, true, false, false, false]) (by kernel_rfl) (by kernel_rfl) (x_go ?_) (x_go ?_)
        · repeat (first | (refine gL ?_; refine gCall ?_; obtain ⟨F1, hF1⟩ := HM.own (A := i.a6.1); (first | (have hd := rdc_take hF1 k; rw [hr1] at hd; refine s_appn (ys := x.acks.take k) (css := css.take k) HM rfl rfl rfl rfl hd (by simp only [List.length_take]; omega) (by simp only [List.length_take, List.length_drop, List.length_append, List.length_cons, List.length_nil]; omega) rfl ?_) | (have hd := rdc_drop (k := k) hF1 (by omega) (by omega); rw [hr2] at hd; refine s_appn (ys := x.acks.drop k) (css := css.drop k) HM rfl rfl (by first | with_reducible rfl | (simp only [List.length_append, List.length_take, List.length_cons, List.length_nil]; omega)) rfl hd (by simp only [List.length_drop]; omega) (by simp only [List.length_take, List.length_drop, List.length_append, List.length_cons, List.length_nil]; omega) rfl ?_)); clear hF1; intro A1 c1 W1 HM1; clear HM; have HM := HM1; clear HM1) | (refine gL ?_; refine l_nil ?_) | (refine gN ?_; refine x_back (by exact HM.drop.drop) ?_))
          refine x_one 8 (by kernel_rfl) rfl (l' := #[true, true, true, true, true, true, true, true, true, false, true, true, true, true, false, false, false]) (by kernel_rfl) (x_go ?_)
          repeat (first | (refine gL ?_; first | (refine s_lit1 HM rfl rfl rfl ?_; intro g W1 HM1; clear HM; have HM := HM1; clear HM1) | refine l_nil ?_) | (refine gN ?_; refine x_back (by (show Mem _ _ _; exact HM.sb)) ?_))
          refine x_one 9 (by kernel_rfl) rfl (l' := #[true, true, true, true, true, true, true, true, true, true, true, true, true, true, false, false, false]) (by kernel_rfl) (x_go ?_)
          repeat (first | (refine gL ?_; first | (refine gCall ?_; (refine s_append1 HM rfl rfl (by first | with_reducible rfl | (simp only [List.length_set, List.length_append, List.length_cons, List.length_nil]; omega)) rfl rfl (by (simp only [List.length_set, List.length_append, List.length_cons, List.length_nil]; omega)) rfl ?_; intro A1 c1 W1 HM1; clear HM; have HM := HM1; clear HM1)) | refine l_nil ?_) | (refine gN ?_; refine x_back (by exact HM.drop.drop) ?_))
          refine x_one 14 (by kernel_rfl) rfl (l' := #[true, true, true, true, true, true, true, true, true, true, true, true, true, true, true, false, false]) (by kernel_rfl) (x_go ?_)
          repeat (first | (refine gL ?_; refine gCall ?_; obtain ⟨F1, hF1⟩ := HM.own (A := i.a6.1); (first | (have hd := rdc_take hF1 k; rw [hr1] at hd; refine s_appn (ys := x.acks.take k) (css := css.take k) HM rfl rfl rfl rfl hd (by simp only [List.length_take]; omega) (by simp only [List.length_take, List.length_drop, List.length_append, List.length_cons, List.length_nil]; omega) rfl ?_) | (have hd := rdc_drop (k := k) hF1 (by omega) (by omega); rw [hr2] at hd; refine s_appn (ys := x.acks.drop k) (css := css.drop k) HM rfl rfl (by first | with_reducible rfl | (simp only [List.length_append, List.length_take, List.length_cons, List.length_nil]; omega)) rfl hd (by simp only [List.length_drop]; omega) (by simp only [List.length_take, List.length_drop, List.length_append, List.length_cons, List.length_nil]; omega) rfl ?_)); clear hF1; intro A1 c1 W1 HM1; clear HM; have HM := HM1; clear HM1) | (refine gL ?_; refine l_nil ?_) | (refine gN ?_; refine x_back (by exact HM.drop) ?_))
          refine x_pv HQ HS 15 rfl (by kernel_rfl) (by kernel_rfl) (l' := #[true, true, true, true, true, true, true, true, true, true, true, true, true, true, true, true, false]) (by kernel_rfl) rfl ?_
          refine gGP ?_; refine gp (p_field rfl (by simp only [Nat.reduceAdd]; rfl)) ?_
          refine x_last 16 (by kernel_rfl) rfl (l' := #[true, true, true, true, true, true, true, true, true, true, true, true, true, true, true, true, true]) (by kernel_rfl) (by kernel_rfl) rfl ?_
          repeat (first | (refine gL ?_; first | (refine gStore ?_; (refine s_store HM rfl rfl rfl rfl ?_; intro W1 HM1; clear HM; have HM := HM1; clear HM1)) | refine l_nil ?_) | (refine gC ?_; refine c_seq ?_) | (refine gN ?_; refine n_then ?_))
          skip -- x_backl
          obtain ⟨ys, hy⟩ : ∃ ys : List Ack, ys = [] ++ x.acks.take k ++ [⟨ix, []⟩] ++ x.acks.drop k := ⟨_, rfl⟩
          rw [← hy] at HM
          obtain ⟨hyl, hya, hys⟩ := ack_ins ⟨ix, []⟩ hk hy
          have hlk : k < ys.length := by omega
          have hyk := hya hlk
          have hfl : ys[k].frm.length ≤ 1000 := by rw [hyk]; simp
          replace e : ackA x.acks ix f = ys.set k ⟨ys[k].index, addL ys[k].frm f⟩ := by rw [hys, hyk]; exact e
          clear hy hya hys hyk
          obtain ⟨j, HM⟩ := opn_ack (HM.pk (A := own (tAck 3) 104 A1 c1 ys)) k hlk
          replace HM := HM.perm (List.Perm.swap ..)
          repeat (first | (refine gR ?_; refine d_startd [13] [(0, 0), (0, 2), (0, 3), (0, 5), (0, 9), (1, 1), (1, 4), (0, 6), (0, 7), (1, 8), (2, 10), (0, 11), (0, 12), (3, 13)] HM (by kernel_rfl) (by kernel_rfl) (by repeat (first | exact qp_body | refine qp_then ?_ | refine qp_block ?_)) (by kernel_rfl) rfl ?_; intro HQ HS W1 HM1; clear HM; have HM := HM1; clear HM1) | (refine gGP ?_; first | refine gp (p_move rfl) ?_ | refine gp (p_field rfl (by simp only [Nat.reduceAdd]; rfl)) ?_ | refine gp (p_fieldo rfl (by simp only [Nat.reduceAdd]; rfl)) ?_ | refine gp (p_indexh HM rfl (by first | with_reducible rfl | omega) rfl (by omega) (by omega)) ?_) | (refine gGV ?_; first | refine gv (p_load rfl) ?_ | refine gv (p_loads rfl) ?_ | refine gv (p_loadh rfl rfl rfl) ?_) | (refine gL ?_; first | refine s_gv HM rfl ?_ | (refine gStore ?_; (refine s_storeh HM rfl rfl rfl rfl rfl rfl ?_; intro W1 HM1; clear HM; have HM := HM1; clear HM1; (try dsimp only at HM))) | (refine gCall ?_; (refine s_fn rfl rfl ?_; (go_at_call 79; refine (addS f (by omega) (by exact HM.pk)).mono ?_; rintro e2 W2 ⟨A2, c2, rfl, HM1⟩; refine ⟨_, rfl, ?_⟩; clear HM; have HM := HM1; clear HM1))) | refine l_nil ?_) | (refine gC ?_; first | refine c_seq ?_ | refine c_region ?_) | (refine gN ?_; first | refine n_then ?_ | refine d_back (by exact HM.drop) ?_ | refine d_backT ?_) | (refine gD ?_; refine d_next rfl ?_) | (refine gO ?_; first | refine d_gp HQ HS rfl ?_ | refine d_gv HQ HS rfl ?_ | refine d_one ?_ | refine d_last ?_) | (refine gT ?_; refine d_doneT ?_))
          have HM1 := cls_ack ((HM.pk (A := own tInt 3 A2 c2 (addL ys[k].frm f))).pk (A := hol (tAck 3) 104 A1 c1 ys k [.int .i64 ys[k].index, .slice A2 (addL ys[k].frm f).length c2]))
          clear HM; have HM := HM1; clear HM1
          rw [← e] at HM
          have el : ys.length = (ackA x.acks ix f).length := by rw [e, List.length_set]
          simp only [el] at HM ⊢
          have hl1 := ackA_len x.acks ix f
          have hl2 := ackA_frm x.acks ix f 1000 has
          rw [show ackL x ix f = advL { x with acks := ackA x.acks ix f } from rfl]
          obtain ⟨bs, hA⟩ : ∃ bs, bs = ackA x.acks ix f := ⟨_, rfl⟩
          rw [← hA] at HM hl1 hl2 ⊢
          clear e el hA
          repeat (first | (refine gL ?_; first | (refine gStore ?_; (refine s_store HM rfl rfl rfl rfl ?_; intro W1 HM1; clear HM; have HM := HM1; clear HM1)) | (refine gCall ?_; (refine s_fn rfl rfl ?_; (go_at_call 114; refine (advS { x with acks := bs } ⟨i.a0, i.a1, i.a2, i.a3, i.a4, i.a5, (A1, c1)⟩ h0 h1 hn (by simp only; omega) (fun a ha => Nat.le_trans (hl2 a ha) (by omega)) (by exact pk_rec HM)).mono ?_; rintro e2 W2 ⟨j2, rfl, HM1⟩; refine ⟨_, rfl, ?_⟩; clear HM; have HM := HM1; clear HM1; simp only [partRcd, List.cons_append, List.nil_append] at HM; simp only [encRcd]))) | refine l_nil ?_) | (refine gC ?_; refine c_ret ?_) | (refine gN ?_; refine n_then ?_))
          exact ret_cell HM rfl rfl rfl ⟨j2, rfl, by simp only [partRcd, List.cons_append, List.nil_append]; exact HM.sb⟩
        · repeat (first | (refine gL ?_; first | (refine s_lit1 HM rfl rfl rfl ?_; intro g W1 HM1; clear HM; have HM := HM1; clear HM1) | refine l_nil ?_) | (refine gN ?_; refine x_back (by (show Mem _ _ _; exact HM.sb)) ?_))
          refine x_one 5 (by kernel_rfl) rfl (l' := #[true, true, true, true, true, true, true, true, true, false, true, true, true, true, false, false, false]) (by kernel_rfl) (x_go ?_)
          repeat (first | (refine gL ?_; refine gCall ?_; obtain ⟨F1, hF1⟩ := HM.own (A := i.a6.1); (first | (have hd := rdc_take hF1 k; rw [hr1] at hd; refine s_appn (ys := x.acks.take k) (css := css.take k) HM rfl rfl rfl rfl hd (by simp only [List.length_take]; omega) (by simp only [List.length_take, List.length_drop, List.length_append, List.length_cons, List.length_nil]; omega) rfl ?_) | (have hd := rdc_drop (k := k) hF1 (by omega) (by omega); rw [hr2] at hd; refine s_appn (ys := x.acks.drop k) (css := css.drop k) HM rfl rfl (by first | with_reducible rfl | (simp only [List.length_append, List.length_take, List.length_cons, List.length_nil]; omega)) rfl hd (by simp only [List.length_drop]; omega) (by simp only [List.length_take, List.length_drop, List.length_append, List.length_cons, List.length_nil]; omega) rfl ?_)); clear hF1; intro A1 c1 W1 HM1; clear HM; have HM := HM1; clear HM1) | (refine gL ?_; refine l_nil ?_) | (refine gN ?_; refine x_back (by (show Mem _ _ _; exact HM.sb)) ?_))
          refine x_one 9 (by kernel_rfl) rfl (l' := #[true, true, true, true, true, true, true, true, true, true, true, true, true, true, false, false, false]) (by kernel_rfl) (x_go ?_)
          repeat (first | (refine gL ?_; first | (refine gCall ?_; (refine s_append1 HM rfl rfl (by first | with_reducible rfl | (simp only [List.length_set, List.length_append, List.length_cons, List.length_nil]; omega)) rfl rfl (by (simp only [List.length_set, List.length_append, List.length_cons, List.length_nil]; omega)) rfl ?_; intro A1 c1 W1 HM1; clear HM; have HM := HM1; clear HM1)) | refine l_nil ?_) | (refine gN ?_; refine x_back (by exact HM.drop.drop) ?_))
          refine x_one 14 (by kernel_rfl) rfl (l' := #[true, true, true, true, true, true, true, true, true, true, true, true, true, true, true, false, false]) (by kernel_rfl) (x_go ?_)
          repeat (first | (refine gL ?_; refine gCall ?_; obtain ⟨F1, hF1⟩ := HM.own (A := i.a6.1); (first | (have hd := rdc_take hF1 k; rw [hr1] at hd; refine s_appn (ys := x.acks.take k) (css := css.take k) HM rfl rfl rfl rfl hd (by simp only [List.length_take]; omega) (by simp only [List.length_take, List.length_drop, List.length_append, List.length_cons, List.length_nil]; omega) rfl ?_) | (have hd := rdc_drop (k := k) hF1 (by omega) (by omega); rw [hr2] at hd; refine s_appn (ys := x.acks.drop k) (css := css.drop k) HM rfl rfl (by first | with_reducible rfl | (simp only [List.length_append, List.length_take, List.length_cons, List.length_nil]; omega)) rfl hd (by simp only [List.length_drop]; omega) (by simp only [List.length_take, List.length_drop, List.length_append, List.length_cons, List.length_nil]; omega) rfl ?_)); clear hF1; intro A1 c1 W1 HM1; clear HM; have HM := HM1; clear HM1) | (refine gL ?_; refine l_nil ?_) | (refine gN ?_; refine x_back (by exact HM.drop) ?_))
          refine x_pv HQ HS 15 rfl (by kernel_rfl) (by kernel_rfl) (l' := #[true, true, true, true, true, true, true, true, true, true, true, true, true, true, true, true, false]) (by kernel_rfl) rfl ?_
          refine gGP ?_; refine gp (p_field rfl (by simp only [Nat.reduceAdd]; rfl)) ?_
          refine x_last 16 (by kernel_rfl) rfl (l' := #[true, true, true, true, true, true, true, true, true, true, true, true, true, true, true, true, true]) (by kernel_rfl) (by kernel_rfl) rfl ?_
          repeat (first | (refine gL ?_; first | (refine gStore ?_; (refine s_store HM rfl rfl rfl rfl ?_; intro W1 HM1; clear HM; have HM := HM1; clear HM1)) | refine l_nil ?_) | (refine gC ?_; refine c_seq ?_) | (refine gN ?_; refine n_then ?_))
          skip -- x_backl
          obtain ⟨ys, hy⟩ : ∃ ys : List Ack, ys = [] ++ x.acks.take k ++ [⟨ix, []⟩] ++ x.acks.drop k := ⟨_, rfl⟩
          rw [← hy] at HM
          obtain ⟨hyl, hya, hys⟩ := ack_ins ⟨ix, []⟩ hk hy
          have hlk : k < ys.length := by omega
          have hyk := hya hlk
          have hfl : ys[k].frm.length ≤ 1000 := by rw [hyk]; simp
          replace e : ackA x.acks ix f = ys.set k ⟨ys[k].index, addL ys[k].frm f⟩ := by rw [hys, hyk]; exact e
          clear hy hya hys hyk
          obtain ⟨j, HM⟩ := opn_ack (HM.pk (A := own (tAck 3) 104 A1 c1 ys)) k hlk
          replace HM := HM.perm (List.Perm.swap ..)
          repeat (first | (refine gR ?_; refine d_startd [13] [(0, 0), (0, 2), (0, 3), (0, 5), (0, 9), (1, 1), (1, 4), (0, 6), (0, 7), (1, 8), (2, 10), (0, 11), (0, 12), (3, 13)] HM (by kernel_rfl) (by kernel_rfl) (by repeat (first | exact qp_body | refine qp_then ?_ | refine qp_block ?_)) (by kernel_rfl) rfl ?_; intro HQ HS W1 HM1; clear HM; have HM := HM1; clear HM1) | (refine gGP ?_; first | refine gp (p_move rfl) ?_ | refine gp (p_field rfl (by simp only [Nat.reduceAdd]; rfl)) ?_ | refine gp (p_fieldo rfl (by simp only [Nat.reduceAdd]; rfl)) ?_ | refine gp (p_indexh HM rfl (by first | with_reducible rfl | omega) rfl (by omega) (by omega)) ?_) | (refine gGV ?_; first | refine gv (p_load rfl) ?_ | refine gv (p_loads rfl) ?_ | refine gv (p_loadh rfl rfl rfl) ?_) | (refine gL ?_; first | refine s_gv HM rfl ?_ | (refine gStore ?_; (refine s_storeh HM rfl rfl rfl rfl rfl rfl ?_; intro W1 HM1; clear HM; have HM := HM1; clear HM1; (try dsimp only at HM))) | (refine gCall ?_; (refine s_fn rfl rfl ?_; (go_at_call 79; refine (addS f (by omega) (by exact HM.pk)).mono ?_; rintro e2 W2 ⟨A2, c2, rfl, HM1⟩; refine ⟨_, rfl, ?_⟩; clear HM; have HM := HM1; clear HM1))) | refine l_nil ?_) | (refine gC ?_; first | refine c_seq ?_ | refine c_region ?_) | (refine gN ?_; first | refine n_then ?_ | refine d_back (by exact HM.drop) ?_ | refine d_backT ?_) | (refine gD ?_; refine d_next rfl ?_) | (refine gO ?_; first | refine d_gp HQ HS rfl ?_ | refine d_gv HQ HS rfl ?_ | refine d_one ?_ | refine d_last ?_) | (refine gT ?_; refine d_doneT ?_))
          have HM1 := cls_ack ((HM.pk (A := own tInt 3 A2 c2 (addL ys[k].frm f))).pk (A := hol (tAck 3) 104 A1 c1 ys k [.int .i64 ys[k].index, .slice A2 (addL ys[k].frm f).length c2]))
          clear HM; have HM := HM1; clear HM1
          rw [← e] at HM
          have el : ys.length = (ackA x.acks ix f).length := by rw [e, List.length_set]
          simp only [el] at HM ⊢
          have hl1 := ackA_len x.acks ix f
          have hl2 := ackA_frm x.acks ix f 1000 has
          rw [show ackL x ix f = advL { x with acks := ackA x.acks ix f } from rfl]
          obtain ⟨bs, hA⟩ : ∃ bs, bs = ackA x.acks ix f := ⟨_, rfl⟩
          rw [← hA] at HM hl1 hl2 ⊢
          clear e el hA
          repeat (first | (refine gL ?_; first | (refine gStore ?_; (refine s_store HM rfl rfl rfl rfl ?_; intro W1 HM1; clear HM; have HM := HM1; clear HM1)) | (refine gCall ?_; (refine s_fn rfl rfl ?_; (go_at_call 114; refine (advS { x with acks := bs } ⟨i.a0, i.a1, i.a2, i.a3, i.a4, i.a5, (A1, c1)⟩ h0 h1 hn (by simp only; omega) (fun a ha => Nat.le_trans (hl2 a ha) (by omega)) (by exact pk_rec HM)).mono ?_; rintro e2 W2 ⟨j2, rfl, HM1⟩; refine ⟨_, rfl, ?_⟩; clear HM; have HM := HM1; clear HM1; simp only [partRcd, List.cons_append, List.nil_append] at HM; simp only [encRcd]))) | refine l_nil ?_) | (refine gC ?_; refine c_ret ?_) | (refine gN ?_; refine n_then ?_))
          exact ret_cell HM rfl rfl rfl ⟨j2, rfl, by simp only [partRcd, List.cons_append, List.nil_append]; exact HM.sb⟩
      · repeat (first | (refine gL ?_; first | (refine s_lit1 HM rfl rfl rfl ?_; intro g W1 HM1; clear HM; have HM := HM1; clear HM1) | refine l_nil ?_) | (refine gN ?_; refine x_back (by (show Mem _ _ _; exact HM.sb)) ?_))
        refine x_one 0 (by kernel_rfl) rfl (l' := #[true, true, true, true, true, false, true, true, true, false, true, true, true, true, false, false, false]) (by kernel_rfl) (x_go ?_)
        repeat (first | (refine gL ?_; first | (refine s_lit0a HM rfl rfl ?_; intro A1 W1 HM1; clear HM; have HM := HM1; clear HM1) | refine l_nil ?_) | (refine gN ?_; refine x_back (by (show Mem _ _ _; exact HM.sb)) ?_))
        refine x_one 5 (by kernel_rfl) rfl (l' := #[true, true, true, true, true, true, true, true, true, false, true, true, true, true, false, false, false]) (by kernel_rfl) (x_go ?_)
        repeat (first | (refine gL ?_; refine gCall ?_; obtain ⟨F1, hF1⟩ := HM.own (A := i.a6.1); (first | (have hd := rdc_take hF1 k; rw [hr1] at hd; refine s_appn (ys := x.acks.take k) (css := css.take k) HM rfl rfl rfl rfl hd (by simp only [List.length_take]; omega) (by simp only [List.length_take, List.length_drop, List.length_append, List.length_cons, List.length_nil]; omega) rfl ?_) | (have hd := rdc_drop (k := k) hF1 (by omega) (by omega); rw [hr2] at hd; refine s_appn (ys := x.acks.drop k) (css := css.drop k) HM rfl rfl (by first | with_reducible rfl | (simp only [List.length_append, List.length_take, List.length_cons, List.length_nil]; omega)) rfl hd (by simp only [List.length_drop]; omega) (by simp only [List.length_take, List.length_drop, List.length_append, List.length_cons, List.length_nil]; omega) rfl ?_)); clear hF1; intro A1 c1 W1 HM1; clear HM; have HM := HM1; clear HM1) | (refine gL ?_; refine l_nil ?_) | (refine gN ?_; refine x_back (by (show Mem _ _ _; exact HM.sb)) ?_))
        refine x_one 9 (by kernel_rfl) rfl (l' := #[true, true, true, true, true, true, true, true, true, true, true, true, true, true, false, false, false]) (by kernel_rfl) (x_go ?_)
        repeat (first | (refine gL ?_; first | (refine gCall ?_; (refine s_append1 HM rfl rfl (by first | with_reducible rfl | (simp only [List.length_set, List.length_append, List.length_cons, List.length_nil]; omega)) rfl rfl (by (simp only [List.length_set, List.length_append, List.length_cons, List.length_nil]; omega)) rfl ?_; intro A1 c1 W1 HM1; clear HM; have HM := HM1; clear HM1)) | refine l_nil ?_) | (refine gN ?_; refine x_back (by exact HM.drop.drop) ?_))
        refine x_one 14 (by kernel_rfl) rfl (l' := #[true, true, true, true, true, true, true, true, true, true, true, true, true, true, true, false, false]) (by kernel_rfl) (x_go ?_)
        repeat (first | (refine gL ?_; refine gCall ?_; obtain ⟨F1, hF1⟩ := HM.own (A := i.a6.1); (first | (have hd := rdc_take hF1 k; rw [hr1] at hd; refine s_appn (ys := x.acks.take k) (css := css.take k) HM rfl rfl rfl rfl hd (by simp only [List.length_take]; omega) (by simp only [List.length_take, List.length_drop, List.length_append, List.length_cons, List.length_nil]; omega) rfl ?_) | (have hd := rdc_drop (k := k) hF1 (by omega) (by omega); rw [hr2] at hd; refine s_appn (ys := x.acks.drop k) (css := css.drop k) HM rfl rfl (by first | with_reducible rfl | (simp only [List.length_append, List.length_take, List.length_cons, List.length_nil]; omega)) rfl hd (by simp only [List.length_drop]; omega) (by simp only [List.length_take, List.length_drop, List.length_append, List.length_cons, List.length_nil]; omega) rfl ?_)); clear hF1; intro A1 c1 W1 HM1; clear HM; have HM := HM1; clear HM1) | (refine gL ?_; refine l_nil ?_) | (refine gN ?_; refine x_back (by exact HM.drop) ?_))
        refine x_pv HQ HS 15 rfl (by kernel_rfl) (by kernel_rfl) (l' := #[true, true, true, true, true, true, true, true, true, true, true, true, true, true, true, true, false]) (by kernel_rfl) rfl ?_
        refine gGP ?_; refine gp (p_field rfl (by simp only [Nat.reduceAdd]; rfl)) ?_
        refine x_last 16 (by kernel_rfl) rfl (l' := #[true, true, true, true, true, true, true, true, true, true, true, true, true, true, true, true, true]) (by kernel_rfl) (by kernel_rfl) rfl ?_
        repeat (first | (refine gL ?_; first | (refine gStore ?_; (refine s_store HM rfl rfl rfl rfl ?_; intro W1 HM1; clear HM; have HM := HM1; clear HM1)) | refine l_nil ?_) | (refine gC ?_; refine c_seq ?_) | (refine gN ?_; refine n_then ?_))
        skip -- x_backl
        obtain ⟨ys, hy⟩ : ∃ ys : List Ack, ys = [] ++ x.acks.take k ++ [⟨ix, []⟩] ++ x.acks.drop k := ⟨_, rfl⟩
        rw [← hy] at HM
        obtain ⟨hyl, hya, hys⟩ := ack_ins ⟨ix, []⟩ hk hy
        have hlk : k < ys.length := by omega
        have hyk := hya hlk
        have hfl : ys[k].frm.length ≤ 1000 := by rw [hyk]; simp
        replace e : ackA x.acks ix f = ys.set k ⟨ys[k].index, addL ys[k].frm f⟩ := by rw [hys, hyk]; exact e
        clear hy hya hys hyk
        obtain ⟨j, HM⟩ := opn_ack (HM.pk (A := own (tAck 3) 104 A1 c1 ys)) k hlk
        replace HM := HM.perm (List.Perm.swap ..)
        repeat (first | (refine gR ?_; refine d_startd [13] [(0, 0), (0, 2), (0, 3), (0, 5), (0, 9), (1, 1), (1, 4), (0, 6), (0, 7), (1, 8), (2, 10), (0, 11), (0, 12), (3, 13)] HM (by kernel_rfl) (by kernel_rfl) (by repeat (first | exact qp_body | refine qp_then ?_ | refine qp_block ?_)) (by kernel_rfl) rfl ?_; intro HQ HS W1 HM1; clear HM; have HM := HM1; clear HM1) | (refine gGP ?_; first | refine gp (p_move rfl) ?_ | refine gp (p_field rfl (by simp only [Nat.reduceAdd]; rfl)) ?_ | refine gp (p_fieldo rfl (by simp only [Nat.reduceAdd]; rfl)) ?_ | refine gp (p_indexh HM rfl (by first | with_reducible rfl | omega) rfl (by omega) (by omega)) ?_) | (refine gGV ?_; first | refine gv (p_load rfl) ?_ | refine gv (p_loads rfl) ?_ | refine gv (p_loadh rfl rfl rfl) ?_) | (refine gL ?_; first | refine s_gv HM rfl ?_ | (refine gStore ?_; (refine s_storeh HM rfl rfl rfl rfl rfl rfl ?_; intro W1 HM1; clear HM; have HM := HM1; clear HM1; (try dsimp only at HM))) | (refine gCall ?_; (refine s_fn rfl rfl ?_; (go_at_call 79; refine (addS f (by omega) (by exact HM.pk)).mono ?_; rintro e2 W2 ⟨A2, c2, rfl, HM1⟩; refine ⟨_, rfl, ?_⟩; clear HM; have HM := HM1; clear HM1))) | refine l_nil ?_) | (refine gC ?_; first | refine c_seq ?_ | refine c_region ?_) | (refine gN ?_; first | refine n_then ?_ | refine d_back (by exact HM.drop) ?_ | refine d_backT ?_) | (refine gD ?_; refine d_next rfl ?_) | (refine gO ?_; first | refine d_gp HQ HS rfl ?_ | refine d_gv HQ HS rfl ?_ | refine d_one ?_ | refine d_last ?_) | (refine gT ?_; refine d_doneT ?_))
        have HM1 := cls_ack ((HM.pk (A := own tInt 3 A2 c2 (addL ys[k].frm f))).pk (A := hol (tAck 3) 104 A1 c1 ys k [.int .i64 ys[k].index, .slice A2 (addL ys[k].frm f).length c2]))
        clear HM; have HM := HM1; clear HM1
        rw [← e] at HM
        have el : ys.length = (ackA x.acks ix f).length := by rw [e, List.length_set]
        simp only [el] at HM ⊢
        have hl1 := ackA_len x.acks ix f
        have hl2 := ackA_frm x.acks ix f 1000 has
        rw [show ackL x ix f = advL { x with acks := ackA x.acks ix f } from rfl]
        obtain ⟨bs, hA⟩ : ∃ bs, bs = ackA x.acks ix f := ⟨_, rfl⟩
        rw [← hA] at HM hl1 hl2 ⊢
        clear e el hA
        repeat (first | (refine gL ?_; first | (refine gStore ?_; (refine s_store HM rfl rfl rfl rfl ?_; intro W1 HM1; clear HM; have HM := HM1; clear HM1)) | (refine gCall ?_; (refine s_fn rfl rfl ?_; (go_at_call 114; refine (advS { x with acks := bs } ⟨i.a0, i.a1, i.a2, i.a3, i.a4, i.a5, (A1, c1)⟩ h0 h1 hn (by simp only; omega) (fun a ha => Nat.le_trans (hl2 a ha) (by omega)) (by exact pk_rec HM)).mono ?_; rintro e2 W2 ⟨j2, rfl, HM1⟩; refine ⟨_, rfl, ?_⟩; clear HM; have HM := HM1; clear HM1; simp only [partRcd, List.cons_append, List.nil_append] at HM; simp only [encRcd]))) | refine l_nil ?_) | (refine gC ?_; refine c_ret ?_) | (refine gN ?_; refine n_then ?_))
        exact ret_cell HM rfl rfl rfl ⟨j2, rfl, by simp only [partRcd, List.cons_append, List.nil_append]; exact HM.sb⟩
  · obtain rfl : k = x.acks.length := by omega
    have e := ackA_new (f := f) (Nat.le_refl _) hp (fun h => by omega)
    repeat (first | (refine gGP ?_; first | refine gp (p_move rfl) ?_ | (refine gGB ?_; first | refine gp (p_lss rfl rfl) ?_ | refine gp (p_eql rfl rfl) ?_) | refine gp (p_field rfl (by simp only [Nat.reduceAdd]; rfl)) ?_ | refine gp (p_len rfl) ?_ | refine gp (p_pick1 rfl (by first | (simp; done) | fail) rfl) ?_ | refine gp (p_pick0 rfl (by first | (simp; done) | fail) rfl) ?_) | (refine gGV ?_; refine gv (p_load rfl) ?_) | (refine gL ?_; first | refine s_gp rfl rfl ?_ | refine s_gv HM rfl ?_ | refine l_nil ?_ | refine s_guard_off rfl rfl rfl rfl (by first | (simp; done) | fail) rfl rfl ?_) | (refine gC ?_; first | refine c_seq ?_ | refine c_region ?_ | refine c_exit ?_ | refine c_yes rfl (by rfl) ?_ | refine c_no rfl (by rfl) ?_) | (refine gN ?_; first | refine n_then ?_ | refine x_then ?_ | refine x_here ?_))
    obtain ⟨css, hcl, HM⟩ := opn_at x.acks.length (HM.pk (A := own (tAck 3) 104 i.a6.1 i.a6.2 x.acks))
    have hr1 : (css.take x.acks.length).length = (x.acks.take x.acks.length).length := by simp only [List.length_take, hcl]
    have hr2 : (css.drop x.acks.length).length = (x.acks.drop x.acks.length).length := by simp only [List.length_drop, hcl]
    have htk : (x.acks.take x.acks.length).length = x.acks.length := by simp only [List.length_take]; omega
    refine gR ?_
    refine x_start (ds := [16]) HM (fun w hw => hw.drop.drop) (by kernel_rfl) (by kernel_rfl) (by repeat (first | exact qp_body | refine qp_then ?_ | refine qp_block ?_)) ?_
    intro HQ HS W1 HM1; clear HM; have HM := HM1; clear HM1
    refine x_pv HQ HS 1 rfl (by kernel_rfl) (by kernel_rfl) (l' := #[false, true, false, false, false, false, false, false, false, false, false, false, false, false, false, false, false]) (by kernel_rfl) rfl ?_
    refine gGP ?_; refine gp (p_field rfl (by simp only [Nat.reduceAdd]; rfl)) ?_
    refine x_pv HQ HS 3 rfl (by kernel_rfl) (by kernel_rfl) (l' := #[false, true, false, true, false, false, false, false, false, false, false, false, false, false, false, false, false]) (by kernel_rfl) rfl ?_
    refine gGP ?_; refine gp (p_move rfl) ?_
    refine x_pv HQ HS 6 rfl (by kernel_rfl) (by kernel_rfl) (l' := #[false, true, false, true, false, false, true, false, false, false, false, false, false, false, false, false, false]) (by kernel_rfl) rfl ?_
    refine gGP ?_; refine gp (p_move rfl) ?_
    refine x_pv HQ HS 10 rfl (by kernel_rfl) (by kernel_rfl) (l' := #[false, true, false, true, false, false, true, false, false, false, true, false, false, false, false, false, false]) (by kernel_rfl) rfl ?_
    refine gGP ?_; refine gp (p_field rfl (by simp only [Nat.reduceAdd]; rfl)) ?_
    refine x_pv HQ HS 12 rfl (by kernel_rfl) (by kernel_rfl) (l' := #[false, true, false, true, false, false, true, false, false, false, true, false, true, false, false, false, false]) (by kernel_rfl) rfl ?_
    refine gGP ?_; refine gp (p_move rfl) ?_
    refine x_ld HQ HS 2 rfl (by kernel_rfl) (by kernel_rfl) (by kernel_rfl) (by kernel_rfl) (l' := #[false, true, true, true, false, false, true, false, false, false, true, false, true, false, false, false, false]) (by kernel_rfl) rfl ?_
    refine gGV ?_; refine gv (p_load rfl) ?_
    refine x_pv HQ HS 4 rfl (by kernel_rfl) (by kernel_rfl) (l' := #[false, true, true, true, true, false, true, false, false, false, true, false, true, false, false, false, false]) (by kernel_rfl) rfl ?_
    refine gGP ?_; refine gp (p_sliceto rfl rfl (by omega) (by omega)) ?_
    refine x_ld HQ HS 11 rfl (by kernel_rfl) (by kernel_rfl) (by kernel_rfl) (by kernel_rfl) (l' := #[false, true, true, true, true, false, true, false, false, false, true, true, true, false, false, false, false]) (by kernel_rfl) rfl ?_
    refine gGV ?_; refine gv (p_load rfl) ?_
    refine x_pv HQ HS 13 rfl (by kernel_rfl) (by kernel_rfl) (l' := #[false, true, true, true, true, false, true, false, false, false, true, true, true, true, false, false, false]) (by kernel_rfl) rfl ?_
    refine gGP ?_; refine gp (p_slicefrom rfl rfl (by omega) (by omega)) ?_
    refine x_two 0 7 (by kernel_rfl) rfl rfl (l' := #[true, true, true, true, true, false, true, false, false, false, true, true, true, true, false, false, false]) (l'' := #[false, true, true, true, true, false, true, true, false, false, true, true, true, true, false, false, false]) (by kernel_rfl) (by kernel_rfl) (x_go ?_) (x_go ?_)
    · repeat (first | (refine gL ?_; first | (refine s_lit0a HM rfl rfl ?_; intro A1 W1 HM1; clear HM; have HM := HM1; clear HM1) | refine l_nil ?_) | (refine gN ?_; refine x_back (by (show Mem _ _ _; exact HM.sb)) ?_))
      refine x_two 5 7 (by kernel_rfl) rfl rfl (l' := #[true, true, true, true, true, true, true, false, false, false, true, true, true, true, false, false, false]) (l'' := #[true, true, true, true, true, false, true, true, false, false, true, true, true, true, false, false, false]) (by kernel_rfl) (by kernel_rfl) (x_go ?_) (x_go ?_)
      · repeat (first | (refine gL ?_; refine gCall ?_; obtain ⟨F1, hF1⟩ := HM.own (A := i.a6.1); (first | (have hd := rdc_take hF1 x.acks.length; rw [hr1] at hd; refine s_appn (ys := x.acks.take x.acks.length) (css := css.take x.acks.length) HM rfl rfl rfl rfl hd (by simp only [List.length_take]; omega) (by simp only [List.length_take, List.length_drop, List.length_append, List.length_cons, List.length_nil]; omega) rfl ?_) | (have hd := rdc_drop (k := x.acks.length) hF1 (by omega) (by omega); rw [hr2] at hd; refine s_appn (ys := x.acks.drop x.acks.length) (css := css.drop x.acks.length) HM rfl rfl (by first | with_reducible rfl | (simp only [List.length_append, List.length_take, List.length_cons, List.length_nil]; omega)) rfl hd (by simp only [List.length_drop]; omega) (by simp only [List.length_take, List.length_drop, List.length_append, List.length_cons, List.length_nil]; omega) rfl ?_)); clear hF1; intro A1 c1 W1 HM1; clear HM; have HM := HM1; clear HM1) | (refine gL ?_; refine l_nil ?_) | (refine gN ?_; refine x_back (by exact HM.drop.drop) ?_))
        refine x_one 7 (by kernel_rfl) rfl (l' := #[true, true, true, true, true, true, true, true, false, false, true, true, true, true, false, false, false]) (by kernel_rfl) (x_go ?_)
        repeat (first | (refine gGP ?_; refine gp (p_build rfl) ?_) | (refine gL ?_; first | refine s_gp rfl rfl ?_ | refine l_nil ?_) | (refine gN ?_; refine x_back (by exact HM.drop.drop) ?_))
        refine x_one 8 (by kernel_rfl) rfl (l' := #[true, true, true, true, true, true, true, true, true, false, true, true, true, true, false, false, false]) (by kernel_rfl) (x_go ?_)
        repeat (first | (refine gL ?_; first | (refine s_lit1 HM rfl rfl rfl ?_; intro g W1 HM1; clear HM; have HM := HM1; clear HM1) | refine l_nil ?_) | (refine gN ?_; refine x_back (by (show Mem _ _ _; exact HM.sb)) ?_))
        refine x_one 9 (by kernel_rfl) rfl (l' := #[true, true, true, true, true, true, true, true, true, true, true, true, true, true, false, false, false]) (by kernel_rfl) (x_go ?_)
        repeat (first | (refine gL ?_; first | (refine gCall ?_; (refine s_append1 HM rfl rfl (by first | with_reducible rfl | (simp only [List.length_set, List.length_append, List.length_cons, List.length_nil]; omega)) rfl rfl (by (simp only [List.length_set, List.length_append, List.length_cons, List.length_nil]; omega)) rfl ?_; intro A1 c1 W1 HM1; clear HM; have HM := HM1; clear HM1)) | refine l_nil ?_) | (refine gN ?_; refine x_back (by exact HM.drop.drop) ?_))
        refine x_one 14 (by kernel_rfl) rfl (l' := #[true, true, true, true, true, true, true, true, true, true, true, true, true, true, true, false, false]) (by kernel_rfl) (x_go ?_)
        repeat (first | (refine gL ?_; refine gCall ?_; obtain ⟨F1, hF1⟩ := HM.own (A := i.a6.1); (first | (have hd := rdc_take hF1 x.acks.length; rw [hr1] at hd; refine s_appn (ys := x.acks.take x.acks.length) (css := css.take x.acks.length) HM rfl rfl rfl rfl hd (by simp only [List.length_take]; omega) (by simp only [List.length_take, List.length_drop, List.length_append, List.length_cons, List.length_nil]; omega) rfl ?_) | (have hd := rdc_drop (k := x.acks.length) hF1 (by omega) (by omega); rw [hr2] at hd; refine s_appn (ys := x.acks.drop x.acks.length) (css := css.drop x.acks.length) HM rfl rfl (by first | with_reducible rfl | (simp only [List.length_append, List.length_take, List.length_cons, List.length_nil]; omega)) rfl hd (by simp only [List.length_drop]; omega) (by simp only [List.length_take, List.length_drop, List.length_append, List.length_cons, List.length_nil]; omega) rfl ?_)); clear hF1; intro A1 c1 W1 HM1; clear HM; have HM := HM1; clear HM1) | (refine gL ?_; refine l_nil ?_) | (refine gN ?_; refine x_back (by exact HM.drop) ?_))
        refine x_pv HQ HS 15 rfl (by kernel_rfl) (by kernel_rfl) (l' := #[true, true, true, true, true, true, true, true, true, true, true, true, true, true, true, true, false]) (by kernel_rfl) rfl ?_
        refine gGP ?_; refine gp (p_field rfl (by simp only [Nat.reduceAdd]; rfl)) ?_
        refine x_last 16 (by kernel_rfl) rfl (l' := #[true, true, true, true, true, true, true, true, true, true, true, true, true, true, true, true, true]) (by kernel_rfl) (by kernel_rfl) rfl ?_
        repeat (first | (refine gL ?_; first | (refine gStore ?_; (refine s_store HM rfl rfl rfl rfl ?_; intro W1 HM1; clear HM; have HM := HM1; clear HM1)) | refine l_nil ?_) | (refine gC ?_; refine c_seq ?_) | (refine gN ?_; refine n_then ?_))
        skip -- x_backl
        obtain ⟨ys, hy⟩ : ∃ ys : List Ack, ys = [] ++ x.acks.take x.acks.length ++ [⟨ix, []⟩] ++ x.acks.drop x.acks.length := ⟨_, rfl⟩
        rw [← hy] at HM
        obtain ⟨hyl, hya, hys⟩ := ack_ins ⟨ix, []⟩ hk hy
        have hlk : x.acks.length < ys.length := by omega
        have hyk := hya hlk
        have hfl : ys[x.acks.length].frm.length ≤ 1000 := by rw [hyk]; simp
        replace e : ackA x.acks ix f = ys.set x.acks.length ⟨ys[x.acks.length].index, addL ys[x.acks.length].frm f⟩ := by rw [hys, hyk]; exact e
        clear hy hya hys hyk
        obtain ⟨j, HM⟩ := opn_ack (HM.pk (A := own (tAck 3) 104 A1 c1 ys)) x.acks.length hlk
        replace HM := HM.perm (List.Perm.swap ..)
        repeat (first | (refine gR ?_; refine d_startd [13] [(0, 0), (0, 2), (0, 3), (0, 5), (0, 9), (1, 1), (1, 4), (0, 6), (0, 7), (1, 8), (2, 10), (0, 11), (0, 12), (3, 13)] HM (by kernel_rfl) (by kernel_rfl) (by repeat (first | exact qp_body | refine qp_then ?_ | refine qp_block ?_)) (by kernel_rfl) rfl ?_; intro HQ HS W1 HM1; clear HM; have HM := HM1; clear HM1) | (refine gGP ?_; first | refine gp (p_move rfl) ?_ | refine gp (p_field rfl (by simp only [Nat.reduceAdd]; rfl)) ?_ | refine gp (p_fieldo rfl (by simp only [Nat.reduceAdd]; rfl)) ?_ | refine gp (p_indexh HM rfl (by first | with_reducible rfl | omega) rfl (by omega) (by omega)) ?_) | (refine gGV ?_; first | refine gv (p_load rfl) ?_ | refine gv (p_loads rfl) ?_ | refine gv (p_loadh rfl rfl rfl) ?_) | (refine gL ?_; first | refine s_gv HM rfl ?_ | (refine gStore ?_; (refine s_storeh HM rfl rfl rfl rfl rfl rfl ?_; intro W1 HM1; clear HM; have HM := HM1; clear HM1; (try dsimp only at HM))) | (refine gCall ?_; (refine s_fn rfl rfl ?_; (go_at_call 79; refine (addS f (by omega) (by exact HM.pk)).mono ?_; rintro e2 W2 ⟨A2, c2, rfl, HM1⟩; refine ⟨_, rfl, ?_⟩; clear HM; have HM := HM1; clear HM1))) | refine l_nil ?_) | (refine gC ?_; first | refine c_seq ?_ | refine c_region ?_) | (refine gN ?_; first | refine n_then ?_ | refine d_back (by exact HM.drop) ?_ | refine d_backT ?_) | (refine gD ?_; refine d_next rfl ?_) | (refine gO ?_; first | refine d_gp HQ HS rfl ?_ | refine d_gv HQ HS rfl ?_ | refine d_one ?_ | refine d_last ?_) | (refine gT ?_; refine d_doneT ?_))
        have HM1 := cls_ack ((HM.pk (A := own tInt 3 A2 c2 (addL ys[x.acks.length].frm f))).pk (A := hol (tAck 3) 104 A1 c1 ys x.acks.length [.int .i64 ys[x.acks.length].index, .slice A2 (addL ys[x.acks.length].frm f).length c2]))
        clear HM; have HM := HM1; clear HM1
        rw [← e] at HM
        have el : ys.length = (ackA x.acks ix f).length := by rw [e, List.length_set]
        simp only [el] at HM ⊢
        have hl1 := ackA_len x.acks ix f
        have hl2 := ackA_frm x.acks ix f 1000 has
        rw [show ackL x ix f = advL { x with acks := ackA x.acks ix f } from rfl]
        obtain ⟨bs, hA⟩ : ∃ bs, bs = ackA x.acks ix f := ⟨_, rfl⟩
        rw [← hA] at HM hl1 hl2 ⊢
        clear e el hA
        repeat (first | (refine gL ?_; first | (refine gStore ?_; (refine s_store HM rfl rfl rfl rfl ?_; intro W1 HM1; clear HM; have HM := HM1; clear HM1)) | (refine gCall ?_; (refine s_fn rfl rfl ?_; (go_at_call 114; refine (advS { x with acks := bs } ⟨i.a0, i.a1, i.a2, i.a3, i.a4, i.a5, (A1, c1)⟩ h0 h1 hn (by simp only; omega) (fun a ha => Nat.le_trans (hl2 a ha) (by omega)) (by exact pk_rec HM)).mono ?_; rintro e2 W2 ⟨j2, rfl, HM1⟩; refine ⟨_, rfl, ?_⟩; clear HM; have HM := HM1; clear HM1; simp only [partRcd, List.cons_append, List.nil_append] at HM; simp only [encRcd]))) | refine l_nil ?_) | (refine gC ?_; refine c_ret ?_) | (refine gN ?_; refine n_then ?_))
        exact ret_cell HM rfl rfl rfl ⟨j2, rfl, by simp only [partRcd, List.cons_append, List.nil_append]; exact HM.sb⟩
      · repeat (first | (refine gGP ?_; refine gp (p_build rfl) ?_) | (refine gL ?_; first | refine s_gp rfl rfl ?_ | refine l_nil ?_) | (refine gN ?_; refine x_back (by (show Mem _ _ _; exact HM.sb)) ?_))
        refine x_two 5 8 (by kernel_rfl) rfl rfl (l' := #[true, true, true, true, true, true, true, true, false, false, true, true, true, true, false, false, false]) (l'' := #[true, true, true, true, true, false, true, true, true, false, true, true, true, true, false, false, false]) (by kernel_rfl) (by kernel_rfl) (x_go ?_) (x_go ?_)
        · repeat (first | (refine gL ?_; refine gCall ?_; obtain ⟨F1, hF1⟩ := HM.own (A := i.a6.1); (first | (have hd := rdc_take hF1 x.acks.length; rw [hr1] at hd; refine s_appn (ys := x.acks.take x.acks.length) (css := css.take x.acks.length) HM rfl rfl rfl rfl hd (by simp only [List.length_take]; omega) (by simp only [List.length_take, List.length_drop, List.length_append, List.length_cons, List.length_nil]; omega) rfl ?_) | (have hd := rdc_drop (k := x.acks.length) hF1 (by omega) (by omega); rw [hr2] at hd; refine s_appn (ys := x.acks.drop x.acks.length) (css := css.drop x.acks.length) HM rfl rfl (by first | with_reducible rfl | (simp only [List.length_append, List.length_take, List.length_cons, List.length_nil]; omega)) rfl hd (by simp only [List.length_drop]; omega) (by simp only [List.length_take, List.length_drop, List.length_append, List.length_cons, List.length_nil]; omega) rfl ?_)); clear hF1; intro A1 c1 W1 HM1; clear HM; have HM := HM1; clear HM1) | (refine gL ?_; refine l_nil ?_) | (refine gN ?_; refine x_back (by exact HM.drop.drop) ?_))
          refine x_one 8 (by kernel_rfl) rfl (l' := #[true, true, true, true, true, true, true, true, true, false, true, true, true, true, false, false, false]) (by kernel_rfl) (x_go ?_)
          repeat (first | (refine gL ?_; first | (refine s_lit1 HM rfl rfl rfl ?_; intro g W1 HM1; clear HM; have HM := HM1; clear HM1) | refine l_nil ?_) | (refine gN ?_; refine x_back (by (show Mem _ _ _; exact HM.sb)) ?_))
          refine x_one 9 (by kernel_rfl) rfl (l' := #[true, true, true, true, true, true, true, true, true, true, true, true, true, true, false, false, false]) (by kernel_rfl) (x_go ?_)
          repeat (first | (refine gL ?_; first | (refine gCall ?_; (refine s_append1 HM rfl rfl (by first | with_reducible rfl | (simp only [List.length_set, List.length_append, List.length_cons, List.length_nil]; omega)) rfl rfl (by (simp only [List.length_set, List.length_append, List.length_cons, List.length_nil]; omega)) rfl ?_; intro A1 c1 W1 HM1; clear HM; have HM := HM1; clear HM1)) | refine l_nil ?_) | (refine gN ?_; refine x_back (by exact HM.drop.drop) ?_))
          refine x_one 14 (by kernel_rfl) rfl (l' := #[true, true, true, true, true, true, true, true, true, true, true, true, true, true, true, false, false]) (by kernel_rfl) (x_go ?_)
          repeat (first | (refine gL ?_; refine gCall ?_; obtain ⟨F1, hF1⟩ := HM.own (A := i.a6.1); (first | (have hd := rdc_take hF1 x.acks.length; rw [hr1] at hd; refine s_appn (ys := x.acks.take x.acks.length) (css := css.take x.acks.length) HM rfl rfl rfl rfl hd (by simp only [List.length_take]; omega) (by simp only [List.length_take, List.length_drop, List.length_append, List.length_cons, List.length_nil]; omega) rfl ?_) | (have hd := rdc_drop (k := x.acks.length) hF1 (by omega) (by omega); rw [hr2] at hd; refine s_appn (ys := x.acks.drop x.acks.length) (css := css.drop x.acks.length) HM rfl rfl (by first | with_reducible rfl | (simp only [List.length_append, List.length_take, List.length_cons, List.length_nil]; omega)) rfl hd (by simp only [List.length_drop]; omega) (by simp only [List.length_take, List.length_drop, List.length_append, List.length_cons, List.length_nil]; omega) rfl ?_)); clear hF1; intro A1 c1 W1 HM1; clear HM; have HM := HM1; clear HM1) | (refine gL ?_; refine l_nil ?_) | (refine gN ?_; refine x_back (by exact HM.drop) ?_))
          refine x_pv HQ HS 15 rfl (by kernel_rfl) (by kernel_rfl) (l' := #[true, true, true, true, true, true, true, true, true, true, true, true, true, true, true, true, false]) (by kernel_rfl) rfl ?_
          refine gGP ?_; refine gp (p_field rfl (by simp only [Nat.reduceAdd]; rfl)) ?_
          refine x_last 16 (by kernel_rfl) rfl (l' := #[true, true, true, true, true, true, true, true, true, true, true, true, true, true, true, true, true]) (by kernel_rfl) (by kernel_rfl) rfl ?_
          repeat (first | (refine gL ?_; first | (refine gStore ?_; (refine s_store HM rfl rfl rfl rfl ?_; intro W1 HM1; clear HM; have HM := HM1; clear HM1)) | refine l_nil ?_) | (refine gC ?_; refine c_seq ?_) | (refine gN ?_; refine n_then ?_))
          skip -- x_backl
          obtain ⟨ys, hy⟩ : ∃ ys : List Ack, ys = [] ++ x.acks.take x.acks.length ++ [⟨ix, []⟩] ++ x.acks.drop x.acks.length := ⟨_, rfl⟩
          rw [← hy] at HM
          obtain ⟨hyl, hya, hys⟩ := ack_ins ⟨ix, []⟩ hk hy
          have hlk : x.acks.length < ys.length := by omega
          have hyk := hya hlk
          have hfl : ys[x.acks.length].frm.length ≤ 1000 := by rw [hyk]; simp
          replace e : ackA x.acks ix f = ys.set x.acks.length ⟨ys[x.acks.length].index, addL ys[x.acks.length].frm f⟩ := by rw [hys, hyk]; exact e
          clear hy hya hys hyk
          obtain ⟨j, HM⟩ := opn_ack (HM.pk (A := own (tAck 3) 104 A1 c1 ys)) x.acks.length hlk
          replace HM := HM.perm (List.Perm.swap ..)
          repeat (first | (refine gR ?_; refine d_startd [13] [(0, 0), (0, 2), (0, 3), (0, 5), (0, 9), (1, 1), (1, 4), (0, 6), (0, 7), (1, 8), (2, 10), (0, 11), (0, 12), (3, 13)] HM (by kernel_rfl) (by kernel_rfl) (by repeat (first | exact qp_body | refine qp_then ?_ | refine qp_block ?_)) (by kernel_rfl) rfl ?_; intro HQ HS W1 HM1; clear HM; have HM := HM1; clear HM1) | (refine gGP ?_; first | refine gp (p_move rfl) ?_ | refine gp (p_field rfl (by simp only [Nat.reduceAdd]; rfl)) ?_ | refine gp (p_fieldo rfl (by simp only [Nat.reduceAdd]; rfl)) ?_ | refine gp (p_indexh HM rfl (by first | with_reducible rfl | omega) rfl (by omega) (by omega)) ?_) | (refine gGV ?_; first | refine gv (p_load rfl) ?_ | refine gv (p_loads rfl) ?_ | refine gv (p_loadh rfl rfl rfl) ?_) | (refine gL ?_; first | refine s_gv HM rfl ?_ | (refine gStore ?_; (refine s_storeh HM rfl rfl rfl rfl rfl rfl ?_; intro W1 HM1; clear HM; have HM := HM1; clear HM1; (try dsimp only at HM))) | (refine gCall ?_; (refine s_fn rfl rfl ?_; (go_at_call 79; refine (addS f (by omega) (by exact HM.pk)).mono ?_; rintro e2 W2 ⟨A2, c2, rfl, HM1⟩; refine ⟨_, rfl, ?_⟩; clear HM; have HM := HM1; clear HM1))) | refine l_nil ?_) | (refine gC ?_; first | refine c_seq ?_ | refine c_region ?_) | (refine gN ?_; first | refine n_then ?_ | refine d_back (by exact HM.drop) ?_ | refine d_backT ?_) | (refine gD ?_; refine d_next rfl ?_) | (refine gO ?_; first | refine d_gp HQ HS rfl ?_ | refine d_gv HQ HS rfl ?_ | refine d_one ?_ | refine d_last ?_) | (refine gT ?_; refine d_doneT ?_))
          have HM1 := cls_ack ((HM.pk (A := own tInt 3 A2 c2 (addL ys[x.acks.length].frm f))).pk (A := hol (tAck 3) 104 A1 c1 ys x.acks.length [.int .i64 ys[x.acks.length].index, .slice A2 (addL ys[x.acks.length].frm f).length c2]))
          clear HM; have HM := HM1; clear HM1
          rw [← e] at HM
          have el : ys.length = (ackA x.acks ix f).length := by rw [e, List.length_set]
          simp only [el] at HM ⊢
          have hl1 := ackA_len x.acks ix f
          have hl2 := ackA_frm x.acks ix f 1000 has
          rw [show ackL x ix f = advL { x with acks := ackA x.acks ix f } from rfl]
          obtain ⟨bs, hA⟩ : ∃ bs, bs = ackA x.acks ix f := ⟨_, rfl⟩
          rw [← hA] at HM hl1 hl2 ⊢
          clear e el hA
          repeat (first | (refine gL ?_; first | (refine gStore ?_; (refine s_store HM rfl rfl rfl rfl ?_; intro W1 HM1; clear HM; have HM := HM1; clear HM1)) | (refine gCall ?_; (refine s_fn rfl rfl ?_; (go_at_call 114; refine (advS { x with acks := bs } ⟨i.a0, i.a1, i.a2, i.a3, i.a4, i.a5, (A1, c1)⟩ h0 h1 hn (by simp only; omega) (fun a ha => Nat.le_trans (hl2 a ha) (by omega)) (by exact pk_rec HM)).mono ?_; rintro e2 W2 ⟨j2, rfl, HM1⟩; refine ⟨_, rfl, ?_⟩; clear HM; have HM := HM1; clear HM1; simp only [partRcd, List.cons_append, List.nil_append] at HM; simp only [encRcd]))) | refine l_nil ?_) | (refine gC ?_; refine c_ret ?_) | (refine gN ?_; refine n_then ?_))
          exact ret_cell HM rfl rfl rfl ⟨j2, rfl, by simp only [partRcd, List.cons_append, List.nil_append]; exact HM.sb⟩
        · repeat (first | (refine gL ?_; first | (refine s_lit1 HM rfl rfl rfl ?_; intro g W1 HM1; clear HM; have HM := HM1; clear HM1) | refine l_nil ?_) | (refine gN ?_; refine x_back (by (show Mem _ _ _; exact HM.sb)) ?_))
          refine x_one 5 (by kernel_rfl) rfl (l' := #[true, true, true, true, true, true, true, true, true, false, true, true, true, true, false, false, false]) (by kernel_rfl) (x_go ?_)
          repeat (first | (refine gL ?_; refine gCall ?_; obtain ⟨F1, hF1⟩ := HM.own (A := i.a6.1); (first | (have hd := rdc_take hF1 x.acks.length; rw [hr1] at hd; refine s_appn (ys := x.acks.take x.acks.length) (css := css.take x.acks.length) HM rfl rfl rfl rfl hd (by simp only [List.length_take]; omega) (by simp only [List.length_take, List.length_drop, List.length_append, List.length_cons, List.length_nil]; omega) rfl ?_) | (have hd := rdc_drop (k := x.acks.length) hF1 (by omega) (by omega); rw [hr2] at hd; refine s_appn (ys := x.acks.drop x.acks.length) (css := css.drop x.acks.length) HM rfl rfl (by first | with_reducible rfl | (simp only [List.length_append, List.length_take, List.length_cons, List.length_nil]; omega)) rfl hd (by simp only [List.length_drop]; omega) (by simp only [List.length_take, List.length_drop, List.length_append, List.length_cons, List.length_nil]; omega) rfl ?_)); clear hF1; intro A1 c1 W1 HM1; clear HM; have HM := HM1; clear HM1) | (refine gL ?_; refine l_nil ?_) | (refine gN ?_; refine x_back (by (show Mem _ _ _; exact HM.sb)) ?_))
          refine x_one 9 (by kernel_rfl) rfl (l' := #[true, true, true, true, true, true, true, true, true, true, true, true, true, true, false, false, false]) (by kernel_rfl) (x_go ?_)
          repeat (first | (refine gL ?_; first | (refine gCall ?_; (refine s_append1 HM rfl rfl (by first | with_reducible rfl | (simp only [List.length_set, List.length_append, List.length_cons, List.length_nil]; omega)) rfl rfl (by (simp only [List.length_set, List.length_append, List.length_cons, List.length_nil]; omega)) rfl ?_; intro A1 c1 W1 HM1; clear HM; have HM := HM1; clear HM1)) | refine l_nil ?_) | (refine gN ?_; refine x_back (by exact HM.drop.drop) ?_))
          refine x_one 14 (by kernel_rfl) rfl (l' := #[true, true, true, true, true, true, true, true, true, true, true, true, true, true, true, false, false]) (by kernel_rfl) (x_go ?_)
          repeat (first | (refine gL ?_; refine gCall ?_; obtain ⟨F1, hF1⟩ := HM.own (A := i.a6.1); (first | (have hd := rdc_take hF1 x.acks.length; rw [hr1] at hd; refine s_appn (ys := x.acks.take x.acks.length) (css := css.take x.acks.length) HM rfl rfl rfl rfl hd (by simp only [List.length_take]; omega) (by simp only [List.length_take, List.length_drop, List.length_append, List.length_cons, List.length_nil]; omega) rfl ?_) | (have hd := rdc_drop (k := x.acks.length) hF1 (by omega) (by omega); rw [hr2] at hd; refine s_appn (ys := x.acks.drop x.acks.length) (css := css.drop x.acks.length) HM rfl rfl (by first | with_reducible rfl | (simp only [List.length_append, List.length_take, List.length_cons, List.length_nil]; omega)) rfl hd (by simp only [List.length_drop]; omega) (by simp only [List.length_take, List.length_drop, List.length_append, List.length_cons, List.length_nil]; omega) rfl ?_)); clear hF1; intro A1 c1 W1 HM1; clear HM; have HM := HM1; clear HM1) | (refine gL ?_; refine l_nil ?_) | (refine gN ?_; refine x_back (by exact HM.drop) ?_))
          refine x_pv HQ HS 15 rfl (by kernel_rfl) (by kernel_rfl) (l' := #[true, true, true, true, true, true, true, true, true, true, true, true, true, true, true, true, false]) (by kernel_rfl) rfl ?_
          refine gGP ?_; refine gp (p_field rfl (by simp only [Nat.reduceAdd]; rfl)) ?_
          refine x_last 16 (by kernel_rfl) rfl (l' := #[true, true, true, true, true, true, true, true, true, true, true, true, true, true, true, true, true]) (by kernel_rfl) (by kernel_rfl) rfl ?_
          repeat (first | (refine gL ?_; first | (refine gStore ?_; (refine s_store HM rfl rfl rfl rfl ?_; intro W1 HM1; clear HM; have HM := HM1; clear HM1)) | refine l_nil ?_) | (refine gC ?_; refine c_seq ?_) | (refine gN ?_; refine n_then ?_))
          skip -- x_backl
          obtain ⟨ys, hy⟩ : ∃ ys : List Ack, ys = [] ++ x.acks.take x.acks.length ++ [⟨ix, []⟩] ++ x.acks.drop x.acks.length := ⟨_, rfl⟩
          rw [← hy] at HM
          obtain ⟨hyl, hya, hys⟩ := ack_ins ⟨ix, []⟩ hk hy
          have hlk : x.acks.length < ys.length := by omega
          have hyk := hya hlk
          have hfl : ys[x.acks.length].frm.length ≤ 1000 := by rw [hyk]; simp
          replace e : ackA x.acks ix f = ys.set x.acks.length ⟨ys[x.acks.length].index, addL ys[x.acks.length].frm f⟩ := by rw [hys, hyk]; exact e
          clear hy hya hys hyk
          obtain ⟨j, HM⟩ := opn_ack (HM.pk (A := own (tAck 3) 104 A1 c1 ys)) x.acks.length hlk
          replace HM := HM.perm (List.Perm.swap ..)
          repeat (first | (refine gR ?_; refine d_startd [13] [(0, 0), (0, 2), (0, 3), (0, 5), (0, 9), (1, 1), (1, 4), (0, 6), (0, 7), (1, 8), (2, 10), (0, 11), (0, 12), (3, 13)] HM (by kernel_rfl) (by kernel_rfl) (by repeat (first | exact qp_body | refine qp_then ?_ | refine qp_block ?_)) (by kernel_rfl) rfl ?_; intro HQ HS W1 HM1; clear HM; have HM := HM1; clear HM1) | (refine gGP ?_; first | refine gp (p_move rfl) ?_ | refine gp (p_field rfl (by simp only [Nat.reduceAdd]; rfl)) ?_ | refine gp (p_fieldo rfl (by simp only [Nat.reduceAdd]; rfl)) ?_ | refine gp (p_indexh HM rfl (by first | with_reducible rfl | omega) rfl (by omega) (by omega)) ?_) | (refine gGV ?_; first | refine gv (p_load rfl) ?_ | refine gv (p_loads rfl) ?_ | refine gv (p_loadh rfl rfl rfl) ?_) | (refine gL ?_; first | refine s_gv HM rfl ?_ | (refine gStore ?_; (refine s_storeh HM rfl rfl rfl rfl rfl rfl ?_; intro W1 HM1; clear HM; have HM := HM1; clear HM1; (try dsimp only at HM))) | (refine gCall ?_; (refine s_fn rfl rfl ?_; (go_at_call 79; refine (addS f (by omega) (by exact HM.pk)).mono ?_; rintro e2 W2 ⟨A2, c2, rfl, HM1⟩; refine ⟨_, rfl, ?_⟩; clear HM; have HM := HM1; clear HM1))) | refine l_nil ?_) | (refine gC ?_; first | refine c_seq ?_ | refine c_region ?_) | (refine gN ?_; first | refine n_then ?_ | refine d_back (by exact HM.drop) ?_ | refine d_backT ?_) | (refine gD ?_; refine d_next rfl ?_) | (refine gO ?_; first | refine d_gp HQ HS rfl ?_ | refine d_gv HQ HS rfl ?_ | refine d_one ?_ | refine d_last ?_) | (refine gT ?_; refine d_doneT ?_))
          have HM1 := cls_ack ((HM.pk (A := own tInt 3 A2 c2 (addL ys[x.acks.length].frm f))).pk (A := hol (tAck 3) 104 A1 c1 ys x.acks.length [.int .i64 ys[x.acks.length].index, .slice A2 (addL ys[x.acks.length].frm f).length c2]))
          clear HM; have HM := HM1; clear HM1
          rw [← e] at HM
          have el : ys.length = (ackA x.acks ix f).length := by rw [e, List.length_set]
          simp only [el] at HM ⊢
          have hl1 := ackA_len x.acks ix f
          have hl2 := ackA_frm x.acks ix f 1000 has
          rw [show ackL x ix f = advL { x with acks := ackA x.acks ix f } from rfl]
          obtain ⟨bs, hA⟩ : ∃ bs, bs = ackA x.acks ix f := ⟨_, rfl⟩
          rw [← hA] at HM hl1 hl2 ⊢
          clear e el hA
          repeat (first | (refine gL ?_; first | (refine gStore ?_; (refine s_store HM rfl rfl rfl rfl ?_; intro W1 HM1; clear HM; have HM := HM1; clear HM1)) | (refine gCall ?_; (refine s_fn rfl rfl ?_; (go_at_call 114; refine (advS { x with acks := bs } ⟨i.a0, i.a1, i.a2, i.a3, i.a4, i.a5, (A1, c1)⟩ h0 h1 hn (by simp only; omega) (fun a ha => Nat.le_trans (hl2 a ha) (by omega)) (by exact pk_rec HM)).mono ?_; rintro e2 W2 ⟨j2, rfl, HM1⟩; refine ⟨_, rfl, ?_⟩; clear HM; have HM := HM1; clear HM1; simp only [partRcd, List.cons_append, List.nil_append] at HM; simp only [encRcd]))) | refine l_nil ?_) | (refine gC ?_; refine c_ret ?_) | (refine gN ?_; refine n_then ?_))
          exact ret_cell HM rfl rfl rfl ⟨j2, rfl, by simp only [partRcd, List.cons_append, List.nil_append]; exact HM.sb⟩
    · repeat (first | (refine gGP ?_; refine gp (p_build rfl) ?_) | (refine gL ?_; first | refine s_gp rfl rfl ?_ | refine l_nil ?_) | (refine gN ?_; refine x_back (by exact HM.drop.drop) ?_))
      refine x_two 0 8 (by kernel_rfl) rfl rfl (l' := #[true, true, true, true, true, false, true, true, false, false, true, true, true, true, false, false, false]) (l'' := #[false, true, true, true, true, false, true, true, true, false, true, true, true, true, false, false, false]) (by kernel_rfl) (by kernel_rfl) (x_go ?_) (x_go ?_)
      · repeat (first | (refine gL ?_; first | (refine s_lit0a HM rfl rfl ?_; intro A1 W1 HM1; clear HM; have HM := HM1; clear HM1) | refine l_nil ?_) | (refine gN ?_; refine x_back (by (show Mem _ _ _; exact HM.sb)) ?_))
        refine x_two 5 8 (by kernel_rfl) rfl rfl (l' := #[true, true, true, true, true, true, true, true, false, false, true, true, true, true, false, false, false]) (l'' := #[true, true, true, true, true, false, true, true, true, false, true, true, true, true, false, false, false]) (by kernel_rfl) (by kernel_rfl) (x_go ?_) (x_go ?_)
        · repeat (first | (refine gL ?_; refine gCall ?_; obtain ⟨F1, hF1⟩ := HM.own (A := i.a6.1); (first | (have hd := rdc_take hF1 x.acks.length; rw [hr1] at hd; refine s_appn (ys := x.acks.take x.acks.length) (css := css.take x.acks.length) HM rfl rfl rfl rfl hd (by simp only [List.length_take]; omega) (by simp only [List.length_take, List.length_drop, List.length_append, List.length_cons, List.length_nil]; omega) rfl ?_) | (have hd := rdc_drop (k := x.acks.length) hF1 (by omega) (by omega); rw [hr2] at hd; refine s_appn (ys := x.acks.drop x.acks.length) (css := css.drop x.acks.length) HM rfl rfl (by first | with_reducible rfl | (simp only [List.length_append, List.length_take, List.length_cons, List.length_nil]; omega)) rfl hd (by simp only [List.length_drop]; omega) (by simp only [List.length_take, List.length_drop, List.length_append, List.length_cons, List.length_nil]; omega) rfl ?_)); clear hF1; intro A1 c1 W1 HM1; clear HM; have HM := HM1; clear HM1) | (refine gL ?_; refine l_nil ?_) | (refine gN ?_; refine x_back (by exact HM.drop.drop) ?_))
          refine x_one 8 (by kernel_rfl) rfl (l' := #[true, true, true, true, true, true, true, true, true, false, true, true, true, true, false, false, false]) (by kernel_rfl) (x_go ?_)
          repeat (first | (refine gL ?_; first | (refine s_lit1 HM rfl rfl rfl ?_; intro g W1 HM1; clear HM; have HM := HM1; clear HM1) | refine l_nil ?_) | (refine gN ?_; refine x_back (by (show Mem _ _ _; exact HM.sb)) ?_))
          refine x_one 9 (by kernel_rfl) rfl (l' := #[true, true, true, true, true, true, true, true, true, true, true, true, true, true, false, false, false]) (by kernel_rfl) (x_go ?_)
          repeat (first | (refine gL ?_; first | (refine gCall ?_; (refine s_append1 HM rfl rfl (by first | with_reducible rfl | (simp only [List.length_set, List.length_append, List.length_cons, List.length_nil]; omega)) rfl rfl (by (simp only [List.length_set, List.length_append, List.length_cons, List.length_nil]; omega)) rfl ?_; intro A1 c1 W1 HM1; clear HM; have HM := HM1; clear HM1)) | refine l_nil ?_) | (refine gN ?_; refine x_back (by exact HM.drop.drop) ?_))
          refine x_one 14 (by kernel_rfl) rfl (l' := #[true, true, true, true, true, true, true, true, true, true, true, true, true, true, true, false, false]) (by kernel_rfl) (x_go ?_)
          repeat (first | (refine gL ?_; refine gCall ?_; obtain ⟨F1, hF1⟩ := HM.own (A := i.a6.1); (first | (have hd := rdc_take hF1 x.acks.length; rw [hr1] at hd; refine s_appn (ys := x.acks.take x.acks.length) (css := css.take x.acks.length) HM rfl rfl rfl rfl hd (by simp only [List.length_take]; omega) (by simp only [List.length_take, List.length_drop, List.length_append, List.length_cons, List.length_nil]; omega) rfl ?_) | (have hd := rdc_drop (k := x.acks.length) hF1 (by omega) (by omega); rw [hr2] at hd; refine s_appn (ys := x.acks.drop x.acks.length) (css := css.drop x.acks.length) HM rfl rfl (by first | with_reducible rfl | (simp only [List.length_append, List.length_take, List.length_cons, List.length_nil]; omega)) rfl hd (by simp only [List.length_drop]; omega) (by simp only [List.length_take, List.length_drop, List.length_append, List.length_cons, List.length_nil]; omega) rfl ?_)); clear hF1; intro A1 c1 W1 HM1; clear HM; have HM := HM1; clear HM1) | (refine gL ?_; refine l_nil ?_) | (refine gN ?_; refine x_back (by exact HM.drop) ?_))
          refine x_pv HQ HS 15 rfl (by kernel_rfl) (by kernel_rfl) (l' := #[true, true, true, true, true, true, true, true, true, true, true, true, true, true, true, true, false]) (by kernel_rfl) rfl ?_
          refine gGP ?_; refine gp (p_field rfl (by simp only [Nat.reduceAdd]; rfl)) ?_
          refine x_last 16 (by kernel_rfl) rfl (l' := #[true, true, true, true, true, true, true, true, true, true, true, true, true, true, true, true, true]) (by kernel_rfl) (by kernel_rfl) rfl ?_
          repeat (first | (refine gL ?_; first | (refine gStore ?_; (refine s_store HM rfl rfl rfl rfl ?_; intro W1 HM1; clear HM; have HM := HM1; clear HM1)) | refine l_nil ?_) | (refine gC ?_; refine c_seq ?_) | (refine gN ?_; refine n_then ?_))
          skip -- x_backl
          obtain ⟨ys, hy⟩ : ∃ ys : List Ack, ys = [] ++ x.acks.take x.acks.length ++ [⟨ix, []⟩] ++ x.acks.drop x.acks.length := ⟨_, rfl⟩
          rw [← hy] at HM
          obtain ⟨hyl, hya, hys⟩ := ack_ins ⟨ix, []⟩ hk hy
          have hlk : x.acks.length < ys.length := by omega
          have hyk := hya hlk
          have hfl : ys[x.acks.length].frm.length ≤ 1000 := by rw [hyk]; simp
          replace e : ackA x.acks ix f = ys.set x.acks.length ⟨ys[x.acks.length].index, addL ys[x.acks.length].frm f⟩ := by rw [hys, hyk]; exact e
          clear hy hya hys hyk
          obtain ⟨j, HM⟩ := opn_ack (HM.pk (A := own (tAck 3) 104 A1 c1 ys)) x.acks.length hlk
          replace HM := HM.perm (List.Perm.swap ..)
          repeat (first | (refine gR ?_; refine d_startd [13] [(0, 0), (0, 2), (0, 3), (0, 5), (0, 9), (1, 1), (1, 4), (0, 6), (0, 7), (1, 8), (2, 10), (0, 11), (0, 12), (3, 13)] HM (by kernel_rfl) (by kernel_rfl) (by repeat (first | exact qp_body | refine qp_then ?_ | refine qp_block ?_)) (by kernel_rfl) rfl ?_; intro HQ HS W1 HM1; clear HM; have HM := HM1; clear HM1) | (refine gGP ?_; first | refine gp (p_move rfl) ?_ | refine gp (p_field rfl (by simp only [Nat.reduceAdd]; rfl)) ?_ | refine gp (p_fieldo rfl (by simp only [Nat.reduceAdd]; rfl)) ?_ | refine gp (p_indexh HM rfl (by first | with_reducible rfl | omega) rfl (by omega) (by omega)) ?_) | (refine gGV ?_; first | refine gv (p_load rfl) ?_ | refine gv (p_loads rfl) ?_ | refine gv (p_loadh rfl rfl rfl) ?_) | (refine gL ?_; first | refine s_gv HM rfl ?_ | (refine gStore ?_; (refine s_storeh HM rfl rfl rfl rfl rfl rfl ?_; intro W1 HM1; clear HM; have HM := HM1; clear HM1; (try dsimp only at HM))) | (refine gCall ?_; (refine s_fn rfl rfl ?_; (go_at_call 79; refine (addS f (by omega) (by exact HM.pk)).mono ?_; rintro e2 W2 ⟨A2, c2, rfl, HM1⟩; refine ⟨_, rfl, ?_⟩; clear HM; have HM := HM1; clear HM1))) | refine l_nil ?_) | (refine gC ?_; first | refine c_seq ?_ | refine c_region ?_) | (refine gN ?_; first | refine n_then ?_ | refine d_back (by exact HM.drop) ?_ | refine d_backT ?_) | (refine gD ?_; refine d_next rfl ?_) | (refine gO ?_; first | refine d_gp HQ HS rfl ?_ | refine d_gv HQ HS rfl ?_ | refine d_one ?_ | refine d_last ?_) | (refine gT ?_; refine d_doneT ?_))
          have HM1 := cls_ack ((HM.pk (A := own tInt 3 A2 c2 (addL ys[x.acks.length].frm f))).pk (A := hol (tAck 3) 104 A1 c1 ys x.acks.length [.int .i64 ys[x.acks.length].index, .slice A2 (addL ys[x.acks.length].frm f).length c2]))
          clear HM; have HM := HM1; clear HM1
          rw [← e] at HM
          have el : ys.length = (ackA x.acks ix f).length := by rw [e, List.length_set]
          simp only [el] at HM ⊢
          have hl1 := ackA_len x.acks ix f
          have hl2 := ackA_frm x.acks ix f 1000 has
          rw [show ackL x ix f = advL { x with acks := ackA x.acks ix f } from rfl]
          obtain ⟨bs, hA⟩ : ∃ bs, bs = ackA x.acks ix f := ⟨_, rfl⟩
          rw [← hA] at HM hl1 hl2 ⊢
          clear e el hA
          repeat (first | (refine gL ?_; first | (refine gStore ?_; (refine s_store HM rfl rfl rfl rfl ?_; intro W1 HM1; clear HM; have HM := HM1; clear HM1)) | (refine gCall ?_; (refine s_fn rfl rfl ?_; (go_at_call 114; refine (advS { x with acks := bs } ⟨i.a0, i.a1, i.a2, i.a3, i.a4, i.a5, (A1, c1)⟩ h0 h1 hn (by simp only; omega) (fun a ha => Nat.le_trans (hl2 a ha) (by omega)) (by exact pk_rec HM)).mono ?_; rintro e2 W2 ⟨j2, rfl, HM1⟩; refine ⟨_, rfl, ?_⟩; clear HM; have HM := HM1; clear HM1; simp only [partRcd, List.cons_append, List.nil_append] at HM; simp only [encRcd]))) | refine l_nil ?_) | (refine gC ?_; refine c_ret ?_) | (refine gN ?_; refine n_then ?_))
          exact ret_cell HM rfl rfl rfl ⟨j2, rfl, by simp only [partRcd, List.cons_append, List.nil_append]; exact HM.sb⟩
        · repeat (first | (refine gL ?_; first | (refine s_lit1 HM rfl rfl rfl ?_; intro g W1 HM1; clear HM; have HM := HM1; clear HM1) | refine l_nil ?_) | (refine gN ?_; refine x_back (by (show Mem _ _ _; exact HM.sb)) ?_))
          refine x_one 5 (by kernel_rfl) rfl (l' := #[true, true, true, true, true, true, true, true, true, false, true, true, true, true, false, false, false]) (by kernel_rfl) (x_go ?_)
          repeat (first | (refine gL ?_; refine gCall ?_; obtain ⟨F1, hF1⟩ := HM.own (A := i.a6.1); (first | (have hd := rdc_take hF1 x.acks.length; rw [hr1] at hd; refine s_appn (ys := x.acks.take x.acks.length) (css := css.take x.acks.length) HM rfl rfl rfl rfl hd (by simp only [List.length_take]; omega) (by simp only [List.length_take, List.length_drop, List.length_append, List.length_cons, List.length_nil]; omega) rfl ?_) | (have hd := rdc_drop (k := x.acks.length) hF1 (by omega) (by omega); rw [hr2] at hd; refine s_appn (ys := x.acks.drop x.acks.length) (css := css.drop x.acks.length) HM rfl rfl (by first | with_reducible rfl | (simp only [List.length_append, List.length_take, List.length_cons, List.length_nil]; omega)) rfl hd (by simp only [List.length_drop]; omega) (by simp only [List.length_take, List.length_drop, List.length_append, List.length_cons, List.length_nil]; omega) rfl ?_)); clear hF1; intro A1 c1 W1 HM1; clear HM; have HM := HM1; clear HM1) | (refine gL ?_; refine l_nil ?_) | (refine gN ?_; refine x_back (by (show Mem _ _ _; exact HM.sb)) ?_))
          refine x_one 9 (by kernel_rfl) rfl (l' := #[true, true, true, true, true, true, true, true, true, true, true, true, true, true, false, false, false]) (by kernel_rfl) (x_go ?_)
          repeat (first | (refine gL ?_; first | (refine gCall ?_; (refine s_append1 HM rfl rfl (by first | with_reducible rfl | (simp only [List.length_set, List.length_append, List.length_cons, List.length_nil]; omega)) rfl rfl (by (simp only [List.length_set, List.length_append, List.length_cons, List.length_nil]; omega)) rfl ?_; intro A1 c1 W1 HM1; clear HM; have HM := HM1; clear HM1)) | refine l_nil ?_) | (refine gN ?_; refine x_back (by exact HM.drop.drop) ?_))
          refine x_one 14 (by kernel_rfl) rfl (l' := #[true, true, true, true, true, true, true, true, true, true, true, true, true, true, true, false, false]) (by kernel_rfl) (x_go ?_)
          repeat (first | (refine gL ?_; refine gCall ?_; obtain ⟨F1, hF1⟩ := HM.own (A := i.a6.1); (first | (have hd := rdc_take hF1 x.acks.length; rw [hr1] at hd; refine s_appn (ys := x.acks.take x.acks.length) (css := css.take x.acks.length) HM rfl rfl rfl rfl hd (by simp only [List.length_take]; omega) (by simp only [List.length_take, List.length_drop, List.length_append, List.length_cons, List.length_nil]; omega) rfl ?_) | (have hd := rdc_drop (k := x.acks.length) hF1 (by omega) (by omega); rw [hr2] at hd; refine s_appn (ys := x.acks.drop x.acks.length) (css := css.drop x.acks.length) HM rfl rfl (by first | with_reducible rfl | (simp only [List.length_append, List.length_take, List.length_cons, List.length_nil]; omega)) rfl hd (by simp only [List.length_drop]; omega) (by simp only [List.length_take, List.length_drop, List.length_append, List.length_cons, List.length_nil]; omega) rfl ?_)); clear hF1; intro A1 c1 W1 HM1; clear HM; have HM := HM1; clear HM1) | (refine gL ?_; refine l_nil ?_) | (refine gN ?_; refine x_back (by exact HM.drop) ?_))
          refine x_pv HQ HS 15 rfl (by kernel_rfl) (by kernel_rfl) (l' := #[true, true, true, true, true, true, true, true, true, true, true, true, true, true, true, true, false]) (by kernel_rfl) rfl ?_
          refine gGP ?_; refine gp (p_field rfl (by simp only [Nat.reduceAdd]; rfl)) ?_
          refine x_last 16 (by kernel_rfl) rfl (l' := #[true, true, true, true, true, true, true, true, true, true, true, true, true, true, true, true, true]) (by kernel_rfl) (by kernel_rfl) rfl ?_
          repeat (first | (refine gL ?_; first | (refine gStore ?_; (refine s_store HM rfl rfl rfl rfl ?_; intro W1 HM1; clear HM; have HM := HM1; clear HM1)) | refine l_nil ?_) | (refine gC ?_; refine c_seq ?_) | (refine gN ?_; refine n_then ?_))
          skip -- x_backl
          obtain ⟨ys, hy⟩ : ∃ ys : List Ack, ys = [] ++ x.acks.take x.acks.length ++ [⟨ix, []⟩] ++ x.acks.drop x.acks.length := ⟨_, rfl⟩
          rw [← hy] at HM
          obtain ⟨hyl, hya, hys⟩ := ack_ins ⟨ix, []⟩ hk hy
          have hlk : x.acks.length < ys.length := by omega
          have hyk := hya hlk
          have hfl : ys[x.acks.length].frm.length ≤ 1000 := by rw [hyk]; simp
          replace e : ackA x.acks ix f = ys.set x.acks.length ⟨ys[x.acks.length].index, addL ys[x.acks.length].frm f⟩ := by rw [hys, hyk]; exact e
          clear hy hya hys hyk
          obtain ⟨j, HM⟩ := opn_ack (HM.pk (A := own (tAck 3) 104 A1 c1 ys)) x.acks.length hlk
          replace HM := HM.perm (List.Perm.swap ..)
          repeat (first | (refine gR ?_; refine d_startd [13] [(0, 0), (0, 2), (0, 3), (0, 5), (0, 9), (1, 1), (1, 4), (0, 6), (0, 7), (1, 8), (2, 10), (0, 11), (0, 12), (3, 13)] HM (by kernel_rfl) (by kernel_rfl) (by repeat (first | exact qp_body | refine qp_then ?_ | refine qp_block ?_)) (by kernel_rfl) rfl ?_; intro HQ HS W1 HM1; clear HM; have HM := HM1; clear HM1) | (refine gGP ?_; first | refine gp (p_move rfl) ?_ | refine gp (p_field rfl (by simp only [Nat.reduceAdd]; rfl)) ?_ | refine gp (p_fieldo rfl (by simp only [Nat.reduceAdd]; rfl)) ?_ | refine gp (p_indexh HM rfl (by first | with_reducible rfl | omega) rfl (by omega) (by omega)) ?_) | (refine gGV ?_; first | refine gv (p_load rfl) ?_ | refine gv (p_loads rfl) ?_ | refine gv (p_loadh rfl rfl rfl) ?_) | (refine gL ?_; first | refine s_gv HM rfl ?_ | (refine gStore ?_; (refine s_storeh HM rfl rfl rfl rfl rfl rfl ?_; intro W1 HM1; clear HM; have HM := HM1; clear HM1; (try dsimp only at HM))) | (refine gCall ?_; (refine s_fn rfl rfl ?_; (go_at_call 79; refine (addS f (by omega) (by exact HM.pk)).mono ?_; rintro e2 W2 ⟨A2, c2, rfl, HM1⟩; refine ⟨_, rfl, ?_⟩; clear HM; have HM := HM1; clear HM1))) | refine l_nil ?_) | (refine gC ?_; first | refine c_seq ?_ | refine c_region ?_) | (refine gN ?_; first | refine n_then ?_ | refine d_back (by exact HM.drop) ?_ | refine d_backT ?_) | (refine gD ?_; refine d_next rfl ?_) | (refine gO ?_; first | refine d_gp HQ HS rfl ?_ | refine d_gv HQ HS rfl ?_ | refine d_one ?_ | refine d_last ?_) | (refine gT ?_; refine d_doneT ?_))
          have HM1 := cls_ack ((HM.pk (A := own tInt 3 A2 c2 (addL ys[x.acks.length].frm f))).pk (A := hol (tAck 3) 104 A1 c1 ys x.acks.length [.int .i64 ys[x.acks.length].index, .slice A2 (addL ys[x.acks.length].frm f).length c2]))
          clear HM; have HM := HM1; clear HM1
          rw [← e] at HM
          have el : ys.length = (ackA x.acks ix f).length := by rw [e, List.length_set]
          simp only [el] at HM ⊢
          have hl1 := ackA_len x.acks ix f
          have hl2 := ackA_frm x.acks ix f 1000 has
          rw [show ackL x ix f = advL { x with acks := ackA x.acks ix f } from rfl]
          obtain ⟨bs, hA⟩ : ∃ bs, bs = ackA x.acks ix f := ⟨_, rfl⟩
          rw [← hA] at HM hl1 hl2 ⊢
          clear e el hA
          repeat (first | (refine gL ?_; first | (refine gStore ?_; (refine s_store HM rfl rfl rfl rfl ?_; intro W1 HM1; clear HM; have HM := HM1; clear HM1)) | (refine gCall ?_; (refine s_fn rfl rfl ?_; (go_at_call 114; refine (advS { x with acks := bs } ⟨i.a0, i.a1, i.a2, i.a3, i.a4, i.a5, (A1, c1)⟩ h0 h1 hn (by simp only; omega) (fun a ha => Nat.le_trans (hl2 a ha) (by omega)) (by exact pk_rec HM)).mono ?_; rintro e2 W2 ⟨j2, rfl, HM1⟩; refine ⟨_, rfl, ?_⟩; clear HM; have HM := HM1; clear HM1; simp only [partRcd, List.cons_append, List.nil_append] at HM; simp only [encRcd]))) | refine l_nil ?_) | (refine gC ?_; refine c_ret ?_) | (refine gN ?_; refine n_then ?_))
          exact ret_cell HM rfl rfl rfl ⟨j2, rfl, by simp only [partRcd, List.cons_append, List.nil_append]; exact HM.sb⟩
      · repeat (first | (refine gL ?_; first | (refine s_lit1 HM rfl rfl rfl ?_; intro g W1 HM1; clear HM; have HM := HM1; clear HM1) | refine l_nil ?_) | (refine gN ?_; refine x_back (by (show Mem _ _ _; exact HM.sb)) ?_))
        refine x_one 0 (by kernel_rfl) rfl (l' := #[true, true, true, true, true, false, true, true, true, false, true, true, true, true, false, false, false]) (by kernel_rfl) (x_go ?_)
        repeat (first | (refine gL ?_; first | (refine s_lit0a HM rfl rfl ?_; intro A1 W1 HM1; clear HM; have HM := HM1; clear HM1) | refine l_nil ?_) | (refine gN ?_; refine x_back (by (show Mem _ _ _; exact HM.sb)) ?_))
        refine x_one 5 (by kernel_rfl) rfl (l' := #[true, true, true, true, true, true, true, true, true, false, true, true, true, true, false, false, false]) (by kernel_rfl) (x_go ?_)
        repeat (first | (refine gL ?_; refine gCall ?_; obtain ⟨F1, hF1⟩ := HM.own (A := i.a6.1); (first | (have hd := rdc_take hF1 x.acks.length; rw [hr1] at hd; refine s_appn (ys := x.acks.take x.acks.length) (css := css.take x.acks.length) HM rfl rfl rfl rfl hd (by simp only [List.length_take]; omega) (by simp only [List.length_take, List.length_drop, List.length_append, List.length_cons, List.length_nil]; omega) rfl ?_) | (have hd := rdc_drop (k := x.acks.length) hF1 (by omega) (by omega); rw [hr2] at hd; refine s_appn (ys := x.acks.drop x.acks.length) (css := css.drop x.acks.length) HM rfl rfl (by first | with_reducible rfl | (simp only [List.length_append, List.length_take, List.length_cons, List.length_nil]; omega)) rfl hd (by simp only [List.length_drop]; omega) (by simp only [List.length_take, List.length_drop, List.length_append, List.length_cons, List.length_nil]; omega) rfl ?_)); clear hF1; intro A1 c1 W1 HM1; clear HM; have HM := HM1; clear HM1) | (refine gL ?_; refine l_nil ?_) | (refine gN ?_; refine x_back (by (show Mem _ _ _; exact HM.sb)) ?_))
        refine x_one 9 (by kernel_rfl) rfl (l' := #[true, true, true, true, true, true, true, true, true, true, true, true, true, true, false, false, false]) (by kernel_rfl) (x_go ?_)
        repeat (first | (refine gL ?_; first | (refine gCall ?_; (refine s_append1 HM rfl rfl (by first | with_reducible rfl | (simp only [List.length_set, List.length_append, List.length_cons, List.length_nil]; omega)) rfl rfl (by (simp only [List.length_set, List.length_append, List.length_cons, List.length_nil]; omega)) rfl ?_; intro A1 c1 W1 HM1; clear HM; have HM := HM1; clear HM1)) | refine l_nil ?_) | (refine gN ?_; refine x_back (by exact HM.drop.drop) ?_))
        refine x_one 14 (by kernel_rfl) rfl (l' := #[true, true, true, true, true, true, true, true, true, true, true, true, true, true, true, false, false]) (by kernel_rfl) (x_go ?_)
        repeat (first | (refine gL ?_; refine gCall ?_; obtain ⟨F1, hF1⟩ := HM.own (A := i.a6.1); (first | (have hd := rdc_take hF1 x.acks.length; rw [hr1] at hd; refine s_appn (ys := x.acks.take x.acks.length) (css := css.take x.acks.length) HM rfl rfl rfl rfl hd (by simp only [List.length_take]; omega) (by simp only [List.length_take, List.length_drop, List.length_append, List.length_cons, List.length_nil]; omega) rfl ?_) | (have hd := rdc_drop (k := x.acks.length) hF1 (by omega) (by omega); rw [hr2] at hd; refine s_appn (ys := x.acks.drop x.acks.length) (css := css.drop x.acks.length) HM rfl rfl (by first | with_reducible rfl | (simp only [List.length_append, List.length_take, List.length_cons, List.length_nil]; omega)) rfl hd (by simp only [List.length_drop]; omega) (by simp only [List.length_take, List.length_drop, List.length_append, List.length_cons, List.length_nil]; omega) rfl ?_)); clear hF1; intro A1 c1 W1 HM1; clear HM; have HM := HM1; clear HM1) | (refine gL ?_; refine l_nil ?_) | (refine gN ?_; refine x_back (by exact HM.drop) ?_))
        refine x_pv HQ HS 15 rfl (by kernel_rfl) (by kernel_rfl) (l' := #[true, true, true, true, true, true, true, true, true, true, true, true, true, true, true, true, false]) (by kernel_rfl) rfl ?_
        refine gGP ?_; refine gp (p_field rfl (by simp only [Nat.reduceAdd]; rfl)) ?_
        refine x_last 16 (by kernel_rfl) rfl (l' := #[true, true, true, true, true, true, true, true, true, true, true, true, true, true, true, true, true]) (by kernel_rfl) (by kernel_rfl) rfl ?_
        repeat (first | (refine gL ?_; first | (refine gStore ?_; (refine s_store HM rfl rfl rfl rfl ?_; intro W1 HM1; clear HM; have HM := HM1; clear HM1)) | refine l_nil ?_) | (refine gC ?_; refine c_seq ?_) | (refine gN ?_; refine n_then ?_))
        skip -- x_backl
        obtain ⟨ys, hy⟩ : ∃ ys : List Ack, ys = [] ++ x.acks.take x.acks.length ++ [⟨ix, []⟩] ++ x.acks.drop x.acks.length := ⟨_, rfl⟩
        rw [← hy] at HM
        obtain ⟨hyl, hya, hys⟩ := ack_ins ⟨ix, []⟩ hk hy
        have hlk : x.acks.length < ys.length := by omega
        have hyk := hya hlk
        have hfl : ys[x.acks.length].frm.length ≤ 1000 := by rw [hyk]; simp
        replace e : ackA x.acks ix f = ys.set x.acks.length ⟨ys[x.acks.length].index, addL ys[x.acks.length].frm f⟩ := by rw [hys, hyk]; exact e
        clear hy hya hys hyk
        obtain ⟨j, HM⟩ := opn_ack (HM.pk (A := own (tAck 3) 104 A1 c1 ys)) x.acks.length hlk
        replace HM := HM.perm (List.Perm.swap ..)
        repeat (first | (refine gR ?_; refine d_startd [13] [(0, 0), (0, 2), (0, 3), (0, 5), (0, 9), (1, 1), (1, 4), (0, 6), (0, 7), (1, 8), (2, 10), (0, 11), (0, 12), (3, 13)] HM (by kernel_rfl) (by kernel_rfl) (by repeat (first | exact qp_body | refine qp_then ?_ | refine qp_block ?_)) (by kernel_rfl) rfl ?_; intro HQ HS W1 HM1; clear HM; have HM := HM1; clear HM1) | (refine gGP ?_; first | refine gp (p_move rfl) ?_ | refine gp (p_field rfl (by simp only [Nat.reduceAdd]; rfl)) ?_ | refine gp (p_fieldo rfl (by simp only [Nat.reduceAdd]; rfl)) ?_ | refine gp (p_indexh HM rfl (by first | with_reducible rfl | omega) rfl (by omega) (by omega)) ?_) | (refine gGV ?_; first | refine gv (p_load rfl) ?_ | refine gv (p_loads rfl) ?_ | refine gv (p_loadh rfl rfl rfl) ?_) | (refine gL ?_; first | refine s_gv HM rfl ?_ | (refine gStore ?_; (refine s_storeh HM rfl rfl rfl rfl rfl rfl ?_; intro W1 HM1; clear HM; have HM := HM1; clear HM1; (try dsimp only at HM))) | (refine gCall ?_; (refine s_fn rfl rfl ?_; (go_at_call 79; refine (addS f (by omega) (by exact HM.pk)).mono ?_; rintro e2 W2 ⟨A2, c2, rfl, HM1⟩; refine ⟨_, rfl, ?_⟩; clear HM; have HM := HM1; clear HM1))) | refine l_nil ?_) | (refine gC ?_; first | refine c_seq ?_ | refine c_region ?_) | (refine gN ?_; first | refine n_then ?_ | refine d_back (by exact HM.drop) ?_ | refine d_backT ?_) | (refine gD ?_; refine d_next rfl ?_) | (refine gO ?_; first | refine d_gp HQ HS rfl ?_ | refine d_gv HQ HS rfl ?_ | refine d_one ?_ | refine d_last ?_) | (refine gT ?_; refine d_doneT ?_))
        have HM1 := cls_ack ((HM.pk (A := own tInt 3 A2 c2 (addL ys[x.acks.length].frm f))).pk (A := hol (tAck 3) 104 A1 c1 ys x.acks.length [.int .i64 ys[x.acks.length].index, .slice A2 (addL ys[x.acks.length].frm f).length c2]))
        clear HM; have HM := HM1; clear HM1
        rw [← e] at HM
        have el : ys.length = (ackA x.acks ix f).length := by rw [e, List.length_set]
        simp only [el] at HM ⊢
        have hl1 := ackA_len x.acks ix f
        have hl2 := ackA_frm x.acks ix f 1000 has
        rw [show ackL x ix f = advL { x with acks := ackA x.acks ix f } from rfl]
        obtain ⟨bs, hA⟩ : ∃ bs, bs = ackA x.acks ix f := ⟨_, rfl⟩
        rw [← hA] at HM hl1 hl2 ⊢
        clear e el hA
        repeat (first | (refine gL ?_; first | (refine gStore ?_; (refine s_store HM rfl rfl rfl rfl ?_; intro W1 HM1; clear HM; have HM := HM1; clear HM1)) | (refine gCall ?_; (refine s_fn rfl rfl ?_; (go_at_call 114; refine (advS { x with acks := bs } ⟨i.a0, i.a1, i.a2, i.a3, i.a4, i.a5, (A1, c1)⟩ h0 h1 hn (by simp only; omega) (fun a ha => Nat.le_trans (hl2 a ha) (by omega)) (by exact pk_rec HM)).mono ?_; rintro e2 W2 ⟨j2, rfl, HM1⟩; refine ⟨_, rfl, ?_⟩; clear HM; have HM := HM1; clear HM1; simp only [partRcd, List.cons_append, List.nil_append] at HM; simp only [encRcd]))) | refine l_nil ?_) | (refine gC ?_; refine c_ret ?_) | (refine gN ?_; refine n_then ?_))
        exact ret_cell HM rfl rfl rfl ⟨j2, rfl, by simp only [partRcd, List.cons_append, List.nil_append]; exact HM.sb⟩
end Go.Proofs.YtkfogbonjpdkbaaGreat.Sp
namespace Go.Proofs.YtkfogbonjpdkbaaGreat.Sp
open Go Go.RowKit
set_option linter.unusedVariables false
set_option linter.unusedSimpArgs false
set_option maxRecDepth 10000
set_option maxHeartbeats 1000000
variable {w0 W : World} {L : List Asn}
theorem p_max {P : Program} {E : Env} {x y : Operand} {ts : Array TypeId} {k : IntKind} {m q : Int} (hx : ev E x = some (.int k m)) (hy : ev E y = some (.int k q)) : PV P E (.call { callee := .builtin .max, args := #[x, y], argTypes := ts }) (.int k (max m q)) := ⟨fun n a ha dst ty pos after gd W => by
  have : (if q > m then q else m) = max m q := by split <;> omega
  simp [execOp, ha.eval hx, ha.eval hy, resolve, invoke, builtin, Builtin.max_, Builtin.max2, this]⟩
theorem followM (x : Rcd) (i : AtRcd) (g : Nat) (b : Int) (HM : Mem w0 W (boxR 105 52 9 3 104 38 g x i ++ L)) : Calls Tryz.prog 111 #[.pointer (some ⟨g, 0, none⟩), .int .i64 b] W fun e W' => ∃ j, e = .returned (.tuple #[]) ∧ Mem w0 W' (boxR 105 52 9 3 104 38 g (followL x b) j ++ L) := by
  refine enter Tryz.func111 rfl Tryz.ntmps111 [(0, _), (1, _)] rfl ⟨rfl, rfl, trivial⟩ ?_
  simp only [boxR, partRcd, List.cons_append, List.nil_append] at HM
  by_cases c1 : b = x.ballot
  · have e : followL x b = { x with dp := max x.dp b, heard := 0 } := by rw [followL, if_pos c1]
    repeat (first | (refine gGP ?_; refine gp (p_max rfl rfl) ?_) | (refine gGP ?_; first | refine gp (p_move rfl) ?_ | (refine gGB ?_; refine gp (p_neq rfl rfl) ?_) | refine gp (p_field rfl (by simp only [Nat.reduceAdd]; rfl)) ?_) | (refine gGV ?_; refine gv (p_load rfl) ?_) | (refine gL ?_; first | refine s_gp rfl rfl ?_ | refine s_gv HM rfl ?_ | refine s_pv (p_nil rfl) rfl ?_ | (refine gStore ?_; (refine s_store HM rfl rfl rfl rfl ?_; intro W1 HM1; clear HM; have HM := HM1; clear HM1)) | refine l_nil ?_) | (refine gC ?_; first | refine c_seq ?_ | refine c_region ?_ | refine c_skip ?_ | refine c_no rfl (by (simp; omega)) ?_) | (refine gN ?_; refine n_then ?_))
    rw [e]
    exact end_none rfl ⟨i, rfl, by simp only [boxR, partRcd, List.cons_append, List.nil_append]; exact HM.sb⟩
  · have e : followL x b = { calmL { x with dp := max x.dp b } with heard := 0 } := by rw [followL, if_neg c1]
    repeat (first | (refine gGP ?_; refine gp (p_max rfl rfl) ?_) | (refine gGP ?_; first | refine gp (p_move rfl) ?_ | (refine gGB ?_; refine gp (p_neq rfl rfl) ?_) | refine gp (p_field rfl (by simp only [Nat.reduceAdd]; rfl)) ?_) | (refine gGV ?_; refine gv (p_load rfl) ?_) | (refine gL ?_; first | refine s_gp rfl rfl ?_ | refine s_gv HM rfl ?_ | refine s_pv (p_nil rfl) rfl ?_ | (refine gStore ?_; (refine s_store HM rfl rfl rfl rfl ?_; intro W1 HM1; clear HM; have HM := HM1; clear HM1)) | (refine gCall ?_; (refine s_fn rfl rfl ?_; (go_at_call 101; refine (quietM { x with dp := max x.dp b } i _ (by exact pk_boxr HM)).mono ?_; rintro e W1 ⟨j, rfl, HM1⟩; refine ⟨_, rfl, ?_⟩; clear HM; have HM := HM1; clear HM1; simp only [calmL, boxR, partRcd, List.cons_append, List.nil_append] at HM))) | refine l_nil ?_) | (refine gC ?_; first | refine c_seq ?_ | refine c_region ?_ | refine c_yes rfl (by (simp; omega)) ?_) | (refine gN ?_; refine n_then ?_))
    rw [e]
    exact end_none rfl ⟨j, rfl, by simp only [calmL, boxR, partRcd, List.cons_append, List.nil_append]; exact HM.sb⟩
theorem followS (x : Rcd) (i : AtRcd) (b : Int) (HM : Mem w0 W (partRcd 105 52 9 3 104 x i ++ L)) : Calls Tryz.prog 107 #[.agg (encRcd x i).toArray, .int .i64 b] W fun e W' => ∃ j, e = .returned (.agg (encRcd (followL x b) j).toArray) ∧ Mem w0 W' (partRcd 105 52 9 3 104 (followL x b) j ++ L) := by
  refine enter Tryz.func107 rfl Tryz.ntmps107 [(0, .agg (encRcd x i).toArray), (1, _)] rfl ⟨rfl, rfl, trivial⟩ ?_
  unfold encRcd
  simp only [partRcd, List.cons_append, List.nil_append] at HM
  by_cases c0 : x.dp < b
  · have em : max x.dp b = b := by omega
    by_cases c1 : b = x.ballot
    · have e : followL x b = { x with dp := b, heard := 0 } := by rw [followL, if_pos c1, em]
      repeat (first | (refine gGP ?_; first | refine gp (p_move rfl) ?_ | (refine gGB ?_; first | refine gp (p_neq rfl rfl) ?_ | refine gp (p_gtr rfl rfl) ?_) | refine gp (p_field rfl (by simp only [Nat.reduceAdd]; rfl)) ?_) | (refine gGV ?_; first | refine gv (p_load rfl) ?_ | refine gv (p_loads rfl) ?_) | (refine gL ?_; first | refine s_gp rfl rfl ?_ | refine s_gv HM rfl ?_ | (refine gStore ?_; (refine s_store HM rfl rfl rfl rfl ?_; intro W1 HM1; clear HM; have HM := HM1; clear HM1)) | (refine s_box HM rfl rfl ?_; intro g W1 HM1; clear HM; have HM := HM1; clear HM1) | (refine s_alloc HM rfl ?_; intro g W1 HM1; clear HM; have HM := HM1; clear HM1) | refine l_nil ?_) | (refine gC ?_; first | refine c_seq ?_ | refine c_region ?_ | refine c_skip ?_ | refine c_ret ?_ | refine c_yes rfl (by (simp; omega)) ?_ | refine c_no rfl (by (simp; omega)) ?_) | (refine gN ?_; refine n_then ?_))
      rw [e]
      exact ret_cell HM rfl rfl rfl ⟨i, rfl, by simp only [partRcd, List.cons_append, List.nil_append]; exact HM.sb⟩
    · have e : followL x b = { calmL { x with dp := b } with heard := 0 } := by rw [followL, if_neg c1, em]
      repeat (first | (refine gGP ?_; first | refine gp (p_move rfl) ?_ | (refine gGB ?_; first | refine gp (p_neq rfl rfl) ?_ | refine gp (p_gtr rfl rfl) ?_) | refine gp (p_field rfl (by simp only [Nat.reduceAdd]; rfl)) ?_) | (refine gGV ?_; first | refine gv (p_load rfl) ?_ | refine gv (p_loads rfl) ?_) | (refine gL ?_; first | refine s_gp rfl rfl ?_ | refine s_gv HM rfl ?_ | (refine gStore ?_; (refine s_store HM rfl rfl rfl rfl ?_; intro W1 HM1; clear HM; have HM := HM1; clear HM1)) | (refine gCall ?_; (refine s_fn rfl rfl ?_; (go_at_call 35; refine (calmS { x with dp := b } i (by exact pk_rec HM)).mono ?_; rintro e W1 ⟨j, rfl, HM1⟩; refine ⟨_, rfl, ?_⟩; clear HM; have HM := HM1; clear HM1; simp only [calmL, partRcd, List.cons_append, List.nil_append] at HM; simp only [calmL, encRcd]))) | (refine s_box HM rfl rfl ?_; intro g W1 HM1; clear HM; have HM := HM1; clear HM1) | (refine s_alloc HM rfl ?_; intro g W1 HM1; clear HM; have HM := HM1; clear HM1) | refine l_nil ?_) | (refine gC ?_; first | refine c_seq ?_ | refine c_region ?_ | refine c_ret ?_ | refine c_yes rfl (by (simp; omega)) ?_) | (refine gN ?_; refine n_then ?_))
      rw [e]
      exact ret_cell HM rfl rfl rfl ⟨j, rfl, by simp only [calmL, partRcd, List.cons_append, List.nil_append]; exact HM.sb⟩
  · have em : max x.dp b = x.dp := by omega
    by_cases c1 : b = x.ballot
    · have e : followL x b = { x with heard := 0 } := by rw [followL, if_pos c1, em]
      repeat (first | (refine gGP ?_; first | refine gp (p_move rfl) ?_ | (refine gGB ?_; first | refine gp (p_neq rfl rfl) ?_ | refine gp (p_gtr rfl rfl) ?_) | refine gp (p_field rfl (by simp only [Nat.reduceAdd]; rfl)) ?_) | (refine gGV ?_; first | refine gv (p_load rfl) ?_ | refine gv (p_loads rfl) ?_) | (refine gL ?_; first | refine s_gp rfl rfl ?_ | refine s_gv HM rfl ?_ | (refine gStore ?_; (refine s_store HM rfl rfl rfl rfl ?_; intro W1 HM1; clear HM; have HM := HM1; clear HM1)) | (refine s_box HM rfl rfl ?_; intro g W1 HM1; clear HM; have HM := HM1; clear HM1) | (refine s_alloc HM rfl ?_; intro g W1 HM1; clear HM; have HM := HM1; clear HM1) | refine l_nil ?_) | (refine gC ?_; first | refine c_seq ?_ | refine c_region ?_ | refine c_skip ?_ | refine c_ret ?_ | refine c_no rfl (by (simp; omega)) ?_) | (refine gN ?_; refine n_then ?_))
      rw [e]
      exact ret_cell HM rfl rfl rfl ⟨i, rfl, by simp only [partRcd, List.cons_append, List.nil_append]; exact HM.sb⟩
    · have e : followL x b = { calmL x with heard := 0 } := by rw [followL, if_neg c1, em]
      repeat (first | (refine gGP ?_; first | refine gp (p_move rfl) ?_ | (refine gGB ?_; first | refine gp (p_neq rfl rfl) ?_ | refine gp (p_gtr rfl rfl) ?_) | refine gp (p_field rfl (by simp only [Nat.reduceAdd]; rfl)) ?_) | (refine gGV ?_; first | refine gv (p_load rfl) ?_ | refine gv (p_loads rfl) ?_) | (refine gL ?_; first | refine s_gp rfl rfl ?_ | refine s_gv HM rfl ?_ | (refine gStore ?_; (refine s_store HM rfl rfl rfl rfl ?_; intro W1 HM1; clear HM; have HM := HM1; clear HM1)) | (refine gCall ?_; (refine s_fn rfl rfl ?_; (go_at_call 35; refine (calmS x i (by exact pk_rec HM)).mono ?_; rintro e W1 ⟨j, rfl, HM1⟩; refine ⟨_, rfl, ?_⟩; clear HM; have HM := HM1; clear HM1; simp only [calmL, partRcd, List.cons_append, List.nil_append] at HM; simp only [calmL, encRcd]))) | (refine s_box HM rfl rfl ?_; intro g W1 HM1; clear HM; have HM := HM1; clear HM1) | (refine s_alloc HM rfl ?_; intro g W1 HM1; clear HM; have HM := HM1; clear HM1) | refine l_nil ?_) | (refine gC ?_; first | refine c_seq ?_ | refine c_region ?_ | refine c_skip ?_ | refine c_ret ?_ | refine c_yes rfl (by (simp; omega)) ?_ | refine c_no rfl (by (simp; omega)) ?_) | (refine gN ?_; refine n_then ?_))
      rw [e]
      exact ret_cell HM rfl rfl rfl ⟨j, rfl, by simp only [calmL, partRcd, List.cons_append, List.nil_append]; exact HM.sb⟩
theorem refuseM (x : Rcd) (i : AtRcd) (g : Nat) (to : Int) (HM : Mem w0 W (boxR 105 52 9 3 104 38 g x i ++ L)) : Calls Tryz.prog 110 #[.pointer (some ⟨g, 0, none⟩), .int .i64 to] W fun e W' => ∃ j, e = .returned (.tuple #[]) ∧ Mem w0 W' (boxR 105 52 9 3 104 38 g (holdL x ⟨9, 0, to, x.dp, 0, 0, ⟨#[]⟩, []⟩) j ++ L) := by
  refine enter Tryz.func110 rfl Tryz.ntmps110 [(0, _), (1, _)] rfl ⟨rfl, rfl, trivial⟩ ?_
  simp only [boxR, partRcd, List.cons_append, List.nil_append] at HM
  repeat (first | (refine gGP ?_; first | refine gp (p_move rfl) ?_ | refine gp (p_field rfl (by simp only [Nat.reduceAdd]; rfl)) ?_ | refine gp (p_build rfl) ?_) | (refine gGV ?_; refine gv (p_load rfl) ?_) | (refine gL ?_; first | refine s_gp rfl rfl ?_ | refine s_gv HM rfl ?_ | refine s_pv (p_nil rfl) rfl ?_ | (refine gCall ?_; (refine s_fn rfl rfl ?_; (go_at_call 104; have HM2 := HM.nil tSlot 105; refine (holdM x i g ⟨9, 0, to, x.dp, 0, 0, ⟨#[]⟩, []⟩ (none, 0) (by exact pk_hold HM2)).mono ?_; clear HM2; rintro e W1 ⟨j, rfl, HM1⟩; refine ⟨_, rfl, ?_⟩; clear HM; have HM := HM1; clear HM1))) | refine l_nil ?_) | (refine gC ?_; refine c_region ?_))
  exact end_none rfl ⟨j, rfl, HM⟩
end Go.Proofs.YtkfogbonjpdkbaaGreat.Sp
namespace Go.Proofs.YtkfogbonjpdkbaaGreat.Sp
open Go Go.RowKit
set_option linter.unusedVariables false
set_option linter.unusedSimpArgs false
set_option maxRecDepth 10000
set_option maxHeartbeats 1000000
variable {w0 W : World} {L : List Asn}
/-- The loop that lays empty slots. -/
theorem slotM (x : Rcd) (i : AtRcd) (gr : Nat) (ix : Int) (s : Slot) (h1 : 1 ≤ ix) (h2 : ix ≤ 1048576) (hn : x.ds.length ≤ 1048576) (HM : Mem w0 W (boxR 105 52 9 3 104 38 gr x i ++ L)) : Calls Tryz.prog 112 #[.pointer (some ⟨gr, 0, none⟩), .int .i64 ix, .agg (encSlot s ()).toArray] W fun e W' => ∃ j, e = .returned (.tuple #[]) ∧ Mem w0 W' (boxR 105 52 9 3 104 38 gr (setL x ix s) j ++ L) := by
  refine enter Tryz.func112 rfl Tryz.ntmps112 [(0, _), (1, _), (2, .agg (encSlot s ()).toArray)] rfl ⟨rfl, rfl, rfl, trivial⟩ ?_
  unfold encSlot
  simp only [boxR, partRcd, List.cons_append, List.nil_append] at HM
  repeat (first | (refine gL ?_; first | (refine s_box HM rfl rfl ?_; intro g W1 HM1; clear HM; have HM := HM1; clear HM1) | refine l_nil ?_) | (refine gC ?_; first | refine c_seq ?_ | refine c_region ?_ | refine c_block ?_) | (refine gN ?_; refine n_then ?_))
  refine c_loop2 (σ := List Slot) (fun ds A c => [(0, .pointer (some ⟨gr, 0, none⟩)), (1, .int .i64 ix), (5, .pointer (some ⟨g, 0, none⟩))]) (fun ds A c W1 => padL ds ix.toNat = padL x.ds ix.toNat ∧ ds.length ≤ max x.ds.length ix.toNat ∧ Mem w0 W1 (box gr 38 [.int .i64 x.number, .int .i64 x.of, .bool x.up, .int .i64 x.sp, .int .i64 x.sk, .slice i.a0.1 x.ss.length i.a0.2, .int .i64 x.dp, .int .i64 x.dk, .slice A ds.length c, .slice i.a2.1 x.held.length i.a2.2, .slice i.a3.1 x.wishes.length i.a3.2, .bool x.lead, .bool x.trying, .int .i64 x.ballot, .slice i.a4.1 x.yes.length i.a4.2, .slice i.a5.1 x.best.length i.a5.2, .slice i.a6.1 x.acks.length i.a6.2, .int .i64 x.heard] :: own tSlot 105 A c ds :: _)) (fun ds => ix.toNat - ds.length) x.ds i.a1.1 i.a1.2 (by repeat (first | exact trivial | refine And.intro (by first | rfl | exact look_int rfl (by omega)) ?_)) ⟨rfl, by omega, (HM.pk (A := own tSlot 105 i.a1.1 i.a1.2 x.ds)).pk (A := box gr 38 [.int .i64 x.number, .int .i64 x.of, .bool x.up, .int .i64 x.sp, .int .i64 x.sk, .slice i.a0.1 x.ss.length i.a0.2, .int .i64 x.dp, .int .i64 x.dk, .slice i.a1.1 x.ds.length i.a1.2, .slice i.a2.1 x.held.length i.a2.2, .slice i.a3.1 x.wishes.length i.a3.2, .bool x.lead, .bool x.trying, .int .i64 x.ballot, .slice i.a4.1 x.yes.length i.a4.2, .slice i.a5.1 x.best.length i.a5.2, .slice i.a6.1 x.acks.length i.a6.2, .int .i64 x.heard])⟩ ?_
  clear HM
  rintro ds A c W1 ⟨hp, hl, HM⟩
  by_cases hlt : (ds.length : Int) < ix
  · repeat (first | (refine gGP ?_; first | refine gp (p_move rfl) ?_ | (refine gGB ?_; refine gp (p_lss rfl rfl) ?_) | refine gp (p_field rfl (by simp only [Nat.reduceAdd]; rfl)) ?_ | refine gp (p_len rfl) ?_ | refine gp (p_build rfl) ?_) | (refine gGV ?_; refine gv (p_load rfl) ?_) | (refine gL ?_; first | refine s_gp rfl rfl ?_ | refine s_gv HM rfl ?_ | refine s_pv (p_nil rfl) rfl ?_ | (refine gStore ?_; (refine s_store HM rfl rfl rfl rfl ?_; intro W1 HM1; clear HM; have HM := HM1; clear HM1)) | (refine gCall ?_; (refine s_append1 HM rfl rfl (by first | with_reducible rfl | omega) rfl rfl (by omega) rfl ?_; intro A1 c1 W1 HM1; clear HM; have HM := HM1; clear HM1)) | (refine s_lit1 HM rfl rfl rfl ?_; intro g W1 HM1; clear HM; have HM := HM1; clear HM1) | refine l_nil ?_) | (refine gC ?_; first | refine c_seq ?_ | refine c_region ?_ | refine c_block ?_ | refine c_skip ?_ | refine c_yes rfl (by (simp; omega)) ?_) | (refine gN ?_; first | refine n_then ?_ | refine n_block ?_))
    have e1 : (ds ++ [(⟨0, ⟨#[]⟩⟩ : Slot)]).length = ds.length + 1 := by simp
    exact n_round2 (ds ++ [⟨0, ⟨#[]⟩⟩]) A1 c1 (by repeat (first | exact trivial | refine And.intro (by first | rfl | exact look_int rfl (by omega)) ?_)) ⟨by rw [padL_step (by omega)]; exact hp, by rw [e1]; omega, HM.sb⟩ (by rw [e1]; omega)
  · have e : setL x ix s = { x with ds := ds.set (ix - 1).toNat s } := by rw [setL, ← hp, padL_le (by omega)]
    have hi : (ix - 1).toNat < ds.length := by omega
    repeat (first | (refine gR ?_; refine d_start [9] [(0, 0), (0, 1), (0, 2), (0, 3), (0, 5), (0, 6), (1, 4), (1, 7), (0, 8), (3, 9)] HM (by kernel_rfl) (by kernel_rfl) (by repeat (first | exact qp_body | refine qp_then ?_ | refine qp_block ?_)) (by kernel_rfl) rfl ?_; intro HQ HS W1 HM1; clear HM; have HM := HM1; clear HM1) | (refine gGP ?_; first | refine gp (p_move rfl) ?_ | (refine gGB ?_; first | refine gp (p_lss rfl rfl) ?_ | refine gp (p_sub rfl rfl (by exact wr (by omega) (by omega))) ?_) | refine gp (p_field rfl (by simp only [Nat.reduceAdd]; rfl)) ?_ | refine gp (p_indexo HM rfl (by first | with_reducible rfl | omega) rfl (by omega) (by omega)) ?_ | refine gp (p_len rfl) ?_ | refine gp (p_nil rfl) ?_) | (refine gGV ?_; first | refine gv (p_load rfl) ?_ | refine gv (p_loads rfl) ?_) | (refine gL ?_; first | refine s_gp rfl rfl ?_ | refine s_gv HM rfl ?_ | refine s_pv (p_nil rfl) rfl ?_ | (refine gStore ?_; (refine s_storew HM rfl rfl rfl (by omega) (by omega) rfl ?_; intro W1 HM1; clear HM; have HM := HM1; clear HM1)) | refine l_nil ?_) | (refine gC ?_; first | refine c_seq ?_ | refine c_region ?_ | refine c_exit ?_ | refine c_no rfl (by (simp; omega)) ?_) | (refine gN ?_; first | refine n_then ?_ | refine x_then ?_ | refine x_here ?_ | refine d_backT ?_) | (refine gD ?_; refine d_next rfl ?_) | (refine gO ?_; first | refine d_gp HQ HS rfl ?_ | refine d_gv HQ HS rfl ?_ | refine d_last ?_) | (refine gT ?_; refine d_doneT ?_))
    rw [e]
    exact end_none rfl ⟨⟨i.a0, (A, c), i.a2, i.a3, i.a4, i.a5, i.a6⟩, rfl, by simp only [boxR, partRcd, List.cons_append, List.nil_append, List.length_set]; exact HM.sb⟩
/-- The loop that lays empty slots: the reference's. -/
theorem slotSetS (x : Rcd) (i : AtRcd) (ix : Int) (s : Slot) (h1 : 1 ≤ ix) (h2 : ix ≤ 1048576) (hn : x.ds.length ≤ 1048576) (HM : Mem w0 W (partRcd 105 52 9 3 104 x i ++ L)) : Calls Tryz.prog 81 #[.agg (encRcd x i).toArray, .int .i64 ix, .agg (encSlot s ()).toArray] W fun e W' => ∃ j, e = .returned (.agg (encRcd (setL x ix s) j).toArray) ∧ Mem w0 W' (partRcd 105 52 9 3 104 (setL x ix s) j ++ L) := by
  refine enter Tryz.func81 rfl Tryz.ntmps81 [(0, .agg (encRcd x i).toArray), (1, _), (2, .agg (encSlot s ()).toArray)] rfl ⟨rfl, rfl, rfl, trivial⟩ ?_
  unfold encSlot encRcd
  simp only [partRcd, List.cons_append, List.nil_append] at HM
  repeat (first | (refine gL ?_; first | (refine s_box HM rfl rfl ?_; intro g W1 HM1; clear HM; have HM := HM1; clear HM1) | (refine s_alloc HM rfl ?_; intro g W1 HM1; clear HM; have HM := HM1; clear HM1) | refine l_nil ?_) | (refine gC ?_; first | refine c_seq ?_ | refine c_region ?_ | refine c_block ?_) | (refine gN ?_; refine n_then ?_))
  rename_i gr _ gs _
  refine c_loop2 (σ := List Slot) (fun ds A c => [(1, .int .i64 ix), (3, .pointer (some ⟨gr, 0, none⟩)), (5, .pointer (some ⟨gs, 0, none⟩)), (6, .pointer (some ⟨g, 0, none⟩))]) (fun ds A c W1 => padL ds ix.toNat = padL x.ds ix.toNat ∧ ds.length ≤ max x.ds.length ix.toNat ∧ Mem w0 W1 (box gr 38 [.int .i64 x.number, .int .i64 x.of, .bool x.up, .int .i64 x.sp, .int .i64 x.sk, .slice i.a0.1 x.ss.length i.a0.2, .int .i64 x.dp, .int .i64 x.dk, .slice A ds.length c, .slice i.a2.1 x.held.length i.a2.2, .slice i.a3.1 x.wishes.length i.a3.2, .bool x.lead, .bool x.trying, .int .i64 x.ballot, .slice i.a4.1 x.yes.length i.a4.2, .slice i.a5.1 x.best.length i.a5.2, .slice i.a6.1 x.acks.length i.a6.2, .int .i64 x.heard] :: own tSlot 105 A c ds :: _)) (fun ds => ix.toNat - ds.length) x.ds i.a1.1 i.a1.2 (by repeat (first | exact trivial | refine And.intro (by first | rfl | exact look_int rfl (by omega)) ?_)) ⟨rfl, by omega, (HM.pk (A := own tSlot 105 i.a1.1 i.a1.2 x.ds)).pk (A := box gr 38 [.int .i64 x.number, .int .i64 x.of, .bool x.up, .int .i64 x.sp, .int .i64 x.sk, .slice i.a0.1 x.ss.length i.a0.2, .int .i64 x.dp, .int .i64 x.dk, .slice i.a1.1 x.ds.length i.a1.2, .slice i.a2.1 x.held.length i.a2.2, .slice i.a3.1 x.wishes.length i.a3.2, .bool x.lead, .bool x.trying, .int .i64 x.ballot, .slice i.a4.1 x.yes.length i.a4.2, .slice i.a5.1 x.best.length i.a5.2, .slice i.a6.1 x.acks.length i.a6.2, .int .i64 x.heard])⟩ ?_
  clear HM
  rintro ds A c W1 ⟨hp, hl, HM⟩
  by_cases hlt : (ds.length : Int) < ix
  · repeat (first | (refine gGP ?_; first | refine gp (p_move rfl) ?_ | (refine gGB ?_; refine gp (p_lss rfl rfl) ?_) | refine gp (p_field rfl (by simp only [Nat.reduceAdd]; rfl)) ?_ | refine gp (p_len rfl) ?_ | refine gp (p_build rfl) ?_) | (refine gGV ?_; refine gv (p_load rfl) ?_) | (refine gL ?_; first | refine s_gp rfl rfl ?_ | refine s_gv HM rfl ?_ | (refine gStore ?_; (refine s_store HM rfl rfl rfl rfl ?_; intro W1 HM1; clear HM; have HM := HM1; clear HM1)) | (refine gCall ?_; (refine s_append1 HM rfl rfl (by first | with_reducible rfl | omega) rfl rfl (by omega) rfl ?_; intro A1 c1 W1 HM1; clear HM; have HM := HM1; clear HM1)) | (refine s_lit1 HM rfl rfl rfl ?_; intro g W1 HM1; clear HM; have HM := HM1; clear HM1) | refine l_nil ?_) | (refine gC ?_; first | refine c_seq ?_ | refine c_region ?_ | refine c_block ?_ | refine c_skip ?_ | refine c_yes rfl (by (simp; omega)) ?_) | (refine gN ?_; first | refine n_then ?_ | refine n_block ?_))
    have e1 : (ds ++ [(⟨0, ⟨#[]⟩⟩ : Slot)]).length = ds.length + 1 := by simp
    exact n_round2 (ds ++ [⟨0, ⟨#[]⟩⟩]) A1 c1 (by repeat (first | exact trivial | refine And.intro (by first | rfl | exact look_int rfl (by omega)) ?_)) ⟨by rw [padL_step (by omega)]; exact hp, by rw [e1]; omega, HM.sb⟩ (by rw [e1]; omega)
  · have e : setL x ix s = { x with ds := ds.set (ix - 1).toNat s } := by rw [setL, ← hp, padL_le (by omega)]
    have hi : (ix - 1).toNat < ds.length := by omega
    repeat (first | (refine gGP ?_; first | refine gp (p_move rfl) ?_ | (refine gGB ?_; first | refine gp (p_lss rfl rfl) ?_ | refine gp (p_sub rfl rfl (by exact wr (by omega) (by omega))) ?_) | refine gp (p_field rfl (by simp only [Nat.reduceAdd]; rfl)) ?_ | refine gp (p_indexo HM rfl (by first | with_reducible rfl | omega) rfl (by omega) (by omega)) ?_ | refine gp (p_len rfl) ?_) | (refine gGV ?_; first | refine gv (p_load rfl) ?_ | refine gv (p_loads rfl) ?_) | (refine gL ?_; first | refine s_gp rfl rfl ?_ | refine s_gv HM rfl ?_ | (refine gStore ?_; first | (refine s_store HM rfl rfl rfl rfl ?_; intro W1 HM1; clear HM; have HM := HM1; clear HM1) | (refine s_storew HM rfl rfl rfl (by omega) (by omega) rfl ?_; intro W1 HM1; clear HM; have HM := HM1; clear HM1)) | refine l_nil ?_) | (refine gC ?_; first | refine c_seq ?_ | refine c_region ?_ | refine c_exit ?_ | refine c_ret ?_ | refine c_no rfl (by (simp; omega)) ?_) | (refine gN ?_; first | refine n_then ?_ | refine x_then ?_ | refine x_here ?_))
    rw [e]
    refine ret_cell HM rfl rfl rfl ⟨⟨i.a0, (A, c), i.a2, i.a3, i.a4, i.a5, i.a6⟩, ?_, ?_⟩
    · simp only [encRcd, List.length_set]
    · simp only [partRcd, List.cons_append, List.nil_append]; exact HM.sb
end Go.Proofs.YtkfogbonjpdkbaaGreat.Sp
namespace Go.Proofs.YtkfogbonjpdkbaaGreat.Sp
open Go Go.RowKit
set_option linter.unusedVariables false
set_option linter.unusedSimpArgs false
set_option maxRecDepth 10000
set_option maxHeartbeats 4000000
variable {w0 W : World} {L : List Asn}
def gotL (x : Rcd) (f : Int) (bs : List Slot) : Rcd := { x with yes := addL x.yes f, best := mergeL x.best bs }
theorem promShort (x : Rcd) (i : AtRcd) (f : Int) {b : Bool} {B : Option Addr} {d : Nat} {bs : List Slot} (hb : ∀ W', Mem w0 W' (own tSlot 105 i.a1.1 i.a1.2 x.ds :: L) → RoRow (rSlot b) W' B bs) (h1 : x.yes.length ≤ 1048576) (h2 : x.best.length ≤ 1048576) (h3 : bs.length ≤ 1048576) (hs : 2 * ((addL x.yes f).length : Int) ≤ x.of) (HM : Mem w0 W (partRcd 105 52 9 3 104 x i ++ L)) : Calls Tryz.prog 31 #[.agg (encRcd x i).toArray, .int .i64 f, .slice B bs.length d] W fun e W' => ∃ j, e = .returned (.agg (encRcd (gotL x f bs) j).toArray) ∧ Mem w0 W' (partRcd 105 52 9 3 104 (gotL x f bs) j ++ L) := by
  refine enter Tryz.func31 rfl Tryz.ntmps31 [(0, .agg (encRcd x i).toArray), (1, _), (2, _)] rfl ⟨rfl, rfl, rfl, trivial⟩ ?_
  unfold encRcd
  have hal := addL_len x.yes f
  simp only [partRcd, List.cons_append, List.nil_append] at HM
  repeat (first | (refine gGP ?_; first | refine gp (p_move rfl) ?_ | (refine gGB ?_; first | refine gp (p_leq rfl rfl) ?_ | refine gp (p_mul rfl rfl (by exact wr (by omega) (by omega))) ?_) | refine gp (p_field rfl (by simp only [Nat.reduceAdd]; rfl)) ?_ | refine gp (p_len rfl) ?_) | (refine gGV ?_; first | refine gv (p_load rfl) ?_ | refine gv (p_loads rfl) ?_) | (refine gL ?_; first | refine s_gp rfl rfl ?_ | refine s_gv HM rfl ?_ | (refine gStore ?_; (refine s_store HM rfl rfl rfl rfl ?_; intro W1 HM1; clear HM; have HM := HM1; clear HM1)) | (refine gCall ?_; (refine s_fn rfl rfl ?_; first | (go_at_call 79; refine (addS (xs := x.yes) (A := i.a4.1) (c := i.a4.2) f h1 (by exact HM.pk)).mono ?_; rintro e2 W2 ⟨A2, c2, rfl, HM1⟩; refine ⟨_, rfl, ?_⟩; clear HM; have HM := HM1; clear HM1) | (go_at_call 80; obtain ⟨F1, hF1⟩ := HM.own (A := i.a5.1); have hbs := hb _ (by exact HM.sb); refine (recMergeS (ro_slots hF1) hbs h2 h3 (Mem.start _)).mono ?_; clear hF1 hbs; rintro e W1 ⟨A3, c3, rfl, HM1⟩; refine ⟨_, rfl, ?_⟩; replace HM := HM.join HM1; clear HM1; simp only [List.cons_append, List.nil_append] at HM))) | (refine s_box HM rfl rfl ?_; intro g W1 HM1; clear HM; have HM := HM1; clear HM1) | (refine s_alloc HM rfl ?_; intro g W1 HM1; clear HM; have HM := HM1; clear HM1) | refine l_nil ?_) | (refine gC ?_; first | refine c_seq ?_ | refine c_region ?_ | refine c_ret ?_ | refine c_yes rfl (by (simp; omega)) ?_) | (refine gN ?_; first | refine n_then ?_ | refine r_then ?_))
  exact ret_cell HM rfl rfl rfl ⟨⟨i.a0, i.a1, i.a2, i.a3, (A2, c2), (A3, c3), i.a6⟩, rfl, by simp only [gotL, partRcd, List.cons_append, List.nil_append]; exact HM.sb⟩
theorem calmSk (x : Rcd) (i : AtRcd) (HM : Mem w0 W (partRcd 105 52 9 3 104 x i ++ L)) : Calls Tryz.prog 35 #[.agg (encRcd x i).toArray] W fun e W' => ∃ j, e = .returned (.agg (encRcd (calmL x) j).toArray) ∧ Mem w0 W' (partRcd 105 52 9 3 104 (calmL x) j ++ own tSlot 105 i.a5.1 i.a5.2 x.best :: L) := by
  refine enter Tryz.func35 rfl Tryz.ntmps35 [(0, .agg (encRcd x i).toArray)] rfl ⟨rfl, trivial⟩ ?_
  unfold encRcd
  simp only [partRcd, List.cons_append, List.nil_append] at HM
  repeat (first | (refine gGP ?_; refine gp (p_field rfl (by simp only [Nat.reduceAdd]; rfl)) ?_) | (refine gGV ?_; refine gv (p_loads rfl) ?_) | (refine gL ?_; first | refine s_gp rfl rfl ?_ | refine s_gv HM rfl ?_ | (refine gStore ?_; (refine s_store HM rfl rfl rfl rfl ?_; intro W1 HM1; clear HM; have HM := HM1; clear HM1)) | (refine s_box HM rfl rfl ?_; intro g W1 HM1; clear HM; have HM := HM1; clear HM1) | (refine s_alloc HM rfl ?_; intro g W1 HM1; clear HM; have HM := HM1; clear HM1) | (refine s_lit0a HM rfl rfl ?_; intro A1 W1 HM1; clear HM; have HM := HM1; clear HM1) | refine l_nil ?_) | (refine gC ?_; first | refine c_seq ?_ | refine c_region ?_ | refine c_ret ?_) | (refine gN ?_; refine n_then ?_))
  have e : calmL x = { x with lead := false, trying := false, ballot := 0, yes := [], best := [], acks := [] } := rfl
  rw [e]
  rename_i Ay _ _ Ab _ _ _ _
  exact ret_cell HM rfl rfl rfl ⟨⟨i.a0, i.a1, i.a2, i.a3, (Ay, 0), (Ab, 0), (A1, 0)⟩, rfl, by simp only [partRcd, List.cons_append, List.nil_append]; exact HM.sb⟩
def layL (b : Int) (best : List Slot) : Nat → Nat → Rcd → Rcd
  | 0, _, y => y
  | n + 1, k, y => layL b best n (k + 1) (setL y ((k : Int) + 1) ⟨b, (rd tSlot best k).text⟩)
def wonL (x : Rcd) : Rcd := { calmL x with lead := true, ballot := x.ballot }
def promL (x : Rcd) (f : Int) (bs : List Slot) : Rcd :=
  if 2 * ((addL x.yes f).length : Int) ≤ x.of then gotL x f bs
  else layL x.ballot (mergeL x.best bs) ((mergeL x.best bs).length - x.dk.toNat) x.dk.toNat (wonL (gotL x f bs))
theorem setL_ds (x : Rcd) (ix : Int) (s : Slot) : (setL x ix s).ds.length = max x.ds.length ix.toNat := by simp only [setL, List.length_set, padL_len]
end Go.Proofs.YtkfogbonjpdkbaaGreat.Sp
namespace Go.Proofs.YtkfogbonjpdkbaaGreat.Sp
open Go Go.RowKit
set_option linter.unusedVariables false
set_option linter.unusedSimpArgs false
set_option maxRecDepth 10000
set_option maxHeartbeats 1000000
variable {w0 W : World} {L : List Asn} {A : Option Addr} {c : Nat} {b : Bool}
def hasB (zs : List Slot) (t : ByteArray) : Bool := zs.any (fun s => decide (0 < s.ballot) && decide (s.text = t))
def knownB (zs : List Slot) (t : ByteArray) : Bool := zs.any (fun s => decide (s.text = t))
theorem any_hit {α : Type} {p : α → Bool} {zs : List α} {k : Nat} (hk : k < zs.length) (h : p zs[k] = true) : zs.any p = true := List.any_eq_true.2 ⟨_, List.getElem_mem hk, h⟩
theorem any_succ {α : Type} {p : α → Bool} {zs : List α} {k : Nat} (hk : k < zs.length) (h0 : (zs.take k).any p = false) (h : p zs[k] = false) : (zs.take (k + 1)).any p = false := by
  rw [List.take_succ_eq_append_getElem hk, List.any_append, h0]; simp [h]
theorem has3_c {zs : List Slot} {l : Nat} (hl : l = zs.length) (t : ByteArray) (h : RoRow (rSlot b) w0 A zs) (HM : Mem w0 W L) : Calls Tryz.prog 30 #[.slice A l c, .string t] W fun e W' => e = .returned (.bool (hasB zs t)) ∧ Mem w0 W' L := by
  subst hl
  refine enter Tryz.func30 rfl Tryz.ntmps30 [(0, _), (1, _)] rfl ⟨rfl, rfl, trivial⟩ ?_
  have hmax := h.max
  replace HM := HM.rod h
  repeat (first | (refine gGP ?_; refine gp (p_assign rfl) ?_) | (refine gL ?_; first | refine s_gp rfl rfl ?_ | refine l_nil ?_) | (refine gC ?_; first | refine c_seq ?_ | refine c_region ?_ | refine c_block ?_) | (refine gN ?_; refine n_then ?_))
  refine c_loop (σ := Nat) (fun k => [(0, .slice A zs.length c), (1, .string t), (5, .int .i64 k)]) (fun k W1 => k ≤ zs.length ∧ hasB (zs.take k) t = false ∧ Mem w0 W1 (ro (rSlot b) w0 A zs :: L)) (fun k => zs.length - k) 0 (by repeat (first | exact trivial | refine And.intro (by first | rfl | exact look_int rfl (by omega)) ?_)) ⟨Nat.zero_le _, rfl, HM⟩ ?_
  clear HM
  rintro k W1 ⟨hk, hp, HM⟩
  by_cases hlt : k < zs.length
  · have e0 := rdR_at (D := rSlot b) hlt
    by_cases hb : 0 < (rdR (rSlot b) zs k).ballot
    · by_cases ht : (rdR (rSlot b) zs k).text = t
      · repeat (first | (refine gGP ?_; first | refine gp (p_move rfl) ?_ | refine gp (p_assign rfl) ?_ | (refine gGB ?_; first | refine gp (p_lss rfl rfl) ?_ | refine gp (p_gtr rfl rfl) ?_ | refine gp (p_seql rfl rfl) ?_) | refine gp (p_fieldo rfl (by simp only [Nat.reduceAdd]; rfl)) ?_ | refine gp (p_indexr HM rfl (by first | with_reducible rfl | omega) rfl (by omega) (by omega)) ?_ | refine gp (p_len rfl) ?_ | refine gp (p_pick1 rfl (by (simp; omega)) rfl) ?_) | (refine gGV ?_; refine gv (p_loadr rfl rfl (by omega) (by omega) rfl) ?_) | (refine gL ?_; first | refine s_gp rfl rfl ?_ | refine s_gv HM rfl ?_ | refine l_nil ?_ | refine s_guard_on rfl rfl rfl rfl (by (simp; omega)) ?_) | (refine gC ?_; first | refine c_seq ?_ | refine c_region ?_ | refine c_block ?_ | refine c_skip ?_ | refine c_ret ?_ | refine c_yes rfl (by (simp; omega)) ?_) | (refine gN ?_; first | refine n_then ?_ | refine r_then ?_ | refine r_block ?_))
        rw [e0] at hb ht
        exact ret_tmp rfl rfl ⟨by rw [hasB, any_hit hlt (by simp [hb, ht])], HM.sb⟩
      · repeat (first | (refine gGP ?_; first | refine gp (p_move rfl) ?_ | refine gp (p_assign rfl) ?_ | (refine gGB ?_; first | refine gp (p_lss rfl rfl) ?_ | refine gp (p_gtr rfl rfl) ?_ | refine gp (p_seql rfl rfl) ?_ | refine gp (p_add rfl rfl (by exact wr (by omega) (by omega))) ?_) | refine gp (p_fieldo rfl (by simp only [Nat.reduceAdd]; rfl)) ?_ | refine gp (p_indexr HM rfl (by first | with_reducible rfl | omega) rfl (by omega) (by omega)) ?_ | refine gp (p_len rfl) ?_ | refine gp (p_pick1 rfl (by (simp; omega)) rfl) ?_) | (refine gGV ?_; refine gv (p_loadr rfl rfl (by omega) (by omega) rfl) ?_) | (refine gL ?_; first | refine s_gp rfl rfl ?_ | refine s_gv HM rfl ?_ | refine l_nil ?_ | refine s_guard_on rfl rfl rfl rfl (by (simp; omega)) ?_) | (refine gC ?_; first | refine c_seq ?_ | refine c_region ?_ | refine c_block ?_ | refine c_skip ?_ | refine c_yes rfl (by (simp; omega)) ?_ | refine c_no rfl (by (simp; omega)) ?_) | (refine gN ?_; first | refine n_then ?_ | refine n_block ?_))
        rw [e0] at hb ht
        exact n_round (k + 1) (by repeat (first | exact trivial | refine And.intro (by first | rfl | exact look_int rfl (by omega)) ?_)) ⟨by omega, any_succ hlt hp (by simp [hb, ht]), HM.sb⟩ (by omega)
    · repeat (first | (refine gGP ?_; first | refine gp (p_move rfl) ?_ | refine gp (p_assign rfl) ?_ | (refine gGB ?_; first | refine gp (p_lss rfl rfl) ?_ | refine gp (p_gtr rfl rfl) ?_ | refine gp (p_add rfl rfl (by exact wr (by omega) (by omega))) ?_) | refine gp (p_fieldo rfl (by simp only [Nat.reduceAdd]; rfl)) ?_ | refine gp (p_indexr HM rfl (by first | with_reducible rfl | omega) rfl (by omega) (by omega)) ?_ | refine gp (p_len rfl) ?_ | refine gp (p_pick0 rfl (by (simp; omega)) rfl) ?_) | (refine gGV ?_; refine gv (p_loadr rfl rfl (by omega) (by omega) rfl) ?_) | (refine gL ?_; first | refine s_gp rfl rfl ?_ | refine s_gv HM rfl ?_ | refine l_nil ?_ | refine s_guard_off rfl rfl rfl rfl (by (simp; omega)) rfl rfl ?_) | (refine gC ?_; first | refine c_seq ?_ | refine c_region ?_ | refine c_block ?_ | refine c_skip ?_ | refine c_yes rfl (by (simp; omega)) ?_ | refine c_no rfl (by rfl) ?_) | (refine gN ?_; first | refine n_then ?_ | refine n_block ?_))
      rw [e0] at hb
      exact n_round (k + 1) (by repeat (first | exact trivial | refine And.intro (by first | rfl | exact look_int rfl (by omega)) ?_)) ⟨by omega, any_succ hlt hp (by simp [hb]), HM.sb⟩ (by omega)
  · repeat (first | (refine gGP ?_; first | refine gp (p_move rfl) ?_ | refine gp (p_assign rfl) ?_ | (refine gGB ?_; refine gp (p_lss rfl rfl) ?_) | refine gp (p_len rfl) ?_) | (refine gL ?_; first | refine s_gp rfl rfl ?_ | refine l_nil ?_) | (refine gC ?_; first | refine c_seq ?_ | refine c_region ?_ | refine c_exit ?_ | refine c_ret ?_ | refine c_no rfl (by (simp; omega)) ?_) | (refine gN ?_; first | refine n_then ?_ | refine x_then ?_ | refine x_here ?_))
    obtain rfl : k = zs.length := by omega
    rw [List.take_length] at hp
    exact ret_tmp rfl rfl ⟨by rw [hp], HM.sb⟩
theorem knownM (x : Rcd) (i : AtRcd) (g : Nat) (t : ByteArray) (hk0 : 0 ≤ x.dk) (hk1 : x.dk ≤ x.ds.length) (hc : x.ds.length ≤ i.a1.2) (h : RoRow (rSlot false) w0 i.a1.1 x.ds) (hb : w0.heap[g]? = some (.cells ([.int .i64 x.number, .int .i64 x.of, .bool x.up, .int .i64 x.sp, .int .i64 x.sk, .slice i.a0.1 x.ss.length i.a0.2, .int .i64 x.dp, .int .i64 x.dk, .slice i.a1.1 x.ds.length i.a1.2, .slice i.a2.1 x.held.length i.a2.2, .slice i.a3.1 x.wishes.length i.a3.2, .bool x.lead, .bool x.trying, .int .i64 x.ballot, .slice i.a4.1 x.yes.length i.a4.2, .slice i.a5.1 x.best.length i.a5.2, .slice i.a6.1 x.acks.length i.a6.2, .int .i64 x.heard]).toArray 38 (0, 0))) (HM : Mem w0 W L) : Calls Tryz.prog 93 #[.pointer (some ⟨g, 0, none⟩), .string t] W fun e W' => e = .returned (.bool (knownB (x.ds.take x.dk.toNat) t)) ∧ Mem w0 W' L := by
  refine enter Tryz.func93 rfl Tryz.ntmps93 [(0, _), (1, _)] rfl ⟨rfl, rfl, trivial⟩ ?_
  have hz : (x.ds.take x.dk.toNat).length = x.dk.toNat := by simp; omega
  have h1 := ro_take h x.dk.toNat
  have hmax := h.max
  generalize x.ds.take x.dk.toNat = zs at hz h1 ⊢
  replace HM := (HM.rod h1).robox hb
  repeat (first | (refine gR ?_; refine d_start [] [(0, 0), (0, 1), (0, 2), (0, 3), (0, 5), (0, 6), (0, 7), (0, 8), (0, 12), (1, 4), (1, 9), (0, 10), (0, 11)] HM (by kernel_rfl) (by kernel_rfl) (by repeat (first | exact qp_body | refine qp_then ?_ | refine qp_block ?_)) (by kernel_rfl) rfl ?_; intro HQ HS W1 HM1; clear HM; have HM := HM1; clear HM1) | (refine gGP ?_; first | refine gp (p_move rfl) ?_ | refine gp (p_assign rfl) ?_ | refine gp (p_field rfl (by simp only [Nat.reduceAdd]; rfl)) ?_ | refine gp (p_sliceto rfl rfl (by omega) (by omega)) ?_ | refine gp (p_len rfl) ?_ | refine gp (p_nil rfl) ?_) | (refine gGV ?_; refine gv (p_loadrb rfl) ?_) | (refine gL ?_; first | refine s_gp rfl rfl ?_ | refine l_nil ?_) | (refine gC ?_; first | refine c_seq ?_ | refine c_region ?_ | refine c_block ?_) | (refine gN ?_; refine n_then ?_) | (refine gD ?_; first | refine d_next rfl ?_ | refine d_done ?_) | (refine gO ?_; first | refine d_gp HQ HS rfl ?_ | refine d_gv HQ HS rfl ?_))
  refine c_loop (σ := Nat) (fun k => [(1, .string t), (17, .slice i.a1.1 x.dk.toNat i.a1.2), (18, .int .i64 x.dk.toNat), (19, .int .i64 k)]) (fun k W1 => k ≤ zs.length ∧ knownB (zs.take k) t = false ∧ Mem w0 W1 (ro (rSlot false) w0 i.a1.1 zs :: L)) (fun k => zs.length - k) 0 (by repeat (first | exact trivial | refine And.intro (by first | rfl | exact look_int rfl (by omega)) ?_)) ⟨Nat.zero_le _, rfl, HM.sb⟩ ?_
  clear HM
  rintro k W1 ⟨hk, hp, HM⟩
  by_cases hlt : k < zs.length
  · have hlt2 : k < x.dk.toNat := by omega
    obtain ⟨cc, ⟨j, rfl, _⟩, HM⟩ := HM.roOpen (A := i.a1.1) k hlt
    unfold encSlot at HM
    by_cases ht : zs[k].text = t
    · repeat (first | (refine gGP ?_; first | refine gp (p_move rfl) ?_ | refine gp (p_assign rfl) ?_ | (refine gGB ?_; first | refine gp (p_lss rfl rfl) ?_ | refine gp (p_seql rfl rfl) ?_) | refine gp (p_field rfl (by simp only [Nat.reduceAdd]; rfl)) ?_ | refine gp (p_indexr HM rfl (by omega) rfl (by omega) (by omega)) ?_) | (refine gGV ?_; first | refine gv (p_load rfl) ?_ | refine gv (p_loadwr rfl rfl rfl) ?_) | (refine gL ?_; first | refine s_gp rfl rfl ?_ | refine s_gv HM rfl ?_ | (refine gStore ?_; (refine s_store HM rfl rfl rfl rfl ?_; intro W1 HM1; clear HM; have HM := HM1; clear HM1)) | (refine s_alloc HM rfl ?_; intro g W1 HM1; clear HM; have HM := HM1; clear HM1) | refine l_nil ?_) | (refine gC ?_; first | refine c_seq ?_ | refine c_region ?_ | refine c_block ?_ | refine c_skip ?_ | refine c_ret ?_ | refine c_yes rfl (by (simp; omega)) ?_) | (refine gN ?_; first | refine n_then ?_ | refine r_then ?_ | refine r_block ?_))
      exact ret_tmp rfl rfl ⟨by rw [knownB, any_hit hlt (by simp [ht])], HM.sb⟩
    · repeat (first | (refine gGP ?_; first | refine gp (p_move rfl) ?_ | (refine gGB ?_; first | refine gp (p_lss rfl rfl) ?_ | refine gp (p_seql rfl rfl) ?_ | refine gp (p_add rfl rfl (by exact wr (by omega) (by omega))) ?_) | refine gp (p_field rfl (by simp only [Nat.reduceAdd]; rfl)) ?_ | refine gp (p_indexr HM rfl (by omega) rfl (by omega) (by omega)) ?_) | (refine gGV ?_; first | refine gv (p_load rfl) ?_ | refine gv (p_loadwr rfl rfl rfl) ?_) | (refine gL ?_; first | refine s_gp rfl rfl ?_ | refine s_gv HM rfl ?_ | (refine gStore ?_; (refine s_store HM rfl rfl rfl rfl ?_; intro W1 HM1; clear HM; have HM := HM1; clear HM1)) | (refine s_alloc HM rfl ?_; intro g W1 HM1; clear HM; have HM := HM1; clear HM1) | refine l_nil ?_) | (refine gC ?_; first | refine c_seq ?_ | refine c_region ?_ | refine c_block ?_ | refine c_skip ?_ | refine c_yes rfl (by (simp; omega)) ?_ | refine c_no rfl (by (simp; omega)) ?_) | (refine gN ?_; first | refine n_then ?_ | refine n_block ?_))
      exact n_round (k + 1) (by repeat (first | exact trivial | refine And.intro (by first | rfl | exact look_int rfl (by omega)) ?_)) ⟨by omega, any_succ hlt hp (by simp [ht]), HM.sb⟩ (by omega)
  · have hlt2 : ¬ k < x.dk.toNat := by omega
    repeat (first | (refine gGP ?_; first | refine gp (p_assign rfl) ?_ | (refine gGB ?_; refine gp (p_lss rfl rfl) ?_)) | (refine gL ?_; first | refine s_gp rfl rfl ?_ | refine l_nil ?_) | (refine gC ?_; first | refine c_seq ?_ | refine c_region ?_ | refine c_exit ?_ | refine c_ret ?_ | refine c_no rfl (by (simp; omega)) ?_) | (refine gN ?_; first | refine n_then ?_ | refine x_then ?_ | refine x_here ?_))
    obtain rfl : k = zs.length := by omega
    rw [List.take_length] at hp
    exact ret_tmp rfl rfl ⟨by rw [hp], HM.sb⟩
end Go.Proofs.YtkfogbonjpdkbaaGreat.Sp
namespace Go.Proofs.YtkfogbonjpdkbaaGreat.Sp
open Go Go.RowKit
set_option linter.unusedVariables false
set_option linter.unusedSimpArgs false
set_option maxRecDepth 10000
set_option maxHeartbeats 1000000
variable {w0 W : World} {L : List Asn} {A : Option Addr} {c : Nat} {b : Bool}
def wishOk (x : Rcd) (t : ByteArray) : Bool := decide (1 ≤ (t.size : Int) ∧ (t.size : Int) ≤ 100) && newB x.wishes x.wishes.length t && decide ((x.wishes.length : Int) < 20) && !knownB (x.ds.take x.dk.toNat) t
def wish1 (x : Rcd) (t : ByteArray) : Rcd := if wishOk x t = true then { x with wishes := x.wishes ++ [t] } else x
def wishL (x : Rcd) (t : ByteArray) : Rcd := if validB x = true then (if x.up = true then wish1 x t else x) else zeroR
theorem small_wish1 (x : Rcd) (t : ByteArray) (hn : SmallR x) : SmallR (wish1 x t) := by
  unfold wish1
  split
  · rename_i h
    simp only [wishOk, Bool.and_eq_true, decide_eq_true_eq] at h
    obtain ⟨_, _, _, _, _, _, _, _, _⟩ := hn
    constructor <;> first | assumption | (simp; omega)
  · exact hn
theorem small_wish (x : Rcd) (t : ByteArray) (hn : SmallR x) : SmallR (wishL x t) := by
  unfold wishL
  split
  · split
    · exact small_wish1 x t hn
    · exact hn
  · constructor <;> simp [zeroR]
theorem any_pos {l : List Slot} (h : ∀ s ∈ l, 0 < s.ballot) (t : ByteArray) : hasB l t = knownB l t := by
  unfold hasB knownB
  rw [Bool.eq_iff_iff]
  simp only [List.any_eq_true, Bool.and_eq_true, decide_eq_true_eq]
  constructor
  · rintro ⟨s, hs, h1, h2⟩; exact ⟨s, hs, h2⟩
  · rintro ⟨s, hs, h2⟩; exact ⟨s, hs, h s hs, h2⟩
/-- What is known of the disk, of a valid recorder. -/
theorem known_eq {x : Rcd} (h : validB x = true) (t : ByteArray) : hasB (x.ds.take x.dk.toNat) t = knownB (x.ds.take x.dk.toNat) t := by
  have hd := (validB_iff.1 h).disk
  refine any_pos (fun s hs => ?_) t
  obtain ⟨i, hi, rfl⟩ := List.getElem_of_mem hs
  rw [List.getElem_take]
  have h1 : i < x.ds.length := by simp at hi; omega
  have h2 := hd.known i h1 (by simp at hi; have := hd.k0; omega)
  have h3 := (hd.slots.2 _ (List.getElem_mem h1)).lo
  omega
theorem disk_of_valid2 {x : Rcd} (h : validB x = true) : (0 ≤ x.dk ∧ x.dk ≤ x.ds.length) ∧ x.ds.length ≤ 60 := by
  simp only [validB, headB, diskB, slotsB, Bool.and_eq_true, decide_eq_true_eq] at h
  omega
theorem l3Wish_c (x : Rcd) (i : AtRcd) (t : ByteArray) (hv : validB x = true) (hn : SmallR x) (ht : t.size ≤ 1048576) (HM : Mem w0 W (partRcd 105 52 9 3 104 x i ++ L)) : Calls Tryz.prog 109 #[.agg (encRcd x i).toArray, .string t] W fun e W' => ∃ j, e = .returned (.agg (encRcd (wish1 x t) j).toArray) ∧ Mem w0 W' (partRcd 105 52 9 3 104 (wish1 x t) j ++ L) := by
  refine enter Tryz.func109 rfl Tryz.ntmps109 [(0, .agg (encRcd x i).toArray), (1, _)] rfl ⟨rfl, rfl, trivial⟩ ?_
  obtain ⟨⟨hk0, hk1⟩, hd⟩ := disk_of_valid2 hv
  have hw := hn.wishes
  have hcd := (caps_parts HM).1
  have hke := known_eq hv t
  unfold encRcd
  simp only [partRcd, List.cons_append, List.nil_append] at HM
  by_cases c1 : (t.size : Int) < 1
  · have e : wish1 x t = x := if_neg (by simp [wishOk]; omega)
    repeat (first | (refine gGP ?_; first | refine gp (p_move rfl) ?_ | (refine gGB ?_; refine gp (p_lss rfl rfl) ?_) | refine gp (p_slen rfl) ?_ | refine gp (p_pick1 rfl (by first | rfl | (simp; omega)) rfl) ?_) | (refine gGV ?_; refine gv (p_loads rfl) ?_) | (refine gL ?_; first | refine s_gp rfl rfl ?_ | refine s_gv HM rfl ?_ | (refine gStore ?_; (refine s_store HM rfl rfl rfl rfl ?_; intro W1 HM1; clear HM; have HM := HM1; clear HM1)) | (refine s_box HM rfl rfl ?_; intro g W1 HM1; clear HM; have HM := HM1; clear HM1) | (refine s_alloc HM rfl ?_; intro g W1 HM1; clear HM; have HM := HM1; clear HM1) | refine l_nil ?_ | refine s_guard_off rfl rfl rfl rfl (by first | rfl | (simp; omega)) rfl rfl ?_) | (refine gC ?_; first | refine c_seq ?_ | refine c_region ?_ | refine c_ret ?_ | refine c_yes rfl (by rfl) ?_) | (refine gN ?_; first | refine n_then ?_ | refine r_then ?_))
    rw [e]
    exact ret_cell HM rfl rfl rfl ⟨i, rfl, by simp only [partRcd, List.cons_append, List.nil_append]; exact HM.sb⟩
  by_cases c2 : (100 : Int) < t.size
  · have e : wish1 x t = x := if_neg (by simp [wishOk]; omega)
    repeat (first | (refine gGP ?_; first | refine gp (p_move rfl) ?_ | (refine gGB ?_; first | refine gp (p_lss rfl rfl) ?_ | refine gp (p_gtr rfl rfl) ?_) | refine gp (p_slen rfl) ?_ | refine gp (p_pick1 rfl (by first | rfl | (simp; omega)) rfl) ?_ | refine gp (p_pick0 rfl (by (simp; omega)) rfl) ?_) | (refine gGV ?_; refine gv (p_loads rfl) ?_) | (refine gL ?_; first | refine s_gp rfl rfl ?_ | refine s_gv HM rfl ?_ | (refine gStore ?_; (refine s_store HM rfl rfl rfl rfl ?_; intro W1 HM1; clear HM; have HM := HM1; clear HM1)) | (refine s_box HM rfl rfl ?_; intro g W1 HM1; clear HM; have HM := HM1; clear HM1) | (refine s_alloc HM rfl ?_; intro g W1 HM1; clear HM; have HM := HM1; clear HM1) | refine l_nil ?_ | refine s_guard_on rfl rfl rfl rfl (by (simp; omega)) ?_ | refine s_guard_off rfl rfl rfl rfl (by first | rfl | (simp; omega)) rfl rfl ?_) | (refine gC ?_; first | refine c_seq ?_ | refine c_region ?_ | refine c_ret ?_ | refine c_yes rfl (by rfl) ?_) | (refine gN ?_; first | refine n_then ?_ | refine r_then ?_))
    rw [e]
    exact ret_cell HM rfl rfl rfl ⟨i, rfl, by simp only [partRcd, List.cons_append, List.nil_append]; exact HM.sb⟩
  by_cases c3 : (20 : Int) ≤ x.wishes.length
  · have e : wish1 x t = x := if_neg (by simp [wishOk]; omega)
    repeat (first | (refine gGP ?_; first | refine gp (p_move rfl) ?_ | (refine gGB ?_; first | refine gp (p_lss rfl rfl) ?_ | refine gp (p_gtr rfl rfl) ?_ | refine gp (p_geq rfl rfl) ?_) | refine gp (p_field rfl (by simp only [Nat.reduceAdd]; rfl)) ?_ | refine gp (p_len rfl) ?_ | refine gp (p_slen rfl) ?_ | refine gp (p_pick1 rfl (by (simp; omega)) rfl) ?_ | refine gp (p_pick0 rfl (by (simp; omega)) rfl) ?_) | (refine gGV ?_; first | refine gv (p_load rfl) ?_ | refine gv (p_loads rfl) ?_) | (refine gL ?_; first | refine s_gp rfl rfl ?_ | refine s_gv HM rfl ?_ | (refine gStore ?_; (refine s_store HM rfl rfl rfl rfl ?_; intro W1 HM1; clear HM; have HM := HM1; clear HM1)) | (refine s_box HM rfl rfl ?_; intro g W1 HM1; clear HM; have HM := HM1; clear HM1) | (refine s_alloc HM rfl ?_; intro g W1 HM1; clear HM; have HM := HM1; clear HM1) | refine l_nil ?_ | refine s_guard_on rfl rfl rfl rfl (by (simp; omega)) ?_ | refine s_guard_off rfl rfl rfl rfl (by (simp; omega)) rfl rfl ?_) | (refine gC ?_; first | refine c_seq ?_ | refine c_region ?_ | refine c_ret ?_ | refine c_yes rfl (by rfl) ?_) | (refine gN ?_; first | refine n_then ?_ | refine r_then ?_))
    rw [e]
    exact ret_cell HM rfl rfl rfl ⟨i, rfl, by simp only [partRcd, List.cons_append, List.nil_append]; exact HM.sb⟩
  by_cases c4 : hasB (x.ds.take x.dk.toNat) t = true
  · have e : wish1 x t = x := if_neg (by simp [wishOk, ← hke, c4])
    repeat (first | (refine gGP ?_; first | refine gp (p_move rfl) ?_ | (refine gGB ?_; first | refine gp (p_lss rfl rfl) ?_ | refine gp (p_gtr rfl rfl) ?_ | refine gp (p_geq rfl rfl) ?_) | refine gp (p_field rfl (by simp only [Nat.reduceAdd]; rfl)) ?_ | refine gp (p_sliceto rfl rfl (by omega) (by omega)) ?_ | refine gp (p_len rfl) ?_ | refine gp (p_slen rfl) ?_ | refine gp (p_pick0 rfl (by (simp; omega)) rfl) ?_) | (refine gGV ?_; first | refine gv (p_load rfl) ?_ | refine gv (p_loads rfl) ?_) | (refine gL ?_; first | refine s_gp rfl rfl ?_ | refine s_gv HM rfl ?_ | (refine gStore ?_; (refine s_store HM rfl rfl rfl rfl ?_; intro W1 HM1; clear HM; have HM := HM1; clear HM1)) | (refine gCall ?_; (refine s_fn rfl rfl ?_; (go_at_call 30; obtain ⟨F1, hF1⟩ := HM.own (A := i.a1.1); refine (has3_c (by simp; omega) t (ro_take (ro_slots hF1) x.dk.toNat) (Mem.start _)).mono ?_; clear hF1; rintro e W1 ⟨rfl, HM1⟩; refine ⟨_, rfl, ?_⟩; have HM2 := HM.step HM1.below; clear HM HM1; have HM := HM2; clear HM2))) | (refine s_box HM rfl rfl ?_; intro g W1 HM1; clear HM; have HM := HM1; clear HM1) | (refine s_alloc HM rfl ?_; intro g W1 HM1; clear HM; have HM := HM1; clear HM1) | refine l_nil ?_ | refine s_guard_on rfl rfl rfl rfl (by (simp; omega)) ?_) | (refine gC ?_; first | refine c_seq ?_ | refine c_region ?_ | refine c_ret ?_ | refine c_yes rfl (by assumption) ?_) | (refine gN ?_; first | refine n_then ?_ | refine r_then ?_))
    rw [e]
    exact ret_cell HM rfl rfl rfl ⟨i, rfl, by simp only [partRcd, List.cons_append, List.nil_append]; exact HM.sb⟩
  simp only [Bool.not_eq_true] at c4
  repeat (first | (refine gGP ?_; first | refine gp (p_move rfl) ?_ | refine gp (p_assign rfl) ?_ | (refine gGB ?_; first | refine gp (p_lss rfl rfl) ?_ | refine gp (p_gtr rfl rfl) ?_ | refine gp (p_geq rfl rfl) ?_) | refine gp (p_field rfl (by simp only [Nat.reduceAdd]; rfl)) ?_ | refine gp (p_sliceto rfl rfl (by omega) (by omega)) ?_ | refine gp (p_len rfl) ?_ | refine gp (p_slen rfl) ?_ | refine gp (p_pick0 rfl (by (simp; omega)) rfl) ?_) | (refine gGV ?_; refine gv (p_load rfl) ?_) | (refine gL ?_; first | refine s_gp rfl rfl ?_ | refine s_gv HM rfl ?_ | (refine gCall ?_; (refine s_fn rfl rfl ?_; (go_at_call 30; obtain ⟨F1, hF1⟩ := HM.own (A := i.a1.1); refine (has3_c (by simp; omega) t (ro_take (ro_slots hF1) x.dk.toNat) (Mem.start _)).mono ?_; clear hF1; rintro e W1 ⟨rfl, HM1⟩; refine ⟨_, rfl, ?_⟩; have HM2 := HM.step HM1.below; clear HM HM1; have HM := HM2; clear HM2))) | (refine s_box HM rfl rfl ?_; intro g W1 HM1; clear HM; have HM := HM1; clear HM1) | (refine s_alloc HM rfl ?_; intro g W1 HM1; clear HM; have HM := HM1; clear HM1) | refine l_nil ?_ | refine s_guard_on rfl rfl rfl rfl (by (simp; omega)) ?_) | (refine gC ?_; first | refine c_seq ?_ | refine c_region ?_ | refine c_block ?_ | refine c_skip ?_ | refine c_no rfl (by first | rfl | assumption) ?_) | (refine gN ?_; refine n_then ?_))
  refine c_loop (σ := Nat) (fun k => [(1, .string t), (2, .pointer (some ⟨_, 0, none⟩)), (4, .pointer (some ⟨g, 0, none⟩)), (5, .int .i64 k)]) (fun k W1 => k ≤ x.wishes.length ∧ newB x.wishes k t = true ∧ Mem w0 W1 _) (fun k => x.wishes.length - k) 0 (by repeat (first | exact trivial | refine And.intro (by first | rfl | exact look_int rfl (by omega)) ?_)) ⟨Nat.zero_le _, allN_zero, HM⟩ ?_
  clear HM
  rintro k W1 ⟨hk, hp, HM⟩
  by_cases hlt : k < x.wishes.length
  · by_cases he : rd tStr x.wishes k = t
    · have he2 : rdR (rStr false) x.wishes k = t := by rw [← he, rdR_at hlt, rd_at hlt]
      have hf : newB x.wishes x.wishes.length t = false := allN_fail hlt (by simp [he2])
      have e : wish1 x t = x := if_neg (by simp [wishOk, hf])
      repeat (first | (refine gGP ?_; first | refine gp (p_move rfl) ?_ | (refine gGB ?_; first | refine gp (p_lss rfl rfl) ?_ | refine gp (p_seql rfl rfl) ?_) | refine gp (p_field rfl (by simp only [Nat.reduceAdd]; rfl)) ?_ | refine gp (p_indexo HM rfl (by first | with_reducible rfl | omega) rfl (by omega) (by omega)) ?_ | refine gp (p_len rfl) ?_) | (refine gGV ?_; first | refine gv (p_load rfl) ?_ | refine gv (p_loado rfl rfl (by omega) (by omega) rfl) ?_ | refine gv (p_loads rfl) ?_) | (refine gL ?_; first | refine s_gp rfl rfl ?_ | refine s_gv HM rfl ?_ | (refine gStore ?_; (refine s_store HM rfl rfl rfl rfl ?_; intro W1 HM1; clear HM; have HM := HM1; clear HM1)) | refine l_nil ?_) | (refine gC ?_; first | refine c_seq ?_ | refine c_region ?_ | refine c_block ?_ | refine c_skip ?_ | refine c_ret ?_ | refine c_yes rfl (by (simp; omega)) ?_) | (refine gN ?_; first | refine n_then ?_ | refine r_then ?_ | refine r_block ?_))
      rw [e]
      exact ret_cell HM rfl rfl rfl ⟨i, rfl, by simp only [partRcd, List.cons_append, List.nil_append]; exact HM.sb⟩
    · have he2 : rdR (rStr false) x.wishes k ≠ t := by rw [rdR_at hlt, ← rd_at (d := tStr) hlt]; exact he
      repeat (first | (refine gGP ?_; first | refine gp (p_move rfl) ?_ | refine gp (p_assign rfl) ?_ | (refine gGB ?_; first | refine gp (p_lss rfl rfl) ?_ | refine gp (p_seql rfl rfl) ?_ | refine gp (p_add rfl rfl (by exact wr (by omega) (by omega))) ?_) | refine gp (p_field rfl (by simp only [Nat.reduceAdd]; rfl)) ?_ | refine gp (p_indexo HM rfl (by first | with_reducible rfl | omega) rfl (by omega) (by omega)) ?_ | refine gp (p_len rfl) ?_) | (refine gGV ?_; first | refine gv (p_load rfl) ?_ | refine gv (p_loado rfl rfl (by omega) (by omega) rfl) ?_) | (refine gL ?_; first | refine s_gp rfl rfl ?_ | refine s_gv HM rfl ?_ | refine l_nil ?_) | (refine gC ?_; first | refine c_seq ?_ | refine c_region ?_ | refine c_block ?_ | refine c_skip ?_ | refine c_yes rfl (by (simp; omega)) ?_ | refine c_no rfl (by (simp; omega)) ?_) | (refine gN ?_; first | refine n_then ?_ | refine n_block ?_))
      exact n_round (k + 1) (by repeat (first | exact trivial | refine And.intro (by first | rfl | exact look_int rfl (by omega)) ?_)) ⟨by omega, allN_succ hp (by simp [he2]), HM⟩ (by omega)
  · obtain rfl : k = x.wishes.length := by omega
    have e : wish1 x t = { x with wishes := x.wishes ++ [t] } := if_pos (by simp only [wishOk, hp, ← hke, c4]; simp; omega)
    repeat (first | (refine gGP ?_; first | refine gp (p_move rfl) ?_ | (refine gGB ?_; refine gp (p_lss rfl rfl) ?_) | refine gp (p_field rfl (by simp only [Nat.reduceAdd]; rfl)) ?_ | refine gp (p_len rfl) ?_) | (refine gGV ?_; first | refine gv (p_load rfl) ?_ | refine gv (p_loads rfl) ?_) | (refine gL ?_; first | refine s_gp rfl rfl ?_ | refine s_gv HM rfl ?_ | (refine gStore ?_; (refine s_store HM rfl rfl rfl rfl ?_; intro W1 HM1; clear HM; have HM := HM1; clear HM1)) | (refine gCall ?_; (refine s_append1 HM rfl rfl (by first | with_reducible rfl | omega) rfl rfl (by omega) rfl ?_; intro A1 c1 W1 HM1; clear HM; have HM := HM1; clear HM1)) | (refine s_lit1 HM rfl rfl rfl ?_; intro g W1 HM1; clear HM; have HM := HM1; clear HM1) | refine l_nil ?_) | (refine gC ?_; first | refine c_seq ?_ | refine c_region ?_ | refine c_exit ?_ | refine c_ret ?_ | refine c_no rfl (by first | (simp; done) | fail) ?_) | (refine gN ?_; first | refine n_then ?_ | refine x_then ?_ | refine x_here ?_))
    rw [e]
    exact ret_cell HM rfl rfl rfl ⟨⟨i.a0, i.a1, i.a2, (A1, c1), i.a4, i.a5, i.a6⟩, rfl, by simp only [partRcd, List.cons_append, List.nil_append]; exact HM.sb⟩
end Go.Proofs.YtkfogbonjpdkbaaGreat.Sp
namespace Go.Proofs.YtkfogbonjpdkbaaGreat.Sp
open Go Go.RowKit
set_option linter.unusedVariables false
set_option linter.unusedSimpArgs false
/-- How far a beat's word of what is known leads. -/
def knowL (ds : List Slot) (b kn : Int) : Nat → Int → Int
  | 0, d => d
  | n + 1, d => if d < kn ∧ d < ds.length ∧ (rd tSlot ds d).ballot = b then knowL ds b kn n (d + 1) else d
def wishedL (to : Int) : List ByteArray → Rcd → Rcd
  | [], y => y
  | w :: r, y => wishedL to r (holdL y ⟨8, 0, to, 0, 0, 0, w, []⟩)
def beat1 (y : Rcd) (m : Msg) : Rcd := { y with dk := knowL y.ds m.ballot m.known y.ds.length y.dk }
def beat2 (y : Rcd) (m : Msg) : Rcd := if y.dk < m.known then holdL y ⟨7, 0, m.frm, m.ballot, y.dk + 1, 0, ⟨#[]⟩, []⟩ else y
def beatL (x : Rcd) (m : Msg) : Rcd :=
  if m.frm = x.number ∨ m.ballot < 1 then x
  else wishedL m.frm x.wishes (beat2 (beat1 (followL x m.ballot) m) m)
def refuseL (x : Rcd) (to : Int) : Rcd := holdL x ⟨9, 0, to, x.dp, 0, 0, ⟨#[]⟩, []⟩
/-- n places from i on are told. -/
def needL (to : Int) : Nat → Int → Rcd → Rcd
  | 0, _, y => y
  | n + 1, i, y => if i ≤ y.dk then needL to n (i + 1) (holdL y ⟨6, 0, to, y.ballot, i, 0, (rd tSlot y.ds (i - 1)).text, []⟩) else y
def prepL (x : Rcd) (m : Msg) : Rcd := if m.ballot ≤ x.dp then refuseL x m.frm else holdL (followL x m.ballot) ⟨2, 0, m.frm, m.ballot, 0, 0, ⟨#[]⟩, (followL x m.ballot).ds⟩
def acc1 (y : Rcd) (m : Msg) : Rcd := if y.dk < m.index then setL y m.index ⟨m.ballot, m.text⟩ else y
def accL (x : Rcd) (m : Msg) : Rcd := if m.ballot < x.dp then refuseL x m.frm else if m.index < 1 ∨ m.ballot < 1 ∨ m.frm = x.number then x else holdL (acc1 (followL x m.ballot) m) ⟨4, 0, m.frm, m.ballot, m.index, 0, ⟨#[]⟩, []⟩
def choL (x : Rcd) (m : Msg) : Rcd := if m.index = x.dk + 1 ∧ 0 < m.ballot ∧ m.ballot ≤ x.dp then { setL x m.index ⟨m.ballot, m.text⟩ with dk := m.index } else x
def refL (x : Rcd) (m : Msg) : Rcd := if x.ballot < m.ballot ∧ (x.lead = true ∨ x.trying = true) then { calmL x with dp := max x.dp m.ballot } else x
def takeL (x : Rcd) (m : Msg) : Rcd :=
  if m.kind = 1 then prepL x m
  else if m.kind = 2 then (if x.trying = true ∧ m.ballot = x.ballot then promL x m.frm m.slots else x)
  else if m.kind = 3 then accL x m
  else if m.kind = 4 then (if x.lead = true ∧ m.ballot = x.ballot ∧ 0 < m.index then ackL x m.index m.frm else x)
  else if m.kind = 5 then (if m.ballot < x.dp then refuseL x m.frm else beatL x m)
  else if m.kind = 6 then choL x m
  else if m.kind = 7 then (if x.lead = true ∧ 0 < m.index then needL m.frm 5 m.index x else x)
  else if m.kind = 8 then wish1 x m.text
  else if m.kind = 9 then refL x m
  else x
def recTakeL (x : Rcd) (m : Msg) : Rcd := if validB x = true then (if x.up = true ∧ msgB m x.of = true ∧ m.to = x.number then takeL x m else x) else zeroR
/-- The next ballot of one's own. -/
def nextL (above number of : Int) : Int :=
  if (1 ≤ of ∧ of ≤ 5) ∧ (1 ≤ number ∧ number ≤ of) ∧ (0 ≤ above ∧ above ≤ 1000000) then
    (if 1000000 < (if above.tdiv of * of + number ≤ above then above.tdiv of * of + number + of else above.tdiv of * of + number) then 0
     else (if above.tdiv of * of + number ≤ above then above.tdiv of * of + number + of else above.tdiv of * of + number))
  else 0
/-- A message to all others, from place i on. -/
def othersL (num : Int) (m : Msg) : Nat → Int → List Msg → List Msg
  | 0, _, o => o
  | n + 1, i, o => othersL num m n (i + 1) (if i = num then o else o ++ [{ m with frm := num, to := i }])
def othL (x : Rcd) (o : List Msg) (m : Msg) : List Msg := othersL x.number m x.of.toNat 1 o
def ackAllL (b num : Int) (ss : List Slot) : Nat → Nat → Rcd → Rcd
  | 0, _, y => y
  | n + 1, i, y => ackAllL b num ss n (i + 1) (if (rd tSlot ss i).ballot = b then ackL y ((i : Int) + 1) num else y)
def layWish (y : Rcd) (w : ByteArray) : Rcd := if hasB y.ds w = false ∧ (y.ds.length : Int) < 60 then setL y ((y.ds.length : Int) + 1) ⟨y.ballot, w⟩ else y
def accOut (x : Rcd) : Nat → Nat → List Msg → List Msg
  | 0, _, o => o
  | n + 1, i, o => accOut x n (i + 1) (othL x o ⟨3, 0, 0, x.ballot, (i : Int) + 1, 0, (rd tSlot x.ds i).text, []⟩)
def lead1 (x : Rcd) : Rcd := x.wishes.foldl layWish (ackAllL x.ballot x.number x.ss x.ss.length 0 x)
def leadOut (x : Rcd) (o : List Msg) : List Msg := accOut x (x.ds.length - x.dk.toNat) x.dk.toNat (othL x o ⟨5, 0, 0, x.ballot, 0, x.dk, ⟨#[]⟩, []⟩)
def tick1 (x : Rcd) : Rcd := { x with sp := x.dp, sk := x.dk, ss := x.ds, held := [], wishes := x.wishes.filter (fun w => !hasB (x.ds.take x.dk.toNat) w), heard := if x.heard < 1000000 then x.heard + 1 else x.heard }
def tick2 (x : Rcd) : Rcd := if x.trying = true ∧ x.sp = x.ballot then promL x x.number x.ds else x
def holdAll : List Msg → Rcd → Rcd
  | [], y => y
  | m :: r, y => holdAll r (holdL y m)
def tick4 (x : Rcd) (b : Int) : Rcd := holdAll (othL { calmL x with heard := 0, dp := b, ballot := b, trying := true } [] ⟨1, 0, 0, b, 0, 0, ⟨#[]⟩, []⟩) { calmL x with heard := 0, dp := b, ballot := b, trying := true }
def tick3 (x : Rcd) : Rcd := if 4 + 3 * x.number < x.heard then (if 0 < nextL x.dp x.number x.of then tick4 x (nextL x.dp x.number x.of) else { calmL x with heard := 0 }) else x
def tickL (x : Rcd) : Rcd := if (tick2 (tick1 x)).lead = true then lead1 (tick2 (tick1 x)) else tick3 (tick2 (tick1 x))
def tickOut (x : Rcd) : List Msg := if (tick2 (tick1 x)).lead = true then leadOut (lead1 (tick2 (tick1 x))) x.held else x.held
def recTickL (x : Rcd) : Rcd := if validB x = true then (if x.up = true then tickL x else x) else zeroR
def recTickO (x : Rcd) : List Msg := if validB x = true then (if x.up = true then tickOut x else []) else []
theorem wished_keep (to : Int) : ∀ (l : List ByteArray) (y : Rcd), ∃ h, wishedL to l y = { y with held := h }
  | [], y => ⟨y.held, rfl⟩
  | w :: r, y => by
    obtain ⟨h, e⟩ := wished_keep to r (holdL y ⟨8, 0, to, 0, 0, 0, w, []⟩)
    refine ⟨h, ?_⟩
    rw [wishedL, e]
    unfold holdL
    split <;> rfl
end Go.Proofs.YtkfogbonjpdkbaaGreat.Sp
namespace Go.Proofs.YtkfogbonjpdkbaaGreat.Sp
set_option linter.unusedVariables false
set_option linter.unusedSimpArgs false
open Go
section
variable {P : Program} {n : Nat} {Q Q' : Exit → Act → World → Prop} {E : Env} {W : World} {σ : Type}
/-- What is left when a piece of code is done: one of the states told. -/
structure MidP (n : Nat) (J : σ → Env) (M : σ → World → Prop) (a : Act) (w : World) : Prop where out : ∃ s, Fits n (J s) a ∧ M s w
theorem mid_wp {y : Code} {J : σ → Env} {M : σ → World → Prop} (h : ∀ s W, M s W → WC P n y Q (J s) W) {a : Act} {w : World} (hm : MidP n J M a w) : y.wp P Q a w := by
  obtain ⟨s, hf, hM⟩ := hm.out
  exact (h s w hM).out a hf
/-- The cut behind a block .. -/
theorem c_cut {id : Nat} {c y : Code} (J : σ → Env) (M : σ → World → Prop) (h1 : WC P n c (Exit.inBlock id (Exit.then (MidP n J M) Q')) E W) (h2 : ∀ s W, M s W → WC P n y Q (J s) W) : WC P n c (Exit.inBlock id (Exit.then (y.wp P Q) Q')) E W := ⟨fun a ha => by
  refine wp_mono (h1.out a ha) fun e a' w' hq => ?_
  cases e with
  | normal => exact mid_wp h2 hq
  | exit k =>
    by_cases hk : k = id
    · subst hk
      have hq2 : (if k = k then Exit.then (MidP n J M) Q' .normal a' w' else Exit.then (MidP n J M) Q' (.exit k) a' w') := hq
      rw [if_pos rfl] at hq2
      show (if k = k then Exit.then (y.wp P Q) Q' .normal a' w' else Exit.then (y.wp P Q) Q' (.exit k) a' w')
      rw [if_pos rfl]
      exact mid_wp h2 hq2
    · have hq2 : (if k = id then Exit.then (MidP n J M) Q' .normal a' w' else Exit.then (MidP n J M) Q' (.exit k) a' w') := hq
      rw [if_neg hk] at hq2
      show (if k = id then Exit.then (y.wp P Q) Q' .normal a' w' else Exit.then (y.wp P Q) Q' (.exit k) a' w')
      rw [if_neg hk]
      exact hq2
  | _ => exact hq⟩
/-- .. and behind a piece of code. -/
theorem c_cutn {c y : Code} (J : σ → Env) (M : σ → World → Prop) (h1 : WC P n c (Exit.then (MidP n J M) Q') E W) (h2 : ∀ s W, M s W → WC P n y Q (J s) W) : WC P n c (Exit.then (y.wp P Q) Q') E W := ⟨fun a ha => by
  refine wp_mono (h1.out a ha) fun e a' w' hq => ?_
  cases e with
  | normal => exact mid_wp h2 hq
  | _ => exact hq⟩
theorem n_mid {J : σ → Env} {M : σ → World → Prop} (s : σ) (hJ : subE E (J s)) (hM : M s W) : WN n .normal (Exit.then (MidP n J M) Q') E W := ⟨fun _ ha => ⟨s, ha.sub (subE_look hJ), hM⟩⟩
end
/-- The rest of the memory gets a name. -/
theorem Mem.name {w0 W : World} {A R : List Asn} (h : Mem w0 W (A ++ R)) : ∃ R', R' = R ∧ Mem w0 W (A ++ R') := ⟨R, rfl, h⟩
theorem Mem.name2 {w0 W : World} {A R : List Asn} {B : Asn} (h : Mem w0 W (B :: (A ++ R))) : ∃ R', R' = R ∧ Mem w0 W (B :: (A ++ R')) := ⟨R, rfl, h⟩
theorem Mem.nam {w0 W : World} {L : List Asn} (h : Mem w0 W L) : ∃ L', L' = L ∧ Mem w0 W L' := ⟨L, rfl, h⟩
/-- A result in memory and one in a slot. -/
theorem ret_ct {P : Program} {n : Nat} {E : Env} {w0 W : World} {L : List Asn} {fn : Func} {R : Ending → World → Prop} {p u m pt g t : Nat} {cs : List Value} {v : Value} [hB : BoxAt L g t cs] [hA : Agg P pt m] (hm : Mem w0 W L) (hf : fn.results = #[.cell p pt, .tmp u]) (hp : look E p = some (.pointer (some ⟨g, 0, none⟩))) (hv : look E u = some v) (hl : cs.length = m) (h : R (.returned (.tuple #[.agg cs.toArray, v])) W) : WN n .ret (bodyPost P fn R) E W := ⟨fun a ha => by
  obtain ⟨d, hu, hu2, hi⟩ := hA.out
  have hp' : a.tmps[p]?.getD undef = .pointer (some ⟨g, 0, none⟩) := by simpa using ha.slots p _ hp
  have hv' : a.tmps[u]?.getD undef = v := by simpa using ha.slots u _ hv
  have hr := run_loadVar_row (P := P) W g t pt cs.toArray (0, 0) d hm.heap hu (by cases d <;> first | rfl | (simp at hu2)) (by rw [hi]; simp [hl])
  exact ⟨ha.defers, _, by simp [results, hf, hp', hv', asAddr, hr], h⟩⟩
end Go.Proofs.YtkfogbonjpdkbaaGreat.Sp
