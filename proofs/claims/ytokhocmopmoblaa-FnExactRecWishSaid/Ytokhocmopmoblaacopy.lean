/- l2Copy and its parts, of the reference. No condition. -/
import Derived.Test.YtokhocmopmoblaaSpAuto
import Derived.Test.Ytokhocmopmoblaasz
namespace Go.Proofs.Ytokhocmopmoblaa.Sp
open Go Go.RowKit
set_option linter.unusedVariables false
set_option linter.unusedSimpArgs false
set_option maxRecDepth 10000
set_option maxHeartbeats 1000000
variable {w0 W : World} {L : List Asn} {A : Option Addr} {c : Nat} {b : Bool}
theorem l1Slots_c {xs : List Slot} (h : RoRow (rSlot b) w0 A xs) (hn : xs.length ≤ 1048576) (HM : Mem w0 W L) : Calls Try.prog 66 #[.slice A xs.length c] W fun e W' => ∃ A' c', e = .returned (.slice A' xs.length c') ∧ Mem w0 W' (own tSlot 91 A' c' xs :: L) := by
  refine enter Try.func66 rfl Try.ntmps66 [(0, _)] rfl ⟨rfl, trivial⟩ ?_
  replace HM := HM.rod h
  repeat (first | (refine gGP ?_; first | refine gp (p_move rfl) ?_ | refine gp (p_assign rfl) ?_) | (refine gL ?_; first | refine s_gp rfl rfl ?_ | (refine gCall ?_; (refine s_appr0 HM rfl rfl rfl rfl rfl (by first | with_reducible rfl | omega) (by omega) rfl ?_; intro A1 c1 W1 HM1; clear HM; have HM := HM1; clear HM1)) | (refine s_lit0a HM rfl rfl ?_; intro A1 W1 HM1; clear HM; have HM := HM1; clear HM1) | refine l_nil ?_) | (refine gC ?_; first | refine c_seq ?_ | refine c_region ?_ | refine c_ret ?_) | (refine gN ?_; refine n_then ?_))
  exact ret_tmp rfl rfl ⟨A1, c1, rfl, HM.sb⟩
theorem l1Disk_c (p q : Int) {xs : List Slot} (h : RoRow (rSlot b) w0 A xs) (hn : xs.length ≤ 1048576) (HM : Mem w0 W L) : Calls Try.prog 24 #[.agg #[.int .i64 p, .int .i64 q, .slice A xs.length c]] W fun e W' => ∃ A' c', e = .returned (.agg #[.int .i64 p, .int .i64 q, .slice A' xs.length c']) ∧ Mem w0 W' (own tSlot 91 A' c' xs :: L) := by
  refine enter Try.func24 rfl Try.ntmps24 [(0, .agg #[.int .i64 p, .int .i64 q, .slice A xs.length c])] rfl ⟨rfl, trivial⟩ ?_
  repeat (first | (refine gGP ?_; refine gp (p_field rfl (by simp only [Nat.reduceAdd]; rfl)) ?_) | (refine gGV ?_; first | refine gv (p_load rfl) ?_ | refine gv (p_loads rfl) ?_) | (refine gL ?_; first | refine s_gp rfl rfl ?_ | refine s_gv HM rfl ?_ | (refine gStore ?_; (refine s_store HM rfl rfl rfl rfl ?_; intro W1 HM1; clear HM; have HM := HM1; clear HM1)) | (refine gCall ?_; (refine s_fn rfl rfl ?_; (go_at_call 66; refine (l1Slots_c h hn HM).mono ?_; rintro e W1 ⟨A1, c1, rfl, HM1⟩; refine ⟨_, rfl, ?_⟩; clear HM; have HM := HM1; clear HM1))) | (refine s_box HM rfl rfl ?_; intro g W1 HM1; clear HM; have HM := HM1; clear HM1) | (refine s_alloc HM rfl ?_; intro g W1 HM1; clear HM; have HM := HM1; clear HM1) | refine l_nil ?_) | (refine gC ?_; first | refine c_seq ?_ | refine c_region ?_ | refine c_ret ?_) | (refine gN ?_; refine n_then ?_))
  exact ret_cell HM rfl rfl rfl ⟨A1, c1, rfl, HM.sb⟩
theorem l2Message_c (x : Msg) (i : At) (h : RoRow (rSlot b) w0 i.1 x.slots) (hn : x.slots.length ≤ 1048576) (HM : Mem w0 W L) : Calls Try.prog 87 #[.agg (encMsg x i).toArray] W fun e W' => ∃ A' c', e = .returned (.agg #[.int .i64 x.kind, .int .i64 x.frm, .int .i64 x.to, .int .i64 x.ballot, .int .i64 x.index, .int .i64 x.known, .string x.text, .slice A' x.slots.length c']) ∧ Mem w0 W' (own tSlot 91 A' c' x.slots :: L) := by
  refine enter Try.func87 rfl Try.ntmps87 [(0, .agg (encMsg x i).toArray)] rfl ⟨rfl, trivial⟩ ?_
  unfold encMsg
  repeat (first | (refine gGP ?_; refine gp (p_field rfl (by simp only [Nat.reduceAdd]; rfl)) ?_) | (refine gGV ?_; first | refine gv (p_load rfl) ?_ | refine gv (p_loads rfl) ?_) | (refine gL ?_; first | refine s_gp rfl rfl ?_ | refine s_gv HM rfl ?_ | (refine gStore ?_; (refine s_store HM rfl rfl rfl rfl ?_; intro W1 HM1; clear HM; have HM := HM1; clear HM1)) | (refine gCall ?_; (refine s_fn rfl rfl ?_; (go_at_call 66; refine (l1Slots_c h hn HM).mono ?_; rintro e W1 ⟨A1, c1, rfl, HM1⟩; refine ⟨_, rfl, ?_⟩; clear HM; have HM := HM1; clear HM1))) | (refine s_box HM rfl rfl ?_; intro g W1 HM1; clear HM; have HM := HM1; clear HM1) | (refine s_alloc HM rfl ?_; intro g W1 HM1; clear HM; have HM := HM1; clear HM1) | refine l_nil ?_) | (refine gC ?_; first | refine c_seq ?_ | refine c_region ?_ | refine c_ret ?_) | (refine gN ?_; refine n_then ?_))
  exact ret_cell HM rfl rfl rfl ⟨A1, c1, rfl, HM.sb⟩
theorem l2Messages_c {xs : List Msg} (h : RoRow (rMsg b) w0 A xs) (hn : xs.length ≤ 1048576) (hm : ∀ x ∈ xs, x.slots.length ≤ 1048576) (HM : Mem w0 W L) : Calls Try.prog 83 #[.slice A xs.length c] W fun e W' => ∃ A' c', e = .returned (.slice A' xs.length c') ∧ Mem w0 W' (own (tMsg 91) 85 A' c' xs :: L) := by
  refine enter Try.func83 rfl Try.ntmps83 [(0, _)] rfl ⟨rfl, trivial⟩ ?_
  replace HM := HM.rod h
  repeat (first | (refine gGP ?_; refine gp (p_assign rfl) ?_) | (refine gL ?_; first | refine s_gp rfl rfl ?_ | (refine s_lit0a HM rfl rfl ?_; intro A1 W1 HM1; clear HM; have HM := HM1; clear HM1) | refine l_nil ?_) | (refine gC ?_; first | refine c_seq ?_ | refine c_region ?_ | refine c_block ?_) | (refine gN ?_; refine n_then ?_))
  refine c_loop2 (σ := Nat) (fun k A1 c1 => [(0, .slice A xs.length c), (3, .slice A1 k c1), (4, .int .i64 k)]) (fun k A1 c1 W => k ≤ xs.length ∧ ∃ ys : List Msg, ys.length = k ∧ ys = xs.take k ∧ Mem w0 W (own (tMsg 91) 85 A1 c1 ys :: ro (rMsg b) w0 A xs :: L)) (fun k => xs.length - k) 0 A1 0 (by repeat (first | exact trivial | refine And.intro (by first | rfl | exact look_int rfl (by omega)) ?_)) ⟨Nat.zero_le _, [], rfl, rfl, HM.sb⟩ ?_
  clear HM
  rintro k A1 c1 W ⟨hk, ys, hl, hy, HM⟩
  by_cases hlt : k < xs.length
  · have e0 := rdR_at (D := rMsg b) hlt
    have hs1 := hm _ (List.getElem_mem hlt)
    obtain ⟨cc, ⟨j, rfl, hb, hs⟩, HM⟩ := HM.roOpen (A := A) k hlt
    unfold encMsg at HM
    repeat (first | (refine gGP ?_; first | refine gp (p_move rfl) ?_ | refine gp (p_assign rfl) ?_ | (refine gGB ?_; first | refine gp (p_lss rfl rfl) ?_ | refine gp (p_add rfl rfl (by exact wr (by omega) (by omega))) ?_) | refine gp (p_indexr HM rfl (by first | with_reducible rfl | omega) rfl (by omega) (by omega)) ?_ | refine gp (p_len rfl) ?_) | (refine gGV ?_; refine gv (p_loadwr rfl rfl rfl) ?_) | (refine gL ?_; first | refine s_gp rfl rfl ?_ | refine s_gv HM rfl ?_ | (refine gCall ?_; first | (refine s_fn rfl rfl ?_; (go_at_call 87; refine (l2Message_c _ j hs hs1 HM).mono ?_; rintro e W1 ⟨A1, c1, rfl, HM1⟩; refine ⟨_, rfl, ?_⟩; clear HM; have HM := HM1; clear HM1)) | (refine s_append1 HM rfl rfl (by omega) rfl rfl (by omega) rfl ?_; intro A1 c1 W1 HM1; clear HM; have HM := HM1; clear HM1)) | (refine s_lit1 HM rfl rfl rfl ?_; intro g W1 HM1; clear HM; have HM := HM1; clear HM1) | refine l_nil ?_) | (refine gC ?_; first | refine c_seq ?_ | refine c_region ?_ | refine c_block ?_ | refine c_skip ?_ | refine c_yes rfl (by (simp; omega)) ?_) | (refine gN ?_; first | refine n_then ?_ | refine n_block ?_))
    have e1 : (ys ++ [xs[k]]).length = k + 1 := by simp [hl]
    have e2 : (⟨xs[k].kind, xs[k].frm, xs[k].to, xs[k].ballot, xs[k].index, xs[k].known, xs[k].text, xs[k].slots⟩ : Msg) = xs[k] := rfl
    rw [e2] at HM ⊢
    rw [e1]
    exact n_round2 (k + 1) A1 c1 (by repeat (first | exact trivial | refine And.intro (by first | rfl | exact look_int rfl (by omega)) ?_)) ⟨by omega, _, e1, by rw [hy, List.take_succ_eq_append_getElem (by omega)], HM.sb⟩ (by omega)
  · repeat (first | (refine gGP ?_; first | refine gp (p_move rfl) ?_ | refine gp (p_assign rfl) ?_ | (refine gGB ?_; refine gp (p_lss rfl rfl) ?_) | refine gp (p_len rfl) ?_) | (refine gL ?_; first | refine s_gp rfl rfl ?_ | refine l_nil ?_) | (refine gC ?_; first | refine c_seq ?_ | refine c_region ?_ | refine c_exit ?_ | refine c_ret ?_ | refine c_no rfl (by (simp; omega)) ?_) | (refine gN ?_; first | refine n_then ?_ | refine x_then ?_ | refine x_here ?_))
    obtain rfl : k = xs.length := by omega
    rw [List.take_length] at hy
    subst hy
    exact ret_tmp rfl rfl ⟨A1, c1, rfl, HM.sb⟩
theorem l2Copy_c (x : Rcd) (i : AtRcd) (h : RoRcd b w0 x i) (hn : SmallR x) (HM : Mem w0 W L) : Calls Try.prog 52 #[.agg (encRcd x i).toArray] W fun e W' => ∃ j, e = .returned (.agg (encRcd x j).toArray) ∧ Mem w0 W' (partRcd 91 85 9 3 93 x j ++ L) := by
  refine enter Try.func52 rfl Try.ntmps52 [(0, .agg (encRcd x i).toArray)] rfl ⟨rfl, trivial⟩ ?_
  have h0 := h
  have s1 := hn.ss
  have s2 := hn.ds
  have s3 := hn.held
  have s4 := hn.wishes
  have s5 := hn.yes
  have s6 := hn.best
  have s7 := hn.acks
  unfold encRcd
  replace HM := (((HM.rod h.wishes).rod h.yes).rod h.acks)
  repeat (first | (refine gGP ?_; first | refine gp (p_assign rfl) ?_ | refine gp (p_field rfl (by simp only [Nat.reduceAdd]; rfl)) ?_) | (refine gGV ?_; first | refine gv (p_load rfl) ?_ | refine gv (p_loads rfl) ?_) | (refine gL ?_; first | refine s_gp rfl rfl ?_ | refine s_gv HM rfl ?_ | (refine gStore ?_; (refine s_store HM rfl rfl rfl rfl ?_; intro W1 HM1; clear HM; have HM := HM1; clear HM1)) | (refine gCall ?_; first | (refine s_fn rfl rfl ?_; first | (go_at_call 24; refine (l1Disk_c _ _ (by first | with_reducible exact h0.ss | with_reducible exact h0.ds) (by first | with_reducible exact s1 | with_reducible exact s2) HM).mono ?_; rintro e W1 ⟨Ad, cd, rfl, HM1⟩; refine ⟨_, rfl, ?_⟩; clear HM; have HM := HM1; clear HM1) | (go_at_call 83; refine (l2Messages_c h0.held s3 hn.helds HM).mono ?_; rintro e W1 ⟨Ah, ch, rfl, HM1⟩; refine ⟨_, rfl, ?_⟩; clear HM; have HM := HM1; clear HM1) | (go_at_call 66; refine (l1Slots_c h0.best s6 HM).mono ?_; rintro e W1 ⟨Ab, cb, rfl, HM1⟩; refine ⟨_, rfl, ?_⟩; clear HM; have HM := HM1; clear HM1)) | (refine s_appr0 HM rfl rfl rfl rfl rfl (by first | with_reducible rfl | omega) (by omega) rfl ?_; intro A1 c1 W1 HM1; clear HM; have HM := HM1; clear HM1)) | (refine s_box HM rfl rfl ?_; intro g W1 HM1; clear HM; have HM := HM1; clear HM1) | (refine s_alloc HM rfl ?_; intro g W1 HM1; clear HM; have HM := HM1; clear HM1) | (refine s_lit0a HM rfl rfl ?_; intro A1 W1 HM1; clear HM; have HM := HM1; clear HM1) | refine l_nil ?_) | (refine gC ?_; first | refine c_seq ?_ | refine c_region ?_ | refine c_block ?_) | (refine gN ?_; refine n_then ?_))
  refine c_loop2 (σ := Nat) (fun k A1 c1 => [(1, .pointer (some ⟨_, 0, none⟩)), (2, .pointer (some ⟨g, 0, none⟩)), (3, .slice A1 k c1), (4, .int .i64 k)]) (fun k A1 c1 W => k ≤ x.acks.length ∧ ∃ ys : List Ack, ys.length = k ∧ ys = x.acks.take k ∧ Mem w0 W (own (tAck 3) 93 A1 c1 ys :: _)) (fun k => x.acks.length - k) 0 A1 0 (by repeat (first | exact trivial | refine And.intro (by first | rfl | exact look_int rfl (by omega)) ?_)) ⟨Nat.zero_le _, [], rfl, rfl, HM⟩ ?_
  clear HM
  rintro k A1 c1 W ⟨hk, ys, hl, hy, HM⟩
  by_cases hlt : k < x.acks.length
  · have e0 := rdR_at (D := rAck) hlt
    have hs1 := hn.ackss _ (List.getElem_mem hlt)
    obtain ⟨cc, ⟨j, rfl, hs⟩, HM⟩ := HM.roOpen (A := i.a6.1) k hlt
    unfold encAck at HM
    replace HM := HM.rod hs
    repeat (first | (refine gR ?_; refine d_start [17] [(0, 0), (0, 1), (0, 3), (0, 8), (0, 10), (1, 2), (0, 4), (0, 5), (1, 6), (1, 9), (0, 11), (0, 12), (1, 13), (2, 7), (2, 14), (2, 15), (2, 16), (3, 17), (0, 18)] HM (by kernel_rfl) (by kernel_rfl) (by repeat (first | exact qp_body | refine qp_then ?_ | refine qp_block ?_)) (by kernel_rfl) rfl ?_; intro HQ HS W1 HM1; clear HM; have HM := HM1; clear HM1) | (refine gGP ?_; first | refine gp (p_move rfl) ?_ | refine gp (p_assign rfl) ?_ | (refine gGB ?_; first | refine gp (p_lss rfl rfl) ?_ | refine gp (p_add rfl rfl (by exact wr (by omega) (by omega))) ?_) | refine gp (p_field rfl (by simp only [Nat.reduceAdd]; rfl)) ?_ | refine gp (p_fieldo rfl (by simp only [Nat.reduceAdd]; rfl)) ?_ | refine gp (p_indexr HM rfl (by first | with_reducible rfl | omega) rfl (by omega) (by omega)) ?_ | refine gp (p_len rfl) ?_ | refine gp (p_build rfl) ?_) | (refine gGV ?_; first | refine gv (p_load rfl) ?_ | refine gv (p_loadr rfl rfl (by omega) (by omega) rfl) ?_ | refine gv (p_loadrc rfl rfl) ?_) | (refine gL ?_; first | refine s_gp rfl rfl ?_ | refine s_gv HM rfl ?_ | (refine gCall ?_; first | (refine s_append1 HM rfl rfl (by first | (simp only [List.length_set, List.length_append, List.length_cons, List.length_nil]; done) | (simp only [List.length_set, List.length_append, List.length_cons, List.length_nil]; omega) | omega) rfl rfl (by first | (simp only [List.length_set, List.length_append, List.length_cons, List.length_nil]; done) | (simp only [List.length_set, List.length_append, List.length_cons, List.length_nil]; omega) | omega) rfl ?_; intro A1 c1 W1 HM1; clear HM; have HM := HM1; clear HM1) | (refine s_appr0 HM rfl rfl rfl rfl rfl (by first | with_reducible rfl | omega) (by omega) rfl ?_; intro A1 c1 W1 HM1; clear HM; have HM := HM1; clear HM1)) | (refine s_lit1 HM rfl rfl rfl ?_; intro g W1 HM1; clear HM; have HM := HM1; clear HM1) | (refine s_lit0a HM rfl rfl ?_; intro A1 W1 HM1; clear HM; have HM := HM1; clear HM1) | refine l_nil ?_) | (refine gC ?_; first | refine c_seq ?_ | refine c_region ?_ | refine c_block ?_ | refine c_skip ?_ | refine c_yes rfl (by (simp; omega)) ?_) | (refine gN ?_; first | refine n_then ?_ | refine n_block ?_ | refine d_back (by first | exact HM.drop | exact HM.drop.drop) ?_ | refine d_backT ?_) | (refine gD ?_; refine d_next rfl ?_) | (refine gO ?_; first | refine d_gp HQ HS rfl ?_ | refine d_gv HQ HS rfl ?_ | refine d_one ?_ | refine d_last ?_) | (refine gT ?_; first | refine d_gpT HQ HS rfl rfl ?_ | refine d_doneT ?_))
    have e1 : (ys ++ [x.acks[k]]).length = k + 1 := by simp [hl]
    have e2 : (⟨x.acks[k].index, x.acks[k].frm⟩ : Ack) = x.acks[k] := rfl
    (try simp only [e0] at HM ⊢)
    rw [e2] at HM ⊢
    rw [e1]
    exact n_round2 (k + 1) A1 c1 (by repeat (first | exact trivial | refine And.intro (by first | rfl | exact look_int rfl (by omega)) ?_)) ⟨by omega, _, e1, by rw [hy, List.take_succ_eq_append_getElem (by omega)], HM.sb⟩ (by omega)
  · repeat (first | (refine gGP ?_; first | refine gp (p_move rfl) ?_ | (refine gGB ?_; refine gp (p_lss rfl rfl) ?_) | refine gp (p_field rfl (by simp only [Nat.reduceAdd]; rfl)) ?_ | refine gp (p_len rfl) ?_) | (refine gGV ?_; first | refine gv (p_load rfl) ?_ | refine gv (p_loads rfl) ?_) | (refine gL ?_; first | refine s_gp rfl rfl ?_ | refine s_gv HM rfl ?_ | (refine gStore ?_; (refine s_store HM rfl rfl rfl rfl ?_; intro W1 HM1; clear HM; have HM := HM1; clear HM1)) | refine l_nil ?_) | (refine gC ?_; first | refine c_seq ?_ | refine c_region ?_ | refine c_exit ?_ | refine c_ret ?_ | refine c_no rfl (by (simp; omega)) ?_) | (refine gN ?_; first | refine n_then ?_ | refine x_then ?_ | refine x_here ?_))
    obtain rfl : k = x.acks.length := by omega
    rw [List.take_length] at hy
    subst hy
    exact ret_cell HM rfl rfl rfl ⟨⟨(_, _), (_, _), (_, _), (_, _), (_, _), (_, _), (_, _)⟩, rfl, by simp only [partRcd, List.cons_append, List.nil_append]; exact HM.sb⟩
theorem l2Copy_l (x : Rcd) (i : AtRcd) (h : RoRcd b w0 x i) (hn : SmallR x) (HM : Mem w0 W L) : Calls Try.prog 52 #[.agg ([.int .i64 x.number, .int .i64 x.of, .bool x.up, .int .i64 x.sp, .int .i64 x.sk, .slice i.a0.1 x.ss.length i.a0.2, .int .i64 x.dp, .int .i64 x.dk, .slice i.a1.1 x.ds.length i.a1.2, .slice i.a2.1 x.held.length i.a2.2, .slice i.a3.1 x.wishes.length i.a3.2, .bool x.lead, .bool x.trying, .int .i64 x.ballot, .slice i.a4.1 x.yes.length i.a4.2, .slice i.a5.1 x.best.length i.a5.2, .slice i.a6.1 x.acks.length i.a6.2, .int .i64 x.heard]).toArray] W fun e W' => ∃ j, e = .returned (.agg (encRcd x j).toArray) ∧ Mem w0 W' (partRcd 91 85 9 3 93 x j ++ L) := l2Copy_c x i h hn HM
end Go.Proofs.Ytokhocmopmoblaa.Sp
