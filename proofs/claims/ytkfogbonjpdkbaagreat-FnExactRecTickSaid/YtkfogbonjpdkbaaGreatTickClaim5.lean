/- RecTick and RecTake of the reference: the calls. No condition. -/
import Derived.Test.YtkfogbonjpdkbaaGreatTickClaim4
import Derived.Test.YtkfogbonjpdkbaaGreatTickClaim3
import Derived.Lib.AppendZerosOnto
import Derived.Lib.Overlaps
import Derived.Laws.IdiomCopy
import Derived.Test.YtkfogbonjpdkbaaGreatTickClaim1
namespace Go.Proofs.YtkfogbonjpdkbaaGreat.Sp
open Go Go.RowKit
set_option linter.unusedVariables false
set_option linter.unusedSimpArgs false
set_option maxRecDepth 10000
set_option maxHeartbeats 2000000
variable {w0 W : World} {L : List Asn}
theorem tickOut_len {x : Rcd} (h : VR x) (hu : x.up = true) : (tickOut x).length ≤ 1000 := by
  obtain ⟨a1, k1⟩ := vr_tick1 h hu
  obtain ⟨a2, k2⟩ := vr_tick2 a1
  have hh := h.heldLen
  unfold tickOut
  split
  · rename_i c
    obtain ⟨hv3, hl3⟩ := vr_lead1 a2 c
    have b1 := accOut_len (lead1 (tick2 (tick1 x))) ((lead1 (tick2 (tick1 x))).ds.length - (lead1 (tick2 (tick1 x))).dk.toNat) (lead1 (tick2 (tick1 x))).dk.toNat (othL (lead1 (tick2 (tick1 x))) x.held ⟨5, 0, 0, (lead1 (tick2 (tick1 x))).ballot, 0, (lead1 (tick2 (tick1 x))).dk, ⟨#[]⟩, []⟩)
    have b2 := othersL_len (lead1 (tick2 (tick1 x))).number ⟨5, 0, 0, (lead1 (tick2 (tick1 x))).ballot, 0, (lead1 (tick2 (tick1 x))).dk, ⟨#[]⟩, []⟩ (lead1 (tick2 (tick1 x))).of.toNat 1 x.held
    have b3 := hv3.of5
    have b4 := hv3.disk.slots.1
    have b5 : ((lead1 (tick2 (tick1 x))).ds.length - (lead1 (tick2 (tick1 x))).dk.toNat) * (lead1 (tick2 (tick1 x))).of.toNat ≤ 60 * 5 := Nat.mul_le_mul (by omega) (by omega)
    unfold leadOut
    unfold othL at b1 ⊢
    omega
  · omega
theorem recTickO_len {x : Rcd} (h : validB x = true) : (recTickO x).length ≤ 1048576 := by
  unfold recTickO
  rw [if_pos h]
  split
  · rename_i hu; have := tickOut_len (validB_iff.1 h) hu; omega
  · simp
theorem specRecTick (x : Rcd) (i : AtRcd) (h : RoRcd false w0 x i) (hn : SmallR x) (HM : Mem w0 W L) : Calls Tryz.prog 6 #[.agg (encRcd x i).toArray] W fun e W' => ∃ j A c, e = .returned (.tuple #[.agg (encRcd (recTickL x) j).toArray, .slice A (recTickO x).length c]) ∧ Mem w0 W' (own (tMsg 105) 52 A c (recTickO x) :: (partRcd 105 52 9 3 104 (recTickL x) j ++ L)) := by
  unfold recTickL recTickO
  by_cases hv : validB x = true
  · rw [if_pos hv, if_pos hv]
    by_cases hu : x.up = true
    · rw [if_pos hu, if_pos hu]; exact tickS x i h hn hv hu HM
    · rw [if_neg hu, if_neg hu]; exact tick_down x i h hn hv (by simpa using hu) HM
  · rw [if_neg hv, if_neg hv]; exact tick_off x i h hn (by simpa using hv) HM
theorem specRecTake (x : Rcd) (i : AtRcd) (m : Msg) (am : At) (h : RoRcd false w0 x i) (hn : SmallR x) (hr : RoRow (rSlot false) w0 am.1 m.slots) (hmn : m.slots.length ≤ 1048576) (HM : Mem w0 W L) : Calls Tryz.prog 16 #[.agg (encRcd x i).toArray, .agg (encMsg m am).toArray] W fun e W' => ∃ j, e = .returned (.agg (encRcd (recTakeL x m) j).toArray) ∧ Mem w0 W' (partRcd 105 52 9 3 104 (recTakeL x m) j ++ L) := by
  refine enter Tryz.func16 rfl Tryz.ntmps16 [(0, .agg (encRcd x i).toArray), (1, .agg (encMsg m am).toArray)] rfl ⟨rfl, rfl, trivial⟩ ?_
  have h0 := h
  unfold encRcd encMsg
  by_cases hv : validB x = true
  rotate_left
  · simp only [Bool.not_eq_true] at hv
    repeat (first | (refine gGP ?_; first | refine gp (p_not rfl) ?_ | refine gp (p_build rfl) ?_) | (refine gGV ?_; refine gv (p_loads rfl) ?_) | (refine gL ?_; first | refine s_gp rfl rfl ?_ | refine s_gv HM rfl ?_ | (refine gStore ?_; (refine s_store HM rfl rfl rfl rfl ?_; intro W1 HM1; clear HM; have HM := HM1; clear HM1)) | (refine gCall ?_; (refine s_fn rfl rfl ?_; (go_at_call 27; refine (specValid x i h0 hn HM).mono ?_; rintro e W1 ⟨rfl, HM1⟩; refine ⟨_, rfl, ?_⟩; clear HM; have HM := HM1; clear HM1))) | (refine s_box HM rfl rfl ?_; intro g W1 HM1; clear HM; have HM := HM1; clear HM1) | (refine s_alloc HM rfl ?_; intro g W1 HM1; clear HM; have HM := HM1; clear HM1) | refine l_nil ?_) | (refine gC ?_; first | refine c_seq ?_ | refine c_region ?_ | refine c_ret ?_ | refine c_yes rfl (by (simp; omega)) ?_) | (refine gN ?_; first | refine n_then ?_ | refine r_then ?_))
    have HM2 := HM.zeroR 105 52 9 3 104
    simp only [partRcd, zeroR, atZ, List.cons_append, List.nil_append] at HM2
    have e : recTakeL x m = zeroR := by simp [recTakeL, hv]
    rw [e]
    exact ret_cell HM2 rfl rfl rfl ⟨atZ, rfl, by simp only [partRcd, zeroR, atZ, List.cons_append, List.nil_append]; exact HM2.sb⟩
  by_cases hu : x.up = true
  rotate_left
  · simp only [Bool.not_eq_true] at hu
    have e : recTakeL x m = x := by simp [recTakeL, hv, hu]
    repeat (first | (refine gGP ?_; first | refine gp (p_move rfl) ?_ | refine gp (p_field rfl (by simp only [Nat.reduceAdd]; rfl)) ?_ | refine gp (p_not rfl) ?_ | refine gp (p_pick1 rfl (by first | rfl | (simp; omega)) rfl) ?_) | (refine gGV ?_; first | refine gv (p_load rfl) ?_ | refine gv (p_loads rfl) ?_) | (refine gL ?_; first | refine s_gp rfl rfl ?_ | refine s_gv HM rfl ?_ | (refine gStore ?_; (refine s_store HM rfl rfl rfl rfl ?_; intro W1 HM1; clear HM; have HM := HM1; clear HM1)) | (refine gCall ?_; (refine s_fn rfl rfl ?_; first | (go_at_call 27; refine (specValid x i h0 hn HM).mono ?_; rintro e W1 ⟨rfl, HM1⟩; refine ⟨_, rfl, ?_⟩; clear HM; have HM := HM1; clear HM1) | (go_at_call 28; refine (l2Copy_c x _ h0 hn HM).mono ?_; rintro e W1 ⟨j2, rfl, HM1⟩; refine ⟨_, rfl, ?_⟩; clear HM; have HM := HM1; clear HM1; simp only [partRcd, List.cons_append, List.nil_append] at HM; simp only [encRcd]))) | (refine s_box HM rfl rfl ?_; intro g W1 HM1; clear HM; have HM := HM1; clear HM1) | (refine s_alloc HM rfl ?_; intro g W1 HM1; clear HM; have HM := HM1; clear HM1) | refine l_nil ?_ | refine s_guard_off rfl rfl rfl rfl (by first | rfl | (simp; omega)) rfl rfl ?_) | (refine gC ?_; first | refine c_seq ?_ | refine c_region ?_ | refine c_skip ?_ | refine c_ret ?_ | refine c_yes rfl (by rfl) ?_ | refine c_no rfl (by (simp; omega)) ?_) | (refine gN ?_; first | refine n_then ?_ | refine r_then ?_))
    rw [e]
    exact ret_cell HM rfl rfl rfl ⟨j2, rfl, by simp only [boxR, partRcd, List.cons_append, List.nil_append]; exact HM.sb⟩
  by_cases hm : msgB m x.of = true
  rotate_left
  · simp only [Bool.not_eq_true] at hm
    have e : recTakeL x m = x := by simp [recTakeL, hv, hm]
    repeat (first | (refine gGP ?_; first | refine gp (p_move rfl) ?_ | refine gp (p_field rfl (by simp only [Nat.reduceAdd]; rfl)) ?_ | refine gp (p_not rfl) ?_ | refine gp (p_pick1 rfl (by (simp; omega)) rfl) ?_ | refine gp (p_pick0 rfl (by (simp; omega)) rfl) ?_) | (refine gGV ?_; first | refine gv (p_load rfl) ?_ | refine gv (p_loads rfl) ?_) | (refine gL ?_; first | refine s_gp rfl rfl ?_ | refine s_gv HM rfl ?_ | (refine gStore ?_; (refine s_store HM rfl rfl rfl rfl ?_; intro W1 HM1; clear HM; have HM := HM1; clear HM1)) | (refine gCall ?_; (refine s_fn rfl rfl ?_; first | (go_at_call 27; refine (specValid x i h0 hn HM).mono ?_; rintro e W1 ⟨rfl, HM1⟩; refine ⟨_, rfl, ?_⟩; clear HM; have HM := HM1; clear HM1) | (go_at_call 28; refine (l2Copy_c x _ h0 hn HM).mono ?_; rintro e W1 ⟨j2, rfl, HM1⟩; refine ⟨_, rfl, ?_⟩; clear HM; have HM := HM1; clear HM1; simp only [partRcd, List.cons_append, List.nil_append] at HM; simp only [encRcd]) | (go_at_call 64; refine (specMsg m am x.of hr HM).mono ?_; rintro e W1 ⟨rfl, HM1⟩; refine ⟨_, rfl, ?_⟩; clear HM; have HM := HM1; clear HM1))) | (refine s_box HM rfl rfl ?_; intro g W1 HM1; clear HM; have HM := HM1; clear HM1) | (refine s_alloc HM rfl ?_; intro g W1 HM1; clear HM; have HM := HM1; clear HM1) | refine l_nil ?_ | refine s_guard_on rfl rfl rfl rfl (by (simp; omega)) ?_ | refine s_guard_off rfl rfl rfl rfl (by (simp; omega)) rfl rfl ?_) | (refine gC ?_; first | refine c_seq ?_ | refine c_region ?_ | refine c_skip ?_ | refine c_ret ?_ | refine c_yes rfl (by rfl) ?_ | refine c_no rfl (by (simp; omega)) ?_) | (refine gN ?_; first | refine n_then ?_ | refine r_then ?_))
    rw [e]
    exact ret_cell HM rfl rfl rfl ⟨j2, rfl, by simp only [boxR, partRcd, List.cons_append, List.nil_append]; exact HM.sb⟩
  by_cases ht : m.to = x.number
  rotate_left
  · have e : recTakeL x m = x := by simp [recTakeL, hv, ht]
    repeat (first | (refine gGP ?_; first | refine gp (p_move rfl) ?_ | (refine gGB ?_; refine gp (p_neq rfl rfl) ?_) | refine gp (p_field rfl (by simp only [Nat.reduceAdd]; rfl)) ?_ | refine gp (p_not rfl) ?_ | refine gp (p_pick0 rfl (by (simp; omega)) rfl) ?_) | (refine gGV ?_; first | refine gv (p_load rfl) ?_ | refine gv (p_loads rfl) ?_) | (refine gL ?_; first | refine s_gp rfl rfl ?_ | refine s_gv HM rfl ?_ | (refine gStore ?_; (refine s_store HM rfl rfl rfl rfl ?_; intro W1 HM1; clear HM; have HM := HM1; clear HM1)) | (refine gCall ?_; (refine s_fn rfl rfl ?_; first | (go_at_call 27; refine (specValid x i h0 hn HM).mono ?_; rintro e W1 ⟨rfl, HM1⟩; refine ⟨_, rfl, ?_⟩; clear HM; have HM := HM1; clear HM1) | (go_at_call 28; refine (l2Copy_c x _ h0 hn HM).mono ?_; rintro e W1 ⟨j2, rfl, HM1⟩; refine ⟨_, rfl, ?_⟩; clear HM; have HM := HM1; clear HM1; simp only [partRcd, List.cons_append, List.nil_append] at HM; simp only [encRcd]) | (go_at_call 64; refine (specMsg m am x.of hr HM).mono ?_; rintro e W1 ⟨rfl, HM1⟩; refine ⟨_, rfl, ?_⟩; clear HM; have HM := HM1; clear HM1))) | (refine s_box HM rfl rfl ?_; intro g W1 HM1; clear HM; have HM := HM1; clear HM1) | (refine s_alloc HM rfl ?_; intro g W1 HM1; clear HM; have HM := HM1; clear HM1) | refine l_nil ?_ | refine s_guard_on rfl rfl rfl rfl (by (simp; omega)) ?_) | (refine gC ?_; first | refine c_seq ?_ | refine c_region ?_ | refine c_skip ?_ | refine c_ret ?_ | refine c_yes rfl (by (simp; omega)) ?_ | refine c_no rfl (by (simp; omega)) ?_) | (refine gN ?_; first | refine n_then ?_ | refine r_then ?_))
    rw [e]
    exact ret_cell HM rfl rfl rfl ⟨j2, rfl, by simp only [boxR, partRcd, List.cons_append, List.nil_append]; exact HM.sb⟩
  have e : recTakeL x m = takeL x m := by simp [recTakeL, hv, hu, hm, ht]
  have hV := validB_iff.1 hv
  have hmP := msgB_iff.1 hm
  have hT := vr_take hV hu hmP
  rw [e]
  repeat (first | (refine gR ?_; refine d_start [3, 4, 5] [(1, 0), (1, 1), (2, 2), (3, 3), (3, 4), (3, 5)] HM (by kernel_rfl) (by kernel_rfl) (by repeat (first | exact qp_body | refine qp_then ?_ | refine qp_block ?_)) (by kernel_rfl) rfl ?_; intro HQ HS W1 HM1; clear HM; have HM := HM1; clear HM1) | (refine gGP ?_; first | refine gp (p_move rfl) ?_ | (refine gGB ?_; refine gp (p_neq rfl rfl) ?_) | refine gp (p_field rfl (by simp only [Nat.reduceAdd]; rfl)) ?_ | refine gp (p_not rfl) ?_ | refine gp (p_pick0 rfl (by (simp; omega)) rfl) ?_) | (refine gGV ?_; first | refine gv (p_load rfl) ?_ | refine gv (p_loads rfl) ?_) | (refine gL ?_; first | refine s_gp rfl rfl ?_ | refine s_gv HM rfl ?_ | (refine gStore ?_; (refine s_store HM rfl rfl rfl rfl ?_; intro W1 HM1; clear HM; have HM := HM1; clear HM1)) | (refine gCall ?_; (refine s_fn rfl rfl ?_; first | (go_at_call 27; refine (specValid x i h0 hn HM).mono ?_; rintro e W1 ⟨rfl, HM1⟩; refine ⟨_, rfl, ?_⟩; clear HM; have HM := HM1; clear HM1) | (go_at_call 64; refine (specMsg m am x.of hr HM).mono ?_; rintro e W1 ⟨rfl, HM1⟩; refine ⟨_, rfl, ?_⟩; clear HM; have HM := HM1; clear HM1) | (go_at_call 66; refine (l2Message_c m am hr hmn HM).mono ?_; rintro e W1 ⟨A3, c3, rfl, HM1⟩; refine ⟨_, rfl, ?_⟩; clear HM; have HM := HM1; clear HM1) | (go_at_call 65; have HMp := (show Mem w0 _ (partRcd 105 52 9 3 104 x j2 ++ _) from pk_rec HM); refine (takeS x j2 m (A3, c3) hV hu hmP (b := false) (fun W' h => by obtain ⟨F1, hF1⟩ := h.own (A := A3); exact ro_slots hF1) HMp).mono ?_; clear HMp; rintro e W1 ⟨j3, rfl, HM1⟩; refine ⟨_, rfl, ?_⟩; clear HM; have HM := HM1; clear HM1) | (go_at_call 28; (first | ((with_reducible refine (l2Copy_l x _ h0 hn HM).mono ?_); rintro e W1 ⟨j2, rfl, HM1⟩; refine ⟨_, rfl, ?_⟩; clear HM; have HM := HM1; clear HM1; simp only [partRcd, List.cons_append, List.nil_append] at HM; simp only [encRcd]) | (have hro := ro_parts HM; refine (l2Copy_c (takeL x m) _ hro (vr_small hT.1) (Mem.start _)).mono ?_; clear hro; rintro e W1 ⟨j4, rfl, HM1⟩; refine ⟨_, rfl, ?_⟩; replace HM := HM.join HM1; clear HM1; simp only [partRcd, List.cons_append, List.nil_append] at HM; simp only [encRcd]))))) | (refine s_box HM rfl rfl ?_; intro g W1 HM1; clear HM; have HM := HM1; clear HM1) | (refine s_alloc HM rfl ?_; intro g W1 HM1; clear HM; have HM := HM1; clear HM1) | refine l_nil ?_ | refine s_guard_on rfl rfl rfl rfl (by (simp; omega)) ?_) | (refine gC ?_; first | refine c_seq ?_ | refine c_region ?_ | refine c_skip ?_ | refine c_ret ?_ | refine c_no rfl (by (simp; omega)) ?_) | (refine gN ?_; first | refine n_then ?_ | refine d_back (by exact HM.drop) ?_ | refine d_backT ?_) | (refine gD ?_; refine d_next rfl ?_) | (refine gO ?_; first | refine d_gv HQ HS rfl ?_ | refine d_one ?_ | refine d_last ?_) | (refine gT ?_; first | refine d_nextT rfl ?_ | refine d_doneT ?_))
  exact ret_cell HM rfl rfl rfl ⟨j4, rfl, by simp only [boxR, partRcd, List.cons_append, List.nil_append]; exact HM.sb⟩
end Go.Proofs.YtkfogbonjpdkbaaGreat.Sp
namespace Go.Proofs.YtkfogbonjpdkbaaGreat.Sp
open Go Go.RowKit
set_option linter.unusedVariables false
set_option linter.unusedSimpArgs false
section
variable {w0 W : World} {L : List Asn} {e c n : Nat} {A : Option Addr} {css : List (List Value)}
theorem puts_eq (ws cs : List Value) (j : Nat) (h : j + ws.length ≤ cs.length) : puts cs j ws = cs.take j ++ ws ++ cs.drop (j + ws.length) := by
  have h1 : (cs.take j).length = j := by simp; omega
  have h2 : ws.length = ((cs.drop j).take ws.length).length := by simp; omega
  have h3 : cs = cs.take j ++ ((cs.drop j).take ws.length ++ (cs.drop j).drop ws.length) := by rw [List.take_append_drop, List.take_append_drop]
  have h4 := puts_skip (cs.take j) ((cs.drop j).take ws.length ++ (cs.drop j).drop ws.length) ws 0
  rw [← h3, h1, Nat.add_zero, puts_app ws _ _ h2, List.drop_drop] at h4
  rw [h4, List.append_assoc]
/-- A row taken as_ its block. -/
theorem opn_box (h : Mem w0 W (own (tRaw n) e A c css :: L)) : (A = none ∧ css = [] ∧ c = 0) ∨ ∃ g cur, A = some ⟨g, 0, none⟩ ∧ cur.length = c * n ∧ cur.take (css.length * n) = css.flatten ∧ css.length ≤ c ∧ c ≤ maxLen ∧ (∀ x ∈ css, x.length = n) ∧ (∀ u ∈ css.flatten, u.oneCell' = true) ∧ Mem w0 W (box g e cur :: L) := by
  obtain ⟨hb, F, h1, ⟨css', hl, G, g1, ⟨⟨hlen, ho⟩, hblk⟩, hels⟩, h3⟩ := h
  have hc : css' = css := by
    refine List.ext_getElem hl fun i hi hi2 => ?_
    obtain ⟨F', _, hA, _⟩ := els_get (d := tRaw n) i hi2 hi hels
    exact hA.1
  subst hc
  have e1 : ∀ x ∈ css', x.length = n := els_len (d := tRaw n) hl hels
  have e2 := els_one (d := tRaw n) hl hels
  rcases ho with ⟨ho, h0⟩ | ⟨g, cap, cur, he, hb0, hh, hn, hm, hs, ht⟩
  · simp only [Value.slice.injEq] at ho
    exact .inl ⟨ho.1, List.eq_nil_of_length_eq_zero h0, ho.2.2⟩
  · simp only [Value.slice.injEq] at he
    obtain ⟨rfl, _, rfl⟩ := he
    refine .inr ⟨g, cur.toList, rfl, by rw [Array.length_toList]; exact hs, ht, hn, hm, e1, e2, hb, F, h1, ⟨g1 _ (hblk g rfl), by simpa using hh⟩, h3⟩
theorem cls_box {g : Nat} {cur : List Value} (h : Mem w0 W (box g e cur :: L)) (hc : cur.length = c * n) (ht : cur.take (css.length * n) = css.flatten) (h1 : css.length ≤ c) (h2 : c ≤ maxLen) (h3 : ∀ x ∈ css, x.length = n) (h4 : ∀ u ∈ css.flatten, u.oneCell' = true) : Mem w0 W (own (tRaw n) e (some ⟨g, 0, none⟩) c css :: L) := by
  obtain ⟨hb, F, f1, ⟨hg, hh⟩, f3⟩ := h
  refine ⟨hb, F, f1, ⟨css, rfl, F, fun _ h => h, ⟨⟨flat_length h3, .inr ⟨g, c, cur.toArray, rfl, Nat.zero_le _, hh, h1, h2, (by rw [List.size_toArray]; exact hc), ht⟩⟩, fun k hk => ?_⟩, els_raw W css _ h3 h4⟩, f3⟩
  have : g = k := by simpa [Value.ownBlock] using hk
  subst this
  exact hg
theorem box_ne {g g2 t t2 : Nat} {cs cs2 : List Value} {R : List Asn} [hp : Pk L (box g t cs) R] [hq : BoxAt R g2 t2 cs2] (h : Mem w0 W L) : g ≠ g2 := by
  obtain ⟨R2, hq⟩ := hq.mem
  have h := (h.perm hp.out).perm (List.Perm.cons _ hq)
  obtain ⟨_, F, _, ⟨f1, _⟩, G, g1, ⟨f2, _⟩, _⟩ := h
  intro e
  subst e
  exact (g1 _ f2).2 f1
end
section
variable {P : Program} {n : Nat} {ops : Array Oper} {Q : Exit → Act → World → Prop} {rest : List Oper} {E : Env} {w0 W : World} {L L' R : List Asn}
variable {d : Nat} {ty st st2 : TypeId} {pos : String} {after : Array Edge} {x y : Operand} {e sz bytes : Nat}
theorem run_copy (W : World) (t1 t2 ty : TypeId) [hU : Und P t1 (.slice e)] [hS : Siz P e sz] (g o dl dc g2 o2 sl sc k : Nat) (ws : List Value) (hk : Nat.min sl dl = k) (hl : ws.length = k * sz)
    (hsrc : ∀ j v, ws[j]? = some v → W.cell? ⟨g2, o2 + j, none⟩ = some v) (ht : ∀ j, j < ws.length → (W.cell? ⟨g, o + j, none⟩).isSome = true) (hf : ∀ j, j < ws.length → W.frozen? ⟨g, o + j, none⟩ = false) (h1 : ∀ v ∈ ws, v.oneCell' = true) :
    (Builtin.copy_ #[t1, t2] ty #[.slice (some ⟨g, o, none⟩) dl dc, .slice (some ⟨g2, o2, none⟩) sl sc]).run P W = .ok (goInt k) (W.setCells g o ws) := by
  obtain ⟨i, hi, hs⟩ := Option.map_eq_some_iff.1 hS.out
  subst hs
  have h2 := run_firstCells_some (P := P) W i.size k ⟨g2, o2, none⟩ sl sc ws hl (fun j v hj => by rw [add_plain]; exact hsrc j v hj)
  have h3 := run_storeCells_cells (P := P) g o ws 0 W (by simpa using ht) (by simpa using hf) h1
  simp only [Nat.add_zero] at h3
  simp [Builtin.copy_, run_underlying hU.out, Builtin.lenOf, sizeOf, typeInfo, hi, hk, h2, h3]
/-- copy from one block to another, or within one. -/
theorem s_copy {g o dl dc g2 o2 sl sc k t t2 : Nat} {cs cs2 ws : List Value} [hU : Und P st (.slice e)] [hS : Siz P e sz] (hm : Mem w0 W L) (hx : ev E x = some (.slice (some ⟨g, o, none⟩) dl dc)) (hy : ev E y = some (.slice (some ⟨g2, o2, none⟩) sl sc))
    [hB : BoxAt L g t cs] [hB2 : BoxAt L g2 t2 cs2] (hk : Nat.min sl dl = k) (hw : (cs2.drop o2).take (k * sz) = ws) (ho2 : o2 + k * sz ≤ cs2.length) (ho : o + k * sz ≤ cs.length) (h1 : ∀ v ∈ ws, v.oneCell' = true) [hr : Rp L (box g t cs) (box g t (puts cs o ws)) L'] (hn : Nat.blt d n = true)
    (h : ∀ W1, Mem w0 W1 L' → WL P n ops Q rest ((d, .int .i64 k) :: E) W1) :
    WL P n ops Q (⟨some d, .call { callee := .builtin .copy, args := #[x, y], argTypes := #[st, st2] }, ty, pos, after, none⟩ :: rest) E W := by
  have hl : ws.length = k * sz := by rw [← hw]; simp; omega
  have hh := hm.heap (g := g)
  have hh2 := hm.heap (g := g2)
  have hth := there_box hh (n := ws.length) (by rw [hl]; exact ho)
  have hrun := run_copy (P := P) W st st2 ty g o dl dc g2 o2 sl sc k ws hk hl (fun j v hj => by
      rw [cell_of_row W g2 (o2 + j) _ t2 (0, 0) hh2]
      rw [← hw, List.getElem?_take] at hj
      split at hj
      · simpa [List.getElem?_drop] using hj
      · cases hj) (fun j hj => (hth j hj).1) (fun j hj => (hth j hj).2) h1
  have h3 := setCells_heap g t (0, 0) ws o W cs hh
  refine s_run (W1 := W.setCells g o ws) rfl rfl hn (fun a ha => ?_) (h _ (hm.put (cs := cs) (cs' := puts cs o ws) h3 (grown_setCells g ws o W)))
  simp [execOp, ha.eval hx, ha.eval hy, resolve, invoke, builtin, hrun, goInt]
/-- append(s, make([]T, k)...) without room: a new block. -/
theorem s_appz {g t l c k : Nat} {cs zs : List Value} {stn : TypeId} {kn : IntKind} [hU : Und P st (.slice e)] [hU2 : Und P stn (.int kn)] [hE : Elt P e sz bytes] [hz : Zer P e zs] (hm : Mem w0 W L) (hx : ev E x = some (.slice (some ⟨g, 0, none⟩) l c)) {kv : Int} (hy : ev E y = some (.int .i64 kv)) (hkv : kv = (k : Nat)) [hB : BoxAt L g t cs]
    (hl : l * sz ≤ cs.length) (hk : 0 < k) (hc : c < l + k) (hlim : (l + k) * bytes ≤ 140737488355328) (hn : Nat.blt d n = true)
    (h : ∀ g1 G W1 zz, l + k ≤ G → G ≤ maxLen → (cs.take (l * sz) ++ zz).length = G * sz → Mem w0 W1 (box g1 e (cs.take (l * sz) ++ zz) :: L) → WL P n ops Q rest ((d, .slice (some ⟨g1, 0, none⟩) (l + k) G) :: E) W1) :
    WL P n ops Q (⟨some d, .call { callee := .builtin .append, args := #[x, y], argTypes := #[st, stn] }, ty, pos, after, none⟩ :: rest) E W := by
  obtain ⟨i0, z, hi, hzz, hzs, hs1, hb1, hs0, hb0⟩ := hE.spec
  subst hkv hs1
  have hh := hm.drew.heap (g := g)
  have hlen : l + k ≤ 140737488355328 := Nat.le_trans (Nat.le_mul_of_pos_right _ hb0) hlim
  have hold := run_firstCells_some (P := P) W.drew i0.size l ⟨g, 0, none⟩ l c (cs.take (l * i0.size)) (by simp; omega) (fun j v hj => by
      rw [add_plain, Nat.zero_add, cell_of_row W.drew g j _ t (0, 0) hh]
      rw [List.getElem?_take] at hj
      split at hj
      · simpa using hj
      · cases hj)
  have hkb : k * bytes ≤ (l + k) * bytes := Nat.mul_le_mul_right _ (by omega)
  have hnx : Builtin.nextslicecap (l + k) c * i0.bytes ≤ 281474976710656 := by
    have := nextslicecap_le (need := l + k) (old := c) (by omega)
    rw [hb1]
    have h2 : Builtin.nextslicecap (l + k) c * bytes ≤ (2 * (l + k)) * bytes := Nat.mul_le_mul_right _ this
    rw [Nat.mul_assoc] at h2
    omega
  have hrun := Lib.run_append_grow_zeros (P := P) W st stn ty e i0 z .i64 kn hU.out hU2.out hi hzz (some ⟨g, 0, none⟩) l c _ hold k hk (by omega) hc (by omega) (by rw [hb1]; omega) hnx
  have hG1 := grownCap_ge W (l + k) c e
  have hG2 := grownCap_le_maxLen W (l + k) c e (by unfold maxLen; omega)
  generalize grownCap W (l + k) c e = G at hrun hG1 hG2
  have hzc : z.cells.size = i0.size := hzs
  obtain ⟨zz, hzz2⟩ : ∃ zz : List Value, (cs.take (l * i0.size)).toArray ++ Builtin.zeroCells z.cells k ++ Builtin.zeroCells z.cells (G - (l + k)) = (cs.take (l * i0.size) ++ zz).toArray := ⟨(Builtin.zeroCells z.cells k).toList ++ (Builtin.zeroCells z.cells (G - (l + k))).toList, by simp⟩
  have hsize : (cs.take (l * i0.size) ++ zz).length = G * i0.size := by
    have := congrArg Array.size hzz2
    simp only [Array.size_append, List.size_toArray, Builtin.zeroCells, Array.size_map, Array.size_range, hzc] at this
    rw [← this]
    have h1 : (cs.take (l * i0.size)).length = l * i0.size := by simp; omega
    rw [h1, ← Nat.add_mul, ← Nat.add_mul]
    congr 1
    omega
  rw [hzz2] at hrun
  refine s_run (W1 := W.drew.alloc (.cells (cs.take (l * i0.size) ++ zz).toArray e)) rfl rfl hn (fun a ha => ?_) (h W.heap.size G _ zz hG1 hG2 hsize (hm.drew.alloc e _))
  simp [execOp, ha.eval hx, ha.eval hy, resolve, invoke, builtin, hrun]
theorem p_cap {c l : Nat} {A : Option Addr} [hU : Und P st (.slice e)] (hx : ev E x = some (.slice A l c)) : PV P E (.call { callee := .builtin .cap, args := #[x], argTypes := #[st] }) (.int .i64 c) := ⟨fun n a ha dst ty pos after gd W => by simp [execOp, ha.eval hx, resolve, invoke, builtin, Builtin.cap_, underlying, hU.out, goInt]⟩
theorem p_from {g o l c : Nat} {k : IntKind} {m : Int} [hU : Und P st (.slice e)] [hS : Siz P e sz] (hx : ev E x = some (.slice (some ⟨g, o, none⟩) l c)) (hy : ev E y = some (.int k m)) (h0 : 0 ≤ m) (h1 : m ≤ l) (hc : m < c) : PV P E (.slice st x (some y) none none) (.slice (some ⟨g, o + m.toNat * sz, none⟩) (l - m.toNat) (c - m.toNat)) := by
  have h := p_slicefrom (P := P) (E := E) (st := st) (sz := sz) hx hy h0 h1
  rw [fromA, if_neg (by omega)] at h
  simpa [add_plain] using h
/-- slices.overlaps of two blocks. -/
theorem s_overlaps {f : FuncId} {fn : Func} {g o la ca g2 o2 lb cb t t2 tR : Nat} {cs cs2 : List Value} [hU : Und P st (.slice e)] [hS : Siz P e sz] (hf : P.funcs[f]? = some fn) (hname : (fn.name == "runtime.NumGoroutine") = false) (hb : fn.body.isNone = true) (hn1 : Extern.findNext fn = none) (he : Extern.find fn = some (Extern.SlicesOverlaps.overlaps #[st, st] #[tR]))
    {xs : List Operand} {ts : Array TypeId} (hvs : evs E xs = some [.slice (some ⟨g, o, none⟩) la ca, .slice (some ⟨g2, o2, none⟩) lb cb]) (hm : Mem w0 W L) [hB : BoxAt L g t cs] [hB2 : BoxAt L g2 t2 cs2] (hne : g ≠ g2) (h0 : cs2.length ≠ 0) (hn : Nat.blt d n = true)
    (h : WL P n ops Q rest ((d, .bool false) :: E) W) :
    WL P n ops Q (⟨some d, .call { callee := .value (.func f), args := xs.toArray, argTypes := ts }, ty, pos, after, none⟩ :: rest) E W := by
  have hh := hm.heap (g := g)
  have hh2 := hm.heap (g := g2)
  obtain ⟨i, hi, hs⟩ := Option.map_eq_some_iff.1 hS.out
  have hov := Lib.run_overlaps_apart (P := P) W st tR e hU.out sz (fun w => by simp [Go.sizeOf, typeInfo, hi, hs]) ⟨g, o, none⟩ ⟨g2, o2, none⟩ la ca lb cb hne t t2 cs.length cs2.length (by simp [World.shape?, hh]) (by simp [World.shape?, hh2]) h0 (by simp [World.frozen?, hh]) (by simp [World.frozen?, hh])
  refine s_run (W1 := W) rfl rfl hn (fun a ha => ?_) h
  have hargs := ha.evals hvs
  have hcall : (callFunc f #[.slice (some ⟨g, o, none⟩) la ca, .slice (some ⟨g2, o2, none⟩) lb cb]).run P W = .ok (.value (.bool false)) W := by
    rw [run_callFunc_extern hf hname hb hn1 he, hov]
    rfl
  unfold execOp
  simp [resolve, Deferred.ofValue, invoke, Act.eval]
  simpa [hargs] using hcall
end
end Go.Proofs.YtkfogbonjpdkbaaGreat.Sp
namespace Go.Proofs.YtkfogbonjpdkbaaGreat.Sp
open Go Go.RowKit
set_option linter.unusedVariables false
set_option linter.unusedSimpArgs false
set_option maxRecDepth 10000
set_option maxHeartbeats 2000000
variable {w0 W : World} {L : List Asn}
theorem flat_drop {sz : Nat} : ∀ (css : List (List Value)) (i : Nat), (∀ x ∈ css, x.length = sz) → css.flatten.drop (i * sz) = (css.drop i).flatten
  | css, 0, _ => by simp
  | [], i + 1, _ => by simp
  | x :: r, i + 1, h => by
    have hx := h x (by simp)
    rw [List.flatten_cons, List.drop_succ_cons, ← flat_drop r i (fun y hy => h y (List.mem_cons_of_mem _ hy)), List.drop_append, List.drop_eq_nil_of_le (by rw [hx, Nat.add_mul]; omega), hx, List.nil_append]
    congr 1
    rw [Nat.add_mul]; omega
theorem flat_take {sz : Nat} : ∀ (css : List (List Value)) (i : Nat), (∀ x ∈ css, x.length = sz) → css.flatten.take (i * sz) = (css.take i).flatten
  | css, 0, _ => by simp
  | [], i + 1, _ => by simp
  | x :: r, i + 1, h => by
    have hx := h x (by simp)
    rw [List.flatten_cons, List.take_succ_cons, List.flatten_cons, ← flat_take r i (fun y hy => h y (List.mem_cons_of_mem _ hy)), List.take_append, List.take_of_length_le (by rw [hx, Nat.add_mul]; omega), hx]
    congr 2
    rw [Nat.add_mul]; omega
theorem raw_from {cur : List Value} {css : List (List Value)} {sz i : Nat} (ht : cur.take (css.length * sz) = css.flatten) (h3 : ∀ x ∈ css, x.length = sz) (hi : i ≤ css.length) : (cur.drop (0 + ((i : Nat) : Int).toNat * sz)).take ((css.length - i) * sz) = (css.drop i).flatten := by
  rw [Int.toNat_natCast, Nat.zero_add, ← flat_drop css i h3, ← ht, List.drop_take]
  congr 1
  rw [Nat.sub_mul]
theorem ins_t {T cv D : List Value} : (∀ R : List Value, (T ++ cv ++ R).take (T.length + cv.length) = T ++ cv) ∧ (∀ R : List Value, (T ++ cv ++ D ++ R).take (T.length + cv.length + D.length) = T ++ cv ++ D) := by
  have h1 : (T ++ cv).length = T.length + cv.length := List.length_append
  have h2 : (T ++ cv ++ D).length = T.length + cv.length + D.length := by rw [List.length_append, h1]
  exact ⟨fun R => by rw [← h1]; exact List.take_left, fun R => by rw [← h2]; exact List.take_left⟩
theorem ins_a {cur T cv D : List Value} (hT : cur.take T.length = T) (hl : T.length + cv.length + D.length ≤ cur.length) : (puts (puts cur T.length cv) (T.length + cv.length) D).take (T.length + cv.length + D.length) = T ++ cv ++ D := by
  rw [puts_eq D _ _ (by rw [puts_len]; omega), puts_eq cv cur _ (by omega), hT, (ins_t (D := D)).1, ins_t.2]
theorem ins_b {cur T cv D : List Value} (hT : cur.take T.length = T) (hl : T.length + cv.length + D.length ≤ cur.length) : (puts (puts cur (T.length + cv.length) D) T.length cv).take (T.length + cv.length + D.length) = T ++ cv ++ D := by
  rw [puts_eq cv _ _ (by rw [puts_len]; omega), puts_eq D cur _ (by omega)]
  have h0 : (cur.take (T.length + cv.length)).length = T.length + cv.length := by simp; omega
  have h3 : (cur.take (T.length + cv.length) ++ D ++ cur.drop (T.length + cv.length + D.length)).take T.length = T := by
    rw [List.append_assoc, List.take_append, List.take_take, Nat.min_eq_left (by omega), hT, h0, show T.length - (T.length + cv.length) = 0 by omega, List.take_zero, List.append_nil]
  have h4 : (cur.take (T.length + cv.length) ++ D ++ cur.drop (T.length + cv.length + D.length)).drop (T.length + cv.length) = D ++ cur.drop (T.length + cv.length + D.length) := by
    rw [List.append_assoc, List.drop_append, List.drop_eq_nil_of_le (by omega), h0, Nat.sub_self, List.drop_zero, List.nil_append]
  rw [h3, h4, ← List.append_assoc, ins_t.2]
theorem mk_raw {n : Nat} {cv : List Value} (hv : cv.length = n) (h1 : ∀ u ∈ cv, u.oneCell' = true) (R : List Asn) : MkIn R (tRaw n) cv cv R := ⟨fun W ok h => ⟨fun _ => False, fun _ h => h.elim, ⟨(), ⟨rfl, hv, h1⟩, trivial⟩, h.mono (fun k hk => ⟨hk, fun h => h⟩)⟩⟩
theorem ins_parts {css : List (List Value)} {cv : List Value} {sz i : Nat} (h3 : ∀ x ∈ css, x.length = sz) (hv : cv.length = sz) (hi : i ≤ css.length) : ((css.take i).flatten.length = i * sz ∧ (css.drop i).flatten.length = (css.length - i) * sz) ∧ (∀ x ∈ css.take i ++ [cv] ++ css.drop i, x.length = sz) ∧ (css.take i ++ [cv] ++ css.drop i).flatten = (css.take i).flatten ++ cv ++ (css.drop i).flatten ∧ (css.take i ++ [cv] ++ css.drop i).length = css.length + 1 := by
  refine ⟨⟨?_, ?_⟩, fun x hx => ?_, by simp, ?_⟩
  · rw [flat_length (sz := sz) (fun x hx => h3 x (List.mem_of_mem_take hx)), List.length_take, Nat.min_eq_left hi]
  · rw [flat_length (sz := sz) (fun x hx => h3 x (List.mem_of_mem_drop hx)), List.length_drop]
  · simp only [List.mem_append, List.mem_singleton] at hx
    rcases hx with (hx | hx) | hx
    · exact h3 x (List.mem_of_mem_take hx)
    · rw [hx]; exact hv
    · exact h3 x (List.mem_of_mem_drop hx)
  · simp only [List.length_append, List.length_take, List.length_drop, List.length_singleton]; omega
theorem insertI {A : Option Addr} {c gv : Nat} {css : List (List Value)} {cv : List Value} (i : Nat) (hi : i ≤ css.length) (hn : css.length ≤ 1000) (hv : cv.length = 1) (h1 : ∀ u ∈ cv, u.oneCell' = true) (HM : Mem w0 W (own (tRaw 1) 3 A c css :: box gv 3 cv :: L)) : Calls Tryz.prog 124 #[.slice A css.length c, .int .i64 i, .slice (some ⟨gv, 0, none⟩) 1 1] W fun e W' => ∃ A' c', e = .returned (.slice A' (css.take i ++ [cv] ++ css.drop i).length c') ∧ Mem w0 W' (own (tRaw 1) 3 A' c' (css.take i ++ [cv] ++ css.drop i) :: L) := by
  refine enter Tryz.func124 rfl Tryz.ntmps124 [(0, _), (1, _), (2, _)] rfl ⟨rfl, rfl, rfl, trivial⟩ ?_
  haveI hmk := mk_raw hv h1
  by_cases c1 : i = css.length
  · subst c1
    have e : css.take css.length ++ [cv] ++ css.drop css.length = css ++ [cv] := by simp
    rw [e]
    repeat (first | (refine gGP ?_; first | refine gp (p_move rfl) ?_ | refine gp (p_assign rfl) ?_ | (refine gGB ?_; refine gp (p_eql rfl rfl) ?_) | refine gp (p_slicefrom rfl rfl (by omega) (by omega)) ?_ | refine gp (p_len rfl) ?_) | (refine gL ?_; first | refine s_gp rfl rfl ?_ | (refine gCall ?_; (refine s_append1 HM rfl rfl (by first | with_reducible rfl | omega) rfl rfl (by omega) rfl ?_; intro A1 c1 W1 HM1; clear HM; have HM := HM1; clear HM1)) | refine l_nil ?_) | (refine gC ?_; first | refine c_seq ?_ | refine c_region ?_ | refine c_skip ?_ | refine c_ret ?_ | refine c_yes rfl (by first | (simp; done) | fail) ?_ | refine c_no rfl (by rfl) ?_) | (refine gN ?_; first | refine n_then ?_ | refine r_then ?_))
    exact ret_tmp rfl rfl ⟨A1, c1, rfl, HM⟩
  have hlt : i < css.length := by omega
  rcases opn_box HM with ⟨_, rfl, _⟩ | ⟨g, cur, rfl, hcl, hct, hnc, hcm, h3, h4, HM1⟩
  · simp at hlt
  clear HM
  have HM := HM1
  clear HM1 hmk
  obtain ⟨⟨hT, hD⟩, hx3, hxf, hxl⟩ := ins_parts (cv := cv) h3 hv hi
  have hD1 : ∀ u ∈ (css.drop i).flatten, u.oneCell' = true := fun u hu => h4 u (by
    obtain ⟨y, hy, hu⟩ := List.mem_flatten.1 hu
    exact List.mem_flatten.2 ⟨y, List.mem_of_mem_drop hy, hu⟩)
  have hx1 : ∀ u ∈ (css.take i ++ [cv] ++ css.drop i).flatten, u.oneCell' = true := fun u hu => by
    rw [hxf] at hu
    simp only [List.mem_append] at hu
    rcases hu with (hu | hu) | hu
    · obtain ⟨y, hy, hu⟩ := List.mem_flatten.1 hu
      exact h4 u (List.mem_flatten.2 ⟨y, List.mem_of_mem_take hy, hu⟩)
    · exact h1 u hu
    · exact hD1 u hu
  have hw1 : (cv.drop 0).take (1 * 1) = cv := by rw [List.drop_zero, List.take_of_length_le (by omega)]
  have hw2 := raw_from hct h3 hi
  have hgv : g ≠ gv := box_ne (t := 3) (cs := cur) (t2 := 3) (cs2 := cv) HM
  have hTc : cur.take (i * 1) = (css.take i).flatten := by
    rw [← flat_take css i h3, ← hct, List.take_take, Nat.min_eq_left (by omega)]
  by_cases c2 : c < css.length + 1
  · repeat (first | (refine gL ?_; refine s_pv (p_cap rfl) rfl ?_) | (refine gGP ?_; refine gp (p_from rfl rfl (by omega) (by omega) (by omega)) ?_) | (refine gL ?_; refine gCall ?_; refine s_appz (k := css.length + 1 - i) HM rfl rfl (by omega) (by omega) (by omega) (by omega) (by omega) rfl ?_; intro g1 G W1 zz hG1 hG2 hG3 HM1; clear HM; have HM := HM1; clear HM1; simp only [Int.toNat_natCast] at hG1 hG2 hG3 HM; simp only [Int.toNat_natCast]) | (refine gL ?_; refine gCall ?_; first | (refine s_copy (k := 1) (ws := cv) HM rfl rfl (by show min _ _ = _; omega) hw1 (by omega) (by omega) h1 rfl ?_; intro W1 HM1; clear HM; have HM := HM1; clear HM1) | (refine s_copy (k := css.length - i) (ws := (css.drop i).flatten) HM rfl rfl (by show min _ _ = _; omega) hw2 (by omega) (by rw [puts_len]; omega) hD1 rfl ?_; intro W1 HM1; clear HM; have HM := HM1; clear HM1)) | (refine gR ?_; refine d_start [8] [(0, 0), (0, 1), (0, 2), (0, 3), (0, 4), (0, 5), (0, 6), (0, 7), (3, 8)] HM (by kernel_rfl) (by kernel_rfl) (by repeat (first | exact qp_body | refine qp_then ?_ | refine qp_block ?_)) (by kernel_rfl) rfl ?_; intro HQ HS W1 HM1; clear HM; have HM := HM1; clear HM1) | (refine gGP ?_; first | refine gp (p_move rfl) ?_ | refine gp (p_assign rfl) ?_ | (refine gGB ?_; first | refine gp (p_eql rfl rfl) ?_ | refine gp (p_gtr rfl rfl) ?_ | refine gp (p_add rfl rfl (by first | exact wr (by omega) (by omega) | rfl)) ?_ | refine gp (p_sub rfl rfl (by exact wr (by omega) (by omega))) ?_) | refine gp (p_sliceto rfl rfl (by omega) (by omega)) ?_ | refine gp (p_len rfl) ?_) | (refine gL ?_; first | refine s_gp rfl rfl ?_ | refine l_nil ?_) | (refine gC ?_; first | refine c_seq ?_ | refine c_region ?_ | refine c_skip ?_ | refine c_ret ?_ | refine c_yes rfl (by (simp; omega)) ?_ | refine c_no rfl (by first | rfl | (simp; omega)) ?_) | (refine gN ?_; first | refine n_then ?_ | refine r_then ?_ | refine d_backT ?_) | (refine gD ?_; refine d_next rfl ?_) | (refine gO ?_; first | refine d_gp HQ HS rfl ?_ | refine d_last ?_) | (refine gT ?_; refine d_doneT ?_))
    have hcur := ins_a (cur := cur.take (i * 1) ++ zz) (T := (css.take i).flatten) (cv := cv) (D := (css.drop i).flatten) (by rw [hTc]; exact List.take_left) (by rw [hT, hv, hD]; omega)
    rw [hT, hv, hD, ← hxf] at hcur
    refine ret_tmp rfl rfl ⟨some ⟨g1, 0, none⟩, G, by rw [hxl, show i + (css.length + 1 - i) = css.length + 1 by omega], ?_⟩
    rw [show 0 + ((i : Nat) : Int).toNat * 1 = i * 1 by omega, show 0 + (((i : Nat) : Int) + ((1 : Nat) : Int)).toNat * 1 = i * 1 + 1 by omega] at HM
    refine cls_box (cur := puts (puts (cur.take (i * 1) ++ zz) (i * 1) cv) (i * 1 + 1) (css.drop i).flatten) (by exact HM.sb) (by rw [puts_len, puts_len]; exact hG3) ?_ (by rw [hxl]; omega) hG2 hx3 hx1
    rw [hxl, ← hcur]
    congr 1
    omega
  · repeat (first | (refine gL ?_; refine s_pv (p_cap rfl) rfl ?_) | (refine gGP ?_; refine gp (p_from rfl rfl (by omega) (by omega) (by omega)) ?_) | (refine gL ?_; refine gCall ?_; refine s_overlaps (st := 27) (e := 3) (tR := 4) Tryz.func129 (by kernel_rfl) (by kernel_rfl) (by kernel_rfl) (by kernel_rfl) rfl HM hgv.symm (by omega) rfl ?_) | (refine gL ?_; refine gCall ?_; first | (refine s_copy (k := 1) (ws := cv) HM rfl rfl (by show min _ _ = _; omega) hw1 (by omega) (by rw [puts_len]; omega) h1 rfl ?_; intro W1 HM1; clear HM; have HM := HM1; clear HM1) | (refine s_copy (k := css.length - i) (ws := (css.drop i).flatten) HM rfl rfl (by show min _ _ = _; omega) hw2 (by omega) (by omega) hD1 rfl ?_; intro W1 HM1; clear HM; have HM := HM1; clear HM1)) | (refine gR ?_; refine d_start [8] [(0, 0), (0, 1), (0, 2), (0, 3), (0, 4), (0, 5), (0, 6), (0, 7), (3, 8)] HM (by kernel_rfl) (by kernel_rfl) (by repeat (first | exact qp_body | refine qp_then ?_ | refine qp_block ?_)) (by kernel_rfl) rfl ?_; intro HQ HS W1 HM1; clear HM; have HM := HM1; clear HM1) | (refine gGP ?_; first | refine gp (p_move rfl) ?_ | refine gp (p_assign rfl) ?_ | (refine gGB ?_; first | refine gp (p_eql rfl rfl) ?_ | refine gp (p_gtr rfl rfl) ?_ | refine gp (p_add rfl rfl (by exact wr (by omega) (by omega))) ?_) | refine gp (p_sliceto rfl rfl (by omega) (by omega)) ?_ | refine gp (p_len rfl) ?_ | refine gp (p_not rfl) ?_) | (refine gL ?_; first | refine s_gp rfl rfl ?_ | refine l_nil ?_) | (refine gC ?_; first | refine c_seq ?_ | refine c_region ?_ | refine c_skip ?_ | refine c_ret ?_ | refine c_yes rfl (by rfl) ?_ | refine c_no rfl (by first | rfl | (simp; omega)) ?_) | (refine gN ?_; first | refine n_then ?_ | refine r_then ?_ | refine d_backT ?_) | (refine gD ?_; refine d_next rfl ?_) | (refine gO ?_; first | refine d_gp HQ HS rfl ?_ | refine d_last ?_) | (refine gT ?_; refine d_doneT ?_))
    have hcur := ins_b (cur := cur) (T := (css.take i).flatten) (cv := cv) (D := (css.drop i).flatten) (by rw [hT, hTc]) (by rw [hT, hv, hD]; omega)
    rw [hT, hv, hD, ← hxf] at hcur
    refine ret_tmp rfl rfl ⟨some ⟨g, 0, none⟩, c, by rw [hxl]; rfl, ?_⟩
    rw [show 0 + ((i : Nat) : Int).toNat * 1 = i * 1 by omega, show 0 + (((i : Nat) : Int) + ((1 : Nat) : Int)).toNat * 1 = i * 1 + 1 by omega] at HM
    refine cls_box (cur := puts (puts cur (i * 1 + 1) (css.drop i).flatten) (i * 1) cv) (by exact HM.sb) (by rw [puts_len, puts_len]; exact hcl) ?_ (by rw [hxl]; omega) hcm hx3 hx1
    rw [hxl, ← hcur]
    congr 1
    omega
theorem insertA {A : Option Addr} {c gv : Nat} {css : List (List Value)} {cv : List Value} (i : Nat) (hi : i ≤ css.length) (hn : css.length ≤ 1000) (hv : cv.length = 2) (h1 : ∀ u ∈ cv, u.oneCell' = true) (HM : Mem w0 W (own (tRaw 2) 104 A c css :: box gv 104 cv :: L)) : Calls Tryz.prog 121 #[.slice A css.length c, .int .i64 i, .slice (some ⟨gv, 0, none⟩) 1 1] W fun e W' => ∃ A' c', e = .returned (.slice A' (css.take i ++ [cv] ++ css.drop i).length c') ∧ Mem w0 W' (own (tRaw 2) 104 A' c' (css.take i ++ [cv] ++ css.drop i) :: L) := by
  refine enter Tryz.func121 rfl Tryz.ntmps121 [(0, _), (1, _), (2, _)] rfl ⟨rfl, rfl, rfl, trivial⟩ ?_
  haveI hmk := mk_raw hv h1
  by_cases c1 : i = css.length
  · subst c1
    have e : css.take css.length ++ [cv] ++ css.drop css.length = css ++ [cv] := by simp
    rw [e]
    repeat (first | (refine gGP ?_; first | refine gp (p_move rfl) ?_ | refine gp (p_assign rfl) ?_ | (refine gGB ?_; refine gp (p_eql rfl rfl) ?_) | refine gp (p_slicefrom rfl rfl (by omega) (by omega)) ?_ | refine gp (p_len rfl) ?_) | (refine gL ?_; first | refine s_gp rfl rfl ?_ | (refine gCall ?_; (refine s_append1 HM rfl rfl (by first | with_reducible rfl | omega) rfl rfl (by omega) rfl ?_; intro A1 c1 W1 HM1; clear HM; have HM := HM1; clear HM1)) | refine l_nil ?_) | (refine gC ?_; first | refine c_seq ?_ | refine c_region ?_ | refine c_skip ?_ | refine c_ret ?_ | refine c_yes rfl (by first | (simp; done) | fail) ?_ | refine c_no rfl (by rfl) ?_) | (refine gN ?_; first | refine n_then ?_ | refine r_then ?_))
    exact ret_tmp rfl rfl ⟨A1, c1, rfl, HM⟩
  have hlt : i < css.length := by omega
  rcases opn_box HM with ⟨_, rfl, _⟩ | ⟨g, cur, rfl, hcl, hct, hnc, hcm, h3, h4, HM1⟩
  · simp at hlt
  clear HM
  have HM := HM1
  clear HM1 hmk
  obtain ⟨⟨hT, hD⟩, hx3, hxf, hxl⟩ := ins_parts (cv := cv) h3 hv hi
  have hD1 : ∀ u ∈ (css.drop i).flatten, u.oneCell' = true := fun u hu => h4 u (by
    obtain ⟨y, hy, hu⟩ := List.mem_flatten.1 hu
    exact List.mem_flatten.2 ⟨y, List.mem_of_mem_drop hy, hu⟩)
  have hx1 : ∀ u ∈ (css.take i ++ [cv] ++ css.drop i).flatten, u.oneCell' = true := fun u hu => by
    rw [hxf] at hu
    simp only [List.mem_append] at hu
    rcases hu with (hu | hu) | hu
    · obtain ⟨y, hy, hu⟩ := List.mem_flatten.1 hu
      exact h4 u (List.mem_flatten.2 ⟨y, List.mem_of_mem_take hy, hu⟩)
    · exact h1 u hu
    · exact hD1 u hu
  have hw1 : (cv.drop 0).take (1 * 2) = cv := by rw [List.drop_zero, List.take_of_length_le (by omega)]
  have hw2 := raw_from hct h3 hi
  have hgv : g ≠ gv := box_ne (t := 104) (cs := cur) (t2 := 104) (cs2 := cv) HM
  have hTc : cur.take (i * 2) = (css.take i).flatten := by
    rw [← flat_take css i h3, ← hct, List.take_take, Nat.min_eq_left (by omega)]
  by_cases c2 : c < css.length + 1
  · repeat (first | (refine gL ?_; refine s_pv (p_cap rfl) rfl ?_) | (refine gGP ?_; refine gp (p_from rfl rfl (by omega) (by omega) (by omega)) ?_) | (refine gL ?_; refine gCall ?_; refine s_appz (k := css.length + 1 - i) HM rfl rfl (by omega) (by omega) (by omega) (by omega) (by omega) rfl ?_; intro g1 G W1 zz hG1 hG2 hG3 HM1; clear HM; have HM := HM1; clear HM1; simp only [Int.toNat_natCast] at hG1 hG2 hG3 HM; simp only [Int.toNat_natCast]) | (refine gL ?_; refine gCall ?_; first | (refine s_copy (k := 1) (ws := cv) HM rfl rfl (by show min _ _ = _; omega) hw1 (by omega) (by omega) h1 rfl ?_; intro W1 HM1; clear HM; have HM := HM1; clear HM1) | (refine s_copy (k := css.length - i) (ws := (css.drop i).flatten) HM rfl rfl (by show min _ _ = _; omega) hw2 (by omega) (by rw [puts_len]; omega) hD1 rfl ?_; intro W1 HM1; clear HM; have HM := HM1; clear HM1)) | (refine gR ?_; refine d_start [8] [(0, 0), (0, 1), (0, 2), (0, 3), (0, 4), (0, 5), (0, 6), (0, 7), (3, 8)] HM (by kernel_rfl) (by kernel_rfl) (by repeat (first | exact qp_body | refine qp_then ?_ | refine qp_block ?_)) (by kernel_rfl) rfl ?_; intro HQ HS W1 HM1; clear HM; have HM := HM1; clear HM1) | (refine gGP ?_; first | refine gp (p_move rfl) ?_ | refine gp (p_assign rfl) ?_ | (refine gGB ?_; first | refine gp (p_eql rfl rfl) ?_ | refine gp (p_gtr rfl rfl) ?_ | refine gp (p_add rfl rfl (by first | exact wr (by omega) (by omega) | rfl)) ?_ | refine gp (p_sub rfl rfl (by exact wr (by omega) (by omega))) ?_) | refine gp (p_sliceto rfl rfl (by omega) (by omega)) ?_ | refine gp (p_len rfl) ?_) | (refine gL ?_; first | refine s_gp rfl rfl ?_ | refine l_nil ?_) | (refine gC ?_; first | refine c_seq ?_ | refine c_region ?_ | refine c_skip ?_ | refine c_ret ?_ | refine c_yes rfl (by (simp; omega)) ?_ | refine c_no rfl (by first | rfl | (simp; omega)) ?_) | (refine gN ?_; first | refine n_then ?_ | refine r_then ?_ | refine d_backT ?_) | (refine gD ?_; refine d_next rfl ?_) | (refine gO ?_; first | refine d_gp HQ HS rfl ?_ | refine d_last ?_) | (refine gT ?_; refine d_doneT ?_))
    have hcur := ins_a (cur := cur.take (i * 2) ++ zz) (T := (css.take i).flatten) (cv := cv) (D := (css.drop i).flatten) (by rw [hTc]; exact List.take_left) (by rw [hT, hv, hD]; omega)
    rw [hT, hv, hD, ← hxf] at hcur
    refine ret_tmp rfl rfl ⟨some ⟨g1, 0, none⟩, G, by rw [hxl, show i + (css.length + 1 - i) = css.length + 1 by omega], ?_⟩
    rw [show 0 + ((i : Nat) : Int).toNat * 2 = i * 2 by omega, show 0 + (((i : Nat) : Int) + ((1 : Nat) : Int)).toNat * 2 = i * 2 + 2 by omega] at HM
    refine cls_box (cur := puts (puts (cur.take (i * 2) ++ zz) (i * 2) cv) (i * 2 + 2) (css.drop i).flatten) (by exact HM.sb) (by rw [puts_len, puts_len]; exact hG3) ?_ (by rw [hxl]; omega) hG2 hx3 hx1
    rw [hxl, ← hcur]
    congr 1
    omega
  · repeat (first | (refine gL ?_; refine s_pv (p_cap rfl) rfl ?_) | (refine gGP ?_; refine gp (p_from rfl rfl (by omega) (by omega) (by omega)) ?_) | (refine gL ?_; refine gCall ?_; refine s_overlaps (st := 36) (e := 104) (tR := 4) Tryz.func125 (by kernel_rfl) (by kernel_rfl) (by kernel_rfl) (by kernel_rfl) rfl HM hgv.symm (by omega) rfl ?_) | (refine gL ?_; refine gCall ?_; first | (refine s_copy (k := 1) (ws := cv) HM rfl rfl (by show min _ _ = _; omega) hw1 (by omega) (by rw [puts_len]; omega) h1 rfl ?_; intro W1 HM1; clear HM; have HM := HM1; clear HM1) | (refine s_copy (k := css.length - i) (ws := (css.drop i).flatten) HM rfl rfl (by show min _ _ = _; omega) hw2 (by omega) (by omega) hD1 rfl ?_; intro W1 HM1; clear HM; have HM := HM1; clear HM1)) | (refine gR ?_; refine d_start [8] [(0, 0), (0, 1), (0, 2), (0, 3), (0, 4), (0, 5), (0, 6), (0, 7), (3, 8)] HM (by kernel_rfl) (by kernel_rfl) (by repeat (first | exact qp_body | refine qp_then ?_ | refine qp_block ?_)) (by kernel_rfl) rfl ?_; intro HQ HS W1 HM1; clear HM; have HM := HM1; clear HM1) | (refine gGP ?_; first | refine gp (p_move rfl) ?_ | refine gp (p_assign rfl) ?_ | (refine gGB ?_; first | refine gp (p_eql rfl rfl) ?_ | refine gp (p_gtr rfl rfl) ?_ | refine gp (p_add rfl rfl (by exact wr (by omega) (by omega))) ?_) | refine gp (p_sliceto rfl rfl (by omega) (by omega)) ?_ | refine gp (p_len rfl) ?_ | refine gp (p_not rfl) ?_) | (refine gL ?_; first | refine s_gp rfl rfl ?_ | refine l_nil ?_) | (refine gC ?_; first | refine c_seq ?_ | refine c_region ?_ | refine c_skip ?_ | refine c_ret ?_ | refine c_yes rfl (by rfl) ?_ | refine c_no rfl (by first | rfl | (simp; omega)) ?_) | (refine gN ?_; first | refine n_then ?_ | refine r_then ?_ | refine d_backT ?_) | (refine gD ?_; refine d_next rfl ?_) | (refine gO ?_; first | refine d_gp HQ HS rfl ?_ | refine d_last ?_) | (refine gT ?_; refine d_doneT ?_))
    have hcur := ins_b (cur := cur) (T := (css.take i).flatten) (cv := cv) (D := (css.drop i).flatten) (by rw [hT, hTc]) (by rw [hT, hv, hD]; omega)
    rw [hT, hv, hD, ← hxf] at hcur
    refine ret_tmp rfl rfl ⟨some ⟨g, 0, none⟩, c, by rw [hxl]; rfl, ?_⟩
    rw [show 0 + ((i : Nat) : Int).toNat * 2 = i * 2 by omega, show 0 + (((i : Nat) : Int) + ((1 : Nat) : Int)).toNat * 2 = i * 2 + 2 by omega] at HM
    refine cls_box (cur := puts (puts cur (i * 2 + 2) (css.drop i).flatten) (i * 2) cv) (by exact HM.sb) (by rw [puts_len, puts_len]; exact hcl) ?_ (by rw [hxl]; omega) hcm hx3 hx1
    rw [hxl, ← hcur]
    congr 1
    omega
end Go.Proofs.YtkfogbonjpdkbaaGreat.Sp
namespace Go.Proofs.YtkfogbonjpdkbaaGreat.Sp
open Go Go.RowKit
set_option linter.unusedVariables false
set_option linter.unusedSimpArgs false
set_option maxRecDepth 10000
set_option maxHeartbeats 2000000
variable {w0 W : World} {L : List Asn} {A : Option Addr} {c : Nat}
section
variable {P : Program} {E : Env} {x y : Operand} {t1 t2 xt yt : TypeId} {m : Int}
theorem p_i2u [hU : Und P t1 (.int .i64)] [hV : Und P t2 (.int .u64)] (hx : ev E x = some (.int .i64 m)) (h0 : 0 ≤ m) (h1 : m ≤ 9223372036854775807) : PV P E (.convert t1 t2 x) (.int .u64 m) := ⟨fun n a ha dst ty pos after gd W => by
  have hw : IntKind.u64.wrap m = m := by simp [IntKind.wrap, IntKind.bits, IntKind.signed]; omega
  simp [execOp, ha.eval hx, convert, underlying, hU.out, hV.out, Conv.intToInt, hw]⟩
theorem p_u2i [hU : Und P t1 (.int .u64)] [hV : Und P t2 (.int .i64)] (hx : ev E x = some (.int .u64 m)) (h0 : 0 ≤ m) (h1 : m ≤ 9223372036854775807) : PV P E (.convert t1 t2 x) (.int .i64 m) := ⟨fun n a ha dst ty pos after gd W => by
  have hw : IntKind.i64.wrap m = m := wr (by omega) h1
  simp [execOp, ha.eval hx, convert, underlying, hU.out, hV.out, Conv.intToInt, hw]⟩
theorem p_shr1 (hx : ev E x = some (.int .u64 m)) (hy : ev E y = some (.int .u64 1)) (h0 : 0 ≤ m) : PV P E (.binOp .shr xt x y yt) (.int .u64 (m / 2)) := ⟨fun n a ha dst ty pos after gd W => by
  have h2 : m.fdiv 2 = m / 2 := Int.fdiv_eq_ediv_of_nonneg _ (by omega)
  simp [execOp, ha.eval hx, ha.eval hy, eqGuard, binOp, Op.shift, IntKind.bits, h2]⟩
end
instance : Und Tryz.prog 140 (.int .u64) := ⟨by kernel_rfl⟩
theorem cmpNaN (m : Int) : Calls Tryz.prog 132 #[.int .i64 m] W fun e W' => e = .returned (.bool false) ∧ W' = W := by
  refine enter Tryz.func132 rfl Tryz.ntmps132 [(0, _)] rfl ⟨rfl, trivial⟩ ?_
  have HM := Mem.start W
  repeat (first | (refine gGP ?_; first | refine gp (p_move rfl) ?_ | refine gp (p_assign rfl) ?_ | (refine gGB ?_; refine gp (p_neq rfl rfl) ?_)) | (refine gL ?_; first | refine s_gp rfl rfl ?_ | refine l_nil ?_) | (refine gC ?_; first | refine c_seq ?_ | refine c_region ?_ | refine c_ret ?_) | (refine gN ?_; refine n_then ?_))
  exact ret_tmp rfl rfl ⟨by simp, rfl⟩
theorem slNaN (m : Int) : Calls Tryz.prog 128 #[.int .i64 m] W fun e W' => e = .returned (.bool false) ∧ W' = W := by
  refine enter Tryz.func128 rfl Tryz.ntmps128 [(0, _)] rfl ⟨rfl, trivial⟩ ?_
  have HM := Mem.start W
  repeat (first | (refine gGP ?_; first | refine gp (p_move rfl) ?_ | refine gp (p_assign rfl) ?_ | (refine gGB ?_; refine gp (p_neq rfl rfl) ?_)) | (refine gL ?_; first | refine s_gp rfl rfl ?_ | refine l_nil ?_) | (refine gC ?_; first | refine c_seq ?_ | refine c_region ?_ | refine c_ret ?_) | (refine gN ?_; refine n_then ?_))
  exact ret_tmp rfl rfl ⟨by simp, rfl⟩
theorem cmpLess (m q : Int) : Calls Tryz.prog 127 #[.int .i64 m, .int .i64 q] W fun e W' => e = .returned (.bool (decide (m < q))) ∧ W' = W := by
  refine enter Tryz.func127 rfl Tryz.ntmps127 [(0, _), (1, _)] rfl ⟨rfl, rfl, trivial⟩ ?_
  have HM := Mem.start W
  repeat (first | (refine gGP ?_; first | refine gp (p_move rfl) ?_ | refine gp (p_assign rfl) ?_ | (refine gGB ?_; refine gp (p_lss rfl rfl) ?_) | refine gp (p_pick0 rfl (by rfl) rfl) ?_) | (refine gL ?_; first | refine s_gp rfl rfl ?_ | (refine gCall ?_; (refine s_fn rfl rfl ?_; (go_at_call 132; refine (cmpNaN _).mono ?_; rintro e W1 ⟨rfl, rfl⟩; refine ⟨_, rfl, ?_⟩))) | refine l_nil ?_ | refine s_guard_on rfl rfl rfl rfl (by rfl) ?_ | refine s_guard_off rfl rfl rfl rfl (by rfl) rfl rfl ?_) | (refine gC ?_; first | refine c_seq ?_ | refine c_region ?_ | refine c_ret ?_) | (refine gN ?_; refine n_then ?_))
  exact ret_tmp rfl rfl ⟨rfl, rfl⟩
theorem bsearch {xs : List Int} (n : Int) (hs : xs.Pairwise (· < ·)) (hn : xs.length ≤ 1048576) (HM : Mem w0 W (own tInt 3 A c xs :: L)) : Calls Tryz.prog 123 #[.slice A xs.length c, .int .i64 n] W fun e W' => ∃ (k : Nat) (b : Bool), e = .returned (.tuple #[.int .i64 k, .bool b]) ∧ k ≤ xs.length ∧ (∀ j (h : j < xs.length), j < k → xs[j] < n) ∧ (∀ j (h : j < xs.length), k ≤ j → n ≤ xs[j]) ∧ b = decide (∃ h : k < xs.length, xs[k] = n) ∧ Mem w0 W' (own tInt 3 A c xs :: L) := by
  refine enter Tryz.func123 rfl Tryz.ntmps123 [(0, _), (1, _)] rfl ⟨rfl, rfl, trivial⟩ ?_
  repeat (first | (refine gGP ?_; first | refine gp (p_move rfl) ?_ | refine gp (p_assign rfl) ?_ | refine gp (p_len rfl) ?_) | (refine gL ?_; first | refine s_gp rfl rfl ?_ | refine l_nil ?_) | (refine gC ?_; first | refine c_seq ?_ | refine c_region ?_ | refine c_block ?_) | (refine gN ?_; refine n_then ?_))
  rw [List.pairwise_iff_getElem] at hs
  refine c_loop (σ := Nat × Nat) (fun s => [(0, .slice A xs.length c), (1, .int .i64 n), (6, .int .i64 xs.length), (7, .int .i64 s.1), (8, .int .i64 s.2)]) (fun s W1 => s.1 ≤ s.2 ∧ s.2 ≤ xs.length ∧ (∀ j (h : j < xs.length), j < s.1 → xs[j] < n) ∧ (∀ j (h : j < xs.length), s.2 ≤ j → n ≤ xs[j]) ∧ Mem w0 W1 (own tInt 3 A c xs :: L)) (fun s => s.2 - s.1) (0, xs.length) (by repeat (first | exact trivial | refine And.intro (by first | rfl | exact look_int rfl (by omega)) ?_)) ⟨Nat.zero_le _, Nat.le_refl _, fun j h hj => by omega, fun j h hj => by omega, HM⟩ ?_
  clear HM
  rintro ⟨i, j⟩ W1 ⟨h1, h2, h3, h4, HM⟩
  dsimp only at h1 h2 h3 h4 HM ⊢
  by_cases hlt : i < j
  · obtain ⟨h, hh, hh1, hh2⟩ : ∃ h : Nat, ((i : Int) + (j : Int)) / 2 = (h : Nat) ∧ i ≤ h ∧ h < j := ⟨(i + j) / 2, by omega, by omega, by omega⟩
    have hhl : h < xs.length := by omega
    have e0 := rd_at (d := tInt) hhl
    by_cases c1 : rd tInt xs h < n
    · have hA : ∀ q (hq : q < xs.length), q < h + 1 → xs[q] < n := fun q hq hq2 => by
        by_cases e : q = h
        · subst e; rw [← e0]; exact c1
        · have := hs q h hq hhl (by omega); rw [← e0] at this; omega
      repeat (first | (refine gL ?_; refine s_pv (p_i2u rfl (by omega) (by omega)) rfl ?_) | (refine gGP ?_; refine gp (p_shr1 rfl rfl (by omega)) ?_) | (refine gL ?_; rw [hh]; refine s_pv (p_u2i rfl (by omega) (by omega)) rfl ?_) | (refine gGP ?_; first | refine gp (p_move rfl) ?_ | refine gp (p_assign rfl) ?_ | (refine gGB ?_; first | refine gp (p_lss rfl rfl) ?_ | refine gp (p_add rfl rfl (by exact wr (by omega) (by omega))) ?_) | refine gp (p_indexo HM rfl (by first | with_reducible rfl | omega) rfl (by omega) (by omega)) ?_) | (refine gGV ?_; refine gv (p_loado rfl rfl (by omega) (by omega) rfl) ?_) | (refine gL ?_; first | refine s_gp rfl rfl ?_ | refine s_gv HM rfl ?_ | (refine gCall ?_; (refine s_fn rfl rfl ?_; (go_at_call 127; refine (cmpLess _ _).mono ?_; rintro e W1 ⟨rfl, rfl⟩; refine ⟨_, rfl, ?_⟩))) | refine l_nil ?_) | (refine gC ?_; first | refine c_seq ?_ | refine c_region ?_ | refine c_block ?_ | refine c_skip ?_ | refine c_yes rfl (by (simp; omega)) ?_) | (refine gN ?_; first | refine n_then ?_ | refine n_block ?_))
      exact n_round (h + 1, j) (by repeat (first | exact trivial | refine And.intro (by first | rfl | exact look_int rfl (by omega)) ?_)) ⟨by dsimp only; omega, h2, hA, h4, HM⟩ (by dsimp only; omega)
    · have hA : ∀ q (hq : q < xs.length), h ≤ q → n ≤ xs[q] := fun q hq hq2 => by
        by_cases e : q = h
        · subst e; rw [← e0]; omega
        · have := hs h q hhl hq (by omega); rw [← e0] at this; omega
      repeat (first | (refine gL ?_; refine s_pv (p_i2u rfl (by omega) (by omega)) rfl ?_) | (refine gGP ?_; refine gp (p_shr1 rfl rfl (by omega)) ?_) | (refine gL ?_; rw [hh]; refine s_pv (p_u2i rfl (by omega) (by omega)) rfl ?_) | (refine gGP ?_; first | refine gp (p_move rfl) ?_ | refine gp (p_assign rfl) ?_ | (refine gGB ?_; first | refine gp (p_lss rfl rfl) ?_ | refine gp (p_add rfl rfl (by exact wr (by omega) (by omega))) ?_) | refine gp (p_indexo HM rfl (by first | with_reducible rfl | omega) rfl (by omega) (by omega)) ?_) | (refine gGV ?_; refine gv (p_loado rfl rfl (by omega) (by omega) rfl) ?_) | (refine gL ?_; first | refine s_gp rfl rfl ?_ | refine s_gv HM rfl ?_ | (refine gCall ?_; (refine s_fn rfl rfl ?_; (go_at_call 127; refine (cmpLess _ _).mono ?_; rintro e W1 ⟨rfl, rfl⟩; refine ⟨_, rfl, ?_⟩))) | refine l_nil ?_) | (refine gC ?_; first | refine c_seq ?_ | refine c_region ?_ | refine c_block ?_ | refine c_skip ?_ | refine c_yes rfl (by (simp; omega)) ?_ | refine c_no rfl (by (simp; omega)) ?_) | (refine gN ?_; first | refine n_then ?_ | refine n_block ?_))
      exact n_round (i, h) (by repeat (first | exact trivial | refine And.intro (by first | rfl | exact look_int rfl (by omega)) ?_)) ⟨hh1, by dsimp only; omega, h3, hA, HM⟩ (by dsimp only; omega)
  · obtain rfl : i = j := by omega
    by_cases c1 : i < xs.length
    rotate_left
    · have eb : decide (∃ h : i < xs.length, xs[i] = n) = false := by simp only [decide_eq_false_iff_not]; rintro ⟨h, _⟩; exact c1 h
      repeat (first | (refine gGP ?_; first | refine gp (p_move rfl) ?_ | refine gp (p_assign rfl) ?_ | (refine gGB ?_; refine gp (p_lss rfl rfl) ?_) | refine gp (p_pick0 rfl (by (simp; omega)) rfl) ?_) | (refine gL ?_; first | refine s_gp rfl rfl ?_ | refine l_nil ?_ | refine s_guard_off rfl rfl rfl rfl (by first | rfl | (simp; omega)) rfl rfl ?_ | refine s_guard_un rfl rfl rfl rfl rfl rfl ?_) | (refine gC ?_; first | refine c_seq ?_ | refine c_region ?_ | refine c_exit ?_ | refine c_ret ?_ | refine c_no rfl (by first | (simp; done) | fail) ?_) | (refine gN ?_; first | refine n_then ?_ | refine x_then ?_ | refine x_here ?_))
      exact ret_two rfl rfl rfl ⟨i, false, rfl, h2, h3, h4, eb.symm, HM⟩
    have e0 := rd_at (d := tInt) c1
    by_cases c2 : rd tInt xs i = n
    · have eb : decide (∃ h : i < xs.length, xs[i] = n) = true := by simp only [decide_eq_true_eq]; exact ⟨c1, by rw [← e0]; exact c2⟩
      repeat (first | (refine gGP ?_; first | refine gp (p_move rfl) ?_ | refine gp (p_assign rfl) ?_ | (refine gGB ?_; first | refine gp (p_lss rfl rfl) ?_ | refine gp (p_eql rfl rfl) ?_) | refine gp (p_indexo HM rfl (by first | with_reducible rfl | omega) rfl (by omega) (by omega)) ?_ | refine gp (p_pick1 rfl (by (simp; omega)) rfl) ?_) | (refine gGV ?_; refine gv (p_loado rfl rfl (by omega) (by omega) rfl) ?_) | (refine gL ?_; first | refine s_gp rfl rfl ?_ | refine s_gv HM rfl ?_ | refine l_nil ?_ | refine s_guard_on rfl rfl rfl rfl (by first | rfl | (simp; omega)) ?_ | refine s_guard_off rfl rfl rfl rfl (by first | rfl | (simp; omega)) rfl rfl ?_ | refine s_guard_un rfl rfl rfl rfl rfl rfl ?_) | (refine gC ?_; first | refine c_seq ?_ | refine c_region ?_ | refine c_exit ?_ | refine c_ret ?_ | refine c_no rfl (by first | (simp; done) | fail) ?_) | (refine gN ?_; first | refine n_then ?_ | refine x_then ?_ | refine x_here ?_))
      exact ret_two rfl rfl rfl ⟨i, true, rfl, h2, h3, h4, eb.symm, HM⟩
    · have eb : decide (∃ h : i < xs.length, xs[i] = n) = false := by simp only [decide_eq_false_iff_not]; rintro ⟨h, e⟩; rw [← e0] at e; exact c2 e
      repeat (first | (refine gGP ?_; first | refine gp (p_move rfl) ?_ | refine gp (p_assign rfl) ?_ | (refine gGB ?_; first | refine gp (p_lss rfl rfl) ?_ | refine gp (p_eql rfl rfl) ?_) | refine gp (p_indexo HM rfl (by first | with_reducible rfl | omega) rfl (by omega) (by omega)) ?_ | refine gp (p_pick1 rfl (by (simp; omega)) rfl) ?_ | refine gp (p_pick0 rfl (by first | rfl | (simp; omega)) rfl) ?_) | (refine gGV ?_; refine gv (p_loado rfl rfl (by omega) (by omega) rfl) ?_) | (refine gL ?_; first | refine s_gp rfl rfl ?_ | refine s_gv HM rfl ?_ | (refine gCall ?_; (refine s_fn rfl rfl ?_; (go_at_call 128; refine (slNaN _).mono ?_; rintro e W1 ⟨rfl, rfl⟩; refine ⟨_, rfl, ?_⟩))) | refine l_nil ?_ | refine s_guard_on rfl rfl rfl rfl (by (simp; omega)) ?_ | refine s_guard_off rfl rfl rfl rfl (by rfl) rfl rfl ?_) | (refine gC ?_; first | refine c_seq ?_ | refine c_region ?_ | refine c_exit ?_ | refine c_ret ?_ | refine c_no rfl (by first | (simp; done) | fail) ?_) | (refine gN ?_; first | refine n_then ?_ | refine x_then ?_ | refine x_here ?_))
      exact ret_two rfl rfl rfl ⟨i, false, rfl, h2, h3, h4, eb.symm, HM⟩
/-- A row of whole numbers as_ a raw row, and back. -/
theorem int_raw {e : Nat} {xs : List Int} (h : Mem w0 W (own tInt e A c xs :: L)) : Mem w0 W (own (tRaw 1) e A c (xs.map (fun n => [.int .i64 n])) :: L) := by
  obtain ⟨hb, F, h1, ⟨css, hl, G, g1, hrow, hels⟩, h3⟩ := h
  have hc : css = xs.map (fun n => [Value.int .i64 n]) := by
    refine List.ext_getElem (by simpa using hl) fun i hi hi2 => ?_
    obtain ⟨F', _, hA, _⟩ := els_get (d := tInt) i (by simpa using hi2) hi hels
    simpa using hA
  subst hc
  have h4 : (xs.map (fun n => [Value.int .i64 n])).length = xs.length := List.length_map ..
  refine ⟨hb, F, h1, ⟨_, rfl, G, g1, by rw [h4]; exact hrow, els_raw W _ _ (by simp) (fun u hu => by simp only [List.mem_flatten, List.mem_map] at hu; obtain ⟨_, ⟨m, _, rfl⟩, hu⟩ := hu; simp only [List.mem_singleton] at hu; subst hu; rfl)⟩, h3⟩
theorem raw_int {e : Nat} {xs : List Int} (h : Mem w0 W (own (tRaw 1) e A c (xs.map (fun n => [.int .i64 n])) :: L)) : Mem w0 W (own tInt e A c xs :: L) := by
  obtain ⟨hb, F, h1, ⟨css, hl, G, g1, hrow, hels⟩, h3⟩ := h
  have hc : css = xs.map (fun n => [Value.int .i64 n]) := by
    refine List.ext_getElem hl fun i hi hi2 => ?_
    obtain ⟨F', _, hA, _⟩ := els_get (d := tRaw 1) i hi2 hi hels
    exact hA.1
  subst hc
  rw [List.length_map] at hrow
  exact ⟨hb, F, h1, ⟨_, List.length_map .., G, g1, hrow, els_flat (D := tInt) (enc := fun n => [Value.int .i64 n]) W xs _⟩, h3⟩
theorem joinC {xs : List Int} (n : Int) (hs : xs.Pairwise (· < ·)) (hn : xs.length ≤ 1000) (HM : Mem w0 W (own tInt 3 A c xs :: L)) : Calls Tryz.prog 117 #[.slice A xs.length c, .int .i64 n] W fun e W' => ∃ A' c', e = .returned (.slice A' (addL xs n).length c') ∧ Mem w0 W' (own tInt 3 A' c' (addL xs n) :: L) := by
  refine enter Tryz.func117 rfl Tryz.ntmps117 [(0, _), (1, _)] rfl ⟨rfl, rfl, trivial⟩ ?_
  repeat (first | (refine gGP ?_; first | refine gp (p_move rfl) ?_ | refine gp (p_assign rfl) ?_ | refine gp (p_extract rfl rfl) ?_) | (refine gL ?_; first | refine s_gp rfl rfl ?_ | (refine gCall ?_; (refine s_fn rfl rfl ?_; (go_at_call 123; refine (bsearch n hs (by omega) HM).mono ?_; rintro e W1 ⟨k, b, rfl, hk, h1, h2, hb, HM1⟩; refine ⟨_, rfl, ?_⟩; clear HM; have HM := HM1; clear HM1))) | refine l_nil ?_) | (refine gC ?_; first | refine c_seq ?_ | refine c_region ?_) | (refine gN ?_; refine n_then ?_))
  by_cases c1 : ∃ h : k < xs.length, xs[k] = n
  · have hb1 : b = true := by rw [hb]; simpa using c1
    obtain ⟨hk2, e1⟩ := c1
    have e : addL xs n = xs := addL_in hk2 h1 e1
    rw [e]
    repeat (first | (refine gGP ?_; first | refine gp (p_move rfl) ?_ | refine gp (p_assign rfl) ?_) | (refine gL ?_; first | refine s_gp rfl rfl ?_ | refine l_nil ?_) | (refine gC ?_; first | refine c_seq ?_ | refine c_region ?_ | refine c_ret ?_ | refine c_yes rfl (by assumption) ?_) | (refine gN ?_; first | refine n_then ?_ | refine r_then ?_))
    exact ret_tmp rfl rfl ⟨A, c, rfl, HM⟩
  · have hb1 : b = false := by rw [hb]; simpa using c1
    have e : addL xs n = xs.take k ++ [n] ++ xs.drop k := addL_new hk h1 (fun h => by
      have := h2 k h (Nat.le_refl _)
      by_cases e : xs[k] = n
      · exact absurd ⟨h, e⟩ c1
      · omega)
    have em : (xs.take k ++ [n] ++ xs.drop k).map (fun n => [Value.int .i64 n]) = (xs.map (fun n => [Value.int .i64 n])).take k ++ [[Value.int .i64 n]] ++ (xs.map (fun n => [Value.int .i64 n])).drop k := by simp
    have el : (xs.take k ++ [n] ++ xs.drop k).length = ((xs.map (fun n => [Value.int .i64 n])).take k ++ [[Value.int .i64 n]] ++ (xs.map (fun n => [Value.int .i64 n])).drop k).length := by rw [← em, List.length_map]
    rw [e]
    repeat (first | (refine gGP ?_; first | refine gp (p_move rfl) ?_ | refine gp (p_assign rfl) ?_) | (refine gL ?_; first | refine s_gp rfl rfl ?_ | (refine gCall ?_; (refine s_fn rfl rfl ?_; (go_at_call 124; have HM2 := int_raw (HM.pk (A := own tInt 3 A c xs)); have HM3 := (insertI (A := A) (c := c) (css := xs.map (fun n => [.int .i64 n])) (cv := [.int .i64 n]) k (by rw [List.length_map]; exact hk) (by rw [List.length_map]; exact hn) rfl (fun u hu => by simp only [List.mem_singleton] at hu; subst hu; rfl) HM2); rw [List.length_map] at HM3; refine HM3.mono ?_; clear HM2 HM3; rintro e W1 ⟨A1, c1, rfl, HM1⟩; refine ⟨_, rfl, ?_⟩; clear HM; rw [← em] at HM1; have HM := raw_int HM1; clear HM1))) | (refine s_lit1 HM rfl rfl rfl ?_; intro g W1 HM1; clear HM; have HM := HM1; clear HM1) | refine l_nil ?_) | (refine gC ?_; first | refine c_seq ?_ | refine c_region ?_ | refine c_skip ?_ | refine c_ret ?_ | refine c_no rfl (by assumption) ?_) | (refine gN ?_; refine n_then ?_))
    exact ret_tmp rfl rfl ⟨A1, c1, by rw [el], HM⟩
end Go.Proofs.YtkfogbonjpdkbaaGreat.Sp
namespace Go.Proofs.YtkfogbonjpdkbaaGreat.Sp
open Go Go.RowKit
set_option linter.unusedVariables false
set_option linter.unusedSimpArgs false
set_option maxRecDepth 10000
set_option maxHeartbeats 2000000
variable {w0 W : World} {L : List Asn} {A : Option Addr} {c : Nat}
section
variable {P : Program} {n : Nat} {ops : Array Oper} {Q : Exit → Act → World → Prop} {rest : List Oper} {E : Env} {L' R : List Asn}
variable {d : Nat} {ty st : TypeId} {pos : String} {after : Array Edge} {x y : Operand} {e sz : Nat}
/-- clear of a slice of one-cell elements, in a block. -/
theorem s_clear {g o l q t : Nat} {cs : List Value} {zv : Value} [hU : Und P st (.slice e)] [hz : Zer P e [zv]] (hm : Mem w0 W L) (hx : ev E x = some (.slice (some ⟨g, o, none⟩) l q)) [hB : BoxAt L g t cs] (hl : o + l ≤ cs.length) (h1 : zv.oneCell' = true) [hr : Rp L (box g t cs) (box g t (puts cs o (List.replicate l zv))) L']
    (h : ∀ W1, Mem w0 W1 L' → WL P n ops Q rest E W1) :
    WL P n ops Q (⟨none, .call { callee := .builtin .clear, args := #[x], argTypes := #[st] }, ty, pos, after, none⟩ :: rest) E W := by
  obtain ⟨i0, z, hi, hzz, hzc⟩ := hz.out
  have hh := hm.heap (g := g)
  have hzz2 : z.cells = #[zv] := by rw [← Array.toList_inj]; simpa using hzc
  have hth := there_box hh (n := l) hl
  have hzl : (Builtin.zeroCells z.cells l).toList = List.replicate l zv := by
    rw [hzz2]
    refine List.ext_getElem (by simp [Builtin.zeroCells]) fun i h1 h2 => ?_
    simp [Builtin.zeroCells, Nat.mod_one]
  have h3 := run_storeCells_cells (P := P) g o (List.replicate l zv) 0 W (by simpa using fun j hj => (hth j hj).1) (by simpa using fun j hj => (hth j hj).2) (fun v hv => by rw [List.eq_of_mem_replicate hv]; exact h1)
  simp only [Nat.add_zero] at h3
  have h4 := setCells_heap g t (0, 0) (List.replicate l zv) o W cs hh
  have hrun : (Builtin.clear_ #[st] ty #[.slice (some ⟨g, o, none⟩) l q]).run P W = .ok (.tuple #[]) (W.setCells g o (List.replicate l zv)) := by
    cases l with
    | zero => simp [Builtin.clear_, run_underlying hU.out, World.setCells]
    | succ l => simp [Builtin.clear_, run_underlying hU.out, zeroValue, typeInfo, hi, hzz, hzl, h3]
  refine ⟨fun a ha => ?_⟩
  have h5 := (h _ (hm.put (cs := cs) (cs' := puts cs o (List.replicate l zv)) h4 (grown_setCells g _ o W))).out a ha
  refine wpList_plain rfl fun K hK => ?_
  unfold Oper.wp
  have hex : (execOp a.eval ⟨none, .call { callee := .builtin .clear, args := #[x], argTypes := #[st] }, ty, pos, after, none⟩).run P W = .ok (.value (.tuple #[])) (W.setCells g o (List.replicate l zv)) := by
    simp [execOp, ha.eval hx, resolve, invoke, builtin, hrun]
  rw [hex]
  exact hK _ _ h5
end
/-- A row of flat elements as_ a raw row. -/
theorem flat_raw {α : Type} {D : Ty α} {enc : α → List Value} [hf : Flat D enc] [ho : FlatO D enc] {e : Nat} {xs : List α} (h : Mem w0 W (own D e A c xs :: L)) : Mem w0 W (own (tRaw D.sz) e A c (xs.map enc) :: L) := by
  obtain ⟨css, hl, h1⟩ := opn_raw h
  have h2 := h1
  obtain ⟨_, _, h3⟩ := (h1.perm (List.Perm.swap ..)).ex
  have hc : css = xs.map enc := by
    refine List.ext_getElem (by simpa using hl) fun i hi hi2 => ?_
    obtain ⟨F0, _, hs, _⟩ := SepIn.append h3.sep
    obtain ⟨F', hA⟩ := els_get (d := D) i (by simpa using hi2) hi hs
    simpa using hf.out hA
  rw [hc] at h2
  exact (h2.perm (List.Perm.swap ..)).drop
theorem raw_flat {α : Type} {D : Ty α} {enc : α → List Value} [ho : FlatO D enc] {e : Nat} {xs : List α} (h : Mem w0 W (own (tRaw D.sz) e A c (xs.map enc) :: L)) : Mem w0 W (own D e A c xs :: L) := cls_raw ((h.flat (D := D) xs).perm (List.Perm.swap ..))
theorem indexStr {ws : List ByteArray} {gr : Nat} (p : ByteArray → Bool) (hkn : ∀ (R : List Asn) (t : ByteArray) (W' : World), Mem w0 W' (R ++ L) → Calls Tryz.prog 93 #[.pointer (some ⟨gr, 0, none⟩), .string t] W' fun e W'' => e = .returned (.bool (p t)) ∧ Mem w0 W'' (R ++ L)) (hn : ws.length ≤ 1048576) (HM : Mem w0 W (own tStr 9 A c ws :: L)) : Calls Tryz.prog 116 #[.slice A ws.length c, .func (.func 93) #[.pointer (some ⟨gr, 0, none⟩)] #[]] W fun e W' => ∃ r : Int, e = .returned (.int .i64 r) ∧ ((r = -1 ∧ ∀ j (h : j < ws.length), p ws[j] = false) ∨ ∃ k : Nat, r = k ∧ (∀ j (h : j < ws.length), j < k → p ws[j] = false) ∧ ∃ h : k < ws.length, p ws[k] = true) ∧ Mem w0 W' (own tStr 9 A c ws :: L) := by
  refine enter Tryz.func116 rfl Tryz.ntmps116 [(0, _), (1, _)] rfl ⟨rfl, rfl, trivial⟩ ?_
  repeat (first | (refine gGP ?_; first | refine gp (p_move rfl) ?_ | refine gp (p_assign rfl) ?_ | refine gp (p_len rfl) ?_) | (refine gL ?_; first | refine s_gp rfl rfl ?_ | refine l_nil ?_) | (refine gC ?_; first | refine c_seq ?_ | refine c_region ?_ | refine c_block ?_) | (refine gN ?_; refine n_then ?_))
  refine c_loop (σ := Nat) (fun k => [(0, .slice A ws.length c), (1, .func (.func 93) #[.pointer (some ⟨gr, 0, none⟩)] #[]), (7, .int .i64 ws.length), (8, .int .i64 k)]) (fun k W1 => k ≤ ws.length ∧ (∀ j (h : j < ws.length), j < k → p ws[j] = false) ∧ Mem w0 W1 (own tStr 9 A c ws :: L)) (fun k => ws.length - k) 0 (by repeat (first | exact trivial | refine And.intro (by first | rfl | exact look_int rfl (by omega)) ?_)) ⟨Nat.zero_le _, fun j h hj => by omega, HM⟩ ?_
  clear HM
  rintro k W1 ⟨hk, hp, HM⟩
  by_cases hlt : k < ws.length
  · have e0 := rd_at (d := tStr) hlt
    by_cases c1 : p (rd tStr ws k) = true
    · repeat (first | (refine gL ?_; refine gCall ?_; refine s_callv (f := 93) (first := [.pointer (some ⟨gr, 0, none⟩)]) (captured := []) rfl rfl rfl ?_; refine (hkn [own tStr 9 A c ws] (rd tStr ws k) _ HM).mono ?_; rintro e W1 ⟨rfl, HM1⟩; refine ⟨_, rfl, ?_⟩; clear HM; have HM := HM1; clear HM1; simp only [List.cons_append, List.nil_append] at HM) | (refine gGP ?_; first | refine gp (p_move rfl) ?_ | refine gp (p_assign rfl) ?_ | (refine gGB ?_; refine gp (p_lss rfl rfl) ?_) | refine gp (p_indexo HM rfl (by first | with_reducible rfl | omega) rfl (by omega) (by omega)) ?_) | (refine gGV ?_; refine gv (p_loado rfl rfl (by omega) (by omega) rfl) ?_) | (refine gL ?_; first | refine s_gp rfl rfl ?_ | refine s_gv HM rfl ?_ | refine l_nil ?_) | (refine gC ?_; first | refine c_seq ?_ | refine c_region ?_ | refine c_block ?_ | refine c_skip ?_ | refine c_ret ?_ | refine c_yes rfl (by first | assumption | (simp; omega)) ?_) | (refine gN ?_; first | refine n_then ?_ | refine r_then ?_ | refine r_block ?_))
      exact ret_tmp rfl rfl ⟨k, rfl, .inr ⟨k, rfl, hp, hlt, by rw [← e0]; exact c1⟩, HM⟩
    · simp only [Bool.not_eq_true] at c1
      have hp2 : ∀ q (h : q < ws.length), q < k + 1 → p ws[q] = false := fun q hq hq2 => by
        by_cases e : q = k
        · subst e; rw [← e0]; exact c1
        · exact hp q hq (by omega)
      repeat (first | (refine gL ?_; refine gCall ?_; refine s_callv (f := 93) (first := [.pointer (some ⟨gr, 0, none⟩)]) (captured := []) rfl rfl rfl ?_; refine (hkn [own tStr 9 A c ws] (rd tStr ws k) _ HM).mono ?_; rintro e W1 ⟨rfl, HM1⟩; refine ⟨_, rfl, ?_⟩; clear HM; have HM := HM1; clear HM1; simp only [List.cons_append, List.nil_append] at HM) | (refine gGP ?_; first | refine gp (p_move rfl) ?_ | refine gp (p_assign rfl) ?_ | (refine gGB ?_; first | refine gp (p_lss rfl rfl) ?_ | refine gp (p_add rfl rfl (by exact wr (by omega) (by omega))) ?_) | refine gp (p_indexo HM rfl (by first | with_reducible rfl | omega) rfl (by omega) (by omega)) ?_) | (refine gGV ?_; refine gv (p_loado rfl rfl (by omega) (by omega) rfl) ?_) | (refine gL ?_; first | refine s_gp rfl rfl ?_ | refine s_gv HM rfl ?_ | refine l_nil ?_) | (refine gC ?_; first | refine c_seq ?_ | refine c_region ?_ | refine c_block ?_ | refine c_skip ?_ | refine c_yes rfl (by (simp; omega)) ?_ | refine c_no rfl (by assumption) ?_) | (refine gN ?_; first | refine n_then ?_ | refine n_block ?_))
      exact n_round (k + 1) (by repeat (first | exact trivial | refine And.intro (by first | rfl | exact look_int rfl (by omega)) ?_)) ⟨by omega, hp2, HM⟩ (by omega)
  · have hp2 : ∀ j (h : j < ws.length), p ws[j] = false := fun j h => hp j h (by omega)
    repeat (first | (refine gGP ?_; first | refine gp (p_assign rfl) ?_ | (refine gGB ?_; refine gp (p_lss rfl rfl) ?_)) | (refine gL ?_; first | refine s_gp rfl rfl ?_ | refine l_nil ?_) | (refine gC ?_; first | refine c_seq ?_ | refine c_region ?_ | refine c_exit ?_ | refine c_ret ?_ | refine c_no rfl (by (simp; omega)) ?_) | (refine gN ?_; first | refine n_then ?_ | refine x_then ?_ | refine x_here ?_))
    exact ret_tmp rfl rfl ⟨-1, rfl, .inl ⟨rfl, hp2⟩, HM⟩
theorem deleteStr {ws : List ByteArray} {gr : Nat} (p : ByteArray → Bool) (hkn : ∀ (R : List Asn) (t : ByteArray) (W' : World), Mem w0 W' (R ++ L) → Calls Tryz.prog 93 #[.pointer (some ⟨gr, 0, none⟩), .string t] W' fun e W'' => e = .returned (.bool (p t)) ∧ Mem w0 W'' (R ++ L)) (hn : ws.length ≤ 1000) (HM : Mem w0 W (own tStr 9 A c ws :: L)) : Calls Tryz.prog 92 #[.slice A ws.length c, .func (.func 93) #[.pointer (some ⟨gr, 0, none⟩)] #[]] W fun e W' => e = .returned (.slice A (ws.filter (fun w => !p w)).length c) ∧ Mem w0 W' (own tStr 9 A c (ws.filter (fun w => !p w)) :: L) := by
  refine enter Tryz.func92 rfl Tryz.ntmps92 [(0, _), (1, _)] rfl ⟨rfl, rfl, trivial⟩ ?_
  repeat (first | (refine gGP ?_; first | refine gp (p_move rfl) ?_ | refine gp (p_assign rfl) ?_ | (refine gGB ?_; refine gp (p_eql rfl rfl) ?_)) | (refine gL ?_; first | refine s_gp rfl rfl ?_ | (refine gCall ?_; (refine s_fn rfl rfl ?_; (go_at_call 116; refine (indexStr p hkn (by omega) HM).mono ?_; rintro e W1 ⟨r, rfl, hr, HM1⟩; refine ⟨_, rfl, ?_⟩; clear HM; have HM := HM1; clear HM1))) | refine l_nil ?_) | (refine gC ?_; first | refine c_seq ?_ | refine c_region ?_) | (refine gN ?_; refine n_then ?_))
  rcases hr with ⟨rfl, hp⟩ | ⟨k, rfl, hp, hk, hpk⟩
  · have e : ws.filter (fun w => !p w) = ws := List.filter_eq_self.2 (fun w hw => by
      obtain ⟨j, hj, rfl⟩ := List.getElem_of_mem hw
      simp [hp j hj])
    rw [e]
    repeat (first | (refine gGP ?_; first | refine gp (p_move rfl) ?_ | refine gp (p_assign rfl) ?_) | (refine gL ?_; first | refine s_gp rfl rfl ?_ | refine l_nil ?_) | (refine gC ?_; first | refine c_seq ?_ | refine c_region ?_ | refine c_ret ?_ | refine c_yes rfl (by rfl) ?_) | (refine gN ?_; first | refine n_then ?_ | refine r_then ?_))
    exact ret_tmp rfl rfl ⟨rfl, HM⟩
  repeat (first | (refine gGP ?_; first | refine gp (p_move rfl) ?_ | refine gp (p_assign rfl) ?_ | (refine gGB ?_; refine gp (p_add rfl rfl (by exact wr (by omega) (by omega))) ?_)) | (refine gL ?_; first | refine s_gp rfl rfl ?_ | refine l_nil ?_) | (refine gC ?_; first | refine c_seq ?_ | refine c_region ?_ | refine c_block ?_ | refine c_skip ?_ | refine c_no rfl (by rfl) ?_) | (refine gN ?_; refine n_then ?_))
  have hpre : ws.take k = (ws.take (k + 1)).filter (fun w => !p w) := by
    rw [List.take_succ_eq_append_getElem hk, List.filter_append, List.filter_cons, hpk]
    simp only [Bool.not_true, List.filter_nil, List.append_nil, Bool.false_eq_true, if_false]
    refine (List.filter_eq_self.2 (fun w hw => ?_)).symm
    obtain ⟨j, hj, rfl⟩ := List.getElem_of_mem hw
    rw [List.getElem_take]
    simp at hj
    simp [hp j (by omega) (by omega)]
  refine c_loop (σ := Nat × Nat × List ByteArray) (fun s => [(0, .slice A ws.length c), (1, .func (.func 93) #[.pointer (some ⟨gr, 0, none⟩)] #[]), (5, .int .i64 s.1), (6, .int .i64 s.2.1)]) (fun s W1 => s.1 < s.2.1 ∧ s.2.1 ≤ ws.length ∧ s.2.2.length = ws.length ∧ s.2.2.take s.1 = (ws.take s.2.1).filter (fun w => !p w) ∧ s.2.2.drop s.2.1 = ws.drop s.2.1 ∧ Mem w0 W1 (own tStr 9 A c s.2.2 :: L)) (fun s => ws.length - s.2.1) (k, k + 1, ws) (by simp only [Int.natCast_add, Int.natCast_one]; exact (by repeat (first | exact trivial | refine And.intro (by first | rfl | exact look_int rfl (by omega)) ?_))) ⟨by dsimp only; omega, hk, rfl, hpre, rfl, HM⟩ ?_
  clear HM
  rintro ⟨i, j, ys⟩ W1 ⟨h1, h2, h3, h4, h5, HM⟩
  dsimp only at h1 h2 h3 h4 h5 HM ⊢
  by_cases hlt : j < ws.length
  · have hly : j < ys.length := by omega
    have e0 : rd tStr ys j = ws[j] := by
      rw [rd_at hly]
      have := congrArg (fun l => l[0]?) h5
      simpa [hlt, hly] using this
    have hd : ys.drop (j + 1) = ws.drop (j + 1) := by
      have := congrArg (List.drop 1) h5
      simpa [List.drop_drop] using this
    by_cases c1 : p (rd tStr ys j) = true
    · have hst : ys.take i = (ws.take (j + 1)).filter (fun w => !p w) := by
        rw [List.take_succ_eq_append_getElem hlt, List.filter_append, ← h4, ← e0, List.filter_cons, c1]; simp
      repeat (first | (refine gL ?_; refine gCall ?_; refine s_callv (f := 93) (first := [.pointer (some ⟨gr, 0, none⟩)]) (captured := []) rfl rfl rfl ?_; refine (hkn [own tStr 9 A c ys] (rd tStr ys j) _ HM).mono ?_; rintro e W1 ⟨rfl, HM1⟩; refine ⟨_, rfl, ?_⟩; clear HM; have HM := HM1; clear HM1; simp only [List.cons_append, List.nil_append] at HM) | (refine gGP ?_; first | refine gp (p_move rfl) ?_ | refine gp (p_assign rfl) ?_ | (refine gGB ?_; first | refine gp (p_lss rfl rfl) ?_ | refine gp (p_add rfl rfl (by exact wr (by omega) (by omega))) ?_) | refine gp (p_indexo HM rfl (by first | with_reducible rfl | omega) rfl (by omega) (by omega)) ?_ | refine gp (p_len rfl) ?_ | refine gp (p_not rfl) ?_) | (refine gGV ?_; refine gv (p_loado rfl rfl (by omega) (by omega) rfl) ?_) | (refine gL ?_; first | refine s_gp rfl rfl ?_ | refine s_gv HM rfl ?_ | refine l_nil ?_) | (refine gC ?_; first | refine c_seq ?_ | refine c_region ?_ | refine c_block ?_ | refine c_skip ?_ | refine c_yes rfl (by (simp; omega)) ?_ | refine c_no rfl (by (simp; omega)) ?_) | (refine gN ?_; first | refine n_then ?_ | refine n_block ?_))
      exact n_round (i, j + 1, ys) (by simp only [Int.natCast_add, Int.natCast_one]; exact (by repeat (first | exact trivial | refine And.intro (by first | rfl | exact look_int rfl (by omega)) ?_))) ⟨by dsimp only; omega, hlt, h3, hst, hd, HM⟩ (by dsimp only; omega)
    · simp only [Bool.not_eq_true] at c1
      have hst : (ys.set i (rd tStr ys j)).take (i + 1) = (ws.take (j + 1)).filter (fun w => !p w) := by
        rw [List.take_succ_eq_append_getElem hlt, List.filter_append, ← h4, ← e0, List.filter_cons, c1, List.take_succ_eq_append_getElem (by rw [List.length_set]; omega), List.getElem_set_self, List.take_set_of_le (Nat.le_refl _)]; simp
      have hd2 : (ys.set i (rd tStr ys j)).drop (j + 1) = ws.drop (j + 1) := by rw [List.drop_set_of_lt (by omega)]; exact hd
      repeat (first | (refine gL ?_; refine gCall ?_; refine s_callv (f := 93) (first := [.pointer (some ⟨gr, 0, none⟩)]) (captured := []) rfl rfl rfl ?_; refine (hkn [own tStr 9 A c ys] (rd tStr ys j) _ HM).mono ?_; rintro e W1 ⟨rfl, HM1⟩; refine ⟨_, rfl, ?_⟩; clear HM; have HM := HM1; clear HM1; simp only [List.cons_append, List.nil_append] at HM) | (refine gGP ?_; first | refine gp (p_move rfl) ?_ | refine gp (p_assign rfl) ?_ | (refine gGB ?_; first | refine gp (p_lss rfl rfl) ?_ | refine gp (p_add rfl rfl (by exact wr (by omega) (by omega))) ?_) | refine gp (p_indexo HM rfl (by first | with_reducible rfl | omega) rfl (by omega) (by omega)) ?_ | refine gp (p_len rfl) ?_ | refine gp (p_not rfl) ?_) | (refine gGV ?_; refine gv (p_loado rfl rfl (by omega) (by omega) rfl) ?_) | (refine gL ?_; first | refine s_gp rfl rfl ?_ | refine s_gv HM rfl ?_ | (refine gStore ?_; (refine s_storeo HM rfl rfl rfl (by omega) (by omega) rfl ?_; intro W1 HM1; clear HM; have HM := HM1; clear HM1; (try dsimp only at HM))) | refine l_nil ?_) | (refine gC ?_; first | refine c_seq ?_ | refine c_region ?_ | refine c_block ?_ | refine c_skip ?_ | refine c_yes rfl (by (simp; omega)) ?_) | (refine gN ?_; first | refine n_then ?_ | refine n_block ?_))
      simp only [Int.toNat_natCast] at HM
      exact n_round (i + 1, j + 1, ys.set i (rd tStr ys j)) (by simp only [Int.natCast_add, Int.natCast_one]; exact (by repeat (first | exact trivial | refine And.intro (by first | rfl | exact look_int rfl (by omega)) ?_))) ⟨by dsimp only; omega, hlt, by dsimp only; rw [List.length_set]; exact h3, hst, hd2, HM⟩ (by dsimp only; omega)
  · obtain rfl : j = ws.length := by omega
    rw [List.take_length] at h4
    have hil : (ws.filter (fun w => !p w)).length = i := by rw [← h4, List.length_take]; omega
    have HMr := flat_raw (D := tStr) (enc := fun n => [Value.string n]) HM
    clear HM
    rcases opn_box HMr with ⟨_, h0, _⟩ | ⟨g, cur, rfl, hcl, hct, hnc, hcm, hx3, hx4, HM⟩
    · rw [List.map_eq_nil_iff] at h0
      rw [h0, List.length_nil] at h3
      omega
    clear HMr
    have hic : i < c := by rw [List.length_map] at hnc; omega
    have hcl2 : cur.length = c := by rw [hcl]; exact Nat.mul_one c
    have hcy : ys.length ≤ c := by rw [List.length_map] at hnc; exact hnc
    have hfl : ∀ l : List ByteArray, (l.map (fun n => [Value.string n])).flatten = l.map Value.string := fun l => by
      induction l with
      | nil => rfl
      | cons a r ih => rw [List.map_cons, List.flatten_cons, ih]; rfl
    repeat (first | (refine gGP ?_; refine gp (p_from rfl rfl (by omega) (by omega) (by omega)) ?_) | (refine gL ?_; refine gCall ?_; refine s_clear (zv := .string ⟨#[]⟩) HM rfl (by show _ ≤ cur.length; omega) rfl ?_; intro W1 HM1; clear HM; have HM := HM1; clear HM1) | (refine gGP ?_; first | refine gp (p_move rfl) ?_ | refine gp (p_assign rfl) ?_ | (refine gGB ?_; refine gp (p_lss rfl rfl) ?_) | refine gp (p_sliceto rfl rfl (by omega) (by omega)) ?_ | refine gp (p_len rfl) ?_) | (refine gL ?_; first | refine s_gp rfl rfl ?_ | refine l_nil ?_) | (refine gC ?_; first | refine c_seq ?_ | refine c_region ?_ | refine c_exit ?_ | refine c_ret ?_ | refine c_no rfl (by first | (simp; done) | fail) ?_) | (refine gN ?_; first | refine n_then ?_ | refine x_then ?_ | refine x_here ?_))
    rw [hfl] at hct
    have hct2 : cur.take ys.length = ys.map Value.string := by rw [← hct, List.length_map]; exact congrArg (fun q => cur.take q) (Nat.mul_one ys.length).symm
    simp only [Int.toNat_natCast, Nat.zero_add, Nat.mul_one] at HM
    refine ret_tmp rfl rfl ⟨by rw [hil]; simp only [Int.toNat_natCast], ?_⟩
    refine raw_flat (enc := fun n => [Value.string n]) (cls_box (cur := _) HM (by rw [puts_len]; exact hcl) ?_ (by rw [List.length_map, hil]; omega) hcm (fun x hx => ?_) (fun u hu => ?_))
    · rw [hfl, List.length_map, hil, ← h4]
      show List.take (i * 1) _ = _
      rw [Nat.mul_one, puts_eq _ _ _ (by rw [List.length_replicate]; omega), List.append_assoc, List.take_append_of_le_length (by rw [List.length_take]; omega), List.take_take, Nat.min_self, List.map_take, ← hct2, List.take_take, Nat.min_eq_left (by omega)]
    · obtain ⟨n, _, rfl⟩ := List.mem_map.1 hx
      rfl
    · rw [hfl] at hu
      obtain ⟨n, _, rfl⟩ := List.mem_map.1 hu
      rfl
end Go.Proofs.YtkfogbonjpdkbaaGreat.Sp
namespace Go.Proofs.YtkfogbonjpdkbaaGreat.Sp
open Go Go.RowKit
set_option linter.unusedVariables false
set_option linter.unusedSimpArgs false
set_option maxRecDepth 10000
set_option maxHeartbeats 2000000
variable {w0 W : World} {L : List Asn} {A : Option Addr} {c : Nat}
theorem tick1Fn (s : Slot) (g7 : Nat) (w : ByteArray) [hB : RoBAt L g7 w0 9 [.string w]] (HM : Mem w0 W L) : Calls Tryz.prog 97 #[.agg (encSlot s ()).toArray, .pointer (some ⟨g7, 0, none⟩)] W fun e W' => e = .returned (.bool (decide (0 < s.ballot) && decide (s.text = w))) ∧ Mem w0 W' L := by
  refine enter Tryz.func97 rfl Tryz.ntmps97 [(0, .agg (encSlot s ()).toArray), (1, _)] rfl ⟨rfl, rfl, trivial⟩ ?_
  unfold encSlot
  by_cases c1 : 0 < s.ballot
  · repeat (first | (refine gGP ?_; first | refine gp (p_move rfl) ?_ | refine gp (p_assign rfl) ?_ | (refine gGB ?_; first | refine gp (p_gtr rfl rfl) ?_ | refine gp (p_seql rfl rfl) ?_) | refine gp (p_field rfl (by simp only [Nat.reduceAdd]; rfl)) ?_ | refine gp (p_pick1 rfl (by (simp; omega)) rfl) ?_) | (refine gGV ?_; first | refine gv (p_load rfl) ?_ | refine gv (p_loadrb rfl) ?_) | (refine gL ?_; first | refine s_gp rfl rfl ?_ | refine s_gv HM rfl ?_ | (refine s_box HM rfl rfl ?_; intro g W1 HM1; clear HM; have HM := HM1; clear HM1) | refine l_nil ?_ | refine s_guard_on rfl rfl rfl rfl (by (simp; omega)) ?_) | (refine gC ?_; first | refine c_seq ?_ | refine c_region ?_ | refine c_ret ?_) | (refine gN ?_; refine n_then ?_))
    exact ret_tmp rfl rfl ⟨by simp [c1], HM.sb⟩
  · repeat (first | (refine gGP ?_; first | refine gp (p_move rfl) ?_ | refine gp (p_assign rfl) ?_ | (refine gGB ?_; refine gp (p_gtr rfl rfl) ?_) | refine gp (p_field rfl (by simp only [Nat.reduceAdd]; rfl)) ?_ | refine gp (p_pick0 rfl (by (simp; omega)) rfl) ?_) | (refine gGV ?_; refine gv (p_load rfl) ?_) | (refine gL ?_; first | refine s_gp rfl rfl ?_ | refine s_gv HM rfl ?_ | (refine s_box HM rfl rfl ?_; intro g W1 HM1; clear HM; have HM := HM1; clear HM1) | refine l_nil ?_ | refine s_guard_off rfl rfl rfl rfl (by (simp; omega)) rfl rfl ?_) | (refine gC ?_; first | refine c_seq ?_ | refine c_region ?_ | refine c_ret ?_) | (refine gN ?_; refine n_then ?_))
    exact ret_tmp rfl rfl ⟨by simp [c1], HM.sb⟩
theorem indexSlot {zs : List Slot} (g7 : Nat) (w : ByteArray) [hB : RoBAt L g7 w0 9 [.string w]] (hr : RoRow (rSlot false) w0 A zs) (hn : zs.length ≤ 1048576) (HM : Mem w0 W L) : Calls Tryz.prog 122 #[.slice A zs.length c, .func (.func 97) #[] #[.pointer (some ⟨g7, 0, none⟩)]] W fun e W' => ∃ r : Int, e = .returned (.int .i64 r) ∧ decide (0 ≤ r) = hasB zs w ∧ Mem w0 W' L := by
  refine enter Tryz.func122 rfl Tryz.ntmps122 [(0, _), (1, _)] rfl ⟨rfl, rfl, trivial⟩ ?_
  repeat (first | (refine gGP ?_; first | refine gp (p_move rfl) ?_ | refine gp (p_assign rfl) ?_ | refine gp (p_len rfl) ?_) | (refine gL ?_; first | refine s_gp rfl rfl ?_ | refine l_nil ?_) | (refine gC ?_; first | refine c_seq ?_ | refine c_region ?_ | refine c_block ?_) | (refine gN ?_; refine n_then ?_))
  refine c_loop (σ := Nat) (fun k => [(0, .slice A zs.length c), (1, .func (.func 97) #[] #[.pointer (some ⟨g7, 0, none⟩)]), (7, .int .i64 zs.length), (8, .int .i64 k)]) (fun k W1 => k ≤ zs.length ∧ (zs.take k).any (fun s => decide (0 < s.ballot) && decide (s.text = w)) = false ∧ Mem w0 W1 L) (fun k => zs.length - k) 0 (by repeat (first | exact trivial | refine And.intro (by first | rfl | exact look_int rfl (by omega)) ?_)) ⟨Nat.zero_le _, by simp, HM⟩ ?_
  clear HM
  rintro k W1 ⟨hk, hp, HM⟩
  by_cases hlt : k < zs.length
  · replace HM := HM.rod hr
    have e0 := rdR_at (D := rSlot false) hlt
    by_cases c1 : (decide (0 < (rdR (rSlot false) zs k).ballot) && decide ((rdR (rSlot false) zs k).text = w)) = true
    · have hh : hasB zs w = true := any_hit hlt (by rw [← e0]; exact c1)
      repeat (first | (refine gL ?_; refine gCall ?_; refine s_callv (f := 97) (first := []) (captured := [.pointer (some ⟨g7, 0, none⟩)]) rfl rfl rfl ?_; refine (tick1Fn (rdR (rSlot false) zs k) g7 w HM).mono ?_; rintro e W1 ⟨rfl, HM1⟩; refine ⟨_, rfl, ?_⟩; clear HM; have HM := HM1; clear HM1) | (refine gGP ?_; first | refine gp (p_move rfl) ?_ | refine gp (p_assign rfl) ?_ | (refine gGB ?_; refine gp (p_lss rfl rfl) ?_) | refine gp (p_indexr HM rfl (by first | with_reducible rfl | omega) rfl (by omega) (by omega)) ?_) | (refine gGV ?_; refine gv (p_loadwf rfl rfl rfl (by omega) (by omega)) ?_) | (refine gL ?_; first | refine s_gp rfl rfl ?_ | refine s_gv HM rfl ?_ | refine l_nil ?_) | (refine gC ?_; first | refine c_seq ?_ | refine c_region ?_ | refine c_block ?_ | refine c_skip ?_ | refine c_ret ?_ | refine c_yes rfl (by first | assumption | (simp; omega)) ?_) | (refine gN ?_; first | refine n_then ?_ | refine r_then ?_ | refine r_block ?_))
      exact ret_tmp rfl rfl ⟨k, rfl, by rw [hh]; simp, HM.drop⟩
    · simp only [Bool.not_eq_true] at c1
      have hp2 := any_succ hlt hp (by rw [← e0]; exact c1)
      repeat (first | (refine gL ?_; refine gCall ?_; refine s_callv (f := 97) (first := []) (captured := [.pointer (some ⟨g7, 0, none⟩)]) rfl rfl rfl ?_; refine (tick1Fn (rdR (rSlot false) zs k) g7 w HM).mono ?_; rintro e W1 ⟨rfl, HM1⟩; refine ⟨_, rfl, ?_⟩; clear HM; have HM := HM1; clear HM1) | (refine gGP ?_; first | refine gp (p_move rfl) ?_ | refine gp (p_assign rfl) ?_ | (refine gGB ?_; first | refine gp (p_lss rfl rfl) ?_ | refine gp (p_add rfl rfl (by exact wr (by omega) (by omega))) ?_) | refine gp (p_indexr HM rfl (by first | with_reducible rfl | omega) rfl (by omega) (by omega)) ?_) | (refine gGV ?_; refine gv (p_loadwf rfl rfl rfl (by omega) (by omega)) ?_) | (refine gL ?_; first | refine s_gp rfl rfl ?_ | refine s_gv HM rfl ?_ | refine l_nil ?_) | (refine gC ?_; first | refine c_seq ?_ | refine c_region ?_ | refine c_block ?_ | refine c_skip ?_ | refine c_yes rfl (by (simp; omega)) ?_ | refine c_no rfl (by assumption) ?_) | (refine gN ?_; first | refine n_then ?_ | refine n_block ?_))
      exact n_round (k + 1) (by repeat (first | exact trivial | refine And.intro (by first | rfl | exact look_int rfl (by omega)) ?_)) ⟨by omega, hp2, HM.drop⟩ (by omega)
  · obtain rfl : k = zs.length := by omega
    rw [List.take_length] at hp
    have hh : hasB zs w = false := hp
    repeat (first | (refine gGP ?_; first | refine gp (p_assign rfl) ?_ | (refine gGB ?_; refine gp (p_lss rfl rfl) ?_)) | (refine gL ?_; first | refine s_gp rfl rfl ?_ | refine l_nil ?_) | (refine gC ?_; first | refine c_seq ?_ | refine c_region ?_ | refine c_exit ?_ | refine c_ret ?_ | refine c_no rfl (by first | (simp; done) | fail) ?_) | (refine gN ?_; first | refine n_then ?_ | refine x_then ?_ | refine x_here ?_))
    exact ret_tmp rfl rfl ⟨-1, rfl, by rw [hh]; rfl, HM⟩
theorem containsSlot {zs : List Slot} (g7 : Nat) (w : ByteArray) [hB : RoBAt L g7 w0 9 [.string w]] (hr : RoRow (rSlot false) w0 A zs) (hn : zs.length ≤ 1048576) (HM : Mem w0 W L) : Calls Tryz.prog 96 #[.slice A zs.length c, .func (.func 97) #[] #[.pointer (some ⟨g7, 0, none⟩)]] W fun e W' => e = .returned (.bool (hasB zs w)) ∧ Mem w0 W' L := by
  refine enter Tryz.func96 rfl Tryz.ntmps96 [(0, _), (1, _)] rfl ⟨rfl, rfl, trivial⟩ ?_
  repeat (first | (refine gGP ?_; first | refine gp (p_move rfl) ?_ | refine gp (p_assign rfl) ?_ | (refine gGB ?_; refine gp (p_geq rfl rfl) ?_)) | (refine gL ?_; first | refine s_gp rfl rfl ?_ | (refine gCall ?_; (refine s_fn rfl rfl ?_; (go_at_call 122; refine (indexSlot g7 w hr hn HM).mono ?_; rintro e W1 ⟨r, rfl, hr2, HM1⟩; refine ⟨_, rfl, ?_⟩; clear HM; have HM := HM1; clear HM1))) | refine l_nil ?_) | (refine gC ?_; first | refine c_seq ?_ | refine c_region ?_ | refine c_ret ?_) | (refine gN ?_; refine n_then ?_))
  exact ret_tmp rfl rfl ⟨by rw [hr2], HM⟩
end Go.Proofs.YtkfogbonjpdkbaaGreat.Sp
namespace Go.Proofs.YtkfogbonjpdkbaaGreat.Sp
open Go Go.RowKit
set_option linter.unusedVariables false
set_option linter.unusedSimpArgs false
set_option maxRecDepth 10000
set_option maxHeartbeats 2000000
variable {w0 W : World} {L : List Asn}
theorem tickFn2 (x : Rcd) (i : AtRcd) (gr : Nat) (to : Int) {g3 g1 : Nat} {A : Option Addr} {c : Nat} {o : List Msg} (hl : o.length ≤ 100000) (HM : Mem w0 W (own (tMsg 105) 52 A c o :: box g3 35 [.slice A o.length c] :: box g1 113 [.pointer (some ⟨gr, 0, none⟩)] :: (boxR 105 52 9 3 104 38 gr x i ++ L))) : Calls Tryz.prog 99 #[.int .i64 to, .pointer (some ⟨g3, 0, none⟩), .pointer (some ⟨g1, 0, none⟩)] W fun e W' => ∃ A' c', e = .returned (.tuple #[]) ∧ Mem w0 W' (own (tMsg 105) 52 A' c' (o ++ [(⟨5, x.number, to, x.ballot, 0, x.dk, ⟨#[]⟩, []⟩ : Msg)]) :: box g3 35 [.slice A' (o ++ [(⟨5, x.number, to, x.ballot, 0, x.dk, ⟨#[]⟩, []⟩ : Msg)]).length c'] :: box g1 113 [.pointer (some ⟨gr, 0, none⟩)] :: (boxR 105 52 9 3 104 38 gr x i ++ L)) := by
  refine enter Tryz.func99 rfl Tryz.ntmps99 [(0, _), (1, _), (2, _)] rfl ⟨rfl, rfl, rfl, trivial⟩ ?_
  simp only [boxR, partRcd, List.cons_append, List.nil_append] at HM
  repeat (first | (refine gR ?_; refine d_start [17, 18] [(0, 5), (1, 0), (1, 1), (0, 2), (0, 3), (1, 4), (1, 6), (0, 7), (0, 8), (1, 9), (1, 10), (0, 11), (0, 12), (0, 13), (1, 14), (2, 15), (2, 16), (3, 17), (3, 18)] HM (by kernel_rfl) (by kernel_rfl) (by repeat (first | exact qp_body | refine qp_then ?_ | refine qp_block ?_)) (by kernel_rfl) rfl ?_; intro HQ HS W1 HM1; clear HM; have HM := HM1; clear HM1) | (refine gGP ?_; first | refine gp (p_move rfl) ?_ | refine gp (p_field rfl (by simp only [Nat.reduceAdd]; rfl)) ?_ | refine gp (p_build rfl) ?_ | refine gp (p_nil rfl) ?_) | (refine gGV ?_; refine gv (p_load rfl) ?_) | (refine gL ?_; first | refine s_gp rfl rfl ?_ | (refine gStore ?_; (refine s_store HM rfl rfl rfl rfl ?_; intro W1 HM1; clear HM; have HM := HM1; clear HM1)) | (refine gCall ?_; (refine s_append1 HM rfl rfl (by first | with_reducible rfl | omega) rfl rfl (by omega) rfl ?_; intro A1 c1 W1 HM1; clear HM; have HM := HM1; clear HM1)) | (refine s_lit1 HM rfl rfl rfl ?_; intro g W1 HM1; clear HM; have HM := HM1; clear HM1) | refine l_nil ?_) | (refine gN ?_; first | refine d_back (by first | exact HM | exact HM.drop) ?_ | refine d_backT ?_) | (refine gD ?_; refine d_next rfl ?_) | (refine gO ?_; first | refine d_gp HQ HS rfl ?_ | refine d_gv HQ HS rfl ?_ | refine d_one ?_ | refine d_last ?_) | (refine gT ?_; first | refine d_nextT rfl ?_ | refine d_doneT ?_))
  exact end_none rfl ⟨A1, c1, rfl, by simp only [boxR, partRcd, List.cons_append, List.nil_append]; exact HM.sb⟩
theorem others2M (x : Rcd) (i : AtRcd) (gr : Nat) {g3 g1 : Nat} {A : Option Addr} {c : Nat} {o : List Msg} (hof : 0 ≤ x.of ∧ x.of ≤ 5) (hl : o.length ≤ 90000) (HM : Mem w0 W (own (tMsg 105) 52 A c o :: box g3 35 [.slice A o.length c] :: box g1 113 [.pointer (some ⟨gr, 0, none⟩)] :: (boxR 105 52 9 3 104 38 gr x i ++ L))) : Calls Tryz.prog 98 #[.pointer (some ⟨gr, 0, none⟩), .func (.func 99) #[] #[.pointer (some ⟨g3, 0, none⟩), .pointer (some ⟨g1, 0, none⟩)]] W fun e W' => ∃ A' c', e = .returned (.tuple #[]) ∧ Mem w0 W' (own (tMsg 105) 52 A' c' (othL x o ⟨5, 0, 0, x.ballot, 0, x.dk, ⟨#[]⟩, []⟩) :: box g3 35 [.slice A' (othL x o ⟨5, 0, 0, x.ballot, 0, x.dk, ⟨#[]⟩, []⟩).length c'] :: box g1 113 [.pointer (some ⟨gr, 0, none⟩)] :: (boxR 105 52 9 3 104 38 gr x i ++ L)) := by
  refine enter Tryz.func98 rfl Tryz.ntmps98 [(0, _), (1, _)] rfl ⟨rfl, rfl, trivial⟩ ?_
  simp only [boxR, partRcd, List.cons_append, List.nil_append] at HM
  repeat (first | (refine gGP ?_; refine gp (p_assign rfl) ?_) | (refine gL ?_; first | refine s_gp rfl rfl ?_ | refine l_nil ?_) | (refine gC ?_; first | refine c_seq ?_ | refine c_region ?_ | refine c_block ?_) | (refine gN ?_; refine n_then ?_))
  generalize htg : othL x o ⟨5, 0, 0, x.ballot, 0, x.dk, ⟨#[]⟩, []⟩ = tg
  unfold othL at htg
  refine c_loop2 (σ := Nat × List Msg) (fun s A c => [(0, .pointer (some ⟨gr, 0, none⟩)), (1, .func (.func 99) #[] #[.pointer (some ⟨g3, 0, none⟩), .pointer (some ⟨g1, 0, none⟩)]), (4, .int .i64 ((s.1 : Int) + 1))]) (fun s A c W1 => (s.1 : Int) ≤ x.of ∧ othersL x.number ⟨5, 0, 0, x.ballot, 0, x.dk, ⟨#[]⟩, []⟩ (x.of.toNat - s.1) ((s.1 : Int) + 1) s.2 = tg ∧ s.2.length ≤ 90000 + s.1 ∧ Mem w0 W1 (own (tMsg 105) 52 A c s.2 :: box g3 35 [.slice A s.2.length c] :: box g1 113 [.pointer (some ⟨gr, 0, none⟩)] :: (boxR 105 52 9 3 104 38 gr x i ++ L))) (fun s => x.of.toNat - s.1) (0, o) A c (by simp only [Int.natCast_zero, Int.zero_add]; exact (by repeat (first | exact trivial | refine And.intro (by first | rfl | exact look_int rfl (by omega)) ?_))) ⟨by omega, htg, by dsimp only; omega, by simp only [boxR, partRcd, List.cons_append, List.nil_append]; exact HM.sb⟩ ?_
  clear HM
  rintro ⟨k, z⟩ A c W1 ⟨hk, hz, hzl, HM⟩
  dsimp only at hk hz hzl HM ⊢
  have HM0 := HM
  simp only [boxR, partRcd, List.cons_append, List.nil_append] at HM
  by_cases hlt : (k : Int) + 1 ≤ x.of
  · have hst := hz
    rw [show x.of.toNat - k = (x.of.toNat - (k + 1)) + 1 by omega, othersL] at hst
    by_cases c1 : (k : Int) + 1 = x.number
    · rw [if_pos c1] at hst
      clear HM0
      repeat (first | (refine gGP ?_; first | refine gp (p_move rfl) ?_ | refine gp (p_assign rfl) ?_ | (refine gGB ?_; first | refine gp (p_neq rfl rfl) ?_ | refine gp (p_leq rfl rfl) ?_ | refine gp (p_add rfl rfl (by exact wr (by omega) (by omega))) ?_) | refine gp (p_field rfl (by simp only [Nat.reduceAdd]; rfl)) ?_) | (refine gGV ?_; refine gv (p_load rfl) ?_) | (refine gL ?_; first | refine s_gp rfl rfl ?_ | refine s_gv HM rfl ?_ | refine s_pv (p_nil rfl) rfl ?_ | refine l_nil ?_) | (refine gC ?_; first | refine c_seq ?_ | refine c_region ?_ | refine c_block ?_ | refine c_skip ?_ | refine c_yes rfl (by (simp; omega)) ?_ | refine c_no rfl (by (simp; omega)) ?_) | (refine gN ?_; first | refine n_then ?_ | refine n_block ?_))
      exact n_round2 (k + 1, z) A c (by simp only [Int.natCast_add, Int.natCast_one]; exact (by repeat (first | exact trivial | refine And.intro (by first | rfl | exact look_int rfl (by omega)) ?_))) ⟨by dsimp only; omega, by simpa only [Int.natCast_add, Int.natCast_one] using hst, by dsimp only; omega, by simp only [boxR, partRcd, List.cons_append, List.nil_append]; exact HM.sb⟩ (by dsimp only; omega)
    · rw [if_neg c1] at hst
      have hzl2 : ∀ m : Msg, (z ++ [m]).length = z.length + 1 := fun m => by simp
      clear HM0
      repeat (first | (refine gL ?_; refine gCall ?_; refine s_callv (f := 99) (first := []) (captured := [.pointer (some ⟨g3, 0, none⟩), .pointer (some ⟨g1, 0, none⟩)]) rfl rfl rfl ?_; refine (tickFn2 (L := L) x i gr  ((k : Int) + 1) (o := z) (A := A) (c := c) (by omega) (by simp only [boxR, partRcd, List.cons_append, List.nil_append]; exact HM.sb)).mono ?_; rintro e W1 ⟨A1, c1, rfl, HM1⟩; refine ⟨_, rfl, ?_⟩; clear HM; have HM := HM1; clear HM1) | (refine gGP ?_; first | refine gp (p_move rfl) ?_ | refine gp (p_assign rfl) ?_ | (refine gGB ?_; first | refine gp (p_neq rfl rfl) ?_ | refine gp (p_leq rfl rfl) ?_ | refine gp (p_add rfl rfl (by exact wr (by omega) (by omega))) ?_) | refine gp (p_field rfl (by simp only [Nat.reduceAdd]; rfl)) ?_) | (refine gGV ?_; refine gv (p_load rfl) ?_) | (refine gL ?_; first | refine s_gp rfl rfl ?_ | refine s_gv HM rfl ?_ | refine s_pv (p_nil rfl) rfl ?_ | refine l_nil ?_) | (refine gC ?_; first | refine c_seq ?_ | refine c_region ?_ | refine c_block ?_ | refine c_skip ?_ | refine c_yes rfl (by (simp; omega)) ?_) | (refine gN ?_; first | refine n_then ?_ | refine n_block ?_))
      exact n_round2 (k + 1, z ++ [_]) A1 c1 (by simp only [Int.natCast_add, Int.natCast_one]; exact (by repeat (first | exact trivial | refine And.intro (by first | rfl | exact look_int rfl (by omega)) ?_))) ⟨by dsimp only; omega, by simpa only [Int.natCast_add, Int.natCast_one] using hst, by dsimp only; rw [hzl2]; omega, HM⟩ (by dsimp only; omega)
  · rw [show x.of.toNat - k = 0 by omega, othersL] at hz
    subst hz
    repeat (first | (refine gGP ?_; first | refine gp (p_move rfl) ?_ | (refine gGB ?_; refine gp (p_leq rfl rfl) ?_) | refine gp (p_field rfl (by simp only [Nat.reduceAdd]; rfl)) ?_) | (refine gGV ?_; refine gv (p_load rfl) ?_) | (refine gL ?_; first | refine s_gp rfl rfl ?_ | refine s_gv HM rfl ?_ | refine s_pv (p_nil rfl) rfl ?_ | refine l_nil ?_) | (refine gC ?_; first | refine c_seq ?_ | refine c_region ?_ | refine c_exit ?_ | refine c_no rfl (by (simp; omega)) ?_) | (refine gN ?_; first | refine n_then ?_ | refine x_then ?_ | refine x_here ?_))
    exact end_none rfl ⟨A, c, rfl, HM0⟩
theorem tickFn3 (x : Rcd) (i : AtRcd) (gr : Nat) {g8 : Nat} (q : Nat) (hq : q < x.ds.length) (hql : x.ds.length ≤ 60) (to : Int) {g3 g1 : Nat} {A : Option Addr} {c : Nat} {o : List Msg} (hl : o.length ≤ 100000) (HM : Mem w0 W (own (tMsg 105) 52 A c o :: box g3 35 [.slice A o.length c] :: box g1 113 [.pointer (some ⟨gr, 0, none⟩)] :: box g8 3 [.int .i64 q] :: (boxR 105 52 9 3 104 38 gr x i ++ L))) : Calls Tryz.prog 100 #[.int .i64 to, .pointer (some ⟨g3, 0, none⟩), .pointer (some ⟨g1, 0, none⟩), .pointer (some ⟨g8, 0, none⟩)] W fun e W' => ∃ A' c', e = .returned (.tuple #[]) ∧ Mem w0 W' (own (tMsg 105) 52 A' c' (o ++ [(⟨3, x.number, to, x.ballot, (q : Int) + 1, 0, (rd tSlot x.ds q).text, []⟩ : Msg)]) :: box g3 35 [.slice A' (o ++ [(⟨3, x.number, to, x.ballot, (q : Int) + 1, 0, (rd tSlot x.ds q).text, []⟩ : Msg)]).length c'] :: box g1 113 [.pointer (some ⟨gr, 0, none⟩)] :: box g8 3 [.int .i64 q] :: (boxR 105 52 9 3 104 38 gr x i ++ L)) := by
  refine enter Tryz.func100 rfl Tryz.ntmps100 [(0, _), (1, _), (2, _), (3, _)] rfl ⟨rfl, rfl, rfl, rfl, trivial⟩ ?_
  simp only [boxR, partRcd, List.cons_append, List.nil_append] at HM
  repeat (first | (refine gR ?_; refine d_start [23, 24] [(0, 5), (1, 0), (1, 1), (0, 2), (0, 3), (1, 4), (1, 6), (0, 7), (0, 8), (1, 9), (1, 10), (0, 11), (1, 12), (0, 13), (0, 14), (0, 15), (1, 16), (1, 17), (0, 18), (0, 19), (1, 20), (2, 21), (2, 22), (3, 23), (3, 24)] HM (by kernel_rfl) (by kernel_rfl) (by repeat (first | exact qp_body | refine qp_then ?_ | refine qp_block ?_)) (by kernel_rfl) rfl ?_; intro HQ HS W1 HM1; clear HM; have HM := HM1; clear HM1) | (refine gGP ?_; first | refine gp (p_move rfl) ?_ | (refine gGB ?_; refine gp (p_add rfl rfl (by exact wr (by omega) (by omega))) ?_) | refine gp (p_field rfl (by simp only [Nat.reduceAdd]; rfl)) ?_ | refine gp (p_fieldo rfl (by simp only [Nat.reduceAdd]; rfl)) ?_ | refine gp (p_indexo HM rfl (by first | with_reducible rfl | omega) rfl (by omega) (by omega)) ?_ | refine gp (p_build rfl) ?_ | refine gp (p_nil rfl) ?_) | (refine gGV ?_; first | refine gv (p_load rfl) ?_ | refine gv (p_loado rfl rfl (by omega) (by omega) rfl) ?_) | (refine gL ?_; first | refine s_gp rfl rfl ?_ | (refine gStore ?_; (refine s_store HM rfl rfl rfl rfl ?_; intro W1 HM1; clear HM; have HM := HM1; clear HM1)) | (refine gCall ?_; (refine s_append1 HM rfl rfl (by first | with_reducible rfl | omega) rfl rfl (by omega) rfl ?_; intro A1 c1 W1 HM1; clear HM; have HM := HM1; clear HM1)) | (refine s_lit1 HM rfl rfl rfl ?_; intro g W1 HM1; clear HM; have HM := HM1; clear HM1) | refine l_nil ?_) | (refine gN ?_; first | refine d_back (by first | exact HM | exact HM.drop) ?_ | refine d_backT ?_) | (refine gD ?_; refine d_next rfl ?_) | (refine gO ?_; first | refine d_gp HQ HS rfl ?_ | refine d_gv HQ HS rfl ?_ | refine d_one ?_ | refine d_last ?_) | (refine gT ?_; first | refine d_nextT rfl ?_ | refine d_doneT ?_))
  exact end_none rfl ⟨A1, c1, rfl, by simp only [boxR, partRcd, List.cons_append, List.nil_append]; exact HM.sb⟩
theorem others3M (x : Rcd) (i : AtRcd) (gr : Nat) {g8 : Nat} (q : Nat) (hq : q < x.ds.length) (hql : x.ds.length ≤ 60) {g3 g1 : Nat} {A : Option Addr} {c : Nat} {o : List Msg} (hof : 0 ≤ x.of ∧ x.of ≤ 5) (hl : o.length ≤ 90000) (HM : Mem w0 W (own (tMsg 105) 52 A c o :: box g3 35 [.slice A o.length c] :: box g1 113 [.pointer (some ⟨gr, 0, none⟩)] :: box g8 3 [.int .i64 q] :: (boxR 105 52 9 3 104 38 gr x i ++ L))) : Calls Tryz.prog 98 #[.pointer (some ⟨gr, 0, none⟩), .func (.func 100) #[] #[.pointer (some ⟨g3, 0, none⟩), .pointer (some ⟨g1, 0, none⟩), .pointer (some ⟨g8, 0, none⟩)]] W fun e W' => ∃ A' c', e = .returned (.tuple #[]) ∧ Mem w0 W' (own (tMsg 105) 52 A' c' (othL x o ⟨3, 0, 0, x.ballot, (q : Int) + 1, 0, (rd tSlot x.ds q).text, []⟩) :: box g3 35 [.slice A' (othL x o ⟨3, 0, 0, x.ballot, (q : Int) + 1, 0, (rd tSlot x.ds q).text, []⟩).length c'] :: box g1 113 [.pointer (some ⟨gr, 0, none⟩)] :: box g8 3 [.int .i64 q] :: (boxR 105 52 9 3 104 38 gr x i ++ L)) := by
  refine enter Tryz.func98 rfl Tryz.ntmps98 [(0, _), (1, _)] rfl ⟨rfl, rfl, trivial⟩ ?_
  simp only [boxR, partRcd, List.cons_append, List.nil_append] at HM
  repeat (first | (refine gGP ?_; refine gp (p_assign rfl) ?_) | (refine gL ?_; first | refine s_gp rfl rfl ?_ | refine l_nil ?_) | (refine gC ?_; first | refine c_seq ?_ | refine c_region ?_ | refine c_block ?_) | (refine gN ?_; refine n_then ?_))
  generalize htg : othL x o ⟨3, 0, 0, x.ballot, (q : Int) + 1, 0, (rd tSlot x.ds q).text, []⟩ = tg
  unfold othL at htg
  refine c_loop2 (σ := Nat × List Msg) (fun s A c => [(0, .pointer (some ⟨gr, 0, none⟩)), (1, .func (.func 100) #[] #[.pointer (some ⟨g3, 0, none⟩), .pointer (some ⟨g1, 0, none⟩), .pointer (some ⟨g8, 0, none⟩)]), (4, .int .i64 ((s.1 : Int) + 1))]) (fun s A c W1 => (s.1 : Int) ≤ x.of ∧ othersL x.number ⟨3, 0, 0, x.ballot, (q : Int) + 1, 0, (rd tSlot x.ds q).text, []⟩ (x.of.toNat - s.1) ((s.1 : Int) + 1) s.2 = tg ∧ s.2.length ≤ 90000 + s.1 ∧ Mem w0 W1 (own (tMsg 105) 52 A c s.2 :: box g3 35 [.slice A s.2.length c] :: box g1 113 [.pointer (some ⟨gr, 0, none⟩)] :: box g8 3 [.int .i64 q] :: (boxR 105 52 9 3 104 38 gr x i ++ L))) (fun s => x.of.toNat - s.1) (0, o) A c (by simp only [Int.natCast_zero, Int.zero_add]; exact (by repeat (first | exact trivial | refine And.intro (by first | rfl | exact look_int rfl (by omega)) ?_))) ⟨by omega, htg, by dsimp only; omega, by simp only [boxR, partRcd, List.cons_append, List.nil_append]; exact HM.sb⟩ ?_
  clear HM
  rintro ⟨k, z⟩ A c W1 ⟨hk, hz, hzl, HM⟩
  dsimp only at hk hz hzl HM ⊢
  have HM0 := HM
  simp only [boxR, partRcd, List.cons_append, List.nil_append] at HM
  by_cases hlt : (k : Int) + 1 ≤ x.of
  · have hst := hz
    rw [show x.of.toNat - k = (x.of.toNat - (k + 1)) + 1 by omega, othersL] at hst
    by_cases c1 : (k : Int) + 1 = x.number
    · rw [if_pos c1] at hst
      clear HM0
      repeat (first | (refine gGP ?_; first | refine gp (p_move rfl) ?_ | refine gp (p_assign rfl) ?_ | (refine gGB ?_; first | refine gp (p_neq rfl rfl) ?_ | refine gp (p_leq rfl rfl) ?_ | refine gp (p_add rfl rfl (by exact wr (by omega) (by omega))) ?_) | refine gp (p_field rfl (by simp only [Nat.reduceAdd]; rfl)) ?_) | (refine gGV ?_; refine gv (p_load rfl) ?_) | (refine gL ?_; first | refine s_gp rfl rfl ?_ | refine s_gv HM rfl ?_ | refine s_pv (p_nil rfl) rfl ?_ | refine l_nil ?_) | (refine gC ?_; first | refine c_seq ?_ | refine c_region ?_ | refine c_block ?_ | refine c_skip ?_ | refine c_yes rfl (by (simp; omega)) ?_ | refine c_no rfl (by (simp; omega)) ?_) | (refine gN ?_; first | refine n_then ?_ | refine n_block ?_))
      exact n_round2 (k + 1, z) A c (by simp only [Int.natCast_add, Int.natCast_one]; exact (by repeat (first | exact trivial | refine And.intro (by first | rfl | exact look_int rfl (by omega)) ?_))) ⟨by dsimp only; omega, by simpa only [Int.natCast_add, Int.natCast_one] using hst, by dsimp only; omega, by simp only [boxR, partRcd, List.cons_append, List.nil_append]; exact HM.sb⟩ (by dsimp only; omega)
    · rw [if_neg c1] at hst
      have hzl2 : ∀ m : Msg, (z ++ [m]).length = z.length + 1 := fun m => by simp
      clear HM0
      repeat (first | (refine gL ?_; refine gCall ?_; refine s_callv (f := 100) (first := []) (captured := [.pointer (some ⟨g3, 0, none⟩), .pointer (some ⟨g1, 0, none⟩), .pointer (some ⟨g8, 0, none⟩)]) rfl rfl rfl ?_; refine (tickFn3 (L := L) x i gr q hq hql ((k : Int) + 1) (o := z) (A := A) (c := c) (by omega) (by simp only [boxR, partRcd, List.cons_append, List.nil_append]; exact HM.sb)).mono ?_; rintro e W1 ⟨A1, c1, rfl, HM1⟩; refine ⟨_, rfl, ?_⟩; clear HM; have HM := HM1; clear HM1) | (refine gGP ?_; first | refine gp (p_move rfl) ?_ | refine gp (p_assign rfl) ?_ | (refine gGB ?_; first | refine gp (p_neq rfl rfl) ?_ | refine gp (p_leq rfl rfl) ?_ | refine gp (p_add rfl rfl (by exact wr (by omega) (by omega))) ?_) | refine gp (p_field rfl (by simp only [Nat.reduceAdd]; rfl)) ?_) | (refine gGV ?_; refine gv (p_load rfl) ?_) | (refine gL ?_; first | refine s_gp rfl rfl ?_ | refine s_gv HM rfl ?_ | refine s_pv (p_nil rfl) rfl ?_ | refine l_nil ?_) | (refine gC ?_; first | refine c_seq ?_ | refine c_region ?_ | refine c_block ?_ | refine c_skip ?_ | refine c_yes rfl (by (simp; omega)) ?_) | (refine gN ?_; first | refine n_then ?_ | refine n_block ?_))
      exact n_round2 (k + 1, z ++ [_]) A1 c1 (by simp only [Int.natCast_add, Int.natCast_one]; exact (by repeat (first | exact trivial | refine And.intro (by first | rfl | exact look_int rfl (by omega)) ?_))) ⟨by dsimp only; omega, by simpa only [Int.natCast_add, Int.natCast_one] using hst, by dsimp only; rw [hzl2]; omega, HM⟩ (by dsimp only; omega)
  · rw [show x.of.toNat - k = 0 by omega, othersL] at hz
    subst hz
    repeat (first | (refine gGP ?_; first | refine gp (p_move rfl) ?_ | (refine gGB ?_; refine gp (p_leq rfl rfl) ?_) | refine gp (p_field rfl (by simp only [Nat.reduceAdd]; rfl)) ?_) | (refine gGV ?_; refine gv (p_load rfl) ?_) | (refine gL ?_; first | refine s_gp rfl rfl ?_ | refine s_gv HM rfl ?_ | refine s_pv (p_nil rfl) rfl ?_ | refine l_nil ?_) | (refine gC ?_; first | refine c_seq ?_ | refine c_region ?_ | refine c_exit ?_ | refine c_no rfl (by (simp; omega)) ?_) | (refine gN ?_; first | refine n_then ?_ | refine x_then ?_ | refine x_here ?_))
    exact end_none rfl ⟨A, c, rfl, HM0⟩
/-- The holds one by one. -/
def holdNums (num : Int) (m : Msg) : Nat → Int → Rcd → Rcd
  | 0, _, y => y
  | n + 1, i, y => holdNums num m n (i + 1) (if i = num then y else holdL y { m with to := i })
theorem holdL_frm (y : Rcd) (m : Msg) (f : Int) : holdL y { m with frm := f } = holdL y m := rfl
theorem holdAll_app : ∀ (l : List Msg) (m : Msg) (y : Rcd), holdAll (l ++ [m]) y = holdL (holdAll l y) m
  | [], _, _ => rfl
  | q :: r, m, y => by rw [List.cons_append, holdAll, holdAll_app r m, holdAll]
theorem holdAll_oth (num : Int) (m : Msg) (y : Rcd) : ∀ (n : Nat) (i : Int) (o : List Msg), holdAll (othersL num m n i o) y = holdNums num m n i (holdAll o y)
  | 0, _, o => rfl
  | n + 1, i, o => by
    rw [othersL, holdNums, holdAll_oth num m y n (i + 1)]
    split
    · rfl
    · rw [holdAll_app]; rfl
theorem tickFn4 (y : Rcd) (j : AtRcd) (gr : Nat) (to b : Int) {g1 g9 : Nat} (HM : Mem w0 W (box g1 113 [.pointer (some ⟨gr, 0, none⟩)] :: box g9 3 [.int .i64 b] :: (boxR 105 52 9 3 104 38 gr y j ++ L))) : Calls Tryz.prog 103 #[.int .i64 to, .pointer (some ⟨g1, 0, none⟩), .pointer (some ⟨g9, 0, none⟩)] W fun e W' => ∃ j', e = .returned (.tuple #[]) ∧ Mem w0 W' (box g1 113 [.pointer (some ⟨gr, 0, none⟩)] :: box g9 3 [.int .i64 b] :: (boxR 105 52 9 3 104 38 gr (holdL y ⟨1, 0, to, b, 0, 0, ⟨#[]⟩, []⟩) j' ++ L)) := by
  refine enter Tryz.func103 rfl Tryz.ntmps103 [(0, _), (1, _), (2, _)] rfl ⟨rfl, rfl, rfl, trivial⟩ ?_
  simp only [boxR, partRcd, List.cons_append, List.nil_append] at HM
  repeat (first | (refine gGP ?_; first | refine gp (p_move rfl) ?_ | refine gp (p_build rfl) ?_) | (refine gGV ?_; refine gv (p_load rfl) ?_) | (refine gL ?_; first | refine s_gp rfl rfl ?_ | refine s_gv HM rfl ?_ | (refine gCall ?_; (refine s_fn rfl rfl ?_; (go_at_call 104; have HM2 := HM.nil tSlot 105; refine (holdM y j _ ⟨1, 0, to, b, 0, 0, ⟨#[]⟩, []⟩ (none, 0) (by exact pk_hold HM2)).mono ?_; clear HM2; rintro e W1 ⟨j2, rfl, HM1⟩; refine ⟨_, rfl, ?_⟩; clear HM; have HM := HM1; clear HM1; simp only [boxR, partRcd, List.cons_append, List.nil_append] at HM))) | refine l_nil ?_) | (refine gC ?_; refine c_region ?_))
  exact end_none rfl ⟨j2, rfl, by simp only [boxR, partRcd, List.cons_append, List.nil_append]; exact HM.sb⟩
theorem others4M (x : Rcd) (i : AtRcd) (gr : Nat) (b : Int) {g1 g9 : Nat} (hof : 0 ≤ x.of ∧ x.of ≤ 5) (HM : Mem w0 W (box g1 113 [.pointer (some ⟨gr, 0, none⟩)] :: box g9 3 [.int .i64 b] :: (boxR 105 52 9 3 104 38 gr x i ++ L))) : Calls Tryz.prog 98 #[.pointer (some ⟨gr, 0, none⟩), .func (.func 103) #[] #[.pointer (some ⟨g1, 0, none⟩), .pointer (some ⟨g9, 0, none⟩)]] W fun e W' => ∃ j, e = .returned (.tuple #[]) ∧ Mem w0 W' (box g1 113 [.pointer (some ⟨gr, 0, none⟩)] :: box g9 3 [.int .i64 b] :: (boxR 105 52 9 3 104 38 gr (holdAll (othL x [] ⟨1, 0, 0, b, 0, 0, ⟨#[]⟩, []⟩) x) j ++ L)) := by
  refine enter Tryz.func98 rfl Tryz.ntmps98 [(0, _), (1, _)] rfl ⟨rfl, rfl, trivial⟩ ?_
  have e : holdAll (othL x [] ⟨1, 0, 0, b, 0, 0, ⟨#[]⟩, []⟩) x = holdNums x.number ⟨1, 0, 0, b, 0, 0, ⟨#[]⟩, []⟩ x.of.toNat 1 x := holdAll_oth _ _ _ _ _ _
  rw [e]
  clear e
  have HM0 := HM
  simp only [boxR, partRcd, List.cons_append, List.nil_append] at HM
  repeat (first | (refine gGP ?_; refine gp (p_assign rfl) ?_) | (refine gL ?_; first | refine s_gp rfl rfl ?_ | refine l_nil ?_) | (refine gC ?_; first | refine c_seq ?_ | refine c_region ?_ | refine c_block ?_) | (refine gN ?_; refine n_then ?_))
  clear HM
  generalize htg : holdNums x.number ⟨1, 0, 0, b, 0, 0, ⟨#[]⟩, []⟩ x.of.toNat 1 x = tg
  refine c_loop (σ := Nat × Rcd) (fun s => [(0, .pointer (some ⟨gr, 0, none⟩)), (1, .func (.func 103) #[] #[.pointer (some ⟨g1, 0, none⟩), .pointer (some ⟨g9, 0, none⟩)]), (4, .int .i64 ((s.1 : Int) + 1))]) (fun s W1 => (s.1 : Int) ≤ x.of ∧ holdNums x.number ⟨1, 0, 0, b, 0, 0, ⟨#[]⟩, []⟩ (x.of.toNat - s.1) ((s.1 : Int) + 1) s.2 = tg ∧ s.2.number = x.number ∧ s.2.of = x.of ∧ ∃ j, Mem w0 W1 (box g1 113 [.pointer (some ⟨gr, 0, none⟩)] :: box g9 3 [.int .i64 b] :: (boxR 105 52 9 3 104 38 gr s.2 j ++ L))) (fun s => x.of.toNat - s.1) (0, x) (by simp only [Int.natCast_zero, Int.zero_add]; exact (by repeat (first | exact trivial | refine And.intro (by first | rfl | exact look_int rfl (by omega)) ?_))) ⟨by omega, htg, rfl, rfl, i, HM0⟩ ?_
  clear HM0
  rintro ⟨k, y⟩ W1 ⟨hk, hz, e1, e2, j, HM⟩
  dsimp only at hk hz e1 e2 HM ⊢
  have HM0 := HM
  simp only [boxR, partRcd, List.cons_append, List.nil_append] at HM
  rw [← e2] at hk hof
  by_cases hlt : (k : Int) + 1 ≤ y.of
  · have hst := hz
    rw [← e2, show y.of.toNat - k = (y.of.toNat - (k + 1)) + 1 by omega, holdNums] at hst
    by_cases c1 : (k : Int) + 1 = y.number
    · rw [if_pos (by rw [← e1]; exact c1), e2] at hst
      clear HM0
      repeat (first | (refine gGP ?_; first | refine gp (p_move rfl) ?_ | refine gp (p_assign rfl) ?_ | (refine gGB ?_; first | refine gp (p_neq rfl rfl) ?_ | refine gp (p_leq rfl rfl) ?_ | refine gp (p_add rfl rfl (by exact wr (by omega) (by omega))) ?_) | refine gp (p_field rfl (by simp only [Nat.reduceAdd]; rfl)) ?_) | (refine gGV ?_; refine gv (p_load rfl) ?_) | (refine gL ?_; first | refine s_gp rfl rfl ?_ | refine s_gv HM rfl ?_ | refine s_pv (p_nil rfl) rfl ?_ | refine l_nil ?_) | (refine gC ?_; first | refine c_seq ?_ | refine c_region ?_ | refine c_block ?_ | refine c_skip ?_ | refine c_yes rfl (by (simp; omega)) ?_ | refine c_no rfl (by (simp; omega)) ?_) | (refine gN ?_; first | refine n_then ?_ | refine n_block ?_))
      exact n_round (k + 1, y) (by simp only [Int.natCast_add, Int.natCast_one]; exact (by repeat (first | exact trivial | refine And.intro (by first | rfl | exact look_int rfl (by omega)) ?_))) ⟨by dsimp only; omega, by simpa only [Int.natCast_add, Int.natCast_one] using hst, e1, e2, j, by simp only [boxR, partRcd, List.cons_append, List.nil_append]; exact HM.sb⟩ (by dsimp only; omega)
    · rw [if_neg (by rw [← e1]; exact c1), e2] at hst
      have kp := kp_hold y ⟨1, 0, (k : Int) + 1, b, 0, 0, ⟨#[]⟩, []⟩
      clear HM0
      repeat (first | (refine gL ?_; refine gCall ?_; refine s_callv (f := 103) (first := []) (captured := [.pointer (some ⟨g1, 0, none⟩), .pointer (some ⟨g9, 0, none⟩)]) rfl rfl rfl ?_; refine (tickFn4 (L := L) y j gr ((k : Int) + 1) b (by simp only [boxR, partRcd, List.cons_append, List.nil_append]; exact HM.sb)).mono ?_; rintro e W1 ⟨j2, rfl, HM1⟩; refine ⟨_, rfl, ?_⟩; clear HM; have HM := HM1; clear HM1) | (refine gGP ?_; first | refine gp (p_move rfl) ?_ | refine gp (p_assign rfl) ?_ | (refine gGB ?_; first | refine gp (p_neq rfl rfl) ?_ | refine gp (p_leq rfl rfl) ?_ | refine gp (p_add rfl rfl (by exact wr (by omega) (by omega))) ?_) | refine gp (p_field rfl (by simp only [Nat.reduceAdd]; rfl)) ?_) | (refine gGV ?_; refine gv (p_load rfl) ?_) | (refine gL ?_; first | refine s_gp rfl rfl ?_ | refine s_gv HM rfl ?_ | refine s_pv (p_nil rfl) rfl ?_ | refine l_nil ?_) | (refine gC ?_; first | refine c_seq ?_ | refine c_region ?_ | refine c_block ?_ | refine c_skip ?_ | refine c_yes rfl (by (simp; omega)) ?_) | (refine gN ?_; first | refine n_then ?_ | refine n_block ?_))
      exact n_round (k + 1, holdL y ⟨1, 0, (k : Int) + 1, b, 0, 0, ⟨#[]⟩, []⟩) (by simp only [Int.natCast_add, Int.natCast_one]; exact (by repeat (first | exact trivial | refine And.intro (by first | rfl | exact look_int rfl (by omega)) ?_))) ⟨by dsimp only; omega, by simpa only [Int.natCast_add, Int.natCast_one] using hst, kp.number.trans e1, kp.of.trans e2, j2, HM⟩ (by dsimp only; omega)
  · rw [← e2, show y.of.toNat - k = 0 by omega, holdNums] at hz
    subst hz
    repeat (first | (refine gGP ?_; first | refine gp (p_move rfl) ?_ | (refine gGB ?_; refine gp (p_leq rfl rfl) ?_) | refine gp (p_field rfl (by simp only [Nat.reduceAdd]; rfl)) ?_) | (refine gGV ?_; refine gv (p_load rfl) ?_) | (refine gL ?_; first | refine s_gp rfl rfl ?_ | refine s_gv HM rfl ?_ | refine s_pv (p_nil rfl) rfl ?_ | refine l_nil ?_) | (refine gC ?_; first | refine c_seq ?_ | refine c_region ?_ | refine c_exit ?_ | refine c_no rfl (by (simp; omega)) ?_) | (refine gN ?_; first | refine n_then ?_ | refine x_then ?_ | refine x_here ?_))
    exact end_none rfl ⟨j, rfl, HM0⟩
end Go.Proofs.YtkfogbonjpdkbaaGreat.Sp
namespace Go.Proofs.YtkfogbonjpdkbaaGreat.Sp
open Go Go.RowKit
set_option linter.unusedVariables false
set_option linter.unusedSimpArgs false
set_option maxRecDepth 10000
set_option maxHeartbeats 2000000
variable {w0 W : World} {L : List Asn} {A B : Option Addr} {c d : Nat} {b b2 : Bool}
theorem recMergeM {xs ys : List Slot} (ha : RoRow (rSlot b) w0 A xs) (hb : RoRow (rSlot b2) w0 B ys) (hn : xs.length ≤ 1048576) (hm : ys.length ≤ 1048576) (HM : Mem w0 W L) : Calls Tryz.prog 118 #[.slice A xs.length c, .slice B ys.length d] W fun e W' => ∃ A' c', e = .returned (.slice A' (mergeL xs ys).length c') ∧ Mem w0 W' (own tSlot 105 A' c' (mergeL xs ys) :: L) := by
  refine enter Tryz.func118 rfl Tryz.ntmps118 [(0, _), (1, _)] rfl ⟨rfl, rfl, trivial⟩ ?_
  replace HM := HM.rod ha
  repeat (first | (refine gGP ?_; first | refine gp (p_move rfl) ?_ | refine gp (p_assign rfl) ?_ | refine gp (p_len rfl) ?_) | (refine gL ?_; first | refine s_gp rfl rfl ?_ | (refine gCall ?_; (refine s_app0a HM rfl rfl rfl rfl rfl (by omega) rfl ?_; intro A1 c1 W1 HM1; clear HM; have HM := HM1; clear HM1)) | refine l_nil ?_) | (refine gC ?_; first | refine c_seq ?_ | refine c_region ?_ | refine c_block ?_) | (refine gN ?_; refine n_then ?_))
  replace HM := HM.rod hb
  refine c_loop2 (σ := Nat × List Slot) (fun s A1 c1 => [(10, .slice B ys.length d), (11, .int .i64 ys.length), (5, .slice A1 s.2.length c1), (12, .int .i64 s.1)]) (fun s A1 c1 W1 => s.1 ≤ ys.length ∧ s.2 = mergeL xs (ys.take s.1) ∧ Mem w0 W1 (own tSlot 105 A1 c1 s.2 :: ro (rSlot b2) w0 B ys :: L)) (fun s => ys.length - s.1) (0, xs) A1 c1 (by repeat (first | exact trivial | refine And.intro (by first | rfl | exact look_int rfl (by omega)) ?_)) ⟨Nat.zero_le _, by simp [mergeL_nil], HM.sb⟩ ?_
  clear HM
  rintro ⟨k, zs⟩ A1 c1 W1 ⟨hk, hz, HM⟩
  dsimp only at hk hz HM ⊢
  have hzl : zs.length = max xs.length (min k ys.length) := by rw [hz, mergeL_len]; simp
  by_cases hlt : k < ys.length
  · by_cases h1 : k = zs.length
    · have e1 := mergeL_app xs ys k hlt (by omega)
      rw [← hz, ← rdR_at (D := rSlot b2) hlt] at e1
      subst h1
      repeat (first | (refine gGV ?_; refine gv (p_loadwf rfl rfl rfl (by omega) (by omega)) ?_; simp only [encSlot]) | (refine gGP ?_; first | refine gp (p_move rfl) ?_ | refine gp (p_assign rfl) ?_ | (refine gGB ?_; first | refine gp (p_lss rfl rfl) ?_ | refine gp (p_geq rfl rfl) ?_ | refine gp (p_add rfl rfl (by exact wr (by omega) (by omega))) ?_) | refine gp (p_indexr HM rfl (by first | with_reducible rfl | omega) rfl (by omega) (by omega)) ?_ | refine gp (p_len rfl) ?_) | (refine gGV ?_; refine gv (p_loads rfl) ?_) | (refine gL ?_; first | refine s_gp rfl rfl ?_ | refine s_gv HM rfl ?_ | (refine gStore ?_; (refine s_store HM rfl rfl rfl rfl ?_; intro W1 HM1; clear HM; have HM := HM1; clear HM1)) | (refine gCall ?_; (refine s_append1 HM rfl rfl (by first | with_reducible rfl | omega) rfl rfl (by omega) rfl ?_; intro A1 c1 W1 HM1; clear HM; have HM := HM1; clear HM1)) | (refine s_alloc HM rfl ?_; intro g W1 HM1; clear HM; have HM := HM1; clear HM1) | (refine s_lit1 HM rfl rfl rfl ?_; intro g W1 HM1; clear HM; have HM := HM1; clear HM1) | refine l_nil ?_) | (refine gC ?_; first | refine c_seq ?_ | refine c_region ?_ | refine c_block ?_ | refine c_skip ?_ | refine c_yes rfl (by first | (simp; done) | (simp; omega)) ?_) | (refine gN ?_; first | refine n_then ?_ | refine n_block ?_))
      exact n_round2 (zs.length + 1, zs ++ [_]) A1 c1 (by repeat (first | exact trivial | refine And.intro (by first | rfl | exact look_int rfl (by omega)) ?_)) ⟨by dsimp only; omega, e1.symm, HM.sb⟩ (by dsimp only; omega)
    · have hkx : k < xs.length := by omega
      have hkz : k < zs.length := by omega
      have e0 : rd tSlot zs k = xs[k] := by rw [rd_at (d := tSlot) hkz]; subst hz; exact mergeL_at xs ys k hkx hkz
      have e1 := mergeL_set xs ys k hlt hkx
      rw [← hz, ← rdR_at (D := rSlot b2) hlt, ← e0] at e1
      by_cases h2 : (rd tSlot zs k).ballot < (rdR (rSlot b2) ys k).ballot
      · rw [mgS, if_pos h2] at e1
        repeat (first | (refine gR ?_; refine d_start [] [(0, 0), (0, 2), (0, 3), (0, 4), (0, 5), (1, 1), (1, 6), (0, 7), (0, 8)] HM (by kernel_rfl) (by kernel_rfl) (by repeat (first | exact qp_body | refine qp_then ?_ | refine qp_block ?_)) (by kernel_rfl) rfl ?_; intro HQ HS W1 HM1; clear HM; have HM := HM1; clear HM1) | (refine gGV ?_; refine gv (p_loadwf rfl rfl rfl (by omega) (by omega)) ?_; simp only [encSlot]) | (refine gGP ?_; first | refine gp (p_move rfl) ?_ | refine gp (p_assign rfl) ?_ | (refine gGB ?_; first | refine gp (p_lss rfl rfl) ?_ | refine gp (p_gtr rfl rfl) ?_ | refine gp (p_geq rfl rfl) ?_ | refine gp (p_add rfl rfl (by exact wr (by omega) (by omega))) ?_) | refine gp (p_field rfl (by simp only [Nat.reduceAdd]; rfl)) ?_ | refine gp (p_fieldo rfl (by simp only [Nat.reduceAdd]; rfl)) ?_ | refine gp (p_indexo HM rfl (by first | with_reducible rfl | omega) rfl (by omega) (by omega)) ?_ | refine gp (p_indexr HM rfl (by first | with_reducible rfl | omega) rfl (by omega) (by omega)) ?_ | refine gp (p_len rfl) ?_) | (refine gGV ?_; first | refine gv (p_load rfl) ?_ | refine gv (p_loado rfl rfl (by omega) (by omega) rfl) ?_ | refine gv (p_loads rfl) ?_) | (refine gL ?_; first | refine s_gp rfl rfl ?_ | refine s_gv HM rfl ?_ | (refine gStore ?_; first | (refine s_store HM rfl rfl rfl rfl ?_; intro W1 HM1; clear HM; have HM := HM1; clear HM1) | (refine s_storew HM rfl rfl rfl (by omega) (by omega) rfl ?_; intro W1 HM1; clear HM; have HM := HM1; clear HM1)) | (refine s_alloc HM rfl ?_; intro g W1 HM1; clear HM; have HM := HM1; clear HM1) | refine l_nil ?_) | (refine gC ?_; first | refine c_seq ?_ | refine c_region ?_ | refine c_block ?_ | refine c_skip ?_ | refine c_yes rfl (by (simp; omega)) ?_ | refine c_no rfl (by (simp; omega)) ?_) | (refine gN ?_; first | refine n_then ?_ | refine n_block ?_) | (refine gD ?_; first | refine d_next rfl ?_ | refine d_done ?_) | (refine gO ?_; first | refine d_gp HQ HS rfl ?_ | refine d_gv HQ HS rfl ?_))
        simp only [Int.toNat_natCast] at HM
        exact n_round2 (k + 1, zs.set k _) A1 c1 (by simp only [List.length_set]; exact (by repeat (first | exact trivial | refine And.intro (by first | rfl | exact look_int rfl (by omega)) ?_))) ⟨by dsimp only; omega, e1.symm, HM.sb⟩ (by dsimp only; omega)
      · rw [mgS, if_neg h2, rd_at (d := tSlot) hkz, List.set_getElem_self] at e1
        repeat (first | (refine gR ?_; refine d_start [] [(0, 0), (0, 2), (0, 3), (0, 4), (0, 5), (1, 1), (1, 6), (0, 7), (0, 8)] HM (by kernel_rfl) (by kernel_rfl) (by repeat (first | exact qp_body | refine qp_then ?_ | refine qp_block ?_)) (by kernel_rfl) rfl ?_; intro HQ HS W1 HM1; clear HM; have HM := HM1; clear HM1) | (refine gGV ?_; refine gv (p_loadwf rfl rfl rfl (by omega) (by omega)) ?_; simp only [encSlot]) | (refine gGP ?_; first | refine gp (p_move rfl) ?_ | refine gp (p_assign rfl) ?_ | (refine gGB ?_; first | refine gp (p_lss rfl rfl) ?_ | refine gp (p_gtr rfl rfl) ?_ | refine gp (p_geq rfl rfl) ?_ | refine gp (p_add rfl rfl (by exact wr (by omega) (by omega))) ?_) | refine gp (p_field rfl (by simp only [Nat.reduceAdd]; rfl)) ?_ | refine gp (p_fieldo rfl (by simp only [Nat.reduceAdd]; rfl)) ?_ | refine gp (p_indexo HM rfl (by first | with_reducible rfl | omega) rfl (by omega) (by omega)) ?_ | refine gp (p_indexr HM rfl (by first | with_reducible rfl | omega) rfl (by omega) (by omega)) ?_ | refine gp (p_len rfl) ?_) | (refine gGV ?_; first | refine gv (p_load rfl) ?_ | refine gv (p_loado rfl rfl (by omega) (by omega) rfl) ?_) | (refine gL ?_; first | refine s_gp rfl rfl ?_ | refine s_gv HM rfl ?_ | (refine gStore ?_; (refine s_store HM rfl rfl rfl rfl ?_; intro W1 HM1; clear HM; have HM := HM1; clear HM1)) | (refine s_alloc HM rfl ?_; intro g W1 HM1; clear HM; have HM := HM1; clear HM1) | refine l_nil ?_) | (refine gC ?_; first | refine c_seq ?_ | refine c_region ?_ | refine c_block ?_ | refine c_skip ?_ | refine c_yes rfl (by (simp; omega)) ?_ | refine c_no rfl (by (simp; omega)) ?_) | (refine gN ?_; first | refine n_then ?_ | refine n_block ?_) | (refine gD ?_; first | refine d_next rfl ?_ | refine d_done ?_) | (refine gO ?_; first | refine d_gp HQ HS rfl ?_ | refine d_gv HQ HS rfl ?_))
        exact n_round2 (k + 1, zs) A1 c1 (by repeat (first | exact trivial | refine And.intro (by first | rfl | exact look_int rfl (by omega)) ?_)) ⟨by dsimp only; omega, e1.symm, HM.sb⟩ (by dsimp only; omega)
  · obtain rfl : k = ys.length := by omega
    rw [List.take_length] at hz
    subst hz
    repeat (first | (refine gGP ?_; first | refine gp (p_move rfl) ?_ | refine gp (p_assign rfl) ?_ | (refine gGB ?_; refine gp (p_lss rfl rfl) ?_)) | (refine gL ?_; first | refine s_gp rfl rfl ?_ | refine l_nil ?_) | (refine gC ?_; first | refine c_seq ?_ | refine c_region ?_ | refine c_exit ?_ | refine c_ret ?_ | refine c_no rfl (by first | (simp; done) | fail) ?_) | (refine gN ?_; first | refine n_then ?_ | refine x_then ?_ | refine x_here ?_))
    exact ret_tmp rfl rfl ⟨A1, c1, rfl, HM.sb⟩
theorem promM (x : Rcd) (i : AtRcd) (gr : Nat) (f : Int) {B : Option Addr} {d : Nat} {bs : List Slot} (hb : ∀ W', Mem w0 W' (own tSlot 105 i.a1.1 i.a1.2 x.ds :: L) → RoRow (rSlot b) W' B bs) (h0 : 0 ≤ x.dk) (hy : x.yes.Pairwise (· < ·)) (h1 : x.yes.length ≤ 1000) (h2 : x.best.length ≤ 1048576) (h3 : bs.length ≤ 1048576) (h4 : x.ds.length ≤ 1048576) (HM : Mem w0 W (boxR 105 52 9 3 104 38 gr x i ++ L)) : Calls Tryz.prog 94 #[.pointer (some ⟨gr, 0, none⟩), .int .i64 f, .slice B bs.length d] W fun e W' => ∃ j, e = .returned (.tuple #[]) ∧ Mem w0 W' (boxR 105 52 9 3 104 38 gr (promL x f bs) j ++ L) := by
  refine enter Tryz.func94 rfl Tryz.ntmps94 [(0, _), (1, _), (2, _)] rfl ⟨rfl, rfl, rfl, trivial⟩ ?_
  have hal := addL_len x.yes f
  have hml := mergeL_len x.best bs
  simp only [boxR, partRcd, List.cons_append, List.nil_append] at HM
  by_cases hs : 2 * ((addL x.yes f).length : Int) ≤ x.of
  · have e : promL x f bs = gotL x f bs := if_pos hs
    rw [e]
    repeat (first | (refine gR ?_; refine d_start [] [(0, 0), (0, 1), (0, 2), (0, 6), (0, 7), (0, 8), (1, 3), (0, 4), (0, 5), (1, 9), (0, 10)] HM (by kernel_rfl) (by kernel_rfl) (by repeat (first | exact qp_body | refine qp_then ?_ | refine qp_block ?_)) (by kernel_rfl) rfl ?_; intro HQ HS W1 HM1; clear HM; have HM := HM1; clear HM1) | (refine gGP ?_; first | refine gp (p_move rfl) ?_ | (refine gGB ?_; first | refine gp (p_leq rfl rfl) ?_ | refine gp (p_mul rfl rfl (by exact wr (by omega) (by omega))) ?_) | refine gp (p_field rfl (by simp only [Nat.reduceAdd]; rfl)) ?_ | refine gp (p_len rfl) ?_ | refine gp (p_nil rfl) ?_) | (refine gGV ?_; refine gv (p_load rfl) ?_) | (refine gL ?_; first | refine s_gp rfl rfl ?_ | refine s_gv HM rfl ?_ | refine s_pv (p_nil rfl) rfl ?_ | (refine gStore ?_; (refine s_store HM rfl rfl rfl rfl ?_; intro W1 HM1; clear HM; have HM := HM1; clear HM1)) | (refine gCall ?_; (refine s_fn rfl rfl ?_; first | (go_at_call 117; refine (joinC (xs := x.yes) (A := i.a4.1) (c := i.a4.2) f hy h1 (by exact HM.pk)).mono ?_; rintro e2 W2 ⟨A2, c2, rfl, HM1⟩; refine ⟨_, rfl, ?_⟩; clear HM; have HM := HM1; clear HM1) | (go_at_call 118; obtain ⟨F1, hF1⟩ := HM.own (A := i.a5.1); have hbs := hb _ (by exact HM.sb); refine (recMergeM (ro_slots hF1) hbs h2 h3 (Mem.start _)).mono ?_; clear hF1 hbs; rintro e W1 ⟨A3, c3, rfl, HM1⟩; refine ⟨_, rfl, ?_⟩; replace HM := HM.join HM1; clear HM1; simp only [List.cons_append, List.nil_append] at HM))) | refine l_nil ?_) | (refine gC ?_; first | refine c_seq ?_ | refine c_region ?_ | refine c_ret ?_ | refine c_yes rfl (by (simp; omega)) ?_) | (refine gN ?_; first | refine n_then ?_ | refine r_then ?_) | (refine gD ?_; first | refine d_next rfl ?_ | refine d_done ?_) | (refine gO ?_; first | refine d_gp HQ HS rfl ?_ | refine d_gv HQ HS rfl ?_))
    exact ret_none rfl ⟨⟨i.a0, i.a1, i.a2, i.a3, (A2, c2), (A3, c3), i.a6⟩, rfl, by simp only [gotL, boxR, partRcd, List.cons_append, List.nil_append]; exact HM.sb⟩
  have hlead : True := trivial
  repeat (first | (refine gR ?_; refine d_start [] [(0, 0), (0, 1), (0, 2), (0, 6), (0, 7), (0, 8), (1, 3), (0, 4), (0, 5), (1, 9), (0, 10)] HM (by kernel_rfl) (by kernel_rfl) (by repeat (first | exact qp_body | refine qp_then ?_ | refine qp_block ?_)) (by kernel_rfl) rfl ?_; intro HQ HS W1 HM1; clear HM; have HM := HM1; clear HM1) | (refine gGP ?_; first | refine gp (p_move rfl) ?_ | refine gp (p_assign rfl) ?_ | (refine gGB ?_; first | refine gp (p_leq rfl rfl) ?_ | refine gp (p_mul rfl rfl (by exact wr (by omega) (by omega))) ?_) | refine gp (p_field rfl (by simp only [Nat.reduceAdd]; rfl)) ?_ | refine gp (p_len rfl) ?_ | refine gp (p_nil rfl) ?_) | (refine gGV ?_; refine gv (p_load rfl) ?_) | (refine gL ?_; first | refine s_gp rfl rfl ?_ | refine s_gv HM rfl ?_ | refine s_pv (p_nil rfl) rfl ?_ | (refine gStore ?_; (refine s_store HM rfl rfl rfl rfl ?_; intro W1 HM1; clear HM; have HM := HM1; clear HM1)) | (refine gCall ?_; (refine s_fn rfl rfl ?_; first | (go_at_call 117; refine (joinC (xs := x.yes) (A := i.a4.1) (c := i.a4.2) f hy h1 (by exact HM.pk)).mono ?_; rintro e2 W2 ⟨A2, c2, rfl, HM1⟩; refine ⟨_, rfl, ?_⟩; clear HM; have HM := HM1; clear HM1) | (go_at_call 118; obtain ⟨F1, hF1⟩ := HM.own (A := i.a5.1); have hbs := hb _ (by exact HM.sb); refine (recMergeM (ro_slots hF1) hbs h2 h3 (Mem.start _)).mono ?_; clear hF1 hbs; rintro e W1 ⟨A3, c3, rfl, HM1⟩; refine ⟨_, rfl, ?_⟩; replace HM := HM.join HM1; clear HM1; simp only [List.cons_append, List.nil_append] at HM))) | refine l_nil ?_) | (refine gC ?_; first | refine c_seq ?_ | refine c_region ?_ | refine c_block ?_ | refine c_skip ?_ | refine c_no rfl (by first | rfl | (simp; omega)) ?_) | (refine gN ?_; refine n_then ?_) | (refine gD ?_; first | refine d_next rfl ?_ | refine d_done ?_) | (refine gO ?_; first | refine d_gp HQ HS rfl ?_ | refine d_gv HQ HS rfl ?_))
  have hq : ((x.dk.toNat : Nat) : Int) = x.dk := by omega
  have HM2 := (((HM.nil tInt 3).nil tSlot 105).nil (tAck 3) 104).pk (A := own tSlot 105 A3 c3 (mergeL x.best bs))
  have HM0 := (show Mem w0 _ (boxR 105 52 9 3 104 38 gr (wonL (gotL x f bs)) ⟨i.a0, i.a1, i.a2, i.a3, (none, 0), (none, 0), (none, 0)⟩ ++ _) from pk_boxr (x := { x with lead := true, trying := false, ballot := x.ballot, yes := [], best := [], acks := [] }) (i := ⟨i.a0, i.a1, i.a2, i.a3, (none, 0), (none, 0), (none, 0)⟩) HM2)
  clear HM HM2
  have ep : promL x f bs = layL x.ballot (mergeL x.best bs) ((mergeL x.best bs).length - x.dk.toNat) x.dk.toNat (wonL (gotL x f bs)) := if_neg hs
  rw [ep]
  generalize htg : layL x.ballot (mergeL x.best bs) ((mergeL x.best bs).length - x.dk.toNat) x.dk.toNat (wonL (gotL x f bs)) = tg
  have hbl : (mergeL x.best bs).length ≤ 1048576 := by omega
  have hy0 : (wonL (gotL x f bs)).ds.length ≤ 1048576 := h4
  have hb0 : (wonL (gotL x f bs)).ballot = x.ballot := rfl
  generalize wonL (gotL x f bs) = y0 at HM0 htg hy0 hb0
  generalize mergeL x.best bs = best at *
  refine c_loop (σ := Nat × Rcd) (fun s => [(0, .pointer (some ⟨gr, 0, none⟩)), (6, .slice A3 best.length c3), (7, .int .i64 s.1)]) (fun s W1 => layL x.ballot best (best.length - s.1) s.1 s.2 = tg ∧ s.2.ds.length ≤ 1048576 ∧ s.2.ballot = x.ballot ∧ ∃ j, Mem w0 W1 (boxR 105 52 9 3 104 38 gr s.2 j ++ (own tSlot 105 A3 c3 best :: _))) (fun s => best.length - s.1) (x.dk.toNat, y0) (by simp only [hq]; exact (by repeat (first | exact trivial | refine And.intro (by first | rfl | exact look_int rfl (by omega)) ?_))) ⟨htg, hy0, hb0, _, HM0⟩ ?_
  clear HM0
  rintro ⟨k, y⟩ W1 ⟨hl, hy, hb1, j, HM⟩
  dsimp only at hl hy hb1 HM ⊢
  simp only [boxR, partRcd, List.cons_append, List.nil_append] at HM
  by_cases hlt : k < best.length
  · have hst : layL x.ballot best (best.length - (k + 1)) (k + 1) (setL y ((k : Int) + 1) ⟨y.ballot, (rd tSlot best k).text⟩) = tg := by
      rw [← hl, show best.length - k = (best.length - (k + 1)) + 1 by omega, hb1]; rfl
    have hds := setL_ds y ((k : Int) + 1) ⟨y.ballot, (rd tSlot best k).text⟩
    repeat (first | (refine gR ?_; refine d_start [13] [(0, 0), (0, 1), (0, 2), (0, 3), (0, 4), (0, 5), (0, 7), (0, 8), (0, 9), (0, 10), (1, 6), (1, 11), (2, 12), (3, 13)] HM (by kernel_rfl) (by kernel_rfl) (by repeat (first | exact qp_body | refine qp_then ?_ | refine qp_block ?_)) (by kernel_rfl) rfl ?_; intro HQ HS W1 HM1; clear HM; have HM := HM1; clear HM1) | (refine gGP ?_; first | refine gp (p_move rfl) ?_ | refine gp (p_assign rfl) ?_ | (refine gGB ?_; first | refine gp (p_lss rfl rfl) ?_ | refine gp (p_add rfl rfl (by exact wr (by omega) (by omega))) ?_) | refine gp (p_field rfl (by simp only [Nat.reduceAdd]; rfl)) ?_ | refine gp (p_fieldo rfl (by simp only [Nat.reduceAdd]; rfl)) ?_ | refine gp (p_indexo HM rfl (by first | with_reducible rfl | omega) rfl (by omega) (by omega)) ?_ | refine gp (p_len rfl) ?_ | refine gp (p_build rfl) ?_ | refine gp (p_nil rfl) ?_) | (refine gGV ?_; first | refine gv (p_load rfl) ?_ | refine gv (p_loado rfl rfl (by omega) (by omega) rfl) ?_) | (refine gL ?_; first | refine s_gp rfl rfl ?_ | (refine gCall ?_; (refine s_fn rfl rfl ?_; (go_at_call 112; refine (slotM y j gr ((k : Int) + 1) ⟨y.ballot, (rd tSlot best k).text⟩ (by omega) (by omega) hy (by exact pk_boxr HM)).mono ?_; rintro e W1 ⟨j2, rfl, HM1⟩; refine ⟨_, rfl, ?_⟩; clear HM; have HM := HM1; clear HM1; simp only [boxR, partRcd, List.cons_append, List.nil_append] at HM))) | refine l_nil ?_) | (refine gC ?_; first | refine c_seq ?_ | refine c_region ?_ | refine c_block ?_ | refine c_skip ?_ | refine c_yes rfl (by (simp; omega)) ?_) | (refine gN ?_; first | refine n_then ?_ | refine n_block ?_ | refine d_back (by exact HM) ?_ | refine d_backT ?_) | (refine gD ?_; refine d_next rfl ?_) | (refine gO ?_; first | refine d_gp HQ HS rfl ?_ | refine d_gv HQ HS rfl ?_ | refine d_one ?_ | refine d_last ?_) | (refine gT ?_; refine d_doneT ?_))
    exact n_round (k + 1, setL y ((k : Int) + 1) ⟨y.ballot, (rd tSlot best k).text⟩) (by repeat (first | exact trivial | refine And.intro (by first | rfl | exact look_int rfl (by omega)) ?_)) ⟨hst, by rw [hds]; omega, hb1, j2, by exact pk_boxr HM⟩ (by dsimp only; omega)
  · rw [show best.length - k = 0 by omega] at hl
    subst hl
    repeat (first | (refine gGP ?_; first | refine gp (p_move rfl) ?_ | (refine gGB ?_; refine gp (p_lss rfl rfl) ?_) | refine gp (p_len rfl) ?_) | (refine gL ?_; first | refine s_gp rfl rfl ?_ | refine l_nil ?_) | (refine gC ?_; first | refine c_seq ?_ | refine c_region ?_ | refine c_exit ?_ | refine c_no rfl (by (simp; omega)) ?_) | (refine gN ?_; first | refine n_then ?_ | refine x_then ?_ | refine x_here ?_))
    exact end_none rfl ⟨j, rfl, by simp only [layL, boxR, partRcd, List.cons_append, List.nil_append]; exact HM.sb⟩
end Go.Proofs.YtkfogbonjpdkbaaGreat.Sp
namespace Go.Proofs.YtkfogbonjpdkbaaGreat.Sp
open Go Go.RowKit
set_option linter.unusedVariables false
set_option linter.unusedSimpArgs false
set_option maxRecDepth 10000
set_option maxHeartbeats 2000000
variable {w0 W : World} {L : List Asn} {A : Option Addr} {c : Nat}
theorem tookFn (a : Ack) (ja : At) (g5 : Nat) (ix : Int) [hB : RoBAt L g5 w0 3 [.int .i64 ix]] (HM : Mem w0 W L) : Calls Tryz.prog 120 #[.agg (encAck a ja).toArray, .pointer (some ⟨g5, 0, none⟩)] W fun e W' => e = .returned (.bool (decide (ix ≤ a.index))) ∧ Mem w0 W' L := by
  refine enter Tryz.func120 rfl Tryz.ntmps120 [(0, .agg (encAck a ja).toArray), (1, _)] rfl ⟨rfl, rfl, trivial⟩ ?_
  unfold encAck
  repeat (first | (refine gGP ?_; first | refine gp (p_assign rfl) ?_ | (refine gGB ?_; refine gp (p_geq rfl rfl) ?_) | refine gp (p_field rfl (by simp only [Nat.reduceAdd]; rfl)) ?_) | (refine gGV ?_; first | refine gv (p_load rfl) ?_ | refine gv (p_loadrb rfl) ?_) | (refine gL ?_; first | refine s_gp rfl rfl ?_ | refine s_gv HM rfl ?_ | (refine s_box HM rfl rfl ?_; intro g W1 HM1; clear HM; have HM := HM1; clear HM1) | refine l_nil ?_) | (refine gC ?_; first | refine c_seq ?_ | refine c_region ?_ | refine c_ret ?_) | (refine gN ?_; refine n_then ?_))
  exact ret_tmp rfl rfl ⟨rfl, HM.sb⟩
/-- Where the first element lies that the function wants. -/
theorem indexAck {xs : List Ack} (g5 : Nat) (ix : Int) [hB : RoBAt L g5 w0 3 [.int .i64 ix]] (hr : RoRow rAck w0 A xs) (hn : xs.length ≤ 1048576) (HM : Mem w0 W L) : Calls Tryz.prog 119 #[.slice A xs.length c, .func (.func 120) #[] #[.pointer (some ⟨g5, 0, none⟩)]] W fun e W' => ∃ r : Int, e = .returned (.int .i64 r) ∧ ((r = -1 ∧ ∀ j (h : j < xs.length), xs[j].index < ix) ∨ ∃ k : Nat, r = k ∧ (∀ j (h : j < xs.length), j < k → xs[j].index < ix) ∧ ∃ h : k < xs.length, ix ≤ xs[k].index) ∧ Mem w0 W' L := by
  refine enter Tryz.func119 rfl Tryz.ntmps119 [(0, _), (1, _)] rfl ⟨rfl, rfl, trivial⟩ ?_
  repeat (first | (refine gGP ?_; first | refine gp (p_move rfl) ?_ | refine gp (p_assign rfl) ?_ | refine gp (p_len rfl) ?_) | (refine gL ?_; first | refine s_gp rfl rfl ?_ | refine l_nil ?_) | (refine gC ?_; first | refine c_seq ?_ | refine c_region ?_ | refine c_block ?_) | (refine gN ?_; refine n_then ?_))
  refine c_loop (σ := Nat) (fun k => [(0, .slice A xs.length c), (1, .func (.func 120) #[] #[.pointer (some ⟨g5, 0, none⟩)]), (7, .int .i64 xs.length), (8, .int .i64 k)]) (fun k W1 => k ≤ xs.length ∧ (∀ j (h : j < xs.length), j < k → xs[j].index < ix) ∧ Mem w0 W1 L) (fun k => xs.length - k) 0 (by repeat (first | exact trivial | refine And.intro (by first | rfl | exact look_int rfl (by omega)) ?_)) ⟨Nat.zero_le _, fun j h hj => by omega, HM⟩ ?_
  clear HM
  rintro k W1 ⟨hk, hp, HM⟩
  by_cases hlt : k < xs.length
  · replace HM := HM.rod hr
    obtain ⟨cc, ⟨j, rfl, hs⟩, HM⟩ := HM.roOpen (A := A) k hlt
    unfold encAck at HM
    by_cases c1 : ix ≤ xs[k].index
    · repeat (first | (refine gL ?_; refine gCall ?_; refine s_callv (f := 120) (first := []) (captured := [.pointer (some ⟨g5, 0, none⟩)]) rfl rfl rfl ?_; refine (tookFn xs[k] j g5 ix HM).mono ?_; rintro e W1 ⟨rfl, HM1⟩; refine ⟨_, rfl, ?_⟩; clear HM; have HM := HM1; clear HM1) | (refine gGP ?_; first | refine gp (p_move rfl) ?_ | refine gp (p_assign rfl) ?_ | (refine gGB ?_; refine gp (p_lss rfl rfl) ?_) | refine gp (p_indexr HM rfl (by first | with_reducible rfl | omega) rfl (by omega) (by omega)) ?_) | (refine gGV ?_; refine gv (p_loadwr rfl rfl rfl) ?_) | (refine gL ?_; first | refine s_gp rfl rfl ?_ | refine s_gv HM rfl ?_ | refine l_nil ?_) | (refine gC ?_; first | refine c_seq ?_ | refine c_region ?_ | refine c_block ?_ | refine c_skip ?_ | refine c_ret ?_ | refine c_yes rfl (by (simp; omega)) ?_) | (refine gN ?_; first | refine n_then ?_ | refine r_then ?_ | refine r_block ?_))
      exact ret_tmp rfl rfl ⟨k, rfl, .inr ⟨k, rfl, hp, hlt, c1⟩, HM.drop.drop⟩
    · have hp2 : ∀ q (h : q < xs.length), q < k + 1 → xs[q].index < ix := fun q hq hq2 => by
        by_cases e : q = k
        · subst e; omega
        · exact hp q hq (by omega)
      repeat (first | (refine gL ?_; refine gCall ?_; refine s_callv (f := 120) (first := []) (captured := [.pointer (some ⟨g5, 0, none⟩)]) rfl rfl rfl ?_; refine (tookFn xs[k] j g5 ix HM).mono ?_; rintro e W1 ⟨rfl, HM1⟩; refine ⟨_, rfl, ?_⟩; clear HM; have HM := HM1; clear HM1) | (refine gGP ?_; first | refine gp (p_move rfl) ?_ | refine gp (p_assign rfl) ?_ | (refine gGB ?_; first | refine gp (p_lss rfl rfl) ?_ | refine gp (p_add rfl rfl (by exact wr (by omega) (by omega))) ?_) | refine gp (p_indexr HM rfl (by first | with_reducible rfl | omega) rfl (by omega) (by omega)) ?_) | (refine gGV ?_; refine gv (p_loadwr rfl rfl rfl) ?_) | (refine gL ?_; first | refine s_gp rfl rfl ?_ | refine s_gv HM rfl ?_ | refine l_nil ?_) | (refine gC ?_; first | refine c_seq ?_ | refine c_region ?_ | refine c_block ?_ | refine c_skip ?_ | refine c_yes rfl (by (simp; omega)) ?_ | refine c_no rfl (by (simp; omega)) ?_) | (refine gN ?_; first | refine n_then ?_ | refine n_block ?_))
      exact n_round (k + 1) (by repeat (first | exact trivial | refine And.intro (by first | rfl | exact look_int rfl (by omega)) ?_)) ⟨by omega, hp2, HM.drop.drop⟩ (by omega)
  · have hp2 : ∀ j (h : j < xs.length), xs[j].index < ix := fun j h => hp j h (by omega)
    repeat (first | (refine gGP ?_; first | refine gp (p_assign rfl) ?_ | (refine gGB ?_; refine gp (p_lss rfl rfl) ?_)) | (refine gL ?_; first | refine s_gp rfl rfl ?_ | refine l_nil ?_) | (refine gC ?_; first | refine c_seq ?_ | refine c_region ?_ | refine c_exit ?_ | refine c_ret ?_ | refine c_no rfl (by (simp; omega)) ?_) | (refine gN ?_; first | refine n_then ?_ | refine x_then ?_ | refine x_here ?_))
    exact ret_tmp rfl rfl ⟨-1, rfl, .inl ⟨rfl, hp2⟩, HM⟩
theorem rd_rdR {xs : List Slot} {i : Int} : rd tSlot xs i = rdR (rSlot false) xs i := rfl
/-- The last part of took: how far it leads. -/
theorem set_self {α : Type} (xs : List α) (k : Nat) (h : k < xs.length) : xs.set k xs[k] = xs := List.set_getElem_self h
theorem ackM_in {eI e : Nat} {A : Option Addr} {c : Nat} {xs : List Ack} (h : Mem w0 W (own (tAck eI) e A c xs :: L)) (g5 : Nat) : True := trivial
theorem tookM2 (x : Rcd) (i : AtRcd) (gr : Nat) (f ix : Int) (hv : VR x) (hlead : x.lead = true) (hix : 1 ≤ ix ∧ ix ≤ 60) (hf : 1 ≤ f ∧ f ≤ x.of) (HM : Mem w0 W (boxR 105 52 9 3 104 38 gr x i ++ L)) : Calls Tryz.prog 95 #[.pointer (some ⟨gr, 0, none⟩), .int .i64 f, .int .i64 ix] W fun e W' => ∃ j, j.a0 = i.a0 ∧ j.a3 = i.a3 ∧ e = .returned (.tuple #[]) ∧ Mem w0 W' (boxR 105 52 9 3 104 38 gr (ackL x ix f) j ++ L) := by
  refine enter Tryz.func95 rfl Tryz.ntmps95 [(0, _), (1, _), (2, _)] rfl ⟨rfl, rfl, rfl, trivial⟩ ?_
  have ha := acks_len hv.acks
  have hfr : ∀ a ∈ x.acks, a.frm.length ≤ 5 ∧ a.frm.Pairwise (· < ·) := fun a ha => ⟨nums_len (hv.acks.all a ha).2 hv.of5, (hv.acks.all a ha).2.sorted⟩
  simp only [boxR, partRcd, List.cons_append, List.nil_append] at HM
  repeat (first | (refine gL ?_; refine s_pv (p_makeFunc rfl rfl) rfl ?_) | (refine gGP ?_; first | refine gp (p_move rfl) ?_ | refine gp (p_assign rfl) ?_ | (refine gGB ?_; refine gp (p_lss rfl rfl) ?_) | refine gp (p_field rfl (by simp only [Nat.reduceAdd]; rfl)) ?_) | (refine gGV ?_; refine gv (p_load rfl) ?_) | (refine gL ?_; first | refine s_gp rfl rfl ?_ | refine s_gv HM rfl ?_ | refine s_pv (p_nil rfl) rfl ?_ | (refine gCall ?_; (refine s_fn rfl rfl ?_; (go_at_call 119; obtain ⟨F1, hF1⟩ := HM.own (A := i.a6.1); have HB := (Mem.start _).robox (HM.heap (g := g)); refine (indexAck g ix (ro_acks hF1) (by omega) HB).mono ?_; clear hF1; rintro e W1 ⟨r, rfl, hr, HM1⟩; refine ⟨_, rfl, ?_⟩; have HM2 := HM.step HM1.below; clear HM HM1 HB; have HM := HM2; clear HM2))) | (refine s_box HM rfl rfl ?_; intro g W1 HM1; clear HM; have HM := HM1; clear HM1) | refine l_nil ?_) | (refine gC ?_; first | refine c_seq ?_ | refine c_region ?_) | (refine gN ?_; refine n_then ?_))
  obtain ⟨R, hR, HMn⟩ := HM.nam
  clear HM
  have HM := HMn
  clear HMn
  refine c_cutn (σ := Nat) (fun k => [(0, .pointer (some ⟨gr, 0, none⟩)), (1, .int .i64 f), (5, .pointer (some ⟨g, 0, none⟩)), (6, .int .i64 k)]) (fun k W1 => k ≤ x.acks.length ∧ (∀ j (h : j < x.acks.length), j < k → x.acks[j].index < ix) ∧ (∀ h : k < x.acks.length, ix ≤ x.acks[k].index) ∧ Mem w0 W1 R) ?_ ?_
  · subst hR
    rcases hr with ⟨rfl, hp⟩ | ⟨k, rfl, hp, hk, hq⟩
    · repeat (first | (refine gGP ?_; first | refine gp (p_move rfl) ?_ | refine gp (p_assign rfl) ?_ | refine gp (p_field rfl (by simp only [Nat.reduceAdd]; rfl)) ?_ | refine gp (p_len rfl) ?_) | (refine gGV ?_; refine gv (p_load rfl) ?_) | (refine gL ?_; first | refine s_gp rfl rfl ?_ | refine s_gv HM rfl ?_ | refine s_pv (p_nil rfl) rfl ?_ | refine l_nil ?_) | (refine gC ?_; first | refine c_region ?_ | refine c_yes rfl (by rfl) ?_))
      exact n_mid x.acks.length (by repeat (first | exact trivial | refine And.intro (by first | rfl | exact look_int rfl (by omega)) ?_)) ⟨Nat.le_refl _, fun j h _ => hp j h, fun h => absurd h (Nat.lt_irrefl _), HM⟩
    · repeat ((refine gC ?_; first | refine c_skip ?_ | refine c_no rfl (by rfl) ?_))
      exact n_mid k (by repeat (first | exact trivial | refine And.intro (by first | rfl | exact look_int rfl (by omega)) ?_)) ⟨by omega, hp, fun _ => hq, HM⟩
  clear HM hr
  subst hR
  rintro k W1 ⟨hk, hp, hq, HM⟩
  refine c_seq ?_
  refine c_cutn (σ := Nat × List Ack × Option Addr × Nat) (fun s => [(0, .pointer (some ⟨gr, 0, none⟩)), (1, .int .i64 f), (6, .int .i64 s.1)]) (fun s W1 => s.1 < s.2.1.length ∧ s.2.1.length ≤ 61 ∧ (∀ a ∈ s.2.1, a.frm.length ≤ 5 ∧ a.frm.Pairwise (· < ·)) ∧ (∀ h : s.1 < s.2.1.length, ackA x.acks ix f = s.2.1.set s.1 ⟨s.2.1[s.1].index, addL s.2.1[s.1].frm f⟩) ∧ Mem w0 W1 (box gr 38 [.int .i64 x.number, .int .i64 x.of, .bool x.up, .int .i64 x.sp, .int .i64 x.sk, .slice i.a0.1 x.ss.length i.a0.2, .int .i64 x.dp, .int .i64 x.dk, .slice i.a1.1 x.ds.length i.a1.2, .slice i.a2.1 x.held.length i.a2.2, .slice i.a3.1 x.wishes.length i.a3.2, .bool x.lead, .bool x.trying, .int .i64 x.ballot, .slice i.a4.1 x.yes.length i.a4.2, .slice i.a5.1 x.best.length i.a5.2, .slice s.2.2.1 s.2.1.length s.2.2.2, .int .i64 x.heard] :: own (tAck 3) 104 s.2.2.1 s.2.2.2 s.2.1 :: own tSlot 105 i.a0.1 i.a0.2 x.ss :: own tSlot 105 i.a1.1 i.a1.2 x.ds :: own (tMsg 105) 52 i.a2.1 i.a2.2 x.held :: own tStr 9 i.a3.1 i.a3.2 x.wishes :: own tInt 3 i.a4.1 i.a4.2 x.yes :: own tSlot 105 i.a5.1 i.a5.2 x.best :: L)) ?_ ?_
  · by_cases c1 : k < x.acks.length
    · by_cases c2 : x.acks[k].index = ix
      · have e0 := rd_at (d := tAck 3) c1
        rw [← e0] at c2
        have e := ackA_in (f := f) c1 hp (by rw [← e0]; exact c2)
        repeat (first | (refine gR ?_; refine d_start [] [(0, 0), (0, 1), (0, 2), (0, 3), (1, 4), (0, 5), (0, 6), (0, 7), (0, 8), (0, 9), (0, 10), (0, 12), (1, 11), (0, 13), (0, 14), (1, 15), (1, 16), (0, 17), (0, 18)] HM (by kernel_rfl) (by kernel_rfl) (by repeat (first | exact qp_body | refine qp_then ?_ | refine qp_block ?_)) (by kernel_rfl) rfl ?_; intro HQ HS W1 HM1; clear HM; have HM := HM1; clear HM1) | (refine gGP ?_; first | refine gp (p_move rfl) ?_ | (refine gGB ?_; first | refine gp (p_eql rfl rfl) ?_ | refine gp (p_neq rfl rfl) ?_) | refine gp (p_field rfl (by simp only [Nat.reduceAdd]; rfl)) ?_ | refine gp (p_fieldo rfl (by simp only [Nat.reduceAdd]; rfl)) ?_ | refine gp (p_indexo HM rfl (by first | with_reducible rfl | omega) rfl (by omega) (by omega)) ?_ | refine gp (p_len rfl) ?_ | refine gp (p_pick0 rfl (by first | rfl | (simp; omega)) rfl) ?_ | refine gp (p_nil rfl) ?_) | (refine gGV ?_; first | refine gv (p_load rfl) ?_ | refine gv (p_loado rfl rfl (by omega) (by omega) rfl) ?_) | (refine gC ?_; first | refine c_seq ?_ | refine c_skip ?_ | refine c_no rfl (by (simp; omega)) ?_) | (refine gN ?_; refine n_then ?_) | (refine gD ?_; first | refine d_next rfl ?_ | refine d_done ?_) | (refine gO ?_; first | refine d_gp HQ HS rfl ?_ | refine d_gv HQ HS rfl ?_ | refine d_gpg HQ HS rfl rfl rfl (by first | rfl | (simp; omega)) rfl ?_ | refine d_gvg HQ HS rfl rfl rfl (by (simp; omega)) rfl ?_))
        exact n_mid (k, x.acks, i.a6.1, i.a6.2) (by repeat (first | exact trivial | refine And.intro (by first | rfl | exact look_int rfl (by omega)) ?_)) ⟨c1, by dsimp only; omega, hfr, fun _ => e, HM.sb⟩
      · have e0 := rd_at (d := tAck 3) c1
        rw [← e0] at c2
        have e := ackA_new (f := f) hk hp (fun h => by have := hq h; rw [← e0] at this ⊢; omega)
        have hkl : k ≤ x.acks.length := hk
        repeat (first | (refine gR ?_; refine d_start [9, 12] [(0, 0), (0, 1), (0, 2), (0, 3), (0, 5), (1, 4), (1, 6), (2, 7), (2, 8), (3, 9), (0, 10), (0, 11), (3, 12)] HM (by kernel_rfl) (by kernel_rfl) (by repeat (first | exact qp_body | refine qp_then ?_ | refine qp_block ?_)) (by kernel_rfl) rfl ?_; intro HQ HS W1 HM1; clear HM; have HM := HM1; clear HM1) | (refine gR ?_; refine d_start [] [(0, 0), (0, 1), (0, 2), (0, 3), (1, 4), (0, 5), (0, 6), (0, 7), (0, 8), (0, 9), (0, 10), (0, 12), (1, 11), (0, 13), (0, 14), (1, 15), (1, 16), (0, 17), (0, 18)] HM (by kernel_rfl) (by kernel_rfl) (by repeat (first | exact qp_body | refine qp_then ?_ | refine qp_block ?_)) (by kernel_rfl) rfl ?_; intro HQ HS W1 HM1; clear HM; have HM := HM1; clear HM1) | (refine gGP ?_; first | refine gp (p_move rfl) ?_ | (refine gGB ?_; first | refine gp (p_eql rfl rfl) ?_ | refine gp (p_neq rfl rfl) ?_) | refine gp (p_field rfl (by simp only [Nat.reduceAdd]; rfl)) ?_ | refine gp (p_fieldo rfl (by simp only [Nat.reduceAdd]; rfl)) ?_ | refine gp (p_indexo HM rfl (by first | with_reducible rfl | omega) rfl (by omega) (by omega)) ?_ | refine gp (p_len rfl) ?_ | refine gp (p_build rfl) ?_ | refine gp (p_pick0 rfl (by first | rfl | (simp; omega)) rfl) ?_ | refine gp (p_nil rfl) ?_) | (refine gGV ?_; first | refine gv (p_load rfl) ?_ | refine gv (p_loado rfl rfl (by omega) (by omega) rfl) ?_) | (refine gL ?_; first | refine s_gp rfl rfl ?_ | (refine gStore ?_; (refine s_store HM rfl rfl rfl rfl ?_; intro W1 HM1; clear HM; have HM := HM1; clear HM1)) | (refine gCall ?_; (refine s_fn rfl rfl ?_; (go_at_call 121; obtain ⟨css, hcl, HM2⟩ := opn_raw (HM.pk (A := own (tAck 3) 104 i.a6.1 i.a6.2 x.acks)); replace HM2 := (show Mem w0 _ (own (tRaw 2) 104 i.a6.1 i.a6.2 css :: _) from HM2); have HM3 := insertA (A := i.a6.1) (c := i.a6.2) (css := css) (cv := [.int .i64 ix, .slice none 0 0]) k (by rw [hcl]; omega) (by rw [hcl]; omega) rfl (fun u hu => by simp only [List.mem_cons, List.not_mem_nil, or_false] at hu; rcases hu with rfl | rfl <;> rfl) ((HM2.pk (A := box g 104 [.int .i64 ix, .slice none 0 0])).pk (A := own (tRaw 2) 104 i.a6.1 i.a6.2 css)); rw [hcl] at HM3; refine HM3.mono ?_; clear HM2 HM3; rintro e W1 ⟨A1, c1, rfl, HM1⟩; refine ⟨_, rfl, ?_⟩; clear HM; have HM := HM1; clear HM1))) | (refine s_lit1 HM rfl rfl rfl ?_; intro g W1 HM1; clear HM; have HM := HM1; clear HM1) | refine l_nil ?_) | (refine gC ?_; first | refine c_seq ?_ | refine c_yes rfl (by (simp; omega)) ?_) | (refine gN ?_; first | refine n_then ?_ | refine d_back (by first | exact HM | exact HM.drop) ?_ | refine d_backT ?_) | (refine gD ?_; first | refine d_next rfl ?_ | refine d_done ?_) | (refine gO ?_; first | refine d_gp HQ HS rfl ?_ | refine d_gv HQ HS rfl ?_ | refine d_one ?_ | refine d_last ?_ | refine d_gpg HQ HS rfl rfl rfl (by first | rfl | (simp; omega)) rfl ?_ | refine d_gvg HQ HS rfl rfl rfl (by (simp; omega)) rfl ?_) | (refine gT ?_; first | refine d_gpT HQ HS rfl rfl ?_ | refine d_nextT rfl ?_ | refine d_doneT ?_))
        have HA : ∀ W : World, ((tAck 3).A (⟨ix, []⟩ : Ack) [.int .i64 ix, .slice none 0 0]).H W (fun _ => False) := fun W => ⟨(none, 0), rfl, fun _ => False, fun _ h => h.elim, own_nil tInt _, trivial⟩
        have hyl : (css.take k ++ [[Value.int .i64 ix, .slice none 0 0]] ++ css.drop k).length = (x.acks.take k ++ [(⟨ix, []⟩ : Ack)] ++ x.acks.drop k).length := by simp [hcl]
        have HM2 := lels_ins (a := (⟨ix, []⟩ : Ack)) (cv := [.int .i64 ix, .slice none 0 0]) k HA (by omega) (HM.pk (A := lels (tAck 3) x.acks css))
        have HM3 := cls_raw (D := tAck 3) (HM2.pk (A := own (tRaw 2) 104 A1 c1 (css.take k ++ [[Value.int .i64 ix, .slice none 0 0]] ++ css.drop k)))
        rw [hyl] at HM3
        clear HM HM2
        obtain ⟨hy1, hy2, hy3⟩ := ack_ins (l := x.acks) (k := k) ⟨ix, []⟩ (by omega) (ys := x.acks.take k ++ [(⟨ix, []⟩ : Ack)] ++ x.acks.drop k) (by rw [List.nil_append])
        have hy4 : ∀ a ∈ x.acks.take k ++ [(⟨ix, []⟩ : Ack)] ++ x.acks.drop k, a.frm.length ≤ 5 ∧ a.frm.Pairwise (· < ·) := fun a ha => by
          simp only [List.mem_append, List.mem_singleton] at ha
          rcases ha with (ha | ha) | ha
          · exact hfr a (List.mem_of_mem_take ha)
          · subst ha; exact ⟨by simp, List.Pairwise.nil⟩
          · exact hfr a (List.mem_of_mem_drop ha)
        exact n_mid (k, x.acks.take k ++ [(⟨ix, []⟩ : Ack)] ++ x.acks.drop k, A1, c1) (by repeat (first | exact trivial | refine And.intro (by first | rfl | exact look_int rfl (by omega)) ?_)) ⟨by rw [hy1]; omega, by rw [hy1]; omega, hy4, fun h => by dsimp only; rw [hy3, hy2 h]; exact e, HM3.sb⟩
    · have e := ackA_new (f := f) hk hp (fun h => absurd h c1)
      obtain rfl : k = x.acks.length := by omega
      repeat (first | (refine gR ?_; refine d_start [9, 12] [(0, 0), (0, 1), (0, 2), (0, 3), (0, 5), (1, 4), (1, 6), (2, 7), (2, 8), (3, 9), (0, 10), (0, 11), (3, 12)] HM (by kernel_rfl) (by kernel_rfl) (by repeat (first | exact qp_body | refine qp_then ?_ | refine qp_block ?_)) (by kernel_rfl) rfl ?_; intro HQ HS W1 HM1; clear HM; have HM := HM1; clear HM1) | (refine gR ?_; refine d_start [] [(0, 0), (0, 1), (0, 2), (0, 3), (1, 4), (0, 5), (0, 6), (0, 7), (0, 8), (0, 9), (0, 10), (0, 12), (1, 11), (0, 13), (0, 14), (1, 15), (1, 16), (0, 17), (0, 18)] HM (by kernel_rfl) (by kernel_rfl) (by repeat (first | exact qp_body | refine qp_then ?_ | refine qp_block ?_)) (by kernel_rfl) rfl ?_; intro HQ HS W1 HM1; clear HM; have HM := HM1; clear HM1) | (refine gGP ?_; first | refine gp (p_move rfl) ?_ | (refine gGB ?_; refine gp (p_eql rfl rfl) ?_) | refine gp (p_field rfl (by simp only [Nat.reduceAdd]; rfl)) ?_ | refine gp (p_len rfl) ?_ | refine gp (p_build rfl) ?_ | refine gp (p_pick1 rfl (by first | rfl | (simp; done) | fail) rfl) ?_ | refine gp (p_nil rfl) ?_) | (refine gGV ?_; refine gv (p_load rfl) ?_) | (refine gL ?_; first | refine s_gp rfl rfl ?_ | (refine gStore ?_; (refine s_store HM rfl rfl rfl rfl ?_; intro W1 HM1; clear HM; have HM := HM1; clear HM1)) | (refine gCall ?_; (refine s_fn rfl rfl ?_; (go_at_call 121; obtain ⟨css, hcl, HM2⟩ := opn_raw (HM.pk (A := own (tAck 3) 104 i.a6.1 i.a6.2 x.acks)); replace HM2 := (show Mem w0 _ (own (tRaw 2) 104 i.a6.1 i.a6.2 css :: _) from HM2); have HM3 := insertA (A := i.a6.1) (c := i.a6.2) (css := css) (cv := [.int .i64 ix, .slice none 0 0]) x.acks.length (by rw [hcl]; omega) (by rw [hcl]; omega) rfl (fun u hu => by simp only [List.mem_cons, List.not_mem_nil, or_false] at hu; rcases hu with rfl | rfl <;> rfl) ((HM2.pk (A := box g 104 [.int .i64 ix, .slice none 0 0])).pk (A := own (tRaw 2) 104 i.a6.1 i.a6.2 css)); rw [hcl] at HM3; refine HM3.mono ?_; clear HM2 HM3; rintro e W1 ⟨A1, c1, rfl, HM1⟩; refine ⟨_, rfl, ?_⟩; clear HM; have HM := HM1; clear HM1))) | (refine s_lit1 HM rfl rfl rfl ?_; intro g W1 HM1; clear HM; have HM := HM1; clear HM1) | refine l_nil ?_) | (refine gC ?_; first | refine c_seq ?_ | refine c_yes rfl (by rfl) ?_) | (refine gN ?_; first | refine n_then ?_ | refine d_back (by first | exact HM | exact HM.drop) ?_ | refine d_backT ?_) | (refine gD ?_; first | refine d_next rfl ?_ | refine d_done ?_) | (refine gO ?_; first | refine d_gp HQ HS rfl ?_ | refine d_gv HQ HS rfl ?_ | refine d_one ?_ | refine d_last ?_ | refine d_off (.inl rfl) HQ HS rfl rfl rfl rfl (by first | (simp; done) | fail) rfl rfl ?_ | refine d_off (.inr rfl) HQ HS rfl rfl rfl rfl (by first | (simp; done) | fail) rfl rfl ?_) | (refine gT ?_; first | refine d_gpT HQ HS rfl rfl ?_ | refine d_nextT rfl ?_ | refine d_doneT ?_))
      have HA : ∀ W : World, ((tAck 3).A (⟨ix, []⟩ : Ack) [.int .i64 ix, .slice none 0 0]).H W (fun _ => False) := fun W => ⟨(none, 0), rfl, fun _ => False, fun _ h => h.elim, own_nil tInt _, trivial⟩
      have hyl : (css.take x.acks.length ++ [[Value.int .i64 ix, .slice none 0 0]] ++ css.drop x.acks.length).length = (x.acks.take x.acks.length ++ [(⟨ix, []⟩ : Ack)] ++ x.acks.drop x.acks.length).length := by simp [hcl]
      have HM2 := lels_ins (a := (⟨ix, []⟩ : Ack)) (cv := [.int .i64 ix, .slice none 0 0]) x.acks.length HA (by omega) (HM.pk (A := lels (tAck 3) x.acks css))
      have HM3 := cls_raw (D := tAck 3) (HM2.pk (A := own (tRaw 2) 104 A1 c1 (css.take x.acks.length ++ [[Value.int .i64 ix, .slice none 0 0]] ++ css.drop x.acks.length)))
      rw [hyl] at HM3
      clear HM HM2
      obtain ⟨hy1, hy2, hy3⟩ := ack_ins (l := x.acks) (k := x.acks.length) ⟨ix, []⟩ (by omega) (ys := x.acks.take x.acks.length ++ [(⟨ix, []⟩ : Ack)] ++ x.acks.drop x.acks.length) (by rw [List.nil_append])
      have hy4 : ∀ a ∈ x.acks.take x.acks.length ++ [(⟨ix, []⟩ : Ack)] ++ x.acks.drop x.acks.length, a.frm.length ≤ 5 ∧ a.frm.Pairwise (· < ·) := fun a ha => by
        simp only [List.mem_append, List.mem_singleton] at ha
        rcases ha with (ha | ha) | ha
        · exact hfr a (List.mem_of_mem_take ha)
        · subst ha; exact ⟨by simp, List.Pairwise.nil⟩
        · exact hfr a (List.mem_of_mem_drop ha)
      exact n_mid (x.acks.length, x.acks.take x.acks.length ++ [(⟨ix, []⟩ : Ack)] ++ x.acks.drop x.acks.length, A1, c1) (by repeat (first | exact trivial | refine And.intro (by first | rfl | exact look_int rfl (by omega)) ?_)) ⟨by rw [hy1]; omega, by rw [hy1]; omega, hy4, fun h => by dsimp only; rw [hy3, hy2 h]; exact e, HM3.sb⟩
  clear HM
  rintro ⟨q, ys, A, c⟩ W1 ⟨hq1, hq2, hq3, hq4, HM⟩
  dsimp only at hq1 hq2 hq3 hq4 HM ⊢
  have hq5 := hq3 _ (List.getElem_mem hq1)
  have e := hq4 hq1
  obtain ⟨j, HMo⟩ := opn_ack (HM.pk (A := own (tAck 3) 104 A c ys)) q hq1
  clear HM
  have HM := HMo.perm (List.Perm.swap ..)
  clear HMo
  repeat (first | (refine gR ?_; refine d_startd [17] [(0, 0), (0, 1), (0, 2), (0, 4), (0, 5), (0, 6), (0, 7), (0, 9), (0, 13), (1, 3), (1, 8), (0, 10), (0, 11), (1, 12), (2, 14), (0, 15), (0, 16), (3, 17)] HM (by kernel_rfl) (by kernel_rfl) (by repeat (first | exact qp_body | refine qp_then ?_ | refine qp_block ?_)) (by kernel_rfl) rfl ?_; intro HQ HS W1 HM1; clear HM; have HM := HM1; clear HM1) | (refine gGP ?_; first | refine gp (p_move rfl) ?_ | refine gp (p_field rfl (by simp only [Nat.reduceAdd]; rfl)) ?_ | refine gp (p_fieldo rfl (by simp only [Nat.reduceAdd]; rfl)) ?_ | refine gp (p_indexh HM rfl (by first | with_reducible rfl | omega) rfl (by omega) (by omega)) ?_ | refine gp (p_len rfl) ?_ | refine gp (p_nil rfl) ?_) | (refine gGV ?_; first | refine gv (p_load rfl) ?_ | refine gv (p_loadh rfl rfl rfl) ?_) | (refine gL ?_; first | refine s_gp rfl rfl ?_ | refine s_gv HM rfl ?_ | refine s_pv (p_nil rfl) rfl ?_ | (refine gStore ?_; (refine s_storeh HM rfl rfl rfl rfl rfl rfl ?_; intro W1 HM1; clear HM; have HM := HM1; clear HM1; (try dsimp only at HM))) | (refine gCall ?_; (refine s_fn rfl rfl ?_; (go_at_call 117; refine (joinC f hq5.2 (by omega) (by exact HM.pk)).mono ?_; rintro e2 W2 ⟨A2, c2, rfl, HM1⟩; refine ⟨_, rfl, ?_⟩; clear HM; have HM := HM1; clear HM1))) | refine l_nil ?_) | (refine gC ?_; first | refine c_seq ?_ | refine c_region ?_ | refine c_block ?_) | (refine gN ?_; first | refine n_then ?_ | refine d_back (by exact HM.drop) ?_ | refine d_backT ?_) | (refine gD ?_; refine d_next rfl ?_) | (refine gO ?_; first | refine d_gp HQ HS rfl ?_ | refine d_gv HQ HS rfl ?_ | refine d_one ?_ | refine d_last ?_) | (refine gT ?_; refine d_doneT ?_))
  have HM1 := cls_ack ((HM.pk (A := own tInt 3 A2 c2 (addL ys[q].frm f))).pk (A := hol (tAck 3) 104 A c ys q [.int .i64 ys[q].index, .slice A2 (addL ys[q].frm f).length c2]))
  clear HM; have HM := HM1; clear HM1
  rw [← e] at HM
  have el : ys.length = (ackA x.acks ix f).length := by rw [e, List.length_set]
  simp only [el] at HM ⊢
  have hl2 := ackA_frm x.acks ix f 5 (fun a ha => (hfr a ha).1)
  have hl1 : (ackA x.acks ix f).length ≤ 61 := by omega
  rw [show ackL x ix f = advL { x with acks := ackA x.acks ix f } from rfl]
  obtain ⟨bs, hA⟩ : ∃ bs, bs = ackA x.acks ix f := ⟨_, rfl⟩
  rw [← hA] at HM hl1 hl2 ⊢
  clear e el hA hq3 hq4 hq5 hp hq hfr ha
  have hk0 := hv.disk.k0
  have hk1 := hv.disk.k1
  have hdl := hv.disk.slots.1
  have hof := hv.of5
  have hof1 := hv.of1
  refine c_loop (σ := Nat × Int) (fun s => [(0, .pointer (some ⟨gr, 0, none⟩)), (74, .slice A bs.length c), (75, .int .i64 bs.length), (76, .int .i64 s.1)]) (fun s W1 => s.1 ≤ bs.length ∧ s.2 = (bs.take s.1).foldl (advK { x with acks := bs }) x.dk ∧ 0 ≤ s.2 ∧ s.2 ≤ x.ds.length ∧ Mem w0 W1 (box gr 38 [.int .i64 x.number, .int .i64 x.of, .bool x.up, .int .i64 x.sp, .int .i64 x.sk, .slice i.a0.1 x.ss.length i.a0.2, .int .i64 x.dp, .int .i64 s.2, .slice i.a1.1 x.ds.length i.a1.2, .slice i.a2.1 x.held.length i.a2.2, .slice i.a3.1 x.wishes.length i.a3.2, .bool x.lead, .bool x.trying, .int .i64 x.ballot, .slice i.a4.1 x.yes.length i.a4.2, .slice i.a5.1 x.best.length i.a5.2, .slice A bs.length c, .int .i64 x.heard] :: own (tAck 3) 104 A c bs :: own tSlot 105 i.a0.1 i.a0.2 x.ss :: own tSlot 105 i.a1.1 i.a1.2 x.ds :: own (tMsg 105) 52 i.a2.1 i.a2.2 x.held :: own tStr 9 i.a3.1 i.a3.2 x.wishes :: own tInt 3 i.a4.1 i.a4.2 x.yes :: own tSlot 105 i.a5.1 i.a5.2 x.best :: L)) (fun s => bs.length - s.1) (0, x.dk) (by repeat (first | exact trivial | refine And.intro (by first | rfl | exact look_int rfl (by omega)) ?_)) ⟨Nat.zero_le _, rfl, hk0, hk1, HM.sb⟩ ?_
  clear HM
  rintro ⟨k, d⟩ W1 ⟨hk, hd, hd0, hd1, HM⟩
  dsimp only at hk hd hd0 hd1 HM ⊢
  by_cases hlt : k < bs.length
  · have hs1 := hl2 _ (List.getElem_mem hlt)
    have hstep : (bs.take (k + 1)).foldl (advK { x with acks := bs }) x.dk = advK { x with acks := bs } d bs[k] := by rw [List.take_succ_eq_append_getElem hlt, List.foldl_append, ← hd]; rfl
    obtain ⟨j, HMo⟩ := opn_ack (HM.pk (A := own (tAck 3) 104 A c bs)) k hlt
    clear HM
    have HM := HMo
    clear HMo
    have hset : bs.set k ⟨bs[k].index, bs[k].frm⟩ = bs := List.set_getElem_self hlt
    generalize bs[k] = a at *
    have hx := advK_in (x := { x with acks := bs }) (a := a) hd0 hd1
    by_cases t1 : a.index = d + 1
    rotate_left
    · rw [advK, if_neg (fun h => t1 h.1)] at hstep hx
      repeat (first | (refine gR ?_; refine d_start [] [(0, 0), (0, 2), (0, 3), (0, 4), (1, 1), (1, 5), (0, 6), (0, 7), (0, 8), (0, 9), (0, 13), (0, 14), (0, 15), (1, 10), (0, 11), (0, 12), (1, 16), (0, 17), (0, 18), (0, 19), (0, 20), (0, 21), (0, 22), (0, 25), (1, 23), (0, 24), (1, 26), (0, 27), (0, 28), (0, 29), (0, 30), (0, 31), (0, 32), (0, 34), (0, 40), (0, 41), (0, 42), (1, 33), (1, 35), (0, 36), (0, 37), (0, 38), (1, 39), (1, 43), (0, 44), (0, 45)] HM (by kernel_rfl) (by kernel_rfl) (by repeat (first | exact qp_body | refine qp_then ?_ | refine qp_block ?_)) (by kernel_rfl) rfl ?_; intro HQ HS W1 HM1; clear HM; have HM := HM1; clear HM1) | (refine gGP ?_; first | refine gp (p_move rfl) ?_ | refine gp (p_assign rfl) ?_ | (refine gGB ?_; first | refine gp (p_lss rfl rfl) ?_ | refine gp (p_eql rfl rfl) ?_ | refine gp (p_add rfl rfl (by exact wr (by omega) (by omega))) ?_) | refine gp (p_field rfl (by simp only [Nat.reduceAdd]; rfl)) ?_ | refine gp (p_indexh HM rfl (by first | with_reducible rfl | omega) rfl (by omega) (by omega)) ?_ | refine gp (p_pick0 rfl (by first | rfl | (simp; omega)) rfl) ?_ | refine gp (p_nil rfl) ?_) | (refine gGV ?_; first | refine gv (p_load rfl) ?_ | refine gv (p_loadsh rfl rfl rfl) ?_) | (refine gL ?_; first | refine s_gp rfl rfl ?_ | refine s_gv HM rfl ?_ | refine s_pv (p_nil rfl) rfl ?_ | (refine gStore ?_; (refine s_store HM rfl rfl rfl rfl ?_; intro W1 HM1; clear HM; have HM := HM1; clear HM1)) | (refine s_alloc HM rfl ?_; intro g W1 HM1; clear HM; have HM := HM1; clear HM1) | refine l_nil ?_) | (refine gC ?_; first | refine c_seq ?_ | refine c_region ?_ | refine c_block ?_ | refine c_skip ?_ | refine c_yes rfl (by (simp; omega)) ?_ | refine c_no rfl (by rfl) ?_) | (refine gN ?_; first | refine n_then ?_ | refine n_block ?_) | (refine gD ?_; first | refine d_next rfl ?_ | refine d_done ?_) | (refine gO ?_; first | refine d_gp HQ HS rfl ?_ | refine d_gv HQ HS rfl ?_ | refine d_off (.inl rfl) HQ HS rfl rfl rfl rfl (by first | rfl | (simp; omega)) rfl rfl ?_ | refine d_off (.inr rfl) HQ HS rfl rfl rfl rfl (by first | rfl | (simp; omega)) rfl rfl ?_))
      have HM1 := cls_ack ((HM.pk (A := own tInt 3 j.1 j.2 a.frm)).pk (A := hol (tAck 3) 104 A c bs k [.int .i64 a.index, .slice j.1 a.frm.length j.2]))
      rw [hset] at HM1
      exact n_round (k + 1, d) (by repeat (first | exact trivial | refine And.intro (by first | rfl | exact look_int rfl (by omega)) ?_)) ⟨by dsimp only; omega, hstep.symm, hd0, hd1, HM1.sb⟩ (by dsimp only; omega)
    by_cases t2 : x.of < 2 * (a.frm.length : Int)
    rotate_left
    · rw [advK, if_neg (fun h => t2 h.2.1)] at hstep hx
      repeat (first | (refine gR ?_; refine d_start [] [(0, 0), (0, 2), (0, 3), (0, 4), (1, 1), (1, 5), (0, 6), (0, 7), (0, 8), (0, 9), (0, 13), (0, 14), (0, 15), (1, 10), (0, 11), (0, 12), (1, 16), (0, 17), (0, 18), (0, 19), (0, 20), (0, 21), (0, 22), (0, 25), (1, 23), (0, 24), (1, 26), (0, 27), (0, 28), (0, 29), (0, 30), (0, 31), (0, 32), (0, 34), (0, 40), (0, 41), (0, 42), (1, 33), (1, 35), (0, 36), (0, 37), (0, 38), (1, 39), (1, 43), (0, 44), (0, 45)] HM (by kernel_rfl) (by kernel_rfl) (by repeat (first | exact qp_body | refine qp_then ?_ | refine qp_block ?_)) (by kernel_rfl) rfl ?_; intro HQ HS W1 HM1; clear HM; have HM := HM1; clear HM1) | (refine gGP ?_; first | refine gp (p_move rfl) ?_ | refine gp (p_assign rfl) ?_ | (refine gGB ?_; first | refine gp (p_lss rfl rfl) ?_ | refine gp (p_eql rfl rfl) ?_ | refine gp (p_gtr rfl rfl) ?_ | refine gp (p_add rfl rfl (by first | exact wr (by omega) (by omega) | rfl)) ?_ | refine gp (p_mul rfl rfl (by exact wr (by omega) (by omega))) ?_) | refine gp (p_field rfl (by simp only [Nat.reduceAdd]; rfl)) ?_ | refine gp (p_indexh HM rfl (by first | with_reducible rfl | omega) rfl (by omega) (by omega)) ?_ | refine gp (p_len rfl) ?_ | refine gp (p_pick1 rfl (by first | rfl | (simp; omega)) rfl) ?_ | refine gp (p_pick0 rfl (by first | rfl | (simp; omega)) rfl) ?_ | refine gp (p_nil rfl) ?_) | (refine gGV ?_; first | refine gv (p_load rfl) ?_ | refine gv (p_loadsh rfl rfl rfl) ?_) | (refine gL ?_; first | refine s_gp rfl rfl ?_ | refine s_gv HM rfl ?_ | refine s_pv (p_nil rfl) rfl ?_ | (refine gStore ?_; (refine s_store HM rfl rfl rfl rfl ?_; intro W1 HM1; clear HM; have HM := HM1; clear HM1)) | (refine s_alloc HM rfl ?_; intro g W1 HM1; clear HM; have HM := HM1; clear HM1) | refine l_nil ?_) | (refine gC ?_; first | refine c_seq ?_ | refine c_region ?_ | refine c_block ?_ | refine c_skip ?_ | refine c_yes rfl (by (simp; omega)) ?_ | refine c_no rfl (by rfl) ?_) | (refine gN ?_; first | refine n_then ?_ | refine n_block ?_) | (refine gD ?_; first | refine d_next rfl ?_ | refine d_done ?_) | (refine gO ?_; first | refine d_gp HQ HS rfl ?_ | refine d_gv HQ HS rfl ?_ | refine d_gpg HQ HS rfl rfl rfl (by first | rfl | (simp; omega)) rfl ?_ | refine d_gvg HQ HS rfl rfl rfl (by first | rfl | (simp; omega)) rfl ?_ | refine d_off (.inl rfl) HQ HS rfl rfl rfl rfl (by first | rfl | (simp; omega)) rfl rfl ?_ | refine d_off (.inr rfl) HQ HS rfl rfl rfl rfl (by first | rfl | (simp; omega)) rfl rfl ?_))
      have HM1 := cls_ack ((HM.pk (A := own tInt 3 j.1 j.2 a.frm)).pk (A := hol (tAck 3) 104 A c bs k [.int .i64 a.index, .slice j.1 a.frm.length j.2]))
      rw [hset] at HM1
      exact n_round (k + 1, d) (by repeat (first | exact trivial | refine And.intro (by first | rfl | exact look_int rfl (by omega)) ?_)) ⟨by dsimp only; omega, hstep.symm, hd0, hd1, HM1.sb⟩ (by dsimp only; omega)
    by_cases t3 : a.index ≤ x.ds.length
    rotate_left
    · rw [advK, if_neg (fun h => t3 h.2.2.1)] at hstep hx
      repeat (first | (refine gR ?_; refine d_start [] [(0, 0), (0, 2), (0, 3), (0, 4), (1, 1), (1, 5), (0, 6), (0, 7), (0, 8), (0, 9), (0, 13), (0, 14), (0, 15), (1, 10), (0, 11), (0, 12), (1, 16), (0, 17), (0, 18), (0, 19), (0, 20), (0, 21), (0, 22), (0, 25), (1, 23), (0, 24), (1, 26), (0, 27), (0, 28), (0, 29), (0, 30), (0, 31), (0, 32), (0, 34), (0, 40), (0, 41), (0, 42), (1, 33), (1, 35), (0, 36), (0, 37), (0, 38), (1, 39), (1, 43), (0, 44), (0, 45)] HM (by kernel_rfl) (by kernel_rfl) (by repeat (first | exact qp_body | refine qp_then ?_ | refine qp_block ?_)) (by kernel_rfl) rfl ?_; intro HQ HS W1 HM1; clear HM; have HM := HM1; clear HM1) | (refine gGP ?_; first | refine gp (p_move rfl) ?_ | refine gp (p_assign rfl) ?_ | (refine gGB ?_; first | refine gp (p_lss rfl rfl) ?_ | refine gp (p_eql rfl rfl) ?_ | refine gp (p_gtr rfl rfl) ?_ | refine gp (p_geq rfl rfl) ?_ | refine gp (p_add rfl rfl (by first | exact wr (by omega) (by omega) | rfl)) ?_ | refine gp (p_mul rfl rfl (by exact wr (by omega) (by omega))) ?_) | refine gp (p_field rfl (by simp only [Nat.reduceAdd]; rfl)) ?_ | refine gp (p_indexh HM rfl (by first | with_reducible rfl | omega) rfl (by omega) (by omega)) ?_ | refine gp (p_len rfl) ?_ | refine gp (p_pick1 rfl (by first | rfl | (simp; omega)) rfl) ?_ | refine gp (p_pick0 rfl (by first | rfl | (simp; omega)) rfl) ?_ | refine gp (p_nil rfl) ?_) | (refine gGV ?_; first | refine gv (p_load rfl) ?_ | refine gv (p_loadsh rfl rfl rfl) ?_) | (refine gL ?_; first | refine s_gp rfl rfl ?_ | refine s_gv HM rfl ?_ | refine s_pv (p_nil rfl) rfl ?_ | (refine gStore ?_; (refine s_store HM rfl rfl rfl rfl ?_; intro W1 HM1; clear HM; have HM := HM1; clear HM1)) | (refine s_alloc HM rfl ?_; intro g W1 HM1; clear HM; have HM := HM1; clear HM1) | refine l_nil ?_) | (refine gC ?_; first | refine c_seq ?_ | refine c_region ?_ | refine c_block ?_ | refine c_skip ?_ | refine c_yes rfl (by (simp; omega)) ?_ | refine c_no rfl (by rfl) ?_) | (refine gN ?_; first | refine n_then ?_ | refine n_block ?_) | (refine gD ?_; first | refine d_next rfl ?_ | refine d_done ?_) | (refine gO ?_; first | refine d_gp HQ HS rfl ?_ | refine d_gv HQ HS rfl ?_ | refine d_gpg HQ HS rfl rfl rfl (by first | rfl | (simp; omega)) rfl ?_ | refine d_gvg HQ HS rfl rfl rfl (by first | rfl | (simp; omega)) rfl ?_ | refine d_off (.inl rfl) HQ HS rfl rfl rfl rfl (by (simp; omega)) rfl rfl ?_ | refine d_off (.inr rfl) HQ HS rfl rfl rfl rfl (by (simp; omega)) rfl rfl ?_))
      have HM1 := cls_ack ((HM.pk (A := own tInt 3 j.1 j.2 a.frm)).pk (A := hol (tAck 3) 104 A c bs k [.int .i64 a.index, .slice j.1 a.frm.length j.2]))
      rw [hset] at HM1
      exact n_round (k + 1, d) (by repeat (first | exact trivial | refine And.intro (by first | rfl | exact look_int rfl (by omega)) ?_)) ⟨by dsimp only; omega, hstep.symm, hd0, hd1, HM1.sb⟩ (by dsimp only; omega)
    by_cases t4 : (rd tSlot x.ds (a.index - 1)).ballot = x.ballot
    rotate_left
    · rw [advK, if_neg (fun h => t4 h.2.2.2)] at hstep hx
      repeat (first | (refine gR ?_; refine d_start [] [(0, 0), (0, 2), (0, 3), (0, 4), (1, 1), (1, 5), (0, 6), (0, 7), (0, 8), (0, 9), (0, 13), (0, 14), (0, 15), (1, 10), (0, 11), (0, 12), (1, 16), (0, 17), (0, 18), (0, 19), (0, 20), (0, 21), (0, 22), (0, 25), (1, 23), (0, 24), (1, 26), (0, 27), (0, 28), (0, 29), (0, 30), (0, 31), (0, 32), (0, 34), (0, 40), (0, 41), (0, 42), (1, 33), (1, 35), (0, 36), (0, 37), (0, 38), (1, 39), (1, 43), (0, 44), (0, 45)] HM (by kernel_rfl) (by kernel_rfl) (by repeat (first | exact qp_body | refine qp_then ?_ | refine qp_block ?_)) (by kernel_rfl) rfl ?_; intro HQ HS W1 HM1; clear HM; have HM := HM1; clear HM1) | (refine gGP ?_; first | refine gp (p_move rfl) ?_ | refine gp (p_assign rfl) ?_ | (refine gGB ?_; first | refine gp (p_lss rfl rfl) ?_ | refine gp (p_eql rfl rfl) ?_ | refine gp (p_gtr rfl rfl) ?_ | refine gp (p_geq rfl rfl) ?_ | refine gp (p_add rfl rfl (by first | exact wr (by omega) (by omega) | rfl)) ?_ | refine gp (p_sub rfl rfl (by first | exact wr (by omega) (by omega) | rfl)) ?_ | refine gp (p_mul rfl rfl (by exact wr (by omega) (by omega))) ?_) | refine gp (p_field rfl (by simp only [Nat.reduceAdd]; rfl)) ?_ | refine gp (p_fieldo rfl (by simp only [Nat.reduceAdd]; rfl)) ?_ | refine gp (p_indexo HM rfl (by first | with_reducible rfl | omega) rfl (by omega) (by omega)) ?_ | refine gp (p_indexh HM rfl (by first | with_reducible rfl | omega) rfl (by omega) (by omega)) ?_ | refine gp (p_len rfl) ?_ | refine gp (p_pick1 rfl (by first | rfl | (simp; omega)) rfl) ?_ | refine gp (p_nil rfl) ?_) | (refine gGV ?_; first | refine gv (p_load rfl) ?_ | refine gv (p_loado rfl rfl (by omega) (by omega) rfl) ?_ | refine gv (p_loadsh rfl rfl rfl) ?_) | (refine gL ?_; first | refine s_gp rfl rfl ?_ | refine s_gv HM rfl ?_ | refine s_pv (p_nil rfl) rfl ?_ | (refine gStore ?_; (refine s_store HM rfl rfl rfl rfl ?_; intro W1 HM1; clear HM; have HM := HM1; clear HM1)) | (refine s_alloc HM rfl ?_; intro g W1 HM1; clear HM; have HM := HM1; clear HM1) | refine l_nil ?_) | (refine gC ?_; first | refine c_seq ?_ | refine c_region ?_ | refine c_block ?_ | refine c_skip ?_ | refine c_yes rfl (by (simp; omega)) ?_ | refine c_no rfl (by (simp; omega)) ?_) | (refine gN ?_; first | refine n_then ?_ | refine n_block ?_) | (refine gD ?_; first | refine d_next rfl ?_ | refine d_done ?_) | (refine gO ?_; first | refine d_gp HQ HS rfl ?_ | refine d_gv HQ HS rfl ?_ | refine d_gpg HQ HS rfl rfl rfl (by first | rfl | (simp; omega)) rfl ?_ | refine d_gvg HQ HS rfl rfl rfl (by (simp; omega)) rfl ?_))
      have HM1 := cls_ack ((HM.pk (A := own tInt 3 j.1 j.2 a.frm)).pk (A := hol (tAck 3) 104 A c bs k [.int .i64 a.index, .slice j.1 a.frm.length j.2]))
      rw [hset] at HM1
      exact n_round (k + 1, d) (by repeat (first | exact trivial | refine And.intro (by first | rfl | exact look_int rfl (by omega)) ?_)) ⟨by dsimp only; omega, hstep.symm, hd0, hd1, HM1.sb⟩ (by dsimp only; omega)
    rw [advK, if_pos ⟨t1, t2, t3, t4⟩] at hstep hx
    repeat (first | (refine gR ?_; refine d_start [] [(0, 0), (0, 2), (0, 3), (0, 4), (1, 1), (1, 5), (0, 6), (0, 7), (0, 8), (0, 9), (0, 13), (0, 14), (0, 15), (1, 10), (0, 11), (0, 12), (1, 16), (0, 17), (0, 18), (0, 19), (0, 20), (0, 21), (0, 22), (0, 25), (1, 23), (0, 24), (1, 26), (0, 27), (0, 28), (0, 29), (0, 30), (0, 31), (0, 32), (0, 34), (0, 40), (0, 41), (0, 42), (1, 33), (1, 35), (0, 36), (0, 37), (0, 38), (1, 39), (1, 43), (0, 44), (0, 45)] HM (by kernel_rfl) (by kernel_rfl) (by repeat (first | exact qp_body | refine qp_then ?_ | refine qp_block ?_)) (by kernel_rfl) rfl ?_; intro HQ HS W1 HM1; clear HM; have HM := HM1; clear HM1) | (refine gGP ?_; first | refine gp (p_move rfl) ?_ | refine gp (p_assign rfl) ?_ | (refine gGB ?_; first | refine gp (p_lss rfl rfl) ?_ | refine gp (p_eql rfl rfl) ?_ | refine gp (p_gtr rfl rfl) ?_ | refine gp (p_geq rfl rfl) ?_ | refine gp (p_add rfl rfl (by first | exact wr (by omega) (by omega) | rfl)) ?_ | refine gp (p_sub rfl rfl (by first | exact wr (by omega) (by omega) | rfl)) ?_ | refine gp (p_mul rfl rfl (by exact wr (by omega) (by omega))) ?_) | refine gp (p_field rfl (by simp only [Nat.reduceAdd]; rfl)) ?_ | refine gp (p_fieldo rfl (by simp only [Nat.reduceAdd]; rfl)) ?_ | refine gp (p_indexo HM rfl (by first | with_reducible rfl | omega) rfl (by omega) (by omega)) ?_ | refine gp (p_indexh HM rfl (by first | with_reducible rfl | omega) rfl (by omega) (by omega)) ?_ | refine gp (p_len rfl) ?_ | refine gp (p_pick1 rfl (by first | rfl | (simp; omega)) rfl) ?_ | refine gp (p_nil rfl) ?_) | (refine gGV ?_; first | refine gv (p_load rfl) ?_ | refine gv (p_loado rfl rfl (by omega) (by omega) rfl) ?_ | refine gv (p_loadsh rfl rfl rfl) ?_) | (refine gL ?_; first | refine s_gp rfl rfl ?_ | refine s_gv HM rfl ?_ | refine s_pv (p_nil rfl) rfl ?_ | (refine gStore ?_; (refine s_store HM rfl rfl rfl rfl ?_; intro W1 HM1; clear HM; have HM := HM1; clear HM1)) | (refine s_alloc HM rfl ?_; intro g W1 HM1; clear HM; have HM := HM1; clear HM1) | refine l_nil ?_) | (refine gC ?_; first | refine c_seq ?_ | refine c_region ?_ | refine c_block ?_ | refine c_skip ?_ | refine c_yes rfl (by (simp; omega)) ?_) | (refine gN ?_; first | refine n_then ?_ | refine n_block ?_) | (refine gD ?_; first | refine d_next rfl ?_ | refine d_done ?_) | (refine gO ?_; first | refine d_gp HQ HS rfl ?_ | refine d_gv HQ HS rfl ?_ | refine d_gpg HQ HS rfl rfl rfl (by first | rfl | (simp; omega)) rfl ?_ | refine d_gvg HQ HS rfl rfl rfl (by (simp; omega)) rfl ?_))
    have HM1 := cls_ack ((HM.pk (A := own tInt 3 j.1 j.2 a.frm)).pk (A := hol (tAck 3) 104 A c bs k [.int .i64 a.index, .slice j.1 a.frm.length j.2]))
    rw [hset] at HM1
    exact n_round (k + 1, a.index) (by repeat (first | exact trivial | refine And.intro (by first | rfl | exact look_int rfl (by omega)) ?_)) ⟨by dsimp only; omega, hstep.symm, hx.1, hx.2, HM1.sb⟩ (by dsimp only; omega)
  · obtain rfl : k = bs.length := by omega
    rw [List.take_length] at hd
    repeat (first | (refine gGP ?_; (refine gGB ?_; refine gp (p_lss rfl rfl) ?_)) | (refine gL ?_; first | refine s_gp rfl rfl ?_ | refine l_nil ?_) | (refine gC ?_; first | refine c_seq ?_ | refine c_region ?_ | refine c_exit ?_ | refine c_no rfl (by first | (simp; done) | fail) ?_) | (refine gN ?_; first | refine n_then ?_ | refine x_then ?_ | refine x_here ?_))
    exact end_none rfl ⟨⟨i.a0, i.a1, i.a2, i.a3, i.a4, i.a5, (A, c)⟩, rfl, rfl, rfl, by simp only [advL, ← hd, boxR, partRcd, List.cons_append, List.nil_append]; exact HM.sb⟩
theorem tookM (x : Rcd) (i : AtRcd) (gr : Nat) (f ix : Int) (hv : VR x) (hlead : x.lead = true) (hix : 1 ≤ ix ∧ ix ≤ 60) (hf : 1 ≤ f ∧ f ≤ x.of) (HM : Mem w0 W (boxR 105 52 9 3 104 38 gr x i ++ L)) : Calls Tryz.prog 95 #[.pointer (some ⟨gr, 0, none⟩), .int .i64 f, .int .i64 ix] W fun e W' => ∃ j, e = .returned (.tuple #[]) ∧ Mem w0 W' (boxR 105 52 9 3 104 38 gr (ackL x ix f) j ++ L) := (tookM2 x i gr f ix hv hlead hix hf HM).mono fun e W' ⟨j, _, _, h⟩ => ⟨j, h⟩
end Go.Proofs.YtkfogbonjpdkbaaGreat.Sp
namespace Go.Proofs.YtkfogbonjpdkbaaGreat.Sp
open Go Go.RowKit
set_option linter.unusedVariables false
set_option linter.unusedSimpArgs false
set_option maxRecDepth 10000
set_option maxHeartbeats 4000000
variable {w0 W : World} {L : List Asn}
theorem p_min {P : Program} {E : Env} {x y : Operand} {ts : Array TypeId} {k : IntKind} {m q : Int} (hx : ev E x = some (.int k m)) (hy : ev E y = some (.int k q)) : PV P E (.call { callee := .builtin .min, args := #[x, y], argTypes := ts }) (.int k (min m q)) := ⟨fun n a ha dst ty pos after gd W => by
  have : (if q < m then q else m) = min m q := by split <;> omega
  simp [execOp, ha.eval hx, ha.eval hy, resolve, invoke, builtin, Builtin.min_, Builtin.min2, this]⟩
section
variable {P : Program} {n : Nat} {Q Q' : Exit → Act → World → Prop} {E : Env} {W : World} {σ : Type}
theorem then_mid {y : Code} {J : σ → Env} {M : σ → World → Prop} (h : ∀ s W, M s W → WC P n y Q (J s) W) : ∀ e a w, Exit.then (MidP n J M) Q' e a w → Exit.then (y.wp P Q) Q' e a w := fun e a w hq => by
  cases e with
  | normal => exact mid_wp h hq
  | _ => exact hq
theorem c_cutn2 {c z y : Code} (J : σ → Env) (M : σ → World → Prop) (h1 : WC P n c (Exit.then (z.wp P (Exit.then (MidP n J M) Q')) (Exit.then (MidP n J M) Q')) E W) (h2 : ∀ s W, M s W → WC P n y Q (J s) W) : WC P n c (Exit.then (z.wp P (Exit.then (y.wp P Q) Q')) (Exit.then (y.wp P Q) Q')) E W := ⟨fun a ha => by
  refine wp_mono (h1.out a ha) fun e a' w' hq => ?_
  cases e with
  | normal => exact wp_mono (Q := Exit.then (MidP n J M) Q') hq (then_mid h2)
  | exit k => exact then_mid (Q' := Q') h2 (.exit k) a' w' hq
  | goto l => exact then_mid (Q' := Q') h2 (.goto l) a' w' hq
  | ret => exact then_mid (Q' := Q') h2 .ret a' w' hq
  | panic l => exact then_mid (Q' := Q') h2 (.panic l) a' w' hq
  | outgrown => exact then_mid (Q' := Q') h2 .outgrown a' w' hq⟩
end
theorem app_right {R : List Asn} (h : Mem w0 W (R ++ L)) : Mem w0 W L := by
  obtain ⟨F, _, _, h3⟩ := SepIn.append h.sep
  exact ⟨h.below, h3.mono (fun k hk => hk.1)⟩
theorem known_all {L' : List Asn} {e : Nat} (x : Rcd) (i : AtRcd) (gr : Nat) (hk0 : 0 ≤ x.dk) (hk1 : x.dk ≤ x.ds.length) (hc : x.ds.length ≤ i.a1.2) [hB : BoxAt L' gr 38 [.int .i64 x.number, .int .i64 x.of, .bool x.up, .int .i64 x.sp, .int .i64 x.sk, .slice i.a0.1 x.ss.length i.a0.2, .int .i64 x.dp, .int .i64 x.dk, .slice i.a1.1 x.ds.length i.a1.2, .slice i.a2.1 x.held.length i.a2.2, .slice i.a3.1 x.wishes.length i.a3.2, .bool x.lead, .bool x.trying, .int .i64 x.ballot, .slice i.a4.1 x.yes.length i.a4.2, .slice i.a5.1 x.best.length i.a5.2, .slice i.a6.1 x.acks.length i.a6.2, .int .i64 x.heard]] {c : Nat} [hO : OwnAt L' i.a1.1 c Slot tSlot e x.ds] : ∀ (R : List Asn) (t : ByteArray) (W' : World), Mem w0 W' (R ++ L') → Calls Tryz.prog 93 #[.pointer (some ⟨gr, 0, none⟩), .string t] W' fun e W'' => e = .returned (.bool (knownB (x.ds.take x.dk.toNat) t)) ∧ Mem w0 W'' (R ++ L') := fun R t W' h => by
  have h' := app_right h
  obtain ⟨F1, hF1⟩ := h'.own (A := i.a1.1)
  refine (knownM x i gr t hk0 hk1 hc (ro_slots hF1) (h'.heap (g := gr)) (Mem.start _)).mono ?_
  rintro e W1 ⟨rfl, HM1⟩
  exact ⟨rfl, h.step HM1.below⟩
theorem set_app (y : Rcd) (s : Slot) : setL y ((y.ds.length : Int) + 1) s = { y with ds := y.ds ++ [s] } := by
  have h1 : ((y.ds.length : Int) + 1).toNat = y.ds.length + 1 := by omega
  have h2 : ((y.ds.length : Int) + 1 - 1).toNat = y.ds.length := by omega
  simp only [setL, padL, h1, h2]
  rw [show y.ds.length + 1 - y.ds.length = 1 by omega, List.replicate_one, List.set_append, if_neg (by omega), Nat.sub_self]
  rfl
theorem tickOffM (x : Rcd) (i : AtRcd) (gr : Nat) (hu : x.up = false) (HM : Mem w0 W (boxR 105 52 9 3 104 38 gr x i ++ L)) : Calls Tryz.prog 46 #[.pointer (some ⟨gr, 0, none⟩)] W fun e W' => ∃ j, e = .returned (.slice none 0 0) ∧ Mem w0 W' (boxR 105 52 9 3 104 38 gr x j ++ L) := by
  refine enter Tryz.func46 rfl Tryz.ntmps46 [(0, _)] rfl ⟨rfl, trivial⟩ ?_
  simp only [boxR, partRcd, List.cons_append, List.nil_append] at HM
  repeat (first | (refine gGP ?_; first | refine gp (p_assign rfl) ?_ | refine gp (p_field rfl (by simp only [Nat.reduceAdd]; rfl)) ?_ | refine gp (p_not rfl) ?_) | (refine gGV ?_; refine gv (p_load rfl) ?_) | (refine gL ?_; first | refine s_gp rfl rfl ?_ | refine s_gv HM rfl ?_ | refine s_pv (p_nil rfl) rfl ?_ | (refine s_box HM rfl rfl ?_; intro g W1 HM1; clear HM; have HM := HM1; clear HM1) | refine l_nil ?_) | (refine gC ?_; first | refine c_seq ?_ | refine c_region ?_ | refine c_ret ?_ | refine c_yes rfl (by (simp; omega)) ?_) | (refine gN ?_; first | refine n_then ?_ | refine r_then ?_))
  exact ret_tmp rfl rfl ⟨i, rfl, by simp only [boxR, partRcd, List.cons_append, List.nil_append]; exact HM.sb⟩
theorem tickM (x : Rcd) (i : AtRcd) (gr : Nat) (hv : VR x) (hu : x.up = true) (HM : Mem w0 W (boxR 105 52 9 3 104 38 gr x i ++ L)) : Calls Tryz.prog 46 #[.pointer (some ⟨gr, 0, none⟩)] W fun e W' => ∃ j A c, e = .returned (.slice A (tickOut x).length c) ∧ Mem w0 W' (own (tMsg 105) 52 A c (tickOut x) :: (boxR 105 52 9 3 104 38 gr (tickL x) j ++ L)) := by
  refine enter Tryz.func46 rfl Tryz.ntmps46 [(0, _)] rfl ⟨rfl, trivial⟩ ?_
  have hdl := hv.disk.slots.1
  have hdk0 := hv.disk.k0
  have hdk1 := hv.disk.k1
  have hhl := hv.heldLen
  have hwl := hv.wishes.len
  have hh0 := hv.h0
  have hh1 := hv.h1
  simp only [boxR, partRcd, List.cons_append, List.nil_append] at HM
  have hcd : x.ds.length ≤ i.a1.2 := by obtain ⟨F1, hF1⟩ := HM.own (A := i.a1.1); exact (own_max hF1).2
  repeat (first | (refine gR ?_; refine d_start [8] [(1, 0), (1, 1), (0, 2), (0, 3), (1, 4), (2, 5), (0, 6), (0, 7), (3, 8)] HM (by kernel_rfl) (by kernel_rfl) (by repeat (first | exact qp_body | refine qp_then ?_ | refine qp_block ?_)) (by kernel_rfl) rfl ?_; intro HQ HS W1 HM1; clear HM; have HM := HM1; clear HM1) | (refine gGP ?_; first | refine gp (p_assign rfl) ?_ | refine gp (p_field rfl (by simp only [Nat.reduceAdd]; rfl)) ?_ | refine gp (p_not rfl) ?_ | refine gp (p_nil rfl) ?_) | (refine gGV ?_; first | refine gv (p_load rfl) ?_ | refine gv (p_loads rfl) ?_) | (refine gL ?_; first | refine s_gp rfl rfl ?_ | refine s_gv HM rfl ?_ | refine s_pv (p_nil rfl) rfl ?_ | (refine gStore ?_; (refine s_store HM rfl rfl rfl rfl ?_; intro W1 HM1; clear HM; have HM := HM1; clear HM1)) | (refine gCall ?_; (refine s_fn rfl rfl ?_; (go_at_call 90; obtain ⟨F1, hF1⟩ := HM.own (A := i.a1.1); refine (cloneDisk_c x.dp x.dk (ro_slots hF1) (by omega) (Mem.start _)).mono ?_; clear hF1; rintro e W1 ⟨A3, c3, rfl, HM1⟩; refine ⟨_, rfl, ?_⟩; replace HM := HM.join HM1; clear HM1; simp only [List.cons_append, List.nil_append] at HM))) | (refine s_box HM rfl rfl ?_; intro g W1 HM1; clear HM; have HM := HM1; clear HM1) | (refine s_alloc HM rfl ?_; intro g W1 HM1; clear HM; have HM := HM1; clear HM1) | refine l_nil ?_) | (refine gC ?_; first | refine c_seq ?_ | refine c_region ?_ | refine c_skip ?_ | refine c_no rfl (by first | rfl | (simp; omega)) ?_) | (refine gN ?_; first | refine n_then ?_ | refine d_back (by exact HM.drop) ?_ | refine d_backT ?_) | (refine gD ?_; refine d_next rfl ?_) | (refine gO ?_; first | refine d_gp HQ HS rfl ?_ | refine d_gv HQ HS rfl ?_ | refine d_one ?_ | refine d_last ?_) | (refine gT ?_; refine d_doneT ?_))
  have HM2 := (HM.nil (tMsg 105) 52).pk (A := own tStr 9 i.a3.1 i.a3.2 x.wishes)
  clear HM
  have HM := HM2
  clear HM2
  obtain ⟨g3, hg3⟩ : ∃ g3, g3 = g := ⟨_, rfl⟩
  subst hg3
  obtain ⟨g1, hg1⟩ : ∃ q, q = g := ⟨_, rfl⟩
  subst hg1
  repeat (first | (refine gGP ?_; refine gp (p_min rfl rfl) ?_) | (refine gO ?_; refine d_pv HQ HS (p_makeFunc rfl rfl) rfl ?_) | (refine gR ?_; refine d_startd [10] [(1, 0), (1, 1), (0, 2), (0, 3), (1, 4), (1, 5), (0, 6), (2, 7), (0, 8), (0, 9), (3, 10)] HM (by kernel_rfl) (by kernel_rfl) (by repeat (first | exact qp_body | refine qp_then ?_ | refine qp_block ?_)) (by kernel_rfl) rfl ?_; intro HQ HS W1 HM1; clear HM; have HM := HM1; clear HM1) | (refine gR ?_; refine d_start [9] [(1, 0), (1, 1), (0, 2), (0, 3), (1, 4), (0, 5), (0, 6), (0, 7), (0, 8), (3, 9)] HM (by kernel_rfl) (by kernel_rfl) (by repeat (first | exact qp_body | refine qp_then ?_ | refine qp_block ?_)) (by kernel_rfl) rfl ?_; intro HQ HS W1 HM1; clear HM; have HM := HM1; clear HM1) | (refine gGP ?_; first | (refine gGB ?_; refine gp (p_add rfl rfl (by exact wr (by omega) (by omega))) ?_) | refine gp (p_field rfl (by simp only [Nat.reduceAdd]; rfl)) ?_ | refine gp (p_nil rfl) ?_) | (refine gGV ?_; refine gv (p_load rfl) ?_) | (refine gL ?_; first | (refine gStore ?_; (refine s_store HM rfl rfl rfl rfl ?_; intro W1 HM1; clear HM; have HM := HM1; clear HM1)) | (refine gCall ?_; (refine s_fn rfl rfl ?_; (go_at_call 92; refine (deleteStr (gr := gr) (knownB (x.ds.take x.dk.toNat)) (known_all (e := 105) { x with sp := x.dp, sk := x.dk, ss := x.ds, held := [] } ⟨(A3, c3), i.a1, (none, 0), i.a3, i.a4, i.a5, i.a6⟩ gr hdk0 hdk1 hcd) (by omega) (by exact HM)).mono ?_; rintro e W1 ⟨rfl, HM1⟩; refine ⟨_, rfl, ?_⟩; clear HM; have HM := HM1; clear HM1))) | refine l_nil ?_) | (refine gC ?_; refine c_seq ?_) | (refine gN ?_; first | refine n_then ?_ | refine d_back (by exact HM.drop) ?_ | refine d_backT ?_) | (refine gD ?_; refine d_next rfl ?_) | (refine gO ?_; first | refine d_gp HQ HS rfl ?_ | refine d_gv HQ HS rfl ?_ | refine d_one ?_ | refine d_last ?_) | (refine gT ?_; refine d_doneT ?_))
  have eY : { x with sp := x.dp, sk := x.dk, ss := x.ds, held := [], wishes := x.wishes.filter (fun w => !knownB (x.ds.take x.dk.toNat) w), heard := min (x.heard + 1) 1000000 } = tick1 x := by
    unfold tick1
    have h1 : min (x.heard + 1) 1000000 = (if x.heard < 1000000 then x.heard + 1 else x.heard) := by split <;> omega
    have h2 : (fun w => !knownB (x.ds.take x.dk.toNat) w) = (fun w => !hasB (x.ds.take x.dk.toNat) w) := funext fun w => by rw [known_eq (validB_iff.2 hv)]
    rw [h1, h2]
  have HMn := (show Mem w0 _ (boxR 105 52 9 3 104 38 gr { x with sp := x.dp, sk := x.dk, ss := x.ds, held := [], wishes := x.wishes.filter (fun w => !knownB (x.ds.take x.dk.toNat) w), heard := min (x.heard + 1) 1000000 } ⟨(A3, c3), i.a1, (none, 0), i.a3, i.a4, i.a5, i.a6⟩ ++ (own (tMsg 105) 52 i.a2.1 i.a2.2 x.held :: box g3 35 [.slice i.a2.1 x.held.length i.a2.2] :: box g1 113 [.pointer (some ⟨gr, 0, none⟩)] :: L)) from by simp only [boxR, partRcd, List.cons_append, List.nil_append]; exact HM.sb).name
  clear HM
  obtain ⟨R, hR, HM⟩ := HMn
  rw [eY] at HM
  obtain ⟨J, hJ⟩ : ∃ J : AtRcd, J = ⟨(A3, c3), i.a1, (none, 0), i.a3, i.a4, i.a5, i.a6⟩ := ⟨_, rfl⟩
  rw [← hJ] at HM
  obtain ⟨hv1, k1⟩ := vr_tick1 hv hu
  have hO : tickOut x = (if (tick2 (tick1 x)).lead = true then leadOut (lead1 (tick2 (tick1 x))) x.held else x.held) := rfl
  have hT : tickL x = (if (tick2 (tick1 x)).lead = true then lead1 (tick2 (tick1 x)) else tick3 (tick2 (tick1 x))) := rfl
  rw [hO, hT]
  clear hO hT eY hJ
  generalize tick1 x = y at *
  refine c_cutn2 (σ := AtRcd) (fun s => [(1, .pointer (some ⟨g1, 0, none⟩)), (3, .pointer (some ⟨g3, 0, none⟩))]) (fun s W1 => Mem w0 W1 (boxR 105 52 9 3 104 38 gr (tick2 y) s ++ R)) ?_ ?_
  · subst hR
    simp only [boxR, partRcd, List.cons_append, List.nil_append] at HM
    by_cases c1 : y.trying = true
    rotate_left
    · have e : tick2 y = y := if_neg (fun h => c1 h.1)
      simp only [Bool.not_eq_true] at c1
      repeat (first | (refine gR ?_; refine d_start [] [(1, 0), (0, 1), (0, 2), (1, 3), (0, 4), (1, 5), (0, 6), (0, 7), (0, 8), (1, 9), (1, 10), (0, 11), (0, 12), (1, 13), (0, 14), (0, 15)] HM (by kernel_rfl) (by kernel_rfl) (by repeat (first | exact qp_body | refine qp_then ?_ | refine qp_block ?_)) (by kernel_rfl) rfl ?_; intro HQ HS W1 HM1; clear HM; have HM := HM1; clear HM1) | (refine gGP ?_; first | refine gp (p_move rfl) ?_ | refine gp (p_field rfl (by simp only [Nat.reduceAdd]; rfl)) ?_ | refine gp (p_pick0 rfl (by first | rfl | assumption) rfl) ?_ | refine gp (p_nil rfl) ?_) | (refine gGV ?_; refine gv (p_load rfl) ?_) | (refine gC ?_; first | refine c_skip ?_ | refine c_no rfl (by rfl) ?_) | (refine gN ?_; refine n_then ?_) | (refine gD ?_; first | refine d_next rfl ?_ | refine d_done ?_) | (refine gO ?_; first | refine d_gp HQ HS rfl ?_ | refine d_gv HQ HS rfl ?_ | refine d_off (.inl rfl) HQ HS rfl rfl rfl rfl (by assumption) rfl rfl ?_ | refine d_off (.inr rfl) HQ HS rfl rfl rfl rfl (by assumption) rfl rfl ?_))
      exact n_mid J (by repeat (first | exact trivial | refine And.intro (by first | rfl | exact look_int rfl (by omega)) ?_)) (by rw [e]; exact pk_boxr HM)
    by_cases c2 : y.sp = y.ballot
    rotate_left
    · have e : tick2 y = y := if_neg (fun h => c2 h.2)
      repeat (first | (refine gR ?_; refine d_start [] [(1, 0), (0, 1), (0, 2), (1, 3), (0, 4), (1, 5), (0, 6), (0, 7), (0, 8), (1, 9), (1, 10), (0, 11), (0, 12), (1, 13), (0, 14), (0, 15)] HM (by kernel_rfl) (by kernel_rfl) (by repeat (first | exact qp_body | refine qp_then ?_ | refine qp_block ?_)) (by kernel_rfl) rfl ?_; intro HQ HS W1 HM1; clear HM; have HM := HM1; clear HM1) | (refine gGP ?_; first | refine gp (p_move rfl) ?_ | (refine gGB ?_; refine gp (p_eql rfl rfl) ?_) | refine gp (p_field rfl (by simp only [Nat.reduceAdd]; rfl)) ?_ | refine gp (p_pick1 rfl (by first | rfl | assumption) rfl) ?_ | refine gp (p_nil rfl) ?_) | (refine gGV ?_; refine gv (p_load rfl) ?_) | (refine gC ?_; first | refine c_skip ?_ | refine c_no rfl (by (simp; omega)) ?_) | (refine gN ?_; refine n_then ?_) | (refine gD ?_; first | refine d_next rfl ?_ | refine d_done ?_) | (refine gO ?_; first | refine d_gp HQ HS rfl ?_ | refine d_gv HQ HS rfl ?_ | refine d_gpg HQ HS rfl rfl rfl (by first | rfl | assumption) rfl ?_ | refine d_gvg HQ HS rfl rfl rfl (by assumption) rfl ?_))
      exact n_mid J (by repeat (first | exact trivial | refine And.intro (by first | rfl | exact look_int rfl (by omega)) ?_)) (by rw [e]; exact pk_boxr HM)
    have e : tick2 y = promL y y.number y.ds := if_pos ⟨c1, c2⟩
    have p0 := hv1.disk.k0
    have p1 := nums_len hv1.yes hv1.of5
    have p2 := hv1.best.1
    have p4 := hv1.disk.slots.1
    repeat (first | (refine gR ?_; refine d_start [] [(1, 0), (0, 1), (0, 2), (1, 3), (0, 4), (1, 5), (0, 6), (0, 7), (0, 8), (1, 9), (1, 10), (0, 11), (0, 12), (1, 13), (0, 14), (0, 15)] HM (by kernel_rfl) (by kernel_rfl) (by repeat (first | exact qp_body | refine qp_then ?_ | refine qp_block ?_)) (by kernel_rfl) rfl ?_; intro HQ HS W1 HM1; clear HM; have HM := HM1; clear HM1) | (refine gR ?_; refine d_start [10] [(1, 0), (1, 1), (0, 2), (0, 3), (1, 4), (1, 5), (0, 6), (0, 7), (0, 8), (1, 9), (3, 10)] HM (by kernel_rfl) (by kernel_rfl) (by repeat (first | exact qp_body | refine qp_then ?_ | refine qp_block ?_)) (by kernel_rfl) rfl ?_; intro HQ HS W1 HM1; clear HM; have HM := HM1; clear HM1) | (refine gGP ?_; first | refine gp (p_move rfl) ?_ | (refine gGB ?_; refine gp (p_eql rfl rfl) ?_) | refine gp (p_field rfl (by simp only [Nat.reduceAdd]; rfl)) ?_ | refine gp (p_pick1 rfl (by first | rfl | assumption) rfl) ?_ | refine gp (p_nil rfl) ?_) | (refine gGV ?_; refine gv (p_load rfl) ?_) | (refine gL ?_; first | (refine gCall ?_; (refine s_fn rfl rfl ?_; (go_at_call 94; have HMp := (show Mem w0 _ (boxR 105 52 9 3 104 38 gr y J ++ _) from pk_boxr HM); refine (promM y J gr y.number (b := false) (fun W' h => by obtain ⟨F1, hF1⟩ := h.own (A := J.a1.1); exact ro_slots hF1) p0 hv1.yes.sorted (by omega) (by omega) (by omega) (by omega) HMp).mono ?_; clear HMp; rintro e W1 ⟨j3, rfl, HM1⟩; refine ⟨_, rfl, ?_⟩; clear HM; have HM := HM1; clear HM1; simp only [boxR, partRcd, List.cons_append, List.nil_append] at HM))) | refine l_nil ?_) | (refine gC ?_; refine c_yes rfl (by (simp; omega)) ?_) | (refine gN ?_; first | refine n_then ?_ | refine d_backT ?_) | (refine gD ?_; first | refine d_next rfl ?_ | refine d_done ?_) | (refine gO ?_; first | refine d_gp HQ HS rfl ?_ | refine d_gv HQ HS rfl ?_ | refine d_last ?_ | refine d_gpg HQ HS rfl rfl rfl (by first | rfl | assumption) rfl ?_ | refine d_gvg HQ HS rfl rfl rfl (by assumption) rfl ?_) | (refine gT ?_; refine d_doneT ?_))
    exact n_mid j3 (by repeat (first | exact trivial | refine And.intro (by first | rfl | exact look_int rfl (by omega)) ?_)) (by rw [e]; exact pk_boxr HM)
  clear HM
  rintro jz W1 HM
  obtain ⟨hv2, k2⟩ := vr_tick2 hv1
  have k12 := k1.trans k2
  have hzu : (tick2 y).up = true := k12.up.trans hu
  have hzo := k12.of
  have hzn := k12.number
  clear k1 k2 hv1
  generalize tick2 y = z at *
  have hof : 0 ≤ z.of ∧ z.of ≤ 5 := ⟨by have := hv2.of1; omega, hv2.of5⟩
  by_cases cl : z.lead = true
  · rw [if_pos cl, if_pos cl]
    have HM0 := HM
    rw [hR] at HM
    simp only [boxR, partRcd, List.cons_append, List.nil_append] at HM
    repeat (first | (refine gGP ?_; first | refine gp (p_move rfl) ?_ | refine gp (p_field rfl (by simp only [Nat.reduceAdd]; rfl)) ?_ | refine gp (p_len rfl) ?_) | (refine gGV ?_; refine gv (p_load rfl) ?_) | (refine gL ?_; first | refine s_gp rfl rfl ?_ | refine s_gv HM rfl ?_ | refine s_pv (p_nil rfl) rfl ?_ | refine l_nil ?_) | (refine gC ?_; first | refine c_seq ?_ | refine c_region ?_ | refine c_block ?_ | refine c_yes rfl (by first | rfl | assumption) ?_) | (refine gN ?_; refine n_then ?_))
    clear HM
    refine c_cut (σ := AtRcd) (fun s => [(1, .pointer (some ⟨g1, 0, none⟩)), (3, .pointer (some ⟨g3, 0, none⟩))]) (fun s W1 => Mem w0 W1 (boxR 105 52 9 3 104 38 gr (ackAllL z.ballot z.number z.ss z.ss.length 0 z) s ++ R)) ?_ ?_
    · refine c_loop (σ := Nat × Rcd) (fun s => [(1, .pointer (some ⟨g1, 0, none⟩)), (3, .pointer (some ⟨g3, 0, none⟩)), (84, .slice jz.a0.1 z.ss.length jz.a0.2), (85, .int .i64 z.ss.length), (86, .int .i64 s.1)]) (fun s W1 => s.1 ≤ z.ss.length ∧ ackAllL z.ballot z.number z.ss (z.ss.length - s.1) s.1 s.2 = ackAllL z.ballot z.number z.ss z.ss.length 0 z ∧ VR s.2 ∧ s.2.lead = true ∧ s.2.ss = z.ss ∧ s.2.ballot = z.ballot ∧ s.2.number = z.number ∧ s.2.of = z.of ∧ ∃ j, j.a0 = jz.a0 ∧ Mem w0 W1 (boxR 105 52 9 3 104 38 gr s.2 j ++ R)) (fun s => z.ss.length - s.1) (0, z) (by repeat (first | exact trivial | refine And.intro (by first | rfl | exact look_int rfl (by omega)) ?_)) ⟨Nat.zero_le _, rfl, hv2, cl, rfl, rfl, rfl, rfl, jz, rfl, HM0⟩ ?_
      clear HM0
      rintro ⟨k, y⟩ W1 ⟨hk, hz, hvy, hly, e1, e2, e3, e4, j, hj, HM⟩
      dsimp only at hk hz hvy hly e1 e2 e3 e4 HM ⊢
      rw [hR] at HM
      simp only [boxR, partRcd, List.cons_append, List.nil_append] at HM
      have hsl := hv2.safe.slots.1
      have hn1 := hv2.n1
      have hno := hv2.no
      have elen : z.ss.length = y.ss.length := by rw [e1]
      rw [← hj]
      by_cases hlt : k < z.ss.length
      · by_cases c1 : (rd tSlot y.ss k).ballot = y.ballot
        · have hst : ackAllL z.ballot z.number z.ss (z.ss.length - (k + 1)) (k + 1) (ackL y ((k : Int) + 1) y.number) = ackAllL z.ballot z.number z.ss z.ss.length 0 z := by
            rw [← hz, show z.ss.length - k = (z.ss.length - (k + 1)) + 1 by omega, ackAllL, if_pos (by rw [← e1, ← e2]; exact c1), e3]
          have hva := (vr_ack hvy hly (ix := (k : Int) + 1) (f := y.number) ⟨by omega, by omega⟩ (by rw [e3, e4]; exact ⟨hn1, hno⟩)).1
          repeat (first | (refine gL ?_; refine s_gv HM rfl ?_; refine gv (p_loadwo rfl rfl rfl (by omega) (by omega)) ?_; simp only [encSlot]) | (refine gR ?_; refine d_start [] [(0, 0), (1, 1), (1, 2), (0, 3), (0, 4), (1, 5), (0, 6)] HM (by kernel_rfl) (by kernel_rfl) (by repeat (first | exact qp_body | refine qp_then ?_ | refine qp_block ?_)) (by kernel_rfl) rfl ?_; intro HQ HS W1 HM1; clear HM; have HM := HM1; clear HM1) | (refine gR ?_; refine d_start [7] [(0, 5), (0, 6), (1, 0), (1, 1), (0, 2), (0, 3), (1, 4), (3, 7)] HM (by kernel_rfl) (by kernel_rfl) (by repeat (first | exact qp_body | refine qp_then ?_ | refine qp_block ?_)) (by kernel_rfl) rfl ?_; intro HQ HS W1 HM1; clear HM; have HM := HM1; clear HM1) | (refine gGP ?_; first | refine gp (p_move rfl) ?_ | refine gp (p_assign rfl) ?_ | (refine gGB ?_; first | refine gp (p_lss rfl rfl) ?_ | refine gp (p_eql rfl rfl) ?_ | refine gp (p_add rfl rfl (by exact wr (by omega) (by omega))) ?_) | refine gp (p_field rfl (by simp only [Nat.reduceAdd]; rfl)) ?_ | refine gp (p_indexo HM rfl (by first | with_reducible rfl | omega) rfl (by omega) (by omega)) ?_ | refine gp (p_nil rfl) ?_) | (refine gGV ?_; refine gv (p_load rfl) ?_) | (refine gL ?_; first | refine s_gp rfl rfl ?_ | (refine gStore ?_; (refine s_store HM rfl rfl rfl rfl ?_; intro W1 HM1; clear HM; have HM := HM1; clear HM1)) | (refine gCall ?_; (refine s_fn rfl rfl ?_; (go_at_call 95; have HMp := (show Mem w0 _ (boxR 105 52 9 3 104 38 gr y j ++ _) from pk_boxr HM); refine (tookM2 y j gr y.number ((k : Int) + 1) hvy hly ⟨by omega, by omega⟩ (by rw [e3, e4]; exact ⟨hn1, hno⟩) HMp).mono ?_; clear HMp; rintro e W1 ⟨j2, h2, _, rfl, HM1⟩; refine ⟨_, rfl, ?_⟩; clear HM; have HM := HM1; clear HM1; simp only [boxR, partRcd, List.cons_append, List.nil_append] at HM))) | (refine s_alloc HM rfl ?_; intro g W1 HM1; clear HM; have HM := HM1; clear HM1) | refine l_nil ?_) | (refine gC ?_; first | refine c_seq ?_ | refine c_region ?_ | refine c_block ?_ | refine c_skip ?_ | refine c_yes rfl (by (simp; omega)) ?_) | (refine gN ?_; first | refine n_then ?_ | refine n_block ?_ | refine d_backT ?_) | (refine gD ?_; first | refine d_next rfl ?_ | refine d_done ?_) | (refine gO ?_; first | refine d_gp HQ HS rfl ?_ | refine d_gv HQ HS rfl ?_ | refine d_last ?_) | (refine gT ?_; refine d_doneT ?_))
          exact n_round (k + 1, ackL y ((k : Int) + 1) y.number) (by repeat (first | exact trivial | refine And.intro (by first | rfl | exact look_int rfl (by omega)) ?_)) ⟨hlt, hst, hva, hly, e1, e2, e3, e4, j2, h2, by rw [hR]; exact (by simp only [boxR, partRcd, List.cons_append, List.nil_append]; exact HM.sb)⟩ (by dsimp only; omega)
        · have hst : ackAllL z.ballot z.number z.ss (z.ss.length - (k + 1)) (k + 1) y = ackAllL z.ballot z.number z.ss z.ss.length 0 z := by
            rw [← hz, show z.ss.length - k = (z.ss.length - (k + 1)) + 1 by omega, ackAllL, if_neg (by rw [← e1, ← e2]; exact c1)]
          repeat (first | (refine gL ?_; refine s_gv HM rfl ?_; refine gv (p_loadwo rfl rfl rfl (by omega) (by omega)) ?_; simp only [encSlot]) | (refine gR ?_; refine d_start [] [(0, 0), (1, 1), (1, 2), (0, 3), (0, 4), (1, 5), (0, 6)] HM (by kernel_rfl) (by kernel_rfl) (by repeat (first | exact qp_body | refine qp_then ?_ | refine qp_block ?_)) (by kernel_rfl) rfl ?_; intro HQ HS W1 HM1; clear HM; have HM := HM1; clear HM1) | (refine gGP ?_; first | refine gp (p_move rfl) ?_ | refine gp (p_assign rfl) ?_ | (refine gGB ?_; first | refine gp (p_lss rfl rfl) ?_ | refine gp (p_eql rfl rfl) ?_ | refine gp (p_add rfl rfl (by exact wr (by omega) (by omega))) ?_) | refine gp (p_field rfl (by simp only [Nat.reduceAdd]; rfl)) ?_ | refine gp (p_indexo HM rfl (by first | with_reducible rfl | omega) rfl (by omega) (by omega)) ?_ | refine gp (p_nil rfl) ?_) | (refine gGV ?_; refine gv (p_load rfl) ?_) | (refine gL ?_; first | refine s_gp rfl rfl ?_ | (refine gStore ?_; (refine s_store HM rfl rfl rfl rfl ?_; intro W1 HM1; clear HM; have HM := HM1; clear HM1)) | (refine s_alloc HM rfl ?_; intro g W1 HM1; clear HM; have HM := HM1; clear HM1) | refine l_nil ?_) | (refine gC ?_; first | refine c_seq ?_ | refine c_region ?_ | refine c_block ?_ | refine c_skip ?_ | refine c_yes rfl (by (simp; omega)) ?_ | refine c_no rfl (by (simp; omega)) ?_) | (refine gN ?_; first | refine n_then ?_ | refine n_block ?_) | (refine gD ?_; first | refine d_next rfl ?_ | refine d_done ?_) | (refine gO ?_; first | refine d_gp HQ HS rfl ?_ | refine d_gv HQ HS rfl ?_))
          exact n_round (k + 1, y) (by repeat (first | exact trivial | refine And.intro (by first | rfl | exact look_int rfl (by omega)) ?_)) ⟨hlt, hst, hvy, hly, e1, e2, e3, e4, j, rfl, by rw [hR]; exact (by simp only [boxR, partRcd, List.cons_append, List.nil_append]; exact HM.sb)⟩ (by dsimp only; omega)
      · rw [show z.ss.length - k = 0 by omega, ackAllL] at hz
        rw [← hz]
        repeat (first | (refine gGP ?_; (refine gGB ?_; refine gp (p_lss rfl rfl) ?_)) | (refine gL ?_; first | refine s_gp rfl rfl ?_ | refine l_nil ?_) | (refine gC ?_; first | refine c_seq ?_ | refine c_region ?_ | refine c_exit ?_ | refine c_no rfl (by (simp; omega)) ?_) | (refine gN ?_; first | refine n_then ?_ | refine x_then ?_ | refine x_here ?_))
        exact n_mid j (by repeat (first | exact trivial | refine And.intro (by first | rfl | exact look_int rfl (by omega)) ?_)) (by rw [hR]; exact pk_boxr HM)
    clear HM0
    rintro j W1 HM
    obtain ⟨hv3, hl3⟩ := vr_ackAll (b := z.ballot) (num := z.number) hv2.safe.slots.1 z.ss.length 0 z (by omega) hv2 cl ⟨hv2.n1, hv2.no⟩
    obtain ⟨k1, k2, k3, k4, k5, k6⟩ := ackAll_keep z.ballot z.number z.ss z.ss.length 0 z
    have hwx := hv2.wishes
    have hlead1 : lead1 z = z.wishes.foldl layWish (ackAllL z.ballot z.number z.ss z.ss.length 0 z) := rfl
    rw [← k1] at hlead1 hwx
    rw [hlead1]
    obtain ⟨hv4, hl4⟩ := vr_layAll _ _ hv3 hl3 (fun w hw => by have := hwx.all w hw; omega)
    clear k1 k2 k3 k4 k5 k6 hv2 cl hlead1 hof hzu hzo hzn hv hu k12
    generalize ackAllL z.ballot z.number z.ss z.ss.length 0 z = y at *
    have HM0 := HM
    rw [hR] at HM
    simp only [boxR, partRcd, List.cons_append, List.nil_append] at HM
    repeat (first | (refine gGP ?_; first | refine gp (p_move rfl) ?_ | refine gp (p_field rfl (by simp only [Nat.reduceAdd]; rfl)) ?_ | refine gp (p_len rfl) ?_) | (refine gGV ?_; refine gv (p_load rfl) ?_) | (refine gL ?_; first | refine s_gp rfl rfl ?_ | refine s_gv HM rfl ?_ | refine s_pv (p_nil rfl) rfl ?_ | refine l_nil ?_) | (refine gC ?_; first | refine c_seq ?_ | refine c_region ?_ | refine c_block ?_) | (refine gN ?_; refine n_then ?_))
    clear HM
    refine c_cut (σ := AtRcd) (fun s => [(1, .pointer (some ⟨g1, 0, none⟩)), (3, .pointer (some ⟨g3, 0, none⟩))]) (fun s W1 => Mem w0 W1 (boxR 105 52 9 3 104 38 gr (y.wishes.foldl layWish y) s ++ R)) ?_ ?_
    · refine c_loop (σ := Nat × Rcd) (fun s => [(1, .pointer (some ⟨g1, 0, none⟩)), (3, .pointer (some ⟨g3, 0, none⟩)), (110, .slice j.a3.1 y.wishes.length j.a3.2), (111, .int .i64 y.wishes.length), (112, .int .i64 s.1)]) (fun s W1 => s.1 ≤ y.wishes.length ∧ (y.wishes.drop s.1).foldl layWish s.2 = y.wishes.foldl layWish y ∧ VR s.2 ∧ s.2.lead = true ∧ s.2.wishes = y.wishes ∧ ∃ ju, ju.a3 = j.a3 ∧ Mem w0 W1 (boxR 105 52 9 3 104 38 gr s.2 ju ++ R)) (fun s => y.wishes.length - s.1) (0, y) (by repeat (first | exact trivial | refine And.intro (by first | rfl | exact look_int rfl (by omega)) ?_)) ⟨Nat.zero_le _, rfl, hv3, hl3, rfl, j, rfl, HM0⟩ ?_
      clear HM0
      rintro ⟨k, u⟩ W1 ⟨hk, hz, hvu, hlu, e1, ju, hj, HM⟩
      dsimp only at hk hz hvu hlu e1 HM ⊢
      rw [hR] at HM
      simp only [boxR, partRcd, List.cons_append, List.nil_append] at HM
      have hwl := hwx.len
      have hdl := hvu.disk.slots.1
      have elen : y.wishes.length = u.wishes.length := by rw [e1]
      rw [← hj]
      by_cases hlt : k < y.wishes.length
      · have hlt2 : k < u.wishes.length := by omega
        have e0 : rd tStr u.wishes k = y.wishes[k] := by rw [rd_at hlt2]; simp only [e1]
        have hst : (y.wishes.drop (k + 1)).foldl layWish (layWish u (rd tStr u.wishes k)) = y.wishes.foldl layWish y := by
          rw [← hz, List.drop_eq_getElem_cons hlt, List.foldl_cons, e0]
        have hws := (hwx.all _ (List.getElem_mem hlt)).2
        rw [← e0] at hws
        have hvn := vr_layWish (w := rd tStr u.wishes k) hvu hlu hws
        by_cases c1 : hasB u.ds (rd tStr u.wishes k) = true
        · have e : layWish u (rd tStr u.wishes k) = u := if_neg (fun h => by rw [c1] at h; cases h.1)
          rw [e] at hst
          repeat (first | (refine gL ?_; refine s_pv (p_makeFunc rfl rfl) rfl ?_) | (refine gGP ?_; first | refine gp (p_move rfl) ?_ | (refine gGB ?_; first | refine gp (p_lss rfl rfl) ?_ | refine gp (p_add rfl rfl (by exact wr (by omega) (by omega))) ?_) | refine gp (p_field rfl (by simp only [Nat.reduceAdd]; rfl)) ?_ | refine gp (p_indexo HM rfl (by first | with_reducible rfl | omega) rfl (by omega) (by omega)) ?_ | refine gp (p_not rfl) ?_ | refine gp (p_pick0 rfl (by (simp; omega)) rfl) ?_) | (refine gGV ?_; first | refine gv (p_load rfl) ?_ | refine gv (p_loado rfl rfl (by omega) (by omega) rfl) ?_) | (refine gL ?_; first | refine s_gp rfl rfl ?_ | refine s_gv HM rfl ?_ | refine s_pv (p_nil rfl) rfl ?_ | (refine gStore ?_; (refine s_store HM rfl rfl rfl rfl ?_; intro W1 HM1; clear HM; have HM := HM1; clear HM1)) | (refine gCall ?_; (refine s_fn rfl rfl ?_; (go_at_call 96; obtain ⟨F1, hF1⟩ := HM.own (A := ju.a1.1); have HB := (Mem.start _).robox (HM.heap (g := g)); refine (containsSlot g (rd tStr u.wishes k) (ro_slots hF1) (by omega) HB).mono ?_; clear hF1; rintro e W1 ⟨rfl, HM1⟩; refine ⟨_, rfl, ?_⟩; have HM2 := HM.step HM1.below; clear HM HM1 HB; have HM := HM2; clear HM2))) | (refine s_alloc HM rfl ?_; intro g W1 HM1; clear HM; have HM := HM1; clear HM1) | refine l_nil ?_ | refine s_guard_off rfl rfl rfl rfl (by (simp; omega)) rfl rfl ?_) | (refine gC ?_; first | refine c_seq ?_ | refine c_region ?_ | refine c_block ?_ | refine c_skip ?_ | refine c_yes rfl (by (simp; omega)) ?_ | refine c_no rfl (by rfl) ?_) | (refine gN ?_; first | refine n_then ?_ | refine n_block ?_))
          exact n_round (k + 1, u) (by repeat (first | exact trivial | refine And.intro (by first | rfl | exact look_int rfl (by omega)) ?_)) ⟨hlt, hst, hvu, hlu, e1, ju, rfl, by rw [hR]; exact (by simp only [boxR, partRcd, List.cons_append, List.nil_append]; exact HM.sb)⟩ (by dsimp only; omega)
        simp only [Bool.not_eq_true] at c1
        by_cases c2 : (u.ds.length : Int) < 60
        · have e : layWish u (rd tStr u.wishes k) = { u with ds := u.ds ++ [⟨u.ballot, rd tStr u.wishes k⟩] } := by rw [layWish, if_pos ⟨c1, c2⟩, set_app]
          rw [e] at hst hvn
          repeat (first | (refine gL ?_; refine s_pv (p_makeFunc rfl rfl) rfl ?_) | (refine gR ?_; have HM2 := HM.pk (A := own tSlot 105 ju.a1.1 ju.a1.2 u.ds); clear HM; have HM := HM2; clear HM2; (refine gR ?_; refine d_startd [17] [(1, 0), (1, 1), (0, 2), (0, 3), (0, 4), (1, 5), (1, 6), (0, 7), (0, 8), (1, 9), (1, 10), (2, 11), (2, 12), (2, 13), (0, 14), (0, 15), (0, 16), (3, 17)] HM (by kernel_rfl) (by kernel_rfl) (by repeat (first | exact qp_body | refine qp_then ?_ | refine qp_block ?_)) (by kernel_rfl) rfl ?_; intro HQ HS W1 HM1; clear HM; have HM := HM1; clear HM1)) | (refine gGP ?_; first | refine gp (p_move rfl) ?_ | (refine gGB ?_; first | refine gp (p_lss rfl rfl) ?_ | refine gp (p_add rfl rfl (by exact wr (by omega) (by omega))) ?_) | refine gp (p_field rfl (by simp only [Nat.reduceAdd]; rfl)) ?_ | refine gp (p_indexo HM rfl (by first | with_reducible rfl | omega) rfl (by omega) (by omega)) ?_ | refine gp (p_len rfl) ?_ | refine gp (p_not rfl) ?_ | refine gp (p_build rfl) ?_ | refine gp (p_pick1 rfl (by first | rfl | (simp; omega)) rfl) ?_ | refine gp (p_nil rfl) ?_) | (refine gGV ?_; first | refine gv (p_load rfl) ?_ | refine gv (p_loado rfl rfl (by omega) (by omega) rfl) ?_) | (refine gL ?_; first | refine s_gp rfl rfl ?_ | refine s_gv HM rfl ?_ | refine s_pv (p_nil rfl) rfl ?_ | (refine gStore ?_; (refine s_store HM rfl rfl rfl rfl ?_; intro W1 HM1; clear HM; have HM := HM1; clear HM1)) | (refine gCall ?_; first | (refine s_fn rfl rfl ?_; (go_at_call 96; obtain ⟨F1, hF1⟩ := HM.own (A := ju.a1.1); have HB := (Mem.start _).robox (HM.heap (g := g)); refine (containsSlot g (rd tStr u.wishes k) (ro_slots hF1) (by omega) HB).mono ?_; clear hF1; rintro e W1 ⟨rfl, HM1⟩; refine ⟨_, rfl, ?_⟩; have HM2 := HM.step HM1.below; clear HM HM1 HB; have HM := HM2; clear HM2)) | (refine s_append1 HM rfl rfl (by first | with_reducible rfl | omega) rfl rfl (by omega) rfl ?_; intro A1 c1 W1 HM1; clear HM; have HM := HM1; clear HM1)) | (refine s_alloc HM rfl ?_; intro g W1 HM1; clear HM; have HM := HM1; clear HM1) | (refine s_lit1 HM rfl rfl rfl ?_; intro g W1 HM1; clear HM; have HM := HM1; clear HM1) | refine l_nil ?_ | refine s_guard_on rfl rfl rfl rfl (by (simp; omega)) ?_) | (refine gC ?_; first | refine c_seq ?_ | refine c_region ?_ | refine c_block ?_ | refine c_skip ?_ | refine c_yes rfl (by (simp; omega)) ?_) | (refine gN ?_; first | refine n_then ?_ | refine n_block ?_ | refine d_back (by first | exact HM.drop | exact HM.drop.drop) ?_ | refine d_backT ?_) | (refine gD ?_; refine d_next rfl ?_) | (refine gO ?_; first | refine d_gp HQ HS rfl ?_ | refine d_gv HQ HS rfl ?_ | refine d_one ?_ | refine d_last ?_) | (refine gT ?_; refine d_doneT ?_))
          exact n_round (k + 1, { u with ds := u.ds ++ [⟨u.ballot, rd tStr u.wishes k⟩] }) (by repeat (first | exact trivial | refine And.intro (by first | rfl | exact look_int rfl (by omega)) ?_)) ⟨hlt, hst, hvn, hlu, e1, ⟨ju.a0, (A1, c1), ju.a2, ju.a3, ju.a4, ju.a5, ju.a6⟩, rfl, by rw [hR]; exact (by simp only [boxR, partRcd, List.cons_append, List.nil_append]; exact HM.sb)⟩ (by dsimp only; omega)
        · have e : layWish u (rd tStr u.wishes k) = u := if_neg (fun h => c2 h.2)
          rw [e] at hst
          repeat (first | (refine gL ?_; refine s_pv (p_makeFunc rfl rfl) rfl ?_) | (refine gGP ?_; first | refine gp (p_move rfl) ?_ | (refine gGB ?_; first | refine gp (p_lss rfl rfl) ?_ | refine gp (p_add rfl rfl (by exact wr (by omega) (by omega))) ?_) | refine gp (p_field rfl (by simp only [Nat.reduceAdd]; rfl)) ?_ | refine gp (p_indexo HM rfl (by first | with_reducible rfl | omega) rfl (by omega) (by omega)) ?_ | refine gp (p_len rfl) ?_ | refine gp (p_not rfl) ?_ | refine gp (p_pick1 rfl (by (simp; omega)) rfl) ?_) | (refine gGV ?_; first | refine gv (p_load rfl) ?_ | refine gv (p_loado rfl rfl (by omega) (by omega) rfl) ?_) | (refine gL ?_; first | refine s_gp rfl rfl ?_ | refine s_gv HM rfl ?_ | refine s_pv (p_nil rfl) rfl ?_ | (refine gStore ?_; (refine s_store HM rfl rfl rfl rfl ?_; intro W1 HM1; clear HM; have HM := HM1; clear HM1)) | (refine gCall ?_; (refine s_fn rfl rfl ?_; (go_at_call 96; obtain ⟨F1, hF1⟩ := HM.own (A := ju.a1.1); have HB := (Mem.start _).robox (HM.heap (g := g)); refine (containsSlot g (rd tStr u.wishes k) (ro_slots hF1) (by omega) HB).mono ?_; clear hF1; rintro e W1 ⟨rfl, HM1⟩; refine ⟨_, rfl, ?_⟩; have HM2 := HM.step HM1.below; clear HM HM1 HB; have HM := HM2; clear HM2))) | (refine s_alloc HM rfl ?_; intro g W1 HM1; clear HM; have HM := HM1; clear HM1) | refine l_nil ?_ | refine s_guard_on rfl rfl rfl rfl (by (simp; omega)) ?_) | (refine gC ?_; first | refine c_seq ?_ | refine c_region ?_ | refine c_block ?_ | refine c_skip ?_ | refine c_yes rfl (by (simp; omega)) ?_ | refine c_no rfl (by (simp; omega)) ?_) | (refine gN ?_; first | refine n_then ?_ | refine n_block ?_))
          exact n_round (k + 1, u) (by repeat (first | exact trivial | refine And.intro (by first | rfl | exact look_int rfl (by omega)) ?_)) ⟨hlt, hst, hvu, hlu, e1, ju, rfl, by rw [hR]; exact (by simp only [boxR, partRcd, List.cons_append, List.nil_append]; exact HM.sb)⟩ (by dsimp only; omega)
      · rw [List.drop_eq_nil_of_le (by omega), List.foldl_nil] at hz
        rw [← hz]
        repeat (first | (refine gGP ?_; (refine gGB ?_; refine gp (p_lss rfl rfl) ?_)) | (refine gL ?_; first | refine s_gp rfl rfl ?_ | refine l_nil ?_) | (refine gC ?_; first | refine c_seq ?_ | refine c_region ?_ | refine c_exit ?_ | refine c_no rfl (by (simp; omega)) ?_) | (refine gN ?_; first | refine n_then ?_ | refine x_then ?_ | refine x_here ?_))
        exact n_mid ju (by repeat (first | exact trivial | refine And.intro (by first | rfl | exact look_int rfl (by omega)) ?_)) (by rw [hR]; exact pk_boxr HM)
    clear HM0
    rintro ju W1 HM
    clear hv3 hl3 hwx
    generalize y.wishes.foldl layWish y = u at *
    have huo : 0 ≤ u.of ∧ u.of ≤ 5 := ⟨by have := hv4.of1; omega, hv4.of5⟩
    have hud0 := hv4.disk.k0
    have hud1 := hv4.disk.k1
    have hudl := hv4.disk.slots.1
    have hnat : ((u.dk.toNat : Nat) : Int) = u.dk := by omega
    have hlen1 := othersL_len u.number ⟨5, 0, 0, u.ballot, 0, u.dk, ⟨#[]⟩, []⟩ u.of.toNat 1 x.held
    have hO1 : leadOut u x.held = accOut u (u.ds.length - u.dk.toNat) u.dk.toNat (othL u x.held ⟨5, 0, 0, u.ballot, 0, u.dk, ⟨#[]⟩, []⟩) := rfl
    rw [hO1]
    clear hO1
    change (othL u x.held ⟨5, 0, 0, u.ballot, 0, u.dk, ⟨#[]⟩, []⟩).length ≤ _ at hlen1
    obtain ⟨o1, ho1⟩ : ∃ o1, o1 = othL u x.held ⟨5, 0, 0, u.ballot, 0, u.dk, ⟨#[]⟩, []⟩ := ⟨_, rfl⟩
    rw [← ho1] at hlen1 ⊢
    rw [hR] at HM
    simp only [boxR, partRcd, List.cons_append, List.nil_append] at HM
    repeat (first | (refine gL ?_; refine s_pv (p_makeFunc rfl rfl) rfl ?_) | (refine gGP ?_; refine gp (p_field rfl (by simp only [Nat.reduceAdd]; rfl)) ?_) | (refine gGV ?_; refine gv (p_load rfl) ?_) | (refine gL ?_; first | refine s_gp rfl rfl ?_ | refine s_gv HM rfl ?_ | refine s_pv (p_nil rfl) rfl ?_ | (refine gStore ?_; (refine s_store HM rfl rfl rfl rfl ?_; intro W1 HM1; clear HM; have HM := HM1; clear HM1)) | (refine gCall ?_; (refine s_fn rfl rfl ?_; (go_at_call 98; refine (others2M (L := L) u ju gr (g3 := g3) (g1 := g1) (A := i.a2.1) (c := i.a2.2) (o := x.held) huo (by omega) (by simp only [boxR, partRcd, List.cons_append, List.nil_append]; exact HM.sb)).mono ?_; rw [← ho1]; rintro e W1 ⟨A1, c1, rfl, HM1⟩; refine ⟨_, rfl, ?_⟩; clear HM; have HM := HM1; clear HM1; simp only [boxR, partRcd, List.cons_append, List.nil_append] at HM))) | (refine s_alloc HM rfl ?_; intro g W1 HM1; clear HM; have HM := HM1; clear HM1) | refine l_nil ?_) | (refine gC ?_; first | refine c_seq ?_ | refine c_region ?_ | refine c_block ?_) | (refine gN ?_; refine n_then ?_))
    obtain ⟨o2, ho2⟩ : ∃ o2, o2 = accOut u (u.ds.length - u.dk.toNat) u.dk.toNat o1 := ⟨_, rfl⟩
    rw [← ho2]
    refine c_loop2 (σ := Nat × List Msg × Nat) (fun s A c => [(1, .pointer (some ⟨g1, 0, none⟩)), (3, .pointer (some ⟨g3, 0, none⟩)), (8, .pointer (some ⟨s.2.2, 0, none⟩))]) (fun s A c W1 => s.1 ≤ u.ds.length ∧ accOut u (u.ds.length - s.1) s.1 s.2.1 = o2 ∧ s.2.1.length ≤ 1000 + 5 * s.1 ∧ Mem w0 W1 (own (tMsg 105) 52 A c s.2.1 :: box g3 35 [.slice A s.2.1.length c] :: box g1 113 [.pointer (some ⟨gr, 0, none⟩)] :: box s.2.2 3 [.int .i64 s.1] :: (boxR 105 52 9 3 104 38 gr u ju ++ L))) (fun s => u.ds.length - s.1) (u.dk.toNat, o1, g) A1 c1 (by repeat (first | exact trivial | refine And.intro (by first | rfl | exact look_int rfl (by omega)) ?_)) ⟨by dsimp only; omega, ho2.symm, by dsimp only; omega, by dsimp only; rw [hnat]; exact (by simp only [boxR, partRcd, List.cons_append, List.nil_append]; exact HM.sb)⟩ ?_
    clear HM
    rintro ⟨k, o, g8⟩ A c W1 ⟨hk, hz, hol, HM⟩
    dsimp only at hk hz hol HM ⊢
    simp only [boxR, partRcd, List.cons_append, List.nil_append] at HM
    by_cases hlt : k < u.ds.length
    · rw [show u.ds.length - k = (u.ds.length - (k + 1)) + 1 by omega, accOut] at hz
      have hlen2 := othersL_len u.number ⟨3, 0, 0, u.ballot, (k : Int) + 1, 0, (rd tSlot u.ds k).text, []⟩ u.of.toNat 1 o
      change (othL u o ⟨3, 0, 0, u.ballot, (k : Int) + 1, 0, (rd tSlot u.ds k).text, []⟩).length ≤ _ at hlen2
      obtain ⟨o3, ho3⟩ : ∃ o3, o3 = othL u o ⟨3, 0, 0, u.ballot, (k : Int) + 1, 0, (rd tSlot u.ds k).text, []⟩ := ⟨_, rfl⟩
      rw [← ho3] at hz hlen2
      repeat (first | (refine gR ?_; refine d_start [] [(1, 0), (1, 1), (0, 2), (0, 3), (0, 4), (1, 5), (0, 6), (0, 7)] HM (by kernel_rfl) (by kernel_rfl) (by repeat (first | exact qp_body | refine qp_then ?_ | refine qp_block ?_)) (by kernel_rfl) rfl ?_; intro HQ HS W1 HM1; clear HM; have HM := HM1; clear HM1) | (refine gL ?_; refine s_pv (p_makeFunc rfl rfl) rfl ?_) | (refine gGP ?_; first | (refine gGB ?_; first | refine gp (p_lss rfl rfl) ?_ | refine gp (p_add rfl rfl (by exact wr (by omega) (by omega))) ?_) | refine gp (p_field rfl (by simp only [Nat.reduceAdd]; rfl)) ?_ | refine gp (p_len rfl) ?_ | refine gp (p_nil rfl) ?_) | (refine gGV ?_; refine gv (p_load rfl) ?_) | (refine gL ?_; first | refine s_gp rfl rfl ?_ | refine s_gv HM rfl ?_ | (refine gStore ?_; (refine s_store HM rfl rfl rfl rfl ?_; intro W1 HM1; clear HM; have HM := HM1; clear HM1)) | (refine gCall ?_; (refine s_fn rfl rfl ?_; (go_at_call 98; refine (others3M (L := L) u ju gr (g8 := g8) k hlt hudl (g3 := g3) (g1 := g1) (A := A) (c := c) (o := o) huo (by omega) (by simp only [boxR, partRcd, List.cons_append, List.nil_append]; exact HM.sb)).mono ?_; rw [← ho3]; rintro e W1 ⟨A1, c1, rfl, HM1⟩; refine ⟨_, rfl, ?_⟩; clear HM; have HM := HM1; clear HM1; simp only [boxR, partRcd, List.cons_append, List.nil_append] at HM))) | (refine s_alloc HM rfl ?_; intro g W1 HM1; clear HM; have HM := HM1; clear HM1) | refine l_nil ?_) | (refine gC ?_; first | refine c_seq ?_ | refine c_region ?_ | refine c_block ?_ | refine c_skip ?_ | refine c_yes rfl (by (simp; omega)) ?_) | (refine gN ?_; first | refine n_then ?_ | refine n_block ?_) | (refine gD ?_; first | refine d_next rfl ?_ | refine d_done ?_) | (refine gO ?_; first | refine d_gp HQ HS rfl ?_ | refine d_gv HQ HS rfl ?_))
      exact n_round2 (k + 1, o3, g) A1 c1 (by repeat (first | exact trivial | refine And.intro (by first | rfl | exact look_int rfl (by omega)) ?_)) ⟨by dsimp only; omega, hz, by dsimp only; omega, by dsimp only; simp only [Int.natCast_add, Int.natCast_one]; exact (by simp only [boxR, partRcd, List.cons_append, List.nil_append]; exact HM.sb)⟩ (by dsimp only; omega)
    · rw [show u.ds.length - k = 0 by omega, accOut] at hz
      subst hz
      repeat (first | (refine gR ?_; refine d_start [] [(1, 0), (1, 1), (0, 2), (0, 3), (0, 4), (1, 5), (0, 6), (0, 7)] HM (by kernel_rfl) (by kernel_rfl) (by repeat (first | exact qp_body | refine qp_then ?_ | refine qp_block ?_)) (by kernel_rfl) rfl ?_; intro HQ HS W1 HM1; clear HM; have HM := HM1; clear HM1) | (refine gGP ?_; first | refine gp (p_assign rfl) ?_ | (refine gGB ?_; refine gp (p_lss rfl rfl) ?_) | refine gp (p_field rfl (by simp only [Nat.reduceAdd]; rfl)) ?_ | refine gp (p_len rfl) ?_ | refine gp (p_nil rfl) ?_) | (refine gGV ?_; refine gv (p_load rfl) ?_) | (refine gL ?_; first | refine s_gp rfl rfl ?_ | refine s_gv HM rfl ?_ | refine l_nil ?_) | (refine gC ?_; first | refine c_seq ?_ | refine c_region ?_ | refine c_exit ?_ | refine c_ret ?_ | refine c_no rfl (by (simp; omega)) ?_) | (refine gN ?_; first | refine n_then ?_ | refine x_then ?_ | refine x_here ?_ | refine r_then ?_) | (refine gD ?_; first | refine d_next rfl ?_ | refine d_done ?_) | (refine gO ?_; first | refine d_gp HQ HS rfl ?_ | refine d_gv HQ HS rfl ?_))
      exact ret_tmp rfl rfl ⟨ju, A, c, rfl, by simp only [boxR, partRcd, List.cons_append, List.nil_append]; exact HM.sb⟩
  rw [if_neg cl, if_neg cl]
  simp only [Bool.not_eq_true] at cl
  have hzh0 := hv2.h0
  have hzh1 := hv2.h1
  have hzn1 := hv2.n1
  have hzn2 := hv2.no
  rw [hR] at HM
  simp only [boxR, partRcd, List.cons_append, List.nil_append] at HM
  by_cases c1 : 4 + 3 * z.number < z.heard
  rotate_left
  · have e : tick3 z = z := if_neg c1
    rw [e]
    repeat (first | (refine gR ?_; refine d_start [] [(1, 0), (0, 1), (0, 2), (1, 3), (1, 4), (0, 5), (0, 6), (1, 7), (0, 8), (0, 9), (0, 10)] HM (by kernel_rfl) (by kernel_rfl) (by repeat (first | exact qp_body | refine qp_then ?_ | refine qp_block ?_)) (by kernel_rfl) rfl ?_; intro HQ HS W1 HM1; clear HM; have HM := HM1; clear HM1) | (refine gGP ?_; first | refine gp (p_assign rfl) ?_ | (refine gGB ?_; first | refine gp (p_gtr rfl rfl) ?_ | refine gp (p_add rfl rfl (by first | exact wr (by omega) (by omega) | rfl)) ?_ | refine gp (p_mul rfl rfl (by exact wr (by omega) (by omega))) ?_) | refine gp (p_field rfl (by simp only [Nat.reduceAdd]; rfl)) ?_ | refine gp (p_nil rfl) ?_) | (refine gGV ?_; refine gv (p_load rfl) ?_) | (refine gL ?_; first | refine s_gp rfl rfl ?_ | refine s_gv HM rfl ?_ | refine s_pv (p_nil rfl) rfl ?_ | refine l_nil ?_) | (refine gC ?_; first | refine c_seq ?_ | refine c_region ?_ | refine c_skip ?_ | refine c_ret ?_ | refine c_no rfl (by first | assumption | (simp; omega)) ?_) | (refine gN ?_; refine n_then ?_) | (refine gD ?_; first | refine d_next rfl ?_ | refine d_done ?_) | (refine gO ?_; first | refine d_gp HQ HS rfl ?_ | refine d_gv HQ HS rfl ?_))
    exact ret_tmp rfl rfl ⟨jz, i.a2.1, i.a2.2, rfl, by simp only [boxR, partRcd, List.cons_append, List.nil_append]; exact HM.sb⟩
  obtain ⟨b, hb⟩ : ∃ b, b = nextL z.dp z.number z.of := ⟨_, rfl⟩
  have hbr := nextL_range (a := z.dp) (n := z.number) (o := z.of)
  rw [← hb] at hbr
  have e : tick3 z = (if 0 < b then tick4 z b else { calmL z with heard := 0 }) := by rw [hb]; exact if_pos c1
  rw [e]
  clear e
  repeat (first | (refine gR ?_; refine d_start [] [(1, 0), (0, 1), (0, 2), (1, 3), (1, 4), (0, 5), (0, 6), (1, 7), (0, 8), (0, 9), (0, 10)] HM (by kernel_rfl) (by kernel_rfl) (by repeat (first | exact qp_body | refine qp_then ?_ | refine qp_block ?_)) (by kernel_rfl) rfl ?_; intro HQ HS W1 HM1; clear HM; have HM := HM1; clear HM1) | (refine gGP ?_; first | (refine gGB ?_; first | refine gp (p_gtr rfl rfl) ?_ | refine gp (p_add rfl rfl (by first | exact wr (by omega) (by omega) | rfl)) ?_ | refine gp (p_mul rfl rfl (by exact wr (by omega) (by omega))) ?_) | refine gp (p_field rfl (by simp only [Nat.reduceAdd]; rfl)) ?_ | refine gp (p_nil rfl) ?_) | (refine gGV ?_; refine gv (p_load rfl) ?_) | (refine gL ?_; first | refine s_gp rfl rfl ?_ | refine s_gv HM rfl ?_ | refine s_pv (p_nil rfl) rfl ?_ | (refine gStore ?_; (refine s_store HM rfl rfl rfl rfl ?_; intro W1 HM1; clear HM; have HM := HM1; clear HM1)) | (refine gCall ?_; (refine s_fn rfl rfl ?_; (go_at_call 101; refine (quietM z jz gr (by exact pk_boxr HM)).mono ?_; rintro e W1 ⟨j2, rfl, HM1⟩; refine ⟨_, rfl, ?_⟩; clear HM; have HM := HM1; clear HM1; simp only [calmL, boxR, partRcd, List.cons_append, List.nil_append] at HM))) | refine l_nil ?_) | (refine gC ?_; first | refine c_seq ?_ | refine c_region ?_ | refine c_skip ?_ | refine c_yes rfl (by first | rfl | (simp; omega)) ?_ | refine c_no rfl (by first | rfl | assumption) ?_) | (refine gN ?_; refine n_then ?_) | (refine gD ?_; first | refine d_next rfl ?_ | refine d_done ?_) | (refine gO ?_; first | refine d_gp HQ HS rfl ?_ | refine d_gv HQ HS rfl ?_))
  refine c_cutn (σ := Nat) (fun s => [(1, .pointer (some ⟨g1, 0, none⟩)), (3, .pointer (some ⟨g3, 0, none⟩)), (9, .pointer (some ⟨s, 0, none⟩))]) (fun s W1 => Mem w0 W1 (box s 3 [.int .i64 b] :: (boxR 105 52 9 3 104 38 gr { calmL z with heard := 0 } j2 ++ R))) ?_ ?_
  · have hbr0 := hbr.1
    refine gR ?_
    refine x_start (ds := []) HM (fun w hw => hw) (by kernel_rfl) (by kernel_rfl) (by repeat (first | exact qp_body | refine qp_then ?_ | refine qp_block ?_)) ?_
    intro HQ HS W1 HM1; clear HM; have HM := HM1; clear HM1
    refine x_ld HQ HS 0 rfl (by kernel_rfl) (by kernel_rfl) (by kernel_rfl) (by kernel_rfl) (l' := #[true, false, false, false, false, false, false, false, false, false, false, false, false, false, false, false]) (by kernel_rfl) rfl ?_
    refine gGV ?_; refine gv (p_load rfl) ?_
    refine x_pv HQ HS 1 rfl (by kernel_rfl) (by kernel_rfl) (l' := #[true, true, false, false, false, false, false, false, false, false, false, false, false, false, false, false]) (by kernel_rfl) rfl ?_
    refine gGP ?_; refine gp (p_nil rfl) ?_
    refine x_pv HQ HS 2 rfl (by kernel_rfl) (by kernel_rfl) (l' := #[true, true, true, false, false, false, false, false, false, false, false, false, false, false, false, false]) (by kernel_rfl) rfl ?_
    refine gGP ?_; refine gp (p_field rfl (by simp only [Nat.reduceAdd]; rfl)) ?_
    refine x_pv HQ HS 3 rfl (by kernel_rfl) (by kernel_rfl) (l' := #[true, true, true, true, false, false, false, false, false, false, false, false, false, false, false, false]) (by kernel_rfl) rfl ?_
    refine gGP ?_; refine gp (p_field rfl (by simp only [Nat.reduceAdd]; rfl)) ?_
    refine x_ld HQ HS 4 rfl (by kernel_rfl) (by kernel_rfl) (by kernel_rfl) (by kernel_rfl) (l' := #[true, true, true, true, true, false, false, false, false, false, false, false, false, false, false, false]) (by kernel_rfl) rfl ?_
    refine gGV ?_; refine gv (p_load rfl) ?_
    refine x_ld HQ HS 5 rfl (by kernel_rfl) (by kernel_rfl) (by kernel_rfl) (by kernel_rfl) (l' := #[true, true, true, true, true, true, false, false, false, false, false, false, false, false, false, false]) (by kernel_rfl) rfl ?_
    refine gGV ?_; refine gv (p_load rfl) ?_
    refine x_pv HQ HS 6 rfl (by kernel_rfl) (by kernel_rfl) (l' := #[true, true, true, true, true, true, true, false, false, false, false, false, false, false, false, false]) (by kernel_rfl) rfl ?_
    refine gGP ?_; refine gp (p_nil rfl) ?_
    refine x_pv HQ HS 7 rfl (by kernel_rfl) (by kernel_rfl) (l' := #[true, true, true, true, true, true, true, true, false, false, false, false, false, false, false, false]) (by kernel_rfl) rfl ?_
    refine gGP ?_; refine gp (p_field rfl (by simp only [Nat.reduceAdd]; rfl)) ?_
    refine x_ld HQ HS 8 rfl (by kernel_rfl) (by kernel_rfl) (by kernel_rfl) (by kernel_rfl) (l' := #[true, true, true, true, true, true, true, true, true, false, false, false, false, false, false, false]) (by kernel_rfl) rfl ?_
    refine gGV ?_; refine gv (p_load rfl) ?_
    refine x_ld HQ HS 9 rfl (by kernel_rfl) (by kernel_rfl) (by kernel_rfl) (by kernel_rfl) (l' := #[true, true, true, true, true, true, true, true, true, true, false, false, false, false, false, false]) (by kernel_rfl) rfl ?_
    refine gGV ?_; refine gv (p_load rfl) ?_
    refine x_pv HQ HS 10 rfl (by kernel_rfl) (by kernel_rfl) (l' := #[true, true, true, true, true, true, true, true, true, true, true, false, false, false, false, false]) (by kernel_rfl) rfl ?_
    refine gGP ?_; refine gp (p_nil rfl) ?_
    refine x_pv HQ HS 11 rfl (by kernel_rfl) (by kernel_rfl) (l' := #[true, true, true, true, true, true, true, true, true, true, true, true, false, false, false, false]) (by kernel_rfl) rfl ?_
    refine gGP ?_; refine gp (p_field rfl (by simp only [Nat.reduceAdd]; rfl)) ?_
    refine x_ld HQ HS 12 rfl (by kernel_rfl) (by kernel_rfl) (by kernel_rfl) (by kernel_rfl) (l' := #[true, true, true, true, true, true, true, true, true, true, true, true, true, false, false, false]) (by kernel_rfl) rfl ?_
    refine gGV ?_; refine gv (p_load rfl) ?_
    refine x_two 13 14 (by kernel_rfl) rfl rfl (l' := #[true, true, true, true, true, true, true, true, true, true, true, true, true, true, false, false]) (l'' := #[true, true, true, true, true, true, true, true, true, true, true, true, true, false, true, false]) (by kernel_rfl) (by kernel_rfl) (x_go ?_) (x_go ?_)
    · repeat (first | (refine gL ?_; first | (refine gCall ?_; (refine s_fn rfl rfl ?_; (go_at_call 102; refine (nextM z.dp z.number z.of HM).mono ?_; rw [← hb]; rintro e W1 ⟨rfl, HM1⟩; refine ⟨_, rfl, ?_⟩; clear HM; have HM := HM1; clear HM1))) | refine l_nil ?_) | (refine gN ?_; refine x_back (by exact HM) ?_))
      refine x_one 14 (by kernel_rfl) rfl (l' := #[true, true, true, true, true, true, true, true, true, true, true, true, true, true, true, false]) (by kernel_rfl) (x_go ?_)
      repeat (first | (refine gL ?_; first | (refine s_alloc HM rfl ?_; intro g W1 HM1; clear HM; have HM := HM1; clear HM1) | refine l_nil ?_) | (refine gN ?_; refine x_back (by exact HM.drop) ?_))
      refine x_one 15 (by kernel_rfl) rfl (l' := #[true, true, true, true, true, true, true, true, true, true, true, true, true, true, true, true]) (by kernel_rfl) (x_go ?_)
      repeat (first | (refine gL ?_; first | (refine gStore ?_; (refine s_store HM rfl rfl rfl rfl ?_; intro W1 HM1; clear HM; have HM := HM1; clear HM1)) | refine l_nil ?_) | (refine gN ?_; refine x_back (by exact HM.drop) ?_))
      refine x_done (by kernel_rfl) ?_
      exact n_mid g (by repeat (first | exact trivial | refine And.intro (by first | rfl | exact look_int rfl (by omega)) ?_)) (by rw [hR]; simp only [calmL, boxR, partRcd, List.cons_append, List.nil_append]; exact HM.sb)
    · repeat (first | (refine gL ?_; first | (refine s_alloc HM rfl ?_; intro g W1 HM1; clear HM; have HM := HM1; clear HM1) | refine l_nil ?_) | (refine gN ?_; refine x_back (by exact HM.drop) ?_))
      refine x_one 13 (by kernel_rfl) rfl (l' := #[true, true, true, true, true, true, true, true, true, true, true, true, true, true, true, false]) (by kernel_rfl) (x_go ?_)
      repeat (first | (refine gL ?_; first | (refine gCall ?_; (refine s_fn rfl rfl ?_; (go_at_call 102; refine (nextM z.dp z.number z.of HM).mono ?_; rw [← hb]; rintro e W1 ⟨rfl, HM1⟩; refine ⟨_, rfl, ?_⟩; clear HM; have HM := HM1; clear HM1))) | refine l_nil ?_) | (refine gN ?_; refine x_back (by exact HM.drop) ?_))
      refine x_one 15 (by kernel_rfl) rfl (l' := #[true, true, true, true, true, true, true, true, true, true, true, true, true, true, true, true]) (by kernel_rfl) (x_go ?_)
      repeat (first | (refine gL ?_; first | (refine gStore ?_; (refine s_store HM rfl rfl rfl rfl ?_; intro W1 HM1; clear HM; have HM := HM1; clear HM1)) | refine l_nil ?_) | (refine gN ?_; refine x_back (by exact HM.drop) ?_))
      refine x_done (by kernel_rfl) ?_
      exact n_mid g (by repeat (first | exact trivial | refine And.intro (by first | rfl | exact look_int rfl (by omega)) ?_)) (by rw [hR]; simp only [calmL, boxR, partRcd, List.cons_append, List.nil_append]; exact HM.sb)
  clear HM
  rintro g9 W1 HM
  dsimp only at HM ⊢
  rw [hR] at HM
  simp only [calmL, boxR, partRcd, List.cons_append, List.nil_append] at HM
  by_cases c2 : 0 < b
  rotate_left
  · rw [if_neg c2]
    repeat (first | (refine gGP ?_; first | refine gp (p_assign rfl) ?_ | (refine gGB ?_; refine gp (p_gtr rfl rfl) ?_)) | (refine gGV ?_; refine gv (p_load rfl) ?_) | (refine gL ?_; first | refine s_gp rfl rfl ?_ | refine s_gv HM rfl ?_ | refine l_nil ?_) | (refine gC ?_; first | refine c_seq ?_ | refine c_region ?_ | refine c_skip ?_ | refine c_ret ?_ | refine c_no rfl (by (simp; omega)) ?_) | (refine gN ?_; refine n_then ?_))
    exact ret_tmp rfl rfl ⟨j2, i.a2.1, i.a2.2, rfl, by simp only [calmL, boxR, partRcd, List.cons_append, List.nil_append]; exact HM.sb⟩
  rw [if_pos c2]
  obtain ⟨u, hu4⟩ : ∃ u, u = holdAll (othL { calmL z with heard := 0, dp := b, ballot := b, trying := true } [] ⟨1, 0, 0, b, 0, 0, ⟨#[]⟩, []⟩) { calmL z with heard := 0, dp := b, ballot := b, trying := true } := ⟨_, rfl⟩
  have e4 : tick4 z b = u := hu4.symm
  rw [e4]
  clear e4
  have HM2 := HM.perm (List.Perm.swap ..)
  clear HM
  have HM := HM2
  clear HM2
  repeat (first | (refine gR ?_; refine d_startd [14] [(1, 0), (1, 1), (1, 2), (1, 3), (1, 4), (0, 5), (0, 6), (0, 7), (2, 8), (0, 9), (0, 10), (2, 11), (0, 12), (0, 13), (3, 14)] HM (by kernel_rfl) (by kernel_rfl) (by repeat (first | exact qp_body | refine qp_then ?_ | refine qp_block ?_)) (by kernel_rfl) rfl ?_; intro HQ HS W1 HM1; clear HM; have HM := HM1; clear HM1) | (refine gL ?_; refine s_pv (p_makeFunc rfl rfl) rfl ?_) | (refine gGP ?_; first | refine gp (p_assign rfl) ?_ | (refine gGB ?_; refine gp (p_gtr rfl rfl) ?_) | refine gp (p_field rfl (by simp only [Nat.reduceAdd]; rfl)) ?_ | refine gp (p_nil rfl) ?_) | (refine gGV ?_; refine gv (p_load rfl) ?_) | (refine gL ?_; first | refine s_gp rfl rfl ?_ | refine s_gv HM rfl ?_ | (refine gStore ?_; (refine s_store HM rfl rfl rfl rfl ?_; intro W1 HM1; clear HM; have HM := HM1; clear HM1)) | (refine gCall ?_; (refine s_fn rfl rfl ?_; (go_at_call 98; refine (others4M (L := own (tMsg 105) 52 i.a2.1 i.a2.2 x.held :: box g3 35 [.slice i.a2.1 x.held.length i.a2.2] :: L) { calmL z with heard := 0, dp := b, ballot := b, trying := true } j2 gr b (g1 := g1) (g9 := g9) hof (by simp only [calmL, boxR, partRcd, List.cons_append, List.nil_append]; exact HM.sb)).mono ?_; rw [← hu4]; rintro e W1 ⟨j4, rfl, HM1⟩; refine ⟨_, rfl, ?_⟩; clear HM; have HM := HM1; clear HM1; simp only [boxR, partRcd, List.cons_append, List.nil_append] at HM))) | refine l_nil ?_) | (refine gC ?_; first | refine c_seq ?_ | refine c_region ?_ | refine c_ret ?_ | refine c_yes rfl (by (simp; omega)) ?_) | (refine gN ?_; first | refine n_then ?_ | refine d_back (by exact HM.drop) ?_ | refine d_backT ?_) | (refine gD ?_; refine d_next rfl ?_) | (refine gO ?_; first | refine d_gp HQ HS rfl ?_ | refine d_gv HQ HS rfl ?_ | refine d_one ?_ | refine d_last ?_) | (refine gT ?_; refine d_doneT ?_))
  exact ret_tmp rfl rfl ⟨j4, i.a2.1, i.a2.2, rfl, by simp only [boxR, partRcd, List.cons_append, List.nil_append]; exact HM.sb⟩
end Go.Proofs.YtkfogbonjpdkbaaGreat.Sp
namespace Go.Proofs.YtkfogbonjpdkbaaGreat.Sp
open Go Go.RowKit
set_option linter.unusedVariables false
set_option linter.unusedSimpArgs false
set_option maxRecDepth 10000
set_option maxHeartbeats 2000000
variable {w0 W : World} {L : List Asn}
theorem clone_l {b : Bool} (x : Rcd) (i : AtRcd) (h : RoRcd b w0 x i) (hn : SmallR x) (HM : Mem w0 W L) : Calls Tryz.prog 45 #[.agg ([.int .i64 x.number, .int .i64 x.of, .bool x.up, .int .i64 x.sp, .int .i64 x.sk, .slice i.a0.1 x.ss.length i.a0.2, .int .i64 x.dp, .int .i64 x.dk, .slice i.a1.1 x.ds.length i.a1.2, .slice i.a2.1 x.held.length i.a2.2, .slice i.a3.1 x.wishes.length i.a3.2, .bool x.lead, .bool x.trying, .int .i64 x.ballot, .slice i.a4.1 x.yes.length i.a4.2, .slice i.a5.1 x.best.length i.a5.2, .slice i.a6.1 x.acks.length i.a6.2, .int .i64 x.heard]).toArray] W fun e W' => ∃ j, e = .returned (.agg (encRcd x j).toArray) ∧ Mem w0 W' (partRcd 105 52 9 3 104 x j ++ L) := clone_c x i h hn HM
theorem implRecTick (x : Rcd) (i : AtRcd) (h : RoRcd false w0 x i) (hc : x.ds.length ≤ i.a1.2 ∧ x.wishes.length ≤ i.a3.2) (hn : SmallR x) (HM : Mem w0 W L) : Calls Tryz.prog 8 #[.agg (encRcd x i).toArray] W fun e W' => ∃ j A c, e = .returned (.tuple #[.agg (encRcd (recTickL x) j).toArray, .slice A (recTickO x).length c]) ∧ Mem w0 W' (own (tMsg 105) 52 A c (recTickO x) :: (partRcd 105 52 9 3 104 (recTickL x) j ++ L)) := by
  refine enter Tryz.func8 rfl Tryz.ntmps8 [(0, .agg (encRcd x i).toArray)] rfl ⟨rfl, trivial⟩ ?_
  have h0 := h
  have hw := hc.2
  unfold encRcd
  by_cases hv : validB x = true
  rotate_left
  · simp only [Bool.not_eq_true] at hv
    have e : recTickL x = zeroR := by simp [recTickL, hv]
    have e2 : recTickO x = [] := by simp [recTickO, hv]
    rw [e, e2]
    repeat (first | (refine gGP ?_; first | refine gp (p_assign rfl) ?_ | refine gp (p_not rfl) ?_ | refine gp (p_build rfl) ?_) | (refine gGV ?_; refine gv (p_loads rfl) ?_) | (refine gL ?_; first | refine s_gp rfl rfl ?_ | refine s_gv HM rfl ?_ | (refine gStore ?_; (refine s_store HM rfl rfl rfl rfl ?_; intro W1 HM1; clear HM; have HM := HM1; clear HM1)) | (refine gCall ?_; (refine s_fn rfl rfl ?_; (go_at_call 44; refine (implValid x i h0 hw hn HM).mono ?_; rintro e W1 ⟨rfl, HM1⟩; refine ⟨_, rfl, ?_⟩; clear HM; have HM := HM1; clear HM1))) | (refine s_box HM rfl rfl ?_; intro g W1 HM1; clear HM; have HM := HM1; clear HM1) | (refine s_alloc HM rfl ?_; intro g W1 HM1; clear HM; have HM := HM1; clear HM1) | refine l_nil ?_) | (refine gC ?_; first | refine c_seq ?_ | refine c_region ?_ | refine c_ret ?_ | refine c_yes rfl (by (simp; omega)) ?_) | (refine gN ?_; first | refine n_then ?_ | refine r_then ?_))
    have HM2 := (HM.zeroR 105 52 9 3 104).nil (tMsg 105) 52
    simp only [partRcd, zeroR, atZ, List.cons_append, List.nil_append] at HM2
    exact ret_ct HM2 rfl rfl rfl rfl ⟨atZ, none, 0, rfl, by simp only [partRcd, zeroR, atZ, List.cons_append, List.nil_append]; exact HM2.sb⟩
  have hV := validB_iff.1 hv
  by_cases hu : x.up = true
  rotate_left
  · simp only [Bool.not_eq_true] at hu
    have e : recTickL x = x := by simp [recTickL, hv, hu]
    have e2 : recTickO x = [] := by simp [recTickO, hv, hu]
    rw [e, e2]
    repeat (first | (refine gGP ?_; first | refine gp (p_move rfl) ?_ | refine gp (p_assign rfl) ?_ | refine gp (p_not rfl) ?_) | (refine gGV ?_; refine gv (p_loads rfl) ?_) | (refine gL ?_; first | refine s_gp rfl rfl ?_ | refine s_gv HM rfl ?_ | (refine gStore ?_; (refine s_store HM rfl rfl rfl rfl ?_; intro W1 HM1; clear HM; have HM := HM1; clear HM1)) | (refine gCall ?_; (refine s_fn rfl rfl ?_; first | (go_at_call 44; refine (implValid x i h0 hw hn HM).mono ?_; rintro e W1 ⟨rfl, HM1⟩; refine ⟨_, rfl, ?_⟩; clear HM; have HM := HM1; clear HM1) | (go_at_call 45; (first | ((with_reducible refine (clone_l x i h0 hn HM).mono ?_); rintro e W1 ⟨j2, rfl, HM1⟩; refine ⟨_, rfl, ?_⟩; clear HM; have HM := HM1; clear HM1; simp only [partRcd, List.cons_append, List.nil_append] at HM; simp only [encRcd]) | (have hro := ro_rec1 (eS := 105) (eM := 52) (eT := 9) (eI := 3) (eA := 104) (x := x) (i := j3) HM; with_reducible refine (clone_l x j3 hro hn (Mem.start _)).mono ?_; clear hro; rintro e W1 ⟨j4, rfl, HM1⟩; refine ⟨_, rfl, ?_⟩; replace HM := HM.join HM1; clear HM1; simp only [partRcd, List.cons_append, List.nil_append] at HM; simp only [encRcd]))) | (go_at_call 46; refine (tickOffM x j2 _ hu (by exact pk_boxr HM)).mono ?_; rintro e W1 ⟨j3, rfl, HM1⟩; refine ⟨_, rfl, ?_⟩; clear HM; have HM := HM1; clear HM1; simp only [boxR, partRcd, List.cons_append, List.nil_append] at HM) | (go_at_call 47; have HM2 := HM.nil (tMsg 105) 52; clear HM; have HM := HM2; clear HM2; obtain ⟨F1, hF1⟩ := HM.own (A := none); refine (cloneMsgs_c (xs := []) (ro_msgs hF1) (by simp) (by simp) (Mem.start _)).mono ?_; clear hF1; rintro e W1 ⟨A5, c5, rfl, HM1⟩; refine ⟨_, rfl, ?_⟩; replace HM := HM.join HM1; clear HM1; simp only [List.cons_append, List.nil_append] at HM))) | (refine s_box HM rfl rfl ?_; intro g W1 HM1; clear HM; have HM := HM1; clear HM1) | (refine s_alloc HM rfl ?_; intro g W1 HM1; clear HM; have HM := HM1; clear HM1) | refine l_nil ?_) | (refine gC ?_; first | refine c_seq ?_ | refine c_region ?_ | refine c_skip ?_ | refine c_ret ?_ | refine c_no rfl (by (simp; omega)) ?_) | (refine gN ?_; refine n_then ?_))
    exact ret_ct HM rfl rfl rfl rfl ⟨j4, A5, c5, rfl, by simp only [boxR, partRcd, List.cons_append, List.nil_append]; exact HM.sb⟩
  have e : recTickL x = tickL x := by simp [recTickL, hv, hu]
  have e2 : recTickO x = tickOut x := by simp [recTickO, hv, hu]
  obtain ⟨hT, _, hO⟩ := vr_tick hV hu
  have hos : ∀ m ∈ tickOut x, m.slots.length ≤ 1048576 := fun m hm => by have := (hO m hm).1.slots.1; omega
  have hol := tickOut_len hV hu
  rw [e, e2]
  repeat (first | (refine gGP ?_; first | refine gp (p_move rfl) ?_ | refine gp (p_assign rfl) ?_ | refine gp (p_not rfl) ?_) | (refine gGV ?_; refine gv (p_loads rfl) ?_) | (refine gL ?_; first | refine s_gp rfl rfl ?_ | refine s_gv HM rfl ?_ | (refine gStore ?_; (refine s_store HM rfl rfl rfl rfl ?_; intro W1 HM1; clear HM; have HM := HM1; clear HM1)) | (refine gCall ?_; (refine s_fn rfl rfl ?_; first | (go_at_call 44; refine (implValid x i h0 hw hn HM).mono ?_; rintro e W1 ⟨rfl, HM1⟩; refine ⟨_, rfl, ?_⟩; clear HM; have HM := HM1; clear HM1) | (go_at_call 45; (first | ((with_reducible refine (clone_l x i h0 hn HM).mono ?_); rintro e W1 ⟨j2, rfl, HM1⟩; refine ⟨_, rfl, ?_⟩; clear HM; have HM := HM1; clear HM1; simp only [partRcd, List.cons_append, List.nil_append] at HM; simp only [encRcd]) | (have hro := ro_rec1 (eS := 105) (eM := 52) (eT := 9) (eI := 3) (eA := 104) (x := tickL x) (i := j3) HM; with_reducible refine (clone_l (tickL x) j3 hro (vr_small hT) (Mem.start _)).mono ?_; clear hro; rintro e W1 ⟨j4, rfl, HM1⟩; refine ⟨_, rfl, ?_⟩; replace HM := HM.join HM1; clear HM1; simp only [partRcd, List.cons_append, List.nil_append] at HM; simp only [encRcd]))) | (go_at_call 46; refine (tickM x j2 _ hV hu (by exact pk_boxr HM)).mono ?_; rintro e W1 ⟨j3, A4, c4, rfl, HM1⟩; refine ⟨_, rfl, ?_⟩; clear HM; have HM := HM1; clear HM1; simp only [boxR, partRcd, List.cons_append, List.nil_append] at HM) | (go_at_call 47; obtain ⟨F1, hF1⟩ := HM.own (A := A4); refine (cloneMsgs_c (xs := tickOut x) (ro_msgs hF1) (by omega) hos (Mem.start _)).mono ?_; clear hF1; rintro e W1 ⟨A5, c5, rfl, HM1⟩; refine ⟨_, rfl, ?_⟩; replace HM := HM.join HM1; clear HM1; simp only [List.cons_append, List.nil_append] at HM))) | (refine s_box HM rfl rfl ?_; intro g W1 HM1; clear HM; have HM := HM1; clear HM1) | (refine s_alloc HM rfl ?_; intro g W1 HM1; clear HM; have HM := HM1; clear HM1) | refine l_nil ?_) | (refine gC ?_; first | refine c_seq ?_ | refine c_region ?_ | refine c_skip ?_ | refine c_ret ?_ | refine c_no rfl (by (simp; omega)) ?_) | (refine gN ?_; refine n_then ?_))
  exact ret_ct HM rfl rfl rfl rfl ⟨j4, A5, c5, rfl, by simp only [boxR, partRcd, List.cons_append, List.nil_append]; exact HM.sb⟩
end Go.Proofs.YtkfogbonjpdkbaaGreat.Sp
