/- RecWish of both sides. No condition. -/
import Derived.Test.Ytokhocmopmoblaahas
import Derived.Test.Ytokhocmopmoblaapv
import Derived.Test.Ytokhocmopmoblaaclone
import Derived.Test.Ytokhocmopmoblaacopy
namespace Go.Proofs.Ytokhocmopmoblaa.Sp
open Go Go.RowKit
set_option linter.unusedVariables false
set_option linter.unusedSimpArgs false
set_option maxRecDepth 10000
set_option maxHeartbeats 1000000
variable {w0 W : World} {L : List Asn} {A : Option Addr} {c : Nat} {b : Bool}
def wishOk (x : Rcd) (t : ByteArray) : Bool := decide (1 ≤ (t.size : Int) ∧ (t.size : Int) ≤ 100) && newB x.wishes x.wishes.length t && decide ((x.wishes.length : Int) < 20) && !knownB (x.ds.take x.dk.toNat) t
def wish1 (x : Rcd) (t : ByteArray) : Rcd := if wishOk x t = true then { x with wishes := x.wishes ++ [t] } else x
def wishL (x : Rcd) (t : ByteArray) : Rcd := if validB x = true then (if x.up = true then wish1 x t else x) else zeroR
theorem small_wish1 (x : Rcd) (t : ByteArray) (hn : SmallR x) : SmallR (wish1 x t) := by
  unfold wish1
  split
  · rename_i h
    simp only [wishOk, Bool.and_eq_true, decide_eq_true_eq] at h
    obtain ⟨_, _, _, _, _, _, _, _, _⟩ := hn
    constructor <;> first | assumption | (simp; omega)
  · exact hn
theorem small_wish (x : Rcd) (t : ByteArray) (hn : SmallR x) : SmallR (wishL x t) := by
  unfold wishL
  split
  · split
    · exact small_wish1 x t hn
    · exact hn
  · constructor <;> simp [zeroR]
theorem any_pos {l : List Slot} (h : ∀ s ∈ l, 0 < s.ballot) (t : ByteArray) : hasB l t = knownB l t := by
  unfold hasB knownB
  rw [Bool.eq_iff_iff]
  simp only [List.any_eq_true, Bool.and_eq_true, decide_eq_true_eq]
  constructor
  · rintro ⟨s, hs, h1, h2⟩; exact ⟨s, hs, h2⟩
  · rintro ⟨s, hs, h2⟩; exact ⟨s, hs, h s hs, h2⟩
/-- What is known of the disk, of a valid recorder. -/
theorem known_eq {x : Rcd} (h : validB x = true) (t : ByteArray) : hasB (x.ds.take x.dk.toNat) t = knownB (x.ds.take x.dk.toNat) t := by
  have hd := (validB_iff.1 h).disk
  refine any_pos (fun s hs => ?_) t
  obtain ⟨i, hi, rfl⟩ := List.getElem_of_mem hs
  rw [List.getElem_take]
  have h1 : i < x.ds.length := by simp at hi; omega
  have h2 := hd.known i h1 (by simp at hi; have := hd.k0; omega)
  have h3 := (hd.slots.2 _ (List.getElem_mem h1)).lo
  omega
theorem disk_of_valid2 {x : Rcd} (h : validB x = true) : (0 ≤ x.dk ∧ x.dk ≤ x.ds.length) ∧ x.ds.length ≤ 60 := by
  simp only [validB, headB, diskB, slotsB, Bool.and_eq_true, decide_eq_true_eq] at h
  omega
theorem l3Wish_c (x : Rcd) (i : AtRcd) (t : ByteArray) (hv : validB x = true) (hn : SmallR x) (ht : t.size ≤ 1048576) (HM : Mem w0 W (partRcd 91 85 9 3 93 x i ++ L)) : Calls Try.prog 53 #[.agg (encRcd x i).toArray, .string t] W fun e W' => ∃ j, e = .returned (.agg (encRcd (wish1 x t) j).toArray) ∧ Mem w0 W' (partRcd 91 85 9 3 93 (wish1 x t) j ++ L) := by
  refine enter Try.func53 rfl Try.ntmps53 [(0, .agg (encRcd x i).toArray), (1, _)] rfl ⟨rfl, rfl, trivial⟩ ?_
  obtain ⟨⟨hk0, hk1⟩, hd⟩ := disk_of_valid2 hv
  have hw := hn.wishes
  have hcd := (caps_parts HM).1
  have hke := known_eq hv t
  unfold encRcd
  simp only [partRcd, List.cons_append, List.nil_append] at HM
  by_cases c1 : (t.size : Int) < 1
  · have e : wish1 x t = x := if_neg (by simp [wishOk]; omega)
    repeat (first | (refine gGP ?_; first | refine gp (p_move rfl) ?_ | (refine gGB ?_; refine gp (p_lss rfl rfl) ?_) | refine gp (p_slen rfl) ?_ | refine gp (p_pick1 rfl (by first | rfl | (simp; omega)) rfl) ?_) | (refine gGV ?_; refine gv (p_loads rfl) ?_) | (refine gL ?_; first | refine s_gp rfl rfl ?_ | refine s_gv HM rfl ?_ | (refine gStore ?_; (refine s_store HM rfl rfl rfl rfl ?_; intro W1 HM1; clear HM; have HM := HM1; clear HM1)) | (refine s_box HM rfl rfl ?_; intro g W1 HM1; clear HM; have HM := HM1; clear HM1) | (refine s_alloc HM rfl ?_; intro g W1 HM1; clear HM; have HM := HM1; clear HM1) | refine l_nil ?_ | refine s_guard_off rfl rfl rfl rfl (by first | rfl | (simp; omega)) rfl rfl ?_) | (refine gC ?_; first | refine c_seq ?_ | refine c_region ?_ | refine c_ret ?_ | refine c_yes rfl (by rfl) ?_) | (refine gN ?_; first | refine n_then ?_ | refine r_then ?_))
    rw [e]
    exact ret_cell HM rfl rfl rfl ⟨i, rfl, by simp only [partRcd, List.cons_append, List.nil_append]; exact HM.sb⟩
  by_cases c2 : (100 : Int) < t.size
  · have e : wish1 x t = x := if_neg (by simp [wishOk]; omega)
    repeat (first | (refine gGP ?_; first | refine gp (p_move rfl) ?_ | (refine gGB ?_; first | refine gp (p_lss rfl rfl) ?_ | refine gp (p_gtr rfl rfl) ?_) | refine gp (p_slen rfl) ?_ | refine gp (p_pick1 rfl (by first | rfl | (simp; omega)) rfl) ?_ | refine gp (p_pick0 rfl (by (simp; omega)) rfl) ?_) | (refine gGV ?_; refine gv (p_loads rfl) ?_) | (refine gL ?_; first | refine s_gp rfl rfl ?_ | refine s_gv HM rfl ?_ | (refine gStore ?_; (refine s_store HM rfl rfl rfl rfl ?_; intro W1 HM1; clear HM; have HM := HM1; clear HM1)) | (refine s_box HM rfl rfl ?_; intro g W1 HM1; clear HM; have HM := HM1; clear HM1) | (refine s_alloc HM rfl ?_; intro g W1 HM1; clear HM; have HM := HM1; clear HM1) | refine l_nil ?_ | refine s_guard_on rfl rfl rfl rfl (by (simp; omega)) ?_ | refine s_guard_off rfl rfl rfl rfl (by first | rfl | (simp; omega)) rfl rfl ?_) | (refine gC ?_; first | refine c_seq ?_ | refine c_region ?_ | refine c_ret ?_ | refine c_yes rfl (by rfl) ?_) | (refine gN ?_; first | refine n_then ?_ | refine r_then ?_))
    rw [e]
    exact ret_cell HM rfl rfl rfl ⟨i, rfl, by simp only [partRcd, List.cons_append, List.nil_append]; exact HM.sb⟩
  by_cases c3 : (20 : Int) ≤ x.wishes.length
  · have e : wish1 x t = x := if_neg (by simp [wishOk]; omega)
    repeat (first | (refine gGP ?_; first | refine gp (p_move rfl) ?_ | (refine gGB ?_; first | refine gp (p_lss rfl rfl) ?_ | refine gp (p_gtr rfl rfl) ?_ | refine gp (p_geq rfl rfl) ?_) | refine gp (p_field rfl (by simp only [Nat.reduceAdd]; rfl)) ?_ | refine gp (p_len rfl) ?_ | refine gp (p_slen rfl) ?_ | refine gp (p_pick1 rfl (by (simp; omega)) rfl) ?_ | refine gp (p_pick0 rfl (by (simp; omega)) rfl) ?_) | (refine gGV ?_; first | refine gv (p_load rfl) ?_ | refine gv (p_loads rfl) ?_) | (refine gL ?_; first | refine s_gp rfl rfl ?_ | refine s_gv HM rfl ?_ | (refine gStore ?_; (refine s_store HM rfl rfl rfl rfl ?_; intro W1 HM1; clear HM; have HM := HM1; clear HM1)) | (refine s_box HM rfl rfl ?_; intro g W1 HM1; clear HM; have HM := HM1; clear HM1) | (refine s_alloc HM rfl ?_; intro g W1 HM1; clear HM; have HM := HM1; clear HM1) | refine l_nil ?_ | refine s_guard_on rfl rfl rfl rfl (by (simp; omega)) ?_ | refine s_guard_off rfl rfl rfl rfl (by (simp; omega)) rfl rfl ?_) | (refine gC ?_; first | refine c_seq ?_ | refine c_region ?_ | refine c_ret ?_ | refine c_yes rfl (by rfl) ?_) | (refine gN ?_; first | refine n_then ?_ | refine r_then ?_))
    rw [e]
    exact ret_cell HM rfl rfl rfl ⟨i, rfl, by simp only [partRcd, List.cons_append, List.nil_append]; exact HM.sb⟩
  by_cases c4 : hasB (x.ds.take x.dk.toNat) t = true
  · have e : wish1 x t = x := if_neg (by simp [wishOk, ← hke, c4])
    repeat (first | (refine gGP ?_; first | refine gp (p_move rfl) ?_ | (refine gGB ?_; first | refine gp (p_lss rfl rfl) ?_ | refine gp (p_gtr rfl rfl) ?_ | refine gp (p_geq rfl rfl) ?_) | refine gp (p_field rfl (by simp only [Nat.reduceAdd]; rfl)) ?_ | refine gp (p_sliceto rfl rfl (by omega) (by omega)) ?_ | refine gp (p_len rfl) ?_ | refine gp (p_slen rfl) ?_ | refine gp (p_pick0 rfl (by (simp; omega)) rfl) ?_) | (refine gGV ?_; first | refine gv (p_load rfl) ?_ | refine gv (p_loads rfl) ?_) | (refine gL ?_; first | refine s_gp rfl rfl ?_ | refine s_gv HM rfl ?_ | (refine gStore ?_; (refine s_store HM rfl rfl rfl rfl ?_; intro W1 HM1; clear HM; have HM := HM1; clear HM1)) | (refine gCall ?_; (refine s_fn rfl rfl ?_; (go_at_call 84; obtain ⟨F1, hF1⟩ := HM.own (A := i.a1.1); refine (has3_c (by simp; omega) t (ro_take (ro_slots hF1) x.dk.toNat) (Mem.start _)).mono ?_; clear hF1; rintro e W1 ⟨rfl, HM1⟩; refine ⟨_, rfl, ?_⟩; have HM2 := HM.step HM1.below; clear HM HM1; have HM := HM2; clear HM2))) | (refine s_box HM rfl rfl ?_; intro g W1 HM1; clear HM; have HM := HM1; clear HM1) | (refine s_alloc HM rfl ?_; intro g W1 HM1; clear HM; have HM := HM1; clear HM1) | refine l_nil ?_ | refine s_guard_on rfl rfl rfl rfl (by (simp; omega)) ?_) | (refine gC ?_; first | refine c_seq ?_ | refine c_region ?_ | refine c_ret ?_ | refine c_yes rfl (by assumption) ?_) | (refine gN ?_; first | refine n_then ?_ | refine r_then ?_))
    rw [e]
    exact ret_cell HM rfl rfl rfl ⟨i, rfl, by simp only [partRcd, List.cons_append, List.nil_append]; exact HM.sb⟩
  simp only [Bool.not_eq_true] at c4
  repeat (first | (refine gGP ?_; first | refine gp (p_move rfl) ?_ | refine gp (p_assign rfl) ?_ | (refine gGB ?_; first | refine gp (p_lss rfl rfl) ?_ | refine gp (p_gtr rfl rfl) ?_ | refine gp (p_geq rfl rfl) ?_) | refine gp (p_field rfl (by simp only [Nat.reduceAdd]; rfl)) ?_ | refine gp (p_sliceto rfl rfl (by omega) (by omega)) ?_ | refine gp (p_len rfl) ?_ | refine gp (p_slen rfl) ?_ | refine gp (p_pick0 rfl (by (simp; omega)) rfl) ?_) | (refine gGV ?_; refine gv (p_load rfl) ?_) | (refine gL ?_; first | refine s_gp rfl rfl ?_ | refine s_gv HM rfl ?_ | (refine gCall ?_; (refine s_fn rfl rfl ?_; (go_at_call 84; obtain ⟨F1, hF1⟩ := HM.own (A := i.a1.1); refine (has3_c (by simp; omega) t (ro_take (ro_slots hF1) x.dk.toNat) (Mem.start _)).mono ?_; clear hF1; rintro e W1 ⟨rfl, HM1⟩; refine ⟨_, rfl, ?_⟩; have HM2 := HM.step HM1.below; clear HM HM1; have HM := HM2; clear HM2))) | (refine s_box HM rfl rfl ?_; intro g W1 HM1; clear HM; have HM := HM1; clear HM1) | (refine s_alloc HM rfl ?_; intro g W1 HM1; clear HM; have HM := HM1; clear HM1) | refine l_nil ?_ | refine s_guard_on rfl rfl rfl rfl (by (simp; omega)) ?_) | (refine gC ?_; first | refine c_seq ?_ | refine c_region ?_ | refine c_block ?_ | refine c_skip ?_ | refine c_no rfl (by first | rfl | assumption) ?_) | (refine gN ?_; refine n_then ?_))
  refine c_loop (σ := Nat) (fun k => [(1, .string t), (2, .pointer (some ⟨_, 0, none⟩)), (4, .pointer (some ⟨g, 0, none⟩)), (5, .int .i64 k)]) (fun k W1 => k ≤ x.wishes.length ∧ newB x.wishes k t = true ∧ Mem w0 W1 _) (fun k => x.wishes.length - k) 0 (by repeat (first | exact trivial | refine And.intro (by first | rfl | exact look_int rfl (by omega)) ?_)) ⟨Nat.zero_le _, allN_zero, HM⟩ ?_
  clear HM
  rintro k W1 ⟨hk, hp, HM⟩
  by_cases hlt : k < x.wishes.length
  · by_cases he : rd tStr x.wishes k = t
    · have he2 : rdR (rStr false) x.wishes k = t := by rw [← he, rdR_at hlt, rd_at hlt]
      have hf : newB x.wishes x.wishes.length t = false := allN_fail hlt (by simp [he2])
      have e : wish1 x t = x := if_neg (by simp [wishOk, hf])
      repeat (first | (refine gGP ?_; first | refine gp (p_move rfl) ?_ | (refine gGB ?_; first | refine gp (p_lss rfl rfl) ?_ | refine gp (p_seql rfl rfl) ?_) | refine gp (p_field rfl (by simp only [Nat.reduceAdd]; rfl)) ?_ | refine gp (p_indexo HM rfl (by first | with_reducible rfl | omega) rfl (by omega) (by omega)) ?_ | refine gp (p_len rfl) ?_) | (refine gGV ?_; first | refine gv (p_load rfl) ?_ | refine gv (p_loado rfl rfl (by omega) (by omega) rfl) ?_ | refine gv (p_loads rfl) ?_) | (refine gL ?_; first | refine s_gp rfl rfl ?_ | refine s_gv HM rfl ?_ | (refine gStore ?_; (refine s_store HM rfl rfl rfl rfl ?_; intro W1 HM1; clear HM; have HM := HM1; clear HM1)) | refine l_nil ?_) | (refine gC ?_; first | refine c_seq ?_ | refine c_region ?_ | refine c_block ?_ | refine c_skip ?_ | refine c_ret ?_ | refine c_yes rfl (by (simp; omega)) ?_) | (refine gN ?_; first | refine n_then ?_ | refine r_then ?_ | refine r_block ?_))
      rw [e]
      exact ret_cell HM rfl rfl rfl ⟨i, rfl, by simp only [partRcd, List.cons_append, List.nil_append]; exact HM.sb⟩
    · have he2 : rdR (rStr false) x.wishes k ≠ t := by rw [rdR_at hlt, ← rd_at (d := tStr) hlt]; exact he
      repeat (first | (refine gGP ?_; first | refine gp (p_move rfl) ?_ | refine gp (p_assign rfl) ?_ | (refine gGB ?_; first | refine gp (p_lss rfl rfl) ?_ | refine gp (p_seql rfl rfl) ?_ | refine gp (p_add rfl rfl (by exact wr (by omega) (by omega))) ?_) | refine gp (p_field rfl (by simp only [Nat.reduceAdd]; rfl)) ?_ | refine gp (p_indexo HM rfl (by first | with_reducible rfl | omega) rfl (by omega) (by omega)) ?_ | refine gp (p_len rfl) ?_) | (refine gGV ?_; first | refine gv (p_load rfl) ?_ | refine gv (p_loado rfl rfl (by omega) (by omega) rfl) ?_) | (refine gL ?_; first | refine s_gp rfl rfl ?_ | refine s_gv HM rfl ?_ | refine l_nil ?_) | (refine gC ?_; first | refine c_seq ?_ | refine c_region ?_ | refine c_block ?_ | refine c_skip ?_ | refine c_yes rfl (by (simp; omega)) ?_ | refine c_no rfl (by (simp; omega)) ?_) | (refine gN ?_; first | refine n_then ?_ | refine n_block ?_))
      exact n_round (k + 1) (by repeat (first | exact trivial | refine And.intro (by first | rfl | exact look_int rfl (by omega)) ?_)) ⟨by omega, allN_succ hp (by simp [he2]), HM⟩ (by omega)
  · obtain rfl : k = x.wishes.length := by omega
    have e : wish1 x t = { x with wishes := x.wishes ++ [t] } := if_pos (by simp only [wishOk, hp, ← hke, c4]; simp; omega)
    repeat (first | (refine gGP ?_; first | refine gp (p_move rfl) ?_ | (refine gGB ?_; refine gp (p_lss rfl rfl) ?_) | refine gp (p_field rfl (by simp only [Nat.reduceAdd]; rfl)) ?_ | refine gp (p_len rfl) ?_) | (refine gGV ?_; first | refine gv (p_load rfl) ?_ | refine gv (p_loads rfl) ?_) | (refine gL ?_; first | refine s_gp rfl rfl ?_ | refine s_gv HM rfl ?_ | (refine gStore ?_; (refine s_store HM rfl rfl rfl rfl ?_; intro W1 HM1; clear HM; have HM := HM1; clear HM1)) | (refine gCall ?_; (refine s_append1 HM rfl rfl (by first | with_reducible rfl | omega) rfl rfl (by omega) rfl ?_; intro A1 c1 W1 HM1; clear HM; have HM := HM1; clear HM1)) | (refine s_lit1 HM rfl rfl rfl ?_; intro g W1 HM1; clear HM; have HM := HM1; clear HM1) | refine l_nil ?_) | (refine gC ?_; first | refine c_seq ?_ | refine c_region ?_ | refine c_exit ?_ | refine c_ret ?_ | refine c_no rfl (by first | (simp; done) | fail) ?_) | (refine gN ?_; first | refine n_then ?_ | refine x_then ?_ | refine x_here ?_))
    rw [e]
    exact ret_cell HM rfl rfl rfl ⟨⟨i.a0, i.a1, i.a2, (A1, c1), i.a4, i.a5, i.a6⟩, rfl, by simp only [partRcd, List.cons_append, List.nil_append]; exact HM.sb⟩
end Go.Proofs.Ytokhocmopmoblaa.Sp
