/- What most disks have, told in plain words; l7Major. No condition. -/
import Derived.Test.Ytjeijflpejhkhaawd
import Derived.Test.Ytjeijflpejhkhaaslotkey
import Derived.Test.Ytjeijflpejhkhaapv
namespace Go.Proofs.Ytjeijflpejhkhaa.Sp
open Go Go.RowKit
set_option linter.unusedVariables false
set_option linter.unusedSimpArgs false
set_option maxRecDepth 10000
set_option maxHeartbeats 1000000
variable {w0 W : World} {L : List Asn}
def slA (x : Wld) (ix : Int) (j : Nat) : Option Slot := if 1 ≤ ix ∧ ix ≤ (rdR (rRcw false) x.recs j).ss.length then some (rdR (rSlot false) (rdR (rRcw false) x.recs j).ss (ix - 1)) else none
theorem slA_in {x : Wld} {ix : Int} {j : Nat} (hj : j < x.recs.length) (h1 : 1 ≤ ix) (h2 : ix ≤ x.recs[j].ss.length) : slA x ix j = some (rdR (rSlot false) x.recs[j].ss (ix - 1)) := by rw [slA, rdR_at hj, if_pos ⟨h1, h2⟩]
theorem slA_out {x : Wld} {ix : Int} {j : Nat} (hj : j < x.recs.length) (h : ¬ (1 ≤ ix ∧ ix ≤ x.recs[j].ss.length)) : slA x ix j = none := by rw [slA, rdR_at hj, if_neg h]
def cntA (x : Wld) (ix : Int) (s : Slot) : Nat → Nat
  | 0 => 0
  | k + 1 => cntA x ix s k + if slA x ix k = some s then 1 else 0
theorem cntA_le (x : Wld) (ix : Int) (s : Slot) : ∀ k, cntA x ix s k ≤ k
  | 0 => Nat.le_refl _
  | k + 1 => by have := cntA_le x ix s k; rw [cntA]; split <;> omega
theorem cntA_mono (x : Wld) (ix : Int) (s : Slot) (k : Nat) : ∀ m, cntA x ix s k ≤ cntA x ix s (k + m)
  | 0 => Nat.le_refl _
  | m + 1 => by have := cntA_mono x ix s k m; rw [show k + (m + 1) = (k + m) + 1 from rfl, cntA]; omega
theorem cntA_two {x : Wld} {ix : Int} {s u : Slot} (h : s ≠ u) : ∀ k, cntA x ix s k + cntA x ix u k ≤ k
  | 0 => Nat.le_refl _
  | k + 1 => by
    have := cntA_two (x := x) (ix := ix) h k
    rw [cntA, cntA]
    by_cases h1 : slA x ix k = some s
    · have h2 : ¬ slA x ix k = some u := fun e => h (Option.some.inj (h1.symm.trans e))
      rw [if_pos h1, if_neg h2]; omega
    · rw [if_neg h1]; split <;> omega
theorem cntA_pos {x : Wld} {ix : Int} {s : Slot} : ∀ {k}, 0 < cntA x ix s k → ∃ j, j < k ∧ slA x ix j = some s
  | k + 1, h => by
    rw [cntA] at h
    by_cases h1 : slA x ix k = some s
    · exact ⟨k, by omega, h1⟩
    · rw [if_neg h1] at h
      obtain ⟨j, hj, e⟩ := cntA_pos (k := k) (by omega)
      exact ⟨j, by omega, e⟩
def MajS (x : Wld) (ix : Int) (s : Slot) : Prop := 0 < s.ballot ∧ x.recs.length < 2 * cntA x ix s x.recs.length
structure IsMaj (x : Wld) (ix : Int) (t : ByteArray) (b : Bool) : Prop where
  yes : b = true → ∃ s, MajS x ix s ∧ t = s.text
  no : b = false → t = ⟨#[]⟩ ∧ ∀ s, ¬ MajS x ix s
theorem MajS_one {x : Wld} {ix : Int} {s u : Slot} (hs : MajS x ix s) (hu : MajS x ix u) : s = u := by
  by_cases h : s = u
  · exact h
  · have := cntA_two (x := x) (ix := ix) h x.recs.length
    have := hs.2
    have := hu.2
    omega
theorem IsMaj.one {x : Wld} {ix : Int} {t t' : ByteArray} {b b' : Bool} (h : IsMaj x ix t b) (h' : IsMaj x ix t' b') : t = t' ∧ b = b' := by
  cases b <;> cases b'
  · exact ⟨(h.no rfl).1.trans (h'.no rfl).1.symm, rfl⟩
  · obtain ⟨s, hs, _⟩ := h'.yes rfl; exact absurd hs ((h.no rfl).2 s)
  · obtain ⟨s, hs, _⟩ := h.yes rfl; exact absurd hs ((h'.no rfl).2 s)
  · obtain ⟨s, hs, e⟩ := h.yes rfl
    obtain ⟨u, hu, e'⟩ := h'.yes rfl
    rw [e, e', MajS_one hs hu]; exact ⟨rfl, rfl⟩
/-- The disks are such that their slots are keys. -/
def SafeP (x : Wld) : Prop := ∀ r ∈ x.recs, ∀ s ∈ r.ss, SlotP s
theorem safe_at {x : Wld} (h : SafeP x) {j : Nat} (hj : j < x.recs.length) {ix : Int} (h1 : 1 ≤ ix) (h2 : ix ≤ x.recs[j].ss.length) : SlotP (rdR (rSlot false) x.recs[j].ss (ix - 1)) := by
  rw [rdR_int (by omega) (by omega)]
  exact h _ (List.getElem_mem hj) _ (List.getElem_mem _)
theorem slotK_of {s : Slot} (h : SlotP s) : SlotK s := ⟨by have := h.lo; omega, by have := h.hi; omega, by have := h.txt; unfold maxLen; omega⟩
theorem specMaj (x : Wld) (i : AtW) (ix : Int) (h : RoW false w0 x i) (hn : x.recs.length ≤ 1048576) (hs : SafeP x) (HM : Mem w0 W L) : Calls Try.prog 16 #[.agg (encW x i).toArray, .int .i64 ix] W fun e W' => ∃ t b, e = .returned (.tuple #[.string t, .bool b]) ∧ IsMaj x ix t b ∧ Mem w0 W' L := by
  refine enter Try.func16 rfl Try.ntmps16 [(0, .agg (encW x i).toArray), (1, _)] rfl ⟨rfl, rfl, trivial⟩ ?_
  have hr := h.recs
  unfold encW
  replace HM := HM.rod hr
  repeat (first | (refine gGP ?_; refine gp (p_assign rfl) ?_) | (refine gL ?_; first | refine s_gp rfl rfl ?_ | (refine s_box HM rfl rfl ?_; intro g W1 HM1; clear HM; have HM := HM1; clear HM1) | refine l_nil ?_) | (refine gC ?_; first | refine c_seq ?_ | refine c_region ?_ | refine c_block ?_) | (refine gN ?_; refine n_then ?_))
  refine c_loop (σ := Nat) (fun k => [(1, .int .i64 ix), (2, .pointer (some ⟨g, 0, none⟩)), (6, .int .i64 k)]) (fun k W1 => k ≤ x.recs.length ∧ (∀ j s, j < k → slA x ix j = some s → s.ballot ≠ 0 → ¬ x.recs.length < 2 * cntA x ix s x.recs.length) ∧ Mem w0 W1 _) (fun k => x.recs.length - k) 0 (by repeat (first | exact trivial | refine And.intro (by first | rfl | exact look_int rfl (by omega)) ?_)) ⟨Nat.zero_le _, fun j s hj => by omega, HM⟩ ?_
  clear HM
  rintro k W1 ⟨hk, hp, HM⟩
  by_cases hlt : k < x.recs.length
  rotate_left
  · repeat (first | (refine gGP ?_; first | refine gp (p_move rfl) ?_ | refine gp (p_assign rfl) ?_ | (refine gGB ?_; refine gp (p_lss rfl rfl) ?_) | refine gp (p_field rfl (by simp only [Nat.reduceAdd]; rfl)) ?_ | refine gp (p_len rfl) ?_) | (refine gGV ?_; refine gv (p_load rfl) ?_) | (refine gL ?_; first | refine s_gp rfl rfl ?_ | refine s_gv HM rfl ?_ | refine l_nil ?_) | (refine gC ?_; first | refine c_seq ?_ | refine c_region ?_ | refine c_exit ?_ | refine c_ret ?_ | refine c_no rfl (by (simp; omega)) ?_) | (refine gN ?_; first | refine n_then ?_ | refine x_then ?_ | refine x_here ?_))
    obtain rfl : k = x.recs.length := by omega
    refine ret_two rfl rfl rfl ⟨_, _, rfl, ⟨(fun h => by cases h), fun _ => ⟨rfl, fun s hm => ?_⟩⟩, HM.sb⟩
    obtain ⟨j, hj, e⟩ := cntA_pos (x := x) (ix := ix) (s := s) (k := x.recs.length) (by have := hm.2; omega)
    exact hp j s hj e (by have := hm.1; omega) hm.2
  obtain ⟨cc, ⟨j, rfl, hh⟩, HM⟩ := HM.roOpen (A := i.b0.1) k hlt
  have hss := hh.ro.ss
  unfold encRcd at HM
  by_cases c1 : ix < 1
  · have hso := slA_out (ix := ix) hlt (by omega)
    repeat (first | (refine gGP ?_; first | refine gp (p_move rfl) ?_ | refine gp (p_assign rfl) ?_ | (refine gGB ?_; first | refine gp (p_lss rfl rfl) ?_ | refine gp (p_add rfl rfl (by exact wr (by omega) (by omega))) ?_) | refine gp (p_field rfl (by simp only [Nat.reduceAdd]; rfl)) ?_ | refine gp (p_fieldo rfl (by simp only [Nat.reduceAdd]; rfl)) ?_ | refine gp (p_indexr HM rfl (by first | with_reducible rfl | omega) rfl (by omega) (by omega)) ?_ | refine gp (p_len rfl) ?_ | refine gp (p_pick1 rfl (by first | rfl | (simp; omega)) rfl) ?_) | (refine gGV ?_; first | refine gv (p_load rfl) ?_ | refine gv (p_loadsrc rfl rfl) ?_) | (refine gL ?_; first | refine s_gp rfl rfl ?_ | refine s_gv HM rfl ?_ | (refine gStore ?_; (refine s_store HM rfl rfl rfl rfl ?_; intro W1 HM1; clear HM; have HM := HM1; clear HM1)) | (refine s_alloc HM rfl ?_; intro g W1 HM1; clear HM; have HM := HM1; clear HM1) | refine l_nil ?_ | refine s_guard_off rfl rfl rfl rfl (by first | rfl | (simp; omega)) rfl rfl ?_) | (refine gC ?_; first | refine c_seq ?_ | refine c_region ?_ | refine c_block ?_ | refine c_skip ?_ | refine c_exit ?_ | refine c_yes rfl (by first | rfl | (simp; omega)) ?_) | (refine gN ?_; first | refine n_then ?_ | refine x_then ?_ | refine x_here ?_))
    exact n_round (k + 1) (by repeat (first | exact trivial | refine And.intro (by first | rfl | exact look_int rfl (by omega)) ?_)) ⟨by omega, fun q s hq e => by
      by_cases hqk : q = k
      · subst hqk; rw [hso] at e; cases e
      · exact hp q s (by omega) e, HM.sb⟩ (by omega)
  by_cases c2 : (x.recs[k].ss.length : Int) < ix
  · have hso := slA_out (ix := ix) hlt (by omega)
    repeat (first | (refine gGP ?_; first | refine gp (p_move rfl) ?_ | refine gp (p_assign rfl) ?_ | (refine gGB ?_; first | refine gp (p_lss rfl rfl) ?_ | refine gp (p_gtr rfl rfl) ?_ | refine gp (p_add rfl rfl (by exact wr (by omega) (by omega))) ?_) | refine gp (p_field rfl (by simp only [Nat.reduceAdd]; rfl)) ?_ | refine gp (p_fieldo rfl (by simp only [Nat.reduceAdd]; rfl)) ?_ | refine gp (p_indexr HM rfl (by first | with_reducible rfl | omega) rfl (by omega) (by omega)) ?_ | refine gp (p_len rfl) ?_ | refine gp (p_pick1 rfl (by (simp; omega)) rfl) ?_ | refine gp (p_pick0 rfl (by (simp; omega)) rfl) ?_) | (refine gGV ?_; first | refine gv (p_load rfl) ?_ | refine gv (p_loadsrc rfl rfl) ?_) | (refine gL ?_; first | refine s_gp rfl rfl ?_ | refine s_gv HM rfl ?_ | (refine gStore ?_; (refine s_store HM rfl rfl rfl rfl ?_; intro W1 HM1; clear HM; have HM := HM1; clear HM1)) | (refine s_alloc HM rfl ?_; intro g W1 HM1; clear HM; have HM := HM1; clear HM1) | refine l_nil ?_ | refine s_guard_on rfl rfl rfl rfl (by (simp; omega)) ?_ | refine s_guard_off rfl rfl rfl rfl (by (simp; omega)) rfl rfl ?_) | (refine gC ?_; first | refine c_seq ?_ | refine c_region ?_ | refine c_block ?_ | refine c_skip ?_ | refine c_exit ?_ | refine c_yes rfl (by first | rfl | (simp; omega)) ?_) | (refine gN ?_; first | refine n_then ?_ | refine x_then ?_ | refine x_here ?_))
    exact n_round (k + 1) (by repeat (first | exact trivial | refine And.intro (by first | rfl | exact look_int rfl (by omega)) ?_)) ⟨by omega, fun q s hq e => by
      by_cases hqk : q = k
      · subst hqk; rw [hso] at e; cases e
      · exact hp q s (by omega) e, HM.sb⟩ (by omega)
  have hsi := slA_in (ix := ix) hlt (by omega) (by omega)
  have hsp := safe_at hs hlt (ix := ix) (by omega) (by omega)
  have hss0 := hss.max
  replace HM := HM.rod hss
  by_cases c3 : (rdR (rSlot false) x.recs[k].ss (ix - 1)).ballot = 0
  · repeat (first | (refine gGP ?_; first | refine gp (p_move rfl) ?_ | refine gp (p_assign rfl) ?_ | (refine gGB ?_; first | refine gp (p_lss rfl rfl) ?_ | refine gp (p_eql rfl rfl) ?_ | refine gp (p_gtr rfl rfl) ?_ | refine gp (p_add rfl rfl (by first | exact wr (by omega) (by omega) | rfl)) ?_ | refine gp (p_sub rfl rfl (by exact wr (by omega) (by omega))) ?_) | refine gp (p_field rfl (by simp only [Nat.reduceAdd]; rfl)) ?_ | refine gp (p_fieldo rfl (by simp only [Nat.reduceAdd]; rfl)) ?_ | refine gp (p_indexr HM rfl (by first | with_reducible rfl | omega) rfl (by omega) (by omega)) ?_ | refine gp (p_len rfl) ?_ | refine gp (p_pick0 rfl (by (simp; omega)) rfl) ?_) | (refine gGV ?_; first | refine gv (p_load rfl) ?_ | refine gv (p_loadr rfl rfl (by omega) (by omega) rfl) ?_ | refine gv (p_loadsrc rfl rfl) ?_) | (refine gL ?_; first | refine s_gp rfl rfl ?_ | refine s_gv HM rfl ?_ | (refine gStore ?_; (refine s_store HM rfl rfl rfl rfl ?_; intro W1 HM1; clear HM; have HM := HM1; clear HM1)) | (refine s_alloc HM rfl ?_; intro g W1 HM1; clear HM; have HM := HM1; clear HM1) | refine l_nil ?_ | refine s_guard_on rfl rfl rfl rfl (by (simp; omega)) ?_) | (refine gC ?_; first | refine c_seq ?_ | refine c_region ?_ | refine c_block ?_ | refine c_skip ?_ | refine c_exit ?_ | refine c_yes rfl (by (simp; omega)) ?_) | (refine gN ?_; first | refine n_then ?_ | refine x_then ?_ | refine x_here ?_))
    exact n_round (k + 1) (by repeat (first | exact trivial | refine And.intro (by first | rfl | exact look_int rfl (by omega)) ?_)) ⟨by omega, fun q s hq e => by
      by_cases hqk : q = k
      · subst hqk; rw [hsi] at e; cases e; exact fun h => absurd c3 h
      · exact hp q s (by omega) e, HM.sb⟩ (by omega)
  repeat (first | (refine gGP ?_; first | refine gp (p_move rfl) ?_ | refine gp (p_assign rfl) ?_ | (refine gGB ?_; first | refine gp (p_lss rfl rfl) ?_ | refine gp (p_eql rfl rfl) ?_ | refine gp (p_gtr rfl rfl) ?_ | refine gp (p_sub rfl rfl (by exact wr (by omega) (by omega))) ?_) | refine gp (p_field rfl (by simp only [Nat.reduceAdd]; rfl)) ?_ | refine gp (p_fieldo rfl (by simp only [Nat.reduceAdd]; rfl)) ?_ | refine gp (p_indexr HM rfl (by first | with_reducible rfl | omega) rfl (by omega) (by omega)) ?_ | refine gp (p_len rfl) ?_ | refine gp (p_pick0 rfl (by (simp; omega)) rfl) ?_) | (refine gGV ?_; first | refine gv (p_load rfl) ?_ | refine gv (p_loadr rfl rfl (by omega) (by omega) rfl) ?_ | refine gv (p_loadsrc rfl rfl) ?_) | (refine gL ?_; first | refine s_gp rfl rfl ?_ | refine s_gv HM rfl ?_ | (refine gStore ?_; (refine s_store HM rfl rfl rfl rfl ?_; intro W1 HM1; clear HM; have HM := HM1; clear HM1)) | (refine s_alloc HM rfl ?_; intro g W1 HM1; clear HM; have HM := HM1; clear HM1) | refine l_nil ?_ | refine s_guard_on rfl rfl rfl rfl (by (simp; omega)) ?_) | (refine gC ?_; first | refine c_seq ?_ | refine c_region ?_ | refine c_block ?_ | refine c_skip ?_ | refine c_yes rfl (by first | rfl | (simp; omega)) ?_ | refine c_no rfl (by first | rfl | (simp; omega)) ?_) | (refine gN ?_; refine n_then ?_))
  have hcz : cntA x ix (rdR (rSlot false) x.recs[k].ss (ix - 1)) 0 = 0 := rfl
  refine c_loop (σ := Nat) (fun m => [(1, .int .i64 ix), (2, .pointer (some ⟨_, 0, none⟩)), (6, .int .i64 k), (7, .pointer (some ⟨g, 0, none⟩)), (8, .int .i64 (cntA x ix (rdR (rSlot false) x.recs[k].ss (ix - 1)) m)), (9, .int .i64 m)]) (fun m W1 => m ≤ x.recs.length ∧ Mem w0 W1 _) (fun m => x.recs.length - m) 0 (by repeat (first | exact trivial | refine And.intro (by first | rfl | exact look_int rfl (by omega)) ?_)) ⟨Nat.zero_le _, HM⟩ ?_
  clear HM
  rintro m W1 ⟨hm, HM⟩
  have hcl := cntA_le x ix (rdR (rSlot false) x.recs[k].ss (ix - 1)) m
  by_cases hml : m < x.recs.length
  · have hcs : cntA x ix (rdR (rSlot false) x.recs[k].ss (ix - 1)) (m + 1) = cntA x ix (rdR (rSlot false) x.recs[k].ss (ix - 1)) m + if slA x ix m = some (rdR (rSlot false) x.recs[k].ss (ix - 1)) then 1 else 0 := rfl
    obtain ⟨cc, ⟨j2, rfl, hh2⟩, HM⟩ := HM.roOpen (A := i.b0.1) m hml
    have hss2 := hh2.ro.ss
    have hss20 := hss2.max
    unfold encRcd at HM
    replace HM := HM.rod hss2
    by_cases d1 : ix ≤ x.recs[m].ss.length
    rotate_left
    · have hso := slA_out (ix := ix) hml (by omega)
      rw [hso] at hcs
      simp only [reduceCtorEq, if_false] at hcs
      repeat (first | (refine gR ?_; refine d_start [] [(0, 0), (0, 1), (1, 2), (0, 3), (0, 4), (0, 5), (0, 6), (0, 8), (0, 9), (0, 12), (0, 14), (0, 15), (1, 7), (0, 10), (1, 11), (1, 13), (0, 16), (1, 17), (0, 18), (0, 19)] HM (by kernel_rfl) (by kernel_rfl) (by repeat (first | exact qp_body | refine qp_then ?_ | refine qp_block ?_)) (by kernel_rfl) rfl ?_; intro HQ HS W1 HM1; clear HM; have HM := HM1; clear HM1) | (refine gGP ?_; first | refine gp (p_move rfl) ?_ | refine gp (p_assign rfl) ?_ | (refine gGB ?_; first | refine gp (p_lss rfl rfl) ?_ | refine gp (p_leq rfl rfl) ?_ | refine gp (p_add rfl rfl (by exact wr (by omega) (by omega))) ?_) | refine gp (p_field rfl (by simp only [Nat.reduceAdd]; rfl)) ?_ | refine gp (p_fieldo rfl (by simp only [Nat.reduceAdd]; rfl)) ?_ | refine gp (p_indexr HM rfl (by first | with_reducible rfl | omega) rfl (by omega) (by omega)) ?_ | refine gp (p_len rfl) ?_ | refine gp (p_pick0 rfl (by (simp; omega)) rfl) ?_) | (refine gGV ?_; first | refine gv (p_load rfl) ?_ | refine gv (p_loadsrc rfl rfl) ?_) | (refine gL ?_; first | refine s_gp rfl rfl ?_ | refine s_gv HM rfl ?_ | (refine gStore ?_; (refine s_store HM rfl rfl rfl rfl ?_; intro W1 HM1; clear HM; have HM := HM1; clear HM1)) | (refine s_alloc HM rfl ?_; intro g W1 HM1; clear HM; have HM := HM1; clear HM1) | refine l_nil ?_) | (refine gC ?_; first | refine c_seq ?_ | refine c_region ?_ | refine c_block ?_ | refine c_skip ?_ | refine c_yes rfl (by (simp; omega)) ?_ | refine c_no rfl (by rfl) ?_) | (refine gN ?_; first | refine n_then ?_ | refine n_block ?_) | (refine gD ?_; first | refine d_next rfl ?_ | refine d_done ?_) | (refine gO ?_; first | refine d_gp HQ HS rfl ?_ | refine d_gv HQ HS rfl ?_ | refine d_off (.inl rfl) HQ HS rfl rfl rfl rfl (by (simp; omega)) rfl rfl ?_ | refine d_off (.inr rfl) HQ HS rfl rfl rfl rfl (by (simp; omega)) rfl rfl ?_))
      exact n_round (m + 1) (by repeat (first | exact trivial | refine And.intro (by first | rfl | exact look_int rfl (by omega)) ?_)) ⟨by omega, HM.sb⟩ (by omega)
    have hsp2 := safe_at hs hml (ix := ix) (by omega) d1
    rw [slA_in hml (by omega) d1] at hcs
    have hk1 := slotK_of hsp
    have hk2 := slotK_of hsp2
    by_cases d2 : rdR (rSlot false) x.recs[m].ss (ix - 1) = rdR (rSlot false) x.recs[k].ss (ix - 1)
    · rw [d2, if_pos rfl] at hcs
      repeat (first | (refine gGP ?_; refine gGB ?_; refine gp (p_slotEq hk2 hk1 rfl rfl) ?_) | (refine gR ?_; refine d_start [] [(0, 0), (0, 1), (1, 2), (0, 3), (0, 4), (0, 5), (0, 6), (0, 8), (0, 9), (0, 12), (0, 14), (0, 15), (1, 7), (0, 10), (1, 11), (1, 13), (0, 16), (1, 17), (0, 18), (0, 19)] HM (by kernel_rfl) (by kernel_rfl) (by repeat (first | exact qp_body | refine qp_then ?_ | refine qp_block ?_)) (by kernel_rfl) rfl ?_; intro HQ HS W1 HM1; clear HM; have HM := HM1; clear HM1) | (refine gGP ?_; first | refine gp (p_move rfl) ?_ | refine gp (p_assign rfl) ?_ | (refine gGB ?_; first | refine gp (p_lss rfl rfl) ?_ | refine gp (p_leq rfl rfl) ?_ | refine gp (p_add rfl rfl (by first | exact wr (by omega) (by omega) | rfl)) ?_ | refine gp (p_sub rfl rfl (by exact wr (by omega) (by omega))) ?_) | refine gp (p_field rfl (by simp only [Nat.reduceAdd]; rfl)) ?_ | refine gp (p_fieldo rfl (by simp only [Nat.reduceAdd]; rfl)) ?_ | refine gp (p_indexr HM rfl (by first | with_reducible rfl | omega) rfl (by omega) (by omega)) ?_ | refine gp (p_len rfl) ?_ | refine gp (p_pick1 rfl (by (simp; omega)) rfl) ?_) | (refine gGV ?_; first | refine gv (p_load rfl) ?_ | refine gv (p_loadsrc rfl rfl) ?_ | refine gv (p_loadwf rfl rfl rfl (by omega) (by omega)) ?_) | (refine gL ?_; first | refine s_gp rfl rfl ?_ | refine s_gv HM rfl ?_ | (refine gStore ?_; (refine s_store HM rfl rfl rfl rfl ?_; intro W1 HM1; clear HM; have HM := HM1; clear HM1)) | (refine s_alloc HM rfl ?_; intro g W1 HM1; clear HM; have HM := HM1; clear HM1) | refine l_nil ?_) | (refine gC ?_; first | refine c_seq ?_ | refine c_region ?_ | refine c_block ?_ | refine c_skip ?_ | refine c_yes rfl (by (simp; omega)) ?_) | (refine gN ?_; first | refine n_then ?_ | refine n_block ?_) | (refine gD ?_; first | refine d_next rfl ?_ | refine d_done ?_) | (refine gO ?_; first | refine d_gp HQ HS rfl ?_ | refine d_gv HQ HS rfl ?_ | refine d_gpg HQ HS rfl rfl rfl (by first | rfl | (simp; omega)) rfl ?_ | refine d_gvg HQ HS rfl rfl rfl (by (simp; omega)) rfl ?_))
      exact n_round (m + 1) (by repeat (first | exact trivial | refine And.intro (by first | rfl | exact look_int rfl (by omega)) ?_)) ⟨by omega, HM.sb⟩ (by omega)
    · rw [if_neg (fun e => d2 (Option.some.inj e))] at hcs
      repeat (first | (refine gGP ?_; refine gGB ?_; refine gp (p_slotEq hk2 hk1 rfl rfl) ?_) | (refine gR ?_; refine d_start [] [(0, 0), (0, 1), (1, 2), (0, 3), (0, 4), (0, 5), (0, 6), (0, 8), (0, 9), (0, 12), (0, 14), (0, 15), (1, 7), (0, 10), (1, 11), (1, 13), (0, 16), (1, 17), (0, 18), (0, 19)] HM (by kernel_rfl) (by kernel_rfl) (by repeat (first | exact qp_body | refine qp_then ?_ | refine qp_block ?_)) (by kernel_rfl) rfl ?_; intro HQ HS W1 HM1; clear HM; have HM := HM1; clear HM1) | (refine gGP ?_; first | refine gp (p_move rfl) ?_ | refine gp (p_assign rfl) ?_ | (refine gGB ?_; first | refine gp (p_lss rfl rfl) ?_ | refine gp (p_leq rfl rfl) ?_ | refine gp (p_add rfl rfl (by first | exact wr (by omega) (by omega) | rfl)) ?_ | refine gp (p_sub rfl rfl (by exact wr (by omega) (by omega))) ?_) | refine gp (p_field rfl (by simp only [Nat.reduceAdd]; rfl)) ?_ | refine gp (p_fieldo rfl (by simp only [Nat.reduceAdd]; rfl)) ?_ | refine gp (p_indexr HM rfl (by first | with_reducible rfl | omega) rfl (by omega) (by omega)) ?_ | refine gp (p_len rfl) ?_ | refine gp (p_pick1 rfl (by (simp; omega)) rfl) ?_) | (refine gGV ?_; first | refine gv (p_load rfl) ?_ | refine gv (p_loadsrc rfl rfl) ?_ | refine gv (p_loadwf rfl rfl rfl (by omega) (by omega)) ?_) | (refine gL ?_; first | refine s_gp rfl rfl ?_ | refine s_gv HM rfl ?_ | (refine gStore ?_; (refine s_store HM rfl rfl rfl rfl ?_; intro W1 HM1; clear HM; have HM := HM1; clear HM1)) | (refine s_alloc HM rfl ?_; intro g W1 HM1; clear HM; have HM := HM1; clear HM1) | refine l_nil ?_) | (refine gC ?_; first | refine c_seq ?_ | refine c_region ?_ | refine c_block ?_ | refine c_skip ?_ | refine c_yes rfl (by (simp; omega)) ?_ | refine c_no rfl (by (simp; omega)) ?_) | (refine gN ?_; first | refine n_then ?_ | refine n_block ?_) | (refine gD ?_; first | refine d_next rfl ?_ | refine d_done ?_) | (refine gO ?_; first | refine d_gp HQ HS rfl ?_ | refine d_gv HQ HS rfl ?_ | refine d_gpg HQ HS rfl rfl rfl (by first | rfl | (simp; omega)) rfl ?_ | refine d_gvg HQ HS rfl rfl rfl (by (simp; omega)) rfl ?_))
      exact n_round (m + 1) (by repeat (first | exact trivial | refine And.intro (by first | rfl | exact look_int rfl (by omega)) ?_)) ⟨by omega, HM.sb⟩ (by omega)
  obtain rfl : m = x.recs.length := by omega
  by_cases f1 : (x.recs.length : Int) < 2 * (cntA x ix (rdR (rSlot false) x.recs[k].ss (ix - 1)) x.recs.length : Int)
  · repeat (first | (refine gGP ?_; first | refine gp (p_move rfl) ?_ | refine gp (p_assign rfl) ?_ | (refine gGB ?_; first | refine gp (p_lss rfl rfl) ?_ | refine gp (p_gtr rfl rfl) ?_ | refine gp (p_sub rfl rfl (by first | exact wr (by omega) (by omega) | rfl)) ?_ | refine gp (p_mul rfl rfl (by exact wr (by omega) (by omega))) ?_) | refine gp (p_field rfl (by simp only [Nat.reduceAdd]; rfl)) ?_ | refine gp (p_fieldo rfl (by simp only [Nat.reduceAdd]; rfl)) ?_ | refine gp (p_indexr HM rfl (by first | with_reducible rfl | omega) rfl (by omega) (by omega)) ?_ | refine gp (p_len rfl) ?_) | (refine gGV ?_; first | refine gv (p_load rfl) ?_ | refine gv (p_loadr rfl rfl (by omega) (by omega) rfl) ?_) | (refine gL ?_; first | refine s_gp rfl rfl ?_ | refine s_gv HM rfl ?_ | refine l_nil ?_) | (refine gC ?_; first | refine c_seq ?_ | refine c_region ?_ | refine c_exit ?_ | refine c_ret ?_ | refine c_yes rfl (by (simp; omega)) ?_ | refine c_no rfl (by first | (simp; done) | fail) ?_) | (refine gN ?_; first | refine n_then ?_ | refine x_then ?_ | refine x_here ?_ | refine r_then ?_ | refine r_block ?_))
    refine ret_two rfl rfl rfl ⟨_, _, rfl, ⟨fun _ => ⟨_, ⟨by have := hsp.lo; omega, by omega⟩, rfl⟩, fun h => by cases h⟩, HM.sb⟩
  · repeat (first | (refine gGP ?_; first | refine gp (p_move rfl) ?_ | refine gp (p_assign rfl) ?_ | (refine gGB ?_; first | refine gp (p_lss rfl rfl) ?_ | refine gp (p_gtr rfl rfl) ?_ | refine gp (p_add rfl rfl (by first | exact wr (by omega) (by omega) | rfl)) ?_ | refine gp (p_mul rfl rfl (by exact wr (by omega) (by omega))) ?_) | refine gp (p_field rfl (by simp only [Nat.reduceAdd]; rfl)) ?_ | refine gp (p_len rfl) ?_) | (refine gGV ?_; refine gv (p_load rfl) ?_) | (refine gL ?_; first | refine s_gp rfl rfl ?_ | refine s_gv HM rfl ?_ | refine l_nil ?_) | (refine gC ?_; first | refine c_seq ?_ | refine c_region ?_ | refine c_skip ?_ | refine c_exit ?_ | refine c_no rfl (by first | (simp; done) | (simp; omega)) ?_) | (refine gN ?_; first | refine n_then ?_ | refine n_block ?_ | refine x_then ?_ | refine x_here ?_))
    exact n_round (k + 1) (by repeat (first | exact trivial | refine And.intro (by first | rfl | exact look_int rfl (by omega)) ?_)) ⟨by omega, fun q s hq e => by
      by_cases hqk : q = k
      · subst hqk; rw [hsi] at e; cases e; exact fun _ => by omega
      · exact hp q s (by omega) e, HM.sb⟩ (by omega)
end Go.Proofs.Ytjeijflpejhkhaa.Sp
